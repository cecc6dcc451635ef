/- A reader as a thing of the world; what its methods answer and leave. No condition. -/
import Derived.Test.YtdblgjecbmebjaaShort
namespace Go.Proofs.Ytdblgjecbmebjaa
open Go.RowKit
structure RS where
  l : List UInt8
  st : Bool
def RdAt (w : World) (b : Nat) (A : Option Addr) (n : Nat) (l : List UInt8) : Prop :=
  l.length = n ∧ (0 < n → ∃ off, A = some ⟨b, off, none⟩ ∧ b < w.heap.size ∧ ∀ j (hj : j < l.length), w.cell? ⟨b, off + j, none⟩ = some (bv l[j]))
theorem RdAt.rd {w : World} {b : Nat} {A : Option Addr} {n : Nat} {l : List UInt8} (h : RdAt w b A n l) : RdB w w.heap.size A n l :=
  ⟨h.1, fun hn => by
    obtain ⟨off, h1, h2, h3⟩ := h.2 hn
    exact ⟨b, off, h1, h2, h3⟩⟩
theorem RdAt.off {X : Nat → Prop} {w w' : World} {b : Nat} {A : Option Addr} {n : Nat} {l : List UInt8} (h : RdAt w b A n l) (hb : Off X w w') (hX : ¬ X b) : RdAt w' b A n l :=
  ⟨h.1, fun hn => by
    obtain ⟨off, h1, h2, h3⟩ := h.2 hn
    exact ⟨off, h1, Nat.lt_of_lt_of_le h2 hb.size, fun j hj => (hb.cell (p := ⟨b, off + j, none⟩) h2 hX).trans (h3 j hj)⟩⟩
theorem RdAt.sliced {w : World} {b : Nat} {A : Option Addr} {n : Nat} {l : List UInt8} (h : RdAt w b A n l) {i k c : Nat} (hi : i ≤ k) (hk : k ≤ n) (hc : n ≤ c) :
    ∃ A', sliced A i k c 1 = .slice A' (k - i) (c - i) ∧ RdAt w b A' (k - i) ((l.take k).drop i) := by
  refine ⟨_, rfl, by rw [List.length_drop, List.length_take, h.1]; omega, fun hp => ?_⟩
  obtain ⟨off, rfl, hb, hj⟩ := h.2 (by omega)
  refine ⟨off + i, ?_, hb, fun j hj' => ?_⟩
  · rw [if_neg (by omega)]
    simp [Addr.add]
  · rw [List.length_drop, List.length_take] at hj'
    rw [Nat.add_assoc, hj (i + j) (by omega)]
    simp
/-- A reader at p, whose bytes lie in block b. -/
def Rr (w : World) (p b : Nat) (s : RS) : Prop := b ≠ p ∧ ∃ A n c, Blk w p 60 [.slice A n c, .bool s.st] ∧ RdAt w b A n s.l ∧ n ≤ c
theorem Rr.off {X : Nat → Prop} {w w' : World} {p b : Nat} {s : RS} (h : Rr w p b s) (hb : Off X w w') (h1 : ¬ X p) (h2 : ¬ X b) : Rr w' p b s := by
  obtain ⟨h0, A, n, c, k, r, hc⟩ := h
  exact ⟨h0, A, n, c, k.off hb h1, r.off hb h2, hc⟩
/-- One step of a reader: what is found at the front is taken, or the reader is stopped. -/
def takeS {α : Type} (f : List UInt8 → Option (α × Nat)) (z : α) (s : RS) : α × RS :=
  if s.st then (z, s) else match f s.l with
    | none => (z, ⟨s.l, true⟩)
    | some (x, k) => (x, ⟨s.l.drop k, false⟩)
def findU8 : List UInt8 → Option (Nat × Nat)
  | [] => none
  | b :: _ => some (b.toNat, 1)
def findU32 : List UInt8 → Option (Nat × Nat)
  | a :: b :: c :: d :: _ => some (a.toNat + b.toNat * 256 + c.toNat * 65536 + d.toNat * 16777216, 4)
  | _ => none
def findText (most : Int) (l : List UInt8) : Option (List UInt8 × Nat) :=
  match findShort l with
  | none => none
  | some (x, k) => if most < 0 ∨ most < (x : Int) ∨ l.length < k + x then none else some ((l.drop k).take x, k + x)
def findRaw (n : Int) (l : List UInt8) : Option (List UInt8 × Nat) := if n < 0 ∨ (l.length : Int) < n then none else some (l.take n.toNat, n.toNat)
set_option maxRecDepth 100000 in
set_option maxHeartbeats 1000000 in
theorem newReader_any (A : Option Addr) (n c : Nat) (l : List UInt8) (w : World) (h : RdB w w.heap.size A n l) (hn : n ≤ 140737488355328) :
    Calls Try.prog 20 #[.slice A n c] w fun e w' => ∃ p b, w.heap.size ≤ p ∧ w.heap.size ≤ b ∧ e = .returned (.pointer (some ⟨p, 0, none⟩)) ∧ Rr w' p b ⟨l, false⟩ ∧ Below w.heap.size w w' := by
  go_enter Try.func20, Try.ntmps20
  go_wp2_with (at_builtin; go_must (refine appendG T23 rfl rfl rfl (OwnB.nil_ _ w.heap.size _) rfl h (by omega) (Nat.le_refl _) ?_); intro A' c' w' o1 f1 ho)
  go_ret
  rw [Nat.zero_add, List.nil_append] at o1
  have hs := f1.size
  have hr := o1.rd
  have f2 : Below w.heap.size w (w'.alloc (.cells #[.slice A' n c', .bool false] 60)) := (f1.below (Nat.le_refl _) (fun k hk => by obtain ⟨x, hx, _⟩ := hk; cases hx)).alloc hs _
  have kb : Blk (w'.alloc (.cells #[.slice A' n c', .bool false] 60)) w'.heap.size 60 [.slice A' n c', .bool false] := Blk.newAt rfl _ _
  have o2 := (o1.alloc (.cells #[.slice A' n c', .bool false] 60)).rd
  rcases ho with rfl | rfl
  · have hn0 : n = 0 := by
      refine Decidable.byContradiction fun h0 => ?_
      obtain ⟨b, off, h1, _⟩ := hr.2 (by omega)
      cases h1
    exact ⟨w'.heap.size, w'.heap.size + 1, hs, by omega, rfl, ⟨by omega, _, _, _, kb, ⟨hr.1, fun h0 => absurd h0 (by omega)⟩, o1.cap⟩, f2⟩
  · have hlt := o1.isB_lt ⟨_, rfl, rfl⟩
    refine ⟨w'.heap.size, w.heap.size, hs, Nat.le_refl _, rfl, ⟨by omega, _, _, _, kb, ⟨hr.1, fun h0 => ?_⟩, o1.cap⟩, f2⟩
    obtain ⟨b, off, h1, h2, h3⟩ := o2.2 h0
    injection h1 with h1
    injection h1 with e1 e2 _
    subst e1 e2
    exact ⟨0, rfl, h2, h3⟩
set_option maxRecDepth 100000 in
set_option maxHeartbeats 1000000 in
theorem err_any (p b : Nat) (s : RS) (w : World) (h : Rr w p b s) :
    Calls Try.prog 22 #[.pointer (some ⟨p, 0, none⟩)] w fun e w' => e = .returned (.int .i64 (if s.st then 2 else 0)) ∧ w' = w := by
  obtain ⟨_, A, n, c, k, r, hc⟩ := h
  have c1 := k.cell 1
  go_enter Try.func22, Try.ntmps22
  obtain ⟨l, st⟩ := s
  cases st
  · go_wp2_with fail
    go_ret
    exact ⟨rfl, rfl⟩
  · go_wp2_with fail
    go_ret
    exact ⟨rfl, rfl⟩
theorem err_nil (w : World) : Calls Try.prog 22 #[.pointer none] w fun e w' => e = .returned (.int .i64 2) ∧ w' = w := by
  go_enter Try.func22, Try.ntmps22
  go_wp2_with fail
  go_ret
  exact ⟨rfl, rfl⟩
set_option maxRecDepth 100000 in
set_option maxHeartbeats 1000000 in
theorem left_any (p b : Nat) (s : RS) (w : World) (h : Rr w p b s) :
    Calls Try.prog 23 #[.pointer (some ⟨p, 0, none⟩)] w fun e w' => e = .returned (.int .i64 (s.l.length : Nat)) ∧ w' = w := by
  obtain ⟨_, A, n, c, k, r, hc⟩ := h
  have c1 := k.cell 0
  rw [r.1]
  go_enter Try.func23, Try.ntmps23
  go_wp2_with fail
  go_ret
  exact ⟨rfl, rfl⟩
theorem left_nil (w : World) : Calls Try.prog 23 #[.pointer none] w fun e w' => e = .returned (.int .i64 0) ∧ w' = w := by
  go_enter Try.func23, Try.ntmps23
  go_wp2_with fail
  go_ret
  exact ⟨rfl, rfl⟩
set_option maxRecDepth 100000 in
set_option maxHeartbeats 1000000 in
theorem fail_any (p b : Nat) (s : RS) (w : World) (h : Rr w p b s) :
    Calls Try.prog 33 #[.pointer (some ⟨p, 0, none⟩)] w fun e w' => e = .returned (.tuple #[]) ∧ Rr w' p b ⟨s.l, true⟩ ∧ Off (fun k => k = p) w w' := by
  obtain ⟨h0, A, n, c, k, r, hc⟩ := h
  have c1 := k.cell 1
  have z1 := k.frozen 1
  go_enter Try.func33, Try.ntmps33
  go_wp2_with fail
  go_end0
  have o : Off (fun k => k = p) w (w.setCell ⟨p, 1, none⟩ (.bool true)) := (Off.refl (fun k => k = p) w).setCell (p := ⟨p, 1, none⟩) (fun _ => rfl) _
  exact ⟨rfl, ⟨h0, A, n, c, k.set 1 _, r.off o h0, hc⟩, o⟩
theorem fail_nil (w : World) : Calls Try.prog 33 #[.pointer none] w fun e w' => e = .returned (.tuple #[]) ∧ w' = w := by
  go_enter Try.func33, Try.ntmps33
  go_wp2_with fail
  go_end0
  exact ⟨rfl, rfl⟩
end Go.Proofs.Ytdblgjecbmebjaa
