/- Readers (XReader to XReader5 in one text): what their methods answer and leave. No condition beyond sizes. -/
import Derived.Test.YtgefbgjgcjiceaaShort
import Derived.Test.YtgefbgjgcjiceaaOrder
import Derived.Test.YtgefbgjgcjiceaaSlices
namespace Go.Proofs.Ytgefbgjgcjiceaa
open Go.RowKit

structure RS where
  l : List UInt8
  st : Bool
def RdAt (w : World) (b : Nat) (A : Option Addr) (n : Nat) (l : List UInt8) : Prop :=
  l.length = n ∧ (0 < n → ∃ off, A = some ⟨b, off, none⟩ ∧ b < w.heap.size ∧ ∀ j (hj : j < l.length), w.cell? ⟨b, off + j, none⟩ = some (bv l[j]))
theorem RdAt.rd {w : World} {b : Nat} {A : Option Addr} {n : Nat} {l : List UInt8} (h : RdAt w b A n l) : RdB w w.heap.size A n l :=
  ⟨h.1, fun hn => by
    obtain ⟨off, h1, h2, h3⟩ := h.2 hn
    exact ⟨b, off, h1, h2, h3⟩⟩
theorem RdAt.off {X : Nat → Prop} {w w' : World} {b : Nat} {A : Option Addr} {n : Nat} {l : List UInt8} (h : RdAt w b A n l) (hb : Off X w w') (hX : ¬ X b) : RdAt w' b A n l :=
  ⟨h.1, fun hn => by
    obtain ⟨off, h1, h2, h3⟩ := h.2 hn
    exact ⟨off, h1, Nat.lt_of_lt_of_le h2 hb.size, fun j hj => (hb.cell (p := ⟨b, off + j, none⟩) h2 hX).trans (h3 j hj)⟩⟩
theorem RdAt.sliced {w : World} {b : Nat} {A : Option Addr} {n : Nat} {l : List UInt8} (h : RdAt w b A n l) {i k c : Nat} (hi : i ≤ k) (hk : k ≤ n) (hc : n ≤ c) :
    ∃ A', sliced A i k c 1 = .slice A' (k - i) (c - i) ∧ RdAt w b A' (k - i) ((l.take k).drop i) := by
  refine ⟨_, rfl, by rw [List.length_drop, List.length_take, h.1]; omega, fun hp => ?_⟩
  obtain ⟨off, rfl, hb, hj⟩ := h.2 (by omega)
  refine ⟨off + i, ?_, hb, fun j hj' => ?_⟩
  · rw [if_neg (by omega)]
    simp [Addr.add]
  · rw [List.length_drop, List.length_take] at hj'
    rw [Nat.add_assoc, hj (i + j) (by omega)]
    simp
/-- A reader at p, whose bytes lie in block b. -/
def Rr (w : World) (p b : Nat) (s : RS) : Prop := b ≠ p ∧ ∃ A n c, Blk w p 99 [.slice A n c, .bool s.st] ∧ RdAt w b A n s.l ∧ n ≤ c
theorem Rr.off {X : Nat → Prop} {w w' : World} {p b : Nat} {s : RS} (h : Rr w p b s) (hb : Off X w w') (h1 : ¬ X p) (h2 : ¬ X b) : Rr w' p b s := by
  obtain ⟨h0, A, n, c, k, r, hc⟩ := h
  exact ⟨h0, A, n, c, k.off hb h1, r.off hb h2, hc⟩
/-- One step of a reader: what is found at the front is taken, or the reader is stopped. -/
def takeS {α : Type} (f : List UInt8 → Option (α × Nat)) (z : α) (s : RS) : α × RS :=
  if s.st then (z, s) else match f s.l with
    | none => (z, ⟨s.l, true⟩)
    | some (x, k) => (x, ⟨s.l.drop k, false⟩)
def findU8 : List UInt8 → Option (Nat × Nat)
  | [] => none
  | b :: _ => some (b.toNat, 1)
def findU32 : List UInt8 → Option (Nat × Nat)
  | a :: b :: c :: d :: _ => some (a.toNat + b.toNat * 256 + c.toNat * 65536 + d.toNat * 16777216, 4)
  | _ => none
def findText (most : Int) (l : List UInt8) : Option (List UInt8 × Nat) :=
  match findShort l with
  | none => none
  | some (x, k) => if most < 0 ∨ most < (x : Int) ∨ l.length < k + x then none else some ((l.drop k).take x, k + x)
def findRaw (n : Int) (l : List UInt8) : Option (List UInt8 × Nat) := if n < 0 ∨ (l.length : Int) < n then none else some (l.take n.toNat, n.toNat)
set_option maxRecDepth 100000 in
set_option maxHeartbeats 1000000 in
theorem newReader_any (A : Option Addr) (n c : Nat) (l : List UInt8) (w : World) (h : RdB w w.heap.size A n l) (hn : n ≤ 140737488355328) :
    Calls Try.prog 42 #[.slice A n c] w fun e w' => ∃ p b, w.heap.size ≤ p ∧ w.heap.size ≤ b ∧ e = .returned (.pointer (some ⟨p, 0, none⟩)) ∧ Rr w' p b ⟨l, false⟩ ∧ Below w.heap.size w w' := by
  go_enter Try.func42, Try.ntmps42
  go_wp2_with (at_builtin; go_must (refine appendG T23 rfl rfl rfl (OwnB.nil_ _ w.heap.size _) rfl h (by omega) (Nat.le_refl _) ?_); intro A' c' w' o1 f1 ho)
  go_ret
  rw [Nat.zero_add, List.nil_append] at o1
  have hs := f1.size
  have hr := o1.rd
  have f2 : Below w.heap.size w (w'.alloc (.cells #[.slice A' n c', .bool false] 99)) := (f1.below (Nat.le_refl _) (fun k hk => by obtain ⟨x, hx, _⟩ := hk; cases hx)).alloc hs _
  have kb : Blk (w'.alloc (.cells #[.slice A' n c', .bool false] 99)) w'.heap.size 99 [.slice A' n c', .bool false] := Blk.newAt rfl _ _
  have o2 := (o1.alloc (.cells #[.slice A' n c', .bool false] 99)).rd
  rcases ho with rfl | rfl
  · have hn0 : n = 0 := by
      refine Decidable.byContradiction fun h0 => ?_
      obtain ⟨b, off, h1, _⟩ := hr.2 (by omega)
      cases h1
    exact ⟨w'.heap.size, w'.heap.size + 1, hs, by omega, rfl, ⟨by omega, _, _, _, kb, ⟨hr.1, fun h0 => absurd h0 (by omega)⟩, o1.cap⟩, f2⟩
  · have hlt := o1.isB_lt ⟨_, rfl, rfl⟩
    refine ⟨w'.heap.size, w.heap.size, hs, Nat.le_refl _, rfl, ⟨by omega, _, _, _, kb, ⟨hr.1, fun h0 => ?_⟩, o1.cap⟩, f2⟩
    obtain ⟨b, off, h1, h2, h3⟩ := o2.2 h0
    injection h1 with h1
    injection h1 with e1 e2 _
    subst e1 e2
    exact ⟨0, rfl, h2, h3⟩
set_option maxRecDepth 100000 in
set_option maxHeartbeats 1000000 in
theorem err_any (p b : Nat) (s : RS) (w : World) (h : Rr w p b s) :
    Calls Try.prog 76 #[.pointer (some ⟨p, 0, none⟩)] w fun e w' => e = .returned (.int .i64 (if s.st then 2 else 0)) ∧ w' = w := by
  obtain ⟨_, A, n, c, k, r, hc⟩ := h
  have c1 := k.cell 1
  go_enter Try.func76, Try.ntmps76
  obtain ⟨l, st⟩ := s
  cases st
  · go_wp2_with fail
    go_ret
    exact ⟨rfl, rfl⟩
  · go_wp2_with fail
    go_ret
    exact ⟨rfl, rfl⟩
set_option maxRecDepth 100000 in
set_option maxHeartbeats 1000000 in
theorem left_any (p b : Nat) (s : RS) (w : World) (h : Rr w p b s) :
    Calls Try.prog 75 #[.pointer (some ⟨p, 0, none⟩)] w fun e w' => e = .returned (.int .i64 (s.l.length : Nat)) ∧ w' = w := by
  obtain ⟨_, A, n, c, k, r, hc⟩ := h
  have c1 := k.cell 0
  rw [r.1]
  go_enter Try.func75, Try.ntmps75
  go_wp2_with fail
  go_ret
  exact ⟨rfl, rfl⟩
set_option maxRecDepth 100000 in
set_option maxHeartbeats 1000000 in
theorem fail_any (p b : Nat) (s : RS) (w : World) (h : Rr w p b s) :
    Calls Try.prog 70 #[.pointer (some ⟨p, 0, none⟩)] w fun e w' => e = .returned (.tuple #[]) ∧ Rr w' p b ⟨s.l, true⟩ ∧ Off (fun k => k = p) w w' := by
  obtain ⟨h0, A, n, c, k, r, hc⟩ := h
  have c1 := k.cell 1
  have z1 := k.frozen 1
  go_enter Try.func70, Try.ntmps70
  go_wp2_with fail
  go_end0
  have o : Off (fun k => k = p) w (w.setCell ⟨p, 1, none⟩ (.bool true)) := (Off.refl (fun k => k = p) w).setCell (p := ⟨p, 1, none⟩) (fun _ => rfl) _
  exact ⟨rfl, ⟨h0, A, n, c, k.set 1 _, r.off o h0, hc⟩, o⟩

theorem Rr.adv {w : World} {p b : Nat} {off n c : Nat} {A : Option Addr} {l : List UInt8} {st : Bool} (h0 : b ≠ p) (k : Blk w p 99 [.slice A n c, .bool st]) (r : RdAt w b A n l) {i n' c' : Nat} (hi : i ≤ n)
    {A' : Option Addr} (hA : (A = some ⟨b, off, none⟩ ∧ A' = some ⟨b, off + i, none⟩) ∨ n' = 0) (hn : n' = n - i) (hc' : n - i ≤ c') : Rr (w.setCell ⟨p, 0, none⟩ (.slice A' n' c')) p b ⟨l.drop i, st⟩ ∧ Off (fun k => k = p) w (w.setCell ⟨p, 0, none⟩ (.slice A' n' c')) := by
  have o : Off (fun k => k = p) w (w.setCell ⟨p, 0, none⟩ (.slice A' n' c')) := (Off.refl (fun k => k = p) w).setCell (p := ⟨p, 0, none⟩) (fun _ => rfl) _
  refine ⟨⟨h0, A', n', c', k.set 0 _, ⟨by rw [List.length_drop, r.1, hn], fun hp => ?_⟩, by omega⟩, o⟩
  rcases hA with ⟨rfl, rfl⟩ | hA
  · obtain ⟨off', h1, h2, h3⟩ := r.2 (by omega)
    injection h1 with h1
    injection h1 with _ h1 _
    subst h1
    refine ⟨_, rfl, Nat.lt_of_lt_of_le h2 o.size, fun j hj => ?_⟩
    rw [List.length_drop] at hj
    rw [o.cell (p := ⟨b, off + i + j, none⟩) h2 h0, Nat.add_assoc, h3 (i + j) (by omega)]
    simp
  · omega
theorem Rr.stop {w : World} {p b : Nat} {s : RS} (h : Rr w p b s) : Rr (w.setCell ⟨p, 1, none⟩ (.bool true)) p b ⟨s.l, true⟩ ∧ Off (fun k => k = p) w (w.setCell ⟨p, 1, none⟩ (.bool true)) := by
  obtain ⟨h0, A, n, c, k, r, hc⟩ := h
  have o : Off (fun k => k = p) w (w.setCell ⟨p, 1, none⟩ (.bool true)) := (Off.refl (fun k => k = p) w).setCell (p := ⟨p, 1, none⟩) (fun _ => rfl) _
  exact ⟨⟨h0, A, n, c, k.set 1 _, r.off o h0, hc⟩, o⟩
theorem Rr.alloc {w w' : World} {p b : Nat} {s : RS} (h : Rr w' p b s ∧ Off (fun k => k = p) w w') (o : Obj) : Rr (w'.alloc o) p b s ∧ Off (fun k => k = p) w (w'.alloc o) :=
  ⟨h.1.off ((Off.refl (fun _ => False) w').alloc o) id id, h.2.alloc o⟩
theorem RdAt.cellAt {w : World} {b off : Nat} {n : Nat} {l : List UInt8} (h : RdAt w b (some ⟨b, off, none⟩) n l) {j : Nat} (hj : j < n) : w.cell? ⟨b, off + j, none⟩ = some (.int .u8 ((at8 l j).toNat : Int)) := by
  obtain ⟨off', h1, hb, hc⟩ := h.2 (by omega)
  injection h1 with h1
  injection h1 with _ h1 _
  subst h1
  have hl := h.1
  rw [hc j (by omega)]
  simp [bv, at8, List.getD, show j < l.length by omega]
set_option maxRecDepth 100000 in
set_option maxHeartbeats 1000000 in
theorem rU8_any (p b : Nat) (s : RS) (w : World) (h : Rr w p b s) :
    Calls Try.prog 43 #[.pointer (some ⟨p, 0, none⟩)] w fun e w' => e = .returned (.int .u8 ((takeS findU8 0 s).1 : Nat)) ∧ Rr w' p b (takeS findU8 0 s).2 ∧ Off (fun k => k = p) w w' := by
  have h' := h
  obtain ⟨h0, A, n, c, k, r, hc⟩ := h
  have c0 := k.cell 0
  have c1 := k.cell 1
  have z0 := k.frozen 0
  have z1 := k.frozen 1
  have hl := r.1
  go_enter Try.func43, Try.ntmps43
  obtain ⟨l, st⟩ := s
  cases st
  · cases l with
    | nil =>
      obtain rfl : n = 0 := hl.symm
      go_wp2_with (first | go_in)
      go_ret
      exact ⟨rfl, Rr.alloc h'.stop _⟩
    | cons x l =>
      have b1 : (0 : Int) < (n : Int) := by rw [← hl]; simp
      have hn : 0 < n := by omega
      have b3 : ((n : Int) == 0) = false := by simp; omega
      obtain ⟨off, rfl, hb, hj⟩ := r.2 hn
      have c3 : w.cell? ⟨b, off, none⟩ = some (.int .u8 (x.toNat : Int)) := hj 0 (by simp)
      clear hj hl
      go_wp2_with (first | go_in)
      · go_ret
        exact ⟨rfl, Rr.adv (off := off) (i := 1) h0 k r hn (.inr (by omega)) rfl (by omega)⟩
      · go_ret
        exact ⟨rfl, Rr.adv (off := off) (i := 1) h0 k r hn (.inl ⟨rfl, rfl⟩) rfl (by omega)⟩
  · go_wp2_with (first | go_in)
    go_ret
    exact ⟨rfl, h', Off.refl _ _⟩
theorem bits_or24 (a b c d : Nat) (ha : a < 256) (hb : b < 256) (hc : c < 256) (hd : d < 256) :
    bits BinOp.or .u32 (bits BinOp.or .u32 (bits BinOp.or .u32 ((d : Int) * 16777216) ((c : Int) * 65536)) ((b : Int) * 256)) (a : Int) = ((a + b * 256 + c * 65536 + d * 16777216 : Nat) : Int) := by
  rw [show (d : Int) * 16777216 = ((2 ^ 24 * d : Nat) : Int) from by omega, show (c : Int) * 65536 = ((2 ^ 16 * c : Nat) : Int) from by omega, show (b : Int) * 256 = ((2 ^ 8 * b : Nat) : Int) from by omega,
    u32_or_nat _ _ (by omega) (by omega), ← Nat.two_pow_add_eq_or_of_lt (by omega), u32_or_nat _ _ (by omega) (by omega),
    show 2 ^ 24 * d + 2 ^ 16 * c = 2 ^ 16 * (2 ^ 8 * d + c) from by omega, ← Nat.two_pow_add_eq_or_of_lt (by omega), u32_or_nat _ _ (by omega) (by omega),
    show 2 ^ 16 * (2 ^ 8 * d + c) + 2 ^ 8 * b = 2 ^ 8 * (2 ^ 16 * d + 2 ^ 8 * c + b) from by omega, ← Nat.two_pow_add_eq_or_of_lt (by omega)]
  congr 1
  omega
set_option maxRecDepth 100000 in
set_option maxHeartbeats 1000000 in
theorem rU32_any (p b : Nat) (s : RS) (w : World) (h : Rr w p b s) :
    Calls Try.prog 47 #[.pointer (some ⟨p, 0, none⟩)] w fun e w' => e = .returned (.int .u32 ((takeS findU32 0 s).1 : Nat)) ∧ Rr w' p b (takeS findU32 0 s).2 ∧ Off (fun k => k = p) w w' := by
  have h' := h
  obtain ⟨h0, A, n, c, k, r, hc⟩ := h
  have c0 := k.cell 0
  have c1 := k.cell 1
  have z0 := k.frozen 0
  have z1 := k.frozen 1
  have hl := r.1
  go_enter Try.func47, Try.ntmps47
  obtain ⟨l, st⟩ := s
  cases st
  · by_cases h4 : n < 4
    · have b3 : decide ((n : Int) < 4) = true := by simp; omega
      have hf : findU32 l = none := by
        rcases l with _ | ⟨x0, _ | ⟨x1, _ | ⟨x2, _ | ⟨x3, l⟩⟩⟩⟩ <;> first | rfl | (simp at hl; omega)
      go_wp2_with (first | go_in)
      go_ret
      simp only [takeS, hf, Bool.false_eq_true, if_false]
      exact ⟨rfl, Rr.alloc h'.stop _⟩
    · have b3 : decide ((n : Int) < 4) = false := by simp; omega
      obtain ⟨off, rfl, hb, hj⟩ := r.2 (by omega)
      rcases l with _ | ⟨x0, _ | ⟨x1, _ | ⟨x2, _ | ⟨x3, l⟩⟩⟩⟩
      any_goals (simp at hl; omega)
      have e0 : w.cell? ⟨b, off, none⟩ = some (.int .u8 (x0.toNat : Int)) := hj 0 (by simp)
      have e1 : w.cell? ⟨b, off + 1, none⟩ = some (.int .u8 (x1.toNat : Int)) := hj 1 (by simp)
      have e2 : w.cell? ⟨b, off + 2, none⟩ = some (.int .u8 (x2.toNat : Int)) := hj 2 (by simp)
      have e3 : w.cell? ⟨b, off + 3, none⟩ = some (.int .u8 (x3.toNat : Int)) := hj 3 (by simp)
      have hor := bits_or24 x0.toNat x1.toNat x2.toNat x3.toNat x0.toNat_lt x1.toNat_lt x2.toNat_lt x3.toNat_lt
      have y1 := x1.toNat_lt
      have y2 := x2.toNat_lt
      have y3 := x3.toNat_lt
      have y0 := x0.toNat_lt
      have b0 : (0 : Int) < (n : Int) := by omega
      have b1 : (1 : Int) < (n : Int) := by omega
      have b2 : (2 : Int) < (n : Int) := by omega
      have b4 : (3 : Int) < (n : Int) := by omega
      have hn : 4 ≤ n := by omega
      have hr : takeS findU32 0 ⟨x0 :: x1 :: x2 :: x3 :: l, false⟩ = (x0.toNat + x1.toNat * 256 + x2.toNat * 65536 + x3.toNat * 16777216, ⟨(x0 :: x1 :: x2 :: x3 :: l).drop 4, false⟩) := rfl
      rw [hr]
      have b5 : (4 : Int) ≤ (n : Int) := by omega
      have hn0 : 0 < n := by omega
      clear hj hl hr
      generalize x0.toNat = X0 at *
      generalize x1.toNat = X1 at *
      generalize x2.toNat = X2 at *
      generalize x3.toNat = X3 at *
      go_wp2_with (first | go_in)
      refine wp_region_order (fun w' => w'.cell? ⟨b, off, none⟩ = some (.int .u8 (X0 : Int)) ∧ w'.cell? ⟨b, off + 1, none⟩ = some (.int .u8 (X1 : Int)) ∧ w'.cell? ⟨b, off + 2, none⟩ = some (.int .u8 (X2 : Int)) ∧ w'.cell? ⟨b, off + 3, none⟩ = some (.int .u8 (X3 : Int))) 23 [(0,0), (1,0), (2,0), (3,0), (4,0), (5,0), (6,0), (7,0), (8,0), (9,0), (10,0), (11,0), (12,0), (13,0), (14,0), (15,0), (16,0), (17,0), (18,0), (19,0), (20,0), (21,0), (22,0), (23,2)] (by kernel_rfl) (by kernel_rfl) ?_
      simp only [pick, List.filterMap_cons, List.filterMap_nil, List.getElem?_cons_zero, List.getElem?_cons_succ, Option.map_some]
      have hS : w.drew.cell? ⟨b, off, none⟩ = some (.int .u8 (X0 : Int)) ∧ w.drew.cell? ⟨b, off + 1, none⟩ = some (.int .u8 (X1 : Int)) ∧ w.drew.cell? ⟨b, off + 2, none⟩ = some (.int .u8 (X2 : Int)) ∧ w.drew.cell? ⟨b, off + 3, none⟩ = some (.int .u8 (X3 : Int)) := ⟨e0, e1, e2, e3⟩
      refine wpF_take (v := ?_) hS rfl ?_ (fun _ _ _ h => h) ?_
      rotate_left
      · intro w' hS'
        obtain ⟨e0, e1, e2, e3⟩ := hS'
        go_simp <;> rfl
      go_simp
      refine wpF_take (v := ?_) hS rfl ?_ (fun _ _ _ h => h) ?_
      rotate_left
      · intro w' hS'
        obtain ⟨e0, e1, e2, e3⟩ := hS'
        go_simp <;> rfl
      go_simp
      refine wpF_take (v := ?_) hS rfl ?_ (fun _ _ _ h => h) ?_
      rotate_left
      · intro w' hS'
        obtain ⟨e0, e1, e2, e3⟩ := hS'
        go_simp <;> rfl
      go_simp
      refine wpF_take (v := ?_) hS rfl ?_ (fun _ _ _ h => h) ?_
      rotate_left
      · intro w' hS'
        obtain ⟨e0, e1, e2, e3⟩ := hS'
        go_simp <;> rfl
      go_simp
      refine wpF_take (v := ?_) hS rfl ?_ (fun _ _ _ h => h) ?_
      rotate_left
      · intro w' hS'
        obtain ⟨e0, e1, e2, e3⟩ := hS'
        go_simp <;> rfl
      go_simp
      refine wpF_take (v := ?_) hS rfl ?_ (fun _ _ _ h => h) ?_
      rotate_left
      · intro w' hS'
        obtain ⟨e0, e1, e2, e3⟩ := hS'
        go_simp <;> rfl
      go_simp
      refine wpF_take (v := ?_) hS rfl ?_ (fun _ _ _ h => h) ?_
      rotate_left
      · intro w' hS'
        obtain ⟨e0, e1, e2, e3⟩ := hS'
        go_simp <;> rfl
      go_simp
      refine wpF_take (v := ?_) hS rfl ?_ (fun _ _ _ h => h) ?_
      rotate_left
      · intro w' hS'
        obtain ⟨e0, e1, e2, e3⟩ := hS'
        go_simp <;> rfl
      go_simp
      refine wpF_take (v := ?_) hS rfl ?_ (fun _ _ _ h => h) ?_
      rotate_left
      · intro w' hS'
        obtain ⟨e0, e1, e2, e3⟩ := hS'
        go_simp <;> rfl
      go_simp
      refine wpF_take (v := ?_) hS rfl ?_ (fun _ _ _ h => h) ?_
      rotate_left
      · intro w' hS'
        obtain ⟨e0, e1, e2, e3⟩ := hS'
        go_simp <;> rfl
      go_simp
      refine wpF_take (v := ?_) hS rfl ?_ (fun _ _ _ h => h) ?_
      rotate_left
      · intro w' hS'
        obtain ⟨e0, e1, e2, e3⟩ := hS'
        go_simp <;> rfl
      go_simp
      refine wpF_take (v := ?_) hS rfl ?_ (fun _ _ _ h => h) ?_
      rotate_left
      · intro w' hS'
        obtain ⟨e0, e1, e2, e3⟩ := hS'
        go_simp <;> rfl
      go_simp
      refine wpF_take (v := ?_) hS rfl ?_ (fun _ _ _ h => h) ?_
      rotate_left
      · intro w' hS'
        obtain ⟨e0, e1, e2, e3⟩ := hS'
        go_simp <;> rfl
      go_simp
      refine wpF_take (v := ?_) hS rfl ?_ (fun _ _ _ h => h) ?_
      rotate_left
      · intro w' hS'
        obtain ⟨e0, e1, e2, e3⟩ := hS'
        go_simp <;> rfl
      go_simp
      refine wpF_take (v := ?_) hS rfl ?_ (fun _ _ _ h => h) ?_
      rotate_left
      · intro w' hS'
        obtain ⟨e0, e1, e2, e3⟩ := hS'
        go_simp <;> rfl
      go_simp
      refine wpF_take (v := ?_) hS rfl ?_ (fun _ _ _ h => h) ?_
      rotate_left
      · intro w' hS'
        obtain ⟨e0, e1, e2, e3⟩ := hS'
        go_simp <;> rfl
      go_simp
      refine wpF_take (v := ?_) hS rfl ?_ (fun _ _ _ h => h) ?_
      rotate_left
      · intro w' hS'
        obtain ⟨e0, e1, e2, e3⟩ := hS'
        go_simp <;> rfl
      go_simp
      refine wpF_take (v := ?_) hS rfl ?_ (fun _ _ _ h => h) ?_
      rotate_left
      · intro w' hS'
        obtain ⟨e0, e1, e2, e3⟩ := hS'
        go_simp <;> rfl
      go_simp
      refine wpF_take (v := ?_) hS rfl ?_ (fun _ _ _ h => h) ?_
      rotate_left
      · intro w' hS'
        obtain ⟨e0, e1, e2, e3⟩ := hS'
        go_simp <;> rfl
      go_simp
      refine wpF_take (v := ?_) hS rfl ?_ (fun _ _ _ h => h) ?_
      rotate_left
      · intro w' hS'
        obtain ⟨e0, e1, e2, e3⟩ := hS'
        go_simp <;> rfl
      go_simp
      refine wpF_take (v := ?_) hS rfl ?_ (fun _ _ _ h => h) ?_
      rotate_left
      · intro w' hS'
        obtain ⟨e0, e1, e2, e3⟩ := hS'
        go_simp <;> rfl
      go_simp
      refine wpF_take (v := ?_) hS rfl ?_ (fun _ _ _ h => h) ?_
      rotate_left
      · intro w' hS'
        obtain ⟨e0, e1, e2, e3⟩ := hS'
        go_simp <;> rfl
      go_simp
      refine wpF_take (v := ?_) hS rfl ?_ (fun _ _ _ h => h) ?_
      rotate_left
      · intro w' hS'
        obtain ⟨e0, e1, e2, e3⟩ := hS'
        go_simp <;> rfl
      go_simp
      refine wpF_only rfl (fun K hK => ?_)
      have v0 : IntKind.u32.wrap (X0 : Int) = X0 := by simp [IntKind.wrap, IntKind.bits, IntKind.signed]; omega
      have v1 : IntKind.u32.wrap (X1 : Int) = X1 := by simp [IntKind.wrap, IntKind.bits, IntKind.signed]; omega
      have v2 : IntKind.u32.wrap (X2 : Int) = X2 := by simp [IntKind.wrap, IntKind.bits, IntKind.signed]; omega
      have v3 : IntKind.u32.wrap (X3 : Int) = X3 := by simp [IntKind.wrap, IntKind.bits, IntKind.signed]; omega
      have u1 : IntKind.u32.wrap ((X1 : Int) * 256) = (X1 : Int) * 256 := by simp [IntKind.wrap, IntKind.bits, IntKind.signed]; omega
      have u2 : IntKind.u32.wrap ((X2 : Int) * 65536) = (X2 : Int) * 65536 := by simp [IntKind.wrap, IntKind.bits, IntKind.signed]; omega
      have u3 : IntKind.u32.wrap ((X3 : Int) * 16777216) = (X3 : Int) * 16777216 := by simp [IntKind.wrap, IntKind.bits, IntKind.signed]; omega
      rw [v0, v1, v2, v3, u1, u2, u3, hor]
      go_wp2_with fail
      refine ⟨fun h => absurd h (by omega), wpF_nil ?_⟩
      have c0' : w.drew.cell? ⟨p, 0, none⟩ = some (.slice (some ⟨b, off, none⟩) n c) := c0
      have z0' : w.drew.frozen? ⟨p, 0, none⟩ = false := z0
      clear hS
      go_wp2_with (first | go_in)
      · go_ret
        have q := Rr.adv (A' := some ⟨b, off, none⟩) (n' := n - 4) (c' := 0) (off := off) (i := 4) h0 k r hn (.inr (by omega)) rfl (by omega)
        exact ⟨rfl, q.1, q.2.drew⟩
      · go_ret
        have q := Rr.adv (A' := some ⟨b, off + 4, none⟩) (n' := n - 4) (c' := c - 4) (off := off) (i := 4) h0 k r hn (.inl ⟨rfl, rfl⟩) rfl (by omega)
        exact ⟨rfl, q.1, q.2.drew⟩
  · go_wp2_with (first | go_in)
    go_ret
    exact ⟨rfl, h', Off.refl _ _⟩

theorem shortGo_le : ∀ (l : List UInt8) (i x y k : Nat), x < 2 ^ (7 * i) → i ≤ 9 → shortGo i x l = some (y, k) → i < k ∧ k ≤ i + l.length ∧ y < 18446744073709551616
  | [], _, _, _, _, _, _, h => by cases h
  | c :: r, i, x, y, k, hx, hi, h => by
    have hc := c.toNat_lt
    rw [shortGo] at h
    split at h
    · cases h
    · rename_i h9
      obtain ⟨_, hY⟩ := short_or x c.toNat i hx hc hi (fun e => by omega)
      split at h
      · split at h
        · injection h with h
          injection h with h1 h2
          subst h1 h2
          exact ⟨by omega, by simp, hY⟩
        · cases h
      · have hi8 : i + 1 ≤ 9 := by omega
        have hx2 : x + c.toNat % 128 * 2 ^ (7 * i) < 2 ^ (7 * (i + 1)) := by
          have h4 : c.toNat % 128 + 1 ≤ 128 := by omega
          have h5 : (c.toNat % 128 + 1) * 2 ^ (7 * i) ≤ 128 * 2 ^ (7 * i) := Nat.mul_le_mul_right _ h4
          rw [Nat.succ_mul] at h5
          rw [Nat.mul_succ, Nat.pow_add]
          omega
        obtain ⟨h1, h2, h3⟩ := shortGo_le r (i + 1) _ y k hx2 hi8 h
        exact ⟨by omega, by rw [List.length_cons]; omega, h3⟩
theorem findShort_le {l : List UInt8} {y k : Nat} (h : findShort l = some (y, k)) : 0 < k ∧ k ≤ l.length ∧ y < 18446744073709551616 := by
  have := shortGo_le l 0 0 y k (by simp) (by omega) h
  omega
set_option maxRecDepth 100000 in
set_option maxHeartbeats 1000000 in
theorem rUint_any (p b : Nat) (s : RS) (w : World) (h : Rr w p b s) :
    Calls Try.prog 45 #[.pointer (some ⟨p, 0, none⟩)] w fun e w' => e = .returned (.int .u64 ((takeS findShort 0 s).1 : Nat)) ∧ Rr w' p b (takeS findShort 0 s).2 ∧ Off (fun k => k = p) w w' := by
  have h' := h
  obtain ⟨h0, A, n, c, k, r, hc⟩ := h
  have c0 := k.cell 0
  have c1 := k.cell 1
  have z0 := k.frozen 0
  have z1 := k.frozen 1
  have hl := r.1
  go_enter Try.func45, Try.ntmps45
  obtain ⟨l, st⟩ := s
  cases st
  · cases hf : findShort l with
    | none =>
      go_wp2_with (first | (go_at_call 68; refine (short_any A n c l _ w r.rd).mono ?_; rintro e w' ⟨rfl, rfl⟩; rw [hf, shortV]) | go_in)
      go_ret
      rw [takeS, hf]
      exact ⟨rfl, Rr.alloc h'.stop _⟩
    | some yk =>
      obtain ⟨y, i⟩ := yk
      obtain ⟨hi0, hi, hy⟩ := findShort_le hf
      simp only at hl hi
      obtain ⟨off, rfl, hb, hj⟩ := r.2 (by omega)
      have b1 : (0 : Int) ≤ (i : Int) := by omega
      have b2 : (i : Int) ≤ (n : Int) := by omega
      have b4 : ¬ ((i : Int) < 0) := by omega
      have hn : i ≤ n := by omega
      have hi2 : i ≠ 0 := by omega
      clear hj hl
      go_wp2_with (first | (go_at_call 68; refine (short_any _ n c l _ w r.rd).mono ?_; rintro e w' ⟨rfl, rfl⟩; rw [hf, shortV]) | go_in)
      · go_ret
        rw [takeS, hf]
        exact ⟨rfl, Rr.adv (off := off) (i := i) h0 k r hn (.inr (by omega)) rfl (by omega)⟩
      · go_ret
        rw [takeS, hf]
        exact ⟨rfl, Rr.adv (off := off) (i := i) h0 k r hn (.inl ⟨rfl, rfl⟩) rfl (by omega)⟩
  · go_wp2_with (first | go_in)
    go_ret
    exact ⟨rfl, h', Off.refl _ _⟩

theorem Off.heapLt {X : Nat → Prop} {w w' : World} (h : Off X w w') {k : Nat} (hk : k < w.heap.size) : k < w'.heap.size := Nat.lt_of_lt_of_le hk h.size
theorem Rr.adv2 {w w0 : World} {p b : Nat} {n c : Nat} {A : Option Addr} {l : List UInt8} {st : Bool} (h0 : b ≠ p) (k : Blk w p 99 [.slice A n c, .bool st]) (r : RdAt w b A n l) {i n' c' : Nat} (hi : i ≤ n)
    (hf : Off (fun k => k = p) w0 w) {A' : Option Addr} (hA : A' = A.map (fun x => x.add i) ∨ n' = 0) (hn : n' = n - i) (hc' : n - i ≤ c') : Rr (w.setCell ⟨p, 0, none⟩ (.slice A' n' c')) p b ⟨l.drop i, st⟩ ∧ Off (fun k => k = p) w0 (w.setCell ⟨p, 0, none⟩ (.slice A' n' c')) := by
  have q : Rr (w.setCell ⟨p, 0, none⟩ (.slice A' n' c')) p b ⟨l.drop i, st⟩ ∧ Off (fun k => k = p) w (w.setCell ⟨p, 0, none⟩ (.slice A' n' c')) := by
    by_cases h1 : n' = 0
    · exact Rr.adv (off := 0) h0 k r hi (.inr h1) hn hc'
    · obtain ⟨off, rfl, _⟩ := r.2 (by omega)
      rcases hA with rfl | hA
      · exact Rr.adv (off := off) h0 k r hi (.inl ⟨rfl, by simp [Addr.add]⟩) hn hc'
      · exact absurd hA h1
  exact ⟨q.1, hf.trans q.2 fun _ _ h => h⟩
set_option maxRecDepth 100000 in
set_option maxHeartbeats 1000000 in
theorem rRaw_any (p b : Nat) (s : RS) (m : Int) (w : World) (h : Rr w p b s) (hsz : s.l.length ≤ 140737488355328) :
    Calls Try.prog 48 #[.pointer (some ⟨p, 0, none⟩), .int .i64 m] w fun e w' => ∃ A' n' c', e = .returned (.slice A' n' c') ∧ OwnB w' w.heap.size 5 (.slice A' n' c') (takeS (findRaw m) [] s).1 ∧ Rr w' p b (takeS (findRaw m) [] s).2 ∧ Off (fun k => k = p) w w' := by
  have h' := h
  obtain ⟨h0, A, n, c, k, r, hc⟩ := h
  have c0 := k.cell 0
  have c1 := k.cell 1
  have z0 := k.frozen 0
  have z1 := k.frozen 1
  have hl := r.1
  have kp := k.lt
  have hal := h'.off ((Off.refl (fun _ => False) w).alloc (.cells #[.int .i64 m] 3)) id id
  have hof : Off (fun k => k = p) w (w.alloc (.cells #[.int .i64 m] 3)) := (Off.refl _ w).alloc _
  go_enter Try.func48, Try.ntmps48
  obtain ⟨l, st⟩ := s
  simp only at hl hsz
  cases st
  · by_cases hm : m < 0 ∨ (n : Int) < m
    · have hf : findRaw m l = none := by rw [findRaw, if_pos (by rw [hl]; exact hm)]
      by_cases hm0 : m < 0
      · have d1 : decide (m < 0) = true := by simp [hm0]
        go_wp2_with (first | go_in)
        go_ret
        rw [takeS, hf]
        exact ⟨none, 0, 0, rfl, OwnB.nil_ _ _ _, Rr.alloc (Rr.alloc h'.stop _) _⟩
      · have d1 : decide (m < 0) = false := by simp; omega
        have d2 : decide ((n : Int) < m) = true := by simp; omega
        go_wp2_with (first | go_in)
        go_ret
        rw [takeS, hf]
        exact ⟨none, 0, 0, rfl, OwnB.nil_ _ _ _, Rr.alloc (Rr.alloc h'.stop _) _⟩
    · obtain ⟨i, rfl⟩ : ∃ i : Nat, m = (i : Int) := ⟨m.toNat, by omega⟩
      have hf : findRaw (i : Int) l = some (l.take i, i) := by rw [findRaw, if_neg (by rw [hl]; exact hm)]; rfl
      have d1 : decide ((i : Int) < 0) = false := by simp
      have d2 : decide ((n : Int) < (i : Int)) = false := by simp; omega
      have hi : i ≤ n := by omega
      clear hm
      go_wp2_with (first | go_in)
      refine abs (fun w1 => w1.cell? ⟨w.heap.size, 0, none⟩ = some (.int .i64 (i : Int)) ∧ Blk w1 p 99 [.slice A n c, .bool false] ∧ RdAt w1 b A n l ∧ Off (fun k => k = p) w w1 ∧ w.heap.size < w1.heap.size) ⟨by simp, k.alloc _, r.off ((Off.refl (fun _ => False) w).alloc _) id, hof, by simp⟩ ?_
      clear c0 c1 z0 z1 hal hof h' k r
      rintro w1 ⟨e1, k1, r1, f1, hs1⟩
      refine wp_region_order (fun w' => w'.cell? ⟨w.heap.size, 0, none⟩ = some (.int .i64 (i : Int)) ∧ Blk w' p 99 [.slice A n c, .bool false] ∧ RdAt w' b A n l ∧ Off (fun k => k = p) w w' ∧ w.heap.size < w'.heap.size) 6 [(0,0), (1,0), (4,0), (2,1), (3,1), (5,0), (6,2)] (by kernel_rfl) (by kernel_rfl) ?_
      simp only [pick, List.filterMap_cons, List.filterMap_nil, List.getElem?_cons_zero, List.getElem?_cons_succ, Option.map_some]
      have hS : w1.drew.cell? ⟨w.heap.size, 0, none⟩ = some (.int .i64 (i : Int)) ∧ Blk w1.drew p 99 [.slice A n c, .bool false] ∧ RdAt w1.drew b A n l ∧ Off (fun k => k = p) w w1.drew ∧ w.heap.size < w1.drew.heap.size := ⟨e1, k1, r1, f1.drew, hs1⟩
      clear e1 k1 r1 f1 hs1
      refine wpF_take (v := ?_) hS rfl ?_ (fun _ _ _ h => h) ?_
      rotate_left
      · intro w' hS'
        obtain ⟨e1, _⟩ := hS'
        go_simp <;> rfl
      go_simp
      refine wpF_take (v := ?_) hS rfl ?_ (fun _ _ _ h => h) ?_
      rotate_left
      · intro w' hS'
        obtain ⟨e1, _⟩ := hS'
        go_simp <;> rfl
      go_simp
      refine wpF_take (v := ?_) hS rfl ?_ (fun _ _ _ h => h) ?_
      rotate_left
      · intro w' hS'
        obtain ⟨e1, _⟩ := hS'
        go_simp <;> rfl
      go_simp
      refine wpF_only rfl (fun K hK => wp_slice_h T23 rfl rfl rfl hS.2.2.1.rd hi hc (fun A2 r2 => ?_))
      refine hK _ _ ⟨fun _ => hS, ?_⟩
      go_simp
      refine wpF_only rfl (fun K hK => wp_appendR T23 rfl rfl (OwnB.nil_ _ w.heap.size _) rfl r2 (by omega) (Below.refl w.heap.size w1.drew) (Nat.le_of_lt hS.2.2.2.2) ?_)
      intro A3 c3 w2 o2 f2 g2
      have hS2 : w2.cell? ⟨w.heap.size, 0, none⟩ = some (.int .i64 (i : Int)) ∧ Blk w2 p 99 [.slice A n c, .bool false] ∧ RdAt w2 b A n l ∧ Off (fun k => k = p) w w2 ∧ w.heap.size < w2.heap.size := by
        have o : Off (fun _ => False) w1.drew w2 := (Off.refl _ _).grown g2 (fun k hk => by cases hk)
        exact ⟨(o.cell (p := ⟨w.heap.size, 0, none⟩) hS.2.2.2.2 id).trans hS.1, hS.2.1.off o id, hS.2.2.1.off o id, hS.2.2.2.1.trans o (fun _ _ h => h.elim), Nat.lt_of_lt_of_le hS.2.2.2.2 o.size⟩
      refine hK _ _ ⟨fun _ => hS2, ?_⟩
      clear hS r2 f2 g2
      rw [Nat.zero_add, List.nil_append] at o2
      go_simp
      refine wpF_take (v := .slice A3 i c3) hS2 rfl (fun w' _ => by go_simp <;> simp) (fun _ _ _ h => h) ?_
      go_simp
      refine wpF_only rfl (fun K hK => ?_)
      go_wp2_with fail
      refine wpF_nil ?_
      obtain ⟨e1, k1, r1, f1, hs1⟩ := hS2
      have c0 := k1.cell 0
      have z0 := k1.frozen 0
      go_wp2_with (first | go_in)
      · go_ret
        have q := Rr.adv2 (A' := A) (n' := n - i) (c' := 0) h0 k1 r1 hi f1 (.inr (by omega)) rfl (by omega)
        rw [takeS, hf]
        exact ⟨A3, i, c3, rfl, o2.off ((Off.refl (fun k => k = p) w2).setCell (p := ⟨p, 0, none⟩) (fun _ => rfl) _) (fun k hk hp => by have := (o2.isB_lt hk).1; omega), q⟩
      · go_ret
        have q := Rr.adv2 (A' := A.map (fun x => x.add i)) (n' := n - i) (c' := c - i) h0 k1 r1 hi f1 (.inl rfl) rfl (by omega)
        rw [takeS, hf]
        exact ⟨A3, i, c3, rfl, o2.off ((Off.refl (fun k => k = p) w2).setCell (p := ⟨p, 0, none⟩) (fun _ => rfl) _) (fun k hk hp => by have := (o2.isB_lt hk).1; omega), q⟩
  · go_wp2_with (first | go_in)
    go_ret
    exact ⟨none, 0, 0, rfl, OwnB.nil_ _ _ _, hal, hof⟩
set_option maxRecDepth 100000 in
set_option maxHeartbeats 1000000 in
theorem rEnd_any (p b : Nat) (s : RS) (w : World) (h : Rr w p b s) :
    Calls Try.prog 49 #[.pointer (some ⟨p, 0, none⟩)] w fun e w' => e = .returned (.int .i64 (if s.st || !s.l.isEmpty then 2 else 0)) ∧ Rr w' p b ⟨s.l, s.st || !s.l.isEmpty⟩ ∧ Off (fun k => k = p) w w' := by
  go_enter Try.func49, Try.ntmps49
  go_wp2_with fail
  refine (left_any p b s w h).mono ?_
  rintro e w1 ⟨rfl, rfl⟩
  obtain ⟨l, st⟩ := s
  cases l with
  | nil =>
    go_wp2_with fail
    refine (err_any p b _ w1 h).mono ?_
    rintro e w2 ⟨rfl, rfl⟩
    cases st
    · go_wp2_with fail
      go_ret
      exact ⟨rfl, h, Off.refl _ _⟩
    · go_wp2_with fail
      go_ret
      exact ⟨rfl, h, Off.refl _ _⟩
  | cons x l =>
    have b1 : decide ((0 : Int) < ((x :: l).length : Nat)) = true := by simp
    simp only
    go_wp2_with fail
    refine (fail_any p b _ w1 h).mono ?_
    rintro e w2 ⟨rfl, h2, f2⟩
    go_wp2_with fail
    refine (err_any p b _ w2 h2).mono ?_
    rintro e w3 ⟨rfl, rfl⟩
    go_wp2_with fail
    go_ret
    exact ⟨by simp, by simpa using h2, f2⟩

theorem conv_sliced {P : Program} {d : TypeId} (hd : P.underlying d = some .string) {w : World} {b : Nat} {A : Option Addr} {n c i y : Nat} {l : List UInt8} (r : RdAt w b A n l) (hiy : i + y ≤ n) (hc : n ≤ c) {t : TypeId} (hT : ByteTy P t 5 := by exact T23) :
    (c = i → (convert t d (.slice A y 0)).run P w = .ok (.string (strB ((l.drop i).take y))) w) ∧ (c ≠ i → (convert t d (.slice (A.map fun x => x.add i) y (c - i))).run P w = .ok (.string (strB ((l.drop i).take y))) w) := by
  obtain ⟨A', he, hr⟩ := r.rd.sliced (i := i) (k := i + y) (c := c) (by omega) hiy hc
  rw [Nat.add_sub_cancel_left] at he hr
  have e2 : (l.take (i + y)).drop i = (l.drop i).take y := by rw [List.drop_take, Nat.add_sub_cancel_left]
  rw [e2] at hr
  refine ⟨fun h => ?_, fun h => ?_⟩
  · have : y = 0 := by omega
    subst this
    have h0 : RdB w w.heap.size A 0 ((l.drop i).take 0) := ⟨by simp, fun h => absurd h (by omega)⟩
    exact run_str hT h0 0 d hd
  · have h1 : A' = A.map fun x => x.add i := by
      have := he
      simp only [sliced] at this
      injection this with h2 _ _
      rw [← h2, if_neg (by omega)]
      simp
    subst h1
    exact run_str hT hr (c - i) d hd
set_option maxRecDepth 100000 in
set_option maxHeartbeats 2000000 in
theorem rText_any (p b : Nat) (s : RS) (m : Int) (w : World) (h : Rr w p b s) (hsz : s.l.length ≤ 140737488355328) (hm1 : -9223372036854775808 ≤ m) (hm2 : m ≤ 9223372036854775807) :
    Calls Try.prog 44 #[.pointer (some ⟨p, 0, none⟩), .int .i64 m] w fun e w' => e = .returned (.string (strB (takeS (findText m) [] s).1)) ∧ Rr w' p b (takeS (findText m) [] s).2 ∧ Off (fun k => k = p) w w' := by
  have h' := h
  obtain ⟨h0, A, n, c, k, r, hc⟩ := h
  have c0 := k.cell 0
  have c1 := k.cell 1
  have z0 := k.frozen 0
  have z1 := k.frozen 1
  have hl := r.1
  have kp := k.lt
  have hal := h'.off ((Off.refl (fun _ => False) w).alloc (.cells #[.int .i64 m] 3)) id id
  have hof : Off (fun k => k = p) w (w.alloc (.cells #[.int .i64 m] 3)) := (Off.refl _ w).alloc _
  have r' := r.off ((Off.refl (fun _ => False) w).alloc (.cells #[.int .i64 m] 3)) id
  go_enter Try.func44, Try.ntmps44
  obtain ⟨l, st⟩ := s
  simp only at hl hsz
  cases st
  · cases hf : findShort l with
    | none =>
      have hft : findText m l = none := by rw [findText, hf]
      go_wp2_with (first | (go_at_call 68; refine (short_any _ _ _ l _ _ r'.rd).mono ?_; rintro e w' ⟨rfl, rfl⟩; rw [hf, shortV]) | go_in)
      go_ret
      rw [takeS, hft]
      exact ⟨rfl, Rr.alloc (Rr.alloc h'.stop _) _⟩
    | some yk =>
      obtain ⟨y, i⟩ := yk
      obtain ⟨hi0, hi, hy⟩ := findShort_le hf
      rw [hl] at hi
      have b1 : decide ((i : Int) < 0) = false := by simp
      by_cases hm0 : m < 0
      · have hft : findText m l = none := by rw [findText, hf]; simp [hm0]
        have d1 : decide (m < 0) = true := by simp [hm0]
        go_wp2_with (first | (go_at_call 68; refine (short_any _ _ _ l _ _ r'.rd).mono ?_; rintro e w' ⟨rfl, rfl⟩; rw [hf, shortV]) | go_in)
        go_ret
        rw [takeS, hft]
        exact ⟨rfl, Rr.alloc (Rr.alloc h'.stop _) _⟩
      · have d1 : decide (m < 0) = false := by simp; omega
        obtain ⟨M, rfl⟩ : ∃ M : Nat, m = (M : Int) := ⟨m.toNat, by omega⟩
        have hw := wrap_small (v := (M : Int)) (by omega) (by omega)
        by_cases hm1' : M < y
        · have hft : findText (M : Int) l = none := by rw [findText, hf]; simp [hm1']
          have d2 : decide ((M : Int) < (y : Int)) = true := by simp [hm1']
          go_wp2_with (first | (go_at_call 68; refine (short_any _ _ _ l _ _ r'.rd).mono ?_; rintro e w' ⟨rfl, rfl⟩; rw [hf, shortV]) | go_in)
          go_ret
          rw [takeS, hft]
          exact ⟨rfl, Rr.alloc (Rr.alloc h'.stop _) _⟩
        · have d2 : decide ((M : Int) < (y : Int)) = false := by simp; omega
          have hw2 := wrap_small (v := (n : Int) - (i : Int)) (by omega) (by omega)
          by_cases hm2' : n < i + y
          · have hft : findText (M : Int) l = none := by rw [findText, hf]; simp [hl, hm2']
            have d3 : decide ((n : Int) - (i : Int) < (y : Int)) = true := by simp; omega
            go_wp2_with (first | (go_at_call 68; refine (short_any _ _ _ l _ _ r'.rd).mono ?_; rintro e w' ⟨rfl, rfl⟩; rw [hf, shortV]) | go_in)
            go_ret
            rw [takeS, hft]
            exact ⟨rfl, Rr.alloc (Rr.alloc h'.stop _) _⟩
          · have hft : findText (M : Int) l = some ((l.drop i).take y, i + y) := by rw [findText, hf]; simp [hl, hm0, hm1', hm2']
            have d3 : decide ((n : Int) - (i : Int) < (y : Int)) = false := by simp; omega
            have hiy : i + y ≤ n := by omega
            have hy2 : y ≤ 140737488355328 := by omega
            clear hm2'
            have kq := conv_sliced (P := Try.prog) Try.underlying9 r' hiy hc
            by_cases hci : c = i
            · have hy0 : y = 0 := by omega
              have hn0 : n = i := by omega
              replace kq := kq.1 hci
              obtain ⟨z, hz⟩ : ∃ z, strB ((l.drop i).take y) = z := ⟨_, rfl⟩
              rw [hz] at kq
              have q := Rr.adv2 (w := w) (A' := A) (n' := n - (i + y)) (c' := 0) h0 k r hiy (Off.refl _ _) (.inr (by omega)) rfl (by omega)
              rw [takeS, hft]
              simp only [Bool.false_eq_true, if_false]
              rw [hz]
              have q2 := Rr.alloc q (.cells #[.int .i64 (M : Int)] 3)
              clear q hal h' hof hz hft
              generalize l.drop (i + y) = l2 at *
              subst hy0
              subst hn0
              subst hci
              go_wp2_with (first | (go_at_call 68; refine (short_any _ _ _ l _ _ r'.rd).mono ?_; rintro e w' ⟨rfl, rfl⟩; rw [hf, shortV]) | go_in)
              all_goals
                go_ret
                refine ⟨rfl, ?_⟩
                simpa using q2
            · replace kq := kq.2 hci
              have hci2 : ¬ c = i := hci
              clear hal h' hof
              obtain ⟨z, hz⟩ : ∃ z, strB ((l.drop i).take y) = z := ⟨_, rfl⟩
              rw [hz] at kq
              go_wp2_with (first | (go_at_call 68; refine (short_any _ _ _ l _ _ r'.rd).mono ?_; rintro e w' ⟨rfl, rfl⟩; rw [hf, shortV]) | go_in)
              · go_ret
                have q := Rr.adv2 (w := w) (A' := A) (n' := n - (i + y)) (c' := 0) h0 k r hiy (Off.refl _ _) (.inr (by omega)) rfl (by omega)
                rw [takeS, hft]
                exact ⟨by rw [← hz]; rfl, Rr.alloc q _⟩
              · go_ret
                have q := Rr.adv2 (w := w) (A' := A.map (fun x => x.add (i + y))) (n' := n - (i + y)) (c' := c - (i + y)) h0 k r hiy (Off.refl _ _) (.inl rfl) rfl (by omega)
                rw [takeS, hft]
                exact ⟨by rw [← hz]; rfl, Rr.alloc q _⟩
  · go_wp2_with (first | go_in)
    go_ret
    exact ⟨rfl, hal, hof⟩
end Go.Proofs.Ytgefbgjgcjiceaa
