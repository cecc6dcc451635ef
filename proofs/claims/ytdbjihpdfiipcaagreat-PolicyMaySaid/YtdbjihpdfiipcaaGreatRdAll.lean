/- code.short: the number at the front of bytes. No condition. A reader as a thing of the world; what its methods answer and leave. No condition. A reader's U8, U32, Uint. No condition. A reader's Uint, Text, Raw, End. No condition. A slice of bytes that are read, as an operation. No condition. A reader's Raw. No condition. A reader's Text. No condition. What is read of what was written, plain: numbers, texts. No condition. -/
import Derived.Test.YtdbjihpdfiipcaaGreatWrAll
import Derived.Test.YtdbjihpdfiipcaaGreatOrder
namespace Go.Proofs.YtdbjihpdfiipcaaGreat
open Go.RowKit
def shortGo : Nat → Nat → List UInt8 → Option (Nat × Nat)
  | _, _, [] => none
  | i, x, c :: r => if i = 9 ∧ 1 < c.toNat then none else
      if c.toNat < 128 then (if grp (x + c.toNat % 128 * 2 ^ (7 * i)) = i + 1 then some (x + c.toNat % 128 * 2 ^ (7 * i), i + 1) else none) else shortGo (i + 1) (x + c.toNat % 128 * 2 ^ (7 * i)) r
def findShort (l : List UInt8) : Option (Nat × Nat) := shortGo 0 0 l
def shortV : Option (Nat × Nat) → Value
  | none => .tuple #[.int .u64 0, .int .i64 (-1)]
  | some (x, k) => .tuple #[.int .u64 x, .int .i64 k]
theorem RdB.cellAt {w : World} {B : Nat} {A : Option Addr} {n : Nat} {l : List UInt8} (h : RdB w B A n l) {j : Nat} (hj : j < n) : ∃ b off, A = some ⟨b, off, none⟩ ∧ b < B ∧ w.cell? ⟨b, off + j, none⟩ = some (.int .u8 ((at8 l j).toNat : Int)) := by
  obtain ⟨b, off, rfl, hb, hc⟩ := h.2 (by omega)
  refine ⟨b, off, rfl, hb, ?_⟩
  have hl := h.1
  rw [hc j (by omega)]
  simp [bv, at8, List.getD, show j < l.length by omega]
theorem drop8 {l : List UInt8} {k : Nat} (h : k < l.length) : l.drop k = at8 l k :: l.drop (k + 1) := by
  rw [List.drop_eq_getElem_cons h]
  simp [at8, List.getD, h]
theorem bits_127 (X : Nat) (h : X < 256) : bits BinOp.and IntKind.u8 (X : Int) 127 = ((X % 128 : Nat) : Int) := by
  have : ∀ X : Fin 256, bits BinOp.and IntKind.u8 (X.val : Int) 127 = ((X.val % 128 : Nat) : Int) := by decide +kernel
  exact this ⟨X, h⟩
theorem wrap_small {v : Int} (h0 : 0 ≤ v) (h : v < 18446744073709551616) : IntKind.u64.wrap v = v := by
  simp [IntKind.wrap, IntKind.bits, IntKind.signed]; omega
theorem short_or (x C k : Nat) (hx : x < 2 ^ (7 * k)) (hC : C < 256) (hk : k ≤ 9) (h9 : k = 9 → C ≤ 1) :
    bits BinOp.or IntKind.u64 (x : Int) (IntKind.u64.wrap (IntKind.u64.wrap (bits BinOp.and IntKind.u8 (C : Int) 127) * 2 ^ (7 * k))) = ((x + C % 128 * 2 ^ (7 * k) : Nat) : Int) ∧ x + C % 128 * 2 ^ (7 * k) < 18446744073709551616 := by
  have h2 : C % 128 * 2 ^ (7 * k) + 2 ^ (7 * k) ≤ 18446744073709551616 := by
    have h3 : C % 128 + 1 ≤ 128 ∧ (k = 9 → C % 128 + 1 ≤ 2) := by omega
    rw [← Nat.succ_mul]
    by_cases hk9 : k = 9
    · subst hk9
      exact Nat.le_trans (Nat.mul_le_mul_right _ (h3.2 rfl)) (by decide)
    · exact Nat.le_trans (Nat.mul_le_mul h3.1 (Nat.pow_le_pow_right (by decide) (show 7 * k ≤ 56 by omega))) (by decide)
  have h4 : 0 < 2 ^ (7 * k) := Nat.two_pow_pos _
  rw [bits_127 C hC, wrap_small (v := ((C % 128 : Nat) : Int)) (by omega) (by omega)]
  have h5 : (((C % 128 : Nat) : Int) * 2 ^ (7 * k)) = ((C % 128 * 2 ^ (7 * k) : Nat) : Int) := by push_cast; rfl
  rw [h5, wrap_small (by omega) (by omega), u64_or_nat _ _ (by omega) (by omega)]
  refine ⟨?_, by omega⟩
  congr 1
  rw [Nat.or_comm, Nat.mul_comm (C % 128), Nat.add_comm x]
  exact (Nat.two_pow_add_eq_or_of_lt hx _).symm
set_option maxRecDepth 100000 in
set_option maxHeartbeats 1000000 in
theorem short_any (A : Option Addr) (n c : Nat) (l : List UInt8) (B : Nat) (w : World) (h : RdB w B A n l) :
    Calls Tryz.prog 110 #[.slice A n c] w fun e w' => e = .returned (shortV (findShort l)) ∧ w' = w := by
  have hl := h.1
  go_enter Tryz.func110, Tryz.ntmps110
  go_wp2_with fail
  go_loopw [4, 9] (fun v i wr => ∃ k x : Nat, i = .int .i64 k ∧ v = .int .u64 x ∧ k ≤ n ∧ (k ≤ 9 ∨ k = n) ∧ x < 2 ^ (7 * k) ∧ findShort l = shortGo k x (l.drop k) ∧ wr = w) (fun _ i _ => n - (intOf i).toNat)
  case atStart => exact ⟨0, 0, rfl, rfl, Nat.zero_le _, .inl (by omega), by simp, rfl, rfl⟩
  case round =>
    obtain ⟨k, x, rfl, rfl, hk, hk9, hx, hf, rfl⟩ := hrel
    by_cases hlt : k < n
    · have d1 : decide ((k : Int) < (n : Int)) = true := by simp; omega
      have b1 : (0 : Int) ≤ (k : Int) := by omega
      have b2 : (k : Int) < (n : Int) := by omega
      obtain ⟨b, off, rfl, hb, hc⟩ := h.cellAt hlt
      have hc8 := (at8 l k).toNat_lt
      generalize hC : (at8 l k).toNat = C at *
      by_cases k9 : k = 9
      · subst k9
        by_cases c1 : 1 < C
        · have d2 : decide ((1 : Int) < (C : Int)) = true := by simp; omega
          go_wp2_with fail
          go_ret2
          refine ⟨?_, rfl⟩
          rw [hf, drop8 (by omega), shortGo, if_pos ⟨rfl, by rw [hC]; exact c1⟩]
          rfl
        · have d2 : decide ((1 : Int) < (C : Int)) = false := by simp; omega
          have d3 : decide ((C : Int) < 128) = true := by simp; omega
          obtain ⟨hor, hY⟩ := short_or x C 9 hx (by omega) (by omega) (fun _ => by omega)
          obtain ⟨Y, hYe⟩ : ∃ Y, Y = x + C % 128 * 2 ^ (7 * 9) := ⟨_, rfl⟩
          rw [← hYe] at hor hY
          have HY := Lib.hid hYe
          clear hYe
          have hor' : bits BinOp.or IntKind.u64 (x : Int) (IntKind.u64.wrap (IntKind.u64.wrap (bits BinOp.and IntKind.u8 (C : Int) 127) * 9223372036854775808)) = (Y : Int) := hor
          go_wp2_with fail
          refine (groups_any Y hY wr).mono ?_
          rintro e w' ⟨rfl, rfl⟩
          have hres : findShort l = if grp Y = 10 then some (Y, 10) else none := by
            rw [hf, drop8 (by omega), shortGo, if_neg (by rw [hC]; omega), if_pos (by rw [hC]; omega), hC, ← HY.out]
          by_cases hg : grp Y = 10
          · rw [if_pos hg] at hres
            rw [hg]
            go_wp2_with fail
            go_ret2
            exact ⟨by rw [hres]; rfl, rfl⟩
          · rw [if_neg hg] at hres
            have d4 : ((grp Y : Nat) : Int) ≠ 10 := by omega
            go_wp2_with fail
            go_ret2
            exact ⟨by rw [hres]; rfl, rfl⟩
      · have k9' : k < 9 := by omega
        have d0 : ((k : Int) == 9) = false := by simp; omega
        obtain ⟨hor, hY⟩ := short_or x C k hx (by omega) (by omega) (fun _ => by omega)
        obtain ⟨Y, hYe⟩ : ∃ Y, Y = x + C % 128 * 2 ^ (7 * k) := ⟨_, rfl⟩
        have hYl : Y < 2 ^ (7 * (k + 1)) := by
          have h4 : C % 128 + 1 ≤ 128 := by omega
          have h5 : (C % 128 + 1) * 2 ^ (7 * k) ≤ 128 * 2 ^ (7 * k) := Nat.mul_le_mul_right _ h4
          rw [Nat.succ_mul] at h5
          rw [Nat.mul_succ, Nat.pow_add]
          omega
        rw [← hYe] at hor hY
        have hstep : findShort l = if C < 128 then (if grp Y = k + 1 then some (Y, k + 1) else none) else shortGo (k + 1) Y (l.drop (k + 1)) := by
          rw [hf, drop8 (by omega), shortGo, if_neg (by omega), hC, ← hYe]
        by_cases c1 : C < 128
        · have d3 : decide ((C : Int) < 128) = true := by simp; omega
          rw [if_pos c1] at hstep
          clear hx hYe hYl hf
          go_wp2_with fail
          refine (groups_any Y hY wr).mono ?_
          rintro e w' ⟨rfl, rfl⟩
          by_cases hg : grp Y = k + 1
          · rw [if_pos hg] at hstep
            have d4 : (((grp Y : Nat) : Int) == (k : Int) + 1) = true := by simp; omega
            rw [hg]
            go_wp2_with fail
            go_ret2
            exact ⟨by rw [hstep]; simp [shortV], rfl⟩
          · rw [if_neg hg] at hstep
            have d4 : ¬ (((grp Y : Nat) : Int) = (k : Int) + 1) := by omega
            go_wp2_with fail
            go_ret2
            exact ⟨by rw [hstep]; rfl, rfl⟩
        · have d3 : decide ((C : Int) < 128) = false := by simp; omega
          rw [if_neg c1] at hstep
          clear hx hf hYe
          go_wp2_with fail
          go_roundw
          case rel => exact ⟨k + 1, Y, by go_num, rfl, by omega, by omega, hYl, hstep, by trivial⟩
          case measure => simp [intOf]; omega
    · have d1 : decide ((k : Int) < (n : Int)) = false := by simp; omega
      go_wp2_with fail
      go_ret2
      refine ⟨?_, rfl⟩
      rw [hf, List.drop_eq_nil_of_le (by omega)]
      rfl
end Go.Proofs.YtdbjihpdfiipcaaGreat
namespace Go.Proofs.YtdbjihpdfiipcaaGreat
open Go.RowKit
structure RS where
  l : List UInt8
  st : Bool
def RdAt (w : World) (b : Nat) (A : Option Addr) (n : Nat) (l : List UInt8) : Prop :=
  l.length = n ∧ (0 < n → ∃ off, A = some ⟨b, off, none⟩ ∧ b < w.heap.size ∧ ∀ j (hj : j < l.length), w.cell? ⟨b, off + j, none⟩ = some (bv l[j]))
theorem RdAt.rd {w : World} {b : Nat} {A : Option Addr} {n : Nat} {l : List UInt8} (h : RdAt w b A n l) : RdB w w.heap.size A n l :=
  ⟨h.1, fun hn => by
    obtain ⟨off, h1, h2, h3⟩ := h.2 hn
    exact ⟨b, off, h1, h2, h3⟩⟩
theorem RdAt.off {X : Nat → Prop} {w w' : World} {b : Nat} {A : Option Addr} {n : Nat} {l : List UInt8} (h : RdAt w b A n l) (hb : Off X w w') (hX : ¬ X b) : RdAt w' b A n l :=
  ⟨h.1, fun hn => by
    obtain ⟨off, h1, h2, h3⟩ := h.2 hn
    exact ⟨off, h1, Nat.lt_of_lt_of_le h2 hb.size, fun j hj => (hb.cell (p := ⟨b, off + j, none⟩) h2 hX).trans (h3 j hj)⟩⟩
theorem RdAt.sliced {w : World} {b : Nat} {A : Option Addr} {n : Nat} {l : List UInt8} (h : RdAt w b A n l) {i k c : Nat} (hi : i ≤ k) (hk : k ≤ n) (hc : n ≤ c) :
    ∃ A', sliced A i k c 1 = .slice A' (k - i) (c - i) ∧ RdAt w b A' (k - i) ((l.take k).drop i) := by
  refine ⟨_, rfl, by rw [List.length_drop, List.length_take, h.1]; omega, fun hp => ?_⟩
  obtain ⟨off, rfl, hb, hj⟩ := h.2 (by omega)
  refine ⟨off + i, ?_, hb, fun j hj' => ?_⟩
  · rw [if_neg (by omega)]
    simp [Addr.add]
  · rw [List.length_drop, List.length_take] at hj'
    rw [Nat.add_assoc, hj (i + j) (by omega)]
    simp
/-- A reader at p, whose bytes lie in block b. -/
def Rr (w : World) (p b : Nat) (s : RS) : Prop := b ≠ p ∧ ∃ A n c, Blk w p 143 [.slice A n c, .bool s.st] ∧ RdAt w b A n s.l ∧ n ≤ c
theorem Rr.off {X : Nat → Prop} {w w' : World} {p b : Nat} {s : RS} (h : Rr w p b s) (hb : Off X w w') (h1 : ¬ X p) (h2 : ¬ X b) : Rr w' p b s := by
  obtain ⟨h0, A, n, c, k, r, hc⟩ := h
  exact ⟨h0, A, n, c, k.off hb h1, r.off hb h2, hc⟩
/-- One step of a reader: what is found at the front is taken, or the reader is stopped. -/
def takeS {α : Type} (f : List UInt8 → Option (α × Nat)) (z : α) (s : RS) : α × RS :=
  if s.st then (z, s) else match f s.l with
    | none => (z, ⟨s.l, true⟩)
    | some (x, k) => (x, ⟨s.l.drop k, false⟩)
def findU8 : List UInt8 → Option (Nat × Nat)
  | [] => none
  | b :: _ => some (b.toNat, 1)
def findU32 : List UInt8 → Option (Nat × Nat)
  | a :: b :: c :: d :: _ => some (a.toNat + b.toNat * 256 + c.toNat * 65536 + d.toNat * 16777216, 4)
  | _ => none
def findText (most : Int) (l : List UInt8) : Option (List UInt8 × Nat) :=
  match findShort l with
  | none => none
  | some (x, k) => if most < 0 ∨ most < (x : Int) ∨ l.length < k + x then none else some ((l.drop k).take x, k + x)
def findRaw (n : Int) (l : List UInt8) : Option (List UInt8 × Nat) := if n < 0 ∨ (l.length : Int) < n then none else some (l.take n.toNat, n.toNat)
set_option maxRecDepth 100000 in
set_option maxHeartbeats 1000000 in
theorem newReader_any (A : Option Addr) (n c : Nat) (l : List UInt8) (w : World) (h : RdB w w.heap.size A n l) (hn : n ≤ 140737488355328) :
    Calls Tryz.prog 61 #[.slice A n c] w fun e w' => ∃ p b, w.heap.size ≤ p ∧ w.heap.size ≤ b ∧ e = .returned (.pointer (some ⟨p, 0, none⟩)) ∧ Rr w' p b ⟨l, false⟩ ∧ Below w.heap.size w w' := by
  go_enter Tryz.func61, Tryz.ntmps61
  go_wp2_with (at_builtin; go_must (refine appendG T23 rfl rfl rfl (OwnB.nil_ _ w.heap.size _) rfl h (by omega) (Nat.le_refl _) ?_); intro A' c' w' o1 f1 ho)
  go_ret
  rw [Nat.zero_add, List.nil_append] at o1
  have hs := f1.size
  have hr := o1.rd
  have f2 : Below w.heap.size w (w'.alloc (.cells #[.slice A' n c', .bool false] 143)) := (f1.below (Nat.le_refl _) (fun k hk => by obtain ⟨x, hx, _⟩ := hk; cases hx)).alloc hs _
  have kb : Blk (w'.alloc (.cells #[.slice A' n c', .bool false] 143)) w'.heap.size 143 [.slice A' n c', .bool false] := Blk.newAt rfl _ _
  have o2 := (o1.alloc (.cells #[.slice A' n c', .bool false] 143)).rd
  rcases ho with rfl | rfl
  · have hn0 : n = 0 := by
      refine Decidable.byContradiction fun h0 => ?_
      obtain ⟨b, off, h1, _⟩ := hr.2 (by omega)
      cases h1
    exact ⟨w'.heap.size, w'.heap.size + 1, hs, by omega, rfl, ⟨by omega, _, _, _, kb, ⟨hr.1, fun h0 => absurd h0 (by omega)⟩, o1.cap⟩, f2⟩
  · have hlt := o1.isB_lt ⟨_, rfl, rfl⟩
    refine ⟨w'.heap.size, w.heap.size, hs, Nat.le_refl _, rfl, ⟨by omega, _, _, _, kb, ⟨hr.1, fun h0 => ?_⟩, o1.cap⟩, f2⟩
    obtain ⟨b, off, h1, h2, h3⟩ := o2.2 h0
    injection h1 with h1
    injection h1 with e1 e2 _
    subst e1 e2
    exact ⟨0, rfl, h2, h3⟩
set_option maxRecDepth 100000 in
set_option maxHeartbeats 1000000 in
theorem err_any (p b : Nat) (s : RS) (w : World) (h : Rr w p b s) :
    Calls Tryz.prog 121 #[.pointer (some ⟨p, 0, none⟩)] w fun e w' => e = .returned (.int .i64 (if s.st then 2 else 0)) ∧ w' = w := by
  obtain ⟨_, A, n, c, k, r, hc⟩ := h
  have c1 := k.cell 1
  go_enter Tryz.func121, Tryz.ntmps121
  obtain ⟨l, st⟩ := s
  cases st
  · go_wp2_with fail
    go_ret
    exact ⟨rfl, rfl⟩
  · go_wp2_with fail
    go_ret
    exact ⟨rfl, rfl⟩
theorem err_nil (w : World) : Calls Tryz.prog 121 #[.pointer none] w fun e w' => e = .returned (.int .i64 2) ∧ w' = w := by
  go_enter Tryz.func121, Tryz.ntmps121
  go_wp2_with fail
  go_ret
  exact ⟨rfl, rfl⟩
set_option maxRecDepth 100000 in
set_option maxHeartbeats 1000000 in
theorem left_any (p b : Nat) (s : RS) (w : World) (h : Rr w p b s) :
    Calls Tryz.prog 120 #[.pointer (some ⟨p, 0, none⟩)] w fun e w' => e = .returned (.int .i64 (s.l.length : Nat)) ∧ w' = w := by
  obtain ⟨_, A, n, c, k, r, hc⟩ := h
  have c1 := k.cell 0
  rw [r.1]
  go_enter Tryz.func120, Tryz.ntmps120
  go_wp2_with fail
  go_ret
  exact ⟨rfl, rfl⟩
theorem left_nil (w : World) : Calls Tryz.prog 120 #[.pointer none] w fun e w' => e = .returned (.int .i64 0) ∧ w' = w := by
  go_enter Tryz.func120, Tryz.ntmps120
  go_wp2_with fail
  go_ret
  exact ⟨rfl, rfl⟩
set_option maxRecDepth 100000 in
set_option maxHeartbeats 1000000 in
theorem fail_any (p b : Nat) (s : RS) (w : World) (h : Rr w p b s) :
    Calls Tryz.prog 113 #[.pointer (some ⟨p, 0, none⟩)] w fun e w' => e = .returned (.tuple #[]) ∧ Rr w' p b ⟨s.l, true⟩ ∧ Off (fun k => k = p) w w' := by
  obtain ⟨h0, A, n, c, k, r, hc⟩ := h
  have c1 := k.cell 1
  have z1 := k.frozen 1
  go_enter Tryz.func113, Tryz.ntmps113
  go_wp2_with fail
  go_end0
  have o : Off (fun k => k = p) w (w.setCell ⟨p, 1, none⟩ (.bool true)) := (Off.refl (fun k => k = p) w).setCell (p := ⟨p, 1, none⟩) (fun _ => rfl) _
  exact ⟨rfl, ⟨h0, A, n, c, k.set 1 _, r.off o h0, hc⟩, o⟩
theorem fail_nil (w : World) : Calls Tryz.prog 113 #[.pointer none] w fun e w' => e = .returned (.tuple #[]) ∧ w' = w := by
  go_enter Tryz.func113, Tryz.ntmps113
  go_wp2_with fail
  go_end0
  exact ⟨rfl, rfl⟩
end Go.Proofs.YtdbjihpdfiipcaaGreat
namespace Go.Proofs.YtdbjihpdfiipcaaGreat
open Go.RowKit
theorem Rr.adv {w : World} {p b : Nat} {off n c : Nat} {A : Option Addr} {l : List UInt8} {st : Bool} (h0 : b ≠ p) (k : Blk w p 143 [.slice A n c, .bool st]) (r : RdAt w b A n l) {i n' c' : Nat} (hi : i ≤ n)
    {A' : Option Addr} (hA : (A = some ⟨b, off, none⟩ ∧ A' = some ⟨b, off + i, none⟩) ∨ n' = 0) (hn : n' = n - i) (hc' : n - i ≤ c') : Rr (w.setCell ⟨p, 0, none⟩ (.slice A' n' c')) p b ⟨l.drop i, st⟩ ∧ Off (fun k => k = p) w (w.setCell ⟨p, 0, none⟩ (.slice A' n' c')) := by
  have o : Off (fun k => k = p) w (w.setCell ⟨p, 0, none⟩ (.slice A' n' c')) := (Off.refl (fun k => k = p) w).setCell (p := ⟨p, 0, none⟩) (fun _ => rfl) _
  refine ⟨⟨h0, A', n', c', k.set 0 _, ⟨by rw [List.length_drop, r.1, hn], fun hp => ?_⟩, by omega⟩, o⟩
  rcases hA with ⟨rfl, rfl⟩ | hA
  · obtain ⟨off', h1, h2, h3⟩ := r.2 (by omega)
    injection h1 with h1
    injection h1 with _ h1 _
    subst h1
    refine ⟨_, rfl, Nat.lt_of_lt_of_le h2 o.size, fun j hj => ?_⟩
    rw [List.length_drop] at hj
    rw [o.cell (p := ⟨b, off + i + j, none⟩) h2 h0, Nat.add_assoc, h3 (i + j) (by omega)]
    simp
  · omega
theorem Rr.stop {w : World} {p b : Nat} {s : RS} (h : Rr w p b s) : Rr (w.setCell ⟨p, 1, none⟩ (.bool true)) p b ⟨s.l, true⟩ ∧ Off (fun k => k = p) w (w.setCell ⟨p, 1, none⟩ (.bool true)) := by
  obtain ⟨h0, A, n, c, k, r, hc⟩ := h
  have o : Off (fun k => k = p) w (w.setCell ⟨p, 1, none⟩ (.bool true)) := (Off.refl (fun k => k = p) w).setCell (p := ⟨p, 1, none⟩) (fun _ => rfl) _
  exact ⟨⟨h0, A, n, c, k.set 1 _, r.off o h0, hc⟩, o⟩
theorem Rr.alloc {w w' : World} {p b : Nat} {s : RS} (h : Rr w' p b s ∧ Off (fun k => k = p) w w') (o : Obj) : Rr (w'.alloc o) p b s ∧ Off (fun k => k = p) w (w'.alloc o) :=
  ⟨h.1.off ((Off.refl (fun _ => False) w').alloc o) id id, h.2.alloc o⟩
theorem RdAt.cellAt {w : World} {b off : Nat} {n : Nat} {l : List UInt8} (h : RdAt w b (some ⟨b, off, none⟩) n l) {j : Nat} (hj : j < n) : w.cell? ⟨b, off + j, none⟩ = some (.int .u8 ((at8 l j).toNat : Int)) := by
  obtain ⟨off', h1, hb, hc⟩ := h.2 (by omega)
  injection h1 with h1
  injection h1 with _ h1 _
  subst h1
  have hl := h.1
  rw [hc j (by omega)]
  simp [bv, at8, List.getD, show j < l.length by omega]
set_option maxRecDepth 100000 in
set_option maxHeartbeats 1000000 in
theorem rU8_any (p b : Nat) (s : RS) (w : World) (h : Rr w p b s) :
    Calls Tryz.prog 184 #[.pointer (some ⟨p, 0, none⟩)] w fun e w' => e = .returned (.int .u8 ((takeS findU8 0 s).1 : Nat)) ∧ Rr w' p b (takeS findU8 0 s).2 ∧ Off (fun k => k = p) w w' := by
  have h' := h
  obtain ⟨h0, A, n, c, k, r, hc⟩ := h
  have c0 := k.cell 0
  have c1 := k.cell 1
  have z0 := k.frozen 0
  have z1 := k.frozen 1
  have hl := r.1
  go_enter Tryz.func184, Tryz.ntmps184
  obtain ⟨l, st⟩ := s
  cases st
  · cases l with
    | nil =>
      obtain rfl : n = 0 := hl.symm
      go_wp2_with (first | go_in)
      go_ret
      exact ⟨rfl, Rr.alloc h'.stop _⟩
    | cons x l =>
      have b1 : (0 : Int) < (n : Int) := by rw [← hl]; simp
      have hn : 0 < n := by omega
      have b3 : ((n : Int) == 0) = false := by simp; omega
      obtain ⟨off, rfl, hb, hj⟩ := r.2 hn
      have c3 : w.cell? ⟨b, off, none⟩ = some (.int .u8 (x.toNat : Int)) := hj 0 (by simp)
      clear hj hl
      go_wp2_with (first | go_in)
      · go_ret
        exact ⟨rfl, Rr.adv (off := off) (i := 1) h0 k r hn (.inr (by omega)) rfl (by omega)⟩
      · go_ret
        exact ⟨rfl, Rr.adv (off := off) (i := 1) h0 k r hn (.inl ⟨rfl, rfl⟩) rfl (by omega)⟩
  · go_wp2_with (first | go_in)
    go_ret
    exact ⟨rfl, h', Off.refl _ _⟩
theorem rU8_nil (w : World) : Calls Tryz.prog 184 #[.pointer none] w fun e w' => e = .returned (.int .u8 0) ∧ w' = w := by
  go_enter Tryz.func184, Tryz.ntmps184
  go_wp2_with (first | go_in)
  go_ret
  exact ⟨rfl, rfl⟩
theorem bits_or24 (a b c d : Nat) (ha : a < 256) (hb : b < 256) (hc : c < 256) (hd : d < 256) :
    bits BinOp.or .u32 (bits BinOp.or .u32 (bits BinOp.or .u32 ((d : Int) * 16777216) ((c : Int) * 65536)) ((b : Int) * 256)) (a : Int) = ((a + b * 256 + c * 65536 + d * 16777216 : Nat) : Int) := by
  rw [show (d : Int) * 16777216 = ((2 ^ 24 * d : Nat) : Int) from by omega, show (c : Int) * 65536 = ((2 ^ 16 * c : Nat) : Int) from by omega, show (b : Int) * 256 = ((2 ^ 8 * b : Nat) : Int) from by omega,
    u32_or_nat _ _ (by omega) (by omega), ← Nat.two_pow_add_eq_or_of_lt (by omega), u32_or_nat _ _ (by omega) (by omega),
    show 2 ^ 24 * d + 2 ^ 16 * c = 2 ^ 16 * (2 ^ 8 * d + c) from by omega, ← Nat.two_pow_add_eq_or_of_lt (by omega), u32_or_nat _ _ (by omega) (by omega),
    show 2 ^ 16 * (2 ^ 8 * d + c) + 2 ^ 8 * b = 2 ^ 8 * (2 ^ 16 * d + 2 ^ 8 * c + b) from by omega, ← Nat.two_pow_add_eq_or_of_lt (by omega)]
  congr 1
  omega
set_option maxRecDepth 100000 in
set_option maxHeartbeats 1000000 in
theorem rU32_any (p b : Nat) (s : RS) (w : World) (h : Rr w p b s) :
    Calls Tryz.prog 183 #[.pointer (some ⟨p, 0, none⟩)] w fun e w' => e = .returned (.int .u32 ((takeS findU32 0 s).1 : Nat)) ∧ Rr w' p b (takeS findU32 0 s).2 ∧ Off (fun k => k = p) w w' := by
  have h' := h
  obtain ⟨h0, A, n, c, k, r, hc⟩ := h
  have c0 := k.cell 0
  have c1 := k.cell 1
  have z0 := k.frozen 0
  have z1 := k.frozen 1
  have hl := r.1
  go_enter Tryz.func183, Tryz.ntmps183
  obtain ⟨l, st⟩ := s
  cases st
  · by_cases h4 : n < 4
    · have b3 : decide ((n : Int) < 4) = true := by simp; omega
      have hf : findU32 l = none := by
        rcases l with _ | ⟨x0, _ | ⟨x1, _ | ⟨x2, _ | ⟨x3, l⟩⟩⟩⟩ <;> first | rfl | (simp at hl; omega)
      go_wp2_with (first | go_in)
      go_ret
      simp only [takeS, hf, Bool.false_eq_true, if_false]
      exact ⟨rfl, Rr.alloc h'.stop _⟩
    · have b3 : decide ((n : Int) < 4) = false := by simp; omega
      obtain ⟨off, rfl, hb, hj⟩ := r.2 (by omega)
      rcases l with _ | ⟨x0, _ | ⟨x1, _ | ⟨x2, _ | ⟨x3, l⟩⟩⟩⟩
      any_goals (simp at hl; omega)
      have e0 : w.cell? ⟨b, off, none⟩ = some (.int .u8 (x0.toNat : Int)) := hj 0 (by simp)
      have e1 : w.cell? ⟨b, off + 1, none⟩ = some (.int .u8 (x1.toNat : Int)) := hj 1 (by simp)
      have e2 : w.cell? ⟨b, off + 2, none⟩ = some (.int .u8 (x2.toNat : Int)) := hj 2 (by simp)
      have e3 : w.cell? ⟨b, off + 3, none⟩ = some (.int .u8 (x3.toNat : Int)) := hj 3 (by simp)
      have hor := bits_or24 x0.toNat x1.toNat x2.toNat x3.toNat x0.toNat_lt x1.toNat_lt x2.toNat_lt x3.toNat_lt
      have y1 := x1.toNat_lt
      have y2 := x2.toNat_lt
      have y3 := x3.toNat_lt
      have y0 := x0.toNat_lt
      have b0 : (0 : Int) < (n : Int) := by omega
      have b1 : (1 : Int) < (n : Int) := by omega
      have b2 : (2 : Int) < (n : Int) := by omega
      have b4 : (3 : Int) < (n : Int) := by omega
      have hn : 4 ≤ n := by omega
      have hr : takeS findU32 0 ⟨x0 :: x1 :: x2 :: x3 :: l, false⟩ = (x0.toNat + x1.toNat * 256 + x2.toNat * 65536 + x3.toNat * 16777216, ⟨(x0 :: x1 :: x2 :: x3 :: l).drop 4, false⟩) := rfl
      rw [hr]
      have b5 : (4 : Int) ≤ (n : Int) := by omega
      have hn0 : 0 < n := by omega
      clear hj hl hr
      generalize x0.toNat = X0 at *
      generalize x1.toNat = X1 at *
      generalize x2.toNat = X2 at *
      generalize x3.toNat = X3 at *
      go_wp2_with (first | go_in)
      refine wp_region_order (fun w' => w'.cell? ⟨b, off, none⟩ = some (.int .u8 (X0 : Int)) ∧ w'.cell? ⟨b, off + 1, none⟩ = some (.int .u8 (X1 : Int)) ∧ w'.cell? ⟨b, off + 2, none⟩ = some (.int .u8 (X2 : Int)) ∧ w'.cell? ⟨b, off + 3, none⟩ = some (.int .u8 (X3 : Int))) 23 [(0,0), (1,0), (2,0), (3,0), (4,0), (5,0), (6,0), (7,0), (8,0), (9,0), (10,0), (11,0), (12,0), (13,0), (14,0), (15,0), (16,0), (17,0), (18,0), (19,0), (20,0), (21,0), (22,0), (23,2)] (by kernel_rfl) (by kernel_rfl) ?_
      simp only [pick, List.filterMap_cons, List.filterMap_nil, List.getElem?_cons_zero, List.getElem?_cons_succ, Option.map_some]
      have hS : w.drew.cell? ⟨b, off, none⟩ = some (.int .u8 (X0 : Int)) ∧ w.drew.cell? ⟨b, off + 1, none⟩ = some (.int .u8 (X1 : Int)) ∧ w.drew.cell? ⟨b, off + 2, none⟩ = some (.int .u8 (X2 : Int)) ∧ w.drew.cell? ⟨b, off + 3, none⟩ = some (.int .u8 (X3 : Int)) := ⟨e0, e1, e2, e3⟩
      refine wpF_take (v := ?_) hS rfl ?_ (fun _ _ _ h => h) ?_
      rotate_left
      · intro w' hS'
        obtain ⟨e0, e1, e2, e3⟩ := hS'
        go_simp <;> rfl
      go_simp
      refine wpF_take (v := ?_) hS rfl ?_ (fun _ _ _ h => h) ?_
      rotate_left
      · intro w' hS'
        obtain ⟨e0, e1, e2, e3⟩ := hS'
        go_simp <;> rfl
      go_simp
      refine wpF_take (v := ?_) hS rfl ?_ (fun _ _ _ h => h) ?_
      rotate_left
      · intro w' hS'
        obtain ⟨e0, e1, e2, e3⟩ := hS'
        go_simp <;> rfl
      go_simp
      refine wpF_take (v := ?_) hS rfl ?_ (fun _ _ _ h => h) ?_
      rotate_left
      · intro w' hS'
        obtain ⟨e0, e1, e2, e3⟩ := hS'
        go_simp <;> rfl
      go_simp
      refine wpF_take (v := ?_) hS rfl ?_ (fun _ _ _ h => h) ?_
      rotate_left
      · intro w' hS'
        obtain ⟨e0, e1, e2, e3⟩ := hS'
        go_simp <;> rfl
      go_simp
      refine wpF_take (v := ?_) hS rfl ?_ (fun _ _ _ h => h) ?_
      rotate_left
      · intro w' hS'
        obtain ⟨e0, e1, e2, e3⟩ := hS'
        go_simp <;> rfl
      go_simp
      refine wpF_take (v := ?_) hS rfl ?_ (fun _ _ _ h => h) ?_
      rotate_left
      · intro w' hS'
        obtain ⟨e0, e1, e2, e3⟩ := hS'
        go_simp <;> rfl
      go_simp
      refine wpF_take (v := ?_) hS rfl ?_ (fun _ _ _ h => h) ?_
      rotate_left
      · intro w' hS'
        obtain ⟨e0, e1, e2, e3⟩ := hS'
        go_simp <;> rfl
      go_simp
      refine wpF_take (v := ?_) hS rfl ?_ (fun _ _ _ h => h) ?_
      rotate_left
      · intro w' hS'
        obtain ⟨e0, e1, e2, e3⟩ := hS'
        go_simp <;> rfl
      go_simp
      refine wpF_take (v := ?_) hS rfl ?_ (fun _ _ _ h => h) ?_
      rotate_left
      · intro w' hS'
        obtain ⟨e0, e1, e2, e3⟩ := hS'
        go_simp <;> rfl
      go_simp
      refine wpF_take (v := ?_) hS rfl ?_ (fun _ _ _ h => h) ?_
      rotate_left
      · intro w' hS'
        obtain ⟨e0, e1, e2, e3⟩ := hS'
        go_simp <;> rfl
      go_simp
      refine wpF_take (v := ?_) hS rfl ?_ (fun _ _ _ h => h) ?_
      rotate_left
      · intro w' hS'
        obtain ⟨e0, e1, e2, e3⟩ := hS'
        go_simp <;> rfl
      go_simp
      refine wpF_take (v := ?_) hS rfl ?_ (fun _ _ _ h => h) ?_
      rotate_left
      · intro w' hS'
        obtain ⟨e0, e1, e2, e3⟩ := hS'
        go_simp <;> rfl
      go_simp
      refine wpF_take (v := ?_) hS rfl ?_ (fun _ _ _ h => h) ?_
      rotate_left
      · intro w' hS'
        obtain ⟨e0, e1, e2, e3⟩ := hS'
        go_simp <;> rfl
      go_simp
      refine wpF_take (v := ?_) hS rfl ?_ (fun _ _ _ h => h) ?_
      rotate_left
      · intro w' hS'
        obtain ⟨e0, e1, e2, e3⟩ := hS'
        go_simp <;> rfl
      go_simp
      refine wpF_take (v := ?_) hS rfl ?_ (fun _ _ _ h => h) ?_
      rotate_left
      · intro w' hS'
        obtain ⟨e0, e1, e2, e3⟩ := hS'
        go_simp <;> rfl
      go_simp
      refine wpF_take (v := ?_) hS rfl ?_ (fun _ _ _ h => h) ?_
      rotate_left
      · intro w' hS'
        obtain ⟨e0, e1, e2, e3⟩ := hS'
        go_simp <;> rfl
      go_simp
      refine wpF_take (v := ?_) hS rfl ?_ (fun _ _ _ h => h) ?_
      rotate_left
      · intro w' hS'
        obtain ⟨e0, e1, e2, e3⟩ := hS'
        go_simp <;> rfl
      go_simp
      refine wpF_take (v := ?_) hS rfl ?_ (fun _ _ _ h => h) ?_
      rotate_left
      · intro w' hS'
        obtain ⟨e0, e1, e2, e3⟩ := hS'
        go_simp <;> rfl
      go_simp
      refine wpF_take (v := ?_) hS rfl ?_ (fun _ _ _ h => h) ?_
      rotate_left
      · intro w' hS'
        obtain ⟨e0, e1, e2, e3⟩ := hS'
        go_simp <;> rfl
      go_simp
      refine wpF_take (v := ?_) hS rfl ?_ (fun _ _ _ h => h) ?_
      rotate_left
      · intro w' hS'
        obtain ⟨e0, e1, e2, e3⟩ := hS'
        go_simp <;> rfl
      go_simp
      refine wpF_take (v := ?_) hS rfl ?_ (fun _ _ _ h => h) ?_
      rotate_left
      · intro w' hS'
        obtain ⟨e0, e1, e2, e3⟩ := hS'
        go_simp <;> rfl
      go_simp
      refine wpF_take (v := ?_) hS rfl ?_ (fun _ _ _ h => h) ?_
      rotate_left
      · intro w' hS'
        obtain ⟨e0, e1, e2, e3⟩ := hS'
        go_simp <;> rfl
      go_simp
      refine wpF_only rfl (fun K hK => ?_)
      have v0 : IntKind.u32.wrap (X0 : Int) = X0 := by simp [IntKind.wrap, IntKind.bits, IntKind.signed]; omega
      have v1 : IntKind.u32.wrap (X1 : Int) = X1 := by simp [IntKind.wrap, IntKind.bits, IntKind.signed]; omega
      have v2 : IntKind.u32.wrap (X2 : Int) = X2 := by simp [IntKind.wrap, IntKind.bits, IntKind.signed]; omega
      have v3 : IntKind.u32.wrap (X3 : Int) = X3 := by simp [IntKind.wrap, IntKind.bits, IntKind.signed]; omega
      have u1 : IntKind.u32.wrap ((X1 : Int) * 256) = (X1 : Int) * 256 := by simp [IntKind.wrap, IntKind.bits, IntKind.signed]; omega
      have u2 : IntKind.u32.wrap ((X2 : Int) * 65536) = (X2 : Int) * 65536 := by simp [IntKind.wrap, IntKind.bits, IntKind.signed]; omega
      have u3 : IntKind.u32.wrap ((X3 : Int) * 16777216) = (X3 : Int) * 16777216 := by simp [IntKind.wrap, IntKind.bits, IntKind.signed]; omega
      rw [v0, v1, v2, v3, u1, u2, u3, hor]
      go_wp2_with fail
      refine ⟨fun h => absurd h (by omega), wpF_nil ?_⟩
      have c0' : w.drew.cell? ⟨p, 0, none⟩ = some (.slice (some ⟨b, off, none⟩) n c) := c0
      have z0' : w.drew.frozen? ⟨p, 0, none⟩ = false := z0
      clear hS
      go_wp2_with (first | go_in)
      · go_ret
        have q := Rr.adv (A' := some ⟨b, off, none⟩) (n' := n - 4) (c' := 0) (off := off) (i := 4) h0 k r hn (.inr (by omega)) rfl (by omega)
        exact ⟨rfl, q.1, q.2.drew⟩
      · go_ret
        have q := Rr.adv (A' := some ⟨b, off + 4, none⟩) (n' := n - 4) (c' := c - 4) (off := off) (i := 4) h0 k r hn (.inl ⟨rfl, rfl⟩) rfl (by omega)
        exact ⟨rfl, q.1, q.2.drew⟩
  · go_wp2_with (first | go_in)
    go_ret
    exact ⟨rfl, h', Off.refl _ _⟩
theorem rU32_nil (w : World) : Calls Tryz.prog 183 #[.pointer none] w fun e w' => e = .returned (.int .u32 0) ∧ w' = w := by
  go_enter Tryz.func183, Tryz.ntmps183
  go_wp2_with (first | go_in)
  go_ret
  exact ⟨rfl, rfl⟩
end Go.Proofs.YtdbjihpdfiipcaaGreat
namespace Go.Proofs.YtdbjihpdfiipcaaGreat
open Go.RowKit
theorem shortGo_le : ∀ (l : List UInt8) (i x y k : Nat), x < 2 ^ (7 * i) → i ≤ 9 → shortGo i x l = some (y, k) → i < k ∧ k ≤ i + l.length ∧ y < 18446744073709551616
  | [], _, _, _, _, _, _, h => by cases h
  | c :: r, i, x, y, k, hx, hi, h => by
    have hc := c.toNat_lt
    rw [shortGo] at h
    split at h
    · cases h
    · rename_i h9
      obtain ⟨_, hY⟩ := short_or x c.toNat i hx hc hi (fun e => by omega)
      split at h
      · split at h
        · injection h with h
          injection h with h1 h2
          subst h1 h2
          exact ⟨by omega, by simp, hY⟩
        · cases h
      · have hi8 : i + 1 ≤ 9 := by omega
        have hx2 : x + c.toNat % 128 * 2 ^ (7 * i) < 2 ^ (7 * (i + 1)) := by
          have h4 : c.toNat % 128 + 1 ≤ 128 := by omega
          have h5 : (c.toNat % 128 + 1) * 2 ^ (7 * i) ≤ 128 * 2 ^ (7 * i) := Nat.mul_le_mul_right _ h4
          rw [Nat.succ_mul] at h5
          rw [Nat.mul_succ, Nat.pow_add]
          omega
        obtain ⟨h1, h2, h3⟩ := shortGo_le r (i + 1) _ y k hx2 hi8 h
        exact ⟨by omega, by rw [List.length_cons]; omega, h3⟩
theorem findShort_le {l : List UInt8} {y k : Nat} (h : findShort l = some (y, k)) : 0 < k ∧ k ≤ l.length ∧ y < 18446744073709551616 := by
  have := shortGo_le l 0 0 y k (by simp) (by omega) h
  omega
set_option maxRecDepth 100000 in
set_option maxHeartbeats 1000000 in
theorem rUint_any (p b : Nat) (s : RS) (w : World) (h : Rr w p b s) :
    Calls Tryz.prog 62 #[.pointer (some ⟨p, 0, none⟩)] w fun e w' => e = .returned (.int .u64 ((takeS findShort 0 s).1 : Nat)) ∧ Rr w' p b (takeS findShort 0 s).2 ∧ Off (fun k => k = p) w w' := by
  have h' := h
  obtain ⟨h0, A, n, c, k, r, hc⟩ := h
  have c0 := k.cell 0
  have c1 := k.cell 1
  have z0 := k.frozen 0
  have z1 := k.frozen 1
  have hl := r.1
  go_enter Tryz.func62, Tryz.ntmps62
  obtain ⟨l, st⟩ := s
  cases st
  · cases hf : findShort l with
    | none =>
      go_wp2_with (first | (go_at_call 110; refine (short_any A n c l _ w r.rd).mono ?_; rintro e w' ⟨rfl, rfl⟩; rw [hf, shortV]) | go_in)
      go_ret
      rw [takeS, hf]
      exact ⟨rfl, Rr.alloc h'.stop _⟩
    | some yk =>
      obtain ⟨y, i⟩ := yk
      obtain ⟨hi0, hi, hy⟩ := findShort_le hf
      simp only at hl hi
      obtain ⟨off, rfl, hb, hj⟩ := r.2 (by omega)
      have b1 : (0 : Int) ≤ (i : Int) := by omega
      have b2 : (i : Int) ≤ (n : Int) := by omega
      have b4 : ¬ ((i : Int) < 0) := by omega
      have hn : i ≤ n := by omega
      have hi2 : i ≠ 0 := by omega
      clear hj hl
      go_wp2_with (first | (go_at_call 110; refine (short_any _ n c l _ w r.rd).mono ?_; rintro e w' ⟨rfl, rfl⟩; rw [hf, shortV]) | go_in)
      · go_ret
        rw [takeS, hf]
        exact ⟨rfl, Rr.adv (off := off) (i := i) h0 k r hn (.inr (by omega)) rfl (by omega)⟩
      · go_ret
        rw [takeS, hf]
        exact ⟨rfl, Rr.adv (off := off) (i := i) h0 k r hn (.inl ⟨rfl, rfl⟩) rfl (by omega)⟩
  · go_wp2_with (first | go_in)
    go_ret
    exact ⟨rfl, h', Off.refl _ _⟩
theorem rUint_nil (w : World) : Calls Tryz.prog 62 #[.pointer none] w fun e w' => e = .returned (.int .u64 0) ∧ w' = w := by
  go_enter Tryz.func62, Tryz.ntmps62
  go_wp2_with (first | go_in)
  go_ret
  exact ⟨rfl, rfl⟩
end Go.Proofs.YtdbjihpdfiipcaaGreat
namespace Go.Proofs.YtdbjihpdfiipcaaGreat
open Go.RowKit
section
variable {P : Program} {t e : TypeId} {o : Oper} {a : Act} {K : Act → World → Prop} {Q : Exit → Act → World → Prop} {w w0 : World} {B : Nat} {A : Option Addr} {n c : Nat} {l : List UInt8}
theorem run_sliceB (T : ByteTy P t e) (lo hi : Option Value) {i k : Nat} (hb : (Instr.sliceBounds true n c lo hi none).run P w = .ok (i, k, c) w) :
    (Instr.sliceAt t (.slice A n c) lo hi none).run P w = .ok (sliced A i k c 1) w := by
  obtain ⟨j, hj, hz0, hz1, hz2⟩ := info_parts T.info
  simp [Instr.sliceAt, run_underlying T.sl, Instr.slice, hb, sizeOf, typeInfo, hj, hz1, sliced]
theorem wp_slice_h (T : ByteTy P t e) {x y : Operand} (ho : o.op = .slice t x none (some y) none) (hx : a.eval x = .slice A n c) {k : Nat} (hy : a.eval y = .int .i64 (k : Int)) (hr : RdB w0 B A n l) (hk : k ≤ n) (hc : n ≤ c)
    (h : ∀ A', RdB w0 B A' k (l.take k) → K (a.put o.dst (.slice A' k c)) w) : o.wp P a w K Q := by
  obtain ⟨A', e', r'⟩ := hr.sliced (Nat.zero_le k) hk hc
  unfold Oper.wp execOp
  simp only [ho, hx, hy, Option.map_some, Option.map_none, Sem.run_bind]
  rw [run_sliceB T none (some (.int .i64 (k : Int))) (i := 0) (k := k) (by simp [Instr.sliceBounds, run_sliceBound, show (k : Int) ≤ c by omega]), e']
  exact h A' (by simpa using r')
theorem wp_slice_lh (T : ByteTy P t e) {x y z : Operand} (ho : o.op = .slice t x (some z) (some y) none) (hx : a.eval x = .slice A n c) {i k : Nat} (hy : a.eval y = .int .i64 (k : Int)) (hz : a.eval z = .int .i64 (i : Int)) (hr : RdB w0 B A n l) (hi : i ≤ k) (hk : k ≤ n) (hc : n ≤ c)
    (h : ∀ A', RdB w0 B A' (k - i) ((l.take k).drop i) → K (a.put o.dst (.slice A' (k - i) (c - i))) w) : o.wp P a w K Q := by
  obtain ⟨A', e', r'⟩ := hr.sliced hi hk hc
  unfold Oper.wp execOp
  simp only [ho, hx, hy, hz, Option.map_some, Option.map_none, Sem.run_bind]
  rw [run_sliceB T (some (.int .i64 (i : Int))) (some (.int .i64 (k : Int))) (i := i) (k := k) (by simp [Instr.sliceBounds, run_sliceBound, show (k : Int) ≤ c by omega, show (i : Int) ≤ k by omega]), e']
  exact h A' r'
theorem wp_slice_l (T : ByteTy P t e) {x z : Operand} (ho : o.op = .slice t x (some z) none none) (hx : a.eval x = .slice A n c) {i : Nat} (hz : a.eval z = .int .i64 (i : Int)) (hr : RdB w0 B A n l) (hi : i ≤ n) (hc : n ≤ c)
    (h : ∀ A', RdB w0 B A' (n - i) (l.drop i) → K (a.put o.dst (.slice A' (n - i) (c - i))) w) : o.wp P a w K Q := by
  obtain ⟨A', e', r'⟩ := hr.sliced hi (Nat.le_refl n) hc
  unfold Oper.wp execOp
  simp only [ho, hx, hz, Option.map_some, Option.map_none, Sem.run_bind]
  rw [run_sliceB T (some (.int .i64 (i : Int))) none (i := i) (k := n) (by simp [Instr.sliceBounds, run_sliceBound, show (i : Int) ≤ n by omega]), e']
  exact h A' (by rw [List.take_of_length_le (by rw [hr.1]; exact Nat.le_refl n)] at r'; exact r')
end
end Go.Proofs.YtdbjihpdfiipcaaGreat
namespace Go.Proofs.YtdbjihpdfiipcaaGreat
open Go.RowKit
theorem Off.heapLt {X : Nat → Prop} {w w' : World} (h : Off X w w') {k : Nat} (hk : k < w.heap.size) : k < w'.heap.size := Nat.lt_of_lt_of_le hk h.size
theorem Rr.adv2 {w w0 : World} {p b : Nat} {n c : Nat} {A : Option Addr} {l : List UInt8} {st : Bool} (h0 : b ≠ p) (k : Blk w p 143 [.slice A n c, .bool st]) (r : RdAt w b A n l) {i n' c' : Nat} (hi : i ≤ n)
    (hf : Off (fun k => k = p) w0 w) {A' : Option Addr} (hA : A' = A.map (fun x => x.add i) ∨ n' = 0) (hn : n' = n - i) (hc' : n - i ≤ c') : Rr (w.setCell ⟨p, 0, none⟩ (.slice A' n' c')) p b ⟨l.drop i, st⟩ ∧ Off (fun k => k = p) w0 (w.setCell ⟨p, 0, none⟩ (.slice A' n' c')) := by
  have q : Rr (w.setCell ⟨p, 0, none⟩ (.slice A' n' c')) p b ⟨l.drop i, st⟩ ∧ Off (fun k => k = p) w (w.setCell ⟨p, 0, none⟩ (.slice A' n' c')) := by
    by_cases h1 : n' = 0
    · exact Rr.adv (off := 0) h0 k r hi (.inr h1) hn hc'
    · obtain ⟨off, rfl, _⟩ := r.2 (by omega)
      rcases hA with rfl | hA
      · exact Rr.adv (off := off) h0 k r hi (.inl ⟨rfl, by simp [Addr.add]⟩) hn hc'
      · exact absurd hA h1
  exact ⟨q.1, hf.trans q.2 fun _ _ h => h⟩
set_option maxRecDepth 100000 in
set_option maxHeartbeats 1000000 in
theorem end_any (p b : Nat) (s : RS) (w : World) (h : Rr w p b s) :
    Calls Tryz.prog 67 #[.pointer (some ⟨p, 0, none⟩)] w fun e w' => e = .returned (.int .i64 (if s.st || !s.l.isEmpty then 2 else 0)) ∧ Rr w' p b ⟨s.l, s.st || !s.l.isEmpty⟩ ∧ Off (fun k => k = p) w w' := by
  go_enter Tryz.func67, Tryz.ntmps67
  go_wp2_with fail
  refine (left_any p b s w h).mono ?_
  rintro e w1 ⟨rfl, rfl⟩
  obtain ⟨l, st⟩ := s
  cases l with
  | nil =>
    go_wp2_with fail
    refine (err_any p b _ w1 h).mono ?_
    rintro e w2 ⟨rfl, rfl⟩
    cases st
    · go_wp2_with fail
      go_ret
      exact ⟨rfl, h, Off.refl _ _⟩
    · go_wp2_with fail
      go_ret
      exact ⟨rfl, h, Off.refl _ _⟩
  | cons x l =>
    have b1 : decide ((0 : Int) < ((x :: l).length : Nat)) = true := by simp
    simp only
    go_wp2_with fail
    refine (fail_any p b _ w1 h).mono ?_
    rintro e w2 ⟨rfl, h2, f2⟩
    go_wp2_with fail
    refine (err_any p b _ w2 h2).mono ?_
    rintro e w3 ⟨rfl, rfl⟩
    go_wp2_with fail
    go_ret
    exact ⟨by simp, by simpa using h2, f2⟩
theorem end_nil (w : World) : Calls Tryz.prog 67 #[.pointer none] w fun e w' => e = .returned (.int .i64 2) ∧ w' = w := by
  go_enter Tryz.func67, Tryz.ntmps67
  go_wp2_with fail
  refine (left_nil w).mono ?_
  rintro e w1 ⟨rfl, rfl⟩
  go_wp2_with fail
  refine (err_nil w1).mono ?_
  rintro e w1 ⟨rfl, rfl⟩
  go_wp2_with fail
  go_ret
  exact ⟨rfl, rfl⟩
end Go.Proofs.YtdbjihpdfiipcaaGreat
namespace Go.Proofs.YtdbjihpdfiipcaaGreat
open Go.RowKit
theorem conv_sliced {P : Program} {d : TypeId} (hd : P.underlying d = some .string) {w : World} {b : Nat} {A : Option Addr} {n c i y : Nat} {l : List UInt8} (r : RdAt w b A n l) (hiy : i + y ≤ n) (hc : n ≤ c) {t : TypeId} (hT : ByteTy P t 5 := by exact T23) :
    (c = i → (convert t d (.slice A y 0)).run P w = .ok (.string (strB ((l.drop i).take y))) w) ∧ (c ≠ i → (convert t d (.slice (A.map fun x => x.add i) y (c - i))).run P w = .ok (.string (strB ((l.drop i).take y))) w) := by
  obtain ⟨A', he, hr⟩ := r.rd.sliced (i := i) (k := i + y) (c := c) (by omega) hiy hc
  rw [Nat.add_sub_cancel_left] at he hr
  have e2 : (l.take (i + y)).drop i = (l.drop i).take y := by rw [List.drop_take, Nat.add_sub_cancel_left]
  rw [e2] at hr
  refine ⟨fun h => ?_, fun h => ?_⟩
  · have : y = 0 := by omega
    subst this
    have h0 : RdB w w.heap.size A 0 ((l.drop i).take 0) := ⟨by simp, fun h => absurd h (by omega)⟩
    exact run_str hT h0 0 d hd
  · have h1 : A' = A.map fun x => x.add i := by
      have := he
      simp only [sliced] at this
      injection this with h2 _ _
      rw [← h2, if_neg (by omega)]
      simp
    subst h1
    exact run_str hT hr (c - i) d hd
set_option maxRecDepth 100000 in
set_option maxHeartbeats 2000000 in
theorem rText_any (p b : Nat) (s : RS) (m : Int) (w : World) (h : Rr w p b s) (hsz : s.l.length ≤ 140737488355328) (hm1 : -9223372036854775808 ≤ m) (hm2 : m ≤ 9223372036854775807) :
    Calls Tryz.prog 63 #[.pointer (some ⟨p, 0, none⟩), .int .i64 m] w fun e w' => e = .returned (.string (strB (takeS (findText m) [] s).1)) ∧ Rr w' p b (takeS (findText m) [] s).2 ∧ Off (fun k => k = p) w w' := by
  have h' := h
  obtain ⟨h0, A, n, c, k, r, hc⟩ := h
  have c0 := k.cell 0
  have c1 := k.cell 1
  have z0 := k.frozen 0
  have z1 := k.frozen 1
  have hl := r.1
  have kp := k.lt
  have hal := h'.off ((Off.refl (fun _ => False) w).alloc (.cells #[.int .i64 m] 3)) id id
  have hof : Off (fun k => k = p) w (w.alloc (.cells #[.int .i64 m] 3)) := (Off.refl _ w).alloc _
  have r' := r.off ((Off.refl (fun _ => False) w).alloc (.cells #[.int .i64 m] 3)) id
  go_enter Tryz.func63, Tryz.ntmps63
  obtain ⟨l, st⟩ := s
  simp only at hl hsz
  cases st
  · cases hf : findShort l with
    | none =>
      have hft : findText m l = none := by rw [findText, hf]
      go_wp2_with (first | (go_at_call 110; refine (short_any _ _ _ l _ _ r'.rd).mono ?_; rintro e w' ⟨rfl, rfl⟩; rw [hf, shortV]) | go_in)
      go_ret
      rw [takeS, hft]
      exact ⟨rfl, Rr.alloc (Rr.alloc h'.stop _) _⟩
    | some yk =>
      obtain ⟨y, i⟩ := yk
      obtain ⟨hi0, hi, hy⟩ := findShort_le hf
      rw [hl] at hi
      have b1 : decide ((i : Int) < 0) = false := by simp
      by_cases hm0 : m < 0
      · have hft : findText m l = none := by rw [findText, hf]; simp [hm0]
        have d1 : decide (m < 0) = true := by simp [hm0]
        go_wp2_with (first | (go_at_call 110; refine (short_any _ _ _ l _ _ r'.rd).mono ?_; rintro e w' ⟨rfl, rfl⟩; rw [hf, shortV]) | go_in)
        go_ret
        rw [takeS, hft]
        exact ⟨rfl, Rr.alloc (Rr.alloc h'.stop _) _⟩
      · have d1 : decide (m < 0) = false := by simp; omega
        obtain ⟨M, rfl⟩ : ∃ M : Nat, m = (M : Int) := ⟨m.toNat, by omega⟩
        have hw := wrap_small (v := (M : Int)) (by omega) (by omega)
        by_cases hm1' : M < y
        · have hft : findText (M : Int) l = none := by rw [findText, hf]; simp [hm1']
          have d2 : decide ((M : Int) < (y : Int)) = true := by simp [hm1']
          go_wp2_with (first | (go_at_call 110; refine (short_any _ _ _ l _ _ r'.rd).mono ?_; rintro e w' ⟨rfl, rfl⟩; rw [hf, shortV]) | go_in)
          go_ret
          rw [takeS, hft]
          exact ⟨rfl, Rr.alloc (Rr.alloc h'.stop _) _⟩
        · have d2 : decide ((M : Int) < (y : Int)) = false := by simp; omega
          have hw2 := wrap_small (v := (n : Int) - (i : Int)) (by omega) (by omega)
          by_cases hm2' : n < i + y
          · have hft : findText (M : Int) l = none := by rw [findText, hf]; simp [hl, hm2']
            have d3 : decide ((n : Int) - (i : Int) < (y : Int)) = true := by simp; omega
            go_wp2_with (first | (go_at_call 110; refine (short_any _ _ _ l _ _ r'.rd).mono ?_; rintro e w' ⟨rfl, rfl⟩; rw [hf, shortV]) | go_in)
            go_ret
            rw [takeS, hft]
            exact ⟨rfl, Rr.alloc (Rr.alloc h'.stop _) _⟩
          · have hft : findText (M : Int) l = some ((l.drop i).take y, i + y) := by rw [findText, hf]; simp [hl, hm0, hm1', hm2']
            have d3 : decide ((n : Int) - (i : Int) < (y : Int)) = false := by simp; omega
            have hiy : i + y ≤ n := by omega
            have hy2 : y ≤ 140737488355328 := by omega
            clear hm2'
            have kq := conv_sliced (P := Tryz.prog) Tryz.underlying9 r' hiy hc
            by_cases hci : c = i
            · have hy0 : y = 0 := by omega
              have hn0 : n = i := by omega
              replace kq := kq.1 hci
              obtain ⟨z, hz⟩ : ∃ z, strB ((l.drop i).take y) = z := ⟨_, rfl⟩
              rw [hz] at kq
              have q := Rr.adv2 (w := w) (A' := A) (n' := n - (i + y)) (c' := 0) h0 k r hiy (Off.refl _ _) (.inr (by omega)) rfl (by omega)
              rw [takeS, hft]
              simp only [Bool.false_eq_true, if_false]
              rw [hz]
              have q2 := Rr.alloc q (.cells #[.int .i64 (M : Int)] 3)
              clear q hal h' hof hz hft
              generalize l.drop (i + y) = l2 at *
              subst hy0
              subst hn0
              subst hci
              go_wp2_with (first | (go_at_call 110; refine (short_any _ _ _ l _ _ r'.rd).mono ?_; rintro e w' ⟨rfl, rfl⟩; rw [hf, shortV]) | go_in)
              all_goals
                go_ret
                refine ⟨rfl, ?_⟩
                simpa using q2
            · replace kq := kq.2 hci
              have hci2 : ¬ c = i := hci
              clear hal h' hof
              obtain ⟨z, hz⟩ : ∃ z, strB ((l.drop i).take y) = z := ⟨_, rfl⟩
              rw [hz] at kq
              go_wp2_with (first | (go_at_call 110; refine (short_any _ _ _ l _ _ r'.rd).mono ?_; rintro e w' ⟨rfl, rfl⟩; rw [hf, shortV]) | go_in)
              · go_ret
                have q := Rr.adv2 (w := w) (A' := A) (n' := n - (i + y)) (c' := 0) h0 k r hiy (Off.refl _ _) (.inr (by omega)) rfl (by omega)
                rw [takeS, hft]
                exact ⟨by rw [← hz]; rfl, Rr.alloc q _⟩
              · go_ret
                have q := Rr.adv2 (w := w) (A' := A.map (fun x => x.add (i + y))) (n' := n - (i + y)) (c' := c - (i + y)) h0 k r hiy (Off.refl _ _) (.inl rfl) rfl (by omega)
                rw [takeS, hft]
                exact ⟨by rw [← hz]; rfl, Rr.alloc q _⟩
  · go_wp2_with (first | go_in)
    go_ret
    exact ⟨rfl, hal, hof⟩
set_option maxRecDepth 100000 in
set_option maxHeartbeats 1000000 in
theorem rText_nil (m : Int) (w : World) : Calls Tryz.prog 63 #[.pointer none, .int .i64 m] w fun e w' => e = .returned (.string ByteArray.empty) ∧ Below w.heap.size w w' := by
  go_enter Tryz.func63, Tryz.ntmps63
  go_wp2_with (first | go_in)
  go_ret
  exact ⟨rfl, (Below.refl _ _).alloc (Nat.le_refl _) _⟩
end Go.Proofs.YtdbjihpdfiipcaaGreat
namespace Go.Proofs.YtdbjihpdfiipcaaGreat
open Go.RowKit
set_option linter.unusedVariables false
theorem grp_mono : ∀ (x y : Nat), x ≤ y → y < 2 ^ 64 → grp x ≤ grp y := by
  intro x
  induction x using Nat.strongRecOn with
  | ind x ih =>
    intro y hxy hy
    by_cases hx : x < 128
    · rw [grp_small hx]
      exact grp_pos y hy
    · rw [grp_step (by omega) (by omega), grp_step (by omega) hy]
      have := ih (x / 128) (by omega) (y / 128) (by omega) (by omega)
      omega
theorem ofNat_inj {a b : Nat} (ha : a < 256) (hb : b < 256) (h : UInt8.ofNat a = UInt8.ofNat b) : a = b := by
  have := congrArg UInt8.toNat h
  simp at this
  omega
theorem leb_free : ∀ (x y : Nat) (r s : List UInt8), x < 2 ^ 64 → y < 2 ^ 64 → leb x ++ r = leb y ++ s → x = y ∧ r = s := by
  intro x
  induction x using Nat.strongRecOn with
  | ind x ih =>
    intro y r s hx hy h
    by_cases h1 : x < 128 <;> by_cases h2 : y < 128
    · rw [leb_small h1, leb_small h2] at h
      injection h with h3 h4
      exact ⟨ofNat_inj (by omega) (by omega) h3, h4⟩
    · rw [leb_small h1, leb_step (by omega) hy] at h
      injection h with h3 h4
      have := ofNat_inj (by omega) (by omega) h3
      omega
    · rw [leb_small h2, leb_step (by omega) hx] at h
      injection h with h3 h4
      have := ofNat_inj (by omega) (by omega) h3
      omega
    · rw [leb_step (by omega) hx, leb_step (by omega) hy] at h
      injection h with h3 h4
      have h5 := ofNat_inj (by omega) (by omega) h3
      obtain ⟨h6, h7⟩ := ih (x / 128) (by omega) (y / 128) r s (by omega) (by omega) h4
      exact ⟨by omega, h7⟩
theorem leb_take (x y : Nat) (hx : x < 2 ^ 64) (hy : y < 2 ^ 64) (hxy : x ≤ y) : (leb y).take (leb x).length = leb x ↔ x = y := by
  constructor
  · intro h
    have h1 : leb x ++ (leb y).drop (leb x).length = leb y ++ [] := by
      rw [List.append_nil]
      conv => rhs; rw [← List.take_append_drop (leb x).length (leb y), h]
    exact (leb_free x y _ _ hx hy h1).1
  · rintro rfl
    exact List.take_of_length_le (Nat.le_refl _)
theorem leb_one (y : Nat) (hy : y < 2 ^ 64) : (leb y).length = 1 ↔ y < 128 := by
  rw [leb_length y hy]
  constructor
  · intro h
    refine Decidable.byContradiction fun h1 => ?_
    rw [grp_step (by omega) hy] at h
    have := grp_pos (y / 128) (by omega)
    omega
  · exact grp_small

theorem shortGo_leb : ∀ (y i x0 : Nat) (r : List UInt8), x0 + y * 2 ^ (7 * i) < 18446744073709551616 → i ≤ 9 → grp (x0 + y * 2 ^ (7 * i)) = i + grp y → shortGo i x0 (leb y ++ r) = some (x0 + y * 2 ^ (7 * i), i + grp y) := by
  intro y
  induction y using Nat.strongRecOn with
  | ind y ih =>
    intro i x0 r hX hi hg
    have h9 : i = 9 → y ≤ 1 := by
      rintro rfl
      refine Decidable.byContradiction fun h => ?_
      have : 2 * 2 ^ (7 * 9) ≤ y * 2 ^ (7 * 9) := Nat.mul_le_mul_right _ (by omega)
      have h2 : 2 * 2 ^ (7 * 9) = 18446744073709551616 := by decide
      omega
    have hy64 : y < 2 ^ 64 := by
      have : y * 1 ≤ y * 2 ^ (7 * i) := Nat.mul_le_mul_left _ (Nat.two_pow_pos _)
      omega
    by_cases hy : y < 128
    · have e1 : (UInt8.ofNat y).toNat = y := by simp; omega
      rw [leb_small hy, List.singleton_append, shortGo, e1, if_neg (by omega), if_pos hy, Nat.mod_eq_of_lt hy, if_pos (by rw [hg, grp_small hy]), grp_small hy]
    · have e1 : (UInt8.ofNat (y % 128 + 128)).toNat = y % 128 + 128 := by simp; omega
      have i9 : i ≤ 8 := by
        refine Decidable.byContradiction fun h => ?_
        have := h9 (by omega)
        omega
      have e2 : x0 + (y % 128 + 128) % 128 * 2 ^ (7 * i) + y / 128 * 2 ^ (7 * (i + 1)) = x0 + y * 2 ^ (7 * i) := by
        have h1 : 2 ^ (7 * (i + 1)) = 128 * 2 ^ (7 * i) := by rw [Nat.mul_succ, Nat.pow_add, Nat.mul_comm]
        rw [h1, Nat.add_assoc, ← Nat.mul_assoc, ← Nat.add_mul]
        congr 2
        omega
      rw [leb_step (by omega) hy64, List.cons_append, shortGo, e1, if_neg (by omega), if_neg (by omega), ih (y / 128) (by omega) (i + 1) _ r (by rw [e2]; exact hX) (by omega) (by rw [e2, hg, grp_step (by omega) hy64]; omega), e2, grp_step (by omega) hy64]
      congr 2
      omega
theorem findShort_leb (y : Nat) (r : List UInt8) (hy : y < 18446744073709551616) : findShort (leb y ++ r) = some (y, (leb y).length) := by
  have := shortGo_leb y 0 0 r (by simpa using hy) (by omega) (by simp)
  rw [leb_length y hy]
  simpa [findShort] using this
/-- Of a strict beginning of a number's bytes nothing is found. -/
theorem shortGo_cut : ∀ (y i x0 k : Nat), x0 + y * 2 ^ (7 * i) < 18446744073709551616 → i ≤ 9 → k < (leb y).length → shortGo i x0 ((leb y).take k) = none := by
  intro y
  induction y using Nat.strongRecOn with
  | ind y ih =>
    intro i x0 k hX hi hk
    have h9 : i = 9 → y ≤ 1 := by
      rintro rfl
      refine Decidable.byContradiction fun h => ?_
      have : 2 * 2 ^ (7 * 9) ≤ y * 2 ^ (7 * 9) := Nat.mul_le_mul_right _ (by omega)
      have h2 : 2 * 2 ^ (7 * 9) = 18446744073709551616 := by decide
      omega
    have hy64 : y < 2 ^ 64 := by
      have : y * 1 ≤ y * 2 ^ (7 * i) := Nat.mul_le_mul_left _ (Nat.two_pow_pos _)
      omega
    rcases k with _ | k
    · rfl
    by_cases hy : y < 128
    · rw [leb_small hy] at hk
      simp at hk
    · have e1 : (UInt8.ofNat (y % 128 + 128)).toNat = y % 128 + 128 := by simp; omega
      have i9 : i ≤ 8 := by
        refine Decidable.byContradiction fun h => ?_
        have := h9 (by omega)
        omega
      have e2 : x0 + (y % 128 + 128) % 128 * 2 ^ (7 * i) + y / 128 * 2 ^ (7 * (i + 1)) = x0 + y * 2 ^ (7 * i) := by
        have h1 : 2 ^ (7 * (i + 1)) = 128 * 2 ^ (7 * i) := by rw [Nat.mul_succ, Nat.pow_add, Nat.mul_comm]
        rw [h1, Nat.add_assoc, ← Nat.mul_assoc, ← Nat.add_mul]
        congr 2
        omega
      rw [leb_step (by omega) hy64] at hk ⊢
      rw [List.length_cons] at hk
      rw [List.take_succ_cons, shortGo, e1, if_neg (by omega), if_neg (by omega)]
      exact ih (y / 128) (by omega) (i + 1) _ k (by rw [e2]; exact hX) (by omega) (by omega)
theorem findShort_cut (y k : Nat) (hy : y < 18446744073709551616) (hk : k < (leb y).length) : findShort ((leb y).take k) = none :=
  shortGo_cut y 0 0 k (by simpa using hy) (by omega) hk
theorem findText_own (m : Int) (s r : List UInt8) (hs : s.length < 18446744073709551616) : findText m (leb s.length ++ s ++ r) = if m < 0 ∨ m < (s.length : Int) then none else some (s, (leb s.length ++ s).length) := by
  have h1 : findShort (leb s.length ++ s ++ r) = some (s.length, (leb s.length).length) := by
    rw [List.append_assoc]
    exact findShort_leb s.length (s ++ r) hs
  rw [findText, h1]
  simp only [List.length_append]
  by_cases h : m < 0 ∨ m < (s.length : Int)
  · rw [if_pos h, if_pos (by omega)]
  · rw [if_neg h, if_neg (by omega)]
    simp [List.append_assoc]
theorem ofNat_mod (n : Nat) : (UInt8.ofNat n).toNat = n % 256 := by simp
theorem findU32_le32 (n : Nat) (r : List UInt8) : findU32 (le32 n ++ r) = some (n % 4294967296, 4) := by
  simp only [le32, List.cons_append, List.nil_append, findU32, ofNat_mod]
  congr 2
  omega
theorem takeS_some {α : Type} {g : List UInt8 → Option (α × Nat)} {z x : α} {l : List UInt8} {k : Nat} (h : g l = some (x, k)) : takeS g z ⟨l, false⟩ = (x, ⟨l.drop k, false⟩) := by
  rw [takeS]
  simp only [Bool.false_eq_true, if_false]
  rw [h]
theorem ofNat_self (c : UInt8) : UInt8.ofNat c.toNat = c := by simp
theorem shortGo_inv : ∀ (l : List UInt8) (i x0 y k : Nat), x0 < 2 ^ (7 * i) → i ≤ 9 → shortGo i x0 l = some (y, k) → ∃ z j, k = i + j + 1 ∧ y = x0 + z * 2 ^ (7 * i) ∧ lebN j z = l.take (j + 1) ∧ grp y = k
  | [], _, _, _, _, _, _, h => by cases h
  | c :: r, i, x0, y, k, hx, hi, h => by
    have hc := c.toNat_lt
    rw [shortGo] at h
    split at h
    · cases h
    · rename_i h9
      split at h
      · rename_i hc1
        split at h
        · rename_i hg
          injection h with h
          injection h with h1 h2
          subst h1 h2
          refine ⟨c.toNat, 0, by omega, by rw [Nat.mod_eq_of_lt hc1], ?_, hg⟩
          rw [lebN, ofNat_self]
          rfl
        · cases h
      · rename_i hc1
        have hi8 : i + 1 ≤ 9 := by omega
        have hx2 : x0 + c.toNat % 128 * 2 ^ (7 * i) < 2 ^ (7 * (i + 1)) := by
          have h4 : c.toNat % 128 + 1 ≤ 128 := by omega
          have h5 : (c.toNat % 128 + 1) * 2 ^ (7 * i) ≤ 128 * 2 ^ (7 * i) := Nat.mul_le_mul_right _ h4
          rw [Nat.succ_mul] at h5
          rw [Nat.mul_succ, Nat.pow_add]
          omega
        obtain ⟨z, j, h1, h2, h3, h4⟩ := shortGo_inv r (i + 1) _ y k hx2 hi8 h
        refine ⟨c.toNat % 128 + 128 * z, j + 1, by omega, ?_, ?_, h4⟩
        · have e : 2 ^ (7 * (i + 1)) = 128 * 2 ^ (7 * i) := by rw [Nat.mul_succ, Nat.pow_add, Nat.mul_comm]
          rw [h2, e, Nat.add_mul, Nat.add_assoc, Nat.mul_assoc, ← Nat.mul_assoc z, Nat.mul_comm z 128, Nat.mul_assoc 128 z]
        · rw [lebN, List.take_succ_cons, show (c.toNat % 128 + 128 * z) % 128 + 128 = c.toNat from by omega, ofNat_self, show (c.toNat % 128 + 128 * z) / 128 = z from by omega, h3]
theorem findShort_inv {l : List UInt8} {y k : Nat} (h : findShort l = some (y, k)) : leb y = l.take k := by
  obtain ⟨z, j, h1, h2, h3, h4⟩ := shortGo_inv l 0 0 y k (by simp) (by omega) h
  simp only [Nat.mul_zero, Nat.pow_zero, Nat.mul_one, Nat.zero_add] at h1 h2
  subst h2
  rw [leb, h4, h1, Nat.add_sub_cancel, h3]
theorem findU8_inv {l : List UInt8} {x k : Nat} (h : findU8 l = some (x, k)) : [UInt8.ofNat x] = l.take k ∧ k = 1 ∧ 1 ≤ l.length ∧ x < 256 := by
  cases l with
  | nil => cases h
  | cons c r =>
    simp only [findU8, Option.some.injEq, Prod.mk.injEq] at h
    obtain ⟨rfl, rfl⟩ := h
    exact ⟨by rw [ofNat_self]; rfl, rfl, by simp, c.toNat_lt⟩
theorem findU32_inv {l : List UInt8} {x k : Nat} (h : findU32 l = some (x, k)) : le32 x = l.take k ∧ k = 4 ∧ 4 ≤ l.length ∧ x < 4294967296 := by
  rcases l with _ | ⟨a, _ | ⟨b, _ | ⟨c, _ | ⟨d, r⟩⟩⟩⟩
  any_goals cases h
  have ha := a.toNat_lt
  have hb := b.toNat_lt
  have hc := c.toNat_lt
  have hd := d.toNat_lt
  refine ⟨?_, rfl, by simp, by omega⟩
  have q : ∀ (z : UInt8) (n : Nat), n % 256 = z.toNat → UInt8.ofNat n = z := fun z n h => by
    apply UInt8.toNat_inj.1
    simpa using h
  simp only [le32]
  rw [q a _ (by omega), q b _ (by omega), q c _ (by omega), q d _ (by omega)]
  rfl
theorem findText_inv {m : Int} {l s : List UInt8} {k : Nat} (h : findText m l = some (s, k)) : leb s.length ++ s = l.take k ∧ k ≤ l.length := by
  unfold findText at h
  cases hf : findShort l with
  | none => rw [hf] at h; cases h
  | some yk =>
    obtain ⟨y, i⟩ := yk
    rw [hf] at h
    simp only at h
    split at h
    · cases h
    · rename_i hn
      simp only [Option.some.injEq, Prod.mk.injEq] at h
      obtain ⟨rfl, rfl⟩ := h
      have h1 := findShort_inv hf
      have h2 := findShort_le hf
      have h3 : ((l.drop i).take y).length = y := by rw [List.length_take, List.length_drop]; omega
      refine ⟨?_, by omega⟩
      rw [h3, h1, List.take_add]
theorem findRaw_inv {m : Int} {l s : List UInt8} {k : Nat} (h : findRaw m l = some (s, k)) : s = l.take k ∧ k ≤ l.length := by
  unfold findRaw at h
  split at h
  · cases h
  · simp only [Option.some.injEq, Prod.mk.injEq] at h
    obtain ⟨rfl, rfl⟩ := h
    exact ⟨rfl, by omega⟩
theorem takeS_hit {α : Type} {g : List UInt8 → Option (α × Nat)} {z x : α} (pre r : List UInt8) {k : Nat} (h : g (pre ++ r) = some (x, k)) (hk : k = pre.length) : takeS g z ⟨pre ++ r, false⟩ = (x, ⟨r, false⟩) := by
  rw [takeS_some h, hk, List.drop_left]
theorem takeS_inv {α : Type} {g : List UInt8 → Option (α × Nat)} {z : α} {s : RS} (h : (takeS g z s).2.st = false) : ∃ k, g s.l = some ((takeS g z s).1, k) ∧ s.st = false ∧ (takeS g z s).2.l = s.l.drop k := by
  obtain ⟨l, st⟩ := s
  unfold takeS at h ⊢
  cases st with
  | true => simp at h
  | false =>
    simp only [Bool.false_eq_true, if_false] at h ⊢
    cases hg : g l with
    | none => rw [hg] at h; cases h
    | some q =>
      obtain ⟨x, k⟩ := q
      exact ⟨k, rfl, trivial, rfl⟩
theorem cut_at {l pre : List UInt8} {k : Nat} (h : pre = l.take k) : l = pre ++ l.drop k := by rw [h, List.take_append_drop]
theorem takeS_u32 (s : RS) : (takeS findU32 0 s).1 < 4294967296 := by
  unfold takeS
  split
  · show 0 < _
    omega
  · cases hf : findU32 s.l with
    | none =>
      show 0 < _
      omega
    | some yk =>
      unfold findU32 at hf
      split at hf
      · rename_i a b c d _ _
        injection hf with hf
        subst hf
        have := a.toNat_lt
        have := b.toNat_lt
        have := c.toNat_lt
        have := d.toNat_lt
        show _ + _ < _
        omega
      · cases hf
end Go.Proofs.YtdbjihpdfiipcaaGreat
