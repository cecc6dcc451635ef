/- The document's reader: drop, Raw, Wide, front, Uint, Text, End; its frame is its own block alone. Condition: the bytes are at most 2^47. Printed by gen_rm.py. -/
import Derived.Test.YtdbjihpdfiipcaaGreatRdAll
import Derived.Test.YtdbjihpdfiipcaaGreatShortAll
import Derived.Test.YtdbjihpdfiipcaaGreatOrder
namespace Go.Proofs.YtdbjihpdfiipcaaGreat
open Go.RowKit
set_option linter.unusedVariables false
def dec : List UInt8 → Nat
  | [] => 0
  | b :: r => b.toNat % 128 + 128 * dec r
theorem dec_leb (y : Nat) (hy : y < 2 ^ 64) : dec (leb y) = y := by
  induction y using Nat.strongRecOn with
  | ind y ih =>
    by_cases h : y < 128
    · rw [leb_small h]
      simp [dec]
      omega
    · rw [leb_step (by omega) hy, dec, ih (y / 128) (by omega) (by omega)]
      simp
      omega
theorem front_hit {l : List UInt8} {x n : Nat} (hx : x < 18446744073709551616) (h : leb x = l.take n) (hn : n ≤ l.length) : findShort l = some (x, n) := by
  have h1 : l = leb x ++ l.drop n := by rw [h, List.take_append_drop]
  have h2 : (leb x).length = n := by rw [h, List.length_take]; omega
  rw [h1, findShort_leb x _ hx, h2]
theorem front_miss {l : List UInt8} {n : Nat} (h : ¬ leb (dec (l.take n) % 18446744073709551616) = l.take n) : ∀ y, findShort l ≠ some (y, n) := fun y hy => by
  have h1 := findShort_inv hy
  have h2 := (findShort_le hy).2.2
  rw [← h1, dec_leb y (by omega), Nat.mod_eq_of_lt h2] at h
  exact h rfl
theorem front_len {l : List UInt8} {y k : Nat} (h : findShort l = some (y, k)) : 1 ≤ k ∧ k ≤ 10 ∧ k ≤ l.length := by
  have h1 := findShort_inv h
  have h2 := findShort_le h
  have h3 := congrArg List.length h1
  rw [leb_length y h2.2.2, List.length_take] at h3
  have := grp_le y h2.2.2
  omega
theorem front_none {l : List UInt8} {n : Nat} (h : ∀ k, k < n → ∀ y, findShort l ≠ some (y, k)) (hn : 10 < n ∨ l.length < n) : findShort l = none := by
  cases hf : findShort l with
  | none => rfl
  | some yk =>
    obtain ⟨y, k⟩ := yk
    have := front_len hf
    exact absurd hf (h k (by omega) y)
theorem dec_step {l : List UInt8} {i : Nat} (hi : i < l.length) : dec (l.drop i) = (at8 l i).toNat % 128 + 128 * dec (l.drop (i + 1)) := by
  rw [drop8 hi, dec]
theorem takeS_none {α : Type} {g : List UInt8 → Option (α × Nat)} {z : α} {l : List UInt8} (h : g l = none) : takeS g z ⟨l, false⟩ = (z, ⟨l, true⟩) := by
  rw [takeS]
  simp only [Bool.false_eq_true, if_false]
  rw [h]
theorem findU32_short {l : List UInt8} (h : l.length < 4) : findU32 l = none := by
  rcases l with _ | ⟨x0, _ | ⟨x1, _ | ⟨x2, _ | ⟨x3, l⟩⟩⟩⟩ <;> first | rfl | (simp at h; omega)
theorem RdB.take {w : World} {B : Nat} {A : Option Addr} {n : Nat} {l : List UInt8} (h : RdB w B A n l) {k : Nat} (hk : k ≤ n) : RdB w B A k (l.take k) :=
  ⟨by rw [List.length_take, h.1]; omega, fun hn => by
    obtain ⟨b, off, h1, h2, h3⟩ := h.2 (by omega)
    exact ⟨b, off, h1, h2, fun j hj => by rw [h3 j (by rw [List.length_take] at hj; omega)]; simp⟩⟩
def Rm (w : World) (p : Nat) (A : Option Addr) (n c : Nat) (s : RS) : Prop := Blk w p 103 [.slice A n c, .bool s.st] ∧ OwnB w 0 5 (.slice A n c) s.l
theorem Rm.len {w : World} {p : Nat} {A : Option Addr} {n c : Nat} {s : RS} (h : Rm w p A n c s) : s.l.length = n := h.2.len
theorem Rm.off {X : Nat → Prop} {w w' : World} {p : Nat} {A : Option Addr} {n c : Nat} {s : RS} (h : Rm w p A n c s) (hb : Off X w w') (h1 : ¬ X p) (h2 : ∀ k, isB A k → ¬ X k) : Rm w' p A n c s := ⟨h.1.off hb h1, h.2.off hb h2⟩
theorem Rm.notOwn {w : World} {p : Nat} {A : Option Addr} {n c : Nat} {s : RS} (h : Rm w p A n c s) : ¬ isB A p := by
  rintro ⟨x, rfl, rfl⟩
  exact h.2.not_row h.1 (by decide) rfl
theorem Rm.below {w w' : World} (hb : Below w.heap.size w w') {p : Nat} {A : Option Addr} {n c : Nat} {s : RS} (h : Rm w p A n c s) : Rm w' p A n c s := h.off (Off.of_all hb) id (fun _ _ => id)
def RmP (w : World) (p : Nat) (A : Option Addr) (s : RS) (w' : World) : Prop := ∃ A' c', Rm w' p A' s.l.length c' s ∧ Off (fun k => k = p) w w'
abbrev OffA (A : Option Addr) (X : Nat → Prop) (w w' : World) : Prop := Off X w w'
theorem RmP.to {w w1 w2 : World} {p : Nat} {A : Option Addr} {B : Option Addr} {s : RS} (h : OffA A (fun k => k = p) w w1) (k : RmP w1 p B s w2) : RmP w p A s w2 := by
  obtain ⟨C, c, h1, h2⟩ := k
  exact ⟨C, c, h1, h.trans h2 fun _ _ h => h⟩
theorem ofB {w w' : World} (h : Below w.heap.size w w') (p : Nat) (A : Option Addr) : OffA A (fun k => k = p) w w' := (Off.of_all h).mono fun _ _ h => h.elim
/-- The reader is stopped. -/
theorem Rm.stop {w : World} {p : Nat} {A : Option Addr} {n c : Nat} {s : RS} (h : Rm w p A n c s) : RmP w p A ⟨s.l, true⟩ (w.setCell ⟨p, 1, none⟩ (.bool true)) := by
  have o : Off (fun k => k = p) w (w.setCell ⟨p, 1, none⟩ (.bool true)) := (Off.refl (fun k => k = p) w).setCell (p := ⟨p, 1, none⟩) (fun _ => rfl) _
  refine ⟨A, c, ⟨?_, ?_⟩, o⟩
  · rw [h.len]
    exact h.1.set 1 _
  · rw [h.len]
    exact h.2.off o (fun k hk e => h.notOwn (by have e' : k = p := e; rwa [e'] at hk))
theorem Rm.put {X : Nat → Prop} {w w' : World} {p : Nat} {A A' : Option Addr} {n c m c' : Nat} {l' : List UInt8} {st : Bool} (k1 : Blk w' p 103 [.slice A n c, .bool st]) (o1 : OwnB w' 0 5 (.slice A' m c') l') (fa : Off X w w') (hX : ∀ k, X k → w.heap.size ≤ k)
    (hA : ∃ g, A' = some ⟨g, 0, none⟩ ∧ w.heap.size ≤ g) (hp : p < w.heap.size) : RmP w p A ⟨l', st⟩ (w'.setCell ⟨p, 0, none⟩ (.slice A' m c')) := by
  have o : Off (fun k => k = p) w' (w'.setCell ⟨p, 0, none⟩ (.slice A' m c')) := (Off.refl (fun k => k = p) w').setCell (p := ⟨p, 0, none⟩) (fun _ => rfl) _
  have hl := o1.len
  refine ⟨A', c', ⟨?_, ?_⟩, ?_⟩
  · rw [hl]
    exact k1.set 0 _
  · rw [hl]
    refine o1.off o (fun k hk e => ?_)
    obtain ⟨g, rfl, hg⟩ := hA
    obtain ⟨x, hx, rfl⟩ := hk
    injection hx with hx
    subst hx
    have e' : g = p := e
    omega
  · have h2 : Off (fun k => k = p) w w' := fa.mono fun k hk hx => by have := hX k hx; omega
    exact h2.trans o fun k hk e => e
set_option maxRecDepth 100000 in
set_option maxHeartbeats 1000000 in
theorem drop_any (p : Nat) (A : Option Addr) (n c : Nat) (l : List UInt8) (st : Bool) (k : Nat) (w : World) (h : Rm w p A n c ⟨l, st⟩) (hk : k ≤ n) (hn : n ≤ 140737488355328) :
    Calls Tryz.prog 161 #[.pointer (some ⟨p, 0, none⟩), .int .i64 k] w fun e w' => e = .returned (.tuple #[]) ∧ RmP w p A ⟨l.drop k, st⟩ w' := by
  have hnc := h.2.cap
  have hl := h.2.len
  simp only at hl
  have hpl := h.1.lt
  have c0 := h.1.cell 0
  have b1 : (0 : Int) ≤ (k : Int) := by omega
  have b2 : (k : Int) ≤ (n : Int) := by omega
  have b3 : (k : Int) ≤ (c : Int) := by omega
  have ra : RdB (w.alloc (.cells #[] 5)) w.heap.size (if c = k then A else A.map fun x => x.add k) (n - k) (l.drop k) := by
    obtain ⟨A1, e1, r1⟩ := h.2.rd.sliced (i := k) (k := n) (c := c) hk (Nat.le_refl n) hnc
    rw [List.take_of_length_le (by rw [hl]; exact Nat.le_refl n)] at r1
    simp only [sliced, Nat.mul_one] at e1
    injection e1 with e1 _ _
    rw [e1]
    exact r1.below ((Below.refl _ w).alloc (Nat.le_refl _) _)
  go_enter Tryz.func161, Tryz.ntmps161
  by_cases hci : c = k
  · rw [if_pos hci] at ra
    go_wp2_with (at_builtin; go_must (refine appendG T23 rfl rfl rfl (OwnB.of_blk (l := []) (Blk.of_new w _ _) (Nat.zero_le _) rfl (by simp [maxLen])) rfl ra (by omega) (Nat.zero_le _) ?_); intro A' c' w' o1 f1 ho; have h1 := h.off ((Off.refl (fun _ => False) w).alloc (.cells #[] 5)) id (fun _ _ => id); have fa : Off (isB (some ⟨w.heap.size, 0, none⟩)) w w' := ((Off.refl _ w).alloc (.cells #[] 5)).trans f1 (fun _ _ h => h); have k1 := h.1.off fa (fun hk => by obtain ⟨x, hx, hxp⟩ := hk; injection hx with hx; subst hx; exact absurd hxp (by simp only; omega)); have c9 := k1.cell 0; have z9 := k1.frozen 0)
    go_end0
    refine ⟨rfl, Rm.put k1 (by simpa using o1) fa (fun k hk => by obtain ⟨x, hx, rfl⟩ := hk; injection hx with hx; subst hx; exact Nat.le_refl _) ?_ hpl⟩
    rcases ho with rfl | rfl
    · exact ⟨_, rfl, Nat.le_refl _⟩
    · exact ⟨_, rfl, by simp⟩
  · rw [if_neg hci] at ra
    go_wp2_with (at_builtin; go_must (refine appendG T23 rfl rfl rfl (OwnB.of_blk (l := []) (Blk.of_new w _ _) (Nat.zero_le _) rfl (by simp [maxLen])) rfl ra (by omega) (Nat.zero_le _) ?_); intro A' c' w' o1 f1 ho; have h1 := h.off ((Off.refl (fun _ => False) w).alloc (.cells #[] 5)) id (fun _ _ => id); have fa : Off (isB (some ⟨w.heap.size, 0, none⟩)) w w' := ((Off.refl _ w).alloc (.cells #[] 5)).trans f1 (fun _ _ h => h); have k1 := h.1.off fa (fun hk => by obtain ⟨x, hx, hxp⟩ := hk; injection hx with hx; subst hx; exact absurd hxp (by simp only; omega)); have c9 := k1.cell 0; have z9 := k1.frozen 0)
    go_end0
    refine ⟨rfl, Rm.put k1 (by simpa using o1) fa (fun k hk => by obtain ⟨x, hx, rfl⟩ := hk; injection hx with hx; subst hx; exact Nat.le_refl _) ?_ hpl⟩
    rcases ho with rfl | rfl
    · exact ⟨_, rfl, Nat.le_refl _⟩
    · exact ⟨_, rfl, by simp⟩
set_option maxRecDepth 100000 in
set_option maxHeartbeats 2000000 in
theorem refRaw_any (p : Nat) (A : Option Addr) (n c : Nat) (s : RS) (m : Int) (w : World) (h : Rm w p A n c s) (hn : n ≤ 140737488355328) :
    Calls Tryz.prog 162 #[.pointer (some ⟨p, 0, none⟩), .int .i64 m] w fun e w' => ∃ Ar nr cr, e = .returned (.slice Ar nr cr) ∧ OwnB w' w.heap.size 5 (.slice Ar nr cr) (takeS (findRaw m) [] s).1 ∧ RmP w p A (takeS (findRaw m) [] s).2 w' := by
  have hnc := h.2.cap
  have hl := h.2.len
  have hpl := h.1.lt
  have c0 := h.1.cell 0
  have c1 := h.1.cell 1
  have z1 := h.1.frozen 1
  have hst := h.stop
  obtain ⟨l, st⟩ := s
  simp only at hl
  go_enter Tryz.func162, Tryz.ntmps162
  cases st
  · by_cases hm : m < 0 ∨ (n : Int) < m
    · have hf : findRaw m l = none := by rw [findRaw, if_pos (by rw [hl]; exact hm)]
      by_cases hm0 : m < 0
      · have d1 : decide (m < 0) = true := by simp [hm0]
        go_wp2_with fail
        go_ret
        rw [takeS, hf]
        exact ⟨none, 0, 0, rfl, OwnB.nil_ _ _ _, hst⟩
      · have d1 : decide (m < 0) = false := by simp; omega
        have d2 : decide ((n : Int) < m) = true := by simp; omega
        go_wp2_with fail
        go_ret
        rw [takeS, hf]
        exact ⟨none, 0, 0, rfl, OwnB.nil_ _ _ _, hst⟩
    · obtain ⟨i, rfl⟩ : ∃ i : Nat, m = (i : Int) := ⟨m.toNat, by omega⟩
      have hf : findRaw (i : Int) l = some (l.take i, i) := by rw [findRaw, if_neg (by rw [hl]; exact hm)]; rfl
      have d1 : decide ((i : Int) < 0) = false := by simp
      have d2 : decide ((n : Int) < (i : Int)) = false := by simp; omega
      have hi : i ≤ n := by omega
      have b1 : (0 : Int) ≤ (i : Int) := by omega
      have b2 : (i : Int) ≤ (c : Int) := by omega
      have hic : i ≤ c := by omega
      have ra := (h.2.rd.take hi).below ((Below.refl _ w).alloc (Nat.le_refl _) (.cells #[] 5))
      have hAlt : ∀ k, isB A k → k < w.heap.size := fun k hk => (h.2.isB_lt hk).2
      clear hm hst
      go_wp2_with (at_builtin; go_must (refine appendR T23 rfl rfl rfl (OwnB.of_blk (l := []) (Blk.of_new w _ _) (Nat.le_refl _) rfl (by simp [maxLen])) rfl ra (by omega) ((Below.refl _ w).alloc (Nat.le_refl _) _) (Nat.le_refl _) ?_); intro A' c' w' o1 f1 _)
      have h2 := h.below f1
      refine (drop_any p A n c l false i w' h2 hi hn).mono ?_
      rintro e w3 ⟨rfl, hp⟩
      rw [Nat.zero_add, List.nil_append] at o1
      have hp2 : RmP w p A ⟨l.drop i, false⟩ w3 := hp.to (ofB f1 p A)
      obtain ⟨A3, c3, _, d3⟩ := hp
      have o3 := o1.off d3 (fun k hk (h : k = p) => by
        have h1 := (o1.isB_lt hk).1
        omega)
      go_wp2_with fail
      go_ret
      rw [takeS_some hf]
      exact ⟨A', i, c', rfl, o3, hp2⟩
  · go_wp2_with fail
    go_ret
    exact ⟨none, 0, 0, rfl, OwnB.nil_ _ _ _, hst⟩
def wideV (l : List UInt8) : Nat := (List.range l.length).foldl (fun x i => x + (at8 l i).toNat * 2 ^ (8 * i)) 0
def wideN (l : List UInt8) (k : Nat) : Nat := (List.range k).foldl (fun x i => x + (at8 l i).toNat * 2 ^ (8 * i)) 0
theorem wideN_succ (l : List UInt8) (k : Nat) : wideN l (k + 1) = wideN l k + (at8 l k).toNat * 2 ^ (8 * k) := by
  unfold wideN
  rw [List.range_succ, List.foldl_append]
  rfl
theorem wideN_lt (l : List UInt8) (k : Nat) : wideN l k < 2 ^ (8 * k) := by
  induction k with
  | zero => simp [wideN]
  | succ k ih =>
    rw [wideN_succ, Nat.mul_succ, Nat.pow_add]
    have := (at8 l k).toNat_lt
    have h2 : ((at8 l k).toNat + 1) * 2 ^ (8 * k) ≤ 256 * 2 ^ (8 * k) := Nat.mul_le_mul_right _ (by omega)
    rw [Nat.succ_mul] at h2
    omega
theorem wide_or (x C k : Nat) (hx : x < 2 ^ (8 * k)) (hC : C < 256) (hk : k ≤ 7) :
    bits BinOp.or IntKind.u64 (x : Int) (IntKind.u64.wrap ((C : Int) * 2 ^ (8 * k))) = ((x + C * 2 ^ (8 * k) : Nat) : Int) ∧ x + C * 2 ^ (8 * k) < 18446744073709551616 := by
  have h2 : C * 2 ^ (8 * k) + 2 ^ (8 * k) ≤ 18446744073709551616 := by
    rw [← Nat.succ_mul]
    exact Nat.le_trans (Nat.mul_le_mul (show C + 1 ≤ 256 by omega) (Nat.pow_le_pow_right (by decide) (show 8 * k ≤ 56 by omega))) (by decide)
  have h4 : 0 < 2 ^ (8 * k) := Nat.two_pow_pos _
  have h5 : ((C : Int) * 2 ^ (8 * k)) = ((C * 2 ^ (8 * k) : Nat) : Int) := by push_cast; rfl
  rw [h5, wrap_small (by omega) (by omega), u64_or_nat _ _ (by omega) (by omega)]
  refine ⟨?_, by omega⟩
  congr 1
  rw [Nat.or_comm, Nat.mul_comm C, Nat.add_comm x]
  exact (Nat.two_pow_add_eq_or_of_lt hx _).symm
set_option maxRecDepth 100000 in
set_option maxHeartbeats 2000000 in
theorem refWide_any (p : Nat) (A : Option Addr) (n c : Nat) (s : RS) (m : Nat) (hm : m ≤ 4) (w : World) (h : Rm w p A n c s) (hn : n ≤ 140737488355328) :
    Calls Tryz.prog 126 #[.pointer (some ⟨p, 0, none⟩), .int .i64 m] w fun e w' => e = .returned (.int .u64 (wideN (takeS (findRaw m) [] s).1 (takeS (findRaw m) [] s).1.length : Nat)) ∧ RmP w p A (takeS (findRaw m) [] s).2 w' := by
  have hlt : (takeS (findRaw m) [] s).1.length ≤ 4 := by
    unfold takeS
    split
    · simp
    · split
      · simp
      · rename_i hf
        unfold findRaw at hf
        split at hf
        · cases hf
        · simp only [Option.some.injEq, Prod.mk.injEq] at hf
          rw [← hf.1, List.length_take]
          simp only [Int.toNat_natCast]
          omega
  go_enter Tryz.func126, Tryz.ntmps126
  go_wp2_with fail
  refine (refRaw_any p A n c s m w h hn).mono ?_
  rintro e w1 ⟨Ar, nr, cr, rfl, o1, hp⟩
  generalize hL : (takeS (findRaw m) [] s).1 = L at *
  have HL := Lib.hid hL
  clear hL
  have rl := o1.rd
  have hl := o1.len
  clear o1
  go_wp2_with fail
  go_loopw [6, 7] (fun v i wr => ∃ k : Nat, i = .int .i64 k ∧ v = .int .u64 (wideN L k : Nat) ∧ k ≤ nr ∧ wr = w1) (fun _ i _ => nr - (intOf i).toNat)
  case atStart => exact ⟨0, rfl, rfl, Nat.zero_le _, rfl⟩
  case round =>
    obtain ⟨k, rfl, rfl, hk, rfl⟩ := hrel
    by_cases hkn : k < nr
    · have d1 : decide ((k : Int) < (nr : Int)) = true := by simp; omega
      have b1 : (0 : Int) ≤ (k : Int) := by omega
      have b2 : (k : Int) < (nr : Int) := by omega
      obtain ⟨b, off, rfl, hb, hc⟩ := rl.cellAt hkn
      have hc8 := (at8 L k).toNat_lt
      have hx := wideN_lt L k
      have hs := wideN_succ L k
      generalize (at8 L k).toNat = C at *
      obtain ⟨hor, hY⟩ := wide_or (wideN L k) C k hx (by omega) (by omega)
      rw [← hs] at hor hY
      have HS := Lib.hid hs
      clear hs hx
      generalize wideN L k = X at *
      generalize hYe : wideN L (k + 1) = Y at *
      have HY := Lib.hid hYe
      clear hYe
      go_wp2_with fail
      go_roundw
      case rel => exact ⟨k + 1, by go_num, by rw [HY.out], by omega, by trivial⟩
      case measure => simp [intOf]; omega
    · obtain rfl : k = nr := by omega
      have d1 : decide ((k : Int) < (k : Int)) = false := by simp
      go_wp2_with fail
      go_ret
      rw [HL.out, hl]
      exact ⟨rfl, hp⟩
theorem Rm.setB {w : World} {p : Nat} {A : Option Addr} {n c : Nat} {s : RS} (h : Rm w p A n c s) (v : Bool) : RmP w p A ⟨s.l, v⟩ (w.setCell ⟨p, 1, none⟩ (.bool v)) := by
  have o : Off (fun k => k = p) w (w.setCell ⟨p, 1, none⟩ (.bool v)) := (Off.refl (fun k => k = p) w).setCell (p := ⟨p, 1, none⟩) (fun _ => rfl) _
  refine ⟨A, c, ⟨?_, ?_⟩, o⟩
  · rw [h.len]
    exact h.1.set 1 _
  · rw [h.len]
    exact h.2.off o (fun k hk e => h.notOwn (by have e' : k = p := e; rwa [e'] at hk))
set_option maxRecDepth 100000 in
set_option maxHeartbeats 1000000 in
theorem refEnd_any (p : Nat) (A : Option Addr) (n c : Nat) (s : RS) (w : World) (h : Rm w p A n c s) :
    Calls Tryz.prog 69 #[.pointer (some ⟨p, 0, none⟩)] w fun e w' => e = .returned (.bool (s.st || !s.l.isEmpty)) ∧ RmP w p A ⟨s.l, s.st || !s.l.isEmpty⟩ w' := by
  have c0 := h.1.cell 0
  have c1 := h.1.cell 1
  have z1 := h.1.frozen 1
  have hl := h.2.len
  obtain ⟨l, st⟩ := s
  simp only at hl
  go_enter Tryz.func69, Tryz.ntmps69
  cases st
  · cases l with
    | nil =>
      obtain rfl : n = 0 := hl.symm
      have hs := h.setB false
      go_wp2_with fail
      go_ret
      exact ⟨rfl, hs⟩
    | cons x l =>
      have b1 : decide (0 < n) = true := by rw [← hl]; simp
      have hs := h.setB true
      go_wp2_with fail
      go_ret
      exact ⟨rfl, hs⟩
  · have hs := h.setB true
    go_wp2_with fail
    go_ret
    exact ⟨rfl, hs⟩
def frontV : Option (Nat × Nat) → Value
  | none => .tuple #[.int .u64 0, .int .i64 0]
  | some (x, k) => .tuple #[.int .u64 x, .int .i64 k]
theorem front_add (X C : Nat) (hX : X < 18446744073709551616) (hC : C < 256) :
    IntKind.u64.wrap (IntKind.u64.wrap ((X : Int) * 128) + IntKind.u64.wrap (bits BinOp.and IntKind.u8 (C : Int) 127)) = (((C % 128 + 128 * X) % 18446744073709551616 : Nat) : Int) := by
  rw [bits_127 C hC]
  simp [IntKind.wrap, IntKind.bits, IntKind.signed]
  omega
set_option maxRecDepth 100000 in
set_option maxHeartbeats 4000000 in
theorem front_any (p : Nat) (A : Option Addr) (n c : Nat) (s : RS) (w : World) (h : Rm w p A n c s) (hn : n ≤ 140737488355328) :
    Calls Tryz.prog 160 #[.pointer (some ⟨p, 0, none⟩)] w fun e w' => e = .returned (frontV (findShort s.l)) ∧ Below w.heap.size w w' := by
  have hnc := h.2.cap
  have hl := h.2.len
  obtain ⟨l, st⟩ := s
  simp only at hl ⊢
  go_enter Tryz.func160, Tryz.ntmps160
  go_wp2_with fail
  go_loopw [4] (fun i wr => ∃ k : Nat, i = .int .i64 k ∧ 1 ≤ k ∧ k ≤ 11 ∧ (∀ j, j < k → ∀ y, findShort l ≠ some (y, j)) ∧ Below w.heap.size w wr) (fun i _ => 12 - (intOf i).toNat)
  case atStart => exact ⟨1, rfl, by omega, by omega, fun j hj y hy => by have := front_len hy; omega, Below.refl _ _⟩
  case round =>
    obtain ⟨k, rfl, hk1, hk, hno, F⟩ := hrel
    have h1 := h.below F
    have c0 := h1.1.cell 0
    by_cases h10 : k ≤ 10
    · have d1 : decide ((k : Int) ≤ 10) = true := by simp; omega
      by_cases hkn : k ≤ n
      · have d2 : decide ((k : Int) ≤ (n : Int)) = true := by simp; omega
        have HN := Lib.hid hno
        clear hno
        go_wp2_with fail
        go_loopw [5, 6] (fun v i wq => ∃ j : Nat, i = .int .i64 ((j : Int) - 1) ∧ v = .int .u64 (dec ((l.take k).drop j) % 18446744073709551616 : Nat) ∧ j ≤ k ∧ wq = wr) (fun _ i _ => (intOf i + 1).toNat)
        case atStart => exact ⟨k, rfl, by rw [List.drop_eq_nil_of_le (by rw [List.length_take]; omega)]; rfl, Nat.le_refl _, rfl⟩
        case round =>
          obtain ⟨j, rfl, rfl, hj, rfl⟩ := hrel
          rcases j with _ | j
          · rw [List.drop_zero, show ((0 : Nat) : Int) - 1 = -1 from rfl]
            have hmiss := front_miss (l := l) (n := k)
            have hhit := fun x hx (h : leb x = l.take k) => front_hit (n := k) hx h (by omega)
            have hY64 : dec (l.take k) % 18446744073709551616 < 18446744073709551616 := Nat.mod_lt _ (by omega)
            generalize dec (l.take k) % 18446744073709551616 = Y at *
            have rk := h1.2.rd.take hkn
            have b1 : (k : Int) ≤ (c : Int) := by omega
            have b2 : k ≤ c := by omega
            have b3 : (0 : Int) ≤ (k : Int) := by omega
            have hpl := h1.1.lt
            have HMs := Lib.hid hmiss
            clear hmiss
            go_wp2_with fail
            refine wp_region_order (fun u => Below wr.heap.size wr u ∧ u.cell? ⟨p, 0, none⟩ = some (.slice A n c)) 11 [(0,0), (3,0), (4,0), (5,0), (6,0), (7,0), (8,0), (9,0), (1,1), (2,1), (10,1)] (by kernel_rfl) (by kernel_rfl) ?_
            simp only [pick, List.filterMap_cons, List.filterMap_nil, List.getElem?_cons_zero, List.getElem?_cons_succ, Option.map_some]
            have hS : Below wr.heap.size wr wr.drew ∧ wr.drew.cell? ⟨p, 0, none⟩ = some (.slice A n c) := ⟨(Below.refl _ _).drew, c0⟩
            refine wpF_take (v := ?_) hS rfl ?_ (fun _ _ _ h => h) ?_
            rotate_left
            · intro w' hS'
              obtain ⟨_, e0⟩ := hS'
              go_simp <;> rfl
            go_simp
            refine wpF_take (v := ?_) hS rfl ?_ (fun _ _ _ h => h) ?_
            rotate_left
            · intro w' hS'
              obtain ⟨_, e0⟩ := hS'
              go_simp <;> rfl
            go_simp
            refine wpF_take (v := ?_) hS rfl ?_ (fun _ _ _ h => h) ?_
            rotate_left
            · intro w' hS'
              obtain ⟨_, e0⟩ := hS'
              go_simp <;> rfl
            go_simp
            refine wpF_take (v := ?_) hS rfl ?_ (fun _ _ _ h => h) ?_
            rotate_left
            · intro w' hS'
              obtain ⟨_, e0⟩ := hS'
              go_simp <;> rfl
            go_simp
            refine wpF_take (v := ?_) hS rfl ?_ (fun _ _ _ h => h) ?_
            rotate_left
            · intro w' hS'
              obtain ⟨_, e0⟩ := hS'
              go_simp <;> rfl
            go_simp
            refine wpF_take (v := ?_) hS rfl ?_ (fun _ _ _ h => h) ?_
            rotate_left
            · intro w' hS'
              obtain ⟨_, e0⟩ := hS'
              go_simp <;> rfl
            go_simp
            refine wpF_take (v := .slice A k c) hS rfl (fun u hS' => by go_simp) (fun _ _ _ h => h) ?_
            go_simp
            refine wpF_take (v := .string (strB (l.take k))) hS rfl (fun u hS' => ?_) (fun _ _ _ h => h) ?_
            · have := run_str T23 (rk.below hS'.1) c _ Tryz.underlying9
              go_simp <;> rw [this]
            go_simp
            refine wpF_only rfl (fun K hK => ?_)
            go_wp2_with fail
            refine (refShort_any Y hY64 _).mono ?_
            rintro e wS ⟨As, cs, rfl, os, fs⟩
            have ks : (convert 52 9 (.slice As (leb Y).length cs)).run Tryz.prog wS = .ok (.string (strB (leb Y))) wS := run_str T23 os.rd cs _ Tryz.underlying9
            have hB : Below wr.heap.size wr wS ∧ wS.cell? ⟨p, 0, none⟩ = some (.slice A n c) := ⟨hS.1.trans fs, (fs.cell (p := ⟨p, 0, none⟩) hpl).trans hS.2⟩
            generalize hLY : leb Y = LY at *
            have HL := Lib.hid hLY
            clear hLY
            go_wp2_with fail
            first | refine ⟨fun _ => hB, ?_⟩ | skip
            go_simp
            refine wpF_only rfl (fun K hK => ?_)
            go_wp2_with fail
            first | refine ⟨fun _ => hB, ?_⟩ | skip
            go_simp
            refine wpF_nil ?_
            have F2 := F.trans (hB.1.mono F.size)
            clear hS hB ks os
            go_wp2_with fail
            · go_ret2
              have hh : leb Y = l.take k := by
                rename_i hx
                rw [HL.out]
                simpa using hx
              rw [hhit Y hY64 hh]
              exact ⟨rfl, F2⟩
            · have hh : ¬ LY = l.take k := by
                rename_i hx
                simpa using hx
              go_roundw
              case rel =>
                refine ⟨k + 1, by go_num, by omega, by omega, fun j hj y => ?_, F2⟩
                by_cases hjk : j = k
                · subst hjk
                  exact HMs.out hh y
                · exact HN.out j (by omega) y
              case measure => simp [intOf]; omega
          · rw [show ((j + 1 : Nat) : Int) - 1 = (j : Int) from by omega]
            have hlt : j < (l.take k).length := by rw [List.length_take]; omega
            have hst := dec_step hlt
            have hat : at8 (l.take k) j = at8 l j := by
              unfold at8
              rw [List.getD_eq_getElem?_getD, List.getD_eq_getElem?_getD, List.getElem?_take, if_pos (by omega)]
            rw [hat] at hst
            obtain ⟨b, off, rfl, hb, hc⟩ := h1.2.rd.cellAt (j := j) (by omega)
            have hc8 := (at8 l j).toNat_lt
            have b1 : (0 : Int) ≤ (j : Int) := by omega
            have b2 : (j : Int) < (n : Int) := by omega
            have hX : dec ((l.take k).drop (j + 1)) % 18446744073709551616 < 18446744073709551616 := Nat.mod_lt _ (by omega)
            have hY : dec ((l.take k).drop j) % 18446744073709551616 = ((at8 l j).toNat % 128 + 128 * (dec ((l.take k).drop (j + 1)) % 18446744073709551616)) % 18446744073709551616 := by
              rw [hst]
              omega
            generalize (at8 l j).toNat = C at *
            generalize dec ((l.take k).drop (j + 1)) % 18446744073709551616 = X at *
            have hadd := front_add X C hX (by omega)
            rw [← hY] at hadd
            have HY := Lib.hid hY
            clear hY hst hat
            go_wp2_with fail
            go_roundw
            case rel => exact ⟨j, rfl, by simp, by omega, by trivial⟩
            case measure => simp [intOf]
      · have d2 : decide ((k : Int) ≤ (n : Int)) = false := by simp; omega
        have hnone := front_none hno (by omega)
        go_wp2_with fail
        go_ret2
        first | (rw [hnone]; exact ⟨rfl, F⟩) | exact ⟨rfl, F⟩
    · have d1 : decide ((k : Int) ≤ 10) = false := by simp; omega
      have hnone := front_none hno (by omega)
      go_wp2_with fail
      go_ret2
      first | (rw [hnone]; exact ⟨rfl, F⟩) | exact ⟨rfl, F⟩
set_option maxRecDepth 100000 in
set_option maxHeartbeats 2000000 in
theorem refUint_any (p : Nat) (A : Option Addr) (n c : Nat) (s : RS) (w : World) (h : Rm w p A n c s) (hn : n ≤ 140737488355328) :
    Calls Tryz.prog 122 #[.pointer (some ⟨p, 0, none⟩)] w fun e w' => e = .returned (.int .u64 ((takeS findShort 0 s).1 : Nat)) ∧ RmP w p A (takeS findShort 0 s).2 w' := by
  have hl := h.2.len
  obtain ⟨l, st⟩ := s
  simp only at hl
  go_enter Tryz.func122, Tryz.ntmps122
  go_wp2_with fail
  refine (front_any p A n c ⟨l, st⟩ w h hn).mono ?_
  rintro e w1 ⟨rfl, f1⟩
  have h1 := h.below f1
  have c1 := h1.1.cell 1
  have z1 := h1.1.frozen 1
  have hs := (h1.setB true).to (ofB f1 p A)
  simp only
  cases st
  · cases hf : findShort l with
    | none =>
      rw [frontV]
      go_wp2_with fail
      go_ret
      rw [takeS_none hf]
      exact ⟨rfl, hs⟩
    | some yk =>
      obtain ⟨y, k⟩ := yk
      have hk := front_len hf
      rw [frontV]
      have b1 : ((k : Int) == 0) = false := by simp; omega
      go_wp2_with fail
      refine (drop_any p A n c l false k w1 h1 (by omega) hn).mono ?_
      rintro e w2 ⟨rfl, hp⟩
      go_wp2_with fail
      go_ret
      rw [takeS_some hf]
      exact ⟨rfl, hp.to (ofB f1 p A)⟩
  · cases hf : findShort l with
    | none =>
      rw [frontV]
      go_wp2_with fail
      go_ret
      exact ⟨rfl, hs⟩
    | some yk =>
      obtain ⟨y, k⟩ := yk
      rw [frontV]
      go_wp2_with fail
      go_ret
      exact ⟨rfl, hs⟩
set_option maxRecDepth 100000 in
set_option maxHeartbeats 4000000 in
theorem refRText_any (p : Nat) (A : Option Addr) (n c : Nat) (s : RS) (m : Int) (w : World) (h : Rm w p A n c s) (hn : n ≤ 140737488355328) (hm1 : -9223372036854775808 ≤ m) (hm2 : m ≤ 9223372036854775807) :
    Calls Tryz.prog 123 #[.pointer (some ⟨p, 0, none⟩), .int .i64 m] w fun e w' => e = .returned (.string (strB (takeS (findText m) [] s).1)) ∧ RmP w p A (takeS (findText m) [] s).2 w' := by
  have hl := h.2.len
  obtain ⟨l, st⟩ := s
  simp only at hl
  go_enter Tryz.func123, Tryz.ntmps123
  go_wp2_with fail
  refine (front_any p A n c ⟨l, st⟩ w h hn).mono ?_
  rintro e w1 ⟨rfl, f1⟩
  have h1 := h.below f1
  have c0 := h1.1.cell 0
  have c1 := h1.1.cell 1
  have z1 := h1.1.frozen 1
  have hs := (h1.setB true).to (ofB f1 p A)
  have hnc := h1.2.cap
  simp only
  cases st
  · cases hf : findShort l with
    | none =>
      have hft : findText m l = none := by rw [findText, hf]
      rw [frontV]
      go_wp2_with fail
      go_ret
      rw [takeS_none hft]
      exact ⟨rfl, hs⟩
    | some yk =>
      obtain ⟨y, k⟩ := yk
      have hk := front_len hf
      obtain ⟨_, _, hy⟩ := findShort_le hf
      rw [frontV]
      have b1 : ((k : Int) == 0) = false := by simp; omega
      by_cases hm0 : m < 0
      · have hft : findText m l = none := by rw [findText, hf]; simp [hm0]
        have d1 : decide (m < 0) = true := by simp [hm0]
        go_wp2_with fail
        go_ret
        rw [takeS_none hft]
        exact ⟨rfl, hs⟩
      · have d1 : decide (m < 0) = false := by simp; omega
        obtain ⟨M, rfl⟩ : ∃ M : Nat, m = (M : Int) := ⟨m.toNat, by omega⟩
        have hw := wrap_small (v := (M : Int)) (by omega) (by omega)
        by_cases hm1' : M < y
        · have hft : findText (M : Int) l = none := by rw [findText, hf]; simp [hm1']
          have d2 : decide ((M : Int) < (y : Int)) = true := by simp [hm1']
          go_wp2_with fail
          go_ret
          rw [takeS_none hft]
          exact ⟨rfl, hs⟩
        · have d2 : decide ((M : Int) < (y : Int)) = false := by simp; omega
          have hw2 := wrap_small (v := (n : Int) - (k : Int)) (by omega) (by omega)
          by_cases hm2' : n < k + y
          · have hft : findText (M : Int) l = none := by rw [findText, hf]; simp [hl, hm2']
            have d3 : decide ((n : Int) - (k : Int) < (y : Int)) = true := by simp; omega
            go_wp2_with fail
            go_ret
            rw [takeS_none hft]
            exact ⟨rfl, hs⟩
          · have hft : findText (M : Int) l = some ((l.drop k).take y, k + y) := by rw [findText, hf]; simp [hl, hm0, hm1', hm2']
            have d3 : decide ((n : Int) - (k : Int) < (y : Int)) = false := by simp; omega
            have hky : k + y ≤ n := by omega
            have hk1 : k ≤ n := by omega
            have hy2 : y ≤ 140737488355328 := by omega
            have hrs := h1.2.rd.sliced (i := k) (k := k + y) (c := c) (by omega) hky hnc
            obtain ⟨A', e', r'⟩ := hrs
            rw [Nat.add_sub_cancel_left] at e' r'
            have e2 : (l.take (k + y)).drop k = (l.drop k).take y := by rw [List.drop_take, Nat.add_sub_cancel_left]
            rw [e2] at r'
            simp only [sliced, Nat.mul_one] at e'
            injection e' with e1 _ _
            rw [← e1] at r'
            clear hm2' e2
            obtain ⟨z, hz⟩ : ∃ z, strB ((l.drop k).take y) = z := ⟨_, rfl⟩
            by_cases hci : c = k
            · rw [if_pos hci] at r'
              have kq := run_str T23 r' (c - k) _ Tryz.underlying9
              rw [hz] at kq
              have hy0 : y = 0 := by omega
              rw [show c - k = 0 from by omega] at kq
              have hnk : n = k := by omega
              have hp1 := fun w2 (q : RmP w1 p A ⟨l.drop (k + y), false⟩ w2) => q.to (ofB f1 p A)
              have hts := takeS_some (z := []) hft
              have HTS := Lib.hid hts
              have HZ := Lib.hid hz
              have HP := Lib.hid hp1
              clear hts hft hz hp1 r' e1 hs
              subst hy0
              subst hnk
              subst hci
              go_wp2_with fail
              refine (drop_any p A _ _ l false _ w1 h1 (Nat.le_refl _) hn).mono ?_
              rintro e w2 ⟨rfl, hp⟩
              go_wp2_with fail
              go_ret
              rw [HTS.out]
              exact ⟨by rw [← HZ.out]; rfl, HP.out w2 (by simpa using hp)⟩
            · rw [if_neg hci] at r'
              have kq := run_str T23 r' (c - k) _ Tryz.underlying9
              rw [hz] at kq
              go_wp2_with fail
              refine (drop_any p A n c l false (k + y) w1 h1 hky hn).mono ?_
              rintro e w2 ⟨rfl, hp⟩
              go_wp2_with fail
              go_ret
              rw [takeS_some hft]
              exact ⟨by rw [← hz]; rfl, hp.to (ofB f1 p A)⟩
  · cases hf : findShort l with
    | none =>
      rw [frontV]
      go_wp2_with fail
      go_ret
      exact ⟨rfl, hs⟩
    | some yk =>
      obtain ⟨y, k⟩ := yk
      rw [frontV]
      go_wp2_with fail
      go_ret
      exact ⟨rfl, hs⟩
theorem u8_wide (s : RS) : takeS findU8 0 s = (wideN (takeS (findRaw (1 : Nat)) [] s).1 (takeS (findRaw (1 : Nat)) [] s).1.length, (takeS (findRaw (1 : Nat)) [] s).2) := by
  obtain ⟨l, st⟩ := s
  cases st
  · cases l with
    | nil => rfl
    | cons x l =>
      have h : findRaw (1 : Nat) (x :: l) = some ([x], 1) := by
        rw [findRaw, if_neg (by rw [List.length_cons]; omega)]
        rfl
      rw [takeS_some (z := 0) (g := findU8) (x := x.toNat) (k := 1) rfl, takeS_some h]
      simp [wideN, at8, List.range_succ]
  · rfl
theorem wide4 (a b c d : UInt8) : wideN [a, b, c, d] 4 = a.toNat + b.toNat * 256 + c.toNat * 65536 + d.toNat * 16777216 := by
  rw [wideN_succ, wideN_succ, wideN_succ, wideN_succ]
  have e0 : wideN [a, b, c, d] 0 = 0 := rfl
  have e1 : at8 [a, b, c, d] 0 = a := rfl
  have e2 : at8 [a, b, c, d] 1 = b := rfl
  have e3 : at8 [a, b, c, d] 2 = c := rfl
  have e4 : at8 [a, b, c, d] 3 = d := rfl
  rw [e0, e1, e2, e3, e4]
  generalize a.toNat = x
  generalize b.toNat = y
  generalize c.toNat = z
  generalize d.toNat = t
  omega
theorem findU32_four (a b c d : UInt8) (l : List UInt8) : findU32 (a :: b :: c :: d :: l) = some (a.toNat + b.toNat * 256 + c.toNat * 65536 + d.toNat * 16777216, 4) := by
  rw [findU32]
theorem u32_wide (s : RS) : takeS findU32 0 s = (wideN (takeS (findRaw (4 : Nat)) [] s).1 (takeS (findRaw (4 : Nat)) [] s).1.length, (takeS (findRaw (4 : Nat)) [] s).2) := by
  obtain ⟨l, st⟩ := s
  cases st
  · by_cases h4 : l.length < 4
    · have h : findRaw (4 : Nat) l = none := by rw [findRaw, if_pos (by omega)]
      rw [takeS_none (findU32_short h4), takeS_none h]
      simp [wideN]
    · rcases l with _ | ⟨a, _ | ⟨b, _ | ⟨c, _ | ⟨d, l⟩⟩⟩⟩
      · exact absurd (by simp) h4
      · exact absurd (by simp) h4
      · exact absurd (by simp) h4
      · exact absurd (by simp) h4
      · have h : findRaw (4 : Nat) (a :: b :: c :: d :: l) = some ([a, b, c, d], 4) := by
          rw [findRaw, if_neg (by simp only [List.length_cons]; omega)]
          rfl
        rw [takeS_some (z := 0) (findU32_four a b c d l), takeS_some h]
        simp only [List.length_cons, List.length_nil, Nat.zero_add, Nat.reduceAdd]
        rw [wide4]
  · rfl
end Go.Proofs.YtdbjihpdfiipcaaGreat
