/- How two texts, two names stand: cmp.Compare, cmp.Or, name.Cmp, and the document's. Condition of the document's: the texts are at most 2^62 bytes. -/
import Derived.Test.YtopemhdoccgjmaaName
import Derived.Test.YtopemhdoccgjmaaOrder
namespace Go.Proofs.Ytopemhdoccgjmaa
open Go.RowKit
set_option linter.unusedVariables false
def cmpS (a b : List UInt8) : Int := if Op.bytesLess a b then -1 else if Op.bytesLess b a then 1 else 0
def cmpN (a b c d : List UInt8) : Int := if cmpS a c = 0 then cmpS b d else cmpS a c
theorem bytesLess_self (a : List UInt8) : Op.bytesLess a a = false := by
  induction a with
  | nil => rfl
  | cons x a ih => 
    rw [Op.bytesLess, ih]
    simp
theorem less_total : ∀ (a b : List UInt8), Op.bytesLess a b = false → Op.bytesLess b a = false → a = b
  | [], [], _, _ => rfl
  | [], _ :: _, h, _ => by cases h
  | _ :: _, [], _, h => by cases h
  | x :: a, y :: b, h1, h2 => by
    rw [Op.bytesLess] at h1 h2
    simp only [Bool.or_eq_false_iff, decide_eq_false_iff_not, Bool.and_eq_false_imp, beq_iff_eq] at h1 h2
    have e : x = y := by
      have n1 : ¬ x.toNat < y.toNat := fun h => h1.1 (UInt8.lt_iff_toNat_lt.2 h)
      have n2 : ¬ y.toNat < x.toNat := fun h => h2.1 (UInt8.lt_iff_toNat_lt.2 h)
      exact UInt8.toNat_inj.1 (by omega)
    rw [e, less_total a b (h1.2 e) (h2.2 e.symm)]
theorem less_ne {a b : List UInt8} (h : Op.bytesLess a b = true) : (b == a) = false := by
  rw [beq_eq_false_iff_ne]
  rintro rfl
  rw [bytesLess_self] at h
  cases h
theorem bytesLess_drop (i : Nat) : ∀ (a b : List UInt8), a.take i = b.take i → i ≤ a.length → i ≤ b.length → Op.bytesLess a b = Op.bytesLess (a.drop i) (b.drop i) := by
  induction i with
  | zero => intro a b _ _ _; rfl
  | succ i ih =>
    intro a b h h1 h2
    rcases a with _ | ⟨x, a⟩
    · simp at h1
    rcases b with _ | ⟨y, b⟩
    · simp at h2
    simp only [List.take_succ_cons, List.cons.injEq] at h
    obtain ⟨rfl, h⟩ := h
    have hx : ¬ x < x := by intro hh; exact absurd (UInt8.lt_iff_toNat_lt.1 hh) (by omega)
    rw [Op.bytesLess, List.drop_succ_cons, List.drop_succ_cons, ← ih a b h (by simpa using h1) (by simpa using h2)]
    simp [hx]
theorem less_lt {a b : List UInt8} {i : Nat} (h : a.take i = b.take i) (h1 : i < a.length) (h2 : i < b.length) (hlt : (at8 a i).toNat < (at8 b i).toNat) : Op.bytesLess a b = true := by
  rw [bytesLess_drop i a b h (by omega) (by omega), List.drop_eq_getElem_cons h1, List.drop_eq_getElem_cons h2, Op.bytesLess]
  have e1 : at8 a i = a[i] := by simp [at8, List.getD, h1]
  have e2 : at8 b i = b[i] := by simp [at8, List.getD, h2]
  rw [e1, e2] at hlt
  have : a[i] < b[i] := UInt8.lt_iff_toNat_lt.2 hlt
  simp [this]
theorem less_gt {a b : List UInt8} {i : Nat} (h : a.take i = b.take i) (h1 : i < a.length) (h2 : i < b.length) (hlt : (at8 b i).toNat < (at8 a i).toNat) : Op.bytesLess a b = false := by
  rw [bytesLess_drop i a b h (by omega) (by omega), List.drop_eq_getElem_cons h1, List.drop_eq_getElem_cons h2, Op.bytesLess]
  have e1 : at8 a i = a[i] := by simp [at8, List.getD, h1]
  have e2 : at8 b i = b[i] := by simp [at8, List.getD, h2]
  rw [e1, e2] at hlt
  have n1 : ¬ a[i] < b[i] := fun hh => absurd (UInt8.lt_iff_toNat_lt.1 hh) (by omega)
  have n2 : ¬ a[i] = b[i] := fun hh => by rw [hh] at hlt; omega
  simp [n1, n2]
theorem less_short {a b : List UInt8} {i : Nat} (h : a.take i = b.take i) (h1 : i = a.length) (h2 : i < b.length) : Op.bytesLess a b = true := by
  rw [bytesLess_drop i a b h (by omega) (by omega), List.drop_of_length_le (by omega), List.drop_eq_getElem_cons h2]
  rfl
theorem less_long {a b : List UInt8} {i : Nat} (h : a.take i = b.take i) (h1 : i ≤ a.length) (h2 : i = b.length) : Op.bytesLess a b = false := by
  rw [bytesLess_drop i a b h (by omega) (by omega), List.drop_of_length_le (l := b) (by omega)]
  cases a.drop i <;> rfl
theorem take_more {a b : List UInt8} {i : Nat} (h : a.take i = b.take i) (h1 : i < a.length) (h2 : i < b.length) (he : (at8 a i).toNat = (at8 b i).toNat) : a.take (i + 1) = b.take (i + 1) := by
  rw [List.take_succ_eq_append_getElem h1, List.take_succ_eq_append_getElem h2, h]
  have e1 : at8 a i = a[i] := by simp [at8, List.getD, h1]
  have e2 : at8 b i = b[i] := by simp [at8, List.getD, h2]
  rw [e1, e2] at he
  rw [UInt8.toNat_inj.1 he]
theorem cmp_lt {a b : List UInt8} (h : Op.bytesLess a b = true) : cmpS a b = -1 := by unfold cmpS; rw [h]; rfl
theorem cmp_gt {a b : List UInt8} (h : Op.bytesLess a b = false) (h2 : Op.bytesLess b a = true) : cmpS a b = 1 := by unfold cmpS; rw [h, h2]; rfl
theorem cmp_eq {a b : List UInt8} (h : Op.bytesLess a b = false) (h2 : Op.bytesLess b a = false) : cmpS a b = 0 := by unfold cmpS; rw [h, h2]; rfl
set_option maxRecDepth 100000 in
theorem isNaN_any (s : ByteArray) (w : World) : Calls Try.prog 32 #[.string s] w fun e w' => e = .returned (.bool false) ∧ w' = w := by
  go_enter Try.func32, Try.ntmps32
  go_wp2_with fail
  go_ret
  exact ⟨rfl, rfl⟩
set_option maxRecDepth 100000 in
set_option maxHeartbeats 1000000 in
theorem compare_any (a b : List UInt8) (w : World) : Calls Try.prog 25 #[.string (strB a), .string (strB b)] w fun e w' => e = .returned (.int .i64 (cmpS a b)) ∧ w' = w := by
  go_enter Try.func25, Try.ntmps25
  go_wp2_with fail
  refine (isNaN_any _ w).mono ?_
  rintro e w1 ⟨rfl, rfl⟩
  go_wp2_with fail
  refine (isNaN_any _ w1).mono ?_
  rintro e w2 ⟨rfl, rfl⟩
  cases h1 : Op.bytesLess a b
  · cases h2 : Op.bytesLess b a
    · have he : (a == b) = true := by rw [less_total a b h1 h2]; simp
      have hc := Lib.hid (cmp_eq h1 h2)
      go_wp2_with fail
      go_ret
      exact ⟨by rw [hc.out]; first | rfl | skip, rfl⟩
    · have he : (a == b) = false := less_ne h2
      have hc := Lib.hid (cmp_gt h1 h2)
      go_wp2_with fail
      go_ret
      exact ⟨by rw [hc.out]; first | rfl | skip, rfl⟩
  · have hc := Lib.hid (cmp_lt h1)
    go_wp2_with fail
    go_ret
    exact ⟨by rw [hc.out]; first | rfl | skip, rfl⟩
set_option maxRecDepth 100000 in
set_option maxHeartbeats 2000000 in
theorem text_any (a b : List UInt8) (ha : a.length ≤ 9223372036854775806) (hb : b.length ≤ 9223372036854775806) (w : World) : Calls Try.prog 26 #[.string (strB a), .string (strB b)] w fun e w' => e = .returned (.int .i64 (cmpS a b)) ∧ Below w.heap.size w w' := by
  have za := strB_size a
  have zb := strB_size b
  generalize hs : strB a = s at *
  generalize ht : strB b = t at *
  have hat : ∀ k (h : k < s.size), (s[k]'h).toNat = (at8 a k).toNat := by subst hs; exact strB_at a
  have hbt : ∀ k (h : k < t.size), (t[k]'h).toNat = (at8 b k).toNat := by subst ht; exact strB_at b
  have Hat := Lib.hid hat
  have Hbt := Lib.hid hbt
  have Hs := Lib.hid hs
  have Ht := Lib.hid ht
  clear hat hbt hs ht
  generalize hn : a.length = n at *
  generalize hm : b.length = m at *
  have Hn := Lib.hid hn
  have Hm := Lib.hid hm
  clear hn hm
  go_enter Try.func26, Try.ntmps26
  go_wp2_with fail
  go_loopw [5] (fun i wr => ∃ k : Nat, k ≤ n ∧ k ≤ m ∧ i = .int .i64 k ∧ a.take k = b.take k ∧ Below w.heap.size w wr) (fun i _ => n - (intOf i).toNat)
  case atStart => exact ⟨0, by omega, by omega, rfl, rfl, Below.refl _ _⟩
  case round =>
    obtain ⟨k, hk1, hk2, rfl, htk, F⟩ := hrel
    have Htk := Lib.hid htk
    clear htk
    by_cases h1 : k < n
    · have d1 : decide ((k : Int) < (n : Int)) = true := by simp; omega
      by_cases h2 : k < m
      · have d2 : decide ((k : Int) < (m : Int)) = true := by simp; omega
        have b0 : (0 : Int) ≤ (k : Int) := by omega
        have b1 : (k : Int) < (n : Int) := by omega
        have b2 : (k : Int) < (m : Int) := by omega
        have qa : (s[k]'(by omega)).toNat = (at8 a k).toNat := Hat.out k (by omega)
        have qb : (t[k]'(by omega)).toNat = (at8 b k).toNat := Hbt.out k (by omega)
        have l1 := fun h => less_lt (a := a) (b := b) (i := k) Htk.out (by rw [Hn.out]; exact h1) (by rw [Hm.out]; exact h2) h
        have l2 := fun h => less_gt (a := a) (b := b) (i := k) Htk.out (by rw [Hn.out]; exact h1) (by rw [Hm.out]; exact h2) h
        have l3 := fun h => less_lt (a := b) (b := a) (i := k) Htk.out.symm (by rw [Hm.out]; exact h2) (by rw [Hn.out]; exact h1) h
        have l4 := fun h => take_more (a := a) (b := b) (i := k) Htk.out (by rw [Hn.out]; exact h1) (by rw [Hm.out]; exact h2) h
        have L1 := Lib.hid l1
        have L2 := Lib.hid l2
        have L3 := Lib.hid l3
        have L4 := Lib.hid l4
        clear l1 l2 l3 l4
        generalize (at8 a k).toNat = C at *
        generalize (at8 b k).toNat = D at *
        by_cases h3 : C < D
        · have d3 : decide ((C : Int) < (D : Int)) = true := by simp; omega
          have hc := Lib.hid (cmp_lt (L1.out h3))
          go_wp2_with fail
          go_quiet (fail)
          go_wp2_with fail
          go_ret
          exact ⟨by rw [hc.out]; first | rfl | skip, belowN F nq⟩
        have d3 : decide ((C : Int) < (D : Int)) = false := by simp; omega
        by_cases h4 : D < C
        · have d4 : decide ((D : Int) < (C : Int)) = true := by simp; omega
          have hc := Lib.hid (cmp_gt (L2.out h4) (L3.out h4))
          go_wp2_with fail
          go_quiet (fail)
          go_wp2_with fail
          go_quiet (fail)
          go_wp2_with fail
          go_ret
          exact ⟨by rw [hc.out]; first | rfl | skip, belowN (belowN F _) _⟩
        have d4 : decide ((D : Int) < (C : Int)) = false := by simp; omega
        have hte := Lib.hid (L4.out (by omega))
        go_wp2_with fail
        go_quiet (fail)
        go_wp2_with fail
        go_quiet (fail)
        go_wp2_with fail
        go_roundw
        case rel => exact ⟨k + 1, by omega, by omega, by go_num, hte.out, by first | exact belowN (belowN F _) _ | exact belowN F _⟩
        case measure => simp [intOf]; omega
      · have d2 : decide ((k : Int) < (m : Int)) = false := by simp; omega
        have d3 : decide ((n : Int) < (m : Int)) = false := by simp; omega
        have d4 : decide ((m : Int) < (n : Int)) = true := by simp; omega
        have hc := Lib.hid (cmp_gt (a := a) (b := b) (less_long Htk.out (by rw [Hn.out]; exact hk1) (by rw [Hm.out]; omega)) (less_short (i := k) Htk.out.symm (by rw [Hm.out]; omega) (by rw [Hn.out]; exact h1)))
        go_wp2_with fail
        go_ret
        exact ⟨by rw [hc.out]; first | rfl | skip, F⟩
    · have d1 : decide ((k : Int) < (n : Int)) = false := by simp; omega
      by_cases h2 : n < m
      · have d3 : decide ((n : Int) < (m : Int)) = true := by simp; omega
        have hc := Lib.hid (cmp_lt (a := a) (b := b) (less_short (i := k) Htk.out (by rw [Hn.out]; omega) (by rw [Hm.out]; omega)))
        go_wp2_with fail
        go_ret
        exact ⟨by rw [hc.out]; first | rfl | skip, F⟩
      · have d3 : decide ((n : Int) < (m : Int)) = false := by simp; omega
        have d4 : decide ((m : Int) < (n : Int)) = false := by simp; omega
        have hc := Lib.hid (cmp_eq (a := a) (b := b) (less_long (i := k) Htk.out (by rw [Hn.out]; exact hk1) (by rw [Hm.out]; omega)) (less_long (i := k) Htk.out.symm (by rw [Hm.out]; omega) (by rw [Hn.out]; omega)))
        go_wp2_with fail
        go_ret
        exact ⟨by rw [hc.out]; first | rfl | skip, F⟩
end Go.Proofs.Ytopemhdoccgjmaa
