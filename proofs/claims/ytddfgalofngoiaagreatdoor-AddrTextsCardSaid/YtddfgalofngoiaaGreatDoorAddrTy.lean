/- The document's numbers and cuts, as plain things. No condition. -/
import Derived.Test.YtddfgalofngoiaaGreatDoorAddrTx
namespace Go.Proofs.YtddfgalofngoiaaGreatDoor
set_option linter.unusedVariables false
set_option linter.unusedSimpArgs false
def numBad (c : UInt8) (n most : Nat) : Bool := decide (c.toNat < 48) || (decide (57 < c.toNat) || decide (most < n))
def numS (most : Nat) : List UInt8 → Nat → Option Nat
  | [], n => some n
  | c :: r, n => if numBad c n most = true then none else numS most r (10 * n + (c.toNat - 48))
theorem numS_mono {m m' : Nat} (h : m ≤ m') : ∀ {l : List UInt8} {n x : Nat}, numS m l n = some x → numS m' l n = some x
  | [], n, x, e => e
  | c :: r, n, x, e => by
    unfold numS at e ⊢
    by_cases hb : numBad c n m = true
    · rw [if_pos hb] at e; cases e
    · rw [if_neg hb] at e
      have hb' : ¬ numBad c n m' = true := by
        unfold numBad at hb ⊢
        simp only [Bool.or_eq_true, decide_eq_true_eq] at hb ⊢
        omega
      rw [if_neg hb']
      exact numS_mono h e
theorem numS_dig : ∀ v : Fin 256, numS v.val (dig3 v.val) 0 = some v.val := by decide +kernel
theorem numS_itoa {v most : Nat} (h : v < 256) (hm : v ≤ most) : numS most (Lib.itoa (v : Int)) 0 = some v := by
  rw [itoa_dig3 (by omega)]
  exact numS_mono hm (numS_dig ⟨v, h⟩)
/-- The document's Number. -/
theorem num_none {l : List UInt8} {most : Nat} (hm : most < 256) (h : numS most l 0 = none) : smallS l most = -1 := by
  by_cases hs : smallS l most < 0
  · have := smallS_le l most (by omega)
    omega
  · obtain ⟨n, h1, h2, h3⟩ := small_inv hs
    rw [h3, numS_itoa (by omega) (by omega)] at h
    cases h
theorem num_some {l : List UInt8} {most n : Nat} (hm : most < 256) (h : numS most l 0 = some n) : smallS l most = if n ≤ most ∧ Lib.decDigits n = l then (n : Int) else -1 := by
  by_cases hs : smallS l most < 0
  · have h0 := smallS_le l most (by omega)
    rw [if_neg]
    · omega
    · rintro ⟨h1, h2⟩
      have := small_itoa (n := n) (most := most) (by omega) (by omega)
      unfold Lib.itoa at this
      rw [if_neg (by omega), Int.toNat_natCast, h2] at this
      omega
  · obtain ⟨v, h1, h2, h3⟩ := small_inv hs
    have h4 := numS_itoa (v := v) (most := most) (by omega) (by omega)
    rw [← h3, h] at h4
    obtain rfl : n = v := Option.some.inj h4
    have hd : Lib.decDigits n = l := by
      rw [h3]
      unfold Lib.itoa
      rw [if_neg (by omega), Int.toNat_natCast]
    rw [if_pos ⟨by omega, hd⟩, h1]
theorem numS_cons {most n : Nat} {l : List UInt8} {i : Nat} (h : i < l.length) (hb : numBad l[i] n most = false) : numS most (l.drop i) n = numS most (l.drop (i + 1)) (10 * n + (l[i].toNat - 48)) := by
  rw [List.drop_eq_getElem_cons h]
  show (if numBad l[i] n most = true then none else _) = _
  rw [if_neg (by rw [hb]; decide)]
theorem numS_bad {most n : Nat} {l : List UInt8} {i : Nat} (h : i < l.length) (hb : numBad l[i] n most = true) : numS most (l.drop i) n = none := by
  rw [List.drop_eq_getElem_cons h]
  show (if numBad l[i] n most = true then none else _) = _
  rw [if_pos hb]
/-- Where a text is cut, piece by piece. -/
structure CutAt (c : UInt8) (l : List UInt8) (D : List (List UInt8)) (f i : Nat) : Prop where
  le : f ≤ i
  li : i ≤ l.length
  eq : D ++ spl c (l.drop f) = spl c l
  no : c ∉ (l.drop f).take (i - f)
theorem cutAt_start (c : UInt8) (l : List UInt8) : CutAt c l [] 0 0 := ⟨Nat.le_refl _, Nat.zero_le _, by simp, by simp⟩
theorem cut_piece {l : List UInt8} {f i : Nat} (hf : f ≤ i) (hi : i < l.length) : l.drop f = (l.drop f).take (i - f) ++ l[i] :: l.drop (i + 1) := by
  have h := (List.take_append_drop (i - f) (l.drop f)).symm
  rw [List.drop_drop, show f + (i - f) = i by omega, List.drop_eq_getElem_cons hi] at h
  exact h
theorem cutAt_hit {c : UInt8} {l : List UInt8} {D : List (List UInt8)} {f i : Nat} (h : CutAt c l D f i) (hi : i < l.length) (hc : l[i] = c) : CutAt c l (D ++ [(l.drop f).take (i - f)]) (i + 1) (i + 1) := by
  refine ⟨Nat.le_refl _, hi, ?_, by rw [Nat.sub_self]; simp⟩
  have e := cut_piece h.le hi
  rw [hc] at e
  have e2 : spl c (l.drop f) = (l.drop f).take (i - f) :: spl c (l.drop (i + 1)) := by
    conv => lhs; rw [e]
    exact spl_app _ h.no
  rw [← h.eq, e2]
  simp
theorem cutAt_miss {c : UInt8} {l : List UInt8} {D : List (List UInt8)} {f i : Nat} (h : CutAt c l D f i) (hi : i < l.length) (hc : l[i] ≠ c) : CutAt c l D f (i + 1) := by
  refine ⟨by have := h.le; omega, hi, h.eq, ?_⟩
  rw [show i + 1 - f = (i - f) + 1 by have := h.le; omega, List.take_succ_eq_append_getElem (by rw [List.length_drop]; have := h.le; omega), List.mem_append, List.getElem_drop]
  rintro (h1 | h1)
  · exact h.no h1
  · rw [List.mem_singleton] at h1
    have e : f + (i - f) = i := by have := h.le; omega
    simp only [e] at h1
    exact hc h1.symm
theorem cutAt_end {c : UInt8} {l : List UInt8} {D : List (List UInt8)} {f : Nat} (h : CutAt c l D f l.length) : D ++ [(l.drop f).take (l.length - f)] = spl c l := by
  have e : (l.drop f).take (l.length - f) = l.drop f := List.take_of_length_le (by rw [List.length_drop]; exact Nat.le_refl _)
  have hn := h.no
  rw [e] at hn ⊢
  rw [← h.eq, spl_no hn]
theorem spl_len (c : UInt8) : ∀ l : List UInt8, (spl c l).length ≤ l.length + 1
  | [] => by simp [spl]
  | b :: l => by
    have ih := spl_len c l
    have e := spl_cons c l
    have h2 : (spl c l).length = ((spl c l).tail).length + 1 := by rw [e]; simp
    unfold spl
    split
    · simp only [List.length_cons]; omega
    · simp only [List.length_cons]; omega
theorem spl_mem_len (c : UInt8) (l : List UInt8) : ∀ x ∈ spl c l, x.length ≤ l.length := by
  induction l with
  | nil => intro x hx; simp [spl] at hx; subst hx; simp
  | cons b l ih =>
    have e := spl_cons c l
    intro x hx
    unfold spl at hx
    split at hx
    · rcases List.mem_cons.1 hx with rfl | h
      · simp
      · have := ih x h; rw [List.length_cons]; omega
    · rcases List.mem_cons.1 hx with rfl | h
      · have := ih ((spl c l).headD []) (by rw [e]; simp)
        rw [List.length_cons, List.length_cons]; omega
      · have := ih x (by rw [e]; exact List.mem_cons_of_mem _ h)
        rw [List.length_cons]; omega
theorem idx_no {c : UInt8} : ∀ {l : List UInt8}, 0 ≤ Lib.index l [c] → c ∉ l.take (Lib.index l [c]).toNat
  | [], h => by simp [Lib.index] at h
  | b :: l, h => by
    by_cases hb : b = c
    · subst hb
      rw [idx_eq]
      simp
    · rw [idx_ne hb] at h ⊢
      split at h
      · omega
      · rename_i g
        rw [beq_iff_eq] at g
        have hg := Lib.index_ge l [c]
        rw [if_neg (by rw [beq_iff_eq]; exact g)]
        have ih := idx_no (c := c) (l := l) (by omega)
        rw [show (Lib.index l [c] + 1).toNat = (Lib.index l [c]).toNat + 1 by omega, List.take_succ_cons, List.mem_cons]
        rintro (h1 | h1)
        · exact hb h1.symm
        · exact ih h1
theorem idx_none {c : UInt8} : ∀ {l : List UInt8}, ¬ 0 ≤ Lib.index l [c] → c ∉ l
  | [], h => by simp
  | b :: l, h => by
    by_cases hb : b = c
    · subst hb
      rw [idx_eq] at h
      omega
    · rw [idx_ne hb] at h
      split at h
      · rename_i g
        rw [beq_iff_eq] at g
        rw [List.mem_cons]
        rintro (h1 | h1)
        · exact hb h1.symm
        · exact idx_none (c := c) (l := l) (by omega) h1
      · have hg := Lib.index_ge l [c]
        rename_i g
        rw [beq_iff_eq] at g
        omega
theorem spl_mem {y : List UInt8} (hm : (47 : UInt8) ∈ y) : spl 47 y ≠ [y] := by
  intro h
  obtain ⟨u, v, e⟩ := List.append_of_mem hm
  have : 2 ≤ (spl 47 y).length := by
    clear h hm
    induction y generalizing u v with
    | nil => simp at e
    | cons b y ih =>
      unfold spl
      split
      · have := spl_ne 47 y
        have h2 : 0 < (spl 47 y).length := by cases hh : spl 47 y with
          | nil => exact absurd hh this
          | cons _ _ => simp
        rw [List.length_cons]; omega
      · rename_i hb
        cases u with
        | nil => injection e with e1 _; exact absurd e1 hb
        | cons b' u =>
          injection e with _ e2
          have := ih u v e2
          rw [List.length_cons, List.length_tail]; omega
  rw [h] at this
  simp at this
theorem parseNet_two {l x y : List UInt8} (h : spl 47 l = [x, y]) : parseNetA l = match parseA x with
    | some a => if nMay (a, smallS y 32) = true then some (a, smallS y 32) else none
    | none => none := by
  unfold parseNetA
  by_cases hi : 0 ≤ Lib.index l [47]
  · have e : Lib.cut l [47] = (l.take (Lib.index l [47]).toNat, l.drop ((Lib.index l [47]).toNat + 1), true) := by
      unfold Lib.cut; rw [if_pos hi]; rfl
    rw [e]
    have h1 := idx_has hi
    have h2 := idx_no hi
    rw [h1, spl_app _ h2] at h
    injection h with h3 h4
    have hno : (47 : UInt8) ∉ l.drop ((Lib.index l [47]).toNat + 1) := by
      intro hm
      have hl := congrArg List.length h4
      obtain ⟨u, v, e⟩ := List.append_of_mem hm
      have hj := join_spl 47 (l.drop ((Lib.index l [47]).toNat + 1))
      rw [h4, join_one] at hj
      rw [← hj] at h4
      have : spl 47 y = [y] := h4
      have hm' : (47 : UInt8) ∈ y := by rw [hj]; exact hm
      exact absurd this (spl_mem hm')
    rw [spl_no hno] at h4
    injection h4 with h5 _
    simp only [if_true, h3, h5]
    cases parseA x <;> rfl
  · have h2 := idx_none hi
    rw [spl_no h2] at h
    cases h
theorem parseNet_not {l : List UInt8} (h : (spl 47 l).length ≠ 2) : parseNetA l = none := by
  cases hp : parseNetA l with
  | none => rfl
  | some c =>
    exfalso
    obtain ⟨h1, h2, h3⟩ := parseNet_inv hp
    apply h
    obtain ⟨h0, hb, _⟩ := (nMay_iff c).1 h2
    rw [← h1]
    unfold printNetA
    rw [if_pos h2, spl_app _ (print_no47 _)]
    have hn : (47 : UInt8) ∉ Lib.itoa c.2 := by
      obtain ⟨n, hn⟩ : ∃ n : Nat, c.2 = n := ⟨c.2.toNat, by omega⟩
      rw [hn]
      exact itoa_no (by omega) (by decide)
    rw [spl_no hn]
    rfl
end Go.Proofs.YtddfgalofngoiaaGreatDoor
