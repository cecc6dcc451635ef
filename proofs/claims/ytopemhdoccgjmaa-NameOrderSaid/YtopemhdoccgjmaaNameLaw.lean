/- The order of names, plainly; what sorting and striking the doubles leaves. No condition. -/
import Derived.Test.YtopemhdoccgjmaaNames
import Derived.Shelf.SlSortCmp.WholeK
import Derived.Lib.SlicesCompact
namespace Go.Proofs.Ytopemhdoccgjmaa
open Go.RowKit Go.Sort Go.Lib
set_option linter.unusedVariables false
theorem less_trans : ∀ (a b c : List UInt8), Op.bytesLess a b = true → Op.bytesLess b c = true → Op.bytesLess a c = true
  | [], [], _, h, _ => by cases h
  | [], _ :: _, [], _, h => by cases h
  | [], _ :: _, _ :: _, _, _ => rfl
  | _ :: _, [], _, h, _ => by cases h
  | _ :: _, _ :: _, [], _, h => by cases h
  | x :: a, y :: b, z :: c, h1, h2 => by
    rw [Op.bytesLess] at h1 h2 ⊢
    simp only [Bool.or_eq_true, decide_eq_true_eq, Bool.and_eq_true, beq_iff_eq] at h1 h2 ⊢
    rcases h1 with h1 | ⟨rfl, h1⟩
    · rcases h2 with h2 | ⟨rfl, h2⟩
      · exact .inl (UInt8.lt_trans h1 h2)
      · exact .inl h1
    · rcases h2 with h2 | ⟨rfl, h2⟩
      · exact .inl h2
      · exact .inr ⟨rfl, less_trans a b c h1 h2⟩
theorem less_asymm {a b : List UInt8} (h : Op.bytesLess a b = true) : Op.bytesLess b a = false := by
  cases h2 : Op.bytesLess b a
  · rfl
  · have := less_trans a b a h h2
    rw [bytesLess_self] at this
    cases this
/-- Does a name stand ahead of another one? -/
def nmLt (x y : Nm) : Bool := if Op.bytesLess x.1 y.1 then true else if Op.bytesLess y.1 x.1 then false else Op.bytesLess x.2 y.2
def nmCmp (x y : Nm) : Int := cmpN x.1 x.2 y.1 y.2
theorem cmpS_cases (a b : List UInt8) : (Op.bytesLess a b = true ∧ cmpS a b = -1) ∨ (Op.bytesLess a b = false ∧ Op.bytesLess b a = true ∧ cmpS a b = 1) ∨ (a = b ∧ Op.bytesLess a b = false ∧ Op.bytesLess b a = false ∧ cmpS a b = 0) := by
  cases h : Op.bytesLess a b
  · cases h2 : Op.bytesLess b a
    · exact .inr (.inr ⟨less_total a b h h2, rfl, rfl, cmp_eq h h2⟩)
    · exact .inr (.inl ⟨rfl, rfl, cmp_gt h h2⟩)
  · exact .inl ⟨rfl, cmp_lt h⟩
theorem nmCmp_cases (x y : Nm) : (nmLt x y = true ∧ nmLt y x = false ∧ x ≠ y ∧ nmCmp x y = -1) ∨ (nmLt x y = false ∧ nmLt y x = true ∧ x ≠ y ∧ nmCmp x y = 1) ∨ (x = y ∧ nmLt x y = false ∧ nmLt y x = false ∧ nmCmp x y = 0) := by
  obtain ⟨a, b⟩ := x
  obtain ⟨c, d⟩ := y
  unfold nmLt nmCmp cmpN
  simp only
  rcases cmpS_cases a c with ⟨h1, h2⟩ | ⟨h1, h2, h3⟩ | ⟨h0, h1, h2, h3⟩
  · have hn : a ≠ c := fun e => by rw [e, bytesLess_self] at h1; cases h1
    have h3 := less_asymm h1
    refine .inl ⟨by simp [h1], by simp [h1, h3], fun e => hn (congrArg Prod.fst e), ?_⟩
    rw [h2, if_neg (by omega)]
  · have hn : a ≠ c := fun e => by rw [e, bytesLess_self] at h2; cases h2
    refine .inr (.inl ⟨by simp [h1, h2], by simp [h2], fun e => hn (congrArg Prod.fst e), ?_⟩)
    rw [h3, if_neg (by omega)]
  · subst h0
    rw [h3, if_pos rfl]
    simp only [h1]
    rcases cmpS_cases b d with ⟨g1, g2⟩ | ⟨g1, g2, g3⟩ | ⟨g0, g1, g2, g3⟩
    · have hn : b ≠ d := fun e => by rw [e, bytesLess_self] at g1; cases g1
      exact .inl ⟨by simp [g1], by simp [less_asymm g1], fun e => hn (congrArg Prod.snd e), g2⟩
    · have hn : b ≠ d := fun e => by rw [e, bytesLess_self] at g2; cases g2
      exact .inr (.inl ⟨by simp [g1], by simp [g2], fun e => hn (congrArg Prod.snd e), g3⟩)
    · subst g0
      exact .inr (.inr ⟨rfl, by simp [g1], by simp [g1], g3⟩)
theorem nmLt_self (x : Nm) : nmLt x x = false := by
  rcases nmCmp_cases x x with ⟨_, _, h, _⟩ | ⟨_, _, h, _⟩ | ⟨_, h, _⟩
  · exact absurd rfl h
  · exact absurd rfl h
  · exact h
theorem nmLt_trans {x y z : Nm} (h1 : nmLt x y = true) (h2 : nmLt y z = true) : nmLt x z = true := by
  obtain ⟨a, b⟩ := x
  obtain ⟨c, d⟩ := y
  obtain ⟨e, f⟩ := z
  unfold nmLt at *
  simp only at *
  rcases cmpS_cases a c with ⟨p, _⟩ | ⟨p, q, _⟩ | ⟨p, p1, p2, _⟩
  · rcases cmpS_cases c e with ⟨r, _⟩ | ⟨r, s, _⟩ | ⟨r, r1, r2, _⟩
    · rw [less_trans _ _ _ p r]; rfl
    · simp [r, s] at h2
    · subst r; rw [p]; rfl
  · simp [p, q] at h1
  · subst p
    simp only [p1] at h1
    rcases cmpS_cases a e with ⟨r, _⟩ | ⟨r, s, _⟩ | ⟨r, r1, r2, _⟩
    · rw [r]; rfl
    · simp [r, s] at h2
    · subst r
      simp only [p1] at h2 ⊢
      simp only [Bool.false_eq_true, if_false] at *
      exact less_trans _ _ _ h1 h2
theorem nmLt_total {x y : Nm} (h1 : nmLt x y = false) (h2 : nmLt y x = false) : x = y := by
  rcases nmCmp_cases x y with ⟨h, _⟩ | ⟨_, h, _⟩ | ⟨h, _⟩
  · rw [h1] at h; cases h
  · rw [h2] at h; cases h
  · exact h
theorem nmLt_asymm {x y : Nm} (h : nmLt x y = true) : nmLt y x = false := by
  rcases nmCmp_cases x y with ⟨_, h2, _⟩ | ⟨h2, _⟩ | ⟨_, h2, _⟩
  · exact h2
  · rw [h2] at h; cases h
  · rw [h2] at h; cases h
theorem ltOf_nm : ltOf nmCmp = nmLt := by
  funext x y
  unfold ltOf
  rcases nmCmp_cases x y with ⟨h1, _, _, h2⟩ | ⟨h1, _, _, h2⟩ | ⟨_, h1, _, h2⟩ <;> rw [h1, h2] <;> rfl
theorem swo_nm : SWO (ltOf nmCmp) := by
  rw [ltOf_nm]
  refine ⟨nmLt_self, fun x y z => nmLt_trans, fun x y z h1 h2 => ?_⟩
  cases h : nmLt x z
  · rfl
  · rcases nmCmp_cases y x with ⟨g, _⟩ | ⟨_, g, _⟩ | ⟨g, _⟩
    · have := nmLt_trans g h
      rw [h2] at this; cases this
    · rw [h1] at g; cases g
    · subst g; rw [h2] at h; cases h
theorem nmCmp_neg (x y : Nm) : nmCmp x y = -nmCmp y x := by
  rcases nmCmp_cases x y with ⟨h1, h2, h3, h4⟩ | ⟨h1, h2, h3, h4⟩ | ⟨h1, h2, h3, h4⟩ <;> rcases nmCmp_cases y x with ⟨g1, g2, g3, g4⟩ | ⟨g1, g2, g3, g4⟩ | ⟨g1, g2, g3, g4⟩ <;> first | omega | (exfalso; rw [h1] at g2; cases g2) | (exfalso; rw [h2] at g1; cases g1) | (exfalso; exact h3 g1.symm) | (exfalso; exact g3 h1.symm)
theorem nmCmp_zero (x y : Nm) : nmCmp x y = 0 ↔ x = y := by
  rcases nmCmp_cases x y with ⟨h1, h2, h3, h4⟩ | ⟨h1, h2, h3, h4⟩ | ⟨h1, h2, h3, h4⟩ <;> rw [h4] <;> simp [h3, h1]
theorem nmCmp_lt {x y : Nm} (h : nmLt x y = true) : nmCmp x y = -1 := by
  rcases nmCmp_cases x y with ⟨_, _, _, h4⟩ | ⟨h1, _⟩ | ⟨_, h1, _⟩
  · exact h4
  · rw [h1] at h; cases h
  · rw [h1] at h; cases h
/-- Names in a row, rising. -/
def Rising (L : List Nm) : Prop := L.Pairwise fun x y => nmLt x y = true
theorem rising_one : ∀ {A B : List Nm}, Rising A → Rising B → (∀ c, c ∈ A ↔ c ∈ B) → A = B
  | [], [], _, _, _ => rfl
  | [], b :: B, _, _, h => absurd ((h b).2 (List.mem_cons_self)) (by simp)
  | a :: A, [], _, _, h => absurd ((h a).1 (List.mem_cons_self)) (by simp)
  | a :: A, b :: B, hA, hB, h => by
    unfold Rising at hA hB
    rw [List.pairwise_cons] at hA hB
    have e : a = b := by
      rcases List.mem_cons.1 ((h a).1 List.mem_cons_self) with e | e
      · exact e
      · rcases List.mem_cons.1 ((h b).2 List.mem_cons_self) with e' | e'
        · exact e'.symm
        · have h1 := hB.1 a e; have h2 := hA.1 b e'; rw [nmLt_asymm h1] at h2; cases h2
    subst e
    congr 1
    refine rising_one hA.2 hB.2 fun c => ?_
    constructor
    · intro hc
      rcases List.mem_cons.1 ((h c).1 (List.mem_cons_of_mem _ hc)) with e | e
      · subst e; have := hA.1 c hc; rw [nmLt_self] at this; cases this
      · exact e
    · intro hc
      rcases List.mem_cons.1 ((h c).2 (List.mem_cons_of_mem _ hc)) with e | e
      · subst e; have := hB.1 c hc; rw [nmLt_self] at this; cases this
      · exact e
/-- What is left of a sorted row: it rises, and has the same names. -/
theorem compact_rises (d : Array Nm) (h : SortedIn nmLt 0 d.size d) : Rising (compactUpTo d d.size) := by
  unfold Rising compactUpTo
  rw [List.pairwise_map]
  refine (List.Pairwise.filter _ (List.pairwise_lt_range (n := d.size))).imp_of_mem ?_
  intro i j hi hj hij
  simp only [List.mem_filter, List.mem_range] at hi hj
  cases hlt : nmLt d[i]! d[j]!
  · exfalso
    have h1 := h i j (Nat.zero_le _) hij hj.1
    have e := nmLt_total hlt h1
    have hk := hj.2
    simp only [keeps, decide_eq_true_eq] at hk
    rcases hk with hk | hk
    · omega
    · by_cases e2 : j - 1 = i
      · rw [e2] at hk; exact hk e.symm
      · have h2 := h i (j - 1) (Nat.zero_le _) (by omega) (by omega)
        have h3 := h (j - 1) j (Nat.zero_le _) (by omega) hj.1
        rw [← e] at h3
        exact hk (e.symm.trans (nmLt_total h3 h2))
  · rfl
theorem compact_mem (d : Array Nm) (x : Nm) : x ∈ compactUpTo d d.size ↔ x ∈ d.toList := by
  unfold compactUpTo
  rw [List.mem_map]
  constructor
  · rintro ⟨i, hi, rfl⟩
    simp only [List.mem_filter, List.mem_range] at hi
    rw [getElem!_pos d i hi.1]
    simp
  · intro hx
    obtain ⟨j, hj, rfl⟩ := List.getElem_of_mem hx
    rw [Array.length_toList] at hj
    have key : ∀ j, j < d.size → ∃ i, i ≤ j ∧ keeps d i = true ∧ d[i]! = d[j]! := by
      intro j
      induction j with
      | zero => intro _; exact ⟨0, Nat.le_refl _, by simp [keeps], rfl⟩
      | succ j ih =>
        intro hj
        by_cases hk : keeps d (j + 1) = true
        · exact ⟨j + 1, Nat.le_refl _, hk, rfl⟩
        · obtain ⟨i, h1, h2, h3⟩ := ih (by omega)
          simp only [keeps, decide_eq_true_eq, not_or, Decidable.not_not] at hk
          exact ⟨i, by omega, h2, h3.trans hk.2.symm⟩
    obtain ⟨i, h1, h2, h3⟩ := key j hj
    refine ⟨i, by simp only [List.mem_filter, List.mem_range]; exact ⟨by omega, h2⟩, ?_⟩
    rw [h3, getElem!_pos d j hj]
    simp
theorem perm_mem {d d' : Array Nm} (h : PermIn 0 d.size d d') (x : Nm) : x ∈ d'.toList ↔ x ∈ d.toList := by
  have h1 : d'.extract 0 d.size = d' := by rw [← h.1]; simp
  have h2 : d.extract 0 d.size = d := by simp
  have h3 := h.2.2
  rw [h1, h2] at h3
  exact h3.mem_iff
end Go.Proofs.Ytopemhdoccgjmaa
