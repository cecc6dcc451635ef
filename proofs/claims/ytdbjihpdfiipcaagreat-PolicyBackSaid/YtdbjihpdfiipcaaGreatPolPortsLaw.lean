/- Sorted numbers, struck of their doubles: as many as there were just if no two are the same. No condition. -/
import Derived.Lib.SlicesCompact
import Derived.Lib.RowBridge
namespace Go.Proofs.YtdbjihpdfiipcaaGreat
set_option linter.unusedVariables false
theorem keeps_iff (d : Array Int) (j : Nat) : Lib.keeps d j = false ↔ 0 < j ∧ d[j]! = d[j - 1]! := by
  constructor
  · intro h
    rcases Nat.eq_zero_or_pos j with e | e
    · subst e
      rw [Lib.keeps_lt_one d 0 (by omega)] at h
      cases h
    · refine ⟨e, Classical.byContradiction fun hne => ?_⟩
      rw [Lib.keeps_pos hne] at h
      cases h
  · rintro ⟨h1, h2⟩
    exact Lib.keeps_neg h1 h2
theorem filter_len {α : Type} (f : α → Bool) (L : List α) : (L.filter f).length = L.length ↔ ∀ x ∈ L, f x = true := by
  rw [List.length_filter_eq_length_iff]
theorem compact_len (Y : List Int) (h : Y.Pairwise (· ≤ ·)) : (Lib.compact Y).length = Y.length ↔ Y.Nodup := by
  unfold Lib.compact Lib.compactUpTo
  rw [List.length_map]
  have e : ((List.range Y.length).filter (Lib.keeps Y.toArray)).length = Y.length ↔ ∀ j, j < Y.length → Lib.keeps Y.toArray j = true := by
    have := filter_len (Lib.keeps Y.toArray) (List.range Y.length)
    rw [List.length_range] at this
    rw [this]
    constructor
    · exact fun h j hj => h j (List.mem_range.2 hj)
    · exact fun h j hj => h j (List.mem_range.1 hj)
  rw [e]
  have hg : ∀ j (hj : j < Y.length), Y.toArray[j]! = Y[j] := by
    intro j hj
    simp [hj]
  constructor
  · intro hk
    unfold List.Nodup
    rw [List.pairwise_iff_getElem]
    intro i j hi hj hij he
    have h1 := List.pairwise_iff_getElem.1 h
    have hkj := hk j hj
    have : Lib.keeps Y.toArray j = false := by
      rw [keeps_iff]
      refine ⟨by omega, ?_⟩
      rw [hg j hj, hg (j - 1) (by omega)]
      have h2 : Y[j - 1] ≤ Y[j] := h1 (j - 1) j (by omega) hj (by omega)
      have h3 : Y[i] ≤ Y[j - 1] := by
        by_cases h4 : i = j - 1
        · subst h4; exact Int.le_refl _
        · exact h1 i (j - 1) hi (by omega) (by omega)
      omega
    rw [this] at hkj
    cases hkj
  · intro hn j hj
    rcases hk : Lib.keeps Y.toArray j with _ | _
    · rw [keeps_iff] at hk
      obtain ⟨h1, h2⟩ := hk
      rw [hg j hj, hg (j - 1) (by omega)] at h2
      unfold List.Nodup at hn
      have := List.pairwise_iff_getElem.1 hn (j - 1) j (by omega) hj (by omega)
      exact absurd h2.symm this
    · rfl
end Go.Proofs.YtdbjihpdfiipcaaGreat
