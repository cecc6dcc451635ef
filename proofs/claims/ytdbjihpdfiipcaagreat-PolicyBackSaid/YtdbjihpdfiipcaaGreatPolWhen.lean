/- policy.when. Conditions: sizes. -/
import Derived.Test.YtdbjihpdfiipcaaGreatPolName
namespace Go.Proofs.YtdbjihpdfiipcaaGreat
open Go.RowKit Go.Sort
set_option linter.unusedVariables false
set_option linter.unusedSimpArgs false
set_option maxRecDepth 100000 in
set_option maxHeartbeats 2000000 in
theorem when_any (x : Wn) (cs : List Value) (w : World) (h : WnP w w.heap.size cs x) (hok : okWn x) :
    Calls Tryz.prog 38 #[.agg cs.toArray] w fun e w' => e = .returned (.bool (wnMay x)) ∧ Below w.heap.size w w' := by
  obtain ⟨A, n, c, rfl, h1⟩ := vals_wn h
  obtain ⟨v, hv, t1⟩ := h
  injection hv with _ hv
  injection hv with hv _
  subst hv
  obtain ⟨k1, k2⟩ := hok
  have l1 := h1.1
  obtain ⟨hd, ts⟩ := x
  simp only at l1 k1 k2 t1 h1 ⊢
  obtain ⟨p, hp⟩ : ∃ p, hdMay hd = p := ⟨_, rfl⟩
  obtain ⟨q, hq⟩ : ∃ q, rowsMay [ts] = q := ⟨_, rfl⟩
  have he : wnMay ⟨hd, ts⟩ = (p && (q && decide (0 < n))) := by rw [← hp, ← hq, ← l1]; rfl
  rw [he]
  show Calls Tryz.prog 38 #[.agg #[.string (strB hd), .slice A n c]] w _
  have hname := fun w => mayName_any hd w k1
  rw [hp] at hname
  obtain ⟨wb, hwb⟩ : ∃ wb, w.alloc (.cells #[.string (strB hd), .slice A n c] 50) = wb := ⟨_, rfl⟩
  have f0 : Below w.heap.size w wb := by rw [← hwb]; exact (Below.refl _ _).alloc (Nat.le_refl _) _
  have bl := Blk.newAt (w := w) rfl 50 #[.string (strB hd), .slice A n c]
  rw [hwb] at bl
  have e0 : wb.cell? ⟨w.heap.size, 0, none⟩ = some (.string (strB hd)) := bl.cell 0
  have e1 : wb.cell? ⟨w.heap.size, 1, none⟩ = some (.slice A n c) := bl.cell 1
  have hrows : ∀ w2, Below w.heap.size w w2 → Calls Tryz.prog 73 #[.slice (some ⟨w2.heap.size, 0, none⟩) 1 1] (w2.alloc (.cells #[.slice A n c] 31)) fun e w' => e = .returned (.bool q) ∧ Below (w2.alloc (.cells #[.slice A n c] 31)).heap.size (w2.alloc (.cells #[.slice A n c] 31)) w' := fun w2 hb => by
    rw [← hq]
    exact rows_any (some ⟨w2.heap.size, 0, none⟩) 1 1 [ts] (w2.alloc (.cells #[.slice A n c] 31)) (by omega) (rows_new (w := w2) (vs := [.slice A n c]) (R := [ts]) _ rfl (fun j hj => by
      rcases j with _ | j
      · exact t1.mono hb.size hb
      · exact absurd hj (by simp))) (by
      intro L hL
      simp only [List.mem_cons, List.mem_nil_iff, or_false] at hL
      subst hL
      exact k2)
  have HR := Lib.hid hrows
  clear h1 t1 k1 k2 hp hq he hrows bl
  go_enter Tryz.func38, Tryz.ntmps38
  go_wp2_with fail
  refine (hname _).mono ?_
  rintro e w2 ⟨rfl, f2⟩
  have f3 := f0.trans (f2.mono f0.size)
  have e5 : w2.cell? ⟨w.heap.size, 1, none⟩ = some (.slice A n c) := (f2.cell (World.block_lt_of_cell? wb _ e1)).trans e1
  cases p
  · go_wp2_with fail
    go_ret
    exact ⟨rfl, f3⟩
  · go_wp2_with fail
    refine (HR.out w2 f3).mono ?_
    rintro e w4 ⟨rfl, f4⟩
    have fa : Below w2.heap.size w2 (w2.alloc (.cells #[.slice A n c] 31)) := (Below.refl _ _).alloc (Nat.le_refl _) _
    have f5 := fa.trans (f4.mono fa.size)
    have e6 : w4.cell? ⟨w.heap.size, 1, none⟩ = some (.slice A n c) := (f5.cell (World.block_lt_of_cell? w2 _ e5)).trans e5
    have f6 := f3.trans (f5.mono f3.size)
    cases q
    · go_wp2_with fail
      go_ret
      exact ⟨by simp, f6⟩
    · by_cases hn : 0 < n
      · have d1 : decide ((0 : Int) < (n : Int)) = true := by simp; omega
        go_wp2_with fail
        go_ret
        exact ⟨ret_bool (by simp [hn]), f6⟩
      · have d1 : decide ((0 : Int) < (n : Int)) = false := by simp; omega
        go_wp2_with fail
        go_ret
        exact ⟨ret_bool (by simp; omega), f6⟩
end Go.Proofs.YtdbjihpdfiipcaaGreat
