/- policy.May. Conditions: sizes. Printed by gen_ppo.py. -/
import Derived.Test.YtdbjihpdfiipcaaGreatPolRule
namespace Go.Proofs.YtdbjihpdfiipcaaGreat
open Go.RowKit Go.Sort
set_option linter.unusedVariables false
set_option linter.unusedSimpArgs false
/-- What may be a policy. -/
def poMay (p : Po) : Bool := decide (1 ≤ p.id) && (decide (p.id ≤ 4611686018427387903) && ((p.ns.isEmpty || labB p.ns) && (decide (p.service ≤ 4611686018427387903) && ((decide (p.deny = 0) || decide (p.deny = 1)) && (decide (p.rules.length ≤ 6) && p.rules.all ruMay)))))
set_option maxRecDepth 100000 in
set_option maxHeartbeats 4000000 in
theorem may12_any (p : Po) (cs : List Value) (w : World) (h : PoP w w.heap.size cs p) (hok : okPo p) :
    Calls Tryz.prog 14 #[.agg cs.toArray] w fun e w' => e = .returned (.bool (poMay p)) ∧ Below w.heap.size w w' := by
  obtain ⟨v, rfl, A, n, c, rfl, _, _, h1⟩ := h
  obtain ⟨id, ns, sv, dn, rules⟩ := p
  obtain ⟨k1, k2, k3, k4, k5, k6⟩ := hok
  simp only at k1 k2 k3 k4 k5 k6 h1 ⊢
  obtain ⟨b1, x1⟩ : ∃ b, decide (1 ≤ id) = b := ⟨_, rfl⟩
  obtain ⟨b2, x2⟩ : ∃ b, decide (id ≤ 4611686018427387903) = b := ⟨_, rfl⟩
  obtain ⟨b3, x3⟩ : ∃ b, ns.isEmpty = b := ⟨_, rfl⟩
  obtain ⟨b4, x4⟩ : ∃ b, labB ns = b := ⟨_, rfl⟩
  obtain ⟨b5, x5⟩ : ∃ b, decide (sv ≤ 4611686018427387903) = b := ⟨_, rfl⟩
  obtain ⟨b6, x6⟩ : ∃ b, decide (dn = 0) = b := ⟨_, rfl⟩
  obtain ⟨b7, x7⟩ : ∃ b, decide (dn = 1) = b := ⟨_, rfl⟩
  obtain ⟨b8, x8⟩ : ∃ b, (decide (rules.length ≤ 6) && rules.all ruMay) = b := ⟨_, rfl⟩
  have he : poMay ⟨id, ns, sv, dn, rules⟩ = (b1 && (b2 && ((b3 || b4) && (b5 && ((b6 || b7) && b8))))) := by rw [← x1, ← x2, ← x3, ← x4, ← x5, ← x6, ← x7, ← x8]; rfl
  rw [he]
  have hlab := fun w => mayLabel_any ns (by unfold okS at k2; omega) w
  rw [x4] at hlab
  have y1 : decide ((1 : Int) ≤ (id : Int)) = b1 := by rw [← x1]; exact decide_eq_decide.2 (by omega)
  have y2 : decide ((id : Int) ≤ 4611686018427387903) = b2 := by rw [← x2]; exact decide_eq_decide.2 (by omega)
  have y5 : decide ((sv : Int) ≤ 4611686018427387903) = b5 := by rw [← x5]; exact decide_eq_decide.2 (by omega)
  have y6 : (dn == 0) = b6 := by rw [← x6]; rfl
  have y7 : (dn == 1) = b7 := by rw [← x7]; rfl
  have z1 : decide (1 ≤ id) = b1 := x1
  have z2 : decide (id ≤ 4611686018427387903) = b2 := x2
  have z5 : decide (sv ≤ 4611686018427387903) = b5 := x5
  have y3 : (strB ns).toList.isEmpty = b3 := by rw [strB_toList]; exact x3
  show Calls Tryz.prog 14 #[.agg #[.int .u64 (id : Int), .string (strB ns), .int .u64 (sv : Int), .int .i64 dn, .slice A n c]] w _
  obtain ⟨wb, hwb⟩ : ∃ wb, w.alloc (.cells #[.int .u64 (id : Int), .string (strB ns), .int .u64 (sv : Int), .int .i64 dn, .slice A n c] 38) = wb := ⟨_, rfl⟩
  have f0 : Below w.heap.size w wb := by rw [← hwb]; exact (Below.refl _ _).alloc (Nat.le_refl _) _
  have bl := Blk.newAt (w := w) rfl 38 #[.int .u64 (id : Int), .string (strB ns), .int .u64 (sv : Int), .int .i64 dn, .slice A n c]
  rw [hwb] at bl
  have e0 : wb.cell? ⟨w.heap.size, 0, none⟩ = some (.int .u64 (id : Int)) := bl.cell 0
  have e1 : wb.cell? ⟨w.heap.size, 1, none⟩ = some (.string (strB ns)) := bl.cell 1
  have e2 : wb.cell? ⟨w.heap.size, 2, none⟩ = some (.int .u64 (sv : Int)) := bl.cell 2
  have e3 : wb.cell? ⟨w.heap.size, 3, none⟩ = some (.int .i64 dn) := bl.cell 3
  have e4 : wb.cell? ⟨w.heap.size, 4, none⟩ = some (.slice A n c) := bl.cell 4
  have H8 := Lib.hid fun (u : World) (hb : Below w.heap.size w u) => allRule_any A n c rules u (h1.mono hb.size hb fun _ _ h => RuP.mono h hb.size hb) k6
  rw [x8] at H8
  clear h1 k1 k2 k3 k4 k5 k6 he bl x1 x2 x4 x5 x6 x7 x8
  generalize strB ns = s at *
  go_enter Tryz.func14, Tryz.ntmps14
  cases b1
  · go_wp2_with fail
    go_ret
    exact ⟨by first | rfl | simp, f0⟩
  · cases b2
    · go_wp2_with fail
      go_ret
      exact ⟨by first | rfl | simp, f0⟩
    · cases b3
      · cases b4
        · go_wp2_with fail
          refine (hlab _).mono ?_
          rintro e w2 ⟨rfl, f2⟩
          have f3 := f0.trans (f2.mono f0.size)
          go_wp2_with fail
          go_ret
          exact ⟨by first | rfl | simp, f3⟩
        · go_wp2_with fail
          refine (hlab _).mono ?_
          rintro e w2 ⟨rfl, f2⟩
          have f3 := f0.trans (f2.mono f0.size)
          have q2 := (f2.cell (World.block_lt_of_cell? wb _ e2)).trans e2
          have q3 := (f2.cell (World.block_lt_of_cell? wb _ e3)).trans e3
          have q4 := (f2.cell (World.block_lt_of_cell? wb _ e4)).trans e4
          clear e0 e1 e2 e3 e4 hwb
          cases b5
          · go_wp2_with fail
            go_ret
            exact ⟨by first | rfl | simp, f3⟩
          · cases b6
            · cases b7
              · go_wp2_with fail
                go_ret
                exact ⟨by first | rfl | simp, f3⟩
              · go_wp2_with fail
                refine (H8.out w2 f3).mono ?_
                rintro e w8 ⟨rfl, f8⟩
                have f9 := f3.trans (f8.mono f3.size)
                go_wp2_with fail
                go_ret
                exact ⟨by first | rfl | simp, f9⟩
            · go_wp2_with fail
              refine (H8.out w2 f3).mono ?_
              rintro e w8 ⟨rfl, f8⟩
              have f9 := f3.trans (f8.mono f3.size)
              go_wp2_with fail
              go_ret
              exact ⟨by first | rfl | simp, f9⟩
      · cases b5
        · go_wp2_with fail
          go_ret
          exact ⟨by first | rfl | simp, f0⟩
        · cases b6
          · cases b7
            · go_wp2_with fail
              go_ret
              exact ⟨by first | rfl | simp, f0⟩
            · go_wp2_with fail
              refine (H8.out wb f0).mono ?_
              rintro e w8 ⟨rfl, f8⟩
              have f9 := f0.trans (f8.mono f0.size)
              go_wp2_with fail
              go_ret
              exact ⟨by first | rfl | simp, f9⟩
          · go_wp2_with fail
            refine (H8.out wb f0).mono ?_
            rintro e w8 ⟨rfl, f8⟩
            have f9 := f0.trans (f8.mono f0.size)
            go_wp2_with fail
            go_ret
            exact ⟨by first | rfl | simp, f9⟩
end Go.Proofs.YtdbjihpdfiipcaaGreat
