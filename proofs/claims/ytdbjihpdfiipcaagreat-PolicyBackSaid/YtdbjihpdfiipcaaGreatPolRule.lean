/- policy.all at Source, Target, When, Rule; policy.MayRule. Conditions: sizes. Printed by gen_prule.py. -/
import Derived.Test.YtdbjihpdfiipcaaGreatPolTarget
namespace Go.Proofs.YtdbjihpdfiipcaaGreat
open Go.RowKit Go.Sort
set_option linter.unusedVariables false
set_option linter.unusedSimpArgs false
set_option maxRecDepth 100000 in
set_option maxHeartbeats 2000000 in
theorem allSource_any (A : Option Addr) (n c : Nat) (L : List Sr) (w : World) (h : RdG 3 SrP w w.heap.size A n L) (hok : ∀ x ∈ L, okSr x) :
    Calls Tryz.prog 33 #[.int .i64 3, .slice A n c, .func (.func 34) #[] #[]] w fun e w' => e = .returned (.bool (decide (L.length ≤ 3) && L.all srMay)) ∧ Below w.heap.size w w' := by
  have hl := h.1
  refine all_Source A n c (prL srMay L) w (fun w' hb j hj => ?_) (by rw [Bool.and_eq_true, decide_eq_true_eq, all_prL hl, hl])
  obtain ⟨b, off, cs, p1, p2, p3, p4, p5⟩ := (h.mono hb.size hb fun _ _ h => SrP.mono h hb.size hb).at_ hj
  have hj' : j < L.length := by omega
  have p6 := p4
  obtain ⟨A1, m1, d1, A2, m2, d2, A3, m3, d3, rfl, _⟩ := vals_sr p4
  refine ⟨b, off, A1, m1, d1, A2, m2, d2, A3, m3, d3, p1, p5 0 _ rfl, p5 1 _ rfl, p5 2 _ rfl, fun w'' hb' => ?_⟩
  rw [prL_at hj']
  exact source_any _ _ w'' (SrP.mono p6 hb'.size hb') (hok _ (List.getElem_mem hj'))
set_option maxRecDepth 100000 in
set_option maxHeartbeats 2000000 in
theorem allTarget_any (A : Option Addr) (n c : Nat) (L : List Tg) (w : World) (h : RdG 4 TgP w w.heap.size A n L) (hok : ∀ x ∈ L, okTg x) :
    Calls Tryz.prog 35 #[.int .i64 3, .slice A n c, .func (.func 36) #[] #[]] w fun e w' => e = .returned (.bool (decide (L.length ≤ 3) && L.all tgMay)) ∧ Below w.heap.size w w' := by
  have hl := h.1
  refine all_Target A n c (prL tgMay L) w (fun w' hb j hj => ?_) (by rw [Bool.and_eq_true, decide_eq_true_eq, all_prL hl, hl])
  obtain ⟨b, off, cs, p1, p2, p3, p4, p5⟩ := (h.mono hb.size hb fun _ _ h => TgP.mono h hb.size hb).at_ hj
  have hj' : j < L.length := by omega
  have p6 := p4
  obtain ⟨A1, m1, d1, A2, m2, d2, A3, m3, d3, A4, m4, d4, rfl, _⟩ := vals_tg p4
  refine ⟨b, off, A1, m1, d1, A2, m2, d2, A3, m3, d3, A4, m4, d4, p1, p5 0 _ rfl, p5 1 _ rfl, p5 2 _ rfl, p5 3 _ rfl, fun w'' hb' => ?_⟩
  rw [prL_at hj']
  exact target_any _ _ w'' (TgP.mono p6 hb'.size hb') (hok _ (List.getElem_mem hj'))
set_option maxRecDepth 100000 in
set_option maxHeartbeats 2000000 in
theorem allWhen_any (A : Option Addr) (n c : Nat) (L : List Wn) (w : World) (h : RdG 2 WnP w w.heap.size A n L) (hok : ∀ x ∈ L, okWn x) :
    Calls Tryz.prog 37 #[.int .i64 3, .slice A n c, .func (.func 38) #[] #[]] w fun e w' => e = .returned (.bool (decide (L.length ≤ 3) && L.all wnMay)) ∧ Below w.heap.size w w' := by
  have hl := h.1
  refine all_When A n c (prL wnMay L) w (fun w' hb j hj => ?_) (by rw [Bool.and_eq_true, decide_eq_true_eq, all_prL hl, hl])
  obtain ⟨b, off, cs, p1, p2, p3, p4, p5⟩ := (h.mono hb.size hb fun _ _ h => WnP.mono h hb.size hb).at_ hj
  have hj' : j < L.length := by omega
  have p6 := p4
  obtain ⟨A1, m1, d1, rfl, _⟩ := vals_wn p4
  refine ⟨b, off, _, A1, m1, d1, p1, p5 0 _ rfl, p5 1 _ rfl, fun w'' hb' => ?_⟩
  rw [prL_at hj']
  exact when_any _ _ w'' (WnP.mono p6 hb'.size hb') (hok _ (List.getElem_mem hj'))
set_option maxRecDepth 100000 in
set_option maxHeartbeats 2000000 in
theorem mayRule_any (r : Ru) (cs : List Value) (w : World) (h : RuP w w.heap.size cs r) (hok : okRu r) :
    Calls Tryz.prog 12 #[.agg cs.toArray] w fun e w' => e = .returned (.bool (ruMay r)) ∧ Below w.heap.size w w' := by
  obtain ⟨A1, n1, c1, A2, n2, c2, A3, n3, c3, rfl, h1, h2, h3⟩ := vals_ru h
  obtain ⟨⟨_, k1⟩, ⟨_, k2⟩, ⟨_, k3⟩⟩ := hok
  obtain ⟨p, hp⟩ : ∃ p, (decide (r.froms.length ≤ 3) && r.froms.all srMay) = p := ⟨_, rfl⟩
  obtain ⟨q, hq⟩ : ∃ q, (decide (r.tos.length ≤ 3) && r.tos.all tgMay) = q := ⟨_, rfl⟩
  obtain ⟨z, hz⟩ : ∃ z, (decide (r.whens.length ≤ 3) && r.whens.all wnMay) = z := ⟨_, rfl⟩
  have he : ruMay r = (p && (q && z)) := by rw [← hp, ← hq, ← hz]; rfl
  rw [he]
  show Calls Tryz.prog 12 #[.agg #[.slice A1 n1 c1, .slice A2 n2 c2, .slice A3 n3 c3]] w _
  obtain ⟨wb, hwb⟩ : ∃ wb, w.alloc (.cells #[.slice A1 n1 c1, .slice A2 n2 c2, .slice A3 n3 c3] 26) = wb := ⟨_, rfl⟩
  have f0 : Below w.heap.size w wb := by rw [← hwb]; exact (Below.refl _ _).alloc (Nat.le_refl _) _
  have bl := Blk.newAt (w := w) rfl 26 #[.slice A1 n1 c1, .slice A2 n2 c2, .slice A3 n3 c3]
  rw [hwb] at bl
  have e0 : wb.cell? ⟨w.heap.size, 0, none⟩ = some (.slice A1 n1 c1) := bl.cell 0
  have e1 : wb.cell? ⟨w.heap.size, 1, none⟩ = some (.slice A2 n2 c2) := bl.cell 1
  have e2 : wb.cell? ⟨w.heap.size, 2, none⟩ = some (.slice A3 n3 c3) := bl.cell 2
  have H1 := Lib.hid fun (u : World) (hb : Below w.heap.size w u) => allSource_any A1 n1 c1 r.froms u (h1.mono hb.size hb fun _ _ h => SrP.mono h hb.size hb) k1
  have H2 := Lib.hid fun (u : World) (hb : Below w.heap.size w u) => allTarget_any A2 n2 c2 r.tos u (h2.mono hb.size hb fun _ _ h => TgP.mono h hb.size hb) k2
  have H3 := Lib.hid fun (u : World) (hb : Below w.heap.size w u) => allWhen_any A3 n3 c3 r.whens u (h3.mono hb.size hb fun _ _ h => WnP.mono h hb.size hb) k3
  rw [hp] at H1
  rw [hq] at H2
  rw [hz] at H3
  clear h h1 h2 h3 k1 k2 k3 hp hq hz he bl
  go_enter Tryz.func12, Tryz.ntmps12
  go_wp2_with fail
  refine (H1.out wb f0).mono ?_
  rintro e w2 ⟨rfl, f2⟩
  have f3 := f0.trans (f2.mono f0.size)
  have e5 := (f2.cell (World.block_lt_of_cell? wb _ e1)).trans e1
  have e6 := (f2.cell (World.block_lt_of_cell? wb _ e2)).trans e2
  cases p
  · go_wp2_with fail
    go_ret
    exact ⟨rfl, f3⟩
  · go_wp2_with fail
    refine (H2.out w2 f3).mono ?_
    rintro e w4 ⟨rfl, f4⟩
    have f5 := f3.trans (f4.mono f3.size)
    have e7 := (f4.cell (World.block_lt_of_cell? w2 _ e6)).trans e6
    cases q
    · go_wp2_with fail
      go_ret
      exact ⟨by first | rfl | simp, f5⟩
    · go_wp2_with fail
      refine (H3.out w4 f5).mono ?_
      rintro e w6 ⟨rfl, f6⟩
      have f7 := f5.trans (f6.mono f5.size)
      go_wp2_with fail
      go_ret
      exact ⟨by first | rfl | simp, f7⟩
set_option maxRecDepth 100000 in
set_option maxHeartbeats 2000000 in
theorem allRule_any (A : Option Addr) (n c : Nat) (L : List Ru) (w : World) (h : RdG 3 RuP w w.heap.size A n L) (hok : ∀ x ∈ L, okRu x) :
    Calls Tryz.prog 40 #[.int .i64 6, .slice A n c, .func (.func 12) #[] #[]] w fun e w' => e = .returned (.bool (decide (L.length ≤ 6) && L.all ruMay)) ∧ Below w.heap.size w w' := by
  have hl := h.1
  refine all_Rule A n c (prL ruMay L) w (fun w' hb j hj => ?_) (by rw [Bool.and_eq_true, decide_eq_true_eq, all_prL hl, hl])
  obtain ⟨b, off, cs, p1, p2, p3, p4, p5⟩ := (h.mono hb.size hb fun _ _ h => RuP.mono h hb.size hb).at_ hj
  have hj' : j < L.length := by omega
  have p6 := p4
  obtain ⟨A1, m1, d1, A2, m2, d2, A3, m3, d3, rfl, _⟩ := vals_ru p4
  refine ⟨b, off, A1, m1, d1, A2, m2, d2, A3, m3, d3, p1, p5 0 _ rfl, p5 1 _ rfl, p5 2 _ rfl, fun w'' hb' => ?_⟩
  rw [prL_at hj']
  exact mayRule_any _ _ w'' (RuP.mono p6 hb'.size hb') (hok _ (List.getElem_mem hj'))
end Go.Proofs.YtdbjihpdfiipcaaGreat
