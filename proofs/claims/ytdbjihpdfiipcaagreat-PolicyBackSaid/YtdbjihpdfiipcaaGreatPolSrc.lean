/- policy.Seventh, policy.source. Conditions: sizes; nets of the machine's numbers. -/
import Derived.Test.YtdbjihpdfiipcaaGreatPolRows
import Derived.IntWalk
namespace Go.Proofs.YtdbjihpdfiipcaaGreat
open Go.RowKit Go.Sort
set_option linter.unusedVariables false
set_option linter.unusedSimpArgs false
def okNets (L : List Nt) : Prop := L.length ≤ 1000000 ∧ ∀ c ∈ L, okN c
def okInts (L : List Int) : Prop := L.length ≤ 1000000 ∧ ∀ x ∈ L, -9223372036854775808 ≤ x ∧ x ≤ 9223372036854775807
def okSr (s : Sr) : Prop := okTs s.names ∧ okTs s.spaces ∧ okNets s.nets
def okTg (t : Tg) : Prop := okInts t.ports ∧ okTs t.methods ∧ okTs t.paths ∧ okTs t.hosts
def okWn (x : Wn) : Prop := okS x.head ∧ okTs x.terms
def okRu (r : Ru) : Prop := (r.froms.length ≤ 1000000 ∧ ∀ s ∈ r.froms, okSr s) ∧ (r.tos.length ≤ 1000000 ∧ ∀ t ∈ r.tos, okTg t) ∧ (r.whens.length ≤ 1000000 ∧ ∀ x ∈ r.whens, okWn x)
def okPo (p : Po) : Prop := p.id < 18446744073709551616 ∧ okS p.ns ∧ p.service < 18446744073709551616 ∧ (-9223372036854775808 ≤ p.deny ∧ p.deny ≤ 9223372036854775807) ∧ (p.rules.length ≤ 1000000 ∧ ∀ r ∈ p.rules, okRu r)
set_option maxRecDepth 100000 in
set_option maxHeartbeats 2000000 in
theorem svT_any (A1 : Option Addr) (n1 c1 : Nat) (A2 : Option Addr) (n2 c2 : Nat) (A3 : Option Addr) (n3 c3 : Nat) (A4 : Option Addr) (n4 c4 : Nat) (w : World) (h2 : n2 ≤ 1000000) (h3 : n3 ≤ 1000000) (h4 : n4 ≤ 1000000) :
    Calls Tryz.prog 30 #[.agg #[.slice A1 n1 c1, .slice A2 n2 c2, .slice A3 n3 c3, .slice A4 n4 c4]] w fun e w' => e = .returned (.bool (decide (0 < n2 + n3 + n4))) ∧ Below w.heap.size w w' := by
  obtain ⟨r, hr⟩ : ∃ r, decide (0 < n2 + n3 + n4) = r := ⟨_, rfl⟩
  rw [hr]
  have hd : decide ((0 : Int) < (n2 : Int) + (n3 : Int) + (n4 : Int)) = r := by
    rw [← hr]
    exact decide_eq_decide.2 (by omega)
  have a1 : IntKind.i64.wrap ((n2 : Int) + (n3 : Int)) = (n2 : Int) + (n3 : Int) := IntWalk.i64_in _ (by omega)
  have a2 : IntKind.i64.wrap ((n2 : Int) + (n3 : Int) + (n4 : Int)) = (n2 : Int) + (n3 : Int) + (n4 : Int) := IntWalk.i64_in _ (by omega)
  clear hr h2 h3 h4
  go_enter Tryz.func30, Tryz.ntmps30
  go_wp2_with fail
  go_ret
  exact ⟨rfl, (Below.refl _ w).alloc (Nat.le_refl _) _⟩
theorem vals_tg {w : World} {B : Nat} {cs : List Value} {t : Tg} (h : TgP w B cs t) : ∃ A1 n1 c1 A2 n2 c2 A3 n3 c3 A4 n4 c4, cs = [.slice A1 n1 c1, .slice A2 n2 c2, .slice A3 n3 c3, .slice A4 n4 c4] ∧ RdR inC 1 w B A1 n1 t.ports ∧ RdR tmC 2 w B A2 n2 t.methods ∧ RdR tmC 2 w B A3 n3 t.paths ∧ RdR tmC 2 w B A4 n4 t.hosts := by
  obtain ⟨_, _, _, _, rfl, ⟨A1, n1, c1, rfl, _, _, h1⟩, ⟨A2, n2, c2, rfl, _, _, h2⟩, ⟨A3, n3, c3, rfl, _, _, h3⟩, ⟨A4, n4, c4, rfl, _, _, h4⟩⟩ := h
  exact ⟨A1, n1, c1, A2, n2, c2, A3, n3, c3, A4, n4, c4, rfl, h1, h2, h3, h4⟩
theorem vals_sr {w : World} {B : Nat} {cs : List Value} {s : Sr} (h : SrP w B cs s) : ∃ A1 n1 c1 A2 n2 c2 A3 n3 c3, cs = [.slice A1 n1 c1, .slice A2 n2 c2, .slice A3 n3 c3] ∧ RdR tmC 2 w B A1 n1 s.names ∧ RdR tmC 2 w B A2 n2 s.spaces ∧ RdR ntC 2 w B A3 n3 s.nets := by
  obtain ⟨_, _, _, rfl, ⟨A1, n1, c1, rfl, _, _, h1⟩, ⟨A2, n2, c2, rfl, _, _, h2⟩, ⟨A3, n3, c3, rfl, _, _, h3⟩⟩ := h
  exact ⟨A1, n1, c1, A2, n2, c2, A3, n3, c3, rfl, h1, h2, h3⟩
theorem vals_wn {w : World} {B : Nat} {cs : List Value} {x : Wn} (h : WnP w B cs x) : ∃ A n c, cs = [.string (strB x.head), .slice A n c] ∧ RdR tmC 2 w B A n x.terms := by
  obtain ⟨_, rfl, ⟨A, n, c, rfl, _, _, h1⟩⟩ := h
  exact ⟨A, n, c, rfl, h1⟩
theorem vals_ru {w : World} {B : Nat} {cs : List Value} {r : Ru} (h : RuP w B cs r) : ∃ A1 n1 c1 A2 n2 c2 A3 n3 c3, cs = [.slice A1 n1 c1, .slice A2 n2 c2, .slice A3 n3 c3] ∧ RdG 3 SrP w B A1 n1 r.froms ∧ RdG 4 TgP w B A2 n2 r.tos ∧ RdG 2 WnP w B A3 n3 r.whens := by
  obtain ⟨_, _, _, rfl, ⟨A1, n1, c1, rfl, _, _, h1⟩, ⟨A2, n2, c2, rfl, _, _, h2⟩, ⟨A3, n3, c3, rfl, _, _, h3⟩⟩ := h
  exact ⟨A1, n1, c1, A2, n2, c2, A3, n3, c3, rfl, h1, h2, h3⟩
set_option maxRecDepth 100000 in
set_option maxHeartbeats 2000000 in
theorem seventh_any (r : Ru) (cs : List Value) (w : World) (h : RuP w w.heap.size cs r) (hok : okRu r) :
    Calls Tryz.prog 10 #[.agg cs.toArray] w fun e w' => e = .returned (.bool (seventhR r)) ∧ Below w.heap.size w w' := by
  obtain ⟨A1, n1, c1, A2, n2, c2, A3, n3, c3, rfl, h1, h2, h3⟩ := vals_ru h
  have l2 := h2.1
  have l3 := h3.1
  have k2 := hok.2.1.1
  obtain ⟨v, hv⟩ : ∃ v, seventhR r = v := ⟨_, rfl⟩
  rw [hv]
  show Calls Tryz.prog 10 #[.agg #[.slice A1 n1 c1, .slice A2 n2 c2, .slice A3 n3 c3]] w _
  by_cases hw : 0 < n3
  · have d1 : decide ((0 : Int) < (n3 : Int)) = true := by simp; omega
    obtain rfl : v = true := by
      rw [← hv]
      unfold seventhR
      rw [decide_eq_true (show 0 < r.whens.length by omega), Bool.true_or]
    clear h h1 h2 h3 hok
    go_enter Tryz.func10, Tryz.ntmps10
    go_wp2_with fail
    go_ret
    exact ⟨rfl, (Below.refl _ w).alloc (Nat.le_refl _) _⟩
  · have d1 : decide ((0 : Int) < (n3 : Int)) = false := by simp; omega
    have hq : v = r.tos.any tgSeventh := by
      rw [← hv]
      unfold seventhR
      rw [decide_eq_false (show ¬ 0 < r.whens.length by omega), Bool.false_or]
    obtain ⟨wb, hwb⟩ : ∃ wb, w.alloc (.cells #[.slice A1 n1 c1, .slice A2 n2 c2, .slice A3 n3 c3] 26) = wb := ⟨_, rfl⟩
    have f0 : Below w.heap.size w wb := by rw [← hwb]; exact (Below.refl _ _).alloc (Nat.le_refl _) _
    have e2 : wb.cell? ⟨w.heap.size, 2, none⟩ = some (.slice A3 n3 c3) := by rw [← hwb]; exact (Blk.newAt rfl _ #[.slice A1 n1 c1, .slice A2 n2 c2, .slice A3 n3 c3]).cell 2
    have e1 : wb.cell? ⟨w.heap.size, 1, none⟩ = some (.slice A2 n2 c2) := by rw [← hwb]; exact (Blk.newAt rfl _ #[.slice A1 n1 c1, .slice A2 n2 c2, .slice A3 n3 c3]).cell 1
    have hh := has_Seventh A2 n2 c2 (prL tgSeventh r.tos) wb (by omega) (fun w' hb j hj => by
      obtain ⟨b, off, cs, p1, p2, p3, p4, p5⟩ := (h2.mono f0.size (f0.trans (hb.mono f0.size)) fun _ _ h => h.mono f0.size (f0.trans (hb.mono f0.size))).at_ hj
      obtain ⟨B1, m1, d1, B2, m2, d2, B3, m3, d3, B4, m4, d4, rfl, q1, q2, q3, q4⟩ := vals_tg p4
      have hj' : j < r.tos.length := by omega
      have hk := hok.2.1.2 _ (List.getElem_mem hj')
      have g2 := hk.2.1.1
      have g3 := hk.2.2.1.1
      have g4 := hk.2.2.2.1
      rw [q2.1] at g2
      rw [q3.1] at g3
      rw [q4.1] at g4
      refine ⟨b, off, B1, m1, d1, B2, m2, d2, B3, m3, d3, B4, m4, d4, p1, p5 0 _ rfl, p5 1 _ rfl, p5 2 _ rfl, p5 3 _ rfl, ?_⟩
      rw [prL_at hj']
      unfold tgSeventh
      rw [q2.1, q3.1, q4.1]
      exact svT_any _ _ _ _ _ _ _ _ _ _ _ _ _ g2 g3 g4) (any_prL l2)
    rw [← hq] at hh
    clear h h1 h2 h3 hok hq hv
    go_enter Tryz.func10, Tryz.ntmps10
    go_wp2_with fail
    refine hh.mono ?_
    rintro e w2 ⟨rfl, f2⟩
    have f3 := f0.trans (f2.mono f0.size)
    cases v
    all_goals
      go_wp2_with fail
      go_ret
      exact ⟨rfl, f3⟩
set_option maxRecDepth 100000 in
set_option maxHeartbeats 2000000 in
theorem source_any (s : Sr) (cs : List Value) (w : World) (h : SrP w w.heap.size cs s) (hok : okSr s) :
    Calls Tryz.prog 34 #[.agg cs.toArray] w fun e w' => e = .returned (.bool (srMay s)) ∧ Below w.heap.size w w' := by
  obtain ⟨A1, n1, c1, A2, n2, c2, A3, n3, c3, rfl, h1, h2, h3⟩ := vals_sr h
  obtain ⟨v1, v2, v3, hv, t1, t2, t3⟩ := h
  obtain ⟨k1, k2, k3⟩ := hok
  have l3 := h3.1
  obtain ⟨p, hp⟩ : ∃ p, rowsMay [s.names, s.spaces] = p := ⟨_, rfl⟩
  obtain ⟨q, hq⟩ : ∃ q, (decide (s.nets.length ≤ 6) && s.nets.all nMay) = q := ⟨_, rfl⟩
  have he : srMay s = (p && q) := by rw [← hp, ← hq]; rfl
  rw [he]
  injection hv with g1 hv
  injection hv with g2 hv
  injection hv with g3 hv
  subst g1 g2 g3
  show Calls Tryz.prog 34 #[.agg #[.slice A1 n1 c1, .slice A2 n2 c2, .slice A3 n3 c3]] w _
  obtain ⟨wb, hwb⟩ : ∃ wb, w.alloc (.cells #[.slice A1 n1 c1, .slice A2 n2 c2, .slice A3 n3 c3] 45) = wb := ⟨_, rfl⟩
  have f0 : Below w.heap.size w wb := by rw [← hwb]; exact (Below.refl _ _).alloc (Nat.le_refl _) _
  have bl := Blk.newAt (w := w) rfl 45 #[.slice A1 n1 c1, .slice A2 n2 c2, .slice A3 n3 c3]
  rw [hwb] at bl
  have e0 : wb.cell? ⟨w.heap.size, 0, none⟩ = some (.slice A1 n1 c1) := bl.cell 0
  have e1 : wb.cell? ⟨w.heap.size, 1, none⟩ = some (.slice A2 n2 c2) := bl.cell 1
  have e2 : wb.cell? ⟨w.heap.size, 2, none⟩ = some (.slice A3 n3 c3) := bl.cell 2
  have hrows := rows_any (some ⟨wb.heap.size, 0, none⟩) 2 2 [s.names, s.spaces] (wb.alloc (.cells #[.slice A1 n1 c1, .slice A2 n2 c2] 31)) (by omega) (rows_new (w := wb) (vs := [.slice A1 n1 c1, .slice A2 n2 c2]) (R := [s.names, s.spaces]) _ rfl (fun j hj => by
    rcases j with _ | _ | j
    · exact t1.mono f0.size f0
    · exact t2.mono f0.size f0
    · exact absurd hj (by simp))) (by
    intro L hL
    simp only [List.mem_cons, List.mem_nil_iff, or_false] at hL
    rcases hL with rfl | rfl
    · exact k1
    · exact k2)
  rw [hp] at hrows
  have hnets : ∀ w2, Below w.heap.size w w2 → Calls Tryz.prog 74 #[.int .i64 6, .slice A3 n3 c3, .func (.func 75) #[] #[]] w2 fun e w' => e = .returned (.bool q) ∧ Below w2.heap.size w2 w' := fun w2 hb => all_Cidr A3 n3 c3 (prL nMay s.nets) w2 (fun w' hb' j hj => by
    obtain ⟨b, off, r1, r2, r3⟩ := (h3.below (hb.trans (hb'.mono hb.size))).2 (by omega)
    have hj' : j < s.nets.length := by omega
    refine ⟨b, off, _, _, r1, r3 j hj' 0 _ rfl, r3 j hj' 1 _ rfl, fun w'' _ => ?_⟩
    rw [prL_at hj']
    refine (may_any _ _ w'' (k3.2 _ (List.getElem_mem hj'))).mono ?_
    rintro e w4 ⟨rfl, f4⟩
    exact ⟨rfl, f4.below⟩) (by rw [← hq, Bool.and_eq_true, decide_eq_true_eq, all_prL l3, l3])
  have HN := Lib.hid hnets
  clear h1 h2 h3 t1 t2 t3 k1 k2 k3 hp hq he hnets hv bl
  go_enter Tryz.func34, Tryz.ntmps34
  go_wp2_with fail
  refine hrows.mono ?_
  rintro e w2 ⟨rfl, f2⟩
  have fa : Below wb.heap.size wb (wb.alloc (.cells #[.slice A1 n1 c1, .slice A2 n2 c2] 31)) := (Below.refl _ _).alloc (Nat.le_refl _) _
  have f3 := fa.trans (f2.mono fa.size)
  have e5 : w2.cell? ⟨w.heap.size, 2, none⟩ = some (.slice A3 n3 c3) := (f3.cell (World.block_lt_of_cell? wb _ e2)).trans e2
  have f4 := f0.trans (f3.mono f0.size)
  cases p
  · go_wp2_with fail
    go_ret
    exact ⟨rfl, f4⟩
  · go_wp2_with fail
    refine (HN.out w2 f4).mono ?_
    rintro e w5 ⟨rfl, f5⟩
    have f6 := f4.trans (f5.mono f4.size)
    go_wp2_with fail
    go_ret
    exact ⟨by simp, f6⟩
end Go.Proofs.YtdbjihpdfiipcaaGreat
