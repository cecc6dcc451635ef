/- law12's LongRule. Condition: the machine's sizes. Printed by gen_plong.py. -/
import Derived.Test.YtpcdmbajfmnoiaaGreatDoorPolLong
import Derived.Test.YtpcdmbajfmnoiaaGreatDoorPolTRS
import Derived.Test.YtpcdmbajfmnoiaaGreatDoorOrder
import Derived.BigQuiet
namespace Go.Proofs.YtpcdmbajfmnoiaaGreatDoor
open Go.RowKit Go.Sort
set_option linter.unusedVariables false
set_option linter.unusedSimpArgs false
/-- Cells that are known. -/
def CsS : List (Addr × Value) → World → Prop
 | [], _ => True
 | (a, v) :: l, u => u.cell? a = some v ∧ CsS l u
theorem CsS.below {l : List (Addr × Value)} {u v : World} (h : CsS l u) (hb : Below u.heap.size u v) : CsS l v := by
 induction l with
 | nil => trivial
 | cons x l ih =>
  obtain ⟨a, y⟩ := x
  exact ⟨(hb.cell (World.block_lt_of_cell? u _ h.1)).trans h.1, ih h.2⟩
def srLong (s : Sr) : Bool := [s.names, s.spaces].any tsLong || decide (20 < s.nets.length)
def tgLong (t : Tg) : Bool := [t.methods, t.paths, t.hosts].any tsLong || decide (20 < t.ports.length)
def wnLong (x : Wn) : Bool := [x.terms].any tsLong || decide (300 < x.head.length)
def ruLong (r : Ru) : Bool := (decide (12 < r.froms.length) || (decide (12 < r.tos.length) || decide (12 < r.whens.length))) || (r.froms.any srLong || (r.tos.any tgLong || r.whens.any wnLong))
def mxSr (s : Sr) : Prop := mxTs s.names ∧ mxTs s.spaces ∧ s.nets.length ≤ 9223372036854775807
def mxTg (t : Tg) : Prop := mxTs t.methods ∧ mxTs t.paths ∧ mxTs t.hosts ∧ t.ports.length ≤ 9223372036854775807
def mxWn (x : Wn) : Prop := mxTs x.terms ∧ mxS x.head
def mxRu (r : Ru) : Prop := (r.froms.length ≤ 9223372036854775807 ∧ ∀ s ∈ r.froms, mxSr s) ∧ (r.tos.length ≤ 9223372036854775807 ∧ ∀ t ∈ r.tos, mxTg t) ∧ (r.whens.length ≤ 9223372036854775807 ∧ ∀ x ∈ r.whens, mxWn x)
theorem ru_long1 {r : Ru} (h : r.froms.any srLong = true) : ruLong r = true := by unfold ruLong; rw [h]; simp
theorem ru_long2 {r : Ru} (h : r.tos.any tgLong = true) : ruLong r = true := by unfold ruLong; rw [h]; simp
theorem ru_long3 {r : Ru} (h : r.whens.any wnLong = true) : ruLong r = true := by unfold ruLong; rw [h]; simp
set_option maxRecDepth 100000 in
set_option maxHeartbeats 4000000 in
theorem longRule_any (r : Ru) (cs : List Value) (w : World) (h : RuP w w.heap.size cs r) (hok : mxRu r) :
  Calls Tryz.prog 33 #[.agg cs.toArray] w fun e w' => e = .returned (.bool (ruLong r)) ∧ Below w.heap.size w w' := by
 obtain ⟨A1, n1, c1, A2, n2, c2, A3, n3, c3, rfl, h1, h2, h3⟩ := vals_ru h
 have l1 := h1.1
 have l2 := h2.1
 have l3 := h3.1
 obtain ⟨v, hv⟩ : ∃ v, ruLong r = v := ⟨_, rfl⟩
 rw [hv]
 have HV := Lib.hid hv; clear hv
 have H1 := Lib.hid h1; have H2 := Lib.hid h2; have H3 := Lib.hid h3
 have L1 := Lib.hid l1; have L2 := Lib.hid l2; have L3 := Lib.hid l3
 have OK1 := Lib.hid hok.1.2; have OK2 := Lib.hid hok.2.1.2; have OK3 := Lib.hid hok.2.2.2
 show Calls Tryz.prog 33 #[.agg #[.slice A1 n1 c1, .slice A2 n2 c2, .slice A3 n3 c3]] w _
 obtain ⟨wb, hwb⟩ : ∃ wb, w.alloc (.cells #[.slice A1 n1 c1, .slice A2 n2 c2, .slice A3 n3 c3] 50) = wb := ⟨_, rfl⟩
 have f0 : Below w.heap.size w wb := by rw [← hwb]; exact (Below.refl _ _).alloc (Nat.le_refl _) _
 have bl := Blk.newAt (w := w) rfl 50 #[.slice A1 n1 c1, .slice A2 n2 c2, .slice A3 n3 c3]
 rw [hwb] at bl
 have HB0 : Hid (CsS [(⟨w.heap.size, 0, none⟩, .slice A1 n1 c1), (⟨w.heap.size, 1, none⟩, .slice A2 n2 c2), (⟨w.heap.size, 2, none⟩, .slice A3 n3 c3)] wb) := Lib.hid ⟨bl.cell 0, bl.cell 1, bl.cell 2, trivial⟩
 obtain ⟨e0, e1, e2, _⟩ := HB0.out
 by_cases m1 : 12 < n1
 ·have x1 : decide ((12 : Int) < (n1 : Int)) = true := by simp; omega
  have hr : v = true := by rw [← HV.out]; unfold ruLong; rw [L1.out, decide_eq_true m1]; simp
  subst hr
  clear h h1 h2 h3 l1 l2 l3 hok bl
  go_enter Tryz.func33, Tryz.ntmps33
  go_wp2_with fail
  go_ret
  exact ⟨rfl, f0⟩
 have x1 : decide ((12 : Int) < (n1 : Int)) = false := by simp; omega
 by_cases m2 : 12 < n2
 ·have x2 : decide ((12 : Int) < (n2 : Int)) = true := by simp; omega
  have hr : v = true := by rw [← HV.out]; unfold ruLong; rw [L2.out, decide_eq_true m2]; simp
  subst hr
  clear h h1 h2 h3 l1 l2 l3 hok bl
  go_enter Tryz.func33, Tryz.ntmps33
  go_wp2_with fail
  go_ret
  exact ⟨rfl, f0⟩
 have x2 : decide ((12 : Int) < (n2 : Int)) = false := by simp; omega
 by_cases m3 : 12 < n3
 ·have x3 : decide ((12 : Int) < (n3 : Int)) = true := by simp; omega
  have hr : v = true := by rw [← HV.out]; unfold ruLong; rw [L3.out, decide_eq_true m3]; simp
  subst hr
  clear h h1 h2 h3 l1 l2 l3 hok bl
  go_enter Tryz.func33, Tryz.ntmps33
  go_wp2_with fail
  go_ret
  exact ⟨rfl, f0⟩
 have M1 := Lib.hid m1; have M2 := Lib.hid m2; have M3 := Lib.hid m3
 have x3 : decide ((12 : Int) < (n3 : Int)) = false := by simp; omega
 clear h h1 h2 h3 l1 l2 l3 hok bl
 go_enter Tryz.func33, Tryz.ntmps33
 go_wp2_with fail
 clear e0 e1 e2 x1 x2 x3 hwb
 go_loopw [3] (fun v3 wr => ∃ k : Nat, v3 = .int .i64 k ∧ k ≤ n1 ∧ Below w.heap.size w wr ∧ CsS [(⟨w.heap.size, 0, none⟩, .slice A1 n1 c1), (⟨w.heap.size, 1, none⟩, .slice A2 n2 c2), (⟨w.heap.size, 2, none⟩, .slice A3 n3 c3)] wr ∧ ∀ i (hi : i < r.froms.length), i < k → srLong r.froms[i] = false) (fun v3 _ => n1 - (intOf v3).toNat)
 case atStart => exact ⟨0, rfl, Nat.zero_le _, f0, HB0.out, fun i _ hi => absurd hi (by omega)⟩
 case round =>
  obtain ⟨k, rfl, hk, f1, hB, hall⟩ := hrel
  have HALL := Lib.hid hall; have HB := Lib.hid hB; clear hall hB
  obtain ⟨e0, e1, e2, _⟩ := HB.out
  by_cases hlt : k < n1
  ·obtain ⟨b, off, cs, rfl, p2, p3, p4, p5⟩ := (H1.out.mono f1.size f1 (fun _ _ h => SrP.mono h f1.size f1)).at_ hlt
   have hkR : k < r.froms.length := by rw [L1.out]; exact hlt
   have mx := OK1.out _ (List.getElem_mem hkR)
   have d1 : decide ((k : Int) < (n1 : Int)) = true := by simp; omega
   have z1 : (0 : Int) ≤ (k : Int) := by omega
   have z2 : (k : Int) < (n1 : Int) := by omega
   obtain ⟨x, hx⟩ : ∃ x, r.froms[k] = x := ⟨_, rfl⟩
   rw [hx] at p4 mx
   have HX := Lib.hid hx; clear hx
   obtain ⟨v1, v2, v3, rfl, t1, t2, t3⟩ := p4
   obtain ⟨B1, m1, y1, rfl, a1, a2, q1⟩ := t1
   obtain ⟨B2, m2, y2, rfl, a3, a4, q2⟩ := t2
   obtain ⟨B3, m3, y3, rfl, a5, a6, q3⟩ := t3
   have t1 : RvT wr wr.heap.size (.slice B1 m1 y1) x.names := ⟨B1, m1, y1, rfl, a1, a2, q1⟩
   have t2 : RvT wr wr.heap.size (.slice B2 m2 y2) x.spaces := ⟨B2, m2, y2, rfl, a3, a4, q2⟩
   have Q3 := Lib.hid q3.1; clear q1 q2 q3 a1 a2 a3 a4 a5 a6
   obtain ⟨p, hp⟩ : ∃ p, [x.names, x.spaces].any tsLong = p := ⟨_, rfl⟩
   have HT : Hid (∀ u, Below wr.heap.size wr u → Calls Tryz.prog 62 #[.slice (some ⟨u.heap.size, 0, none⟩) 2 2] (u.alloc (.cells #[.slice B1 m1 y1, .slice B2 m2 y2] 43)) fun e w' => e = .returned (.bool p) ∧ w' = u.alloc (.cells #[.slice B1 m1 y1, .slice B2 m2 y2] 43)) := Lib.hid fun u hu => by
    rw [← hp]
    refine terms12_any (some ⟨u.heap.size, 0, none⟩) 2 2 [x.names, x.spaces] _ (rows_new (w := u) (vs := [.slice B1 m1 y1, .slice B2 m2 y2]) (R := [x.names, x.spaces]) _ rfl (fun j hj => ?_)) (by omega) ?_
    ·rcases j with _ | _ | j
     ·exact (t1.mono hu.size hu)
     ·exact (t2.mono hu.size hu)
     ·exact absurd hj (by simp)
    ·intro M hM
     simp only [List.mem_cons, List.mem_nil_iff, or_false] at hM
     rcases hM with rfl | rfl
     ·exact mx.1
     ·exact mx.2.1
   have g0 : wr.cell? ⟨b, off + k * 3, none⟩ = some (.slice B1 m1 y1) := p5 0 _ rfl
   have g1 : wr.cell? ⟨b, off + k * 3 + 1, none⟩ = some (.slice B2 m2 y2) := p5 1 _ rfl
   have g2 : wr.cell? ⟨b, off + k * 3 + 2, none⟩ = some (.slice B3 m3 y3) := p5 2 _ rfl
   have HPx := Lib.hid hp
   clear p5 p2 p3 mx hp
   cases p
   ·by_cases hl : 20 < m3
    ·have d2 : decide ((20 : Int) < (m3 : Int)) = true := by simp; omega
     have hr : v = true := by
      rw [← HV.out]
      refine ru_long1 (any_long hkR ?_)
      rw [HX.out]
      unfold srLong
      rw [Q3.out, decide_eq_true hl, Bool.or_true]
     subst hr
     go_upto_region 6 with fail
     refine wp_region_order (CsS [(⟨w.heap.size, 0, none⟩, .slice (some ⟨b, off, none⟩) n1 c1), (⟨b, off + k * 3, none⟩, .slice B1 m1 y1), (⟨b, off + k * 3 + 1, none⟩, .slice B2 m2 y2), (⟨b, off + k * 3 + 2, none⟩, .slice B3 m3 y3)]) 99 [(0,0), (1,0), (2,0), (3,0), (4,0), (5,0), (6,0), (7,0), (8,0), (9,0), (10,0), (11,0), (12,1), (13,1), (14,0), (15,0), (16,0), (17,0), (18,0), (19,0), (20,0), (21,0), (22,0), (23,0)] (by kernel_rfl) (by kernel_rfl) ?_
     simp only [pick, List.filterMap_cons, List.filterMap_nil, List.getElem?_cons_zero, List.getElem?_cons_succ, Option.map_some]
     have hS : CsS [(⟨w.heap.size, 0, none⟩, .slice (some ⟨b, off, none⟩) n1 c1), (⟨b, off + k * 3, none⟩, .slice B1 m1 y1), (⟨b, off + k * 3 + 1, none⟩, .slice B2 m2 y2), (⟨b, off + k * 3 + 2, none⟩, .slice B3 m3 y3)] wr.drew := ⟨e0, g0, g1, g2, trivial⟩
     have F1 : Below wr.heap.size wr wr.drew := (Below.refl _ wr).drew
     clear e0 g0 g1 g2
     generalize wr.drew = wd at *
     iterate 12 (refine wpF_take (v := ?_) hS rfl ?_ (fun _ _ _ h => h) ?_; rotate_left; (· intro w' hS'; obtain ⟨e0, g0, g1, g2, _⟩ := hS'; go_simp <;> rfl); go_simp)
     refine wpF_only rfl (fun K hK => ?_)
     go_wp2_with fail
     have hR := HT.out wd F1
     have fa : Below wd.heap.size wd (wd.alloc (.cells #[.slice B1 m1 y1, .slice B2 m2 y2] 43)) := (Below.refl _ wd).alloc (Nat.le_refl _) _
     replace hS := hS.below fa
     replace F1 := F1.trans (fa.mono F1.size)
     clear fa
     go_wp2_with fail
     first | refine ⟨fun _ => hS, ?_⟩ | refine ⟨hS, ?_⟩ | skip
     go_simp
     refine wpF_only rfl (fun K hK => ?_)
     go_wp2_with fail
     refine hR.mono ?_
     rintro e w5 ⟨rfl, rfl⟩
     have hS2 := hS
     obtain ⟨e0, g0, g1, g2, _⟩ := hS2
     clear hR
     go_wp2_with fail
     first | refine ⟨fun _ => hS, ?_⟩ | refine ⟨hS, ?_⟩ | skip
     go_simp
     iterate 10 (refine wpF_take (v := ?_) hS rfl ?_ (fun _ _ _ h => h) ?_; rotate_left; (· intro w' hS'; obtain ⟨e0, g0, g1, g2, _⟩ := hS'; go_simp <;> rfl); go_simp)
     refine wpF_nil ?_
     go_wp2_with fail
     go_ret
     exact ⟨rfl, f1.trans (F1.mono f1.size)⟩
    ·have d2 : decide ((20 : Int) < (m3 : Int)) = false := by simp; omega
     have HF : Hid (srLong (r.froms[k]) = false) := Lib.hid (by rw [HX.out]; unfold srLong; rw [HPx.out, Q3.out, decide_eq_false hl]; rfl)
     go_upto_region 6 with fail
     refine wp_region_order (CsS [(⟨w.heap.size, 0, none⟩, .slice (some ⟨b, off, none⟩) n1 c1), (⟨b, off + k * 3, none⟩, .slice B1 m1 y1), (⟨b, off + k * 3 + 1, none⟩, .slice B2 m2 y2), (⟨b, off + k * 3 + 2, none⟩, .slice B3 m3 y3)]) 99 [(0,0), (1,0), (2,0), (3,0), (4,0), (5,0), (6,0), (7,0), (8,0), (9,0), (10,0), (11,0), (12,1), (13,1), (14,0), (15,0), (16,0), (17,0), (18,0), (19,0), (20,0), (21,0), (22,0), (23,0)] (by kernel_rfl) (by kernel_rfl) ?_
     simp only [pick, List.filterMap_cons, List.filterMap_nil, List.getElem?_cons_zero, List.getElem?_cons_succ, Option.map_some]
     have hS : CsS [(⟨w.heap.size, 0, none⟩, .slice (some ⟨b, off, none⟩) n1 c1), (⟨b, off + k * 3, none⟩, .slice B1 m1 y1), (⟨b, off + k * 3 + 1, none⟩, .slice B2 m2 y2), (⟨b, off + k * 3 + 2, none⟩, .slice B3 m3 y3)] wr.drew := ⟨e0, g0, g1, g2, trivial⟩
     have F1 : Below wr.heap.size wr wr.drew := (Below.refl _ wr).drew
     clear e0 g0 g1 g2
     generalize wr.drew = wd at *
     iterate 12 (refine wpF_take (v := ?_) hS rfl ?_ (fun _ _ _ h => h) ?_; rotate_left; (· intro w' hS'; obtain ⟨e0, g0, g1, g2, _⟩ := hS'; go_simp <;> rfl); go_simp)
     refine wpF_only rfl (fun K hK => ?_)
     go_wp2_with fail
     have hR := HT.out wd F1
     have fa : Below wd.heap.size wd (wd.alloc (.cells #[.slice B1 m1 y1, .slice B2 m2 y2] 43)) := (Below.refl _ wd).alloc (Nat.le_refl _) _
     replace hS := hS.below fa
     replace F1 := F1.trans (fa.mono F1.size)
     clear fa
     go_wp2_with fail
     first | refine ⟨fun _ => hS, ?_⟩ | refine ⟨hS, ?_⟩ | skip
     go_simp
     refine wpF_only rfl (fun K hK => ?_)
     go_wp2_with fail
     refine hR.mono ?_
     rintro e w5 ⟨rfl, rfl⟩
     have hS2 := hS
     obtain ⟨e0, g0, g1, g2, _⟩ := hS2
     clear hR
     go_wp2_with fail
     first | refine ⟨fun _ => hS, ?_⟩ | refine ⟨hS, ?_⟩ | skip
     go_simp
     iterate 10 (refine wpF_take (v := ?_) hS rfl ?_ (fun _ _ _ h => h) ?_; rotate_left; (· intro w' hS'; obtain ⟨e0, g0, g1, g2, _⟩ := hS'; go_simp <;> rfl); go_simp)
     refine wpF_nil ?_
     go_wp2_with fail
     go_roundw
     case rel =>
      refine ⟨k + 1, by go_num, by omega, f1.trans (F1.mono f1.size), HB.out.below F1, fun i hi hik => ?_⟩
      by_cases e : i = k
      ·subst e; exact HF.out
      ·exact HALL.out i hi (by omega)
     case measure => simp [intOf]; omega
   ·have hr : v = true := by
     rw [← HV.out]
     refine ru_long1 (any_long hkR ?_)
     rw [HX.out]
     unfold srLong
     rw [HPx.out, Bool.true_or]
    subst hr
    go_upto_region 6 with fail
    refine wp_region_order (CsS [(⟨w.heap.size, 0, none⟩, .slice (some ⟨b, off, none⟩) n1 c1), (⟨b, off + k * 3, none⟩, .slice B1 m1 y1), (⟨b, off + k * 3 + 1, none⟩, .slice B2 m2 y2), (⟨b, off + k * 3 + 2, none⟩, .slice B3 m3 y3)]) 99 [(0,0), (1,0), (2,0), (3,0), (4,0), (5,0), (6,0), (7,0), (8,0), (9,0), (10,0), (11,0), (12,1), (13,1), (14,0), (15,0), (16,0), (17,0), (18,0), (19,0), (20,0), (21,0), (22,0), (23,0)] (by kernel_rfl) (by kernel_rfl) ?_
    simp only [pick, List.filterMap_cons, List.filterMap_nil, List.getElem?_cons_zero, List.getElem?_cons_succ, Option.map_some]
    have hS : CsS [(⟨w.heap.size, 0, none⟩, .slice (some ⟨b, off, none⟩) n1 c1), (⟨b, off + k * 3, none⟩, .slice B1 m1 y1), (⟨b, off + k * 3 + 1, none⟩, .slice B2 m2 y2), (⟨b, off + k * 3 + 2, none⟩, .slice B3 m3 y3)] wr.drew := ⟨e0, g0, g1, g2, trivial⟩
    have F1 : Below wr.heap.size wr wr.drew := (Below.refl _ wr).drew
    clear e0 g0 g1 g2
    generalize wr.drew = wd at *
    iterate 12 (refine wpF_take (v := ?_) hS rfl ?_ (fun _ _ _ h => h) ?_; rotate_left; (· intro w' hS'; obtain ⟨e0, g0, g1, g2, _⟩ := hS'; go_simp <;> rfl); go_simp)
    refine wpF_only rfl (fun K hK => ?_)
    go_wp2_with fail
    have hR := HT.out wd F1
    have fa : Below wd.heap.size wd (wd.alloc (.cells #[.slice B1 m1 y1, .slice B2 m2 y2] 43)) := (Below.refl _ wd).alloc (Nat.le_refl _) _
    replace hS := hS.below fa
    replace F1 := F1.trans (fa.mono F1.size)
    clear fa
    go_wp2_with fail
    first | refine ⟨fun _ => hS, ?_⟩ | refine ⟨hS, ?_⟩ | skip
    go_simp
    refine wpF_only rfl (fun K hK => ?_)
    go_wp2_with fail
    refine hR.mono ?_
    rintro e w5 ⟨rfl, rfl⟩
    have hS2 := hS
    obtain ⟨e0, g0, g1, g2, _⟩ := hS2
    clear hR
    go_wp2_with fail
    first | refine ⟨fun _ => hS, ?_⟩ | refine ⟨hS, ?_⟩ | skip
    go_simp
    (refine wpF_take (v := ?_) hS rfl ?_ (fun _ _ _ h => h) ?_; rotate_left; (· intro w' hS'; obtain ⟨e0, g0, g1, g2, _⟩ := hS'; go_simp <;> rfl); go_simp)
    refine wpF_skip hS rfl (fun _ _ _ h => h) ?_
    go_simp
    refine wpF_skip hS rfl (fun _ _ _ h => h) ?_
    go_simp
    refine wpF_skip hS rfl (fun _ _ _ h => h) ?_
    go_simp
    refine wpF_skip hS rfl (fun _ _ _ h => h) ?_
    go_simp
    refine wpF_skip hS rfl (fun _ _ _ h => h) ?_
    go_simp
    refine wpF_skip hS rfl (fun _ _ _ h => h) ?_
    go_simp
    refine wpF_skip hS rfl (fun _ _ _ h => h) ?_
    go_simp
    refine wpF_skip hS rfl (fun _ _ _ h => h) ?_
    go_simp
    (refine wpF_take (v := ?_) hS rfl ?_ (fun _ _ _ h => h) ?_; rotate_left; (· intro w' hS'; obtain ⟨e0, g0, g1, g2, _⟩ := hS'; go_simp <;> rfl); go_simp)
    refine wpF_nil ?_
    go_wp2_with fail
    go_ret
    exact ⟨rfl, f1.trans (F1.mono f1.size)⟩
  ·have d1 : decide ((k : Int) < (n1 : Int)) = false := by simp; omega
   obtain rfl : n1 = k := by omega
   have HA1 := Lib.hid (any_short (L := r.froms) (f := srLong) fun j hj => HALL.out j hj (by rw [L1.out] at hj; exact hj))
   go_wp2_with fail
   clear e0 e1 e2 HALL d1
   go_loopw [4] (fun v4 wr => ∃ k : Nat, v4 = .int .i64 k ∧ k ≤ n2 ∧ Below w.heap.size w wr ∧ CsS [(⟨w.heap.size, 0, none⟩, .slice A1 n1 c1), (⟨w.heap.size, 1, none⟩, .slice A2 n2 c2), (⟨w.heap.size, 2, none⟩, .slice A3 n3 c3)] wr ∧ ∀ i (hi : i < r.tos.length), i < k → tgLong r.tos[i] = false) (fun v4 _ => n2 - (intOf v4).toNat)
   case atStart => exact ⟨0, rfl, Nat.zero_le _, f1, HB.out, fun i _ hi => absurd hi (by omega)⟩
   case round =>
    clear HB f1
    obtain ⟨k, rfl, hk, f1, hB, hall⟩ := hrel
    have HALL := Lib.hid hall; have HB := Lib.hid hB; clear hall hB
    obtain ⟨e0, e1, e2, _⟩ := HB.out
    by_cases hlt : k < n2
    ·obtain ⟨b, off, cs, rfl, p2, p3, p4, p5⟩ := (H2.out.mono f1.size f1 (fun _ _ h => TgP.mono h f1.size f1)).at_ hlt
     have hkR : k < r.tos.length := by rw [L2.out]; exact hlt
     have mx := OK2.out _ (List.getElem_mem hkR)
     have d1 : decide ((k : Int) < (n2 : Int)) = true := by simp; omega
     have z1 : (0 : Int) ≤ (k : Int) := by omega
     have z2 : (k : Int) < (n2 : Int) := by omega
     obtain ⟨x, hx⟩ : ∃ x, r.tos[k] = x := ⟨_, rfl⟩
     rw [hx] at p4 mx
     have HX := Lib.hid hx; clear hx
     obtain ⟨v1, v2, v3, v4, rfl, t1, t2, t3, t4⟩ := p4
     obtain ⟨B1, m1, y1, rfl, a1, a2, q1⟩ := t1
     obtain ⟨B2, m2, y2, rfl, a3, a4, q2⟩ := t2
     obtain ⟨B3, m3, y3, rfl, a5, a6, q3⟩ := t3
     obtain ⟨B4, m4, y4, rfl, a7, a8, q4⟩ := t4
     have t2 : RvT wr wr.heap.size (.slice B2 m2 y2) x.methods := ⟨B2, m2, y2, rfl, a3, a4, q2⟩
     have t3 : RvT wr wr.heap.size (.slice B3 m3 y3) x.paths := ⟨B3, m3, y3, rfl, a5, a6, q3⟩
     have t4 : RvT wr wr.heap.size (.slice B4 m4 y4) x.hosts := ⟨B4, m4, y4, rfl, a7, a8, q4⟩
     have Q1 := Lib.hid q1.1; clear q1 q2 q3 q4 a1 a2 a3 a4 a5 a6 a7 a8
     obtain ⟨p, hp⟩ : ∃ p, [x.methods, x.paths, x.hosts].any tsLong = p := ⟨_, rfl⟩
     have HT : Hid (∀ u, Below wr.heap.size wr u → Calls Tryz.prog 62 #[.slice (some ⟨u.heap.size, 0, none⟩) 3 3] (u.alloc (.cells #[.slice B2 m2 y2, .slice B3 m3 y3, .slice B4 m4 y4] 43)) fun e w' => e = .returned (.bool p) ∧ w' = u.alloc (.cells #[.slice B2 m2 y2, .slice B3 m3 y3, .slice B4 m4 y4] 43)) := Lib.hid fun u hu => by
      rw [← hp]
      refine terms12_any (some ⟨u.heap.size, 0, none⟩) 3 3 [x.methods, x.paths, x.hosts] _ (rows_new (w := u) (vs := [.slice B2 m2 y2, .slice B3 m3 y3, .slice B4 m4 y4]) (R := [x.methods, x.paths, x.hosts]) _ rfl (fun j hj => ?_)) (by omega) ?_
      ·rcases j with _ | _ | _ | j
       ·exact (t2.mono hu.size hu)
       ·exact (t3.mono hu.size hu)
       ·exact (t4.mono hu.size hu)
       ·exact absurd hj (by simp)
      ·intro M hM
       simp only [List.mem_cons, List.mem_nil_iff, or_false] at hM
       rcases hM with rfl | rfl | rfl
       ·exact mx.1
       ·exact mx.2.1
       ·exact mx.2.2.1
     have g0 : wr.cell? ⟨b, off + k * 4, none⟩ = some (.slice B1 m1 y1) := p5 0 _ rfl
     have g1 : wr.cell? ⟨b, off + k * 4 + 1, none⟩ = some (.slice B2 m2 y2) := p5 1 _ rfl
     have g2 : wr.cell? ⟨b, off + k * 4 + 2, none⟩ = some (.slice B3 m3 y3) := p5 2 _ rfl
     have g3 : wr.cell? ⟨b, off + k * 4 + 3, none⟩ = some (.slice B4 m4 y4) := p5 3 _ rfl
     have HPx := Lib.hid hp
     clear p5 p2 p3 mx hp
     cases p
     ·by_cases hl : 20 < m1
      ·have d2 : decide ((20 : Int) < (m1 : Int)) = true := by simp; omega
       have hr : v = true := by
        rw [← HV.out]
        refine ru_long2 (any_long hkR ?_)
        rw [HX.out]
        unfold tgLong
        rw [Q1.out, decide_eq_true hl, Bool.or_true]
       subst hr
       go_upto_region 11 with fail
       refine wp_region_order (CsS [(⟨w.heap.size, 1, none⟩, .slice (some ⟨b, off, none⟩) n2 c2), (⟨b, off + k * 4, none⟩, .slice B1 m1 y1), (⟨b, off + k * 4 + 1, none⟩, .slice B2 m2 y2), (⟨b, off + k * 4 + 2, none⟩, .slice B3 m3 y3), (⟨b, off + k * 4 + 3, none⟩, .slice B4 m4 y4)]) 99 [(0,0), (1,0), (2,0), (3,0), (4,0), (5,0), (6,0), (7,0), (8,0), (9,0), (10,0), (11,0), (12,0), (13,0), (14,0), (15,0), (16,0), (17,0), (18,1), (19,1), (20,0), (21,0), (22,0), (23,0), (24,0), (25,0), (26,0), (27,0), (28,0), (29,0)] (by kernel_rfl) (by kernel_rfl) ?_
       simp only [pick, List.filterMap_cons, List.filterMap_nil, List.getElem?_cons_zero, List.getElem?_cons_succ, Option.map_some]
       have hS : CsS [(⟨w.heap.size, 1, none⟩, .slice (some ⟨b, off, none⟩) n2 c2), (⟨b, off + k * 4, none⟩, .slice B1 m1 y1), (⟨b, off + k * 4 + 1, none⟩, .slice B2 m2 y2), (⟨b, off + k * 4 + 2, none⟩, .slice B3 m3 y3), (⟨b, off + k * 4 + 3, none⟩, .slice B4 m4 y4)] wr.drew := ⟨e1, g0, g1, g2, g3, trivial⟩
       have F1 : Below wr.heap.size wr wr.drew := (Below.refl _ wr).drew
       clear e1 g0 g1 g2 g3
       generalize wr.drew = wd at *
       iterate 18 (refine wpF_take (v := ?_) hS rfl ?_ (fun _ _ _ h => h) ?_; rotate_left; (· intro w' hS'; obtain ⟨e1, g0, g1, g2, g3, _⟩ := hS'; go_simp <;> rfl); go_simp)
       refine wpF_only rfl (fun K hK => ?_)
       go_wp2_with fail
       have hR := HT.out wd F1
       have fa : Below wd.heap.size wd (wd.alloc (.cells #[.slice B2 m2 y2, .slice B3 m3 y3, .slice B4 m4 y4] 43)) := (Below.refl _ wd).alloc (Nat.le_refl _) _
       replace hS := hS.below fa
       replace F1 := F1.trans (fa.mono F1.size)
       clear fa
       go_wp2_with fail
       first | refine ⟨fun _ => hS, ?_⟩ | refine ⟨hS, ?_⟩ | skip
       go_simp
       refine wpF_only rfl (fun K hK => ?_)
       go_wp2_with fail
       refine hR.mono ?_
       rintro e w5 ⟨rfl, rfl⟩
       have hS2 := hS
       obtain ⟨e1, g0, g1, g2, g3, _⟩ := hS2
       clear hR
       go_wp2_with fail
       first | refine ⟨fun _ => hS, ?_⟩ | refine ⟨hS, ?_⟩ | skip
       go_simp
       iterate 10 (refine wpF_take (v := ?_) hS rfl ?_ (fun _ _ _ h => h) ?_; rotate_left; (· intro w' hS'; obtain ⟨e1, g0, g1, g2, g3, _⟩ := hS'; go_simp <;> rfl); go_simp)
       refine wpF_nil ?_
       go_wp2_with fail
       go_ret
       exact ⟨rfl, f1.trans (F1.mono f1.size)⟩
      ·have d2 : decide ((20 : Int) < (m1 : Int)) = false := by simp; omega
       have HF : Hid (tgLong (r.tos[k]) = false) := Lib.hid (by rw [HX.out]; unfold tgLong; rw [HPx.out, Q1.out, decide_eq_false hl]; rfl)
       go_upto_region 11 with fail
       refine wp_region_order (CsS [(⟨w.heap.size, 1, none⟩, .slice (some ⟨b, off, none⟩) n2 c2), (⟨b, off + k * 4, none⟩, .slice B1 m1 y1), (⟨b, off + k * 4 + 1, none⟩, .slice B2 m2 y2), (⟨b, off + k * 4 + 2, none⟩, .slice B3 m3 y3), (⟨b, off + k * 4 + 3, none⟩, .slice B4 m4 y4)]) 99 [(0,0), (1,0), (2,0), (3,0), (4,0), (5,0), (6,0), (7,0), (8,0), (9,0), (10,0), (11,0), (12,0), (13,0), (14,0), (15,0), (16,0), (17,0), (18,1), (19,1), (20,0), (21,0), (22,0), (23,0), (24,0), (25,0), (26,0), (27,0), (28,0), (29,0)] (by kernel_rfl) (by kernel_rfl) ?_
       simp only [pick, List.filterMap_cons, List.filterMap_nil, List.getElem?_cons_zero, List.getElem?_cons_succ, Option.map_some]
       have hS : CsS [(⟨w.heap.size, 1, none⟩, .slice (some ⟨b, off, none⟩) n2 c2), (⟨b, off + k * 4, none⟩, .slice B1 m1 y1), (⟨b, off + k * 4 + 1, none⟩, .slice B2 m2 y2), (⟨b, off + k * 4 + 2, none⟩, .slice B3 m3 y3), (⟨b, off + k * 4 + 3, none⟩, .slice B4 m4 y4)] wr.drew := ⟨e1, g0, g1, g2, g3, trivial⟩
       have F1 : Below wr.heap.size wr wr.drew := (Below.refl _ wr).drew
       clear e1 g0 g1 g2 g3
       generalize wr.drew = wd at *
       iterate 18 (refine wpF_take (v := ?_) hS rfl ?_ (fun _ _ _ h => h) ?_; rotate_left; (· intro w' hS'; obtain ⟨e1, g0, g1, g2, g3, _⟩ := hS'; go_simp <;> rfl); go_simp)
       refine wpF_only rfl (fun K hK => ?_)
       go_wp2_with fail
       have hR := HT.out wd F1
       have fa : Below wd.heap.size wd (wd.alloc (.cells #[.slice B2 m2 y2, .slice B3 m3 y3, .slice B4 m4 y4] 43)) := (Below.refl _ wd).alloc (Nat.le_refl _) _
       replace hS := hS.below fa
       replace F1 := F1.trans (fa.mono F1.size)
       clear fa
       go_wp2_with fail
       first | refine ⟨fun _ => hS, ?_⟩ | refine ⟨hS, ?_⟩ | skip
       go_simp
       refine wpF_only rfl (fun K hK => ?_)
       go_wp2_with fail
       refine hR.mono ?_
       rintro e w5 ⟨rfl, rfl⟩
       have hS2 := hS
       obtain ⟨e1, g0, g1, g2, g3, _⟩ := hS2
       clear hR
       go_wp2_with fail
       first | refine ⟨fun _ => hS, ?_⟩ | refine ⟨hS, ?_⟩ | skip
       go_simp
       iterate 10 (refine wpF_take (v := ?_) hS rfl ?_ (fun _ _ _ h => h) ?_; rotate_left; (· intro w' hS'; obtain ⟨e1, g0, g1, g2, g3, _⟩ := hS'; go_simp <;> rfl); go_simp)
       refine wpF_nil ?_
       go_wp2_with fail
       go_roundw
       case rel =>
        refine ⟨k + 1, by go_num, by omega, f1.trans (F1.mono f1.size), HB.out.below F1, fun i hi hik => ?_⟩
        by_cases e : i = k
        ·subst e; exact HF.out
        ·exact HALL.out i hi (by omega)
       case measure => simp [intOf]; omega
     ·have hr : v = true := by
       rw [← HV.out]
       refine ru_long2 (any_long hkR ?_)
       rw [HX.out]
       unfold tgLong
       rw [HPx.out, Bool.true_or]
      subst hr
      go_upto_region 11 with fail
      refine wp_region_order (CsS [(⟨w.heap.size, 1, none⟩, .slice (some ⟨b, off, none⟩) n2 c2), (⟨b, off + k * 4, none⟩, .slice B1 m1 y1), (⟨b, off + k * 4 + 1, none⟩, .slice B2 m2 y2), (⟨b, off + k * 4 + 2, none⟩, .slice B3 m3 y3), (⟨b, off + k * 4 + 3, none⟩, .slice B4 m4 y4)]) 99 [(0,0), (1,0), (2,0), (3,0), (4,0), (5,0), (6,0), (7,0), (8,0), (9,0), (10,0), (11,0), (12,0), (13,0), (14,0), (15,0), (16,0), (17,0), (18,1), (19,1), (20,0), (21,0), (22,0), (23,0), (24,0), (25,0), (26,0), (27,0), (28,0), (29,0)] (by kernel_rfl) (by kernel_rfl) ?_
      simp only [pick, List.filterMap_cons, List.filterMap_nil, List.getElem?_cons_zero, List.getElem?_cons_succ, Option.map_some]
      have hS : CsS [(⟨w.heap.size, 1, none⟩, .slice (some ⟨b, off, none⟩) n2 c2), (⟨b, off + k * 4, none⟩, .slice B1 m1 y1), (⟨b, off + k * 4 + 1, none⟩, .slice B2 m2 y2), (⟨b, off + k * 4 + 2, none⟩, .slice B3 m3 y3), (⟨b, off + k * 4 + 3, none⟩, .slice B4 m4 y4)] wr.drew := ⟨e1, g0, g1, g2, g3, trivial⟩
      have F1 : Below wr.heap.size wr wr.drew := (Below.refl _ wr).drew
      clear e1 g0 g1 g2 g3
      generalize wr.drew = wd at *
      iterate 18 (refine wpF_take (v := ?_) hS rfl ?_ (fun _ _ _ h => h) ?_; rotate_left; (· intro w' hS'; obtain ⟨e1, g0, g1, g2, g3, _⟩ := hS'; go_simp <;> rfl); go_simp)
      refine wpF_only rfl (fun K hK => ?_)
      go_wp2_with fail
      have hR := HT.out wd F1
      have fa : Below wd.heap.size wd (wd.alloc (.cells #[.slice B2 m2 y2, .slice B3 m3 y3, .slice B4 m4 y4] 43)) := (Below.refl _ wd).alloc (Nat.le_refl _) _
      replace hS := hS.below fa
      replace F1 := F1.trans (fa.mono F1.size)
      clear fa
      go_wp2_with fail
      first | refine ⟨fun _ => hS, ?_⟩ | refine ⟨hS, ?_⟩ | skip
      go_simp
      refine wpF_only rfl (fun K hK => ?_)
      go_wp2_with fail
      refine hR.mono ?_
      rintro e w5 ⟨rfl, rfl⟩
      have hS2 := hS
      obtain ⟨e1, g0, g1, g2, g3, _⟩ := hS2
      clear hR
      go_wp2_with fail
      first | refine ⟨fun _ => hS, ?_⟩ | refine ⟨hS, ?_⟩ | skip
      go_simp
      (refine wpF_take (v := ?_) hS rfl ?_ (fun _ _ _ h => h) ?_; rotate_left; (· intro w' hS'; obtain ⟨e1, g0, g1, g2, g3, _⟩ := hS'; go_simp <;> rfl); go_simp)
      refine wpF_skip hS rfl (fun _ _ _ h => h) ?_
      go_simp
      refine wpF_skip hS rfl (fun _ _ _ h => h) ?_
      go_simp
      refine wpF_skip hS rfl (fun _ _ _ h => h) ?_
      go_simp
      refine wpF_skip hS rfl (fun _ _ _ h => h) ?_
      go_simp
      refine wpF_skip hS rfl (fun _ _ _ h => h) ?_
      go_simp
      refine wpF_skip hS rfl (fun _ _ _ h => h) ?_
      go_simp
      refine wpF_skip hS rfl (fun _ _ _ h => h) ?_
      go_simp
      refine wpF_skip hS rfl (fun _ _ _ h => h) ?_
      go_simp
      (refine wpF_take (v := ?_) hS rfl ?_ (fun _ _ _ h => h) ?_; rotate_left; (· intro w' hS'; obtain ⟨e1, g0, g1, g2, g3, _⟩ := hS'; go_simp <;> rfl); go_simp)
      refine wpF_nil ?_
      go_wp2_with fail
      go_ret
      exact ⟨rfl, f1.trans (F1.mono f1.size)⟩
    ·have d1 : decide ((k : Int) < (n2 : Int)) = false := by simp; omega
     obtain rfl : n2 = k := by omega
     have HA2 := Lib.hid (any_short (L := r.tos) (f := tgLong) fun j hj => HALL.out j hj (by rw [L2.out] at hj; exact hj))
     go_wp2_with fail
     clear e0 e1 e2 HALL d1
     go_loopw [5] (fun v5 wr => ∃ k : Nat, v5 = .int .i64 k ∧ k ≤ n3 ∧ Below w.heap.size w wr ∧ CsS [(⟨w.heap.size, 0, none⟩, .slice A1 n1 c1), (⟨w.heap.size, 1, none⟩, .slice A2 n2 c2), (⟨w.heap.size, 2, none⟩, .slice A3 n3 c3)] wr ∧ ∀ i (hi : i < r.whens.length), i < k → wnLong r.whens[i] = false) (fun v5 _ => n3 - (intOf v5).toNat)
     case atStart => exact ⟨0, rfl, Nat.zero_le _, f1, HB.out, fun i _ hi => absurd hi (by omega)⟩
     case round =>
      clear HB f1
      obtain ⟨k, rfl, hk, f1, hB, hall⟩ := hrel
      have HALL := Lib.hid hall; have HB := Lib.hid hB; clear hall hB
      obtain ⟨e0, e1, e2, _⟩ := HB.out
      by_cases hlt : k < n3
      ·obtain ⟨b, off, cs, rfl, p2, p3, p4, p5⟩ := (H3.out.mono f1.size f1 (fun _ _ h => WnP.mono h f1.size f1)).at_ hlt
       have hkR : k < r.whens.length := by rw [L3.out]; exact hlt
       have mx := OK3.out _ (List.getElem_mem hkR)
       have d1 : decide ((k : Int) < (n3 : Int)) = true := by simp; omega
       have z1 : (0 : Int) ≤ (k : Int) := by omega
       have z2 : (k : Int) < (n3 : Int) := by omega
       obtain ⟨x, hx⟩ : ∃ x, r.whens[k] = x := ⟨_, rfl⟩
       rw [hx] at p4 mx
       have HX := Lib.hid hx; clear hx
       obtain ⟨v1, rfl, t1⟩ := p4
       obtain ⟨B1, m1, y1, rfl, a1, a2, q1⟩ := t1
       have t1 : RvT wr wr.heap.size (.slice B1 m1 y1) x.terms := ⟨B1, m1, y1, rfl, a1, a2, q1⟩
       have hz := strB_size x.head
       have hy2 : x.head.length ≤ 9223372036854775807 := mx.2
       obtain ⟨s, hs⟩ : ∃ s, strB x.head = s := ⟨_, rfl⟩
       rw [hs] at p5 hz
       obtain ⟨y, hy⟩ : ∃ y, x.head.length = y := ⟨_, rfl⟩
       rw [hy] at hz hy2
       have Q1 := Lib.hid hy; clear hy hs q1 a1 a2
       obtain ⟨p, hp⟩ : ∃ p, [x.terms].any tsLong = p := ⟨_, rfl⟩
       have HT : Hid (∀ u, Below wr.heap.size wr u → Calls Tryz.prog 62 #[.slice (some ⟨u.heap.size, 0, none⟩) 1 1] (u.alloc (.cells #[.slice B1 m1 y1] 43)) fun e w' => e = .returned (.bool p) ∧ w' = u.alloc (.cells #[.slice B1 m1 y1] 43)) := Lib.hid fun u hu => by
        rw [← hp]
        refine terms12_any (some ⟨u.heap.size, 0, none⟩) 1 1 [x.terms] _ (rows_new (w := u) (vs := [.slice B1 m1 y1]) (R := [x.terms]) _ rfl (fun j hj => ?_)) (by omega) ?_
        ·rcases j with _ | j
         ·exact (t1.mono hu.size hu)
         ·exact absurd hj (by simp)
        ·intro M hM
         simp only [List.mem_cons, List.mem_nil_iff, or_false] at hM
         rcases hM with rfl
         ·exact mx.1
       have g0 : wr.cell? ⟨b, off + k * 2, none⟩ = some (.string s) := p5 0 _ rfl
       have g1 : wr.cell? ⟨b, off + k * 2 + 1, none⟩ = some (.slice B1 m1 y1) := p5 1 _ rfl
       have HPx := Lib.hid hp
       clear p5 p2 p3 mx hp
       cases p
       ·by_cases hl : 300 < y
        ·have d2 : decide ((300 : Int) < (y : Int)) = true := by simp; omega
         have hr : v = true := by
          rw [← HV.out]
          refine ru_long3 (any_long hkR ?_)
          rw [HX.out]
          unfold wnLong
          rw [Q1.out, decide_eq_true hl, Bool.or_true]
         subst hr
         have fa : Below wr.heap.size wr (wr.alloc (.cells #[.slice B1 m1 y1] 43)) := (Below.refl _ wr).alloc (Nat.le_refl _) _
         have hS : CsS [(⟨w.heap.size, 2, none⟩, .slice (some ⟨b, off, none⟩) n3 c3), (⟨b, off + k * 2, none⟩, .string s), (⟨b, off + k * 2 + 1, none⟩, .slice B1 m1 y1)] wr := ⟨e2, g0, g1, trivial⟩
         have hS5 := hS.below fa
         go_wp2_with fail
         refine (HT.out wr (Below.refl _ _)).mono ?_
         rintro e w5 ⟨rfl, rfl⟩
         clear e2 g0 g1 hS
         obtain ⟨e2, g0, g1, _⟩ := hS5
         have F1 := fa
         clear fa
         go_wp2_with fail
         go_ret
         exact ⟨rfl, f1.trans (F1.mono f1.size)⟩
        ·have d2 : decide ((300 : Int) < (y : Int)) = false := by simp; omega
         have HF : Hid (wnLong (r.whens[k]) = false) := Lib.hid (by rw [HX.out]; unfold wnLong; rw [HPx.out, Q1.out, decide_eq_false hl]; rfl)
         have fa : Below wr.heap.size wr (wr.alloc (.cells #[.slice B1 m1 y1] 43)) := (Below.refl _ wr).alloc (Nat.le_refl _) _
         have hS : CsS [(⟨w.heap.size, 2, none⟩, .slice (some ⟨b, off, none⟩) n3 c3), (⟨b, off + k * 2, none⟩, .string s), (⟨b, off + k * 2 + 1, none⟩, .slice B1 m1 y1)] wr := ⟨e2, g0, g1, trivial⟩
         have hS5 := hS.below fa
         go_wp2_with fail
         refine (HT.out wr (Below.refl _ _)).mono ?_
         rintro e w5 ⟨rfl, rfl⟩
         clear e2 g0 g1 hS
         obtain ⟨e2, g0, g1, _⟩ := hS5
         have F1 := fa
         clear fa
         go_wp2_with fail
         go_roundw
         case rel =>
          refine ⟨k + 1, by go_num, by omega, f1.trans (F1.mono f1.size), HB.out.below F1, fun i hi hik => ?_⟩
          by_cases e : i = k
          ·subst e; exact HF.out
          ·exact HALL.out i hi (by omega)
         case measure => simp [intOf]; omega
       ·have hr : v = true := by
         rw [← HV.out]
         refine ru_long3 (any_long hkR ?_)
         rw [HX.out]
         unfold wnLong
         rw [HPx.out, Bool.true_or]
        subst hr
        have fa : Below wr.heap.size wr (wr.alloc (.cells #[.slice B1 m1 y1] 43)) := (Below.refl _ wr).alloc (Nat.le_refl _) _
        have hS : CsS [(⟨w.heap.size, 2, none⟩, .slice (some ⟨b, off, none⟩) n3 c3), (⟨b, off + k * 2, none⟩, .string s), (⟨b, off + k * 2 + 1, none⟩, .slice B1 m1 y1)] wr := ⟨e2, g0, g1, trivial⟩
        have hS5 := hS.below fa
        go_wp2_with fail
        refine (HT.out wr (Below.refl _ _)).mono ?_
        rintro e w5 ⟨rfl, rfl⟩
        clear e2 g0 g1 hS
        obtain ⟨e2, g0, g1, _⟩ := hS5
        have F1 := fa
        clear fa
        go_wp2_with fail
        go_ret
        exact ⟨rfl, f1.trans (F1.mono f1.size)⟩
      ·have d1 : decide ((k : Int) < (n3 : Int)) = false := by simp; omega
       obtain rfl : n3 = k := by omega
       have HA3 := any_short (L := r.whens) (f := wnLong) fun j hj => HALL.out j hj (by rw [L3.out] at hj; exact hj)
       have hr : v = false := by
        rw [← HV.out]
        unfold ruLong
        rw [HA1.out, HA2.out, HA3, L1.out, L2.out, L3.out, decide_eq_false M1.out, decide_eq_false M2.out, decide_eq_false M3.out]
        rfl
       subst hr
       go_wp2_with fail
       go_ret
       exact ⟨rfl, f1⟩
end Go.Proofs.YtpcdmbajfmnoiaaGreatDoor
