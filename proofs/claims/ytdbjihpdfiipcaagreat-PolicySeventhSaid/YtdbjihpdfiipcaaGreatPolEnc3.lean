/- policy.Encode. Conditions: sizes. -/
import Derived.Test.YtdbjihpdfiipcaaGreatPolEnc2
namespace Go.Proofs.YtdbjihpdfiipcaaGreat
open Go.RowKit Go.Sort
set_option linter.unusedVariables false
set_option linter.unusedSimpArgs false
theorem rdU_pair (u : World) (t : Nat) (x y : Nat) : RdU (u.alloc (.cells #[.int .u64 (x : Int), .int .u64 (y : Int)] t)) (u.alloc (.cells #[.int .u64 (x : Int), .int .u64 (y : Int)] t)).heap.size (some ⟨u.heap.size, 0, none⟩) 2 [x, y] := by
  refine ⟨rfl, fun _ => ⟨u.heap.size, 0, rfl, by simp, fun j hj => ?_⟩⟩
  rw [(Blk.newAt (w := u) rfl t #[.int .u64 (x : Int), .int .u64 (y : Int)]).cell]
  rcases j with _ | _ | j
  · rfl
  · rfl
  · exact absurd hj (by simp)
theorem poB_le {p : Po} (h : poMay p = true) (hok : okPo p) : (poB p).length ≤ 2000000 := by
  have hn : p.ns.length ≤ 1000000 := hok.2.1
  have hr : p.rules.length ≤ 6 ∧ p.rules.all ruMay = true := by
    unfold poMay at h
    simp only [Bool.and_eq_true, decide_eq_true_eq] at h
    exact h.2.2.2.2.2
  have h1 := leb_le10 (x := p.id) hok.1
  have h2 := leb_le10 (x := p.service) hok.2.2.1
  have h3 := leb_le10 (n64_lt p.deny)
  have h4 := leb_le10 (x := p.ns.length) (by omega)
  have h5 : (rowB ruB p.rules).length ≤ 10 + 6 * 10000 := row_bound hr.1 (by omega) fun x hx => ruB_le (List.all_eq_true.1 hr.2 x hx)
  unfold poB txB lebs
  simp only [List.length_append, List.flatMap_cons, List.flatMap_nil, List.length_nil]
  omega
set_option maxRecDepth 100000 in
set_option maxHeartbeats 2000000 in
theorem encode_no (p : Po) (cs : List Value) (w : World) (h : PoP w w.heap.size cs p) (hok : okPo p) (hm : poMay p = false) :
    Calls Tryz.prog 23 #[.agg cs.toArray] w fun e w' => e = .returned (.tuple #[.slice none 0 0, .int .i64 1]) ∧ Below w.heap.size w w' := by
  obtain ⟨v, rfl, A, n, c, rfl, hnc, hcm, h1⟩ := h
  obtain ⟨wb, hwb⟩ : ∃ wb, w.alloc (.cells #[.int .u64 (p.id : Int), .string (strB p.ns), .int .u64 (p.service : Int), .int .i64 p.deny, .slice A n c] 38) = wb := ⟨_, rfl⟩
  have fa : Below w.heap.size w wb := by rw [← hwb]; exact (Below.refl _ _).alloc (Nat.le_refl _) _
  have hM := may12_any p [.int .u64 (p.id : Int), .string (strB p.ns), .int .u64 (p.service : Int), .int .i64 p.deny, .slice A n c] wb ⟨_, rfl, A, n, c, rfl, hnc, hcm, h1.mono fa.size fa fun _ _ h => RuP.mono h fa.size fa⟩ hok
  have kb : Blk wb w.heap.size 38 [.int .u64 (p.id : Int), .string (strB p.ns), .int .u64 (p.service : Int), .int .i64 p.deny, .slice A n c] := by rw [← hwb]; exact Blk.newAt rfl _ #[.int .u64 (p.id : Int), .string (strB p.ns), .int .u64 (p.service : Int), .int .i64 p.deny, .slice A n c]
  have e0 := kb.cell 0
  have e1 := kb.cell 1
  have e2 := kb.cell 2
  have e3 := kb.cell 3
  have e4 := kb.cell 4
  rw [hm] at hM
  show Calls Tryz.prog 23 #[.agg #[.int .u64 (p.id : Int), .string (strB p.ns), .int .u64 (p.service : Int), .int .i64 p.deny, .slice A n c]] w _
  generalize strB p.ns = sn at *
  clear h1 hok hm
  go_enter Tryz.func23, Tryz.ntmps23
  go_wp2_with fail
  refine hM.mono ?_
  rintro e w2 ⟨rfl, f2⟩
  go_wp2_with fail
  go_ret2
  exact ⟨rfl, fa.trans (f2.mono fa.size)⟩
set_option maxRecDepth 100000 in
set_option maxHeartbeats 2000000 in
theorem encode_yes (p : Po) (cs : List Value) (w : World) (h : PoP w w.heap.size cs p) (hok : okPo p) (hm : poMay p = true) :
    Calls Tryz.prog 23 #[.agg cs.toArray] w fun e w' => ∃ A c, e = .returned (.tuple #[.slice A (poB p).length c, .int .i64 0]) ∧ OwnB w' w.heap.size 5 (.slice A (poB p).length c) (poB p) ∧ Below w.heap.size w w' := by
  obtain ⟨v, rfl, A, n, c, rfl, hnc, hcm, h1⟩ := h
  have hple := poB_le hm hok
  have hns : p.ns.length ≤ 1000000 := hok.2.1
  have hpl : (poB p).length = (leb p.id).length + ((txB p.ns).length + ((lebs [p.service, n64 p.deny]).length + (rowB ruB p.rules).length)) := by unfold poB; simp only [List.length_append]
  have hpe : poB p = leb p.id ++ (txB p.ns ++ (lebs [p.service, n64 p.deny] ++ rowB ruB p.rules)) := rfl
  have hid : p.id < 18446744073709551616 := hok.1
  have hsv : p.service < 18446744073709551616 := hok.2.2.1
  have hn : n ≤ 1000000 := by rw [← h1.1]; exact hok.2.2.2.2.1
  obtain ⟨wb, hwb⟩ : ∃ wb, w.alloc (.cells #[.int .u64 (p.id : Int), .string (strB p.ns), .int .u64 (p.service : Int), .int .i64 p.deny, .slice A n c] 38) = wb := ⟨_, rfl⟩
  have fa : Below w.heap.size w wb := by rw [← hwb]; exact (Below.refl _ _).alloc (Nat.le_refl _) _
  have hM := may12_any p [.int .u64 (p.id : Int), .string (strB p.ns), .int .u64 (p.service : Int), .int .i64 p.deny, .slice A n c] wb ⟨_, rfl, A, n, c, rfl, hnc, hcm, h1.mono fa.size fa fun _ _ h => RuP.mono h fa.size fa⟩ hok
  have kb : Blk wb w.heap.size 38 [.int .u64 (p.id : Int), .string (strB p.ns), .int .u64 (p.service : Int), .int .i64 p.deny, .slice A n c] := by rw [← hwb]; exact Blk.newAt rfl _ #[.int .u64 (p.id : Int), .string (strB p.ns), .int .u64 (p.service : Int), .int .i64 p.deny, .slice A n c]
  have hbl : w.heap.size < wb.heap.size := kb.lt
  have e0 := kb.cell 0
  have e1 := kb.cell 1
  have e2 := kb.cell 2
  have e3 := kb.cell 3
  have e4 := kb.cell 4
  rw [hm] at hM
  have hU := fun (Z : Nat → Prop) (u : World) (q : Nat) (l : List UInt8) (hz : WrZ Z u q l) hl => wUint_z (w := u) p.id hid hz hl
  have hT := fun (Z : Nat → Prop) (u : World) (q : Nat) (l : List UInt8) (hz : WrZ Z u q l) hl => wText_z (w := u) p.ns hz hl
  have hD := n64_eq p.deny
  have HD := Lib.hid hD
  have HR := Lib.hid h1; have HOK := Lib.hid hok.2.2.2.2.2
  have HPE := Lib.hid hpe; have HPL := Lib.hid hpl; have HPLE := Lib.hid hple; have HNS := Lib.hid hns
  have HU := Lib.hid hU; have HT := Lib.hid hT
  show Calls Tryz.prog 23 #[.agg #[.int .u64 (p.id : Int), .string (strB p.ns), .int .u64 (p.service : Int), .int .i64 p.deny, .slice A n c]] w _
  generalize hsn : strB p.ns = sn at *
  clear h1 hok hm hpe hpl hple hU hT hns hD hsn
  go_enter Tryz.func23, Tryz.ntmps23
  go_wp2_with fail
  refine hM.mono ?_
  rintro e w2 ⟨rfl, f2⟩
  have e0 := (f2.cell (World.block_lt_of_cell? wb _ e0)).trans e0
  have kb2 := kb.below f2 hbl
  have hb2 := kb2.lt
  go_wp2_with fail
  refine (newWriter_z w2).mono ?_
  rintro e w3 ⟨rfl, z3, f3⟩
  have kb3 := kb2.below f3 hb2
  have ht : (txB p.ns).length = (leb p.ns.length).length + p.ns.length := by unfold txB; rw [List.length_append]
  have HTX := Lib.hid ht; clear ht
  have hU := HU.out _ w3 _ _ z3 (by simp)
  clear e0 e1 e2 e3 e4
  have e0 := kb3.cell 0
  go_wp2_with fail
  refine hU.mono ?_
  rintro e w4 ⟨rfl, z4, f4⟩
  have g4 := f4.below (B := w2.heap.size) f3.size fun _ h => h
  have kb4 := kb3.below g4 hb2
  have hT := HT.out _ w4 _ _ z4 (by have := HPL.out; have := HPLE.out; have := HTX.out; rw [List.nil_append]; omega)
  clear e0 hU
  have e1 := kb4.cell 1
  go_wp2_with fail
  refine hT.mono ?_
  rintro e w5 ⟨rfl, z5, f5⟩
  have g5 := f5.below (B := w2.heap.size) (by have := f3.size; have := f4.size; omega) fun _ h => h
  have kb5 := kb4.below g5 hb2
  clear e1 hT
  have e2 := kb5.cell 2
  have e3 := kb5.cell 3
  obtain ⟨wc, hwc⟩ : ∃ wc, w5.alloc (.cells #[.int .u64 (p.service : Int), .int .u64 ((n64 p.deny : Nat) : Int)] 35) = wc := ⟨_, rfl⟩
  have fc : Below w5.heap.size w5 wc := by rw [← hwc]; exact (Below.refl _ _).alloc (Nat.le_refl _) _
  have hs5 : w2.heap.size ≤ w5.heap.size := by have := f3.size; have := f4.size; have := g5.size; omega
  have hcs : wc.heap.size = w5.heap.size + 1 := by rw [← hwc]; simp
  have zc := z5.less fc
  have hRU : RdU wc wc.heap.size (some ⟨w5.heap.size, 0, none⟩) 2 [p.service, n64 p.deny] := by rw [← hwc]; exact rdU_pair w5 _ _ _
  have hP := wPut_z (w := wc) (some ⟨w5.heap.size, 0, none⟩) 2 2 [p.service, n64 p.deny] zc hRU (by
    rintro k ⟨x, hx, rfl⟩ hz
    injection hx with hx
    subst hx
    have := hz.2
    simp only at this
    omega) (by
    intro x hx
    simp only [List.mem_cons, List.mem_nil_iff, or_false] at hx
    rcases hx with rfl | rfl
    · exact hsv
    · exact n64_lt _) (by have := HPL.out; have := HPLE.out; simp only [List.length_append, List.length_nil]; omega)
  have hD : IntKind.u64.wrap p.deny = ((n64 p.deny : Nat) : Int) := by rw [← HD.out]; rfl
  clear hcs hRU
  go_wp2_with fail
  refine hP.mono ?_
  rintro e w6 ⟨rfl, z6, f6⟩
  have z6' := z6.kept z5.up (by have := f6.size; have := fc.size; omega)
  have f56 : Off (fun k => w2.heap.size ≤ k) w5 w6 := ((Off.of_all fc).mono fun _ _ h => h.elim).tr f6.ofLess
  have g6 := f56.below (B := w2.heap.size) hs5 fun _ h => h
  have kb6 := kb5.below g6 hb2
  have gall := ((f3.trans g4).trans g5).trans g6
  have gb : Below w.heap.size w w6 := (fa.trans (f2.mono fa.size)).trans (gall.mono (by omega))
  have hR6 := HR.out.mono (Nat.le_refl _) gb fun _ _ h => RuP.mono h (Nat.le_refl _) gb
  clear e2 e3 hP
  have e4 := kb6.cell 4
  have hPR := putRules_any (w := w6) (B := w.heap.size) (fun k (hk : w2.heap.size ≤ k) => by omega) gb.size A n c p.rules z6' hR6 HOK.out hn (by have := HPL.out; have := HPLE.out; simp only [List.length_append, List.length_nil]; omega)
  go_wp2_with fail
  refine hPR.mono ?_
  rintro e w7 ⟨rfl, z7, f7⟩
  have z8 := z7.eq (l' := poB p) (by rw [HPE.out]; simp only [List.append_assoc, List.nil_append])
  have hB := bytes_z z8 (by have := HPLE.out; omega)
  have g7 := f7.below (B := w.heap.size) gb.size fun k (hk : w2.heap.size ≤ k) => by omega
  have gz := gb.trans g7
  clear e4 hPR
  go_wp2_with fail
  refine hB.mono ?_
  rintro e w9 ⟨A', c', rfl, ow, f9⟩
  go_wp2_with fail
  go_ret2
  exact ⟨A', c', rfl, ow.base_le gz.size, gz.trans (f9.mono gz.size)⟩
end Go.Proofs.YtdbjihpdfiipcaaGreat
