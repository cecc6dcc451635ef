/- The document's lines as text: gatepostref15.first, from, to, when. Conditions: sizes. Printed by gen_rspr.py. The document's text of policies that may be: gatepostref15.Print. Conditions: sizes. Printed by gen_rsprint.py. -/
import Derived.Test.YtpcdmbajfmnoiaaGreatDoorRsDig
import Derived.Test.YtpcdmbajfmnoiaaGreatDoorOrder
import Derived.Test.YtpcdmbajfmnoiaaGreatDoorAddrRfAll
namespace Go.Proofs.YtpcdmbajfmnoiaaGreatDoor
open Go.RowKit Go.Sort
set_option linter.unusedVariables false
set_option linter.unusedSimpArgs false
theorem firstR_eq {p : Po} {b1 b2 b3 : Bool} (h1 : decide (p.deny = 1) = b1) (h2 : p.ns.isEmpty = b2) (h3 : decide (0 < p.service) = b3) :
  lineOf (wordsP p) = [112, 111, 108, 105, 99, 121, 32] ++ Lib.decDigits p.id ++ (if b1 then [32, 100, 101, 110, 121] else [32, 97, 108, 108, 111, 119]) ++ ((if b2 then [] else [32, 110, 115, 32] ++ p.ns) ++ (if b3 then [32, 115, 101, 114, 118, 105, 99, 101, 32] ++ Lib.decDigits p.service else [])) := by
 have h := first_eq h1 h2 h3
 unfold firstS at h
 refine List.append_cancel_right (bs := [10]) ?_
 rw [h]
 simp
set_option maxRecDepth 100000 in
set_option maxHeartbeats 8000000 in
theorem rFirst_any (p : Po) (A : Option Addr) (n c : Nat) (w : World) (k1 : p.id < 18446744073709551616) (k2 : okS p.ns) (k3 : p.service < 18446744073709551616) :
  Calls Tryz.prog 21 #[.agg #[.int .u64 (p.id : Int), .string (strB p.ns), .int .u64 (p.service : Int), .int .i64 p.deny, .slice A n c]] w fun e w' => e = .returned (.string (strB (lineOf (wordsP p)))) ∧ Below w.heap.size w w' := by
 obtain ⟨r, hr⟩ : ∃ r, lineOf (wordsP p) = r := ⟨_, rfl⟩
 rw [hr]
 obtain ⟨id, ns, sv, dn, rules⟩ := p
 simp only at k1 k2 k3 ⊢
 obtain ⟨b1, x1⟩ : ∃ b, decide (dn = 1) = b := ⟨_, rfl⟩
 obtain ⟨b2, x2⟩ : ∃ b, ns.isEmpty = b := ⟨_, rfl⟩
 obtain ⟨b3, x3⟩ : ∃ b, decide (0 < sv) = b := ⟨_, rfl⟩
 have hre := (firstR_eq (p := ⟨id, ns, sv, dn, rules⟩) x1 x2 x3).symm.trans hr
 simp only at hre
 clear hr
 have y1 : (dn == 1) = b1 := by rw [← x1]; rfl
 have y2 : (strB ns).toList.isEmpty = b2 := by rw [strB_toList]; exact x2
 have y3 : decide ((0 : Int) < (sv : Int)) = b3 := by rw [← x3]; exact decide_eq_decide.2 (by omega)
 have y4 : decide (0 < sv) = b3 := x3
 clear x1 x2 x3
 have hf1 := fun w => rDig_any id w k1
 have hf2 := fun w => rDig_any sv w k3
 have hs1 : (strB (Lib.decDigits id)).size ≤ 20 := by rw [strB_size]; exact dec_len20 k1
 have hs2 : (strB (Lib.decDigits sv)).size ≤ 20 := by rw [strB_size]; exact dec_len20 k3
 have hs3 : (strB ns).size ≤ 1000000 := by rw [strB_size]; exact k2
 have HRE := Lib.hid hre; clear hre
 obtain ⟨D, hD⟩ : ∃ D, strB (Lib.decDigits id) = D := ⟨_, rfl⟩
 obtain ⟨E, hE⟩ : ∃ E, strB (Lib.decDigits sv) = E := ⟨_, rfl⟩
 obtain ⟨S, hS⟩ : ∃ S, strB ns = S := ⟨_, rfl⟩
 rw [hD] at hf1 hs1
 rw [hE] at hf2 hs2
 rw [hS] at y2 hs3 ⊢
 have HD := Lib.hid hD; have HE := Lib.hid hE; have HS := Lib.hid hS
 clear hD hE hS
 obtain ⟨wb, hwb⟩ : ∃ wb, w.alloc (.cells #[.int .u64 (id : Int), .string S, .int .u64 (sv : Int), .int .i64 dn, .slice A n c] 39) = wb := ⟨_, rfl⟩
 have f0 : Below w.heap.size w wb := by rw [← hwb]; exact (Below.refl _ _).alloc (Nat.le_refl _) _
 have bl := Blk.newAt (w := w) rfl 39 #[.int .u64 (id : Int), .string S, .int .u64 (sv : Int), .int .i64 dn, .slice A n c]
 rw [hwb] at bl
 have HB := Lib.hid (fun (u : World) (h : Below wb.heap.size wb u) => bl.below h bl.lt)
 have e0 : wb.cell? ⟨w.heap.size, 0, none⟩ = some (.int .u64 (id : Int)) := bl.cell 0
 have fb : Below wb.heap.size wb wb := Below.refl _ _
 clear bl
 go_enter Tryz.func21, Tryz.ntmps21
 cases b1
 ·cases b2
  ·cases b3
   ·go_wp2_with fail
    clear hwb
    refine (hf1 _).mono ?_
    rintro e w2 ⟨rfl, g2⟩
    have f2 := fb.trans (g2.mono fb.size)
    clear e0 g2
    have kk := HB.out _ f2
    have e0 := kk.cell 0
    have e1 := kk.cell 1
    have e2 := kk.cell 2
    have e3 := kk.cell 3
    have e4 := kk.cell 4
    simp only [List.getElem?_toArray, List.getElem?_cons_zero, List.getElem?_cons_succ] at e0 e1 e2 e3 e4
    clear kk
    go_wp2_with fail
    go_ret
    refine ⟨congrArg (fun x => Ending.returned (Value.string x)) ?_, f0.trans (f2.mono f0.size)⟩
    rw [← HRE.out, ← HD.out, ← HS.out]
    apply ByteArray.ext
    simp [strB]
   ·go_wp2_with fail
    clear hwb
    refine (hf1 _).mono ?_
    rintro e w2 ⟨rfl, g2⟩
    have f2 := fb.trans (g2.mono fb.size)
    clear e0 g2
    have kk := HB.out _ f2
    have e0 := kk.cell 0
    have e1 := kk.cell 1
    have e2 := kk.cell 2
    have e3 := kk.cell 3
    have e4 := kk.cell 4
    simp only [List.getElem?_toArray, List.getElem?_cons_zero, List.getElem?_cons_succ] at e0 e1 e2 e3 e4
    clear kk
    go_wp2_with fail
    refine (hf2 _).mono ?_
    rintro e w3 ⟨rfl, g3⟩
    have f3 := f2.trans (g3.mono f2.size)
    clear e0 e1 e2 e3 e4 g3
    have kk := HB.out _ f3
    have e0 := kk.cell 0
    have e1 := kk.cell 1
    have e2 := kk.cell 2
    have e3 := kk.cell 3
    have e4 := kk.cell 4
    simp only [List.getElem?_toArray, List.getElem?_cons_zero, List.getElem?_cons_succ] at e0 e1 e2 e3 e4
    clear kk
    go_wp2_with fail
    go_ret
    refine ⟨congrArg (fun x => Ending.returned (Value.string x)) ?_, f0.trans (f3.mono f0.size)⟩
    rw [← HRE.out, ← HD.out, ← HS.out, ← HE.out]
    apply ByteArray.ext
    simp [strB]
  ·cases b3
   ·go_wp2_with fail
    clear hwb
    refine (hf1 _).mono ?_
    rintro e w2 ⟨rfl, g2⟩
    have f2 := fb.trans (g2.mono fb.size)
    clear e0 g2
    have kk := HB.out _ f2
    have e0 := kk.cell 0
    have e1 := kk.cell 1
    have e2 := kk.cell 2
    have e3 := kk.cell 3
    have e4 := kk.cell 4
    simp only [List.getElem?_toArray, List.getElem?_cons_zero, List.getElem?_cons_succ] at e0 e1 e2 e3 e4
    clear kk
    go_wp2_with fail
    go_ret
    refine ⟨congrArg (fun x => Ending.returned (Value.string x)) ?_, f0.trans (f2.mono f0.size)⟩
    rw [← HRE.out, ← HD.out]
    apply ByteArray.ext
    simp [strB]
   ·go_wp2_with fail
    clear hwb
    refine (hf1 _).mono ?_
    rintro e w2 ⟨rfl, g2⟩
    have f2 := fb.trans (g2.mono fb.size)
    clear e0 g2
    have kk := HB.out _ f2
    have e0 := kk.cell 0
    have e1 := kk.cell 1
    have e2 := kk.cell 2
    have e3 := kk.cell 3
    have e4 := kk.cell 4
    simp only [List.getElem?_toArray, List.getElem?_cons_zero, List.getElem?_cons_succ] at e0 e1 e2 e3 e4
    clear kk
    go_wp2_with fail
    refine (hf2 _).mono ?_
    rintro e w3 ⟨rfl, g3⟩
    have f3 := f2.trans (g3.mono f2.size)
    clear e0 e1 e2 e3 e4 g3
    have kk := HB.out _ f3
    have e0 := kk.cell 0
    have e1 := kk.cell 1
    have e2 := kk.cell 2
    have e3 := kk.cell 3
    have e4 := kk.cell 4
    simp only [List.getElem?_toArray, List.getElem?_cons_zero, List.getElem?_cons_succ] at e0 e1 e2 e3 e4
    clear kk
    go_wp2_with fail
    go_ret
    refine ⟨congrArg (fun x => Ending.returned (Value.string x)) ?_, f0.trans (f3.mono f0.size)⟩
    rw [← HRE.out, ← HD.out, ← HE.out]
    apply ByteArray.ext
    simp [strB]
 ·cases b2
  ·cases b3
   ·go_wp2_with fail
    clear hwb
    refine (hf1 _).mono ?_
    rintro e w2 ⟨rfl, g2⟩
    have f2 := fb.trans (g2.mono fb.size)
    clear e0 g2
    have kk := HB.out _ f2
    have e0 := kk.cell 0
    have e1 := kk.cell 1
    have e2 := kk.cell 2
    have e3 := kk.cell 3
    have e4 := kk.cell 4
    simp only [List.getElem?_toArray, List.getElem?_cons_zero, List.getElem?_cons_succ] at e0 e1 e2 e3 e4
    clear kk
    go_wp2_with fail
    refine (hf1 _).mono ?_
    rintro e w3 ⟨rfl, g3⟩
    have f3 := f2.trans (g3.mono f2.size)
    clear e0 e1 e2 e3 e4 g3
    have kk := HB.out _ f3
    have e0 := kk.cell 0
    have e1 := kk.cell 1
    have e2 := kk.cell 2
    have e3 := kk.cell 3
    have e4 := kk.cell 4
    simp only [List.getElem?_toArray, List.getElem?_cons_zero, List.getElem?_cons_succ] at e0 e1 e2 e3 e4
    clear kk
    go_wp2_with fail
    go_ret
    refine ⟨congrArg (fun x => Ending.returned (Value.string x)) ?_, f0.trans (f3.mono f0.size)⟩
    rw [← HRE.out, ← HD.out, ← HS.out]
    apply ByteArray.ext
    simp [strB]
   ·go_wp2_with fail
    clear hwb
    refine (hf1 _).mono ?_
    rintro e w2 ⟨rfl, g2⟩
    have f2 := fb.trans (g2.mono fb.size)
    clear e0 g2
    have kk := HB.out _ f2
    have e0 := kk.cell 0
    have e1 := kk.cell 1
    have e2 := kk.cell 2
    have e3 := kk.cell 3
    have e4 := kk.cell 4
    simp only [List.getElem?_toArray, List.getElem?_cons_zero, List.getElem?_cons_succ] at e0 e1 e2 e3 e4
    clear kk
    go_wp2_with fail
    refine (hf1 _).mono ?_
    rintro e w3 ⟨rfl, g3⟩
    have f3 := f2.trans (g3.mono f2.size)
    clear e0 e1 e2 e3 e4 g3
    have kk := HB.out _ f3
    have e0 := kk.cell 0
    have e1 := kk.cell 1
    have e2 := kk.cell 2
    have e3 := kk.cell 3
    have e4 := kk.cell 4
    simp only [List.getElem?_toArray, List.getElem?_cons_zero, List.getElem?_cons_succ] at e0 e1 e2 e3 e4
    clear kk
    go_wp2_with fail
    refine (hf2 _).mono ?_
    rintro e w4 ⟨rfl, g4⟩
    have f4 := f3.trans (g4.mono f3.size)
    clear e0 e1 e2 e3 e4 g4
    have kk := HB.out _ f4
    have e0 := kk.cell 0
    have e1 := kk.cell 1
    have e2 := kk.cell 2
    have e3 := kk.cell 3
    have e4 := kk.cell 4
    simp only [List.getElem?_toArray, List.getElem?_cons_zero, List.getElem?_cons_succ] at e0 e1 e2 e3 e4
    clear kk
    go_wp2_with fail
    go_ret
    refine ⟨congrArg (fun x => Ending.returned (Value.string x)) ?_, f0.trans (f4.mono f0.size)⟩
    rw [← HRE.out, ← HD.out, ← HS.out, ← HE.out]
    apply ByteArray.ext
    simp [strB]
  ·cases b3
   ·go_wp2_with fail
    clear hwb
    refine (hf1 _).mono ?_
    rintro e w2 ⟨rfl, g2⟩
    have f2 := fb.trans (g2.mono fb.size)
    clear e0 g2
    have kk := HB.out _ f2
    have e0 := kk.cell 0
    have e1 := kk.cell 1
    have e2 := kk.cell 2
    have e3 := kk.cell 3
    have e4 := kk.cell 4
    simp only [List.getElem?_toArray, List.getElem?_cons_zero, List.getElem?_cons_succ] at e0 e1 e2 e3 e4
    clear kk
    go_wp2_with fail
    refine (hf1 _).mono ?_
    rintro e w3 ⟨rfl, g3⟩
    have f3 := f2.trans (g3.mono f2.size)
    clear e0 e1 e2 e3 e4 g3
    have kk := HB.out _ f3
    have e0 := kk.cell 0
    have e1 := kk.cell 1
    have e2 := kk.cell 2
    have e3 := kk.cell 3
    have e4 := kk.cell 4
    simp only [List.getElem?_toArray, List.getElem?_cons_zero, List.getElem?_cons_succ] at e0 e1 e2 e3 e4
    clear kk
    go_wp2_with fail
    go_ret
    refine ⟨congrArg (fun x => Ending.returned (Value.string x)) ?_, f0.trans (f3.mono f0.size)⟩
    rw [← HRE.out, ← HD.out]
    apply ByteArray.ext
    simp [strB]
   ·go_wp2_with fail
    clear hwb
    refine (hf1 _).mono ?_
    rintro e w2 ⟨rfl, g2⟩
    have f2 := fb.trans (g2.mono fb.size)
    clear e0 g2
    have kk := HB.out _ f2
    have e0 := kk.cell 0
    have e1 := kk.cell 1
    have e2 := kk.cell 2
    have e3 := kk.cell 3
    have e4 := kk.cell 4
    simp only [List.getElem?_toArray, List.getElem?_cons_zero, List.getElem?_cons_succ] at e0 e1 e2 e3 e4
    clear kk
    go_wp2_with fail
    refine (hf1 _).mono ?_
    rintro e w3 ⟨rfl, g3⟩
    have f3 := f2.trans (g3.mono f2.size)
    clear e0 e1 e2 e3 e4 g3
    have kk := HB.out _ f3
    have e0 := kk.cell 0
    have e1 := kk.cell 1
    have e2 := kk.cell 2
    have e3 := kk.cell 3
    have e4 := kk.cell 4
    simp only [List.getElem?_toArray, List.getElem?_cons_zero, List.getElem?_cons_succ] at e0 e1 e2 e3 e4
    clear kk
    go_wp2_with fail
    refine (hf2 _).mono ?_
    rintro e w4 ⟨rfl, g4⟩
    have f4 := f3.trans (g4.mono f3.size)
    clear e0 e1 e2 e3 e4 g4
    have kk := HB.out _ f4
    have e0 := kk.cell 0
    have e1 := kk.cell 1
    have e2 := kk.cell 2
    have e3 := kk.cell 3
    have e4 := kk.cell 4
    simp only [List.getElem?_toArray, List.getElem?_cons_zero, List.getElem?_cons_succ] at e0 e1 e2 e3 e4
    clear kk
    go_wp2_with fail
    go_ret
    refine ⟨congrArg (fun x => Ending.returned (Value.string x)) ?_, f0.trans (f4.mono f0.size)⟩
    rw [← HRE.out, ← HD.out, ← HE.out]
    apply ByteArray.ext
    simp [strB]
theorem listS_snoc (word : List UInt8) (M : List (List UInt8)) (x : List UInt8) : listS word (M ++ [x]) = if M = [] then 32 :: (word ++ 32 :: x) else listS word M ++ [44] ++ x := by
 unfold listS
 rw [if_neg (by simp), join_snoc]
 split
 ·rfl
 ·simp
theorem listS_next0 {word : List UInt8} {M : List (List UInt8)} (h : 0 < M.length) : listS word (M.take 1) = (32 : UInt8) :: (word ++ (32 : UInt8) :: M[0]) := by
 rcases M with _ | ⟨x, M⟩
 ·simp at h
 ·simp [listS, join_one]
theorem listS_next {word : List UInt8} {M : List (List UInt8)} {k : Nat} (h : k < M.length) (hk : 0 < k) : listS word (M.take (k + 1)) = listS word (M.take k) ++ [44] ++ M[k] := by
 rw [← List.take_append_getElem h, listS_snoc, if_neg]
 intro e
 have h2 : (M.take k).length = 0 := by rw [e]; rfl
 rw [List.length_take] at h2
 omega
theorem listS_take {word : List UInt8} {M : List (List UInt8)} (hw : word.length ≤ 1000000) (h : (Lib.join M [44]).length ≤ 1000000) (k : Nat) : (listS word (M.take k)).length ≤ 2000002 := listS_len hw (Nat.le_trans (join_take [44] M k) h)
def fromR (s : Sr) : List UInt8 := wFrom ++ listS wNames (s.names.map tmT) ++ listS wSpaces (s.spaces.map tmT) ++ listS wNets (s.nets.map printNetA)
def toR (s : Tg) : List UInt8 := wTo ++ listS wPorts (s.ports.map Lib.itoa) ++ listS wMethods (s.methods.map tmT) ++ listS wPaths (s.paths.map tmT) ++ listS wHosts (s.hosts.map tmT)
def whenR (s : Wn) : List UInt8 := wWhen ++ listS s.head (s.terms.map tmT)
def cT (L : List Tm) : Prop := L.length ≤ 1000 ∧ (∀ t ∈ L, okS t.2) ∧ (Lib.join (L.map tmT) [44]).length ≤ 1000000
theorem cT_of {L : List Tm} (h : bT L) (hm : okTm L) : cT L := ⟨h.1, h.2.1, by rw [← tmS_map hm]; exact h.2.2⟩
theorem S3.blk {w : World} {g : Nat} {T : TypeId} {v0 v1 v2 : Value} (h : Blk w g T [v0, v1, v2]) : S3 g v0 v1 v2 w := ⟨h.cell 0, h.cell 1, h.cell 2⟩
set_option maxRecDepth 100000 in
set_option maxHeartbeats 8000000 in
theorem rWhen_any (s : Wn) (cs : List Value) (w : World) (h : WnP w w.heap.size cs s) (hh : s.head.length ≤ 1000000) (hok : cT s.terms) :
  Calls Tryz.prog 24 #[.agg cs.toArray] w fun e w' => e = .returned (.string (strB (whenR s))) ∧ Below w.heap.size w w' := by
 obtain ⟨B0, m0, x0, rfl, q0⟩ := vals_wn h
 show Calls Tryz.prog 24 #[.agg #[.string (strB s.head), .slice B0 m0 x0]] w _
 obtain ⟨wb, hwb⟩ : ∃ wb, w.alloc (.cells #[.string (strB s.head), .slice B0 m0 x0] 60) = wb := ⟨_, rfl⟩
 have f0 : Below w.heap.size w wb := by rw [← hwb]; exact (Below.refl _ _).alloc (Nat.le_refl _) _
 have e0 : wb.cell? ⟨w.heap.size, 0, none⟩ = some (.string (strB s.head)) := by rw [← hwb]; exact (Blk.newAt (w := w) rfl 60 #[.string (strB s.head), .slice B0 m0 x0]).cell 0
 have e1 : wb.cell? ⟨w.heap.size, 1, none⟩ = some (.slice B0 m0 x0) := by rw [← hwb]; exact (Blk.newAt (w := w) rfl 60 #[.string (strB s.head), .slice B0 m0 x0]).cell 1
 have hcl := rTerms_any s.head B0 m0 x0 s.terms wb ((q0.below f0).more f0.size) (by rw [← q0.1]; exact hok.1) hok.2.1 hh hok.2.2
 have z0 : (strB (listS s.head (s.terms.map tmT))).size ≤ 2000002 := by rw [strB_size]; exact listS_len hh hok.2.2
 have hr : (⟨#[119, 104, 101, 110]⟩ : ByteArray) ++ strB (listS s.head (s.terms.map tmT)) = strB (whenR s) := by unfold whenR; rw [← strB_app]; rfl
 have HR := Lib.hid hr
 clear hr q0 hok h hh
 generalize strB (listS s.head (s.terms.map tmT)) = X at *
 generalize strB s.head = hd at *
 have q1 : ¬ 9223372036854775807 < 4 + X.size := by omega
 go_enter Tryz.func24, Tryz.ntmps24
 go_wp2_with fail
 refine hcl.mono ?_
 rintro e w2 ⟨rfl, f2⟩
 go_wp2_with fail
 go_ret
 exact ⟨by rw [← HR.out]; rfl, f0.trans (f2.mono f0.size)⟩
set_option maxRecDepth 100000 in
set_option maxHeartbeats 8000000 in
theorem rFrom_any (s : Sr) (cs : List Value) (w : World) (h : SrP w w.heap.size cs s) (hok : cT s.names ∧ cT s.spaces ∧ bN s.nets) :
  Calls Tryz.prog 22 #[.agg cs.toArray] w fun e w' => e = .returned (.string (strB (fromR s))) ∧ Below w.heap.size w w' := by
 obtain ⟨B0, m0, x0, B1, m1, x1, B2, m2, x2, rfl, q0, q1, q2⟩ := vals_sr h
 show Calls Tryz.prog 22 #[.agg #[.slice B0 m0 x0, .slice B1 m1 x1, .slice B2 m2 x2]] w _
 obtain ⟨wb, hwb⟩ : ∃ wb, w.alloc (.cells #[.slice B0 m0 x0, .slice B1 m1 x1, .slice B2 m2 x2] 56) = wb := ⟨_, rfl⟩
 have f0 : Below w.heap.size w wb := by rw [← hwb]; exact (Below.refl _ _).alloc (Nat.le_refl _) _
 have sb : S3 w.heap.size (.slice B0 m0 x0) (.slice B1 m1 x1) (.slice B2 m2 x2) wb := by rw [← hwb]; exact s3_new _ _ _ _ _
 have L0 : ∀ u, Below w.heap.size w u → Calls Tryz.prog 47 #[.string ⟨#[110, 97, 109, 101, 115]⟩, .slice B0 m0 x0] u fun e w' => e = .returned (.string (strB (listS wNames (s.names.map tmT)))) ∧ Below u.heap.size u w' := fun u hu => rTerms_any wNames B0 m0 x0 s.names u ((q0.below hu).more hu.size) (by rw [← q0.1]; exact hok.1.1) hok.1.2.1 (by decide) hok.1.2.2
 have z0 : (strB (listS wNames (s.names.map tmT))).size ≤ 2000002 := by rw [strB_size]; exact listS_len (by decide) hok.1.2.2
 obtain ⟨X1, hX1⟩ : ∃ X, strB (listS wNames (s.names.map tmT)) = X := ⟨_, rfl⟩
 rw [hX1] at L0 z0
 have HX1 := Lib.hid hX1; clear hX1
 have HL0 := Lib.hid L0; clear L0
 have L1 : ∀ u, Below w.heap.size w u → Calls Tryz.prog 47 #[.string ⟨#[115, 112, 97, 99, 101, 115]⟩, .slice B1 m1 x1] u fun e w' => e = .returned (.string (strB (listS wSpaces (s.spaces.map tmT)))) ∧ Below u.heap.size u w' := fun u hu => rTerms_any wSpaces B1 m1 x1 s.spaces u ((q1.below hu).more hu.size) (by rw [← q1.1]; exact hok.2.1.1) hok.2.1.2.1 (by decide) hok.2.1.2.2
 have z1 : (strB (listS wSpaces (s.spaces.map tmT))).size ≤ 2000002 := by rw [strB_size]; exact listS_len (by decide) hok.2.1.2.2
 obtain ⟨X2, hX2⟩ : ∃ X, strB (listS wSpaces (s.spaces.map tmT)) = X := ⟨_, rfl⟩
 rw [hX2] at L1 z1
 have HX2 := Lib.hid hX2; clear hX2
 have HL1 := Lib.hid L1; clear L1
 obtain ⟨hn2, hokn, hjn⟩ := hok.2.2
 have hl2 := q2.1
 have hlt2 : (s.nets.map printNetA).length = m2 := by rw [List.length_map, hl2]
 have hjt := fun k => listS_take (word := wNets) (by decide) hjn k
 obtain ⟨base, hbase⟩ : ∃ y : List UInt8, wFrom ++ listS wNames (s.names.map tmT) ++ listS wSpaces (s.spaces.map tmT) = y := ⟨_, rfl⟩
 have hb1 : (⟨#[102, 114, 111, 109]⟩ : ByteArray) ++ X1 ++ X2 = strB base := by
  rw [← hbase, ← strB_app, ← strB_app, HX1.out, HX2.out]; rfl
 have hbl : base.length ≤ 5000000 := by
  rw [← strB_size, ← hb1, ByteArray.size_append, ByteArray.size_append]
  have : (⟨#[102, 114, 111, 109]⟩ : ByteArray).size = 4 := rfl
  omega
 have hfr : fromR s = base ++ listS wNets (s.nets.map printNetA) := by rw [← hbase]; rfl
 have HF := Lib.hid hfr; have HB1 := Lib.hid hb1; have HJ := Lib.hid hjt; have Q2 := Lib.hid q2; have HOK := Lib.hid hokn; have HLT := Lib.hid hlt2
 have y1 : ¬ 9223372036854775807 < 4 + X1.size := by omega
 have y2 : ¬ 9223372036854775807 < 4 + X1.size + X2.size := by omega
 clear hok q0 q1 q2 h hokn hjn hjt hbase hb1 hfr z0 z1 hlt2 HX1 HX2
 go_enter Tryz.func22, Tryz.ntmps22
 go_upto_region 1 with fail
 clear hwb
 obtain ⟨e10, e11, e12⟩ := sb
 refine wp_region_order (S3 w.heap.size (.slice B0 m0 x0) (.slice B1 m1 x1) (.slice B2 m2 x2)) 99 [(0,0), (1,0), (4,0), (5,0), (2,1), (3,0), (6,1), (7,0), (8,0)] (by kernel_rfl) (by kernel_rfl) ?_
 simp only [pick, List.filterMap_cons, List.filterMap_nil, List.getElem?_cons_zero, List.getElem?_cons_succ, Option.map_some]
 have hS : S3 w.heap.size (.slice B0 m0 x0) (.slice B1 m1 x1) (.slice B2 m2 x2) wb.drew := ⟨e10, e11, e12⟩
 have F2 : Below w.heap.size w wb.drew := f0.drew
 clear f0 e10 e11 e12
 generalize wb.drew = wd at *
 iterate 4 (refine wpF_take (v := ?_) hS rfl ?_ (fun _ _ _ h => h) ?_; rotate_left; (· intro w' hS'; obtain ⟨e10, e11, e12⟩ := hS'; go_simp <;> rfl); go_simp)
 refine wpF_only rfl (fun K hK => ?_)
 go_wp2_with fail
 refine (HL0.out _ F2).mono ?_
 rintro e w3 ⟨rfl, f3⟩
 replace hS := hS.below f3
 have hS2 := hS
 obtain ⟨e10, e11, e12⟩ := hS2
 replace F2 := F2.trans (f3.mono F2.size)
 clear f3
 go_wp2_with fail
 first | refine ⟨fun _ => hS, ?_⟩ | refine ⟨hS, ?_⟩ | skip
 go_simp
 clear e10 e11 e12
 (refine wpF_take (v := ?_) hS rfl ?_ (fun _ _ _ h => h) ?_; rotate_left; (· intro w' hS'; obtain ⟨e10, e11, e12⟩ := hS'; go_simp <;> rfl); go_simp)
 refine wpF_only rfl (fun K hK => ?_)
 go_wp2_with fail
 refine (HL1.out _ F2).mono ?_
 rintro e w3 ⟨rfl, f3⟩
 replace hS := hS.below f3
 have hS2 := hS
 obtain ⟨e10, e11, e12⟩ := hS2
 replace F2 := F2.trans (f3.mono F2.size)
 clear f3
 go_wp2_with fail
 first | refine ⟨fun _ => hS, ?_⟩ | refine ⟨hS, ?_⟩ | skip
 go_simp
 clear e10 e11 e12
 iterate 2 (refine wpF_take (v := ?_) hS rfl ?_ (fun _ _ _ h => h) ?_; rotate_left; (· intro w' hS'; obtain ⟨e10, e11, e12⟩ := hS'; go_simp <;> rfl); go_simp)
 refine wpF_nil ?_
 have hst : (⟨#[102, 114, 111, 109]⟩ : ByteArray) ++ X1 ++ X2 = strB (base ++ listS wNets ((s.nets.map printNetA).take 0)) := by
  rw [HB1.out, List.take_zero, show listS wNets ([] : List (List UInt8)) = [] from rfl, List.append_nil]
 have HST := Lib.hid hst; clear hst
 go_wp2_with fail
 obtain ⟨_, _, e12⟩ := hS
 have fb := Below.refl w3.heap.size w3
 have bl := World.block_lt_of_cell? w3 _ e12
 go_loopw [4, 3] (fun v4 v3 wr => ∃ k : Nat, v4 = .int .i64 (k : Int) ∧ k ≤ m2 ∧ v3 = .string (strB (base ++ listS wNets ((s.nets.map printNetA).take k))) ∧ Below w.heap.size w wr ∧ Below w3.heap.size w3 wr) (fun v4 _ _ => m2 - (intOf v4).toNat)
 case atStart => exact ⟨0, rfl, by omega, (by first | exact congrArg Value.string HST.out | rfl), F2, fb⟩
 case round =>
  obtain ⟨k, rfl, hk, rfl, F3, fb3⟩ := hrel
  have ee := (fb3.cell (p := ⟨w.heap.size, 2, none⟩) bl).trans e12
  have zj : (strB (base ++ listS wNets ((s.nets.map printNetA).take k))).size ≤ 7000002 := by
   have := HJ.out k
   have hwt : wTo.length = 2 := rfl
   rw [strB_size, List.length_append]
   omega
  by_cases hlt2 : k < m2
  ·have d5 : decide ((k : Int) < (m2 : Int)) = true := by simp; omega
   have b1 : (0 : Int) ≤ (k : Int) := by omega
   have b2 : (k : Int) < (m2 : Int) := by omega
   have hkm : k < (s.nets.map printNetA).length := by rw [HLT.out]; exact hlt2
   have hj1 := HJ.out (k + 1)
   obtain ⟨b, off, hB2, hbb, hcell⟩ := Q2.out.2 (by omega)
   have hkl : k < s.nets.length := by rw [hl2]; exact hlt2
   have hok := HOK.out _ (List.getElem_mem hkl)
   have g0 := (F3.cell (p := ⟨b, off + k * 2 + 0, none⟩) hbb).trans (hcell k hkl 0 _ rfl)
   have g1 := (F3.cell (p := ⟨b, off + k * 2 + 1, none⟩) hbb).trans (hcell k hkl 1 _ rfl)
   rw [Nat.add_zero] at g0
   subst hB2
   have hcl := refPrintNet_any s.nets[k].1 s.nets[k].2 wr hok
   have hxx : printNetA (s.nets[k].1, s.nets[k].2) = printNetA s.nets[k] := rfl
   have hel : (s.nets.map printNetA)[k]'hkm = printNetA s.nets[k] := List.getElem_map _
   rw [hxx] at hcl
   obtain ⟨xx, hx2⟩ : ∃ y, printNetA s.nets[k] = y := ⟨_, rfl⟩
   rw [hx2] at hcl hel
   obtain ⟨t1, ht1⟩ : ∃ t, s.nets[k].1 = t := ⟨_, rfl⟩
   obtain ⟨t2, ht2⟩ : ∃ t, s.nets[k].2 = t := ⟨_, rfl⟩
   rw [ht1, ht2] at hcl
   replace g0 : wr.cell? ⟨b, off + k * 2, none⟩ = some (.int .u32 (t1 : Int)) := by rw [← ht1]; exact g0
   replace g1 : wr.cell? ⟨b, off + k * 2 + 1, none⟩ = some (.int .i64 t2) := by rw [← ht2]; exact g1
   clear ht1 ht2 hx2 hxx hcell hok
   unfold ntV at hcl
   by_cases hk0 : k = 0
   ·have d6 : ((k : Int) == 0) = true := by rw [beq_iff_eq]; omega
    have hnx : listS wNets ((s.nets.map printNetA).take (k + 1)) = 32 :: (wNets ++ 32 :: xx) := by rw [← hel]; subst hk0; exact listS_next0 hkm
    have hzz : listS wNets ((s.nets.map printNetA).take k) = [] := by rw [hk0, List.take_zero]; rfl
    have he : strB (base ++ listS wNets ((s.nets.map printNetA).take k)) ++ ⟨#[32, 110, 101, 116, 115, 32]⟩ ++ strB xx = strB (base ++ listS wNets ((s.nets.map printNetA).take (k + 1))) := by
     rw [hnx, hzz]
     apply ByteArray.ext
     simp [strB, wNets]
    have HE := Lib.hid he
    have zx : (strB xx).size ≤ 2000002 := by rw [hnx] at hj1; rw [strB_size]; simp only [List.length_append, List.length_cons, List.length_nil] at hj1; omega
    have v1 : ¬ 9223372036854775807 < (strB (base ++ listS wNets ((s.nets.map printNetA).take k))).size + 6 := by omega
    have v2 : ¬ 9223372036854775807 < (strB (base ++ listS wNets ((s.nets.map printNetA).take k))).size + 6 + (strB xx).size := by omega
    clear he hnx hel hj1 hk0
    generalize strB xx = sx at *
    generalize strB (base ++ listS wNets ((s.nets.map printNetA).take k)) = sj at *
    go_wp2_with fail
    refine hcl.mono ?_
    rintro e w4 ⟨rfl, f4⟩
    clear hcl g0 g1 ee
    go_wp2_with fail
    go_roundw
    case rel => exact ⟨k + 1, by go_num, by omega, (by rw [← HE.out]), F3.trans (f4.mono F3.size), fb3.trans (f4.mono fb3.size)⟩
    case measure => simp [intOf]; omega
   ·have d6 : ((k : Int) == 0) = false := by rw [beq_eq_false_iff_ne]; omega
    have hnx : listS wNets ((s.nets.map printNetA).take (k + 1)) = listS wNets ((s.nets.map printNetA).take k) ++ [44] ++ xx := by rw [← hel]; exact listS_next hkm (by omega)
    have he : strB (base ++ listS wNets ((s.nets.map printNetA).take k)) ++ ⟨#[44]⟩ ++ strB xx = strB (base ++ listS wNets ((s.nets.map printNetA).take (k + 1))) := by
     rw [hnx]
     apply ByteArray.ext
     simp [strB]
    have HE := Lib.hid he
    have zx : (strB xx).size ≤ 2000002 := by rw [hnx] at hj1; rw [strB_size]; simp only [List.length_append, List.length_cons, List.length_nil] at hj1; omega
    have v1 : ¬ 9223372036854775807 < (strB (base ++ listS wNets ((s.nets.map printNetA).take k))).size + 1 := by omega
    have v2 : ¬ 9223372036854775807 < (strB (base ++ listS wNets ((s.nets.map printNetA).take k))).size + 1 + (strB xx).size := by omega
    clear he hnx hel hj1 hk0
    generalize strB xx = sx at *
    generalize strB (base ++ listS wNets ((s.nets.map printNetA).take k)) = sj at *
    go_wp2_with fail
    refine hcl.mono ?_
    rintro e w4 ⟨rfl, f4⟩
    clear hcl g0 g1 ee
    go_wp2_with fail
    go_roundw
    case rel => exact ⟨k + 1, by go_num, by omega, (by rw [← HE.out]), F3.trans (f4.mono F3.size), fb3.trans (f4.mono fb3.size)⟩
    case measure => simp [intOf]; omega
  ·have d5 : decide ((k : Int) < (m2 : Int)) = false := by simp; omega
   have hkn : k = m2 := by omega
   have hfin : strB (base ++ listS wNets ((s.nets.map printNetA).take k)) = strB (fromR s) := by
    rw [HF.out, hkn, ← HLT.out, List.take_length]
   have HFI := Lib.hid hfin
   clear hfin
   generalize strB (base ++ listS wNets ((s.nets.map printNetA).take k)) = sj at *
   go_wp2_with fail
   go_ret
   exact ⟨by rw [← HFI.out]; rfl, F3⟩
set_option maxRecDepth 100000 in
set_option maxHeartbeats 8000000 in
theorem rTo_any (s : Tg) (cs : List Value) (w : World) (h : TgP w w.heap.size cs s) (hpm : ∀ x ∈ s.ports, portMay x = true) (hok : bI s.ports ∧ cT s.methods ∧ cT s.paths ∧ cT s.hosts) :
  Calls Tryz.prog 23 #[.agg cs.toArray] w fun e w' => e = .returned (.string (strB (toR s))) ∧ Below w.heap.size w w' := by
 obtain ⟨B0, m0, x0, B1, m1, x1, B2, m2, x2, B3, m3, x3, rfl, q0, q1, q2, q3⟩ := vals_tg h
 show Calls Tryz.prog 23 #[.agg #[.slice B0 m0 x0, .slice B1 m1 x1, .slice B2 m2 x2, .slice B3 m3 x3]] w _
 obtain ⟨wd, hwb⟩ : ∃ wb, w.alloc (.cells #[.slice B0 m0 x0, .slice B1 m1 x1, .slice B2 m2 x2, .slice B3 m3 x3] 45) = wb := ⟨_, rfl⟩
 have F2 : Below w.heap.size w wd := by rw [← hwb]; exact (Below.refl _ _).alloc (Nat.le_refl _) _
 have sb : S4 w.heap.size (.slice B0 m0 x0) (.slice B1 m1 x1) (.slice B2 m2 x2) (.slice B3 m3 x3) wd := by rw [← hwb]; exact s4_new _ _ _ _ _ _
 have L1 : ∀ u, Below w.heap.size w u → Calls Tryz.prog 47 #[.string ⟨#[109, 101, 116, 104, 111, 100, 115]⟩, .slice B1 m1 x1] u fun e w' => e = .returned (.string (strB (listS wMethods (s.methods.map tmT)))) ∧ Below u.heap.size u w' := fun u hu => rTerms_any wMethods B1 m1 x1 s.methods u ((q1.below hu).more hu.size) (by rw [← q1.1]; exact hok.2.1.1) hok.2.1.2.1 (by decide) hok.2.1.2.2
 have z1 : (strB (listS wMethods (s.methods.map tmT))).size ≤ 2000002 := by rw [strB_size]; exact listS_len (by decide) hok.2.1.2.2
 obtain ⟨X1, hX1⟩ : ∃ X, strB (listS wMethods (s.methods.map tmT)) = X := ⟨_, rfl⟩
 rw [hX1] at L1 z1
 have HX1 := Lib.hid hX1; clear hX1
 have HL1 := Lib.hid L1; clear L1
 have L2 : ∀ u, Below w.heap.size w u → Calls Tryz.prog 47 #[.string ⟨#[112, 97, 116, 104, 115]⟩, .slice B2 m2 x2] u fun e w' => e = .returned (.string (strB (listS wPaths (s.paths.map tmT)))) ∧ Below u.heap.size u w' := fun u hu => rTerms_any wPaths B2 m2 x2 s.paths u ((q2.below hu).more hu.size) (by rw [← q2.1]; exact hok.2.2.1.1) hok.2.2.1.2.1 (by decide) hok.2.2.1.2.2
 have z2 : (strB (listS wPaths (s.paths.map tmT))).size ≤ 2000002 := by rw [strB_size]; exact listS_len (by decide) hok.2.2.1.2.2
 obtain ⟨X2, hX2⟩ : ∃ X, strB (listS wPaths (s.paths.map tmT)) = X := ⟨_, rfl⟩
 rw [hX2] at L2 z2
 have HX2 := Lib.hid hX2; clear hX2
 have HL2 := Lib.hid L2; clear L2
 have L3 : ∀ u, Below w.heap.size w u → Calls Tryz.prog 47 #[.string ⟨#[104, 111, 115, 116, 115]⟩, .slice B3 m3 x3] u fun e w' => e = .returned (.string (strB (listS wHosts (s.hosts.map tmT)))) ∧ Below u.heap.size u w' := fun u hu => rTerms_any wHosts B3 m3 x3 s.hosts u ((q3.below hu).more hu.size) (by rw [← q3.1]; exact hok.2.2.2.1) hok.2.2.2.2.1 (by decide) hok.2.2.2.2.2
 have z3 : (strB (listS wHosts (s.hosts.map tmT))).size ≤ 2000002 := by rw [strB_size]; exact listS_len (by decide) hok.2.2.2.2.2
 obtain ⟨X3, hX3⟩ : ∃ X, strB (listS wHosts (s.hosts.map tmT)) = X := ⟨_, rfl⟩
 rw [hX3] at L3 z3
 have HX3 := Lib.hid hX3; clear hX3
 have HL3 := Lib.hid L3; clear L3
 obtain ⟨hn2, _, hjn⟩ := hok.1
 have hl2 := q0.1
 have hlt2 : (s.ports.map Lib.itoa).length = m0 := by rw [List.length_map, hl2]
 have hjt := fun k => listS_take (word := wPorts) (by decide) hjn k
 have hfr : strB (wTo ++ listS wPorts (s.ports.map Lib.itoa)) ++ X1 ++ X2 ++ X3 = strB (toR s) := by
  rw [← HX1.out, ← HX2.out, ← HX3.out, strB_app, strB_app, strB_app]; rfl
 have HF := Lib.hid hfr; have HJ := Lib.hid hjt; have Q2 := Lib.hid q0; have HOK := Lib.hid hpm; have HLT := Lib.hid hlt2
 clear hok q0 q1 q2 q3 h hpm hjn hjt hfr hlt2 HX1 HX2 HX3
 go_enter Tryz.func23, Tryz.ntmps23
 go_wp2_with fail
 clear hwb
 have hst : (⟨#[116, 111]⟩ : ByteArray) = strB (wTo ++ listS wPorts ((s.ports.map Lib.itoa).take 0)) := rfl
 have HST := Lib.hid hst; clear hst
 have e10 := sb.1
 have fb := Below.refl wd.heap.size wd
 have bl := World.block_lt_of_cell? wd _ e10
 go_loopw [4, 3] (fun v4 v3 wr => ∃ k : Nat, v4 = .int .i64 (k : Int) ∧ k ≤ m0 ∧ v3 = .string (strB (wTo ++ listS wPorts ((s.ports.map Lib.itoa).take k))) ∧ Below w.heap.size w wr ∧ Below wd.heap.size wd wr) (fun v4 _ _ => m0 - (intOf v4).toNat)
 case atStart => exact ⟨0, rfl, by omega, (by first | exact congrArg Value.string HST.out | rfl), F2, fb⟩
 case round =>
  obtain ⟨k, rfl, hk, rfl, F3, fb3⟩ := hrel
  have ee := (fb3.cell (p := ⟨w.heap.size, 0, none⟩) bl).trans e10
  have zj : (strB (wTo ++ listS wPorts ((s.ports.map Lib.itoa).take k))).size ≤ 7000002 := by
   have := HJ.out k
   have hwt : wTo.length = 2 := rfl
   rw [strB_size, List.length_append]
   omega
  by_cases hlt2 : k < m0
  ·have d5 : decide ((k : Int) < (m0 : Int)) = true := by simp; omega
   have b1 : (0 : Int) ≤ (k : Int) := by omega
   have b2 : (k : Int) < (m0 : Int) := by omega
   have hkm : k < (s.ports.map Lib.itoa).length := by rw [HLT.out]; exact hlt2
   have hj1 := HJ.out (k + 1)
   obtain ⟨b, off, hB2, hbb, hcell⟩ := Q2.out.2 (by omega)
   have hkl : k < s.ports.length := by rw [hl2]; exact hlt2
   have hok := HOK.out _ (List.getElem_mem hkl)
   have g0 := (F3.cell (p := ⟨b, off + k * 1 + 0, none⟩) hbb).trans (hcell k hkl 0 _ rfl)
   rw [Nat.add_zero, Nat.mul_one] at g0
   subst hB2
   have hel : (s.ports.map Lib.itoa)[k]'hkm = Lib.itoa s.ports[k] := List.getElem_map _
   obtain ⟨xn, hx1, hx2⟩ := port_itoa hok
   have hx3 : xn < 18446744073709551616 := by
    unfold portMay at hok
    simp only [Bool.and_eq_true, decide_eq_true_eq] at hok
    omega
   have hcl := rDig_any xn wr hx3
   replace g0 : wr.cell? ⟨b, off + k, none⟩ = some (.int .i64 (xn : Int)) := by rw [← hx1]; exact g0
   have hw64 : IntKind.u64.wrap (xn : Int) = (xn : Int) := IntWalk.u64_in _ (by omega)
   have hx0 : (0 : Int) ≤ (xn : Int) := by omega
   rw [hx2] at hel
   obtain ⟨xx, hxq⟩ : ∃ y, Lib.decDigits xn = y := ⟨_, rfl⟩
   rw [hxq] at hcl hel
   clear hx1 hx2 hxq hcell hok
   by_cases hk0 : k = 0
   ·have d6 : ((k : Int) == 0) = true := by rw [beq_iff_eq]; omega
    have hnx : listS wPorts ((s.ports.map Lib.itoa).take (k + 1)) = 32 :: (wPorts ++ 32 :: xx) := by rw [← hel]; subst hk0; exact listS_next0 hkm
    have hzz : listS wPorts ((s.ports.map Lib.itoa).take k) = [] := by rw [hk0, List.take_zero]; rfl
    have he : strB (wTo ++ listS wPorts ((s.ports.map Lib.itoa).take k)) ++ ⟨#[32, 112, 111, 114, 116, 115, 32]⟩ ++ strB xx = strB (wTo ++ listS wPorts ((s.ports.map Lib.itoa).take (k + 1))) := by
     rw [hnx, hzz]
     apply ByteArray.ext
     simp [strB, wPorts]
    have HE := Lib.hid he
    have zx : (strB xx).size ≤ 2000002 := by rw [hnx] at hj1; rw [strB_size]; simp only [List.length_append, List.length_cons, List.length_nil] at hj1; omega
    have v1 : ¬ 9223372036854775807 < (strB (wTo ++ listS wPorts ((s.ports.map Lib.itoa).take k))).size + 7 := by omega
    have v2 : ¬ 9223372036854775807 < (strB (wTo ++ listS wPorts ((s.ports.map Lib.itoa).take k))).size + 7 + (strB xx).size := by omega
    clear he hnx hel hj1 hk0
    generalize strB xx = sx at *
    generalize strB (wTo ++ listS wPorts ((s.ports.map Lib.itoa).take k)) = sj at *
    go_wp2_with fail
    refine hcl.mono ?_
    rintro e w4 ⟨rfl, f4⟩
    clear hcl g0 ee
    go_wp2_with fail
    go_roundw
    case rel => exact ⟨k + 1, by go_num, by omega, (by rw [← HE.out]), F3.trans (f4.mono F3.size), fb3.trans (f4.mono fb3.size)⟩
    case measure => simp [intOf]; omega
   ·have d6 : ((k : Int) == 0) = false := by rw [beq_eq_false_iff_ne]; omega
    have hnx : listS wPorts ((s.ports.map Lib.itoa).take (k + 1)) = listS wPorts ((s.ports.map Lib.itoa).take k) ++ [44] ++ xx := by rw [← hel]; exact listS_next hkm (by omega)
    have he : strB (wTo ++ listS wPorts ((s.ports.map Lib.itoa).take k)) ++ ⟨#[44]⟩ ++ strB xx = strB (wTo ++ listS wPorts ((s.ports.map Lib.itoa).take (k + 1))) := by
     rw [hnx]
     apply ByteArray.ext
     simp [strB]
    have HE := Lib.hid he
    have zx : (strB xx).size ≤ 2000002 := by rw [hnx] at hj1; rw [strB_size]; simp only [List.length_append, List.length_cons, List.length_nil] at hj1; omega
    have v1 : ¬ 9223372036854775807 < (strB (wTo ++ listS wPorts ((s.ports.map Lib.itoa).take k))).size + 1 := by omega
    have v2 : ¬ 9223372036854775807 < (strB (wTo ++ listS wPorts ((s.ports.map Lib.itoa).take k))).size + 1 + (strB xx).size := by omega
    clear he hnx hel hj1 hk0
    generalize strB xx = sx at *
    generalize strB (wTo ++ listS wPorts ((s.ports.map Lib.itoa).take k)) = sj at *
    go_wp2_with fail
    refine hcl.mono ?_
    rintro e w4 ⟨rfl, f4⟩
    clear hcl g0 ee
    go_wp2_with fail
    go_roundw
    case rel => exact ⟨k + 1, by go_num, by omega, (by rw [← HE.out]), F3.trans (f4.mono F3.size), fb3.trans (f4.mono fb3.size)⟩
    case measure => simp [intOf]; omega
  ·have d5 : decide ((k : Int) < (m0 : Int)) = false := by simp; omega
   have hkn : k = m0 := by omega
   have hfin := HF.out
   rw [show s.ports.map Lib.itoa = (s.ports.map Lib.itoa).take k from by rw [hkn, ← HLT.out, List.take_length]] at hfin
   have HFI := Lib.hid hfin
   clear hfin
   generalize strB (wTo ++ listS wPorts ((s.ports.map Lib.itoa).take k)) = sj at *
   have y1 : ¬ 9223372036854775807 < sj.size + X1.size := by omega
   have y2 : ¬ 9223372036854775807 < sj.size + X1.size + X2.size := by omega
   have y3 : ¬ 9223372036854775807 < sj.size + X1.size + X2.size + X3.size := by omega
   have hl3 := sb.below fb3
   go_upto_region 9 with fail
   refine wp_region_order (S4 w.heap.size (.slice B0 m0 x0) (.slice B1 m1 x1) (.slice B2 m2 x2) (.slice B3 m3 x3)) 99 [(0,0), (1,0), (2,0), (5,0), (6,0), (9,0), (10,0), (3,1), (4,0), (7,1), (8,0), (11,1), (12,0), (13,0)] (by kernel_rfl) (by kernel_rfl) ?_
   simp only [pick, List.filterMap_cons, List.filterMap_nil, List.getElem?_cons_zero, List.getElem?_cons_succ, Option.map_some]
   have hS : S4 w.heap.size (.slice B0 m0 x0) (.slice B1 m1 x1) (.slice B2 m2 x2) (.slice B3 m3 x3) wr.drew := hl3
   have F2 : Below w.heap.size w wr.drew := F3.drew
   clear F3 fb3 hl3 ee
   generalize wr.drew = wd2 at *
   iterate 7 (refine wpF_take (v := ?_) hS rfl ?_ (fun _ _ _ h => h) ?_; rotate_left; (· intro w' hS'; obtain ⟨e10, e11, e12, e13⟩ := hS'; go_simp <;> rfl); go_simp)
   refine wpF_only rfl (fun K hK => ?_)
   go_wp2_with fail
   refine (HL1.out _ F2).mono ?_
   rintro e w3 ⟨rfl, f3⟩
   replace hS := hS.below f3
   have hS2 := hS
   obtain ⟨e10, e11, e12, e13⟩ := hS2
   replace F2 := F2.trans (f3.mono F2.size)
   clear f3
   go_wp2_with fail
   first | refine ⟨fun _ => hS, ?_⟩ | refine ⟨hS, ?_⟩ | skip
   go_simp
   clear e10 e11 e12 e13
   (refine wpF_take (v := ?_) hS rfl ?_ (fun _ _ _ h => h) ?_; rotate_left; (· intro w' hS'; obtain ⟨e10, e11, e12, e13⟩ := hS'; go_simp <;> rfl); go_simp)
   refine wpF_only rfl (fun K hK => ?_)
   go_wp2_with fail
   refine (HL2.out _ F2).mono ?_
   rintro e w3 ⟨rfl, f3⟩
   replace hS := hS.below f3
   have hS2 := hS
   obtain ⟨e10, e11, e12, e13⟩ := hS2
   replace F2 := F2.trans (f3.mono F2.size)
   clear f3
   go_wp2_with fail
   first | refine ⟨fun _ => hS, ?_⟩ | refine ⟨hS, ?_⟩ | skip
   go_simp
   clear e10 e11 e12 e13
   (refine wpF_take (v := ?_) hS rfl ?_ (fun _ _ _ h => h) ?_; rotate_left; (· intro w' hS'; obtain ⟨e10, e11, e12, e13⟩ := hS'; go_simp <;> rfl); go_simp)
   refine wpF_only rfl (fun K hK => ?_)
   go_wp2_with fail
   refine (HL3.out _ F2).mono ?_
   rintro e w3 ⟨rfl, f3⟩
   replace hS := hS.below f3
   have hS2 := hS
   obtain ⟨e10, e11, e12, e13⟩ := hS2
   replace F2 := F2.trans (f3.mono F2.size)
   clear f3
   go_wp2_with fail
   first | refine ⟨fun _ => hS, ?_⟩ | refine ⟨hS, ?_⟩ | skip
   go_simp
   clear e10 e11 e12 e13
   iterate 2 (refine wpF_take (v := ?_) hS rfl ?_ (fun _ _ _ h => h) ?_; rotate_left; (· intro w' hS'; obtain ⟨e10, e11, e12, e13⟩ := hS'; go_simp <;> rfl); go_simp)
   refine wpF_nil ?_
   go_wp2_with fail
   go_ret
   exact ⟨by rw [← HFI.out]; rfl, F2⟩
end Go.Proofs.YtpcdmbajfmnoiaaGreatDoor
namespace Go.Proofs.YtpcdmbajfmnoiaaGreatDoor
open Go.RowKit Go.Sort
set_option linter.unusedVariables false
set_option linter.unusedSimpArgs false
theorem fromS_R {s : Sr} (h1 : okTm s.names) (h2 : okTm s.spaces) : fromS s = [32, 32, 32, 32] ++ fromR s ++ [10] := by
 unfold fromS fromR
 rw [tmS_map h1, tmS_map h2]
 simp [wFrom]
theorem toS_R {s : Tg} (h1 : okTm s.methods) (h2 : okTm s.paths) (h3 : okTm s.hosts) : toS s = [32, 32, 32, 32] ++ toR s ++ [10] := by
 unfold toS toR
 rw [tmS_map h1, tmS_map h2, tmS_map h3]
 simp [wTo]
theorem whenS_R {s : Wn} (h1 : okTm s.terms) : whenS s = [32, 32, 32, 32] ++ whenR s ++ [10] := by
 unfold whenS whenR
 rw [tmS_map h1]
 simp [wWhen]
theorem line4 (y x z : List UInt8) (h : z = [32, 32, 32, 32] ++ x ++ [10]) : strB y ++ ⟨#[32, 32, 32, 32]⟩ ++ strB x ++ ⟨#[10]⟩ = strB (y ++ z) := by
 rw [h]
 apply ByteArray.ext
 simp [strB]
set_option maxRecDepth 100000 in
set_option maxHeartbeats 16000000 in
theorem rPrint_any (A : Option Addr) (n c : Nat) (L : List Po) (w : World) (h : RdG 5 PoP w w.heap.size A n L) (hn : n ≤ 1000) (hok : ∀ p ∈ L, okPo p) (hm : ∀ p ∈ L, poMay p = true) :
  Calls Tryz.prog 12 #[.slice A n c] w fun e w' => e = .returned (.string (strB (L.flatMap polS))) ∧ Below w.heap.size w w' := by
 have hl := h.1
 obtain ⟨R, hR⟩ : ∃ R, strB (L.flatMap polS) = R := ⟨_, rfl⟩
 rw [hR]
 have hpe : ∀ k, k = n → strB (P1 L k) = R := fun k hk => by rw [hk, ← hl, P1_end, hR]
 have hpl := fun (k : Nat) (hk : k ≤ n) => P1_len (L := L) (k := k) (by omega) hok fun p hp => bP_of (hm p (List.mem_of_mem_take hp)) (hok p (List.mem_of_mem_take hp))
 have HPE := Lib.hid hpe; have HPL := Lib.hid hpl; have HOK := Lib.hid hok; have HM := Lib.hid hm; have H := Lib.hid h
 clear hR hpe hpl hok hm h
 go_enter Tryz.func12, Tryz.ntmps12
 go_wp2_with fail
 go_loopw [4, 3] (fun v4 v3 wr => ∃ k : Nat, v4 = .int .i64 (k : Int) ∧ k ≤ n ∧ v3 = .string (strB (P1 L k)) ∧ Below w.heap.size w wr) (fun v4 _ _ => n - (intOf v4).toNat)
 case atStart => exact ⟨0, rfl, by omega, rfl, Below.refl _ _⟩
 case round =>
  obtain ⟨k, rfl, hk, rfl, f1⟩ := hrel
  obtain ⟨wo, hwo⟩ : ∃ x, x = wr := ⟨_, rfl⟩
  subst hwo
  by_cases hlt2 : k < n
  ·have d5 : decide ((k : Int) < (n : Int)) = true := by simp; omega
   have b1 : (0 : Int) ≤ (k : Int) := by omega
   have b2 : (k : Int) < (n : Int) := by omega
   have hkl : k < L.length := by omega
   have hX := HPL.out k hk
   have hokp := HOK.out _ (List.getElem_mem hkl)
   have hmp := HM.out _ (List.getElem_mem hkl)
   have hT := P1_next L k hkl
   obtain ⟨b, off, cs, p1, p2, p3, p4, p5⟩ := (H.out.mono f1.size f1 fun _ _ h => PoP.mono h f1.size f1).at_ hlt2
   obtain ⟨p, hp⟩ : ∃ p, L[k] = p := ⟨_, rfl⟩
   rw [hp] at hokp hmp hT p4
   clear hp
   have hbp := bP_of hmp hokp
   have hokP := po_okP hmp hokp
   obtain ⟨v5, rfl, A5, n5, c5, rfl, _, _, hr⟩ := p4
   have g0 : wo.cell? ⟨b, off + k * 5, none⟩ = some (.int .u64 (p.id : Int)) := p5 0 _ rfl
   have g1 : wo.cell? ⟨b, off + k * 5 + 1, none⟩ = some (.string (strB p.ns)) := p5 1 _ rfl
   have g2 : wo.cell? ⟨b, off + k * 5 + 2, none⟩ = some (.int .u64 (p.service : Int)) := p5 2 _ rfl
   have g3 : wo.cell? ⟨b, off + k * 5 + 3, none⟩ = some (.int .i64 p.deny) := p5 3 _ rfl
   have g4 : wo.cell? ⟨b, off + k * 5 + 4, none⟩ = some (.slice A5 n5 c5) := p5 4 _ rfl
   have hfi := rFirst_any p A5 n5 c5 wo hokp.1 hokp.2.1 hokp.2.2.1
   have hfl := firstS_len hokp.1 hokp.2.1 hokp.2.2.1
   have hr5 := hr.1
   have hn5 : n5 ≤ 1000 := by rw [← hr5]; exact hbp.1
   have hq0 : strB (P1 L k) ++ strB (lineOf (wordsP p)) ++ ⟨#[10]⟩ = strB (P2 L k p 0) := by
    rw [P2_0]
    apply ByteArray.ext
    simp [strB, firstS]
   have zf : (strB (lineOf (wordsP p))).size ≤ 2000000 := by unfold firstS at hfl; rw [strB_size]; rw [List.length_append] at hfl; omega
   have z1 : (strB (P1 L k)).size ≤ 7000000000000000000 := by rw [strB_size]; exact hX
   have hTT : strB (P2 L k p n5) = strB (P1 L (k + 1)) := by rw [← hT, hr5]
   have HT := Lib.hid hTT; have HRR := Lib.hid hr; have HBP := Lib.hid hbp; have HOKP := Lib.hid hokP; have HQ0 := Lib.hid hq0; have HOP := Lib.hid hokp
   clear p3 p5 hr hbp hokP hT hTT hfl hq0 hmp hokp
   subst p1
   generalize strB p.ns = sn at *
   obtain ⟨Q0, hQ0⟩ : ∃ y, strB (P2 L k p 0) = y := ⟨_, rfl⟩
   have HQ1 := Lib.hid hQ0
   rw [hQ0] at HQ0
   clear hQ0
   obtain ⟨fl, hfl⟩ : ∃ y, strB (lineOf (wordsP p)) = y := ⟨_, rfl⟩
   rw [hfl] at hfi HQ0 zf
   clear hfl
   generalize strB (P1 L k) = s1 at *
   have y1 : ¬ 9223372036854775807 < s1.size + fl.size := by omega
   have y2 : ¬ 9223372036854775807 < s1.size + fl.size + 1 := by omega
   go_wp2_with fail
   refine hfi.mono ?_
   rintro e w2 ⟨rfl, f2⟩
   clear hfi
   go_wp2_with fail
   go_loopw [5, 3] (fun v5 v3 wq => ∃ j : Nat, v5 = .int .i64 (j : Int) ∧ j ≤ n5 ∧ v3 = .string (strB (P2 L k p j)) ∧ Below wo.heap.size wo wq) (fun v5 _ _ => n5 - (intOf v5).toNat)
   case atStart => exact ⟨0, rfl, by omega, (by first | rfl | exact congrArg Value.string (HQ0.out.trans HQ1.out.symm)), f2⟩
   case round =>
    obtain ⟨j, rfl, hj, rfl, F4⟩ := hrel
    obtain ⟨wq, hwq⟩ : ∃ x, x = wr := ⟨_, rfl⟩
    subst hwq
    have e4 := (F4.cell (p := ⟨b, off + k * 5 + 4, none⟩) p2).trans g4
    by_cases hlt3 : j < n5
    ·have d6 : decide ((j : Int) < (n5 : Int)) = true := by simp; omega
     have b3 : (0 : Int) ≤ (j : Int) := by omega
     have b4 : (j : Int) < (n5 : Int) := by omega
     have hjl : j < p.rules.length := by omega
     have hbr := HBP.out.2 _ (List.getElem_mem hjl)
     have hor := HOKP.out.rules _ (List.getElem_mem hjl)
     have hU := P2_next L k p j hjl
     have hUl := P2_len (L := L) (k := k) (p := p) (j := j) (by omega) hX HOP.out HBP.out
     obtain ⟨b', off', cs', y1, y2, y3, y4, y5⟩ := (HRR.out.mono F4.size F4 fun _ _ h => RuP.mono h F4.size F4).at_ hlt3
     obtain ⟨ru, hru⟩ : ∃ ru, p.rules[j] = ru := ⟨_, rfl⟩
     rw [hru] at hbr hor hU y4
     clear hru
     obtain ⟨A1, n1, c1, A2, n2, c2, A3, n3, c3, rfl, q1, q2, q3⟩ := vals_ru y4
     have c0 : wq.cell? ⟨b', off' + j * 3, none⟩ = some (.slice A1 n1 c1) := y5 0 _ rfl
     have c01 : wq.cell? ⟨b', off' + j * 3 + 1, none⟩ = some (.slice A2 n2 c2) := y5 1 _ rfl
     have c02 : wq.cell? ⟨b', off' + j * 3 + 2, none⟩ = some (.slice A3 n3 c3) := y5 2 _ rfl
     have hl1 := q1.1; have hl2 := q2.1; have hl3 := q3.1
     have hn1 : n1 ≤ 1000 := by rw [← hl1]; exact hbr.1.1
     have hn2 : n2 ≤ 1000 := by rw [← hl2]; exact hbr.2.1.1
     have hn3 : n3 ≤ 1000 := by rw [← hl3]; exact hbr.2.2.1
     obtain ⟨g5, hg5⟩ : ∃ x, wq.heap.size = x := ⟨_, rfl⟩
     obtain ⟨w5, hw5⟩ : ∃ x, wq.alloc (.cells #[.slice A1 n1 c1, .slice A2 n2 c2, .slice A3 n3 c3] 50) = x := ⟨_, rfl⟩
     have F50 : Below wq.heap.size wq w5 := by rw [← hw5]; exact (Below.refl _ _).alloc (Nat.le_refl _) _
     have F5 := F4.trans (F50.mono F4.size)
     have sb : S3 g5 (.slice A1 n1 c1) (.slice A2 n2 c2) (.slice A3 n3 c3) w5 := by rw [← hw5, ← hg5]; exact s3_new _ _ _ _ _
     obtain ⟨e50, e51, e52⟩ := sb
     have bl5 := World.block_lt_of_cell? w5 _ e50
     have f55 := Below.refl w5.heap.size w5
     have q1' : RdG 3 SrP w5 w5.heap.size A1 n1 ru.froms := q1.mono F50.size F50 fun _ _ h => SrP.mono h F50.size F50
     have q2' : RdG 4 TgP w5 w5.heap.size A2 n2 ru.tos := q2.mono F50.size F50 fun _ _ h => TgP.mono h F50.size F50
     have q3' : RdG 2 WnP w5 w5.heap.size A3 n3 ru.whens := q3.mono F50.size F50 fun _ _ h => WnP.mono h F50.size F50
     have HR1 := Lib.hid q1'; have HR2 := Lib.hid q2'; have HR3 := Lib.hid q3'; have HBR := Lib.hid hbr; have HOKR := Lib.hid hor; have HU := Lib.hid hU
     clear q1 q2 q3 hbr hor hU y3 y4 y5 F50 q1' q2' q3'
     subst y1
     obtain ⟨PRE, hPRE⟩ : ∃ y, P2 L k p j = y := ⟨_, rfl⟩
     rw [hPRE] at HU hUl
     rw [hPRE]
     have hst : strB PRE ++ ⟨#[32, 32, 114, 117, 108, 101, 10]⟩ = strB (PRE ++ T1 ru 0) := by
      apply ByteArray.ext
      simp [strB, T1]
     have zp : (strB PRE).size ≤ 8000000000000000000 := by rw [strB_size]; exact hUl
     have v0 : ¬ 9223372036854775807 < (strB PRE).size + 7 := by omega
     have HST := Lib.hid hst; clear hst
     go_wp2_with fail
     try clear hw5
     go_loopw [7, 3] (fun v7 v3 wx => ∃ i : Nat, v7 = .int .i64 (i : Int) ∧ i ≤ n1 ∧ v3 = .string (strB (PRE ++ T1 ru i)) ∧ Below wo.heap.size wo wx ∧ Below w5.heap.size w5 wx) (fun v7 _ _ => n1 - (intOf v7).toNat)
     case atStart => exact ⟨0, rfl, by omega, (by first | exact congrArg Value.string HST.out | rfl), F5, f55⟩
     case round =>
      obtain ⟨i, rfl, hi, rfl, F6, f56⟩ := hrel
      obtain ⟨wx, hwx⟩ : ∃ x, x = wr := ⟨_, rfl⟩
      subst hwx
      have e5 := (f56.cell (p := ⟨g5, 0, none⟩) bl5).trans e50
      have hYl : (strB (PRE ++ T1 ru i)).size ≤ 8000000060000000000 := by
       have h9 := T1_len HBR.out (k := i) (by omega)
       rw [strB_size, List.length_append]
       omega
      by_cases hlt4 : i < n1
      ·have d5 : decide ((i : Int) < (n1 : Int)) = true := by simp; omega
       have b5 : (0 : Int) ≤ (i : Int) := by omega
       have b6 : (i : Int) < (n1 : Int) := by omega
       have hil : i < ru.froms.length := by rw [hl1]; exact hlt4
       have h1 := HOKR.out.1 _ (List.getElem_mem hil)
       have h2 := HBR.out.1.2 _ (List.getElem_mem hil)
       have hT := T1_next ru i hil
       obtain ⟨b2, off2, cs, p1, p2, p3, p4, p5⟩ := (HR1.out.mono f56.size f56 fun _ _ h => SrP.mono h f56.size f56).at_ hlt4
       obtain ⟨s, hs⟩ : ∃ s, ru.froms[i] = s := ⟨_, rfl⟩
       rw [hs] at h1 h2 hT p4
       clear hs
       have hcl := rFrom_any s cs wx p4 ⟨cT_of h2.1 h1.1, cT_of h2.2.1 h1.2.1, h2.2.2⟩
       have hq := line4 (PRE ++ T1 ru i) (fromR s) (fromS s) (fromS_R h1.1 h1.2.1)
       rw [List.append_assoc PRE, hT] at hq
       have HQ := Lib.hid hq
       have zx : (strB (fromR s)).size ≤ 10000000 := by
        have h9 := fromS_len h2
        rw [fromS_R h1.1 h1.2.1] at h9
        rw [strB_size]
        simp only [List.length_append, List.length_cons, List.length_nil] at h9
        omega
       obtain ⟨B0, m0, x0, B1, m1, x1, B2, m2, x2, rfl, _, _, _⟩ := vals_sr p4
       have c0 : wx.cell? ⟨b2, off2 + i * 3, none⟩ = some (.slice B0 m0 x0) := p5 0 _ rfl
       have c1 : wx.cell? ⟨b2, off2 + i * 3 + 1, none⟩ = some (.slice B1 m1 x1) := p5 1 _ rfl
       have c2 : wx.cell? ⟨b2, off2 + i * 3 + 2, none⟩ = some (.slice B2 m2 x2) := p5 2 _ rfl
       clear p3 p4 p5 h1 h2 hT hq
       subst p1
       generalize strB (fromR s) = X at *
       generalize strB (PRE ++ T1 ru i) = Y at *
       have v1 : ¬ 9223372036854775807 < Y.size + 4 := by omega
       have v2 : ¬ 9223372036854775807 < Y.size + 4 + X.size := by omega
       have v3 : ¬ 9223372036854775807 < Y.size + 4 + X.size + 1 := by omega
       go_wp2_with fail
       refine hcl.mono ?_
       rintro e w7 ⟨rfl, f7⟩
       have F7 := F6.trans (f7.mono F6.size)
       have f57 := f56.trans (f7.mono f56.size)
       clear hcl f7 c0 c1 c2
       go_wp2_with fail
       go_roundw
       case rel => exact ⟨i + 1, by go_num, by omega, (by rw [← HQ.out]), F7, f57⟩
       case measure => simp [intOf]; omega
      ·have d5 : decide ((i : Int) < (n1 : Int)) = false := by simp; omega
       have hin : i = n1 := by omega
       have hst : strB (PRE ++ T1 ru i) = strB (PRE ++ T2 ru 0) := by rw [T2_0, hin, hl1]
       have HST2 := Lib.hid hst
       clear hin hst
       have F6' := F6; have f56' := f56
       go_wp2_with fail
       go_loopw [8, 3] (fun v7 v3 wx => ∃ i : Nat, v7 = .int .i64 (i : Int) ∧ i ≤ n2 ∧ v3 = .string (strB (PRE ++ T2 ru i)) ∧ Below wo.heap.size wo wx ∧ Below w5.heap.size w5 wx) (fun v7 _ _ => n2 - (intOf v7).toNat)
       case atStart => exact ⟨0, rfl, by omega, (by first | exact congrArg Value.string HST2.out | rfl), F6', f56'⟩
       case round =>
        obtain ⟨i, rfl, hi, rfl, F6, f56⟩ := hrel
        obtain ⟨wx, hwx⟩ : ∃ x, x = wr := ⟨_, rfl⟩
        subst hwx
        have e5 := (f56.cell (p := ⟨g5, 1, none⟩) bl5).trans e51
        have hYl : (strB (PRE ++ T2 ru i)).size ≤ 8000000060000000000 := by
         have h9 := T2_len HBR.out (k := i) (by omega)
         rw [strB_size, List.length_append]
         omega
        by_cases hlt4 : i < n2
        ·have d5 : decide ((i : Int) < (n2 : Int)) = true := by simp; omega
         have b5 : (0 : Int) ≤ (i : Int) := by omega
         have b6 : (i : Int) < (n2 : Int) := by omega
         have hil : i < ru.tos.length := by rw [hl2]; exact hlt4
         have h1 := HOKR.out.2.1 _ (List.getElem_mem hil)
         have h2 := HBR.out.2.1.2 _ (List.getElem_mem hil)
         have hT := T2_next ru i hil
         obtain ⟨b2, off2, cs, p1, p2, p3, p4, p5⟩ := (HR2.out.mono f56.size f56 fun _ _ h => TgP.mono h f56.size f56).at_ hlt4
         obtain ⟨s, hs⟩ : ∃ s, ru.tos[i] = s := ⟨_, rfl⟩
         rw [hs] at h1 h2 hT p4
         clear hs
         have hcl := rTo_any s cs wx p4 h1.1 ⟨h2.1, cT_of h2.2.1 h1.2.1, cT_of h2.2.2.1 h1.2.2.1, cT_of h2.2.2.2 h1.2.2.2⟩
         have hq := line4 (PRE ++ T2 ru i) (toR s) (toS s) (toS_R h1.2.1 h1.2.2.1 h1.2.2.2)
         rw [List.append_assoc PRE, hT] at hq
         have HQ := Lib.hid hq
         have zx : (strB (toR s)).size ≤ 10000000 := by
          have h9 := toS_len h2
          rw [toS_R h1.2.1 h1.2.2.1 h1.2.2.2] at h9
          rw [strB_size]
          simp only [List.length_append, List.length_cons, List.length_nil] at h9
          omega
         obtain ⟨B0, m0, x0, B1, m1, x1, B2, m2, x2, B3, m3, x3, rfl, _, _, _, _⟩ := vals_tg p4
         have c0 : wx.cell? ⟨b2, off2 + i * 4, none⟩ = some (.slice B0 m0 x0) := p5 0 _ rfl
         have c1 : wx.cell? ⟨b2, off2 + i * 4 + 1, none⟩ = some (.slice B1 m1 x1) := p5 1 _ rfl
         have c2 : wx.cell? ⟨b2, off2 + i * 4 + 2, none⟩ = some (.slice B2 m2 x2) := p5 2 _ rfl
         have c3 : wx.cell? ⟨b2, off2 + i * 4 + 3, none⟩ = some (.slice B3 m3 x3) := p5 3 _ rfl
         clear p3 p4 p5 h1 h2 hT hq
         subst p1
         generalize strB (toR s) = X at *
         generalize strB (PRE ++ T2 ru i) = Y at *
         have v1 : ¬ 9223372036854775807 < Y.size + 4 := by omega
         have v2 : ¬ 9223372036854775807 < Y.size + 4 + X.size := by omega
         have v3 : ¬ 9223372036854775807 < Y.size + 4 + X.size + 1 := by omega
         go_wp2_with fail
         refine hcl.mono ?_
         rintro e w7 ⟨rfl, f7⟩
         have F7 := F6.trans (f7.mono F6.size)
         have f57 := f56.trans (f7.mono f56.size)
         clear hcl f7 c0 c1 c2 c3
         go_wp2_with fail
         go_roundw
         case rel => exact ⟨i + 1, by go_num, by omega, (by rw [← HQ.out]), F7, f57⟩
         case measure => simp [intOf]; omega
        ·have d5 : decide ((i : Int) < (n2 : Int)) = false := by simp; omega
         have hin : i = n2 := by omega
         have hst : strB (PRE ++ T2 ru i) = strB (PRE ++ T3 ru 0) := by rw [T3_0, hin, hl2]
         have HST3 := Lib.hid hst
         clear hin hst
         have F6' := F6; have f56' := f56
         go_wp2_with fail
         go_loopw [9, 3] (fun v7 v3 wx => ∃ i : Nat, v7 = .int .i64 (i : Int) ∧ i ≤ n3 ∧ v3 = .string (strB (PRE ++ T3 ru i)) ∧ Below wo.heap.size wo wx ∧ Below w5.heap.size w5 wx) (fun v7 _ _ => n3 - (intOf v7).toNat)
         case atStart => exact ⟨0, rfl, by omega, (by first | exact congrArg Value.string HST3.out | rfl), F6', f56'⟩
         case round =>
          obtain ⟨i, rfl, hi, rfl, F6, f56⟩ := hrel
          obtain ⟨wx, hwx⟩ : ∃ x, x = wr := ⟨_, rfl⟩
          subst hwx
          have e5 := (f56.cell (p := ⟨g5, 2, none⟩) bl5).trans e52
          have hYl : (strB (PRE ++ T3 ru i)).size ≤ 8000000060000000000 := by
           have h9 := T3_len HBR.out (k := i) (by omega)
           rw [strB_size, List.length_append]
           omega
          by_cases hlt4 : i < n3
          ·have d5 : decide ((i : Int) < (n3 : Int)) = true := by simp; omega
           have b5 : (0 : Int) ≤ (i : Int) := by omega
           have b6 : (i : Int) < (n3 : Int) := by omega
           have hil : i < ru.whens.length := by rw [hl3]; exact hlt4
           have h1 := HOKR.out.2.2 _ (List.getElem_mem hil)
           have h2 := HBR.out.2.2.2 _ (List.getElem_mem hil)
           have hT := T3_next ru i hil
           obtain ⟨b2, off2, cs, p1, p2, p3, p4, p5⟩ := (HR3.out.mono f56.size f56 fun _ _ h => WnP.mono h f56.size f56).at_ hlt4
           obtain ⟨s, hs⟩ : ∃ s, ru.whens[i] = s := ⟨_, rfl⟩
           rw [hs] at h1 h2 hT p4
           clear hs
           have hcl := rWhen_any s cs wx p4 h2.1 (cT_of h2.2 h1.2.2)
           have hq := line4 (PRE ++ T3 ru i) (whenR s) (whenS s) (whenS_R h1.2.2)
           rw [List.append_assoc PRE, hT] at hq
           have HQ := Lib.hid hq
           have zx : (strB (whenR s)).size ≤ 10000000 := by
            have h9 := whenS_len h2
            rw [whenS_R h1.2.2] at h9
            rw [strB_size]
            simp only [List.length_append, List.length_cons, List.length_nil] at h9
            omega
           obtain ⟨B0, m0, x0, rfl, _⟩ := vals_wn p4
           have c0 : wx.cell? ⟨b2, off2 + i * 2, none⟩ = some (.string (strB s.head)) := p5 0 _ rfl
           have c1 : wx.cell? ⟨b2, off2 + i * 2 + 1, none⟩ = some (.slice B0 m0 x0) := p5 1 _ rfl
           generalize strB s.head = hd at *
           clear p3 p4 p5 h1 h2 hT hq
           subst p1
           generalize strB (whenR s) = X at *
           generalize strB (PRE ++ T3 ru i) = Y at *
           have v1 : ¬ 9223372036854775807 < Y.size + 4 := by omega
           have v2 : ¬ 9223372036854775807 < Y.size + 4 + X.size := by omega
           have v3 : ¬ 9223372036854775807 < Y.size + 4 + X.size + 1 := by omega
           go_wp2_with fail
           refine hcl.mono ?_
           rintro e w7 ⟨rfl, f7⟩
           have F7 := F6.trans (f7.mono F6.size)
           have f57 := f56.trans (f7.mono f56.size)
           clear hcl f7 c0 c1
           go_wp2_with fail
           go_roundw
           case rel => exact ⟨i + 1, by go_num, by omega, (by rw [← HQ.out]), F7, f57⟩
           case measure => simp [intOf]; omega
          ·have d5 : decide ((i : Int) < (n3 : Int)) = false := by simp; omega
           have hin : i = n3 := by omega
           have hs3 : strB (PRE ++ T3 ru i) = strB (P2 L k p (j + 1)) := by rw [hin, ← hl3, T3_end, HU.out]
           have HS3 := Lib.hid hs3
           clear hs3 hin
           generalize strB (PRE ++ T3 ru i) = Y at *
           go_wp2_with fail
           go_roundw
           case rel => exact ⟨j + 1, by go_num, by omega, (by rw [HS3.out]), F6⟩
           case measure => simp [intOf]; omega
    ·have d6 : decide ((j : Int) < (n5 : Int)) = false := by simp; omega
     have hjn : j = n5 := by omega
     have hs3 : strB (P2 L k p j) = strB (P1 L (k + 1)) := by rw [hjn]; exact HT.out
     have HS3 := Lib.hid hs3
     clear hs3 hjn
     generalize strB (P2 L k p j) = sx at *
     go_wp2_with fail
     go_roundw
     case rel => exact ⟨k + 1, by go_num, by omega, (by rw [HS3.out]), f1.trans (F4.mono f1.size)⟩
     case measure => simp [intOf]; omega
  ·have d5 : decide ((k : Int) < (n : Int)) = false := by simp; omega
   have hs4 := HPE.out k (by omega)
   rw [hs4]
   go_wp2_with fail
   go_ret
   exact ⟨rfl, f1⟩
end Go.Proofs.YtpcdmbajfmnoiaaGreatDoor
