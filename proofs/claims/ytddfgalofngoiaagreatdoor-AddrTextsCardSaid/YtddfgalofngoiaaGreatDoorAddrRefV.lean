/- The document's PrintNet, ParseNet. Conditions: texts of a million bytes at most. -/
import Derived.Test.YtddfgalofngoiaaGreatDoorAddrRefU
namespace Go.Proofs.YtddfgalofngoiaaGreatDoor
open Go.RowKit Go.Sort
set_option linter.unusedVariables false
set_option linter.unusedSimpArgs false
set_option maxRecDepth 100000 in
set_option maxHeartbeats 2000000 in
theorem refPrintNet_any (a : Nat) (b : Int) (w : World) (hc : okN (a, b)) :
    Calls Tryz.prog 19 #[ntV a b] w fun e w' => e = .returned (.string (strB (printNetA (a, b)))) ∧ Below w.heap.size w w' := by
  have hmay := fun w => refMay_any a b w hc
  obtain ⟨h0, h1, h2⟩ := hc
  simp only at h0 h1 h2
  rcases hm : nMay (a, b) with _ | _
  · have e : printNetA (a, b) = [] := by unfold printNetA; rw [if_neg (by rw [hm]; decide)]
    rw [hm] at hmay
    rw [e]
    clear e hm
    unfold ntV at *
    go_enter Tryz.func19, Tryz.ntmps19
    go_upto_region 1 with fail
    refine abs (fun w1 => BxS w.heap.size a b w1 ∧ Grn w w1) ⟨box_cells w a b, (Grn.refl w).alloc _⟩ ?_
    rintro w1 ⟨⟨e0, e1⟩, f1⟩
    go_wp2_with fail
    refine (hmay w1).mono ?_
    rintro e w2 ⟨rfl, f2⟩
    replace f1 := f1.trans f2
    go_wp2_with fail
    go_ret
    exact ⟨rfl, f1.below⟩
  · have hpe := printNet_eq hm
    simp only at hpe
    have hpr := fun w => refPrint_any a h0 w
    have hit : ∀ w, Calls Tryz.prog 51 #[.int .i64 b] w fun e w' => e = .returned (.string (strB (Lib.itoa b))) ∧ Below w.heap.size w w' := fun w => by
      have hbb := (nMay_iff (a, b)).1 hm
      simp only at hbb
      have := refDigits_any b.toNat (by omega) w
      rw [show ((b.toNat : Nat) : Int) = b by omega] at this
      have e : Lib.itoa b = Lib.decDigits b.toNat := by unfold Lib.itoa; rw [if_neg (by omega)]
      rw [e]
      exact this
    have hb := (nMay_iff (a, b)).1 hm
    simp only at hb
    have zp : (strB (printA a)).size ≤ 15 := by rw [strB_size]; exact join_len a
    have zq : (strB (Lib.itoa b)).size ≤ 3 := by
      rw [strB_size]
      have := itoa_len b.toNat (by omega)
      rwa [show ((b.toNat : Nat) : Int) = b by omega] at this
    rw [hm] at hmay
    clear hm hb
    obtain ⟨r, hr⟩ : ∃ r, strB (printNetA (a, b)) = r := ⟨_, rfl⟩
    rw [hr] at hpe ⊢
    clear hr
    generalize strB (printA a) = p at *
    generalize strB (Lib.itoa b) = q at *
    have HP := Lib.hid hpe; clear hpe
    unfold ntV at *
    go_enter Tryz.func19, Tryz.ntmps19
    go_upto_region 1 with fail
    refine abs (fun w1 => BxS w.heap.size a b w1 ∧ Grn w w1) ⟨box_cells w a b, (Grn.refl w).alloc _⟩ ?_
    rintro w1 ⟨⟨e0, e1⟩, f1⟩
    go_wp2_with fail
    refine (hmay w1).mono ?_
    rintro e w2 ⟨rfl, f2⟩
    obtain ⟨e2, e3⟩ := BxS.below ⟨e0, e1⟩ f2.below
    have f3 : Below w.heap.size w w2 := (f1.trans f2).below
    clear e0 e1 f1 f2
    go_upto_region 3 with fail
    refine wp_region_order (BxS w.heap.size a b) 99 [(0,0), (1,0), (4,0), (5,0), (2,1), (3,0), (6,1), (7,0), (8,0)] (by kernel_rfl) (by kernel_rfl) ?_
    simp only [pick, List.filterMap_cons, List.filterMap_nil, List.getElem?_cons_zero, List.getElem?_cons_succ, Option.map_some]
    have hS : BxS w.heap.size a b w2.drew := ⟨e2, e3⟩
    have F1 : Below w.heap.size w w2.drew := f3.drew
    clear f3 e2 e3
    have zs : ¬ 9223372036854775807 < p.size + 1 := by omega
    have zt : ¬ 9223372036854775807 < p.size + 1 + q.size := by omega
    generalize w2.drew = wd at *
    refine wpF_take (v := ?_) hS rfl ?_ (fun _ _ _ h => h) ?_
    rotate_left
    · intro w' hS'
      obtain ⟨e0, e1⟩ := hS'
      go_simp <;> rfl
    go_simp
    refine wpF_take (v := ?_) hS rfl ?_ (fun _ _ _ h => h) ?_
    rotate_left
    · intro w' hS'
      obtain ⟨e0, e1⟩ := hS'
      go_simp <;> rfl
    go_simp
    refine wpF_take (v := ?_) hS rfl ?_ (fun _ _ _ h => h) ?_
    rotate_left
    · intro w' hS'
      obtain ⟨e0, e1⟩ := hS'
      go_simp <;> rfl
    go_simp
    refine wpF_take (v := ?_) hS rfl ?_ (fun _ _ _ h => h) ?_
    rotate_left
    · intro w' hS'
      obtain ⟨e0, e1⟩ := hS'
      go_simp <;> rfl
    go_simp
    refine wpF_only rfl (fun K hK => ?_)
    go_wp2_with fail
    refine (hpr _).mono ?_
    rintro _ w9 ⟨rfl, f9⟩
    replace F1 := F1.trans (f9.mono F1.size)
    replace hS := hS.below f9
    clear f9
    go_wp2_with fail
    first | refine ⟨fun _ => hS, ?_⟩ | refine ⟨hS, ?_⟩ | skip
    go_simp
    refine wpF_take (v := ?_) hS rfl ?_ (fun _ _ _ h => h) ?_
    rotate_left
    · intro w' hS'
      obtain ⟨e0, e1⟩ := hS'
      go_simp <;> rfl
    go_simp
    refine wpF_only rfl (fun K hK => ?_)
    go_wp2_with fail
    refine (hit _).mono ?_
    rintro _ w9 ⟨rfl, f9⟩
    replace F1 := F1.trans (f9.mono F1.size)
    replace hS := hS.below f9
    clear f9
    go_wp2_with fail
    first | refine ⟨fun _ => hS, ?_⟩ | refine ⟨hS, ?_⟩ | skip
    go_simp
    refine wpF_take (v := ?_) hS rfl ?_ (fun _ _ _ h => h) ?_
    rotate_left
    · intro w' hS'
      obtain ⟨e0, e1⟩ := hS'
      go_simp <;> rfl
    go_simp
    refine wpF_take (v := ?_) hS rfl ?_ (fun _ _ _ h => h) ?_
    rotate_left
    · intro w' hS'
      obtain ⟨e0, e1⟩ := hS'
      go_simp <;> rfl
    go_simp
    refine wpF_nil ?_
    go_wp2_with fail
    go_ret
    exact ⟨by rw [← HP.out]; rfl, F1⟩
set_option maxRecDepth 100000 in
set_option maxHeartbeats 4000000 in
theorem refParseNet_any (l : List UInt8) (hl : l.length ≤ 1000000) (w : World) :
    Calls Tryz.prog 15 #[.string (strB l)] w fun e w' => e = .returned (pnV (parseNetA l)) ∧ Below w.heap.size w w' := by
  have HI := Lib.hid (show (Tryz.prog.info? 29).map (·.size) = some 2 by kernel_rfl)
  obtain ⟨r, hr⟩ : ∃ r, parseNetA l = r := ⟨_, rfl⟩
  rw [hr]
  have hcut := fun w => refCut_any l 47 hl w
  have hml := spl_mem_len 47 l
  by_cases h2 : (spl 47 l).length = 2
  · obtain ⟨ca, cb, h2⟩ : ∃ x y, spl 47 l = [x, y] := by
      rcases hh : spl 47 l with _ | ⟨x, _ | ⟨y, _ | ⟨z, t⟩⟩⟩ <;> rw [hh] at h2 <;> simp at h2
      exact ⟨x, y, rfl⟩
    rw [parseNet_two h2] at hr
    have hla := hml ca (by rw [h2]; simp)
    have hlb := hml cb (by rw [h2]; simp)
    have hpa := fun w => refParse_any ca (by omega) w
    have hsm' := fun w => refNumber_any cb 32 (by omega) (by omega) w
    have hsl := smallS_le cb 32 (by omega)
    rw [show ((32 : Nat) : Int) = 32 from rfl] at hsm'
    obtain ⟨sv, hsv⟩ : ∃ v, smallS cb 32 = v := ⟨_, rfl⟩
    rw [hsv] at hr hsl
    have hsm : ∀ w, Calls Tryz.prog 47 #[.string (strB cb), .int .i64 32] w fun e w' => e = .returned (.int .i64 sv) ∧ Below w.heap.size w w' := fun w => by have := hsm' w; rw [hsv] at this; exact this
    clear hsv hsm' hml hla hlb
    rcases hp : parseA ca with _ | av
    · have HR := Lib.hid (show r = none by rw [← hr, hp])
      rw [hp] at hpa
      clear hr hp
      have k0 := Blk.newAt (w := w) rfl 29 #[.int .u32 0, .int .i64 0]
      go_enter Tryz.func15, Tryz.ntmps15
      go_wp2_with fail
      refine (hcut _).mono ?_
      rintro e w2 ⟨A, n, cp, rfl, rL, f2⟩
      have hLn := rL.1
      have k2 := k0.below f2 k0.lt
      have f3 : Below w.heap.size w w2 := ((Below.refl _ w).alloc (Nat.le_refl _) _).trans (f2.mono (by simp))
      have hlt2 : w.heap.size < w2.heap.size := k2.lt
      clear k0 f2
      obtain rfl : n = 2 := by rw [← hLn, h2]; rfl
      obtain ⟨b, off, rfl, hbB, cell0⟩ := rL.str (show 0 < 2 by omega)
      obtain ⟨b', off', hA, _, cell1⟩ := rL.str (show 1 < 2 by omega)
      injection hA with hA
      injection hA with e1 e2 _
      subst e1 e2
      rw [h2, Nat.add_zero] at cell0
      rw [h2] at cell1
      replace cell0 : w2.cell? ⟨b, off, none⟩ = some (.string (strB ca)) := cell0
      replace cell1 : w2.cell? ⟨b, off + 1, none⟩ = some (.string (strB cb)) := cell1
      clear rL h2 hLn
      go_wp2_with fail
      refine (hpa w2).mono ?_
      rintro e w4 ⟨rfl, f4⟩
      replace cell1 := (f4.cell (p := ⟨b, off + 1, none⟩) hbB).trans cell1
      have k4 := k2.below f4 hlt2
      have f5 := f3.trans (f4.mono f3.size)
      have hlt4 : w.heap.size < w4.heap.size := k4.lt
      clear f3 k2 f4 cell0 hbB
      unfold paV
      go_wp2_with fail
      refine (hsm w4).mono ?_
      rintro e w6 ⟨rfl, f6⟩
      have k6 := k4.below f6 hlt4
      have f7 := f5.trans (f6.mono f5.size)
      have hlt6 : w.heap.size < w6.heap.size := k6.lt
      clear f5 k4 f6 cell1
      have hne : ¬ w.heap.size = w6.heap.size := by omega
      have hne2 : ¬ w6.heap.size = w.heap.size := by omega
      have c0 := k6.cell 0
      have c1 := k6.cell 1
      have g0 := k6.frozen 0
      have g1 := k6.frozen 1
      simp only [List.getElem?_cons_zero, List.getElem?_cons_succ] at c0 c1
      have k9 := ((k6.set 0 (.int .u32 0)).set 1 (.int .i64 0)).alloc (.cells #[.int .u32 0, .int .i64 sv] 29)
      have f9 := ((f7.setCell (p := ⟨w.heap.size, 0, none⟩) (Nat.le_refl _) (.int .u32 0)).setCell (p := ⟨w.heap.size, 1, none⟩) (Nat.le_refl _) (.int .i64 0)).alloc (by simpa using f7.size) (.cells #[.int .u32 0, .int .i64 sv] 29)
      clear k6 f7
      go_wp2_with fail
      refine bodyPost_ret (k9.sizedT rfl _ rfl Tryz.underlying29 HI.out) rfl ⟨?_, f9⟩
      rw [HR.out]
      rfl
    · have hav := parseA_lt hp
      rw [hp] at hpa hr
      simp only at hr
      clear hp
      have hmay := fun w => refMay_any av sv w ⟨hav, by show _ ≤ sv; omega, by show sv ≤ _; omega⟩
      unfold ntV at hmay
      cases hm : nMay (av, sv)
      · rw [hm] at hr hmay
        have HR := Lib.hid (show r = none by rw [← hr]; rfl)
        clear hr
        have k0 := Blk.newAt (w := w) rfl 29 #[.int .u32 0, .int .i64 0]
        go_enter Tryz.func15, Tryz.ntmps15
        go_wp2_with fail
        refine (hcut _).mono ?_
        rintro e w2 ⟨A, n, cp, rfl, rL, f2⟩
        have hLn := rL.1
        have k2 := k0.below f2 k0.lt
        have f3 : Below w.heap.size w w2 := ((Below.refl _ w).alloc (Nat.le_refl _) _).trans (f2.mono (by simp))
        have hlt2 : w.heap.size < w2.heap.size := k2.lt
        clear k0 f2
        obtain rfl : n = 2 := by rw [← hLn, h2]; rfl
        obtain ⟨b, off, rfl, hbB, cell0⟩ := rL.str (show 0 < 2 by omega)
        obtain ⟨b', off', hA, _, cell1⟩ := rL.str (show 1 < 2 by omega)
        injection hA with hA
        injection hA with e1 e2 _
        subst e1 e2
        rw [h2, Nat.add_zero] at cell0
        rw [h2] at cell1
        replace cell0 : w2.cell? ⟨b, off, none⟩ = some (.string (strB ca)) := cell0
        replace cell1 : w2.cell? ⟨b, off + 1, none⟩ = some (.string (strB cb)) := cell1
        clear rL h2 hLn
        go_wp2_with fail
        refine (hpa w2).mono ?_
        rintro e w4 ⟨rfl, f4⟩
        replace cell1 := (f4.cell (p := ⟨b, off + 1, none⟩) hbB).trans cell1
        have k4 := k2.below f4 hlt2
        have f5 := f3.trans (f4.mono f3.size)
        have hlt4 : w.heap.size < w4.heap.size := k4.lt
        clear f3 k2 f4 cell0 hbB
        unfold paV
        go_wp2_with fail
        refine (hsm w4).mono ?_
        rintro e w6 ⟨rfl, f6⟩
        have k6 := k4.below f6 hlt4
        have f7 := f5.trans (f6.mono f5.size)
        have hlt6 : w.heap.size < w6.heap.size := k6.lt
        clear f5 k4 f6 cell1
        have hne : ¬ w.heap.size = w6.heap.size := by omega
        have hne2 : ¬ w6.heap.size = w.heap.size := by omega
        have k8 := (k6.alloc (.cells #[.int .u32 (av : Int), .int .i64 sv] 29))
        have f8 := f7.alloc f7.size (.cells #[.int .u32 (av : Int), .int .i64 sv] 29)
        have hbx := box_cells w6 av sv
        go_wp2_with fail
        refine (hmay _).mono ?_
        rintro e w8 ⟨rfl, f8'⟩
        have k10 := k8.below f8'.below k8.lt
        obtain ⟨q0, q1⟩ := BxS.below hbx f8'.below
        have f10 := f8.trans (f8'.below.mono f8.size)
        clear k8 f8 f8' k6 f7 hbx
        have c0 := k10.cell 0
        have c1 := k10.cell 1
        have g0 := k10.frozen 0
        have g1 := k10.frozen 1
        simp only [List.getElem?_cons_zero, List.getElem?_cons_succ] at c0 c1
        have k9 := (k10.set 0 (.int .u32 0)).set 1 (.int .i64 0)
        have f9 := (f10.setCell (p := ⟨w.heap.size, 0, none⟩) (Nat.le_refl _) (.int .u32 0)).setCell (p := ⟨w.heap.size, 1, none⟩) (Nat.le_refl _) (.int .i64 0)
        go_wp2_with fail
        refine bodyPost_ret (k9.sizedT rfl _ rfl Tryz.underlying29 HI.out) rfl ⟨?_, f9⟩
        rw [HR.out]
        rfl
      · rw [hm] at hr hmay
        have HR := Lib.hid (show r = some (av, sv) by rw [← hr]; rfl)
        clear hr
        have k0 := Blk.newAt (w := w) rfl 29 #[.int .u32 0, .int .i64 0]
        go_enter Tryz.func15, Tryz.ntmps15
        go_wp2_with fail
        refine (hcut _).mono ?_
        rintro e w2 ⟨A, n, cp, rfl, rL, f2⟩
        have hLn := rL.1
        have k2 := k0.below f2 k0.lt
        have f3 : Below w.heap.size w w2 := ((Below.refl _ w).alloc (Nat.le_refl _) _).trans (f2.mono (by simp))
        have hlt2 : w.heap.size < w2.heap.size := k2.lt
        clear k0 f2
        obtain rfl : n = 2 := by rw [← hLn, h2]; rfl
        obtain ⟨b, off, rfl, hbB, cell0⟩ := rL.str (show 0 < 2 by omega)
        obtain ⟨b', off', hA, _, cell1⟩ := rL.str (show 1 < 2 by omega)
        injection hA with hA
        injection hA with e1 e2 _
        subst e1 e2
        rw [h2, Nat.add_zero] at cell0
        rw [h2] at cell1
        replace cell0 : w2.cell? ⟨b, off, none⟩ = some (.string (strB ca)) := cell0
        replace cell1 : w2.cell? ⟨b, off + 1, none⟩ = some (.string (strB cb)) := cell1
        clear rL h2 hLn
        go_wp2_with fail
        refine (hpa w2).mono ?_
        rintro e w4 ⟨rfl, f4⟩
        replace cell1 := (f4.cell (p := ⟨b, off + 1, none⟩) hbB).trans cell1
        have k4 := k2.below f4 hlt2
        have f5 := f3.trans (f4.mono f3.size)
        have hlt4 : w.heap.size < w4.heap.size := k4.lt
        clear f3 k2 f4 cell0 hbB
        unfold paV
        go_wp2_with fail
        refine (hsm w4).mono ?_
        rintro e w6 ⟨rfl, f6⟩
        have k6 := k4.below f6 hlt4
        have f7 := f5.trans (f6.mono f5.size)
        have hlt6 : w.heap.size < w6.heap.size := k6.lt
        clear f5 k4 f6 cell1
        have hne : ¬ w.heap.size = w6.heap.size := by omega
        have hne2 : ¬ w6.heap.size = w.heap.size := by omega
        have k8 := (k6.alloc (.cells #[.int .u32 (av : Int), .int .i64 sv] 29))
        have f8 := f7.alloc f7.size (.cells #[.int .u32 (av : Int), .int .i64 sv] 29)
        have hbx := box_cells w6 av sv
        go_wp2_with fail
        refine (hmay _).mono ?_
        rintro e w8 ⟨rfl, f8'⟩
        have k10 := k8.below f8'.below k8.lt
        obtain ⟨q0, q1⟩ := BxS.below hbx f8'.below
        have f10 := f8.trans (f8'.below.mono f8.size)
        clear k8 f8 f8' k6 f7 hbx
        have c0 := k10.cell 0
        have c1 := k10.cell 1
        have g0 := k10.frozen 0
        have g1 := k10.frozen 1
        simp only [List.getElem?_cons_zero, List.getElem?_cons_succ] at c0 c1
        have k9 := (k10.set 0 (.int .u32 (av : Int))).set 1 (.int .i64 sv)
        have f9 := (f10.setCell (p := ⟨w.heap.size, 0, none⟩) (Nat.le_refl _) (.int .u32 (av : Int))).setCell (p := ⟨w.heap.size, 1, none⟩) (Nat.le_refl _) (.int .i64 sv)
        go_wp2_with fail
        refine bodyPost_ret (k9.sizedT rfl _ rfl Tryz.underlying29 HI.out) rfl ⟨?_, f9⟩
        rw [HR.out]
        rfl
  · have HR := Lib.hid (show r = none by rw [← hr]; exact parseNet_not h2)
    clear hr
    have k0 := Blk.newAt (w := w) rfl 29 #[.int .u32 0, .int .i64 0]
    go_enter Tryz.func15, Tryz.ntmps15
    go_wp2_with fail
    refine (hcut _).mono ?_
    rintro e w2 ⟨A, n, cp, rfl, rL, f2⟩
    have hLn := rL.1
    have k2 := k0.below f2 k0.lt
    have f3 : Below w.heap.size w w2 := ((Below.refl _ w).alloc (Nat.le_refl _) _).trans (f2.mono (by simp))
    have hlt2 : w.heap.size < w2.heap.size := k2.lt
    clear k0 f2
    have d2 : ((n : Int) != 2) = true := by rw [bne_iff_ne]; omega
    have d3 : ((n : Int) == 2) = false := by rw [beq_eq_false_iff_ne]; omega
    clear h2 hLn rL hml
    have c0 := k2.cell 0
    have c1 := k2.cell 1
    have g0 := k2.frozen 0
    have g1 := k2.frozen 1
    simp only [List.getElem?_cons_zero, List.getElem?_cons_succ] at c0 c1
    have k9 := (k2.set 0 (.int .u32 0)).set 1 (.int .i64 0)
    have f9 := (f3.setCell (p := ⟨w.heap.size, 0, none⟩) (Nat.le_refl _) (.int .u32 0)).setCell (p := ⟨w.heap.size, 1, none⟩) (Nat.le_refl _) (.int .i64 0)
    go_wp2_with fail
    refine bodyPost_ret (k9.sizedT rfl _ rfl Tryz.underlying29 HI.out) rfl ⟨?_, f9⟩
    rw [HR.out]
    rfl
end Go.Proofs.YtddfgalofngoiaaGreatDoor
