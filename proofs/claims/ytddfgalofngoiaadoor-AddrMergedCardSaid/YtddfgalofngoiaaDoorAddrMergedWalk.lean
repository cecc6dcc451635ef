/- The law AddrMerged, walked. Condition: the library's variables hold what they should. -/
import Derived.Test.YtddfgalofngoiaaDoorAddrAwake
import Derived.Test.YtddfgalofngoiaaDoorAddrLaw
import Derived.Test.YtddfgalofngoiaaDoorNetAll
import Derived.Test.YtddfgalofngoiaaDoorNetOpen
import Derived.Test.YtddfgalofngoiaaDoorNetSame
import Derived.Deep.DeepCutAuto
namespace Go.Proofs.YtddfgalofngoiaaDoor
open Go.RowKit Go.Sort
set_option linter.unusedVariables false
set_option linter.unusedSimpArgs false
theorem drop_rev {L : List Nt} {j : Nat} (h : j < L.length) : (L.drop (j + 1)).reverse ++ [ntAt L j] = (L.drop j).reverse := by
  rw [List.drop_eq_getElem_cons h, List.reverse_cons, ntAt_eq h]
theorem drop_any {L : List Nt} {j : Nat} (x : Nat) (h : j < L.length) : (L.drop j).any (nIn · x) = (nIn (ntAt L j) x || (L.drop (j + 1)).any (nIn · x)) := by
  rw [List.drop_eq_getElem_cons h, List.any_cons, ntAt_eq h]
theorem take_any {L : List Nt} {j : Nat} (x : Nat) (h : j < L.length) : (L.take (j + 1)).any (nIn · x) = ((L.take j).any (nIn · x) || nIn (ntAt L j) x) := by
  rw [List.take_succ_eq_append_getElem h, List.any_append, ntAt_eq h, List.any_cons, List.any_nil, Bool.or_false]
theorem same_nets {Y Z L : List Nt} (hY : Nice Y) (hZ : Nice Z) (h1 : ∀ x, nHas Z x ↔ nHas L x) (h2 : ∀ x, nHas Y x ↔ nHas L x) : Z = Y := nice_one hZ hY fun x => (h1 x).trans (h2 x).symm
theorem any_same {Y L : List Nt} {x : Nat} (h : ∀ x, nHas Y x ↔ nHas L x) : Y.any (nIn · x) = L.any (nIn · x) := by
  rw [Bool.eq_iff_iff, ← nHas_iff, ← nHas_iff]
  exact h x
theorem eq_bool (b : Bool) : (b == b) = true := by cases b <;> rfl
set_option maxRecDepth 100000 in
set_option maxHeartbeats 16000000 in
theorem addrMerged_walk (w : World) (hW : LdW w) (A : Option Addr) (n c : Nat) (L : List Nt) (rL : RdR ntC 2 w w.heap.size A n L) (hnc : n ≤ c) (hcm : c ≤ maxLen) (hok : ∀ f ∈ L, okN f) (x : Nat) (hx : x < 4294967296) :
    Calls Tryd.prog 4 #[.slice A n c, .int .u32 (x : Int)] w fun e w' => e = .returned (.bool true) ∧ Below w.heap.size w w' := by
  have hlt := hW.lt
  have HL := Lib.hid rL.1
  have HOK := Lib.hid hok; clear hok
  have f1 : Below w.heap.size w w := Below.refl _ _
  go_enter Tryd.func4, Tryd.ntmps4
  by_cases hn : 60 < n
  · have d0 : decide ((60 : Int) < (n : Int)) = true := by simp; omega
    go_wp2_with fail
    refine (awake4_any w hW).mono ?_
    rintro e w1 ⟨rfl, f1⟩
    go_wp2_with fail
    go_ret
    exact ⟨rfl, f1⟩
  have d0 : decide ((60 : Int) < (n : Int)) = false := by simp; omega
  go_wp2_with fail
  refine (merge_all A n c L w rL HOK.out (by omega)).mono ?_
  rintro e w1 ⟨Am, m, cm, Y, rfl, hO, hN, hH, hZ, hmn, g1⟩
  have rY := hO.rd
  have HY := Lib.hid hO.1
  have HN := Lib.hid hN; have HH := Lib.hid hH; have HZ := Lib.hid hZ
  have G1 := Lib.hid g1
  have hs1 := g1.size
  replace f1 : Below w1.heap.size w1 w1 := Below.refl _ _
  clear hO hN hH hZ g1 d0
  have d9 : IntKind.i64.wrap ((n : Int) - 1) = (n : Int) - 1 := IntWalk.i64_in _ (by omega)
  go_wp2_with fail
  go_loopw [6, 8, 9] (fun s6 s8 s9 wr => ∃ (j : Nat) (Ab : Option Addr) (cb : Nat), j ≤ n ∧ s9 = .int .i64 ((j : Int) - 1) ∧ s6 = .bool ((L.drop j).any (nIn · x)) ∧ s8 = .slice Ab (n - j) cb ∧ OwnR ntC 2 wr w1.heap.size 24 (.slice Ab (n - j) cb) (L.drop j).reverse ∧ RdR ntC 2 wr w1.heap.size Am m Y ∧ Below w1.heap.size w1 wr) (fun _ _ s9 _ => (intOf s9 + 1).toNat)
  case atStart =>
    refine ⟨n, none, 0, Nat.le_refl _, rfl, ?_, ?_, ?_, rY, f1⟩
    · rw [List.drop_of_length_le (by rw [HL.out]; exact Nat.le_refl _)]; rfl
    · rw [Nat.sub_self]
    · rw [List.drop_of_length_le (by rw [HL.out]; exact Nat.le_refl _), Nat.sub_self]; exact OwnR.nil
  case round =>
    clear rY f1 d9
    obtain ⟨j, Ab, cb, hjn, rfl, rfl, rfl, oB, rY, f1⟩ := hrel
    obtain ⟨xv, hxv⟩ : ∃ q, (L.drop j).any (nIn · x) = q := ⟨_, rfl⟩
    rw [hxv]
    have HXV := Lib.hid hxv; clear hxv
    rcases j with _ | j
    · have d1 : decide ((0 : Int) ≤ ((0 : Nat) : Int) - 1) = false := by decide
      have hcapB := oB.cap
      have rB := oB.rd ntC_len
      rw [List.drop_zero] at rB
      replace rY := rY.more f1.size
      replace f1 := G1.out.trans (f1.mono hs1)
      clear oB
      go_wp2_with fail
      go_loopw [7, 10, 11, 12, 13] (fun s7 s10 _ _ _ wr => ∃ i : Nat, i ≤ m ∧ s10 = .int .i64 (i : Int) ∧ s7 = .bool ((Y.take i).any (nIn · x)) ∧ RdR ntC 2 wr wr.heap.size Ab (n - 0) L.reverse ∧ RdR ntC 2 wr wr.heap.size Am m Y ∧ Below w.heap.size w wr) (fun _ s10 _ _ _ _ => m - (intOf s10).toNat)
      case atStart => exact ⟨0, Nat.zero_le _, rfl, rfl, rB, rY, f1⟩
      case round =>
        clear rB rY f1
        obtain ⟨i, him, rfl, rfl, rB, rY, f1⟩ := hrel
        obtain ⟨yv, hyv⟩ : ∃ q, (Y.take i).any (nIn · x) = q := ⟨_, rfl⟩
        rw [hyv]
        have HYV := Lib.hid hyv; clear hyv
        by_cases hlti : i < m
        · have d2 : decide ((i : Int) < (m : Int)) = true := by simp; omega
          have b1 : (0 : Int) ≤ (i : Int) := by omega
          have b2 : (i : Int) < (m : Int) := by omega
          have hmem : ntAt Y i ∈ Y := by rw [ntAt_eq (by rw [HY.out]; exact hlti)]; exact List.getElem_mem _
          have hmi := HN.out.may _ hmem
          have hzi := HZ.out _ hmem
          have hta := take_any x (show i < Y.length by rw [HY.out]; exact hlti)
          rw [HYV.out] at hta
          obtain ⟨bY, oY, hAm, hbY, y0, y1⟩ := rY.net hlti
          obtain ⟨p1, p2, hp⟩ : ∃ a b, ntAt Y i = (a, b) := ⟨_, _, rfl⟩
          rw [hp] at y0 y1 hmi hzi hta
          simp only at y0 y1 hzi
          have HP := Lib.hid hp; clear hp hmem
          have hoi := may_ok hmi hzi
          have hin := fun w => in_any p1 p2 x w hoi hx
          obtain ⟨iv, hiv⟩ : ∃ q, nIn (p1, p2) x = q := ⟨_, rfl⟩
          rw [hiv] at hin hta
          have HTA := Lib.hid hta
          clear hiv hta HYV
          unfold ntV at hin
          have hAm' := hAm
          subst hAm'
          go_upto_region 14 with fail
          go_cut [7] (fun v7 wx => v7 = .bool (yv || iv) ∧ RdR ntC 2 wx wx.heap.size Ab (n - 0) L.reverse ∧ RdR ntC 2 wx wx.heap.size (some ⟨bY, oY, none⟩) m Y ∧ Below w.heap.size w wx)
          case first =>
            rcases yv with _ | _
            · go_wp2_with fail
              refine (hin _).mono ?_
              rintro _ w9 ⟨rfl, f9⟩
              replace rB := (rB.below f9.below).more f9.below.size
              replace rY := (rY.below f9.below).more f9.below.size
              replace f1 := f1.trans (f9.below.mono f1.size)
              go_wp2_with fail
              go_meet
              exact ⟨rfl, rB, rY, f1⟩
            · go_wp2_with fail
              go_meet
              exact ⟨rfl, rB, rY, f1⟩
          case rest =>
            clear rB rY f1 y0 y1 hin hAm hbY
            obtain ⟨rfl, rB, rY, f1⟩ := hcut
            go_wp2_with fail
            go_loopw [11, 12, 13] (fun s11 _ _ wr => ∃ k : Nat, k ≤ i ∧ s11 = .int .i64 (k : Int) ∧ RdR ntC 2 wr wr.heap.size Ab (n - 0) L.reverse ∧ RdR ntC 2 wr wr.heap.size (some ⟨bY, oY, none⟩) m Y ∧ Below w.heap.size w wr) (fun s11 _ _ _ => i - (intOf s11).toNat)
            case atStart => exact ⟨0, Nat.zero_le _, rfl, rB, rY, f1⟩
            case round =>
              clear rB rY f1
              obtain ⟨k, hki, rfl, rB, rY, f1⟩ := hrel
              by_cases hltk : k < i
              · have d3 : decide ((k : Int) < (i : Int)) = true := by simp; omega
                have b3 : (0 : Int) ≤ (k : Int) := by omega
                have b4 : (k : Int) < (m : Int) := by omega
                have hY1 : i < Y.length := by rw [HY.out]; exact hlti
                have hnp := nice_pair HN.out hltk hY1
                rw [← ntAt_eq hY1, ← ntAt_eq (by omega), HP.out] at hnp
                have hmem : ntAt Y k ∈ Y := by rw [ntAt_eq (by omega)]; exact List.getElem_mem _
                have hmk := HN.out.may _ hmem
                have hzk := HZ.out _ hmem
                obtain ⟨bY', oY', hA1, hbY, y0, y1⟩ := rY.net hlti
                obtain ⟨bY'', oY'', hA2, _, k0, k1⟩ := rY.net (show k < m by omega)
                injection hA1 with hA1
                injection hA1 with e1 e2 _
                subst e1 e2
                injection hA2 with hA2
                injection hA2 with e1 e2 _
                subst e1 e2
                obtain ⟨q1, q2, hq⟩ : ∃ a b, ntAt Y k = (a, b) := ⟨_, _, rfl⟩
                rw [HP.out] at y0 y1
                rw [hq] at k0 k1 hmk hzk hnp
                simp only at y0 y1 k0 k1 hzk
                have hok := may_ok hmk hzk
                have hla := fun w => last_any q1 q2 w hok
                rw [hmk] at hla
                simp only [if_true] at hla
                have hsm := fun h h' => sib_mask hmk hmi hzk hzi hnp.2 h h'
                simp only at hsm
                have hr1 := (nMay_iff _).1 hmi
                simp only at hr1
                have hr2 := (nMay_iff _).1 hmk
                simp only at hr2
                have hlt1 := hnp.1
                simp only at hlt1
                have hma := fun w => mask_any (p2 - 1) w (by omega) (by omega)
                have hnhi : nhi (q1, q2) - 1 < 4294967296 := by omega
                have HSM := Lib.hid hsm
                obtain ⟨hr11, hr12, _⟩ := hr1
                obtain ⟨hr21, hr22, _⟩ := hr2
                clear hsm hnp hq hmem hmk hok
                generalize nhi (q1, q2) - 1 = z at *
                unfold ntV at hla
                go_wp2_with fail
                refine (hla _).mono ?_
                rintro _ w9 ⟨rfl, f9⟩
                replace y0 := (f9.below.cell (p := ⟨bY, oY + i * 2, none⟩) hbY).trans y0
                replace y1 := (f9.below.cell (p := ⟨bY, oY + i * 2 + 1, none⟩) hbY).trans y1
                replace k0 := (f9.below.cell (p := ⟨bY, oY + k * 2, none⟩) hbY).trans k0
                replace k1 := (f9.below.cell (p := ⟨bY, oY + k * 2 + 1, none⟩) hbY).trans k1
                replace rB := (rB.below f9.below).more f9.below.size
                replace rY := (rY.below f9.below).more f9.below.size
                replace f1 := f1.trans (f9.below.mono f1.size)
                clear f9 hla hbY
                have d4 : decide (p1 ≤ z) = false := by simp; omega
                have vw : IntKind.i64.wrap (p2 - 1) = p2 - 1 := IntWalk.i64_in _ (by omega)
                go_upto_region 19 with fail
                by_cases he : q2 = p2
                · subst he
                  by_cases h0 : 0 < q2
                  · have hne := HSM.out rfl h0
                    have d5 : decide (0 < q2) = true := by simp; omega
                    have u1 := u32_and_n q1 (nMask (q2 - 1)) hzk (nMask_lt _)
                    have u2 := u32_and_n p1 (nMask (q2 - 1)) hzi (nMask_lt _)
                    have d6 : (((q1 &&& nMask (q2 - 1) : Nat) : Int) == ((p1 &&& nMask (q2 - 1) : Nat) : Int)) = false := by
                      rw [beq_eq_false_iff_ne]; omega
                    clear hne HSM
                    generalize ((q1 &&& nMask (q2 - 1) : Nat) : Int) = u at *
                    generalize ((p1 &&& nMask (q2 - 1) : Nat) : Int) = v at *
                    go_quiet ((go_at_call 14; exact Calls.quiet_of_same ((hma _).mono fun _ _ ⟨h, e⟩ => ⟨h, e.symm⟩)))
                    go_wp2_with fail
                    go_roundw
                    case rel => first | exact ⟨k + 1, by omega, by go_num, rB, rY, belowN f1 _⟩ | ((repeat apply Exists.intro); exact ⟨⟨k + 1, by omega, by go_num, rB, rY, belowN f1 _⟩, rfl⟩)
                    case measure => simp [intOf]; omega
                  · have d5 : decide (0 < q2) = false := by simp; omega
                    go_quiet (fail)
                    go_wp2_with fail
                    go_roundw
                    case rel => first | exact ⟨k + 1, by omega, by go_num, rB, rY, belowN f1 _⟩ | ((repeat apply Exists.intro); exact ⟨⟨k + 1, by omega, by go_num, rB, rY, belowN f1 _⟩, rfl⟩)
                    case measure => simp [intOf]; omega
                · have d5 : (q2 == p2) = false := by rw [beq_eq_false_iff_ne]; exact he
                  go_quiet (fail)
                  go_wp2_with fail
                  go_roundw
                  case rel => first | exact ⟨k + 1, by omega, by go_num, rB, rY, belowN f1 _⟩ | ((repeat apply Exists.intro); exact ⟨⟨k + 1, by omega, by go_num, rB, rY, belowN f1 _⟩, rfl⟩)
                  case measure => simp [intOf]; omega
              · have d3 : decide ((k : Int) < (i : Int)) = false := by simp; omega
                go_wp2_with fail
                go_roundw
                case rel => exact ⟨i + 1, by omega, by go_num, by rw [HTA.out], rB, rY, f1⟩
                case measure => simp [intOf]; omega
        · have d2 : decide ((i : Int) < (m : Int)) = false := by simp; omega
          obtain rfl : i = m := by omega
          have e1 : yv = xv := by
            rw [← HYV.out, ← HXV.out, List.drop_zero, List.take_of_length_le (by rw [HY.out]; exact Nat.le_refl _)]
            exact any_same HH.out
          subst e1
          have hqb := eq_bool yv
          have hokY : ∀ z ∈ Y, okN z := fun z hz => may_ok (HN.out.may z hz) (HZ.out z hz)
          have HOKY := Lib.hid hokY
          clear hokY HYV HXV
          go_wp2_with fail
          refine (merge_all Am i cm Y _ rY HOKY.out (by omega)).mono ?_
          rintro _ w3 ⟨A3, m3, c3, Y3, rfl, hO, hN3, hH3, _, hm3, g3⟩
          obtain rfl := same_nets HN.out hN3 (fun x => (hH3 x).trans (HH.out x)) HH.out
          have r3 := hO.rd
          replace rY := (rY.below g3).more g3.size
          replace rB := (rB.below g3).more g3.size
          replace f1 := f1.trans (g3.mono f1.size)
          clear hO hN3 hH3 g3
          go_wp2_with fail
          refine (same_any A3 Am m3 c3 i cm Y3 Y3 _ r3 rY (by omega) (by omega)).mono ?_
          rintro _ w4 ⟨rfl, qn, rfl⟩
          rw [decide_eq_true rfl]
          replace f1 := belowN f1 qn
          replace rY : RdR ntC 2 (w3.drewN qn) (w3.drewN qn).heap.size Am i Y3 := rY
          replace rB : RdR ntC 2 (w3.drewN qn) (w3.drewN qn).heap.size Ab (n - 0) L.reverse := rB
          clear r3
          generalize w3.drewN qn = w4 at *
          go_wp2_with fail
          refine (merge_all Ab (n - 0) cb L.reverse _ rB (fun z hz => HOK.out z (List.mem_reverse.1 hz)) (by omega)).mono ?_
          rintro _ w5 ⟨A5, m5, c5, Y5, rfl, hO, hN5, hH5, _, hm5, g5⟩
          obtain rfl := same_nets HN.out hN5 (fun x => (hH5 x).trans (has_rev L x)) HH.out
          have r5 := hO.rd
          replace rY := (rY.below g5).more g5.size
          replace f1 := f1.trans (g5.mono f1.size)
          clear hO hN5 hH5 g5 rB
          go_wp2_with fail
          refine (same_any A5 Am m5 c5 i cm Y5 Y5 _ r5 rY (by omega) (by omega)).mono ?_
          rintro _ w6 ⟨rfl, qm, rfl⟩
          rw [decide_eq_true rfl]
          replace f1 := belowN f1 qm
          clear r5 rY
          generalize w5.drewN qm = w6 at *
          go_wp2_with fail
          refine (awake4_any _ (hW.below hlt f1)).mono ?_
          rintro _ w7 ⟨rfl, f7⟩
          go_wp2_with fail
          go_ret
          exact ⟨rfl, f1.trans (f7.mono f1.size)⟩
    · have hjl : j < L.length := by rw [HL.out]; omega
      have hd := drop_any x hjl
      have hr := drop_rev hjl
      rw [HXV.out] at hd
      have rl := ((rL.below (G1.out.trans (f1.mono hs1))).more (Nat.le_trans hs1 f1.size))
      obtain ⟨bL, oL, hA, hbL, l0, l1⟩ := rl.net (show j < n by omega)
      have ho := HOK.out (ntAt L j) (by rw [ntAt_eq hjl]; exact List.getElem_mem _)
      obtain ⟨p1, p2, hp⟩ : ∃ a b, ntAt L j = (a, b) := ⟨_, _, rfl⟩
      rw [hp] at l0 l1 hd hr ho
      simp only at l0 l1
      have hin := fun w => in_any p1 p2 x w ho hx
      obtain ⟨iv, hiv⟩ : ∃ q, nIn (p1, p2) x = q := ⟨_, rfl⟩
      rw [hiv] at hin hd
      have HD := Lib.hid hd; have HR := Lib.hid hr
      clear hd hr hiv hp ho HXV
      have e1 : (((j + 1 : Nat) : Int) - 1) = (j : Int) := by omega
      rw [e1]
      clear e1
      have b1 : (0 : Int) ≤ (j : Int) := by omega
      have b2 : (j : Int) < (n : Int) := by omega
      have b3 : decide ((0 : Int) ≤ (j : Int)) = true := by simp
      have v1 : IntKind.i64.wrap ((j : Int) - 1) = (j : Int) - 1 := IntWalk.i64_in _ (by omega)
      unfold ntV at hin
      subst hA
      go_upto_region 9 with fail
      go_cut [6] (fun v6 wx => v6 = .bool (iv || xv) ∧ OwnR ntC 2 wx w1.heap.size 24 (.slice Ab (n - (j + 1)) cb) (L.drop (j + 1)).reverse ∧ RdR ntC 2 wx w1.heap.size Am m Y ∧ (wx.cell? ⟨bL, oL + j * 2, none⟩ = some (.int .u32 (p1 : Int)) ∧ wx.cell? ⟨bL, oL + j * 2 + 1, none⟩ = some (.int .i64 p2)) ∧ Below w1.heap.size w1 wx)
      case first =>
        rcases xv with _ | _
        · go_wp2_with fail
          refine (hin _).mono ?_
          rintro _ w9 ⟨rfl, f9⟩
          replace l0 := (f9.below.cell (p := ⟨bL, oL + j * 2, none⟩) hbL).trans l0
          replace l1 := (f9.below.cell (p := ⟨bL, oL + j * 2 + 1, none⟩) hbL).trans l1
          replace oB := oB.below (Nat.le_refl _) f9.below
          replace rY := rY.below (f9.below.mono f1.size)
          replace f1 := f1.trans (f9.below.mono f1.size)
          go_wp2_with fail
          go_meet
          exact ⟨by rw [Bool.or_false], oB, rY, ⟨l0, l1⟩, f1⟩
        · go_wp2_with fail
          go_meet
          exact ⟨by rw [Bool.or_true], oB, rY, ⟨l0, l1⟩, f1⟩
      case rest =>
        clear oB rY l0 l1 f1 hin hbL rl
        obtain ⟨rfl, oB, rY, ⟨l0, l1⟩, f1⟩ := hcut
        obtain ⟨wz, rfl⟩ : ∃ wz : World, wz = wc := ⟨_, rfl⟩
        have oz := one_net wz p1 p2 (wz.heap.size + 1) (by omega)
        have hbp : Below w1.heap.size wz (wz.alloc (.cells #[.int .u32 (p1 : Int), .int .i64 p2] 24)) := (Below.refl _ _).alloc f1.size _
        have hcap := oB.cap
        go_wp2_with (first | (at_builtin; go_must (refine appendRow TC ntC_len ntC_one rfl rfl rfl (oB.below (Nat.le_refl _) ((Below.refl _ wz).alloc (Nat.le_refl _) _)) rfl oz (by omega) (by simp only [maxLen]; omega) hbp f1.size ?_); intro A5 c5 w5 o5 f5 g5))
        rw [HR.out] at o5
        have f6 := f1.trans f5
        have r6 := rY.below f5
        clear oB rY g5 oz hbp f5 f1 l0 l1
        have e3 : n - (j + 1) + 1 = n - j := by omega
        rw [e3] at o5
        have hjn2 : j ≤ n := by omega
        go_roundw
        case rel => exact ⟨j, A5, c5, hjn2, rfl, by rw [HD.out], by first | rfl | rw [e3], o5, r6, f6⟩
        case measure => first | (simp [intOf]; done) | (simp [intOf]; omega)
end Go.Proofs.YtddfgalofngoiaaDoor
