/- The document's In, Last, Covers. Condition: an address of 32 bits, bits that fit an int. -/
import Derived.Test.YtddfgalofngoiaaGreatDoorAddrRefA
namespace Go.Proofs.YtddfgalofngoiaaGreatDoor
open Go.RowKit Go.Sort
set_option linter.unusedVariables false
set_option linter.unusedSimpArgs false
theorem like_in {a : Nat} {b : Int} {x k : Nat} (hm : nMay (a, b) = true) (hk : (k : Int) ≤ max b 0) (hk2 : k ≤ 32) (he : ¬ ((k : Int) < b ∧ k < 32)) (h : likeAt x a k) : nIn (a, b) x = true := by
  have h1 := nk_bits hm
  have h2 := (nMay_iff (a, b)).1 hm
  simp only at h1 h2
  rw [in_like hm, show 32 - nk (a, b) = k by omega]
  exact h
theorem unlike_in {a : Nat} {b : Int} {x k : Nat} (hk : (k : Int) < b) (hk2 : k < 32) (h : bitN x k ≠ bitN a k) : nIn (a, b) x = false := by
  rcases hm : nMay (a, b) with _ | _
  · exact nIn_not hm
  · have h1 := nk_bits hm
    have h2 := (nMay_iff (a, b)).1 hm
    simp only at h1 h2
    rw [← Bool.not_eq_true, in_like hm]
    exact fun g => h (likeAt_bit (j := 32 - nk (a, b)) (by omega) (by omega) g)
set_option maxRecDepth 100000 in
set_option maxHeartbeats 2000000 in
theorem refIn_any (a : Nat) (b : Int) (x : Nat) (w : World) (hc : okN (a, b)) (hx : x < 4294967296) :
    Calls Tryz.prog 29 #[ntV a b, .int .u32 (x : Int)] w fun e w' => e = .returned (.bool (nIn (a, b) x)) ∧ Grn w w' := by
  have hma := fun w => refMay_any a b w hc
  have hlk := likeAt_0 hx hc.1
  obtain ⟨c0, c1, c2⟩ := hc
  simp only at c0 c1 c2 hlk
  obtain ⟨r, hr⟩ : ∃ r, nIn (a, b) x = r := ⟨_, rfl⟩
  rw [hr]
  have HR := Lib.hid hr; clear hr
  unfold ntV at *
  go_enter Tryz.func29, Tryz.ntmps29
  go_upto_region 1 with fail
  refine abs (fun w1 => BxS w.heap.size a b w1 ∧ Grn w w1) ⟨box_cells w a b, (Grn.refl w).alloc _⟩ ?_
  rintro w1 ⟨⟨e0, e1⟩, f1⟩
  go_wp2_with fail
  go_loopw [5] (fun i wr => ∃ k : Nat, i = .int .i64 k ∧ k ≤ 32 ∧ (k : Int) ≤ max b 0 ∧ likeAt x a k ∧ BxS w.heap.size a b wr ∧ Grn w wr) (fun i _ => 32 - (intOf i).toNat)
  case atStart => exact ⟨0, rfl, by omega, by omega, hlk, ⟨e0, e1⟩, f1⟩
  case round =>
    clear hlk e0 e1 f1
    obtain ⟨k, rfl, hk, hkb, hlk, ⟨e0, e1⟩, f1⟩ := hrel
    have HLK := Lib.hid hlk; clear hlk
    by_cases hin : (k : Int) < b ∧ k < 32
    · obtain ⟨h1, h2⟩ := hin
      have d1 : decide ((k : Int) < b) = true := by simp; omega
      have d2 : decide ((k : Int) < 32) = true := by simp; omega
      have hbit := fun y w hy => refBit_any y k w hy h2
      by_cases he : bitN x k = bitN a k
      · have HS := Lib.hid (likeAt_step h2 HLK.out he)
        have vv : (bitN x k == bitN a k) = true := by rw [he]; cases bitN a k <;> rfl
        have vw : (bitN x k != bitN a k) = false := by rw [he]; cases bitN a k <;> rfl
        clear he
        go_wp2_with fail
        go_quiet ((go_at_call 53; exact Calls.quiet_of_same ((hbit _ _ (by assumption)).mono fun _ _ ⟨h, e⟩ => ⟨h, e.symm⟩)))
        go_wp2_with fail
        go_roundw
        case rel => exact ⟨k + 1, by go_num, by omega, by omega, HS.out, ⟨e0, e1⟩, f1.drewN _⟩
        case measure => simp [intOf]; omega
      · have : r = false := by rw [← HR.out]; exact unlike_in h1 h2 he
        subst this
        have vv : (bitN x k == bitN a k) = false := by rw [beq_eq_false_iff_ne]; exact he
        have vw : (bitN x k != bitN a k) = true := by rw [bne_iff_ne]; exact he
        clear he
        go_wp2_with fail
        go_quiet ((go_at_call 53; exact Calls.quiet_of_same ((hbit _ _ (by assumption)).mono fun _ _ ⟨h, e⟩ => ⟨h, e.symm⟩)))
        go_wp2_with fail
        go_ret
        exact ⟨rfl, f1.drewN _⟩
    · have hend : ∀ m : Bool, nMay (a, b) = m → r = m := fun m hm => by
        rw [← HR.out]
        rcases m with _ | _
        · exact nIn_not hm
        · exact like_in hm hkb hk hin HLK.out
      obtain ⟨m, hm⟩ : ∃ m, nMay (a, b) = m := ⟨_, rfl⟩
      obtain rfl := hend m hm
      rw [hm] at hma
      clear hm hend
      by_cases h1 : (k : Int) < b
      · have d1 : decide ((k : Int) < b) = true := by simp; omega
        have d2 : decide ((k : Int) < 32) = false := by simp; omega
        clear hin
        go_wp2_with fail
        refine (hma _).mono ?_
        rintro e w2 ⟨rfl, f2⟩
        have f3 := f1.trans f2
        go_wp2_with fail
        go_ret
        exact ⟨rfl, f3⟩
      · have d1 : decide ((k : Int) < b) = false := by simp; omega
        clear hin
        go_wp2_with fail
        refine (hma _).mono ?_
        rintro e w2 ⟨rfl, f2⟩
        have f3 := f1.trans f2
        go_wp2_with fail
        go_ret
        exact ⟨rfl, f3⟩
set_option maxRecDepth 100000 in
set_option maxHeartbeats 2000000 in
theorem refLast_any (a : Nat) (b : Int) (w : World) (hc : okN (a, b)) (hm : nMay (a, b) = true) :
    Calls Tryz.prog 32 #[ntV a b] w fun e w' => e = .returned (.int .u32 ((nhi (a, b) - 1 : Nat) : Int)) ∧ Grn w w' := by
  have hhi := hi_le hm hc.1
  have hnk := nk_bits hm
  have hbb := (nMay_iff (a, b)).1 hm
  have hz : nhi (a, b) = a + 2 ^ nk (a, b) := rfl
  obtain ⟨c0, c1, c2⟩ := hc
  simp only at c0 c1 c2 hnk hbb
  obtain ⟨n, hn⟩ : ∃ n, nk (a, b) = n := ⟨_, rfl⟩
  rw [hn] at hnk hz
  obtain ⟨y, hy⟩ : ∃ y, nhi (a, b) - 1 = y := ⟨_, rfl⟩
  rw [hy]
  have hy2 : a + 2 ^ n - 1 = y := by rw [← hy, hz]
  rw [hz] at hhi
  have HY := Lib.hid hy2
  have HHI := Lib.hid hhi
  clear hy hy2 hz hn hhi hm
  unfold ntV
  go_enter Tryz.func32, Tryz.ntmps32
  go_upto_region 1 with fail
  refine abs (fun w1 => BxS w.heap.size a b w1 ∧ Grn w w1) ⟨box_cells w a b, (Grn.refl w).alloc _⟩ ?_
  rintro w1 ⟨⟨e0, e1⟩, f1⟩
  go_wp2_with fail
  go_loop [3, 4, 5] (fun s3 s4 s5 => ∃ j : Nat, j ≤ n ∧ s3 = .int .u32 ((a + 2 ^ j - 1 : Nat) : Int) ∧ s4 = .int .u32 ((2 ^ j % 4294967296 : Nat) : Int) ∧ s5 = .int .i64 (32 - (j : Int))) (fun _ _ s5 => (intOf s5 - b).toNat)
  case atStart => exact ⟨0, by omega, by rw [Nat.pow_zero, Nat.add_sub_cancel], rfl, rfl⟩
  case round =>
    obtain ⟨j, hj, rfl, rfl, rfl⟩ := hrel
    by_cases hlt : j < n
    · have d1 : decide (b < 32 - (j : Int)) = true := by simp; omega
      have hp : 2 ^ (j + 1) ≤ 2 ^ n := Nat.pow_le_pow_right (by omega) hlt
      have hp2 := Nat.pow_succ 2 j
      have hp3 := Nat.pow_pos (n := j) (show 0 < 2 by omega)
      have hh := HHI.out
      have hsm : 2 ^ j < 4294967296 := by omega
      have hmod : 2 ^ j % 4294967296 = 2 ^ j := Nat.mod_eq_of_lt hsm
      rw [hmod]
      have hA : a + 2 ^ (j + 1) - 1 = (a + 2 ^ j - 1) + 2 ^ j := by omega
      have hB : 2 ^ (j + 1) % 4294967296 = 2 * 2 ^ j % 4294967296 := by rw [hp2, Nat.mul_comm]
      have hbig : (a + 2 ^ j - 1) + 2 ^ j < 4294967296 := by omega
      have HA := Lib.hid hA; have HB := Lib.hid hB
      clear hA hB hh hp hp2 hmod
      obtain ⟨u, hu⟩ : ∃ u, a + 2 ^ j - 1 = u := ⟨_, rfl⟩
      rw [hu] at hbig ⊢
      have HU := Lib.hid hu; clear hu
      obtain ⟨v, hv⟩ : ∃ v, 2 ^ j = v := ⟨_, rfl⟩
      rw [hv] at hbig hsm hp3 ⊢
      have HV := Lib.hid hv; clear hv
      have w1 : IntKind.u32.wrap ((u : Int) + (v : Int)) = (u : Int) + (v : Int) := IntWalk.u32_in _ (by omega)
      have w2 : IntKind.u32.wrap (2 * (v : Int)) = ((2 * v % 4294967296 : Nat) : Int) := by
        rw [IntKind.wrap_u32']; omega
      have w3 : IntKind.i64.wrap (32 - (j : Int) - 1) = 32 - ((j + 1 : Nat) : Int) := by rw [IntWalk.i64_in _ (by omega)]; omega
      go_wp2_with fail
      go_round
      case rel => exact ⟨j + 1, by omega, by rw [HA.out, HU.out, HV.out]; first | rfl | (push_cast; rfl) | go_num, by rw [HB.out, HV.out]; exact congrArg (Value.int .u32) (by omega), by first | rfl | go_num⟩
      case measure => simp [intOf]; omega
    · have d1 : decide (b < 32 - (j : Int)) = false := by simp; omega
      obtain rfl : j = n := by omega
      rw [HY.out]
      go_wp2_with fail
      go_ret
      exact ⟨rfl, f1⟩
set_option maxRecDepth 100000 in
set_option maxHeartbeats 4000000 in
theorem refCov_any (a : Nat) (b : Int) (c : Nat) (d : Int) (w : World) (hc : okN (a, b)) (hd : okN (c, d)) :
    Calls Tryz.prog 31 #[ntV a b, ntV c d] w fun e w' => e = .returned (.bool (nCov (a, b) (c, d))) ∧ Grn w w' := by
  have hma := fun w => refMay_any a b w hc
  have hmb := fun w => refMay_any c d w hd
  have hi1 := fun w => refIn_any a b c w hc hd.1
  have hld := fun h w => refLast_any c d w hd h
  have hi2 := fun (h : nMay (c, d) = true) w => refIn_any a b (nhi (c, d) - 1) w hc (by have := hi_le h hd.1; have := nhi_gt (c, d); omega)
  have hl := last_in (c := (a, b)) (d := (c, d))
  obtain ⟨r, hr⟩ : ∃ r, nCov (a, b) (c, d) = r := ⟨_, rfl⟩
  rw [hr] at hl ⊢
  have HL := Lib.hid hl
  clear hr hl
  generalize nMay (a, b) = mc at *
  generalize nIn (a, b) c = i1 at *
  generalize nIn (a, b) (nhi (c, d) - 1) = i2 at *
  generalize nhi (c, d) - 1 = y at *
  generalize nMay (c, d) = md at *
  unfold ntV at *
  go_enter Tryz.func31, Tryz.ntmps31
  go_upto_region 1 with fail
  refine abs (fun w1 => (BxS w.heap.size a b w1 ∧ BxS (w.heap.size + 1) c d w1) ∧ Grn w w1) ⟨⟨(box_two w a b c d).1, (box_two w a b c d).2⟩, ((Grn.refl w).alloc _).alloc _⟩ ?_
  rintro w1 ⟨⟨⟨e0, e1⟩, e2, e3⟩, f1⟩
  rcases mc with _ | _
  · obtain rfl : r = false := HL.out
    clear HL hmb hi1 hld hi2
    refine wp_region_order (fun u => BxS w.heap.size a b u ∧ BxS (w.heap.size + 1) c d u) 99 [(0,0), (1,1), (2,0), (3,0), (4,1), (5,0), (6,0), (7,0), (8,0), (9,0), (10,1), (11,0), (12,0), (13,0), (14,0), (15,1), (16,1), (17,0), (18,0)] (by kernel_rfl) (by kernel_rfl) ?_
    simp only [pick, List.filterMap_cons, List.filterMap_nil, List.getElem?_cons_zero, List.getElem?_cons_succ, Option.map_some]
    have hS : BxS w.heap.size a b w1.drew ∧ BxS (w.heap.size + 1) c d w1.drew := ⟨⟨e0, e1⟩, e2, e3⟩
    have F1 : Grn w w1.drew := f1.drew
    clear f1 e0 e1 e2 e3
    generalize w1.drew = wd at *
    refine wpF_take (v := ?_) hS rfl ?_ (fun _ _ _ h => h) ?_
    rotate_left
    · intro w' hS'
      obtain ⟨⟨e0, e1⟩, e2, e3⟩ := hS'
      go_simp <;> rfl
    go_simp
    refine wpF_only rfl (fun K hK => ?_)
    go_wp2_with fail
    refine (hma _).mono ?_
    rintro _ w9 ⟨rfl, f9⟩
    replace F1 := F1.trans f9
    replace hS := BxS.both hS f9.below
    clear f9
    go_wp2_with fail
    first | refine ⟨fun _ => hS, ?_⟩ | refine ⟨hS, ?_⟩ | skip
    go_simp
    refine wpF_take (v := ?_) hS rfl ?_ (fun _ _ _ h => h) ?_
    rotate_left
    · intro w' hS'
      obtain ⟨⟨e0, e1⟩, e2, e3⟩ := hS'
      go_simp <;> rfl
    go_simp
    refine wpF_skip hS rfl (fun _ _ _ h => h) ?_
    go_simp
    refine wpF_pass rfl (fun _ => hS) ?_
    go_simp
    refine wpF_take (v := ?_) hS rfl ?_ (fun _ _ _ h => h) ?_
    rotate_left
    · intro w' hS'
      obtain ⟨⟨e0, e1⟩, e2, e3⟩ := hS'
      go_simp <;> rfl
    go_simp
    refine wpF_take (v := ?_) hS rfl ?_ (fun _ _ _ h => h) ?_
    rotate_left
    · intro w' hS'
      obtain ⟨⟨e0, e1⟩, e2, e3⟩ := hS'
      go_simp <;> rfl
    go_simp
    refine wpF_skip hS rfl (fun _ _ _ h => h) ?_
    go_simp
    refine wpF_skip hS rfl (fun _ _ _ h => h) ?_
    go_simp
    refine wpF_skip hS rfl (fun _ _ _ h => h) ?_
    go_simp
    refine wpF_pass rfl (fun _ => hS) ?_
    go_simp
    refine wpF_take (v := ?_) hS rfl ?_ (fun _ _ _ h => h) ?_
    rotate_left
    · intro w' hS'
      obtain ⟨⟨e0, e1⟩, e2, e3⟩ := hS'
      go_simp <;> rfl
    go_simp
    refine wpF_take (v := ?_) hS rfl ?_ (fun _ _ _ h => h) ?_
    rotate_left
    · intro w' hS'
      obtain ⟨⟨e0, e1⟩, e2, e3⟩ := hS'
      go_simp <;> rfl
    go_simp
    refine wpF_skip hS rfl (fun _ _ _ h => h) ?_
    go_simp
    refine wpF_skip hS rfl (fun _ _ _ h => h) ?_
    go_simp
    refine wpF_pass rfl (fun _ => hS) ?_
    go_simp
    refine wpF_pass rfl (fun _ => hS) ?_
    go_simp
    refine wpF_take (v := ?_) hS rfl ?_ (fun _ _ _ h => h) ?_
    rotate_left
    · intro w' hS'
      obtain ⟨⟨e0, e1⟩, e2, e3⟩ := hS'
      go_simp <;> rfl
    go_simp
    refine wpF_take (v := ?_) hS rfl ?_ (fun _ _ _ h => h) ?_
    rotate_left
    · intro w' hS'
      obtain ⟨⟨e0, e1⟩, e2, e3⟩ := hS'
      go_simp <;> rfl
    go_simp
    refine wpF_nil ?_
    go_wp2_with fail
    go_ret
    exact ⟨rfl, F1⟩
  · rcases md with _ | _
    · obtain rfl : r = false := HL.out
      clear HL hi1 hld hi2
      refine wp_region_order (fun u => BxS w.heap.size a b u ∧ BxS (w.heap.size + 1) c d u) 99 [(0,0), (1,1), (2,0), (3,0), (4,1), (5,0), (6,0), (7,0), (8,0), (9,0), (10,1), (11,0), (12,0), (13,0), (14,0), (15,1), (16,1), (17,0), (18,0)] (by kernel_rfl) (by kernel_rfl) ?_
      simp only [pick, List.filterMap_cons, List.filterMap_nil, List.getElem?_cons_zero, List.getElem?_cons_succ, Option.map_some]
      have hS : BxS w.heap.size a b w1.drew ∧ BxS (w.heap.size + 1) c d w1.drew := ⟨⟨e0, e1⟩, e2, e3⟩
      have F1 : Grn w w1.drew := f1.drew
      clear f1 e0 e1 e2 e3
      generalize w1.drew = wd at *
      refine wpF_take (v := ?_) hS rfl ?_ (fun _ _ _ h => h) ?_
      rotate_left
      · intro w' hS'
        obtain ⟨⟨e0, e1⟩, e2, e3⟩ := hS'
        go_simp <;> rfl
      go_simp
      refine wpF_only rfl (fun K hK => ?_)
      go_wp2_with fail
      refine (hma _).mono ?_
      rintro _ w9 ⟨rfl, f9⟩
      replace F1 := F1.trans f9
      replace hS := BxS.both hS f9.below
      clear f9
      go_wp2_with fail
      first | refine ⟨fun _ => hS, ?_⟩ | refine ⟨hS, ?_⟩ | skip
      go_simp
      refine wpF_take (v := ?_) hS rfl ?_ (fun _ _ _ h => h) ?_
      rotate_left
      · intro w' hS'
        obtain ⟨⟨e0, e1⟩, e2, e3⟩ := hS'
        go_simp <;> rfl
      go_simp
      refine wpF_take (v := ?_) hS rfl ?_ (fun _ _ _ h => h) ?_
      rotate_left
      · intro w' hS'
        obtain ⟨⟨e0, e1⟩, e2, e3⟩ := hS'
        go_simp <;> rfl
      go_simp
      refine wpF_only rfl (fun K hK => ?_)
      go_wp2_with fail
      refine (hmb _).mono ?_
      rintro _ w9 ⟨rfl, f9⟩
      replace F1 := F1.trans f9
      replace hS := BxS.both hS f9.below
      clear f9
      go_wp2_with fail
      first | refine ⟨fun _ => hS, ?_⟩ | refine ⟨hS, ?_⟩ | skip
      go_simp
      refine wpF_take (v := ?_) hS rfl ?_ (fun _ _ _ h => h) ?_
      rotate_left
      · intro w' hS'
        obtain ⟨⟨e0, e1⟩, e2, e3⟩ := hS'
        go_simp <;> rfl
      go_simp
      refine wpF_take (v := ?_) hS rfl ?_ (fun _ _ _ h => h) ?_
      rotate_left
      · intro w' hS'
        obtain ⟨⟨e0, e1⟩, e2, e3⟩ := hS'
        go_simp <;> rfl
      go_simp
      refine wpF_skip hS rfl (fun _ _ _ h => h) ?_
      go_simp
      refine wpF_skip hS rfl (fun _ _ _ h => h) ?_
      go_simp
      refine wpF_skip hS rfl (fun _ _ _ h => h) ?_
      go_simp
      refine wpF_pass rfl (fun _ => hS) ?_
      go_simp
      refine wpF_take (v := ?_) hS rfl ?_ (fun _ _ _ h => h) ?_
      rotate_left
      · intro w' hS'
        obtain ⟨⟨e0, e1⟩, e2, e3⟩ := hS'
        go_simp <;> rfl
      go_simp
      refine wpF_take (v := ?_) hS rfl ?_ (fun _ _ _ h => h) ?_
      rotate_left
      · intro w' hS'
        obtain ⟨⟨e0, e1⟩, e2, e3⟩ := hS'
        go_simp <;> rfl
      go_simp
      refine wpF_skip hS rfl (fun _ _ _ h => h) ?_
      go_simp
      refine wpF_skip hS rfl (fun _ _ _ h => h) ?_
      go_simp
      refine wpF_pass rfl (fun _ => hS) ?_
      go_simp
      refine wpF_pass rfl (fun _ => hS) ?_
      go_simp
      refine wpF_take (v := ?_) hS rfl ?_ (fun _ _ _ h => h) ?_
      rotate_left
      · intro w' hS'
        obtain ⟨⟨e0, e1⟩, e2, e3⟩ := hS'
        go_simp <;> rfl
      go_simp
      refine wpF_take (v := ?_) hS rfl ?_ (fun _ _ _ h => h) ?_
      rotate_left
      · intro w' hS'
        obtain ⟨⟨e0, e1⟩, e2, e3⟩ := hS'
        go_simp <;> rfl
      go_simp
      refine wpF_nil ?_
      go_wp2_with fail
      go_ret
      exact ⟨rfl, F1⟩
    · replace hld := hld rfl
      replace hi2 := hi2 rfl
      rcases i1 with _ | _
      · obtain rfl : r = false := HL.out
        clear HL hld hi2
        refine wp_region_order (fun u => BxS w.heap.size a b u ∧ BxS (w.heap.size + 1) c d u) 99 [(0,0), (1,1), (2,0), (3,0), (4,1), (5,0), (6,0), (7,0), (8,0), (9,0), (10,1), (11,0), (12,0), (13,0), (14,0), (15,1), (16,1), (17,0), (18,0)] (by kernel_rfl) (by kernel_rfl) ?_
        simp only [pick, List.filterMap_cons, List.filterMap_nil, List.getElem?_cons_zero, List.getElem?_cons_succ, Option.map_some]
        have hS : BxS w.heap.size a b w1.drew ∧ BxS (w.heap.size + 1) c d w1.drew := ⟨⟨e0, e1⟩, e2, e3⟩
        have F1 : Grn w w1.drew := f1.drew
        clear f1 e0 e1 e2 e3
        generalize w1.drew = wd at *
        refine wpF_take (v := ?_) hS rfl ?_ (fun _ _ _ h => h) ?_
        rotate_left
        · intro w' hS'
          obtain ⟨⟨e0, e1⟩, e2, e3⟩ := hS'
          go_simp <;> rfl
        go_simp
        refine wpF_only rfl (fun K hK => ?_)
        go_wp2_with fail
        refine (hma _).mono ?_
        rintro _ w9 ⟨rfl, f9⟩
        replace F1 := F1.trans f9
        replace hS := BxS.both hS f9.below
        clear f9
        go_wp2_with fail
        first | refine ⟨fun _ => hS, ?_⟩ | refine ⟨hS, ?_⟩ | skip
        go_simp
        refine wpF_take (v := ?_) hS rfl ?_ (fun _ _ _ h => h) ?_
        rotate_left
        · intro w' hS'
          obtain ⟨⟨e0, e1⟩, e2, e3⟩ := hS'
          go_simp <;> rfl
        go_simp
        refine wpF_take (v := ?_) hS rfl ?_ (fun _ _ _ h => h) ?_
        rotate_left
        · intro w' hS'
          obtain ⟨⟨e0, e1⟩, e2, e3⟩ := hS'
          go_simp <;> rfl
        go_simp
        refine wpF_only rfl (fun K hK => ?_)
        go_wp2_with fail
        refine (hmb _).mono ?_
        rintro _ w9 ⟨rfl, f9⟩
        replace F1 := F1.trans f9
        replace hS := BxS.both hS f9.below
        clear f9
        go_wp2_with fail
        first | refine ⟨fun _ => hS, ?_⟩ | refine ⟨hS, ?_⟩ | skip
        go_simp
        refine wpF_take (v := ?_) hS rfl ?_ (fun _ _ _ h => h) ?_
        rotate_left
        · intro w' hS'
          obtain ⟨⟨e0, e1⟩, e2, e3⟩ := hS'
          go_simp <;> rfl
        go_simp
        refine wpF_take (v := ?_) hS rfl ?_ (fun _ _ _ h => h) ?_
        rotate_left
        · intro w' hS'
          obtain ⟨⟨e0, e1⟩, e2, e3⟩ := hS'
          go_simp <;> rfl
        go_simp
        refine wpF_take (v := ?_) hS rfl ?_ (fun _ _ _ h => h) ?_
        rotate_left
        · intro w' hS'
          obtain ⟨⟨e0, e1⟩, e2, e3⟩ := hS'
          go_simp <;> rfl
        go_simp
        refine wpF_take (v := ?_) hS rfl ?_ (fun _ _ _ h => h) ?_
        rotate_left
        · intro w' hS'
          obtain ⟨⟨e0, e1⟩, e2, e3⟩ := hS'
          go_simp <;> rfl
        go_simp
        refine wpF_take (v := ?_) hS rfl ?_ (fun _ _ _ h => h) ?_
        rotate_left
        · intro w' hS'
          obtain ⟨⟨e0, e1⟩, e2, e3⟩ := hS'
          go_simp <;> rfl
        go_simp
        refine wpF_only rfl (fun K hK => ?_)
        go_wp2_with fail
        refine (hi1 _).mono ?_
        rintro _ w9 ⟨rfl, f9⟩
        replace F1 := F1.trans f9
        replace hS := BxS.both hS f9.below
        clear f9
        go_wp2_with fail
        first | refine ⟨fun _ => hS, ?_⟩ | refine ⟨hS, ?_⟩ | skip
        go_simp
        refine wpF_take (v := ?_) hS rfl ?_ (fun _ _ _ h => h) ?_
        rotate_left
        · intro w' hS'
          obtain ⟨⟨e0, e1⟩, e2, e3⟩ := hS'
          go_simp <;> rfl
        go_simp
        refine wpF_take (v := ?_) hS rfl ?_ (fun _ _ _ h => h) ?_
        rotate_left
        · intro w' hS'
          obtain ⟨⟨e0, e1⟩, e2, e3⟩ := hS'
          go_simp <;> rfl
        go_simp
        refine wpF_skip hS rfl (fun _ _ _ h => h) ?_
        go_simp
        refine wpF_skip hS rfl (fun _ _ _ h => h) ?_
        go_simp
        refine wpF_pass rfl (fun _ => hS) ?_
        go_simp
        refine wpF_pass rfl (fun _ => hS) ?_
        go_simp
        refine wpF_take (v := ?_) hS rfl ?_ (fun _ _ _ h => h) ?_
        rotate_left
        · intro w' hS'
          obtain ⟨⟨e0, e1⟩, e2, e3⟩ := hS'
          go_simp <;> rfl
        go_simp
        refine wpF_take (v := ?_) hS rfl ?_ (fun _ _ _ h => h) ?_
        rotate_left
        · intro w' hS'
          obtain ⟨⟨e0, e1⟩, e2, e3⟩ := hS'
          go_simp <;> rfl
        go_simp
        refine wpF_nil ?_
        go_wp2_with fail
        go_ret
        exact ⟨rfl, F1⟩
      · obtain rfl : r = i2 := HL.out
        clear HL
        refine wp_region_order (fun u => BxS w.heap.size a b u ∧ BxS (w.heap.size + 1) c d u) 99 [(0,0), (1,1), (2,0), (3,0), (4,1), (5,0), (6,0), (7,0), (8,0), (9,0), (10,1), (11,0), (12,0), (13,0), (14,0), (15,1), (16,1), (17,0), (18,0)] (by kernel_rfl) (by kernel_rfl) ?_
        simp only [pick, List.filterMap_cons, List.filterMap_nil, List.getElem?_cons_zero, List.getElem?_cons_succ, Option.map_some]
        have hS : BxS w.heap.size a b w1.drew ∧ BxS (w.heap.size + 1) c d w1.drew := ⟨⟨e0, e1⟩, e2, e3⟩
        have F1 : Grn w w1.drew := f1.drew
        clear f1 e0 e1 e2 e3
        generalize w1.drew = wd at *
        refine wpF_take (v := ?_) hS rfl ?_ (fun _ _ _ h => h) ?_
        rotate_left
        · intro w' hS'
          obtain ⟨⟨e0, e1⟩, e2, e3⟩ := hS'
          go_simp <;> rfl
        go_simp
        refine wpF_only rfl (fun K hK => ?_)
        go_wp2_with fail
        refine (hma _).mono ?_
        rintro _ w9 ⟨rfl, f9⟩
        replace F1 := F1.trans f9
        replace hS := BxS.both hS f9.below
        clear f9
        go_wp2_with fail
        first | refine ⟨fun _ => hS, ?_⟩ | refine ⟨hS, ?_⟩ | skip
        go_simp
        refine wpF_take (v := ?_) hS rfl ?_ (fun _ _ _ h => h) ?_
        rotate_left
        · intro w' hS'
          obtain ⟨⟨e0, e1⟩, e2, e3⟩ := hS'
          go_simp <;> rfl
        go_simp
        refine wpF_take (v := ?_) hS rfl ?_ (fun _ _ _ h => h) ?_
        rotate_left
        · intro w' hS'
          obtain ⟨⟨e0, e1⟩, e2, e3⟩ := hS'
          go_simp <;> rfl
        go_simp
        refine wpF_only rfl (fun K hK => ?_)
        go_wp2_with fail
        refine (hmb _).mono ?_
        rintro _ w9 ⟨rfl, f9⟩
        replace F1 := F1.trans f9
        replace hS := BxS.both hS f9.below
        clear f9
        go_wp2_with fail
        first | refine ⟨fun _ => hS, ?_⟩ | refine ⟨hS, ?_⟩ | skip
        go_simp
        refine wpF_take (v := ?_) hS rfl ?_ (fun _ _ _ h => h) ?_
        rotate_left
        · intro w' hS'
          obtain ⟨⟨e0, e1⟩, e2, e3⟩ := hS'
          go_simp <;> rfl
        go_simp
        refine wpF_take (v := ?_) hS rfl ?_ (fun _ _ _ h => h) ?_
        rotate_left
        · intro w' hS'
          obtain ⟨⟨e0, e1⟩, e2, e3⟩ := hS'
          go_simp <;> rfl
        go_simp
        refine wpF_take (v := ?_) hS rfl ?_ (fun _ _ _ h => h) ?_
        rotate_left
        · intro w' hS'
          obtain ⟨⟨e0, e1⟩, e2, e3⟩ := hS'
          go_simp <;> rfl
        go_simp
        refine wpF_take (v := ?_) hS rfl ?_ (fun _ _ _ h => h) ?_
        rotate_left
        · intro w' hS'
          obtain ⟨⟨e0, e1⟩, e2, e3⟩ := hS'
          go_simp <;> rfl
        go_simp
        refine wpF_take (v := ?_) hS rfl ?_ (fun _ _ _ h => h) ?_
        rotate_left
        · intro w' hS'
          obtain ⟨⟨e0, e1⟩, e2, e3⟩ := hS'
          go_simp <;> rfl
        go_simp
        refine wpF_only rfl (fun K hK => ?_)
        go_wp2_with fail
        refine (hi1 _).mono ?_
        rintro _ w9 ⟨rfl, f9⟩
        replace F1 := F1.trans f9
        replace hS := BxS.both hS f9.below
        clear f9
        go_wp2_with fail
        first | refine ⟨fun _ => hS, ?_⟩ | refine ⟨hS, ?_⟩ | skip
        go_simp
        refine wpF_take (v := ?_) hS rfl ?_ (fun _ _ _ h => h) ?_
        rotate_left
        · intro w' hS'
          obtain ⟨⟨e0, e1⟩, e2, e3⟩ := hS'
          go_simp <;> rfl
        go_simp
        refine wpF_take (v := ?_) hS rfl ?_ (fun _ _ _ h => h) ?_
        rotate_left
        · intro w' hS'
          obtain ⟨⟨e0, e1⟩, e2, e3⟩ := hS'
          go_simp <;> rfl
        go_simp
        refine wpF_take (v := ?_) hS rfl ?_ (fun _ _ _ h => h) ?_
        rotate_left
        · intro w' hS'
          obtain ⟨⟨e0, e1⟩, e2, e3⟩ := hS'
          go_simp <;> rfl
        go_simp
        refine wpF_take (v := ?_) hS rfl ?_ (fun _ _ _ h => h) ?_
        rotate_left
        · intro w' hS'
          obtain ⟨⟨e0, e1⟩, e2, e3⟩ := hS'
          go_simp <;> rfl
        go_simp
        refine wpF_only rfl (fun K hK => ?_)
        go_wp2_with fail
        refine (hld _).mono ?_
        rintro _ w9 ⟨rfl, f9⟩
        replace F1 := F1.trans f9
        replace hS := BxS.both hS f9.below
        clear f9
        go_wp2_with fail
        first | refine ⟨fun _ => hS, ?_⟩ | refine ⟨hS, ?_⟩ | skip
        go_simp
        refine wpF_only rfl (fun K hK => ?_)
        go_wp2_with fail
        refine (hi2 _).mono ?_
        rintro _ w9 ⟨rfl, f9⟩
        replace F1 := F1.trans f9
        replace hS := BxS.both hS f9.below
        clear f9
        go_wp2_with fail
        first | refine ⟨fun _ => hS, ?_⟩ | refine ⟨hS, ?_⟩ | skip
        go_simp
        refine wpF_take (v := ?_) hS rfl ?_ (fun _ _ _ h => h) ?_
        rotate_left
        · intro w' hS'
          obtain ⟨⟨e0, e1⟩, e2, e3⟩ := hS'
          go_simp <;> rfl
        go_simp
        refine wpF_take (v := ?_) hS rfl ?_ (fun _ _ _ h => h) ?_
        rotate_left
        · intro w' hS'
          obtain ⟨⟨e0, e1⟩, e2, e3⟩ := hS'
          go_simp <;> rfl
        go_simp
        refine wpF_nil ?_
        go_wp2_with fail
        go_ret
        exact ⟨rfl, F1⟩
end Go.Proofs.YtddfgalofngoiaaGreatDoor
