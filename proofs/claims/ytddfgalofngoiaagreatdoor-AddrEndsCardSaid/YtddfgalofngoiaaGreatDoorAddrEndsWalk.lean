/- The law AddrEnds, walked. Condition: the library's variables hold what they should. -/
import Derived.Test.YtddfgalofngoiaaGreatDoorAddrAwake
import Derived.Test.YtddfgalofngoiaaGreatDoorAddrH
import Derived.Test.YtddfgalofngoiaaGreatDoorAddrLaw
import Derived.Test.YtddfgalofngoiaaGreatDoorNetOpen
import Derived.Deep.DeepCutAuto
namespace Go.Proofs.YtddfgalofngoiaaGreatDoor
open Go.RowKit Go.Sort
set_option linter.unusedVariables false
set_option linter.unusedSimpArgs false
def Bx3 (g a : Nat) (b : Int) (c : Nat) (d : Int) (e : Nat) (f : Int) (u : World) : Prop := BxS g a b u ∧ BxS (g + 1) c d u ∧ BxS (g + 2) e f u
theorem Bx3.below {g a c e : Nat} {b d f : Int} {u v : World} (h : Bx3 g a b c d e f u) (hb : Below u.heap.size u v) : Bx3 g a b c d e f v := ⟨h.1.below hb, h.2.1.below hb, h.2.2.below hb⟩
theorem Bx3.new (w : World) (a : Nat) (b : Int) (c : Nat) (d : Int) (e : Nat) (f : Int) : Bx3 w.heap.size a b c d e f (((w.alloc (.cells #[.int .u32 (a : Int), .int .i64 b] 29)).alloc (.cells #[.int .u32 (c : Int), .int .i64 d] 29)).alloc (.cells #[.int .u32 (e : Int), .int .i64 f] 29)) := by
  have h := box_two w a b c d
  have g := (Below.refl _ ((w.alloc (.cells #[.int .u32 (a : Int), .int .i64 b] 29)).alloc (.cells #[.int .u32 (c : Int), .int .i64 d] 29))).alloc (Nat.le_refl _) (.cells #[.int .u32 (e : Int), .int .i64 f] 29)
  refine ⟨h.1.below g, h.2.below g, ?_⟩
  have h3 := Blk.newAt (w := (w.alloc (.cells #[.int .u32 (a : Int), .int .i64 b] 29)).alloc (.cells #[.int .u32 (c : Int), .int .i64 d] 29)) (g := w.heap.size + 2) (by simp) 29 #[.int .u32 (e : Int), .int .i64 f]
  exact ⟨h3.cell 0, h3.cell 1⟩
/-- Two halves, in a block. -/
def Hv (g : Nat) (p q : Nt) (u : World) : Prop := u.cell? ⟨g, 0, none⟩ = some (.int .u32 (p.1 : Int)) ∧ u.cell? ⟨g, 1, none⟩ = some (.int .i64 p.2) ∧ u.cell? ⟨g, 2, none⟩ = some (.int .u32 (q.1 : Int)) ∧ u.cell? ⟨g, 3, none⟩ = some (.int .i64 q.2)
theorem Hv.of {g : Nat} {p q : Nt} {u : World} (h : Blk u g 29 (flatR ntC [p, q])) : Hv g p q u := ⟨h.cell 0, h.cell 1, h.cell 2, h.cell 3⟩
theorem Hv.below {g : Nat} {p q : Nt} {u v : World} (h : Hv g p q u) (hb : Below u.heap.size u v) : Hv g p q v :=
  ⟨(hb.cell (p := ⟨g, 0, none⟩) (World.block_lt_of_cell? u _ h.1)).trans h.1, (hb.cell (p := ⟨g, 1, none⟩) (World.block_lt_of_cell? u _ h.2.1)).trans h.2.1, (hb.cell (p := ⟨g, 2, none⟩) (World.block_lt_of_cell? u _ h.2.2.1)).trans h.2.2.1, (hb.cell (p := ⟨g, 3, none⟩) (World.block_lt_of_cell? u _ h.2.2.2)).trans h.2.2.2⟩
def BxH (s a : Nat) (b : Int) (g : Nat) (p q : Nt) (u : World) : Prop := BxS s a b u ∧ Hv g p q u
theorem BxH.below {s a g : Nat} {b : Int} {p q : Nt} {u v : World} (h : BxH s a b g p q u) (hb : Below u.heap.size u v) : BxH s a b g p q v := ⟨h.1.below hb, h.2.below hb⟩
theorem in_nt (c : Nt) (x : Nat) (w : World) (hc : okN c) (hx : x < 4294967296) : Calls Tryz.prog 28 #[ntV c.1 c.2, .int .u32 (x : Int)] w fun e w' => e = .returned (.bool (nIn c x)) ∧ Grn w w' := in_any c.1 c.2 x w hc hx
theorem okN_low {c : Nt} (hm : nMay c = true) (h : c.2 < 32) (hc : okN c) : okN (nLow c) ∧ okN (nHigh c) := by
  obtain ⟨k, hk⟩ := half_of hm h
  have H := halved hm hk
  have h1 := hi_le H.mhigh (by rw [H.mid, H.hlow]; have := hi_le hm hc.1; rw [H.gap] at this; have := Nat.pow_pos (n := k) (show 0 < 2 by omega); omega)
  have h2 := nhi_gt (nHigh c)
  have h0 := ((nMay_iff c).1 hm).1
  refine ⟨⟨hc.1, ?_, ?_⟩, ⟨by omega, ?_, ?_⟩⟩
  all_goals
    first | (show _ ≤ c.2 + 1; omega) | (show c.2 + 1 ≤ _; omega)
set_option maxRecDepth 100000 in
set_option maxHeartbeats 8000000 in
theorem addrEnds_no (w : World) (hW : LdW w) (x : Nat) (hx : x < 4294967296) (a : Nat) (b : Int) (hc : okN (a, b)) (c : Nat) (d : Int) (hd : okN (c, d)) (e : Nat) (f : Int) (he : okN (e, f)) (hm : nMay (a, b) = false) :
    Calls Tryz.prog 6 #[.int .u32 (x : Int), ntV a b, ntV c d, ntV e f] w fun e w' => e = .returned (.bool true) ∧ Below w.heap.size w w' := by
  have hlt := hW.lt
  have hfi := fun w => first_any a b w hc
  have hla := fun w => last_any a b w hc
  have hin := fun w => in_any a b x w hc hx
  have hcd := fun w => cov_any a b c d w hc hd
  rw [hm] at hfi hla
  simp only [Bool.false_eq_true, if_false, if_true] at hfi hla
  have hn : nIn (a, b) x = false := by rw [nIn_ends, hm]; rfl
  have hk : nCov (a, b) (c, d) = false := (cov_no (.inl hm)).1
  have hno := fun w => halves_no a b w hc (.inl hm)
  rw [hn] at hin
  rw [hk] at hcd
  clear hn hk hm
  unfold ntV at *
  go_enter Tryz.func6, Tryz.ntmps6
  go_upto_region 1 with fail
  refine abs (fun w1 => Bx3 w.heap.size a b c d e f w1 ∧ Below w.heap.size w w1) ⟨Bx3.new w a b c d e f, (((Below.refl _ w).alloc (Nat.le_refl _) _).alloc (by simp) _).alloc (by simp; omega) _⟩ ?_
  rintro w1 ⟨hS1, f1⟩
  have hS2 := hS1
  obtain ⟨⟨e0, e1⟩, ⟨e2, e3⟩, e4, e5⟩ := hS2
  go_wp2_with fail
  refine (hfi w1).mono ?_
  rintro _ w2 ⟨rfl, f2⟩
  replace hS1 := hS1.below f2.below
  replace f1 := f1.trans (f2.below.mono f1.size)
  clear e0 e1 e2 e3 e4 e5 f2
  have hS2 := hS1
  obtain ⟨⟨e0, e1⟩, ⟨e2, e3⟩, e4, e5⟩ := hS2
  go_wp2_with fail
  refine (hla w2).mono ?_
  rintro _ w3 ⟨rfl, f3⟩
  replace hS1 := hS1.below f3.below
  replace f1 := f1.trans (f3.below.mono f1.size)
  clear e0 e1 e2 e3 e4 e5 f3
  have hS2 := hS1
  obtain ⟨⟨e0, e1⟩, ⟨e2, e3⟩, e4, e5⟩ := hS2
  go_wp2_with fail
  refine (hin w3).mono ?_
  rintro _ w4 ⟨rfl, f4⟩
  replace hS1 := hS1.below f4.below
  replace f1 := f1.trans (f4.below.mono f1.size)
  clear e0 e1 e2 e3 e4 e5 f4
  have hS2 := hS1
  obtain ⟨⟨e0, e1⟩, ⟨e2, e3⟩, e4, e5⟩ := hS2
  go_wp2_with fail
  refine (hno w4).mono ?_
  rintro _ w5 ⟨rfl, f5⟩
  replace hS1 := hS1.below f5
  replace f1 := f1.trans (f5.mono f1.size)
  clear e0 e1 e2 e3 e4 e5 f5
  have hS2 := hS1
  obtain ⟨⟨e0, e1⟩, ⟨e2, e3⟩, e4, e5⟩ := hS2
  go_upto_region 6 with fail
  go_quiet (fail)
  replace f1 := belowN f1 nq
  replace hS1 : Bx3 w.heap.size a b c d e f (w5.drewN nq) := hS1
  clear e0 e1 e2 e3 e4 e5
  have hS2 := hS1
  obtain ⟨⟨e0, e1⟩, ⟨e2, e3⟩, e4, e5⟩ := hS2
  go_wp2_with fail
  refine (hcd _).mono ?_
  rintro _ w6 ⟨rfl, f6⟩
  replace f1 := f1.trans (f6.below.mono f1.size)
  clear e0 e1 e2 e3 e4 e5 f6
  go_wp2_with fail
  refine (awake4_any w6 (hW.below hlt f1)).mono ?_
  rintro e9 w9 ⟨rfl, f9⟩
  go_wp2_with fail
  go_ret
  exact ⟨rfl, f1.trans (f9.mono f1.size)⟩
set_option maxRecDepth 100000 in
set_option maxHeartbeats 8000000 in
theorem addrEnds_yes (w : World) (hW : LdW w) (x : Nat) (hx : x < 4294967296) (a : Nat) (b : Int) (hc : okN (a, b)) (c : Nat) (d : Int) (hd : okN (c, d)) (e : Nat) (f : Int) (he : okN (e, f)) (hm : nMay (a, b) = true) :
    Calls Tryz.prog 6 #[.int .u32 (x : Int), ntV a b, ntV c d, ntV e f] w fun e w' => e = .returned (.bool true) ∧ Below w.heap.size w w' := by
  have hlt := hW.lt
  have hfi := fun w => first_any a b w hc
  have hla := fun w => last_any a b w hc
  have hin := fun w => in_any a b x w hc hx
  have hcd := fun w => cov_any a b c d w hc hd
  rw [hm] at hfi hla
  simp only [Bool.false_eq_true, if_false, if_true] at hfi hla
  have hde := fun w => cov_any c d e f w hd he
  have hce := fun w => cov_any a b e f w hc he
  have hdi := fun w => in_any c d x w hd hx
  have hno := fun w h => halves_no a b w hc (.inr h)
  have hyes := fun w => halves_yes a b w hc hm
  have hLW : b < 32 → okN (nLow (a, b)) ∧ okN (nHigh (a, b)) := fun h2 => okN_low hm h2 hc
  have hE : nIn (a, b) x = (decide (a ≤ x) && decide (x ≤ nhi (a, b) - 1)) := by rw [nIn_ends, hm]; rfl
  have HO := Lib.hid (fun (h2 : b < 32) => half_or hm h2 x)
  have HA := Lib.hid (fun (h2 : b < 32) => half_and hm h2 x)
  have hB := (nMay_iff (a, b)).1 hm
  have hb32 : b ≤ 32 := hB.2.1
  have HT := Lib.hid (fun (h : nCov (a, b) (c, d) = true) (g : nCov (c, d) (e, f) = true) => cov_trans h g)
  have HT2 := Lib.hid (fun (h : nCov (a, b) (c, d) = true) (g : nIn (c, d) x = true) => cov_in h g)
  have hnh : nhi (a, b) - 1 < 4294967296 := by have := hi_le hm hc.1; omega
  have HLW := Lib.hid hLW; have HE := Lib.hid hE; clear hLW hE hB hm
  have hin' := hin
  obtain ⟨r, hr⟩ : ∃ r, nIn (a, b) x = r := ⟨_, rfl⟩
  generalize nhi (a, b) - 1 = y at *
  rw [hr] at hin
  have HR := Lib.hid hr; clear hr
  unfold ntV at *
  go_enter Tryz.func6, Tryz.ntmps6
  go_upto_region 1 with fail
  refine abs (fun w1 => Bx3 w.heap.size a b c d e f w1 ∧ Below w.heap.size w w1) ⟨Bx3.new w a b c d e f, (((Below.refl _ w).alloc (Nat.le_refl _) _).alloc (by simp) _).alloc (by simp; omega) _⟩ ?_
  rintro w1 ⟨hS1, f1⟩
  have hS2 := hS1
  obtain ⟨⟨e0, e1⟩, ⟨e2, e3⟩, e4, e5⟩ := hS2
  go_wp2_with fail
  refine (hfi w1).mono ?_
  rintro _ w2 ⟨rfl, f2⟩
  replace hS1 := hS1.below f2.below
  replace f1 := f1.trans (f2.below.mono f1.size)
  clear e0 e1 e2 e3 e4 e5 f2
  have hS2 := hS1
  obtain ⟨⟨e0, e1⟩, ⟨e2, e3⟩, e4, e5⟩ := hS2
  go_wp2_with fail
  refine (hla w2).mono ?_
  rintro _ w3 ⟨rfl, f3⟩
  replace hS1 := hS1.below f3.below
  replace f1 := f1.trans (f3.below.mono f1.size)
  clear e0 e1 e2 e3 e4 e5 f3
  have hS2 := hS1
  obtain ⟨⟨e0, e1⟩, ⟨e2, e3⟩, e4, e5⟩ := hS2
  go_upto_region 3 with fail
  go_cut [39] (fun v39 wx => v39 = .bool false ∧ Bx3 w.heap.size a b c d e f wx ∧ Below w.heap.size w wx)
  case first =>
    have q0 := HR.out
    rw [HE.out] at q0
    have HQ := Lib.hid q0
    clear q0
    by_cases c0 : a ≤ x
    · by_cases c1 : x ≤ y
      · have hr : r = true := by rw [← HQ.out, decide_eq_true c0, decide_eq_true c1]; rfl
        subst hr
        go_wp2_with fail
        refine (hin w3).mono ?_
        rintro _ w4 ⟨rfl, f4⟩
        replace hS1 := hS1.below f4.below
        replace f1 := f1.trans (f4.below.mono f1.size)
        clear f4
        go_wp2_with fail
        go_meet
        exact ⟨rfl, hS1, f1⟩
      · have hr : r = false := by rw [← HQ.out, decide_eq_false c1, Bool.and_false]
        subst hr
        go_wp2_with fail
        refine (hin w3).mono ?_
        rintro _ w4 ⟨rfl, f4⟩
        replace hS1 := hS1.below f4.below
        replace f1 := f1.trans (f4.below.mono f1.size)
        clear f4
        go_wp2_with fail
        go_meet
        exact ⟨rfl, hS1, f1⟩
    · have hr : r = false := by rw [← HQ.out, decide_eq_false c0]; rfl
      subst hr
      go_wp2_with fail
      refine (hin w3).mono ?_
      rintro _ w4 ⟨rfl, f4⟩
      replace hS1 := hS1.below f4.below
      replace f1 := f1.trans (f4.below.mono f1.size)
      clear f4
      go_wp2_with fail
      go_meet
      exact ⟨rfl, hS1, f1⟩
  case rest =>
    clear hS1 f1 e0 e1 e2 e3 e4 e5
    obtain ⟨rfl, hS1, f1⟩ := hcut
    have hS2 := hS1
    obtain ⟨⟨e0, e1⟩, ⟨e2, e3⟩, e4, e5⟩ := hS2
    by_cases h32 : b < 32
    · replace hyes := fun w => hyes w h32
      go_wp2_with fail
      refine (hyes _).mono ?_
      rintro _ w5 ⟨g, rfl, hg, kg, f5⟩
      obtain ⟨g0, g1, g2, g3⟩ := Hv.of kg
      replace hS1 := hS1.below f5
      replace f1 := f1.trans (f5.mono f1.size)
      clear e0 e1 e2 e3 e4 e5 f5 kg hg
      have hS2 := hS1
      obtain ⟨⟨e0, e1⟩, ⟨e2, e3⟩, e4, e5⟩ := hS2
      go_upto_region 6 with fail
      go_cut [82] (fun v82 wx => v82 = .bool false ∧ Bx3 w.heap.size a b c d e f wx ∧ Below w.heap.size w wx)
      case first =>
        have ho := HO.out h32
        have ha := HA.out h32
        rw [HR.out] at ho
        obtain ⟨ok0, ok1⟩ := HLW.out h32
        have hi0 := fun w => in_nt (nLow (a, b)) x w ok0 hx
        have hi1 := fun w => in_nt (nHigh (a, b)) x w ok1 hx
        unfold ntV at hi0 hi1
        generalize nIn (nLow (a, b)) x = x0 at *
        generalize nIn (nHigh (a, b)) x = x1 at *
        clear ok0 ok1
        rcases x0 with _ | _ <;> rcases x1 with _ | _
        · simp only [Bool.or_self, Bool.or_true, Bool.or_false, Bool.true_or, Bool.false_or] at ho
          subst ho
          clear ha
          rename_i J0 K0 hj0 hk0
          refine wp_region_order (BxH w.heap.size a b g (nLow (a, b)) (nHigh (a, b))) 99 [(0,0), (1,0), (2,0), (3,0), (4,0), (5,0), (6,0), (7,0), (8,0), (9,0), (10,1), (11,0), (12,0), (13,0), (14,0), (15,0), (16,1), (17,0), (18,0), (19,0), (20,0), (21,0), (22,0), (23,0), (32,0), (33,0), (24,1), (25,0), (26,0), (27,0), (28,0), (29,0), (30,1), (31,0), (34,1), (35,0), (36,0), (37,0)] (by kernel_rfl) (by kernel_rfl) ?_
          simp only [pick, List.filterMap_cons, List.filterMap_nil, List.getElem?_cons_zero, List.getElem?_cons_succ, Option.map_some]
          have hS : BxH w.heap.size a b g (nLow (a, b)) (nHigh (a, b)) w5.drew := ⟨⟨e0, e1⟩, g0, g1, g2, g3⟩
          have F1 : Below w.heap.size w w5.drew := f1.drew
          have hB : Bx3 w.heap.size a b c d e f w5.drew := hS1
          clear f1 hS1 e0 e1 e2 e3 e4 e5 g0 g1 g2 g3
          generalize w5.drew = wd at *
          refine wpF_take (v := ?_) hS rfl ?_ (fun _ _ _ h => h) ?_
          rotate_left
          · intro w' hS'
            obtain ⟨⟨e0, e1⟩, e2, e3, e4, e5⟩ := hS'
            go_simp <;> rfl
          go_simp
          refine wpF_take (v := ?_) hS rfl ?_ (fun _ _ _ h => h) ?_
          rotate_left
          · intro w' hS'
            obtain ⟨⟨e0, e1⟩, e2, e3, e4, e5⟩ := hS'
            go_simp <;> rfl
          go_simp
          refine wpF_take (v := ?_) hS rfl ?_ (fun _ _ _ h => h) ?_
          rotate_left
          · intro w' hS'
            obtain ⟨⟨e0, e1⟩, e2, e3, e4, e5⟩ := hS'
            go_simp <;> rfl
          go_simp
          refine wpF_take (v := ?_) hS rfl ?_ (fun _ _ _ h => h) ?_
          rotate_left
          · intro w' hS'
            obtain ⟨⟨e0, e1⟩, e2, e3, e4, e5⟩ := hS'
            go_simp <;> rfl
          go_simp
          refine wpF_take (v := ?_) hS rfl ?_ (fun _ _ _ h => h) ?_
          rotate_left
          · intro w' hS'
            obtain ⟨⟨e0, e1⟩, e2, e3, e4, e5⟩ := hS'
            go_simp <;> rfl
          go_simp
          refine wpF_take (v := ?_) hS rfl ?_ (fun _ _ _ h => h) ?_
          rotate_left
          · intro w' hS'
            obtain ⟨⟨e0, e1⟩, e2, e3, e4, e5⟩ := hS'
            go_simp <;> rfl
          go_simp
          refine wpF_take (v := ?_) hS rfl ?_ (fun _ _ _ h => h) ?_
          rotate_left
          · intro w' hS'
            obtain ⟨⟨e0, e1⟩, e2, e3, e4, e5⟩ := hS'
            go_simp <;> rfl
          go_simp
          refine wpF_take (v := ?_) hS rfl ?_ (fun _ _ _ h => h) ?_
          rotate_left
          · intro w' hS'
            obtain ⟨⟨e0, e1⟩, e2, e3, e4, e5⟩ := hS'
            go_simp <;> rfl
          go_simp
          refine wpF_take (v := ?_) hS rfl ?_ (fun _ _ _ h => h) ?_
          rotate_left
          · intro w' hS'
            obtain ⟨⟨e0, e1⟩, e2, e3, e4, e5⟩ := hS'
            go_simp <;> rfl
          go_simp
          refine wpF_take (v := ?_) hS rfl ?_ (fun _ _ _ h => h) ?_
          rotate_left
          · intro w' hS'
            obtain ⟨⟨e0, e1⟩, e2, e3, e4, e5⟩ := hS'
            go_simp <;> rfl
          go_simp
          refine wpF_only rfl (fun K hK => ?_)
          go_wp2_with fail
          refine (hi0 _).mono ?_
          rintro _ w9 ⟨rfl, f9⟩
          replace F1 := F1.trans (f9.below.mono F1.size)
          replace hS := hS.below f9.below
          replace hB := hB.below f9.below
          clear f9
          go_wp2_with fail
          first | refine ⟨fun _ => hS, ?_⟩ | refine ⟨hS, ?_⟩ | skip
          go_simp
          refine wpF_take (v := ?_) hS rfl ?_ (fun _ _ _ h => h) ?_
          rotate_left
          · intro w' hS'
            obtain ⟨⟨e0, e1⟩, e2, e3, e4, e5⟩ := hS'
            go_simp <;> rfl
          go_simp
          refine wpF_skip hS rfl (fun _ _ _ h => h) ?_
          go_simp
          refine wpF_skip hS rfl (fun _ _ _ h => h) ?_
          go_simp
          refine wpF_skip hS rfl (fun _ _ _ h => h) ?_
          go_simp
          refine wpF_skip hS rfl (fun _ _ _ h => h) ?_
          go_simp
          refine wpF_pass rfl (fun _ => hS) ?_
          go_simp
          refine wpF_take (v := ?_) hS rfl ?_ (fun _ _ _ h => h) ?_
          rotate_left
          · intro w' hS'
            obtain ⟨⟨e0, e1⟩, e2, e3, e4, e5⟩ := hS'
            go_simp <;> rfl
          go_simp
          refine wpF_take (v := ?_) hS rfl ?_ (fun _ _ _ h => h) ?_
          rotate_left
          · intro w' hS'
            obtain ⟨⟨e0, e1⟩, e2, e3, e4, e5⟩ := hS'
            go_simp <;> rfl
          go_simp
          refine wpF_take (v := ?_) hS rfl ?_ (fun _ _ _ h => h) ?_
          rotate_left
          · intro w' hS'
            obtain ⟨⟨e0, e1⟩, e2, e3, e4, e5⟩ := hS'
            go_simp <;> rfl
          go_simp
          refine wpF_take (v := ?_) hS rfl ?_ (fun _ _ _ h => h) ?_
          rotate_left
          · intro w' hS'
            obtain ⟨⟨e0, e1⟩, e2, e3, e4, e5⟩ := hS'
            go_simp <;> rfl
          go_simp
          refine wpF_take (v := ?_) hS rfl ?_ (fun _ _ _ h => h) ?_
          rotate_left
          · intro w' hS'
            obtain ⟨⟨e0, e1⟩, e2, e3, e4, e5⟩ := hS'
            go_simp <;> rfl
          go_simp
          refine wpF_take (v := ?_) hS rfl ?_ (fun _ _ _ h => h) ?_
          rotate_left
          · intro w' hS'
            obtain ⟨⟨e0, e1⟩, e2, e3, e4, e5⟩ := hS'
            go_simp <;> rfl
          go_simp
          refine wpF_take (v := ?_) hS rfl ?_ (fun _ _ _ h => h) ?_
          rotate_left
          · intro w' hS'
            obtain ⟨⟨e0, e1⟩, e2, e3, e4, e5⟩ := hS'
            go_simp <;> rfl
          go_simp
          refine wpF_take (v := ?_) hS rfl ?_ (fun _ _ _ h => h) ?_
          rotate_left
          · intro w' hS'
            obtain ⟨⟨e0, e1⟩, e2, e3, e4, e5⟩ := hS'
            go_simp <;> rfl
          go_simp
          refine wpF_take (v := ?_) hS rfl ?_ (fun _ _ _ h => h) ?_
          rotate_left
          · intro w' hS'
            obtain ⟨⟨e0, e1⟩, e2, e3, e4, e5⟩ := hS'
            go_simp <;> rfl
          go_simp
          refine wpF_only rfl (fun K hK => ?_)
          go_wp2_with fail
          refine (hi0 _).mono ?_
          rintro _ w9 ⟨rfl, f9⟩
          replace F1 := F1.trans (f9.below.mono F1.size)
          replace hS := hS.below f9.below
          replace hB := hB.below f9.below
          clear f9
          go_wp2_with fail
          first | refine ⟨fun _ => hS, ?_⟩ | refine ⟨hS, ?_⟩ | skip
          go_simp
          refine wpF_take (v := ?_) hS rfl ?_ (fun _ _ _ h => h) ?_
          rotate_left
          · intro w' hS'
            obtain ⟨⟨e0, e1⟩, e2, e3, e4, e5⟩ := hS'
            go_simp <;> rfl
          go_simp
          refine wpF_take (v := ?_) hS rfl ?_ (fun _ _ _ h => h) ?_
          rotate_left
          · intro w' hS'
            obtain ⟨⟨e0, e1⟩, e2, e3, e4, e5⟩ := hS'
            go_simp <;> rfl
          go_simp
          refine wpF_take (v := ?_) hS rfl ?_ (fun _ _ _ h => h) ?_
          rotate_left
          · intro w' hS'
            obtain ⟨⟨e0, e1⟩, e2, e3, e4, e5⟩ := hS'
            go_simp <;> rfl
          go_simp
          refine wpF_take (v := ?_) hS rfl ?_ (fun _ _ _ h => h) ?_
          rotate_left
          · intro w' hS'
            obtain ⟨⟨e0, e1⟩, e2, e3, e4, e5⟩ := hS'
            go_simp <;> rfl
          go_simp
          refine wpF_take (v := ?_) hS rfl ?_ (fun _ _ _ h => h) ?_
          rotate_left
          · intro w' hS'
            obtain ⟨⟨e0, e1⟩, e2, e3, e4, e5⟩ := hS'
            go_simp <;> rfl
          go_simp
          refine wpF_only rfl (fun K hK => ?_)
          go_wp2_with fail
          refine (hi1 _).mono ?_
          rintro _ w9 ⟨rfl, f9⟩
          replace F1 := F1.trans (f9.below.mono F1.size)
          replace hS := hS.below f9.below
          replace hB := hB.below f9.below
          clear f9
          go_wp2_with fail
          first | refine ⟨fun _ => hS, ?_⟩ | refine ⟨hS, ?_⟩ | skip
          go_simp
          refine wpF_take (v := ?_) hS rfl ?_ (fun _ _ _ h => h) ?_
          rotate_left
          · intro w' hS'
            obtain ⟨⟨e0, e1⟩, e2, e3, e4, e5⟩ := hS'
            go_simp <;> rfl
          go_simp
          refine wpF_only rfl (fun K hK => ?_)
          go_wp2_with fail
          refine (hin _).mono ?_
          rintro _ w9 ⟨rfl, f9⟩
          replace F1 := F1.trans (f9.below.mono F1.size)
          replace hS := hS.below f9.below
          replace hB := hB.below f9.below
          clear f9
          go_wp2_with fail
          first | refine ⟨fun _ => hS, ?_⟩ | refine ⟨hS, ?_⟩ | skip
          go_simp
          refine wpF_take (v := ?_) hS rfl ?_ (fun _ _ _ h => h) ?_
          rotate_left
          · intro w' hS'
            obtain ⟨⟨e0, e1⟩, e2, e3, e4, e5⟩ := hS'
            go_simp <;> rfl
          go_simp
          refine wpF_take (v := ?_) hS rfl ?_ (fun _ _ _ h => h) ?_
          rotate_left
          · intro w' hS'
            obtain ⟨⟨e0, e1⟩, e2, e3, e4, e5⟩ := hS'
            go_simp <;> rfl
          go_simp
          refine wpF_take (v := ?_) hS rfl ?_ (fun _ _ _ h => h) ?_
          rotate_left
          · intro w' hS'
            obtain ⟨⟨e0, e1⟩, e2, e3, e4, e5⟩ := hS'
            go_simp <;> rfl
          go_simp
          refine wpF_nil ?_
          refine hk0 _ _ (Met.intro (hj0 _ _ ?_))
          (repeat apply Exists.intro)
          exact ⟨⟨rfl, hB, F1⟩, rfl⟩
        · simp only [Bool.or_self, Bool.or_true, Bool.or_false, Bool.true_or, Bool.false_or] at ho
          subst ho
          clear ha
          rename_i J0 K0 hj0 hk0
          refine wp_region_order (BxH w.heap.size a b g (nLow (a, b)) (nHigh (a, b))) 99 [(0,0), (1,0), (2,0), (3,0), (4,0), (5,0), (6,0), (7,0), (8,0), (9,0), (10,1), (11,0), (12,0), (13,0), (14,0), (15,0), (16,1), (17,0), (18,0), (19,0), (20,0), (21,0), (22,0), (23,0), (32,0), (33,0), (24,1), (25,0), (26,0), (27,0), (28,0), (29,0), (30,1), (31,0), (34,1), (35,0), (36,0), (37,0)] (by kernel_rfl) (by kernel_rfl) ?_
          simp only [pick, List.filterMap_cons, List.filterMap_nil, List.getElem?_cons_zero, List.getElem?_cons_succ, Option.map_some]
          have hS : BxH w.heap.size a b g (nLow (a, b)) (nHigh (a, b)) w5.drew := ⟨⟨e0, e1⟩, g0, g1, g2, g3⟩
          have F1 : Below w.heap.size w w5.drew := f1.drew
          have hB : Bx3 w.heap.size a b c d e f w5.drew := hS1
          clear f1 hS1 e0 e1 e2 e3 e4 e5 g0 g1 g2 g3
          generalize w5.drew = wd at *
          refine wpF_take (v := ?_) hS rfl ?_ (fun _ _ _ h => h) ?_
          rotate_left
          · intro w' hS'
            obtain ⟨⟨e0, e1⟩, e2, e3, e4, e5⟩ := hS'
            go_simp <;> rfl
          go_simp
          refine wpF_take (v := ?_) hS rfl ?_ (fun _ _ _ h => h) ?_
          rotate_left
          · intro w' hS'
            obtain ⟨⟨e0, e1⟩, e2, e3, e4, e5⟩ := hS'
            go_simp <;> rfl
          go_simp
          refine wpF_take (v := ?_) hS rfl ?_ (fun _ _ _ h => h) ?_
          rotate_left
          · intro w' hS'
            obtain ⟨⟨e0, e1⟩, e2, e3, e4, e5⟩ := hS'
            go_simp <;> rfl
          go_simp
          refine wpF_take (v := ?_) hS rfl ?_ (fun _ _ _ h => h) ?_
          rotate_left
          · intro w' hS'
            obtain ⟨⟨e0, e1⟩, e2, e3, e4, e5⟩ := hS'
            go_simp <;> rfl
          go_simp
          refine wpF_take (v := ?_) hS rfl ?_ (fun _ _ _ h => h) ?_
          rotate_left
          · intro w' hS'
            obtain ⟨⟨e0, e1⟩, e2, e3, e4, e5⟩ := hS'
            go_simp <;> rfl
          go_simp
          refine wpF_take (v := ?_) hS rfl ?_ (fun _ _ _ h => h) ?_
          rotate_left
          · intro w' hS'
            obtain ⟨⟨e0, e1⟩, e2, e3, e4, e5⟩ := hS'
            go_simp <;> rfl
          go_simp
          refine wpF_take (v := ?_) hS rfl ?_ (fun _ _ _ h => h) ?_
          rotate_left
          · intro w' hS'
            obtain ⟨⟨e0, e1⟩, e2, e3, e4, e5⟩ := hS'
            go_simp <;> rfl
          go_simp
          refine wpF_take (v := ?_) hS rfl ?_ (fun _ _ _ h => h) ?_
          rotate_left
          · intro w' hS'
            obtain ⟨⟨e0, e1⟩, e2, e3, e4, e5⟩ := hS'
            go_simp <;> rfl
          go_simp
          refine wpF_take (v := ?_) hS rfl ?_ (fun _ _ _ h => h) ?_
          rotate_left
          · intro w' hS'
            obtain ⟨⟨e0, e1⟩, e2, e3, e4, e5⟩ := hS'
            go_simp <;> rfl
          go_simp
          refine wpF_take (v := ?_) hS rfl ?_ (fun _ _ _ h => h) ?_
          rotate_left
          · intro w' hS'
            obtain ⟨⟨e0, e1⟩, e2, e3, e4, e5⟩ := hS'
            go_simp <;> rfl
          go_simp
          refine wpF_only rfl (fun K hK => ?_)
          go_wp2_with fail
          refine (hi0 _).mono ?_
          rintro _ w9 ⟨rfl, f9⟩
          replace F1 := F1.trans (f9.below.mono F1.size)
          replace hS := hS.below f9.below
          replace hB := hB.below f9.below
          clear f9
          go_wp2_with fail
          first | refine ⟨fun _ => hS, ?_⟩ | refine ⟨hS, ?_⟩ | skip
          go_simp
          refine wpF_take (v := ?_) hS rfl ?_ (fun _ _ _ h => h) ?_
          rotate_left
          · intro w' hS'
            obtain ⟨⟨e0, e1⟩, e2, e3, e4, e5⟩ := hS'
            go_simp <;> rfl
          go_simp
          refine wpF_skip hS rfl (fun _ _ _ h => h) ?_
          go_simp
          refine wpF_skip hS rfl (fun _ _ _ h => h) ?_
          go_simp
          refine wpF_skip hS rfl (fun _ _ _ h => h) ?_
          go_simp
          refine wpF_skip hS rfl (fun _ _ _ h => h) ?_
          go_simp
          refine wpF_pass rfl (fun _ => hS) ?_
          go_simp
          refine wpF_take (v := ?_) hS rfl ?_ (fun _ _ _ h => h) ?_
          rotate_left
          · intro w' hS'
            obtain ⟨⟨e0, e1⟩, e2, e3, e4, e5⟩ := hS'
            go_simp <;> rfl
          go_simp
          refine wpF_take (v := ?_) hS rfl ?_ (fun _ _ _ h => h) ?_
          rotate_left
          · intro w' hS'
            obtain ⟨⟨e0, e1⟩, e2, e3, e4, e5⟩ := hS'
            go_simp <;> rfl
          go_simp
          refine wpF_take (v := ?_) hS rfl ?_ (fun _ _ _ h => h) ?_
          rotate_left
          · intro w' hS'
            obtain ⟨⟨e0, e1⟩, e2, e3, e4, e5⟩ := hS'
            go_simp <;> rfl
          go_simp
          refine wpF_take (v := ?_) hS rfl ?_ (fun _ _ _ h => h) ?_
          rotate_left
          · intro w' hS'
            obtain ⟨⟨e0, e1⟩, e2, e3, e4, e5⟩ := hS'
            go_simp <;> rfl
          go_simp
          refine wpF_take (v := ?_) hS rfl ?_ (fun _ _ _ h => h) ?_
          rotate_left
          · intro w' hS'
            obtain ⟨⟨e0, e1⟩, e2, e3, e4, e5⟩ := hS'
            go_simp <;> rfl
          go_simp
          refine wpF_take (v := ?_) hS rfl ?_ (fun _ _ _ h => h) ?_
          rotate_left
          · intro w' hS'
            obtain ⟨⟨e0, e1⟩, e2, e3, e4, e5⟩ := hS'
            go_simp <;> rfl
          go_simp
          refine wpF_take (v := ?_) hS rfl ?_ (fun _ _ _ h => h) ?_
          rotate_left
          · intro w' hS'
            obtain ⟨⟨e0, e1⟩, e2, e3, e4, e5⟩ := hS'
            go_simp <;> rfl
          go_simp
          refine wpF_take (v := ?_) hS rfl ?_ (fun _ _ _ h => h) ?_
          rotate_left
          · intro w' hS'
            obtain ⟨⟨e0, e1⟩, e2, e3, e4, e5⟩ := hS'
            go_simp <;> rfl
          go_simp
          refine wpF_take (v := ?_) hS rfl ?_ (fun _ _ _ h => h) ?_
          rotate_left
          · intro w' hS'
            obtain ⟨⟨e0, e1⟩, e2, e3, e4, e5⟩ := hS'
            go_simp <;> rfl
          go_simp
          refine wpF_only rfl (fun K hK => ?_)
          go_wp2_with fail
          refine (hi0 _).mono ?_
          rintro _ w9 ⟨rfl, f9⟩
          replace F1 := F1.trans (f9.below.mono F1.size)
          replace hS := hS.below f9.below
          replace hB := hB.below f9.below
          clear f9
          go_wp2_with fail
          first | refine ⟨fun _ => hS, ?_⟩ | refine ⟨hS, ?_⟩ | skip
          go_simp
          refine wpF_take (v := ?_) hS rfl ?_ (fun _ _ _ h => h) ?_
          rotate_left
          · intro w' hS'
            obtain ⟨⟨e0, e1⟩, e2, e3, e4, e5⟩ := hS'
            go_simp <;> rfl
          go_simp
          refine wpF_take (v := ?_) hS rfl ?_ (fun _ _ _ h => h) ?_
          rotate_left
          · intro w' hS'
            obtain ⟨⟨e0, e1⟩, e2, e3, e4, e5⟩ := hS'
            go_simp <;> rfl
          go_simp
          refine wpF_take (v := ?_) hS rfl ?_ (fun _ _ _ h => h) ?_
          rotate_left
          · intro w' hS'
            obtain ⟨⟨e0, e1⟩, e2, e3, e4, e5⟩ := hS'
            go_simp <;> rfl
          go_simp
          refine wpF_take (v := ?_) hS rfl ?_ (fun _ _ _ h => h) ?_
          rotate_left
          · intro w' hS'
            obtain ⟨⟨e0, e1⟩, e2, e3, e4, e5⟩ := hS'
            go_simp <;> rfl
          go_simp
          refine wpF_take (v := ?_) hS rfl ?_ (fun _ _ _ h => h) ?_
          rotate_left
          · intro w' hS'
            obtain ⟨⟨e0, e1⟩, e2, e3, e4, e5⟩ := hS'
            go_simp <;> rfl
          go_simp
          refine wpF_only rfl (fun K hK => ?_)
          go_wp2_with fail
          refine (hi1 _).mono ?_
          rintro _ w9 ⟨rfl, f9⟩
          replace F1 := F1.trans (f9.below.mono F1.size)
          replace hS := hS.below f9.below
          replace hB := hB.below f9.below
          clear f9
          go_wp2_with fail
          first | refine ⟨fun _ => hS, ?_⟩ | refine ⟨hS, ?_⟩ | skip
          go_simp
          refine wpF_take (v := ?_) hS rfl ?_ (fun _ _ _ h => h) ?_
          rotate_left
          · intro w' hS'
            obtain ⟨⟨e0, e1⟩, e2, e3, e4, e5⟩ := hS'
            go_simp <;> rfl
          go_simp
          refine wpF_only rfl (fun K hK => ?_)
          go_wp2_with fail
          refine (hin _).mono ?_
          rintro _ w9 ⟨rfl, f9⟩
          replace F1 := F1.trans (f9.below.mono F1.size)
          replace hS := hS.below f9.below
          replace hB := hB.below f9.below
          clear f9
          go_wp2_with fail
          first | refine ⟨fun _ => hS, ?_⟩ | refine ⟨hS, ?_⟩ | skip
          go_simp
          refine wpF_take (v := ?_) hS rfl ?_ (fun _ _ _ h => h) ?_
          rotate_left
          · intro w' hS'
            obtain ⟨⟨e0, e1⟩, e2, e3, e4, e5⟩ := hS'
            go_simp <;> rfl
          go_simp
          refine wpF_take (v := ?_) hS rfl ?_ (fun _ _ _ h => h) ?_
          rotate_left
          · intro w' hS'
            obtain ⟨⟨e0, e1⟩, e2, e3, e4, e5⟩ := hS'
            go_simp <;> rfl
          go_simp
          refine wpF_take (v := ?_) hS rfl ?_ (fun _ _ _ h => h) ?_
          rotate_left
          · intro w' hS'
            obtain ⟨⟨e0, e1⟩, e2, e3, e4, e5⟩ := hS'
            go_simp <;> rfl
          go_simp
          refine wpF_nil ?_
          refine hk0 _ _ (Met.intro (hj0 _ _ ?_))
          (repeat apply Exists.intro)
          exact ⟨⟨rfl, hB, F1⟩, rfl⟩
        · simp only [Bool.or_self, Bool.or_true, Bool.or_false, Bool.true_or, Bool.false_or] at ho
          subst ho
          clear ha
          rename_i J0 K0 hj0 hk0
          refine wp_region_order (BxH w.heap.size a b g (nLow (a, b)) (nHigh (a, b))) 99 [(0,0), (1,0), (2,0), (3,0), (4,0), (5,0), (6,0), (7,0), (8,0), (9,0), (10,1), (11,0), (12,0), (13,0), (14,0), (15,0), (16,1), (17,0), (18,0), (19,0), (20,0), (21,0), (22,0), (23,0), (32,0), (33,0), (24,1), (25,0), (26,0), (27,0), (28,0), (29,0), (30,1), (31,0), (34,1), (35,0), (36,0), (37,0)] (by kernel_rfl) (by kernel_rfl) ?_
          simp only [pick, List.filterMap_cons, List.filterMap_nil, List.getElem?_cons_zero, List.getElem?_cons_succ, Option.map_some]
          have hS : BxH w.heap.size a b g (nLow (a, b)) (nHigh (a, b)) w5.drew := ⟨⟨e0, e1⟩, g0, g1, g2, g3⟩
          have F1 : Below w.heap.size w w5.drew := f1.drew
          have hB : Bx3 w.heap.size a b c d e f w5.drew := hS1
          clear f1 hS1 e0 e1 e2 e3 e4 e5 g0 g1 g2 g3
          generalize w5.drew = wd at *
          refine wpF_take (v := ?_) hS rfl ?_ (fun _ _ _ h => h) ?_
          rotate_left
          · intro w' hS'
            obtain ⟨⟨e0, e1⟩, e2, e3, e4, e5⟩ := hS'
            go_simp <;> rfl
          go_simp
          refine wpF_take (v := ?_) hS rfl ?_ (fun _ _ _ h => h) ?_
          rotate_left
          · intro w' hS'
            obtain ⟨⟨e0, e1⟩, e2, e3, e4, e5⟩ := hS'
            go_simp <;> rfl
          go_simp
          refine wpF_take (v := ?_) hS rfl ?_ (fun _ _ _ h => h) ?_
          rotate_left
          · intro w' hS'
            obtain ⟨⟨e0, e1⟩, e2, e3, e4, e5⟩ := hS'
            go_simp <;> rfl
          go_simp
          refine wpF_take (v := ?_) hS rfl ?_ (fun _ _ _ h => h) ?_
          rotate_left
          · intro w' hS'
            obtain ⟨⟨e0, e1⟩, e2, e3, e4, e5⟩ := hS'
            go_simp <;> rfl
          go_simp
          refine wpF_take (v := ?_) hS rfl ?_ (fun _ _ _ h => h) ?_
          rotate_left
          · intro w' hS'
            obtain ⟨⟨e0, e1⟩, e2, e3, e4, e5⟩ := hS'
            go_simp <;> rfl
          go_simp
          refine wpF_take (v := ?_) hS rfl ?_ (fun _ _ _ h => h) ?_
          rotate_left
          · intro w' hS'
            obtain ⟨⟨e0, e1⟩, e2, e3, e4, e5⟩ := hS'
            go_simp <;> rfl
          go_simp
          refine wpF_take (v := ?_) hS rfl ?_ (fun _ _ _ h => h) ?_
          rotate_left
          · intro w' hS'
            obtain ⟨⟨e0, e1⟩, e2, e3, e4, e5⟩ := hS'
            go_simp <;> rfl
          go_simp
          refine wpF_take (v := ?_) hS rfl ?_ (fun _ _ _ h => h) ?_
          rotate_left
          · intro w' hS'
            obtain ⟨⟨e0, e1⟩, e2, e3, e4, e5⟩ := hS'
            go_simp <;> rfl
          go_simp
          refine wpF_take (v := ?_) hS rfl ?_ (fun _ _ _ h => h) ?_
          rotate_left
          · intro w' hS'
            obtain ⟨⟨e0, e1⟩, e2, e3, e4, e5⟩ := hS'
            go_simp <;> rfl
          go_simp
          refine wpF_take (v := ?_) hS rfl ?_ (fun _ _ _ h => h) ?_
          rotate_left
          · intro w' hS'
            obtain ⟨⟨e0, e1⟩, e2, e3, e4, e5⟩ := hS'
            go_simp <;> rfl
          go_simp
          refine wpF_only rfl (fun K hK => ?_)
          go_wp2_with fail
          refine (hi0 _).mono ?_
          rintro _ w9 ⟨rfl, f9⟩
          replace F1 := F1.trans (f9.below.mono F1.size)
          replace hS := hS.below f9.below
          replace hB := hB.below f9.below
          clear f9
          go_wp2_with fail
          first | refine ⟨fun _ => hS, ?_⟩ | refine ⟨hS, ?_⟩ | skip
          go_simp
          refine wpF_take (v := ?_) hS rfl ?_ (fun _ _ _ h => h) ?_
          rotate_left
          · intro w' hS'
            obtain ⟨⟨e0, e1⟩, e2, e3, e4, e5⟩ := hS'
            go_simp <;> rfl
          go_simp
          refine wpF_take (v := ?_) hS rfl ?_ (fun _ _ _ h => h) ?_
          rotate_left
          · intro w' hS'
            obtain ⟨⟨e0, e1⟩, e2, e3, e4, e5⟩ := hS'
            go_simp <;> rfl
          go_simp
          refine wpF_take (v := ?_) hS rfl ?_ (fun _ _ _ h => h) ?_
          rotate_left
          · intro w' hS'
            obtain ⟨⟨e0, e1⟩, e2, e3, e4, e5⟩ := hS'
            go_simp <;> rfl
          go_simp
          refine wpF_take (v := ?_) hS rfl ?_ (fun _ _ _ h => h) ?_
          rotate_left
          · intro w' hS'
            obtain ⟨⟨e0, e1⟩, e2, e3, e4, e5⟩ := hS'
            go_simp <;> rfl
          go_simp
          refine wpF_take (v := ?_) hS rfl ?_ (fun _ _ _ h => h) ?_
          rotate_left
          · intro w' hS'
            obtain ⟨⟨e0, e1⟩, e2, e3, e4, e5⟩ := hS'
            go_simp <;> rfl
          go_simp
          refine wpF_only rfl (fun K hK => ?_)
          go_wp2_with fail
          refine (hi1 _).mono ?_
          rintro _ w9 ⟨rfl, f9⟩
          replace F1 := F1.trans (f9.below.mono F1.size)
          replace hS := hS.below f9.below
          replace hB := hB.below f9.below
          clear f9
          go_wp2_with fail
          first | refine ⟨fun _ => hS, ?_⟩ | refine ⟨hS, ?_⟩ | skip
          go_simp
          refine wpF_take (v := ?_) hS rfl ?_ (fun _ _ _ h => h) ?_
          rotate_left
          · intro w' hS'
            obtain ⟨⟨e0, e1⟩, e2, e3, e4, e5⟩ := hS'
            go_simp <;> rfl
          go_simp
          refine wpF_take (v := ?_) hS rfl ?_ (fun _ _ _ h => h) ?_
          rotate_left
          · intro w' hS'
            obtain ⟨⟨e0, e1⟩, e2, e3, e4, e5⟩ := hS'
            go_simp <;> rfl
          go_simp
          refine wpF_take (v := ?_) hS rfl ?_ (fun _ _ _ h => h) ?_
          rotate_left
          · intro w' hS'
            obtain ⟨⟨e0, e1⟩, e2, e3, e4, e5⟩ := hS'
            go_simp <;> rfl
          go_simp
          refine wpF_take (v := ?_) hS rfl ?_ (fun _ _ _ h => h) ?_
          rotate_left
          · intro w' hS'
            obtain ⟨⟨e0, e1⟩, e2, e3, e4, e5⟩ := hS'
            go_simp <;> rfl
          go_simp
          refine wpF_take (v := ?_) hS rfl ?_ (fun _ _ _ h => h) ?_
          rotate_left
          · intro w' hS'
            obtain ⟨⟨e0, e1⟩, e2, e3, e4, e5⟩ := hS'
            go_simp <;> rfl
          go_simp
          refine wpF_take (v := ?_) hS rfl ?_ (fun _ _ _ h => h) ?_
          rotate_left
          · intro w' hS'
            obtain ⟨⟨e0, e1⟩, e2, e3, e4, e5⟩ := hS'
            go_simp <;> rfl
          go_simp
          refine wpF_take (v := ?_) hS rfl ?_ (fun _ _ _ h => h) ?_
          rotate_left
          · intro w' hS'
            obtain ⟨⟨e0, e1⟩, e2, e3, e4, e5⟩ := hS'
            go_simp <;> rfl
          go_simp
          refine wpF_take (v := ?_) hS rfl ?_ (fun _ _ _ h => h) ?_
          rotate_left
          · intro w' hS'
            obtain ⟨⟨e0, e1⟩, e2, e3, e4, e5⟩ := hS'
            go_simp <;> rfl
          go_simp
          refine wpF_take (v := ?_) hS rfl ?_ (fun _ _ _ h => h) ?_
          rotate_left
          · intro w' hS'
            obtain ⟨⟨e0, e1⟩, e2, e3, e4, e5⟩ := hS'
            go_simp <;> rfl
          go_simp
          refine wpF_only rfl (fun K hK => ?_)
          go_wp2_with fail
          refine (hi0 _).mono ?_
          rintro _ w9 ⟨rfl, f9⟩
          replace F1 := F1.trans (f9.below.mono F1.size)
          replace hS := hS.below f9.below
          replace hB := hB.below f9.below
          clear f9
          go_wp2_with fail
          first | refine ⟨fun _ => hS, ?_⟩ | refine ⟨hS, ?_⟩ | skip
          go_simp
          refine wpF_take (v := ?_) hS rfl ?_ (fun _ _ _ h => h) ?_
          rotate_left
          · intro w' hS'
            obtain ⟨⟨e0, e1⟩, e2, e3, e4, e5⟩ := hS'
            go_simp <;> rfl
          go_simp
          refine wpF_skip hS rfl (fun _ _ _ h => h) ?_
          go_simp
          refine wpF_skip hS rfl (fun _ _ _ h => h) ?_
          go_simp
          refine wpF_skip hS rfl (fun _ _ _ h => h) ?_
          go_simp
          refine wpF_skip hS rfl (fun _ _ _ h => h) ?_
          go_simp
          refine wpF_pass rfl (fun _ => hS) ?_
          go_simp
          refine wpF_take (v := ?_) hS rfl ?_ (fun _ _ _ h => h) ?_
          rotate_left
          · intro w' hS'
            obtain ⟨⟨e0, e1⟩, e2, e3, e4, e5⟩ := hS'
            go_simp <;> rfl
          go_simp
          refine wpF_only rfl (fun K hK => ?_)
          go_wp2_with fail
          refine (hin _).mono ?_
          rintro _ w9 ⟨rfl, f9⟩
          replace F1 := F1.trans (f9.below.mono F1.size)
          replace hS := hS.below f9.below
          replace hB := hB.below f9.below
          clear f9
          go_wp2_with fail
          first | refine ⟨fun _ => hS, ?_⟩ | refine ⟨hS, ?_⟩ | skip
          go_simp
          refine wpF_take (v := ?_) hS rfl ?_ (fun _ _ _ h => h) ?_
          rotate_left
          · intro w' hS'
            obtain ⟨⟨e0, e1⟩, e2, e3, e4, e5⟩ := hS'
            go_simp <;> rfl
          go_simp
          refine wpF_take (v := ?_) hS rfl ?_ (fun _ _ _ h => h) ?_
          rotate_left
          · intro w' hS'
            obtain ⟨⟨e0, e1⟩, e2, e3, e4, e5⟩ := hS'
            go_simp <;> rfl
          go_simp
          refine wpF_take (v := ?_) hS rfl ?_ (fun _ _ _ h => h) ?_
          rotate_left
          · intro w' hS'
            obtain ⟨⟨e0, e1⟩, e2, e3, e4, e5⟩ := hS'
            go_simp <;> rfl
          go_simp
          refine wpF_nil ?_
          refine hk0 _ _ (Met.intro (hj0 _ _ ?_))
          (repeat apply Exists.intro)
          exact ⟨⟨rfl, hB, F1⟩, rfl⟩
        · exact absurd ha (by decide)
      case rest =>
        clear hS1 f1 e0 e1 e2 e3 e4 e5 g0 g1 g2 g3
        obtain ⟨rfl, hS1, f1⟩ := hcut
        have hS2 := hS1
        obtain ⟨⟨e0, e1⟩, ⟨e2, e3⟩, e4, e5⟩ := hS2
        have HTc := HT.out
        have HTd := HT2.out
        rw [HR.out] at HTd
        generalize nCov (a, b) (c, d) = kcd at *
        generalize nCov (c, d) (e, f) = kde at *
        generalize nCov (a, b) (e, f) = kce at *
        generalize nIn (c, d) x = kdi at *
        rcases kcd with _ | _
        · clear HTc HTd
          go_wp2_with fail
          refine (hcd _).mono ?_
          rintro _ wa ⟨rfl, f9⟩
          replace hS1 := hS1.below f9.below
          replace f1 := f1.trans (f9.below.mono f1.size)
          clear e0 e1 e2 e3 e4 e5 f9
          have hS2 := hS1
          obtain ⟨⟨e0, e1⟩, ⟨e2, e3⟩, e4, e5⟩ := hS2
          go_wp2_with fail
          refine (awake4_any _ (hW.below hlt f1)).mono ?_
          rintro e9 w9 ⟨rfl, f9⟩
          go_wp2_with fail
          go_ret
          exact ⟨rfl, f1.trans (f9.mono f1.size)⟩
        · rcases kde with _ | _
          · clear HTc
            rcases kdi with _ | _
            · clear HTd
              go_wp2_with fail
              refine (hcd _).mono ?_
              rintro _ wa ⟨rfl, f9⟩
              replace hS1 := hS1.below f9.below
              replace f1 := f1.trans (f9.below.mono f1.size)
              clear e0 e1 e2 e3 e4 e5 f9
              have hS2 := hS1
              obtain ⟨⟨e0, e1⟩, ⟨e2, e3⟩, e4, e5⟩ := hS2
              go_wp2_with fail
              refine (hde _).mono ?_
              rintro _ wb ⟨rfl, f9⟩
              replace hS1 := hS1.below f9.below
              replace f1 := f1.trans (f9.below.mono f1.size)
              clear e0 e1 e2 e3 e4 e5 f9
              have hS2 := hS1
              obtain ⟨⟨e0, e1⟩, ⟨e2, e3⟩, e4, e5⟩ := hS2
              go_wp2_with fail
              refine (hdi _).mono ?_
              rintro _ wc ⟨rfl, f9⟩
              replace hS1 := hS1.below f9.below
              replace f1 := f1.trans (f9.below.mono f1.size)
              clear e0 e1 e2 e3 e4 e5 f9
              have hS2 := hS1
              obtain ⟨⟨e0, e1⟩, ⟨e2, e3⟩, e4, e5⟩ := hS2
              go_wp2_with fail
              refine (awake4_any _ (hW.below hlt f1)).mono ?_
              rintro e9 w9 ⟨rfl, f9⟩
              go_wp2_with fail
              go_ret
              exact ⟨rfl, f1.trans (f9.mono f1.size)⟩
            · have hz := HTd rfl rfl
              subst hz
              clear HTd
              go_wp2_with fail
              refine (hcd _).mono ?_
              rintro _ wa ⟨rfl, f9⟩
              replace hS1 := hS1.below f9.below
              replace f1 := f1.trans (f9.below.mono f1.size)
              clear e0 e1 e2 e3 e4 e5 f9
              have hS2 := hS1
              obtain ⟨⟨e0, e1⟩, ⟨e2, e3⟩, e4, e5⟩ := hS2
              go_wp2_with fail
              refine (hde _).mono ?_
              rintro _ wb ⟨rfl, f9⟩
              replace hS1 := hS1.below f9.below
              replace f1 := f1.trans (f9.below.mono f1.size)
              clear e0 e1 e2 e3 e4 e5 f9
              have hS2 := hS1
              obtain ⟨⟨e0, e1⟩, ⟨e2, e3⟩, e4, e5⟩ := hS2
              go_wp2_with fail
              refine (hdi _).mono ?_
              rintro _ wc ⟨rfl, f9⟩
              replace hS1 := hS1.below f9.below
              replace f1 := f1.trans (f9.below.mono f1.size)
              clear e0 e1 e2 e3 e4 e5 f9
              have hS2 := hS1
              obtain ⟨⟨e0, e1⟩, ⟨e2, e3⟩, e4, e5⟩ := hS2
              go_wp2_with fail
              refine (hin _).mono ?_
              rintro _ wd ⟨rfl, f9⟩
              replace hS1 := hS1.below f9.below
              replace f1 := f1.trans (f9.below.mono f1.size)
              clear e0 e1 e2 e3 e4 e5 f9
              have hS2 := hS1
              obtain ⟨⟨e0, e1⟩, ⟨e2, e3⟩, e4, e5⟩ := hS2
              go_wp2_with fail
              refine (awake4_any _ (hW.below hlt f1)).mono ?_
              rintro e9 w9 ⟨rfl, f9⟩
              go_wp2_with fail
              go_ret
              exact ⟨rfl, f1.trans (f9.mono f1.size)⟩
          · have hz := HTc rfl rfl
            subst hz
            clear HTc
            rcases kdi with _ | _
            · clear HTd
              go_wp2_with fail
              refine (hcd _).mono ?_
              rintro _ wa ⟨rfl, f9⟩
              replace hS1 := hS1.below f9.below
              replace f1 := f1.trans (f9.below.mono f1.size)
              clear e0 e1 e2 e3 e4 e5 f9
              have hS2 := hS1
              obtain ⟨⟨e0, e1⟩, ⟨e2, e3⟩, e4, e5⟩ := hS2
              go_wp2_with fail
              refine (hde _).mono ?_
              rintro _ wb ⟨rfl, f9⟩
              replace hS1 := hS1.below f9.below
              replace f1 := f1.trans (f9.below.mono f1.size)
              clear e0 e1 e2 e3 e4 e5 f9
              have hS2 := hS1
              obtain ⟨⟨e0, e1⟩, ⟨e2, e3⟩, e4, e5⟩ := hS2
              go_wp2_with fail
              refine (hce _).mono ?_
              rintro _ wb1 ⟨rfl, f9⟩
              replace hS1 := hS1.below f9.below
              replace f1 := f1.trans (f9.below.mono f1.size)
              clear e0 e1 e2 e3 e4 e5 f9
              have hS2 := hS1
              obtain ⟨⟨e0, e1⟩, ⟨e2, e3⟩, e4, e5⟩ := hS2
              go_wp2_with fail
              refine (hdi _).mono ?_
              rintro _ wc ⟨rfl, f9⟩
              replace hS1 := hS1.below f9.below
              replace f1 := f1.trans (f9.below.mono f1.size)
              clear e0 e1 e2 e3 e4 e5 f9
              have hS2 := hS1
              obtain ⟨⟨e0, e1⟩, ⟨e2, e3⟩, e4, e5⟩ := hS2
              go_wp2_with fail
              refine (awake4_any _ (hW.below hlt f1)).mono ?_
              rintro e9 w9 ⟨rfl, f9⟩
              go_wp2_with fail
              go_ret
              exact ⟨rfl, f1.trans (f9.mono f1.size)⟩
            · have hz := HTd rfl rfl
              subst hz
              clear HTd
              go_wp2_with fail
              refine (hcd _).mono ?_
              rintro _ wa ⟨rfl, f9⟩
              replace hS1 := hS1.below f9.below
              replace f1 := f1.trans (f9.below.mono f1.size)
              clear e0 e1 e2 e3 e4 e5 f9
              have hS2 := hS1
              obtain ⟨⟨e0, e1⟩, ⟨e2, e3⟩, e4, e5⟩ := hS2
              go_wp2_with fail
              refine (hde _).mono ?_
              rintro _ wb ⟨rfl, f9⟩
              replace hS1 := hS1.below f9.below
              replace f1 := f1.trans (f9.below.mono f1.size)
              clear e0 e1 e2 e3 e4 e5 f9
              have hS2 := hS1
              obtain ⟨⟨e0, e1⟩, ⟨e2, e3⟩, e4, e5⟩ := hS2
              go_wp2_with fail
              refine (hce _).mono ?_
              rintro _ wb1 ⟨rfl, f9⟩
              replace hS1 := hS1.below f9.below
              replace f1 := f1.trans (f9.below.mono f1.size)
              clear e0 e1 e2 e3 e4 e5 f9
              have hS2 := hS1
              obtain ⟨⟨e0, e1⟩, ⟨e2, e3⟩, e4, e5⟩ := hS2
              go_wp2_with fail
              refine (hdi _).mono ?_
              rintro _ wc ⟨rfl, f9⟩
              replace hS1 := hS1.below f9.below
              replace f1 := f1.trans (f9.below.mono f1.size)
              clear e0 e1 e2 e3 e4 e5 f9
              have hS2 := hS1
              obtain ⟨⟨e0, e1⟩, ⟨e2, e3⟩, e4, e5⟩ := hS2
              go_wp2_with fail
              refine (hin _).mono ?_
              rintro _ wd ⟨rfl, f9⟩
              replace hS1 := hS1.below f9.below
              replace f1 := f1.trans (f9.below.mono f1.size)
              clear e0 e1 e2 e3 e4 e5 f9
              have hS2 := hS1
              obtain ⟨⟨e0, e1⟩, ⟨e2, e3⟩, e4, e5⟩ := hS2
              go_wp2_with fail
              refine (awake4_any _ (hW.below hlt f1)).mono ?_
              rintro e9 w9 ⟨rfl, f9⟩
              go_wp2_with fail
              go_ret
              exact ⟨rfl, f1.trans (f9.mono f1.size)⟩
    · obtain rfl : b = 32 := by omega
      replace hno := fun w => hno w rfl
      go_wp2_with fail
      refine (hno _).mono ?_
      rintro _ w5 ⟨rfl, f5⟩
      replace hS1 := hS1.below f5
      replace f1 := f1.trans (f5.mono f1.size)
      clear e0 e1 e2 e3 e4 e5 f5
      have hS2 := hS1
      obtain ⟨⟨e0, e1⟩, ⟨e2, e3⟩, e4, e5⟩ := hS2
      go_upto_region 6 with fail
      go_quiet (fail)
      replace f1 := belowN f1 nq
      replace hS1 : Bx3 w.heap.size a 32 c d e f (w5.drewN nq) := hS1
      clear e0 e1 e2 e3 e4 e5
      generalize w5.drewN nq = w5 at *
      have hS2 := hS1
      obtain ⟨⟨e0, e1⟩, ⟨e2, e3⟩, e4, e5⟩ := hS2
      have HTc := HT.out
      have HTd := HT2.out
      rw [HR.out] at HTd
      generalize nCov (a, 32) (c, d) = kcd at *
      generalize nCov (c, d) (e, f) = kde at *
      generalize nCov (a, 32) (e, f) = kce at *
      generalize nIn (c, d) x = kdi at *
      rcases kcd with _ | _
      · clear HTc HTd
        go_wp2_with fail
        refine (hcd _).mono ?_
        rintro _ wa ⟨rfl, f9⟩
        replace hS1 := hS1.below f9.below
        replace f1 := f1.trans (f9.below.mono f1.size)
        clear e0 e1 e2 e3 e4 e5 f9
        have hS2 := hS1
        obtain ⟨⟨e0, e1⟩, ⟨e2, e3⟩, e4, e5⟩ := hS2
        go_wp2_with fail
        refine (awake4_any _ (hW.below hlt f1)).mono ?_
        rintro e9 w9 ⟨rfl, f9⟩
        go_wp2_with fail
        go_ret
        exact ⟨rfl, f1.trans (f9.mono f1.size)⟩
      · rcases kde with _ | _
        · clear HTc
          rcases kdi with _ | _
          · clear HTd
            go_wp2_with fail
            refine (hcd _).mono ?_
            rintro _ wa ⟨rfl, f9⟩
            replace hS1 := hS1.below f9.below
            replace f1 := f1.trans (f9.below.mono f1.size)
            clear e0 e1 e2 e3 e4 e5 f9
            have hS2 := hS1
            obtain ⟨⟨e0, e1⟩, ⟨e2, e3⟩, e4, e5⟩ := hS2
            go_wp2_with fail
            refine (hde _).mono ?_
            rintro _ wb ⟨rfl, f9⟩
            replace hS1 := hS1.below f9.below
            replace f1 := f1.trans (f9.below.mono f1.size)
            clear e0 e1 e2 e3 e4 e5 f9
            have hS2 := hS1
            obtain ⟨⟨e0, e1⟩, ⟨e2, e3⟩, e4, e5⟩ := hS2
            go_wp2_with fail
            refine (hdi _).mono ?_
            rintro _ wc ⟨rfl, f9⟩
            replace hS1 := hS1.below f9.below
            replace f1 := f1.trans (f9.below.mono f1.size)
            clear e0 e1 e2 e3 e4 e5 f9
            have hS2 := hS1
            obtain ⟨⟨e0, e1⟩, ⟨e2, e3⟩, e4, e5⟩ := hS2
            go_wp2_with fail
            refine (awake4_any _ (hW.below hlt f1)).mono ?_
            rintro e9 w9 ⟨rfl, f9⟩
            go_wp2_with fail
            go_ret
            exact ⟨rfl, f1.trans (f9.mono f1.size)⟩
          · have hz := HTd rfl rfl
            subst hz
            clear HTd
            go_wp2_with fail
            refine (hcd _).mono ?_
            rintro _ wa ⟨rfl, f9⟩
            replace hS1 := hS1.below f9.below
            replace f1 := f1.trans (f9.below.mono f1.size)
            clear e0 e1 e2 e3 e4 e5 f9
            have hS2 := hS1
            obtain ⟨⟨e0, e1⟩, ⟨e2, e3⟩, e4, e5⟩ := hS2
            go_wp2_with fail
            refine (hde _).mono ?_
            rintro _ wb ⟨rfl, f9⟩
            replace hS1 := hS1.below f9.below
            replace f1 := f1.trans (f9.below.mono f1.size)
            clear e0 e1 e2 e3 e4 e5 f9
            have hS2 := hS1
            obtain ⟨⟨e0, e1⟩, ⟨e2, e3⟩, e4, e5⟩ := hS2
            go_wp2_with fail
            refine (hdi _).mono ?_
            rintro _ wc ⟨rfl, f9⟩
            replace hS1 := hS1.below f9.below
            replace f1 := f1.trans (f9.below.mono f1.size)
            clear e0 e1 e2 e3 e4 e5 f9
            have hS2 := hS1
            obtain ⟨⟨e0, e1⟩, ⟨e2, e3⟩, e4, e5⟩ := hS2
            go_wp2_with fail
            refine (hin _).mono ?_
            rintro _ wd ⟨rfl, f9⟩
            replace hS1 := hS1.below f9.below
            replace f1 := f1.trans (f9.below.mono f1.size)
            clear e0 e1 e2 e3 e4 e5 f9
            have hS2 := hS1
            obtain ⟨⟨e0, e1⟩, ⟨e2, e3⟩, e4, e5⟩ := hS2
            go_wp2_with fail
            refine (awake4_any _ (hW.below hlt f1)).mono ?_
            rintro e9 w9 ⟨rfl, f9⟩
            go_wp2_with fail
            go_ret
            exact ⟨rfl, f1.trans (f9.mono f1.size)⟩
        · have hz := HTc rfl rfl
          subst hz
          clear HTc
          rcases kdi with _ | _
          · clear HTd
            go_wp2_with fail
            refine (hcd _).mono ?_
            rintro _ wa ⟨rfl, f9⟩
            replace hS1 := hS1.below f9.below
            replace f1 := f1.trans (f9.below.mono f1.size)
            clear e0 e1 e2 e3 e4 e5 f9
            have hS2 := hS1
            obtain ⟨⟨e0, e1⟩, ⟨e2, e3⟩, e4, e5⟩ := hS2
            go_wp2_with fail
            refine (hde _).mono ?_
            rintro _ wb ⟨rfl, f9⟩
            replace hS1 := hS1.below f9.below
            replace f1 := f1.trans (f9.below.mono f1.size)
            clear e0 e1 e2 e3 e4 e5 f9
            have hS2 := hS1
            obtain ⟨⟨e0, e1⟩, ⟨e2, e3⟩, e4, e5⟩ := hS2
            go_wp2_with fail
            refine (hce _).mono ?_
            rintro _ wb1 ⟨rfl, f9⟩
            replace hS1 := hS1.below f9.below
            replace f1 := f1.trans (f9.below.mono f1.size)
            clear e0 e1 e2 e3 e4 e5 f9
            have hS2 := hS1
            obtain ⟨⟨e0, e1⟩, ⟨e2, e3⟩, e4, e5⟩ := hS2
            go_wp2_with fail
            refine (hdi _).mono ?_
            rintro _ wc ⟨rfl, f9⟩
            replace hS1 := hS1.below f9.below
            replace f1 := f1.trans (f9.below.mono f1.size)
            clear e0 e1 e2 e3 e4 e5 f9
            have hS2 := hS1
            obtain ⟨⟨e0, e1⟩, ⟨e2, e3⟩, e4, e5⟩ := hS2
            go_wp2_with fail
            refine (awake4_any _ (hW.below hlt f1)).mono ?_
            rintro e9 w9 ⟨rfl, f9⟩
            go_wp2_with fail
            go_ret
            exact ⟨rfl, f1.trans (f9.mono f1.size)⟩
          · have hz := HTd rfl rfl
            subst hz
            clear HTd
            go_wp2_with fail
            refine (hcd _).mono ?_
            rintro _ wa ⟨rfl, f9⟩
            replace hS1 := hS1.below f9.below
            replace f1 := f1.trans (f9.below.mono f1.size)
            clear e0 e1 e2 e3 e4 e5 f9
            have hS2 := hS1
            obtain ⟨⟨e0, e1⟩, ⟨e2, e3⟩, e4, e5⟩ := hS2
            go_wp2_with fail
            refine (hde _).mono ?_
            rintro _ wb ⟨rfl, f9⟩
            replace hS1 := hS1.below f9.below
            replace f1 := f1.trans (f9.below.mono f1.size)
            clear e0 e1 e2 e3 e4 e5 f9
            have hS2 := hS1
            obtain ⟨⟨e0, e1⟩, ⟨e2, e3⟩, e4, e5⟩ := hS2
            go_wp2_with fail
            refine (hce _).mono ?_
            rintro _ wb1 ⟨rfl, f9⟩
            replace hS1 := hS1.below f9.below
            replace f1 := f1.trans (f9.below.mono f1.size)
            clear e0 e1 e2 e3 e4 e5 f9
            have hS2 := hS1
            obtain ⟨⟨e0, e1⟩, ⟨e2, e3⟩, e4, e5⟩ := hS2
            go_wp2_with fail
            refine (hdi _).mono ?_
            rintro _ wc ⟨rfl, f9⟩
            replace hS1 := hS1.below f9.below
            replace f1 := f1.trans (f9.below.mono f1.size)
            clear e0 e1 e2 e3 e4 e5 f9
            have hS2 := hS1
            obtain ⟨⟨e0, e1⟩, ⟨e2, e3⟩, e4, e5⟩ := hS2
            go_wp2_with fail
            refine (hin _).mono ?_
            rintro _ wd ⟨rfl, f9⟩
            replace hS1 := hS1.below f9.below
            replace f1 := f1.trans (f9.below.mono f1.size)
            clear e0 e1 e2 e3 e4 e5 f9
            have hS2 := hS1
            obtain ⟨⟨e0, e1⟩, ⟨e2, e3⟩, e4, e5⟩ := hS2
            go_wp2_with fail
            refine (awake4_any _ (hW.below hlt f1)).mono ?_
            rintro e9 w9 ⟨rfl, f9⟩
            go_wp2_with fail
            go_ret
            exact ⟨rfl, f1.trans (f9.mono f1.size)⟩
theorem addrEnds_walk (w : World) (hW : LdW w) (x : Nat) (hx : x < 4294967296) (a : Nat) (b : Int) (hc : okN (a, b)) (c : Nat) (d : Int) (hd : okN (c, d)) (e : Nat) (f : Int) (he : okN (e, f)) :
    Calls Tryz.prog 6 #[.int .u32 (x : Int), ntV a b, ntV c d, ntV e f] w fun e w' => e = .returned (.bool true) ∧ Below w.heap.size w w' := by
  rcases hm : nMay (a, b) with _ | _
  · exact addrEnds_no w hW x hx a b hc c d hd e f he hm
  · exact addrEnds_yes w hW x hx a b hc c d hd e f he hm
end Go.Proofs.YtddfgalofngoiaaGreatDoor
