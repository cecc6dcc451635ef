/- The document's Whole, merge, Merge. Condition: a million nets at most. -/
import Derived.Test.YtddfgalofngoiaaGreatDoorAddrRefB
import Derived.Test.YtddfgalofngoiaaGreatDoorNetAll
import Derived.Test.YtddfgalofngoiaaGreatDoorFacts2
import Derived.Test.YtddfgalofngoiaaGreatDoorRowW
import Derived.Deep.DeepCutAuto
namespace Go.Proofs.YtddfgalofngoiaaGreatDoor
open Go.RowKit Go.Sort
set_option linter.unusedVariables false
set_option linter.unusedSimpArgs false
theorem whole_cov {l : List Nt} {c : Nt} (h : l.any (nCov · c) = true) : ∀ k, rWhole l k c = true
  | 0 => h
  | k + 1 => by unfold rWhole; rw [h]; rfl
theorem whole_zero {l : List Nt} {c : Nt} (h : l.any (nCov · c) = false) : rWhole l 0 c = false := h
theorem whole_succ {l : List Nt} {c : Nt} {k : Nat} (h : l.any (nCov · c) = false) : rWhole l (k + 1) c = (l.any (nCov c ·) && (rWhole l k (nLow c) && rWhole l k (nHigh c))) := by
  show (l.any (nCov · c) || (l.any (nCov c ·) && (rWhole l k (nLow c) && rWhole l k (nHigh c)))) = _
  rw [h, Bool.false_or]
theorem any_next (f : Nt → Bool) {l : List Nt} {i : Nat} (h : i < l.length) : (l.take (i + 1)).any f = ((l.take i).any f || f (ntAt l i)) := by
  rw [List.take_succ_eq_append_getElem h, List.any_append, ntAt_eq h, List.any_cons, List.any_nil, Bool.or_false]
theorem any_hit (f : Nt → Bool) {l : List Nt} {i : Nat} (h : i < l.length) (hf : f (ntAt l i) = true) : l.any f = true := by
  rw [List.any_eq_true]
  exact ⟨ntAt l i, by rw [ntAt_eq h]; exact List.getElem_mem _, hf⟩
theorem cov_small {c d : Nt} (hk : nk c = 0) (h : nCov c d = true) : nCov d c = true := by
  rw [nCov_iff] at h ⊢
  obtain ⟨h1, h2, h3, h4⟩ := h
  have hz : nhi c = c.1 + 1 := by unfold nhi nsz; rw [hk]
  have := nhi_gt d
  exact ⟨h2, h1, by omega, by omega⟩
theorem some_whole {l : List Nt} {c : Nt} (hk : nk c = 0) (h : rSome l c = true) : rWhole l 0 c = true := by
  unfold rSome at h
  rw [List.any_eq_true] at h
  obtain ⟨d, hd, h⟩ := h
  show l.any (nCov · c) = true
  rw [List.any_eq_true]
  rw [Bool.or_eq_true] at h
  exact ⟨d, hd, h.elim (fun h => cov_small hk h) id⟩
def NtAt (b o p1 : Nat) (p2 : Int) (u : World) : Prop := u.cell? ⟨b, o, none⟩ = some (.int .u32 (p1 : Int)) ∧ u.cell? ⟨b, o + 1, none⟩ = some (.int .i64 p2)
theorem NtAt.below {b o p1 : Nat} {p2 : Int} {u v : World} (h : NtAt b o p1 p2 u) (hb : Below u.heap.size u v) : NtAt b o p1 p2 v :=
  ⟨(hb.cell (p := ⟨b, o, none⟩) (World.block_lt_of_cell? u _ h.1)).trans h.1, (hb.cell (p := ⟨b, o + 1, none⟩) (World.block_lt_of_cell? u _ h.2)).trans h.2⟩
def BxP (s a : Nat) (b : Int) (g o p1 : Nat) (p2 : Int) (u : World) : Prop := BxS s a b u ∧ NtAt g o p1 p2 u
theorem BxP.below {s a g o p1 : Nat} {b p2 : Int} {u v : World} (h : BxP s a b g o p1 p2 u) (hb : Below u.heap.size u v) : BxP s a b g o p1 p2 v := ⟨h.1.below hb, h.2.below hb⟩
theorem ntC_all2 (x : Int) (y : Int) : ([.int .u32 x, .int .i64 y] : List Value).all (·.oneCell') = true := rfl
set_option maxRecDepth 100000 in
set_option maxHeartbeats 8000000 in
theorem refWhole_step (l : List Nt) (A : Option Addr) (n cap : Nat) (hok : ∀ x ∈ l, okN x) (hn : n ≤ 1000000) (kk : Nat)
    (ih : ∀ k', kk = k' + 1 → ∀ (a : Nat) (b : Int) (w : World), nk (a, b) = k' → nMay (a, b) = true → a < 4294967296 → RdR ntC 2 w w.heap.size A n l → Calls Tryz.prog 59 #[ntV a b, .slice A n cap] w fun e w' => e = .returned (.bool (rWhole l k' (a, b))) ∧ Below w.heap.size w w')
    (a : Nat) (b : Int) (w : World) (hk : nk (a, b) = kk) (hm : nMay (a, b) = true) (ha : a < 4294967296) (hl : RdR ntC 2 w w.heap.size A n l) :
    Calls Tryz.prog 59 #[ntV a b, .slice A n cap] w fun e w' => e = .returned (.bool (rWhole l kk (a, b))) ∧ Below w.heap.size w w' := by
  have HL := Lib.hid hl.1
  have hb := (nMay_iff (a, b)).1 hm
  have hnk := nk_bits hm
  simp only at hb hnk
  obtain ⟨hb0, hb1, _⟩ := hb
  have hc : okN (a, b) := ⟨ha, by show _ ≤ b; omega, by show b ≤ _; omega⟩
  obtain ⟨r, hr⟩ : ∃ r, rWhole l kk (a, b) = r := ⟨_, rfl⟩
  rw [hr]
  have HR := Lib.hid hr; clear hr
  unfold ntV
  go_enter Tryz.func59, Tryz.ntmps59
  go_upto_region 1 with fail
  refine abs (fun w1 => BxS w.heap.size a b w1 ∧ RdR ntC 2 w1 w1.heap.size A n l ∧ Below w.heap.size w w1) ⟨box_cells w a b, (hl.below ((Below.refl _ w).alloc (Nat.le_refl _) _)).more (by simp), (Below.refl _ w).alloc (Nat.le_refl _) _⟩ ?_
  rintro w1 ⟨⟨e0, e1⟩, rl, f1⟩
  go_wp2_with fail
  go_loopw [5, 6] (fun s5 s6 wr => ∃ i : Nat, i ≤ n ∧ s6 = .int .i64 (i : Int) ∧ s5 = .bool ((l.take i).any (nCov (a, b) ·)) ∧ (l.take i).any (nCov · (a, b)) = false ∧ BxS w.heap.size a b wr ∧ RdR ntC 2 wr wr.heap.size A n l ∧ Below w.heap.size w wr) (fun _ s6 _ => n - (intOf s6).toNat)
  case atStart => exact ⟨0, Nat.zero_le _, rfl, rfl, rfl, ⟨e0, e1⟩, rl, f1⟩
  case round =>
    clear e0 e1 rl f1
    obtain ⟨i, hin, rfl, rfl, hnc, ⟨e0, e1⟩, rl, f1⟩ := hrel
    obtain ⟨iv, hiv⟩ : ∃ q, (l.take i).any (nCov (a, b) ·) = q := ⟨_, rfl⟩
    rw [hiv]
    have HIV := Lib.hid hiv; have HNC := Lib.hid hnc; clear hiv hnc
    by_cases hlti : i < n
    · have hil : i < l.length := by rw [HL.out]; exact hlti
      have ho := hok (ntAt l i) (by rw [ntAt_eq hil]; exact List.getElem_mem _)
      obtain ⟨bL, oL, hA, hbL, y0, y1⟩ := rl.net hlti
      have d2 : decide ((i : Int) < (n : Int)) = true := by simp; omega
      have b1 : (0 : Int) ≤ (i : Int) := by omega
      have b2 : (i : Int) < (n : Int) := by omega
      have hx1 := any_next (nCov (a, b) ·) hil
      have hx2 := any_next (nCov · (a, b)) hil
      have hx3 := any_hit (nCov · (a, b)) hil
      rw [HIV.out] at hx1
      rw [HNC.out] at hx2
      obtain ⟨p1, p2, hp⟩ : ∃ a b, ntAt l i = (a, b) := ⟨_, _, rfl⟩
      rw [hp] at y0 y1 ho hx1 hx2 hx3
      simp only at y0 y1 hx1 hx2 hx3
      have hcv := fun w => refCov_any p1 p2 a b w ho hc
      have hvc := fun w => refCov_any a b p1 p2 w hc ho
      obtain ⟨q1, hq1⟩ : ∃ q, nCov (p1, p2) (a, b) = q := ⟨_, rfl⟩
      obtain ⟨q2, hq2⟩ : ∃ q, nCov (a, b) (p1, p2) = q := ⟨_, rfl⟩
      rw [hq1] at hcv hx2 hx3
      rw [hq2] at hvc hx1
      have HX1 := Lib.hid hx1; have HX2 := Lib.hid hx2; have HX3 := Lib.hid hx3
      clear hx1 hx2 hx3 hq1 hq2 hp ho hil
      unfold ntV at hcv hvc
      subst hA
      go_upto_region 5 with fail
      refine wp_region_order (BxP w.heap.size a b bL (oL + i * 2) p1 p2) 99 [(0,0), (1,0), (2,0), (3,0), (4,0), (5,1)] (by kernel_rfl) (by kernel_rfl) ?_
      simp only [pick, List.filterMap_cons, List.filterMap_nil, List.getElem?_cons_zero, List.getElem?_cons_succ, Option.map_some]
      have hS : BxP w.heap.size a b bL (oL + i * 2) p1 p2 wr.drew := ⟨⟨e0, e1⟩, y0, y1⟩
      have rl' : RdR ntC 2 wr.drew wr.drew.heap.size (some ⟨bL, oL, none⟩) n l := rl
      have F1 : Below w.heap.size w wr.drew := f1.drew
      clear f1 rl e0 e1 y0 y1
      generalize wr.drew = wd at *
      refine wpF_take (v := ?_) hS rfl ?_ (fun _ _ _ h => h) ?_
      rotate_left
      · intro w' hS'
        obtain ⟨⟨e0, e1⟩, y0, y1⟩ := hS'
        go_simp <;> rfl
      go_simp
      refine wpF_take (v := ?_) hS rfl ?_ (fun _ _ _ h => h) ?_
      rotate_left
      · intro w' hS'
        obtain ⟨⟨e0, e1⟩, y0, y1⟩ := hS'
        go_simp <;> rfl
      go_simp
      refine wpF_take (v := ?_) hS rfl ?_ (fun _ _ _ h => h) ?_
      rotate_left
      · intro w' hS'
        obtain ⟨⟨e0, e1⟩, y0, y1⟩ := hS'
        go_simp <;> rfl
      go_simp
      refine wpF_take (v := ?_) hS rfl ?_ (fun _ _ _ h => h) ?_
      rotate_left
      · intro w' hS'
        obtain ⟨⟨e0, e1⟩, y0, y1⟩ := hS'
        go_simp <;> rfl
      go_simp
      refine wpF_take (v := ?_) hS rfl ?_ (fun _ _ _ h => h) ?_
      rotate_left
      · intro w' hS'
        obtain ⟨⟨e0, e1⟩, y0, y1⟩ := hS'
        go_simp <;> rfl
      go_simp
      refine wpF_only rfl (fun K hK => ?_)
      go_wp2_with fail
      refine (hcv _).mono ?_
      rintro _ w9 ⟨rfl, f9⟩
      replace F1 := F1.trans (f9.below.mono F1.size)
      replace rl' := (rl'.below f9.below).more f9.below.size
      replace hS := hS.below f9.below
      clear f9
      go_wp2_with fail
      first | refine ⟨fun _ => hS, ?_⟩ | refine ⟨hS, ?_⟩ | skip
      go_simp
      refine wpF_nil ?_
      have hS2 := hS
      obtain ⟨⟨e0, e1⟩, y0, y1⟩ := hS2
      have rl := rl'
      have f1 := F1
      clear rl' F1 hS
      rcases q1 with _ | _
      · go_upto_region 7 with fail
        rcases iv with _ | _
        · refine wp_region_order (BxP w.heap.size a b bL (oL + i * 2) p1 p2) 99 [(0,0), (1,0), (2,0), (3,0), (4,0), (5,0), (6,0), (7,1), (8,0), (9,0)] (by kernel_rfl) (by kernel_rfl) ?_
          simp only [pick, List.filterMap_cons, List.filterMap_nil, List.getElem?_cons_zero, List.getElem?_cons_succ, Option.map_some]
          have hS : BxP w.heap.size a b bL (oL + i * 2) p1 p2 w9.drew := ⟨⟨e0, e1⟩, y0, y1⟩
          have rl' : RdR ntC 2 w9.drew w9.drew.heap.size (some ⟨bL, oL, none⟩) n l := rl
          have F1 : Below w.heap.size w w9.drew := f1.drew
          clear f1 rl e0 e1 y0 y1
          generalize w9.drew = wd at *
          refine wpF_take (v := ?_) hS rfl ?_ (fun _ _ _ h => h) ?_
          rotate_left
          · intro w' hS'
            obtain ⟨⟨e0, e1⟩, y0, y1⟩ := hS'
            go_simp <;> rfl
          go_simp
          refine wpF_take (v := ?_) hS rfl ?_ (fun _ _ _ h => h) ?_
          rotate_left
          · intro w' hS'
            obtain ⟨⟨e0, e1⟩, y0, y1⟩ := hS'
            go_simp <;> rfl
          go_simp
          refine wpF_take (v := ?_) hS rfl ?_ (fun _ _ _ h => h) ?_
          rotate_left
          · intro w' hS'
            obtain ⟨⟨e0, e1⟩, y0, y1⟩ := hS'
            go_simp <;> rfl
          go_simp
          refine wpF_take (v := ?_) hS rfl ?_ (fun _ _ _ h => h) ?_
          rotate_left
          · intro w' hS'
            obtain ⟨⟨e0, e1⟩, y0, y1⟩ := hS'
            go_simp <;> rfl
          go_simp
          refine wpF_take (v := ?_) hS rfl ?_ (fun _ _ _ h => h) ?_
          rotate_left
          · intro w' hS'
            obtain ⟨⟨e0, e1⟩, y0, y1⟩ := hS'
            go_simp <;> rfl
          go_simp
          refine wpF_take (v := ?_) hS rfl ?_ (fun _ _ _ h => h) ?_
          rotate_left
          · intro w' hS'
            obtain ⟨⟨e0, e1⟩, y0, y1⟩ := hS'
            go_simp <;> rfl
          go_simp
          refine wpF_take (v := ?_) hS rfl ?_ (fun _ _ _ h => h) ?_
          rotate_left
          · intro w' hS'
            obtain ⟨⟨e0, e1⟩, y0, y1⟩ := hS'
            go_simp <;> rfl
          go_simp
          refine wpF_only rfl (fun K hK => ?_)
          go_wp2_with fail
          refine (hvc _).mono ?_
          rintro _ w9 ⟨rfl, f9⟩
          replace F1 := F1.trans (f9.below.mono F1.size)
          replace rl' := (rl'.below f9.below).more f9.below.size
          replace hS := hS.below f9.below
          clear f9
          go_wp2_with fail
          first | refine ⟨fun _ => hS, ?_⟩ | refine ⟨hS, ?_⟩ | skip
          go_simp
          refine wpF_take (v := ?_) hS rfl ?_ (fun _ _ _ h => h) ?_
          rotate_left
          · intro w' hS'
            obtain ⟨⟨e0, e1⟩, y0, y1⟩ := hS'
            go_simp <;> rfl
          go_simp
          refine wpF_take (v := ?_) hS rfl ?_ (fun _ _ _ h => h) ?_
          rotate_left
          · intro w' hS'
            obtain ⟨⟨e0, e1⟩, y0, y1⟩ := hS'
            go_simp <;> rfl
          go_simp
          refine wpF_nil ?_
          have f1 := F1
          have rl := rl'
          obtain ⟨⟨e0, e1⟩, _, _⟩ := hS
          clear F1 rl' hcv hvc
          go_wp2_with fail
          go_roundw
          case rel => exact ⟨i + 1, by omega, by go_num, by rw [HX1.out]; rfl, by rw [HX2.out]; rfl, ⟨e0, e1⟩, rl, f1⟩
          case measure => simp [intOf]; omega
        · refine wp_region_order (BxP w.heap.size a b bL (oL + i * 2) p1 p2) 99 [(0,0), (1,0), (2,0), (3,0), (4,0), (5,0), (6,0), (7,1), (8,0), (9,0)] (by kernel_rfl) (by kernel_rfl) ?_
          simp only [pick, List.filterMap_cons, List.filterMap_nil, List.getElem?_cons_zero, List.getElem?_cons_succ, Option.map_some]
          have hS : BxP w.heap.size a b bL (oL + i * 2) p1 p2 w9.drew := ⟨⟨e0, e1⟩, y0, y1⟩
          have rl' : RdR ntC 2 w9.drew w9.drew.heap.size (some ⟨bL, oL, none⟩) n l := rl
          have F1 : Below w.heap.size w w9.drew := f1.drew
          clear f1 rl e0 e1 y0 y1
          generalize w9.drew = wd at *
          refine wpF_take (v := ?_) hS rfl ?_ (fun _ _ _ h => h) ?_
          rotate_left
          · intro w' hS'
            obtain ⟨⟨e0, e1⟩, y0, y1⟩ := hS'
            go_simp <;> rfl
          go_simp
          refine wpF_take (v := ?_) hS rfl ?_ (fun _ _ _ h => h) ?_
          rotate_left
          · intro w' hS'
            obtain ⟨⟨e0, e1⟩, y0, y1⟩ := hS'
            go_simp <;> rfl
          go_simp
          refine wpF_skip hS rfl (fun _ _ _ h => h) ?_
          go_simp
          refine wpF_skip hS rfl (fun _ _ _ h => h) ?_
          go_simp
          refine wpF_skip hS rfl (fun _ _ _ h => h) ?_
          go_simp
          refine wpF_skip hS rfl (fun _ _ _ h => h) ?_
          go_simp
          refine wpF_skip hS rfl (fun _ _ _ h => h) ?_
          go_simp
          refine wpF_pass rfl (fun _ => hS) ?_
          go_simp
          refine wpF_take (v := ?_) hS rfl ?_ (fun _ _ _ h => h) ?_
          rotate_left
          · intro w' hS'
            obtain ⟨⟨e0, e1⟩, y0, y1⟩ := hS'
            go_simp <;> rfl
          go_simp
          refine wpF_take (v := ?_) hS rfl ?_ (fun _ _ _ h => h) ?_
          rotate_left
          · intro w' hS'
            obtain ⟨⟨e0, e1⟩, y0, y1⟩ := hS'
            go_simp <;> rfl
          go_simp
          refine wpF_nil ?_
          have f1 := F1
          have rl := rl'
          obtain ⟨⟨e0, e1⟩, _, _⟩ := hS
          clear F1 rl' hcv hvc
          go_wp2_with fail
          go_roundw
          case rel => exact ⟨i + 1, by omega, by go_num, by rw [HX1.out]; rfl, by rw [HX2.out]; rfl, ⟨e0, e1⟩, rl, f1⟩
          case measure => simp [intOf]; omega
      · have hw : r = true := by rw [← HR.out]; exact whole_cov (HX3.out rfl) kk
        subst hw
        go_wp2_with fail
        go_ret
        exact ⟨rfl, f1⟩
    · obtain rfl : n = i := by omega
      have d2 : decide ((n : Int) < (n : Int)) = false := by simp
      have h1 := HIV.out
      have h2 := HNC.out
      rw [List.take_of_length_le (by rw [HL.out]; exact Nat.le_refl _)] at h1 h2
      rcases iv with _ | _
      · have hw : r = false := by
          rw [← HR.out]
          rcases kk with _ | k
          · exact whole_zero h2
          · rw [whole_succ h2, h1]; rfl
        subst hw
        clear h1 h2 HIV HNC
        go_wp2_with fail
        go_ret
        exact ⟨rfl, f1⟩
      · by_cases h32 : 32 ≤ b
        · have d32 : decide (32 ≤ b) = true := by simp; omega
          have hw : r = false := by
            rw [← HR.out]
            obtain rfl : kk = 0 := by omega
            exact whole_zero h2
          subst hw
          clear h1 h2 HIV HNC
          go_wp2_with fail
          go_ret
          exact ⟨rfl, f1⟩
        · have d32 : decide (32 ≤ b) = false := by simp; omega
          have hq : nHigh (a, b) = (nhi (a, b + 1), b + 1) := rfl
          have hp : nLow (a, b) = (a, b + 1) := rfl
          obtain ⟨k, rfl⟩ : ∃ q, kk = q + 1 := ⟨kk - 1, by have := nk_bits hm; simp only at this; omega⟩
          have H := halved hm hk
          have hhi := hi_le hm ha
          have hpos := Nat.pow_pos (n := k) (show 0 < 2 by omega)
          have hgap := H.gap
          have hlo := H.hlow
          have hml := H.mlow; have hmh := H.mhigh; have hkl := H.klow; have hkh := H.khigh
          rw [hp] at hlo hml hkl
          rw [hq] at hmh hkh
          simp only at hlo
          have okl : okN (a, b + 1) := ⟨ha, by show _ ≤ b + 1; omega, by show b + 1 ≤ _; omega⟩
          have hrl2 := fun w => refLast_any a (b + 1) w okl hml
          obtain ⟨h, hh⟩ : ∃ h, nhi (a, b + 1) = h := ⟨_, rfl⟩
          rw [hh] at hrl2 hlo hmh hkh
          have hlt : h < 4294967296 := by omega
          have vh : IntKind.u32.wrap (((h - 1 : Nat) : Int) + 1) = (h : Int) := by rw [IntWalk.u32_in _ (by omega)]; omega
          have v1 : IntKind.i64.wrap (b + 1) = b + 1 := IntWalk.i64_in _ (by omega)
          have b31 : b + 1 ≤ 9223372036854775807 := by omega
          have hih1 := fun w h1 => ih k rfl a (b + 1) w hkl hml ha h1
          have hih2 := fun w h1 => ih k rfl h (b + 1) w hkh hmh hlt h1
          have Hsz := Lib.hid (show (Tryz.prog.info? 29).map (·.size) = some 2 by kernel_rfl)
          have hw : r = (rWhole l k (a, b + 1) && rWhole l k (h, b + 1)) := by
            rw [← HR.out, whole_succ h2, h1, Bool.true_and, hp, hq, hh]
          generalize rWhole l k (a, b + 1) = v1 at *
          generalize rWhole l k (h, b + 1) = v2 at *
          subst hw
          clear h1 h2 HIV HNC HR
          clear H hhi hpos hgap hlo hml hmh hkl hkh okl hh hq hp hk hm
          go_upto_region 11 with fail
          refine abs (fun wx => (BxS w.heap.size a b wx ∧ BxS wr.heap.size a (b + 1) wx) ∧ RdR ntC 2 wx wx.heap.size A n l ∧ Below w.heap.size w wx) ⟨⟨BxS.below ⟨e0, e1⟩ ((Below.refl _ wr).alloc (Nat.le_refl _) _), box_cells wr a (b + 1)⟩, (rl.below ((Below.refl _ wr).alloc (Nat.le_refl _) _)).more (by simp), f1.alloc f1.size _⟩ ?_
          clear e0 e1 rl f1
          rintro w8 ⟨⟨⟨e0, e1⟩, l0, l1⟩, rl8, f8⟩
          have le0 := World.block_lt_of_cell? w8 _ e0
          have ll0 := World.block_lt_of_cell? w8 _ l0
          have E0 := fun (u : World) (h : Below w8.heap.size w8 u) => (h.cell (p := ⟨w.heap.size, 0, none⟩) le0).trans e0
          have E1 := fun (u : World) (h : Below w8.heap.size w8 u) => (h.cell (p := ⟨w.heap.size, 1, none⟩) le0).trans e1
          have L0 := fun (u : World) (h : Below w8.heap.size w8 u) => (h.cell (p := ⟨wr.heap.size, 0, none⟩) ll0).trans l0
          have L1 := fun (u : World) (h : Below w8.heap.size w8 u) => (h.cell (p := ⟨wr.heap.size, 1, none⟩) ll0).trans l1
          clear e0 e1 l0 l1 le0 ll0
          generalize wr.heap.size = gl at *
          refine F2.wp_region_facts (fun u => Below w8.heap.size w8 u) [
              fun _ v _ => v = .agg #[.int .u32 (a : Int), .int .i64 (b + 1)],
              fun _ v _ => v = .int .u32 ((h - 1 : Nat) : Int),
              fun _ v _ => v = .int .u32 (h : Int),
              fun _ v _ => v = .pointer (some ⟨w.heap.size, 1, none⟩),
              fun _ v _ => v = .int .i64 b,
              fun _ v _ => v = .int .i64 (b + 1),
              fun _ v _ => v = .agg #[.int .u32 (h : Int), .int .i64 (b + 1)],
              fun _ v u => ∃ g', v = .pointer (some ⟨g', 0, none⟩) ∧ w8.heap.size ≤ g' ∧ Blk u g' 29 [.int .u32 0, .int .i64 0],
              fun xs _ u => ∃ g', xs[1]? = some (.pointer (some ⟨g', 0, none⟩)) ∧ w8.heap.size ≤ g' ∧ Blk u g' 29 [.int .u32 (h : Int), .int .i64 (b + 1)]] (fun u u' => Below u.heap.size u u')
              [[], [0], [1], [], [3], [4], [2, 5], [], [6, 7]] [[], [], [], [], [], [], [], [], [7]]
              (by kernel_rfl) (by kernel_rfl) ?_ (fun _ _ _ _ _ h => h) ((Below.refl _ _).drew) ?_ ?_
          · refine F2.hE_of (fun u u' h f => f.trans (h.mono f.size)) ?_
            repeat' (first | exact F2.mono_nil | refine F2.mono_cons (fun xs v u u' h => ?_) ?_)
            all_goals first | exact _root_.id | (rintro ⟨g', e, h1, k⟩; exact ⟨g', e, h1, k.below h k.lt⟩)
          ·
            refine F2.owed_cons (fun vs u hS hD N => ?_) ?_
            · clear hD
              intro hN
              simp only [F2.fact, F2.layAt, F2.depOn, F2.dstOf, List.map_cons, List.map_nil, List.foldl_cons, List.foldl_nil, List.getD_cons_zero, List.getD_cons_succ, List.getElem?_cons_zero, List.getElem?_cons_succ, Option.bind_some] at hN ⊢
              go_simp
              have l0 := L0 _ hS
              have l1 := L1 _ hS
              go_simp
              have hh := hN _ _ rfl (.inl (Below.refl _ _))
              revert hh
              go_simp
            refine F2.owed_cons (fun vs u hS hD N => ?_) ?_
            · have d0 := hD 0 (by decide)
              simp only [F2.fact, F2.layAt, F2.depOn, F2.dstOf, List.map_cons, List.map_nil, List.foldl_cons, List.foldl_nil, List.getD_cons_zero, List.getD_cons_succ, List.getElem?_cons_zero, List.getElem?_cons_succ, Option.bind_some] at d0
              clear hD
              intro hN
              simp only [F2.fact, F2.layAt, F2.depOn, F2.dstOf, List.map_cons, List.map_nil, List.foldl_cons, List.foldl_nil, List.getD_cons_zero, List.getD_cons_succ, List.getElem?_cons_zero, List.getElem?_cons_succ, Option.bind_some, d0] at hN ⊢
              go_simp
              refine (hrl2 u).mono ?_
              rintro e u' ⟨rfl, f⟩
              have hh := hN _ _ rfl (.inl f.below)
              revert hh
              go_simp
            refine F2.owed_cons (fun vs u hS hD N => ?_) ?_
            · have d1 := hD 1 (by decide)
              simp only [F2.fact, F2.layAt, F2.depOn, F2.dstOf, List.map_cons, List.map_nil, List.foldl_cons, List.foldl_nil, List.getD_cons_zero, List.getD_cons_succ, List.getElem?_cons_zero, List.getElem?_cons_succ, Option.bind_some] at d1
              clear hD
              intro hN
              simp only [F2.fact, F2.layAt, F2.depOn, F2.dstOf, List.map_cons, List.map_nil, List.foldl_cons, List.foldl_nil, List.getD_cons_zero, List.getD_cons_succ, List.getElem?_cons_zero, List.getElem?_cons_succ, Option.bind_some, d1] at hN ⊢
              go_simp
              have hh := hN _ _ rfl (.inl (Below.refl _ _))
              revert hh
              go_simp
            refine F2.owed_cons (fun vs u hS hD N => ?_) ?_
            · clear hD
              intro hN
              simp only [F2.fact, F2.layAt, F2.depOn, F2.dstOf, List.map_cons, List.map_nil, List.foldl_cons, List.foldl_nil, List.getD_cons_zero, List.getD_cons_succ, List.getElem?_cons_zero, List.getElem?_cons_succ, Option.bind_some] at hN ⊢
              go_simp
              have hh := hN _ _ rfl (.inl (Below.refl _ _))
              revert hh
              go_simp
            refine F2.owed_cons (fun vs u hS hD N => ?_) ?_
            · have d3 := hD 3 (by decide)
              simp only [F2.fact, F2.layAt, F2.depOn, F2.dstOf, List.map_cons, List.map_nil, List.foldl_cons, List.foldl_nil, List.getD_cons_zero, List.getD_cons_succ, List.getElem?_cons_zero, List.getElem?_cons_succ, Option.bind_some] at d3
              clear hD
              intro hN
              simp only [F2.fact, F2.layAt, F2.depOn, F2.dstOf, List.map_cons, List.map_nil, List.foldl_cons, List.foldl_nil, List.getD_cons_zero, List.getD_cons_succ, List.getElem?_cons_zero, List.getElem?_cons_succ, Option.bind_some, d3] at hN ⊢
              go_simp
              have e1 := E1 _ hS
              go_simp
              have hh := hN _ _ rfl (.inl (Below.refl _ _))
              revert hh
              go_simp
            refine F2.owed_cons (fun vs u hS hD N => ?_) ?_
            · have d4 := hD 4 (by decide)
              simp only [F2.fact, F2.layAt, F2.depOn, F2.dstOf, List.map_cons, List.map_nil, List.foldl_cons, List.foldl_nil, List.getD_cons_zero, List.getD_cons_succ, List.getElem?_cons_zero, List.getElem?_cons_succ, Option.bind_some] at d4
              clear hD
              intro hN
              simp only [F2.fact, F2.layAt, F2.depOn, F2.dstOf, List.map_cons, List.map_nil, List.foldl_cons, List.foldl_nil, List.getD_cons_zero, List.getD_cons_succ, List.getElem?_cons_zero, List.getElem?_cons_succ, Option.bind_some, d4] at hN ⊢
              go_simp
              have hh := hN _ _ rfl (.inl (Below.refl _ _))
              revert hh
              go_simp
            refine F2.owed_cons (fun vs u hS hD N => ?_) ?_
            · have d2 := hD 2 (by decide)
              simp only [F2.fact, F2.layAt, F2.depOn, F2.dstOf, List.map_cons, List.map_nil, List.foldl_cons, List.foldl_nil, List.getD_cons_zero, List.getD_cons_succ, List.getElem?_cons_zero, List.getElem?_cons_succ, Option.bind_some] at d2
              have d5 := hD 5 (by decide)
              simp only [F2.fact, F2.layAt, F2.depOn, F2.dstOf, List.map_cons, List.map_nil, List.foldl_cons, List.foldl_nil, List.getD_cons_zero, List.getD_cons_succ, List.getElem?_cons_zero, List.getElem?_cons_succ, Option.bind_some] at d5
              clear hD
              intro hN
              simp only [F2.fact, F2.layAt, F2.depOn, F2.dstOf, List.map_cons, List.map_nil, List.foldl_cons, List.foldl_nil, List.getD_cons_zero, List.getD_cons_succ, List.getElem?_cons_zero, List.getElem?_cons_succ, Option.bind_some, d2, d5] at hN ⊢
              go_simp
              have hh := hN _ _ rfl (.inl (Below.refl _ _))
              revert hh
              go_simp
            refine F2.owed_cons (fun vs u hS hD N => ?_) ?_
            · clear hD
              intro hN
              simp only [F2.fact, F2.layAt, F2.depOn, F2.dstOf, List.map_cons, List.map_nil, List.foldl_cons, List.foldl_nil, List.getD_cons_zero, List.getD_cons_succ, List.getElem?_cons_zero, List.getElem?_cons_succ, Option.bind_some] at hN ⊢
              go_simp
              have kk : Blk (u.alloc (.cells #[.int .u32 0, .int .i64 0] 29)) u.heap.size 29 [.int .u32 0, .int .i64 0] := Blk.newAt rfl _ _
              have hh := hN _ _ ⟨_, rfl, hS.size, kk⟩ (.inl ((Below.refl _ u).alloc (Nat.le_refl _) _))
              revert hh
              go_simp
            refine F2.owed_cons (fun vs u hS hD N => ?_) ?_
            · have d6 := hD 6 (by decide)
              simp only [F2.fact, F2.layAt, F2.depOn, F2.dstOf, List.map_cons, List.map_nil, List.foldl_cons, List.foldl_nil, List.getD_cons_zero, List.getD_cons_succ, List.getElem?_cons_zero, List.getElem?_cons_succ, Option.bind_some] at d6
              have d7 := hD 7 (by decide)
              simp only [F2.fact, F2.layAt, F2.depOn, F2.dstOf, List.map_cons, List.map_nil, List.foldl_cons, List.foldl_nil, List.getD_cons_zero, List.getD_cons_succ, List.getElem?_cons_zero, List.getElem?_cons_succ, Option.bind_some] at d7
              obtain ⟨g', e7, hg', kg⟩ := d7
              clear hD
              intro hN
              simp only [F2.fact, F2.layAt, F2.depOn, F2.dstOf, List.map_cons, List.map_nil, List.foldl_cons, List.foldl_nil, List.getD_cons_zero, List.getD_cons_succ, List.getElem?_cons_zero, List.getElem?_cons_succ, Option.bind_some, d6, e7] at hN ⊢
              rw [if_pos (by rfl)]
              refine wp_store_blk kg 29 (.tmp 8) (.tmp 49) rfl rfl (us := [.int .u32 (h : Int), .int .i64 (b + 1)]) rfl Hsz.out rfl rfl ?_
              intro u' k' hg2
              refine hN _ _ ⟨g', rfl, hg', k'⟩ (.inr ⟨hS.grown hg2 hS.size (by intro q hq2; injection hq2 with hq2; omega), fun j xs v h1 h2 h3 => ?_⟩)
              match j with
              | 7 => exact absurd (by decide) h2
              | 8 => exact absurd rfl h1
              | 0 | 1 | 2 | 3 | 4 | 5 | 6 | _ + 9 => exact _root_.id
            exact F2.owed_nil
          · intro vs u hS hF
            have d8 := hF 8 (by decide) (by decide)
            simp only [F2.fact, F2.layAt, F2.depOn, F2.dstOf, List.map_cons, List.map_nil, List.foldl_cons, List.foldl_nil, List.getD_cons_zero, List.getD_cons_succ, List.getElem?_cons_zero, List.getElem?_cons_succ, Option.bind_some] at d8
            obtain ⟨g', e7, hg', kg⟩ := d8
            replace e7 := Option.some.inj e7
            clear hF
            simp only [List.length_cons, List.length_nil, Nat.reduceAdd, List.range, List.range.loop, F2.fact, F2.layAt, F2.depOn, F2.dstOf, List.map_cons, List.map_nil, List.foldl_cons, List.foldl_nil, List.getD_cons_zero, List.getD_cons_succ, List.getElem?_cons_zero, List.getElem?_cons_succ, Option.bind_some, e7]
            go_simp
            obtain ⟨k0, k1⟩ : BxS g' h (b + 1) u := ⟨kg.cell 0, kg.cell 1⟩
            have l0 := L0 _ hS
            have l1 := L1 _ hS
            have e0 := E0 _ hS
            have e1 := E1 _ hS
            have rl := (rl8.below hS).more hS.size
            have f1 := f8.trans (hS.mono f8.size)
            clear L0 L1 E0 E1 rl8 f8 hS kg hg'
            generalize w8.heap.size = zz at *
            unfold ntV at hih1 hih2
            go_wp2_with fail
            refine (hih1 _ rl).mono ?_
            rintro _ w9 ⟨rfl, f9⟩
            obtain ⟨k0, k1⟩ := BxS.below ⟨k0, k1⟩ f9
            replace rl := (rl.below f9).more f9.size
            replace f1 := f1.trans (f9.mono f1.size)
            clear f9 e0 e1 l0 l1 hih1
            rcases v1 with _ | _
            · go_wp2_with fail
              go_ret
              exact ⟨rfl, f1⟩
            · go_wp2_with fail
              refine (hih2 _ rl).mono ?_
              rintro _ w10 ⟨rfl, f9⟩
              replace f1 := f1.trans (f9.mono f1.size)
              go_wp2_with fail
              go_ret
              exact ⟨rfl, f1⟩
theorem refWhole_any (l : List Nt) (A : Option Addr) (n cap : Nat) (hok : ∀ x ∈ l, okN x) (hn : n ≤ 1000000) : ∀ (kk a : Nat) (b : Int) (w : World), nk (a, b) = kk → nMay (a, b) = true → a < 4294967296 → RdR ntC 2 w w.heap.size A n l →
    Calls Tryz.prog 59 #[ntV a b, .slice A n cap] w fun e w' => e = .returned (.bool (rWhole l kk (a, b))) ∧ Below w.heap.size w w' := by
  intro kk
  induction kk with
  | zero => exact fun a b w hk hm ha hl => refWhole_step l A n cap hok hn 0 (fun k' h => absurd h (by omega)) a b w hk hm ha hl
  | succ k ih =>
    intro a b w hk hm ha hl
    refine refWhole_step l A n cap hok hn (k + 1) (fun k' h => ?_) a b w hk hm ha hl
    obtain rfl : k = k' := by omega
    exact ih
end Go.Proofs.YtddfgalofngoiaaGreatDoor
