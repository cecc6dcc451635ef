/- The document's merge, Merge. Condition: a million nets at most. -/
import Derived.Test.YtddfgalofngoiaaGreatDoorAddrRefC
namespace Go.Proofs.YtddfgalofngoiaaGreatDoor
open Go.RowKit Go.Sort
set_option linter.unusedVariables false
set_option linter.unusedSimpArgs false
theorem rMerge_no {l : List Nt} {c : Nt} (h : rSome l c = false) : ∀ k, rMerge l k c = []
  | 0 => by show (if rSome l c then [c] else []) = _; rw [h]; rfl
  | k + 1 => by show (if rSome l c then _ else []) = _; rw [h]; rfl
theorem rMerge_one {l : List Nt} {c : Nt} (h : rSome l c = true) : ∀ k, rWhole l k c = true → rMerge l k c = [c]
  | 0, _ => by show (if rSome l c then [c] else []) = _; rw [h]; rfl
  | k + 1, hw => by show (if rSome l c then (if rWhole l (k + 1) c then [c] else rMerge l k (nLow c) ++ rMerge l k (nHigh c)) else []) = _; rw [h, hw]; rfl
theorem rMerge_two {l : List Nt} {c : Nt} {k : Nat} (h : rSome l c = true) (hw : rWhole l (k + 1) c = false) : rMerge l (k + 1) c = rMerge l k (nLow c) ++ rMerge l k (nHigh c) := by
  show (if rSome l c then (if rWhole l (k + 1) c then [c] else rMerge l k (nLow c) ++ rMerge l k (nHigh c)) else []) = _
  rw [h, hw]; rfl
theorem rMerge_len (l : List Nt) : ∀ (k : Nat) (c : Nt), (rMerge l k c).length ≤ 2 ^ k
  | 0, c => by
    show (if rSome l c then [c] else []).length ≤ _
    split <;> simp
  | k + 1, c => by
    have h1 := rMerge_len l k (nLow c)
    have h2 := rMerge_len l k (nHigh c)
    have h3 := Nat.pow_pos (n := k) (show 0 < 2 by omega)
    show (if rSome l c then (if rWhole l (k + 1) c then [c] else rMerge l k (nLow c) ++ rMerge l k (nHigh c)) else []).length ≤ _
    rw [Nat.pow_succ]
    split
    · split
      · simp only [List.length_cons, List.length_nil]; omega
      · rw [List.length_append]; omega
    · simp
theorem own_one {w : World} {g base a : Nat} {b : Int} (k : Blk w g 29 (flatR ntC [(a, b)])) (hg : base ≤ g) : OwnR ntC 2 w base 29 (.slice (some ⟨g, 0, none⟩) 1 1) [(a, b)] := by
  have h : Rw w g 1 [(a, b)] := ⟨_, k, rfl, by simp [maxLen], Nat.le_refl _, rfl⟩
  exact h.own hg
def MrPost (l : List Nt) (kk a : Nat) (b : Int) (w : World) (e : Ending) (w' : World) : Prop := ∃ A' m c', e = .returned (.slice A' m c') ∧ OwnR ntC 2 w' w.heap.size 29 (.slice A' m c') (rMerge l kk (a, b)) ∧ Below w.heap.size w w'
set_option maxRecDepth 100000 in
set_option maxHeartbeats 8000000 in
theorem refMg_step (l : List Nt) (A : Option Addr) (n cap : Nat) (hok : ∀ x ∈ l, okN x) (hn : n ≤ 1000000) (kk : Nat)
    (ih : ∀ k', kk = k' + 1 → ∀ (a : Nat) (b : Int) (w : World), nk (a, b) = k' → nMay (a, b) = true → a < 4294967296 → RdR ntC 2 w w.heap.size A n l → Calls Tryz.prog 43 #[ntV a b, .slice A n cap] w (MrPost l k' a b w))
    (a : Nat) (b : Int) (w : World) (hk : nk (a, b) = kk) (hm : nMay (a, b) = true) (ha : a < 4294967296) (hl : RdR ntC 2 w w.heap.size A n l) :
    Calls Tryz.prog 43 #[ntV a b, .slice A n cap] w (MrPost l kk a b w) := by
  have HL := Lib.hid hl.1
  have hb := (nMay_iff (a, b)).1 hm
  have hnk := nk_bits hm
  simp only at hb hnk
  obtain ⟨hb0, hb1, _⟩ := hb
  have hc : okN (a, b) := ⟨ha, by show _ ≤ b; omega, by show b ≤ _; omega⟩
  have hwh := fun w h => refWhole_any l A n cap hok hn kk a b w hk hm ha h
  unfold ntV at hwh ⊢
  go_enter Tryz.func43, Tryz.ntmps43
  go_upto_region 1 with fail
  refine abs (fun w1 => BxS w.heap.size a b w1 ∧ RdR ntC 2 w1 w1.heap.size A n l ∧ Below w.heap.size w w1) ⟨box_cells w a b, (hl.below ((Below.refl _ w).alloc (Nat.le_refl _) _)).more (by simp), (Below.refl _ w).alloc (Nat.le_refl _) _⟩ ?_
  rintro w1 ⟨⟨e0, e1⟩, rl, f1⟩
  go_wp2_with fail
  go_loopw [5, 6] (fun s5 s6 wr => ∃ i : Nat, i ≤ n ∧ s6 = .int .i64 (i : Int) ∧ s5 = .bool ((l.take i).any (fun d => nCov (a, b) d || nCov d (a, b))) ∧ BxS w.heap.size a b wr ∧ RdR ntC 2 wr wr.heap.size A n l ∧ Below w.heap.size w wr) (fun _ s6 _ => n - (intOf s6).toNat)
  case atStart => exact ⟨0, Nat.zero_le _, rfl, rfl, ⟨e0, e1⟩, rl, f1⟩
  case round =>
    clear e0 e1 rl f1
    obtain ⟨i, hin, rfl, rfl, ⟨e0, e1⟩, rl, f1⟩ := hrel
    obtain ⟨iv, hiv⟩ : ∃ q, (l.take i).any (fun d => nCov (a, b) d || nCov d (a, b)) = q := ⟨_, rfl⟩
    rw [hiv]
    have HIV := Lib.hid hiv; clear hiv
    by_cases hlti : i < n
    · have hil : i < l.length := by rw [HL.out]; exact hlti
      have ho := hok (ntAt l i) (by rw [ntAt_eq hil]; exact List.getElem_mem _)
      obtain ⟨bL, oL, hA, hbL, y0, y1⟩ := rl.net hlti
      have d2 : decide ((i : Int) < (n : Int)) = true := by simp; omega
      have b1 : (0 : Int) ≤ (i : Int) := by omega
      have b2 : (i : Int) < (n : Int) := by omega
      have hx1 := any_next (fun d => nCov (a, b) d || nCov d (a, b)) hil
      rw [HIV.out] at hx1
      obtain ⟨p1, p2, hp⟩ : ∃ a b, ntAt l i = (a, b) := ⟨_, _, rfl⟩
      rw [hp] at y0 y1 ho hx1
      simp only at y0 y1 hx1
      have hcv := fun w => refCov_any p1 p2 a b w ho hc
      have hvc := fun w => refCov_any a b p1 p2 w hc ho
      obtain ⟨q1, hq1⟩ : ∃ q, nCov (p1, p2) (a, b) = q := ⟨_, rfl⟩
      obtain ⟨q2, hq2⟩ : ∃ q, nCov (a, b) (p1, p2) = q := ⟨_, rfl⟩
      rw [hq1] at hcv hx1
      rw [hq2] at hvc hx1
      have HX1 := Lib.hid hx1
      clear hx1 hq1 hq2 hp ho hil hwh
      unfold ntV at hcv hvc
      subst hA
      go_upto_region 5 with fail
      rcases iv with _ | _
      · rcases q2 with _ | _
        · rcases q1 with _ | _
          · refine wp_region_order (BxP w.heap.size a b bL (oL + i * 2) p1 p2) 99 [(0,0), (1,0), (2,0), (3,0), (4,0), (5,0), (6,0), (7,1), (8,0), (9,0), (10,0), (11,0), (12,0), (13,0), (14,0), (15,1), (16,0), (17,0)] (by kernel_rfl) (by kernel_rfl) ?_
            simp only [pick, List.filterMap_cons, List.filterMap_nil, List.getElem?_cons_zero, List.getElem?_cons_succ, Option.map_some]
            have hS : BxP w.heap.size a b bL (oL + i * 2) p1 p2 wr.drew := ⟨⟨e0, e1⟩, y0, y1⟩
            have rl' : RdR ntC 2 wr.drew wr.drew.heap.size (some ⟨bL, oL, none⟩) n l := rl
            have F1 : Below w.heap.size w wr.drew := f1.drew
            clear f1 rl e0 e1 y0 y1
            generalize wr.drew = wd at *
            refine wpF_take (v := ?_) hS rfl ?_ (fun _ _ _ h => h) ?_
            rotate_left
            · intro w' hS'
              obtain ⟨⟨e0, e1⟩, y0, y1⟩ := hS'
              go_simp <;> rfl
            go_simp
            refine wpF_take (v := ?_) hS rfl ?_ (fun _ _ _ h => h) ?_
            rotate_left
            · intro w' hS'
              obtain ⟨⟨e0, e1⟩, y0, y1⟩ := hS'
              go_simp <;> rfl
            go_simp
            refine wpF_take (v := ?_) hS rfl ?_ (fun _ _ _ h => h) ?_
            rotate_left
            · intro w' hS'
              obtain ⟨⟨e0, e1⟩, y0, y1⟩ := hS'
              go_simp <;> rfl
            go_simp
            refine wpF_take (v := ?_) hS rfl ?_ (fun _ _ _ h => h) ?_
            rotate_left
            · intro w' hS'
              obtain ⟨⟨e0, e1⟩, y0, y1⟩ := hS'
              go_simp <;> rfl
            go_simp
            refine wpF_take (v := ?_) hS rfl ?_ (fun _ _ _ h => h) ?_
            rotate_left
            · intro w' hS'
              obtain ⟨⟨e0, e1⟩, y0, y1⟩ := hS'
              go_simp <;> rfl
            go_simp
            refine wpF_take (v := ?_) hS rfl ?_ (fun _ _ _ h => h) ?_
            rotate_left
            · intro w' hS'
              obtain ⟨⟨e0, e1⟩, y0, y1⟩ := hS'
              go_simp <;> rfl
            go_simp
            refine wpF_take (v := ?_) hS rfl ?_ (fun _ _ _ h => h) ?_
            rotate_left
            · intro w' hS'
              obtain ⟨⟨e0, e1⟩, y0, y1⟩ := hS'
              go_simp <;> rfl
            go_simp
            refine wpF_only rfl (fun K hK => ?_)
            go_wp2_with fail
            refine (hvc _).mono ?_
            rintro _ w9 ⟨rfl, f9⟩
            replace F1 := F1.trans (f9.below.mono F1.size)
            replace rl' := (rl'.below f9.below).more f9.below.size
            replace hS := hS.below f9.below
            clear f9
            go_wp2_with fail
            first | refine ⟨fun _ => hS, ?_⟩ | refine ⟨hS, ?_⟩ | skip
            go_simp
            refine wpF_take (v := ?_) hS rfl ?_ (fun _ _ _ h => h) ?_
            rotate_left
            · intro w' hS'
              obtain ⟨⟨e0, e1⟩, y0, y1⟩ := hS'
              go_simp <;> rfl
            go_simp
            refine wpF_take (v := ?_) hS rfl ?_ (fun _ _ _ h => h) ?_
            rotate_left
            · intro w' hS'
              obtain ⟨⟨e0, e1⟩, y0, y1⟩ := hS'
              go_simp <;> rfl
            go_simp
            refine wpF_take (v := ?_) hS rfl ?_ (fun _ _ _ h => h) ?_
            rotate_left
            · intro w' hS'
              obtain ⟨⟨e0, e1⟩, y0, y1⟩ := hS'
              go_simp <;> rfl
            go_simp
            refine wpF_take (v := ?_) hS rfl ?_ (fun _ _ _ h => h) ?_
            rotate_left
            · intro w' hS'
              obtain ⟨⟨e0, e1⟩, y0, y1⟩ := hS'
              go_simp <;> rfl
            go_simp
            refine wpF_take (v := ?_) hS rfl ?_ (fun _ _ _ h => h) ?_
            rotate_left
            · intro w' hS'
              obtain ⟨⟨e0, e1⟩, y0, y1⟩ := hS'
              go_simp <;> rfl
            go_simp
            refine wpF_take (v := ?_) hS rfl ?_ (fun _ _ _ h => h) ?_
            rotate_left
            · intro w' hS'
              obtain ⟨⟨e0, e1⟩, y0, y1⟩ := hS'
              go_simp <;> rfl
            go_simp
            refine wpF_take (v := ?_) hS rfl ?_ (fun _ _ _ h => h) ?_
            rotate_left
            · intro w' hS'
              obtain ⟨⟨e0, e1⟩, y0, y1⟩ := hS'
              go_simp <;> rfl
            go_simp
            refine wpF_only rfl (fun K hK => ?_)
            go_wp2_with fail
            refine (hcv _).mono ?_
            rintro _ w9 ⟨rfl, f9⟩
            replace F1 := F1.trans (f9.below.mono F1.size)
            replace rl' := (rl'.below f9.below).more f9.below.size
            replace hS := hS.below f9.below
            clear f9
            go_wp2_with fail
            first | refine ⟨fun _ => hS, ?_⟩ | refine ⟨hS, ?_⟩ | skip
            go_simp
            refine wpF_take (v := ?_) hS rfl ?_ (fun _ _ _ h => h) ?_
            rotate_left
            · intro w' hS'
              obtain ⟨⟨e0, e1⟩, y0, y1⟩ := hS'
              go_simp <;> rfl
            go_simp
            refine wpF_take (v := ?_) hS rfl ?_ (fun _ _ _ h => h) ?_
            rotate_left
            · intro w' hS'
              obtain ⟨⟨e0, e1⟩, y0, y1⟩ := hS'
              go_simp <;> rfl
            go_simp
            refine wpF_nil ?_
            have f1 := F1
            have rl := rl'
            obtain ⟨⟨e0, e1⟩, _, _⟩ := hS
            clear F1 rl' hcv hvc
            go_wp2_with fail
            go_roundw
            case rel => exact ⟨i + 1, by omega, by go_num, by rw [HX1.out]; rfl, ⟨e0, e1⟩, rl, f1⟩
            case measure => simp [intOf]; omega
          · refine wp_region_order (BxP w.heap.size a b bL (oL + i * 2) p1 p2) 99 [(0,0), (1,0), (2,0), (3,0), (4,0), (5,0), (6,0), (7,1), (8,0), (9,0), (10,0), (11,0), (12,0), (13,0), (14,0), (15,1), (16,0), (17,0)] (by kernel_rfl) (by kernel_rfl) ?_
            simp only [pick, List.filterMap_cons, List.filterMap_nil, List.getElem?_cons_zero, List.getElem?_cons_succ, Option.map_some]
            have hS : BxP w.heap.size a b bL (oL + i * 2) p1 p2 wr.drew := ⟨⟨e0, e1⟩, y0, y1⟩
            have rl' : RdR ntC 2 wr.drew wr.drew.heap.size (some ⟨bL, oL, none⟩) n l := rl
            have F1 : Below w.heap.size w wr.drew := f1.drew
            clear f1 rl e0 e1 y0 y1
            generalize wr.drew = wd at *
            refine wpF_take (v := ?_) hS rfl ?_ (fun _ _ _ h => h) ?_
            rotate_left
            · intro w' hS'
              obtain ⟨⟨e0, e1⟩, y0, y1⟩ := hS'
              go_simp <;> rfl
            go_simp
            refine wpF_take (v := ?_) hS rfl ?_ (fun _ _ _ h => h) ?_
            rotate_left
            · intro w' hS'
              obtain ⟨⟨e0, e1⟩, y0, y1⟩ := hS'
              go_simp <;> rfl
            go_simp
            refine wpF_take (v := ?_) hS rfl ?_ (fun _ _ _ h => h) ?_
            rotate_left
            · intro w' hS'
              obtain ⟨⟨e0, e1⟩, y0, y1⟩ := hS'
              go_simp <;> rfl
            go_simp
            refine wpF_take (v := ?_) hS rfl ?_ (fun _ _ _ h => h) ?_
            rotate_left
            · intro w' hS'
              obtain ⟨⟨e0, e1⟩, y0, y1⟩ := hS'
              go_simp <;> rfl
            go_simp
            refine wpF_take (v := ?_) hS rfl ?_ (fun _ _ _ h => h) ?_
            rotate_left
            · intro w' hS'
              obtain ⟨⟨e0, e1⟩, y0, y1⟩ := hS'
              go_simp <;> rfl
            go_simp
            refine wpF_take (v := ?_) hS rfl ?_ (fun _ _ _ h => h) ?_
            rotate_left
            · intro w' hS'
              obtain ⟨⟨e0, e1⟩, y0, y1⟩ := hS'
              go_simp <;> rfl
            go_simp
            refine wpF_take (v := ?_) hS rfl ?_ (fun _ _ _ h => h) ?_
            rotate_left
            · intro w' hS'
              obtain ⟨⟨e0, e1⟩, y0, y1⟩ := hS'
              go_simp <;> rfl
            go_simp
            refine wpF_only rfl (fun K hK => ?_)
            go_wp2_with fail
            refine (hvc _).mono ?_
            rintro _ w9 ⟨rfl, f9⟩
            replace F1 := F1.trans (f9.below.mono F1.size)
            replace rl' := (rl'.below f9.below).more f9.below.size
            replace hS := hS.below f9.below
            clear f9
            go_wp2_with fail
            first | refine ⟨fun _ => hS, ?_⟩ | refine ⟨hS, ?_⟩ | skip
            go_simp
            refine wpF_take (v := ?_) hS rfl ?_ (fun _ _ _ h => h) ?_
            rotate_left
            · intro w' hS'
              obtain ⟨⟨e0, e1⟩, y0, y1⟩ := hS'
              go_simp <;> rfl
            go_simp
            refine wpF_take (v := ?_) hS rfl ?_ (fun _ _ _ h => h) ?_
            rotate_left
            · intro w' hS'
              obtain ⟨⟨e0, e1⟩, y0, y1⟩ := hS'
              go_simp <;> rfl
            go_simp
            refine wpF_take (v := ?_) hS rfl ?_ (fun _ _ _ h => h) ?_
            rotate_left
            · intro w' hS'
              obtain ⟨⟨e0, e1⟩, y0, y1⟩ := hS'
              go_simp <;> rfl
            go_simp
            refine wpF_take (v := ?_) hS rfl ?_ (fun _ _ _ h => h) ?_
            rotate_left
            · intro w' hS'
              obtain ⟨⟨e0, e1⟩, y0, y1⟩ := hS'
              go_simp <;> rfl
            go_simp
            refine wpF_take (v := ?_) hS rfl ?_ (fun _ _ _ h => h) ?_
            rotate_left
            · intro w' hS'
              obtain ⟨⟨e0, e1⟩, y0, y1⟩ := hS'
              go_simp <;> rfl
            go_simp
            refine wpF_take (v := ?_) hS rfl ?_ (fun _ _ _ h => h) ?_
            rotate_left
            · intro w' hS'
              obtain ⟨⟨e0, e1⟩, y0, y1⟩ := hS'
              go_simp <;> rfl
            go_simp
            refine wpF_take (v := ?_) hS rfl ?_ (fun _ _ _ h => h) ?_
            rotate_left
            · intro w' hS'
              obtain ⟨⟨e0, e1⟩, y0, y1⟩ := hS'
              go_simp <;> rfl
            go_simp
            refine wpF_only rfl (fun K hK => ?_)
            go_wp2_with fail
            refine (hcv _).mono ?_
            rintro _ w9 ⟨rfl, f9⟩
            replace F1 := F1.trans (f9.below.mono F1.size)
            replace rl' := (rl'.below f9.below).more f9.below.size
            replace hS := hS.below f9.below
            clear f9
            go_wp2_with fail
            first | refine ⟨fun _ => hS, ?_⟩ | refine ⟨hS, ?_⟩ | skip
            go_simp
            refine wpF_take (v := ?_) hS rfl ?_ (fun _ _ _ h => h) ?_
            rotate_left
            · intro w' hS'
              obtain ⟨⟨e0, e1⟩, y0, y1⟩ := hS'
              go_simp <;> rfl
            go_simp
            refine wpF_take (v := ?_) hS rfl ?_ (fun _ _ _ h => h) ?_
            rotate_left
            · intro w' hS'
              obtain ⟨⟨e0, e1⟩, y0, y1⟩ := hS'
              go_simp <;> rfl
            go_simp
            refine wpF_nil ?_
            have f1 := F1
            have rl := rl'
            obtain ⟨⟨e0, e1⟩, _, _⟩ := hS
            clear F1 rl' hcv hvc
            go_wp2_with fail
            go_roundw
            case rel => exact ⟨i + 1, by omega, by go_num, by rw [HX1.out]; rfl, ⟨e0, e1⟩, rl, f1⟩
            case measure => simp [intOf]; omega
        · refine wp_region_order (BxP w.heap.size a b bL (oL + i * 2) p1 p2) 99 [(0,0), (1,0), (2,0), (3,0), (4,0), (5,0), (6,0), (7,1), (8,0), (9,0), (10,0), (11,0), (12,0), (13,0), (14,0), (15,1), (16,0), (17,0)] (by kernel_rfl) (by kernel_rfl) ?_
          simp only [pick, List.filterMap_cons, List.filterMap_nil, List.getElem?_cons_zero, List.getElem?_cons_succ, Option.map_some]
          have hS : BxP w.heap.size a b bL (oL + i * 2) p1 p2 wr.drew := ⟨⟨e0, e1⟩, y0, y1⟩
          have rl' : RdR ntC 2 wr.drew wr.drew.heap.size (some ⟨bL, oL, none⟩) n l := rl
          have F1 : Below w.heap.size w wr.drew := f1.drew
          clear f1 rl e0 e1 y0 y1
          generalize wr.drew = wd at *
          refine wpF_take (v := ?_) hS rfl ?_ (fun _ _ _ h => h) ?_
          rotate_left
          · intro w' hS'
            obtain ⟨⟨e0, e1⟩, y0, y1⟩ := hS'
            go_simp <;> rfl
          go_simp
          refine wpF_take (v := ?_) hS rfl ?_ (fun _ _ _ h => h) ?_
          rotate_left
          · intro w' hS'
            obtain ⟨⟨e0, e1⟩, y0, y1⟩ := hS'
            go_simp <;> rfl
          go_simp
          refine wpF_take (v := ?_) hS rfl ?_ (fun _ _ _ h => h) ?_
          rotate_left
          · intro w' hS'
            obtain ⟨⟨e0, e1⟩, y0, y1⟩ := hS'
            go_simp <;> rfl
          go_simp
          refine wpF_take (v := ?_) hS rfl ?_ (fun _ _ _ h => h) ?_
          rotate_left
          · intro w' hS'
            obtain ⟨⟨e0, e1⟩, y0, y1⟩ := hS'
            go_simp <;> rfl
          go_simp
          refine wpF_take (v := ?_) hS rfl ?_ (fun _ _ _ h => h) ?_
          rotate_left
          · intro w' hS'
            obtain ⟨⟨e0, e1⟩, y0, y1⟩ := hS'
            go_simp <;> rfl
          go_simp
          refine wpF_take (v := ?_) hS rfl ?_ (fun _ _ _ h => h) ?_
          rotate_left
          · intro w' hS'
            obtain ⟨⟨e0, e1⟩, y0, y1⟩ := hS'
            go_simp <;> rfl
          go_simp
          refine wpF_take (v := ?_) hS rfl ?_ (fun _ _ _ h => h) ?_
          rotate_left
          · intro w' hS'
            obtain ⟨⟨e0, e1⟩, y0, y1⟩ := hS'
            go_simp <;> rfl
          go_simp
          refine wpF_only rfl (fun K hK => ?_)
          go_wp2_with fail
          refine (hvc _).mono ?_
          rintro _ w9 ⟨rfl, f9⟩
          replace F1 := F1.trans (f9.below.mono F1.size)
          replace rl' := (rl'.below f9.below).more f9.below.size
          replace hS := hS.below f9.below
          clear f9
          go_wp2_with fail
          first | refine ⟨fun _ => hS, ?_⟩ | refine ⟨hS, ?_⟩ | skip
          go_simp
          refine wpF_take (v := ?_) hS rfl ?_ (fun _ _ _ h => h) ?_
          rotate_left
          · intro w' hS'
            obtain ⟨⟨e0, e1⟩, y0, y1⟩ := hS'
            go_simp <;> rfl
          go_simp
          refine wpF_take (v := ?_) hS rfl ?_ (fun _ _ _ h => h) ?_
          rotate_left
          · intro w' hS'
            obtain ⟨⟨e0, e1⟩, y0, y1⟩ := hS'
            go_simp <;> rfl
          go_simp
          refine wpF_skip hS rfl (fun _ _ _ h => h) ?_
          go_simp
          refine wpF_skip hS rfl (fun _ _ _ h => h) ?_
          go_simp
          refine wpF_skip hS rfl (fun _ _ _ h => h) ?_
          go_simp
          refine wpF_skip hS rfl (fun _ _ _ h => h) ?_
          go_simp
          refine wpF_skip hS rfl (fun _ _ _ h => h) ?_
          go_simp
          refine wpF_pass rfl (fun _ => hS) ?_
          go_simp
          refine wpF_take (v := ?_) hS rfl ?_ (fun _ _ _ h => h) ?_
          rotate_left
          · intro w' hS'
            obtain ⟨⟨e0, e1⟩, y0, y1⟩ := hS'
            go_simp <;> rfl
          go_simp
          refine wpF_take (v := ?_) hS rfl ?_ (fun _ _ _ h => h) ?_
          rotate_left
          · intro w' hS'
            obtain ⟨⟨e0, e1⟩, y0, y1⟩ := hS'
            go_simp <;> rfl
          go_simp
          refine wpF_nil ?_
          have f1 := F1
          have rl := rl'
          obtain ⟨⟨e0, e1⟩, _, _⟩ := hS
          clear F1 rl' hcv hvc
          go_wp2_with fail
          go_roundw
          case rel => exact ⟨i + 1, by omega, by go_num, by rw [HX1.out]; rfl, ⟨e0, e1⟩, rl, f1⟩
          case measure => simp [intOf]; omega
      · refine wp_region_order (BxP w.heap.size a b bL (oL + i * 2) p1 p2) 99 [(0,0), (1,0), (2,0), (3,0), (4,0), (5,0), (6,0), (7,1), (8,0), (9,0), (10,0), (11,0), (12,0), (13,0), (14,0), (15,1), (16,0), (17,0)] (by kernel_rfl) (by kernel_rfl) ?_
        simp only [pick, List.filterMap_cons, List.filterMap_nil, List.getElem?_cons_zero, List.getElem?_cons_succ, Option.map_some]
        have hS : BxP w.heap.size a b bL (oL + i * 2) p1 p2 wr.drew := ⟨⟨e0, e1⟩, y0, y1⟩
        have rl' : RdR ntC 2 wr.drew wr.drew.heap.size (some ⟨bL, oL, none⟩) n l := rl
        have F1 : Below w.heap.size w wr.drew := f1.drew
        clear f1 rl e0 e1 y0 y1
        generalize wr.drew = wd at *
        refine wpF_take (v := ?_) hS rfl ?_ (fun _ _ _ h => h) ?_
        rotate_left
        · intro w' hS'
          obtain ⟨⟨e0, e1⟩, y0, y1⟩ := hS'
          go_simp <;> rfl
        go_simp
        refine wpF_take (v := ?_) hS rfl ?_ (fun _ _ _ h => h) ?_
        rotate_left
        · intro w' hS'
          obtain ⟨⟨e0, e1⟩, y0, y1⟩ := hS'
          go_simp <;> rfl
        go_simp
        refine wpF_skip hS rfl (fun _ _ _ h => h) ?_
        go_simp
        refine wpF_skip hS rfl (fun _ _ _ h => h) ?_
        go_simp
        refine wpF_skip hS rfl (fun _ _ _ h => h) ?_
        go_simp
        refine wpF_skip hS rfl (fun _ _ _ h => h) ?_
        go_simp
        refine wpF_skip hS rfl (fun _ _ _ h => h) ?_
        go_simp
        refine wpF_pass rfl (fun _ => hS) ?_
        go_simp
        refine wpF_take (v := ?_) hS rfl ?_ (fun _ _ _ h => h) ?_
        rotate_left
        · intro w' hS'
          obtain ⟨⟨e0, e1⟩, y0, y1⟩ := hS'
          go_simp <;> rfl
        go_simp
        refine wpF_take (v := ?_) hS rfl ?_ (fun _ _ _ h => h) ?_
        rotate_left
        · intro w' hS'
          obtain ⟨⟨e0, e1⟩, y0, y1⟩ := hS'
          go_simp <;> rfl
        go_simp
        refine wpF_skip hS rfl (fun _ _ _ h => h) ?_
        go_simp
        refine wpF_skip hS rfl (fun _ _ _ h => h) ?_
        go_simp
        refine wpF_skip hS rfl (fun _ _ _ h => h) ?_
        go_simp
        refine wpF_skip hS rfl (fun _ _ _ h => h) ?_
        go_simp
        refine wpF_skip hS rfl (fun _ _ _ h => h) ?_
        go_simp
        refine wpF_pass rfl (fun _ => hS) ?_
        go_simp
        refine wpF_take (v := ?_) hS rfl ?_ (fun _ _ _ h => h) ?_
        rotate_left
        · intro w' hS'
          obtain ⟨⟨e0, e1⟩, y0, y1⟩ := hS'
          go_simp <;> rfl
        go_simp
        refine wpF_take (v := ?_) hS rfl ?_ (fun _ _ _ h => h) ?_
        rotate_left
        · intro w' hS'
          obtain ⟨⟨e0, e1⟩, y0, y1⟩ := hS'
          go_simp <;> rfl
        go_simp
        refine wpF_nil ?_
        have f1 := F1
        have rl := rl'
        obtain ⟨⟨e0, e1⟩, _, _⟩ := hS
        clear F1 rl' hcv hvc
        go_wp2_with fail
        go_roundw
        case rel => exact ⟨i + 1, by omega, by go_num, by rw [HX1.out, Bool.true_or], ⟨e0, e1⟩, rl, f1⟩
        case measure => simp [intOf]; omega
    · obtain rfl : n = i := by omega
      have d2 : decide ((n : Int) < (n : Int)) = false := by simp
      have h1 := HIV.out
      rw [List.take_of_length_le (by rw [HL.out]; exact Nat.le_refl _)] at h1
      replace h1 : rSome l (a, b) = iv := h1
      rcases iv with _ | _
      · have hw := rMerge_no h1 kk
        clear h1 HIV hwh
        have HW := Lib.hid hw; clear hw
        go_wp2_with fail
        go_ret
        exact ⟨none, 0, 0, rfl, by rw [HW.out]; exact OwnR.nil, f1⟩
      · have hw1 := rMerge_one h1 kk
        have hw0 : kk = 0 → rWhole l kk (a, b) = true := fun e => by subst e; exact some_whole hk h1
        obtain ⟨wv, hwv⟩ : ∃ q, rWhole l kk (a, b) = q := ⟨_, rfl⟩
        rw [hwv] at hwh hw1 hw0
        rcases wv with _ | _
        · have hk0 : kk ≠ 0 := fun e => by cases hw0 e
          have hwf := hwv
          clear hw0 hw1 hwv
          have h32 : b < 32 := by omega
          go_wp2_with fail
          refine (hwh _ rl).mono ?_
          rintro _ wr ⟨rfl, f9⟩
          obtain ⟨e0, e1⟩ := BxS.below ⟨e0, e1⟩ f9
          replace rl := (rl.below f9).more f9.size
          replace f1 := f1.trans (f9.mono f1.size)
          clear f9
          have hq : nHigh (a, b) = (nhi (a, b + 1), b + 1) := rfl
          have hp : nLow (a, b) = (a, b + 1) := rfl
          obtain ⟨k, rfl⟩ : ∃ q, kk = q + 1 := ⟨kk - 1, by have := nk_bits hm; simp only at this; omega⟩
          have H := halved hm hk
          have hhi := hi_le hm ha
          have hpos := Nat.pow_pos (n := k) (show 0 < 2 by omega)
          have hgap := H.gap
          have hlo := H.hlow
          have hml := H.mlow; have hmh := H.mhigh; have hkl := H.klow; have hkh := H.khigh
          rw [hp] at hlo hml hkl
          rw [hq] at hmh hkh
          simp only at hlo
          have okl : okN (a, b + 1) := ⟨ha, by show _ ≤ b + 1; omega, by show b + 1 ≤ _; omega⟩
          have hrl2 := fun w => refLast_any a (b + 1) w okl hml
          obtain ⟨h, hh⟩ : ∃ h, nhi (a, b + 1) = h := ⟨_, rfl⟩
          rw [hh] at hrl2 hlo hmh hkh
          have hlt : h < 4294967296 := by omega
          have vh : IntKind.u32.wrap (((h - 1 : Nat) : Int) + 1) = (h : Int) := by rw [IntWalk.u32_in _ (by omega)]; omega
          have v1 : IntKind.i64.wrap (b + 1) = b + 1 := IntWalk.i64_in _ (by omega)
          have b31 : b + 1 ≤ 9223372036854775807 := by omega
          have hih1 := fun w h1 => ih k rfl a (b + 1) w hkl hml ha h1
          have hih2 := fun w h1 => ih k rfl h (b + 1) w hkh hmh hlt h1
          have Hsz := Lib.hid (show (Tryz.prog.info? 29).map (·.size) = some 2 by kernel_rfl)
          have hw : rMerge l (k + 1) (a, b) = rMerge l k (a, b + 1) ++ rMerge l k (h, b + 1) := by
            rw [rMerge_two h1 hwf, hp, hq, hh]
          have hln1 := rMerge_len l k (a, b + 1)
          have hln2 := rMerge_len l k (h, b + 1)
          have hp32 : 2 ^ k ≤ 2 ^ 32 := Nat.pow_le_pow_right (by omega) (by omega)
          unfold MrPost at hih1 hih2
          generalize rMerge l k (a, b + 1) = v1 at *
          generalize rMerge l k (h, b + 1) = v2 at *
          have HW := Lib.hid hw
          clear hw h1 hwf HIV hwh
          clear H hhi hpos hgap hlo hml hmh hkl hkh okl hh hq hp hk hm
          go_upto_region 11 with fail
          refine abs (fun wx => (BxS w.heap.size a b wx ∧ BxS wr.heap.size a (b + 1) wx) ∧ RdR ntC 2 wx wx.heap.size A n l ∧ Below w.heap.size w wx) ⟨⟨BxS.below ⟨e0, e1⟩ ((Below.refl _ wr).alloc (Nat.le_refl _) _), box_cells wr a (b + 1)⟩, (rl.below ((Below.refl _ wr).alloc (Nat.le_refl _) _)).more (by simp), f1.alloc f1.size _⟩ ?_
          clear e0 e1 rl f1
          rintro w8 ⟨⟨⟨e0, e1⟩, l0, l1⟩, rl8, f8⟩
          have le0 := World.block_lt_of_cell? w8 _ e0
          have ll0 := World.block_lt_of_cell? w8 _ l0
          have E0 := fun (u : World) (h : Below w8.heap.size w8 u) => (h.cell (p := ⟨w.heap.size, 0, none⟩) le0).trans e0
          have E1 := fun (u : World) (h : Below w8.heap.size w8 u) => (h.cell (p := ⟨w.heap.size, 1, none⟩) le0).trans e1
          have L0 := fun (u : World) (h : Below w8.heap.size w8 u) => (h.cell (p := ⟨wr.heap.size, 0, none⟩) ll0).trans l0
          have L1 := fun (u : World) (h : Below w8.heap.size w8 u) => (h.cell (p := ⟨wr.heap.size, 1, none⟩) ll0).trans l1
          clear e0 e1 l0 l1 le0 ll0
          generalize wr.heap.size = gl at *
          refine F2.wp_region_facts (fun u => Below w8.heap.size w8 u) [
              fun _ v _ => v = .agg #[.int .u32 (a : Int), .int .i64 (b + 1)],
              fun _ v _ => v = .int .u32 ((h - 1 : Nat) : Int),
              fun _ v _ => v = .int .u32 (h : Int),
              fun _ v _ => v = .pointer (some ⟨w.heap.size, 1, none⟩),
              fun _ v _ => v = .int .i64 b,
              fun _ v _ => v = .int .i64 (b + 1),
              fun _ v _ => v = .agg #[.int .u32 (h : Int), .int .i64 (b + 1)],
              fun _ v u => ∃ g', v = .pointer (some ⟨g', 0, none⟩) ∧ w8.heap.size ≤ g' ∧ Blk u g' 29 [.int .u32 0, .int .i64 0],
              fun xs _ u => ∃ g', xs[1]? = some (.pointer (some ⟨g', 0, none⟩)) ∧ w8.heap.size ≤ g' ∧ Blk u g' 29 [.int .u32 (h : Int), .int .i64 (b + 1)]] (fun u u' => Below u.heap.size u u')
              [[], [0], [1], [], [3], [4], [2, 5], [], [6, 7]] [[], [], [], [], [], [], [], [], [7]]
              (by kernel_rfl) (by kernel_rfl) ?_ (fun _ _ _ _ _ h => h) ((Below.refl _ _).drew) ?_ ?_
          · refine F2.hE_of (fun u u' h f => f.trans (h.mono f.size)) ?_
            repeat' (first | exact F2.mono_nil | refine F2.mono_cons (fun xs v u u' h => ?_) ?_)
            all_goals first | exact _root_.id | (rintro ⟨g', e, h1, k⟩; exact ⟨g', e, h1, k.below h k.lt⟩)
          ·
            refine F2.owed_cons (fun vs u hS hD N => ?_) ?_
            · clear hD
              intro hN
              simp only [F2.fact, F2.layAt, F2.depOn, F2.dstOf, List.map_cons, List.map_nil, List.foldl_cons, List.foldl_nil, List.getD_cons_zero, List.getD_cons_succ, List.getElem?_cons_zero, List.getElem?_cons_succ, Option.bind_some] at hN ⊢
              go_simp
              have l0 := L0 _ hS
              have l1 := L1 _ hS
              go_simp
              have hh := hN _ _ rfl (.inl (Below.refl _ _))
              revert hh
              go_simp
            refine F2.owed_cons (fun vs u hS hD N => ?_) ?_
            · have d0 := hD 0 (by decide)
              simp only [F2.fact, F2.layAt, F2.depOn, F2.dstOf, List.map_cons, List.map_nil, List.foldl_cons, List.foldl_nil, List.getD_cons_zero, List.getD_cons_succ, List.getElem?_cons_zero, List.getElem?_cons_succ, Option.bind_some] at d0
              clear hD
              intro hN
              simp only [F2.fact, F2.layAt, F2.depOn, F2.dstOf, List.map_cons, List.map_nil, List.foldl_cons, List.foldl_nil, List.getD_cons_zero, List.getD_cons_succ, List.getElem?_cons_zero, List.getElem?_cons_succ, Option.bind_some, d0] at hN ⊢
              go_simp
              refine (hrl2 u).mono ?_
              rintro e u' ⟨rfl, f⟩
              have hh := hN _ _ rfl (.inl f.below)
              revert hh
              go_simp
            refine F2.owed_cons (fun vs u hS hD N => ?_) ?_
            · have d1 := hD 1 (by decide)
              simp only [F2.fact, F2.layAt, F2.depOn, F2.dstOf, List.map_cons, List.map_nil, List.foldl_cons, List.foldl_nil, List.getD_cons_zero, List.getD_cons_succ, List.getElem?_cons_zero, List.getElem?_cons_succ, Option.bind_some] at d1
              clear hD
              intro hN
              simp only [F2.fact, F2.layAt, F2.depOn, F2.dstOf, List.map_cons, List.map_nil, List.foldl_cons, List.foldl_nil, List.getD_cons_zero, List.getD_cons_succ, List.getElem?_cons_zero, List.getElem?_cons_succ, Option.bind_some, d1] at hN ⊢
              go_simp
              have hh := hN _ _ rfl (.inl (Below.refl _ _))
              revert hh
              go_simp
            refine F2.owed_cons (fun vs u hS hD N => ?_) ?_
            · clear hD
              intro hN
              simp only [F2.fact, F2.layAt, F2.depOn, F2.dstOf, List.map_cons, List.map_nil, List.foldl_cons, List.foldl_nil, List.getD_cons_zero, List.getD_cons_succ, List.getElem?_cons_zero, List.getElem?_cons_succ, Option.bind_some] at hN ⊢
              go_simp
              have hh := hN _ _ rfl (.inl (Below.refl _ _))
              revert hh
              go_simp
            refine F2.owed_cons (fun vs u hS hD N => ?_) ?_
            · have d3 := hD 3 (by decide)
              simp only [F2.fact, F2.layAt, F2.depOn, F2.dstOf, List.map_cons, List.map_nil, List.foldl_cons, List.foldl_nil, List.getD_cons_zero, List.getD_cons_succ, List.getElem?_cons_zero, List.getElem?_cons_succ, Option.bind_some] at d3
              clear hD
              intro hN
              simp only [F2.fact, F2.layAt, F2.depOn, F2.dstOf, List.map_cons, List.map_nil, List.foldl_cons, List.foldl_nil, List.getD_cons_zero, List.getD_cons_succ, List.getElem?_cons_zero, List.getElem?_cons_succ, Option.bind_some, d3] at hN ⊢
              go_simp
              have e1 := E1 _ hS
              go_simp
              have hh := hN _ _ rfl (.inl (Below.refl _ _))
              revert hh
              go_simp
            refine F2.owed_cons (fun vs u hS hD N => ?_) ?_
            · have d4 := hD 4 (by decide)
              simp only [F2.fact, F2.layAt, F2.depOn, F2.dstOf, List.map_cons, List.map_nil, List.foldl_cons, List.foldl_nil, List.getD_cons_zero, List.getD_cons_succ, List.getElem?_cons_zero, List.getElem?_cons_succ, Option.bind_some] at d4
              clear hD
              intro hN
              simp only [F2.fact, F2.layAt, F2.depOn, F2.dstOf, List.map_cons, List.map_nil, List.foldl_cons, List.foldl_nil, List.getD_cons_zero, List.getD_cons_succ, List.getElem?_cons_zero, List.getElem?_cons_succ, Option.bind_some, d4] at hN ⊢
              go_simp
              have hh := hN _ _ rfl (.inl (Below.refl _ _))
              revert hh
              go_simp
            refine F2.owed_cons (fun vs u hS hD N => ?_) ?_
            · have d2 := hD 2 (by decide)
              simp only [F2.fact, F2.layAt, F2.depOn, F2.dstOf, List.map_cons, List.map_nil, List.foldl_cons, List.foldl_nil, List.getD_cons_zero, List.getD_cons_succ, List.getElem?_cons_zero, List.getElem?_cons_succ, Option.bind_some] at d2
              have d5 := hD 5 (by decide)
              simp only [F2.fact, F2.layAt, F2.depOn, F2.dstOf, List.map_cons, List.map_nil, List.foldl_cons, List.foldl_nil, List.getD_cons_zero, List.getD_cons_succ, List.getElem?_cons_zero, List.getElem?_cons_succ, Option.bind_some] at d5
              clear hD
              intro hN
              simp only [F2.fact, F2.layAt, F2.depOn, F2.dstOf, List.map_cons, List.map_nil, List.foldl_cons, List.foldl_nil, List.getD_cons_zero, List.getD_cons_succ, List.getElem?_cons_zero, List.getElem?_cons_succ, Option.bind_some, d2, d5] at hN ⊢
              go_simp
              have hh := hN _ _ rfl (.inl (Below.refl _ _))
              revert hh
              go_simp
            refine F2.owed_cons (fun vs u hS hD N => ?_) ?_
            · clear hD
              intro hN
              simp only [F2.fact, F2.layAt, F2.depOn, F2.dstOf, List.map_cons, List.map_nil, List.foldl_cons, List.foldl_nil, List.getD_cons_zero, List.getD_cons_succ, List.getElem?_cons_zero, List.getElem?_cons_succ, Option.bind_some] at hN ⊢
              go_simp
              have kk : Blk (u.alloc (.cells #[.int .u32 0, .int .i64 0] 29)) u.heap.size 29 [.int .u32 0, .int .i64 0] := Blk.newAt rfl _ _
              have hh := hN _ _ ⟨_, rfl, hS.size, kk⟩ (.inl ((Below.refl _ u).alloc (Nat.le_refl _) _))
              revert hh
              go_simp
            refine F2.owed_cons (fun vs u hS hD N => ?_) ?_
            · have d6 := hD 6 (by decide)
              simp only [F2.fact, F2.layAt, F2.depOn, F2.dstOf, List.map_cons, List.map_nil, List.foldl_cons, List.foldl_nil, List.getD_cons_zero, List.getD_cons_succ, List.getElem?_cons_zero, List.getElem?_cons_succ, Option.bind_some] at d6
              have d7 := hD 7 (by decide)
              simp only [F2.fact, F2.layAt, F2.depOn, F2.dstOf, List.map_cons, List.map_nil, List.foldl_cons, List.foldl_nil, List.getD_cons_zero, List.getD_cons_succ, List.getElem?_cons_zero, List.getElem?_cons_succ, Option.bind_some] at d7
              obtain ⟨g', e7, hg', kg⟩ := d7
              clear hD
              intro hN
              simp only [F2.fact, F2.layAt, F2.depOn, F2.dstOf, List.map_cons, List.map_nil, List.foldl_cons, List.foldl_nil, List.getD_cons_zero, List.getD_cons_succ, List.getElem?_cons_zero, List.getElem?_cons_succ, Option.bind_some, d6, e7] at hN ⊢
              rw [if_pos (by rfl)]
              refine wp_store_blk kg 29 (.tmp 8) (.tmp 51) rfl rfl (us := [.int .u32 (h : Int), .int .i64 (b + 1)]) rfl Hsz.out rfl rfl ?_
              intro u' k' hg2
              refine hN _ _ ⟨g', rfl, hg', k'⟩ (.inr ⟨hS.grown hg2 hS.size (by intro q hq2; injection hq2 with hq2; omega), fun j xs v h1 h2 h3 => ?_⟩)
              match j with
              | 7 => exact absurd (by decide) h2
              | 8 => exact absurd rfl h1
              | 0 | 1 | 2 | 3 | 4 | 5 | 6 | _ + 9 => exact _root_.id
            exact F2.owed_nil
          · intro vs u hS hF
            have d8 := hF 8 (by decide) (by decide)
            simp only [F2.fact, F2.layAt, F2.depOn, F2.dstOf, List.map_cons, List.map_nil, List.foldl_cons, List.foldl_nil, List.getD_cons_zero, List.getD_cons_succ, List.getElem?_cons_zero, List.getElem?_cons_succ, Option.bind_some] at d8
            obtain ⟨g', e7, hg', kg⟩ := d8
            replace e7 := Option.some.inj e7
            clear hF
            simp only [List.length_cons, List.length_nil, Nat.reduceAdd, List.range, List.range.loop, F2.fact, F2.layAt, F2.depOn, F2.dstOf, List.map_cons, List.map_nil, List.foldl_cons, List.foldl_nil, List.getD_cons_zero, List.getD_cons_succ, List.getElem?_cons_zero, List.getElem?_cons_succ, Option.bind_some, e7]
            go_simp
            obtain ⟨k0, k1⟩ : BxS g' h (b + 1) u := ⟨kg.cell 0, kg.cell 1⟩
            have l0 := L0 _ hS
            have l1 := L1 _ hS
            have e0 := E0 _ hS
            have e1 := E1 _ hS
            have rl := (rl8.below hS).more hS.size
            have f1 := f8.trans (hS.mono f8.size)
            clear L0 L1 E0 E1 rl8 f8 hS kg hg'
            generalize w8.heap.size = zz at *
            clear e0 e1
            unfold ntV at hih1 hih2
            go_upto_region 12 with fail
            refine wp_region_order (fun u => (BxS gl a (b + 1) u ∧ BxS g' h (b + 1) u) ∧ RdR ntC 2 u u.heap.size A n l) 99 [(0,0), (1,0), (3,0), (4,0), (2,1), (5,1), (6,1), (7,0)] (by kernel_rfl) (by kernel_rfl) ?_
            simp only [pick, List.filterMap_cons, List.filterMap_nil, List.getElem?_cons_zero, List.getElem?_cons_succ, Option.map_some]
            have hS : (BxS gl a (b + 1) u.drew ∧ BxS g' h (b + 1) u.drew) ∧ RdR ntC 2 u.drew u.drew.heap.size A n l := ⟨⟨⟨l0, l1⟩, k0, k1⟩, rl⟩
            have F1 : Below w.heap.size w u.drew := f1.drew
            clear f1 rl l0 l1 k0 k1
            generalize u.drew = wd at *
            have MK : ∀ v : World, Below wd.heap.size wd v → (BxS gl a (b + 1) v ∧ BxS g' h (b + 1) v) ∧ RdR ntC 2 v v.heap.size A n l := fun v hv => ⟨⟨hS.1.1.below hv, hS.1.2.below hv⟩, (hS.2.below hv).more hv.size⟩
            have F0 : Below wd.heap.size wd wd := Below.refl _ _
            refine wpF_take (v := ?_) hS rfl ?_ (fun _ _ _ h => h) ?_
            rotate_left
            · intro w' hS'
              obtain ⟨⟨⟨l0, l1⟩, k0, k1⟩, rl⟩ := hS'
              go_simp <;> rfl
            go_simp
            refine wpF_take (v := ?_) hS rfl ?_ (fun _ _ _ h => h) ?_
            rotate_left
            · intro w' hS'
              obtain ⟨⟨⟨l0, l1⟩, k0, k1⟩, rl⟩ := hS'
              go_simp <;> rfl
            go_simp
            refine wpF_take (v := ?_) hS rfl ?_ (fun _ _ _ h => h) ?_
            rotate_left
            · intro w' hS'
              obtain ⟨⟨⟨l0, l1⟩, k0, k1⟩, rl⟩ := hS'
              go_simp <;> rfl
            go_simp
            refine wpF_take (v := ?_) hS rfl ?_ (fun _ _ _ h => h) ?_
            rotate_left
            · intro w' hS'
              obtain ⟨⟨⟨l0, l1⟩, k0, k1⟩, rl⟩ := hS'
              go_simp <;> rfl
            go_simp
            refine wpF_only rfl (fun K hK => ?_)
            go_wp2_with fail
            refine (hih1 _ hS.2).mono ?_
            rintro _ w9 ⟨A1, m1, c1, rfl, ow1, f9⟩
            replace F0 := F0.trans f9
            replace hS := MK _ F0
            have hm1 := ow1.len
            clear f9
            go_wp2_with fail
            first | refine ⟨fun _ => hS, ?_⟩ | refine ⟨hS, ?_⟩ | skip
            go_simp
            refine wpF_only rfl (fun K hK => ?_)
            go_wp2_with fail
            refine (hih2 _ hS.2).mono ?_
            rintro _ w10 ⟨A2, m2, c2, rfl, ow2, f9⟩
            replace ow1 := ow1.below (Nat.le_refl _) f9
            replace F0 := F0.trans (f9.mono F0.size)
            replace hS := MK _ F0
            have hm2 := ow2.len
            have rd2 := ow2.rd ntC_len
            clear f9 ow2
            go_wp2_with fail
            first | refine ⟨fun _ => hS, ?_⟩ | refine ⟨hS, ?_⟩ | skip
            go_simp
            refine wpF_only rfl (fun K hK => ?_)
            refine wp_appendRow TC ntC_len ntC_one rfl rfl ow1 rfl rd2 (by omega) (by simp only [maxLen]; omega) F0 (Nat.le_refl _) ?_
            intro A3 c3 w11 o3 f3 g3
            replace hS := MK _ f3
            refine hK _ _ ?_
            first | refine ⟨fun _ => hS, ?_⟩ | refine ⟨hS, ?_⟩ | skip
            go_simp
            refine wpF_take (v := ?_) hS rfl ?_ (fun _ _ _ h => h) ?_
            rotate_left
            · intro w' hS'
              obtain ⟨⟨⟨l0, l1⟩, k0, k1⟩, rl⟩ := hS'
              go_simp <;> rfl
            go_simp
            refine wpF_nil ?_
            go_wp2_with fail
            go_ret
            exact ⟨A3, m1 + m2, c3, rfl, by rw [HW.out]; exact o3.base_le F1.size, F1.trans (f3.mono F1.size)⟩
        · have HW := Lib.hid (hw1 rfl)
          clear h1 HIV hw0 hw1 hwv
          go_wp2_with fail
          refine (hwh _ rl).mono ?_
          rintro _ w9 ⟨rfl, f9⟩
          obtain ⟨e0, e1⟩ := BxS.below ⟨e0, e1⟩ f9
          replace rl := (rl.below f9).more f9.size
          replace f1 := f1.trans (f9.mono f1.size)
          clear f9
          have kb : Blk (w9.alloc (.cells #[.int .u32 (a : Int), .int .i64 b] 29)) w9.heap.size 29 (flatR ntC [(a, b)]) := Blk.newAt rfl _ _
          go_wp2_with fail
          go_ret
          exact ⟨_, 1, 1, rfl, by rw [HW.out]; exact own_one kb f1.size, f1.alloc f1.size _⟩
theorem refMg_any (l : List Nt) (A : Option Addr) (n cap : Nat) (hok : ∀ x ∈ l, okN x) (hn : n ≤ 1000000) : ∀ (kk a : Nat) (b : Int) (w : World), nk (a, b) = kk → nMay (a, b) = true → a < 4294967296 → RdR ntC 2 w w.heap.size A n l →
    Calls Tryz.prog 43 #[ntV a b, .slice A n cap] w (MrPost l kk a b w) := by
  intro kk
  induction kk with
  | zero => exact fun a b w hk hm ha hl => refMg_step l A n cap hok hn 0 (fun k' h => absurd h (by omega)) a b w hk hm ha hl
  | succ k ih =>
    intro a b w hk hm ha hl
    refine refMg_step l A n cap hok hn (k + 1) (fun k' h => ?_) a b w hk hm ha hl
    obtain rfl : k = k' := by omega
    exact ih
end Go.Proofs.YtddfgalofngoiaaGreatDoor
