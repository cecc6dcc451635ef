/- addr.Merge. Conditions: addresses of 32 bits, bits that fit an int; a million nets at most. -/
import Derived.Test.YtddfgalofngoiaaGreatDoorNetStep
import Derived.RegionTactic
import Derived.BigRegion
import Derived.Deep.LoopGhost
namespace Go.Proofs.YtddfgalofngoiaaGreatDoor
open Go.RowKit Go.Sort Go.Lib Go.Shelf
set_option linter.unusedVariables false
set_option linter.unusedSimpArgs false
/-- A row, owned; without elements it may be nowhere. -/
def OutS (w : World) (base : Nat) (A : Option Addr) (m c : Nat) (Y : List Nt) : Prop := Y.length = m ∧ (m = 0 ∨ ∃ g, A = some ⟨g, 0, none⟩ ∧ base ≤ g ∧ Rw w g c Y)
def MgPost (n : Nat) (L : List Nt) (w : World) (e : Ending) (w' : World) : Prop := ∃ A' m c' Y, e = .returned (.slice A' m c') ∧ OutS w' w.heap.size A' m c' Y ∧ Nice Y ∧ (∀ x, nHas Y x ↔ nHas L x) ∧ (∀ z ∈ Y, z.1 < 4294967296) ∧ m ≤ n ∧ Below w.heap.size w w'
/-- What holds of the row from round to round. -/
structure MgI (base g c : Nat) (L : List Nt) (w : World) (Y : List Nt) (wr : World) : Prop where
  rw_ : Rw wr g c Y
  rowed : Rowed Y
  has : ∀ x, nHas Y x ↔ nHas L x
  lt : ∀ z ∈ Y, z.1 < 4294967296
  bel : Below base w wr
set_option maxRecDepth 100000 in
set_option maxHeartbeats 4000000 in
theorem merge_any (A : Option Addr) (n c : Nat) (L : List Nt) (w : World) (h : RdR ntC 2 w w.heap.size A n L) (hok : ∀ x ∈ L, okN x) (hn : n ≤ 1000000) (hn0 : 0 < n) :
    Calls Tryz.prog 9 #[.slice A n c] w (MgPost n L w) := by
  have hl := h.1
  have HOK := Lib.hid hok; clear hok
  have HL := Lib.hid hl
  go_enter Tryz.func9, Tryz.ntmps9
  go_wp2_with fail
  go_step3
  go_wp2_with fail
  refine (cloneC_any A n c L w h hn).mono ?_
  rintro e w1 ⟨A1, c1, rfl, o1, f1⟩
  obtain ⟨a1, rfl⟩ : ∃ a, A1 = some a := by
    rcases A1 with _ | a
    · exfalso
      rcases o1.2 with ⟨h1, _⟩ | ⟨g, cap, cur, h1, _⟩
      · injection h1 with _ h2 _; omega
      · cases h1
    · exact ⟨a, rfl⟩
  obtain ⟨g, rfl, hg, r1⟩ := o1.rw
  clear o1 h hl
  go_wp2_with fail
  refine (deleteFunc_any g n c1 L w1 r1 HL.out HOK.out hn).mono ?_
  rintro e w2 ⟨rfl, r2, f2⟩
  obtain ⟨M, hM⟩ : ∃ M, L.filter nMay = M := ⟨_, rfl⟩
  have hMn : M.length ≤ n := by rw [← hM, ← HL.out]; exact List.length_filter_le _ _
  rw [hM] at r2 ⊢
  have HM := Lib.hid hM; clear hM
  replace f2 := f1.trans (f2.mono hg)
  clear r1 f1
  go_wp2_with fail
  refine (sortC_any g M.length c1 M w2 r2 rfl (by omega)).mono ?_
  rintro e w3 ⟨rfl, Y, r3, hp, hri, f3⟩
  have hYl : Y.length = M.length := hp.length_eq
  have hI : MgI w.heap.size g c1 L w Y w3 := by
    refine ⟨r3, ⟨fun z hz => ?_, hri⟩, fun x => ?_, fun z hz => ?_, f2.trans (f3.mono hg)⟩
    · have := (hp.mem_iff).1 hz
      rw [← HM.out, List.mem_filter] at this
      exact this.2
    · unfold nHas
      constructor
      · rintro ⟨z, hz, h1⟩
        have := (hp.mem_iff).1 hz
        rw [← HM.out, List.mem_filter] at this
        exact ⟨z, this.1, h1⟩
      · rintro ⟨z, hz, h1⟩
        exact ⟨z, (hp.mem_iff).2 (by rw [← HM.out, List.mem_filter]; exact ⟨hz, h1.1⟩), h1⟩
    · have := (hp.mem_iff).1 hz
      rw [← HM.out, List.mem_filter] at this
      exact (HOK.out z this.1).1
  clear hri hp f2 f3 r2 r3 HM HOK HL
  have hYn : Y.length ≤ n := by omega
  rw [← hYl]
  clear hYl hMn
  go_wp2_with fail
  go_step3
  go_wp2_with fail
  go_loopg [3] Y.length (fun gh s3 wx => ∃ Y : List Nt, s3 = .slice (some ⟨g, 0, none⟩) Y.length c1 ∧ Y.length ≤ gh ∧ Y.length ≤ n ∧ MgI w.heap.size g c1 L w Y wx)
  case atStart => exact ⟨Y, rfl, Nat.le_refl _, hYn, hI⟩
  case round =>
    clear hI hYn
    obtain ⟨gO, rfl⟩ : ∃ q : Nat, q = gk := ⟨_, rfl⟩
    obtain ⟨Y, rfl, hgh, hYn, hI⟩ := hrel
    go_wp2_with fail
    obtain ⟨wo, rfl⟩ : ∃ wo : World, wo = wr := ⟨_, rfl⟩
    go_loopg [3, 4] Y.length (fun gi s3 s4 wx => ∃ i : Nat, s3 = .slice (some ⟨g, 0, none⟩) Y.length c1 ∧ s4 = .int .i64 i ∧ 1 ≤ i ∧ Y.length ≤ i + gi ∧ i ≤ n + 1 ∧ Till Y i ∧ MgI w.heap.size g c1 L w Y wx)
    case atStart => exact ⟨1, rfl, rfl, Nat.le_refl _, by omega, by omega, till_one Y, hI⟩
    case round =>
      clear hI
      obtain ⟨i, rfl, rfl, hi1, hgi, hin, hst, hI⟩ := hrel
      obtain ⟨wv, rfl⟩ : ∃ wv : World, wv = wr := ⟨_, rfl⟩
      have HST := Lib.hid hst; clear hst
      have hcm : c1 ≤ 9223372036854775807 := by have := hI.rw_.cmax; unfold maxLen at this; omega
      by_cases hlt : i < Y.length
      · have d1 : decide ((i : Int) < (Y.length : Int)) = true := by simp; omega
        have b1 : (0 : Int) ≤ (i : Int) := by omega
        have b2 : (i : Int) < (Y.length : Int) := by omega
        have b3 : (0 : Int) ≤ (i : Int) - 1 := by omega
        have b4 : (i : Int) - 1 < (Y.length : Int) := by omega
        have b5 : ((i : Int) - 1).toNat = i - 1 := by omega
        have b6 : (1 : Int) ≤ (i : Int) := by omega
        have vw : IntKind.i64.wrap ((i : Int) - 1) = (i : Int) - 1 := IntWalk.i64_in _ (by omega)
        obtain ⟨p0, p1⟩ := hI.rw_.at_ (j := i - 1) (by omega)
        obtain ⟨q0, q1⟩ := hI.rw_.at_ (j := i) hlt
        rw [← ntAt_eq (by omega)] at p0 p1 q0 q1
        have hxm := hI.rowed.may (ntAt Y (i - 1)) (by rw [ntAt_eq (by omega)]; exact List.getElem_mem _)
        have hym := hI.rowed.may (ntAt Y i) (by rw [ntAt_eq (by omega)]; exact List.getElem_mem _)
        have hxl := hI.lt (ntAt Y (i - 1)) (by rw [ntAt_eq (by omega)]; exact List.getElem_mem _)
        have hyl := hI.lt (ntAt Y i) (by rw [ntAt_eq (by omega)]; exact List.getElem_mem _)
        obtain ⟨x1, x2, hx⟩ : ∃ a b, ntAt Y (i - 1) = (a, b) := ⟨_, _, rfl⟩
        obtain ⟨y1, y2, hy⟩ : ∃ a b, ntAt Y i = (a, b) := ⟨_, _, rfl⟩
        rw [hx] at p0 p1 hxm hxl
        rw [hy] at q0 q1 hym hyl
        have HX := Lib.hid hx; clear hx
        have HY := Lib.hid hy; clear hy
        simp only at p0 p1 q0 q1 hxl hyl
        have hgl := hI.rw_.lt
        have hgn : ¬ g = wv.heap.size := by omega
        have hgn1 : ¬ g = wv.heap.size + 1 := by omega
        have hgl1 : g < wv.heap.size + 1 := by omega
        go_upto_region 6 with fail
        go_region
        · obtain ⟨pa, hpa⟩ : ∃ q, q = wv.heap.size := ⟨_, rfl⟩
          obtain ⟨pb, hpb⟩ : ∃ q, q = wv.heap.size + 1 := ⟨_, rfl⟩
          have ha : BxS pa x1 x2 (((wv.alloc (.cells #[.int .u32 (x1 : Int), .int .i64 x2] 29)).alloc (.cells #[.int .u32 (y1 : Int), .int .i64 y2] 29)).drew) := by rw [hpa]; exact (box_two wv x1 x2 y1 y2).1
          have hb : BxS pb y1 y2 (((wv.alloc (.cells #[.int .u32 (x1 : Int), .int .i64 x2] 29)).alloc (.cells #[.int .u32 (y1 : Int), .int .i64 y2] 29)).drew) := by rw [hpb]; exact (box_two wv x1 x2 y1 y2).2
          have hf : Below wv.heap.size wv (((wv.alloc (.cells #[.int .u32 (x1 : Int), .int .i64 x2] 29)).alloc (.cells #[.int .u32 (y1 : Int), .int .i64 y2] 29)).drew) := (((Below.refl _ wv).alloc (Nat.le_refl _) _).alloc (by simp) _).drew
          rw [← hpb, ← hpa]
          generalize ((wv.alloc (.cells #[.int .u32 (x1 : Int), .int .i64 x2] 29)).alloc (.cells #[.int .u32 (y1 : Int), .int .i64 y2] 29)).drew = wz at ha hb hf ⊢
          have hR := Lib.hid (hI.rw_.below hf hgl)
          have hrow := hI.rowed
          have hhas := hI.has
          have hlt5 := hI.lt
          have hbel := hI.bel.trans (hf.mono hI.bel.size)
          have HROW := Lib.hid hrow; have HHAS := Lib.hid hhas; have HLT := Lib.hid hlt5
          clear hI hf hrow hhas hlt5 p0 p1 q0 q1 hpa hpb hgn hgn1 hgl1 hgl
          have hox : okN (x1, x2) := by
            obtain ⟨h1, h2, _⟩ := (nMay_iff (x1, x2)).1 hxm
            simp only at h1 h2
            exact ⟨hxl, by show _ ≤ x2; omega, by show x2 ≤ _; omega⟩
          have hoy : okN (y1, y2) := by
            obtain ⟨h1, h2, _⟩ := (nMay_iff (y1, y2)).1 hym
            simp only at h1 h2
            exact ⟨hyl, by show _ ≤ y2; omega, by show y2 ≤ _; omega⟩
          have hx32 : x2 ≤ 32 := ((nMay_iff (x1, x2)).1 hxm).2.1
          have hy32 : y2 ≤ 32 := ((nMay_iff (y1, y2)).1 hym).2.1
          have HXM := Lib.hid hxm; have HYM := Lib.hid hym; have HOX := Lib.hid hox; have HOY := Lib.hid hoy
          clear hxm hym hox hoy
          have hcv := fun w => cov_any x1 x2 y1 y2 w HOX.out HOY.out
          unfold ntV at hcv
          obtain ⟨e0, e1⟩ := ha
          obtain ⟨e2, e3⟩ := hb
          go_wp2_with fail
          refine (hcv wz).mono ?_
          rintro e w4 ⟨rfl, f4⟩
          have hS := BxS.both ⟨⟨e0, e1⟩, e2, e3⟩ f4.below
          have hgz : g < wz.heap.size := hR.out.lt
          replace hR := Lib.hid (hR.out.below f4.below hgz)
          replace hbel := hbel.trans (f4.below.mono hbel.size)
          clear e0 e1 e2 e3 f4 hcv hgz
          have hcx : nCov (x1, x2) (y1, y2) = nCov (ntAt Y (i - 1)) (ntAt Y i) := by rw [HX.out, HY.out]
          cases hc : nCov (x1, x2) (y1, y2)
          · have hsx : nSib (x1, x2) (y1, y2) = nSib (ntAt Y (i - 1)) (ntAt Y i) := by rw [HX.out, HY.out]
            have hsd : nSib (x1, x2) (y1, y2) = (decide (x2 = y2) && (decide (0 < x2) && decide (nPar (x1, x2) = nPar (y1, y2)))) := rfl
            rw [hc] at hcx
            have HCX := Lib.hid hcx.symm; clear hcx hc
            by_cases hxy : x2 = y2
            · by_cases hpos : 0 < x2
              · by_cases hpp : nPar (x1, x2) = nPar (y1, y2)
                · have hs0 : nSib (x1, x2) (y1, y2) = true := by
                    rw [hsd, decide_eq_true hxy, decide_eq_true hpos, decide_eq_true hpp]
                    rfl
                  have HM := Lib.hid (till_sib hi1 hlt HST.out HCX.out (hsx ▸ hs0))
                  rw [show ntAt Y (i - 1) = (x1, x2) from HX.out] at HM
                  clear hs0 hsx hsd
                  have dxy : (x2 == y2) = true := by simp [hxy]
                  have dps : decide (0 < x2) = true := by simp; omega
                  have hpos2 : 0 < y2 := by omega
                  have HXY := Lib.hid hxy; clear hxy
                  have qe := fun w : World => run_nt_eq (nPar (x1, x2)).1 (nPar (x1, x2)).2 (nPar (y1, y2)).1 (nPar (y1, y2)).2 w
                  rw [show decide (((nPar (x1, x2)).1, (nPar (x1, x2)).2) = ((nPar (y1, y2)).1, (nPar (y1, y2)).2)) = true from decide_eq_true hpp] at qe
                  have hpx := fun w => parent_any x1 x2 w HOX.out hpos hx32
                  have hpy := fun w => parent_any y1 y2 w HOY.out hpos2 hy32
                  unfold ntV at hpx hpy
                  obtain ⟨px, hpx1⟩ : ∃ p, nPar (x1, x2) = p := ⟨_, rfl⟩
                  obtain ⟨py, hpy1⟩ : ∃ p, nPar (y1, y2) = p := ⟨_, rfl⟩
                  rw [hpx1] at hpx qe
                  rw [hpy1] at hpy qe
                  have HPX := Lib.hid hpx1; have HPY := Lib.hid hpy1
                  clear hpx1 hpy1 hpp
                  go_wp2_with fail
                  refine wp_region_order (fun u => BxS pa x1 x2 u ∧ BxS pb y1 y2 u) 99 [(0,0), (1,0), (2,0), (3,0), (4,0), (5,0), (6,0), (7,0), (8,0), (9,0), (10,0), (11,0), (13,0), (12,1), (14,1), (15,0), (16,0), (17,0)] (by kernel_rfl) (by kernel_rfl) ?_
                  simp only [pick, List.filterMap_cons, List.filterMap_nil, List.getElem?_cons_zero, List.getElem?_cons_succ, Option.map_some]
                  replace hR : Hid (Rw w4.drew g c1 Y) := hR
                  replace hbel : Below w.heap.size w w4.drew := hbel.drew
                  replace hS : BxS pa x1 x2 w4.drew ∧ BxS pb y1 y2 w4.drew := hS
                  generalize w4.drew = wd at *
                  refine wpF_take (v := ?_) hS rfl ?_ (fun _ _ _ h => h) ?_
                  rotate_left
                  · intro w' hS'
                    obtain ⟨⟨e0, e1⟩, e2, e3⟩ := hS'
                    go_simp <;> rfl
                  go_simp
                  refine wpF_take (v := ?_) hS rfl ?_ (fun _ _ _ h => h) ?_
                  rotate_left
                  · intro w' hS'
                    obtain ⟨⟨e0, e1⟩, e2, e3⟩ := hS'
                    go_simp <;> rfl
                  go_simp
                  refine wpF_take (v := ?_) hS rfl ?_ (fun _ _ _ h => h) ?_
                  rotate_left
                  · intro w' hS'
                    obtain ⟨⟨e0, e1⟩, e2, e3⟩ := hS'
                    go_simp <;> rfl
                  go_simp
                  refine wpF_take (v := ?_) hS rfl ?_ (fun _ _ _ h => h) ?_
                  rotate_left
                  · intro w' hS'
                    obtain ⟨⟨e0, e1⟩, e2, e3⟩ := hS'
                    go_simp <;> rfl
                  go_simp
                  refine wpF_take (v := ?_) hS rfl ?_ (fun _ _ _ h => h) ?_
                  rotate_left
                  · intro w' hS'
                    obtain ⟨⟨e0, e1⟩, e2, e3⟩ := hS'
                    go_simp <;> rfl
                  go_simp
                  refine wpF_take (v := ?_) hS rfl ?_ (fun _ _ _ h => h) ?_
                  rotate_left
                  · intro w' hS'
                    obtain ⟨⟨e0, e1⟩, e2, e3⟩ := hS'
                    go_simp <;> rfl
                  go_simp
                  refine wpF_take (v := ?_) hS rfl ?_ (fun _ _ _ h => h) ?_
                  rotate_left
                  · intro w' hS'
                    obtain ⟨⟨e0, e1⟩, e2, e3⟩ := hS'
                    go_simp <;> rfl
                  go_simp
                  refine wpF_take (v := ?_) hS rfl ?_ (fun _ _ _ h => h) ?_
                  rotate_left
                  · intro w' hS'
                    obtain ⟨⟨e0, e1⟩, e2, e3⟩ := hS'
                    go_simp <;> rfl
                  go_simp
                  refine wpF_take (v := ?_) hS rfl ?_ (fun _ _ _ h => h) ?_
                  rotate_left
                  · intro w' hS'
                    obtain ⟨⟨e0, e1⟩, e2, e3⟩ := hS'
                    go_simp <;> rfl
                  go_simp
                  refine wpF_take (v := ?_) hS rfl ?_ (fun _ _ _ h => h) ?_
                  rotate_left
                  · intro w' hS'
                    obtain ⟨⟨e0, e1⟩, e2, e3⟩ := hS'
                    go_simp <;> rfl
                  go_simp
                  refine wpF_take (v := ?_) hS rfl ?_ (fun _ _ _ h => h) ?_
                  rotate_left
                  · intro w' hS'
                    obtain ⟨⟨e0, e1⟩, e2, e3⟩ := hS'
                    go_simp <;> rfl
                  go_simp
                  refine wpF_take (v := ?_) hS rfl ?_ (fun _ _ _ h => h) ?_
                  rotate_left
                  · intro w' hS'
                    obtain ⟨⟨e0, e1⟩, e2, e3⟩ := hS'
                    go_simp <;> rfl
                  go_simp
                  refine wpF_take (v := ?_) hS rfl ?_ (fun _ _ _ h => h) ?_
                  rotate_left
                  · intro w' hS'
                    obtain ⟨⟨e0, e1⟩, e2, e3⟩ := hS'
                    go_simp <;> rfl
                  go_simp
                  refine wpF_only rfl (fun K hK => ?_)
                  go_wp2_with fail
                  refine ((hpx _).mono ?_)
                  rintro e w5 ⟨rfl, f5⟩
                  have hgd : g < _ := hR.out.lt
                  replace hR := Lib.hid (hR.out.below f5 hgd)
                  replace hbel := hbel.trans (f5.mono hbel.size)
                  replace hS := BxS.both hS f5
                  clear f5 hgd
                  go_wp2_with fail
                  first | refine ⟨fun _ => hS, ?_⟩ | refine ⟨hS, ?_⟩ | skip
                  go_simp
                  refine wpF_only rfl (fun K hK => ?_)
                  go_wp2_with fail
                  refine ((hpy _).mono ?_)
                  rintro e w5 ⟨rfl, f5⟩
                  have hgd : g < _ := hR.out.lt
                  replace hR := Lib.hid (hR.out.below f5 hgd)
                  replace hbel := hbel.trans (f5.mono hbel.size)
                  replace hS := BxS.both hS f5
                  clear f5 hgd
                  go_wp2_with fail
                  first | refine ⟨fun _ => hS, ?_⟩ | refine ⟨hS, ?_⟩ | skip
                  go_simp
                  refine wpF_take (v := ?_) hS rfl ?_ (fun _ _ _ h => h) ?_
                  rotate_left
                  · intro w' hS'
                    obtain ⟨⟨e0, e1⟩, e2, e3⟩ := hS'
                    go_simp <;> rfl
                  go_simp
                  refine wpF_take (v := ?_) hS rfl ?_ (fun _ _ _ h => h) ?_
                  rotate_left
                  · intro w' hS'
                    obtain ⟨⟨e0, e1⟩, e2, e3⟩ := hS'
                    go_simp <;> rfl
                  go_simp
                  refine wpF_take (v := ?_) hS rfl ?_ (fun _ _ _ h => h) ?_
                  rotate_left
                  · intro w' hS'
                    obtain ⟨⟨e0, e1⟩, e2, e3⟩ := hS'
                    go_simp <;> rfl
                  go_simp
                  refine wpF_nil ?_
                  obtain ⟨⟨e0, e1⟩, e2, e3⟩ := hS
                  go_wp2_with fail
                  refine (hpx _).mono ?_
                  rintro e w6 ⟨rfl, f6⟩
                  have hgd : g < _ := hR.out.lt
                  replace hR := Lib.hid (hR.out.below f6 hgd)
                  replace hbel := hbel.trans (f6.mono hbel.size)
                  clear f6 hgd e0 e1 e2 e3 qe hpx hpy
                  have hcl := hR.out.fits
                  obtain ⟨k0, g0⟩ := hR.out.cells ((i - 1) * 2) (by omega)
                  obtain ⟨k1, g1⟩ := hR.out.cells ((i - 1) * 2 + 1) (by omega)
                  obtain ⟨u0, k0⟩ := Option.isSome_iff_exists.1 k0
                  obtain ⟨u1, k1⟩ := Option.isSome_iff_exists.1 k1
                  have hR2 := Lib.hid (hR.out.set (i := i - 1) (by omega) px)
                  have hls : (Y.set (i - 1) px).length = Y.length := List.length_set
                  have hdl := fun w h => delete2_any g c1 i (Y.set (i - 1) px) w h (by rw [hls]; exact hlt) (by rw [hls]; omega)
                  rw [hls] at hdl
                  have HLS := Lib.hid hls; clear hls
                  have hbel2 := (hbel.setCell (p := ⟨g, (i - 1) * 2, none⟩) (by exact hg) (.int .u32 (px.1 : Int))).setCell (p := ⟨g, (i - 1) * 2 + 1, none⟩) (by exact hg) (.int .i64 px.2)
                  clear hR hbel
                  go_wp2_with fail
                  refine (hdl _ hR2.out).mono ?_
                  rintro e w7 ⟨rfl, r7, f7⟩
                  have hml := HM.out
                  rw [HPX.out] at hml
                  have hI5 : MgI w.heap.size g c1 L w ((Y.set (i - 1) px).eraseIdx i) w7 := by
                    obtain ⟨h1, h2, h3, _⟩ := mstep_some HROW.out hml
                    refine ⟨r7, h1, fun x => (h2 x).trans (HHAS.out x), fun z hz => ?_, hbel2.trans (f7.mono hg)⟩
                    rcases List.mem_or_eq_of_mem_set (List.mem_of_mem_eraseIdx hz) with hz | rfl
                    · exact HLT.out z hz
                    · rw [← HPX.out]
                      exact Nat.lt_of_le_of_lt (Nat.div_mul_le_self _ _) hxl
                  have hl5 : ((Y.set (i - 1) px).eraseIdx i).length + 1 = Y.length := by
                    rw [List.length_eraseIdx, if_pos (by rw [HLS.out]; omega), HLS.out]
                    omega
                  have HML := Lib.hid hml
                  clear hml r7 f7 hdl hbel2
                  go_wp2_with fail
                  cases gO with
                  | zero => exact absurd hgh (by omega)
                  | succ gO =>
                    go_roundg gO
                    case measure => exact Nat.lt_succ_self _
                    case rel => exact ⟨(Y.set (i - 1) px).eraseIdx i, rfl, by omega, by omega, hI5⟩
                · have hs0 : nSib (x1, x2) (y1, y2) = false := by
                    rw [hsd, decide_eq_false hpp, Bool.and_false, Bool.and_false]
                  have HNX := Lib.hid (till_next hi1 hlt HST.out HCX.out (hsx ▸ hs0))
                  clear hs0 hsx hsd
                  have dxy : (x2 == y2) = true := by simp [hxy]
                  have dps : decide (0 < x2) = true := by simp; omega
                  have hpos2 : 0 < y2 := by omega
                  have HXY := Lib.hid hxy; clear hxy
                  have qe := fun w : World => run_nt_eq (nPar (x1, x2)).1 (nPar (x1, x2)).2 (nPar (y1, y2)).1 (nPar (y1, y2)).2 w
                  rw [show decide (((nPar (x1, x2)).1, (nPar (x1, x2)).2) = ((nPar (y1, y2)).1, (nPar (y1, y2)).2)) = false from decide_eq_false hpp] at qe
                  have hpx := fun w => parent_any x1 x2 w HOX.out hpos hx32
                  have hpy := fun w => parent_any y1 y2 w HOY.out hpos2 hy32
                  unfold ntV at hpx hpy
                  obtain ⟨px, hpx1⟩ : ∃ p, nPar (x1, x2) = p := ⟨_, rfl⟩
                  obtain ⟨py, hpy1⟩ : ∃ p, nPar (y1, y2) = p := ⟨_, rfl⟩
                  rw [hpx1] at hpx qe
                  rw [hpy1] at hpy qe
                  have HPX := Lib.hid hpx1; have HPY := Lib.hid hpy1
                  clear hpx1 hpy1 hpp
                  go_wp2_with fail
                  refine wp_region_order (fun u => BxS pa x1 x2 u ∧ BxS pb y1 y2 u) 99 [(0,0), (1,0), (2,0), (3,0), (4,0), (5,0), (6,0), (7,0), (8,0), (9,0), (10,0), (11,0), (13,0), (12,1), (14,1), (15,0), (16,0), (17,0)] (by kernel_rfl) (by kernel_rfl) ?_
                  simp only [pick, List.filterMap_cons, List.filterMap_nil, List.getElem?_cons_zero, List.getElem?_cons_succ, Option.map_some]
                  replace hR : Hid (Rw w4.drew g c1 Y) := hR
                  replace hbel : Below w.heap.size w w4.drew := hbel.drew
                  replace hS : BxS pa x1 x2 w4.drew ∧ BxS pb y1 y2 w4.drew := hS
                  generalize w4.drew = wd at *
                  refine wpF_take (v := ?_) hS rfl ?_ (fun _ _ _ h => h) ?_
                  rotate_left
                  · intro w' hS'
                    obtain ⟨⟨e0, e1⟩, e2, e3⟩ := hS'
                    go_simp <;> rfl
                  go_simp
                  refine wpF_take (v := ?_) hS rfl ?_ (fun _ _ _ h => h) ?_
                  rotate_left
                  · intro w' hS'
                    obtain ⟨⟨e0, e1⟩, e2, e3⟩ := hS'
                    go_simp <;> rfl
                  go_simp
                  refine wpF_take (v := ?_) hS rfl ?_ (fun _ _ _ h => h) ?_
                  rotate_left
                  · intro w' hS'
                    obtain ⟨⟨e0, e1⟩, e2, e3⟩ := hS'
                    go_simp <;> rfl
                  go_simp
                  refine wpF_take (v := ?_) hS rfl ?_ (fun _ _ _ h => h) ?_
                  rotate_left
                  · intro w' hS'
                    obtain ⟨⟨e0, e1⟩, e2, e3⟩ := hS'
                    go_simp <;> rfl
                  go_simp
                  refine wpF_take (v := ?_) hS rfl ?_ (fun _ _ _ h => h) ?_
                  rotate_left
                  · intro w' hS'
                    obtain ⟨⟨e0, e1⟩, e2, e3⟩ := hS'
                    go_simp <;> rfl
                  go_simp
                  refine wpF_take (v := ?_) hS rfl ?_ (fun _ _ _ h => h) ?_
                  rotate_left
                  · intro w' hS'
                    obtain ⟨⟨e0, e1⟩, e2, e3⟩ := hS'
                    go_simp <;> rfl
                  go_simp
                  refine wpF_take (v := ?_) hS rfl ?_ (fun _ _ _ h => h) ?_
                  rotate_left
                  · intro w' hS'
                    obtain ⟨⟨e0, e1⟩, e2, e3⟩ := hS'
                    go_simp <;> rfl
                  go_simp
                  refine wpF_take (v := ?_) hS rfl ?_ (fun _ _ _ h => h) ?_
                  rotate_left
                  · intro w' hS'
                    obtain ⟨⟨e0, e1⟩, e2, e3⟩ := hS'
                    go_simp <;> rfl
                  go_simp
                  refine wpF_take (v := ?_) hS rfl ?_ (fun _ _ _ h => h) ?_
                  rotate_left
                  · intro w' hS'
                    obtain ⟨⟨e0, e1⟩, e2, e3⟩ := hS'
                    go_simp <;> rfl
                  go_simp
                  refine wpF_take (v := ?_) hS rfl ?_ (fun _ _ _ h => h) ?_
                  rotate_left
                  · intro w' hS'
                    obtain ⟨⟨e0, e1⟩, e2, e3⟩ := hS'
                    go_simp <;> rfl
                  go_simp
                  refine wpF_take (v := ?_) hS rfl ?_ (fun _ _ _ h => h) ?_
                  rotate_left
                  · intro w' hS'
                    obtain ⟨⟨e0, e1⟩, e2, e3⟩ := hS'
                    go_simp <;> rfl
                  go_simp
                  refine wpF_take (v := ?_) hS rfl ?_ (fun _ _ _ h => h) ?_
                  rotate_left
                  · intro w' hS'
                    obtain ⟨⟨e0, e1⟩, e2, e3⟩ := hS'
                    go_simp <;> rfl
                  go_simp
                  refine wpF_take (v := ?_) hS rfl ?_ (fun _ _ _ h => h) ?_
                  rotate_left
                  · intro w' hS'
                    obtain ⟨⟨e0, e1⟩, e2, e3⟩ := hS'
                    go_simp <;> rfl
                  go_simp
                  refine wpF_only rfl (fun K hK => ?_)
                  go_wp2_with fail
                  refine ((hpx _).mono ?_)
                  rintro e w5 ⟨rfl, f5⟩
                  have hgd : g < _ := hR.out.lt
                  replace hR := Lib.hid (hR.out.below f5 hgd)
                  replace hbel := hbel.trans (f5.mono hbel.size)
                  replace hS := BxS.both hS f5
                  clear f5 hgd
                  go_wp2_with fail
                  first | refine ⟨fun _ => hS, ?_⟩ | refine ⟨hS, ?_⟩ | skip
                  go_simp
                  refine wpF_only rfl (fun K hK => ?_)
                  go_wp2_with fail
                  refine ((hpy _).mono ?_)
                  rintro e w5 ⟨rfl, f5⟩
                  have hgd : g < _ := hR.out.lt
                  replace hR := Lib.hid (hR.out.below f5 hgd)
                  replace hbel := hbel.trans (f5.mono hbel.size)
                  replace hS := BxS.both hS f5
                  clear f5 hgd
                  go_wp2_with fail
                  first | refine ⟨fun _ => hS, ?_⟩ | refine ⟨hS, ?_⟩ | skip
                  go_simp
                  refine wpF_take (v := ?_) hS rfl ?_ (fun _ _ _ h => h) ?_
                  rotate_left
                  · intro w' hS'
                    obtain ⟨⟨e0, e1⟩, e2, e3⟩ := hS'
                    go_simp <;> rfl
                  go_simp
                  refine wpF_take (v := ?_) hS rfl ?_ (fun _ _ _ h => h) ?_
                  rotate_left
                  · intro w' hS'
                    obtain ⟨⟨e0, e1⟩, e2, e3⟩ := hS'
                    go_simp <;> rfl
                  go_simp
                  refine wpF_take (v := ?_) hS rfl ?_ (fun _ _ _ h => h) ?_
                  rotate_left
                  · intro w' hS'
                    obtain ⟨⟨e0, e1⟩, e2, e3⟩ := hS'
                    go_simp <;> rfl
                  go_simp
                  refine wpF_nil ?_
                  go_wp2_with fail
                  cases gk with
                  | zero => exact absurd hgi (by omega)
                  | succ gq =>
                    go_roundg gq
                    case measure => exact Nat.lt_succ_self _
                    case rel => exact ⟨i + 1, rfl, by go_num, by omega, by omega, by omega, HNX.out, ⟨hR.out, HROW.out, HHAS.out, HLT.out, hbel⟩⟩
              · have hs0 : nSib (x1, x2) (y1, y2) = false := by
                  rw [hsd, decide_eq_false hpos, Bool.false_and, Bool.and_false]
                have HNX := Lib.hid (till_next hi1 hlt HST.out HCX.out (hsx ▸ hs0))
                clear hs0 hsx hsd
                have dxy : (x2 == y2) = true := by simp [hxy]
                have dps : decide (0 < x2) = false := by simp; omega
                have HXY := Lib.hid hxy; clear hxy
                go_wp2_with fail
                refine wp_region_order (fun u => BxS pa x1 x2 u ∧ BxS pb y1 y2 u) 99 [(0,0), (1,0), (2,0), (3,0), (4,0), (5,0), (6,0), (7,0), (8,0), (9,0), (10,0), (11,0), (13,0), (12,1), (14,1), (15,0), (16,0), (17,0)] (by kernel_rfl) (by kernel_rfl) ?_
                simp only [pick, List.filterMap_cons, List.filterMap_nil, List.getElem?_cons_zero, List.getElem?_cons_succ, Option.map_some]
                replace hR : Hid (Rw w4.drew g c1 Y) := hR
                replace hbel : Below w.heap.size w w4.drew := hbel.drew
                replace hS : BxS pa x1 x2 w4.drew ∧ BxS pb y1 y2 w4.drew := hS
                generalize w4.drew = wd at *
                refine wpF_take (v := ?_) hS rfl ?_ (fun _ _ _ h => h) ?_
                rotate_left
                · intro w' hS'
                  obtain ⟨⟨e0, e1⟩, e2, e3⟩ := hS'
                  go_simp <;> rfl
                go_simp
                refine wpF_take (v := ?_) hS rfl ?_ (fun _ _ _ h => h) ?_
                rotate_left
                · intro w' hS'
                  obtain ⟨⟨e0, e1⟩, e2, e3⟩ := hS'
                  go_simp <;> rfl
                go_simp
                refine wpF_take (v := ?_) hS rfl ?_ (fun _ _ _ h => h) ?_
                rotate_left
                · intro w' hS'
                  obtain ⟨⟨e0, e1⟩, e2, e3⟩ := hS'
                  go_simp <;> rfl
                go_simp
                refine wpF_take (v := ?_) hS rfl ?_ (fun _ _ _ h => h) ?_
                rotate_left
                · intro w' hS'
                  obtain ⟨⟨e0, e1⟩, e2, e3⟩ := hS'
                  go_simp <;> rfl
                go_simp
                refine wpF_take (v := ?_) hS rfl ?_ (fun _ _ _ h => h) ?_
                rotate_left
                · intro w' hS'
                  obtain ⟨⟨e0, e1⟩, e2, e3⟩ := hS'
                  go_simp <;> rfl
                go_simp
                refine wpF_take (v := ?_) hS rfl ?_ (fun _ _ _ h => h) ?_
                rotate_left
                · intro w' hS'
                  obtain ⟨⟨e0, e1⟩, e2, e3⟩ := hS'
                  go_simp <;> rfl
                go_simp
                refine wpF_take (v := ?_) hS rfl ?_ (fun _ _ _ h => h) ?_
                rotate_left
                · intro w' hS'
                  obtain ⟨⟨e0, e1⟩, e2, e3⟩ := hS'
                  go_simp <;> rfl
                go_simp
                refine wpF_take (v := ?_) hS rfl ?_ (fun _ _ _ h => h) ?_
                rotate_left
                · intro w' hS'
                  obtain ⟨⟨e0, e1⟩, e2, e3⟩ := hS'
                  go_simp <;> rfl
                go_simp
                refine wpF_take (v := ?_) hS rfl ?_ (fun _ _ _ h => h) ?_
                rotate_left
                · intro w' hS'
                  obtain ⟨⟨e0, e1⟩, e2, e3⟩ := hS'
                  go_simp <;> rfl
                go_simp
                refine wpF_take (v := ?_) hS rfl ?_ (fun _ _ _ h => h) ?_
                rotate_left
                · intro w' hS'
                  obtain ⟨⟨e0, e1⟩, e2, e3⟩ := hS'
                  go_simp <;> rfl
                go_simp
                refine wpF_take (v := ?_) hS rfl ?_ (fun _ _ _ h => h) ?_
                rotate_left
                · intro w' hS'
                  obtain ⟨⟨e0, e1⟩, e2, e3⟩ := hS'
                  go_simp <;> rfl
                go_simp
                refine wpF_skip hS rfl (fun _ _ _ h => h) ?_
                go_simp
                refine wpF_skip hS rfl (fun _ _ _ h => h) ?_
                go_simp
                refine wpF_pass rfl (fun _ => hS) ?_
                go_simp
                refine wpF_pass rfl (fun _ => hS) ?_
                go_simp
                refine wpF_skip hS rfl (fun _ _ _ h => h) ?_
                go_simp
                refine wpF_take (v := ?_) hS rfl ?_ (fun _ _ _ h => h) ?_
                rotate_left
                · intro w' hS'
                  obtain ⟨⟨e0, e1⟩, e2, e3⟩ := hS'
                  go_simp <;> rfl
                go_simp
                refine wpF_take (v := ?_) hS rfl ?_ (fun _ _ _ h => h) ?_
                rotate_left
                · intro w' hS'
                  obtain ⟨⟨e0, e1⟩, e2, e3⟩ := hS'
                  go_simp <;> rfl
                go_simp
                refine wpF_nil ?_
                go_wp2_with fail
                cases gk with
                | zero => exact absurd hgi (by omega)
                | succ gq =>
                  go_roundg gq
                  case measure => exact Nat.lt_succ_self _
                  case rel => exact ⟨i + 1, rfl, by go_num, by omega, by omega, by omega, HNX.out, ⟨hR.out, HROW.out, HHAS.out, HLT.out, hbel⟩⟩
            · have hs0 : nSib (x1, x2) (y1, y2) = false := by
                rw [hsd, decide_eq_false hxy, Bool.false_and]
              have HNX := Lib.hid (till_next hi1 hlt HST.out HCX.out (hsx ▸ hs0))
              clear hs0 hsx hsd
              have dxy : (x2 == y2) = false := by simp [hxy]
              go_wp2_with fail
              refine wp_region_order (fun u => BxS pa x1 x2 u ∧ BxS pb y1 y2 u) 99 [(0,0), (1,0), (2,0), (3,0), (4,0), (5,0), (6,0), (7,0), (8,0), (9,0), (10,0), (11,0), (13,0), (12,1), (14,1), (15,0), (16,0), (17,0)] (by kernel_rfl) (by kernel_rfl) ?_
              simp only [pick, List.filterMap_cons, List.filterMap_nil, List.getElem?_cons_zero, List.getElem?_cons_succ, Option.map_some]
              replace hR : Hid (Rw w4.drew g c1 Y) := hR
              replace hbel : Below w.heap.size w w4.drew := hbel.drew
              replace hS : BxS pa x1 x2 w4.drew ∧ BxS pb y1 y2 w4.drew := hS
              generalize w4.drew = wd at *
              refine wpF_take (v := ?_) hS rfl ?_ (fun _ _ _ h => h) ?_
              rotate_left
              · intro w' hS'
                obtain ⟨⟨e0, e1⟩, e2, e3⟩ := hS'
                go_simp <;> rfl
              go_simp
              refine wpF_take (v := ?_) hS rfl ?_ (fun _ _ _ h => h) ?_
              rotate_left
              · intro w' hS'
                obtain ⟨⟨e0, e1⟩, e2, e3⟩ := hS'
                go_simp <;> rfl
              go_simp
              refine wpF_take (v := ?_) hS rfl ?_ (fun _ _ _ h => h) ?_
              rotate_left
              · intro w' hS'
                obtain ⟨⟨e0, e1⟩, e2, e3⟩ := hS'
                go_simp <;> rfl
              go_simp
              refine wpF_take (v := ?_) hS rfl ?_ (fun _ _ _ h => h) ?_
              rotate_left
              · intro w' hS'
                obtain ⟨⟨e0, e1⟩, e2, e3⟩ := hS'
                go_simp <;> rfl
              go_simp
              refine wpF_take (v := ?_) hS rfl ?_ (fun _ _ _ h => h) ?_
              rotate_left
              · intro w' hS'
                obtain ⟨⟨e0, e1⟩, e2, e3⟩ := hS'
                go_simp <;> rfl
              go_simp
              refine wpF_take (v := ?_) hS rfl ?_ (fun _ _ _ h => h) ?_
              rotate_left
              · intro w' hS'
                obtain ⟨⟨e0, e1⟩, e2, e3⟩ := hS'
                go_simp <;> rfl
              go_simp
              refine wpF_skip hS rfl (fun _ _ _ h => h) ?_
              go_simp
              refine wpF_skip hS rfl (fun _ _ _ h => h) ?_
              go_simp
              refine wpF_skip hS rfl (fun _ _ _ h => h) ?_
              go_simp
              refine wpF_take (v := ?_) hS rfl ?_ (fun _ _ _ h => h) ?_
              rotate_left
              · intro w' hS'
                obtain ⟨⟨e0, e1⟩, e2, e3⟩ := hS'
                go_simp <;> rfl
              go_simp
              refine wpF_take (v := ?_) hS rfl ?_ (fun _ _ _ h => h) ?_
              rotate_left
              · intro w' hS'
                obtain ⟨⟨e0, e1⟩, e2, e3⟩ := hS'
                go_simp <;> rfl
              go_simp
              refine wpF_skip hS rfl (fun _ _ _ h => h) ?_
              go_simp
              refine wpF_skip hS rfl (fun _ _ _ h => h) ?_
              go_simp
              refine wpF_pass rfl (fun _ => hS) ?_
              go_simp
              refine wpF_pass rfl (fun _ => hS) ?_
              go_simp
              refine wpF_skip hS rfl (fun _ _ _ h => h) ?_
              go_simp
              refine wpF_take (v := ?_) hS rfl ?_ (fun _ _ _ h => h) ?_
              rotate_left
              · intro w' hS'
                obtain ⟨⟨e0, e1⟩, e2, e3⟩ := hS'
                go_simp <;> rfl
              go_simp
              refine wpF_take (v := ?_) hS rfl ?_ (fun _ _ _ h => h) ?_
              rotate_left
              · intro w' hS'
                obtain ⟨⟨e0, e1⟩, e2, e3⟩ := hS'
                go_simp <;> rfl
              go_simp
              refine wpF_nil ?_
              go_wp2_with fail
              cases gk with
              | zero => exact absurd hgi (by omega)
              | succ gq =>
                go_roundg gq
                case measure => exact Nat.lt_succ_self _
                case rel => exact ⟨i + 1, rfl, by go_num, by omega, by omega, by omega, HNX.out, ⟨hR.out, HROW.out, HHAS.out, HLT.out, hbel⟩⟩
          · rw [hc] at hcx
            have HM := Lib.hid (till_cov hi1 hlt HST.out hcx.symm)
            clear hcx hc hS
            go_wp2_with fail
            refine (delete2_any g c1 i Y _ hR.out hlt (by omega)).mono ?_
            rintro e w5 ⟨rfl, r5, f5⟩
            have hrow := HROW.out
            have hhas := HHAS.out
            have hI5 : MgI w.heap.size g c1 L w (Y.eraseIdx i) w5 := by
              obtain ⟨h1, h2, h3, _⟩ := mstep_some hrow HM.out
              exact ⟨r5, h1, fun x => (h2 x).trans (hhas x), fun z hz => HLT.out z (List.mem_of_mem_eraseIdx hz), hbel.trans (f5.mono hg)⟩
            have hl5 : (Y.eraseIdx i).length + 1 = Y.length := by rw [List.length_eraseIdx, if_pos (by omega)]; omega
            clear hrow hhas hR hbel r5 f5
            go_wp2_with fail
            cases gO with
            | zero => exact absurd hgh (by omega)
            | succ gO =>
              go_roundg gO
              case measure => exact Nat.lt_succ_self _
              case rel => exact ⟨Y.eraseIdx i, rfl, by omega, by omega, hI5⟩
        · obtain ⟨pa, hpa⟩ : ∃ q, q = wv.heap.size + 1 := ⟨_, rfl⟩
          obtain ⟨pb, hpb⟩ : ∃ q, q = wv.heap.size := ⟨_, rfl⟩
          have ha : BxS pa x1 x2 (((wv.alloc (.cells #[.int .u32 (y1 : Int), .int .i64 y2] 29)).alloc (.cells #[.int .u32 (x1 : Int), .int .i64 x2] 29)).drew) := by rw [hpa]; exact (box_two wv y1 y2 x1 x2).2
          have hb : BxS pb y1 y2 (((wv.alloc (.cells #[.int .u32 (y1 : Int), .int .i64 y2] 29)).alloc (.cells #[.int .u32 (x1 : Int), .int .i64 x2] 29)).drew) := by rw [hpb]; exact (box_two wv y1 y2 x1 x2).1
          have hf : Below wv.heap.size wv (((wv.alloc (.cells #[.int .u32 (y1 : Int), .int .i64 y2] 29)).alloc (.cells #[.int .u32 (x1 : Int), .int .i64 x2] 29)).drew) := (((Below.refl _ wv).alloc (Nat.le_refl _) _).alloc (by simp) _).drew
          rw [← hpa, ← hpb]
          generalize ((wv.alloc (.cells #[.int .u32 (y1 : Int), .int .i64 y2] 29)).alloc (.cells #[.int .u32 (x1 : Int), .int .i64 x2] 29)).drew = wz at ha hb hf ⊢
          have hR := Lib.hid (hI.rw_.below hf hgl)
          have hrow := hI.rowed
          have hhas := hI.has
          have hlt5 := hI.lt
          have hbel := hI.bel.trans (hf.mono hI.bel.size)
          have HROW := Lib.hid hrow; have HHAS := Lib.hid hhas; have HLT := Lib.hid hlt5
          clear hI hf hrow hhas hlt5 p0 p1 q0 q1 hpa hpb hgn hgn1 hgl1 hgl
          have hox : okN (x1, x2) := by
            obtain ⟨h1, h2, _⟩ := (nMay_iff (x1, x2)).1 hxm
            simp only at h1 h2
            exact ⟨hxl, by show _ ≤ x2; omega, by show x2 ≤ _; omega⟩
          have hoy : okN (y1, y2) := by
            obtain ⟨h1, h2, _⟩ := (nMay_iff (y1, y2)).1 hym
            simp only at h1 h2
            exact ⟨hyl, by show _ ≤ y2; omega, by show y2 ≤ _; omega⟩
          have hx32 : x2 ≤ 32 := ((nMay_iff (x1, x2)).1 hxm).2.1
          have hy32 : y2 ≤ 32 := ((nMay_iff (y1, y2)).1 hym).2.1
          have HXM := Lib.hid hxm; have HYM := Lib.hid hym; have HOX := Lib.hid hox; have HOY := Lib.hid hoy
          clear hxm hym hox hoy
          have hcv := fun w => cov_any x1 x2 y1 y2 w HOX.out HOY.out
          unfold ntV at hcv
          obtain ⟨e0, e1⟩ := ha
          obtain ⟨e2, e3⟩ := hb
          go_wp2_with fail
          refine (hcv wz).mono ?_
          rintro e w4 ⟨rfl, f4⟩
          have hS := BxS.both ⟨⟨e0, e1⟩, e2, e3⟩ f4.below
          have hgz : g < wz.heap.size := hR.out.lt
          replace hR := Lib.hid (hR.out.below f4.below hgz)
          replace hbel := hbel.trans (f4.below.mono hbel.size)
          clear e0 e1 e2 e3 f4 hcv hgz
          have hcx : nCov (x1, x2) (y1, y2) = nCov (ntAt Y (i - 1)) (ntAt Y i) := by rw [HX.out, HY.out]
          cases hc : nCov (x1, x2) (y1, y2)
          · have hsx : nSib (x1, x2) (y1, y2) = nSib (ntAt Y (i - 1)) (ntAt Y i) := by rw [HX.out, HY.out]
            have hsd : nSib (x1, x2) (y1, y2) = (decide (x2 = y2) && (decide (0 < x2) && decide (nPar (x1, x2) = nPar (y1, y2)))) := rfl
            rw [hc] at hcx
            have HCX := Lib.hid hcx.symm; clear hcx hc
            by_cases hxy : x2 = y2
            · by_cases hpos : 0 < x2
              · by_cases hpp : nPar (x1, x2) = nPar (y1, y2)
                · have hs0 : nSib (x1, x2) (y1, y2) = true := by
                    rw [hsd, decide_eq_true hxy, decide_eq_true hpos, decide_eq_true hpp]
                    rfl
                  have HM := Lib.hid (till_sib hi1 hlt HST.out HCX.out (hsx ▸ hs0))
                  rw [show ntAt Y (i - 1) = (x1, x2) from HX.out] at HM
                  clear hs0 hsx hsd
                  have dxy : (x2 == y2) = true := by simp [hxy]
                  have dps : decide (0 < x2) = true := by simp; omega
                  have hpos2 : 0 < y2 := by omega
                  have HXY := Lib.hid hxy; clear hxy
                  have qe := fun w : World => run_nt_eq (nPar (x1, x2)).1 (nPar (x1, x2)).2 (nPar (y1, y2)).1 (nPar (y1, y2)).2 w
                  rw [show decide (((nPar (x1, x2)).1, (nPar (x1, x2)).2) = ((nPar (y1, y2)).1, (nPar (y1, y2)).2)) = true from decide_eq_true hpp] at qe
                  have hpx := fun w => parent_any x1 x2 w HOX.out hpos hx32
                  have hpy := fun w => parent_any y1 y2 w HOY.out hpos2 hy32
                  unfold ntV at hpx hpy
                  obtain ⟨px, hpx1⟩ : ∃ p, nPar (x1, x2) = p := ⟨_, rfl⟩
                  obtain ⟨py, hpy1⟩ : ∃ p, nPar (y1, y2) = p := ⟨_, rfl⟩
                  rw [hpx1] at hpx qe
                  rw [hpy1] at hpy qe
                  have HPX := Lib.hid hpx1; have HPY := Lib.hid hpy1
                  clear hpx1 hpy1 hpp
                  go_wp2_with fail
                  refine wp_region_order (fun u => BxS pa x1 x2 u ∧ BxS pb y1 y2 u) 99 [(0,0), (1,0), (2,0), (3,0), (4,0), (5,0), (6,0), (7,0), (8,0), (9,0), (10,0), (11,0), (13,0), (12,1), (14,1), (15,0), (16,0), (17,0)] (by kernel_rfl) (by kernel_rfl) ?_
                  simp only [pick, List.filterMap_cons, List.filterMap_nil, List.getElem?_cons_zero, List.getElem?_cons_succ, Option.map_some]
                  replace hR : Hid (Rw w4.drew g c1 Y) := hR
                  replace hbel : Below w.heap.size w w4.drew := hbel.drew
                  replace hS : BxS pa x1 x2 w4.drew ∧ BxS pb y1 y2 w4.drew := hS
                  generalize w4.drew = wd at *
                  refine wpF_take (v := ?_) hS rfl ?_ (fun _ _ _ h => h) ?_
                  rotate_left
                  · intro w' hS'
                    obtain ⟨⟨e0, e1⟩, e2, e3⟩ := hS'
                    go_simp <;> rfl
                  go_simp
                  refine wpF_take (v := ?_) hS rfl ?_ (fun _ _ _ h => h) ?_
                  rotate_left
                  · intro w' hS'
                    obtain ⟨⟨e0, e1⟩, e2, e3⟩ := hS'
                    go_simp <;> rfl
                  go_simp
                  refine wpF_take (v := ?_) hS rfl ?_ (fun _ _ _ h => h) ?_
                  rotate_left
                  · intro w' hS'
                    obtain ⟨⟨e0, e1⟩, e2, e3⟩ := hS'
                    go_simp <;> rfl
                  go_simp
                  refine wpF_take (v := ?_) hS rfl ?_ (fun _ _ _ h => h) ?_
                  rotate_left
                  · intro w' hS'
                    obtain ⟨⟨e0, e1⟩, e2, e3⟩ := hS'
                    go_simp <;> rfl
                  go_simp
                  refine wpF_take (v := ?_) hS rfl ?_ (fun _ _ _ h => h) ?_
                  rotate_left
                  · intro w' hS'
                    obtain ⟨⟨e0, e1⟩, e2, e3⟩ := hS'
                    go_simp <;> rfl
                  go_simp
                  refine wpF_take (v := ?_) hS rfl ?_ (fun _ _ _ h => h) ?_
                  rotate_left
                  · intro w' hS'
                    obtain ⟨⟨e0, e1⟩, e2, e3⟩ := hS'
                    go_simp <;> rfl
                  go_simp
                  refine wpF_take (v := ?_) hS rfl ?_ (fun _ _ _ h => h) ?_
                  rotate_left
                  · intro w' hS'
                    obtain ⟨⟨e0, e1⟩, e2, e3⟩ := hS'
                    go_simp <;> rfl
                  go_simp
                  refine wpF_take (v := ?_) hS rfl ?_ (fun _ _ _ h => h) ?_
                  rotate_left
                  · intro w' hS'
                    obtain ⟨⟨e0, e1⟩, e2, e3⟩ := hS'
                    go_simp <;> rfl
                  go_simp
                  refine wpF_take (v := ?_) hS rfl ?_ (fun _ _ _ h => h) ?_
                  rotate_left
                  · intro w' hS'
                    obtain ⟨⟨e0, e1⟩, e2, e3⟩ := hS'
                    go_simp <;> rfl
                  go_simp
                  refine wpF_take (v := ?_) hS rfl ?_ (fun _ _ _ h => h) ?_
                  rotate_left
                  · intro w' hS'
                    obtain ⟨⟨e0, e1⟩, e2, e3⟩ := hS'
                    go_simp <;> rfl
                  go_simp
                  refine wpF_take (v := ?_) hS rfl ?_ (fun _ _ _ h => h) ?_
                  rotate_left
                  · intro w' hS'
                    obtain ⟨⟨e0, e1⟩, e2, e3⟩ := hS'
                    go_simp <;> rfl
                  go_simp
                  refine wpF_take (v := ?_) hS rfl ?_ (fun _ _ _ h => h) ?_
                  rotate_left
                  · intro w' hS'
                    obtain ⟨⟨e0, e1⟩, e2, e3⟩ := hS'
                    go_simp <;> rfl
                  go_simp
                  refine wpF_take (v := ?_) hS rfl ?_ (fun _ _ _ h => h) ?_
                  rotate_left
                  · intro w' hS'
                    obtain ⟨⟨e0, e1⟩, e2, e3⟩ := hS'
                    go_simp <;> rfl
                  go_simp
                  refine wpF_only rfl (fun K hK => ?_)
                  go_wp2_with fail
                  refine ((hpx _).mono ?_)
                  rintro e w5 ⟨rfl, f5⟩
                  have hgd : g < _ := hR.out.lt
                  replace hR := Lib.hid (hR.out.below f5 hgd)
                  replace hbel := hbel.trans (f5.mono hbel.size)
                  replace hS := BxS.both hS f5
                  clear f5 hgd
                  go_wp2_with fail
                  first | refine ⟨fun _ => hS, ?_⟩ | refine ⟨hS, ?_⟩ | skip
                  go_simp
                  refine wpF_only rfl (fun K hK => ?_)
                  go_wp2_with fail
                  refine ((hpy _).mono ?_)
                  rintro e w5 ⟨rfl, f5⟩
                  have hgd : g < _ := hR.out.lt
                  replace hR := Lib.hid (hR.out.below f5 hgd)
                  replace hbel := hbel.trans (f5.mono hbel.size)
                  replace hS := BxS.both hS f5
                  clear f5 hgd
                  go_wp2_with fail
                  first | refine ⟨fun _ => hS, ?_⟩ | refine ⟨hS, ?_⟩ | skip
                  go_simp
                  refine wpF_take (v := ?_) hS rfl ?_ (fun _ _ _ h => h) ?_
                  rotate_left
                  · intro w' hS'
                    obtain ⟨⟨e0, e1⟩, e2, e3⟩ := hS'
                    go_simp <;> rfl
                  go_simp
                  refine wpF_take (v := ?_) hS rfl ?_ (fun _ _ _ h => h) ?_
                  rotate_left
                  · intro w' hS'
                    obtain ⟨⟨e0, e1⟩, e2, e3⟩ := hS'
                    go_simp <;> rfl
                  go_simp
                  refine wpF_take (v := ?_) hS rfl ?_ (fun _ _ _ h => h) ?_
                  rotate_left
                  · intro w' hS'
                    obtain ⟨⟨e0, e1⟩, e2, e3⟩ := hS'
                    go_simp <;> rfl
                  go_simp
                  refine wpF_nil ?_
                  obtain ⟨⟨e0, e1⟩, e2, e3⟩ := hS
                  go_wp2_with fail
                  refine (hpx _).mono ?_
                  rintro e w6 ⟨rfl, f6⟩
                  have hgd : g < _ := hR.out.lt
                  replace hR := Lib.hid (hR.out.below f6 hgd)
                  replace hbel := hbel.trans (f6.mono hbel.size)
                  clear f6 hgd e0 e1 e2 e3 qe hpx hpy
                  have hcl := hR.out.fits
                  obtain ⟨k0, g0⟩ := hR.out.cells ((i - 1) * 2) (by omega)
                  obtain ⟨k1, g1⟩ := hR.out.cells ((i - 1) * 2 + 1) (by omega)
                  obtain ⟨u0, k0⟩ := Option.isSome_iff_exists.1 k0
                  obtain ⟨u1, k1⟩ := Option.isSome_iff_exists.1 k1
                  have hR2 := Lib.hid (hR.out.set (i := i - 1) (by omega) px)
                  have hls : (Y.set (i - 1) px).length = Y.length := List.length_set
                  have hdl := fun w h => delete2_any g c1 i (Y.set (i - 1) px) w h (by rw [hls]; exact hlt) (by rw [hls]; omega)
                  rw [hls] at hdl
                  have HLS := Lib.hid hls; clear hls
                  have hbel2 := (hbel.setCell (p := ⟨g, (i - 1) * 2, none⟩) (by exact hg) (.int .u32 (px.1 : Int))).setCell (p := ⟨g, (i - 1) * 2 + 1, none⟩) (by exact hg) (.int .i64 px.2)
                  clear hR hbel
                  go_wp2_with fail
                  refine (hdl _ hR2.out).mono ?_
                  rintro e w7 ⟨rfl, r7, f7⟩
                  have hml := HM.out
                  rw [HPX.out] at hml
                  have hI5 : MgI w.heap.size g c1 L w ((Y.set (i - 1) px).eraseIdx i) w7 := by
                    obtain ⟨h1, h2, h3, _⟩ := mstep_some HROW.out hml
                    refine ⟨r7, h1, fun x => (h2 x).trans (HHAS.out x), fun z hz => ?_, hbel2.trans (f7.mono hg)⟩
                    rcases List.mem_or_eq_of_mem_set (List.mem_of_mem_eraseIdx hz) with hz | rfl
                    · exact HLT.out z hz
                    · rw [← HPX.out]
                      exact Nat.lt_of_le_of_lt (Nat.div_mul_le_self _ _) hxl
                  have hl5 : ((Y.set (i - 1) px).eraseIdx i).length + 1 = Y.length := by
                    rw [List.length_eraseIdx, if_pos (by rw [HLS.out]; omega), HLS.out]
                    omega
                  have HML := Lib.hid hml
                  clear hml r7 f7 hdl hbel2
                  go_wp2_with fail
                  cases gO with
                  | zero => exact absurd hgh (by omega)
                  | succ gO =>
                    go_roundg gO
                    case measure => exact Nat.lt_succ_self _
                    case rel => exact ⟨(Y.set (i - 1) px).eraseIdx i, rfl, by omega, by omega, hI5⟩
                · have hs0 : nSib (x1, x2) (y1, y2) = false := by
                    rw [hsd, decide_eq_false hpp, Bool.and_false, Bool.and_false]
                  have HNX := Lib.hid (till_next hi1 hlt HST.out HCX.out (hsx ▸ hs0))
                  clear hs0 hsx hsd
                  have dxy : (x2 == y2) = true := by simp [hxy]
                  have dps : decide (0 < x2) = true := by simp; omega
                  have hpos2 : 0 < y2 := by omega
                  have HXY := Lib.hid hxy; clear hxy
                  have qe := fun w : World => run_nt_eq (nPar (x1, x2)).1 (nPar (x1, x2)).2 (nPar (y1, y2)).1 (nPar (y1, y2)).2 w
                  rw [show decide (((nPar (x1, x2)).1, (nPar (x1, x2)).2) = ((nPar (y1, y2)).1, (nPar (y1, y2)).2)) = false from decide_eq_false hpp] at qe
                  have hpx := fun w => parent_any x1 x2 w HOX.out hpos hx32
                  have hpy := fun w => parent_any y1 y2 w HOY.out hpos2 hy32
                  unfold ntV at hpx hpy
                  obtain ⟨px, hpx1⟩ : ∃ p, nPar (x1, x2) = p := ⟨_, rfl⟩
                  obtain ⟨py, hpy1⟩ : ∃ p, nPar (y1, y2) = p := ⟨_, rfl⟩
                  rw [hpx1] at hpx qe
                  rw [hpy1] at hpy qe
                  have HPX := Lib.hid hpx1; have HPY := Lib.hid hpy1
                  clear hpx1 hpy1 hpp
                  go_wp2_with fail
                  refine wp_region_order (fun u => BxS pa x1 x2 u ∧ BxS pb y1 y2 u) 99 [(0,0), (1,0), (2,0), (3,0), (4,0), (5,0), (6,0), (7,0), (8,0), (9,0), (10,0), (11,0), (13,0), (12,1), (14,1), (15,0), (16,0), (17,0)] (by kernel_rfl) (by kernel_rfl) ?_
                  simp only [pick, List.filterMap_cons, List.filterMap_nil, List.getElem?_cons_zero, List.getElem?_cons_succ, Option.map_some]
                  replace hR : Hid (Rw w4.drew g c1 Y) := hR
                  replace hbel : Below w.heap.size w w4.drew := hbel.drew
                  replace hS : BxS pa x1 x2 w4.drew ∧ BxS pb y1 y2 w4.drew := hS
                  generalize w4.drew = wd at *
                  refine wpF_take (v := ?_) hS rfl ?_ (fun _ _ _ h => h) ?_
                  rotate_left
                  · intro w' hS'
                    obtain ⟨⟨e0, e1⟩, e2, e3⟩ := hS'
                    go_simp <;> rfl
                  go_simp
                  refine wpF_take (v := ?_) hS rfl ?_ (fun _ _ _ h => h) ?_
                  rotate_left
                  · intro w' hS'
                    obtain ⟨⟨e0, e1⟩, e2, e3⟩ := hS'
                    go_simp <;> rfl
                  go_simp
                  refine wpF_take (v := ?_) hS rfl ?_ (fun _ _ _ h => h) ?_
                  rotate_left
                  · intro w' hS'
                    obtain ⟨⟨e0, e1⟩, e2, e3⟩ := hS'
                    go_simp <;> rfl
                  go_simp
                  refine wpF_take (v := ?_) hS rfl ?_ (fun _ _ _ h => h) ?_
                  rotate_left
                  · intro w' hS'
                    obtain ⟨⟨e0, e1⟩, e2, e3⟩ := hS'
                    go_simp <;> rfl
                  go_simp
                  refine wpF_take (v := ?_) hS rfl ?_ (fun _ _ _ h => h) ?_
                  rotate_left
                  · intro w' hS'
                    obtain ⟨⟨e0, e1⟩, e2, e3⟩ := hS'
                    go_simp <;> rfl
                  go_simp
                  refine wpF_take (v := ?_) hS rfl ?_ (fun _ _ _ h => h) ?_
                  rotate_left
                  · intro w' hS'
                    obtain ⟨⟨e0, e1⟩, e2, e3⟩ := hS'
                    go_simp <;> rfl
                  go_simp
                  refine wpF_take (v := ?_) hS rfl ?_ (fun _ _ _ h => h) ?_
                  rotate_left
                  · intro w' hS'
                    obtain ⟨⟨e0, e1⟩, e2, e3⟩ := hS'
                    go_simp <;> rfl
                  go_simp
                  refine wpF_take (v := ?_) hS rfl ?_ (fun _ _ _ h => h) ?_
                  rotate_left
                  · intro w' hS'
                    obtain ⟨⟨e0, e1⟩, e2, e3⟩ := hS'
                    go_simp <;> rfl
                  go_simp
                  refine wpF_take (v := ?_) hS rfl ?_ (fun _ _ _ h => h) ?_
                  rotate_left
                  · intro w' hS'
                    obtain ⟨⟨e0, e1⟩, e2, e3⟩ := hS'
                    go_simp <;> rfl
                  go_simp
                  refine wpF_take (v := ?_) hS rfl ?_ (fun _ _ _ h => h) ?_
                  rotate_left
                  · intro w' hS'
                    obtain ⟨⟨e0, e1⟩, e2, e3⟩ := hS'
                    go_simp <;> rfl
                  go_simp
                  refine wpF_take (v := ?_) hS rfl ?_ (fun _ _ _ h => h) ?_
                  rotate_left
                  · intro w' hS'
                    obtain ⟨⟨e0, e1⟩, e2, e3⟩ := hS'
                    go_simp <;> rfl
                  go_simp
                  refine wpF_take (v := ?_) hS rfl ?_ (fun _ _ _ h => h) ?_
                  rotate_left
                  · intro w' hS'
                    obtain ⟨⟨e0, e1⟩, e2, e3⟩ := hS'
                    go_simp <;> rfl
                  go_simp
                  refine wpF_take (v := ?_) hS rfl ?_ (fun _ _ _ h => h) ?_
                  rotate_left
                  · intro w' hS'
                    obtain ⟨⟨e0, e1⟩, e2, e3⟩ := hS'
                    go_simp <;> rfl
                  go_simp
                  refine wpF_only rfl (fun K hK => ?_)
                  go_wp2_with fail
                  refine ((hpx _).mono ?_)
                  rintro e w5 ⟨rfl, f5⟩
                  have hgd : g < _ := hR.out.lt
                  replace hR := Lib.hid (hR.out.below f5 hgd)
                  replace hbel := hbel.trans (f5.mono hbel.size)
                  replace hS := BxS.both hS f5
                  clear f5 hgd
                  go_wp2_with fail
                  first | refine ⟨fun _ => hS, ?_⟩ | refine ⟨hS, ?_⟩ | skip
                  go_simp
                  refine wpF_only rfl (fun K hK => ?_)
                  go_wp2_with fail
                  refine ((hpy _).mono ?_)
                  rintro e w5 ⟨rfl, f5⟩
                  have hgd : g < _ := hR.out.lt
                  replace hR := Lib.hid (hR.out.below f5 hgd)
                  replace hbel := hbel.trans (f5.mono hbel.size)
                  replace hS := BxS.both hS f5
                  clear f5 hgd
                  go_wp2_with fail
                  first | refine ⟨fun _ => hS, ?_⟩ | refine ⟨hS, ?_⟩ | skip
                  go_simp
                  refine wpF_take (v := ?_) hS rfl ?_ (fun _ _ _ h => h) ?_
                  rotate_left
                  · intro w' hS'
                    obtain ⟨⟨e0, e1⟩, e2, e3⟩ := hS'
                    go_simp <;> rfl
                  go_simp
                  refine wpF_take (v := ?_) hS rfl ?_ (fun _ _ _ h => h) ?_
                  rotate_left
                  · intro w' hS'
                    obtain ⟨⟨e0, e1⟩, e2, e3⟩ := hS'
                    go_simp <;> rfl
                  go_simp
                  refine wpF_take (v := ?_) hS rfl ?_ (fun _ _ _ h => h) ?_
                  rotate_left
                  · intro w' hS'
                    obtain ⟨⟨e0, e1⟩, e2, e3⟩ := hS'
                    go_simp <;> rfl
                  go_simp
                  refine wpF_nil ?_
                  go_wp2_with fail
                  cases gk with
                  | zero => exact absurd hgi (by omega)
                  | succ gq =>
                    go_roundg gq
                    case measure => exact Nat.lt_succ_self _
                    case rel => exact ⟨i + 1, rfl, by go_num, by omega, by omega, by omega, HNX.out, ⟨hR.out, HROW.out, HHAS.out, HLT.out, hbel⟩⟩
              · have hs0 : nSib (x1, x2) (y1, y2) = false := by
                  rw [hsd, decide_eq_false hpos, Bool.false_and, Bool.and_false]
                have HNX := Lib.hid (till_next hi1 hlt HST.out HCX.out (hsx ▸ hs0))
                clear hs0 hsx hsd
                have dxy : (x2 == y2) = true := by simp [hxy]
                have dps : decide (0 < x2) = false := by simp; omega
                have HXY := Lib.hid hxy; clear hxy
                go_wp2_with fail
                refine wp_region_order (fun u => BxS pa x1 x2 u ∧ BxS pb y1 y2 u) 99 [(0,0), (1,0), (2,0), (3,0), (4,0), (5,0), (6,0), (7,0), (8,0), (9,0), (10,0), (11,0), (13,0), (12,1), (14,1), (15,0), (16,0), (17,0)] (by kernel_rfl) (by kernel_rfl) ?_
                simp only [pick, List.filterMap_cons, List.filterMap_nil, List.getElem?_cons_zero, List.getElem?_cons_succ, Option.map_some]
                replace hR : Hid (Rw w4.drew g c1 Y) := hR
                replace hbel : Below w.heap.size w w4.drew := hbel.drew
                replace hS : BxS pa x1 x2 w4.drew ∧ BxS pb y1 y2 w4.drew := hS
                generalize w4.drew = wd at *
                refine wpF_take (v := ?_) hS rfl ?_ (fun _ _ _ h => h) ?_
                rotate_left
                · intro w' hS'
                  obtain ⟨⟨e0, e1⟩, e2, e3⟩ := hS'
                  go_simp <;> rfl
                go_simp
                refine wpF_take (v := ?_) hS rfl ?_ (fun _ _ _ h => h) ?_
                rotate_left
                · intro w' hS'
                  obtain ⟨⟨e0, e1⟩, e2, e3⟩ := hS'
                  go_simp <;> rfl
                go_simp
                refine wpF_take (v := ?_) hS rfl ?_ (fun _ _ _ h => h) ?_
                rotate_left
                · intro w' hS'
                  obtain ⟨⟨e0, e1⟩, e2, e3⟩ := hS'
                  go_simp <;> rfl
                go_simp
                refine wpF_take (v := ?_) hS rfl ?_ (fun _ _ _ h => h) ?_
                rotate_left
                · intro w' hS'
                  obtain ⟨⟨e0, e1⟩, e2, e3⟩ := hS'
                  go_simp <;> rfl
                go_simp
                refine wpF_take (v := ?_) hS rfl ?_ (fun _ _ _ h => h) ?_
                rotate_left
                · intro w' hS'
                  obtain ⟨⟨e0, e1⟩, e2, e3⟩ := hS'
                  go_simp <;> rfl
                go_simp
                refine wpF_take (v := ?_) hS rfl ?_ (fun _ _ _ h => h) ?_
                rotate_left
                · intro w' hS'
                  obtain ⟨⟨e0, e1⟩, e2, e3⟩ := hS'
                  go_simp <;> rfl
                go_simp
                refine wpF_take (v := ?_) hS rfl ?_ (fun _ _ _ h => h) ?_
                rotate_left
                · intro w' hS'
                  obtain ⟨⟨e0, e1⟩, e2, e3⟩ := hS'
                  go_simp <;> rfl
                go_simp
                refine wpF_take (v := ?_) hS rfl ?_ (fun _ _ _ h => h) ?_
                rotate_left
                · intro w' hS'
                  obtain ⟨⟨e0, e1⟩, e2, e3⟩ := hS'
                  go_simp <;> rfl
                go_simp
                refine wpF_take (v := ?_) hS rfl ?_ (fun _ _ _ h => h) ?_
                rotate_left
                · intro w' hS'
                  obtain ⟨⟨e0, e1⟩, e2, e3⟩ := hS'
                  go_simp <;> rfl
                go_simp
                refine wpF_take (v := ?_) hS rfl ?_ (fun _ _ _ h => h) ?_
                rotate_left
                · intro w' hS'
                  obtain ⟨⟨e0, e1⟩, e2, e3⟩ := hS'
                  go_simp <;> rfl
                go_simp
                refine wpF_take (v := ?_) hS rfl ?_ (fun _ _ _ h => h) ?_
                rotate_left
                · intro w' hS'
                  obtain ⟨⟨e0, e1⟩, e2, e3⟩ := hS'
                  go_simp <;> rfl
                go_simp
                refine wpF_skip hS rfl (fun _ _ _ h => h) ?_
                go_simp
                refine wpF_skip hS rfl (fun _ _ _ h => h) ?_
                go_simp
                refine wpF_pass rfl (fun _ => hS) ?_
                go_simp
                refine wpF_pass rfl (fun _ => hS) ?_
                go_simp
                refine wpF_skip hS rfl (fun _ _ _ h => h) ?_
                go_simp
                refine wpF_take (v := ?_) hS rfl ?_ (fun _ _ _ h => h) ?_
                rotate_left
                · intro w' hS'
                  obtain ⟨⟨e0, e1⟩, e2, e3⟩ := hS'
                  go_simp <;> rfl
                go_simp
                refine wpF_take (v := ?_) hS rfl ?_ (fun _ _ _ h => h) ?_
                rotate_left
                · intro w' hS'
                  obtain ⟨⟨e0, e1⟩, e2, e3⟩ := hS'
                  go_simp <;> rfl
                go_simp
                refine wpF_nil ?_
                go_wp2_with fail
                cases gk with
                | zero => exact absurd hgi (by omega)
                | succ gq =>
                  go_roundg gq
                  case measure => exact Nat.lt_succ_self _
                  case rel => exact ⟨i + 1, rfl, by go_num, by omega, by omega, by omega, HNX.out, ⟨hR.out, HROW.out, HHAS.out, HLT.out, hbel⟩⟩
            · have hs0 : nSib (x1, x2) (y1, y2) = false := by
                rw [hsd, decide_eq_false hxy, Bool.false_and]
              have HNX := Lib.hid (till_next hi1 hlt HST.out HCX.out (hsx ▸ hs0))
              clear hs0 hsx hsd
              have dxy : (x2 == y2) = false := by simp [hxy]
              go_wp2_with fail
              refine wp_region_order (fun u => BxS pa x1 x2 u ∧ BxS pb y1 y2 u) 99 [(0,0), (1,0), (2,0), (3,0), (4,0), (5,0), (6,0), (7,0), (8,0), (9,0), (10,0), (11,0), (13,0), (12,1), (14,1), (15,0), (16,0), (17,0)] (by kernel_rfl) (by kernel_rfl) ?_
              simp only [pick, List.filterMap_cons, List.filterMap_nil, List.getElem?_cons_zero, List.getElem?_cons_succ, Option.map_some]
              replace hR : Hid (Rw w4.drew g c1 Y) := hR
              replace hbel : Below w.heap.size w w4.drew := hbel.drew
              replace hS : BxS pa x1 x2 w4.drew ∧ BxS pb y1 y2 w4.drew := hS
              generalize w4.drew = wd at *
              refine wpF_take (v := ?_) hS rfl ?_ (fun _ _ _ h => h) ?_
              rotate_left
              · intro w' hS'
                obtain ⟨⟨e0, e1⟩, e2, e3⟩ := hS'
                go_simp <;> rfl
              go_simp
              refine wpF_take (v := ?_) hS rfl ?_ (fun _ _ _ h => h) ?_
              rotate_left
              · intro w' hS'
                obtain ⟨⟨e0, e1⟩, e2, e3⟩ := hS'
                go_simp <;> rfl
              go_simp
              refine wpF_take (v := ?_) hS rfl ?_ (fun _ _ _ h => h) ?_
              rotate_left
              · intro w' hS'
                obtain ⟨⟨e0, e1⟩, e2, e3⟩ := hS'
                go_simp <;> rfl
              go_simp
              refine wpF_take (v := ?_) hS rfl ?_ (fun _ _ _ h => h) ?_
              rotate_left
              · intro w' hS'
                obtain ⟨⟨e0, e1⟩, e2, e3⟩ := hS'
                go_simp <;> rfl
              go_simp
              refine wpF_take (v := ?_) hS rfl ?_ (fun _ _ _ h => h) ?_
              rotate_left
              · intro w' hS'
                obtain ⟨⟨e0, e1⟩, e2, e3⟩ := hS'
                go_simp <;> rfl
              go_simp
              refine wpF_take (v := ?_) hS rfl ?_ (fun _ _ _ h => h) ?_
              rotate_left
              · intro w' hS'
                obtain ⟨⟨e0, e1⟩, e2, e3⟩ := hS'
                go_simp <;> rfl
              go_simp
              refine wpF_skip hS rfl (fun _ _ _ h => h) ?_
              go_simp
              refine wpF_skip hS rfl (fun _ _ _ h => h) ?_
              go_simp
              refine wpF_skip hS rfl (fun _ _ _ h => h) ?_
              go_simp
              refine wpF_take (v := ?_) hS rfl ?_ (fun _ _ _ h => h) ?_
              rotate_left
              · intro w' hS'
                obtain ⟨⟨e0, e1⟩, e2, e3⟩ := hS'
                go_simp <;> rfl
              go_simp
              refine wpF_take (v := ?_) hS rfl ?_ (fun _ _ _ h => h) ?_
              rotate_left
              · intro w' hS'
                obtain ⟨⟨e0, e1⟩, e2, e3⟩ := hS'
                go_simp <;> rfl
              go_simp
              refine wpF_skip hS rfl (fun _ _ _ h => h) ?_
              go_simp
              refine wpF_skip hS rfl (fun _ _ _ h => h) ?_
              go_simp
              refine wpF_pass rfl (fun _ => hS) ?_
              go_simp
              refine wpF_pass rfl (fun _ => hS) ?_
              go_simp
              refine wpF_skip hS rfl (fun _ _ _ h => h) ?_
              go_simp
              refine wpF_take (v := ?_) hS rfl ?_ (fun _ _ _ h => h) ?_
              rotate_left
              · intro w' hS'
                obtain ⟨⟨e0, e1⟩, e2, e3⟩ := hS'
                go_simp <;> rfl
              go_simp
              refine wpF_take (v := ?_) hS rfl ?_ (fun _ _ _ h => h) ?_
              rotate_left
              · intro w' hS'
                obtain ⟨⟨e0, e1⟩, e2, e3⟩ := hS'
                go_simp <;> rfl
              go_simp
              refine wpF_nil ?_
              go_wp2_with fail
              cases gk with
              | zero => exact absurd hgi (by omega)
              | succ gq =>
                go_roundg gq
                case measure => exact Nat.lt_succ_self _
                case rel => exact ⟨i + 1, rfl, by go_num, by omega, by omega, by omega, HNX.out, ⟨hR.out, HROW.out, HHAS.out, HLT.out, hbel⟩⟩
          · rw [hc] at hcx
            have HM := Lib.hid (till_cov hi1 hlt HST.out hcx.symm)
            clear hcx hc hS
            go_wp2_with fail
            refine (delete2_any g c1 i Y _ hR.out hlt (by omega)).mono ?_
            rintro e w5 ⟨rfl, r5, f5⟩
            have hrow := HROW.out
            have hhas := HHAS.out
            have hI5 : MgI w.heap.size g c1 L w (Y.eraseIdx i) w5 := by
              obtain ⟨h1, h2, h3, _⟩ := mstep_some hrow HM.out
              exact ⟨r5, h1, fun x => (h2 x).trans (hhas x), fun z hz => HLT.out z (List.mem_of_mem_eraseIdx hz), hbel.trans (f5.mono hg)⟩
            have hl5 : (Y.eraseIdx i).length + 1 = Y.length := by rw [List.length_eraseIdx, if_pos (by omega)]; omega
            clear hrow hhas hR hbel r5 f5
            go_wp2_with fail
            cases gO with
            | zero => exact absurd hgh (by omega)
            | succ gO =>
              go_roundg gO
              case measure => exact Nat.lt_succ_self _
              case rel => exact ⟨Y.eraseIdx i, rfl, by omega, by omega, hI5⟩
      · have d1 : decide ((i : Int) < (Y.length : Int)) = false := by simp; omega
        have hnone := till_end hi1 (by omega) HST.out
        have HN := Lib.hid (mstep_none hI.rowed hnone)
        clear hnone
        go_wp2_with fail
        rw [Exit.noGoto_ret]
        go_ret
        exact ⟨some ⟨g, 0, none⟩, Y.length, c1, Y, rfl, ⟨rfl, .inr ⟨g, rfl, hg, hI.rw_⟩⟩, HN.out, hI.has, hI.lt, hYn, hI.bel⟩
end Go.Proofs.YtddfgalofngoiaaGreatDoor
