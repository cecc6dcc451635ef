/- The law TokenLives, walked. No condition. -/
import Derived.Test.YtgefbgjgcjiceaaTokRingsLaw
import Derived.Test.YtgefbgjgcjiceaaTokTurn
import Derived.Test.YtgefbgjgcjiceaaOpenI
import Derived.Deep.DeepCutAuto
namespace Go.Proofs.Ytgefbgjgcjiceaa
open Go.RowKit
set_option linter.unusedSimpArgs false
set_option linter.unusedVariables false
theorem and_1 (z : Int) : bits .and .i64 z 1 = 0 ∨ bits .and .i64 z 1 = 1 := by
  have h : (BitVec.ofInt 64 z &&& BitVec.ofInt 64 1).toNat < 2 := by
    rw [BitVec.toNat_and]
    have : (BitVec.ofInt 64 1).toNat = 1 := by decide
    rw [this]
    exact Nat.lt_of_le_of_lt Nat.and_le_right (by omega)
  have e : bits .and .i64 z 1 = IntKind.i64.wrap ((BitVec.ofInt 64 z &&& BitVec.ofInt 64 1).toNat : Int) := rfl
  rw [e, IntWalk.i64_in _ (by omega)]
  omega
/-- A ring's root: an argument's, or the call's own behind gx. -/
def RingAt (s gx : Nat) (A : Option Addr) (n c : Nat) (root : List UInt8) (w : World) : Prop :=
  s ≤ w.heap.size ∧ gx < w.heap.size ∧ (RdB w s A n root ∨ OwnB w (gx + 1) 5 (.slice A n c) root)
theorem RingAt.rd {s gx n c : Nat} {A : Option Addr} {root : List UInt8} {w : World} (h : RingAt s gx A n c root w) : RdB w w.heap.size A n root := by
  rcases h.2.2 with r | r
  · exact r.more h.1
  · exact r.rd
theorem RingAt.below {s gx n c : Nat} {A : Option Addr} {root : List UInt8} {w w' : World} (h : RingAt s gx A n c root w) (hb : Below w.heap.size w w') : RingAt s gx A n c root w' := by
  refine ⟨Nat.le_trans h.1 hb.size, Nat.lt_of_lt_of_le h.2.1 hb.size, ?_⟩
  rcases h.2.2 with r | r
  · exact .inl (r.below (hb.mono h.1))
  · exact .inr (r.below (Nat.le_refl _) hb)
theorem RingAt.grown {s gx n c g : Nat} {A : Option Addr} {root : List UInt8} {w w' : World} {cs : List Value} (h : RingAt s gx A n c root w) (k : Blk w g 25 cs) (hg : w.grownBy w' (some g)) (hs : s ≤ g) : RingAt s gx A n c root w' := by
  refine ⟨Nat.le_trans h.1 hg.size, Nat.lt_of_lt_of_le h.2.1 hg.size, ?_⟩
  rcases h.2.2 with r | r
  · exact .inl (r.below ((Below.refl s w).grown hg h.1 (by simp; omega)))
  · exact .inr (r.grown hg (Or.inr (Ne.symm (r.not_row k (by decide)))))
theorem rotateE_0 {n o m : Nat} (h : rotateE n o m = 0) : rgOk n o (m + 1) = true := by
  unfold rotateE at h
  cases h1 : rgOk n o m
  · rw [h1] at h; simp at h
  · rw [h1] at h
    by_cases h2 : m < 4611686018427387903
    · have := rgOk_parts h1
      simp [rgOk]; omega
    · simp [h2] at h
theorem retireE_0 {n o m : Nat} (h : retireE n o m = 0) : rgOk n (o + 1) m = true := by
  unfold retireE at h
  cases h1 : rgOk n o m
  · rw [h1] at h; simp at h
  · rw [h1] at h
    by_cases h2 : o < m
    · have := rgOk_parts h1
      simp [rgOk]; omega
    · simp [h2] at h
attribute [local irreducible] issV sigB tkOk rgOk longB tkNew verN freshB rotateE retireE
set_option maxRecDepth 100000 in
set_option maxHeartbeats 4000000 in
theorem tokenLives_walk (w : World) (A : Option Addr) (n c o m : Nat) (root : List UInt8) (rl : RdB w w.heap.size A n root) (_ : n ≤ c) (_ : c ≤ maxLen) (ho : o < 18446744073709551616) (hm : m < 18446744073709551616) (t : Tk) (ht : t.ok) (now : Nat) (hnow : now < 18446744073709551616) (later : Nat) (hlater : later < 18446744073709551616) (B : Option Addr) (k kc : Nat) (ts : List Int) (rz : RdZ w w.heap.size B k ts) (_ : k ≤ kc) (_ : kc ≤ maxLen) (_ : ∀ x ∈ ts, -9223372036854775808 ≤ x ∧ x ≤ 9223372036854775807) :
    Calls Try.prog 8 #[rgV A n c o m, t.v, .int .u64 now, .int .u64 later, .slice B k kc] w fun e w' => e = .returned (.bool true) ∧ Below w.heap.size w w' := by
  have hit : (Try.prog.info? 31).map (·.size) = some t.cells.length := by rw [t.len ht.mac]; kernel_rfl
  have Hit := Lib.hid hit; clear hit
  have hir : ∀ (A : Option Addr) (n c o m : Nat), (Try.prog.info? 25).map (·.size) = some ([.slice A n c, .int .u64 (o : Int), .int .u64 (m : Int)] : List Value).length := fun _ _ _ _ _ => by kernel_rfl
  have Hir := Lib.hid hir; clear hir
  have hin : (Try.prog.info? 27).map (·.size) = some ([.string (strB t.ns), .string (strB t.sa)] : List Value).length := by kernel_rfl
  have Hin := Lib.hid hin; clear hin
  have hto := tkNew_ok ht hnow hm
  have hns : (tkNew t.ns t.sa t.uid t.host t.addr now m).ns = t.ns := by with_unfolding_all rfl
  have hsa : (tkNew t.ns t.sa t.uid t.host t.addr now m).sa = t.sa := by with_unfolding_all rfl
  have htv : t.v = .agg t.cells.toArray := rfl
  rw [htv]
  unfold rgV
  go_enter Try.func8, Try.ntmps8
  go_upto_region 1 with fail
  refine abs (fun w1 => Blk w1 w.heap.size 25 [.slice A n c, .int .u64 (o : Int), .int .u64 (m : Int)] ∧ Blk w1 (w.heap.size + 1) 31 t.cells ∧ Below w.heap.size w w1) ⟨(Blk.of_new w _ _).alloc _, Blk.newAt (by simp) _ _, ((Below.refl _ w).alloc (Nat.le_refl _) _).alloc (by simp) _⟩ ?_
  rintro w1 ⟨kr, kt, f1⟩
  go_wp2_with (first | (refine load_blk kr rfl 25 (.tmp 5) rfl rfl Try.underlying25 (Hir.out _ _ _ _ _) ?_) | (refine load_blk kt rfl 31 (.tmp 6) rfl rfl Try.underlying31 Hit.out ?_))
  refine (long_any A n c o m t w1).mono ?_
  rintro e w2 ⟨rfl, f2⟩
  replace kr := kr.below f2 kr.lt
  replace kt := kt.below f2 kt.lt
  replace f1 := f1.trans (f2.mono f1.size)
  clear f2
  cases hlg : longB n t
  case true =>
    go_wp2_with fail
    refine (awake6_any w2).mono ?_
    rintro e w3 ⟨rfl, f2⟩
    go_wp2_with fail
    go_ret
    exact ⟨rfl, f1.trans (f2.mono f1.size)⟩
  obtain ⟨hl1, hl2, hl3⟩ := longB_no hlg
  by_cases hk60 : 60 < k
  · have d1 : decide ((60 : Int) < (k : Int)) = true := by simp; omega
    go_wp2_with fail
    refine (awake6_any w2).mono ?_
    rintro e w9 ⟨rfl, f9⟩
    go_wp2_with fail
    go_ret
    exact ⟨rfl, f1.trans (f9.mono f1.size)⟩
  have d60 : decide ((60 : Int) < (k : Int)) = false := by simp; omega
  have q2 : w2.cell? ⟨w.heap.size + 1, 2, none⟩ = some (.int .u64 (t.uid : Int)) := kt.cell 2
  have q3 : w2.cell? ⟨w.heap.size + 1, 3, none⟩ = some (.int .i64 t.host) := kt.cell 3
  have q4 : w2.cell? ⟨w.heap.size + 1, 4, none⟩ = some (.int .u32 (t.addr : Int)) := kt.cell 4
  have kn := kt.range 0 2
  rw [t.name] at kn
  go_wp2_with (first | (refine load_blk kr rfl 25 (.tmp 5) rfl rfl Try.underlying25 (Hir.out _ _ _ _ _) ?_) | (refine load_part (cs := [.string (strB t.ns), .string (strB t.sa)]) (b := w.heap.size + 1) (off := 0) kn rfl 27 (.tmp 28) rfl rfl Try.underlying27 Hin.out ?_))
  refine (issue_any A n c o m root t.ns t.sa t.uid t.host t.addr now (tkNew t.ns t.sa t.uid t.host t.addr now m) rfl hto (by rw [hns]; omega) (by rw [hsa]; omega) w2 ((rl.below f1).more f1.size) (by omega)).mono ?_
  rintro e w3 ⟨rfl, f2⟩
  obtain ⟨x, ev, hx, hxm, hxe, hev⟩ := issV_form root n o m (tkNew t.ns t.sa t.uid t.host t.addr now m)
  rw [hx, show x.v = .agg x.cells.toArray from rfl]
  have lr := kr.lt
  have lt := kt.lt
  replace kr := kr.below f2 lr
  replace kt := kt.below f2 lt
  replace f1 := f1.trans (f2.mono f1.size)
  clear f2 q2 q3 q4 kn hx
  have hix : (Try.prog.info? 31).map (·.size) = some x.cells.length := by rw [x.len hxm]; kernel_rfl
  have Hix := Lib.hid hix; clear hix
  have hlz : tkZero.cells.length = x.cells.length := by rw [x.len hxm]; rfl
  have Hlz := Lib.hid hlz; clear hlz
  have Hxe := Lib.hid hxe; clear hxe
  go_upto_region 4 with (first | (refine store_blk (cs := tkZero.cells) (Blk.newAt rfl 31 _) rfl 31 (.tmp 11) (.tmp 38) rfl rfl (us := x.cells) rfl Hix.out Hlz.out x.all ?_; intro w4 kx hg; have f3 : Below w3.heap.size w3 w4 := ((Below.refl _ w3).alloc (Nat.le_refl _) _).grown hg (by simp) (by simp)))
  have lr := kr.lt
  have lt := kt.lt
  replace kr := kr.below f3 lr
  replace kt := kt.below f3 lt
  replace f1 := f1.trans (f3.mono f1.size)
  clear hg f3
  have hgx : w.heap.size + 1 < w3.heap.size := lt
  generalize w3.heap.size = gx at *
  clear d60
  have lgx := kx.lt
  have ra : RingAt w.heap.size gx A n c root w4 := ⟨f1.size, lgx, .inl (rl.below f1)⟩
  by_cases he : ev = 0
  case neg =>
    obtain rfl : ev = 1 := by omega
    clear Hxe hev he
    go_wp2_with fail
    refine (awake6_any w4).mono ?_
    rintro e w9 ⟨rfl, f9⟩
    go_wp2_with fail
    go_ret
    exact ⟨rfl, f1.trans (f9.mono f1.size)⟩
  subst he
  obtain ⟨rfl, hrg, htk⟩ := Hxe.out rfl
  clear Hxe hev
  have hti := tkOk_times htk
  have hkey : (tkNew t.ns t.sa t.uid t.host t.addr now m).key = m := by with_unfolding_all rfl
  have hborn : (tkNew t.ns t.sa t.uid t.host t.addr now m).born = now := by with_unfolding_all rfl
  generalize tkNew t.ns t.sa t.uid t.host t.addr now m = tn at *
  have hxo := issued_ok (root := root) hto
  have hver : ∀ o' m' nw : Nat, rgOk n o' m' = true → m ≤ m' → verN root n o' m' (tn.sign (sigB root tn)) nw = (if m < o' then 7 else if nw < now ∨ tn.till ≤ nw then 9 else 0) := by
    intro o' m' nw h1 h2
    rw [ver_issued root n o' m' tn nw h1 htk, hkey, hborn]
    by_cases h3 : m < o'
    · rw [if_pos (.inl h3), if_pos h3]
    · rw [if_neg (by omega), if_neg h3]
  have hns2 : (tn.sign (sigB root tn)).ns.length ≤ 1000 := by show tn.ns.length ≤ 1000; rw [hns]; omega
  have hsa2 : (tn.sign (sigB root tn)).sa.length ≤ 1000 := by show tn.sa.length ≤ 1000; rw [hsa]; omega
  have hk7 : (tn.sign (sigB root tn)).cells[7]? = some (.int .u64 (m : Int)) := by rw [← hkey]; rfl
  have hk6 : (tn.sign (sigB root tn)).cells[6]? = some (.int .u64 (tn.till : Int)) := rfl
  rw [hborn] at hti
  have HV := Lib.hid hver; clear hver
  have HK7 := Lib.hid hk7; clear hk7
  have HK6 := Lib.hid hk6; clear hk6
  clear hkey hborn hns hsa htk hto
  have hn64 := rgOk_parts hrg
  generalize tn.sign (sigB root tn) = xx at *
  generalize tn.till = tl at *
  have hgs : w.heap.size < gx := by omega
  have RZ := Lib.hid rz; clear rz
  go_wp2_with fail
  go_loopw [13] (fun i wr => ∃ (j : Nat) (A' : Option Addr) (c' o' m' : Nat), i = .int .i64 j ∧ j ≤ k ∧ Blk wr w.heap.size 25 (rgC A' n c' o' m') ∧ RingAt w.heap.size gx A' n c' root wr ∧ rgOk n o' m' = true ∧ m ≤ m' ∧ Blk wr gx 31 xx.cells ∧ Below w.heap.size w wr) (fun i _ => k - (intOf i).toNat)
  case atStart => exact ⟨0, A, c, o, m, rfl, Nat.zero_le _, kr, ra, hrg, Nat.le_refl _, kx, f1⟩
  case round =>
    clear kr kt ra hrg kx f1 lr lt lgx
    obtain ⟨j, A', c', o', m', rfl, hjk, kr, ra, hrg, hmm, kx, f1⟩ := hrel
    by_cases hlt : j < k
    · have e1 : decide ((j : Int) < (k : Int)) = true := by simp; omega
      have b1 : (0 : Int) ≤ (j : Int) := by omega
      have b2 : (j : Int) < (k : Int) := by omega
      go_wp2_with (first | (refine load_blk kr rfl 25 (.tmp 5) rfl rfl Try.underlying25 (Hir.out _ _ _ _ _) ?_))
      refine (rotate_any A' n c' o' m' root wr ra.rd (by omega)).mono ?_
      rintro e wa ⟨A2, n2, c2, o2, m2, root2, rfl, _, hr2, ow, fa⟩
      have hv : rgV A2 n2 c2 o2 m2 = .agg (rgC A2 n2 c2 o2 m2).toArray := rfl
      rw [hv]
      clear hv
      have hE := @rotateE_0 n o' m'
      generalize rotateE n o' m' = er2 at *
      have lr := kr.lt
      have lx := kx.lt
      have sa := fa.size
      replace kr := kr.below fa lr
      replace kx := kx.below fa lx
      replace ra := ra.below fa
      replace f1 := f1.trans (fa.mono f1.size)
      replace ow := ow.base_le (show gx + 1 ≤ wr.heap.size from lx)
      have HR2 := Lib.hid hr2; clear hr2
      have HE := Lib.hid hE; clear hE
      clear fa
      go_upto_region 10 with (first | (refine store_blk (cs := rgC none 0 0 0 0) (Blk.newAt rfl 25 _) rfl 25 (.tmp 14) (.tmp 52) rfl rfl (us := rgC A2 n2 c2 o2 m2) rfl (Hir.out _ _ _ _ _) rfl (rgC_all _ _ _ _ _) ?_; intro wb kn hgb; have fb : Below wa.heap.size wa wb := ((Below.refl _ wa).alloc (Nat.le_refl _) _).grown hgb (by simp) (by simp)))
      have lga : gx < wa.heap.size := kx.lt
      replace kr := kr.below fb kr.lt
      replace kx := kx.below fb kx.lt
      replace ra := ra.below fb
      replace f1 := f1.trans (fb.mono f1.size)
      replace ow := ow.below (Nat.le_refl _) fb
      have lnb := kn.lt
      clear hgb fb lr lx sa
      generalize wa.heap.size = gn at *
      obtain ⟨bz, oz, zz, rfl, hbz, qz, _⟩ := (RZ.out.below f1).at_ hlt
      obtain ⟨q, hand, hq⟩ : ∃ q : Int, bits .and .i64 zz 1 = q ∧ (q = 0 ∨ q = 1) := ⟨_, rfl, and_1 zz⟩
      have HQ := Lib.hid hq; clear hq
      go_upto_if 59 with fail
      clear qz hand
      go_cut [15] (fun s15 wx => ∃ (er : Nat) (A3 : Option Addr) (n3 c3 o3 m3 : Nat), s15 = .int .i64 (er : Int) ∧ Blk wx w.heap.size 25 (rgC A' n c' o' m') ∧ RingAt w.heap.size gx A' n c' root wx ∧ Blk wx gn 25 (rgC A3 n3 c3 o3 m3) ∧ (er = 0 → n3 = n ∧ rgOk n o3 m3 = true ∧ m ≤ m3 ∧ RingAt w.heap.size gx A3 n c3 root wx) ∧ Blk wx gx 31 xx.cells ∧ Below w.heap.size w wx)
      case first =>
        rcases HQ.out with hq0 | hq1
        · subst hq0
          go_wp2_with fail
          go_meet
          refine ⟨er2, A2, n2, c2, o2, m2, rfl, kr, ra, kn, ?_, kx, f1⟩
          intro h0
          obtain ⟨e1, e2, e3, e4⟩ := HR2.out h0
          subst e1 e2 e3 e4
          exact ⟨rfl, HE.out h0, by omega, ra.1, ra.2.1, .inr ow⟩
        · subst hq1
          go_wp2_with (first | (refine load_blk kr rfl 25 (.tmp 5) rfl rfl Try.underlying25 (Hir.out _ _ _ _ _) ?_))
          refine (retire_any A' n c' o' m' root wb ra.rd (by omega)).mono ?_
          rintro e wd ⟨A3, n3, c3, o3, m3, root3, rfl, _, hr3, ow3, fc⟩
          have hv : rgV A3 n3 c3 o3 m3 = .agg (rgC A3 n3 c3 o3 m3).toArray := rfl
          rw [hv]
          clear hv HR2 HE
          have hE := @retireE_0 n o' m'
          generalize retireE n o' m' = er3 at *
          have lr := kr.lt
          have lx := kx.lt
          replace kr := kr.below fc lr
          replace kn := kn.below fc kn.lt
          replace kx := kx.below fc lx
          replace ra := ra.below fc
          replace f1 := f1.trans (fc.mono f1.size)
          replace ow3 := ow3.base_le (show gx + 1 ≤ wb.heap.size from lx)
          have HR3 := Lib.hid hr3; clear hr3
          have HE := Lib.hid hE; clear hE
          clear fc ow
          go_wp2_with (first | (refine store_blk kn rfl 25 (.tmp 14) (.tmp 63) rfl rfl (us := rgC A3 n3 c3 o3 m3) rfl (Hir.out _ _ _ _ _) rfl (rgC_all _ _ _ _ _) ?_; intro wf kn2 hgd))
          go_meet
          replace kr := kr.grown hgd (by simp; omega)
          replace kx := kx.grown hgd (by simp; omega)
          replace ra := ra.grown kn hgd (by omega)
          replace f1 := f1.grown hgd f1.size (by simp; omega)
          replace ow3 := ow3.grown hgd (Or.inr (Ne.symm (ow3.not_row kn (by decide))))
          refine ⟨er3, A3, n3, c3, o3, m3, rfl, kr, ra, kn2, ?_, kx, f1⟩
          intro h0
          obtain ⟨e1, e2, e3, e4⟩ := HR3.out h0
          subst e1 e2 e3 e4
          exact ⟨rfl, HE.out h0, by omega, ra.1, ra.2.1, .inr ow3⟩
      case rest =>
      clear kr ra kn kx f1 ow HR2 HE HQ
      obtain ⟨er, A3, n3, c3, o3, m3, rfl, kr, ra, kn, hfin, kx, f1⟩ := hcut
      obtain ⟨wg, ewg⟩ : ∃ wg : World, wg = wc := ⟨_, rfl⟩
      subst ewg
      have HF := Lib.hid hfin; clear hfin
      go_upto_if 66 with fail
      go_cut [] (fun wx => ∃ (A4 : Option Addr) (c4 o4 m4 : Nat), Blk wx w.heap.size 25 (rgC A4 n c4 o4 m4) ∧ RingAt w.heap.size gx A4 n c4 root wx ∧ rgOk n o4 m4 = true ∧ m ≤ m4 ∧ Blk wx gx 31 xx.cells ∧ Below w.heap.size w wx)
      case first =>
        by_cases hf : er = 0
        · subst hf
          obtain ⟨hnn, hrg2, hmm2, ra2⟩ := HF.out rfl
          subst n3
          clear HF
          go_wp2_with (first | (refine load_blk kn rfl 25 (.tmp 14) rfl rfl Try.underlying25 (Hir.out _ _ _ _ _) ?_) | (refine store_blk kr rfl 25 (.tmp 5) (.tmp 67) rfl rfl (us := rgC A3 n c3 o3 m3) rfl (Hir.out _ _ _ _ _) rfl (rgC_all _ _ _ _ _) ?_; intro wy kr2 hgy))
          go_meet
          exact ⟨A3, c3, o3, m3, kr2, ra2.grown kr hgy (Nat.le_refl _), hrg2, hmm2, kx.grown hgy (by simp; omega), f1.grown hgy f1.size (by simp)⟩
        · have df : ((er : Int) == 0) = false := by simp; omega
          go_wp2_with fail
          go_meet
          exact ⟨A', c', o', m', kr, ra, hrg, hmm, kx, f1⟩
      case rest =>
      clear kr ra kn kx f1 HF hrg hmm
      obtain ⟨A4, c4, o4, m4, kr, ra, hrg, hmm, kx, f1⟩ := hcut
      obtain ⟨wz, ewz⟩ : ∃ wz : World, wz = wc := ⟨_, rfl⟩
      subst ewz
      have q7 : wz.cell? ⟨gx, 7, none⟩ = some (.int .u64 (m : Int)) := by rw [kx.cell]; exact HK7.out
      have q6 : wz.cell? ⟨gx, 6, none⟩ = some (.int .u64 (tl : Int)) := by rw [kx.cell]; exact HK6.out
      have q1 : wz.cell? ⟨w.heap.size, 1, none⟩ = some (.int .u64 (o4 : Int)) := kr.cell 1
      have hvr := HV.out o4 m4 later hrg hmm
      have HVR := Lib.hid hvr; clear hvr
      go_upto_if 72 with fail
      go_cut [16] (fun v wx => (∃ wv : Nat, v = .int .i64 (wv : Int) ∧ verN root n o4 m4 xx later = wv) ∧ wx = wz)
      case first =>
        by_cases hk : m < o4
        · have d7 : decide ((m : Int) < (o4 : Int)) = true := by simp; omega
          go_wp2_with fail
          go_meet
          exact ⟨⟨7, rfl, by rw [HVR.out, if_pos hk]⟩, rfl⟩
        have d7 : decide ((m : Int) < (o4 : Int)) = false := by simp; omega
        by_cases hl : later < now
        · have d8 : decide ((later : Int) < (now : Int)) = true := by simp; omega
          go_wp2_with fail
          go_meet
          exact ⟨⟨9, rfl, by rw [HVR.out, if_neg hk, if_pos (.inl hl)]⟩, rfl⟩
        have d8 : decide ((later : Int) < (now : Int)) = false := by simp; omega
        by_cases hl2 : tl ≤ later
        · have d9 : decide ((tl : Int) ≤ (later : Int)) = true := by simp; omega
          go_wp2_with fail
          go_meet
          exact ⟨⟨9, rfl, by rw [HVR.out, if_neg hk, if_pos (.inr hl2)]⟩, rfl⟩
        have d9 : decide ((tl : Int) ≤ (later : Int)) = false := by simp; omega
        go_wp2_with fail
        go_meet
        exact ⟨⟨0, rfl, by rw [HVR.out, if_neg hk, if_neg (by omega)]⟩, rfl⟩
      case rest =>
      obtain ⟨⟨wv, rfl, hvv⟩, rfl⟩ := hcut
      clear HVR
      have HVR := Lib.hid hvv; clear hvv
      obtain ⟨wz, ewz⟩ : ∃ wz : World, wz = wc := ⟨_, rfl⟩
      subst ewz
      go_wp2_with (first | (refine load_blk kr rfl 25 (.tmp 5) rfl rfl Try.underlying25 (Hir.out _ _ _ _ _) ?_) | (refine load_blk kx rfl 31 (.tmp 11) rfl rfl Try.underlying31 Hix.out ?_))
      refine (verify_any A4 n c4 o4 m4 root xx later hxo hns2 hsa2 wz ra.rd (by omega)).mono ?_
      rintro e wv2 ⟨rfl, fv⟩
      rw [HVR.out]
      have lr := kr.lt
      have lx := kx.lt
      replace kr := kr.below fv lr
      replace kx := kx.below fv lx
      replace ra := ra.below fv
      replace f1 := f1.trans (fv.mono f1.size)
      clear fv q7 q6 q1
      go_wp2_with fail
      go_roundw
      case rel => (repeat apply Exists.intro); exact ⟨⟨j + 1, A4, c4, o4, m4, by go_num, by omega, kr, ra, hrg, hmm, kx, f1⟩, rfl⟩
      case measure => simp [intOf]; omega
    · obtain rfl : j = k := by omega
      have e1 : decide ((j : Int) < (j : Int)) = false := by simp
      have q7 : wr.cell? ⟨gx, 7, none⟩ = some (.int .u64 (m : Int)) := by rw [kx.cell]; exact HK7.out
      have q6 : wr.cell? ⟨gx, 6, none⟩ = some (.int .u64 (tl : Int)) := by rw [kx.cell]; exact HK6.out
      have q1 : wr.cell? ⟨w.heap.size, 1, none⟩ = some (.int .u64 (o' : Int)) := kr.cell 1
      by_cases hk : m < o'
      · have d7 : decide ((m : Int) < (o' : Int)) = true := by simp; omega
        go_wp2_with fail
        refine (awake6_any wr).mono ?_
        rintro e w9 ⟨rfl, f9⟩
        go_wp2_with fail
        go_ret
        exact ⟨rfl, f1.trans (f9.mono f1.size)⟩
      have d7 : decide ((m : Int) < (o' : Int)) = false := by simp; omega
      have hv1 := HV.out o' m' now hrg hmm
      rw [if_neg hk, if_neg (by omega)] at hv1
      have hv2 := HV.out o' m' (tl - 1) hrg hmm
      rw [if_neg hk, if_neg (by omega)] at hv2
      have hv3 := HV.out o' m' tl hrg hmm
      rw [if_neg hk, if_pos (.inr (Nat.le_refl _))] at hv3
      have H1 := Lib.hid hv1; clear hv1
      have H2 := Lib.hid hv2; clear hv2
      have H3 := Lib.hid hv3; clear hv3
      have hwt : IntKind.u64.wrap ((tl : Int) - 1) = ((tl - 1 : Nat) : Int) := by rw [IntWalk.u64_in _ (by omega)]; omega
      go_wp2_with (first | (refine load_blk kr rfl 25 (.tmp 5) rfl rfl Try.underlying25 (Hir.out _ _ _ _ _) ?_) | (refine load_blk kx rfl 31 (.tmp 11) rfl rfl Try.underlying31 Hix.out ?_))
      refine (verify_any A' n c' o' m' root xx now hxo hns2 hsa2 wr ra.rd (by omega)).mono ?_
      rintro e wa ⟨rfl, fa⟩
      rw [H1.out]
      replace kr := kr.below fa kr.lt
      replace kx := kx.below fa kx.lt
      replace ra := ra.below fa
      replace f1 := f1.trans (fa.mono f1.size)
      clear fa q7 q6 q1
      have q6 : wa.cell? ⟨gx, 6, none⟩ = some (.int .u64 (tl : Int)) := by rw [kx.cell]; exact HK6.out
      go_wp2_with (first | (refine load_blk_if kr rfl 25 (.tmp 5) rfl rfl Try.underlying25 (Hir.out _ _ _ _ _) ?_) | (refine load_blk_if kx rfl 31 (.tmp 11) rfl rfl Try.underlying31 Hix.out ?_))
      refine (verify_any A' n c' o' m' root xx (tl - 1) hxo hns2 hsa2 wa ra.rd (by omega)).mono ?_
      rintro e wb ⟨rfl, fa⟩
      rw [H2.out]
      replace kr := kr.below fa kr.lt
      replace kx := kx.below fa kx.lt
      replace ra := ra.below fa
      replace f1 := f1.trans (fa.mono f1.size)
      clear fa q6
      have q6 : wb.cell? ⟨gx, 6, none⟩ = some (.int .u64 (tl : Int)) := by rw [kx.cell]; exact HK6.out
      go_wp2_with (first | (refine load_blk_if kr rfl 25 (.tmp 5) rfl rfl Try.underlying25 (Hir.out _ _ _ _ _) ?_) | (refine load_blk_if kx rfl 31 (.tmp 11) rfl rfl Try.underlying31 Hix.out ?_))
      refine (verify_any A' n c' o' m' root xx tl hxo hns2 hsa2 wb ra.rd (by omega)).mono ?_
      rintro e wc ⟨rfl, fa⟩
      rw [H3.out]
      replace f1 := f1.trans (fa.mono f1.size)
      clear fa q6
      go_wp2_with fail
      refine (awake6_any wc).mono ?_
      rintro e w9 ⟨rfl, f9⟩
      go_wp2_with fail
      go_ret
      exact ⟨rfl, f1.trans (f9.mono f1.size)⟩
end Go.Proofs.Ytgefbgjgcjiceaa
