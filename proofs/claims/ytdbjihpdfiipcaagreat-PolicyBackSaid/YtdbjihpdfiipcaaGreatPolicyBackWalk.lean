/- The law PolicyBack, walked: true. Condition: none beyond what is opened. Printed by gen_pback.py. -/
import Derived.Test.YtdbjihpdfiipcaaGreatPolDecs
import Derived.Test.YtdbjihpdfiipcaaGreatPolSameP
import Derived.Test.YtdbjihpdfiipcaaGreatFacts
import Derived.Deep.DeepCutAuto
namespace Go.Proofs.YtdbjihpdfiipcaaGreat
open Go.RowKit Go.Sort
set_option linter.unusedVariables false
set_option linter.unusedSimpArgs false
theorem rem_nat (a : Int) (L : Nat) (hL : 0 < L) : ∃ k : Nat, (max 0 a).tmod (L : Int) = (k : Int) ∧ k < L := by
  refine ⟨(max 0 a).toNat % L, ?_, Nat.mod_lt _ hL⟩
  rw [Int.tmod_eq_emod_of_nonneg (by omega), Int.natCast_emod, Int.toNat_of_nonneg (by omega)]
theorem RdB.take {w : World} {B : Nat} {A : Option Addr} {n : Nat} {l : List UInt8} (h : RdB w B A n l) {k : Nat} (hk : k ≤ n) : RdB w B A k (l.take k) :=
  ⟨by rw [List.length_take, h.1]; omega, fun hp => by
    obtain ⟨b, off, rfl, hb, hj⟩ := h.2 (by omega)
    refine ⟨b, off, rfl, hb, fun j hj' => ?_⟩
    rw [List.length_take] at hj'
    rw [hj j (by omega), List.getElem_take]⟩
theorem PoP.form {w : World} {B : Nat} {cs : List Value} {p : Po} (h : PoP w B cs p) : ∃ (a0 : Int) (a1 : ByteArray) (a2 a3 : Int) (A : Option Addr) (n c : Nat), cs = [.int .u64 a0, .string a1, .int .u64 a2, .int .i64 a3, .slice A n c] := by
  obtain ⟨v, rfl, A, n, c, rfl, _⟩ := h
  exact ⟨_, _, _, _, _, _, _, rfl⟩
theorem dec_zero {l : List UInt8} (h : decOk l = true) : decE l = 0 ∧ decP l = readPo l := by
  unfold decE decP
  rw [h]
  exact ⟨rfl, rfl⟩
theorem dec_two {l : List UInt8} (h : decOk l = false) : decE l = 2 := by
  unfold decE
  rw [h]
  rfl
theorem dec_app {p : Po} (hok : okPo p) (hm : poMay p = true) (r : List UInt8) {n : Nat} (hn : r.length = n) : (((decE (poB p ++ r) : Nat) : Int) == 0) = ((n : Int) == 0) := by
  have h1 := (dec_more hok hm r).1
  cases r with
  | nil =>
    subst hn
    rw [(dec_zero h1).1]
    rfl
  | cons x r =>
    rw [dec_two h1, ← hn, List.length_cons]
    have : ((((r.length + 1 : Nat)) : Int) == 0) = false := by simp; omega
    rw [this]
    rfl
theorem back_same {p q : Po} (hp : okPo p) (hq : okPo q) (mp : poMay p = true) (mq : poMay q = true) : (poB p == poB q) = decide (p = q) := by
  rw [Bool.eq_iff_iff, beq_iff_eq, decide_eq_true_iff]
  exact ⟨fun h => poB_inj hp mp hq mq h, fun h => by rw [h]⟩
attribute [local irreducible] decE decP decOk readPo poB poMay poLong
set_option maxRecDepth 100000 in
set_option maxHeartbeats 4000000 in
theorem policyBack_walk (w : World) (cs : List Value) (p : Po) (hp : PoP w w.heap.size cs p) (kp : oqPo p) (ds : List Value) (q : Po) (hq : PoP w w.heap.size ds q) (kq : oqPo q) (a : Int) (ha1 : -9223372036854775808 ≤ a) (ha2 : a ≤ 9223372036854775807) (A : Option Addr) (n c : Nat) (more : List UInt8) (rm : RdB w w.heap.size A n more) (hnc : n ≤ c) (hcm : c ≤ maxLen) (R : Option Addr) (m d : Nat) (raw : List UInt8) (rr : RdB w w.heap.size R m raw) (hmd : m ≤ d) (hdm : d ≤ maxLen) :
    Calls Tryz.prog 6 #[.agg cs.toArray, .agg ds.toArray, .int .i64 a, .slice A n c, .slice R m d] w fun e w' => e = .returned (.bool true) ∧ Below w.heap.size w w' := by
  have hP := fun (u : World) (hu : Below w.heap.size w u) => PoP.mono hp hu.size hu
  have hQ := fun (u : World) (hu : Below w.heap.size w u) => PoP.mono hq hu.size hu
  obtain ⟨p0, p1, p2, p3, p4, p5, p6, rfl⟩ := hp.form
  obtain ⟨q0, q1, q2, q3, q4, q5, q6, rfl⟩ := hq.form
  have HP := Lib.hid hP; have HQ := Lib.hid hQ
  clear hP hQ hp hq
  have hi : (Tryz.prog.info? 38).map (·.size) = some 5 := by kernel_rfl
  have HI := Lib.hid hi; clear hi
  have hml := rm.1
  have hrl := rr.1
  show Calls Tryz.prog 6 #[.agg #[.int .u64 p0, .string p1, .int .u64 p2, .int .i64 p3, .slice p4 p5 p6], .agg #[.int .u64 q0, .string q1, .int .u64 q2, .int .i64 q3, .slice q4 q5 q6], .int .i64 a, .slice A n c, .slice R m d] w _
  go_enter Tryz.func6, Tryz.ntmps6
  go_upto_region 1 with fail
  refine abs (fun w1 => Blk w1 w.heap.size 38 [.int .u64 p0, .string p1, .int .u64 p2, .int .i64 p3, .slice p4 p5 p6] ∧ Blk w1 (w.heap.size + 1) 38 [.int .u64 q0, .string q1, .int .u64 q2, .int .i64 q3, .slice q4 q5 q6] ∧ Below w.heap.size w w1) ⟨(Blk.newAt rfl _ #[.int .u64 p0, .string p1, .int .u64 p2, .int .i64 p3, .slice p4 p5 p6]).alloc _, Blk.newAt (by simp) _ #[.int .u64 q0, .string q1, .int .u64 q2, .int .i64 q3, .slice q4 q5 q6], ((Below.refl _ w).alloc (Nat.le_refl _) _).alloc (by simp) _⟩ ?_
  rintro w1 ⟨ka, kb, f1⟩
  have a0 := ka.cell 0; have a1 := ka.cell 1; have a2 := ka.cell 2; have a3 := ka.cell 3; have a4 := ka.cell 4
  go_wp2_with fail
  refine (long12_any p _ w1 (HP.out w1 f1) kp).mono ?_
  rintro e w2 ⟨rfl, f2⟩
  clear a0 a1 a2 a3 a4
  have lka := ka.lt
  have lkb := kb.lt
  replace ka := ka.below f2 lka
  replace kb := kb.below f2 lkb
  replace f1 := f1.trans (f2.mono f1.size)
  clear f2
  cases hlp : poLong p
  rotate_left
  · go_wp2_with fail
    refine (awake12_any w2).mono ?_
    rintro e w9 ⟨rfl, f9⟩
    go_wp2_with fail
    go_ret
    exact ⟨rfl, f1.trans (f9.mono f1.size)⟩
  have okp := kp.ok hlp
  have b0 := kb.cell 0; have b1 := kb.cell 1; have b2 := kb.cell 2; have b3 := kb.cell 3; have b4 := kb.cell 4
  go_wp2_with fail
  refine (long12_any q _ w2 (HQ.out w2 f1) kq).mono ?_
  rintro e w3 ⟨rfl, f2⟩
  clear b0 b1 b2 b3 b4
  have lka := ka.lt
  have lkb := kb.lt
  replace ka := ka.below f2 lka
  replace kb := kb.below f2 lkb
  replace f1 := f1.trans (f2.mono f1.size)
  clear f2
  cases hlq : poLong q
  rotate_left
  · go_wp2_with fail
    refine (awake12_any w3).mono ?_
    rintro e w9 ⟨rfl, f9⟩
    go_wp2_with fail
    go_ret
    exact ⟨rfl, f1.trans (f9.mono f1.size)⟩
  have okq := kq.ok hlq
  by_cases hn : 300 < n
  · have d1 : decide ((300 : Int) < (n : Int)) = true := by simp; omega
    go_wp2_with fail
    refine (awake12_any w3).mono ?_
    rintro e w9 ⟨rfl, f9⟩
    go_wp2_with fail
    go_ret
    exact ⟨rfl, f1.trans (f9.mono f1.size)⟩
  have d1 : decide ((300 : Int) < (n : Int)) = false := by simp; omega
  by_cases hm : 60000 < m
  · have d2 : decide ((60000 : Int) < (m : Int)) = true := by simp; omega
    go_wp2_with fail
    refine (awake12_any w3).mono ?_
    rintro e w9 ⟨rfl, f9⟩
    go_wp2_with fail
    go_ret
    exact ⟨rfl, f1.trans (f9.mono f1.size)⟩
  have d2 : decide ((60000 : Int) < (m : Int)) = false := by simp; omega
  go_wp2_with fail
  refine (decode_any R m d raw w3 ((rr.below f1).more f1.size) (by omega)).mono ?_
  rintro e w4 ⟨es, rfl, hd, f2⟩
  have hd4 : PoP w4 w4.heap.size es (decP raw) := PoP.mn _ _ _ _ _ _ (Nat.le_refl _) (Sub.out _ _ _ _) hd
  clear hd d1 d2
  obtain ⟨x0, x1, x2, x3, x4, x5, x6, rfl⟩ := hd4.form
  have lka := ka.lt
  have lkb := kb.lt
  replace ka := ka.below f2 lka
  replace kb := kb.below f2 lkb
  replace f1 := f1.trans (f2.mono f1.size)
  clear f2
  cases hro : decOk raw
  · rw [dec_two hro]
    clear hd4
    go_upto_region 4 with (first | (refine store_blk (cs := [.int .u64 0, .string ⟨#[]⟩, .int .u64 0, .int .i64 0, .slice none 0 0]) (Blk.newAt rfl 38 #[.int .u64 0, .string ⟨#[]⟩, .int .u64 0, .int .i64 0, .slice none 0 0]) rfl 38 (.tmp 11) (.tmp 45) rfl rfl (us := [.int .u64 x0, .string x1, .int .u64 x2, .int .i64 x3, .slice x4 x5 x6]) rfl HI.out rfl rfl ?_; intro w5 kx hg; have f3 : Below w4.heap.size w4 w5 := ((Below.refl _ w4).alloc (Nat.le_refl _) _).grown hg (by simp) (by simp)))
    have lka := ka.lt
    have lkb := kb.lt
    replace ka := ka.below f3 lka
    replace kb := kb.below f3 lkb
    replace f1 := f1.trans (f3.mono f1.size)
    clear hg f3 kx
    generalize w4.heap.size = g5 at *
    go_upto_region 8 with fail
    clear rr hrl hmd hdm hm
    have a0 := ka.cell 0; have a1 := ka.cell 1; have a2 := ka.cell 2; have a3 := ka.cell 3; have a4 := ka.cell 4
    cases hmp : poMay p
    · go_wp2_with fail
      refine (encode_no p _ w5 (HP.out w5 f1) okp hmp).mono ?_
      rintro e wa ⟨rfl, f2⟩
      replace f1 := f1.trans (f2.mono f1.size)
      clear f2
      go_wp2_with fail
      refine (awake12_any wa).mono ?_
      rintro e w9 ⟨rfl, f9⟩
      go_wp2_with fail
      go_ret
      exact ⟨rfl, f1.trans (f9.mono f1.size)⟩
    go_wp2_with fail
    refine (encode_yes p _ w5 (HP.out w5 f1) okp hmp).mono ?_
    rintro e w7 ⟨A1, c1, rfl, ow, f2⟩
    clear a0 a1 a2 a3 a4
    have lka := ka.lt
    have lkb := kb.lt
    replace ka := ka.below f2 lka
    replace kb := kb.below f2 lkb
    replace f1 := f1.trans (f2.mono f1.size)
    clear f2
    have hL0 := poB_pos okp.1
    have hL1 := poB_le hmp okp
    have hcap := ow.cap
    have DO := Lib.hid (dec_zero (dec_own okp hmp).1)
    have DP := Lib.hid (dec_own okp hmp).2
    have DC := Lib.hid (fun k hk => dec_two (dec_cut okp hmp (k := k) hk))
    have DA := Lib.hid (dec_app okp hmp more hml)
    have DS := Lib.hid (back_same okp okq hmp)
    generalize poB p = TB at *
    generalize hL : TB.length = L at *
    have d4 : ((L : Int) == 0) = false := by simp; omega
    go_wp2_with fail
    refine (decode_any A1 L c1 TB w7 ow.rd (by omega)).mono ?_
    rintro e w8 ⟨es2, rfl, hd, f2⟩
    rw [DO.out.1]
    rw [DO.out.2, DP.out] at hd
    have hx8 : PoP w8 w8.heap.size es2 p := PoP.mn _ _ _ _ _ _ (Nat.le_refl _) (Sub.out _ _ _ _) hd
    clear hd d4
    obtain ⟨u0, u1, u2, u3, u4, u5, u6, rfl⟩ := hx8.form
    have lka := ka.lt
    have lkb := kb.lt
    replace ka := ka.below f2 lka
    replace kb := kb.below f2 lkb
    replace ow := ow.below (Nat.le_refl _) f2
    replace f1 := f1.trans (f2.mono f1.size)
    clear f2
    go_upto_region 14 with (first | (refine store_blk (cs := [.int .u64 0, .string ⟨#[]⟩, .int .u64 0, .int .i64 0, .slice none 0 0]) (Blk.newAt rfl 38 #[.int .u64 0, .string ⟨#[]⟩, .int .u64 0, .int .i64 0, .slice none 0 0]) rfl 38 (.tmp 17) (.tmp 81) rfl rfl (us := [.int .u64 u0, .string u1, .int .u64 u2, .int .i64 u3, .slice u4 u5 u6]) rfl HI.out rfl rfl ?_; intro w9 ku hg; have f3 : Below w8.heap.size w8 w9 := ((Below.refl _ w8).alloc (Nat.le_refl _) _).grown hg (by simp) (by simp)))
    have lka := ka.lt
    have lkb := kb.lt
    replace ka := ka.below f3 lka
    replace kb := kb.below f3 lkb
    replace ow := ow.below (Nat.le_refl _) f3
    replace f1 := f1.trans (f3.mono f1.size)
    have hX := fun (v : World) (hv : Below w9.heap.size w9 v) => (hx8.mono f3.size f3).mono hv.size hv
    have HX := Lib.hid hX
    clear hX hx8 hg f3
    generalize w8.heap.size = gx at *
    obtain ⟨k, hk, hkL⟩ := rem_nat a L hL0
    have b1 : (0 : Int) ≤ (k : Int) := by omega
    have b2 : (k : Int) ≤ (c1 : Int) := by omega
    have r2 := ow.rd.take (k := k) (by omega)
    have hne : ((L : Int) == 0) = false := by simp; omega
    go_wp2_with fail
    refine (decode_any A1 k c1 (TB.take k) w9 r2 (by omega)).mono ?_
    rintro e wa ⟨es3, rfl, hd, f2⟩
    rw [DC.out k hkL]
    have hx8 : PoP wa wa.heap.size es3 _ := PoP.mn _ _ _ _ _ _ (Nat.le_refl _) (Sub.out _ _ _ _) hd
    obtain ⟨v0, v1, v2, v3, v4, v5, v6, rfl⟩ := hx8.form
    clear r2 hk b1 b2 hd hx8
    have fX : Below w9.heap.size w9 wa := f2
    have lka := ka.lt
    have lkb := kb.lt
    have lku := ku.lt
    replace ka := ka.below f2 lka
    replace kb := kb.below f2 lkb
    replace ku := ku.below f2 lku
    replace ow := ow.below (Nat.le_refl _) f2
    replace f1 := f1.trans (f2.mono f1.size)
    clear f2
    go_upto_region 15 with (first | (refine store_blk (cs := [.int .u64 0, .string ⟨#[]⟩, .int .u64 0, .int .i64 0, .slice none 0 0]) (Blk.newAt rfl 38 #[.int .u64 0, .string ⟨#[]⟩, .int .u64 0, .int .i64 0, .slice none 0 0]) rfl 38 (.tmp 19) (.tmp 92) rfl rfl (us := [.int .u64 v0, .string v1, .int .u64 v2, .int .i64 v3, .slice v4 v5 v6]) rfl HI.out rfl rfl ?_; intro wb kv hg; have f3 : Below wa.heap.size wa wb := ((Below.refl _ wa).alloc (Nat.le_refl _) _).grown hg (by simp) (by simp)))
    have lka := ka.lt
    have lkb := kb.lt
    have lku := ku.lt
    replace ka := ka.below f3 lka
    replace kb := kb.below f3 lkb
    replace ku := ku.below f3 lku
    replace ow := ow.below (Nat.le_refl _) f3
    replace f1 := f1.trans (f3.mono f1.size)
    replace fX := fX.trans (f3.mono fX.size)
    clear hg f3 kv
    generalize wa.heap.size = gy at *
    have s8 := f1.size
    have r8 := ow.rd
    have m8 := (rm.below f1).more s8
    go_wp2_with (first
      | (at_builtin; refine appendR T23 rfl rfl rfl o5 rfl (m8.below f5) (by omega) f5 (Nat.le_refl _) ?_; intro A6 c6 wd o6 f6 _)
      | (at_builtin; go_must (refine appendR T23 rfl rfl rfl (OwnB.of_blk (l := []) (Blk.of_new wb _ _) (Nat.le_refl _) rfl (by simp [maxLen])) rfl (r8.below ((Below.refl _ wb).alloc (Nat.le_refl _) _)) (by omega) ((Below.refl _ wb).alloc (Nat.le_refl _) _) (Nat.le_refl _) ?_); intro A5 c5 wc o5 f5 _; rw [Nat.zero_add, List.nil_append] at o5; try rw [Nat.zero_add]))
    refine (decode_any A6 (L + n) c6 (TB ++ more) wd o6.rd (by omega)).mono ?_
    rintro e we ⟨es4, rfl, hd, f7⟩
    have hx8 : PoP we we.heap.size es4 _ := PoP.mn _ _ _ _ _ _ (Nat.le_refl _) (Sub.out _ _ _ _) hd
    obtain ⟨y0, y1, y2, y3, y4, y5, y6, rfl⟩ := hx8.form
    clear o5 f5 o6 hd hx8
    replace f7 := f6.trans (f7.mono f6.size)
    obtain ⟨ex, hex⟩ : ∃ x, decE (TB ++ more) = x := ⟨_, rfl⟩
    rw [hex]
    have hxe := DA.out
    rw [hex] at hxe
    clear hex
    have lka := ka.lt
    have lkb := kb.lt
    have lku := ku.lt
    replace ka := ka.below f7 lka
    replace kb := kb.below f7 lkb
    replace ku := ku.below f7 lku
    replace ow := ow.below (Nat.le_refl _) f7
    replace f1 := f1.trans (f7.mono f1.size)
    replace fX := fX.trans (f7.mono fX.size)
    clear f7 f6 r8 m8
    go_upto_region 16 with (first | (refine store_blk (cs := [.int .u64 0, .string ⟨#[]⟩, .int .u64 0, .int .i64 0, .slice none 0 0]) (Blk.newAt rfl 38 #[.int .u64 0, .string ⟨#[]⟩, .int .u64 0, .int .i64 0, .slice none 0 0]) rfl 38 (.tmp 21) (.tmp 101) rfl rfl (us := [.int .u64 y0, .string y1, .int .u64 y2, .int .i64 y3, .slice y4 y5 y6]) rfl HI.out rfl rfl ?_; intro wf ky hg; have f3 : Below we.heap.size we wf := ((Below.refl _ we).alloc (Nat.le_refl _) _).grown hg (by simp) (by simp)))
    have lka := ka.lt
    have lkb := kb.lt
    have lku := ku.lt
    replace ka := ka.below f3 lka
    replace kb := kb.below f3 lkb
    replace ku := ku.below f3 lku
    replace ow := ow.below (Nat.le_refl _) f3
    replace f1 := f1.trans (f3.mono f1.size)
    replace fX := fX.trans (f3.mono fX.size)
    clear hg f3 ky
    generalize we.heap.size = gz at *
    obtain ⟨hz, hxq⟩ : ∃ z : Bool, ((n : Int) == 0) = z := ⟨_, rfl⟩
    rw [hxq] at hxe
    clear hne
    have b0 := kb.cell 0; have b1 := kb.cell 1; have b2 := kb.cell 2; have b3 := kb.cell 3; have b4 := kb.cell 4
    cases hmq : poMay q
    · go_wp2_with fail
      refine (encode_no q _ wf (HQ.out wf f1) okq hmq).mono ?_
      rintro e wq ⟨rfl, f2⟩
      clear b0 b1 b2 b3 b4
      have lka := ka.lt
      have lkb := kb.lt
      have lku := ku.lt
      replace ka := ka.below f2 lka
      replace kb := kb.below f2 lkb
      replace ku := ku.below f2 lku
      replace ow := ow.below (Nat.le_refl _) f2
      replace f1 := f1.trans (f2.mono f1.size)
      replace fX := fX.trans (f2.mono fX.size)
      have rb := ow.rd
      clear f2 DS ow
      have C1 := fun (u : World) (hu : Below wq.heap.size wq u) => same12_any p p _ _ u (HX.out u (fX.trans (hu.mono fX.size))) (HP.out u (f1.trans (hu.mono f1.size))) okp okp
      rw [decide_eq_true (rfl : p = p)] at C1
      have EE : ∀ u, Below wq.heap.size wq u → CsS [(⟨w.heap.size, 0, none⟩, .int .u64 p0), (⟨w.heap.size, 1, none⟩, .string p1), (⟨w.heap.size, 2, none⟩, .int .u64 p2), (⟨w.heap.size, 3, none⟩, .int .i64 p3), (⟨w.heap.size, 4, none⟩, .slice p4 p5 p6), (⟨(w.heap.size + 1), 0, none⟩, .int .u64 q0), (⟨(w.heap.size + 1), 1, none⟩, .string q1), (⟨(w.heap.size + 1), 2, none⟩, .int .u64 q2), (⟨(w.heap.size + 1), 3, none⟩, .int .i64 q3), (⟨(w.heap.size + 1), 4, none⟩, .slice q4 q5 q6), (⟨gx, 0, none⟩, .int .u64 u0), (⟨gx, 1, none⟩, .string u1), (⟨gx, 2, none⟩, .int .u64 u2), (⟨gx, 3, none⟩, .int .i64 u3), (⟨gx, 4, none⟩, .slice u4 u5 u6)] u := fun u hu => CsS.below (u := wq) ⟨ka.cell 0, ka.cell 1, ka.cell 2, ka.cell 3, ka.cell 4, kb.cell 0, kb.cell 1, kb.cell 2, kb.cell 3, kb.cell 4, ku.cell 0, ku.cell 1, ku.cell 2, ku.cell 3, ku.cell 4, trivial⟩ hu
      go_upto_region 17 with fail
      refine wp_region_facts (fun u => Below wq.heap.size wq u) [
          fun v _ => v = .int .i64 0,
          fun v _ => v = .bool true,
          fun v _ => v = .bool true,
          fun v _ => v = .agg #[.int .u64 u0, .string u1, .int .u64 u2, .int .i64 u3, .slice u4 u5 u6],
          fun v _ => v = .agg #[.int .u64 p0, .string p1, .int .u64 p2, .int .i64 p3, .slice p4 p5 p6],
          fun v _ => v = .bool true,
          fun v _ => v = .bool true,
          fun v _ => v = .bool true,
          fun v _ => v = .int .i64 2,
          fun v _ => v = .bool true,
          fun v _ => v = .bool true,
          fun v _ => v = .bool true,
          fun v _ => v = .int .i64 (ex : Int),
          fun v _ => v = .bool hz,
          fun v _ => v = .slice A n c,
          fun v _ => v = .int .i64 (n : Int),
          fun v _ => v = .bool hz,
          fun v _ => v = .bool true,
          fun v _ => v = .bool true,
          fun v _ => v = .bool true,
          fun v _ => v = .int .i64 1,
          fun v _ => v = .bool true,
          fun v _ => v = .bool true,
          fun v _ => v = undef,
          fun v _ => v = undef,
          fun v _ => v = undef,
          fun v _ => v = undef,
          fun v _ => v = undef,
          fun v _ => v = undef,
          fun v _ => v = undef,
          fun v _ => v = undef,
          fun v _ => v = undef,
          fun v _ => v = .bool true,
          fun v _ => v = .bool true,
          fun v _ => v = .bool true,
          fun v _ => v = .bool true,
          fun v _ => v = .bool true,
          fun v _ => v = .bool true] (fun u u' => Below u.heap.size u u')
          [[], [0], [1], [2], [2], [2, 3, 4], [2, 5], [6], [7], [7, 8], [7, 9], [10], [11], [11, 12], [11], [11, 14], [11, 15], [11, 13, 16], [11, 17], [18], [19], [19, 20], [19, 21], [22], [22, 23], [22], [22, 25], [22, 24, 26], [22], [22], [22, 28, 29], [22, 27, 30], [19, 22, 31], [19, 32], [33], [34], [34, 35], [36]] []
          (by kernel_rfl) (by kernel_rfl) ?_ (fun _ _ _ _ _ h => h) ((Below.refl _ _).drew) ?_ ?_
      · refine hE_of (fun u u' h f => f.trans (h.mono f.size)) ?_
        repeat' (first | exact mono_nil | refine mono_cons (fun v u u' h => ?_) ?_)
        all_goals first | exact _root_.id
      ·
        refine owed_cons (fun vs u hS hD N => ?_) ?_
        · clear hD
          intro hN
          simp only [fact, layAt, depOn, dstOf, List.map_cons, List.map_nil, List.foldl_cons, List.foldl_nil, List.getD_cons_zero, List.getD_cons_succ, List.getElem?_cons_zero, List.getElem?_cons_succ, Option.bind_some] at hN ⊢
          go_simp
          have hh := hN _ _ rfl (.inl (Below.refl _ _))
          revert hh
          go_simp
        refine owed_cons (fun vs u hS hD N => ?_) ?_
        · have d0 := hD 0 (by decide)
          simp only [fact, layAt, depOn, dstOf, List.map_cons, List.map_nil, List.foldl_cons, List.foldl_nil, List.getD_cons_zero, List.getD_cons_succ, List.getElem?_cons_zero, List.getElem?_cons_succ, Option.bind_some] at d0
          clear hD
          intro hN
          simp only [fact, layAt, depOn, dstOf, List.map_cons, List.map_nil, List.foldl_cons, List.foldl_nil, List.getD_cons_zero, List.getD_cons_succ, List.getElem?_cons_zero, List.getElem?_cons_succ, Option.bind_some, d0] at hN ⊢
          go_simp
          have hh := hN _ _ rfl (.inl (Below.refl _ _))
          revert hh
          go_simp
        refine owed_cons (fun vs u hS hD N => ?_) ?_
        · have d1 := hD 1 (by decide)
          simp only [fact, layAt, depOn, dstOf, List.map_cons, List.map_nil, List.foldl_cons, List.foldl_nil, List.getD_cons_zero, List.getD_cons_succ, List.getElem?_cons_zero, List.getElem?_cons_succ, Option.bind_some] at d1
          clear hD
          intro hN
          simp only [fact, layAt, depOn, dstOf, List.map_cons, List.map_nil, List.foldl_cons, List.foldl_nil, List.getD_cons_zero, List.getD_cons_succ, List.getElem?_cons_zero, List.getElem?_cons_succ, Option.bind_some, d1] at hN ⊢
          go_simp
          have hh := hN _ _ rfl (.inl (Below.refl _ _))
          revert hh
          go_simp
        refine owed_cons (fun vs u hS hD N => ?_) ?_
        · have d2 := hD 2 (by decide)
          simp only [fact, layAt, depOn, dstOf, List.map_cons, List.map_nil, List.foldl_cons, List.foldl_nil, List.getD_cons_zero, List.getD_cons_succ, List.getElem?_cons_zero, List.getElem?_cons_succ, Option.bind_some] at d2
          clear hD
          intro hN
          simp only [fact, layAt, depOn, dstOf, List.map_cons, List.map_nil, List.foldl_cons, List.foldl_nil, List.getD_cons_zero, List.getD_cons_succ, List.getElem?_cons_zero, List.getElem?_cons_succ, Option.bind_some, d2] at hN ⊢
          go_simp
          obtain ⟨a0, a1, a2, a3, a4, b0, b1, b2, b3, b4, x0, x1, x2, x3, x4, _⟩ := EE _ hS
          go_simp
          have hh := hN _ _ rfl (.inl (Below.refl _ _))
          revert hh
          go_simp
        refine owed_cons (fun vs u hS hD N => ?_) ?_
        · have d2 := hD 2 (by decide)
          simp only [fact, layAt, depOn, dstOf, List.map_cons, List.map_nil, List.foldl_cons, List.foldl_nil, List.getD_cons_zero, List.getD_cons_succ, List.getElem?_cons_zero, List.getElem?_cons_succ, Option.bind_some] at d2
          clear hD
          intro hN
          simp only [fact, layAt, depOn, dstOf, List.map_cons, List.map_nil, List.foldl_cons, List.foldl_nil, List.getD_cons_zero, List.getD_cons_succ, List.getElem?_cons_zero, List.getElem?_cons_succ, Option.bind_some, d2] at hN ⊢
          go_simp
          obtain ⟨a0, a1, a2, a3, a4, b0, b1, b2, b3, b4, x0, x1, x2, x3, x4, _⟩ := EE _ hS
          go_simp
          have hh := hN _ _ rfl (.inl (Below.refl _ _))
          revert hh
          go_simp
        refine owed_cons (fun vs u hS hD N => ?_) ?_
        · have d2 := hD 2 (by decide)
          simp only [fact, layAt, depOn, dstOf, List.map_cons, List.map_nil, List.foldl_cons, List.foldl_nil, List.getD_cons_zero, List.getD_cons_succ, List.getElem?_cons_zero, List.getElem?_cons_succ, Option.bind_some] at d2
          have d3 := hD 3 (by decide)
          simp only [fact, layAt, depOn, dstOf, List.map_cons, List.map_nil, List.foldl_cons, List.foldl_nil, List.getD_cons_zero, List.getD_cons_succ, List.getElem?_cons_zero, List.getElem?_cons_succ, Option.bind_some] at d3
          have d4 := hD 4 (by decide)
          simp only [fact, layAt, depOn, dstOf, List.map_cons, List.map_nil, List.foldl_cons, List.foldl_nil, List.getD_cons_zero, List.getD_cons_succ, List.getElem?_cons_zero, List.getElem?_cons_succ, Option.bind_some] at d4
          clear hD
          intro hN
          simp only [fact, layAt, depOn, dstOf, List.map_cons, List.map_nil, List.foldl_cons, List.foldl_nil, List.getD_cons_zero, List.getD_cons_succ, List.getElem?_cons_zero, List.getElem?_cons_succ, Option.bind_some, d2, d3, d4] at hN ⊢
          go_simp
          refine (C1 u hS).mono ?_
          rintro e u1 ⟨rfl, f⟩
          have hh := hN _ _ rfl (.inl f)
          revert hh
          go_simp
        refine owed_cons (fun vs u hS hD N => ?_) ?_
        · have d2 := hD 2 (by decide)
          simp only [fact, layAt, depOn, dstOf, List.map_cons, List.map_nil, List.foldl_cons, List.foldl_nil, List.getD_cons_zero, List.getD_cons_succ, List.getElem?_cons_zero, List.getElem?_cons_succ, Option.bind_some] at d2
          have d5 := hD 5 (by decide)
          simp only [fact, layAt, depOn, dstOf, List.map_cons, List.map_nil, List.foldl_cons, List.foldl_nil, List.getD_cons_zero, List.getD_cons_succ, List.getElem?_cons_zero, List.getElem?_cons_succ, Option.bind_some] at d5
          clear hD
          intro hN
          simp only [fact, layAt, depOn, dstOf, List.map_cons, List.map_nil, List.foldl_cons, List.foldl_nil, List.getD_cons_zero, List.getD_cons_succ, List.getElem?_cons_zero, List.getElem?_cons_succ, Option.bind_some, d2, d5] at hN ⊢
          go_simp
          have hh := hN _ _ rfl (.inl (Below.refl _ _))
          revert hh
          go_simp
        refine owed_cons (fun vs u hS hD N => ?_) ?_
        · have d6 := hD 6 (by decide)
          simp only [fact, layAt, depOn, dstOf, List.map_cons, List.map_nil, List.foldl_cons, List.foldl_nil, List.getD_cons_zero, List.getD_cons_succ, List.getElem?_cons_zero, List.getElem?_cons_succ, Option.bind_some] at d6
          clear hD
          intro hN
          simp only [fact, layAt, depOn, dstOf, List.map_cons, List.map_nil, List.foldl_cons, List.foldl_nil, List.getD_cons_zero, List.getD_cons_succ, List.getElem?_cons_zero, List.getElem?_cons_succ, Option.bind_some, d6] at hN ⊢
          go_simp
          have hh := hN _ _ rfl (.inl (Below.refl _ _))
          revert hh
          go_simp
        refine owed_cons (fun vs u hS hD N => ?_) ?_
        · have d7 := hD 7 (by decide)
          simp only [fact, layAt, depOn, dstOf, List.map_cons, List.map_nil, List.foldl_cons, List.foldl_nil, List.getD_cons_zero, List.getD_cons_succ, List.getElem?_cons_zero, List.getElem?_cons_succ, Option.bind_some] at d7
          clear hD
          intro hN
          simp only [fact, layAt, depOn, dstOf, List.map_cons, List.map_nil, List.foldl_cons, List.foldl_nil, List.getD_cons_zero, List.getD_cons_succ, List.getElem?_cons_zero, List.getElem?_cons_succ, Option.bind_some, d7] at hN ⊢
          go_simp
          have hh := hN _ _ rfl (.inl (Below.refl _ _))
          revert hh
          go_simp
        refine owed_cons (fun vs u hS hD N => ?_) ?_
        · have d7 := hD 7 (by decide)
          simp only [fact, layAt, depOn, dstOf, List.map_cons, List.map_nil, List.foldl_cons, List.foldl_nil, List.getD_cons_zero, List.getD_cons_succ, List.getElem?_cons_zero, List.getElem?_cons_succ, Option.bind_some] at d7
          have d8 := hD 8 (by decide)
          simp only [fact, layAt, depOn, dstOf, List.map_cons, List.map_nil, List.foldl_cons, List.foldl_nil, List.getD_cons_zero, List.getD_cons_succ, List.getElem?_cons_zero, List.getElem?_cons_succ, Option.bind_some] at d8
          clear hD
          intro hN
          simp only [fact, layAt, depOn, dstOf, List.map_cons, List.map_nil, List.foldl_cons, List.foldl_nil, List.getD_cons_zero, List.getD_cons_succ, List.getElem?_cons_zero, List.getElem?_cons_succ, Option.bind_some, d7, d8] at hN ⊢
          go_simp
          have hh := hN _ _ rfl (.inl (Below.refl _ _))
          revert hh
          go_simp
        refine owed_cons (fun vs u hS hD N => ?_) ?_
        · have d7 := hD 7 (by decide)
          simp only [fact, layAt, depOn, dstOf, List.map_cons, List.map_nil, List.foldl_cons, List.foldl_nil, List.getD_cons_zero, List.getD_cons_succ, List.getElem?_cons_zero, List.getElem?_cons_succ, Option.bind_some] at d7
          have d9 := hD 9 (by decide)
          simp only [fact, layAt, depOn, dstOf, List.map_cons, List.map_nil, List.foldl_cons, List.foldl_nil, List.getD_cons_zero, List.getD_cons_succ, List.getElem?_cons_zero, List.getElem?_cons_succ, Option.bind_some] at d9
          clear hD
          intro hN
          simp only [fact, layAt, depOn, dstOf, List.map_cons, List.map_nil, List.foldl_cons, List.foldl_nil, List.getD_cons_zero, List.getD_cons_succ, List.getElem?_cons_zero, List.getElem?_cons_succ, Option.bind_some, d7, d9] at hN ⊢
          go_simp
          have hh := hN _ _ rfl (.inl (Below.refl _ _))
          revert hh
          go_simp
        refine owed_cons (fun vs u hS hD N => ?_) ?_
        · have d10 := hD 10 (by decide)
          simp only [fact, layAt, depOn, dstOf, List.map_cons, List.map_nil, List.foldl_cons, List.foldl_nil, List.getD_cons_zero, List.getD_cons_succ, List.getElem?_cons_zero, List.getElem?_cons_succ, Option.bind_some] at d10
          clear hD
          intro hN
          simp only [fact, layAt, depOn, dstOf, List.map_cons, List.map_nil, List.foldl_cons, List.foldl_nil, List.getD_cons_zero, List.getD_cons_succ, List.getElem?_cons_zero, List.getElem?_cons_succ, Option.bind_some, d10] at hN ⊢
          go_simp
          have hh := hN _ _ rfl (.inl (Below.refl _ _))
          revert hh
          go_simp
        refine owed_cons (fun vs u hS hD N => ?_) ?_
        · have d11 := hD 11 (by decide)
          simp only [fact, layAt, depOn, dstOf, List.map_cons, List.map_nil, List.foldl_cons, List.foldl_nil, List.getD_cons_zero, List.getD_cons_succ, List.getElem?_cons_zero, List.getElem?_cons_succ, Option.bind_some] at d11
          clear hD
          intro hN
          simp only [fact, layAt, depOn, dstOf, List.map_cons, List.map_nil, List.foldl_cons, List.foldl_nil, List.getD_cons_zero, List.getD_cons_succ, List.getElem?_cons_zero, List.getElem?_cons_succ, Option.bind_some, d11] at hN ⊢
          go_simp
          have hh := hN _ _ rfl (.inl (Below.refl _ _))
          revert hh
          go_simp
        refine owed_cons (fun vs u hS hD N => ?_) ?_
        · have d11 := hD 11 (by decide)
          simp only [fact, layAt, depOn, dstOf, List.map_cons, List.map_nil, List.foldl_cons, List.foldl_nil, List.getD_cons_zero, List.getD_cons_succ, List.getElem?_cons_zero, List.getElem?_cons_succ, Option.bind_some] at d11
          have d12 := hD 12 (by decide)
          simp only [fact, layAt, depOn, dstOf, List.map_cons, List.map_nil, List.foldl_cons, List.foldl_nil, List.getD_cons_zero, List.getD_cons_succ, List.getElem?_cons_zero, List.getElem?_cons_succ, Option.bind_some] at d12
          clear hD
          intro hN
          simp only [fact, layAt, depOn, dstOf, List.map_cons, List.map_nil, List.foldl_cons, List.foldl_nil, List.getD_cons_zero, List.getD_cons_succ, List.getElem?_cons_zero, List.getElem?_cons_succ, Option.bind_some, d11, d12] at hN ⊢
          go_simp
          have hh := hN _ _ rfl (.inl (Below.refl _ _))
          revert hh
          go_simp
        refine owed_cons (fun vs u hS hD N => ?_) ?_
        · have d11 := hD 11 (by decide)
          simp only [fact, layAt, depOn, dstOf, List.map_cons, List.map_nil, List.foldl_cons, List.foldl_nil, List.getD_cons_zero, List.getD_cons_succ, List.getElem?_cons_zero, List.getElem?_cons_succ, Option.bind_some] at d11
          clear hD
          intro hN
          simp only [fact, layAt, depOn, dstOf, List.map_cons, List.map_nil, List.foldl_cons, List.foldl_nil, List.getD_cons_zero, List.getD_cons_succ, List.getElem?_cons_zero, List.getElem?_cons_succ, Option.bind_some, d11] at hN ⊢
          go_simp
          have hh := hN _ _ rfl (.inl (Below.refl _ _))
          revert hh
          go_simp
        refine owed_cons (fun vs u hS hD N => ?_) ?_
        · have d11 := hD 11 (by decide)
          simp only [fact, layAt, depOn, dstOf, List.map_cons, List.map_nil, List.foldl_cons, List.foldl_nil, List.getD_cons_zero, List.getD_cons_succ, List.getElem?_cons_zero, List.getElem?_cons_succ, Option.bind_some] at d11
          have d14 := hD 14 (by decide)
          simp only [fact, layAt, depOn, dstOf, List.map_cons, List.map_nil, List.foldl_cons, List.foldl_nil, List.getD_cons_zero, List.getD_cons_succ, List.getElem?_cons_zero, List.getElem?_cons_succ, Option.bind_some] at d14
          clear hD
          intro hN
          simp only [fact, layAt, depOn, dstOf, List.map_cons, List.map_nil, List.foldl_cons, List.foldl_nil, List.getD_cons_zero, List.getD_cons_succ, List.getElem?_cons_zero, List.getElem?_cons_succ, Option.bind_some, d11, d14] at hN ⊢
          go_simp
          have hh := hN _ _ rfl (.inl (Below.refl _ _))
          revert hh
          go_simp
        refine owed_cons (fun vs u hS hD N => ?_) ?_
        · have d11 := hD 11 (by decide)
          simp only [fact, layAt, depOn, dstOf, List.map_cons, List.map_nil, List.foldl_cons, List.foldl_nil, List.getD_cons_zero, List.getD_cons_succ, List.getElem?_cons_zero, List.getElem?_cons_succ, Option.bind_some] at d11
          have d15 := hD 15 (by decide)
          simp only [fact, layAt, depOn, dstOf, List.map_cons, List.map_nil, List.foldl_cons, List.foldl_nil, List.getD_cons_zero, List.getD_cons_succ, List.getElem?_cons_zero, List.getElem?_cons_succ, Option.bind_some] at d15
          clear hD
          intro hN
          simp only [fact, layAt, depOn, dstOf, List.map_cons, List.map_nil, List.foldl_cons, List.foldl_nil, List.getD_cons_zero, List.getD_cons_succ, List.getElem?_cons_zero, List.getElem?_cons_succ, Option.bind_some, d11, d15] at hN ⊢
          go_simp
          have hh := hN _ _ rfl (.inl (Below.refl _ _))
          revert hh
          go_simp
        refine owed_cons (fun vs u hS hD N => ?_) ?_
        · have d11 := hD 11 (by decide)
          simp only [fact, layAt, depOn, dstOf, List.map_cons, List.map_nil, List.foldl_cons, List.foldl_nil, List.getD_cons_zero, List.getD_cons_succ, List.getElem?_cons_zero, List.getElem?_cons_succ, Option.bind_some] at d11
          have d13 := hD 13 (by decide)
          simp only [fact, layAt, depOn, dstOf, List.map_cons, List.map_nil, List.foldl_cons, List.foldl_nil, List.getD_cons_zero, List.getD_cons_succ, List.getElem?_cons_zero, List.getElem?_cons_succ, Option.bind_some] at d13
          have d16 := hD 16 (by decide)
          simp only [fact, layAt, depOn, dstOf, List.map_cons, List.map_nil, List.foldl_cons, List.foldl_nil, List.getD_cons_zero, List.getD_cons_succ, List.getElem?_cons_zero, List.getElem?_cons_succ, Option.bind_some] at d16
          clear hD
          intro hN
          simp only [fact, layAt, depOn, dstOf, List.map_cons, List.map_nil, List.foldl_cons, List.foldl_nil, List.getD_cons_zero, List.getD_cons_succ, List.getElem?_cons_zero, List.getElem?_cons_succ, Option.bind_some, d11, d13, d16] at hN ⊢
          go_simp
          have hh := hN _ _ rfl (.inl (Below.refl _ _))
          revert hh
          go_simp
        refine owed_cons (fun vs u hS hD N => ?_) ?_
        · have d11 := hD 11 (by decide)
          simp only [fact, layAt, depOn, dstOf, List.map_cons, List.map_nil, List.foldl_cons, List.foldl_nil, List.getD_cons_zero, List.getD_cons_succ, List.getElem?_cons_zero, List.getElem?_cons_succ, Option.bind_some] at d11
          have d17 := hD 17 (by decide)
          simp only [fact, layAt, depOn, dstOf, List.map_cons, List.map_nil, List.foldl_cons, List.foldl_nil, List.getD_cons_zero, List.getD_cons_succ, List.getElem?_cons_zero, List.getElem?_cons_succ, Option.bind_some] at d17
          clear hD
          intro hN
          simp only [fact, layAt, depOn, dstOf, List.map_cons, List.map_nil, List.foldl_cons, List.foldl_nil, List.getD_cons_zero, List.getD_cons_succ, List.getElem?_cons_zero, List.getElem?_cons_succ, Option.bind_some, d11, d17] at hN ⊢
          go_simp
          have hh := hN _ _ rfl (.inl (Below.refl _ _))
          revert hh
          go_simp
        refine owed_cons (fun vs u hS hD N => ?_) ?_
        · have d18 := hD 18 (by decide)
          simp only [fact, layAt, depOn, dstOf, List.map_cons, List.map_nil, List.foldl_cons, List.foldl_nil, List.getD_cons_zero, List.getD_cons_succ, List.getElem?_cons_zero, List.getElem?_cons_succ, Option.bind_some] at d18
          clear hD
          intro hN
          simp only [fact, layAt, depOn, dstOf, List.map_cons, List.map_nil, List.foldl_cons, List.foldl_nil, List.getD_cons_zero, List.getD_cons_succ, List.getElem?_cons_zero, List.getElem?_cons_succ, Option.bind_some, d18] at hN ⊢
          go_simp
          have hh := hN _ _ rfl (.inl (Below.refl _ _))
          revert hh
          go_simp
        refine owed_cons (fun vs u hS hD N => ?_) ?_
        · have d19 := hD 19 (by decide)
          simp only [fact, layAt, depOn, dstOf, List.map_cons, List.map_nil, List.foldl_cons, List.foldl_nil, List.getD_cons_zero, List.getD_cons_succ, List.getElem?_cons_zero, List.getElem?_cons_succ, Option.bind_some] at d19
          clear hD
          intro hN
          simp only [fact, layAt, depOn, dstOf, List.map_cons, List.map_nil, List.foldl_cons, List.foldl_nil, List.getD_cons_zero, List.getD_cons_succ, List.getElem?_cons_zero, List.getElem?_cons_succ, Option.bind_some, d19] at hN ⊢
          go_simp
          have hh := hN _ _ rfl (.inl (Below.refl _ _))
          revert hh
          go_simp
        refine owed_cons (fun vs u hS hD N => ?_) ?_
        · have d19 := hD 19 (by decide)
          simp only [fact, layAt, depOn, dstOf, List.map_cons, List.map_nil, List.foldl_cons, List.foldl_nil, List.getD_cons_zero, List.getD_cons_succ, List.getElem?_cons_zero, List.getElem?_cons_succ, Option.bind_some] at d19
          have d20 := hD 20 (by decide)
          simp only [fact, layAt, depOn, dstOf, List.map_cons, List.map_nil, List.foldl_cons, List.foldl_nil, List.getD_cons_zero, List.getD_cons_succ, List.getElem?_cons_zero, List.getElem?_cons_succ, Option.bind_some] at d20
          clear hD
          intro hN
          simp only [fact, layAt, depOn, dstOf, List.map_cons, List.map_nil, List.foldl_cons, List.foldl_nil, List.getD_cons_zero, List.getD_cons_succ, List.getElem?_cons_zero, List.getElem?_cons_succ, Option.bind_some, d19, d20] at hN ⊢
          go_simp
          have hh := hN _ _ rfl (.inl (Below.refl _ _))
          revert hh
          go_simp
        refine owed_cons (fun vs u hS hD N => ?_) ?_
        · have d19 := hD 19 (by decide)
          simp only [fact, layAt, depOn, dstOf, List.map_cons, List.map_nil, List.foldl_cons, List.foldl_nil, List.getD_cons_zero, List.getD_cons_succ, List.getElem?_cons_zero, List.getElem?_cons_succ, Option.bind_some] at d19
          have d21 := hD 21 (by decide)
          simp only [fact, layAt, depOn, dstOf, List.map_cons, List.map_nil, List.foldl_cons, List.foldl_nil, List.getD_cons_zero, List.getD_cons_succ, List.getElem?_cons_zero, List.getElem?_cons_succ, Option.bind_some] at d21
          clear hD
          intro hN
          simp only [fact, layAt, depOn, dstOf, List.map_cons, List.map_nil, List.foldl_cons, List.foldl_nil, List.getD_cons_zero, List.getD_cons_succ, List.getElem?_cons_zero, List.getElem?_cons_succ, Option.bind_some, d19, d21] at hN ⊢
          go_simp
          have hh := hN _ _ rfl (.inl (Below.refl _ _))
          revert hh
          go_simp
        refine owed_cons (fun vs u hS hD N => ?_) ?_
        · have d22 := hD 22 (by decide)
          simp only [fact, layAt, depOn, dstOf, List.map_cons, List.map_nil, List.foldl_cons, List.foldl_nil, List.getD_cons_zero, List.getD_cons_succ, List.getElem?_cons_zero, List.getElem?_cons_succ, Option.bind_some] at d22
          clear hD
          intro hN
          simp only [fact, layAt, depOn, dstOf, List.map_cons, List.map_nil, List.foldl_cons, List.foldl_nil, List.getD_cons_zero, List.getD_cons_succ, List.getElem?_cons_zero, List.getElem?_cons_succ, Option.bind_some, d22] at hN ⊢
          go_simp
          have hh := hN _ _ rfl (.inl (Below.refl _ _))
          revert hh
          go_simp
        refine owed_cons (fun vs u hS hD N => ?_) ?_
        · have d22 := hD 22 (by decide)
          simp only [fact, layAt, depOn, dstOf, List.map_cons, List.map_nil, List.foldl_cons, List.foldl_nil, List.getD_cons_zero, List.getD_cons_succ, List.getElem?_cons_zero, List.getElem?_cons_succ, Option.bind_some] at d22
          have d23 := hD 23 (by decide)
          simp only [fact, layAt, depOn, dstOf, List.map_cons, List.map_nil, List.foldl_cons, List.foldl_nil, List.getD_cons_zero, List.getD_cons_succ, List.getElem?_cons_zero, List.getElem?_cons_succ, Option.bind_some] at d23
          clear hD
          intro hN
          simp only [fact, layAt, depOn, dstOf, List.map_cons, List.map_nil, List.foldl_cons, List.foldl_nil, List.getD_cons_zero, List.getD_cons_succ, List.getElem?_cons_zero, List.getElem?_cons_succ, Option.bind_some, d22, d23] at hN ⊢
          go_simp
          have hh := hN _ _ rfl (.inl (Below.refl _ _))
          revert hh
          go_simp
        refine owed_cons (fun vs u hS hD N => ?_) ?_
        · have d22 := hD 22 (by decide)
          simp only [fact, layAt, depOn, dstOf, List.map_cons, List.map_nil, List.foldl_cons, List.foldl_nil, List.getD_cons_zero, List.getD_cons_succ, List.getElem?_cons_zero, List.getElem?_cons_succ, Option.bind_some] at d22
          clear hD
          intro hN
          simp only [fact, layAt, depOn, dstOf, List.map_cons, List.map_nil, List.foldl_cons, List.foldl_nil, List.getD_cons_zero, List.getD_cons_succ, List.getElem?_cons_zero, List.getElem?_cons_succ, Option.bind_some, d22] at hN ⊢
          go_simp
          have hh := hN _ _ rfl (.inl (Below.refl _ _))
          revert hh
          go_simp
        refine owed_cons (fun vs u hS hD N => ?_) ?_
        · have d22 := hD 22 (by decide)
          simp only [fact, layAt, depOn, dstOf, List.map_cons, List.map_nil, List.foldl_cons, List.foldl_nil, List.getD_cons_zero, List.getD_cons_succ, List.getElem?_cons_zero, List.getElem?_cons_succ, Option.bind_some] at d22
          have d25 := hD 25 (by decide)
          simp only [fact, layAt, depOn, dstOf, List.map_cons, List.map_nil, List.foldl_cons, List.foldl_nil, List.getD_cons_zero, List.getD_cons_succ, List.getElem?_cons_zero, List.getElem?_cons_succ, Option.bind_some] at d25
          clear hD
          intro hN
          simp only [fact, layAt, depOn, dstOf, List.map_cons, List.map_nil, List.foldl_cons, List.foldl_nil, List.getD_cons_zero, List.getD_cons_succ, List.getElem?_cons_zero, List.getElem?_cons_succ, Option.bind_some, d22, d25] at hN ⊢
          go_simp
          have hh := hN _ _ rfl (.inl (Below.refl _ _))
          revert hh
          go_simp
        refine owed_cons (fun vs u hS hD N => ?_) ?_
        · have d22 := hD 22 (by decide)
          simp only [fact, layAt, depOn, dstOf, List.map_cons, List.map_nil, List.foldl_cons, List.foldl_nil, List.getD_cons_zero, List.getD_cons_succ, List.getElem?_cons_zero, List.getElem?_cons_succ, Option.bind_some] at d22
          have d24 := hD 24 (by decide)
          simp only [fact, layAt, depOn, dstOf, List.map_cons, List.map_nil, List.foldl_cons, List.foldl_nil, List.getD_cons_zero, List.getD_cons_succ, List.getElem?_cons_zero, List.getElem?_cons_succ, Option.bind_some] at d24
          have d26 := hD 26 (by decide)
          simp only [fact, layAt, depOn, dstOf, List.map_cons, List.map_nil, List.foldl_cons, List.foldl_nil, List.getD_cons_zero, List.getD_cons_succ, List.getElem?_cons_zero, List.getElem?_cons_succ, Option.bind_some] at d26
          clear hD
          intro hN
          simp only [fact, layAt, depOn, dstOf, List.map_cons, List.map_nil, List.foldl_cons, List.foldl_nil, List.getD_cons_zero, List.getD_cons_succ, List.getElem?_cons_zero, List.getElem?_cons_succ, Option.bind_some, d22, d24, d26] at hN ⊢
          go_simp
          have hh := hN _ _ rfl (.inl (Below.refl _ _))
          revert hh
          go_simp
        refine owed_cons (fun vs u hS hD N => ?_) ?_
        · have d22 := hD 22 (by decide)
          simp only [fact, layAt, depOn, dstOf, List.map_cons, List.map_nil, List.foldl_cons, List.foldl_nil, List.getD_cons_zero, List.getD_cons_succ, List.getElem?_cons_zero, List.getElem?_cons_succ, Option.bind_some] at d22
          clear hD
          intro hN
          simp only [fact, layAt, depOn, dstOf, List.map_cons, List.map_nil, List.foldl_cons, List.foldl_nil, List.getD_cons_zero, List.getD_cons_succ, List.getElem?_cons_zero, List.getElem?_cons_succ, Option.bind_some, d22] at hN ⊢
          go_simp
          have hh := hN _ _ rfl (.inl (Below.refl _ _))
          revert hh
          go_simp
        refine owed_cons (fun vs u hS hD N => ?_) ?_
        · have d22 := hD 22 (by decide)
          simp only [fact, layAt, depOn, dstOf, List.map_cons, List.map_nil, List.foldl_cons, List.foldl_nil, List.getD_cons_zero, List.getD_cons_succ, List.getElem?_cons_zero, List.getElem?_cons_succ, Option.bind_some] at d22
          clear hD
          intro hN
          simp only [fact, layAt, depOn, dstOf, List.map_cons, List.map_nil, List.foldl_cons, List.foldl_nil, List.getD_cons_zero, List.getD_cons_succ, List.getElem?_cons_zero, List.getElem?_cons_succ, Option.bind_some, d22] at hN ⊢
          go_simp
          have hh := hN _ _ rfl (.inl (Below.refl _ _))
          revert hh
          go_simp
        refine owed_cons (fun vs u hS hD N => ?_) ?_
        · have d22 := hD 22 (by decide)
          simp only [fact, layAt, depOn, dstOf, List.map_cons, List.map_nil, List.foldl_cons, List.foldl_nil, List.getD_cons_zero, List.getD_cons_succ, List.getElem?_cons_zero, List.getElem?_cons_succ, Option.bind_some] at d22
          have d28 := hD 28 (by decide)
          simp only [fact, layAt, depOn, dstOf, List.map_cons, List.map_nil, List.foldl_cons, List.foldl_nil, List.getD_cons_zero, List.getD_cons_succ, List.getElem?_cons_zero, List.getElem?_cons_succ, Option.bind_some] at d28
          have d29 := hD 29 (by decide)
          simp only [fact, layAt, depOn, dstOf, List.map_cons, List.map_nil, List.foldl_cons, List.foldl_nil, List.getD_cons_zero, List.getD_cons_succ, List.getElem?_cons_zero, List.getElem?_cons_succ, Option.bind_some] at d29
          clear hD
          intro hN
          simp only [fact, layAt, depOn, dstOf, List.map_cons, List.map_nil, List.foldl_cons, List.foldl_nil, List.getD_cons_zero, List.getD_cons_succ, List.getElem?_cons_zero, List.getElem?_cons_succ, Option.bind_some, d22, d28, d29] at hN ⊢
          go_simp
          have hh := hN _ _ rfl (.inl (Below.refl _ _))
          revert hh
          go_simp
        refine owed_cons (fun vs u hS hD N => ?_) ?_
        · have d22 := hD 22 (by decide)
          simp only [fact, layAt, depOn, dstOf, List.map_cons, List.map_nil, List.foldl_cons, List.foldl_nil, List.getD_cons_zero, List.getD_cons_succ, List.getElem?_cons_zero, List.getElem?_cons_succ, Option.bind_some] at d22
          have d27 := hD 27 (by decide)
          simp only [fact, layAt, depOn, dstOf, List.map_cons, List.map_nil, List.foldl_cons, List.foldl_nil, List.getD_cons_zero, List.getD_cons_succ, List.getElem?_cons_zero, List.getElem?_cons_succ, Option.bind_some] at d27
          have d30 := hD 30 (by decide)
          simp only [fact, layAt, depOn, dstOf, List.map_cons, List.map_nil, List.foldl_cons, List.foldl_nil, List.getD_cons_zero, List.getD_cons_succ, List.getElem?_cons_zero, List.getElem?_cons_succ, Option.bind_some] at d30
          clear hD
          intro hN
          simp only [fact, layAt, depOn, dstOf, List.map_cons, List.map_nil, List.foldl_cons, List.foldl_nil, List.getD_cons_zero, List.getD_cons_succ, List.getElem?_cons_zero, List.getElem?_cons_succ, Option.bind_some, d22, d27, d30] at hN ⊢
          go_simp
          have hh := hN _ _ rfl (.inl (Below.refl _ _))
          revert hh
          go_simp
        refine owed_cons (fun vs u hS hD N => ?_) ?_
        · have d19 := hD 19 (by decide)
          simp only [fact, layAt, depOn, dstOf, List.map_cons, List.map_nil, List.foldl_cons, List.foldl_nil, List.getD_cons_zero, List.getD_cons_succ, List.getElem?_cons_zero, List.getElem?_cons_succ, Option.bind_some] at d19
          have d22 := hD 22 (by decide)
          simp only [fact, layAt, depOn, dstOf, List.map_cons, List.map_nil, List.foldl_cons, List.foldl_nil, List.getD_cons_zero, List.getD_cons_succ, List.getElem?_cons_zero, List.getElem?_cons_succ, Option.bind_some] at d22
          have d31 := hD 31 (by decide)
          simp only [fact, layAt, depOn, dstOf, List.map_cons, List.map_nil, List.foldl_cons, List.foldl_nil, List.getD_cons_zero, List.getD_cons_succ, List.getElem?_cons_zero, List.getElem?_cons_succ, Option.bind_some] at d31
          clear hD
          intro hN
          simp only [fact, layAt, depOn, dstOf, List.map_cons, List.map_nil, List.foldl_cons, List.foldl_nil, List.getD_cons_zero, List.getD_cons_succ, List.getElem?_cons_zero, List.getElem?_cons_succ, Option.bind_some, d19, d22, d31] at hN ⊢
          go_simp
          have hh := hN _ _ rfl (.inl (Below.refl _ _))
          revert hh
          go_simp
        refine owed_cons (fun vs u hS hD N => ?_) ?_
        · have d19 := hD 19 (by decide)
          simp only [fact, layAt, depOn, dstOf, List.map_cons, List.map_nil, List.foldl_cons, List.foldl_nil, List.getD_cons_zero, List.getD_cons_succ, List.getElem?_cons_zero, List.getElem?_cons_succ, Option.bind_some] at d19
          have d32 := hD 32 (by decide)
          simp only [fact, layAt, depOn, dstOf, List.map_cons, List.map_nil, List.foldl_cons, List.foldl_nil, List.getD_cons_zero, List.getD_cons_succ, List.getElem?_cons_zero, List.getElem?_cons_succ, Option.bind_some] at d32
          clear hD
          intro hN
          simp only [fact, layAt, depOn, dstOf, List.map_cons, List.map_nil, List.foldl_cons, List.foldl_nil, List.getD_cons_zero, List.getD_cons_succ, List.getElem?_cons_zero, List.getElem?_cons_succ, Option.bind_some, d19, d32] at hN ⊢
          go_simp
          have hh := hN _ _ rfl (.inl (Below.refl _ _))
          revert hh
          go_simp
        refine owed_cons (fun vs u hS hD N => ?_) ?_
        · have d33 := hD 33 (by decide)
          simp only [fact, layAt, depOn, dstOf, List.map_cons, List.map_nil, List.foldl_cons, List.foldl_nil, List.getD_cons_zero, List.getD_cons_succ, List.getElem?_cons_zero, List.getElem?_cons_succ, Option.bind_some] at d33
          clear hD
          intro hN
          simp only [fact, layAt, depOn, dstOf, List.map_cons, List.map_nil, List.foldl_cons, List.foldl_nil, List.getD_cons_zero, List.getD_cons_succ, List.getElem?_cons_zero, List.getElem?_cons_succ, Option.bind_some, d33] at hN ⊢
          go_simp
          have hh := hN _ _ rfl (.inl (Below.refl _ _))
          revert hh
          go_simp
        refine owed_cons (fun vs u hS hD N => ?_) ?_
        · have d34 := hD 34 (by decide)
          simp only [fact, layAt, depOn, dstOf, List.map_cons, List.map_nil, List.foldl_cons, List.foldl_nil, List.getD_cons_zero, List.getD_cons_succ, List.getElem?_cons_zero, List.getElem?_cons_succ, Option.bind_some] at d34
          clear hD
          intro hN
          simp only [fact, layAt, depOn, dstOf, List.map_cons, List.map_nil, List.foldl_cons, List.foldl_nil, List.getD_cons_zero, List.getD_cons_succ, List.getElem?_cons_zero, List.getElem?_cons_succ, Option.bind_some, d34] at hN ⊢
          go_simp
          refine (awake12_any u).mono ?_
          rintro e u1 ⟨rfl, f⟩
          have hh := hN _ _ rfl (.inl f)
          revert hh
          go_simp
        refine owed_cons (fun vs u hS hD N => ?_) ?_
        · have d34 := hD 34 (by decide)
          simp only [fact, layAt, depOn, dstOf, List.map_cons, List.map_nil, List.foldl_cons, List.foldl_nil, List.getD_cons_zero, List.getD_cons_succ, List.getElem?_cons_zero, List.getElem?_cons_succ, Option.bind_some] at d34
          have d35 := hD 35 (by decide)
          simp only [fact, layAt, depOn, dstOf, List.map_cons, List.map_nil, List.foldl_cons, List.foldl_nil, List.getD_cons_zero, List.getD_cons_succ, List.getElem?_cons_zero, List.getElem?_cons_succ, Option.bind_some] at d35
          clear hD
          intro hN
          simp only [fact, layAt, depOn, dstOf, List.map_cons, List.map_nil, List.foldl_cons, List.foldl_nil, List.getD_cons_zero, List.getD_cons_succ, List.getElem?_cons_zero, List.getElem?_cons_succ, Option.bind_some, d34, d35] at hN ⊢
          go_simp
          have hh := hN _ _ rfl (.inl (Below.refl _ _))
          revert hh
          go_simp
        refine owed_cons (fun vs u hS hD N => ?_) ?_
        · have d36 := hD 36 (by decide)
          simp only [fact, layAt, depOn, dstOf, List.map_cons, List.map_nil, List.foldl_cons, List.foldl_nil, List.getD_cons_zero, List.getD_cons_succ, List.getElem?_cons_zero, List.getElem?_cons_succ, Option.bind_some] at d36
          clear hD
          intro hN
          simp only [fact, layAt, depOn, dstOf, List.map_cons, List.map_nil, List.foldl_cons, List.foldl_nil, List.getD_cons_zero, List.getD_cons_succ, List.getElem?_cons_zero, List.getElem?_cons_succ, Option.bind_some, d36] at hN ⊢
          go_simp
          have hh := hN _ _ rfl (.inl (Below.refl _ _))
          revert hh
          go_simp
        exact owed_nil
      ·
        intro vs u hS hF
        have d37 := hF 37 (by decide) (by decide)
        simp only [fact, layAt, depOn, dstOf, List.map_cons, List.map_nil, List.foldl_cons, List.foldl_nil, List.getD_cons_zero, List.getD_cons_succ, List.getElem?_cons_zero, List.getElem?_cons_succ, Option.bind_some] at d37
        clear hF
        simp only [List.length_cons, List.length_nil, Nat.reduceAdd, List.range, List.range.loop, fact, layAt, depOn, dstOf, List.map_cons, List.map_nil, List.foldl_cons, List.foldl_nil, List.getD_cons_zero, List.getD_cons_succ, List.getElem?_cons_zero, List.getElem?_cons_succ, Option.bind_some, d37]
        go_simp
        go_wp2_with fail
        go_ret
        exact ⟨rfl, f1.trans (hS.mono f1.size)⟩
    · go_wp2_with fail
      refine (encode_yes q _ wf (HQ.out wf f1) okq hmq).mono ?_
      rintro e wq ⟨A8, c8, rfl, ox, f2⟩
      have hsb := DS.out hmq
      obtain ⟨sb, hsb2⟩ : ∃ z, decide (p = q) = z := ⟨_, rfl⟩
      rw [hsb2] at hsb
      generalize poB q = TS at *
      generalize hLS : TS.length = LS at *
      have HSQ := Lib.hid hsb; clear hsb
      have rs := ox.rd
      clear b0 b1 b2 b3 b4
      have lka := ka.lt
      have lkb := kb.lt
      have lku := ku.lt
      replace ka := ka.below f2 lka
      replace kb := kb.below f2 lkb
      replace ku := ku.below f2 lku
      replace ow := ow.below (Nat.le_refl _) f2
      replace f1 := f1.trans (f2.mono f1.size)
      replace fX := fX.trans (f2.mono fX.size)
      have rb := ow.rd
      clear f2 DS ow ox
      have C1 := fun (u : World) (hu : Below wq.heap.size wq u) => same12_any p p _ _ u (HX.out u (fX.trans (hu.mono fX.size))) (HP.out u (f1.trans (hu.mono f1.size))) okp okp
      rw [decide_eq_true (rfl : p = p)] at C1
      have C2 := fun (u : World) (hu : Below wq.heap.size wq u) => same12_any p q _ _ u (HP.out u (f1.trans (hu.mono f1.size))) (HQ.out u (f1.trans (hu.mono f1.size))) okp okq
      rw [hsb2] at C2
      have EE : ∀ u, Below wq.heap.size wq u → CsS [(⟨w.heap.size, 0, none⟩, .int .u64 p0), (⟨w.heap.size, 1, none⟩, .string p1), (⟨w.heap.size, 2, none⟩, .int .u64 p2), (⟨w.heap.size, 3, none⟩, .int .i64 p3), (⟨w.heap.size, 4, none⟩, .slice p4 p5 p6), (⟨(w.heap.size + 1), 0, none⟩, .int .u64 q0), (⟨(w.heap.size + 1), 1, none⟩, .string q1), (⟨(w.heap.size + 1), 2, none⟩, .int .u64 q2), (⟨(w.heap.size + 1), 3, none⟩, .int .i64 q3), (⟨(w.heap.size + 1), 4, none⟩, .slice q4 q5 q6), (⟨gx, 0, none⟩, .int .u64 u0), (⟨gx, 1, none⟩, .string u1), (⟨gx, 2, none⟩, .int .u64 u2), (⟨gx, 3, none⟩, .int .i64 u3), (⟨gx, 4, none⟩, .slice u4 u5 u6)] u := fun u hu => CsS.below (u := wq) ⟨ka.cell 0, ka.cell 1, ka.cell 2, ka.cell 3, ka.cell 4, kb.cell 0, kb.cell 1, kb.cell 2, kb.cell 3, kb.cell 4, ku.cell 0, ku.cell 1, ku.cell 2, ku.cell 3, ku.cell 4, trivial⟩ hu
      go_upto_region 17 with fail
      refine wp_region_facts (fun u => Below wq.heap.size wq u) [
          fun v _ => v = .int .i64 0,
          fun v _ => v = .bool true,
          fun v _ => v = .bool true,
          fun v _ => v = .agg #[.int .u64 u0, .string u1, .int .u64 u2, .int .i64 u3, .slice u4 u5 u6],
          fun v _ => v = .agg #[.int .u64 p0, .string p1, .int .u64 p2, .int .i64 p3, .slice p4 p5 p6],
          fun v _ => v = .bool true,
          fun v _ => v = .bool true,
          fun v _ => v = .bool true,
          fun v _ => v = .int .i64 2,
          fun v _ => v = .bool true,
          fun v _ => v = .bool true,
          fun v _ => v = .bool true,
          fun v _ => v = .int .i64 (ex : Int),
          fun v _ => v = .bool hz,
          fun v _ => v = .slice A n c,
          fun v _ => v = .int .i64 (n : Int),
          fun v _ => v = .bool hz,
          fun v _ => v = .bool true,
          fun v _ => v = .bool true,
          fun v _ => v = .bool true,
          fun v _ => v = .int .i64 0,
          fun v _ => v = .bool false,
          fun v _ => v = .bool false,
          fun v _ => v = .slice A1 L c1,
          fun v _ => v = .string (strB TB),
          fun v _ => v = .slice A8 LS c8,
          fun v _ => v = .string (strB TS),
          fun v _ => v = .bool sb,
          fun v _ => v = .agg #[.int .u64 p0, .string p1, .int .u64 p2, .int .i64 p3, .slice p4 p5 p6],
          fun v _ => v = .agg #[.int .u64 q0, .string q1, .int .u64 q2, .int .i64 q3, .slice q4 q5 q6],
          fun v _ => v = .bool sb,
          fun v _ => v = .bool true,
          fun v _ => v = .bool true,
          fun v _ => v = .bool true,
          fun v _ => v = .bool true,
          fun v _ => v = .bool true,
          fun v _ => v = .bool true,
          fun v _ => v = .bool true] (fun u u' => Below u.heap.size u u')
          [[], [0], [1], [2], [2], [2, 3, 4], [2, 5], [6], [7], [7, 8], [7, 9], [10], [11], [11, 12], [11], [11, 14], [11, 15], [11, 13, 16], [11, 17], [18], [19], [19, 20], [19, 21], [22], [22, 23], [22], [22, 25], [22, 24, 26], [22], [22], [22, 28, 29], [22, 27, 30], [19, 22, 31], [19, 32], [33], [34], [34, 35], [36]] []
          (by kernel_rfl) (by kernel_rfl) ?_ (fun _ _ _ _ _ h => h) ((Below.refl _ _).drew) ?_ ?_
      · refine hE_of (fun u u' h f => f.trans (h.mono f.size)) ?_
        repeat' (first | exact mono_nil | refine mono_cons (fun v u u' h => ?_) ?_)
        all_goals first | exact _root_.id
      ·
        refine owed_cons (fun vs u hS hD N => ?_) ?_
        · clear hD
          intro hN
          simp only [fact, layAt, depOn, dstOf, List.map_cons, List.map_nil, List.foldl_cons, List.foldl_nil, List.getD_cons_zero, List.getD_cons_succ, List.getElem?_cons_zero, List.getElem?_cons_succ, Option.bind_some] at hN ⊢
          go_simp
          have hh := hN _ _ rfl (.inl (Below.refl _ _))
          revert hh
          go_simp
        refine owed_cons (fun vs u hS hD N => ?_) ?_
        · have d0 := hD 0 (by decide)
          simp only [fact, layAt, depOn, dstOf, List.map_cons, List.map_nil, List.foldl_cons, List.foldl_nil, List.getD_cons_zero, List.getD_cons_succ, List.getElem?_cons_zero, List.getElem?_cons_succ, Option.bind_some] at d0
          clear hD
          intro hN
          simp only [fact, layAt, depOn, dstOf, List.map_cons, List.map_nil, List.foldl_cons, List.foldl_nil, List.getD_cons_zero, List.getD_cons_succ, List.getElem?_cons_zero, List.getElem?_cons_succ, Option.bind_some, d0] at hN ⊢
          go_simp
          have hh := hN _ _ rfl (.inl (Below.refl _ _))
          revert hh
          go_simp
        refine owed_cons (fun vs u hS hD N => ?_) ?_
        · have d1 := hD 1 (by decide)
          simp only [fact, layAt, depOn, dstOf, List.map_cons, List.map_nil, List.foldl_cons, List.foldl_nil, List.getD_cons_zero, List.getD_cons_succ, List.getElem?_cons_zero, List.getElem?_cons_succ, Option.bind_some] at d1
          clear hD
          intro hN
          simp only [fact, layAt, depOn, dstOf, List.map_cons, List.map_nil, List.foldl_cons, List.foldl_nil, List.getD_cons_zero, List.getD_cons_succ, List.getElem?_cons_zero, List.getElem?_cons_succ, Option.bind_some, d1] at hN ⊢
          go_simp
          have hh := hN _ _ rfl (.inl (Below.refl _ _))
          revert hh
          go_simp
        refine owed_cons (fun vs u hS hD N => ?_) ?_
        · have d2 := hD 2 (by decide)
          simp only [fact, layAt, depOn, dstOf, List.map_cons, List.map_nil, List.foldl_cons, List.foldl_nil, List.getD_cons_zero, List.getD_cons_succ, List.getElem?_cons_zero, List.getElem?_cons_succ, Option.bind_some] at d2
          clear hD
          intro hN
          simp only [fact, layAt, depOn, dstOf, List.map_cons, List.map_nil, List.foldl_cons, List.foldl_nil, List.getD_cons_zero, List.getD_cons_succ, List.getElem?_cons_zero, List.getElem?_cons_succ, Option.bind_some, d2] at hN ⊢
          go_simp
          obtain ⟨a0, a1, a2, a3, a4, b0, b1, b2, b3, b4, x0, x1, x2, x3, x4, _⟩ := EE _ hS
          go_simp
          have hh := hN _ _ rfl (.inl (Below.refl _ _))
          revert hh
          go_simp
        refine owed_cons (fun vs u hS hD N => ?_) ?_
        · have d2 := hD 2 (by decide)
          simp only [fact, layAt, depOn, dstOf, List.map_cons, List.map_nil, List.foldl_cons, List.foldl_nil, List.getD_cons_zero, List.getD_cons_succ, List.getElem?_cons_zero, List.getElem?_cons_succ, Option.bind_some] at d2
          clear hD
          intro hN
          simp only [fact, layAt, depOn, dstOf, List.map_cons, List.map_nil, List.foldl_cons, List.foldl_nil, List.getD_cons_zero, List.getD_cons_succ, List.getElem?_cons_zero, List.getElem?_cons_succ, Option.bind_some, d2] at hN ⊢
          go_simp
          obtain ⟨a0, a1, a2, a3, a4, b0, b1, b2, b3, b4, x0, x1, x2, x3, x4, _⟩ := EE _ hS
          go_simp
          have hh := hN _ _ rfl (.inl (Below.refl _ _))
          revert hh
          go_simp
        refine owed_cons (fun vs u hS hD N => ?_) ?_
        · have d2 := hD 2 (by decide)
          simp only [fact, layAt, depOn, dstOf, List.map_cons, List.map_nil, List.foldl_cons, List.foldl_nil, List.getD_cons_zero, List.getD_cons_succ, List.getElem?_cons_zero, List.getElem?_cons_succ, Option.bind_some] at d2
          have d3 := hD 3 (by decide)
          simp only [fact, layAt, depOn, dstOf, List.map_cons, List.map_nil, List.foldl_cons, List.foldl_nil, List.getD_cons_zero, List.getD_cons_succ, List.getElem?_cons_zero, List.getElem?_cons_succ, Option.bind_some] at d3
          have d4 := hD 4 (by decide)
          simp only [fact, layAt, depOn, dstOf, List.map_cons, List.map_nil, List.foldl_cons, List.foldl_nil, List.getD_cons_zero, List.getD_cons_succ, List.getElem?_cons_zero, List.getElem?_cons_succ, Option.bind_some] at d4
          clear hD
          intro hN
          simp only [fact, layAt, depOn, dstOf, List.map_cons, List.map_nil, List.foldl_cons, List.foldl_nil, List.getD_cons_zero, List.getD_cons_succ, List.getElem?_cons_zero, List.getElem?_cons_succ, Option.bind_some, d2, d3, d4] at hN ⊢
          go_simp
          refine (C1 u hS).mono ?_
          rintro e u1 ⟨rfl, f⟩
          have hh := hN _ _ rfl (.inl f)
          revert hh
          go_simp
        refine owed_cons (fun vs u hS hD N => ?_) ?_
        · have d2 := hD 2 (by decide)
          simp only [fact, layAt, depOn, dstOf, List.map_cons, List.map_nil, List.foldl_cons, List.foldl_nil, List.getD_cons_zero, List.getD_cons_succ, List.getElem?_cons_zero, List.getElem?_cons_succ, Option.bind_some] at d2
          have d5 := hD 5 (by decide)
          simp only [fact, layAt, depOn, dstOf, List.map_cons, List.map_nil, List.foldl_cons, List.foldl_nil, List.getD_cons_zero, List.getD_cons_succ, List.getElem?_cons_zero, List.getElem?_cons_succ, Option.bind_some] at d5
          clear hD
          intro hN
          simp only [fact, layAt, depOn, dstOf, List.map_cons, List.map_nil, List.foldl_cons, List.foldl_nil, List.getD_cons_zero, List.getD_cons_succ, List.getElem?_cons_zero, List.getElem?_cons_succ, Option.bind_some, d2, d5] at hN ⊢
          go_simp
          have hh := hN _ _ rfl (.inl (Below.refl _ _))
          revert hh
          go_simp
        refine owed_cons (fun vs u hS hD N => ?_) ?_
        · have d6 := hD 6 (by decide)
          simp only [fact, layAt, depOn, dstOf, List.map_cons, List.map_nil, List.foldl_cons, List.foldl_nil, List.getD_cons_zero, List.getD_cons_succ, List.getElem?_cons_zero, List.getElem?_cons_succ, Option.bind_some] at d6
          clear hD
          intro hN
          simp only [fact, layAt, depOn, dstOf, List.map_cons, List.map_nil, List.foldl_cons, List.foldl_nil, List.getD_cons_zero, List.getD_cons_succ, List.getElem?_cons_zero, List.getElem?_cons_succ, Option.bind_some, d6] at hN ⊢
          go_simp
          have hh := hN _ _ rfl (.inl (Below.refl _ _))
          revert hh
          go_simp
        refine owed_cons (fun vs u hS hD N => ?_) ?_
        · have d7 := hD 7 (by decide)
          simp only [fact, layAt, depOn, dstOf, List.map_cons, List.map_nil, List.foldl_cons, List.foldl_nil, List.getD_cons_zero, List.getD_cons_succ, List.getElem?_cons_zero, List.getElem?_cons_succ, Option.bind_some] at d7
          clear hD
          intro hN
          simp only [fact, layAt, depOn, dstOf, List.map_cons, List.map_nil, List.foldl_cons, List.foldl_nil, List.getD_cons_zero, List.getD_cons_succ, List.getElem?_cons_zero, List.getElem?_cons_succ, Option.bind_some, d7] at hN ⊢
          go_simp
          have hh := hN _ _ rfl (.inl (Below.refl _ _))
          revert hh
          go_simp
        refine owed_cons (fun vs u hS hD N => ?_) ?_
        · have d7 := hD 7 (by decide)
          simp only [fact, layAt, depOn, dstOf, List.map_cons, List.map_nil, List.foldl_cons, List.foldl_nil, List.getD_cons_zero, List.getD_cons_succ, List.getElem?_cons_zero, List.getElem?_cons_succ, Option.bind_some] at d7
          have d8 := hD 8 (by decide)
          simp only [fact, layAt, depOn, dstOf, List.map_cons, List.map_nil, List.foldl_cons, List.foldl_nil, List.getD_cons_zero, List.getD_cons_succ, List.getElem?_cons_zero, List.getElem?_cons_succ, Option.bind_some] at d8
          clear hD
          intro hN
          simp only [fact, layAt, depOn, dstOf, List.map_cons, List.map_nil, List.foldl_cons, List.foldl_nil, List.getD_cons_zero, List.getD_cons_succ, List.getElem?_cons_zero, List.getElem?_cons_succ, Option.bind_some, d7, d8] at hN ⊢
          go_simp
          have hh := hN _ _ rfl (.inl (Below.refl _ _))
          revert hh
          go_simp
        refine owed_cons (fun vs u hS hD N => ?_) ?_
        · have d7 := hD 7 (by decide)
          simp only [fact, layAt, depOn, dstOf, List.map_cons, List.map_nil, List.foldl_cons, List.foldl_nil, List.getD_cons_zero, List.getD_cons_succ, List.getElem?_cons_zero, List.getElem?_cons_succ, Option.bind_some] at d7
          have d9 := hD 9 (by decide)
          simp only [fact, layAt, depOn, dstOf, List.map_cons, List.map_nil, List.foldl_cons, List.foldl_nil, List.getD_cons_zero, List.getD_cons_succ, List.getElem?_cons_zero, List.getElem?_cons_succ, Option.bind_some] at d9
          clear hD
          intro hN
          simp only [fact, layAt, depOn, dstOf, List.map_cons, List.map_nil, List.foldl_cons, List.foldl_nil, List.getD_cons_zero, List.getD_cons_succ, List.getElem?_cons_zero, List.getElem?_cons_succ, Option.bind_some, d7, d9] at hN ⊢
          go_simp
          have hh := hN _ _ rfl (.inl (Below.refl _ _))
          revert hh
          go_simp
        refine owed_cons (fun vs u hS hD N => ?_) ?_
        · have d10 := hD 10 (by decide)
          simp only [fact, layAt, depOn, dstOf, List.map_cons, List.map_nil, List.foldl_cons, List.foldl_nil, List.getD_cons_zero, List.getD_cons_succ, List.getElem?_cons_zero, List.getElem?_cons_succ, Option.bind_some] at d10
          clear hD
          intro hN
          simp only [fact, layAt, depOn, dstOf, List.map_cons, List.map_nil, List.foldl_cons, List.foldl_nil, List.getD_cons_zero, List.getD_cons_succ, List.getElem?_cons_zero, List.getElem?_cons_succ, Option.bind_some, d10] at hN ⊢
          go_simp
          have hh := hN _ _ rfl (.inl (Below.refl _ _))
          revert hh
          go_simp
        refine owed_cons (fun vs u hS hD N => ?_) ?_
        · have d11 := hD 11 (by decide)
          simp only [fact, layAt, depOn, dstOf, List.map_cons, List.map_nil, List.foldl_cons, List.foldl_nil, List.getD_cons_zero, List.getD_cons_succ, List.getElem?_cons_zero, List.getElem?_cons_succ, Option.bind_some] at d11
          clear hD
          intro hN
          simp only [fact, layAt, depOn, dstOf, List.map_cons, List.map_nil, List.foldl_cons, List.foldl_nil, List.getD_cons_zero, List.getD_cons_succ, List.getElem?_cons_zero, List.getElem?_cons_succ, Option.bind_some, d11] at hN ⊢
          go_simp
          have hh := hN _ _ rfl (.inl (Below.refl _ _))
          revert hh
          go_simp
        refine owed_cons (fun vs u hS hD N => ?_) ?_
        · have d11 := hD 11 (by decide)
          simp only [fact, layAt, depOn, dstOf, List.map_cons, List.map_nil, List.foldl_cons, List.foldl_nil, List.getD_cons_zero, List.getD_cons_succ, List.getElem?_cons_zero, List.getElem?_cons_succ, Option.bind_some] at d11
          have d12 := hD 12 (by decide)
          simp only [fact, layAt, depOn, dstOf, List.map_cons, List.map_nil, List.foldl_cons, List.foldl_nil, List.getD_cons_zero, List.getD_cons_succ, List.getElem?_cons_zero, List.getElem?_cons_succ, Option.bind_some] at d12
          clear hD
          intro hN
          simp only [fact, layAt, depOn, dstOf, List.map_cons, List.map_nil, List.foldl_cons, List.foldl_nil, List.getD_cons_zero, List.getD_cons_succ, List.getElem?_cons_zero, List.getElem?_cons_succ, Option.bind_some, d11, d12] at hN ⊢
          go_simp
          have hh := hN _ _ rfl (.inl (Below.refl _ _))
          revert hh
          go_simp
        refine owed_cons (fun vs u hS hD N => ?_) ?_
        · have d11 := hD 11 (by decide)
          simp only [fact, layAt, depOn, dstOf, List.map_cons, List.map_nil, List.foldl_cons, List.foldl_nil, List.getD_cons_zero, List.getD_cons_succ, List.getElem?_cons_zero, List.getElem?_cons_succ, Option.bind_some] at d11
          clear hD
          intro hN
          simp only [fact, layAt, depOn, dstOf, List.map_cons, List.map_nil, List.foldl_cons, List.foldl_nil, List.getD_cons_zero, List.getD_cons_succ, List.getElem?_cons_zero, List.getElem?_cons_succ, Option.bind_some, d11] at hN ⊢
          go_simp
          have hh := hN _ _ rfl (.inl (Below.refl _ _))
          revert hh
          go_simp
        refine owed_cons (fun vs u hS hD N => ?_) ?_
        · have d11 := hD 11 (by decide)
          simp only [fact, layAt, depOn, dstOf, List.map_cons, List.map_nil, List.foldl_cons, List.foldl_nil, List.getD_cons_zero, List.getD_cons_succ, List.getElem?_cons_zero, List.getElem?_cons_succ, Option.bind_some] at d11
          have d14 := hD 14 (by decide)
          simp only [fact, layAt, depOn, dstOf, List.map_cons, List.map_nil, List.foldl_cons, List.foldl_nil, List.getD_cons_zero, List.getD_cons_succ, List.getElem?_cons_zero, List.getElem?_cons_succ, Option.bind_some] at d14
          clear hD
          intro hN
          simp only [fact, layAt, depOn, dstOf, List.map_cons, List.map_nil, List.foldl_cons, List.foldl_nil, List.getD_cons_zero, List.getD_cons_succ, List.getElem?_cons_zero, List.getElem?_cons_succ, Option.bind_some, d11, d14] at hN ⊢
          go_simp
          have hh := hN _ _ rfl (.inl (Below.refl _ _))
          revert hh
          go_simp
        refine owed_cons (fun vs u hS hD N => ?_) ?_
        · have d11 := hD 11 (by decide)
          simp only [fact, layAt, depOn, dstOf, List.map_cons, List.map_nil, List.foldl_cons, List.foldl_nil, List.getD_cons_zero, List.getD_cons_succ, List.getElem?_cons_zero, List.getElem?_cons_succ, Option.bind_some] at d11
          have d15 := hD 15 (by decide)
          simp only [fact, layAt, depOn, dstOf, List.map_cons, List.map_nil, List.foldl_cons, List.foldl_nil, List.getD_cons_zero, List.getD_cons_succ, List.getElem?_cons_zero, List.getElem?_cons_succ, Option.bind_some] at d15
          clear hD
          intro hN
          simp only [fact, layAt, depOn, dstOf, List.map_cons, List.map_nil, List.foldl_cons, List.foldl_nil, List.getD_cons_zero, List.getD_cons_succ, List.getElem?_cons_zero, List.getElem?_cons_succ, Option.bind_some, d11, d15] at hN ⊢
          go_simp
          have hh := hN _ _ rfl (.inl (Below.refl _ _))
          revert hh
          go_simp
        refine owed_cons (fun vs u hS hD N => ?_) ?_
        · have d11 := hD 11 (by decide)
          simp only [fact, layAt, depOn, dstOf, List.map_cons, List.map_nil, List.foldl_cons, List.foldl_nil, List.getD_cons_zero, List.getD_cons_succ, List.getElem?_cons_zero, List.getElem?_cons_succ, Option.bind_some] at d11
          have d13 := hD 13 (by decide)
          simp only [fact, layAt, depOn, dstOf, List.map_cons, List.map_nil, List.foldl_cons, List.foldl_nil, List.getD_cons_zero, List.getD_cons_succ, List.getElem?_cons_zero, List.getElem?_cons_succ, Option.bind_some] at d13
          have d16 := hD 16 (by decide)
          simp only [fact, layAt, depOn, dstOf, List.map_cons, List.map_nil, List.foldl_cons, List.foldl_nil, List.getD_cons_zero, List.getD_cons_succ, List.getElem?_cons_zero, List.getElem?_cons_succ, Option.bind_some] at d16
          clear hD
          intro hN
          simp only [fact, layAt, depOn, dstOf, List.map_cons, List.map_nil, List.foldl_cons, List.foldl_nil, List.getD_cons_zero, List.getD_cons_succ, List.getElem?_cons_zero, List.getElem?_cons_succ, Option.bind_some, d11, d13, d16] at hN ⊢
          go_simp
          have hh := hN _ _ rfl (.inl (Below.refl _ _))
          revert hh
          go_simp
        refine owed_cons (fun vs u hS hD N => ?_) ?_
        · have d11 := hD 11 (by decide)
          simp only [fact, layAt, depOn, dstOf, List.map_cons, List.map_nil, List.foldl_cons, List.foldl_nil, List.getD_cons_zero, List.getD_cons_succ, List.getElem?_cons_zero, List.getElem?_cons_succ, Option.bind_some] at d11
          have d17 := hD 17 (by decide)
          simp only [fact, layAt, depOn, dstOf, List.map_cons, List.map_nil, List.foldl_cons, List.foldl_nil, List.getD_cons_zero, List.getD_cons_succ, List.getElem?_cons_zero, List.getElem?_cons_succ, Option.bind_some] at d17
          clear hD
          intro hN
          simp only [fact, layAt, depOn, dstOf, List.map_cons, List.map_nil, List.foldl_cons, List.foldl_nil, List.getD_cons_zero, List.getD_cons_succ, List.getElem?_cons_zero, List.getElem?_cons_succ, Option.bind_some, d11, d17] at hN ⊢
          go_simp
          have hh := hN _ _ rfl (.inl (Below.refl _ _))
          revert hh
          go_simp
        refine owed_cons (fun vs u hS hD N => ?_) ?_
        · have d18 := hD 18 (by decide)
          simp only [fact, layAt, depOn, dstOf, List.map_cons, List.map_nil, List.foldl_cons, List.foldl_nil, List.getD_cons_zero, List.getD_cons_succ, List.getElem?_cons_zero, List.getElem?_cons_succ, Option.bind_some] at d18
          clear hD
          intro hN
          simp only [fact, layAt, depOn, dstOf, List.map_cons, List.map_nil, List.foldl_cons, List.foldl_nil, List.getD_cons_zero, List.getD_cons_succ, List.getElem?_cons_zero, List.getElem?_cons_succ, Option.bind_some, d18] at hN ⊢
          go_simp
          have hh := hN _ _ rfl (.inl (Below.refl _ _))
          revert hh
          go_simp
        refine owed_cons (fun vs u hS hD N => ?_) ?_
        · have d19 := hD 19 (by decide)
          simp only [fact, layAt, depOn, dstOf, List.map_cons, List.map_nil, List.foldl_cons, List.foldl_nil, List.getD_cons_zero, List.getD_cons_succ, List.getElem?_cons_zero, List.getElem?_cons_succ, Option.bind_some] at d19
          clear hD
          intro hN
          simp only [fact, layAt, depOn, dstOf, List.map_cons, List.map_nil, List.foldl_cons, List.foldl_nil, List.getD_cons_zero, List.getD_cons_succ, List.getElem?_cons_zero, List.getElem?_cons_succ, Option.bind_some, d19] at hN ⊢
          go_simp
          have hh := hN _ _ rfl (.inl (Below.refl _ _))
          revert hh
          go_simp
        refine owed_cons (fun vs u hS hD N => ?_) ?_
        · have d19 := hD 19 (by decide)
          simp only [fact, layAt, depOn, dstOf, List.map_cons, List.map_nil, List.foldl_cons, List.foldl_nil, List.getD_cons_zero, List.getD_cons_succ, List.getElem?_cons_zero, List.getElem?_cons_succ, Option.bind_some] at d19
          have d20 := hD 20 (by decide)
          simp only [fact, layAt, depOn, dstOf, List.map_cons, List.map_nil, List.foldl_cons, List.foldl_nil, List.getD_cons_zero, List.getD_cons_succ, List.getElem?_cons_zero, List.getElem?_cons_succ, Option.bind_some] at d20
          clear hD
          intro hN
          simp only [fact, layAt, depOn, dstOf, List.map_cons, List.map_nil, List.foldl_cons, List.foldl_nil, List.getD_cons_zero, List.getD_cons_succ, List.getElem?_cons_zero, List.getElem?_cons_succ, Option.bind_some, d19, d20] at hN ⊢
          go_simp
          have hh := hN _ _ rfl (.inl (Below.refl _ _))
          revert hh
          go_simp
        refine owed_cons (fun vs u hS hD N => ?_) ?_
        · have d19 := hD 19 (by decide)
          simp only [fact, layAt, depOn, dstOf, List.map_cons, List.map_nil, List.foldl_cons, List.foldl_nil, List.getD_cons_zero, List.getD_cons_succ, List.getElem?_cons_zero, List.getElem?_cons_succ, Option.bind_some] at d19
          have d21 := hD 21 (by decide)
          simp only [fact, layAt, depOn, dstOf, List.map_cons, List.map_nil, List.foldl_cons, List.foldl_nil, List.getD_cons_zero, List.getD_cons_succ, List.getElem?_cons_zero, List.getElem?_cons_succ, Option.bind_some] at d21
          clear hD
          intro hN
          simp only [fact, layAt, depOn, dstOf, List.map_cons, List.map_nil, List.foldl_cons, List.foldl_nil, List.getD_cons_zero, List.getD_cons_succ, List.getElem?_cons_zero, List.getElem?_cons_succ, Option.bind_some, d19, d21] at hN ⊢
          go_simp
          have hh := hN _ _ rfl (.inl (Below.refl _ _))
          revert hh
          go_simp
        refine owed_cons (fun vs u hS hD N => ?_) ?_
        · have d22 := hD 22 (by decide)
          simp only [fact, layAt, depOn, dstOf, List.map_cons, List.map_nil, List.foldl_cons, List.foldl_nil, List.getD_cons_zero, List.getD_cons_succ, List.getElem?_cons_zero, List.getElem?_cons_succ, Option.bind_some] at d22
          clear hD
          intro hN
          simp only [fact, layAt, depOn, dstOf, List.map_cons, List.map_nil, List.foldl_cons, List.foldl_nil, List.getD_cons_zero, List.getD_cons_succ, List.getElem?_cons_zero, List.getElem?_cons_succ, Option.bind_some, d22] at hN ⊢
          go_simp
          have hh := hN _ _ rfl (.inl (Below.refl _ _))
          revert hh
          go_simp
        refine owed_cons (fun vs u hS hD N => ?_) ?_
        · have d22 := hD 22 (by decide)
          simp only [fact, layAt, depOn, dstOf, List.map_cons, List.map_nil, List.foldl_cons, List.foldl_nil, List.getD_cons_zero, List.getD_cons_succ, List.getElem?_cons_zero, List.getElem?_cons_succ, Option.bind_some] at d22
          have d23 := hD 23 (by decide)
          simp only [fact, layAt, depOn, dstOf, List.map_cons, List.map_nil, List.foldl_cons, List.foldl_nil, List.getD_cons_zero, List.getD_cons_succ, List.getElem?_cons_zero, List.getElem?_cons_succ, Option.bind_some] at d23
          clear hD
          intro hN
          simp only [fact, layAt, depOn, dstOf, List.map_cons, List.map_nil, List.foldl_cons, List.foldl_nil, List.getD_cons_zero, List.getD_cons_succ, List.getElem?_cons_zero, List.getElem?_cons_succ, Option.bind_some, d22, d23] at hN ⊢
          rw [if_pos (by rfl)]
          have q := run_str T23 (rb.below hS) c1 9 Tryz.underlying9
          go_simp
          have hh := hN _ _ rfl (.inl (Below.refl _ _))
          revert hh
          go_simp
        refine owed_cons (fun vs u hS hD N => ?_) ?_
        · have d22 := hD 22 (by decide)
          simp only [fact, layAt, depOn, dstOf, List.map_cons, List.map_nil, List.foldl_cons, List.foldl_nil, List.getD_cons_zero, List.getD_cons_succ, List.getElem?_cons_zero, List.getElem?_cons_succ, Option.bind_some] at d22
          clear hD
          intro hN
          simp only [fact, layAt, depOn, dstOf, List.map_cons, List.map_nil, List.foldl_cons, List.foldl_nil, List.getD_cons_zero, List.getD_cons_succ, List.getElem?_cons_zero, List.getElem?_cons_succ, Option.bind_some, d22] at hN ⊢
          go_simp
          have hh := hN _ _ rfl (.inl (Below.refl _ _))
          revert hh
          go_simp
        refine owed_cons (fun vs u hS hD N => ?_) ?_
        · have d22 := hD 22 (by decide)
          simp only [fact, layAt, depOn, dstOf, List.map_cons, List.map_nil, List.foldl_cons, List.foldl_nil, List.getD_cons_zero, List.getD_cons_succ, List.getElem?_cons_zero, List.getElem?_cons_succ, Option.bind_some] at d22
          have d25 := hD 25 (by decide)
          simp only [fact, layAt, depOn, dstOf, List.map_cons, List.map_nil, List.foldl_cons, List.foldl_nil, List.getD_cons_zero, List.getD_cons_succ, List.getElem?_cons_zero, List.getElem?_cons_succ, Option.bind_some] at d25
          clear hD
          intro hN
          simp only [fact, layAt, depOn, dstOf, List.map_cons, List.map_nil, List.foldl_cons, List.foldl_nil, List.getD_cons_zero, List.getD_cons_succ, List.getElem?_cons_zero, List.getElem?_cons_succ, Option.bind_some, d22, d25] at hN ⊢
          rw [if_pos (by rfl)]
          have q := run_str T23 (rs.below hS) c8 9 Tryz.underlying9
          go_simp
          have hh := hN _ _ rfl (.inl (Below.refl _ _))
          revert hh
          go_simp
        refine owed_cons (fun vs u hS hD N => ?_) ?_
        · have d22 := hD 22 (by decide)
          simp only [fact, layAt, depOn, dstOf, List.map_cons, List.map_nil, List.foldl_cons, List.foldl_nil, List.getD_cons_zero, List.getD_cons_succ, List.getElem?_cons_zero, List.getElem?_cons_succ, Option.bind_some] at d22
          have d24 := hD 24 (by decide)
          simp only [fact, layAt, depOn, dstOf, List.map_cons, List.map_nil, List.foldl_cons, List.foldl_nil, List.getD_cons_zero, List.getD_cons_succ, List.getElem?_cons_zero, List.getElem?_cons_succ, Option.bind_some] at d24
          have d26 := hD 26 (by decide)
          simp only [fact, layAt, depOn, dstOf, List.map_cons, List.map_nil, List.foldl_cons, List.foldl_nil, List.getD_cons_zero, List.getD_cons_succ, List.getElem?_cons_zero, List.getElem?_cons_succ, Option.bind_some] at d26
          clear hD
          intro hN
          simp only [fact, layAt, depOn, dstOf, List.map_cons, List.map_nil, List.foldl_cons, List.foldl_nil, List.getD_cons_zero, List.getD_cons_succ, List.getElem?_cons_zero, List.getElem?_cons_succ, Option.bind_some, d22, d24, d26] at hN ⊢
          rw [if_pos (by rfl)]
          go_simp
          rw [HSQ.out]
          have hh := hN _ _ rfl (.inl (Below.refl _ _))
          revert hh
          go_simp
        refine owed_cons (fun vs u hS hD N => ?_) ?_
        · have d22 := hD 22 (by decide)
          simp only [fact, layAt, depOn, dstOf, List.map_cons, List.map_nil, List.foldl_cons, List.foldl_nil, List.getD_cons_zero, List.getD_cons_succ, List.getElem?_cons_zero, List.getElem?_cons_succ, Option.bind_some] at d22
          clear hD
          intro hN
          simp only [fact, layAt, depOn, dstOf, List.map_cons, List.map_nil, List.foldl_cons, List.foldl_nil, List.getD_cons_zero, List.getD_cons_succ, List.getElem?_cons_zero, List.getElem?_cons_succ, Option.bind_some, d22] at hN ⊢
          go_simp
          obtain ⟨a0, a1, a2, a3, a4, b0, b1, b2, b3, b4, x0, x1, x2, x3, x4, _⟩ := EE _ hS
          go_simp
          have hh := hN _ _ rfl (.inl (Below.refl _ _))
          revert hh
          go_simp
        refine owed_cons (fun vs u hS hD N => ?_) ?_
        · have d22 := hD 22 (by decide)
          simp only [fact, layAt, depOn, dstOf, List.map_cons, List.map_nil, List.foldl_cons, List.foldl_nil, List.getD_cons_zero, List.getD_cons_succ, List.getElem?_cons_zero, List.getElem?_cons_succ, Option.bind_some] at d22
          clear hD
          intro hN
          simp only [fact, layAt, depOn, dstOf, List.map_cons, List.map_nil, List.foldl_cons, List.foldl_nil, List.getD_cons_zero, List.getD_cons_succ, List.getElem?_cons_zero, List.getElem?_cons_succ, Option.bind_some, d22] at hN ⊢
          go_simp
          obtain ⟨a0, a1, a2, a3, a4, b0, b1, b2, b3, b4, x0, x1, x2, x3, x4, _⟩ := EE _ hS
          go_simp
          have hh := hN _ _ rfl (.inl (Below.refl _ _))
          revert hh
          go_simp
        refine owed_cons (fun vs u hS hD N => ?_) ?_
        · have d22 := hD 22 (by decide)
          simp only [fact, layAt, depOn, dstOf, List.map_cons, List.map_nil, List.foldl_cons, List.foldl_nil, List.getD_cons_zero, List.getD_cons_succ, List.getElem?_cons_zero, List.getElem?_cons_succ, Option.bind_some] at d22
          have d28 := hD 28 (by decide)
          simp only [fact, layAt, depOn, dstOf, List.map_cons, List.map_nil, List.foldl_cons, List.foldl_nil, List.getD_cons_zero, List.getD_cons_succ, List.getElem?_cons_zero, List.getElem?_cons_succ, Option.bind_some] at d28
          have d29 := hD 29 (by decide)
          simp only [fact, layAt, depOn, dstOf, List.map_cons, List.map_nil, List.foldl_cons, List.foldl_nil, List.getD_cons_zero, List.getD_cons_succ, List.getElem?_cons_zero, List.getElem?_cons_succ, Option.bind_some] at d29
          clear hD
          intro hN
          simp only [fact, layAt, depOn, dstOf, List.map_cons, List.map_nil, List.foldl_cons, List.foldl_nil, List.getD_cons_zero, List.getD_cons_succ, List.getElem?_cons_zero, List.getElem?_cons_succ, Option.bind_some, d22, d28, d29] at hN ⊢
          go_simp
          refine (C2 u hS).mono ?_
          rintro e u1 ⟨rfl, f⟩
          have hh := hN _ _ rfl (.inl f)
          revert hh
          go_simp
        refine owed_cons (fun vs u hS hD N => ?_) ?_
        · have d22 := hD 22 (by decide)
          simp only [fact, layAt, depOn, dstOf, List.map_cons, List.map_nil, List.foldl_cons, List.foldl_nil, List.getD_cons_zero, List.getD_cons_succ, List.getElem?_cons_zero, List.getElem?_cons_succ, Option.bind_some] at d22
          have d27 := hD 27 (by decide)
          simp only [fact, layAt, depOn, dstOf, List.map_cons, List.map_nil, List.foldl_cons, List.foldl_nil, List.getD_cons_zero, List.getD_cons_succ, List.getElem?_cons_zero, List.getElem?_cons_succ, Option.bind_some] at d27
          have d30 := hD 30 (by decide)
          simp only [fact, layAt, depOn, dstOf, List.map_cons, List.map_nil, List.foldl_cons, List.foldl_nil, List.getD_cons_zero, List.getD_cons_succ, List.getElem?_cons_zero, List.getElem?_cons_succ, Option.bind_some] at d30
          clear hD
          intro hN
          simp only [fact, layAt, depOn, dstOf, List.map_cons, List.map_nil, List.foldl_cons, List.foldl_nil, List.getD_cons_zero, List.getD_cons_succ, List.getElem?_cons_zero, List.getElem?_cons_succ, Option.bind_some, d22, d27, d30] at hN ⊢
          go_simp
          have hh := hN _ _ rfl (.inl (Below.refl _ _))
          revert hh
          go_simp
        refine owed_cons (fun vs u hS hD N => ?_) ?_
        · have d19 := hD 19 (by decide)
          simp only [fact, layAt, depOn, dstOf, List.map_cons, List.map_nil, List.foldl_cons, List.foldl_nil, List.getD_cons_zero, List.getD_cons_succ, List.getElem?_cons_zero, List.getElem?_cons_succ, Option.bind_some] at d19
          have d22 := hD 22 (by decide)
          simp only [fact, layAt, depOn, dstOf, List.map_cons, List.map_nil, List.foldl_cons, List.foldl_nil, List.getD_cons_zero, List.getD_cons_succ, List.getElem?_cons_zero, List.getElem?_cons_succ, Option.bind_some] at d22
          have d31 := hD 31 (by decide)
          simp only [fact, layAt, depOn, dstOf, List.map_cons, List.map_nil, List.foldl_cons, List.foldl_nil, List.getD_cons_zero, List.getD_cons_succ, List.getElem?_cons_zero, List.getElem?_cons_succ, Option.bind_some] at d31
          clear hD
          intro hN
          simp only [fact, layAt, depOn, dstOf, List.map_cons, List.map_nil, List.foldl_cons, List.foldl_nil, List.getD_cons_zero, List.getD_cons_succ, List.getElem?_cons_zero, List.getElem?_cons_succ, Option.bind_some, d19, d22, d31] at hN ⊢
          go_simp
          have hh := hN _ _ rfl (.inl (Below.refl _ _))
          revert hh
          go_simp
        refine owed_cons (fun vs u hS hD N => ?_) ?_
        · have d19 := hD 19 (by decide)
          simp only [fact, layAt, depOn, dstOf, List.map_cons, List.map_nil, List.foldl_cons, List.foldl_nil, List.getD_cons_zero, List.getD_cons_succ, List.getElem?_cons_zero, List.getElem?_cons_succ, Option.bind_some] at d19
          have d32 := hD 32 (by decide)
          simp only [fact, layAt, depOn, dstOf, List.map_cons, List.map_nil, List.foldl_cons, List.foldl_nil, List.getD_cons_zero, List.getD_cons_succ, List.getElem?_cons_zero, List.getElem?_cons_succ, Option.bind_some] at d32
          clear hD
          intro hN
          simp only [fact, layAt, depOn, dstOf, List.map_cons, List.map_nil, List.foldl_cons, List.foldl_nil, List.getD_cons_zero, List.getD_cons_succ, List.getElem?_cons_zero, List.getElem?_cons_succ, Option.bind_some, d19, d32] at hN ⊢
          go_simp
          have hh := hN _ _ rfl (.inl (Below.refl _ _))
          revert hh
          go_simp
        refine owed_cons (fun vs u hS hD N => ?_) ?_
        · have d33 := hD 33 (by decide)
          simp only [fact, layAt, depOn, dstOf, List.map_cons, List.map_nil, List.foldl_cons, List.foldl_nil, List.getD_cons_zero, List.getD_cons_succ, List.getElem?_cons_zero, List.getElem?_cons_succ, Option.bind_some] at d33
          clear hD
          intro hN
          simp only [fact, layAt, depOn, dstOf, List.map_cons, List.map_nil, List.foldl_cons, List.foldl_nil, List.getD_cons_zero, List.getD_cons_succ, List.getElem?_cons_zero, List.getElem?_cons_succ, Option.bind_some, d33] at hN ⊢
          go_simp
          have hh := hN _ _ rfl (.inl (Below.refl _ _))
          revert hh
          go_simp
        refine owed_cons (fun vs u hS hD N => ?_) ?_
        · have d34 := hD 34 (by decide)
          simp only [fact, layAt, depOn, dstOf, List.map_cons, List.map_nil, List.foldl_cons, List.foldl_nil, List.getD_cons_zero, List.getD_cons_succ, List.getElem?_cons_zero, List.getElem?_cons_succ, Option.bind_some] at d34
          clear hD
          intro hN
          simp only [fact, layAt, depOn, dstOf, List.map_cons, List.map_nil, List.foldl_cons, List.foldl_nil, List.getD_cons_zero, List.getD_cons_succ, List.getElem?_cons_zero, List.getElem?_cons_succ, Option.bind_some, d34] at hN ⊢
          go_simp
          refine (awake12_any u).mono ?_
          rintro e u1 ⟨rfl, f⟩
          have hh := hN _ _ rfl (.inl f)
          revert hh
          go_simp
        refine owed_cons (fun vs u hS hD N => ?_) ?_
        · have d34 := hD 34 (by decide)
          simp only [fact, layAt, depOn, dstOf, List.map_cons, List.map_nil, List.foldl_cons, List.foldl_nil, List.getD_cons_zero, List.getD_cons_succ, List.getElem?_cons_zero, List.getElem?_cons_succ, Option.bind_some] at d34
          have d35 := hD 35 (by decide)
          simp only [fact, layAt, depOn, dstOf, List.map_cons, List.map_nil, List.foldl_cons, List.foldl_nil, List.getD_cons_zero, List.getD_cons_succ, List.getElem?_cons_zero, List.getElem?_cons_succ, Option.bind_some] at d35
          clear hD
          intro hN
          simp only [fact, layAt, depOn, dstOf, List.map_cons, List.map_nil, List.foldl_cons, List.foldl_nil, List.getD_cons_zero, List.getD_cons_succ, List.getElem?_cons_zero, List.getElem?_cons_succ, Option.bind_some, d34, d35] at hN ⊢
          go_simp
          have hh := hN _ _ rfl (.inl (Below.refl _ _))
          revert hh
          go_simp
        refine owed_cons (fun vs u hS hD N => ?_) ?_
        · have d36 := hD 36 (by decide)
          simp only [fact, layAt, depOn, dstOf, List.map_cons, List.map_nil, List.foldl_cons, List.foldl_nil, List.getD_cons_zero, List.getD_cons_succ, List.getElem?_cons_zero, List.getElem?_cons_succ, Option.bind_some] at d36
          clear hD
          intro hN
          simp only [fact, layAt, depOn, dstOf, List.map_cons, List.map_nil, List.foldl_cons, List.foldl_nil, List.getD_cons_zero, List.getD_cons_succ, List.getElem?_cons_zero, List.getElem?_cons_succ, Option.bind_some, d36] at hN ⊢
          go_simp
          have hh := hN _ _ rfl (.inl (Below.refl _ _))
          revert hh
          go_simp
        exact owed_nil
      ·
        intro vs u hS hF
        have d37 := hF 37 (by decide) (by decide)
        simp only [fact, layAt, depOn, dstOf, List.map_cons, List.map_nil, List.foldl_cons, List.foldl_nil, List.getD_cons_zero, List.getD_cons_succ, List.getElem?_cons_zero, List.getElem?_cons_succ, Option.bind_some] at d37
        clear hF
        simp only [List.length_cons, List.length_nil, Nat.reduceAdd, List.range, List.range.loop, fact, layAt, depOn, dstOf, List.map_cons, List.map_nil, List.foldl_cons, List.foldl_nil, List.getD_cons_zero, List.getD_cons_succ, List.getElem?_cons_zero, List.getElem?_cons_succ, Option.bind_some, d37]
        go_simp
        go_wp2_with fail
        go_ret
        exact ⟨rfl, f1.trans (hS.mono f1.size)⟩
  · rw [(dec_zero hro).1]
    rw [(dec_zero hro).2] at hd4
    go_upto_region 4 with (first | (refine store_blk (cs := [.int .u64 0, .string ⟨#[]⟩, .int .u64 0, .int .i64 0, .slice none 0 0]) (Blk.newAt rfl 38 #[.int .u64 0, .string ⟨#[]⟩, .int .u64 0, .int .i64 0, .slice none 0 0]) rfl 38 (.tmp 11) (.tmp 45) rfl rfl (us := [.int .u64 x0, .string x1, .int .u64 x2, .int .i64 x3, .slice x4 x5 x6]) rfl HI.out rfl rfl ?_; intro w5 kx hg; have f3 : Below w4.heap.size w4 w5 := ((Below.refl _ w4).alloc (Nat.le_refl _) _).grown hg (by simp) (by simp)))
    have lka := ka.lt
    have lkb := kb.lt
    replace ka := ka.below f3 lka
    replace kb := kb.below f3 lkb
    replace f1 := f1.trans (f3.mono f1.size)
    have hd5 := hd4.mono f3.size f3
    clear hg f3 hd4
    generalize w4.heap.size = g5 at *
    obtain ⟨e1, e2, e3⟩ := dec_back hro
    have hE := encode_yes (readPo raw) _ w5 hd5 e2 e3
    rw [e1, hrl] at hE
    clear e1 e2 e3 hd5
    have x_0 := kx.cell 0; have x_1 := kx.cell 1; have x_2 := kx.cell 2; have x_3 := kx.cell 3; have x_4 := kx.cell 4
    go_wp2_with fail
    refine hE.mono ?_
    rintro e w6 ⟨A9, c9, rfl, oz, f2⟩
    clear x_0 x_1 x_2 x_3 x_4
    have lka := ka.lt
    have lkb := kb.lt
    replace ka := ka.below f2 lka
    replace kb := kb.below f2 lkb
    have rr6 := (rr.below f1).more f1.size
    replace rr6 := rr6.below f2
    have t1 := run_str T23 oz.rd c9 9 Tryz.underlying9
    have t2 := run_str T23 rr6 d 9 Tryz.underlying9
    replace f1 := f1.trans (f2.mono f1.size)
    clear f2
    clear hE oz rr6 kx
    go_upto_region 8 with fail
    clear t1 t2
    clear rr hrl hmd hdm hm
    have a0 := ka.cell 0; have a1 := ka.cell 1; have a2 := ka.cell 2; have a3 := ka.cell 3; have a4 := ka.cell 4
    cases hmp : poMay p
    · go_wp2_with fail
      refine (encode_no p _ w6 (HP.out w6 f1) okp hmp).mono ?_
      rintro e wa ⟨rfl, f2⟩
      replace f1 := f1.trans (f2.mono f1.size)
      clear f2
      go_wp2_with fail
      refine (awake12_any wa).mono ?_
      rintro e w9 ⟨rfl, f9⟩
      go_wp2_with fail
      go_ret
      exact ⟨rfl, f1.trans (f9.mono f1.size)⟩
    go_wp2_with fail
    refine (encode_yes p _ w6 (HP.out w6 f1) okp hmp).mono ?_
    rintro e w7 ⟨A1, c1, rfl, ow, f2⟩
    clear a0 a1 a2 a3 a4
    have lka := ka.lt
    have lkb := kb.lt
    replace ka := ka.below f2 lka
    replace kb := kb.below f2 lkb
    replace f1 := f1.trans (f2.mono f1.size)
    clear f2
    have hL0 := poB_pos okp.1
    have hL1 := poB_le hmp okp
    have hcap := ow.cap
    have DO := Lib.hid (dec_zero (dec_own okp hmp).1)
    have DP := Lib.hid (dec_own okp hmp).2
    have DC := Lib.hid (fun k hk => dec_two (dec_cut okp hmp (k := k) hk))
    have DA := Lib.hid (dec_app okp hmp more hml)
    have DS := Lib.hid (back_same okp okq hmp)
    generalize poB p = TB at *
    generalize hL : TB.length = L at *
    have d4 : ((L : Int) == 0) = false := by simp; omega
    go_wp2_with fail
    refine (decode_any A1 L c1 TB w7 ow.rd (by omega)).mono ?_
    rintro e w8 ⟨es2, rfl, hd, f2⟩
    rw [DO.out.1]
    rw [DO.out.2, DP.out] at hd
    have hx8 : PoP w8 w8.heap.size es2 p := PoP.mn _ _ _ _ _ _ (Nat.le_refl _) (Sub.out _ _ _ _) hd
    clear hd d4
    obtain ⟨u0, u1, u2, u3, u4, u5, u6, rfl⟩ := hx8.form
    have lka := ka.lt
    have lkb := kb.lt
    replace ka := ka.below f2 lka
    replace kb := kb.below f2 lkb
    replace ow := ow.below (Nat.le_refl _) f2
    replace f1 := f1.trans (f2.mono f1.size)
    clear f2
    go_upto_region 14 with (first | (refine store_blk (cs := [.int .u64 0, .string ⟨#[]⟩, .int .u64 0, .int .i64 0, .slice none 0 0]) (Blk.newAt rfl 38 #[.int .u64 0, .string ⟨#[]⟩, .int .u64 0, .int .i64 0, .slice none 0 0]) rfl 38 (.tmp 17) (.tmp 81) rfl rfl (us := [.int .u64 u0, .string u1, .int .u64 u2, .int .i64 u3, .slice u4 u5 u6]) rfl HI.out rfl rfl ?_; intro w9 ku hg; have f3 : Below w8.heap.size w8 w9 := ((Below.refl _ w8).alloc (Nat.le_refl _) _).grown hg (by simp) (by simp)))
    have lka := ka.lt
    have lkb := kb.lt
    replace ka := ka.below f3 lka
    replace kb := kb.below f3 lkb
    replace ow := ow.below (Nat.le_refl _) f3
    replace f1 := f1.trans (f3.mono f1.size)
    have hX := fun (v : World) (hv : Below w9.heap.size w9 v) => (hx8.mono f3.size f3).mono hv.size hv
    have HX := Lib.hid hX
    clear hX hx8 hg f3
    generalize w8.heap.size = gx at *
    obtain ⟨k, hk, hkL⟩ := rem_nat a L hL0
    have b1 : (0 : Int) ≤ (k : Int) := by omega
    have b2 : (k : Int) ≤ (c1 : Int) := by omega
    have r2 := ow.rd.take (k := k) (by omega)
    have hne : ((L : Int) == 0) = false := by simp; omega
    go_wp2_with fail
    refine (decode_any A1 k c1 (TB.take k) w9 r2 (by omega)).mono ?_
    rintro e wa ⟨es3, rfl, hd, f2⟩
    rw [DC.out k hkL]
    have hx8 : PoP wa wa.heap.size es3 _ := PoP.mn _ _ _ _ _ _ (Nat.le_refl _) (Sub.out _ _ _ _) hd
    obtain ⟨v0, v1, v2, v3, v4, v5, v6, rfl⟩ := hx8.form
    clear r2 hk b1 b2 hd hx8
    have fX : Below w9.heap.size w9 wa := f2
    have lka := ka.lt
    have lkb := kb.lt
    have lku := ku.lt
    replace ka := ka.below f2 lka
    replace kb := kb.below f2 lkb
    replace ku := ku.below f2 lku
    replace ow := ow.below (Nat.le_refl _) f2
    replace f1 := f1.trans (f2.mono f1.size)
    clear f2
    go_upto_region 15 with (first | (refine store_blk (cs := [.int .u64 0, .string ⟨#[]⟩, .int .u64 0, .int .i64 0, .slice none 0 0]) (Blk.newAt rfl 38 #[.int .u64 0, .string ⟨#[]⟩, .int .u64 0, .int .i64 0, .slice none 0 0]) rfl 38 (.tmp 19) (.tmp 92) rfl rfl (us := [.int .u64 v0, .string v1, .int .u64 v2, .int .i64 v3, .slice v4 v5 v6]) rfl HI.out rfl rfl ?_; intro wb kv hg; have f3 : Below wa.heap.size wa wb := ((Below.refl _ wa).alloc (Nat.le_refl _) _).grown hg (by simp) (by simp)))
    have lka := ka.lt
    have lkb := kb.lt
    have lku := ku.lt
    replace ka := ka.below f3 lka
    replace kb := kb.below f3 lkb
    replace ku := ku.below f3 lku
    replace ow := ow.below (Nat.le_refl _) f3
    replace f1 := f1.trans (f3.mono f1.size)
    replace fX := fX.trans (f3.mono fX.size)
    clear hg f3 kv
    generalize wa.heap.size = gy at *
    have s8 := f1.size
    have r8 := ow.rd
    have m8 := (rm.below f1).more s8
    go_wp2_with (first
      | (at_builtin; refine appendR T23 rfl rfl rfl o5 rfl (m8.below f5) (by omega) f5 (Nat.le_refl _) ?_; intro A6 c6 wd o6 f6 _)
      | (at_builtin; go_must (refine appendR T23 rfl rfl rfl (OwnB.of_blk (l := []) (Blk.of_new wb _ _) (Nat.le_refl _) rfl (by simp [maxLen])) rfl (r8.below ((Below.refl _ wb).alloc (Nat.le_refl _) _)) (by omega) ((Below.refl _ wb).alloc (Nat.le_refl _) _) (Nat.le_refl _) ?_); intro A5 c5 wc o5 f5 _; rw [Nat.zero_add, List.nil_append] at o5; try rw [Nat.zero_add]))
    refine (decode_any A6 (L + n) c6 (TB ++ more) wd o6.rd (by omega)).mono ?_
    rintro e we ⟨es4, rfl, hd, f7⟩
    have hx8 : PoP we we.heap.size es4 _ := PoP.mn _ _ _ _ _ _ (Nat.le_refl _) (Sub.out _ _ _ _) hd
    obtain ⟨y0, y1, y2, y3, y4, y5, y6, rfl⟩ := hx8.form
    clear o5 f5 o6 hd hx8
    replace f7 := f6.trans (f7.mono f6.size)
    obtain ⟨ex, hex⟩ : ∃ x, decE (TB ++ more) = x := ⟨_, rfl⟩
    rw [hex]
    have hxe := DA.out
    rw [hex] at hxe
    clear hex
    have lka := ka.lt
    have lkb := kb.lt
    have lku := ku.lt
    replace ka := ka.below f7 lka
    replace kb := kb.below f7 lkb
    replace ku := ku.below f7 lku
    replace ow := ow.below (Nat.le_refl _) f7
    replace f1 := f1.trans (f7.mono f1.size)
    replace fX := fX.trans (f7.mono fX.size)
    clear f7 f6 r8 m8
    go_upto_region 16 with (first | (refine store_blk (cs := [.int .u64 0, .string ⟨#[]⟩, .int .u64 0, .int .i64 0, .slice none 0 0]) (Blk.newAt rfl 38 #[.int .u64 0, .string ⟨#[]⟩, .int .u64 0, .int .i64 0, .slice none 0 0]) rfl 38 (.tmp 21) (.tmp 101) rfl rfl (us := [.int .u64 y0, .string y1, .int .u64 y2, .int .i64 y3, .slice y4 y5 y6]) rfl HI.out rfl rfl ?_; intro wf ky hg; have f3 : Below we.heap.size we wf := ((Below.refl _ we).alloc (Nat.le_refl _) _).grown hg (by simp) (by simp)))
    have lka := ka.lt
    have lkb := kb.lt
    have lku := ku.lt
    replace ka := ka.below f3 lka
    replace kb := kb.below f3 lkb
    replace ku := ku.below f3 lku
    replace ow := ow.below (Nat.le_refl _) f3
    replace f1 := f1.trans (f3.mono f1.size)
    replace fX := fX.trans (f3.mono fX.size)
    clear hg f3 ky
    generalize we.heap.size = gz at *
    obtain ⟨hz, hxq⟩ : ∃ z : Bool, ((n : Int) == 0) = z := ⟨_, rfl⟩
    rw [hxq] at hxe
    clear hne
    have b0 := kb.cell 0; have b1 := kb.cell 1; have b2 := kb.cell 2; have b3 := kb.cell 3; have b4 := kb.cell 4
    cases hmq : poMay q
    · go_wp2_with fail
      refine (encode_no q _ wf (HQ.out wf f1) okq hmq).mono ?_
      rintro e wq ⟨rfl, f2⟩
      clear b0 b1 b2 b3 b4
      have lka := ka.lt
      have lkb := kb.lt
      have lku := ku.lt
      replace ka := ka.below f2 lka
      replace kb := kb.below f2 lkb
      replace ku := ku.below f2 lku
      replace ow := ow.below (Nat.le_refl _) f2
      replace f1 := f1.trans (f2.mono f1.size)
      replace fX := fX.trans (f2.mono fX.size)
      have rb := ow.rd
      clear f2 DS ow
      have C1 := fun (u : World) (hu : Below wq.heap.size wq u) => same12_any p p _ _ u (HX.out u (fX.trans (hu.mono fX.size))) (HP.out u (f1.trans (hu.mono f1.size))) okp okp
      rw [decide_eq_true (rfl : p = p)] at C1
      have EE : ∀ u, Below wq.heap.size wq u → CsS [(⟨w.heap.size, 0, none⟩, .int .u64 p0), (⟨w.heap.size, 1, none⟩, .string p1), (⟨w.heap.size, 2, none⟩, .int .u64 p2), (⟨w.heap.size, 3, none⟩, .int .i64 p3), (⟨w.heap.size, 4, none⟩, .slice p4 p5 p6), (⟨(w.heap.size + 1), 0, none⟩, .int .u64 q0), (⟨(w.heap.size + 1), 1, none⟩, .string q1), (⟨(w.heap.size + 1), 2, none⟩, .int .u64 q2), (⟨(w.heap.size + 1), 3, none⟩, .int .i64 q3), (⟨(w.heap.size + 1), 4, none⟩, .slice q4 q5 q6), (⟨gx, 0, none⟩, .int .u64 u0), (⟨gx, 1, none⟩, .string u1), (⟨gx, 2, none⟩, .int .u64 u2), (⟨gx, 3, none⟩, .int .i64 u3), (⟨gx, 4, none⟩, .slice u4 u5 u6)] u := fun u hu => CsS.below (u := wq) ⟨ka.cell 0, ka.cell 1, ka.cell 2, ka.cell 3, ka.cell 4, kb.cell 0, kb.cell 1, kb.cell 2, kb.cell 3, kb.cell 4, ku.cell 0, ku.cell 1, ku.cell 2, ku.cell 3, ku.cell 4, trivial⟩ hu
      go_upto_region 17 with fail
      refine wp_region_facts (fun u => Below wq.heap.size wq u) [
          fun v _ => v = .int .i64 0,
          fun v _ => v = .bool true,
          fun v _ => v = .bool true,
          fun v _ => v = .agg #[.int .u64 u0, .string u1, .int .u64 u2, .int .i64 u3, .slice u4 u5 u6],
          fun v _ => v = .agg #[.int .u64 p0, .string p1, .int .u64 p2, .int .i64 p3, .slice p4 p5 p6],
          fun v _ => v = .bool true,
          fun v _ => v = .bool true,
          fun v _ => v = .bool true,
          fun v _ => v = .int .i64 2,
          fun v _ => v = .bool true,
          fun v _ => v = .bool true,
          fun v _ => v = .bool true,
          fun v _ => v = .int .i64 (ex : Int),
          fun v _ => v = .bool hz,
          fun v _ => v = .slice A n c,
          fun v _ => v = .int .i64 (n : Int),
          fun v _ => v = .bool hz,
          fun v _ => v = .bool true,
          fun v _ => v = .bool true,
          fun v _ => v = .bool true,
          fun v _ => v = .int .i64 1,
          fun v _ => v = .bool true,
          fun v _ => v = .bool true,
          fun v _ => v = undef,
          fun v _ => v = undef,
          fun v _ => v = undef,
          fun v _ => v = undef,
          fun v _ => v = undef,
          fun v _ => v = undef,
          fun v _ => v = undef,
          fun v _ => v = undef,
          fun v _ => v = undef,
          fun v _ => v = .bool true,
          fun v _ => v = .bool true,
          fun v _ => v = .bool true,
          fun v _ => v = .bool true,
          fun v _ => v = .bool true,
          fun v _ => v = .bool true] (fun u u' => Below u.heap.size u u')
          [[], [0], [1], [2], [2], [2, 3, 4], [2, 5], [6], [7], [7, 8], [7, 9], [10], [11], [11, 12], [11], [11, 14], [11, 15], [11, 13, 16], [11, 17], [18], [19], [19, 20], [19, 21], [22], [22, 23], [22], [22, 25], [22, 24, 26], [22], [22], [22, 28, 29], [22, 27, 30], [19, 22, 31], [19, 32], [33], [34], [34, 35], [36]] []
          (by kernel_rfl) (by kernel_rfl) ?_ (fun _ _ _ _ _ h => h) ((Below.refl _ _).drew) ?_ ?_
      · refine hE_of (fun u u' h f => f.trans (h.mono f.size)) ?_
        repeat' (first | exact mono_nil | refine mono_cons (fun v u u' h => ?_) ?_)
        all_goals first | exact _root_.id
      ·
        refine owed_cons (fun vs u hS hD N => ?_) ?_
        · clear hD
          intro hN
          simp only [fact, layAt, depOn, dstOf, List.map_cons, List.map_nil, List.foldl_cons, List.foldl_nil, List.getD_cons_zero, List.getD_cons_succ, List.getElem?_cons_zero, List.getElem?_cons_succ, Option.bind_some] at hN ⊢
          go_simp
          have hh := hN _ _ rfl (.inl (Below.refl _ _))
          revert hh
          go_simp
        refine owed_cons (fun vs u hS hD N => ?_) ?_
        · have d0 := hD 0 (by decide)
          simp only [fact, layAt, depOn, dstOf, List.map_cons, List.map_nil, List.foldl_cons, List.foldl_nil, List.getD_cons_zero, List.getD_cons_succ, List.getElem?_cons_zero, List.getElem?_cons_succ, Option.bind_some] at d0
          clear hD
          intro hN
          simp only [fact, layAt, depOn, dstOf, List.map_cons, List.map_nil, List.foldl_cons, List.foldl_nil, List.getD_cons_zero, List.getD_cons_succ, List.getElem?_cons_zero, List.getElem?_cons_succ, Option.bind_some, d0] at hN ⊢
          go_simp
          have hh := hN _ _ rfl (.inl (Below.refl _ _))
          revert hh
          go_simp
        refine owed_cons (fun vs u hS hD N => ?_) ?_
        · have d1 := hD 1 (by decide)
          simp only [fact, layAt, depOn, dstOf, List.map_cons, List.map_nil, List.foldl_cons, List.foldl_nil, List.getD_cons_zero, List.getD_cons_succ, List.getElem?_cons_zero, List.getElem?_cons_succ, Option.bind_some] at d1
          clear hD
          intro hN
          simp only [fact, layAt, depOn, dstOf, List.map_cons, List.map_nil, List.foldl_cons, List.foldl_nil, List.getD_cons_zero, List.getD_cons_succ, List.getElem?_cons_zero, List.getElem?_cons_succ, Option.bind_some, d1] at hN ⊢
          go_simp
          have hh := hN _ _ rfl (.inl (Below.refl _ _))
          revert hh
          go_simp
        refine owed_cons (fun vs u hS hD N => ?_) ?_
        · have d2 := hD 2 (by decide)
          simp only [fact, layAt, depOn, dstOf, List.map_cons, List.map_nil, List.foldl_cons, List.foldl_nil, List.getD_cons_zero, List.getD_cons_succ, List.getElem?_cons_zero, List.getElem?_cons_succ, Option.bind_some] at d2
          clear hD
          intro hN
          simp only [fact, layAt, depOn, dstOf, List.map_cons, List.map_nil, List.foldl_cons, List.foldl_nil, List.getD_cons_zero, List.getD_cons_succ, List.getElem?_cons_zero, List.getElem?_cons_succ, Option.bind_some, d2] at hN ⊢
          go_simp
          obtain ⟨a0, a1, a2, a3, a4, b0, b1, b2, b3, b4, x0, x1, x2, x3, x4, _⟩ := EE _ hS
          go_simp
          have hh := hN _ _ rfl (.inl (Below.refl _ _))
          revert hh
          go_simp
        refine owed_cons (fun vs u hS hD N => ?_) ?_
        · have d2 := hD 2 (by decide)
          simp only [fact, layAt, depOn, dstOf, List.map_cons, List.map_nil, List.foldl_cons, List.foldl_nil, List.getD_cons_zero, List.getD_cons_succ, List.getElem?_cons_zero, List.getElem?_cons_succ, Option.bind_some] at d2
          clear hD
          intro hN
          simp only [fact, layAt, depOn, dstOf, List.map_cons, List.map_nil, List.foldl_cons, List.foldl_nil, List.getD_cons_zero, List.getD_cons_succ, List.getElem?_cons_zero, List.getElem?_cons_succ, Option.bind_some, d2] at hN ⊢
          go_simp
          obtain ⟨a0, a1, a2, a3, a4, b0, b1, b2, b3, b4, x0, x1, x2, x3, x4, _⟩ := EE _ hS
          go_simp
          have hh := hN _ _ rfl (.inl (Below.refl _ _))
          revert hh
          go_simp
        refine owed_cons (fun vs u hS hD N => ?_) ?_
        · have d2 := hD 2 (by decide)
          simp only [fact, layAt, depOn, dstOf, List.map_cons, List.map_nil, List.foldl_cons, List.foldl_nil, List.getD_cons_zero, List.getD_cons_succ, List.getElem?_cons_zero, List.getElem?_cons_succ, Option.bind_some] at d2
          have d3 := hD 3 (by decide)
          simp only [fact, layAt, depOn, dstOf, List.map_cons, List.map_nil, List.foldl_cons, List.foldl_nil, List.getD_cons_zero, List.getD_cons_succ, List.getElem?_cons_zero, List.getElem?_cons_succ, Option.bind_some] at d3
          have d4 := hD 4 (by decide)
          simp only [fact, layAt, depOn, dstOf, List.map_cons, List.map_nil, List.foldl_cons, List.foldl_nil, List.getD_cons_zero, List.getD_cons_succ, List.getElem?_cons_zero, List.getElem?_cons_succ, Option.bind_some] at d4
          clear hD
          intro hN
          simp only [fact, layAt, depOn, dstOf, List.map_cons, List.map_nil, List.foldl_cons, List.foldl_nil, List.getD_cons_zero, List.getD_cons_succ, List.getElem?_cons_zero, List.getElem?_cons_succ, Option.bind_some, d2, d3, d4] at hN ⊢
          go_simp
          refine (C1 u hS).mono ?_
          rintro e u1 ⟨rfl, f⟩
          have hh := hN _ _ rfl (.inl f)
          revert hh
          go_simp
        refine owed_cons (fun vs u hS hD N => ?_) ?_
        · have d2 := hD 2 (by decide)
          simp only [fact, layAt, depOn, dstOf, List.map_cons, List.map_nil, List.foldl_cons, List.foldl_nil, List.getD_cons_zero, List.getD_cons_succ, List.getElem?_cons_zero, List.getElem?_cons_succ, Option.bind_some] at d2
          have d5 := hD 5 (by decide)
          simp only [fact, layAt, depOn, dstOf, List.map_cons, List.map_nil, List.foldl_cons, List.foldl_nil, List.getD_cons_zero, List.getD_cons_succ, List.getElem?_cons_zero, List.getElem?_cons_succ, Option.bind_some] at d5
          clear hD
          intro hN
          simp only [fact, layAt, depOn, dstOf, List.map_cons, List.map_nil, List.foldl_cons, List.foldl_nil, List.getD_cons_zero, List.getD_cons_succ, List.getElem?_cons_zero, List.getElem?_cons_succ, Option.bind_some, d2, d5] at hN ⊢
          go_simp
          have hh := hN _ _ rfl (.inl (Below.refl _ _))
          revert hh
          go_simp
        refine owed_cons (fun vs u hS hD N => ?_) ?_
        · have d6 := hD 6 (by decide)
          simp only [fact, layAt, depOn, dstOf, List.map_cons, List.map_nil, List.foldl_cons, List.foldl_nil, List.getD_cons_zero, List.getD_cons_succ, List.getElem?_cons_zero, List.getElem?_cons_succ, Option.bind_some] at d6
          clear hD
          intro hN
          simp only [fact, layAt, depOn, dstOf, List.map_cons, List.map_nil, List.foldl_cons, List.foldl_nil, List.getD_cons_zero, List.getD_cons_succ, List.getElem?_cons_zero, List.getElem?_cons_succ, Option.bind_some, d6] at hN ⊢
          go_simp
          have hh := hN _ _ rfl (.inl (Below.refl _ _))
          revert hh
          go_simp
        refine owed_cons (fun vs u hS hD N => ?_) ?_
        · have d7 := hD 7 (by decide)
          simp only [fact, layAt, depOn, dstOf, List.map_cons, List.map_nil, List.foldl_cons, List.foldl_nil, List.getD_cons_zero, List.getD_cons_succ, List.getElem?_cons_zero, List.getElem?_cons_succ, Option.bind_some] at d7
          clear hD
          intro hN
          simp only [fact, layAt, depOn, dstOf, List.map_cons, List.map_nil, List.foldl_cons, List.foldl_nil, List.getD_cons_zero, List.getD_cons_succ, List.getElem?_cons_zero, List.getElem?_cons_succ, Option.bind_some, d7] at hN ⊢
          go_simp
          have hh := hN _ _ rfl (.inl (Below.refl _ _))
          revert hh
          go_simp
        refine owed_cons (fun vs u hS hD N => ?_) ?_
        · have d7 := hD 7 (by decide)
          simp only [fact, layAt, depOn, dstOf, List.map_cons, List.map_nil, List.foldl_cons, List.foldl_nil, List.getD_cons_zero, List.getD_cons_succ, List.getElem?_cons_zero, List.getElem?_cons_succ, Option.bind_some] at d7
          have d8 := hD 8 (by decide)
          simp only [fact, layAt, depOn, dstOf, List.map_cons, List.map_nil, List.foldl_cons, List.foldl_nil, List.getD_cons_zero, List.getD_cons_succ, List.getElem?_cons_zero, List.getElem?_cons_succ, Option.bind_some] at d8
          clear hD
          intro hN
          simp only [fact, layAt, depOn, dstOf, List.map_cons, List.map_nil, List.foldl_cons, List.foldl_nil, List.getD_cons_zero, List.getD_cons_succ, List.getElem?_cons_zero, List.getElem?_cons_succ, Option.bind_some, d7, d8] at hN ⊢
          go_simp
          have hh := hN _ _ rfl (.inl (Below.refl _ _))
          revert hh
          go_simp
        refine owed_cons (fun vs u hS hD N => ?_) ?_
        · have d7 := hD 7 (by decide)
          simp only [fact, layAt, depOn, dstOf, List.map_cons, List.map_nil, List.foldl_cons, List.foldl_nil, List.getD_cons_zero, List.getD_cons_succ, List.getElem?_cons_zero, List.getElem?_cons_succ, Option.bind_some] at d7
          have d9 := hD 9 (by decide)
          simp only [fact, layAt, depOn, dstOf, List.map_cons, List.map_nil, List.foldl_cons, List.foldl_nil, List.getD_cons_zero, List.getD_cons_succ, List.getElem?_cons_zero, List.getElem?_cons_succ, Option.bind_some] at d9
          clear hD
          intro hN
          simp only [fact, layAt, depOn, dstOf, List.map_cons, List.map_nil, List.foldl_cons, List.foldl_nil, List.getD_cons_zero, List.getD_cons_succ, List.getElem?_cons_zero, List.getElem?_cons_succ, Option.bind_some, d7, d9] at hN ⊢
          go_simp
          have hh := hN _ _ rfl (.inl (Below.refl _ _))
          revert hh
          go_simp
        refine owed_cons (fun vs u hS hD N => ?_) ?_
        · have d10 := hD 10 (by decide)
          simp only [fact, layAt, depOn, dstOf, List.map_cons, List.map_nil, List.foldl_cons, List.foldl_nil, List.getD_cons_zero, List.getD_cons_succ, List.getElem?_cons_zero, List.getElem?_cons_succ, Option.bind_some] at d10
          clear hD
          intro hN
          simp only [fact, layAt, depOn, dstOf, List.map_cons, List.map_nil, List.foldl_cons, List.foldl_nil, List.getD_cons_zero, List.getD_cons_succ, List.getElem?_cons_zero, List.getElem?_cons_succ, Option.bind_some, d10] at hN ⊢
          go_simp
          have hh := hN _ _ rfl (.inl (Below.refl _ _))
          revert hh
          go_simp
        refine owed_cons (fun vs u hS hD N => ?_) ?_
        · have d11 := hD 11 (by decide)
          simp only [fact, layAt, depOn, dstOf, List.map_cons, List.map_nil, List.foldl_cons, List.foldl_nil, List.getD_cons_zero, List.getD_cons_succ, List.getElem?_cons_zero, List.getElem?_cons_succ, Option.bind_some] at d11
          clear hD
          intro hN
          simp only [fact, layAt, depOn, dstOf, List.map_cons, List.map_nil, List.foldl_cons, List.foldl_nil, List.getD_cons_zero, List.getD_cons_succ, List.getElem?_cons_zero, List.getElem?_cons_succ, Option.bind_some, d11] at hN ⊢
          go_simp
          have hh := hN _ _ rfl (.inl (Below.refl _ _))
          revert hh
          go_simp
        refine owed_cons (fun vs u hS hD N => ?_) ?_
        · have d11 := hD 11 (by decide)
          simp only [fact, layAt, depOn, dstOf, List.map_cons, List.map_nil, List.foldl_cons, List.foldl_nil, List.getD_cons_zero, List.getD_cons_succ, List.getElem?_cons_zero, List.getElem?_cons_succ, Option.bind_some] at d11
          have d12 := hD 12 (by decide)
          simp only [fact, layAt, depOn, dstOf, List.map_cons, List.map_nil, List.foldl_cons, List.foldl_nil, List.getD_cons_zero, List.getD_cons_succ, List.getElem?_cons_zero, List.getElem?_cons_succ, Option.bind_some] at d12
          clear hD
          intro hN
          simp only [fact, layAt, depOn, dstOf, List.map_cons, List.map_nil, List.foldl_cons, List.foldl_nil, List.getD_cons_zero, List.getD_cons_succ, List.getElem?_cons_zero, List.getElem?_cons_succ, Option.bind_some, d11, d12] at hN ⊢
          go_simp
          have hh := hN _ _ rfl (.inl (Below.refl _ _))
          revert hh
          go_simp
        refine owed_cons (fun vs u hS hD N => ?_) ?_
        · have d11 := hD 11 (by decide)
          simp only [fact, layAt, depOn, dstOf, List.map_cons, List.map_nil, List.foldl_cons, List.foldl_nil, List.getD_cons_zero, List.getD_cons_succ, List.getElem?_cons_zero, List.getElem?_cons_succ, Option.bind_some] at d11
          clear hD
          intro hN
          simp only [fact, layAt, depOn, dstOf, List.map_cons, List.map_nil, List.foldl_cons, List.foldl_nil, List.getD_cons_zero, List.getD_cons_succ, List.getElem?_cons_zero, List.getElem?_cons_succ, Option.bind_some, d11] at hN ⊢
          go_simp
          have hh := hN _ _ rfl (.inl (Below.refl _ _))
          revert hh
          go_simp
        refine owed_cons (fun vs u hS hD N => ?_) ?_
        · have d11 := hD 11 (by decide)
          simp only [fact, layAt, depOn, dstOf, List.map_cons, List.map_nil, List.foldl_cons, List.foldl_nil, List.getD_cons_zero, List.getD_cons_succ, List.getElem?_cons_zero, List.getElem?_cons_succ, Option.bind_some] at d11
          have d14 := hD 14 (by decide)
          simp only [fact, layAt, depOn, dstOf, List.map_cons, List.map_nil, List.foldl_cons, List.foldl_nil, List.getD_cons_zero, List.getD_cons_succ, List.getElem?_cons_zero, List.getElem?_cons_succ, Option.bind_some] at d14
          clear hD
          intro hN
          simp only [fact, layAt, depOn, dstOf, List.map_cons, List.map_nil, List.foldl_cons, List.foldl_nil, List.getD_cons_zero, List.getD_cons_succ, List.getElem?_cons_zero, List.getElem?_cons_succ, Option.bind_some, d11, d14] at hN ⊢
          go_simp
          have hh := hN _ _ rfl (.inl (Below.refl _ _))
          revert hh
          go_simp
        refine owed_cons (fun vs u hS hD N => ?_) ?_
        · have d11 := hD 11 (by decide)
          simp only [fact, layAt, depOn, dstOf, List.map_cons, List.map_nil, List.foldl_cons, List.foldl_nil, List.getD_cons_zero, List.getD_cons_succ, List.getElem?_cons_zero, List.getElem?_cons_succ, Option.bind_some] at d11
          have d15 := hD 15 (by decide)
          simp only [fact, layAt, depOn, dstOf, List.map_cons, List.map_nil, List.foldl_cons, List.foldl_nil, List.getD_cons_zero, List.getD_cons_succ, List.getElem?_cons_zero, List.getElem?_cons_succ, Option.bind_some] at d15
          clear hD
          intro hN
          simp only [fact, layAt, depOn, dstOf, List.map_cons, List.map_nil, List.foldl_cons, List.foldl_nil, List.getD_cons_zero, List.getD_cons_succ, List.getElem?_cons_zero, List.getElem?_cons_succ, Option.bind_some, d11, d15] at hN ⊢
          go_simp
          have hh := hN _ _ rfl (.inl (Below.refl _ _))
          revert hh
          go_simp
        refine owed_cons (fun vs u hS hD N => ?_) ?_
        · have d11 := hD 11 (by decide)
          simp only [fact, layAt, depOn, dstOf, List.map_cons, List.map_nil, List.foldl_cons, List.foldl_nil, List.getD_cons_zero, List.getD_cons_succ, List.getElem?_cons_zero, List.getElem?_cons_succ, Option.bind_some] at d11
          have d13 := hD 13 (by decide)
          simp only [fact, layAt, depOn, dstOf, List.map_cons, List.map_nil, List.foldl_cons, List.foldl_nil, List.getD_cons_zero, List.getD_cons_succ, List.getElem?_cons_zero, List.getElem?_cons_succ, Option.bind_some] at d13
          have d16 := hD 16 (by decide)
          simp only [fact, layAt, depOn, dstOf, List.map_cons, List.map_nil, List.foldl_cons, List.foldl_nil, List.getD_cons_zero, List.getD_cons_succ, List.getElem?_cons_zero, List.getElem?_cons_succ, Option.bind_some] at d16
          clear hD
          intro hN
          simp only [fact, layAt, depOn, dstOf, List.map_cons, List.map_nil, List.foldl_cons, List.foldl_nil, List.getD_cons_zero, List.getD_cons_succ, List.getElem?_cons_zero, List.getElem?_cons_succ, Option.bind_some, d11, d13, d16] at hN ⊢
          go_simp
          have hh := hN _ _ rfl (.inl (Below.refl _ _))
          revert hh
          go_simp
        refine owed_cons (fun vs u hS hD N => ?_) ?_
        · have d11 := hD 11 (by decide)
          simp only [fact, layAt, depOn, dstOf, List.map_cons, List.map_nil, List.foldl_cons, List.foldl_nil, List.getD_cons_zero, List.getD_cons_succ, List.getElem?_cons_zero, List.getElem?_cons_succ, Option.bind_some] at d11
          have d17 := hD 17 (by decide)
          simp only [fact, layAt, depOn, dstOf, List.map_cons, List.map_nil, List.foldl_cons, List.foldl_nil, List.getD_cons_zero, List.getD_cons_succ, List.getElem?_cons_zero, List.getElem?_cons_succ, Option.bind_some] at d17
          clear hD
          intro hN
          simp only [fact, layAt, depOn, dstOf, List.map_cons, List.map_nil, List.foldl_cons, List.foldl_nil, List.getD_cons_zero, List.getD_cons_succ, List.getElem?_cons_zero, List.getElem?_cons_succ, Option.bind_some, d11, d17] at hN ⊢
          go_simp
          have hh := hN _ _ rfl (.inl (Below.refl _ _))
          revert hh
          go_simp
        refine owed_cons (fun vs u hS hD N => ?_) ?_
        · have d18 := hD 18 (by decide)
          simp only [fact, layAt, depOn, dstOf, List.map_cons, List.map_nil, List.foldl_cons, List.foldl_nil, List.getD_cons_zero, List.getD_cons_succ, List.getElem?_cons_zero, List.getElem?_cons_succ, Option.bind_some] at d18
          clear hD
          intro hN
          simp only [fact, layAt, depOn, dstOf, List.map_cons, List.map_nil, List.foldl_cons, List.foldl_nil, List.getD_cons_zero, List.getD_cons_succ, List.getElem?_cons_zero, List.getElem?_cons_succ, Option.bind_some, d18] at hN ⊢
          go_simp
          have hh := hN _ _ rfl (.inl (Below.refl _ _))
          revert hh
          go_simp
        refine owed_cons (fun vs u hS hD N => ?_) ?_
        · have d19 := hD 19 (by decide)
          simp only [fact, layAt, depOn, dstOf, List.map_cons, List.map_nil, List.foldl_cons, List.foldl_nil, List.getD_cons_zero, List.getD_cons_succ, List.getElem?_cons_zero, List.getElem?_cons_succ, Option.bind_some] at d19
          clear hD
          intro hN
          simp only [fact, layAt, depOn, dstOf, List.map_cons, List.map_nil, List.foldl_cons, List.foldl_nil, List.getD_cons_zero, List.getD_cons_succ, List.getElem?_cons_zero, List.getElem?_cons_succ, Option.bind_some, d19] at hN ⊢
          go_simp
          have hh := hN _ _ rfl (.inl (Below.refl _ _))
          revert hh
          go_simp
        refine owed_cons (fun vs u hS hD N => ?_) ?_
        · have d19 := hD 19 (by decide)
          simp only [fact, layAt, depOn, dstOf, List.map_cons, List.map_nil, List.foldl_cons, List.foldl_nil, List.getD_cons_zero, List.getD_cons_succ, List.getElem?_cons_zero, List.getElem?_cons_succ, Option.bind_some] at d19
          have d20 := hD 20 (by decide)
          simp only [fact, layAt, depOn, dstOf, List.map_cons, List.map_nil, List.foldl_cons, List.foldl_nil, List.getD_cons_zero, List.getD_cons_succ, List.getElem?_cons_zero, List.getElem?_cons_succ, Option.bind_some] at d20
          clear hD
          intro hN
          simp only [fact, layAt, depOn, dstOf, List.map_cons, List.map_nil, List.foldl_cons, List.foldl_nil, List.getD_cons_zero, List.getD_cons_succ, List.getElem?_cons_zero, List.getElem?_cons_succ, Option.bind_some, d19, d20] at hN ⊢
          go_simp
          have hh := hN _ _ rfl (.inl (Below.refl _ _))
          revert hh
          go_simp
        refine owed_cons (fun vs u hS hD N => ?_) ?_
        · have d19 := hD 19 (by decide)
          simp only [fact, layAt, depOn, dstOf, List.map_cons, List.map_nil, List.foldl_cons, List.foldl_nil, List.getD_cons_zero, List.getD_cons_succ, List.getElem?_cons_zero, List.getElem?_cons_succ, Option.bind_some] at d19
          have d21 := hD 21 (by decide)
          simp only [fact, layAt, depOn, dstOf, List.map_cons, List.map_nil, List.foldl_cons, List.foldl_nil, List.getD_cons_zero, List.getD_cons_succ, List.getElem?_cons_zero, List.getElem?_cons_succ, Option.bind_some] at d21
          clear hD
          intro hN
          simp only [fact, layAt, depOn, dstOf, List.map_cons, List.map_nil, List.foldl_cons, List.foldl_nil, List.getD_cons_zero, List.getD_cons_succ, List.getElem?_cons_zero, List.getElem?_cons_succ, Option.bind_some, d19, d21] at hN ⊢
          go_simp
          have hh := hN _ _ rfl (.inl (Below.refl _ _))
          revert hh
          go_simp
        refine owed_cons (fun vs u hS hD N => ?_) ?_
        · have d22 := hD 22 (by decide)
          simp only [fact, layAt, depOn, dstOf, List.map_cons, List.map_nil, List.foldl_cons, List.foldl_nil, List.getD_cons_zero, List.getD_cons_succ, List.getElem?_cons_zero, List.getElem?_cons_succ, Option.bind_some] at d22
          clear hD
          intro hN
          simp only [fact, layAt, depOn, dstOf, List.map_cons, List.map_nil, List.foldl_cons, List.foldl_nil, List.getD_cons_zero, List.getD_cons_succ, List.getElem?_cons_zero, List.getElem?_cons_succ, Option.bind_some, d22] at hN ⊢
          go_simp
          have hh := hN _ _ rfl (.inl (Below.refl _ _))
          revert hh
          go_simp
        refine owed_cons (fun vs u hS hD N => ?_) ?_
        · have d22 := hD 22 (by decide)
          simp only [fact, layAt, depOn, dstOf, List.map_cons, List.map_nil, List.foldl_cons, List.foldl_nil, List.getD_cons_zero, List.getD_cons_succ, List.getElem?_cons_zero, List.getElem?_cons_succ, Option.bind_some] at d22
          have d23 := hD 23 (by decide)
          simp only [fact, layAt, depOn, dstOf, List.map_cons, List.map_nil, List.foldl_cons, List.foldl_nil, List.getD_cons_zero, List.getD_cons_succ, List.getElem?_cons_zero, List.getElem?_cons_succ, Option.bind_some] at d23
          clear hD
          intro hN
          simp only [fact, layAt, depOn, dstOf, List.map_cons, List.map_nil, List.foldl_cons, List.foldl_nil, List.getD_cons_zero, List.getD_cons_succ, List.getElem?_cons_zero, List.getElem?_cons_succ, Option.bind_some, d22, d23] at hN ⊢
          go_simp
          have hh := hN _ _ rfl (.inl (Below.refl _ _))
          revert hh
          go_simp
        refine owed_cons (fun vs u hS hD N => ?_) ?_
        · have d22 := hD 22 (by decide)
          simp only [fact, layAt, depOn, dstOf, List.map_cons, List.map_nil, List.foldl_cons, List.foldl_nil, List.getD_cons_zero, List.getD_cons_succ, List.getElem?_cons_zero, List.getElem?_cons_succ, Option.bind_some] at d22
          clear hD
          intro hN
          simp only [fact, layAt, depOn, dstOf, List.map_cons, List.map_nil, List.foldl_cons, List.foldl_nil, List.getD_cons_zero, List.getD_cons_succ, List.getElem?_cons_zero, List.getElem?_cons_succ, Option.bind_some, d22] at hN ⊢
          go_simp
          have hh := hN _ _ rfl (.inl (Below.refl _ _))
          revert hh
          go_simp
        refine owed_cons (fun vs u hS hD N => ?_) ?_
        · have d22 := hD 22 (by decide)
          simp only [fact, layAt, depOn, dstOf, List.map_cons, List.map_nil, List.foldl_cons, List.foldl_nil, List.getD_cons_zero, List.getD_cons_succ, List.getElem?_cons_zero, List.getElem?_cons_succ, Option.bind_some] at d22
          have d25 := hD 25 (by decide)
          simp only [fact, layAt, depOn, dstOf, List.map_cons, List.map_nil, List.foldl_cons, List.foldl_nil, List.getD_cons_zero, List.getD_cons_succ, List.getElem?_cons_zero, List.getElem?_cons_succ, Option.bind_some] at d25
          clear hD
          intro hN
          simp only [fact, layAt, depOn, dstOf, List.map_cons, List.map_nil, List.foldl_cons, List.foldl_nil, List.getD_cons_zero, List.getD_cons_succ, List.getElem?_cons_zero, List.getElem?_cons_succ, Option.bind_some, d22, d25] at hN ⊢
          go_simp
          have hh := hN _ _ rfl (.inl (Below.refl _ _))
          revert hh
          go_simp
        refine owed_cons (fun vs u hS hD N => ?_) ?_
        · have d22 := hD 22 (by decide)
          simp only [fact, layAt, depOn, dstOf, List.map_cons, List.map_nil, List.foldl_cons, List.foldl_nil, List.getD_cons_zero, List.getD_cons_succ, List.getElem?_cons_zero, List.getElem?_cons_succ, Option.bind_some] at d22
          have d24 := hD 24 (by decide)
          simp only [fact, layAt, depOn, dstOf, List.map_cons, List.map_nil, List.foldl_cons, List.foldl_nil, List.getD_cons_zero, List.getD_cons_succ, List.getElem?_cons_zero, List.getElem?_cons_succ, Option.bind_some] at d24
          have d26 := hD 26 (by decide)
          simp only [fact, layAt, depOn, dstOf, List.map_cons, List.map_nil, List.foldl_cons, List.foldl_nil, List.getD_cons_zero, List.getD_cons_succ, List.getElem?_cons_zero, List.getElem?_cons_succ, Option.bind_some] at d26
          clear hD
          intro hN
          simp only [fact, layAt, depOn, dstOf, List.map_cons, List.map_nil, List.foldl_cons, List.foldl_nil, List.getD_cons_zero, List.getD_cons_succ, List.getElem?_cons_zero, List.getElem?_cons_succ, Option.bind_some, d22, d24, d26] at hN ⊢
          go_simp
          have hh := hN _ _ rfl (.inl (Below.refl _ _))
          revert hh
          go_simp
        refine owed_cons (fun vs u hS hD N => ?_) ?_
        · have d22 := hD 22 (by decide)
          simp only [fact, layAt, depOn, dstOf, List.map_cons, List.map_nil, List.foldl_cons, List.foldl_nil, List.getD_cons_zero, List.getD_cons_succ, List.getElem?_cons_zero, List.getElem?_cons_succ, Option.bind_some] at d22
          clear hD
          intro hN
          simp only [fact, layAt, depOn, dstOf, List.map_cons, List.map_nil, List.foldl_cons, List.foldl_nil, List.getD_cons_zero, List.getD_cons_succ, List.getElem?_cons_zero, List.getElem?_cons_succ, Option.bind_some, d22] at hN ⊢
          go_simp
          have hh := hN _ _ rfl (.inl (Below.refl _ _))
          revert hh
          go_simp
        refine owed_cons (fun vs u hS hD N => ?_) ?_
        · have d22 := hD 22 (by decide)
          simp only [fact, layAt, depOn, dstOf, List.map_cons, List.map_nil, List.foldl_cons, List.foldl_nil, List.getD_cons_zero, List.getD_cons_succ, List.getElem?_cons_zero, List.getElem?_cons_succ, Option.bind_some] at d22
          clear hD
          intro hN
          simp only [fact, layAt, depOn, dstOf, List.map_cons, List.map_nil, List.foldl_cons, List.foldl_nil, List.getD_cons_zero, List.getD_cons_succ, List.getElem?_cons_zero, List.getElem?_cons_succ, Option.bind_some, d22] at hN ⊢
          go_simp
          have hh := hN _ _ rfl (.inl (Below.refl _ _))
          revert hh
          go_simp
        refine owed_cons (fun vs u hS hD N => ?_) ?_
        · have d22 := hD 22 (by decide)
          simp only [fact, layAt, depOn, dstOf, List.map_cons, List.map_nil, List.foldl_cons, List.foldl_nil, List.getD_cons_zero, List.getD_cons_succ, List.getElem?_cons_zero, List.getElem?_cons_succ, Option.bind_some] at d22
          have d28 := hD 28 (by decide)
          simp only [fact, layAt, depOn, dstOf, List.map_cons, List.map_nil, List.foldl_cons, List.foldl_nil, List.getD_cons_zero, List.getD_cons_succ, List.getElem?_cons_zero, List.getElem?_cons_succ, Option.bind_some] at d28
          have d29 := hD 29 (by decide)
          simp only [fact, layAt, depOn, dstOf, List.map_cons, List.map_nil, List.foldl_cons, List.foldl_nil, List.getD_cons_zero, List.getD_cons_succ, List.getElem?_cons_zero, List.getElem?_cons_succ, Option.bind_some] at d29
          clear hD
          intro hN
          simp only [fact, layAt, depOn, dstOf, List.map_cons, List.map_nil, List.foldl_cons, List.foldl_nil, List.getD_cons_zero, List.getD_cons_succ, List.getElem?_cons_zero, List.getElem?_cons_succ, Option.bind_some, d22, d28, d29] at hN ⊢
          go_simp
          have hh := hN _ _ rfl (.inl (Below.refl _ _))
          revert hh
          go_simp
        refine owed_cons (fun vs u hS hD N => ?_) ?_
        · have d22 := hD 22 (by decide)
          simp only [fact, layAt, depOn, dstOf, List.map_cons, List.map_nil, List.foldl_cons, List.foldl_nil, List.getD_cons_zero, List.getD_cons_succ, List.getElem?_cons_zero, List.getElem?_cons_succ, Option.bind_some] at d22
          have d27 := hD 27 (by decide)
          simp only [fact, layAt, depOn, dstOf, List.map_cons, List.map_nil, List.foldl_cons, List.foldl_nil, List.getD_cons_zero, List.getD_cons_succ, List.getElem?_cons_zero, List.getElem?_cons_succ, Option.bind_some] at d27
          have d30 := hD 30 (by decide)
          simp only [fact, layAt, depOn, dstOf, List.map_cons, List.map_nil, List.foldl_cons, List.foldl_nil, List.getD_cons_zero, List.getD_cons_succ, List.getElem?_cons_zero, List.getElem?_cons_succ, Option.bind_some] at d30
          clear hD
          intro hN
          simp only [fact, layAt, depOn, dstOf, List.map_cons, List.map_nil, List.foldl_cons, List.foldl_nil, List.getD_cons_zero, List.getD_cons_succ, List.getElem?_cons_zero, List.getElem?_cons_succ, Option.bind_some, d22, d27, d30] at hN ⊢
          go_simp
          have hh := hN _ _ rfl (.inl (Below.refl _ _))
          revert hh
          go_simp
        refine owed_cons (fun vs u hS hD N => ?_) ?_
        · have d19 := hD 19 (by decide)
          simp only [fact, layAt, depOn, dstOf, List.map_cons, List.map_nil, List.foldl_cons, List.foldl_nil, List.getD_cons_zero, List.getD_cons_succ, List.getElem?_cons_zero, List.getElem?_cons_succ, Option.bind_some] at d19
          have d22 := hD 22 (by decide)
          simp only [fact, layAt, depOn, dstOf, List.map_cons, List.map_nil, List.foldl_cons, List.foldl_nil, List.getD_cons_zero, List.getD_cons_succ, List.getElem?_cons_zero, List.getElem?_cons_succ, Option.bind_some] at d22
          have d31 := hD 31 (by decide)
          simp only [fact, layAt, depOn, dstOf, List.map_cons, List.map_nil, List.foldl_cons, List.foldl_nil, List.getD_cons_zero, List.getD_cons_succ, List.getElem?_cons_zero, List.getElem?_cons_succ, Option.bind_some] at d31
          clear hD
          intro hN
          simp only [fact, layAt, depOn, dstOf, List.map_cons, List.map_nil, List.foldl_cons, List.foldl_nil, List.getD_cons_zero, List.getD_cons_succ, List.getElem?_cons_zero, List.getElem?_cons_succ, Option.bind_some, d19, d22, d31] at hN ⊢
          go_simp
          have hh := hN _ _ rfl (.inl (Below.refl _ _))
          revert hh
          go_simp
        refine owed_cons (fun vs u hS hD N => ?_) ?_
        · have d19 := hD 19 (by decide)
          simp only [fact, layAt, depOn, dstOf, List.map_cons, List.map_nil, List.foldl_cons, List.foldl_nil, List.getD_cons_zero, List.getD_cons_succ, List.getElem?_cons_zero, List.getElem?_cons_succ, Option.bind_some] at d19
          have d32 := hD 32 (by decide)
          simp only [fact, layAt, depOn, dstOf, List.map_cons, List.map_nil, List.foldl_cons, List.foldl_nil, List.getD_cons_zero, List.getD_cons_succ, List.getElem?_cons_zero, List.getElem?_cons_succ, Option.bind_some] at d32
          clear hD
          intro hN
          simp only [fact, layAt, depOn, dstOf, List.map_cons, List.map_nil, List.foldl_cons, List.foldl_nil, List.getD_cons_zero, List.getD_cons_succ, List.getElem?_cons_zero, List.getElem?_cons_succ, Option.bind_some, d19, d32] at hN ⊢
          go_simp
          have hh := hN _ _ rfl (.inl (Below.refl _ _))
          revert hh
          go_simp
        refine owed_cons (fun vs u hS hD N => ?_) ?_
        · have d33 := hD 33 (by decide)
          simp only [fact, layAt, depOn, dstOf, List.map_cons, List.map_nil, List.foldl_cons, List.foldl_nil, List.getD_cons_zero, List.getD_cons_succ, List.getElem?_cons_zero, List.getElem?_cons_succ, Option.bind_some] at d33
          clear hD
          intro hN
          simp only [fact, layAt, depOn, dstOf, List.map_cons, List.map_nil, List.foldl_cons, List.foldl_nil, List.getD_cons_zero, List.getD_cons_succ, List.getElem?_cons_zero, List.getElem?_cons_succ, Option.bind_some, d33] at hN ⊢
          go_simp
          have hh := hN _ _ rfl (.inl (Below.refl _ _))
          revert hh
          go_simp
        refine owed_cons (fun vs u hS hD N => ?_) ?_
        · have d34 := hD 34 (by decide)
          simp only [fact, layAt, depOn, dstOf, List.map_cons, List.map_nil, List.foldl_cons, List.foldl_nil, List.getD_cons_zero, List.getD_cons_succ, List.getElem?_cons_zero, List.getElem?_cons_succ, Option.bind_some] at d34
          clear hD
          intro hN
          simp only [fact, layAt, depOn, dstOf, List.map_cons, List.map_nil, List.foldl_cons, List.foldl_nil, List.getD_cons_zero, List.getD_cons_succ, List.getElem?_cons_zero, List.getElem?_cons_succ, Option.bind_some, d34] at hN ⊢
          go_simp
          refine (awake12_any u).mono ?_
          rintro e u1 ⟨rfl, f⟩
          have hh := hN _ _ rfl (.inl f)
          revert hh
          go_simp
        refine owed_cons (fun vs u hS hD N => ?_) ?_
        · have d34 := hD 34 (by decide)
          simp only [fact, layAt, depOn, dstOf, List.map_cons, List.map_nil, List.foldl_cons, List.foldl_nil, List.getD_cons_zero, List.getD_cons_succ, List.getElem?_cons_zero, List.getElem?_cons_succ, Option.bind_some] at d34
          have d35 := hD 35 (by decide)
          simp only [fact, layAt, depOn, dstOf, List.map_cons, List.map_nil, List.foldl_cons, List.foldl_nil, List.getD_cons_zero, List.getD_cons_succ, List.getElem?_cons_zero, List.getElem?_cons_succ, Option.bind_some] at d35
          clear hD
          intro hN
          simp only [fact, layAt, depOn, dstOf, List.map_cons, List.map_nil, List.foldl_cons, List.foldl_nil, List.getD_cons_zero, List.getD_cons_succ, List.getElem?_cons_zero, List.getElem?_cons_succ, Option.bind_some, d34, d35] at hN ⊢
          go_simp
          have hh := hN _ _ rfl (.inl (Below.refl _ _))
          revert hh
          go_simp
        refine owed_cons (fun vs u hS hD N => ?_) ?_
        · have d36 := hD 36 (by decide)
          simp only [fact, layAt, depOn, dstOf, List.map_cons, List.map_nil, List.foldl_cons, List.foldl_nil, List.getD_cons_zero, List.getD_cons_succ, List.getElem?_cons_zero, List.getElem?_cons_succ, Option.bind_some] at d36
          clear hD
          intro hN
          simp only [fact, layAt, depOn, dstOf, List.map_cons, List.map_nil, List.foldl_cons, List.foldl_nil, List.getD_cons_zero, List.getD_cons_succ, List.getElem?_cons_zero, List.getElem?_cons_succ, Option.bind_some, d36] at hN ⊢
          go_simp
          have hh := hN _ _ rfl (.inl (Below.refl _ _))
          revert hh
          go_simp
        exact owed_nil
      ·
        intro vs u hS hF
        have d37 := hF 37 (by decide) (by decide)
        simp only [fact, layAt, depOn, dstOf, List.map_cons, List.map_nil, List.foldl_cons, List.foldl_nil, List.getD_cons_zero, List.getD_cons_succ, List.getElem?_cons_zero, List.getElem?_cons_succ, Option.bind_some] at d37
        clear hF
        simp only [List.length_cons, List.length_nil, Nat.reduceAdd, List.range, List.range.loop, fact, layAt, depOn, dstOf, List.map_cons, List.map_nil, List.foldl_cons, List.foldl_nil, List.getD_cons_zero, List.getD_cons_succ, List.getElem?_cons_zero, List.getElem?_cons_succ, Option.bind_some, d37]
        go_simp
        go_wp2_with fail
        go_ret
        exact ⟨rfl, f1.trans (hS.mono f1.size)⟩
    · go_wp2_with fail
      refine (encode_yes q _ wf (HQ.out wf f1) okq hmq).mono ?_
      rintro e wq ⟨A8, c8, rfl, ox, f2⟩
      have hsb := DS.out hmq
      obtain ⟨sb, hsb2⟩ : ∃ z, decide (p = q) = z := ⟨_, rfl⟩
      rw [hsb2] at hsb
      generalize poB q = TS at *
      generalize hLS : TS.length = LS at *
      have HSQ := Lib.hid hsb; clear hsb
      have rs := ox.rd
      clear b0 b1 b2 b3 b4
      have lka := ka.lt
      have lkb := kb.lt
      have lku := ku.lt
      replace ka := ka.below f2 lka
      replace kb := kb.below f2 lkb
      replace ku := ku.below f2 lku
      replace ow := ow.below (Nat.le_refl _) f2
      replace f1 := f1.trans (f2.mono f1.size)
      replace fX := fX.trans (f2.mono fX.size)
      have rb := ow.rd
      clear f2 DS ow ox
      have C1 := fun (u : World) (hu : Below wq.heap.size wq u) => same12_any p p _ _ u (HX.out u (fX.trans (hu.mono fX.size))) (HP.out u (f1.trans (hu.mono f1.size))) okp okp
      rw [decide_eq_true (rfl : p = p)] at C1
      have C2 := fun (u : World) (hu : Below wq.heap.size wq u) => same12_any p q _ _ u (HP.out u (f1.trans (hu.mono f1.size))) (HQ.out u (f1.trans (hu.mono f1.size))) okp okq
      rw [hsb2] at C2
      have EE : ∀ u, Below wq.heap.size wq u → CsS [(⟨w.heap.size, 0, none⟩, .int .u64 p0), (⟨w.heap.size, 1, none⟩, .string p1), (⟨w.heap.size, 2, none⟩, .int .u64 p2), (⟨w.heap.size, 3, none⟩, .int .i64 p3), (⟨w.heap.size, 4, none⟩, .slice p4 p5 p6), (⟨(w.heap.size + 1), 0, none⟩, .int .u64 q0), (⟨(w.heap.size + 1), 1, none⟩, .string q1), (⟨(w.heap.size + 1), 2, none⟩, .int .u64 q2), (⟨(w.heap.size + 1), 3, none⟩, .int .i64 q3), (⟨(w.heap.size + 1), 4, none⟩, .slice q4 q5 q6), (⟨gx, 0, none⟩, .int .u64 u0), (⟨gx, 1, none⟩, .string u1), (⟨gx, 2, none⟩, .int .u64 u2), (⟨gx, 3, none⟩, .int .i64 u3), (⟨gx, 4, none⟩, .slice u4 u5 u6)] u := fun u hu => CsS.below (u := wq) ⟨ka.cell 0, ka.cell 1, ka.cell 2, ka.cell 3, ka.cell 4, kb.cell 0, kb.cell 1, kb.cell 2, kb.cell 3, kb.cell 4, ku.cell 0, ku.cell 1, ku.cell 2, ku.cell 3, ku.cell 4, trivial⟩ hu
      go_upto_region 17 with fail
      refine wp_region_facts (fun u => Below wq.heap.size wq u) [
          fun v _ => v = .int .i64 0,
          fun v _ => v = .bool true,
          fun v _ => v = .bool true,
          fun v _ => v = .agg #[.int .u64 u0, .string u1, .int .u64 u2, .int .i64 u3, .slice u4 u5 u6],
          fun v _ => v = .agg #[.int .u64 p0, .string p1, .int .u64 p2, .int .i64 p3, .slice p4 p5 p6],
          fun v _ => v = .bool true,
          fun v _ => v = .bool true,
          fun v _ => v = .bool true,
          fun v _ => v = .int .i64 2,
          fun v _ => v = .bool true,
          fun v _ => v = .bool true,
          fun v _ => v = .bool true,
          fun v _ => v = .int .i64 (ex : Int),
          fun v _ => v = .bool hz,
          fun v _ => v = .slice A n c,
          fun v _ => v = .int .i64 (n : Int),
          fun v _ => v = .bool hz,
          fun v _ => v = .bool true,
          fun v _ => v = .bool true,
          fun v _ => v = .bool true,
          fun v _ => v = .int .i64 0,
          fun v _ => v = .bool false,
          fun v _ => v = .bool false,
          fun v _ => v = .slice A1 L c1,
          fun v _ => v = .string (strB TB),
          fun v _ => v = .slice A8 LS c8,
          fun v _ => v = .string (strB TS),
          fun v _ => v = .bool sb,
          fun v _ => v = .agg #[.int .u64 p0, .string p1, .int .u64 p2, .int .i64 p3, .slice p4 p5 p6],
          fun v _ => v = .agg #[.int .u64 q0, .string q1, .int .u64 q2, .int .i64 q3, .slice q4 q5 q6],
          fun v _ => v = .bool sb,
          fun v _ => v = .bool true,
          fun v _ => v = .bool true,
          fun v _ => v = .bool true,
          fun v _ => v = .bool true,
          fun v _ => v = .bool true,
          fun v _ => v = .bool true,
          fun v _ => v = .bool true] (fun u u' => Below u.heap.size u u')
          [[], [0], [1], [2], [2], [2, 3, 4], [2, 5], [6], [7], [7, 8], [7, 9], [10], [11], [11, 12], [11], [11, 14], [11, 15], [11, 13, 16], [11, 17], [18], [19], [19, 20], [19, 21], [22], [22, 23], [22], [22, 25], [22, 24, 26], [22], [22], [22, 28, 29], [22, 27, 30], [19, 22, 31], [19, 32], [33], [34], [34, 35], [36]] []
          (by kernel_rfl) (by kernel_rfl) ?_ (fun _ _ _ _ _ h => h) ((Below.refl _ _).drew) ?_ ?_
      · refine hE_of (fun u u' h f => f.trans (h.mono f.size)) ?_
        repeat' (first | exact mono_nil | refine mono_cons (fun v u u' h => ?_) ?_)
        all_goals first | exact _root_.id
      ·
        refine owed_cons (fun vs u hS hD N => ?_) ?_
        · clear hD
          intro hN
          simp only [fact, layAt, depOn, dstOf, List.map_cons, List.map_nil, List.foldl_cons, List.foldl_nil, List.getD_cons_zero, List.getD_cons_succ, List.getElem?_cons_zero, List.getElem?_cons_succ, Option.bind_some] at hN ⊢
          go_simp
          have hh := hN _ _ rfl (.inl (Below.refl _ _))
          revert hh
          go_simp
        refine owed_cons (fun vs u hS hD N => ?_) ?_
        · have d0 := hD 0 (by decide)
          simp only [fact, layAt, depOn, dstOf, List.map_cons, List.map_nil, List.foldl_cons, List.foldl_nil, List.getD_cons_zero, List.getD_cons_succ, List.getElem?_cons_zero, List.getElem?_cons_succ, Option.bind_some] at d0
          clear hD
          intro hN
          simp only [fact, layAt, depOn, dstOf, List.map_cons, List.map_nil, List.foldl_cons, List.foldl_nil, List.getD_cons_zero, List.getD_cons_succ, List.getElem?_cons_zero, List.getElem?_cons_succ, Option.bind_some, d0] at hN ⊢
          go_simp
          have hh := hN _ _ rfl (.inl (Below.refl _ _))
          revert hh
          go_simp
        refine owed_cons (fun vs u hS hD N => ?_) ?_
        · have d1 := hD 1 (by decide)
          simp only [fact, layAt, depOn, dstOf, List.map_cons, List.map_nil, List.foldl_cons, List.foldl_nil, List.getD_cons_zero, List.getD_cons_succ, List.getElem?_cons_zero, List.getElem?_cons_succ, Option.bind_some] at d1
          clear hD
          intro hN
          simp only [fact, layAt, depOn, dstOf, List.map_cons, List.map_nil, List.foldl_cons, List.foldl_nil, List.getD_cons_zero, List.getD_cons_succ, List.getElem?_cons_zero, List.getElem?_cons_succ, Option.bind_some, d1] at hN ⊢
          go_simp
          have hh := hN _ _ rfl (.inl (Below.refl _ _))
          revert hh
          go_simp
        refine owed_cons (fun vs u hS hD N => ?_) ?_
        · have d2 := hD 2 (by decide)
          simp only [fact, layAt, depOn, dstOf, List.map_cons, List.map_nil, List.foldl_cons, List.foldl_nil, List.getD_cons_zero, List.getD_cons_succ, List.getElem?_cons_zero, List.getElem?_cons_succ, Option.bind_some] at d2
          clear hD
          intro hN
          simp only [fact, layAt, depOn, dstOf, List.map_cons, List.map_nil, List.foldl_cons, List.foldl_nil, List.getD_cons_zero, List.getD_cons_succ, List.getElem?_cons_zero, List.getElem?_cons_succ, Option.bind_some, d2] at hN ⊢
          go_simp
          obtain ⟨a0, a1, a2, a3, a4, b0, b1, b2, b3, b4, x0, x1, x2, x3, x4, _⟩ := EE _ hS
          go_simp
          have hh := hN _ _ rfl (.inl (Below.refl _ _))
          revert hh
          go_simp
        refine owed_cons (fun vs u hS hD N => ?_) ?_
        · have d2 := hD 2 (by decide)
          simp only [fact, layAt, depOn, dstOf, List.map_cons, List.map_nil, List.foldl_cons, List.foldl_nil, List.getD_cons_zero, List.getD_cons_succ, List.getElem?_cons_zero, List.getElem?_cons_succ, Option.bind_some] at d2
          clear hD
          intro hN
          simp only [fact, layAt, depOn, dstOf, List.map_cons, List.map_nil, List.foldl_cons, List.foldl_nil, List.getD_cons_zero, List.getD_cons_succ, List.getElem?_cons_zero, List.getElem?_cons_succ, Option.bind_some, d2] at hN ⊢
          go_simp
          obtain ⟨a0, a1, a2, a3, a4, b0, b1, b2, b3, b4, x0, x1, x2, x3, x4, _⟩ := EE _ hS
          go_simp
          have hh := hN _ _ rfl (.inl (Below.refl _ _))
          revert hh
          go_simp
        refine owed_cons (fun vs u hS hD N => ?_) ?_
        · have d2 := hD 2 (by decide)
          simp only [fact, layAt, depOn, dstOf, List.map_cons, List.map_nil, List.foldl_cons, List.foldl_nil, List.getD_cons_zero, List.getD_cons_succ, List.getElem?_cons_zero, List.getElem?_cons_succ, Option.bind_some] at d2
          have d3 := hD 3 (by decide)
          simp only [fact, layAt, depOn, dstOf, List.map_cons, List.map_nil, List.foldl_cons, List.foldl_nil, List.getD_cons_zero, List.getD_cons_succ, List.getElem?_cons_zero, List.getElem?_cons_succ, Option.bind_some] at d3
          have d4 := hD 4 (by decide)
          simp only [fact, layAt, depOn, dstOf, List.map_cons, List.map_nil, List.foldl_cons, List.foldl_nil, List.getD_cons_zero, List.getD_cons_succ, List.getElem?_cons_zero, List.getElem?_cons_succ, Option.bind_some] at d4
          clear hD
          intro hN
          simp only [fact, layAt, depOn, dstOf, List.map_cons, List.map_nil, List.foldl_cons, List.foldl_nil, List.getD_cons_zero, List.getD_cons_succ, List.getElem?_cons_zero, List.getElem?_cons_succ, Option.bind_some, d2, d3, d4] at hN ⊢
          go_simp
          refine (C1 u hS).mono ?_
          rintro e u1 ⟨rfl, f⟩
          have hh := hN _ _ rfl (.inl f)
          revert hh
          go_simp
        refine owed_cons (fun vs u hS hD N => ?_) ?_
        · have d2 := hD 2 (by decide)
          simp only [fact, layAt, depOn, dstOf, List.map_cons, List.map_nil, List.foldl_cons, List.foldl_nil, List.getD_cons_zero, List.getD_cons_succ, List.getElem?_cons_zero, List.getElem?_cons_succ, Option.bind_some] at d2
          have d5 := hD 5 (by decide)
          simp only [fact, layAt, depOn, dstOf, List.map_cons, List.map_nil, List.foldl_cons, List.foldl_nil, List.getD_cons_zero, List.getD_cons_succ, List.getElem?_cons_zero, List.getElem?_cons_succ, Option.bind_some] at d5
          clear hD
          intro hN
          simp only [fact, layAt, depOn, dstOf, List.map_cons, List.map_nil, List.foldl_cons, List.foldl_nil, List.getD_cons_zero, List.getD_cons_succ, List.getElem?_cons_zero, List.getElem?_cons_succ, Option.bind_some, d2, d5] at hN ⊢
          go_simp
          have hh := hN _ _ rfl (.inl (Below.refl _ _))
          revert hh
          go_simp
        refine owed_cons (fun vs u hS hD N => ?_) ?_
        · have d6 := hD 6 (by decide)
          simp only [fact, layAt, depOn, dstOf, List.map_cons, List.map_nil, List.foldl_cons, List.foldl_nil, List.getD_cons_zero, List.getD_cons_succ, List.getElem?_cons_zero, List.getElem?_cons_succ, Option.bind_some] at d6
          clear hD
          intro hN
          simp only [fact, layAt, depOn, dstOf, List.map_cons, List.map_nil, List.foldl_cons, List.foldl_nil, List.getD_cons_zero, List.getD_cons_succ, List.getElem?_cons_zero, List.getElem?_cons_succ, Option.bind_some, d6] at hN ⊢
          go_simp
          have hh := hN _ _ rfl (.inl (Below.refl _ _))
          revert hh
          go_simp
        refine owed_cons (fun vs u hS hD N => ?_) ?_
        · have d7 := hD 7 (by decide)
          simp only [fact, layAt, depOn, dstOf, List.map_cons, List.map_nil, List.foldl_cons, List.foldl_nil, List.getD_cons_zero, List.getD_cons_succ, List.getElem?_cons_zero, List.getElem?_cons_succ, Option.bind_some] at d7
          clear hD
          intro hN
          simp only [fact, layAt, depOn, dstOf, List.map_cons, List.map_nil, List.foldl_cons, List.foldl_nil, List.getD_cons_zero, List.getD_cons_succ, List.getElem?_cons_zero, List.getElem?_cons_succ, Option.bind_some, d7] at hN ⊢
          go_simp
          have hh := hN _ _ rfl (.inl (Below.refl _ _))
          revert hh
          go_simp
        refine owed_cons (fun vs u hS hD N => ?_) ?_
        · have d7 := hD 7 (by decide)
          simp only [fact, layAt, depOn, dstOf, List.map_cons, List.map_nil, List.foldl_cons, List.foldl_nil, List.getD_cons_zero, List.getD_cons_succ, List.getElem?_cons_zero, List.getElem?_cons_succ, Option.bind_some] at d7
          have d8 := hD 8 (by decide)
          simp only [fact, layAt, depOn, dstOf, List.map_cons, List.map_nil, List.foldl_cons, List.foldl_nil, List.getD_cons_zero, List.getD_cons_succ, List.getElem?_cons_zero, List.getElem?_cons_succ, Option.bind_some] at d8
          clear hD
          intro hN
          simp only [fact, layAt, depOn, dstOf, List.map_cons, List.map_nil, List.foldl_cons, List.foldl_nil, List.getD_cons_zero, List.getD_cons_succ, List.getElem?_cons_zero, List.getElem?_cons_succ, Option.bind_some, d7, d8] at hN ⊢
          go_simp
          have hh := hN _ _ rfl (.inl (Below.refl _ _))
          revert hh
          go_simp
        refine owed_cons (fun vs u hS hD N => ?_) ?_
        · have d7 := hD 7 (by decide)
          simp only [fact, layAt, depOn, dstOf, List.map_cons, List.map_nil, List.foldl_cons, List.foldl_nil, List.getD_cons_zero, List.getD_cons_succ, List.getElem?_cons_zero, List.getElem?_cons_succ, Option.bind_some] at d7
          have d9 := hD 9 (by decide)
          simp only [fact, layAt, depOn, dstOf, List.map_cons, List.map_nil, List.foldl_cons, List.foldl_nil, List.getD_cons_zero, List.getD_cons_succ, List.getElem?_cons_zero, List.getElem?_cons_succ, Option.bind_some] at d9
          clear hD
          intro hN
          simp only [fact, layAt, depOn, dstOf, List.map_cons, List.map_nil, List.foldl_cons, List.foldl_nil, List.getD_cons_zero, List.getD_cons_succ, List.getElem?_cons_zero, List.getElem?_cons_succ, Option.bind_some, d7, d9] at hN ⊢
          go_simp
          have hh := hN _ _ rfl (.inl (Below.refl _ _))
          revert hh
          go_simp
        refine owed_cons (fun vs u hS hD N => ?_) ?_
        · have d10 := hD 10 (by decide)
          simp only [fact, layAt, depOn, dstOf, List.map_cons, List.map_nil, List.foldl_cons, List.foldl_nil, List.getD_cons_zero, List.getD_cons_succ, List.getElem?_cons_zero, List.getElem?_cons_succ, Option.bind_some] at d10
          clear hD
          intro hN
          simp only [fact, layAt, depOn, dstOf, List.map_cons, List.map_nil, List.foldl_cons, List.foldl_nil, List.getD_cons_zero, List.getD_cons_succ, List.getElem?_cons_zero, List.getElem?_cons_succ, Option.bind_some, d10] at hN ⊢
          go_simp
          have hh := hN _ _ rfl (.inl (Below.refl _ _))
          revert hh
          go_simp
        refine owed_cons (fun vs u hS hD N => ?_) ?_
        · have d11 := hD 11 (by decide)
          simp only [fact, layAt, depOn, dstOf, List.map_cons, List.map_nil, List.foldl_cons, List.foldl_nil, List.getD_cons_zero, List.getD_cons_succ, List.getElem?_cons_zero, List.getElem?_cons_succ, Option.bind_some] at d11
          clear hD
          intro hN
          simp only [fact, layAt, depOn, dstOf, List.map_cons, List.map_nil, List.foldl_cons, List.foldl_nil, List.getD_cons_zero, List.getD_cons_succ, List.getElem?_cons_zero, List.getElem?_cons_succ, Option.bind_some, d11] at hN ⊢
          go_simp
          have hh := hN _ _ rfl (.inl (Below.refl _ _))
          revert hh
          go_simp
        refine owed_cons (fun vs u hS hD N => ?_) ?_
        · have d11 := hD 11 (by decide)
          simp only [fact, layAt, depOn, dstOf, List.map_cons, List.map_nil, List.foldl_cons, List.foldl_nil, List.getD_cons_zero, List.getD_cons_succ, List.getElem?_cons_zero, List.getElem?_cons_succ, Option.bind_some] at d11
          have d12 := hD 12 (by decide)
          simp only [fact, layAt, depOn, dstOf, List.map_cons, List.map_nil, List.foldl_cons, List.foldl_nil, List.getD_cons_zero, List.getD_cons_succ, List.getElem?_cons_zero, List.getElem?_cons_succ, Option.bind_some] at d12
          clear hD
          intro hN
          simp only [fact, layAt, depOn, dstOf, List.map_cons, List.map_nil, List.foldl_cons, List.foldl_nil, List.getD_cons_zero, List.getD_cons_succ, List.getElem?_cons_zero, List.getElem?_cons_succ, Option.bind_some, d11, d12] at hN ⊢
          go_simp
          have hh := hN _ _ rfl (.inl (Below.refl _ _))
          revert hh
          go_simp
        refine owed_cons (fun vs u hS hD N => ?_) ?_
        · have d11 := hD 11 (by decide)
          simp only [fact, layAt, depOn, dstOf, List.map_cons, List.map_nil, List.foldl_cons, List.foldl_nil, List.getD_cons_zero, List.getD_cons_succ, List.getElem?_cons_zero, List.getElem?_cons_succ, Option.bind_some] at d11
          clear hD
          intro hN
          simp only [fact, layAt, depOn, dstOf, List.map_cons, List.map_nil, List.foldl_cons, List.foldl_nil, List.getD_cons_zero, List.getD_cons_succ, List.getElem?_cons_zero, List.getElem?_cons_succ, Option.bind_some, d11] at hN ⊢
          go_simp
          have hh := hN _ _ rfl (.inl (Below.refl _ _))
          revert hh
          go_simp
        refine owed_cons (fun vs u hS hD N => ?_) ?_
        · have d11 := hD 11 (by decide)
          simp only [fact, layAt, depOn, dstOf, List.map_cons, List.map_nil, List.foldl_cons, List.foldl_nil, List.getD_cons_zero, List.getD_cons_succ, List.getElem?_cons_zero, List.getElem?_cons_succ, Option.bind_some] at d11
          have d14 := hD 14 (by decide)
          simp only [fact, layAt, depOn, dstOf, List.map_cons, List.map_nil, List.foldl_cons, List.foldl_nil, List.getD_cons_zero, List.getD_cons_succ, List.getElem?_cons_zero, List.getElem?_cons_succ, Option.bind_some] at d14
          clear hD
          intro hN
          simp only [fact, layAt, depOn, dstOf, List.map_cons, List.map_nil, List.foldl_cons, List.foldl_nil, List.getD_cons_zero, List.getD_cons_succ, List.getElem?_cons_zero, List.getElem?_cons_succ, Option.bind_some, d11, d14] at hN ⊢
          go_simp
          have hh := hN _ _ rfl (.inl (Below.refl _ _))
          revert hh
          go_simp
        refine owed_cons (fun vs u hS hD N => ?_) ?_
        · have d11 := hD 11 (by decide)
          simp only [fact, layAt, depOn, dstOf, List.map_cons, List.map_nil, List.foldl_cons, List.foldl_nil, List.getD_cons_zero, List.getD_cons_succ, List.getElem?_cons_zero, List.getElem?_cons_succ, Option.bind_some] at d11
          have d15 := hD 15 (by decide)
          simp only [fact, layAt, depOn, dstOf, List.map_cons, List.map_nil, List.foldl_cons, List.foldl_nil, List.getD_cons_zero, List.getD_cons_succ, List.getElem?_cons_zero, List.getElem?_cons_succ, Option.bind_some] at d15
          clear hD
          intro hN
          simp only [fact, layAt, depOn, dstOf, List.map_cons, List.map_nil, List.foldl_cons, List.foldl_nil, List.getD_cons_zero, List.getD_cons_succ, List.getElem?_cons_zero, List.getElem?_cons_succ, Option.bind_some, d11, d15] at hN ⊢
          go_simp
          have hh := hN _ _ rfl (.inl (Below.refl _ _))
          revert hh
          go_simp
        refine owed_cons (fun vs u hS hD N => ?_) ?_
        · have d11 := hD 11 (by decide)
          simp only [fact, layAt, depOn, dstOf, List.map_cons, List.map_nil, List.foldl_cons, List.foldl_nil, List.getD_cons_zero, List.getD_cons_succ, List.getElem?_cons_zero, List.getElem?_cons_succ, Option.bind_some] at d11
          have d13 := hD 13 (by decide)
          simp only [fact, layAt, depOn, dstOf, List.map_cons, List.map_nil, List.foldl_cons, List.foldl_nil, List.getD_cons_zero, List.getD_cons_succ, List.getElem?_cons_zero, List.getElem?_cons_succ, Option.bind_some] at d13
          have d16 := hD 16 (by decide)
          simp only [fact, layAt, depOn, dstOf, List.map_cons, List.map_nil, List.foldl_cons, List.foldl_nil, List.getD_cons_zero, List.getD_cons_succ, List.getElem?_cons_zero, List.getElem?_cons_succ, Option.bind_some] at d16
          clear hD
          intro hN
          simp only [fact, layAt, depOn, dstOf, List.map_cons, List.map_nil, List.foldl_cons, List.foldl_nil, List.getD_cons_zero, List.getD_cons_succ, List.getElem?_cons_zero, List.getElem?_cons_succ, Option.bind_some, d11, d13, d16] at hN ⊢
          go_simp
          have hh := hN _ _ rfl (.inl (Below.refl _ _))
          revert hh
          go_simp
        refine owed_cons (fun vs u hS hD N => ?_) ?_
        · have d11 := hD 11 (by decide)
          simp only [fact, layAt, depOn, dstOf, List.map_cons, List.map_nil, List.foldl_cons, List.foldl_nil, List.getD_cons_zero, List.getD_cons_succ, List.getElem?_cons_zero, List.getElem?_cons_succ, Option.bind_some] at d11
          have d17 := hD 17 (by decide)
          simp only [fact, layAt, depOn, dstOf, List.map_cons, List.map_nil, List.foldl_cons, List.foldl_nil, List.getD_cons_zero, List.getD_cons_succ, List.getElem?_cons_zero, List.getElem?_cons_succ, Option.bind_some] at d17
          clear hD
          intro hN
          simp only [fact, layAt, depOn, dstOf, List.map_cons, List.map_nil, List.foldl_cons, List.foldl_nil, List.getD_cons_zero, List.getD_cons_succ, List.getElem?_cons_zero, List.getElem?_cons_succ, Option.bind_some, d11, d17] at hN ⊢
          go_simp
          have hh := hN _ _ rfl (.inl (Below.refl _ _))
          revert hh
          go_simp
        refine owed_cons (fun vs u hS hD N => ?_) ?_
        · have d18 := hD 18 (by decide)
          simp only [fact, layAt, depOn, dstOf, List.map_cons, List.map_nil, List.foldl_cons, List.foldl_nil, List.getD_cons_zero, List.getD_cons_succ, List.getElem?_cons_zero, List.getElem?_cons_succ, Option.bind_some] at d18
          clear hD
          intro hN
          simp only [fact, layAt, depOn, dstOf, List.map_cons, List.map_nil, List.foldl_cons, List.foldl_nil, List.getD_cons_zero, List.getD_cons_succ, List.getElem?_cons_zero, List.getElem?_cons_succ, Option.bind_some, d18] at hN ⊢
          go_simp
          have hh := hN _ _ rfl (.inl (Below.refl _ _))
          revert hh
          go_simp
        refine owed_cons (fun vs u hS hD N => ?_) ?_
        · have d19 := hD 19 (by decide)
          simp only [fact, layAt, depOn, dstOf, List.map_cons, List.map_nil, List.foldl_cons, List.foldl_nil, List.getD_cons_zero, List.getD_cons_succ, List.getElem?_cons_zero, List.getElem?_cons_succ, Option.bind_some] at d19
          clear hD
          intro hN
          simp only [fact, layAt, depOn, dstOf, List.map_cons, List.map_nil, List.foldl_cons, List.foldl_nil, List.getD_cons_zero, List.getD_cons_succ, List.getElem?_cons_zero, List.getElem?_cons_succ, Option.bind_some, d19] at hN ⊢
          go_simp
          have hh := hN _ _ rfl (.inl (Below.refl _ _))
          revert hh
          go_simp
        refine owed_cons (fun vs u hS hD N => ?_) ?_
        · have d19 := hD 19 (by decide)
          simp only [fact, layAt, depOn, dstOf, List.map_cons, List.map_nil, List.foldl_cons, List.foldl_nil, List.getD_cons_zero, List.getD_cons_succ, List.getElem?_cons_zero, List.getElem?_cons_succ, Option.bind_some] at d19
          have d20 := hD 20 (by decide)
          simp only [fact, layAt, depOn, dstOf, List.map_cons, List.map_nil, List.foldl_cons, List.foldl_nil, List.getD_cons_zero, List.getD_cons_succ, List.getElem?_cons_zero, List.getElem?_cons_succ, Option.bind_some] at d20
          clear hD
          intro hN
          simp only [fact, layAt, depOn, dstOf, List.map_cons, List.map_nil, List.foldl_cons, List.foldl_nil, List.getD_cons_zero, List.getD_cons_succ, List.getElem?_cons_zero, List.getElem?_cons_succ, Option.bind_some, d19, d20] at hN ⊢
          go_simp
          have hh := hN _ _ rfl (.inl (Below.refl _ _))
          revert hh
          go_simp
        refine owed_cons (fun vs u hS hD N => ?_) ?_
        · have d19 := hD 19 (by decide)
          simp only [fact, layAt, depOn, dstOf, List.map_cons, List.map_nil, List.foldl_cons, List.foldl_nil, List.getD_cons_zero, List.getD_cons_succ, List.getElem?_cons_zero, List.getElem?_cons_succ, Option.bind_some] at d19
          have d21 := hD 21 (by decide)
          simp only [fact, layAt, depOn, dstOf, List.map_cons, List.map_nil, List.foldl_cons, List.foldl_nil, List.getD_cons_zero, List.getD_cons_succ, List.getElem?_cons_zero, List.getElem?_cons_succ, Option.bind_some] at d21
          clear hD
          intro hN
          simp only [fact, layAt, depOn, dstOf, List.map_cons, List.map_nil, List.foldl_cons, List.foldl_nil, List.getD_cons_zero, List.getD_cons_succ, List.getElem?_cons_zero, List.getElem?_cons_succ, Option.bind_some, d19, d21] at hN ⊢
          go_simp
          have hh := hN _ _ rfl (.inl (Below.refl _ _))
          revert hh
          go_simp
        refine owed_cons (fun vs u hS hD N => ?_) ?_
        · have d22 := hD 22 (by decide)
          simp only [fact, layAt, depOn, dstOf, List.map_cons, List.map_nil, List.foldl_cons, List.foldl_nil, List.getD_cons_zero, List.getD_cons_succ, List.getElem?_cons_zero, List.getElem?_cons_succ, Option.bind_some] at d22
          clear hD
          intro hN
          simp only [fact, layAt, depOn, dstOf, List.map_cons, List.map_nil, List.foldl_cons, List.foldl_nil, List.getD_cons_zero, List.getD_cons_succ, List.getElem?_cons_zero, List.getElem?_cons_succ, Option.bind_some, d22] at hN ⊢
          go_simp
          have hh := hN _ _ rfl (.inl (Below.refl _ _))
          revert hh
          go_simp
        refine owed_cons (fun vs u hS hD N => ?_) ?_
        · have d22 := hD 22 (by decide)
          simp only [fact, layAt, depOn, dstOf, List.map_cons, List.map_nil, List.foldl_cons, List.foldl_nil, List.getD_cons_zero, List.getD_cons_succ, List.getElem?_cons_zero, List.getElem?_cons_succ, Option.bind_some] at d22
          have d23 := hD 23 (by decide)
          simp only [fact, layAt, depOn, dstOf, List.map_cons, List.map_nil, List.foldl_cons, List.foldl_nil, List.getD_cons_zero, List.getD_cons_succ, List.getElem?_cons_zero, List.getElem?_cons_succ, Option.bind_some] at d23
          clear hD
          intro hN
          simp only [fact, layAt, depOn, dstOf, List.map_cons, List.map_nil, List.foldl_cons, List.foldl_nil, List.getD_cons_zero, List.getD_cons_succ, List.getElem?_cons_zero, List.getElem?_cons_succ, Option.bind_some, d22, d23] at hN ⊢
          rw [if_pos (by rfl)]
          have q := run_str T23 (rb.below hS) c1 9 Tryz.underlying9
          go_simp
          have hh := hN _ _ rfl (.inl (Below.refl _ _))
          revert hh
          go_simp
        refine owed_cons (fun vs u hS hD N => ?_) ?_
        · have d22 := hD 22 (by decide)
          simp only [fact, layAt, depOn, dstOf, List.map_cons, List.map_nil, List.foldl_cons, List.foldl_nil, List.getD_cons_zero, List.getD_cons_succ, List.getElem?_cons_zero, List.getElem?_cons_succ, Option.bind_some] at d22
          clear hD
          intro hN
          simp only [fact, layAt, depOn, dstOf, List.map_cons, List.map_nil, List.foldl_cons, List.foldl_nil, List.getD_cons_zero, List.getD_cons_succ, List.getElem?_cons_zero, List.getElem?_cons_succ, Option.bind_some, d22] at hN ⊢
          go_simp
          have hh := hN _ _ rfl (.inl (Below.refl _ _))
          revert hh
          go_simp
        refine owed_cons (fun vs u hS hD N => ?_) ?_
        · have d22 := hD 22 (by decide)
          simp only [fact, layAt, depOn, dstOf, List.map_cons, List.map_nil, List.foldl_cons, List.foldl_nil, List.getD_cons_zero, List.getD_cons_succ, List.getElem?_cons_zero, List.getElem?_cons_succ, Option.bind_some] at d22
          have d25 := hD 25 (by decide)
          simp only [fact, layAt, depOn, dstOf, List.map_cons, List.map_nil, List.foldl_cons, List.foldl_nil, List.getD_cons_zero, List.getD_cons_succ, List.getElem?_cons_zero, List.getElem?_cons_succ, Option.bind_some] at d25
          clear hD
          intro hN
          simp only [fact, layAt, depOn, dstOf, List.map_cons, List.map_nil, List.foldl_cons, List.foldl_nil, List.getD_cons_zero, List.getD_cons_succ, List.getElem?_cons_zero, List.getElem?_cons_succ, Option.bind_some, d22, d25] at hN ⊢
          rw [if_pos (by rfl)]
          have q := run_str T23 (rs.below hS) c8 9 Tryz.underlying9
          go_simp
          have hh := hN _ _ rfl (.inl (Below.refl _ _))
          revert hh
          go_simp
        refine owed_cons (fun vs u hS hD N => ?_) ?_
        · have d22 := hD 22 (by decide)
          simp only [fact, layAt, depOn, dstOf, List.map_cons, List.map_nil, List.foldl_cons, List.foldl_nil, List.getD_cons_zero, List.getD_cons_succ, List.getElem?_cons_zero, List.getElem?_cons_succ, Option.bind_some] at d22
          have d24 := hD 24 (by decide)
          simp only [fact, layAt, depOn, dstOf, List.map_cons, List.map_nil, List.foldl_cons, List.foldl_nil, List.getD_cons_zero, List.getD_cons_succ, List.getElem?_cons_zero, List.getElem?_cons_succ, Option.bind_some] at d24
          have d26 := hD 26 (by decide)
          simp only [fact, layAt, depOn, dstOf, List.map_cons, List.map_nil, List.foldl_cons, List.foldl_nil, List.getD_cons_zero, List.getD_cons_succ, List.getElem?_cons_zero, List.getElem?_cons_succ, Option.bind_some] at d26
          clear hD
          intro hN
          simp only [fact, layAt, depOn, dstOf, List.map_cons, List.map_nil, List.foldl_cons, List.foldl_nil, List.getD_cons_zero, List.getD_cons_succ, List.getElem?_cons_zero, List.getElem?_cons_succ, Option.bind_some, d22, d24, d26] at hN ⊢
          rw [if_pos (by rfl)]
          go_simp
          rw [HSQ.out]
          have hh := hN _ _ rfl (.inl (Below.refl _ _))
          revert hh
          go_simp
        refine owed_cons (fun vs u hS hD N => ?_) ?_
        · have d22 := hD 22 (by decide)
          simp only [fact, layAt, depOn, dstOf, List.map_cons, List.map_nil, List.foldl_cons, List.foldl_nil, List.getD_cons_zero, List.getD_cons_succ, List.getElem?_cons_zero, List.getElem?_cons_succ, Option.bind_some] at d22
          clear hD
          intro hN
          simp only [fact, layAt, depOn, dstOf, List.map_cons, List.map_nil, List.foldl_cons, List.foldl_nil, List.getD_cons_zero, List.getD_cons_succ, List.getElem?_cons_zero, List.getElem?_cons_succ, Option.bind_some, d22] at hN ⊢
          go_simp
          obtain ⟨a0, a1, a2, a3, a4, b0, b1, b2, b3, b4, x0, x1, x2, x3, x4, _⟩ := EE _ hS
          go_simp
          have hh := hN _ _ rfl (.inl (Below.refl _ _))
          revert hh
          go_simp
        refine owed_cons (fun vs u hS hD N => ?_) ?_
        · have d22 := hD 22 (by decide)
          simp only [fact, layAt, depOn, dstOf, List.map_cons, List.map_nil, List.foldl_cons, List.foldl_nil, List.getD_cons_zero, List.getD_cons_succ, List.getElem?_cons_zero, List.getElem?_cons_succ, Option.bind_some] at d22
          clear hD
          intro hN
          simp only [fact, layAt, depOn, dstOf, List.map_cons, List.map_nil, List.foldl_cons, List.foldl_nil, List.getD_cons_zero, List.getD_cons_succ, List.getElem?_cons_zero, List.getElem?_cons_succ, Option.bind_some, d22] at hN ⊢
          go_simp
          obtain ⟨a0, a1, a2, a3, a4, b0, b1, b2, b3, b4, x0, x1, x2, x3, x4, _⟩ := EE _ hS
          go_simp
          have hh := hN _ _ rfl (.inl (Below.refl _ _))
          revert hh
          go_simp
        refine owed_cons (fun vs u hS hD N => ?_) ?_
        · have d22 := hD 22 (by decide)
          simp only [fact, layAt, depOn, dstOf, List.map_cons, List.map_nil, List.foldl_cons, List.foldl_nil, List.getD_cons_zero, List.getD_cons_succ, List.getElem?_cons_zero, List.getElem?_cons_succ, Option.bind_some] at d22
          have d28 := hD 28 (by decide)
          simp only [fact, layAt, depOn, dstOf, List.map_cons, List.map_nil, List.foldl_cons, List.foldl_nil, List.getD_cons_zero, List.getD_cons_succ, List.getElem?_cons_zero, List.getElem?_cons_succ, Option.bind_some] at d28
          have d29 := hD 29 (by decide)
          simp only [fact, layAt, depOn, dstOf, List.map_cons, List.map_nil, List.foldl_cons, List.foldl_nil, List.getD_cons_zero, List.getD_cons_succ, List.getElem?_cons_zero, List.getElem?_cons_succ, Option.bind_some] at d29
          clear hD
          intro hN
          simp only [fact, layAt, depOn, dstOf, List.map_cons, List.map_nil, List.foldl_cons, List.foldl_nil, List.getD_cons_zero, List.getD_cons_succ, List.getElem?_cons_zero, List.getElem?_cons_succ, Option.bind_some, d22, d28, d29] at hN ⊢
          go_simp
          refine (C2 u hS).mono ?_
          rintro e u1 ⟨rfl, f⟩
          have hh := hN _ _ rfl (.inl f)
          revert hh
          go_simp
        refine owed_cons (fun vs u hS hD N => ?_) ?_
        · have d22 := hD 22 (by decide)
          simp only [fact, layAt, depOn, dstOf, List.map_cons, List.map_nil, List.foldl_cons, List.foldl_nil, List.getD_cons_zero, List.getD_cons_succ, List.getElem?_cons_zero, List.getElem?_cons_succ, Option.bind_some] at d22
          have d27 := hD 27 (by decide)
          simp only [fact, layAt, depOn, dstOf, List.map_cons, List.map_nil, List.foldl_cons, List.foldl_nil, List.getD_cons_zero, List.getD_cons_succ, List.getElem?_cons_zero, List.getElem?_cons_succ, Option.bind_some] at d27
          have d30 := hD 30 (by decide)
          simp only [fact, layAt, depOn, dstOf, List.map_cons, List.map_nil, List.foldl_cons, List.foldl_nil, List.getD_cons_zero, List.getD_cons_succ, List.getElem?_cons_zero, List.getElem?_cons_succ, Option.bind_some] at d30
          clear hD
          intro hN
          simp only [fact, layAt, depOn, dstOf, List.map_cons, List.map_nil, List.foldl_cons, List.foldl_nil, List.getD_cons_zero, List.getD_cons_succ, List.getElem?_cons_zero, List.getElem?_cons_succ, Option.bind_some, d22, d27, d30] at hN ⊢
          go_simp
          have hh := hN _ _ rfl (.inl (Below.refl _ _))
          revert hh
          go_simp
        refine owed_cons (fun vs u hS hD N => ?_) ?_
        · have d19 := hD 19 (by decide)
          simp only [fact, layAt, depOn, dstOf, List.map_cons, List.map_nil, List.foldl_cons, List.foldl_nil, List.getD_cons_zero, List.getD_cons_succ, List.getElem?_cons_zero, List.getElem?_cons_succ, Option.bind_some] at d19
          have d22 := hD 22 (by decide)
          simp only [fact, layAt, depOn, dstOf, List.map_cons, List.map_nil, List.foldl_cons, List.foldl_nil, List.getD_cons_zero, List.getD_cons_succ, List.getElem?_cons_zero, List.getElem?_cons_succ, Option.bind_some] at d22
          have d31 := hD 31 (by decide)
          simp only [fact, layAt, depOn, dstOf, List.map_cons, List.map_nil, List.foldl_cons, List.foldl_nil, List.getD_cons_zero, List.getD_cons_succ, List.getElem?_cons_zero, List.getElem?_cons_succ, Option.bind_some] at d31
          clear hD
          intro hN
          simp only [fact, layAt, depOn, dstOf, List.map_cons, List.map_nil, List.foldl_cons, List.foldl_nil, List.getD_cons_zero, List.getD_cons_succ, List.getElem?_cons_zero, List.getElem?_cons_succ, Option.bind_some, d19, d22, d31] at hN ⊢
          go_simp
          have hh := hN _ _ rfl (.inl (Below.refl _ _))
          revert hh
          go_simp
        refine owed_cons (fun vs u hS hD N => ?_) ?_
        · have d19 := hD 19 (by decide)
          simp only [fact, layAt, depOn, dstOf, List.map_cons, List.map_nil, List.foldl_cons, List.foldl_nil, List.getD_cons_zero, List.getD_cons_succ, List.getElem?_cons_zero, List.getElem?_cons_succ, Option.bind_some] at d19
          have d32 := hD 32 (by decide)
          simp only [fact, layAt, depOn, dstOf, List.map_cons, List.map_nil, List.foldl_cons, List.foldl_nil, List.getD_cons_zero, List.getD_cons_succ, List.getElem?_cons_zero, List.getElem?_cons_succ, Option.bind_some] at d32
          clear hD
          intro hN
          simp only [fact, layAt, depOn, dstOf, List.map_cons, List.map_nil, List.foldl_cons, List.foldl_nil, List.getD_cons_zero, List.getD_cons_succ, List.getElem?_cons_zero, List.getElem?_cons_succ, Option.bind_some, d19, d32] at hN ⊢
          go_simp
          have hh := hN _ _ rfl (.inl (Below.refl _ _))
          revert hh
          go_simp
        refine owed_cons (fun vs u hS hD N => ?_) ?_
        · have d33 := hD 33 (by decide)
          simp only [fact, layAt, depOn, dstOf, List.map_cons, List.map_nil, List.foldl_cons, List.foldl_nil, List.getD_cons_zero, List.getD_cons_succ, List.getElem?_cons_zero, List.getElem?_cons_succ, Option.bind_some] at d33
          clear hD
          intro hN
          simp only [fact, layAt, depOn, dstOf, List.map_cons, List.map_nil, List.foldl_cons, List.foldl_nil, List.getD_cons_zero, List.getD_cons_succ, List.getElem?_cons_zero, List.getElem?_cons_succ, Option.bind_some, d33] at hN ⊢
          go_simp
          have hh := hN _ _ rfl (.inl (Below.refl _ _))
          revert hh
          go_simp
        refine owed_cons (fun vs u hS hD N => ?_) ?_
        · have d34 := hD 34 (by decide)
          simp only [fact, layAt, depOn, dstOf, List.map_cons, List.map_nil, List.foldl_cons, List.foldl_nil, List.getD_cons_zero, List.getD_cons_succ, List.getElem?_cons_zero, List.getElem?_cons_succ, Option.bind_some] at d34
          clear hD
          intro hN
          simp only [fact, layAt, depOn, dstOf, List.map_cons, List.map_nil, List.foldl_cons, List.foldl_nil, List.getD_cons_zero, List.getD_cons_succ, List.getElem?_cons_zero, List.getElem?_cons_succ, Option.bind_some, d34] at hN ⊢
          go_simp
          refine (awake12_any u).mono ?_
          rintro e u1 ⟨rfl, f⟩
          have hh := hN _ _ rfl (.inl f)
          revert hh
          go_simp
        refine owed_cons (fun vs u hS hD N => ?_) ?_
        · have d34 := hD 34 (by decide)
          simp only [fact, layAt, depOn, dstOf, List.map_cons, List.map_nil, List.foldl_cons, List.foldl_nil, List.getD_cons_zero, List.getD_cons_succ, List.getElem?_cons_zero, List.getElem?_cons_succ, Option.bind_some] at d34
          have d35 := hD 35 (by decide)
          simp only [fact, layAt, depOn, dstOf, List.map_cons, List.map_nil, List.foldl_cons, List.foldl_nil, List.getD_cons_zero, List.getD_cons_succ, List.getElem?_cons_zero, List.getElem?_cons_succ, Option.bind_some] at d35
          clear hD
          intro hN
          simp only [fact, layAt, depOn, dstOf, List.map_cons, List.map_nil, List.foldl_cons, List.foldl_nil, List.getD_cons_zero, List.getD_cons_succ, List.getElem?_cons_zero, List.getElem?_cons_succ, Option.bind_some, d34, d35] at hN ⊢
          go_simp
          have hh := hN _ _ rfl (.inl (Below.refl _ _))
          revert hh
          go_simp
        refine owed_cons (fun vs u hS hD N => ?_) ?_
        · have d36 := hD 36 (by decide)
          simp only [fact, layAt, depOn, dstOf, List.map_cons, List.map_nil, List.foldl_cons, List.foldl_nil, List.getD_cons_zero, List.getD_cons_succ, List.getElem?_cons_zero, List.getElem?_cons_succ, Option.bind_some] at d36
          clear hD
          intro hN
          simp only [fact, layAt, depOn, dstOf, List.map_cons, List.map_nil, List.foldl_cons, List.foldl_nil, List.getD_cons_zero, List.getD_cons_succ, List.getElem?_cons_zero, List.getElem?_cons_succ, Option.bind_some, d36] at hN ⊢
          go_simp
          have hh := hN _ _ rfl (.inl (Below.refl _ _))
          revert hh
          go_simp
        exact owed_nil
      ·
        intro vs u hS hF
        have d37 := hF 37 (by decide) (by decide)
        simp only [fact, layAt, depOn, dstOf, List.map_cons, List.map_nil, List.foldl_cons, List.foldl_nil, List.getD_cons_zero, List.getD_cons_succ, List.getElem?_cons_zero, List.getElem?_cons_succ, Option.bind_some] at d37
        clear hF
        simp only [List.length_cons, List.length_nil, Nat.reduceAdd, List.range, List.range.loop, fact, layAt, depOn, dstOf, List.map_cons, List.map_nil, List.foldl_cons, List.foldl_nil, List.getD_cons_zero, List.getD_cons_succ, List.getElem?_cons_zero, List.getElem?_cons_succ, Option.bind_some, d37]
        go_simp
        go_wp2_with fail
        go_ret
        exact ⟨rfl, f1.trans (hS.mono f1.size)⟩
end Go.Proofs.YtdbjihpdfiipcaaGreat
