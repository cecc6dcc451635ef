/- The law PolicyBytes, walked: true. Condition: none beyond what is opened. Printed by gen_pbytes.py. -/
import Derived.Test.YtdbjihpdfiipcaaGreatRefTk
import Derived.Test.YtdbjihpdfiipcaaGreatRefBytes
import Derived.Test.YtdbjihpdfiipcaaGreatPolSameP
import Derived.Test.YtdbjihpdfiipcaaGreatFacts
namespace Go.Proofs.YtdbjihpdfiipcaaGreat
open Go.RowKit Go.Sort
set_option linter.unusedVariables false
set_option linter.unusedSimpArgs false
theorem PoP.form {w : World} {B : Nat} {cs : List Value} {p : Po} (h : PoP w B cs p) : ∃ (a0 : Int) (a1 : ByteArray) (a2 a3 : Int) (A : Option Addr) (n c : Nat), cs = [.int .u64 a0, .string a1, .int .u64 a2, .int .i64 a3, .slice A n c] := by
  obtain ⟨v, rfl, A, n, c, rfl, _⟩ := h
  exact ⟨_, _, _, _, _, _, _, rfl⟩
theorem decP_ok (l : List UInt8) : okPo (decP l) := by
  unfold decP
  split
  · exact readPo_ok l
  · exact ⟨by decide, by simp [okS, poZero], by decide, by simp [poZero], by simp [poZero]⟩
attribute [local irreducible] decE decP decOk readPo poB poMay poLong
set_option maxRecDepth 100000 in
set_option maxHeartbeats 8000000 in
theorem policyBytes_walk (w : World) (cs : List Value) (p : Po) (hp : PoP w w.heap.size cs p) (kp : oqPo p) (R : Option Addr) (m d : Nat) (raw : List UInt8) (rr : RdB w w.heap.size R m raw) (hmd : m ≤ d) (hdm : d ≤ maxLen) :
    Calls Tryz.prog 5 #[.agg cs.toArray, .slice R m d] w fun e w' => e = .returned (.bool true) ∧ Below w.heap.size w w' := by
  have hP := fun (u : World) (hu : Below w.heap.size w u) => PoP.mono hp hu.size hu
  obtain ⟨p0, p1, p2, p3, p4, p5, p6, rfl⟩ := hp.form
  have HP := Lib.hid hP
  clear hP hp
  have hi : (Tryz.prog.info? 38).map (·.size) = some 5 := by kernel_rfl
  have HI := Lib.hid hi; clear hi
  have hrl := rr.1
  show Calls Tryz.prog 5 #[.agg #[.int .u64 p0, .string p1, .int .u64 p2, .int .i64 p3, .slice p4 p5 p6], .slice R m d] w _
  go_enter Tryz.func5, Tryz.ntmps5
  go_upto_region 1 with fail
  refine abs (fun w1 => Blk w1 w.heap.size 38 [.int .u64 p0, .string p1, .int .u64 p2, .int .i64 p3, .slice p4 p5 p6] ∧ Below w.heap.size w w1) ⟨Blk.newAt rfl _ #[.int .u64 p0, .string p1, .int .u64 p2, .int .i64 p3, .slice p4 p5 p6], (Below.refl _ w).alloc (Nat.le_refl _) _⟩ ?_
  rintro w1 ⟨ka, f1⟩
  have a0 := ka.cell 0; have a1 := ka.cell 1; have a2 := ka.cell 2; have a3 := ka.cell 3; have a4 := ka.cell 4
  go_wp2_with fail
  refine (long12_any p _ w1 (HP.out w1 f1) kp).mono ?_
  rintro e w2 ⟨rfl, f2⟩
  clear a0 a1 a2 a3 a4
  have lka := ka.lt
  replace ka := ka.below f2 lka
  clear lka
  replace f1 := f1.trans (f2.mono f1.size)
  clear f2
  cases hlp : poLong p
  rotate_left
  · go_wp2_with fail
    refine (awake12_any w2).mono ?_
    rintro e w9 ⟨rfl, f9⟩
    go_wp2_with fail
    go_ret
    exact ⟨rfl, f1.trans (f9.mono f1.size)⟩
  have okp := kp.ok hlp
  by_cases hm : 60000 < m
  · have d2 : decide ((60000 : Int) < (m : Int)) = true := by simp; omega
    go_wp2_with fail
    refine (awake12_any w2).mono ?_
    rintro e w9 ⟨rfl, f9⟩
    go_wp2_with fail
    go_ret
    exact ⟨rfl, f1.trans (f9.mono f1.size)⟩
  have d2 : decide ((60000 : Int) < (m : Int)) = false := by simp; omega
  cases hmp : poMay p
  · have a0 := ka.cell 0; have a1 := ka.cell 1; have a2 := ka.cell 2; have a3 := ka.cell 3; have a4 := ka.cell 4
    go_wp2_with fail
    refine (encode_no p _ w2 (HP.out w2 f1) okp hmp).mono ?_
    rintro e w3 ⟨rfl, f2⟩
    clear a0 a1 a2 a3 a4
    have lka := ka.lt
    replace ka := ka.below f2 lka
    clear lka
    replace f1 := f1.trans (f2.mono f1.size)
    clear f2
    have a0 := ka.cell 0; have a1 := ka.cell 1; have a2 := ka.cell 2; have a3 := ka.cell 3; have a4 := ka.cell 4
    go_wp2_with fail
    refine (rmay12_any p _ w3 (HP.out w3 f1) okp).mono ?_
    rw [hmp]
    rintro e w4 ⟨rfl, f2⟩
    clear a0 a1 a2 a3 a4
    have lka := ka.lt
    replace ka := ka.below f2 lka
    clear lka
    replace f1 := f1.trans (f2.mono f1.size)
    clear f2
    clear HP
    go_wp2_with fail
    refine (decode_any R m d raw w4 ((rr.below f1).more f1.size) (by omega)).mono ?_
    rintro e w5 ⟨es, rfl, hd, f2⟩
    have hd5 : PoP w5 w5.heap.size es (decP raw) := PoP.mn _ _ _ _ _ _ (Nat.le_refl _) (Sub.out _ _ _ _) hd
    clear hd
    obtain ⟨x0, x1, x2, x3, x4, x5, x6, rfl⟩ := hd5.form
    obtain ⟨ex, hex⟩ : ∃ x, decE raw = x := ⟨_, rfl⟩
    rw [hex]
    replace f1 := f1.trans (f2.mono f1.size)
    clear f2
    go_upto_region 10 with (first | (refine store_blk (cs := [.int .u64 0, .string ⟨#[]⟩, .int .u64 0, .int .i64 0, .slice none 0 0]) (Blk.newAt rfl 38 #[.int .u64 0, .string ⟨#[]⟩, .int .u64 0, .int .i64 0, .slice none 0 0]) rfl 38 (.tmp 7) (.tmp 47) rfl rfl (us := [.int .u64 x0, .string x1, .int .u64 x2, .int .i64 x3, .slice x4 x5 x6]) rfl HI.out rfl rfl ?_; intro w6 kx hg; have f3 : Below w5.heap.size w5 w6 := ((Below.refl _ w5).alloc (Nat.le_refl _) _).grown hg (by simp) (by simp)))
    replace f1 := f1.trans (f3.mono f1.size)
    replace hd5 := hd5.mono f3.size f3
    clear hg f3
    generalize w5.heap.size = gx at *
    go_wp2_with fail
    refine (rRead_any R m d raw w6 ((rr.below f1).more f1.size) (by omega)).mono ?_
    rintro e w7 ⟨es2, rfl, hd, f2⟩
    have hd7 : PoP w7 w7.heap.size es2 (decP raw) := PoP.mn _ _ _ _ _ _ (Nat.le_refl _) (Sub.out _ _ _ _) hd
    clear hd
    obtain ⟨y0, y1, y2, y3, y4, y5, y6, rfl⟩ := hd7.form
    rw [hex]
    have lkx := kx.lt
    replace kx := kx.below f2 lkx
    clear lkx
    replace hd5 := hd5.mono f2.size f2
    replace f1 := f1.trans (f2.mono f1.size)
    clear f2
    go_upto_region 11 with (first | (refine store_blk (cs := [.int .u64 0, .string ⟨#[]⟩, .int .u64 0, .int .i64 0, .slice none 0 0]) (Blk.newAt rfl 38 #[.int .u64 0, .string ⟨#[]⟩, .int .u64 0, .int .i64 0, .slice none 0 0]) rfl 38 (.tmp 9) (.tmp 52) rfl rfl (us := [.int .u64 y0, .string y1, .int .u64 y2, .int .i64 y3, .slice y4 y5 y6]) rfl HI.out rfl rfl ?_; intro w8 ky hg; have f3 : Below w7.heap.size w7 w8 := ((Below.refl _ w7).alloc (Nat.le_refl _) _).grown hg (by simp) (by simp)))
    have lkx := kx.lt
    replace kx := kx.below f3 lkx
    clear lkx
    replace f1 := f1.trans (f3.mono f1.size)
    replace hd5 := hd5.mono f3.size f3
    replace hd7 := hd7.mono f3.size f3
    clear hg f3
    generalize w7.heap.size = gy at *
    have C1 := same12_any (decP raw) (decP raw) _ _ w8 hd5 hd7 (decP_ok raw) (decP_ok raw)
    rw [decide_eq_true (rfl : decP raw = decP raw)] at C1
    clear hd5 hd7 hex
    have b0 := kx.cell 0; have b1 := kx.cell 1; have b2 := kx.cell 2; have b3 := kx.cell 3; have b4 := kx.cell 4
    have c0 := ky.cell 0; have c1 := ky.cell 1; have c2 := ky.cell 2; have c3 := ky.cell 3; have c4 := ky.cell 4
    go_wp2_with fail
    refine C1.mono ?_
    rintro e w10 ⟨rfl, f2⟩
    clear b0 b1 b2 b3 b4 c0 c1 c2 c3 c4
    clear C1
    replace f1 := f1.trans (f2.mono f1.size)
    clear f2
    go_wp2_with fail
    refine (awake12_any w10).mono ?_
    rintro e w9 ⟨rfl, f9⟩
    go_wp2_with fail
    go_ret
    exact ⟨rfl, f1.trans (f9.mono f1.size)⟩
  · have a0 := ka.cell 0; have a1 := ka.cell 1; have a2 := ka.cell 2; have a3 := ka.cell 3; have a4 := ka.cell 4
    go_wp2_with fail
    refine (encode_yes p _ w2 (HP.out w2 f1) okp hmp).mono ?_
    rintro e w3 ⟨A1, c1, rfl, ow, f2⟩
    clear a0 a1 a2 a3 a4
    have lka := ka.lt
    replace ka := ka.below f2 lka
    clear lka
    replace f1 := f1.trans (f2.mono f1.size)
    clear f2
    have a0 := ka.cell 0; have a1 := ka.cell 1; have a2 := ka.cell 2; have a3 := ka.cell 3; have a4 := ka.cell 4
    go_wp2_with fail
    refine (rmay12_any p _ w3 (HP.out w3 f1) okp).mono ?_
    rw [hmp]
    rintro e w4 ⟨rfl, f2⟩
    clear a0 a1 a2 a3 a4
    have lka := ka.lt
    replace ka := ka.below f2 lka
    clear lka
    replace ow := ow.below (Nat.le_refl _) f2
    replace f1 := f1.trans (f2.mono f1.size)
    clear f2
    have C1 := fun (u : World) (hu : Below w4.heap.size w4 u) => rbytes_any p _ u (HP.out u (f1.trans (hu.mono f1.size))) okp hmp
    generalize poB p = TB at *
    generalize hL : TB.length = L at *
    have rb := ow.rd
    clear hL ow HP
    have EE : ∀ u, Below w4.heap.size w4 u → CsS [(⟨w.heap.size, 0, none⟩, .int .u64 p0), (⟨w.heap.size, 1, none⟩, .string p1), (⟨w.heap.size, 2, none⟩, .int .u64 p2), (⟨w.heap.size, 3, none⟩, .int .i64 p3), (⟨w.heap.size, 4, none⟩, .slice p4 p5 p6)] u := fun u hu => CsS.below (u := w4) ⟨ka.cell 0, ka.cell 1, ka.cell 2, ka.cell 3, ka.cell 4, trivial⟩ hu
    go_upto_region 7 with fail
    refine wp_region_facts (fun u => Below w4.heap.size w4 u) [
        fun v _ => v = .int .i64 0,
        fun v _ => v = .bool false,
        fun v _ => v = .bool false,
        fun v _ => v = .slice A1 L c1,
        fun v _ => v = .string (strB TB),
        fun v _ => v = .agg #[.int .u64 p0, .string p1, .int .u64 p2, .int .i64 p3, .slice p4 p5 p6],
        fun v u => ∃ A8 c8, v = .slice A8 L c8 ∧ RdB u u.heap.size A8 L TB,
        fun v _ => v = .string (strB TB),
        fun v _ => v = .bool false,
        fun v _ => v = .bool false] (fun u u' => Below u.heap.size u u')
        [[], [0], [1], [2], [2, 3], [2], [2, 5], [2, 6], [2, 4, 7], [2, 8]] []
        (by kernel_rfl) (by kernel_rfl) ?_ (fun _ _ _ _ _ h => h) ((Below.refl _ _).drew) ?_ ?_
    · refine hE_of (fun u u' h f => f.trans (h.mono f.size)) ?_
      repeat' (first | exact mono_nil | refine mono_cons (fun v u u' h => ?_) ?_)
      all_goals first | exact _root_.id | (rintro ⟨A', c', e, r⟩; exact ⟨A', c', e, (r.below h).more h.size⟩)
    ·
      refine owed_cons (fun vs u hS hD N => ?_) ?_
      · clear hD
        intro hN
        simp only [fact, layAt, depOn, dstOf, List.map_cons, List.map_nil, List.foldl_cons, List.foldl_nil, List.getD_cons_zero, List.getD_cons_succ, List.getElem?_cons_zero, List.getElem?_cons_succ, Option.bind_some] at hN ⊢
        go_simp
        have hh := hN _ _ rfl (.inl (Below.refl _ _))
        revert hh
        go_simp
      refine owed_cons (fun vs u hS hD N => ?_) ?_
      · have d0 := hD 0 (by decide)
        simp only [fact, layAt, depOn, dstOf, List.map_cons, List.map_nil, List.foldl_cons, List.foldl_nil, List.getD_cons_zero, List.getD_cons_succ, List.getElem?_cons_zero, List.getElem?_cons_succ, Option.bind_some] at d0
        clear hD
        intro hN
        simp only [fact, layAt, depOn, dstOf, List.map_cons, List.map_nil, List.foldl_cons, List.foldl_nil, List.getD_cons_zero, List.getD_cons_succ, List.getElem?_cons_zero, List.getElem?_cons_succ, Option.bind_some, d0] at hN ⊢
        go_simp
        have hh := hN _ _ rfl (.inl (Below.refl _ _))
        revert hh
        go_simp
      refine owed_cons (fun vs u hS hD N => ?_) ?_
      · have d1 := hD 1 (by decide)
        simp only [fact, layAt, depOn, dstOf, List.map_cons, List.map_nil, List.foldl_cons, List.foldl_nil, List.getD_cons_zero, List.getD_cons_succ, List.getElem?_cons_zero, List.getElem?_cons_succ, Option.bind_some] at d1
        clear hD
        intro hN
        simp only [fact, layAt, depOn, dstOf, List.map_cons, List.map_nil, List.foldl_cons, List.foldl_nil, List.getD_cons_zero, List.getD_cons_succ, List.getElem?_cons_zero, List.getElem?_cons_succ, Option.bind_some, d1] at hN ⊢
        go_simp
        have hh := hN _ _ rfl (.inl (Below.refl _ _))
        revert hh
        go_simp
      refine owed_cons (fun vs u hS hD N => ?_) ?_
      · have d2 := hD 2 (by decide)
        simp only [fact, layAt, depOn, dstOf, List.map_cons, List.map_nil, List.foldl_cons, List.foldl_nil, List.getD_cons_zero, List.getD_cons_succ, List.getElem?_cons_zero, List.getElem?_cons_succ, Option.bind_some] at d2
        clear hD
        intro hN
        simp only [fact, layAt, depOn, dstOf, List.map_cons, List.map_nil, List.foldl_cons, List.foldl_nil, List.getD_cons_zero, List.getD_cons_succ, List.getElem?_cons_zero, List.getElem?_cons_succ, Option.bind_some, d2] at hN ⊢
        go_simp
        have hh := hN _ _ rfl (.inl (Below.refl _ _))
        revert hh
        go_simp
      refine owed_cons (fun vs u hS hD N => ?_) ?_
      · have d2 := hD 2 (by decide)
        simp only [fact, layAt, depOn, dstOf, List.map_cons, List.map_nil, List.foldl_cons, List.foldl_nil, List.getD_cons_zero, List.getD_cons_succ, List.getElem?_cons_zero, List.getElem?_cons_succ, Option.bind_some] at d2
        have d3 := hD 3 (by decide)
        simp only [fact, layAt, depOn, dstOf, List.map_cons, List.map_nil, List.foldl_cons, List.foldl_nil, List.getD_cons_zero, List.getD_cons_succ, List.getElem?_cons_zero, List.getElem?_cons_succ, Option.bind_some] at d3
        clear hD
        intro hN
        simp only [fact, layAt, depOn, dstOf, List.map_cons, List.map_nil, List.foldl_cons, List.foldl_nil, List.getD_cons_zero, List.getD_cons_succ, List.getElem?_cons_zero, List.getElem?_cons_succ, Option.bind_some, d2, d3] at hN ⊢
        rw [if_pos (by rfl)]
        have q := run_str T23 (rb.below hS) c1 9 Tryz.underlying9
        go_simp
        have hh := hN _ _ rfl (.inl (Below.refl _ _))
        revert hh
        go_simp
      refine owed_cons (fun vs u hS hD N => ?_) ?_
      · have d2 := hD 2 (by decide)
        simp only [fact, layAt, depOn, dstOf, List.map_cons, List.map_nil, List.foldl_cons, List.foldl_nil, List.getD_cons_zero, List.getD_cons_succ, List.getElem?_cons_zero, List.getElem?_cons_succ, Option.bind_some] at d2
        clear hD
        intro hN
        simp only [fact, layAt, depOn, dstOf, List.map_cons, List.map_nil, List.foldl_cons, List.foldl_nil, List.getD_cons_zero, List.getD_cons_succ, List.getElem?_cons_zero, List.getElem?_cons_succ, Option.bind_some, d2] at hN ⊢
        go_simp
        obtain ⟨a0, a1, a2, a3, a4, _⟩ := EE _ hS
        go_simp
        have hh := hN _ _ rfl (.inl (Below.refl _ _))
        revert hh
        go_simp
      refine owed_cons (fun vs u hS hD N => ?_) ?_
      · have d2 := hD 2 (by decide)
        simp only [fact, layAt, depOn, dstOf, List.map_cons, List.map_nil, List.foldl_cons, List.foldl_nil, List.getD_cons_zero, List.getD_cons_succ, List.getElem?_cons_zero, List.getElem?_cons_succ, Option.bind_some] at d2
        have d5 := hD 5 (by decide)
        simp only [fact, layAt, depOn, dstOf, List.map_cons, List.map_nil, List.foldl_cons, List.foldl_nil, List.getD_cons_zero, List.getD_cons_succ, List.getElem?_cons_zero, List.getElem?_cons_succ, Option.bind_some] at d5
        clear hD
        intro hN
        simp only [fact, layAt, depOn, dstOf, List.map_cons, List.map_nil, List.foldl_cons, List.foldl_nil, List.getD_cons_zero, List.getD_cons_succ, List.getElem?_cons_zero, List.getElem?_cons_succ, Option.bind_some, d2, d5] at hN ⊢
        go_simp
        refine (C1 u hS).mono ?_
        rintro e u1 ⟨A8, c8, rfl, o8, f⟩
        have hh := hN _ _ ⟨A8, c8, rfl, o8.rd⟩ (.inl f)
        revert hh
        go_simp
      refine owed_cons (fun vs u hS hD N => ?_) ?_
      · have d2 := hD 2 (by decide)
        simp only [fact, layAt, depOn, dstOf, List.map_cons, List.map_nil, List.foldl_cons, List.foldl_nil, List.getD_cons_zero, List.getD_cons_succ, List.getElem?_cons_zero, List.getElem?_cons_succ, Option.bind_some] at d2
        have d6 := hD 6 (by decide)
        simp only [fact, layAt, depOn, dstOf, List.map_cons, List.map_nil, List.foldl_cons, List.foldl_nil, List.getD_cons_zero, List.getD_cons_succ, List.getElem?_cons_zero, List.getElem?_cons_succ, Option.bind_some] at d6
        obtain ⟨A8, c8, e6, r8⟩ := d6
        clear hD
        intro hN
        simp only [fact, layAt, depOn, dstOf, List.map_cons, List.map_nil, List.foldl_cons, List.foldl_nil, List.getD_cons_zero, List.getD_cons_succ, List.getElem?_cons_zero, List.getElem?_cons_succ, Option.bind_some, d2, e6] at hN ⊢
        rw [if_pos (by rfl)]
        have q := run_str T23 r8 c8 9 Tryz.underlying9
        go_simp
        have hh := hN _ _ rfl (.inl (Below.refl _ _))
        revert hh
        go_simp
      refine owed_cons (fun vs u hS hD N => ?_) ?_
      · have d2 := hD 2 (by decide)
        simp only [fact, layAt, depOn, dstOf, List.map_cons, List.map_nil, List.foldl_cons, List.foldl_nil, List.getD_cons_zero, List.getD_cons_succ, List.getElem?_cons_zero, List.getElem?_cons_succ, Option.bind_some] at d2
        have d4 := hD 4 (by decide)
        simp only [fact, layAt, depOn, dstOf, List.map_cons, List.map_nil, List.foldl_cons, List.foldl_nil, List.getD_cons_zero, List.getD_cons_succ, List.getElem?_cons_zero, List.getElem?_cons_succ, Option.bind_some] at d4
        have d7 := hD 7 (by decide)
        simp only [fact, layAt, depOn, dstOf, List.map_cons, List.map_nil, List.foldl_cons, List.foldl_nil, List.getD_cons_zero, List.getD_cons_succ, List.getElem?_cons_zero, List.getElem?_cons_succ, Option.bind_some] at d7
        clear hD
        intro hN
        simp only [fact, layAt, depOn, dstOf, List.map_cons, List.map_nil, List.foldl_cons, List.foldl_nil, List.getD_cons_zero, List.getD_cons_succ, List.getElem?_cons_zero, List.getElem?_cons_succ, Option.bind_some, d2, d4, d7] at hN ⊢
        go_simp
        have hh := hN _ _ rfl (.inl (Below.refl _ _))
        revert hh
        go_simp
      refine owed_cons (fun vs u hS hD N => ?_) ?_
      · have d2 := hD 2 (by decide)
        simp only [fact, layAt, depOn, dstOf, List.map_cons, List.map_nil, List.foldl_cons, List.foldl_nil, List.getD_cons_zero, List.getD_cons_succ, List.getElem?_cons_zero, List.getElem?_cons_succ, Option.bind_some] at d2
        have d8 := hD 8 (by decide)
        simp only [fact, layAt, depOn, dstOf, List.map_cons, List.map_nil, List.foldl_cons, List.foldl_nil, List.getD_cons_zero, List.getD_cons_succ, List.getElem?_cons_zero, List.getElem?_cons_succ, Option.bind_some] at d8
        clear hD
        intro hN
        simp only [fact, layAt, depOn, dstOf, List.map_cons, List.map_nil, List.foldl_cons, List.foldl_nil, List.getD_cons_zero, List.getD_cons_succ, List.getElem?_cons_zero, List.getElem?_cons_succ, Option.bind_some, d2, d8] at hN ⊢
        go_simp
        have hh := hN _ _ rfl (.inl (Below.refl _ _))
        revert hh
        go_simp
      exact owed_nil
    ·
      intro vs u hS hF
      have d9 := hF 9 (by decide) (by decide)
      simp only [fact, layAt, depOn, dstOf, List.map_cons, List.map_nil, List.foldl_cons, List.foldl_nil, List.getD_cons_zero, List.getD_cons_succ, List.getElem?_cons_zero, List.getElem?_cons_succ, Option.bind_some] at d9
      clear hF
      simp only [List.length_cons, List.length_nil, Nat.reduceAdd, List.range, List.range.loop, fact, layAt, depOn, dstOf, List.map_cons, List.map_nil, List.foldl_cons, List.foldl_nil, List.getD_cons_zero, List.getD_cons_succ, List.getElem?_cons_zero, List.getElem?_cons_succ, Option.bind_some, d9]
      go_simp
      replace f1 := f1.trans (hS.mono f1.size)
      clear hS C1 rb EE ka
      go_wp2_with fail
      refine (decode_any R m d raw u ((rr.below f1).more f1.size) (by omega)).mono ?_
      rintro e w5 ⟨es, rfl, hd, f2⟩
      have hd5 : PoP w5 w5.heap.size es (decP raw) := PoP.mn _ _ _ _ _ _ (Nat.le_refl _) (Sub.out _ _ _ _) hd
      clear hd
      obtain ⟨x0, x1, x2, x3, x4, x5, x6, rfl⟩ := hd5.form
      obtain ⟨ex, hex⟩ : ∃ x, decE raw = x := ⟨_, rfl⟩
      rw [hex]
      replace f1 := f1.trans (f2.mono f1.size)
      clear f2
      go_upto_region 10 with (first | (refine store_blk (cs := [.int .u64 0, .string ⟨#[]⟩, .int .u64 0, .int .i64 0, .slice none 0 0]) (Blk.newAt rfl 38 #[.int .u64 0, .string ⟨#[]⟩, .int .u64 0, .int .i64 0, .slice none 0 0]) rfl 38 (.tmp 7) (.tmp 47) rfl rfl (us := [.int .u64 x0, .string x1, .int .u64 x2, .int .i64 x3, .slice x4 x5 x6]) rfl HI.out rfl rfl ?_; intro w6 kx hg; have f3 : Below w5.heap.size w5 w6 := ((Below.refl _ w5).alloc (Nat.le_refl _) _).grown hg (by simp) (by simp)))
      replace f1 := f1.trans (f3.mono f1.size)
      replace hd5 := hd5.mono f3.size f3
      clear hg f3
      generalize w5.heap.size = gx at *
      go_wp2_with fail
      refine (rRead_any R m d raw w6 ((rr.below f1).more f1.size) (by omega)).mono ?_
      rintro e w7 ⟨es2, rfl, hd, f2⟩
      have hd7 : PoP w7 w7.heap.size es2 (decP raw) := PoP.mn _ _ _ _ _ _ (Nat.le_refl _) (Sub.out _ _ _ _) hd
      clear hd
      obtain ⟨y0, y1, y2, y3, y4, y5, y6, rfl⟩ := hd7.form
      rw [hex]
      have lkx := kx.lt
      replace kx := kx.below f2 lkx
      clear lkx
      replace hd5 := hd5.mono f2.size f2
      replace f1 := f1.trans (f2.mono f1.size)
      clear f2
      go_upto_region 11 with (first | (refine store_blk (cs := [.int .u64 0, .string ⟨#[]⟩, .int .u64 0, .int .i64 0, .slice none 0 0]) (Blk.newAt rfl 38 #[.int .u64 0, .string ⟨#[]⟩, .int .u64 0, .int .i64 0, .slice none 0 0]) rfl 38 (.tmp 9) (.tmp 52) rfl rfl (us := [.int .u64 y0, .string y1, .int .u64 y2, .int .i64 y3, .slice y4 y5 y6]) rfl HI.out rfl rfl ?_; intro w8 ky hg; have f3 : Below w7.heap.size w7 w8 := ((Below.refl _ w7).alloc (Nat.le_refl _) _).grown hg (by simp) (by simp)))
      have lkx := kx.lt
      replace kx := kx.below f3 lkx
      clear lkx
      replace f1 := f1.trans (f3.mono f1.size)
      replace hd5 := hd5.mono f3.size f3
      replace hd7 := hd7.mono f3.size f3
      clear hg f3
      generalize w7.heap.size = gy at *
      have C1 := same12_any (decP raw) (decP raw) _ _ w8 hd5 hd7 (decP_ok raw) (decP_ok raw)
      rw [decide_eq_true (rfl : decP raw = decP raw)] at C1
      clear hd5 hd7 hex
      have b0 := kx.cell 0; have b1 := kx.cell 1; have b2 := kx.cell 2; have b3 := kx.cell 3; have b4 := kx.cell 4
      have c0 := ky.cell 0; have c1 := ky.cell 1; have c2 := ky.cell 2; have c3 := ky.cell 3; have c4 := ky.cell 4
      go_wp2_with fail
      refine C1.mono ?_
      rintro e w10 ⟨rfl, f2⟩
      clear b0 b1 b2 b3 b4 c0 c1 c2 c3 c4
      clear C1
      replace f1 := f1.trans (f2.mono f1.size)
      clear f2
      go_wp2_with fail
      refine (awake12_any w10).mono ?_
      rintro e w9 ⟨rfl, f9⟩
      go_wp2_with fail
      go_ret
      exact ⟨rfl, f1.trans (f9.mono f1.size)⟩
end Go.Proofs.YtdbjihpdfiipcaaGreat
