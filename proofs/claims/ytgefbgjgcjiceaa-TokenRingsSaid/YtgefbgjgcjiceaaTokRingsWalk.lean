/- The law TokenRings, walked. No condition. -/
import Derived.Test.YtgefbgjgcjiceaaTokRingsLaw
namespace Go.Proofs.Ytgefbgjgcjiceaa
open Go.RowKit
set_option linter.unusedSimpArgs false
set_option linter.unusedVariables false
theorem fresh_issued (t : Tk) (s : List UInt8) (now : Nat) (h : t.born = now) : freshB (t.sign s) now = true := by
  show (decide (t.born ≤ now) && decide (now - t.born < 100)) = true
  rw [h]; simp
attribute [local irreducible] issV sigB tkOk rgOk longB tkNew verN freshB
set_option maxRecDepth 100000 in
set_option maxHeartbeats 4000000 in
theorem tokenRings_walk (w : World) (A : Option Addr) (n c o m : Nat) (root : List UInt8) (rl : RdB w w.heap.size A n root) (_ : n ≤ c) (_ : c ≤ maxLen) (ho : o < 18446744073709551616) (hm : m < 18446744073709551616) (od : Nat) (hod : od < 18446744073709551616) (nw : Nat) (hnw : nw < 18446744073709551616) (t : Tk) (ht : t.ok) (now : Nat) (hnow : now < 18446744073709551616) :
    Calls Try.prog 6 #[rgV A n c o m, .int .u64 od, .int .u64 nw, t.v, .int .u64 now] w fun e w' => e = .returned (.bool true) ∧ Below w.heap.size w w' := by
  have hit : (Try.prog.info? 31).map (·.size) = some t.cells.length := by rw [t.len ht.mac]; kernel_rfl
  have Hit := Lib.hid hit; clear hit
  have hir : ∀ (A : Option Addr) (n c o m : Nat), (Try.prog.info? 25).map (·.size) = some ([.slice A n c, .int .u64 (o : Int), .int .u64 (m : Int)] : List Value).length := fun _ _ _ _ _ => by kernel_rfl
  have Hir := Lib.hid hir; clear hir
  have hin : (Try.prog.info? 27).map (·.size) = some ([.string (strB t.ns), .string (strB t.sa)] : List Value).length := by kernel_rfl
  have Hin := Lib.hid hin; clear hin
  have hto := tkNew_ok ht hnow hm
  have hns : (tkNew t.ns t.sa t.uid t.host t.addr now m).ns = t.ns := by with_unfolding_all rfl
  have hsa : (tkNew t.ns t.sa t.uid t.host t.addr now m).sa = t.sa := by with_unfolding_all rfl
  have htv : t.v = .agg t.cells.toArray := rfl
  rw [htv]
  unfold rgV
  go_enter Try.func6, Try.ntmps6
  go_upto_region 1 with fail
  refine abs (fun w1 => Blk w1 w.heap.size 25 [.slice A n c, .int .u64 (o : Int), .int .u64 (m : Int)] ∧ Blk w1 (w.heap.size + 1) 31 t.cells ∧ Below w.heap.size w w1) ⟨(Blk.of_new w _ _).alloc _, Blk.newAt (by simp) _ _, ((Below.refl _ w).alloc (Nat.le_refl _) _).alloc (by simp) _⟩ ?_
  rintro w1 ⟨kr, kt, f1⟩
  go_wp2_with (first | (refine load_blk kr rfl 25 (.tmp 5) rfl rfl Try.underlying25 (Hir.out _ _ _ _ _) ?_) | (refine load_blk kt rfl 31 (.tmp 8) rfl rfl Try.underlying31 Hit.out ?_))
  refine (long_any A n c o m t w1).mono ?_
  rintro e w2 ⟨rfl, f2⟩
  replace kr := kr.below f2 kr.lt
  replace kt := kt.below f2 kt.lt
  replace f1 := f1.trans (f2.mono f1.size)
  clear f2
  cases hlg : longB n t
  case true =>
    go_wp2_with fail
    refine (awake6_any w2).mono ?_
    rintro e w3 ⟨rfl, f2⟩
    go_wp2_with fail
    go_ret
    exact ⟨rfl, f1.trans (f2.mono f1.size)⟩
  obtain ⟨hl1, hl2, hl3⟩ := longB_no hlg
  have q2 : w2.cell? ⟨w.heap.size + 1, 2, none⟩ = some (.int .u64 (t.uid : Int)) := kt.cell 2
  have q3 : w2.cell? ⟨w.heap.size + 1, 3, none⟩ = some (.int .i64 t.host) := kt.cell 3
  have q4 : w2.cell? ⟨w.heap.size + 1, 4, none⟩ = some (.int .u32 (t.addr : Int)) := kt.cell 4
  have kn := kt.range 0 2
  rw [t.name] at kn
  go_wp2_with (first | (refine load_blk kr rfl 25 (.tmp 5) rfl rfl Try.underlying25 (Hir.out _ _ _ _ _) ?_) | (refine load_part (cs := [.string (strB t.ns), .string (strB t.sa)]) (b := w.heap.size + 1) (off := 0) kn rfl 27 (.tmp 21) rfl rfl Try.underlying27 Hin.out ?_))
  refine (issue_any A n c o m root t.ns t.sa t.uid t.host t.addr now (tkNew t.ns t.sa t.uid t.host t.addr now m) rfl hto (by rw [hns]; omega) (by rw [hsa]; omega) w2 ((rl.below f1).more f1.size) (by omega)).mono ?_
  rintro e w3 ⟨rfl, f2⟩
  obtain ⟨x, ev, hx, hxm, hxe, hev⟩ := issV_form root n o m (tkNew t.ns t.sa t.uid t.host t.addr now m)
  rw [hx, show x.v = .agg x.cells.toArray from rfl]
  have lr := kr.lt
  have lt := kt.lt
  replace kr := kr.below f2 lr
  replace kt := kt.below f2 lt
  replace f1 := f1.trans (f2.mono f1.size)
  clear f2 q2 q3 q4 kn hx
  have hix : (Try.prog.info? 31).map (·.size) = some x.cells.length := by rw [x.len hxm]; kernel_rfl
  have Hix := Lib.hid hix; clear hix
  have hlz : tkZero.cells.length = x.cells.length := by rw [x.len hxm]; rfl
  have Hlz := Lib.hid hlz; clear hlz
  have Hxe := Lib.hid hxe; clear hxe
  go_upto_region 4 with (first | (refine store_blk (cs := tkZero.cells) (Blk.newAt rfl 31 _) rfl 31 (.tmp 11) (.tmp 31) rfl rfl (us := x.cells) rfl Hix.out Hlz.out x.all ?_; intro w4 kx hg; have f3 : Below w3.heap.size w3 w4 := ((Below.refl _ w3).alloc (Nat.le_refl _) _).grown hg (by simp) (by simp)))
  have lr := kr.lt
  have lt := kt.lt
  replace kr := kr.below f3 lr
  replace kt := kt.below f3 lt
  replace f1 := f1.trans (f3.mono f1.size)
  clear hg f3
  have hgx : w.heap.size + 1 < w3.heap.size := lt
  generalize w3.heap.size = gx at *
  have q0 : (w4.alloc (.cells #[] 5)).cell? ⟨w.heap.size, 0, none⟩ = some (.slice A n c) := (kr.alloc _).cell 0
  have r4 := rl.below f1
  have z4 := f1.size
  have lx := kx.lt
  go_upto_region 5 with (at_builtin; go_must (refine appendR T23 rfl rfl rfl (OwnB.of_blk (l := []) (Blk.of_new w4 _ _) (Nat.le_refl _) rfl (by simp [maxLen])) rfl (r4.below ((Below.refl _ w4).alloc z4 _)) (by omega) ((Below.refl _ w4).alloc (Nat.le_refl _) _) (Nat.le_refl _) ?_); intro A5 c5 w5 o5 f5 _)
  refine abs (fun w6 => Blk w6 w5.heap.size 25 [.slice A5 n c5, .int .u64 (od : Int), .int .u64 (nw : Int)] ∧ RdB w6 w6.heap.size A5 n root ∧ Blk w6 gx 31 x.cells ∧ Below w.heap.size w w6) ⟨?_, ?_, (kx.below f5 lx).alloc _, (f1.trans (f5.mono z4)).alloc (Nat.le_trans z4 f5.size) _⟩ ?_
  · exact Blk.newAt rfl _ _
  · rw [Nat.zero_add, List.nil_append] at o5
    exact (o5.rd.alloc (Nat.le_refl _) _).more (by simp)
  clear kr kx kt f1 q0 r4 o5
  rintro w6 ⟨kq, rq, kx, f1⟩
  try rw [Nat.zero_add]
  by_cases he : ev = 0
  case neg =>
    obtain rfl : ev = 1 := by omega
    clear Hxe hev he
    go_wp2_with fail
    refine (awake6_any w6).mono ?_
    rintro e w9 ⟨rfl, f9⟩
    go_wp2_with fail
    go_ret
    exact ⟨rfl, f1.trans (f9.mono f1.size)⟩
  subst he
  obtain ⟨rfl, hrg, htk⟩ := Hxe.out rfl
  clear Hxe hev
  have hti := tkOk_times htk
  have hkey : (tkNew t.ns t.sa t.uid t.host t.addr now m).key = m := by with_unfolding_all rfl
  have hborn : (tkNew t.ns t.sa t.uid t.host t.addr now m).born = now := by with_unfolding_all rfl
  generalize tkNew t.ns t.sa t.uid t.host t.addr now m = tn at *
  go_wp2_with (first | (refine load_blk_if kq rfl 25 (.tmp 13) rfl rfl Try.underlying25 (Hir.out _ _ _ _ _) ?_))
  refine (mayRing_any A5 n c5 od nw w6).mono ?_
  rintro e w7 ⟨rfl, f2⟩
  replace kq := kq.below f2 kq.lt
  replace kx := kx.below f2 kx.lt
  replace rq := (rq.below f2).more f2.size
  replace f1 := f1.trans (f2.mono f1.size)
  clear f2
  cases hro : rgOk n od nw
  · go_wp2_with fail
    refine (awake6_any w7).mono ?_
    rintro e w9 ⟨rfl, f9⟩
    go_wp2_with fail
    go_ret
    exact ⟨rfl, f1.trans (f9.mono f1.size)⟩
  have hxo := issued_ok (root := root) hto
  have q7 : w7.cell? ⟨gx, 7, none⟩ = some (.int .u64 (m : Int)) := by rw [← hkey]; exact kx.cell 7
  have hver := ver_issued root n od nw tn now hro htk
  rw [hkey, hborn] at hver
  have hfr : freshB (tn.sign (sigB root tn)) now = true := fresh_issued _ _ _ hborn
  have hns2 : (tn.sign (sigB root tn)).ns.length ≤ 1000 := by show tn.ns.length ≤ 1000; rw [hns]; omega
  have hsa2 : (tn.sign (sigB root tn)).sa.length ≤ 1000 := by show tn.sa.length ≤ 1000; rw [hsa]; omega
  have htk2 : tkOk (tn.sign (sigB root tn)) = true := by rw [tkOk_sign]; exact htk
  rw [hborn] at hti
  have H1 := Lib.hid hver; clear hver
  have H2 := Lib.hid hfr; clear hfr
  have H3 := Lib.hid htk2; clear htk2
  clear hkey hborn hns hsa
  generalize tn.sign (sigB root tn) = xx at *
  obtain ⟨wv, hwv, hrest⟩ : ∃ wv : Nat, verN root n od nw xx now = wv ∧ ((od ≤ m ∧ m ≤ nw) ∧ wv = 0 ∨ ¬ (od ≤ m ∧ m ≤ nw) ∧ wv = 7) := by
    refine ⟨_, rfl, ?_⟩
    rw [H1.out]
    by_cases hc : od ≤ m ∧ m ≤ nw
    · exact .inl ⟨hc, by rw [if_neg (by omega), if_neg (by omega)]⟩
    · exact .inr ⟨hc, by rw [if_pos (by omega)]⟩
  have H4 := Lib.hid hwv; clear hwv H1
  by_cases ha : od ≤ m
  case neg =>
    obtain rfl : wv = 7 := by omega
    have d1 : decide ((od : Int) ≤ (m : Int)) = false := by simp; omega
    go_wp2_with (first | (refine load_blk kq rfl 25 (.tmp 13) rfl rfl Try.underlying25 (Hir.out _ _ _ _ _) ?_) | (refine load_blk kx rfl 31 (.tmp 11) rfl rfl Try.underlying31 Hix.out ?_))
    refine (verify_any A5 n c5 od nw root xx now hxo hns2 hsa2 w7 rq (by omega)).mono ?_
    rintro e w8 ⟨rfl, f2⟩
    rw [H4.out]
    replace kx := kx.below f2 kx.lt
    replace f1 := f1.trans (f2.mono f1.size)
    clear f2 q7
    go_wp2_with (first | (refine load_blk_if kx rfl 31 (.tmp 11) rfl rfl Try.underlying31 Hix.out ?_))
    refine (tokMay_any xx hxo w8).mono ?_
    rintro e w10 ⟨rfl, f2⟩
    rw [H3.out]
    replace kx := kx.below f2 kx.lt
    replace f1 := f1.trans (f2.mono f1.size)
    clear f2
    go_wp2_with (first | (refine load_blk_if kx rfl 31 (.tmp 11) rfl rfl Try.underlying31 Hix.out ?_))
    refine (fresh_any xx hxo now hnow w10).mono ?_
    rintro e w11 ⟨rfl, f2⟩
    rw [H2.out]
    replace f1 := f1.trans (f2.mono f1.size)
    clear f2
    go_wp2_with fail
    refine (awake6_any w11).mono ?_
    rintro e w9 ⟨rfl, f9⟩
    go_wp2_with fail
    go_ret
    exact ⟨rfl, f1.trans (f9.mono f1.size)⟩
  have d1 : decide ((od : Int) ≤ (m : Int)) = true := by simp; omega
  by_cases hb : m ≤ nw
  case neg =>
    obtain rfl : wv = 7 := by omega
    have d2 : decide ((m : Int) ≤ (nw : Int)) = false := by simp; omega
    go_wp2_with (first | (refine load_blk kq rfl 25 (.tmp 13) rfl rfl Try.underlying25 (Hir.out _ _ _ _ _) ?_) | (refine load_blk kx rfl 31 (.tmp 11) rfl rfl Try.underlying31 Hix.out ?_))
    refine (verify_any A5 n c5 od nw root xx now hxo hns2 hsa2 w7 rq (by omega)).mono ?_
    rintro e w8 ⟨rfl, f2⟩
    rw [H4.out]
    replace kx := kx.below f2 kx.lt
    replace f1 := f1.trans (f2.mono f1.size)
    clear f2 q7
    go_wp2_with (first | (refine load_blk_if kx rfl 31 (.tmp 11) rfl rfl Try.underlying31 Hix.out ?_))
    refine (tokMay_any xx hxo w8).mono ?_
    rintro e w10 ⟨rfl, f2⟩
    rw [H3.out]
    replace kx := kx.below f2 kx.lt
    replace f1 := f1.trans (f2.mono f1.size)
    clear f2
    go_wp2_with (first | (refine load_blk_if kx rfl 31 (.tmp 11) rfl rfl Try.underlying31 Hix.out ?_))
    refine (fresh_any xx hxo now hnow w10).mono ?_
    rintro e w11 ⟨rfl, f2⟩
    rw [H2.out]
    replace f1 := f1.trans (f2.mono f1.size)
    clear f2
    go_wp2_with fail
    refine (awake6_any w11).mono ?_
    rintro e w9 ⟨rfl, f9⟩
    go_wp2_with fail
    go_ret
    exact ⟨rfl, f1.trans (f9.mono f1.size)⟩
  · obtain rfl : wv = 0 := by omega
    have d2 : decide ((m : Int) ≤ (nw : Int)) = true := by simp; omega
    go_wp2_with (first | (refine load_blk kq rfl 25 (.tmp 13) rfl rfl Try.underlying25 (Hir.out _ _ _ _ _) ?_) | (refine load_blk kx rfl 31 (.tmp 11) rfl rfl Try.underlying31 Hix.out ?_))
    refine (verify_any A5 n c5 od nw root xx now hxo hns2 hsa2 w7 rq (by omega)).mono ?_
    rintro e w8 ⟨rfl, f2⟩
    rw [H4.out]
    replace kx := kx.below f2 kx.lt
    replace f1 := f1.trans (f2.mono f1.size)
    clear f2 q7
    go_wp2_with (first | (refine load_blk_if kx rfl 31 (.tmp 11) rfl rfl Try.underlying31 Hix.out ?_))
    refine (tokMay_any xx hxo w8).mono ?_
    rintro e w10 ⟨rfl, f2⟩
    rw [H3.out]
    replace kx := kx.below f2 kx.lt
    replace f1 := f1.trans (f2.mono f1.size)
    clear f2
    go_wp2_with (first | (refine load_blk_if kx rfl 31 (.tmp 11) rfl rfl Try.underlying31 Hix.out ?_))
    refine (fresh_any xx hxo now hnow w10).mono ?_
    rintro e w11 ⟨rfl, f2⟩
    rw [H2.out]
    replace f1 := f1.trans (f2.mono f1.size)
    clear f2
    go_wp2_with fail
    refine (awake6_any w11).mono ?_
    rintro e w9 ⟨rfl, f9⟩
    go_wp2_with fail
    go_ret
    exact ⟨rfl, f1.trans (f9.mono f1.size)⟩
end Go.Proofs.Ytgefbgjgcjiceaa
