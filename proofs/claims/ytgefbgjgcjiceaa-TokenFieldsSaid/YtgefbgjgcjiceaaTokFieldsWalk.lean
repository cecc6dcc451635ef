/- The law TokenFields, walked. No condition. -/
import Derived.Test.YtgefbgjgcjiceaaTokRingsLaw
namespace Go.Proofs.Ytgefbgjgcjiceaa
open Go.RowKit
set_option linter.unusedSimpArgs false
set_option linter.unusedVariables false
theorem and_31 (z : Int) : ∃ j : Nat, j < 32 ∧ bits .and .i64 z 31 = (j : Int) := by
  refine ⟨(BitVec.ofInt 64 z &&& BitVec.ofInt 64 31).toNat, ?_, ?_⟩
  · rw [BitVec.toNat_and]
    have : (BitVec.ofInt 64 31).toNat = 31 := by decide
    rw [this]
    exact Nat.lt_of_le_of_lt Nat.and_le_right (by omega)
  · show IntKind.i64.wrap ((BitVec.ofInt 64 z &&& BitVec.ofInt 64 31).toNat : Int) = _
    have h : (BitVec.ofInt 64 z &&& BitVec.ofInt 64 31).toNat < 32 := by
      rw [BitVec.toNat_and]
      have : (BitVec.ofInt 64 31).toNat = 31 := by decide
      rw [this]
      exact Nat.lt_of_le_of_lt Nat.and_le_right (by omega)
    rw [IntWalk.i64_in _ (by omega)]
theorem turned_cells (t : Tk) (s : List UInt8) (j : Nat) (y : UInt8) (hj : j < 32) (hs : s.length = 32) : (t.sign s).cells.set (8 + j) (bv y) = (t.sign (s.set j y)).cells := by
  show (_ ++ bvs s).set (8 + j) (bv y) = _ ++ bvs (s.set j y)
  rw [List.set_append_right _ _ (by simp), show 8 + j - _ = j from by simp]
  congr 1
  unfold bvs
  rw [List.map_set]
theorem turned_ne (s : List UInt8) (j k : Nat) (hj : j < s.length) (hk0 : k ≠ 0) (hk : k ≤ 100) : s.set j (xor8 (at8 s j) (UInt8.ofNat k)) ≠ s := by
  intro h
  have h1 := congrArg (fun l => l[j]?) h
  simp [hj] at h1
  have h2 : xor8 (at8 s j) (UInt8.ofNat k) = at8 s j := by
    rw [h1]; simp [at8, hj]
  have h3 : UInt8.ofNat k = 0 := by
    unfold xor8 at h2
    have := congrArg (fun z => at8 s j ^^^ z) h2
    simpa [← UInt8.xor_assoc] using this
  have h4 := congrArg UInt8.toNat h3
  rw [UInt8.toNat_ofNat'] at h4
  simp at h4
  omega
theorem sign_cell (t : Tk) (s : List UInt8) (j : Nat) (hj : j < s.length) : (t.sign s).cells[8 + j]? = some (.int .u8 ((at8 s j).toNat : Int)) := by
  show (_ ++ bvs s)[8 + j]? = _
  rw [List.getElem?_append_right (by simp), show 8 + j - _ = j from by simp]
  simp [bvs, at8, bv, hj]
attribute [local irreducible] issV sigB tkOk rgOk longB tkNew verN freshB
set_option maxRecDepth 100000 in
set_option maxHeartbeats 4000000 in
theorem tokenFields_walk (w : World) (A : Option Addr) (n c o m : Nat) (root : List UInt8) (rl : RdB w w.heap.size A n root) (_ : n ≤ c) (_ : c ≤ maxLen) (ho : o < 18446744073709551616) (hm : m < 18446744073709551616) (t : Tk) (ht : t.ok) (now : Nat) (hnow : now < 18446744073709551616) (fd : Int) (_ : -9223372036854775808 ≤ fd) (_ : fd ≤ 9223372036854775807) (ny : Nat) (hny : ny < 18446744073709551616) :
    Calls Try.prog 5 #[rgV A n c o m, t.v, .int .u64 now, .int .i64 fd, .int .u64 ny] w fun e w' => e = .returned (.bool true) ∧ Below w.heap.size w w' := by
  have hit : (Try.prog.info? 31).map (·.size) = some t.cells.length := by rw [t.len ht.mac]; kernel_rfl
  have Hit := Lib.hid hit; clear hit
  have hir : ∀ (A : Option Addr) (n c o m : Nat), (Try.prog.info? 25).map (·.size) = some ([.slice A n c, .int .u64 (o : Int), .int .u64 (m : Int)] : List Value).length := fun _ _ _ _ _ => by kernel_rfl
  have Hir := Lib.hid hir; clear hir
  have hin : (Try.prog.info? 27).map (·.size) = some ([.string (strB t.ns), .string (strB t.sa)] : List Value).length := by kernel_rfl
  have Hin := Lib.hid hin; clear hin
  have hto := tkNew_ok ht hnow hm
  have hns : (tkNew t.ns t.sa t.uid t.host t.addr now m).ns = t.ns := by with_unfolding_all rfl
  have hsa : (tkNew t.ns t.sa t.uid t.host t.addr now m).sa = t.sa := by with_unfolding_all rfl
  have htv : t.v = .agg t.cells.toArray := rfl
  rw [htv]
  unfold rgV
  go_enter Try.func5, Try.ntmps5
  go_upto_region 1 with fail
  refine abs (fun w1 => Blk w1 w.heap.size 25 [.slice A n c, .int .u64 (o : Int), .int .u64 (m : Int)] ∧ Blk w1 (w.heap.size + 1) 31 t.cells ∧ Below w.heap.size w w1) ⟨(Blk.of_new w _ _).alloc _, Blk.newAt (by simp) _ _, ((Below.refl _ w).alloc (Nat.le_refl _) _).alloc (by simp) _⟩ ?_
  rintro w1 ⟨kr, kt, f1⟩
  go_wp2_with (first | (refine load_blk kr rfl 25 (.tmp 5) rfl rfl Try.underlying25 (Hir.out _ _ _ _ _) ?_) | (refine load_blk kt rfl 31 (.tmp 6) rfl rfl Try.underlying31 Hit.out ?_))
  refine (long_any A n c o m t w1).mono ?_
  rintro e w2 ⟨rfl, f2⟩
  replace kr := kr.below f2 kr.lt
  replace kt := kt.below f2 kt.lt
  replace f1 := f1.trans (f2.mono f1.size)
  clear f2
  cases hlg : longB n t
  case true =>
    go_wp2_with fail
    refine (awake6_any w2).mono ?_
    rintro e w3 ⟨rfl, f2⟩
    go_wp2_with fail
    go_ret
    exact ⟨rfl, f1.trans (f2.mono f1.size)⟩
  obtain ⟨hl1, hl2, hl3⟩ := longB_no hlg
  by_cases hy0 : ny = 0
  · have d1 : ((ny : Int) == 0) = true := by simp; omega
    have d1' : (ny == 0) = true := by simp; omega
    go_wp2_with fail
    refine (awake6_any w2).mono ?_
    rintro e w9 ⟨rfl, f9⟩
    go_wp2_with fail
    go_ret
    exact ⟨rfl, f1.trans (f9.mono f1.size)⟩
  have d1 : ((ny : Int) == 0) = false := by simp; omega
  by_cases hy1 : 100 < ny
  · have d2 : decide ((100 : Int) < (ny : Int)) = true := by simp; omega
    go_wp2_with fail
    refine (awake6_any w2).mono ?_
    rintro e w9 ⟨rfl, f9⟩
    go_wp2_with fail
    go_ret
    exact ⟨rfl, f1.trans (f9.mono f1.size)⟩
  have d2 : decide ((100 : Int) < (ny : Int)) = false := by simp; omega
  have q2 : w2.cell? ⟨w.heap.size + 1, 2, none⟩ = some (.int .u64 (t.uid : Int)) := kt.cell 2
  have q3 : w2.cell? ⟨w.heap.size + 1, 3, none⟩ = some (.int .i64 t.host) := kt.cell 3
  have q4 : w2.cell? ⟨w.heap.size + 1, 4, none⟩ = some (.int .u32 (t.addr : Int)) := kt.cell 4
  have kn := kt.range 0 2
  rw [t.name] at kn
  go_wp2_with (first | (refine load_blk kr rfl 25 (.tmp 5) rfl rfl Try.underlying25 (Hir.out _ _ _ _ _) ?_) | (refine load_part (cs := [.string (strB t.ns), .string (strB t.sa)]) (b := w.heap.size + 1) (off := 0) kn rfl 27 (.tmp 27) rfl rfl Try.underlying27 Hin.out ?_))
  refine (issue_any A n c o m root t.ns t.sa t.uid t.host t.addr now (tkNew t.ns t.sa t.uid t.host t.addr now m) rfl hto (by rw [hns]; omega) (by rw [hsa]; omega) w2 ((rl.below f1).more f1.size) (by omega)).mono ?_
  rintro e w3 ⟨rfl, f2⟩
  obtain ⟨x, ev, hx, hxm, hxe, hev⟩ := issV_form root n o m (tkNew t.ns t.sa t.uid t.host t.addr now m)
  rw [hx, show x.v = .agg x.cells.toArray from rfl]
  have lr := kr.lt
  have lt := kt.lt
  replace kr := kr.below f2 lr
  replace kt := kt.below f2 lt
  replace f1 := f1.trans (f2.mono f1.size)
  clear f2 q2 q3 q4 kn hx
  have hix : (Try.prog.info? 31).map (·.size) = some x.cells.length := by rw [x.len hxm]; kernel_rfl
  have Hix := Lib.hid hix; clear hix
  have hlz : tkZero.cells.length = x.cells.length := by rw [x.len hxm]; rfl
  have Hlz := Lib.hid hlz; clear hlz
  have Hxe := Lib.hid hxe; clear hxe
  go_upto_region 4 with (first | (refine store_blk (cs := tkZero.cells) (Blk.newAt rfl 31 _) rfl 31 (.tmp 11) (.tmp 37) rfl rfl (us := x.cells) rfl Hix.out Hlz.out x.all ?_; intro w4 kx hg; have f3 : Below w3.heap.size w3 w4 := ((Below.refl _ w3).alloc (Nat.le_refl _) _).grown hg (by simp) (by simp)))
  have lr := kr.lt
  have lt := kt.lt
  replace kr := kr.below f3 lr
  replace kt := kt.below f3 lt
  replace f1 := f1.trans (f3.mono f1.size)
  clear hg f3
  have hgx : w.heap.size + 1 < w3.heap.size := lt
  generalize w3.heap.size = gx at *
  by_cases he : ev = 0
  case neg =>
    obtain rfl : ev = 1 := by omega
    clear Hxe hev he
    go_wp2_with fail
    refine (awake6_any w4).mono ?_
    rintro e w9 ⟨rfl, f9⟩
    go_wp2_with fail
    go_ret
    exact ⟨rfl, f1.trans (f9.mono f1.size)⟩
  subst he
  obtain ⟨rfl, hrg, htk⟩ := Hxe.out rfl
  clear Hxe hev
  obtain ⟨j, hj, hand⟩ := and_31 fd
  generalize tkNew t.ns t.sa t.uid t.host t.addr now m = tn at *
  have hsl := sigB_length root tn
  have hyb : (ny : Int) % 256 = ((UInt8.ofNat ny).toNat : Int) := by rw [UInt8.toNat_ofNat']; omega
  have qj : w4.cell? ⟨gx, 8 + j, none⟩ = some (.int .u8 ((at8 (sigB root tn) j).toNat : Int)) := by rw [kx.cell, sign_cell _ _ _ (by omega)]
  have zj := kx.frozen (8 + j)
  have b1 : (0 : Int) ≤ (j : Int) := by omega
  have b2 : (j : Int) < 32 := by omega
  have hne := turned_ne (sigB root tn) j ny (by omega) hy0 (by omega)
  have ksx := kx.set (8 + j) (bv (xor8 (at8 (sigB root tn) j) (UInt8.ofNat ny)))
  rw [turned_cells _ _ _ _ hj hsl] at ksx
  have hxi : (Try.prog.info? 31).map (·.size) = some (tn.sign ((sigB root tn).set j (xor8 (at8 (sigB root tn) j) (UInt8.ofNat ny)))).cells.length := by rw [Tk.len _ (by show ((sigB root tn).set _ _).length = 32; rw [List.length_set]; exact hsl)]; kernel_rfl
  have Hxi := Lib.hid hxi; clear hxi
  have hvt := ver_turned root n o m tn _ now hrg htk hne
  have hxo : (tn.sign ((sigB root tn).set j (xor8 (at8 (sigB root tn) j) (UInt8.ofNat ny)))).ok := ⟨hto.ns, hto.sa, hto.uid, hto.host, hto.addr, hto.born, hto.till, hto.key, by show ((sigB root tn).set _ _).length = 32; rw [List.length_set]; exact hsl⟩
  have k2 := kr.far (p := ⟨gx, 8 + j, none⟩) (by simp; omega) (bv (xor8 (at8 (sigB root tn) j) (UInt8.ofNat ny)))
  have f2 := f1.setCell (p := ⟨gx, 8 + j, none⟩) (by simp; omega) (bv (xor8 (at8 (sigB root tn) j) (UInt8.ofNat ny)))
  have HVT := Lib.hid hvt; clear hvt
  have hyx : bits .xor .u8 ((at8 (sigB root tn) j).toNat : Int) (ny : Int) = ((xor8 (at8 (sigB root tn) j) (UInt8.ofNat ny)).toNat : Int) := by rw [← u8_xor', show (((UInt8.ofNat ny).toNat : Nat) : Int) = (ny : Int) from by rw [UInt8.toNat_ofNat']; omega]
  have HYX := Lib.hid hyx; clear hyx
  go_upto_region 7 with fail
  rw [HYX.out]
  refine abs (fun w5 => Blk w5 w.heap.size 25 [.slice A n c, .int .u64 (o : Int), .int .u64 (m : Int)] ∧ Blk w5 gx 31 (tn.sign ((sigB root tn).set j (xor8 (at8 (sigB root tn) j) (UInt8.ofNat ny)))).cells ∧ Below w.heap.size w w5) ⟨k2, ksx, f2⟩ ?_
  clear k2 ksx f2 kr kx kt f1 qj zj
  rintro w5 ⟨kr, kx, f1⟩
  go_wp2_with (first | (refine load_blk kr rfl 25 (.tmp 5) rfl rfl Try.underlying25 (Hir.out _ _ _ _ _) ?_) | (refine load_blk kx rfl 31 (.tmp 11) rfl rfl Try.underlying31 Hxi.out ?_))
  refine (verify_any A n c o m root _ now hxo (by show tn.ns.length ≤ 1000; rw [hns]; omega) (by show tn.sa.length ≤ 1000; rw [hsa]; omega) w5 ((rl.below f1).more f1.size) (by omega)).mono ?_
  rintro e w6 ⟨rfl, f2⟩
  rw [HVT.out]
  replace f1 := f1.trans (f2.mono f1.size)
  go_wp2_with fail
  refine (awake6_any w6).mono ?_
  rintro e w9 ⟨rfl, f9⟩
  go_wp2_with fail
  go_ret
  exact ⟨rfl, f1.trans (f9.mono f1.size)⟩
end Go.Proofs.Ytgefbgjgcjiceaa
