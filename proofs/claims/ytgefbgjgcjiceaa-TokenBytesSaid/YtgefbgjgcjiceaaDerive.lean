/- mac.Derive, and the document's. Condition: key and label are at most 2^44 bytes. -/
import Derived.Test.YtgefbgjgcjiceaaRefM6
import Derived.Test.YtgefbgjgcjiceaaTail
namespace Go.Proofs.Ytgefbgjgcjiceaa
open Go.RowKit
set_option linter.unusedVariables false
def derB (label : List UInt8) (n : Nat) : List UInt8 := label ++ 0 :: be64 n
theorem derB_length (label : List UInt8) (n : Nat) : (derB label n).length = label.length + 9 := by simp [derB, be64_length]
theorem be_byte (n j : Nat) (hj : j < 8) : Value.int .u8 ((n : Int) / 2 ^ (8 * (7 - j)) % 256) = bv ((be64 n)[j]'(by rw [be64_length]; exact hj)) := by
  rw [bv_mod (n / 2 ^ (8 * (7 - j))) _ (by rw [Int.natCast_ediv, Int.natCast_pow]; rfl)]
  simp [be64]
theorem be_nine (n : Nat) (hn : n < 18446744073709551616) : [Value.int .u8 0, .int .u8 ((n : Int) / 72057594037927936), .int .u8 ((n : Int) / 281474976710656 % 256), .int .u8 ((n : Int) / 1099511627776 % 256), .int .u8 ((n : Int) / 4294967296 % 256), .int .u8 ((n : Int) / 16777216 % 256), .int .u8 ((n : Int) / 65536 % 256), .int .u8 ((n : Int) / 256 % 256), .int .u8 ((n : Int) % 256)] = bvs (0 :: be64 n) := by
  rw [show (n : Int) / 72057594037927936 = (n : Int) / 72057594037927936 % 256 from by omega]
  have h : ∀ m : Nat, Value.int .u8 ((n : Int) / (m : Int) % 256) = bv (UInt8.ofNat (n / m)) := fun m => bv_mod (n / m) _ (by rw [Int.natCast_ediv])
  have h0 : Value.int .u8 ((n : Int) % 256) = bv (UInt8.ofNat n) := bv_mod n _ rfl
  have e1 := h 72057594037927936
  have e2 := h 281474976710656
  have e3 := h 1099511627776
  have e4 := h 4294967296
  have e5 := h 16777216
  have e6 := h 65536
  have e7 := h 256
  simp only [Int.cast_ofNat_Int] at e1 e2 e3 e4 e5 e6 e7
  rw [e1, e2, e3, e4, e5, e6, e7, h0]
  have he : be64 n = [UInt8.ofNat (n / 72057594037927936), UInt8.ofNat (n / 281474976710656), UInt8.ofNat (n / 1099511627776), UInt8.ofNat (n / 4294967296), UInt8.ofNat (n / 16777216), UInt8.ofNat (n / 65536), UInt8.ofNat (n / 256), UInt8.ofNat n] := by
    simp [be64, List.range, List.range.loop]
  rw [he]
  rfl
set_option maxRecDepth 100000 in
set_option maxHeartbeats 2000000 in
theorem derive_any (A : Option Addr) (n c : Nat) (key label : List UInt8) (N : Nat) (w : World) (hk : RdB w w.heap.size A n key) (hn : n ≤ 17592186044416) (hlb : label.length ≤ 17592186044416) (hN : N < 18446744073709551616) :
    Calls Try.prog 52 #[.slice A n c, .string (strB label), .int .u64 N] w fun e w' => ∃ g, e = .returned (.slice (some ⟨g, 0, none⟩) 32 32) ∧ RdB w' w'.heap.size (some ⟨g, 0, none⟩) 32 (macB key (derB label N)) ∧ Below w.heap.size w w' := by
  have kc := run_conv_str T23 Try.underlying9 w label
  have om := OwnM.conv w 5 label (by omega)
  have fb := below_conv w 5 label
  have hi32 : (Try.prog.info? 29).map (·.size) = some 32 := by kernel_rfl
  have Hi32 := Lib.hid hi32
  clear hi32
  generalize Lib.bytesWorld w 5 (strB label) = wb at *
  generalize grownCap w label.length 0 5 = cb at *
  go_enter Try.func52, Try.ntmps52
  go_upto_region 2 with (at_builtin; go_must (refine appendM T23 (m := 1) (w0 := w) rfl rfl [0] rfl rfl rfl rfl om (by omega) fb (Nat.le_refl _) ?_); intro A1 c1 w1 o1 f1)
  clear kc om fb
  go_wp2_with fail
  go_loopw [7, 8] (fun v i wr => ∃ (j : Nat) (A' : Option Addr) (c' : Nat), j ≤ 8 ∧ i = .int .i64 (7 - (j : Int)) ∧ v = .slice A' (label.length + 1 + j) c' ∧ OwnM wr w.heap.size 5 (.slice A' (label.length + 1 + j) c') (label ++ 0 :: (be64 N).take j) ∧ Below w.heap.size w wr) (fun v _ _ => label.length + 9 - lenOf v)
  case atStart => exact ⟨0, A1, c1, by omega, rfl, rfl, by simpa using o1, f1⟩
  case round =>
    clear o1 f1
    obtain ⟨j, A', c', hj, rfl, rfl, o1, f1⟩ := hrel
    by_cases hlt : j < 8
    · have hcs : (#[Value.int .u8 ((N : Int) / 2 ^ (8 * (7 - j)) % 256)] : Array Value).toList = bvs [(be64 N)[j]'(by rw [be64_length]; exact hlt)] := by
        rw [be_byte N j hlt]; rfl
      have Hcs := Lib.hid hcs
      clear hcs
      have hl8 := be64_length N
      have Hl8 := Lib.hid hl8
      clear hl8
      go_wp2_with (first | (at_builtin; go_must (refine appendM T23 (m := 1) (w0 := w) rfl rfl [(be64 N)[j]'(by rw [be64_length]; exact hlt)] Hcs.out rfl rfl rfl o1 (by omega) f1 (Nat.le_refl _) ?_); intro A2 c2 w2 o2 f2))
      go_roundw
      case rel => exact ⟨j + 1, A2, c2, by omega, by go_num, rfl, o2.of_eq (by rw [List.append_assoc, List.cons_append, List.take_succ_eq_append_getElem (by rw [be64_length]; exact hlt)]), f2⟩
      case measure => simp [lenOf]; omega
    · obtain rfl : j = 8 := by omega
      have hd : label ++ 0 :: (be64 N).take 8 = derB label N := by rw [List.take_of_length_le (by rw [be64_length]; omega)]; rfl
      rw [hd] at o1
      have hdl := derB_length label N
      have Hdl := Lib.hid hdl
      clear hd hdl
      have f1s := f1.size
      have hk1 := (hk.below f1).more f1s
      have rd := o1.rd
      generalize hDe : derB label N = D at *
      have HDe := Lib.hid hDe
      clear hDe
      go_wp2_with fail
      refine absC (fun w2 => Blk w2 wr.heap.size 22 ([⟨A', label.length + 1 + 8, c', D⟩].map Part.v) ∧ RdB w2 w2.heap.size A n key ∧ RdB w2 w2.heap.size A' (label.length + 1 + 8) D ∧ Below w.heap.size w w2) ⟨Blk.of_new wr _ [_], (hk1.alloc (Nat.le_refl _) _).more (by simp), (rd.alloc (Nat.le_refl _) _).more (by simp), f1.alloc f1s _⟩ ?_
      clear f1 hk1 rd o1
      rintro w2 ⟨k2, hk2, rd2, f2⟩
      have hcat : catB [(⟨A', label.length + 1 + 8, c', D⟩ : Part)] = D := by simp [catB]
      have hrl := RdL.of_blk k2 (fun p hp => by obtain rfl := List.mem_singleton.1 hp; exact rd2)
      refine (mac_any A n c key _ 1 1 _ w2 hk2 (by omega) hrl (by rw [hcat, Hdl.out]; omega) (by omega)).mono ?_
      rintro e w3 ⟨rfl, f3⟩
      rw [hcat]
      clear hcat hrl k2 hk2 rd2
      have hml := macB_length key D
      have HML := Lib.hid hml
      clear hml
      have F3 := f2.trans (f3.mono f2.size)
      generalize hRe : macB key D = R at *
      have HRe := Lib.hid hRe
      clear hRe f2 f3
      have hz : (Try.prog.info? 29).map (·.size) = some (bvs R).length := by rw [bvs_length, HML.out]; exact Hi32.out
      have HzR := Lib.hid hz
      have hz2 : (bvs (List.replicate 32 0)).length = (bvs R).length := by rw [bvs_length, bvs_length, HML.out]; rfl
      have HzR2 := Lib.hid hz2
      clear hz hz2
      go_wp2_with (first | (refine store_blk (us := bvs R) (Blk.of_new w3 29 (bvs (List.replicate 32 0))) rfl 29 (.tmp 9) (.tmp 29) rfl rfl rfl HzR.out HzR2.out (bvs_all _) ?_; intro w4 k4 hg4))
      go_ret
      have f4 : Below w3.heap.size w3 w4 := ((Below.refl _ w3).alloc (Nat.le_refl _) _).grown hg4 (by simp) (by simp)
      exact ⟨_, rfl, by rw [HDe.out, HRe.out]; exact (OwnB.of_blk k4 (Nat.zero_le _) HML.out (by simp [maxLen])).rd, F3.trans (f4.mono F3.size)⟩
set_option maxRecDepth 100000 in
set_option maxHeartbeats 2000000 in
theorem refDerive_any (A : Option Addr) (n c : Nat) (key label : List UInt8) (N : Nat) (w : World) (hk : RdB w w.heap.size A n key) (hn : n ≤ 17592186044416) (hlb : label.length ≤ 17592186044416) (hN : N < 18446744073709551616) :
    Calls Try.prog 54 #[.slice A n c, .string (strB label), .int .u64 N] w fun e w' => ∃ A' c', e = .returned (.slice A' 32 c') ∧ OwnB w' w.heap.size 5 (.slice A' 32 c') (macB key (derB label N)) ∧ Below w.heap.size w w' := by
  have kc := run_conv_str T23 Try.underlying9 w label
  have om := OwnM.conv w 5 label (by omega)
  have fb := below_conv w 5 label
  have hi32 : (Try.prog.info? 29).map (·.size) = some 32 := by kernel_rfl
  have Hi32 := Lib.hid hi32
  clear hi32
  have h9 := be_nine N hN
  have H9 := Lib.hid h9
  clear h9
  generalize Lib.bytesWorld w 5 (strB label) = wb at *
  generalize grownCap w label.length 0 5 = cb at *
  go_enter Try.func54, Try.ntmps54
  go_upto_region 2 with (at_builtin; go_must (refine appendM T23 (m := 9) (w0 := w) rfl rfl (0 :: be64 N) H9.out (by rw [List.length_cons, be64_length]) rfl rfl om (by omega) fb (Nat.le_refl _) ?_); intro A1 c1 w1 o1 f1)
  have hdl := derB_length label N
  have Hdl := Lib.hid hdl
  have o1' : OwnM w1 w.heap.size 5 (.slice A1 (label.length + 9) c1) (derB label N) := o1
  clear kc om fb hdl o1
  generalize hDe : derB label N = D at *
  have HDe := Lib.hid hDe
  clear hDe
  have f1s := f1.size
  go_wp2_with fail
  refine (refMac_any A n c key A1 (label.length + 9) c1 D w1 ((hk.below f1).more f1s) o1'.rd (by omega) (by omega)).mono ?_
  rintro e w3 ⟨rfl, f3⟩
  have hml := macB_length key D
  have HML := Lib.hid hml
  clear hml
  have F3 := f1.trans (f3.mono f1s)
  generalize hRe : macB key D = R at *
  have HRe := Lib.hid hRe
  clear hRe f1 f3 o1'
  have hz : (Try.prog.info? 29).map (·.size) = some (bvs R).length := by rw [bvs_length, HML.out]; exact Hi32.out
  have HzR := Lib.hid hz
  have hz2 : (bvs (List.replicate 32 0)).length = (bvs R).length := by rw [bvs_length, bvs_length, HML.out]; rfl
  have HzR2 := Lib.hid hz2
  clear hz hz2
  go_upto_region 3 with (first | (refine store_blk (us := bvs R) (Blk.of_new w3 29 (bvs (List.replicate 32 0))) rfl 29 (.tmp 8) (.tmp 38) rfl rfl rfl HzR.out HzR2.out (bvs_all _) ?_; intro w4 k4 hg4))
  have f4 : Below w3.heap.size w3 w4 := ((Below.refl _ w3).alloc (Nat.le_refl _) _).grown hg4 (by simp) (by simp)
  have F4 := F3.trans (f4.mono F3.size)
  have rS := (OwnB.of_blk k4 (Nat.zero_le _) HML.out (by simp [maxLen])).rd.below ((Below.refl _ w4).alloc (Nat.le_refl _) (.cells #[] 5))
  clear hg4 f4 k4 F3
  go_wp2_with (at_builtin; go_must (refine appendR T23 rfl rfl rfl (OwnB.of_blk (l := []) (Blk.of_new w4 _ _) (Nat.le_refl _) rfl (by simp [maxLen])) rfl rS (by omega) ((Below.refl _ w4).alloc (Nat.le_refl _) _) (Nat.le_refl _) ?_); intro A6 c6 w6 o6 f6 _)
  rw [Nat.zero_add, List.nil_append] at o6
  go_ret
  exact ⟨A6, c6, rfl, by rw [HDe.out, HRe.out]; exact o6.base_le F4.size, F4.trans (f6.mono F4.size)⟩
end Go.Proofs.Ytgefbgjgcjiceaa
