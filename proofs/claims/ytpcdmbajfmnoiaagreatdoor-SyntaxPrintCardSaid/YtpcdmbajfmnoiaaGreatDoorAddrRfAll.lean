/- The document's Digits, Number, byteOf, Print. Conditions: numbers below 1000; texts of a million bytes at most. The document's In, Last, Covers. Condition: an address of 32 bits, bits that fit an int. The document's Cut, Parse, PrintNet, ParseNet. Conditions: texts of a million bytes at most. The document's PrintNet, ParseNet. Conditions: texts of a million bytes at most. -/
import Derived.Test.YtpcdmbajfmnoiaaGreatDoorSynParseAll
import Derived.Test.YtpcdmbajfmnoiaaGreatDoorAddrPn
import Derived.Test.YtpcdmbajfmnoiaaGreatDoorFacts
import Derived.IntWalk
import Derived.Test.YtpcdmbajfmnoiaaGreatDoorAddrAB
namespace Go.Proofs.YtpcdmbajfmnoiaaGreatDoor
open Go.RowKit Go.Sort
set_option linter.unusedVariables false
set_option linter.unusedSimpArgs false
theorem decD (n : Nat) (h : ¬ n < 10) : Lib.decDigits n = Lib.decDigits (n / 10) ++ [UInt8.ofNat (48 + n % 10)] := by rw [Lib.decDigits, dif_neg h]
theorem dec_len (n : Nat) (h : n < 1000) : (Lib.decDigits n).length ≤ 3 := by
 rw [dec_dig3 h]
 unfold dig3
 split
 ·simp
 ·split <;> simp
theorem bv_of (r : Nat) (h : r < 10) : (Value.int .u8 (48 + (r : Int))) = bv (UInt8.ofNat (48 + r)) := by
 unfold bv
 congr 1
 rw [UInt8.toNat_ofNat']
 omega
theorem one_bv (w : World) (b : UInt8) : RdB (w.alloc (.cells #[bv b] 5)) (w.alloc (.cells #[bv b] 5)).heap.size (some ⟨w.heap.size, 0, none⟩) 1 [b] := by
 have k := Blk.of_new w 5 (bvs [b])
 exact k.rdB rfl
theorem TB : ByteTy Tryz.prog 123 5 := ⟨Tryz.underlying123, Tryz.underlying5, by kernel_rfl⟩
set_option maxRecDepth 100000 in
set_option maxHeartbeats 4000000 in
theorem refDig_step (n : Nat) (hn : n < 1000) (ih : ¬ n < 10 → ∀ w, Calls Tryz.prog 84 #[.int .i64 ((n / 10 : Nat) : Int)] w fun e w' => e = .returned (.string (strB (Lib.decDigits (n / 10)))) ∧ Below w.heap.size w w') (w : World) :
  Calls Tryz.prog 84 #[.int .i64 (n : Int)] w fun e w' => e = .returned (.string (strB (Lib.decDigits n))) ∧ Below w.heap.size w w' := by
 by_cases h10 : n < 10
 ·have d0 : decide ((n : Int) < 10) = true := by simp; omega
  have b0 : (0 : Int) ≤ (n : Int) := by omega
  have b1 : (n : Int) ≤ 9 := by omega
  have BV := bv_of n h10
  have hd := Lib.decDigits_one h10
  rw [hd]
  have one := fun u : World => one_bv u (UInt8.ofNat (48 + n))
  obtain ⟨y, hy⟩ : ∃ y, UInt8.ofNat (48 + n) = y := ⟨_, rfl⟩
  rw [hy] at BV one ⊢
  clear hd hy
  have w8 : IntKind.u8.wrap (48 + (n : Int)) = 48 + (n : Int) := IntWalk.u8_in _ (by omega)
  have hr := fun (u : World) (r : RdB u u.heap.size (some ⟨w.heap.size, 0, none⟩) 1 [y]) => run_str (w := u) TB r 1 9 Tryz.underlying9
  have hr1 := hr _ (one w)
  rw [← BV] at hr1
  clear hr one BV
  go_enter Tryz.func84, Tryz.ntmps84
  go_wp2_with fail
  go_ret
  exact ⟨rfl, (Below.refl _ w).alloc (Nat.le_refl _) _⟩
 ·have d0 : decide ((n : Int) < 10) = false := by simp; omega
  replace ih := ih h10
  have b0 : (0 : Int) ≤ (n : Int) := by omega
  have b1 : (n : Int) ≤ 999 := by omega
  have hr := Nat.mod_lt n (show 0 < 10 by omega)
  have BV := Lib.hid (bv_of (n % 10) hr)
  have hq : strB (Lib.decDigits n) = strB (Lib.decDigits (n / 10)) ++ strB [UInt8.ofNat (48 + n % 10)] := by rw [strB_app, ← decD n h10]
  have hz : (strB (Lib.decDigits (n / 10))).size ≤ 3 := by rw [strB_size]; exact dec_len _ (by omega)
  have hz1 : (strB [UInt8.ofNat (48 + n % 10)]).size = 1 := strB_size _
  have R11 : (n : Int) % 10 = ((n % 10 : Nat) : Int) := by omega
  have T11 : (n : Int).tmod 10 = ((n % 10 : Nat) : Int) := by rw [Int.tmod_eq_emod_of_nonneg (by omega)]; omega
  have E11 : (n : Int) / 10 = ((n / 10 : Nat) : Int) := by omega
  have hk1 : n / 10 ≤ 99 := by omega
  obtain ⟨q, hqq⟩ : ∃ q, strB (Lib.decDigits n) = q := ⟨_, rfl⟩
  rw [hqq] at hq ⊢
  generalize strB (Lib.decDigits (n / 10)) = p at *
  obtain ⟨y, hy⟩ : ∃ y, UInt8.ofNat (48 + n % 10) = y := ⟨_, rfl⟩
  rw [hy] at BV hq hz1
  have HQ := Lib.hid hq.symm
  clear hq hqq hy
  generalize n % 10 = m at *
  generalize n / 10 = k at *
  have m0 : (0 : Int) ≤ (m : Int) := by omega
  have m1 : (m : Int) ≤ 9 := by omega
  have k0 : (0 : Int) ≤ (k : Int) := by omega
  have k1 : (k : Int) ≤ 99 := by omega
  have w8 : IntKind.u8.wrap (48 + (m : Int)) = 48 + (m : Int) := IntWalk.u8_in _ (by omega)
  have v48 : IntKind.i64.wrap (48 + (m : Int)) = 48 + (m : Int) := IntWalk.i64_in _ (by omega)
  have vm : IntKind.i64.wrap (m : Int) = (m : Int) := IntWalk.i64_in _ (by omega)
  have vk : IntKind.i64.wrap (k : Int) = (k : Int) := IntWalk.i64_in _ (by omega)
  have zs : ¬ 9223372036854775807 < p.size + (strB [y]).size := by omega
  have zt : ¬ 9223372036854775807 < p.size + 1 := by omega
  go_enter Tryz.func84, Tryz.ntmps84
  go_upto_region 3 with fail
  refine wp_region_facts (fun u => Below w.heap.size w u) [
    fun v _ => v = .int .i64 (n : Int),
    fun v _ => v = .int .i64 (k : Int),
    fun v _ => v = .string p,
    fun v _ => v = .int .i64 (n : Int),
    fun v _ => v = .int .i64 (m : Int),
    fun v _ => v = .int .i64 (48 + (m : Int)),
    fun v _ => v = .int .u8 (48 + (m : Int)),
    fun v u => ∃ g, v = .slice (some ⟨g, 0, none⟩) 1 1 ∧ RdB u u.heap.size (some ⟨g, 0, none⟩) 1 [y],
    fun v _ => v = .string (strB [y]),
    fun v _ => v = .string q,
    fun v _ => v = .string q] (fun u u' => Below u.heap.size u u')
    [[], [0], [1], [], [3], [4], [5], [6], [7], [2, 8], [9]] []
    (by kernel_rfl) (by kernel_rfl) ?_ (fun _ _ _ _ _ h => h) ((Below.refl _ _).drew) ?_ ?_
  ·refine hE_of (fun u u' h f => f.trans (h.mono f.size)) ?_
   repeat' (first | exact mono_nil | refine mono_cons (fun v u u' h => ?_) ?_)
   all_goals first | exact _root_.id | (rintro ⟨g, e, r⟩; exact ⟨g, e, (r.below h).more h.size⟩)
  ·
   refine owed_cons (fun vs u hS hD N => ?_) ?_
   ·clear hD
    intro hN
    simp only [fact, layAt, depOn, dstOf, List.map_cons, List.map_nil, List.foldl_cons, List.foldl_nil, List.getD_cons_zero, List.getD_cons_succ, List.getElem?_cons_zero, List.getElem?_cons_succ, Option.bind_some] at hN ⊢
    go_simp
    have hh := hN _ _ rfl (.inl (Below.refl _ _))
    revert hh
    go_simp
   refine owed_cons (fun vs u hS hD N => ?_) ?_
   ·have d0 := hD 0 (by decide)
    simp only [fact, layAt, depOn, dstOf, List.map_cons, List.map_nil, List.foldl_cons, List.foldl_nil, List.getD_cons_zero, List.getD_cons_succ, List.getElem?_cons_zero, List.getElem?_cons_succ, Option.bind_some] at d0
    clear hD
    intro hN
    simp only [fact, layAt, depOn, dstOf, List.map_cons, List.map_nil, List.foldl_cons, List.foldl_nil, List.getD_cons_zero, List.getD_cons_succ, List.getElem?_cons_zero, List.getElem?_cons_succ, Option.bind_some, d0] at hN ⊢
    go_simp
    have hh := hN _ _ rfl (.inl (Below.refl _ _))
    revert hh
    go_simp
   refine owed_cons (fun vs u hS hD N => ?_) ?_
   ·have d1 := hD 1 (by decide)
    simp only [fact, layAt, depOn, dstOf, List.map_cons, List.map_nil, List.foldl_cons, List.foldl_nil, List.getD_cons_zero, List.getD_cons_succ, List.getElem?_cons_zero, List.getElem?_cons_succ, Option.bind_some] at d1
    clear hD
    intro hN
    simp only [fact, layAt, depOn, dstOf, List.map_cons, List.map_nil, List.foldl_cons, List.foldl_nil, List.getD_cons_zero, List.getD_cons_succ, List.getElem?_cons_zero, List.getElem?_cons_succ, Option.bind_some, d1] at hN ⊢
    go_simp
    refine (ih _).mono ?_
    rintro e u' ⟨rfl, f⟩
    have hh := hN _ _ rfl (.inl f)
    revert hh
    go_simp
   refine owed_cons (fun vs u hS hD N => ?_) ?_
   ·clear hD
    intro hN
    simp only [fact, layAt, depOn, dstOf, List.map_cons, List.map_nil, List.foldl_cons, List.foldl_nil, List.getD_cons_zero, List.getD_cons_succ, List.getElem?_cons_zero, List.getElem?_cons_succ, Option.bind_some] at hN ⊢
    go_simp
    have hh := hN _ _ rfl (.inl (Below.refl _ _))
    revert hh
    go_simp
   refine owed_cons (fun vs u hS hD N => ?_) ?_
   ·have d3 := hD 3 (by decide)
    simp only [fact, layAt, depOn, dstOf, List.map_cons, List.map_nil, List.foldl_cons, List.foldl_nil, List.getD_cons_zero, List.getD_cons_succ, List.getElem?_cons_zero, List.getElem?_cons_succ, Option.bind_some] at d3
    clear hD
    intro hN
    simp only [fact, layAt, depOn, dstOf, List.map_cons, List.map_nil, List.foldl_cons, List.foldl_nil, List.getD_cons_zero, List.getD_cons_succ, List.getElem?_cons_zero, List.getElem?_cons_succ, Option.bind_some, d3] at hN ⊢
    go_simp
    have hh := hN _ _ rfl (.inl (Below.refl _ _))
    revert hh
    go_simp
   refine owed_cons (fun vs u hS hD N => ?_) ?_
   ·have d4 := hD 4 (by decide)
    simp only [fact, layAt, depOn, dstOf, List.map_cons, List.map_nil, List.foldl_cons, List.foldl_nil, List.getD_cons_zero, List.getD_cons_succ, List.getElem?_cons_zero, List.getElem?_cons_succ, Option.bind_some] at d4
    clear hD
    intro hN
    simp only [fact, layAt, depOn, dstOf, List.map_cons, List.map_nil, List.foldl_cons, List.foldl_nil, List.getD_cons_zero, List.getD_cons_succ, List.getElem?_cons_zero, List.getElem?_cons_succ, Option.bind_some, d4] at hN ⊢
    go_simp
    have hh := hN _ _ rfl (.inl (Below.refl _ _))
    revert hh
    go_simp
   refine owed_cons (fun vs u hS hD N => ?_) ?_
   ·have d5 := hD 5 (by decide)
    simp only [fact, layAt, depOn, dstOf, List.map_cons, List.map_nil, List.foldl_cons, List.foldl_nil, List.getD_cons_zero, List.getD_cons_succ, List.getElem?_cons_zero, List.getElem?_cons_succ, Option.bind_some] at d5
    clear hD
    intro hN
    simp only [fact, layAt, depOn, dstOf, List.map_cons, List.map_nil, List.foldl_cons, List.foldl_nil, List.getD_cons_zero, List.getD_cons_succ, List.getElem?_cons_zero, List.getElem?_cons_succ, Option.bind_some, d5] at hN ⊢
    go_simp
    have hh := hN _ _ rfl (.inl (Below.refl _ _))
    revert hh
    go_simp
   refine owed_cons (fun vs u hS hD N => ?_) ?_
   ·have d6 := hD 6 (by decide)
    simp only [fact, layAt, depOn, dstOf, List.map_cons, List.map_nil, List.foldl_cons, List.foldl_nil, List.getD_cons_zero, List.getD_cons_succ, List.getElem?_cons_zero, List.getElem?_cons_succ, Option.bind_some] at d6
    clear hD
    intro hN
    simp only [fact, layAt, depOn, dstOf, List.map_cons, List.map_nil, List.foldl_cons, List.foldl_nil, List.getD_cons_zero, List.getD_cons_succ, List.getElem?_cons_zero, List.getElem?_cons_succ, Option.bind_some, d6] at hN ⊢
    go_simp
    have kk : RdB (u.alloc (.cells #[.int .u8 (48 + (m : Int))] 5)) (u.alloc (.cells #[.int .u8 (48 + (m : Int))] 5)).heap.size (some ⟨u.heap.size, 0, none⟩) 1 [y] := by rw [BV.out]; exact one_bv u y
    have hh := hN _ _ ⟨u.heap.size, rfl, kk⟩ (.inl ((Below.refl _ u).alloc (Nat.le_refl _) _))
    revert hh
    go_simp
   refine owed_cons (fun vs u hS hD N => ?_) ?_
   ·have d7 := hD 7 (by decide)
    simp only [fact, layAt, depOn, dstOf, List.map_cons, List.map_nil, List.foldl_cons, List.foldl_nil, List.getD_cons_zero, List.getD_cons_succ, List.getElem?_cons_zero, List.getElem?_cons_succ, Option.bind_some] at d7
    obtain ⟨g, e7, rY⟩ := d7
    clear hD
    intro hN
    simp only [fact, layAt, depOn, dstOf, List.map_cons, List.map_nil, List.foldl_cons, List.foldl_nil, List.getD_cons_zero, List.getD_cons_succ, List.getElem?_cons_zero, List.getElem?_cons_succ, Option.bind_some, e7] at hN ⊢
    rw [if_pos (by rfl)]
    have hr := run_str (w := u) TB rY 1 9 Tryz.underlying9
    go_simp
    have hh := hN _ _ rfl (.inl (Below.refl _ _))
    revert hh
    go_simp
   refine owed_cons (fun vs u hS hD N => ?_) ?_
   ·have d2 := hD 2 (by decide)
    simp only [fact, layAt, depOn, dstOf, List.map_cons, List.map_nil, List.foldl_cons, List.foldl_nil, List.getD_cons_zero, List.getD_cons_succ, List.getElem?_cons_zero, List.getElem?_cons_succ, Option.bind_some] at d2
    have d8 := hD 8 (by decide)
    simp only [fact, layAt, depOn, dstOf, List.map_cons, List.map_nil, List.foldl_cons, List.foldl_nil, List.getD_cons_zero, List.getD_cons_succ, List.getElem?_cons_zero, List.getElem?_cons_succ, Option.bind_some] at d8
    clear hD
    intro hN
    simp only [fact, layAt, depOn, dstOf, List.map_cons, List.map_nil, List.foldl_cons, List.foldl_nil, List.getD_cons_zero, List.getD_cons_succ, List.getElem?_cons_zero, List.getElem?_cons_succ, Option.bind_some, d2, d8] at hN ⊢
    go_simp
    have hh := hN (.string (p ++ strB [y])) _ (by rw [HQ.out]) (.inl (Below.refl _ _))
    revert hh
    go_simp
   refine owed_cons (fun vs u hS hD N => ?_) ?_
   ·have d9 := hD 9 (by decide)
    simp only [fact, layAt, depOn, dstOf, List.map_cons, List.map_nil, List.foldl_cons, List.foldl_nil, List.getD_cons_zero, List.getD_cons_succ, List.getElem?_cons_zero, List.getElem?_cons_succ, Option.bind_some] at d9
    clear hD
    intro hN
    simp only [fact, layAt, depOn, dstOf, List.map_cons, List.map_nil, List.foldl_cons, List.foldl_nil, List.getD_cons_zero, List.getD_cons_succ, List.getElem?_cons_zero, List.getElem?_cons_succ, Option.bind_some, d9] at hN ⊢
    go_simp
    have hh := hN _ _ rfl (.inl (Below.refl _ _))
    revert hh
    go_simp
   exact owed_nil
  ·
   intro vs u hS hF
   have d10 := hF 10 (by decide) (by decide)
   simp only [fact, layAt, depOn, dstOf, List.map_cons, List.map_nil, List.foldl_cons, List.foldl_nil, List.getD_cons_zero, List.getD_cons_succ, List.getElem?_cons_zero, List.getElem?_cons_succ, Option.bind_some] at d10
   clear hF
   simp only [List.length_cons, List.length_nil, Nat.reduceAdd, List.range, List.range.loop, fact, layAt, depOn, dstOf, List.map_cons, List.map_nil, List.foldl_cons, List.foldl_nil, List.getD_cons_zero, List.getD_cons_succ, List.getElem?_cons_zero, List.getElem?_cons_succ, Option.bind_some, d10]
   go_simp
   go_wp2_with fail
   go_ret
   exact ⟨rfl, hS⟩
theorem refDig_any : ∀ (k n : Nat), n < 10 ^ k → n < 1000 → ∀ w : World, Calls Tryz.prog 84 #[.int .i64 (n : Int)] w fun e w' => e = .returned (.string (strB (Lib.decDigits n))) ∧ Below w.heap.size w w'
 | 0, n, hk, hn, w => refDig_step n hn (fun h => absurd hk (by omega)) w
 | k + 1, n, hk, hn, w => refDig_step n hn (fun h w => refDig_any k (n / 10) (by rw [Nat.pow_succ] at hk; omega) (by omega) w) w
theorem refDigits_any (n : Nat) (hn : n < 1000) (w : World) : Calls Tryz.prog 84 #[.int .i64 (n : Int)] w fun e w' => e = .returned (.string (strB (Lib.decDigits n))) ∧ Below w.heap.size w w' := refDig_any 3 n hn hn w
set_option maxRecDepth 100000 in
set_option maxHeartbeats 4000000 in
theorem refByte_any (a i : Nat) (w : World) (ha : a < 4294967296) (hi : i < 4) :
  Calls Tryz.prog 129 #[.int .u32 (a : Int), .int .i64 (i : Int)] w fun e w' => e = .returned (.int .i64 ((oct a i : Nat) : Int)) ∧ w = w' := by
 have hoct : oct a i = a / 256 ^ (3 - i) % 256 := by
  unfold oct
  rcases (show i = 0 ∨ i = 1 ∨ i = 2 ∨ i = 3 by omega) with rfl | rfl | rfl | rfl <;> rfl
 have HO := Lib.hid hoct; clear hoct
 go_enter Tryz.func129, Tryz.ntmps129
 go_wp2_with fail
 go_loop [0, 5] (fun x k => ∃ j : Nat, i ≤ j ∧ j ≤ 3 ∧ k = .int .i64 j ∧ x = .int .u32 ((a / 256 ^ (j - i) : Nat) : Int)) (fun _ k => 3 - (intOf k).toNat)
 case atStart => exact ⟨i, Nat.le_refl _, by omega, rfl, by rw [Nat.sub_self, Nat.pow_zero, Nat.div_one]⟩
 case round =>
  obtain ⟨j, hij, hj, rfl, rfl⟩ := hrel
  have hle : a / 256 ^ (j - i) < 4294967296 := Nat.lt_of_le_of_lt (Nat.div_le_self _ _) ha
  by_cases hlt : j < 3
  ·have d1 : decide ((j : Int) < 3) = true := by simp; omega
   have hs : a / 256 ^ (j + 1 - i) = a / 256 ^ (j - i) / 256 := by
    rw [Nat.div_div_eq_div_mul, ← Nat.pow_succ]; congr 2; omega
   have HS := Lib.hid hs; clear hs
   have b0 : (0 : Int) ≤ ((a / 256 ^ (j - i) : Nat) : Int) := Int.natCast_nonneg _
   obtain ⟨z, hz⟩ : ∃ z, a / 256 ^ (j - i) = z := ⟨_, rfl⟩
   rw [hz] at hle b0 ⊢
   have HZ := Lib.hid hz; clear hz
   have w1 : IntKind.u32.wrap ((z : Int) / 256) = (z : Int) / 256 := IntWalk.u32_in _ (by omega)
   go_wp2_with fail
   go_round
   case rel => exact ⟨j + 1, by omega, by omega, by go_num, by rw [HS.out, HZ.out]; first | rfl | (push_cast; rfl) | go_num⟩
   case measure => simp [intOf]; omega
  ·have d1 : decide ((j : Int) < 3) = false := by simp; omega
   obtain rfl : j = 3 := by omega
   obtain ⟨z, hz⟩ : ∃ z, a / 256 ^ (3 - i) = z := ⟨_, rfl⟩
   rw [hz] at hle ⊢
   have HZ := Lib.hid hz; clear hz
   have b0 : (0 : Int) ≤ (z : Int) := by omega
   have b1 : (z : Int) ≤ 4294967295 := by omega
   go_wp2_with fail
   go_ret
   refine ⟨?_, rfl⟩
   rw [HO.out, HZ.out]
   first | rfl | (push_cast; rfl)
set_option maxRecDepth 100000 in
set_option maxHeartbeats 4000000 in
theorem refPrint_any (a : Nat) (ha : a < 4294967296) (w : World) :
  Calls Tryz.prog 83 #[.int .u32 (a : Int)] w fun e w' => e = .returned (.string (strB (printA a))) ∧ Below w.heap.size w w' := by
 have hp : strB (Lib.decDigits (oct a 0)) ++ ⟨#[46]⟩ ++ strB (Lib.decDigits (oct a 1)) ++ ⟨#[46]⟩ ++ strB (Lib.decDigits (oct a 2)) ++ ⟨#[46]⟩ ++ strB (Lib.decDigits (oct a 3)) = strB (printA a) := by
  have hi : ∀ k : Nat, Lib.itoa (k : Int) = Lib.decDigits k := fun k => by unfold Lib.itoa; rw [if_neg (by omega), Int.toNat_natCast]
  rw [show (⟨#[46]⟩ : ByteArray) = strB [46] from rfl]
  simp only [strB_app]
  unfold printA octs
  rw [join4]
  simp only [hi]
  simp
 have z : ∀ k, (strB (Lib.decDigits (oct a k))).size ≤ 3 := fun k => by rw [strB_size]; exact dec_len _ (by have := oct_lt a k; omega)
 have z0 := z 0; have z1 := z 1; have z2 := z 2; have z3 := z 3
 have HP := Lib.hid hp
 clear hp z
 have F1 : Below w.heap.size w w := Below.refl _ _
 have hb0 := fun w => refByte_any a 0 w ha (by omega)
 have hb1 := fun w => refByte_any a 1 w ha (by omega)
 have hb2 := fun w => refByte_any a 2 w ha (by omega)
 have hb3 := fun w => refByte_any a 3 w ha (by omega)
 have hd0 := refDigits_any (oct a 0) (by have := oct_lt a 0; omega)
 have hd1 := refDigits_any (oct a 1) (by have := oct_lt a 1; omega)
 have hd2 := refDigits_any (oct a 2) (by have := oct_lt a 2; omega)
 have hd3 := refDigits_any (oct a 3) (by have := oct_lt a 3; omega)
 generalize strB (Lib.decDigits (oct a 0)) = s0 at *
 generalize strB (Lib.decDigits (oct a 1)) = s1 at *
 generalize strB (Lib.decDigits (oct a 2)) = s2 at *
 generalize strB (Lib.decDigits (oct a 3)) = s3 at *
 generalize strB (printA a) = r at *
 have y1 : ¬ 9223372036854775807 < s0.size + 1 := by omega
 have y2 : ¬ 9223372036854775807 < s0.size + 1 + s1.size := by omega
 have y3 : ¬ 9223372036854775807 < s0.size + 1 + s1.size + 1 := by omega
 have y4 : ¬ 9223372036854775807 < s0.size + 1 + s1.size + 1 + s2.size := by omega
 have y5 : ¬ 9223372036854775807 < s0.size + 1 + s1.size + 1 + s2.size + 1 := by omega
 have y6 : ¬ 9223372036854775807 < s0.size + 1 + s1.size + 1 + s2.size + 1 + s3.size := by omega
 go_enter Tryz.func83, Tryz.ntmps83
 go_wp2_with fail
 refine (hb0 _).mono ?_
 rintro _ w9 ⟨rfl, rfl⟩
 go_wp2_with fail
 refine (hd0 _).mono ?_
 rintro _ w9 ⟨rfl, f9⟩
 replace F1 := F1.trans (f9.mono F1.size)
 clear f9
 go_wp2_with fail
 refine (hb1 _).mono ?_
 rintro _ w9 ⟨rfl, rfl⟩
 go_wp2_with fail
 refine (hd1 _).mono ?_
 rintro _ w9 ⟨rfl, f9⟩
 replace F1 := F1.trans (f9.mono F1.size)
 clear f9
 go_wp2_with fail
 refine (hb2 _).mono ?_
 rintro _ w9 ⟨rfl, rfl⟩
 go_wp2_with fail
 refine (hd2 _).mono ?_
 rintro _ w9 ⟨rfl, f9⟩
 replace F1 := F1.trans (f9.mono F1.size)
 clear f9
 go_wp2_with fail
 refine (hb3 _).mono ?_
 rintro _ w9 ⟨rfl, rfl⟩
 go_wp2_with fail
 refine (hd3 _).mono ?_
 rintro _ w9 ⟨rfl, f9⟩
 replace F1 := F1.trans (f9.mono F1.size)
 clear f9
 go_wp2_with fail
 go_ret
 exact ⟨by rw [← HP.out]; rfl, F1⟩
end Go.Proofs.YtpcdmbajfmnoiaaGreatDoor
namespace Go.Proofs.YtpcdmbajfmnoiaaGreatDoor
open Go.RowKit Go.Sort
set_option linter.unusedVariables false
set_option linter.unusedSimpArgs false
end Go.Proofs.YtpcdmbajfmnoiaaGreatDoor
namespace Go.Proofs.YtpcdmbajfmnoiaaGreatDoor
open Go.RowKit Go.Sort
set_option linter.unusedVariables false
set_option linter.unusedSimpArgs false
/-- Where the document's Cut stands. -/
def CutS (c : UInt8) (l : List UInt8) (D : List (List UInt8)) (f i : Nat) : Prop := CutAt c l D f i ∨ (i = l.length + 1 ∧ D = spl c l)
theorem CutS.len {c : UInt8} {l : List UInt8} {D : List (List UInt8)} {f i : Nat} (h : CutS c l D f i) : D.length ≤ l.length + 1 ∧ i ≤ l.length + 1 := by
 have hs := spl_len c l
 rcases h with h | ⟨h1, h2⟩
 ·have e := congrArg List.length h.eq
  rw [List.length_append] at e
  have := h.li
  omega
 ·rw [h2]; omega
end Go.Proofs.YtpcdmbajfmnoiaaGreatDoor
namespace Go.Proofs.YtpcdmbajfmnoiaaGreatDoor
open Go.RowKit Go.Sort
set_option linter.unusedVariables false
set_option linter.unusedSimpArgs false
set_option maxRecDepth 100000 in
set_option maxHeartbeats 2000000 in
theorem refPrintNet_any (a : Nat) (b : Int) (w : World) (hc : okN (a, b)) :
  Calls Tryz.prog 48 #[ntV a b] w fun e w' => e = .returned (.string (strB (printNetA (a, b)))) ∧ Below w.heap.size w w' := by
 have hmay := fun w => refMay_any a b w hc
 obtain ⟨h0, h1, h2⟩ := hc
 simp only at h0 h1 h2
 rcases hm : nMay (a, b) with _ | _
 ·have e : printNetA (a, b) = [] := by unfold printNetA; rw [if_neg (by rw [hm]; decide)]
  rw [hm] at hmay
  rw [e]
  clear e hm
  unfold ntV at *
  go_enter Tryz.func48, Tryz.ntmps48
  go_upto_region 1 with fail
  refine abs (fun w1 => BxS w.heap.size a b w1 ∧ Grn w w1) ⟨box_cells w a b, (Grn.refl w).alloc _⟩ ?_
  rintro w1 ⟨⟨e0, e1⟩, f1⟩
  go_wp2_with fail
  refine (hmay w1).mono ?_
  rintro e w2 ⟨rfl, f2⟩
  replace f1 := f1.trans f2
  go_wp2_with fail
  go_ret
  exact ⟨rfl, f1.below⟩
 ·have hpe := printNet_eq hm
  simp only at hpe
  have hpr := fun w => refPrint_any a h0 w
  have hit : ∀ w, Calls Tryz.prog 84 #[.int .i64 b] w fun e w' => e = .returned (.string (strB (Lib.itoa b))) ∧ Below w.heap.size w w' := fun w => by
   have hbb := (nMay_iff (a, b)).1 hm
   simp only at hbb
   have := refDigits_any b.toNat (by omega) w
   rw [show ((b.toNat : Nat) : Int) = b by omega] at this
   have e : Lib.itoa b = Lib.decDigits b.toNat := by unfold Lib.itoa; rw [if_neg (by omega)]
   rw [e]
   exact this
  have hb := (nMay_iff (a, b)).1 hm
  simp only at hb
  have zp : (strB (printA a)).size ≤ 15 := by rw [strB_size]; exact join_len a
  have zq : (strB (Lib.itoa b)).size ≤ 3 := by
   rw [strB_size]
   have := itoa_len b.toNat (by omega)
   rwa [show ((b.toNat : Nat) : Int) = b by omega] at this
  rw [hm] at hmay
  clear hm hb
  obtain ⟨r, hr⟩ : ∃ r, strB (printNetA (a, b)) = r := ⟨_, rfl⟩
  rw [hr] at hpe ⊢
  clear hr
  generalize strB (printA a) = p at *
  generalize strB (Lib.itoa b) = q at *
  have HP := Lib.hid hpe; clear hpe
  unfold ntV at *
  go_enter Tryz.func48, Tryz.ntmps48
  go_upto_region 1 with fail
  refine abs (fun w1 => BxS w.heap.size a b w1 ∧ Grn w w1) ⟨box_cells w a b, (Grn.refl w).alloc _⟩ ?_
  rintro w1 ⟨⟨e0, e1⟩, f1⟩
  go_wp2_with fail
  refine (hmay w1).mono ?_
  rintro e w2 ⟨rfl, f2⟩
  obtain ⟨e2, e3⟩ := BxS.below ⟨e0, e1⟩ f2.below
  have f3 : Below w.heap.size w w2 := (f1.trans f2).below
  clear e0 e1 f1 f2
  go_upto_region 3 with fail
  refine wp_region_order (BxS w.heap.size a b) 99 [(0,0), (1,0), (4,0), (5,0), (2,1), (3,0), (6,1), (7,0), (8,0)] (by kernel_rfl) (by kernel_rfl) ?_
  simp only [pick, List.filterMap_cons, List.filterMap_nil, List.getElem?_cons_zero, List.getElem?_cons_succ, Option.map_some]
  have hS : BxS w.heap.size a b w2.drew := ⟨e2, e3⟩
  have F1 : Below w.heap.size w w2.drew := f3.drew
  clear f3 e2 e3
  have zs : ¬ 9223372036854775807 < p.size + 1 := by omega
  have zt : ¬ 9223372036854775807 < p.size + 1 + q.size := by omega
  generalize w2.drew = wd at *
  iterate 4 (refine wpF_take (v := ?_) hS rfl ?_ (fun _ _ _ h => h) ?_; rotate_left; (· intro w' hS'; obtain ⟨e0, e1⟩ := hS'; go_simp <;> rfl); go_simp)
  refine wpF_only rfl (fun K hK => ?_)
  go_wp2_with fail
  refine (hpr _).mono ?_
  rintro _ w9 ⟨rfl, f9⟩
  replace F1 := F1.trans (f9.mono F1.size)
  replace hS := hS.below f9
  clear f9
  go_wp2_with fail
  first | refine ⟨fun _ => hS, ?_⟩ | refine ⟨hS, ?_⟩ | skip
  go_simp
  (refine wpF_take (v := ?_) hS rfl ?_ (fun _ _ _ h => h) ?_; rotate_left; (· intro w' hS'; obtain ⟨e0, e1⟩ := hS'; go_simp <;> rfl); go_simp)
  refine wpF_only rfl (fun K hK => ?_)
  go_wp2_with fail
  refine (hit _).mono ?_
  rintro _ w9 ⟨rfl, f9⟩
  replace F1 := F1.trans (f9.mono F1.size)
  replace hS := hS.below f9
  clear f9
  go_wp2_with fail
  first | refine ⟨fun _ => hS, ?_⟩ | refine ⟨hS, ?_⟩ | skip
  go_simp
  iterate 2 (refine wpF_take (v := ?_) hS rfl ?_ (fun _ _ _ h => h) ?_; rotate_left; (· intro w' hS'; obtain ⟨e0, e1⟩ := hS'; go_simp <;> rfl); go_simp)
  refine wpF_nil ?_
  go_wp2_with fail
  go_ret
  exact ⟨by rw [← HP.out]; rfl, F1⟩
end Go.Proofs.YtpcdmbajfmnoiaaGreatDoor
