/- The law MacOf, walked. No condition. -/
import Derived.Test.YthjaomkjjlgjeaaMacAwake
import Derived.Test.YthjaomkjjlgjeaaFacts
import Derived.Test.YthjaomkjjlgjeaaSlices
import Derived.Test.YthjaomkjjlgjeaaDerive
namespace Go.Proofs.Ythjaomkjjlgjeaa
open Go.RowKit
set_option linter.unusedSimpArgs false
set_option linter.unusedVariables false
attribute [local irreducible] derB
set_option maxRecDepth 100000 in
set_option maxHeartbeats 8000000 in
theorem macOf_walk (w : World) (A : Option Addr) (n c : Nat) (l : List UInt8) (rl : RdB w w.heap.size A n l) (hnc : n ≤ c) (_ : c ≤ maxLen) (A2 : Option Addr) (m c2 : Nat) (l2 : List UInt8) (rl2 : RdB w w.heap.size A2 m l2) (hmc : m ≤ c2) (_ : c2 ≤ maxLen)
    (lb : List UInt8) (hlb : lb.length ≤ maxLen) (NN : Nat) (hNN : NN < 18446744073709551616) :
    Calls Try.prog 8 #[.slice A n c, .slice A2 m c2, .string (strB lb), .int .u64 NN] w fun e w' => e = .returned (.bool true) ∧ Below w.heap.size w w' := by
  have hz : (Try.prog.info? 26).map (·.size) = some 32 := by kernel_rfl
  have Hz := Lib.hid hz; clear hz
  have hlb2 : lb.length ≤ 9223372036854775807 := by simp only [maxLen] at hlb; omega
  have hsz := strB_size lb
  by_cases hd1 : 1000 < n
  · have d1 : decide ((1000 : Int) < ((n : Nat) : Int)) = true := by simp; omega
    go_enter Try.func8, Try.ntmps8
    go_wp2_with fail
    refine (awake2_any _).mono ?_
    rintro e w1 ⟨rfl, f1⟩
    go_wp2_with fail
    go_ret
    exact ⟨rfl, f1⟩
  have d1 : decide ((1000 : Int) < ((n : Nat) : Int)) = false := by simp; omega
  by_cases hd2 : 1000 < m
  · have d2 : decide ((1000 : Int) < ((m : Nat) : Int)) = true := by simp; omega
    go_enter Try.func8, Try.ntmps8
    go_wp2_with fail
    refine (awake2_any _).mono ?_
    rintro e w1 ⟨rfl, f1⟩
    go_wp2_with fail
    go_ret
    exact ⟨rfl, f1⟩
  have d2 : decide ((1000 : Int) < ((m : Nat) : Int)) = false := by simp; omega
  by_cases hd3 : 1000 < lb.length
  · have d3 : decide ((1000 : Int) < ((lb.length : Nat) : Int)) = true := by simp; omega
    go_enter Try.func8, Try.ntmps8
    go_wp2_with fail
    refine (awake2_any _).mono ?_
    rintro e w1 ⟨rfl, f1⟩
    go_wp2_with fail
    go_ret
    exact ⟨rfl, f1⟩
  have d3 : decide ((1000 : Int) < ((lb.length : Nat) : Int)) = false := by simp; omega
  have hzm : (Try.prog.info? 26).map (·.size) = some (bvs (macB l l2)).length := by rw [bvs_length, macB_length]; exact Hz.out
  have Hzm := Lib.hid hzm; clear hzm
  have hn1 := rl.1
  have hm1 := rl2.1
  subst hn1
  subst hm1
  go_enter Try.func8, Try.ntmps8
  go_wp2_with fail
  refine wp_region_order (fun u => Below w.heap.size w u) 99 [(0,0), (1,0), (2,0), (3,0), (4,0), (5,0)] (by kernel_rfl) (by kernel_rfl) ?_
  simp only [pick, List.filterMap_cons, List.filterMap_nil, List.getElem?_cons_zero, List.getElem?_cons_succ, Option.map_some]
  have hS0 : Below w.heap.size w w.drew := (Below.refl _ _).drew
  refine wpF_take (v := ?_) hS0 rfl ?_ (fun _ _ _ h => h) ?_
  rotate_left
  · intro w' hS'
    obtain _ := hS'
    go_simp <;> rfl
  go_simp
  refine wpF_take (v := .string (strB l)) hS0 rfl (fun u hS' => ?_) (fun _ _ _ h => h) ?_
  · have := run_str T23 (rl.below hS') c _ Try.underlying9
    go_simp <;> rw [this]
  go_simp
  refine wpF_take (v := ?_) hS0 rfl ?_ (fun _ _ _ h => h) ?_
  rotate_left
  · intro w' hS'
    obtain _ := hS'
    go_simp <;> rfl
  go_simp
  refine wpF_take (v := .string (strB l2)) hS0 rfl (fun u hS' => ?_) (fun _ _ _ h => h) ?_
  · have := run_str T23 (rl2.below hS') c2 _ Try.underlying9
    go_simp <;> rw [this]
  go_simp
  refine wpF_take (v := ?_) hS0 rfl ?_ (fun _ _ _ h => h) ?_
  rotate_left
  · intro w' hS'
    obtain _ := hS'
    go_simp <;> rfl
  go_simp
  refine wpF_take (v := ?_) hS0 rfl ?_ (fun _ _ _ h => h) ?_
  rotate_left
  · intro w' hS'
    obtain _ := hS'
    go_simp <;> rfl
  go_simp
  refine wpF_nil ?_
  have rlw : RdB w.drew w.drew.heap.size A l.length l := rl
  have rlw2 : RdB w.drew w.drew.heap.size A2 l2.length l2 := rl2
  clear hsz
  go_wp2_with fail
  refine absC (fun w1 => RdB w1 w1.heap.size A l.length l ∧ RdB w1 w1.heap.size A2 l2.length l2 ∧ RdL w1 w1.heap.size (some ⟨w.heap.size, 0, none⟩) 1 [⟨A2, l2.length, c2, l2⟩] ∧ Below w.heap.size w w1) ⟨(rl.alloc (Nat.le_refl _) _).more (by simp), (rl2.alloc (Nat.le_refl _) _).more (by simp), ?_, ((Below.refl _ w).alloc (Nat.le_refl _) _).drew⟩ ?_
  · refine RdL.of_blk (ps := [⟨A2, l2.length, c2, l2⟩]) (t := 23) (Blk.newAt rfl _ _) ?_
    intro p hp
    obtain rfl := List.mem_singleton.1 hp
    exact (rl2.alloc (Nat.le_refl _) _).more (by simp)
  clear rlw rlw2
  rintro w1 ⟨r1, r2, q1, f1⟩
  have hcat : catB [(⟨A2, l2.length, c2, l2⟩ : Part)] = l2 := by simp [catB]
  refine (mac_any _ l.length c l _ 1 1 _ w1 r1 (by omega) q1 (by rw [hcat]; omega) (by omega)).mono ?_
  rintro e w2 ⟨rfl, f2⟩
  rw [hcat]
  replace r1 := (r1.below f2).more f2.size
  replace f1 := f1.trans (f2.mono f1.size)
  clear f2 r2 q1 hcat
  have hMl := macB_length l l2
  generalize hM : macB l l2 = M at *
  have HM := Lib.hid hM
  have HMl := Lib.hid hMl
  clear hM hMl
  go_upto_region 5 with (first | (refine store_blk (us := bvs M) (Blk.of_new w2 26 (bvs (List.replicate 32 0))) rfl 26 (.tmp 11) (.tmp 34) rfl rfl rfl Hzm.out (by rw [bvs_length, bvs_length, HMl.out]; rfl) (bvs_all _) ?_; intro w3 k3 hg))
  have f3 : Below w2.heap.size w2 w3 := ((Below.refl _ w2).alloc (Nat.le_refl _) _).grown hg (by simp) (by simp)
  replace r1 := (r1.below f3).more f3.size
  have F3 := f1.trans (f3.mono f1.size)
  generalize w2.heap.size = g11 at *
  clear hg f3 f1
  go_wp2_with fail
  refine (derive_any A l.length c l lb NN w3 r1 (by omega) (by omega) hNN).mono ?_
  rintro e w4 ⟨gd, rfl, rD, f4⟩
  have k4 := k3.below f4 k3.lt
  have F4 := F3.trans (f4.mono F3.size)
  have q1 := (rl.below F4).more F4.size
  have q2 := (rl2.below F4).more F4.size
  clear f4 k3 r1 F3
  generalize hD : macB l (derB lb NN) = Dv at *
  have HD := Lib.hid hD
  clear hD
  go_wp2_with fail
  refine abs (fun w5 => w5 = w4) rfl ?_
  rintro w4 rfl
  refine wp_region_facts (fun u => Below w4.heap.size w4 u) [
    fun v _ => v = .agg (bvs M).toArray,
    fun v _ => v = .string (strB l),
    fun v u => ∃ A' c', v = .slice A' l.length c' ∧ RdB u u.heap.size A' l.length l,
    fun v _ => v = .string (strB l2),
    fun v u => ∃ A' c', v = .slice A' l2.length c' ∧ RdB u u.heap.size A' l2.length l2,
    fun v _ => v = .agg (bvs M).toArray,
    fun v _ => v = .bool true,
    fun v _ => v = .bool true,
    fun v _ => v = .slice (some ⟨gd, 0, none⟩) 32 32,
    fun v _ => v = .string (strB Dv),
    fun v _ => v = .string (strB l),
    fun v u => ∃ A' c', v = .slice A' l.length c' ∧ RdB u u.heap.size A' l.length l,
    fun v _ => v = .string (strB lb),
    fun v _ => v = .int .u64 (NN : Int),
    fun v u => ∃ A' c', v = .slice A' 32 c' ∧ RdB u u.heap.size A' 32 Dv,
    fun v _ => v = .string (strB Dv),
    fun v _ => v = .bool true,
    fun v _ => v = .bool true,
    fun v _ => v = .bool true,
    fun v _ => v = .slice A l.length c,
    fun v _ => v = .string (strB l),
    fun v _ => v = .string (strB l),
    fun v _ => v = .bool true,
    fun v _ => v = .bool true,
    fun v _ => v = .bool true,
    fun v _ => v = .slice A2 l2.length c2,
    fun v _ => v = .string (strB l2),
    fun v _ => v = .string (strB l2),
    fun v _ => v = .bool true,
    fun v _ => v = .bool true,
    fun v _ => v = .bool true,
    fun v _ => v = .bool true,
    fun v _ => v = .bool true,
    fun v _ => v = .bool true] (fun u u' => Below u.heap.size u u')
    [[], [], [1], [], [3], [2, 4], [0, 5], [6], [7], [7, 8], [7], [7, 10], [7], [7], [7, 11, 12, 13], [7, 14], [7, 9, 15], [7, 16], [17], [18], [18, 19], [18], [18, 20, 21], [18, 22], [23], [24], [24, 25], [24], [24, 26, 27], [24, 28], [29], [30], [30, 31], [32]] []
    (by kernel_rfl) (by kernel_rfl) ?_ (fun _ _ _ _ _ h => h) ((Below.refl _ _).drew) ?_ ?_
  · refine hE_of (fun u u' h f => f.trans (h.mono f.size)) ?_
    repeat' (first | exact mono_nil | refine mono_cons (fun v u u' h => ?_) ?_)
    all_goals first | exact _root_.id | (rintro ⟨A', c', e, z⟩; exact ⟨A', c', e, (z.below h).more h.size⟩)
  · skip
    refine owed_cons (fun vs u hS hD N => ?_) ?_
    · clear hD
      intro hN
      simp only [fact, layAt, depOn, dstOf, List.foldl_cons, List.foldl_nil, List.getD_cons_zero, List.getD_cons_succ, List.getElem?_cons_zero, List.getElem?_cons_succ, Option.bind_some] at hN ⊢
      rw [if_pos (by rfl)]
      refine wp_load_blk (k4.below hS k4.lt) 26 (.tmp 11) rfl rfl Try.underlying26 Hzm.out ?_
      exact hN _ _ rfl (.inl (Below.refl _ _))
    refine owed_cons (fun vs u hS hD N => ?_) ?_
    · clear hD
      intro hN
      simp only [fact, layAt, depOn, dstOf, List.foldl_cons, List.foldl_nil, List.getD_cons_zero, List.getD_cons_succ, List.getElem?_cons_zero, List.getElem?_cons_succ, Option.bind_some] at hN ⊢
      go_simp
      have hh := hN _ _ rfl (.inl (Below.refl _ _))
      revert hh
      go_simp
    refine owed_cons (fun vs u hS hD N => ?_) ?_
    · have d1 := hD 1 (by decide)
      simp only [fact, layAt, depOn, dstOf, List.foldl_cons, List.foldl_nil, List.getD_cons_zero, List.getD_cons_succ, List.getElem?_cons_zero, List.getElem?_cons_succ, Option.bind_some] at d1
      clear hD
      intro hN
      simp only [fact, layAt, depOn, dstOf, List.foldl_cons, List.foldl_nil, List.getD_cons_zero, List.getD_cons_succ, List.getElem?_cons_zero, List.getElem?_cons_succ, Option.bind_some, d1] at hN ⊢
      go_simp
      rw [run_conv_str T23 Try.underlying9 u l]
      go_simp
      have hh := hN _ _ ⟨_, grownCap u l.length 0 5, rfl, rd_conv u 5 l⟩ (.inl (below_conv u 5 l))
      revert hh
      go_simp
    refine owed_cons (fun vs u hS hD N => ?_) ?_
    · clear hD
      intro hN
      simp only [fact, layAt, depOn, dstOf, List.foldl_cons, List.foldl_nil, List.getD_cons_zero, List.getD_cons_succ, List.getElem?_cons_zero, List.getElem?_cons_succ, Option.bind_some] at hN ⊢
      go_simp
      have hh := hN _ _ rfl (.inl (Below.refl _ _))
      revert hh
      go_simp
    refine owed_cons (fun vs u hS hD N => ?_) ?_
    · have d3 := hD 3 (by decide)
      simp only [fact, layAt, depOn, dstOf, List.foldl_cons, List.foldl_nil, List.getD_cons_zero, List.getD_cons_succ, List.getElem?_cons_zero, List.getElem?_cons_succ, Option.bind_some] at d3
      clear hD
      intro hN
      simp only [fact, layAt, depOn, dstOf, List.foldl_cons, List.foldl_nil, List.getD_cons_zero, List.getD_cons_succ, List.getElem?_cons_zero, List.getElem?_cons_succ, Option.bind_some, d3] at hN ⊢
      go_simp
      rw [run_conv_str T23 Try.underlying9 u l2]
      go_simp
      have hh := hN _ _ ⟨_, grownCap u l2.length 0 5, rfl, rd_conv u 5 l2⟩ (.inl (below_conv u 5 l2))
      revert hh
      go_simp
    refine owed_cons (fun vs u hS hD N => ?_) ?_
    · have d2 := hD 2 (by decide)
      simp only [fact, layAt, depOn, dstOf, List.foldl_cons, List.foldl_nil, List.getD_cons_zero, List.getD_cons_succ, List.getElem?_cons_zero, List.getElem?_cons_succ, Option.bind_some] at d2
      obtain ⟨B1, b1, e2, z1⟩ := d2
      have d4 := hD 4 (by decide)
      simp only [fact, layAt, depOn, dstOf, List.foldl_cons, List.foldl_nil, List.getD_cons_zero, List.getD_cons_succ, List.getElem?_cons_zero, List.getElem?_cons_succ, Option.bind_some] at d4
      obtain ⟨B2, b2, e4, z2⟩ := d4
      clear hD
      intro hN
      simp only [fact, layAt, depOn, dstOf, List.foldl_cons, List.foldl_nil, List.getD_cons_zero, List.getD_cons_succ, List.getElem?_cons_zero, List.getElem?_cons_succ, Option.bind_some, e2, e4] at hN ⊢
      go_simp
      refine (refMac_any B1 l.length b1 l B2 l2.length b2 l2 u z1 z2 (by omega) (by omega)).mono ?_
      rintro e u' ⟨rfl, f⟩
      rw [HM.out]
      have hh := hN _ _ rfl (.inl f)
      revert hh
      go_simp
    refine owed_cons (fun vs u hS hD N => ?_) ?_
    · have d0 := hD 0 (by decide)
      simp only [fact, layAt, depOn, dstOf, List.foldl_cons, List.foldl_nil, List.getD_cons_zero, List.getD_cons_succ, List.getElem?_cons_zero, List.getElem?_cons_succ, Option.bind_some] at d0
      have d5 := hD 5 (by decide)
      simp only [fact, layAt, depOn, dstOf, List.foldl_cons, List.foldl_nil, List.getD_cons_zero, List.getD_cons_succ, List.getElem?_cons_zero, List.getElem?_cons_succ, Option.bind_some] at d5
      clear hD
      intro hN
      simp only [fact, layAt, depOn, dstOf, List.foldl_cons, List.foldl_nil, List.getD_cons_zero, List.getD_cons_succ, List.getElem?_cons_zero, List.getElem?_cons_succ, Option.bind_some, d0, d5] at hN ⊢
      go_simp
      rw [run_equalIn_bytes (P := Try.prog) Try.underlying26 Try.underlying5 (by kernel_rfl) _ _ HMl.out HMl.out u]
      go_simp
      have hh := hN _ _ rfl (.inl (Below.refl _ _))
      revert hh
      go_simp
    refine owed_cons (fun vs u hS hD N => ?_) ?_
    · have d6 := hD 6 (by decide)
      simp only [fact, layAt, depOn, dstOf, List.foldl_cons, List.foldl_nil, List.getD_cons_zero, List.getD_cons_succ, List.getElem?_cons_zero, List.getElem?_cons_succ, Option.bind_some] at d6
      clear hD
      intro hN
      simp only [fact, layAt, depOn, dstOf, List.foldl_cons, List.foldl_nil, List.getD_cons_zero, List.getD_cons_succ, List.getElem?_cons_zero, List.getElem?_cons_succ, Option.bind_some, d6] at hN ⊢
      go_simp
      have hh := hN _ _ rfl (.inl (Below.refl _ _))
      revert hh
      go_simp
    refine owed_cons (fun vs u hS hD N => ?_) ?_
    · have d7 := hD 7 (by decide)
      simp only [fact, layAt, depOn, dstOf, List.foldl_cons, List.foldl_nil, List.getD_cons_zero, List.getD_cons_succ, List.getElem?_cons_zero, List.getElem?_cons_succ, Option.bind_some] at d7
      clear hD
      intro hN
      simp only [fact, layAt, depOn, dstOf, List.foldl_cons, List.foldl_nil, List.getD_cons_zero, List.getD_cons_succ, List.getElem?_cons_zero, List.getElem?_cons_succ, Option.bind_some, d7] at hN ⊢
      go_simp
      have hh := hN _ _ rfl (.inl (Below.refl _ _))
      revert hh
      go_simp
    refine owed_cons (fun vs u hS hD N => ?_) ?_
    · have d7 := hD 7 (by decide)
      simp only [fact, layAt, depOn, dstOf, List.foldl_cons, List.foldl_nil, List.getD_cons_zero, List.getD_cons_succ, List.getElem?_cons_zero, List.getElem?_cons_succ, Option.bind_some] at d7
      have d8 := hD 8 (by decide)
      simp only [fact, layAt, depOn, dstOf, List.foldl_cons, List.foldl_nil, List.getD_cons_zero, List.getD_cons_succ, List.getElem?_cons_zero, List.getElem?_cons_succ, Option.bind_some] at d8
      clear hD
      intro hN
      simp only [fact, layAt, depOn, dstOf, List.foldl_cons, List.foldl_nil, List.getD_cons_zero, List.getD_cons_succ, List.getElem?_cons_zero, List.getElem?_cons_succ, Option.bind_some, d7, d8] at hN ⊢
      go_simp
      rw [run_str T23 (rD.below hS) 32 _ Try.underlying9]
      go_simp
      have hh := hN _ _ rfl (.inl (Below.refl _ _))
      revert hh
      go_simp
    refine owed_cons (fun vs u hS hD N => ?_) ?_
    · have d7 := hD 7 (by decide)
      simp only [fact, layAt, depOn, dstOf, List.foldl_cons, List.foldl_nil, List.getD_cons_zero, List.getD_cons_succ, List.getElem?_cons_zero, List.getElem?_cons_succ, Option.bind_some] at d7
      clear hD
      intro hN
      simp only [fact, layAt, depOn, dstOf, List.foldl_cons, List.foldl_nil, List.getD_cons_zero, List.getD_cons_succ, List.getElem?_cons_zero, List.getElem?_cons_succ, Option.bind_some, d7] at hN ⊢
      go_simp
      have hh := hN _ _ rfl (.inl (Below.refl _ _))
      revert hh
      go_simp
    refine owed_cons (fun vs u hS hD N => ?_) ?_
    · have d7 := hD 7 (by decide)
      simp only [fact, layAt, depOn, dstOf, List.foldl_cons, List.foldl_nil, List.getD_cons_zero, List.getD_cons_succ, List.getElem?_cons_zero, List.getElem?_cons_succ, Option.bind_some] at d7
      have d10 := hD 10 (by decide)
      simp only [fact, layAt, depOn, dstOf, List.foldl_cons, List.foldl_nil, List.getD_cons_zero, List.getD_cons_succ, List.getElem?_cons_zero, List.getElem?_cons_succ, Option.bind_some] at d10
      clear hD
      intro hN
      simp only [fact, layAt, depOn, dstOf, List.foldl_cons, List.foldl_nil, List.getD_cons_zero, List.getD_cons_succ, List.getElem?_cons_zero, List.getElem?_cons_succ, Option.bind_some, d7, d10] at hN ⊢
      go_simp
      rw [run_conv_str T23 Try.underlying9 u l]
      go_simp
      have hh := hN _ _ ⟨_, grownCap u l.length 0 5, rfl, rd_conv u 5 l⟩ (.inl (below_conv u 5 l))
      revert hh
      go_simp
    refine owed_cons (fun vs u hS hD N => ?_) ?_
    · have d7 := hD 7 (by decide)
      simp only [fact, layAt, depOn, dstOf, List.foldl_cons, List.foldl_nil, List.getD_cons_zero, List.getD_cons_succ, List.getElem?_cons_zero, List.getElem?_cons_succ, Option.bind_some] at d7
      clear hD
      intro hN
      simp only [fact, layAt, depOn, dstOf, List.foldl_cons, List.foldl_nil, List.getD_cons_zero, List.getD_cons_succ, List.getElem?_cons_zero, List.getElem?_cons_succ, Option.bind_some, d7] at hN ⊢
      go_simp
      have hh := hN _ _ rfl (.inl (Below.refl _ _))
      revert hh
      go_simp
    refine owed_cons (fun vs u hS hD N => ?_) ?_
    · have d7 := hD 7 (by decide)
      simp only [fact, layAt, depOn, dstOf, List.foldl_cons, List.foldl_nil, List.getD_cons_zero, List.getD_cons_succ, List.getElem?_cons_zero, List.getElem?_cons_succ, Option.bind_some] at d7
      clear hD
      intro hN
      simp only [fact, layAt, depOn, dstOf, List.foldl_cons, List.foldl_nil, List.getD_cons_zero, List.getD_cons_succ, List.getElem?_cons_zero, List.getElem?_cons_succ, Option.bind_some, d7] at hN ⊢
      go_simp
      have hh := hN _ _ rfl (.inl (Below.refl _ _))
      revert hh
      go_simp
    refine owed_cons (fun vs u hS hD N => ?_) ?_
    · have d7 := hD 7 (by decide)
      simp only [fact, layAt, depOn, dstOf, List.foldl_cons, List.foldl_nil, List.getD_cons_zero, List.getD_cons_succ, List.getElem?_cons_zero, List.getElem?_cons_succ, Option.bind_some] at d7
      have d11 := hD 11 (by decide)
      simp only [fact, layAt, depOn, dstOf, List.foldl_cons, List.foldl_nil, List.getD_cons_zero, List.getD_cons_succ, List.getElem?_cons_zero, List.getElem?_cons_succ, Option.bind_some] at d11
      obtain ⟨B1, b1, e11, z1⟩ := d11
      have d12 := hD 12 (by decide)
      simp only [fact, layAt, depOn, dstOf, List.foldl_cons, List.foldl_nil, List.getD_cons_zero, List.getD_cons_succ, List.getElem?_cons_zero, List.getElem?_cons_succ, Option.bind_some] at d12
      have d13 := hD 13 (by decide)
      simp only [fact, layAt, depOn, dstOf, List.foldl_cons, List.foldl_nil, List.getD_cons_zero, List.getD_cons_succ, List.getElem?_cons_zero, List.getElem?_cons_succ, Option.bind_some] at d13
      clear hD
      intro hN
      simp only [fact, layAt, depOn, dstOf, List.foldl_cons, List.foldl_nil, List.getD_cons_zero, List.getD_cons_succ, List.getElem?_cons_zero, List.getElem?_cons_succ, Option.bind_some, d7, e11, d12, d13] at hN ⊢
      go_simp
      refine (refDerive_any B1 l.length b1 l lb NN u z1 (by omega) (by omega) hNN).mono ?_
      rintro e u' ⟨A', c', rfl, o, f⟩
      rw [HD.out] at o
      have hh := hN _ _ ⟨A', c', rfl, o.rd⟩ (.inl f)
      revert hh
      go_simp
    refine owed_cons (fun vs u hS hD N => ?_) ?_
    · have d7 := hD 7 (by decide)
      simp only [fact, layAt, depOn, dstOf, List.foldl_cons, List.foldl_nil, List.getD_cons_zero, List.getD_cons_succ, List.getElem?_cons_zero, List.getElem?_cons_succ, Option.bind_some] at d7
      have d14 := hD 14 (by decide)
      simp only [fact, layAt, depOn, dstOf, List.foldl_cons, List.foldl_nil, List.getD_cons_zero, List.getD_cons_succ, List.getElem?_cons_zero, List.getElem?_cons_succ, Option.bind_some] at d14
      obtain ⟨B1, b1, e14, z1⟩ := d14
      clear hD
      intro hN
      simp only [fact, layAt, depOn, dstOf, List.foldl_cons, List.foldl_nil, List.getD_cons_zero, List.getD_cons_succ, List.getElem?_cons_zero, List.getElem?_cons_succ, Option.bind_some, d7, e14] at hN ⊢
      go_simp
      rw [run_str T23 z1 b1 _ Try.underlying9]
      go_simp
      have hh := hN _ _ rfl (.inl (Below.refl _ _))
      revert hh
      go_simp
    refine owed_cons (fun vs u hS hD N => ?_) ?_
    · have d7 := hD 7 (by decide)
      simp only [fact, layAt, depOn, dstOf, List.foldl_cons, List.foldl_nil, List.getD_cons_zero, List.getD_cons_succ, List.getElem?_cons_zero, List.getElem?_cons_succ, Option.bind_some] at d7
      have d9 := hD 9 (by decide)
      simp only [fact, layAt, depOn, dstOf, List.foldl_cons, List.foldl_nil, List.getD_cons_zero, List.getD_cons_succ, List.getElem?_cons_zero, List.getElem?_cons_succ, Option.bind_some] at d9
      have d15 := hD 15 (by decide)
      simp only [fact, layAt, depOn, dstOf, List.foldl_cons, List.foldl_nil, List.getD_cons_zero, List.getD_cons_succ, List.getElem?_cons_zero, List.getElem?_cons_succ, Option.bind_some] at d15
      clear hD
      intro hN
      simp only [fact, layAt, depOn, dstOf, List.foldl_cons, List.foldl_nil, List.getD_cons_zero, List.getD_cons_succ, List.getElem?_cons_zero, List.getElem?_cons_succ, Option.bind_some, d7, d9, d15] at hN ⊢
      go_simp
      have hh := hN _ _ rfl (.inl (Below.refl _ _))
      revert hh
      go_simp
    refine owed_cons (fun vs u hS hD N => ?_) ?_
    · have d7 := hD 7 (by decide)
      simp only [fact, layAt, depOn, dstOf, List.foldl_cons, List.foldl_nil, List.getD_cons_zero, List.getD_cons_succ, List.getElem?_cons_zero, List.getElem?_cons_succ, Option.bind_some] at d7
      have d16 := hD 16 (by decide)
      simp only [fact, layAt, depOn, dstOf, List.foldl_cons, List.foldl_nil, List.getD_cons_zero, List.getD_cons_succ, List.getElem?_cons_zero, List.getElem?_cons_succ, Option.bind_some] at d16
      clear hD
      intro hN
      simp only [fact, layAt, depOn, dstOf, List.foldl_cons, List.foldl_nil, List.getD_cons_zero, List.getD_cons_succ, List.getElem?_cons_zero, List.getElem?_cons_succ, Option.bind_some, d7, d16] at hN ⊢
      go_simp
      have hh := hN _ _ rfl (.inl (Below.refl _ _))
      revert hh
      go_simp
    refine owed_cons (fun vs u hS hD N => ?_) ?_
    · have d17 := hD 17 (by decide)
      simp only [fact, layAt, depOn, dstOf, List.foldl_cons, List.foldl_nil, List.getD_cons_zero, List.getD_cons_succ, List.getElem?_cons_zero, List.getElem?_cons_succ, Option.bind_some] at d17
      clear hD
      intro hN
      simp only [fact, layAt, depOn, dstOf, List.foldl_cons, List.foldl_nil, List.getD_cons_zero, List.getD_cons_succ, List.getElem?_cons_zero, List.getElem?_cons_succ, Option.bind_some, d17] at hN ⊢
      go_simp
      have hh := hN _ _ rfl (.inl (Below.refl _ _))
      revert hh
      go_simp
    refine owed_cons (fun vs u hS hD N => ?_) ?_
    · have d18 := hD 18 (by decide)
      simp only [fact, layAt, depOn, dstOf, List.foldl_cons, List.foldl_nil, List.getD_cons_zero, List.getD_cons_succ, List.getElem?_cons_zero, List.getElem?_cons_succ, Option.bind_some] at d18
      clear hD
      intro hN
      simp only [fact, layAt, depOn, dstOf, List.foldl_cons, List.foldl_nil, List.getD_cons_zero, List.getD_cons_succ, List.getElem?_cons_zero, List.getElem?_cons_succ, Option.bind_some, d18] at hN ⊢
      go_simp
      have hh := hN _ _ rfl (.inl (Below.refl _ _))
      revert hh
      go_simp
    refine owed_cons (fun vs u hS hD N => ?_) ?_
    · have d18 := hD 18 (by decide)
      simp only [fact, layAt, depOn, dstOf, List.foldl_cons, List.foldl_nil, List.getD_cons_zero, List.getD_cons_succ, List.getElem?_cons_zero, List.getElem?_cons_succ, Option.bind_some] at d18
      have d19 := hD 19 (by decide)
      simp only [fact, layAt, depOn, dstOf, List.foldl_cons, List.foldl_nil, List.getD_cons_zero, List.getD_cons_succ, List.getElem?_cons_zero, List.getElem?_cons_succ, Option.bind_some] at d19
      clear hD
      intro hN
      simp only [fact, layAt, depOn, dstOf, List.foldl_cons, List.foldl_nil, List.getD_cons_zero, List.getD_cons_succ, List.getElem?_cons_zero, List.getElem?_cons_succ, Option.bind_some, d18, d19] at hN ⊢
      go_simp
      rw [run_str T23 (q1.below hS) c _ Try.underlying9]
      go_simp
      have hh := hN _ _ rfl (.inl (Below.refl _ _))
      revert hh
      go_simp
    refine owed_cons (fun vs u hS hD N => ?_) ?_
    · have d18 := hD 18 (by decide)
      simp only [fact, layAt, depOn, dstOf, List.foldl_cons, List.foldl_nil, List.getD_cons_zero, List.getD_cons_succ, List.getElem?_cons_zero, List.getElem?_cons_succ, Option.bind_some] at d18
      clear hD
      intro hN
      simp only [fact, layAt, depOn, dstOf, List.foldl_cons, List.foldl_nil, List.getD_cons_zero, List.getD_cons_succ, List.getElem?_cons_zero, List.getElem?_cons_succ, Option.bind_some, d18] at hN ⊢
      go_simp
      have hh := hN _ _ rfl (.inl (Below.refl _ _))
      revert hh
      go_simp
    refine owed_cons (fun vs u hS hD N => ?_) ?_
    · have d18 := hD 18 (by decide)
      simp only [fact, layAt, depOn, dstOf, List.foldl_cons, List.foldl_nil, List.getD_cons_zero, List.getD_cons_succ, List.getElem?_cons_zero, List.getElem?_cons_succ, Option.bind_some] at d18
      have d20 := hD 20 (by decide)
      simp only [fact, layAt, depOn, dstOf, List.foldl_cons, List.foldl_nil, List.getD_cons_zero, List.getD_cons_succ, List.getElem?_cons_zero, List.getElem?_cons_succ, Option.bind_some] at d20
      have d21 := hD 21 (by decide)
      simp only [fact, layAt, depOn, dstOf, List.foldl_cons, List.foldl_nil, List.getD_cons_zero, List.getD_cons_succ, List.getElem?_cons_zero, List.getElem?_cons_succ, Option.bind_some] at d21
      clear hD
      intro hN
      simp only [fact, layAt, depOn, dstOf, List.foldl_cons, List.foldl_nil, List.getD_cons_zero, List.getD_cons_succ, List.getElem?_cons_zero, List.getElem?_cons_succ, Option.bind_some, d18, d20, d21] at hN ⊢
      go_simp
      have hh := hN _ _ rfl (.inl (Below.refl _ _))
      revert hh
      go_simp
    refine owed_cons (fun vs u hS hD N => ?_) ?_
    · have d18 := hD 18 (by decide)
      simp only [fact, layAt, depOn, dstOf, List.foldl_cons, List.foldl_nil, List.getD_cons_zero, List.getD_cons_succ, List.getElem?_cons_zero, List.getElem?_cons_succ, Option.bind_some] at d18
      have d22 := hD 22 (by decide)
      simp only [fact, layAt, depOn, dstOf, List.foldl_cons, List.foldl_nil, List.getD_cons_zero, List.getD_cons_succ, List.getElem?_cons_zero, List.getElem?_cons_succ, Option.bind_some] at d22
      clear hD
      intro hN
      simp only [fact, layAt, depOn, dstOf, List.foldl_cons, List.foldl_nil, List.getD_cons_zero, List.getD_cons_succ, List.getElem?_cons_zero, List.getElem?_cons_succ, Option.bind_some, d18, d22] at hN ⊢
      go_simp
      have hh := hN _ _ rfl (.inl (Below.refl _ _))
      revert hh
      go_simp
    refine owed_cons (fun vs u hS hD N => ?_) ?_
    · have d23 := hD 23 (by decide)
      simp only [fact, layAt, depOn, dstOf, List.foldl_cons, List.foldl_nil, List.getD_cons_zero, List.getD_cons_succ, List.getElem?_cons_zero, List.getElem?_cons_succ, Option.bind_some] at d23
      clear hD
      intro hN
      simp only [fact, layAt, depOn, dstOf, List.foldl_cons, List.foldl_nil, List.getD_cons_zero, List.getD_cons_succ, List.getElem?_cons_zero, List.getElem?_cons_succ, Option.bind_some, d23] at hN ⊢
      go_simp
      have hh := hN _ _ rfl (.inl (Below.refl _ _))
      revert hh
      go_simp
    refine owed_cons (fun vs u hS hD N => ?_) ?_
    · have d24 := hD 24 (by decide)
      simp only [fact, layAt, depOn, dstOf, List.foldl_cons, List.foldl_nil, List.getD_cons_zero, List.getD_cons_succ, List.getElem?_cons_zero, List.getElem?_cons_succ, Option.bind_some] at d24
      clear hD
      intro hN
      simp only [fact, layAt, depOn, dstOf, List.foldl_cons, List.foldl_nil, List.getD_cons_zero, List.getD_cons_succ, List.getElem?_cons_zero, List.getElem?_cons_succ, Option.bind_some, d24] at hN ⊢
      go_simp
      have hh := hN _ _ rfl (.inl (Below.refl _ _))
      revert hh
      go_simp
    refine owed_cons (fun vs u hS hD N => ?_) ?_
    · have d24 := hD 24 (by decide)
      simp only [fact, layAt, depOn, dstOf, List.foldl_cons, List.foldl_nil, List.getD_cons_zero, List.getD_cons_succ, List.getElem?_cons_zero, List.getElem?_cons_succ, Option.bind_some] at d24
      have d25 := hD 25 (by decide)
      simp only [fact, layAt, depOn, dstOf, List.foldl_cons, List.foldl_nil, List.getD_cons_zero, List.getD_cons_succ, List.getElem?_cons_zero, List.getElem?_cons_succ, Option.bind_some] at d25
      clear hD
      intro hN
      simp only [fact, layAt, depOn, dstOf, List.foldl_cons, List.foldl_nil, List.getD_cons_zero, List.getD_cons_succ, List.getElem?_cons_zero, List.getElem?_cons_succ, Option.bind_some, d24, d25] at hN ⊢
      go_simp
      rw [run_str T23 (q2.below hS) c2 _ Try.underlying9]
      go_simp
      have hh := hN _ _ rfl (.inl (Below.refl _ _))
      revert hh
      go_simp
    refine owed_cons (fun vs u hS hD N => ?_) ?_
    · have d24 := hD 24 (by decide)
      simp only [fact, layAt, depOn, dstOf, List.foldl_cons, List.foldl_nil, List.getD_cons_zero, List.getD_cons_succ, List.getElem?_cons_zero, List.getElem?_cons_succ, Option.bind_some] at d24
      clear hD
      intro hN
      simp only [fact, layAt, depOn, dstOf, List.foldl_cons, List.foldl_nil, List.getD_cons_zero, List.getD_cons_succ, List.getElem?_cons_zero, List.getElem?_cons_succ, Option.bind_some, d24] at hN ⊢
      go_simp
      have hh := hN _ _ rfl (.inl (Below.refl _ _))
      revert hh
      go_simp
    refine owed_cons (fun vs u hS hD N => ?_) ?_
    · have d24 := hD 24 (by decide)
      simp only [fact, layAt, depOn, dstOf, List.foldl_cons, List.foldl_nil, List.getD_cons_zero, List.getD_cons_succ, List.getElem?_cons_zero, List.getElem?_cons_succ, Option.bind_some] at d24
      have d26 := hD 26 (by decide)
      simp only [fact, layAt, depOn, dstOf, List.foldl_cons, List.foldl_nil, List.getD_cons_zero, List.getD_cons_succ, List.getElem?_cons_zero, List.getElem?_cons_succ, Option.bind_some] at d26
      have d27 := hD 27 (by decide)
      simp only [fact, layAt, depOn, dstOf, List.foldl_cons, List.foldl_nil, List.getD_cons_zero, List.getD_cons_succ, List.getElem?_cons_zero, List.getElem?_cons_succ, Option.bind_some] at d27
      clear hD
      intro hN
      simp only [fact, layAt, depOn, dstOf, List.foldl_cons, List.foldl_nil, List.getD_cons_zero, List.getD_cons_succ, List.getElem?_cons_zero, List.getElem?_cons_succ, Option.bind_some, d24, d26, d27] at hN ⊢
      go_simp
      have hh := hN _ _ rfl (.inl (Below.refl _ _))
      revert hh
      go_simp
    refine owed_cons (fun vs u hS hD N => ?_) ?_
    · have d24 := hD 24 (by decide)
      simp only [fact, layAt, depOn, dstOf, List.foldl_cons, List.foldl_nil, List.getD_cons_zero, List.getD_cons_succ, List.getElem?_cons_zero, List.getElem?_cons_succ, Option.bind_some] at d24
      have d28 := hD 28 (by decide)
      simp only [fact, layAt, depOn, dstOf, List.foldl_cons, List.foldl_nil, List.getD_cons_zero, List.getD_cons_succ, List.getElem?_cons_zero, List.getElem?_cons_succ, Option.bind_some] at d28
      clear hD
      intro hN
      simp only [fact, layAt, depOn, dstOf, List.foldl_cons, List.foldl_nil, List.getD_cons_zero, List.getD_cons_succ, List.getElem?_cons_zero, List.getElem?_cons_succ, Option.bind_some, d24, d28] at hN ⊢
      go_simp
      have hh := hN _ _ rfl (.inl (Below.refl _ _))
      revert hh
      go_simp
    refine owed_cons (fun vs u hS hD N => ?_) ?_
    · have d29 := hD 29 (by decide)
      simp only [fact, layAt, depOn, dstOf, List.foldl_cons, List.foldl_nil, List.getD_cons_zero, List.getD_cons_succ, List.getElem?_cons_zero, List.getElem?_cons_succ, Option.bind_some] at d29
      clear hD
      intro hN
      simp only [fact, layAt, depOn, dstOf, List.foldl_cons, List.foldl_nil, List.getD_cons_zero, List.getD_cons_succ, List.getElem?_cons_zero, List.getElem?_cons_succ, Option.bind_some, d29] at hN ⊢
      go_simp
      have hh := hN _ _ rfl (.inl (Below.refl _ _))
      revert hh
      go_simp
    refine owed_cons (fun vs u hS hD N => ?_) ?_
    · have d30 := hD 30 (by decide)
      simp only [fact, layAt, depOn, dstOf, List.foldl_cons, List.foldl_nil, List.getD_cons_zero, List.getD_cons_succ, List.getElem?_cons_zero, List.getElem?_cons_succ, Option.bind_some] at d30
      clear hD
      intro hN
      simp only [fact, layAt, depOn, dstOf, List.foldl_cons, List.foldl_nil, List.getD_cons_zero, List.getD_cons_succ, List.getElem?_cons_zero, List.getElem?_cons_succ, Option.bind_some, d30] at hN ⊢
      go_simp
      refine (awake2_any _).mono ?_
      rintro e u' ⟨rfl, f⟩
      have hh := hN _ _ rfl (.inl f)
      revert hh
      go_simp
    refine owed_cons (fun vs u hS hD N => ?_) ?_
    · have d30 := hD 30 (by decide)
      simp only [fact, layAt, depOn, dstOf, List.foldl_cons, List.foldl_nil, List.getD_cons_zero, List.getD_cons_succ, List.getElem?_cons_zero, List.getElem?_cons_succ, Option.bind_some] at d30
      have d31 := hD 31 (by decide)
      simp only [fact, layAt, depOn, dstOf, List.foldl_cons, List.foldl_nil, List.getD_cons_zero, List.getD_cons_succ, List.getElem?_cons_zero, List.getElem?_cons_succ, Option.bind_some] at d31
      clear hD
      intro hN
      simp only [fact, layAt, depOn, dstOf, List.foldl_cons, List.foldl_nil, List.getD_cons_zero, List.getD_cons_succ, List.getElem?_cons_zero, List.getElem?_cons_succ, Option.bind_some, d30, d31] at hN ⊢
      go_simp
      have hh := hN _ _ rfl (.inl (Below.refl _ _))
      revert hh
      go_simp
    refine owed_cons (fun vs u hS hD N => ?_) ?_
    · have d32 := hD 32 (by decide)
      simp only [fact, layAt, depOn, dstOf, List.foldl_cons, List.foldl_nil, List.getD_cons_zero, List.getD_cons_succ, List.getElem?_cons_zero, List.getElem?_cons_succ, Option.bind_some] at d32
      clear hD
      intro hN
      simp only [fact, layAt, depOn, dstOf, List.foldl_cons, List.foldl_nil, List.getD_cons_zero, List.getD_cons_succ, List.getElem?_cons_zero, List.getElem?_cons_succ, Option.bind_some, d32] at hN ⊢
      go_simp
      have hh := hN _ _ rfl (.inl (Below.refl _ _))
      revert hh
      go_simp
    exact owed_nil
  · skip
    intro vs u hS hF
    have d33 := hF 33 (by decide) (by decide)
    simp only [fact, layAt, depOn, dstOf, List.foldl_cons, List.foldl_nil, List.getD_cons_zero, List.getD_cons_succ, List.getElem?_cons_zero, List.getElem?_cons_succ, Option.bind_some] at d33
    clear hF
    simp only [List.length_cons, List.length_nil, Nat.reduceAdd, List.range, List.range.loop, fact, layAt, depOn, dstOf, List.foldl_cons, List.foldl_nil, List.getD_cons_zero, List.getD_cons_succ, List.getElem?_cons_zero, List.getElem?_cons_succ, Option.bind_some, d33]
    go_simp
    go_wp2_with fail
    go_ret
    exact ⟨rfl, F4.trans (hS.mono F4.size)⟩
end Go.Proofs.Ythjaomkjjlgjeaa
