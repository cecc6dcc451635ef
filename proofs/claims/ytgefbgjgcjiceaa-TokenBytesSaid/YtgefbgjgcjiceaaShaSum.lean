/- sha.New, sha.Sum. Conditions: the bytes that are left are fewer than 2^46. -/
import Derived.Test.YtgefbgjgcjiceaaShaWrite
import Derived.Test.YtgefbgjgcjiceaaEnd
import Derived.Test.YtgefbgjgcjiceaaOrder
namespace Go.Proofs.Ytgefbgjgcjiceaa
open Go.RowKit
set_option maxRecDepth 100000 in
set_option maxHeartbeats 400000 in
theorem new_any (w : World) : Calls Try.prog 83 #[] w fun e w' => e = .returned (.agg (shaC H0 none 0 0 0).toArray) ∧ Below w.heap.size w w' := by
  have hi : (Try.prog.info? 129).map (·.size) = some (shaC H0 none 0 0 0).length := by kernel_rfl
  have Hi := Lib.hid hi; clear hi
  go_enter Try.func83, Try.ntmps83
  go_wp2_with fail
  refine absC (fun w1 => (∃ z, z.length = 10 ∧ Blk w1 w.heap.size 129 z) ∧ Below w.heap.size w w1) ⟨⟨_, rfl, Blk.newAt rfl _ _⟩, (Below.refl _ w).alloc (Nat.le_refl _) _⟩ ?_
  rintro w1 ⟨⟨z, hz, kz⟩, f1⟩
  refine (begin_any w1).mono ?_
  rintro e w2 ⟨rfl, g2⟩
  replace kz := kz.below g2 kz.lt
  replace f1 := f1.trans (g2.mono f1.size)
  clear g2
  have Hz := Lib.hid hz; clear hz
  go_wp2_with (first | (refine store_blk kz rfl 129 (.tmp 0) (.tmp 2) rfl rfl (us := shaC H0 none 0 0 0) (by rfl) Hi.out (by rw [Hz.out]; rfl) (shaC_all _ _ _ _ _) ?_; intro w' k2 hg))
  exact bodyPost_ret (k2.sized rfl _ rfl Try.underlying129 Hi.out) rfl ⟨rfl, f1.grown hg f1.size (by simp)⟩

theorem shaC_w {h : List UInt32} (hh : h.length = 8) (A : Option Addr) (n c N : Nat) (i : Nat) (hi : i < 8) : (shaC h A n c N)[i]? = some (.int .u32 ((at32 h i).toNat : Int)) := by
  unfold shaC
  rw [List.getElem?_append_left (by rw [uvs_length]; omega), uvs_get h i (by omega)]
def byteAt (h : List UInt32) (i : Nat) : UInt8 := UInt8.ofNat ((at32 h (i / 4)).toNat / 2 ^ (24 - 8 * (i % 4)))
def outN (h : List UInt32) (k : Nat) : List UInt8 := (List.range k).foldl (fun o i => o.set i (byteAt h i)) (List.replicate 32 0)
theorem outN_succ (h : List UInt32) (k : Nat) : outN h (k + 1) = (outN h k).set k (byteAt h k) := by
  unfold outN
  rw [List.range_succ, List.foldl_append]
  rfl
theorem outN_length (h : List UInt32) (k : Nat) : (outN h k).length = 32 := by
  induction k with
  | zero => rfl
  | succ k ih => rw [outN_succ, List.length_set]; exact ih
/-- The sum of a state, of what is left and of a number of bytes. -/
def sumB (h : List UInt32) (l : List UInt8) (N : Nat) : List UInt8 := outN (blkN h (l ++ endB N) ((l.length + (zeros N + 9)) / 64)) 32
theorem sumB_length (h : List UInt32) (l : List UInt8) (N : Nat) : (sumB h l N).length = 32 := outN_length _ _
theorem byteAt_of (h : List UInt32) (i : Nat) : Value.int .u8 (((at32 h (i / 4)).toNat : Int) / 2 ^ (24 - 8 * (i % 4)) % 256) = bv (byteAt h i) := by
  rw [bv_mod ((at32 h (i / 4)).toNat / 2 ^ (24 - 8 * (i % 4))) _ (by rw [Int.natCast_ediv, Int.natCast_pow]; rfl)]
  rfl
set_option maxRecDepth 100000 in
set_option maxHeartbeats 1000000 in
theorem sum_any (h0 : List UInt32) (A : Option Addr) (n c N : Nat) (l : List UInt8) (w : World) (hh : h0.length = 8)
    (hl : RdB w w.heap.size A n l) (hn : n ≤ 70368744177664) :
    Calls Try.prog 85 #[.agg (shaC h0 A n c N).toArray] w fun e w' => e = .returned (.agg (bvs (sumB h0 l N)).toArray) ∧ Below w.heap.size w w' := by
  have hu := Try.underlying129
  have hi : (Try.prog.info? 129).map (·.size) = some (shaC h0 A n c N).length := by rw [shaC_length hh]; kernel_rfl
  have Hh := Lib.hid hh; clear hh
  have hl1 := hl.1
  have Hl1 := Lib.hid hl1; clear hl1
  go_enter Try.func85, Try.ntmps85
  go_wp2_with fail
  refine abs (fun w1 => Blk w1 w.heap.size 129 (shaC h0 A n c N) ∧ Blk w1 (w.heap.size + 1) 29 (bvs (List.replicate 32 0)) ∧ Below w.heap.size w w1) ⟨(Blk.of_new w _ _).alloc _, Blk.newAt (by simp) _ _, ((Below.refl _ w).alloc (Nat.le_refl _) _).alloc (by simp) _⟩ ?_
  rintro w1 ⟨k1, kz, f1⟩
  have r1 := k1.range 0 10
  rw [List.drop_zero, List.take_of_length_le (by rw [shaC_length Hh.out]; omega)] at r1
  have c9 : w1.cell? ⟨w.heap.size, 9, none⟩ = some (.int .u64 (N : Int)) := by rw [k1.cell, shaC_9 Hh.out]
  have hi' := hi
  have Hi := Lib.hid hi; clear hi
  have Hu := Lib.hid hu; clear hu hi'
  refine wp_region_order (fun w' => w'.rangeAt w.heap.size 0 (shaC h0 A n c N) ∧ w'.cell? ⟨w.heap.size, 9, none⟩ = some (.int .u64 (N : Int))) 5 [(0, 0), (1, 0), (2, 0), (3, 1), (4, 1), (5, 2)] (by kernel_rfl) (by kernel_rfl) ?_
  simp only [pick, List.filterMap_cons, List.filterMap_nil, List.getElem?_cons_zero, List.getElem?_cons_succ, Option.map_some]
  have hS : w1.drew.rangeAt w.heap.size 0 (shaC h0 A n c N) ∧ w1.drew.cell? ⟨w.heap.size, 9, none⟩ = some (.int .u64 (N : Int)) := ⟨r1, c9⟩
  clear c9 r1
  refine wpF_load hS rfl 129 (.tmp 1) rfl rfl (fun _ h => h.1) Hu.out Hi.out (fun _ _ _ h => h) ?_
  refine wpF_take (v := ?_) hS rfl ?_ (fun _ _ _ h => h) ?_
  rotate_left
  · intro w' hS'
    obtain ⟨_, hc9⟩ := hS'
    go_simp <;> rfl
  go_simp
  refine wpF_take (v := ?_) hS rfl ?_ (fun _ _ _ h => h) ?_
  rotate_left
  · intro w' hS'
    obtain ⟨_, hc9⟩ := hS'
    go_simp <;> rfl
  go_simp
  refine wpF_only rfl (fun K hK => ?_)
  clear hS
  go_wp2_with fail
  refine absC (fun w1 => Blk w1 w.heap.size 129 (shaC h0 A n c N) ∧ Blk w1 (w.heap.size + 1) 29 (bvs (List.replicate 32 0)) ∧ Below w.heap.size w w1) ⟨k1.drew, kz.drew, f1.drew⟩ ?_
  clear k1 kz f1 w1
  rintro w1 ⟨k1, kz, f1⟩
  refine (end_any' N _).mono ?_
  rintro e w2 ⟨g1, c1, rfl, ho1, hB1⟩
  go_wp2_with fail
  have l1 := k1.lt
  have lz := kz.lt
  replace k1 := k1.below hB1 l1
  replace kz := kz.below hB1 lz
  have hs1 := f1.size
  replace f1 := f1.trans (hB1.mono hs1)
  have hl2 := (hl.below f1).more f1.size
  have r1 := k1.range 0 10
  rw [List.drop_zero, List.take_of_length_le (by rw [shaC_length Hh.out]; omega)] at r1
  have c9 : w2.cell? ⟨w.heap.size, 9, none⟩ = some (.int .u64 (N : Int)) := by rw [k1.cell, shaC_9 Hh.out]
  refine ⟨fun _ => ⟨r1, c9⟩, ?_⟩
  clear r1 c9
  refine wpF_only rfl (fun K hK => ?_)
  go_wp2_with fail
  have hz := zeros_lt N
  refine (write_any h0 A n c N l _ (zeros N + 9) c1 (endB N) w2 Hh.out hl2 ho1.rd hn (by omega)).mono ?_
  rintro e w3 ⟨A', c', rfl, fr, hB3⟩
  have l1 := k1.lt
  have lz := kz.lt
  replace k1 := k1.below hB3 l1
  replace kz := kz.below hB3 lz
  replace f1 := f1.trans (hB3.mono f1.size)
  clear fr hB3 hB1 ho1 hl2 hl hs1
  go_wp2_with fail
  have r1 := k1.range 0 10
  rw [List.drop_zero, List.take_of_length_le (by rw [shaC_length Hh.out]; omega)] at r1
  have c9 : w3.cell? ⟨w.heap.size, 9, none⟩ = some (.int .u64 (N : Int)) := by rw [k1.cell, shaC_9 Hh.out]
  refine ⟨fun _ => ⟨r1, c9⟩, ?_⟩
  clear r1 c9
  refine wpF_only rfl (fun K hK => ?_)
  have hB := blkN_length h0 (l ++ endB N) ((n + (zeros N + 9)) / 64) Hh.out
  have HB := Lib.hid hB; clear hB
  generalize hV : blkN h0 (l ++ endB N) ((n + (zeros N + 9)) / 64) = V at *
  have HV := Lib.hid hV; clear hV
  generalize (n + (zeros N + 9)) % 64 = n' at *
  generalize (N + (zeros N + 9)) % 18446744073709551616 = N' at *
  refine wp_store_blk k1 129 (.tmp 1) (.tmp 8) rfl rfl (us := shaC V A' n' c' N') rfl (by rw [shaC_length HB.out]; kernel_rfl) (by rw [shaC_length HB.out, shaC_length Hh.out]) (shaC_all _ _ _ _ _) ?_
  intro w4 k4 hg
  refine hK _ _ ⟨fun h => absurd h (by omega), wpF_nil ?_⟩
  replace kz := kz.grown hg (by simp)
  replace f1 := f1.grown hg f1.size (by simp)
  clear hg hK K k1 w3
  go_wp2_with fail
  go_loopw [9, 3] (fun i _ wr => ∃ k : Nat, k ≤ 32 ∧ i = .int .i64 k ∧ Blk wr w.heap.size 129 (shaC V A' n' c' N') ∧ Blk wr (w.heap.size + 1) 29 (bvs (outN V k)) ∧ Below w.heap.size w wr) (fun i _ _ => 32 - (intOf i).toNat)
  case atStart => exact ⟨0, by omega, rfl, k4, kz, f1⟩
  case round =>
    clear k4 kz f1
    obtain ⟨k, hk, rfl, k4, kz, f1⟩ := hrel
    by_cases hlt : k < 32
    · have d1 : decide ((k : Int) < 32) = true := by simp; omega
      have c1 : wr.cell? ⟨w.heap.size, k / 4, none⟩ = some (.int .u32 ((at32 V (k / 4)).toNat : Int)) := by rw [k4.cell, shaC_w HB.out _ _ _ _ _ (by omega)]
      obtain ⟨y, c2⟩ : ∃ y, wr.cell? ⟨w.heap.size + 1, k, none⟩ = some y := ⟨_, kz.byte (i := k) (by rw [outN_length]; exact hlt)⟩
      have z2 := kz.frozen k
      go_wp2_with fail
      go_roundw
      case rel => exact ⟨k + 1, by omega, by go_num, k4.far (by simp) _, by rw [byteAt_of, outN_succ]; exact kz.setByte k _, f1.setCell (by simp) _⟩
      case measure => simp [intOf]; omega
    · obtain rfl : k = 32 := by omega
      have d1 : decide (((32 : Nat) : Int) < 32) = false := rfl
      have hs : (Try.prog.info? 29).map (·.size) = some (bvs (outN V 32)).length := by rw [bvs_length, outN_length]; kernel_rfl
      have Hs := Lib.hid hs; clear hs
      go_wp2_with (first
        | (refine load_blk kz rfl 29 (.tmp 2) rfl rfl Try.underlying29 Hs.out ?_)
        | (refine store_blk kz rfl 29 (.tmp 2) (.tmp 26) rfl rfl rfl Hs.out rfl (bvs_all _) ?_; intro w' k2 hg))
      refine bodyPost_ret (k2.sized rfl _ rfl Try.underlying29 Hs.out) rfl ⟨?_, f1.grown hg f1.size (by simp)⟩
      unfold sumB
      rw [Hl1.out, HV.out]
end Go.Proofs.Ytgefbgjgcjiceaa
