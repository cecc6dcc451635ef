/- The awake of the laws of layer 1: true. No condition. -/
import Derived.Test.YthjaomkjjlgjeaaFirst
import Derived.Test.YthjaomkjjlgjeaaKeys
import Derived.Test.YthjaomkjjlgjeaaShaOf
import Derived.Test.YthjaomkjjlgjeaaMacEqual
namespace Go.Proofs.Ythjaomkjjlgjeaa
open Go.RowKit
def abcB : List UInt8 := [0xba, 0x78, 0x16, 0xbf, 0x8f, 0x01, 0xcf, 0xea, 0x41, 0x41, 0x40, 0xde, 0x5d, 0xae, 0x22, 0x23, 0xb0, 0x03, 0x61, 0xa3, 0x96, 0x17, 0x7a, 0x9c, 0xb4, 0x10, 0xff, 0x61, 0xf2, 0x00, 0x15, 0xad]
theorem sha_abc : shaB [97, 98, 99] = abcB := by decide +kernel
set_option maxRecDepth 100000 in
set_option maxHeartbeats 1000000 in
theorem awake1_any (w : World) : Calls Try.prog 25 #[] w fun e w' => e = .returned (.bool true) ∧ Below w.heap.size w w' := by
  have kc := fun (w : World) (g : Nat) (hg : w.heap.size = g) (C : Array Value) (n c : Nat) => run_conv_const T23 w g hg C n c
  go_enter Try.func25, Try.ntmps25
  go_wp2_with fail
  refine absC (fun w1 => RdL w1 w1.heap.size (some ⟨w.heap.size + 2, 0, none⟩) 2 [⟨some ⟨w.heap.size, 0, none⟩, 2, 2, [97, 98]⟩, ⟨some ⟨w.heap.size + 1, 0, none⟩, 1, 1, [99]⟩] ∧ Below w.heap.size w w1) ⟨?_, ?_⟩ ?_
  · refine (RdL.of_blk (ps := [⟨some ⟨w.heap.size, 0, none⟩, 2, 2, [97, 98]⟩, ⟨some ⟨w.heap.size + 1, 0, none⟩, 1, 1, [99]⟩]) (g := w.heap.size + 2) (t := 23) ?_ ?_)
    · exact Blk.newAt (by simp) _ _
    · intro p hp
      simp only [List.mem_cons, List.not_mem_nil, or_false] at hp
      rcases hp with rfl | rfl
      · exact (((RdB.mark w 5 [97, 98] (2, 3) _ rfl (w.heap.size + 1) (by omega)).alloc (by simp) _).alloc (by simp) _).more (by simp)
      · exact ((RdB.mark _ 5 [99] (1, 2) (w.heap.size + 1) (by simp) (w.heap.size + 2) (by omega)).alloc (by simp) _).more (by simp)
  · exact (((Below.refl _ w).alloc (Nat.le_refl _) _).alloc (by simp) _).alloc (by simp; omega) _
  clear kc
  rintro w1 ⟨rl, f1⟩
  refine (of_any _ 2 2 _ w1 rl (by simp [catB]) (by omega)).mono ?_
  rintro e w2 ⟨rfl, f2⟩
  rw [show catB [(⟨some ⟨w.heap.size, 0, none⟩, 2, 2, [97, 98]⟩ : Part), ⟨some ⟨w.heap.size + 1, 0, none⟩, 1, 1, [99]⟩] = [97, 98, 99] from by simp [catB], sha_abc]
  replace f1 := f1.trans (f2.mono f1.size)
  clear f2 rl w1
  have hz : (Try.prog.info? 26).map (·.size) = some (bvs abcB).length := by kernel_rfl
  have Hz := Lib.hid hz; clear hz
  go_wp2_with (first | (refine store_blk (Blk.of_new w2 26 (bvs (List.replicate 32 0))) rfl 26 (.tmp 1) (.tmp 7) rfl rfl (us := bvs abcB) rfl Hz.out rfl (bvs_all _) ?_; intro w3 b3 hg))
  have f3 : Below w.heap.size w w3 := (f1.alloc f1.size _).grown hg (by have := f1.size; simp; omega) (by have := f1.size; simp; omega)
  clear hg f1
  refine (first_any w3).mono ?_
  rintro e w4 ⟨rfl, f4⟩
  replace b3 := b3.below f4 b3.lt
  replace f4 := f3.trans (f4.mono f3.size)
  clear f3 w3
  have c0 : w4.cell? ⟨w2.heap.size, 0, none⟩ = some (.int .u8 186) := b3.byteAt (by decide)
  have c31 : w4.cell? ⟨w2.heap.size, 31, none⟩ = some (.int .u8 173) := b3.byteAt (by decide)
  have hx : ∀ w : World, (Instr.index 41 (.agg (uvs H0).toArray) (.int .i64 0)).run Try.prog w = .ok (.int .u32 1779033703) w := fun w => run_index_words Try.underlying41 (by kernel_rfl) Try.underlying40 H0 rfl 0 (by omega) w
  have hy : ∀ w : World, (Instr.index 58 (.agg (uvs KEYS).toArray) (.int .i64 0)).run Try.prog w = .ok (.int .u32 1116352408) w := fun w => run_index_words Try.underlying58 (by kernel_rfl) Try.underlying40 KEYS rfl 0 (by omega) w
  go_wp2_with fail
  refine (keys_any w4).mono ?_
  rintro e w5 ⟨rfl, f5⟩
  replace c0 := (f5.cell (p := ⟨w2.heap.size, 0, none⟩) b3.lt).trans c0
  replace c31 := (f5.cell (p := ⟨w2.heap.size, 31, none⟩) b3.lt).trans c31
  replace f4 := f4.trans (f5.mono f4.size)
  clear b3 f5 w4
  go_wp2_with fail
  refine (end_any' 0 w5).mono ?_
  rintro e w6 ⟨g, c, rfl, -, f6⟩
  have hz0 : ((zeros 0 + 9 : Nat) : Int) = 64 := by decide
  rw [show zeros 0 + 9 = 64 from rfl]
  go_wp2_with fail
  go_ret
  exact ⟨rfl, f4.trans (f6.mono f4.size)⟩
end Go.Proofs.Ythjaomkjjlgjeaa
