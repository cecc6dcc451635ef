/- The awake of the laws of layer 2: true. No condition. -/
import Derived.Test.YthjaomkjjlgjeaaMacEqual
namespace Go.Proofs.Ythjaomkjjlgjeaa
open Go.RowKit
def Jefe : List UInt8 := [74, 101, 102, 101]
def what1 : List UInt8 := [119, 104, 97, 116, 32, 100, 111, 32, 121, 97, 32, 119, 97, 110, 116, 32]
def what2 : List UInt8 := [102, 111, 114, 32, 110, 111, 116, 104, 105, 110, 103, 63]
def jefeB : List UInt8 := [91, 220, 193, 70, 191, 96, 117, 78, 106, 4, 36, 38, 8, 149, 117, 199, 90, 0, 63, 8, 157, 39, 57, 131, 157, 236, 88, 185, 100, 236, 56, 67]
theorem mac_jefe : macB Jefe (what1 ++ what2) = jefeB := by decide +kernel
set_option maxRecDepth 100000 in
set_option maxHeartbeats 1000000 in
theorem awake2_any (w : World) : Calls Try.prog 17 #[] w fun e w' => e = .returned (.bool true) ∧ Below w.heap.size w w' := by
  have kc := fun (w : World) (g : Nat) (hg : w.heap.size = g) (C : Array Value) (n c : Nat) => run_conv_const T23 w g hg C n c
  go_enter Try.func17, Try.ntmps17
  go_wp2_with fail
  refine absC (fun w1 => RdB w1 w1.heap.size (some ⟨w.heap.size, 0, none⟩) 4 Jefe ∧ RdL w1 w1.heap.size (some ⟨w.heap.size + 3, 0, none⟩) 2 [⟨some ⟨w.heap.size + 1, 0, none⟩, 16, 16, what1⟩, ⟨some ⟨w.heap.size + 2, 0, none⟩, 12, 12, what2⟩] ∧ Below w.heap.size w w1) ⟨?_, ?_, ?_⟩ ?_
  · exact ((((RdB.mark w 5 Jefe (4, 5) _ rfl (w.heap.size + 1) (by omega)).alloc (by simp) _).alloc (by simp) _).alloc (by simp) _).more (by simp)
  · refine (RdL.of_blk (ps := [⟨some ⟨w.heap.size + 1, 0, none⟩, 16, 16, what1⟩, ⟨some ⟨w.heap.size + 2, 0, none⟩, 12, 12, what2⟩]) (g := w.heap.size + 3) (t := 23) ?_ ?_)
    · exact Blk.newAt (by simp) _ _
    · intro p hp
      simp only [List.mem_cons, List.not_mem_nil, or_false] at hp
      rcases hp with rfl | rfl
      · exact (((RdB.mark _ 5 what1 (16, 17) (w.heap.size + 1) (by simp) (w.heap.size + 2) (by omega)).alloc (by simp) _).alloc (by simp) _).more (by simp)
      · exact ((RdB.mark _ 5 what2 (12, 13) (w.heap.size + 2) (by simp) (w.heap.size + 3) (by omega)).alloc (by simp) _).more (by simp)
  · exact ((((Below.refl _ w).alloc (Nat.le_refl _) _).alloc (by simp) _).alloc (by simp; omega) _).alloc (by simp; omega) _
  clear kc
  rintro w1 ⟨rk, rl, f1⟩
  refine (mac_any _ 4 4 Jefe _ 2 2 _ w1 rk (by omega) rl (by simp [catB, what1, what2]) (by omega)).mono ?_
  rintro e w2 ⟨rfl, f2⟩
  rw [show catB [(⟨some ⟨w.heap.size + 1, 0, none⟩, 16, 16, what1⟩ : Part), ⟨some ⟨w.heap.size + 2, 0, none⟩, 12, 12, what2⟩] = what1 ++ what2 from by simp [catB], mac_jefe]
  replace f1 := f1.trans (f2.mono f1.size)
  clear f2 rk rl w1
  have hz : (Try.prog.info? 26).map (·.size) = some (bvs jefeB).length := by kernel_rfl
  have Hz := Lib.hid hz; clear hz
  go_wp2_with (first | (refine load_blk_if k3 rfl 26 (.tmp 1) rfl rfl Try.underlying26 Hz.out ?_) | (refine store_blk (Blk.of_new w2 26 (bvs (List.replicate 32 0))) rfl 26 (.tmp 1) (.tmp 9) rfl rfl (us := bvs jefeB) rfl Hz.out rfl (bvs_all _) ?_; intro w3 k3 hg; have f3 : Below w.heap.size w w3 := (f1.alloc f1.size _).grown hg (by have := f1.size; simp; omega) (by have := f1.size; simp; omega); have c0 : w3.cell? ⟨w2.heap.size, 0, none⟩ = some (.int .u8 91) := k3.byteAt (by decide); have c1 : w3.cell? ⟨w2.heap.size, 1, none⟩ = some (.int .u8 220) := k3.byteAt (by decide); have c31 : w3.cell? ⟨w2.heap.size, 31, none⟩ = some (.int .u8 67) := k3.byteAt (by decide)))
  refine (equal_any jefeB jefeB w3 rfl rfl).mono ?_
  rintro e w4 ⟨rfl, f4⟩
  replace f3 := f3.trans (f4.mono f3.size)
  go_wp2_with fail
  go_ret
  exact ⟨rfl, f3⟩
end Go.Proofs.Ythjaomkjjlgjeaa
