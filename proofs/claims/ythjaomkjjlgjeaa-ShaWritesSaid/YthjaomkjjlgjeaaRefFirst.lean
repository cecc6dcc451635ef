/- The document's First, Keys. No condition. -/
import Derived.Test.YthjaomkjjlgjeaaRefRoots
namespace Go.Proofs.Ythjaomkjjlgjeaa
open Go.RowKit
set_option linter.unusedVariables false
set_option linter.unusedSimpArgs false
theorem nvs_all (l : List Nat) : (nvs l).all (·.oneCell') = true := by
  rw [List.all_eq_true]
  intro u hu
  obtain ⟨x, _, rfl⟩ := List.mem_map.1 hu
  rfl
theorem nvs_words (l : List UInt32) : nvs (l.map UInt32.toNat) = uvs l := by simp [nvs, uvs, nv, uv, Function.comp_def]
theorem rts2 : rtsN 2 8 = H0.map UInt32.toNat := by decide +kernel
theorem rts3 : rtsN 3 64 = KEYS.map UInt32.toNat := by decide +kernel
theorem refFirst_any_eq : nvs (rtsN 2 8) = uvs H0 := by rw [rts2, nvs_words]
theorem refKeys_any_eq : nvs (rtsN 3 64) = uvs KEYS := by rw [rts3, nvs_words]
/-- k of n laid. -/
def fillN (l : List Nat) (n k : Nat) : List Nat := l.take k ++ List.replicate (n - k) 0
theorem fillN_length (l : List Nat) (n k : Nat) (hl : l.length = n) (hk : k ≤ n) : (fillN l n k).length = n := by simp [fillN]; omega
theorem fillN_succ (l : List Nat) (n k : Nat) (hl : l.length = n) (hk : k < n) : (fillN l n k).set k (atN l k) = fillN l n (k + 1) := by
  unfold fillN
  rw [List.set_append_right _ _ (by simp; omega), List.length_take, Nat.min_eq_left (by omega), Nat.sub_self, show n - k = (n - (k + 1)) + 1 from by omega, List.replicate_succ, List.set_cons_zero, List.take_succ_eq_append_getElem (by omega), List.append_assoc]
  simp [atN, show k < l.length from by omega]
theorem fillN_all (l : List Nat) (n : Nat) (hl : l.length = n) : fillN l n n = l := by
  unfold fillN
  rw [Nat.sub_self, List.replicate_zero, List.append_nil, List.take_of_length_le (by omega)]
theorem OwnN.far {w : World} {base e : Nat} {g n c : Nat} {l : List Nat} (h : OwnN w base e (.slice (some ⟨g, 0, none⟩) n c) l) {p : Addr} (hp : p.block ≠ g) (u : Value) : OwnN (w.setCell p u) base e (.slice (some ⟨g, 0, none⟩) n c) l := by
  refine ⟨h.1, ?_⟩
  rcases h.2 with hn | ⟨g', cap, cur, h1, h2, h3, h4⟩
  · exact .inl hn
  · refine .inr ⟨g', cap, cur, h1, h2, ?_, h4⟩
    injection h1 with h5 _ _
    injection h5 with h5
    injection h5 with h5 _ _
    rw [Below.heap_setCell w p u g' (by omega)]
    exact h3
theorem OwnN.ge {w : World} {base e : Nat} {g n c : Nat} {l : List Nat} (h : OwnN w base e (.slice (some ⟨g, 0, none⟩) n c) l) : base ≤ g := (World.ownsRow.lt h g rfl).1
attribute [local irreducible] rtsN
set_option maxRecDepth 100000 in
set_option maxHeartbeats 2000000 in
theorem refFirst_any (w : World) : Calls Try.prog 32 #[] w fun e w' => e = .returned (.agg (uvs H0).toArray) ∧ Below w.heap.size w w' := by
  have hi : (Try.prog.info? 41).map (·.size) = some (nvs (rtsN 2 8)).length := by rw [nvs_length, rtsN_length]; kernel_rfl
  have Hi := Lib.hid hi; clear hi
  have hi2 : (nvs (rtsN 2 8)).length = (List.replicate 8 (.int .u32 0 : Value)).length := by rw [nvs_length, rtsN_length]; rfl
  have Hi2 := Lib.hid hi2; clear hi2
  have hl := rtsN_length 2 8
  have he := refFirst_any_eq
  have HE := Lib.hid he; clear he
  have HL := Lib.hid hl; clear hl
  go_enter Try.func32, Try.ntmps32
  go_wp2_with fail
  refine absC (fun w1 => Blk w1 w.heap.size 41 (List.replicate 8 (.int .u32 0)) ∧ Blk w1 (w.heap.size + 1) 41 (nvs (fillN (rtsN 2 8) 8 0)) ∧ Below w.heap.size w w1) ⟨(Blk.newAt rfl _ _).alloc _, Blk.newAt (by simp) _ _, ((Below.refl _ w).alloc (Nat.le_refl _) _).alloc (by simp) _⟩ ?_
  rintro w1 ⟨k1, k2, f1⟩
  refine (roots_any 8 2 (by omega) (by omega) w1).mono ?_
  rintro e w2 ⟨A, c, rfl, ow, f2⟩
  have l2 := k2.lt
  have g1 : w.heap.size + 1 < w1.heap.size := l2
  have hge : w.heap.size + 1 < w1.heap.size := l2
  replace k1 := k1.below f2 k1.lt
  replace k2 := k2.below f2 l2
  replace f1 := f1.trans (f2.mono f1.size)
  clear f2
  generalize rtsN 2 8 = l at *
  obtain ⟨g, rfl⟩ : ∃ g, A = some ⟨g, 0, none⟩ := by
    rcases ow.2 with ⟨h1, _⟩ | ⟨g, cap, cur, h1, _⟩
    · have := ow.1; have := HL.out; injection h1 with h2 h3 _; omega
    · injection h1 with h2 _ _; exact ⟨g, h2⟩
  go_wp2_with fail
  go_loopw [3] (fun s3 wr => ∃ k : Nat, k ≤ 8 ∧ s3 = .int .i64 k ∧ Blk wr w.heap.size 41 (List.replicate 8 (.int .u32 0)) ∧ Blk wr (w.heap.size + 1) 41 (nvs (fillN l 8 k)) ∧ OwnN wr w1.heap.size 40 (.slice (some ⟨g, 0, none⟩) 8 c) l ∧ Below w.heap.size w wr) (fun s3 _ => 8 - (intOf s3).toNat)
  case atStart => exact ⟨0, by omega, rfl, k1, k2, ow, f1⟩
  case round =>
    clear k1 k2 ow f1
    obtain ⟨k, hk, rfl, k1, k2, ow, f1⟩ := hrel
    have hgg := ow.ge
    by_cases hlt : k < 8
    · have d1 : decide ((k : Int) < 8) = true := by simp; omega
      have b1 : (0 : Int) ≤ (k : Int) := by omega
      have b2 : (k : Int) < 8 := by omega
      have c1 := ow.cell (j := k) (by rw [HL.out]; exact hlt)
      have c2 := k2.num (i := k) (by rw [fillN_length _ _ _ HL.out hk]; exact hlt)
      have z2 := k2.frozen k
      have hfs := fillN_succ l 8 k HL.out hlt
      have HFS := Lib.hid hfs; clear hfs
      go_wp2_with fail
      go_roundw
      case rel => exact ⟨k + 1, by omega, by go_num, k1.far (by simp) _, by rw [← HFS.out]; exact k2.setNum _ _, ow.far (by simp; omega) _, f1.setCell (by simp) _⟩
      case measure => simp [intOf]; omega
    · obtain rfl : k = 8 := by omega
      have d1 : decide (((8 : Nat) : Int) < 8) = false := rfl
      rw [fillN_all l 8 HL.out] at k2
      go_wp2_with (first | (refine load_blk k2 rfl 41 (.tmp 1) rfl rfl Try.underlying41 Hi.out ?_) | (refine store_blk k1 rfl 41 (.tmp 0) (.tmp 15) rfl rfl (us := nvs l) rfl Hi.out Hi2.out.symm (nvs_all _) ?_; intro w9 k9 hg9))
      refine bodyPost_ret (k9.sized rfl _ rfl Try.underlying41 Hi.out) rfl ⟨?_, f1.grown hg9 f1.size (by simp)⟩
      rw [HE.out]
set_option maxRecDepth 100000 in
set_option maxHeartbeats 2000000 in
theorem refKeys_any (w : World) : Calls Try.prog 37 #[] w fun e w' => e = .returned (.agg (uvs KEYS).toArray) ∧ Below w.heap.size w w' := by
  have hi : (Try.prog.info? 58).map (·.size) = some (nvs (rtsN 3 64)).length := by rw [nvs_length, rtsN_length]; kernel_rfl
  have Hi := Lib.hid hi; clear hi
  have hi2 : (nvs (rtsN 3 64)).length = (List.replicate 64 (.int .u32 0 : Value)).length := by rw [nvs_length, rtsN_length]; rfl
  have Hi2 := Lib.hid hi2; clear hi2
  have hl := rtsN_length 3 64
  have he := refKeys_any_eq
  have HE := Lib.hid he; clear he
  have HL := Lib.hid hl; clear hl
  go_enter Try.func37, Try.ntmps37
  go_wp2_with fail
  refine absC (fun w1 => Blk w1 w.heap.size 58 (List.replicate 64 (.int .u32 0)) ∧ Blk w1 (w.heap.size + 1) 58 (nvs (fillN (rtsN 3 64) 64 0)) ∧ Below w.heap.size w w1) ⟨(Blk.newAt rfl _ _).alloc _, Blk.newAt (by simp) _ _, ((Below.refl _ w).alloc (Nat.le_refl _) _).alloc (by simp) _⟩ ?_
  rintro w1 ⟨k1, k2, f1⟩
  refine (roots_any 64 3 (by omega) (by omega) w1).mono ?_
  rintro e w2 ⟨A, c, rfl, ow, f2⟩
  have l2 := k2.lt
  have g1 : w.heap.size + 1 < w1.heap.size := l2
  have hge : w.heap.size + 1 < w1.heap.size := l2
  replace k1 := k1.below f2 k1.lt
  replace k2 := k2.below f2 l2
  replace f1 := f1.trans (f2.mono f1.size)
  clear f2
  generalize rtsN 3 64 = l at *
  obtain ⟨g, rfl⟩ : ∃ g, A = some ⟨g, 0, none⟩ := by
    rcases ow.2 with ⟨h1, _⟩ | ⟨g, cap, cur, h1, _⟩
    · have := ow.1; have := HL.out; injection h1 with h2 h3 _; omega
    · injection h1 with h2 _ _; exact ⟨g, h2⟩
  go_wp2_with fail
  go_loopw [3] (fun s3 wr => ∃ k : Nat, k ≤ 64 ∧ s3 = .int .i64 k ∧ Blk wr w.heap.size 58 (List.replicate 64 (.int .u32 0)) ∧ Blk wr (w.heap.size + 1) 58 (nvs (fillN l 64 k)) ∧ OwnN wr w1.heap.size 40 (.slice (some ⟨g, 0, none⟩) 64 c) l ∧ Below w.heap.size w wr) (fun s3 _ => 64 - (intOf s3).toNat)
  case atStart => exact ⟨0, by omega, rfl, k1, k2, ow, f1⟩
  case round =>
    clear k1 k2 ow f1
    obtain ⟨k, hk, rfl, k1, k2, ow, f1⟩ := hrel
    have hgg := ow.ge
    by_cases hlt : k < 64
    · have d1 : decide ((k : Int) < 64) = true := by simp; omega
      have b1 : (0 : Int) ≤ (k : Int) := by omega
      have b2 : (k : Int) < 64 := by omega
      have c1 := ow.cell (j := k) (by rw [HL.out]; exact hlt)
      have c2 := k2.num (i := k) (by rw [fillN_length _ _ _ HL.out hk]; exact hlt)
      have z2 := k2.frozen k
      have hfs := fillN_succ l 64 k HL.out hlt
      have HFS := Lib.hid hfs; clear hfs
      go_wp2_with fail
      go_roundw
      case rel => exact ⟨k + 1, by omega, by go_num, k1.far (by simp) _, by rw [← HFS.out]; exact k2.setNum _ _, ow.far (by simp; omega) _, f1.setCell (by simp) _⟩
      case measure => simp [intOf]; omega
    · obtain rfl : k = 64 := by omega
      have d1 : decide (((64 : Nat) : Int) < 64) = false := rfl
      rw [fillN_all l 64 HL.out] at k2
      go_wp2_with (first | (refine load_blk k2 rfl 58 (.tmp 1) rfl rfl Try.underlying58 Hi.out ?_) | (refine store_blk k1 rfl 58 (.tmp 0) (.tmp 15) rfl rfl (us := nvs l) rfl Hi.out Hi2.out.symm (nvs_all _) ?_; intro w9 k9 hg9))
      refine bodyPost_ret (k9.sized rfl _ rfl Try.underlying58 Hi.out) rfl ⟨?_, f1.grown hg9 f1.size (by simp)⟩
      rw [HE.out]
end Go.Proofs.Ythjaomkjjlgjeaa
