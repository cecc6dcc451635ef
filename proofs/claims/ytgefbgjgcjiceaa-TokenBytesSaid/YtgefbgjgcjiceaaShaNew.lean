/- sha.table, sha.begin, slices.Clone at bytes: what they return. No condition beyond the form's reach. -/
import Derived.Test.YtgefbgjgcjiceaaShaTake
namespace Go.Proofs.Ytgefbgjgcjiceaa
open Go.RowKit
def KEYS : List UInt32 := [
  0x428a2f98, 0x71374491, 0xb5c0fbcf, 0xe9b5dba5, 0x3956c25b, 0x59f111f1, 0x923f82a4, 0xab1c5ed5,
  0xd807aa98, 0x12835b01, 0x243185be, 0x550c7dc3, 0x72be5d74, 0x80deb1fe, 0x9bdc06a7, 0xc19bf174,
  0xe49b69c1, 0xefbe4786, 0x0fc19dc6, 0x240ca1cc, 0x2de92c6f, 0x4a7484aa, 0x5cb0a9dc, 0x76f988da,
  0x983e5152, 0xa831c66d, 0xb00327c8, 0xbf597fc7, 0xc6e00bf3, 0xd5a79147, 0x06ca6351, 0x14292967,
  0x27b70a85, 0x2e1b2138, 0x4d2c6dfc, 0x53380d13, 0x650a7354, 0x766a0abb, 0x81c2c92e, 0x92722c85,
  0xa2bfe8a1, 0xa81a664b, 0xc24b8b70, 0xc76c51a3, 0xd192e819, 0xd6990624, 0xf40e3585, 0x106aa070,
  0x19a4c116, 0x1e376c08, 0x2748774c, 0x34b0bcb5, 0x391c0cb3, 0x4ed8aa4a, 0x5b9cca4f, 0x682e6ff3,
  0x748f82ee, 0x78a5636f, 0x84c87814, 0x8cc70208, 0x90befffa, 0xa4506ceb, 0xbef9a3f7, 0xc67178f2]
def H0 : List UInt32 := [0x6a09e667, 0xbb67ae85, 0x3c6ef372, 0xa54ff53a, 0x510e527f, 0x9b05688c, 0x1f83d9ab, 0x5be0cd19]
theorem KEYS_length : KEYS.length = 64 := rfl
set_option maxRecDepth 100000 in
theorem begin_any (w : World) : Calls Try.prog 91 #[] w fun e w' => e = .returned (.agg (uvs H0).toArray) ∧ Below w.heap.size w w' := by
  have hi : (Try.prog.info? 127).map (·.size) = some (uvs H0).length := by kernel_rfl
  have Hi := Lib.hid hi; clear hi
  go_enter Try.func91, Try.ntmps91
  go_wp2_with (first | (refine store_blk (us := uvs H0) (Blk.newAt rfl 127 _) rfl 127 (.tmp 0) (.tmp 1) rfl rfl (by rfl) Hi.out rfl (uvs_all _) ?_; intro w' b9 hg))
  exact bodyPost_ret (b9.sized rfl _ rfl Try.underlying127 Hi.out) rfl ⟨rfl, ((Below.refl _ w).alloc (Nat.le_refl _) _).grown hg (by simp) (by simp)⟩
set_option maxRecDepth 100000 in
set_option maxHeartbeats 1000000 in
theorem table_any (w : World) : Calls Try.prog 92 #[] w fun e w' => e = .returned (.agg (uvs KEYS).toArray) ∧ Below w.heap.size w w' := by
  have hi : (Try.prog.info? 138).map (·.size) = some (uvs KEYS).length := by kernel_rfl
  have Hi := Lib.hid hi; clear hi
  go_enter Try.func92, Try.ntmps92
  go_wp2_with (first | (refine store_blk (us := uvs KEYS) (Blk.newAt rfl 138 _) rfl 138 (.tmp 0) (.tmp 1) rfl rfl (by rfl) Hi.out rfl (uvs_all _) ?_; intro w' b9 hg))
  exact bodyPost_ret (b9.sized rfl _ rfl Try.underlying138 Hi.out) rfl ⟨rfl, ((Below.refl _ w).alloc (Nat.le_refl _) _).grown hg (by simp) (by simp)⟩

set_option maxHeartbeats 400000 in
theorem clone_any (A : Option Addr) (n c : Nat) (l : List UInt8) (w : World) (h : RdB w w.heap.size A n l) (hn : n ≤ 140737488355328) :
    Calls Try.prog 57 #[.slice A n c] w fun e w' => ∃ A' c', e = .returned (.slice A' n c') ∧ OwnB w' w.heap.size 5 (.slice A' n c') l ∧ Below w.heap.size w w' := by
  have he := run_eql_slice_nil (P := Try.prog) w 22 5 A n c Try.underlying22
  rcases A with _ | ad
  · have hm : n = 0 := by
      rcases Nat.eq_zero_or_pos n with h0 | h0
      · exact h0
      · obtain ⟨b, off, h, _⟩ := h.2 h0
        cases h
    subst hm
    have hl : l = [] := List.eq_nil_of_length_eq_zero h.1
    subst hl
    simp only [Option.isNone_none] at he
    go_enter Try.func57, Try.ntmps57
    go_wp2_with fail
    go_ret
    exact ⟨none, 0, rfl, OwnB.nil_ _ _ _, Below.refl _ _⟩
  · simp only [Option.isNone_some] at he
    go_enter Try.func57, Try.ntmps57
    go_wp2_with (at_builtin; go_must (refine appendR T23 rfl rfl rfl (OwnB.made (l := []) (Nat.le_refl _) rfl (by simp)) rfl (h.keep (fun p hp => World.cell?_alloc_lt w _ p hp)) (by simp; omega) ((Below.refl _ w).alloc (Nat.le_refl _) _) (Nat.le_refl _) ?_); intro A' c' w' h1 h2 h3)
    go_ret
    rw [Nat.zero_add] at h1
    exact ⟨A', c', by rw [← Nat.zero_add n]; rfl, h1, h2⟩
end Go.Proofs.Ytgefbgjgcjiceaa
