/- Put of numbers that are handed in; how a law's row of numbers is opened; a byte of a row of the call's own is set. No condition but sizes. -/
import Derived.Test.YtdblgjecbmebjaaPut
import Derived.Test.YtdblgjecbmebjaaOpen
namespace Go.Proofs.Ytdblgjecbmebjaa
open Go.RowKit Go.ChangeShapes Go.WideShapes Go.ChangeAt
theorem RdU.off2 {X : Nat → Prop} {w w' : World} {B : Nat} {A : Option Addr} {n : Nat} {l : List Nat} (h : RdU w B A n l) (hB : B ≤ w.heap.size) (hb : Off X w w') (hX : ∀ k, k < B → ¬ X k) : RdU w' B A n l :=
  ⟨h.1, fun hn => by
    obtain ⟨b, off, h1, h2, h3⟩ := h.2 hn
    exact ⟨b, off, h1, h2, fun j hj => (hb.cell (p := ⟨b, off + j, none⟩) (Nat.lt_of_lt_of_le h2 hB) (hX b h2)).trans (h3 j hj)⟩⟩
set_option maxRecDepth 100000 in
set_option maxHeartbeats 1000000 in
theorem put_any2 (p : Nat) (A : Option Addr) (n c : Nat) (l : List UInt8) (A2 : Option Addr) (m c2 : Nat) (xs : List Nat) (w : World) (B : Nat) (h : Wr w p A n c l) (hx : RdU w B A2 m xs) (hB : B ≤ p) (hap : ∀ k, isB A k → B ≤ k) (hxs : ∀ x ∈ xs, x < 18446744073709551616)
    (hlen : n + 10 * m ≤ 140737488355328) :
    Calls Try.prog 16 #[.pointer (some ⟨p, 0, none⟩), .slice A2 m c2] w fun e w' => e = .returned (.tuple #[]) ∧ WrP w p A (l ++ lebs xs) w' := by
  have hl := hx.1
  have hln := h.len
  have hpl := h.lt
  go_enter Try.func16, Try.ntmps16
  go_wp2_with fail
  go_loopw [8] (fun i wr => ∃ k : Nat, i = .int .i64 k ∧ k ≤ m ∧ WrP w p A (l ++ lebs (xs.take k)) wr) (fun i _ => m - (intOf i).toNat)
  case atStart => exact ⟨0, rfl, Nat.zero_le _, A, c, by simpa [lebs, hln] using h, Wrote.refl _ _ _⟩
  case round =>
    obtain ⟨k, rfl, hk, hp⟩ := hrel
    by_cases hlt : k < m
    · have d1 : decide ((k : Int) < (m : Int)) = true := by simp; omega
      have b1 : (0 : Int) ≤ (k : Int) := by omega
      have b2 : (k : Int) < (m : Int) := by omega
      obtain ⟨A1, c1, h2, d2⟩ := hp
      have hr := hx.off2 (by omega) d2.2 (fun k hk hx => by
        rcases hx with hx | hx
        · omega
        · have := hap k hx
          omega)
      obtain ⟨b, off, x, rfl, hb, hf, e0⟩ := hr.at_ hlt
      have hst := lebs_take hf
      have hff := hxs x (List.mem_of_getElem? hf)
      have ht3 := lebs_le (xs.take k) (fun g hg => hxs g (List.mem_of_mem_take hg))
      rw [List.length_take] at ht3
      have ht4 : (l ++ lebs (xs.take k)).length + 10 ≤ 140737488355328 := by rw [List.length_append]; omega
      go_wp2_with fail
      refine (wUint_any p A1 _ c1 _ x wr hff h2 ht4).mono ?_
      rintro e w3 ⟨rfl, hp⟩
      go_wp2_with fail
      go_roundw
      case rel => exact ⟨k + 1, by go_num, by omega, by rw [hst, ← List.append_assoc]; exact hp.to d2⟩
      case measure => simp [intOf]; omega
    · obtain rfl : k = m := by omega
      have d1 : decide ((k : Int) < (k : Int)) = false := by simp
      rw [List.take_of_length_le (by omega)] at hp
      go_wp2_with fail
      go_end0
      exact ⟨rfl, hp⟩
theorem OwnB.setByte {w : World} {base e : Nat} {g n c : Nat} {l : List UInt8} (h : OwnB w base e (.slice (some ⟨g, 0, none⟩) n c) l) {j : Nat} (hj : j < n) (x : UInt8) : OwnB (w.setCell ⟨g, j, none⟩ (bv x)) base e (.slice (some ⟨g, 0, none⟩) n c) (l.set j x) := by
  have hl := h.len
  rcases h.2 with ⟨h1, _⟩ | ⟨g', cap, cur, h1, h2, h3, h4, h5, h6, h7⟩
  · cases h1
  · injection h1 with h8 h9 h10
    injection h8 with h8
    injection h8 with h8 _ _
    subst h8 h10
    have hb : Blk w g e cur.toList := by unfold Blk; rw [Array.toArray_toList]; exact h3
    have hb2 := hb.set j (bv x)
    refine ⟨by simp [bvs], .inr ⟨g, c, (cur.toList.set j (bv x)).toArray, by rw [List.length_set, ← h9], h2, hb2, by rw [List.length_set]; omega, h5, by simpa using h6, ?_⟩⟩
    rw [Nat.mul_one] at h7 ⊢
    rw [List.length_set]
    simp only
    rw [List.take_set, h7]
    simp [bvs]
section
variable {H : Type} {enc : TypeId × Value → H} {W : World} {base : Nat} {v : Value} {d : DataW H} {ps : List MemPlace}
theorem opn_u64s (hval : Value.okWide Try.prog W .any base 23 v) (h : DataW.Trod enc Try.prog W 0 (fun _ => true) true 23 v d ps) :
    ∃ A n c l, v = .slice A n c ∧ RdU W W.heap.size A n l ∧ n ≤ c ∧ c ≤ maxLen ∧ ∀ x ∈ l, x < 18446744073709551616 := by
  obtain ⟨a0, len, cap, rfl⟩ := okWide_slice Try.underlying23 hval
  obtain ⟨fuel, hf⟩ := h
  rcases open_ints Try.underlying23 Try.underlying30 (by kernel_rfl) hf with ⟨hcs, _⟩ | ⟨x, l, c, zs, hcs, _, hl, hm, hz, _, hcell, hwz⟩
  · simp [Value.cells] at hcs
    obtain ⟨rfl, rfl, rfl⟩ := hcs
    exact ⟨none, 0, 0, [], rfl, ⟨rfl, fun h => absurd h (by omega)⟩, Nat.le_refl _, Nat.zero_le _, by simp⟩
  · simp [Value.cells] at hcs
    obtain ⟨rfl, rfl, rfl⟩ := hcs
    simp at hz
    refine ⟨_, _, _, (zs.take len).map Int.toNat, rfl, ⟨by simp; omega, fun hn => ?_⟩, hl, hm, fun y hy => ?_⟩
    · obtain ⟨b, off, spot⟩ := x
      have h0 := hcell 0 (by omega)
      have hspot : spot = none := by simpa [Addr.add] using World.cell?_spot h0
      subst hspot
      refine ⟨b, off, rfl, World.block_lt_of_cell? W ⟨b, off, none⟩ (u := .int .u64 (zs.getD 0 0)) (by simpa [Addr.add] using h0), fun j hj => ?_⟩
      have hj1 : j < len := by simp at hj; omega
      have hj2 : j < zs.length := by omega
      have h1 := hcell j hj2
      rw [Addr.add_mid] at h1
      rw [h1]
      have hb := bounds_u64 (hwz zs[j] (List.getElem_mem hj2))
      simp [hj2]
      omega
    · obtain ⟨z, hz1, rfl⟩ := List.mem_map.1 hy
      have hb := bounds_u64 (hwz z (List.mem_of_mem_take hz1))
      omega
end
end Go.Proofs.Ytdblgjecbmebjaa
