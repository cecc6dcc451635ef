/- How a law's row of whole numbers is opened. No condition. -/
import Derived.Test.YtgefbgjgcjiceaaOpen
import Derived.Test.YtgefbgjgcjiceaaSeat
namespace Go.Proofs.Ytgefbgjgcjiceaa
open Go.RowKit Go.ChangeShapes Go.WideShapes Go.ChangeAt
/-- A row of int that is only read. -/
def RdZ (w : World) (B : Nat) (A : Option Addr) (n : Nat) (l : List Int) : Prop :=
  l.length = n ∧ (0 < n → ∃ b off, A = some ⟨b, off, none⟩ ∧ b < B ∧ ∀ j (h : j < l.length), w.cell? ⟨b, off + j, none⟩ = some (.int .i64 l[j]))
theorem RdZ.below {w w' : World} {B : Nat} {A : Option Addr} {n : Nat} {l : List Int} (h : RdZ w B A n l) (hb : Below B w w') : RdZ w' B A n l :=
  ⟨h.1, fun hn => by
    obtain ⟨b, off, e, hB, hc⟩ := h.2 hn
    exact ⟨b, off, e, hB, fun j hj => (hb.cell (p := ⟨b, off + j, none⟩) hB).trans (hc j hj)⟩⟩
theorem RdZ.at_ {w : World} {B : Nat} {A : Option Addr} {n : Nat} {l : List Int} (h : RdZ w B A n l) {j : Nat} (hj : j < n) : ∃ b off x, A = some ⟨b, off, none⟩ ∧ b < B ∧ w.cell? ⟨b, off + j, none⟩ = some (.int .i64 x) ∧ x ∈ l := by
  obtain ⟨b, off, e, hB, hc⟩ := h.2 (by omega)
  have := h.1
  exact ⟨b, off, l[j]'(by omega), e, hB, hc j (by omega), List.getElem_mem _⟩
section
variable {H : Type} {enc : TypeId × Value → H} {P : Program} {W : World} {base t : Nat} {v : Value} {d : DataW H} {ps : List MemPlace}
set_option maxRecDepth 100000 in
theorem opn_ints (hval : Value.okWide Try.prog W .any base 46 v) (h : DataW.Trod enc Try.prog W 0 (fun _ => true) true 46 v d ps) :
    ∃ A n c l, v = .slice A n c ∧ RdZ W W.heap.size A n l ∧ n ≤ c ∧ c ≤ maxLen ∧ ∀ x ∈ l, -9223372036854775808 ≤ x ∧ x ≤ 9223372036854775807 := by
  obtain ⟨a0, len, cap, rfl⟩ := okWide_slice Try.underlying46 hval
  obtain ⟨fuel, hf⟩ := h
  rcases open_ints Try.underlying46 Try.underlying3 (by kernel_rfl) hf with ⟨hcs, _⟩ | ⟨x, l, c, zs, hcs, _, hl, hm, hz, _, hcell, hwz⟩
  · simp [Value.cells] at hcs
    obtain ⟨rfl, rfl, rfl⟩ := hcs
    exact ⟨none, 0, 0, [], rfl, ⟨rfl, fun h => absurd h (by omega)⟩, Nat.le_refl _, Nat.zero_le _, by simp⟩
  · simp [Value.cells] at hcs
    obtain ⟨rfl, rfl, rfl⟩ := hcs
    simp at hz
    refine ⟨_, _, _, zs.take len, rfl, ⟨by simp; omega, fun hn => ?_⟩, hl, hm, fun y hy => ?_⟩
    · obtain ⟨b, off, spot⟩ := x
      have h0 := hcell 0 (by omega)
      have hspot : spot = none := by simpa [Addr.add] using World.cell?_spot h0
      subst hspot
      refine ⟨b, off, rfl, World.block_lt_of_cell? W ⟨b, off, none⟩ (u := .int .i64 (zs.getD 0 0)) (by simpa [Addr.add] using h0), fun j hj => ?_⟩
      have hj1 : j < len := by simp at hj; omega
      have hj2 : j < zs.length := by omega
      have h1 := hcell j hj2
      rw [Addr.add_mid] at h1
      rw [h1]
      simp [hj2]
    · exact bounds_i64 (hwz y (List.mem_of_mem_take hy))
end
end Go.Proofs.Ytgefbgjgcjiceaa
