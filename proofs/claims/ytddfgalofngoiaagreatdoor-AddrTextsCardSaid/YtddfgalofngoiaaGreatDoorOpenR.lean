/- How a law's row of elements of k cells is opened. No condition. -/
import Derived.Test.YtddfgalofngoiaaGreatDoorOpen
import Derived.Test.YtddfgalofngoiaaGreatDoorRowR
import Derived.Test.YtddfgalofngoiaaGreatDoorProg
namespace Go.Proofs.YtddfgalofngoiaaGreatDoor
open Go.RowKit Go.ChangeShapes Go.WideShapes Go.ChangeAt
section
variable {H : Type} {enc : TypeId × Value → H} {W : World} {v : Value} {d : DataW H} {ps : List MemPlace}
set_option maxRecDepth 100000 in
theorem opn_rowR {base : Nat} {α : Type} {en : α → List Value} {k : Nat} {ok : α → Prop} {t e : TypeId} (hu : Tryz.prog.underlying t = some (.slice e)) (hc : Tryz.prog.cellsOf e = k) (hk : ∀ x, (en x).length = k) (hk0 : 0 < k)
    (elem : ∀ {b : Nat} {sp : Nat → Bool} {hd : Bool} {n : Nat} {cs : List Value} {x : DataW H × List MemPlace}, DataW.trod enc Tryz.prog W b sp hd n e cs = some x → ∃ f : α, cs = en f ∧ ok f)
    (hval : Value.okWide Tryz.prog W .any base t v) (h : DataW.Trod enc Tryz.prog W 0 (fun _ => true) true t v d ps) :
    ∃ A n c fs, v = .slice A n c ∧ RdR en k W W.heap.size A n fs ∧ n ≤ c ∧ c ≤ maxLen ∧ ∀ f ∈ fs, ok f := by
  obtain ⟨a0, len, cap, rfl⟩ := okWide_slice hu hval
  obtain ⟨fuel, hf⟩ := h
  rcases DataW.trod_slice hu hf with ⟨hcs, _⟩ | ⟨a, len', cap', elems, rest, m, _, hcs, _, _, hl, hm, hlen, hel, _, _⟩
  · simp [Value.cells] at hcs
    obtain ⟨rfl, rfl, rfl⟩ := hcs
    exact ⟨none, 0, 0, [], rfl, ⟨rfl, fun h => absurd h (by omega)⟩, Nat.le_refl _, Nat.zero_le _, by simp⟩
  · simp [Value.cells] at hcs
    obtain ⟨rfl, rfl, rfl⟩ := hcs
    rw [hc] at hel
    have each : ∀ i, i < len → ∃ f : α, ok f ∧ ∀ j, j < k → W.cell? ((a.add (i * k)).add j) = (en f)[j]? := by
      intro i hi
      have h1 := hel i hi
      rw [List.getElem?_eq_getElem (by omega), Option.bind_eq_some_iff] at h1
      obtain ⟨cs, h2, h3⟩ := h1
      obtain ⟨f, rfl, hok⟩ := elem h3
      exact ⟨f, hok, (World.cells?_some h2).2.2⟩
    have hall : ∃ fs : List α, fs.length = len ∧ ∀ i (hi : i < fs.length), ok fs[i] ∧ ∀ j, j < k → W.cell? ((a.add (i * k)).add j) = (en fs[i])[j]? := by
      have : ∀ q, q ≤ len → ∃ fs : List α, fs.length = q ∧ ∀ i (hi : i < fs.length), ok fs[i] ∧ ∀ j, j < k → W.cell? ((a.add (i * k)).add j) = (en fs[i])[j]? := by
        intro q
        induction q with
        | zero => exact fun _ => ⟨[], rfl, fun i hi => absurd hi (by simp)⟩
        | succ q ih =>
          intro hq
          obtain ⟨fs, h1, h2⟩ := ih (by omega)
          obtain ⟨f, h3, h4⟩ := each q (by omega)
          refine ⟨fs ++ [f], by simp [h1], fun i hi => ?_⟩
          by_cases hik : i < fs.length
          · rw [List.getElem_append_left hik]
            exact h2 i hik
          · have : i = q := by simp at hi; omega
            subst this
            rw [List.getElem_append_right (by omega)]
            simpa [h1] using ⟨h3, h4⟩
      exact this len (Nat.le_refl _)
    obtain ⟨fs, h1, h2⟩ := hall
    refine ⟨some a, len, cap, fs, rfl, ⟨h1, fun hn => ?_⟩, hl, hm, fun f hf => ?_⟩
    · obtain ⟨b, off, spot⟩ := a
      have hf0 : 0 < fs.length := by omega
      have h0 := (h2 0 hf0).2 0 hk0
      obtain ⟨u, hu0⟩ : ∃ u, (en (fs[0]'hf0))[0]? = some u := ⟨_, List.getElem?_eq_getElem (by rw [hk]; exact hk0)⟩
      have h00 : W.cell? ⟨b, off, spot⟩ = some u := by
        have e : (((⟨b, off, spot⟩ : Addr).add (0 * k)).add 0) = ⟨b, off, spot⟩ := by simp [Addr.add]
        rw [e, hu0] at h0
        exact h0
      have hspot : spot = none := World.cell?_spot h00
      subst hspot
      refine ⟨b, off, rfl, World.block_lt_of_cell? W ⟨b, off, none⟩ h00, fun j hj i v hv => ?_⟩
      have hik : i < k := by
        have := (List.getElem?_eq_some_iff.1 hv).1
        rwa [hk] at this
      have h3 := (h2 j hj).2 i hik
      rw [hv] at h3
      simpa [Addr.add_mid] using h3
    · obtain ⟨i, hi, rfl⟩ := List.getElem_of_mem hf
      exact (h2 i hi).1
end
end Go.Proofs.YtddfgalofngoiaaGreatDoor
