/- How a law's row of fields is opened. No condition. -/
import Derived.Test.YtdblgjecbmebjaaOpen
import Derived.Test.YtdblgjecbmebjaaFields
namespace Go.Proofs.Ytdblgjecbmebjaa
open Go.RowKit Go.ChangeShapes Go.WideShapes Go.ChangeAt
section
variable {H : Type} {enc : TypeId × Value → H} {W : World} {base : Nat} {v : Value} {d : DataW H} {ps : List MemPlace}
def FdOk (f : Fd) : Prop := -9223372036854775808 ≤ f.kind ∧ f.kind ≤ 9223372036854775807 ∧ -9223372036854775808 ≤ f.most ∧ f.most ≤ 9223372036854775807 ∧ -9223372036854775808 ≤ f.more ∧ f.more ≤ 9223372036854775807 ∧ f.n < 18446744073709551616 ∧ f.s.length ≤ maxLen
theorem FdOk.ok {f : Fd} (h : FdOk f) : Fok f := ⟨h.2.2.2.2.2.2.1, by have := h.2.2.2.2.2.2.2; simp only [maxLen] at this; omega⟩
theorem opn_field {base : Nat} {sp : Nat → Bool} {hd : Bool} {n : Nat} {cs : List Value} {x : DataW H × List MemPlace} (h : DataW.trod enc Try.prog W base sp hd n 32 cs = some x) : ∃ f : Fd, cs = f.cells ∧ FdOk f := by
  obtain ⟨xs, m, _, _, hl, hlen, hf⟩ := DataW.trod_struct Try.underlying32 h
  have hc : Try.prog.cellsOf 32 = 5 := by kernel_rfl
  rw [hc] at hl
  have c3 : Try.prog.cellsOf 3 = 1 := by kernel_rfl
  have c30 : Try.prog.cellsOf 30 = 1 := by kernel_rfl
  have c9 : Try.prog.cellsOf 9 = 1 := by kernel_rfl
  have hx : xs.length = 5 := hlen
  match cs, hl with
  | [v0, v1, v2, v3, v4], _ =>
    have g0 : DataW.trod enc Try.prog W base sp hd m 3 (([v0, v1, v2, v3, v4].drop 0).take (Try.prog.cellsOf 3)) = xs[0]? := hf 0 _ rfl
    have g1 : DataW.trod enc Try.prog W base sp hd m 3 (([v0, v1, v2, v3, v4].drop 1).take (Try.prog.cellsOf 3)) = xs[1]? := hf 1 _ rfl
    have g2 : DataW.trod enc Try.prog W base sp hd m 3 (([v0, v1, v2, v3, v4].drop 2).take (Try.prog.cellsOf 3)) = xs[2]? := hf 2 _ rfl
    have g3 : DataW.trod enc Try.prog W base sp hd m 30 (([v0, v1, v2, v3, v4].drop 3).take (Try.prog.cellsOf 30)) = xs[3]? := hf 3 _ rfl
    have g4 : DataW.trod enc Try.prog W base sp hd m 9 (([v0, v1, v2, v3, v4].drop 4).take (Try.prog.cellsOf 9)) = xs[4]? := hf 4 _ rfl
    rw [List.getElem?_eq_getElem (by omega)] at g0 g1 g2 g3 g4
    simp only [c3, c30, c9, List.drop_zero, List.drop_succ_cons, List.take_succ_cons, List.take_zero] at g0 g1 g2 g3 g4
    obtain ⟨a0, e0, _, w0⟩ := DataW.trod_int Try.underlying3 g0
    obtain ⟨a1, e1, _, w1⟩ := DataW.trod_int Try.underlying3 g1
    obtain ⟨a2, e2, _, w2⟩ := DataW.trod_int Try.underlying3 g2
    obtain ⟨a3, e3, _, w3⟩ := DataW.trod_int Try.underlying30 g3
    obtain ⟨s, e4, _, w4⟩ := DataW.trod_string Try.underlying9 g4
    have b0 := bounds_i64 w0
    have b1 := bounds_i64 w1
    have b2 := bounds_i64 w2
    have b3 := bounds_u64 w3
    injection e0 with e0 _
    injection e1 with e1 _
    injection e2 with e2 _
    injection e3 with e3 _
    injection e4 with e4 _
    subst e0 e1 e2 e3 e4
    refine ⟨⟨a0, a1, a2, a3.toNat, s.data.toList⟩, ?_, b0.1, b0.2, b1.1, b1.2, b2.1, b2.2, ?_, ?_⟩
    · simp only [Fd.cells, strB_data, Int.toNat_of_nonneg b3.1]
    · simp only; omega
    · simp only [Array.length_toList]; exact w4
theorem opn_fields (hval : Value.okWide Try.prog W .any base 22 v) (h : DataW.Trod enc Try.prog W 0 (fun _ => true) true 22 v d ps) :
    ∃ A n c fs, v = .slice A n c ∧ RdF W W.heap.size A n fs ∧ n ≤ c ∧ c ≤ maxLen ∧ ∀ f ∈ fs, FdOk f := by
  obtain ⟨a0, len, cap, rfl⟩ := okWide_slice Try.underlying22 hval
  obtain ⟨fuel, hf⟩ := h
  rcases DataW.trod_slice Try.underlying22 hf with ⟨hcs, _⟩ | ⟨a, len', cap', elems, rest, m, _, hcs, _, _, hl, hm, hlen, hel, _, _⟩
  · simp [Value.cells] at hcs
    obtain ⟨rfl, rfl, rfl⟩ := hcs
    exact ⟨none, 0, 0, [], rfl, ⟨rfl, fun h => absurd h (by omega)⟩, Nat.le_refl _, Nat.zero_le _, by simp⟩
  · simp [Value.cells] at hcs
    obtain ⟨rfl, rfl, rfl⟩ := hcs
    have hc : Try.prog.cellsOf 32 = 5 := by kernel_rfl
    rw [hc] at hel
    have each : ∀ i, i < len → ∃ f : Fd, FdOk f ∧ ∀ j, j < 5 → W.cell? ((a.add (i * 5)).add j) = f.cells[j]? := by
      intro i hi
      have h1 := hel i hi
      rw [List.getElem?_eq_getElem (by omega), Option.bind_eq_some_iff] at h1
      obtain ⟨cs, h2, h3⟩ := h1
      obtain ⟨f, rfl, hok⟩ := opn_field h3
      exact ⟨f, hok, (World.cells?_some h2).2.2⟩
    have hall : ∃ fs : List Fd, fs.length = len ∧ ∀ i (hi : i < fs.length), FdOk fs[i] ∧ ∀ j, j < 5 → W.cell? ((a.add (i * 5)).add j) = fs[i].cells[j]? := by
      have : ∀ k, k ≤ len → ∃ fs : List Fd, fs.length = k ∧ ∀ i (hi : i < fs.length), FdOk fs[i] ∧ ∀ j, j < 5 → W.cell? ((a.add (i * 5)).add j) = fs[i].cells[j]? := by
        intro k
        induction k with
        | zero => exact fun _ => ⟨[], rfl, fun i hi => absurd hi (by simp)⟩
        | succ k ih =>
          intro hk
          obtain ⟨fs, h1, h2⟩ := ih (by omega)
          obtain ⟨f, h3, h4⟩ := each k (by omega)
          refine ⟨fs ++ [f], by simp [h1], fun i hi => ?_⟩
          by_cases hik : i < fs.length
          · rw [List.getElem_append_left hik]
            exact h2 i hik
          · have : i = k := by simp at hi; omega
            subst this
            rw [List.getElem_append_right (by omega)]
            simpa [h1] using ⟨h3, h4⟩
      exact this len (Nat.le_refl _)
    obtain ⟨fs, h1, h2⟩ := hall
    refine ⟨some a, len, cap, fs, rfl, ⟨h1, fun hn => ?_⟩, hl, hm, fun f hf => ?_⟩
    · obtain ⟨b, off, spot⟩ := a
      have h0 := (h2 0 (by omega)).2 0 (by omega)
      have h00 : W.cell? ⟨b, off, spot⟩ = some (.int .i64 (fs[0].kind)) := by
        have e : (((⟨b, off, spot⟩ : Addr).add (0 * 5)).add 0) = ⟨b, off, spot⟩ := by simp [Addr.add]
        rw [e] at h0
        exact h0
      have hspot : spot = none := World.cell?_spot h00
      subst hspot
      refine ⟨b, off, rfl, World.block_lt_of_cell? W ⟨b, off, none⟩ h00, fun j hj i v hv => ?_⟩
      have hi5 : i < 5 := by
        have := (List.getElem?_eq_some_iff.1 hv).1
        simpa [Fd.cells] using this
      have h3 := (h2 j hj).2 i hi5
      rw [hv] at h3
      simpa [Addr.add_mid] using h3
    · obtain ⟨i, hi, rfl⟩ := List.getElem_of_mem hf
      exact (h2 i hi).1
end
end Go.Proofs.Ytdblgjecbmebjaa
