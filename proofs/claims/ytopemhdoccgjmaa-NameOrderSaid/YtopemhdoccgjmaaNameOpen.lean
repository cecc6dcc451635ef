/- How a law's name is opened. No condition. -/
import Derived.Test.YtopemhdoccgjmaaOpen
import Derived.Test.YtopemhdoccgjmaaName
namespace Go.Proofs.Ytopemhdoccgjmaa
open Go.RowKit Go.ChangeShapes Go.WideShapes Go.ChangeAt
section
variable {H : Type} {enc : TypeId × Value → H} {W : World} {base : Nat} {v : Value} {d : DataW H} {ps : List MemPlace}
theorem opn_nm {base : Nat} {sp : Nat → Bool} {hd : Bool} {n : Nat} {cs : List Value} {x : DataW H × List MemPlace} (h : DataW.trod enc Try.prog W base sp hd n 24 cs = some x) : ∃ ns sa : List UInt8, cs = [.string (strB ns), .string (strB sa)] ∧ ns.length ≤ maxLen ∧ sa.length ≤ maxLen := by
  obtain ⟨xs, m, _, _, hl, hlen, hf⟩ := DataW.trod_struct Try.underlying24 h
  have hc : Try.prog.cellsOf 24 = 2 := by kernel_rfl
  rw [hc] at hl
  have c9 : Try.prog.cellsOf 9 = 1 := by kernel_rfl
  have hx : xs.length = 2 := hlen
  match cs, hl with
  | [v0, v1], _ =>
    have g0 : DataW.trod enc Try.prog W base sp hd m 9 (([v0, v1].drop 0).take (Try.prog.cellsOf 9)) = xs[0]? := hf 0 _ rfl
    have g1 : DataW.trod enc Try.prog W base sp hd m 9 (([v0, v1].drop 1).take (Try.prog.cellsOf 9)) = xs[1]? := hf 1 _ rfl
    rw [List.getElem?_eq_getElem (by omega)] at g0 g1
    simp only [c9, List.drop_zero, List.drop_succ_cons, List.take_succ_cons, List.take_zero] at g0 g1
    obtain ⟨s0, e0, _, w0⟩ := DataW.trod_string Try.underlying9 g0
    obtain ⟨s1, e1, _, w1⟩ := DataW.trod_string Try.underlying9 g1
    injection e0 with e0 _
    injection e1 with e1 _
    refine ⟨s0.data.toList, s1.data.toList, by rw [strB_data, strB_data, e0, e1], ?_, ?_⟩
    · simp only [Array.length_toList]; exact w0
    · simp only [Array.length_toList]; exact w1
theorem opn_name (hval : Value.okWide Try.prog W .any base 24 v) (h : DataW.Trod enc Try.prog W 0 (fun _ => true) true 24 v d ps) :
    ∃ ns sa : List UInt8, v = nmV ns sa ∧ ns.length ≤ maxLen ∧ sa.length ≤ maxLen := by
  obtain ⟨cs, rfl, hsz⟩ := okWide_struct Try.underlying24 hval
  obtain ⟨fuel, hf⟩ := h
  obtain ⟨ns, sa, e, h1, h2⟩ := opn_nm hf
  refine ⟨ns, sa, ?_, h1, h2⟩
  unfold nmV
  congr 1
  apply Array.toList_inj.1
  simpa [Value.cells] using e
end
end Go.Proofs.Ytopemhdoccgjmaa
