/- How a law's net, and its row of nets, is opened. No condition. -/
import Derived.Test.YtddfgalofngoiaaGreatDoorOpenR
import Derived.Test.YtddfgalofngoiaaGreatDoorNetRow
namespace Go.Proofs.YtddfgalofngoiaaGreatDoor
open Go.RowKit Go.ChangeShapes Go.WideShapes Go.ChangeAt
section
variable {H : Type} {enc : TypeId × Value → H} {W : World} {base : Nat} {v : Value} {d : DataW H} {ps : List MemPlace}
set_option maxRecDepth 100000 in
theorem opn_nt {base : Nat} {sp : Nat → Bool} {hd : Bool} {n : Nat} {cs : List Value} {x : DataW H × List MemPlace} (h : DataW.trod enc Tryz.prog W base sp hd n 29 cs = some x) : ∃ c : Nt, cs = ntC c ∧ okN c := by
  obtain ⟨xs, m, _, _, hl, hlen, hf⟩ := DataW.trod_struct Tryz.underlying29 h
  have hc : Tryz.prog.cellsOf 29 = 2 := by kernel_rfl
  rw [hc] at hl
  have c9 : Tryz.prog.cellsOf 27 = 1 := by kernel_rfl
  have c8 : Tryz.prog.cellsOf 3 = 1 := by kernel_rfl
  have hx : xs.length = 2 := hlen
  match cs, hl with
  | [v0, v1], _ =>
    have g0 : DataW.trod enc Tryz.prog W base sp hd m 27 (([v0, v1].drop 0).take (Tryz.prog.cellsOf 27)) = xs[0]? := hf 0 _ rfl
    have g1 : DataW.trod enc Tryz.prog W base sp hd m 3 (([v0, v1].drop 1).take (Tryz.prog.cellsOf 3)) = xs[1]? := hf 1 _ rfl
    rw [List.getElem?_eq_getElem (by omega)] at g0 g1
    simp only [c8, c9, List.drop_zero, List.drop_succ_cons, List.take_succ_cons, List.take_zero] at g0 g1
    obtain ⟨s0, e0, _, w0⟩ := DataW.trod_int Tryz.underlying27 g0
    obtain ⟨s1, e1, _, w1⟩ := DataW.trod_int Tryz.underlying3 g1
    injection e0 with e0 _
    injection e1 with e1 _
    have b0 := bounds_u32 w0
    have b1 := bounds_i64 w1
    refine ⟨(s0.toNat, s1), ?_, by show s0.toNat < _; omega, b1⟩
    unfold ntC
    rw [e0, e1]
    simp only
    rw [Int.toNat_of_nonneg b0.1]
set_option maxRecDepth 100000 in
theorem opn_cidr (hval : Value.okWide Tryz.prog W .any base 29 v) (h : DataW.Trod enc Tryz.prog W 0 (fun _ => true) true 29 v d ps) :
    ∃ (a : Nat) (b : Int), v = ntV a b ∧ okN (a, b) := by
  obtain ⟨cs, rfl, hsz⟩ := okWide_struct Tryz.underlying29 hval
  obtain ⟨fuel, hf⟩ := h
  obtain ⟨c, e, h1⟩ := opn_nt hf
  refine ⟨c.1, c.2, ?_, h1⟩
  unfold ntV
  congr 1
  apply Array.toList_inj.1
  simpa [Value.cells, ntC] using e
set_option maxRecDepth 100000 in
theorem opn_nets (hval : Value.okWide Tryz.prog W .any base 22 v) (h : DataW.Trod enc Tryz.prog W 0 (fun _ => true) true 22 v d ps) :
    ∃ A n c, ∃ fs : List Nt, v = .slice A n c ∧ RdR ntC 2 W W.heap.size A n fs ∧ n ≤ c ∧ c ≤ maxLen ∧ ∀ f ∈ fs, okN f := by
  refine opn_rowR (en := ntC) (k := 2) (ok := okN) Tryz.underlying22 (by kernel_rfl) (fun _ => rfl) (by omega) ?_ hval h
  intro b sp hd n cs x hx
  exact opn_nt hx
end
end Go.Proofs.YtddfgalofngoiaaGreatDoor
