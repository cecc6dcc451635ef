/- How a law's row of words, and a Sha, are opened. No condition. -/
import Derived.Test.YthjaomkjjlgjeaaOpen
import Derived.Test.YthjaomkjjlgjeaaShaWrite
namespace Go.Proofs.Ythjaomkjjlgjeaa
open Go.RowKit Go.ChangeShapes Go.WideShapes Go.ChangeAt
section
variable {H : Type} {enc : TypeId × Value → H} {P : Program} {W : World} {base t : Nat} {v : Value} {d : DataW H} {ps : List MemPlace}
theorem words_of {sp : Nat → Bool} {hd : Bool} {fuel n e : Nat} {cs : List Value} {x : DataW H × List MemPlace} (ht : P.underlying t = some (.array n e)) (he : P.underlying e = some (.int .u32)) (hc : P.cellsOf e = 1) (hn : P.cellsOf t = n)
    (h : DataW.trod enc P W base sp hd fuel t cs = some x) : ∃ l : List UInt32, cs = uvs l ∧ l.length = n := by
  obtain ⟨xs, m, _, _, hlen, hxs, hx⟩ := DataW.trod_array ht h
  rw [hn] at hlen
  have hcell : ∀ i (hi : i < n), ∃ b : UInt32, cs[i]? = some (uv b) := by
    intro i hi
    have h1 := hx i hi
    rw [hc, Nat.mul_one, List.getElem?_eq_getElem (by omega)] at h1
    obtain ⟨z, hz, _, hw⟩ := DataW.trod_int he h1
    have hb := bounds_u32 hw
    refine ⟨UInt32.ofNat z.toNat, ?_⟩
    have h2 := congrArg (·[0]?) hz
    simp only [List.getElem?_cons_zero] at h2
    rw [List.getElem?_take_of_lt (by omega), List.getElem?_drop, Nat.add_zero] at h2
    rw [h2, uv]
    simp; omega
  refine ⟨cs.map fun v => match v with | .int _ z => UInt32.ofNat z.toNat | _ => 0, ?_, by simpa using hlen⟩
  apply List.ext_getElem?
  intro i
  by_cases hi : i < n
  · obtain ⟨b, hb⟩ := hcell i hi
    simp only [uvs, List.map_map, List.getElem?_map, hb, Option.map_some, Function.comp, uv]
    simp
  · simp [uvs, List.getElem?_eq_none (show cs.length ≤ i by omega)]
theorem opn_words {n e : Nat} (ht : P.underlying t = some (.array n e)) (he : P.underlying e = some (.int .u32)) (hc : P.cellsOf e = 1) (hn : P.cellsOf t = n) (hval : Value.okWide P W .any base t v) (h : DataW.Trod enc P W 0 (fun _ => true) true t v d ps) :
    ∃ l : List UInt32, v = .agg (uvs l).toArray ∧ l.length = n := by
  obtain ⟨cs, rfl, hs⟩ := okWide_arr ht hval
  obtain ⟨fuel, hf⟩ := h
  obtain ⟨l, h1, h2⟩ := words_of ht he hc hn hf
  refine ⟨l, ?_, h2⟩
  congr 1
  apply Array.toList_inj.1
  simpa [Value.cells] using h1
theorem bytes_cell {e : TypeId} (T : ByteTy P t e) (hc : P.cellsOf e = 1) {fuel : Nat} {cs : List Value} {x : DataW H × List MemPlace} (h : DataW.trod enc P W base (fun _ => true) true fuel t cs = some x) :
    ∃ A n c l, cs = [.slice A n c] ∧ RdB W W.heap.size A n l ∧ n ≤ c ∧ c ≤ maxLen := by
  rcases open_ints T.sl T.el hc h with ⟨hcs, _⟩ | ⟨x, l, c, zs, hcs, _, hl, hm, hz, _, hcell, hwz⟩
  · exact ⟨none, 0, 0, [], hcs, RdB.nil, Nat.le_refl _, Nat.zero_le _⟩
  · obtain ⟨bs, rfl⟩ := bytes_of zs hwz
    simp at hz
    refine ⟨_, _, _, bs.take l, hcs, ⟨by simp; omega, fun hn => ?_⟩, hl, hm⟩
    obtain ⟨b, off, spot⟩ := x
    have h0 := hcell 0 (by simp; omega)
    have hspot : spot = none := by simpa [Addr.add] using World.cell?_spot h0
    subst hspot
    refine ⟨b, off, rfl, World.block_lt_of_cell? W ⟨b, off, none⟩ (u := .int .u8 ((bs.map fun b => (b.toNat : Int)).getD 0 0)) (by simpa [Addr.add] using h0), fun j hj => ?_⟩
    have hj1 : j < l := by simp at hj; omega
    have hj2 : j < bs.length := by simp at hj; omega
    have h1 := hcell j (by simpa using hj2)
    rw [show (⟨b, off, none⟩ : Addr).add j = ⟨b, off + j, none⟩ from by unfold Addr.add; split <;> simp_all] at h1
    rw [h1]
    simp [bv, hj2]
theorem opn_sha (hval : Value.okWide Try.prog W .any base 43 v) (h : DataW.Trod enc Try.prog W 0 (fun _ => true) true 43 v d ps) :
    ∃ hs A n c l N, v = .agg (shaC hs A n c N).toArray ∧ hs.length = 8 ∧ RdB W W.heap.size A n l ∧ n ≤ c ∧ c ≤ maxLen ∧ N < 18446744073709551616 := by
  obtain ⟨cs, rfl, hsz⟩ := okWide_struct Try.underlying43 hval
  obtain ⟨fuel, hf⟩ := h
  obtain ⟨xs, m, _, _, hl, hlen, hff⟩ := DataW.trod_struct Try.underlying43 hf
  have hc : Try.prog.cellsOf 43 = 10 := by kernel_rfl
  rw [hc] at hl
  have c8 : Try.prog.cellsOf 41 = 8 := by kernel_rfl
  have c1 : Try.prog.cellsOf 23 = 1 := by kernel_rfl
  have c2 : Try.prog.cellsOf 22 = 1 := by kernel_rfl
  have hx : xs.length = 3 := hlen
  simp only [Value.cells] at hl hff
  have g0 : DataW.trod enc Try.prog W 0 (fun _ => true) true m 41 ((cs.toList.drop 0).take (Try.prog.cellsOf 41)) = xs[0]? := hff 0 _ rfl
  have g1 : DataW.trod enc Try.prog W 0 (fun _ => true) true m 23 ((cs.toList.drop 8).take (Try.prog.cellsOf 23)) = xs[1]? := hff 1 _ rfl
  have g2 : DataW.trod enc Try.prog W 0 (fun _ => true) true m 22 ((cs.toList.drop 9).take (Try.prog.cellsOf 22)) = xs[2]? := hff 2 _ rfl
  rw [List.getElem?_eq_getElem (by omega)] at g0 g1 g2
  rw [c8] at g0
  rw [c1] at g1
  rw [c2] at g2
  obtain ⟨hs, e0, h8⟩ := words_of Try.underlying41 Try.underlying40 (by kernel_rfl) (by kernel_rfl) g0
  obtain ⟨A, n, c, l, e1, r, hnc, hcm⟩ := bytes_cell ⟨Try.underlying23, Try.underlying5, by kernel_rfl⟩ (by kernel_rfl) g1
  obtain ⟨z, e2, _, hw⟩ := DataW.trod_int Try.underlying22 g2
  have hb := bounds_u64 hw
  refine ⟨hs, A, n, c, l, z.toNat, ?_, h8, r, hnc, hcm, by omega⟩
  congr 1
  apply Array.toList_inj.1
  have e : cs.toList = (cs.toList.drop 0).take 8 ++ ((cs.toList.drop 8).take 1 ++ (cs.toList.drop 9).take 1) := by
    rw [List.drop_zero]
    conv => lhs; rw [← List.take_append_drop 8 cs.toList]
    congr 1
    rw [show (cs.toList.drop 9) = (cs.toList.drop 8).drop 1 from by rw [List.drop_drop]]
    have h2 : (cs.toList.drop 8).length = 2 := by rw [List.length_drop]; omega
    rw [List.take_of_length_le (l := (cs.toList.drop 8).drop 1) (by rw [List.length_drop]; omega), List.take_append_drop]
  rw [e, e0, e1, e2]
  simp [shaC, Int.toNat_of_nonneg hb.1]
end
end Go.Proofs.Ythjaomkjjlgjeaa
