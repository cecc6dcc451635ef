/- How the arguments of a law are opened: an unsigned number as a natural number, bytes as a list, a text as a list. No condition. How a law's rule, its policy, is opened: rows of rows. No condition. -/
import Derived.Test.YtpcdmbajfmnoiaaGreatDoorBase
import Derived.ProofKit
import Derived.OpenShut
import Derived.ShutString
import Derived.ChangeOld
import Derived.Test.YtpcdmbajfmnoiaaGreatDoorPolLongR
namespace Go.Proofs.YtpcdmbajfmnoiaaGreatDoor
open Go.RowKit Go.ChangeShapes Go.WideShapes Go.ChangeAt
open Go.ChangeMaps (open_string shut_string)

section
variable {H : Type} {enc : TypeId × Value → H} {P : Program} {W : World} {base t : Nat} {v : Value} {d : DataW H} {ps : List MemPlace}
end
end Go.Proofs.YtpcdmbajfmnoiaaGreatDoor
namespace Go.Proofs.YtpcdmbajfmnoiaaGreatDoor
open Go.RowKit Go.ChangeShapes Go.WideShapes Go.ChangeAt
set_option linter.unusedVariables false
def oqSr (s : Sr) : Prop := mxSr s ∧ ∀ c ∈ s.nets, okN c
def oqTg (t : Tg) : Prop := mxTg t ∧ ∀ x ∈ t.ports, -9223372036854775808 ≤ x ∧ x ≤ 9223372036854775807
def oqRu (r : Ru) : Prop := (r.froms.length ≤ 9223372036854775807 ∧ ∀ s ∈ r.froms, oqSr s) ∧ (r.tos.length ≤ 9223372036854775807 ∧ ∀ t ∈ r.tos, oqTg t) ∧ (r.whens.length ≤ 9223372036854775807 ∧ ∀ x ∈ r.whens, mxWn x)
def oqPo (p : Po) : Prop := p.id < 18446744073709551616 ∧ mxS p.ns ∧ p.service < 18446744073709551616 ∧ (-9223372036854775808 ≤ p.deny ∧ p.deny ≤ 9223372036854775807) ∧ (p.rules.length ≤ 9223372036854775807 ∧ ∀ r ∈ p.rules, oqRu r)
theorem oqRu.mx {r : Ru} (h : oqRu r) : mxRu r := ⟨⟨h.1.1, fun s hs => (h.1.2 s hs).1⟩, ⟨h.2.1.1, fun s hs => (h.2.1.2 s hs).1⟩, h.2.2⟩
theorem any_no {α : Type} {f : α → Bool} {L : List α} (h : L.any f = false) : ∀ x ∈ L, f x = false := by
 intro x hx
 rcases hf : f x with _ | _
 ·rfl
 ·rw [← Bool.not_eq_true, List.any_eq_true] at h
  exact absurd ⟨x, hx, hf⟩ h
theorem ts_short {L : List Tm} (h : tsLong L = false) : okTs L := by
 unfold tsLong at h
 rw [Bool.or_eq_false_iff, decide_eq_false_iff_not] at h
 refine ⟨by omega, fun t ht => ?_⟩
 have := any_no h.2 t ht
 unfold tmLong at this
 rw [decide_eq_false_iff_not] at this
 show t.2.length ≤ 1000000
 omega
theorem rows_short {R : List (List Tm)} (h : R.any tsLong = false) : ∀ L ∈ R, okTs L := fun L hL => ts_short (any_no h L hL)
theorem oqRu.ok {r : Ru} (h : oqRu r) (hl : ruLong r = false) : okRu r := by
 unfold ruLong at hl
 simp only [Bool.or_eq_false_iff, decide_eq_false_iff_not] at hl
 obtain ⟨⟨l1, l2, l3⟩, a1, a2, a3⟩ := hl
 refine ⟨⟨by omega, fun s hs => ?_⟩, ⟨by omega, fun t ht => ?_⟩, ⟨by omega, fun x hx => ?_⟩⟩
 ·have := any_no a1 s hs
  unfold srLong at this
  rw [Bool.or_eq_false_iff, decide_eq_false_iff_not] at this
  have hr := rows_short this.1
  exact ⟨hr _ (by simp), hr _ (by simp), by omega, (h.1.2 s hs).2⟩
 ·have := any_no a2 t ht
  unfold tgLong at this
  rw [Bool.or_eq_false_iff, decide_eq_false_iff_not] at this
  have hr := rows_short this.1
  exact ⟨⟨by omega, (h.2.1.2 t ht).2⟩, hr _ (by simp), hr _ (by simp), hr _ (by simp)⟩
 ·have := any_no a3 x hx
  unfold wnLong at this
  rw [Bool.or_eq_false_iff, decide_eq_false_iff_not] at this
  have hr := rows_short this.1
  exact ⟨by show x.head.length ≤ 1000000; omega, hr _ (by simp)⟩
section
variable {H : Type} {enc : TypeId × Value → H} {W : World}
set_option maxRecDepth 100000 in
/-- A row of elements that hold rows, in a struct. -/
theorem trd_rowG {α : Type} {k : Nat} {Pr : World → Nat → List Value → α → Prop} {ok : α → Prop} {t e : TypeId} (hu : Tryz.prog.underlying t = some (.slice e)) (hc : Tryz.prog.cellsOf e = k) (hk0 : 0 < k)
  (elem : ∀ {b : Nat} {sp : Nat → Bool} {hd : Bool} {n : Nat} {cs : List Value} {x : DataW H × List MemPlace}, DataW.trod enc Tryz.prog W b sp hd n e cs = some x → cs.length = k ∧ ∃ f : α, Pr W W.heap.size cs f ∧ ok f)
  {b : Nat} {sp : Nat → Bool} {hd : Bool} {n : Nat} {cs : List Value} {x : DataW H × List MemPlace} (h : DataW.trod enc Tryz.prog W b sp hd n t cs = some x) :
  ∃ v L, cs = [v] ∧ RvG k Pr W W.heap.size v L ∧ L.length ≤ 9223372036854775807 ∧ ∀ f ∈ L, ok f := by
 rcases DataW.trod_slice hu h with ⟨hcs, _⟩ | ⟨a, len, cap, elems, rest, m, _, hcs, _, _, hl, hm, hlen, hel, _, _⟩
 ·exact ⟨_, [], hcs, ⟨none, 0, 0, rfl, Nat.le_refl _, by simp [maxLen], RdG.nil⟩, by simp, by simp⟩
 ·rw [hc] at hel
  have each : ∀ i, i < len → ∃ cs : List Value, cs.length = k ∧ ∃ f : α, Pr W W.heap.size cs f ∧ ok f ∧ ∀ j, j < k → W.cell? ((a.add (i * k)).add j) = cs[j]? := by
   intro i hi
   have h1 := hel i hi
   rw [List.getElem?_eq_getElem (by omega), Option.bind_eq_some_iff] at h1
   obtain ⟨cs, h2, h3⟩ := h1
   obtain ⟨hck, f, hp, hok⟩ := elem h3
   exact ⟨cs, hck, f, hp, hok, (World.cells?_some h2).2.2⟩
  have hall : ∃ fs : List α, fs.length = len ∧ ∀ i (hi : i < fs.length), ∃ cs : List Value, cs.length = k ∧ Pr W W.heap.size cs fs[i] ∧ ok fs[i] ∧ ∀ j, j < k → W.cell? ((a.add (i * k)).add j) = cs[j]? := by
   have : ∀ q, q ≤ len → ∃ fs : List α, fs.length = q ∧ ∀ i (hi : i < fs.length), ∃ cs : List Value, cs.length = k ∧ Pr W W.heap.size cs fs[i] ∧ ok fs[i] ∧ ∀ j, j < k → W.cell? ((a.add (i * k)).add j) = cs[j]? := by
    intro q
    induction q with
    | zero => exact fun _ => ⟨[], rfl, fun i hi => absurd hi (by simp)⟩
    | succ q ih =>
     intro hq
     obtain ⟨fs, h1, h2⟩ := ih (by omega)
     obtain ⟨cs, hck, f, h3, h4, h5⟩ := each q (by omega)
     refine ⟨fs ++ [f], by simp [h1], fun i hi => ?_⟩
     by_cases hik : i < fs.length
     ·rw [List.getElem_append_left hik]
      exact h2 i hik
     ·have : i = q := by simp at hi; omega
      subst this
      rw [List.getElem_append_right (by omega)]
      simp only [h1, Nat.sub_self, List.getElem_singleton]
      exact ⟨cs, hck, h3, h4, h5⟩
   exact this len (Nat.le_refl _)
  obtain ⟨fs, h1, h2⟩ := hall
  refine ⟨_, fs, hcs, ⟨some a, len, cap, rfl, hl, hm, h1, fun hn => ?_⟩, by simp only [maxLen] at hm; omega, fun f hf => ?_⟩
  ·obtain ⟨b, off, spot⟩ := a
   have hf0 : 0 < fs.length := by omega
   obtain ⟨cs0, hck0, _, _, h0⟩ := h2 0 hf0
   have h0 := h0 0 hk0
   obtain ⟨u, hu0⟩ : ∃ u, cs0[0]? = some u := ⟨_, List.getElem?_eq_getElem (by rw [hck0]; exact hk0)⟩
   have h00 : W.cell? ⟨b, off, spot⟩ = some u := by
    have e : (((⟨b, off, spot⟩ : Addr).add (0 * k)).add 0) = ⟨b, off, spot⟩ := by simp [Addr.add]
    rw [e, hu0] at h0
    exact h0
   have hspot : spot = none := World.cell?_spot h00
   subst hspot
   refine ⟨b, off, rfl, World.block_lt_of_cell? W ⟨b, off, none⟩ h00, fun j hj => ?_⟩
   obtain ⟨cs, hck, hp, _, hcell⟩ := h2 j hj
   refine ⟨cs, hck, hp, fun i v hv => ?_⟩
   have hik : i < k := by
    have := (List.getElem?_eq_some_iff.1 hv).1
    rwa [hck] at this
   have h3 := hcell i hik
   rw [hv] at h3
   simpa [Addr.add_mid] using h3
  ·obtain ⟨i, hi, rfl⟩ := List.getElem_of_mem hf
   obtain ⟨_, _, _, hok, _⟩ := h2 i hi
   exact hok
theorem trd_rowR {α : Type} {en : α → List Value} {k : Nat} {ok : α → Prop} {t e : TypeId} (hu : Tryz.prog.underlying t = some (.slice e)) (hc : Tryz.prog.cellsOf e = k) (hk : ∀ x, (en x).length = k) (hk0 : 0 < k)
  (elem : ∀ {b : Nat} {sp : Nat → Bool} {hd : Bool} {n : Nat} {cs : List Value} {x : DataW H × List MemPlace}, DataW.trod enc Tryz.prog W b sp hd n e cs = some x → ∃ f : α, cs = en f ∧ ok f)
  {b : Nat} {sp : Nat → Bool} {hd : Bool} {n : Nat} {cs : List Value} {x : DataW H × List MemPlace} (h : DataW.trod enc Tryz.prog W b sp hd n t cs = some x) :
  ∃ v L, cs = [v] ∧ RvR en k W W.heap.size v L ∧ L.length ≤ 9223372036854775807 ∧ ∀ f ∈ L, ok f := by
 obtain ⟨v, L, h1, ⟨A, m, c, h2, h3, h4, h5⟩, h6, h7⟩ := trd_rowG (Pr := fun _ _ cs x => cs = en x) hu hc hk0 (fun h => by
  obtain ⟨f, e, ho⟩ := elem h
  exact ⟨by rw [e]; exact hk f, f, e, ho⟩) h
 exact ⟨v, L, h1, ⟨A, m, c, h2, h3, h4, h5.r⟩, h6, h7⟩
/-! ### structs -/
set_option maxRecDepth 100000 in
theorem trd_tm {b : Nat} {sp : Nat → Bool} {hd : Bool} {n : Nat} {cs : List Value} {x : DataW H × List MemPlace} (h : DataW.trod enc Tryz.prog W b sp hd n 42 cs = some x) : ∃ f : Tm, cs = tmC f ∧ mxS f.2 := by
 obtain ⟨xs, m, _, _, hl, hlen, hf⟩ := DataW.trod_struct Tryz.underlying42 h
 have hc : Tryz.prog.cellsOf 42 = 2 := by kernel_rfl
 rw [hc] at hl
 have q0 : Tryz.prog.cellsOf 3 = 1 := by kernel_rfl
 have q1 : Tryz.prog.cellsOf 9 = 1 := by kernel_rfl
 have hx : xs.length = 2 := hlen
 match cs, hl with
 | [v0, v1], _ =>
  have g0 : DataW.trod enc Tryz.prog W b sp hd m 3 (([v0, v1].drop 0).take (Tryz.prog.cellsOf 3)) = xs[0]? := hf 0 _ rfl
  have g1 : DataW.trod enc Tryz.prog W b sp hd m 9 (([v0, v1].drop 1).take (Tryz.prog.cellsOf 9)) = xs[1]? := hf 1 _ rfl
  rw [List.getElem?_eq_getElem (by omega)] at g0 g1
  simp only [q0, q1, List.drop_zero, List.drop_succ_cons, List.take_succ_cons, List.take_zero] at g0 g1
  obtain ⟨s0, e0, _, w0⟩ := DataW.trod_int Tryz.underlying3 g0
  injection e0 with e0 _
  obtain ⟨s1, e1, _, w1⟩ := DataW.trod_string Tryz.underlying9 g1
  injection e1 with e1 _
  refine ⟨(s0, s1.data.toList), by rw [e0, e1]; unfold tmC; simp only [strB_data], ?_⟩
  show s1.data.toList.length ≤ _
  rw [Array.length_toList]
  simp only [maxLen] at w1
  exact w1
set_option maxRecDepth 100000 in
theorem trd_nt {b : Nat} {sp : Nat → Bool} {hd : Bool} {n : Nat} {cs : List Value} {x : DataW H × List MemPlace} (h : DataW.trod enc Tryz.prog W b sp hd n 85 cs = some x) : ∃ c : Nt, cs = ntC c ∧ okN c := by
 obtain ⟨xs, m, _, _, hl, hlen, hf⟩ := DataW.trod_struct Tryz.underlying85 h
 have hc : Tryz.prog.cellsOf 85 = 2 := by kernel_rfl
 rw [hc] at hl
 have q0 : Tryz.prog.cellsOf 83 = 1 := by kernel_rfl
 have q1 : Tryz.prog.cellsOf 3 = 1 := by kernel_rfl
 have hx : xs.length = 2 := hlen
 match cs, hl with
 | [v0, v1], _ =>
  have g0 : DataW.trod enc Tryz.prog W b sp hd m 83 (([v0, v1].drop 0).take (Tryz.prog.cellsOf 83)) = xs[0]? := hf 0 _ rfl
  have g1 : DataW.trod enc Tryz.prog W b sp hd m 3 (([v0, v1].drop 1).take (Tryz.prog.cellsOf 3)) = xs[1]? := hf 1 _ rfl
  rw [List.getElem?_eq_getElem (by omega)] at g0 g1
  simp only [q0, q1, List.drop_zero, List.drop_succ_cons, List.take_succ_cons, List.take_zero] at g0 g1
  obtain ⟨s0, e0, _, w0⟩ := DataW.trod_int Tryz.underlying83 g0
  injection e0 with e0 _
  obtain ⟨s1, e1, _, w1⟩ := DataW.trod_int Tryz.underlying3 g1
  injection e1 with e1 _
  have b0 := bounds_u32 w0
  have b1 := bounds_i64 w1
  refine ⟨(s0.toNat, s1), ?_, by show s0.toNat < _; omega, b1⟩
  unfold ntC
  rw [e0, e1]
  simp only
  rw [Int.toNat_of_nonneg b0.1]
theorem trd_in {b : Nat} {sp : Nat → Bool} {hd : Bool} {n : Nat} {cs : List Value} {x : DataW H × List MemPlace} (h : DataW.trod enc Tryz.prog W b sp hd n 3 cs = some x) : ∃ f : Int, cs = inC f ∧ (-9223372036854775808 ≤ f ∧ f ≤ 9223372036854775807) := by
 obtain ⟨s0, e0, _, w0⟩ := DataW.trod_int Tryz.underlying3 h
 exact ⟨s0, e0, bounds_i64 w0⟩
set_option maxRecDepth 100000 in
theorem trd_tms {b : Nat} {sp : Nat → Bool} {hd : Bool} {n : Nat} {cs : List Value} {x : DataW H × List MemPlace} (h : DataW.trod enc Tryz.prog W b sp hd n 43 cs = some x) : ∃ v L, cs = [v] ∧ RvR tmC 2 W W.heap.size v L ∧ L.length ≤ 9223372036854775807 ∧ ∀ f ∈ L, mxS f.2 := trd_rowR (ok := fun f => mxS f.2) Tryz.underlying43 (by kernel_rfl) tmC_len (by omega) (fun h => trd_tm h) h
set_option maxRecDepth 100000 in
theorem trd_nts {b : Nat} {sp : Nat → Bool} {hd : Bool} {n : Nat} {cs : List Value} {x : DataW H × List MemPlace} (h : DataW.trod enc Tryz.prog W b sp hd n 54 cs = some x) : ∃ v L, cs = [v] ∧ RvR ntC 2 W W.heap.size v L ∧ L.length ≤ 9223372036854775807 ∧ ∀ f ∈ L, okN f := trd_rowR (ok := fun f => okN f) Tryz.underlying54 (by kernel_rfl) ntC_len (by omega) (fun h => trd_nt h) h
set_option maxRecDepth 100000 in
theorem trd_ins {b : Nat} {sp : Nat → Bool} {hd : Bool} {n : Nat} {cs : List Value} {x : DataW H × List MemPlace} (h : DataW.trod enc Tryz.prog W b sp hd n 40 cs = some x) : ∃ v L, cs = [v] ∧ RvR inC 1 W W.heap.size v L ∧ L.length ≤ 9223372036854775807 ∧ ∀ f ∈ L, -9223372036854775808 ≤ f ∧ f ≤ 9223372036854775807 := trd_rowR (ok := fun f => -9223372036854775808 ≤ f ∧ f ≤ 9223372036854775807) Tryz.underlying40 (by kernel_rfl) inC_len (by omega) (fun h => trd_in h) h
set_option maxRecDepth 100000 in
theorem trd_sr {b : Nat} {sp : Nat → Bool} {hd : Bool} {n : Nat} {cs : List Value} {x : DataW H × List MemPlace} (h : DataW.trod enc Tryz.prog W b sp hd n 56 cs = some x) : cs.length = 3 ∧ ∃ s : Sr, SrP W W.heap.size cs s ∧ oqSr s := by
 obtain ⟨xs, m, _, _, hl, hlen, hf⟩ := DataW.trod_struct Tryz.underlying56 h
 have hc : Tryz.prog.cellsOf 56 = 3 := by kernel_rfl
 rw [hc] at hl
 have q0 : Tryz.prog.cellsOf 43 = 1 := by kernel_rfl
 have q1 : Tryz.prog.cellsOf 54 = 1 := by kernel_rfl
 have hx : xs.length = 3 := hlen
 match cs, hl with
 | [v0, v1, v2], _ =>
  have g0 : DataW.trod enc Tryz.prog W b sp hd m 43 (([v0, v1, v2].drop 0).take (Tryz.prog.cellsOf 43)) = xs[0]? := hf 0 _ rfl
  have g1 : DataW.trod enc Tryz.prog W b sp hd m 43 (([v0, v1, v2].drop 1).take (Tryz.prog.cellsOf 43)) = xs[1]? := hf 1 _ rfl
  have g2 : DataW.trod enc Tryz.prog W b sp hd m 54 (([v0, v1, v2].drop 2).take (Tryz.prog.cellsOf 54)) = xs[2]? := hf 2 _ rfl
  rw [List.getElem?_eq_getElem (by omega)] at g0 g1 g2
  simp only [q0, q1, List.drop_zero, List.drop_succ_cons, List.take_succ_cons, List.take_zero] at g0 g1 g2
  obtain ⟨z0, L0, e0, r0, l0, o0⟩ := trd_tms g0
  injection e0 with e0 _
  obtain ⟨z1, L1, e1, r1, l1, o1⟩ := trd_tms g1
  injection e1 with e1 _
  obtain ⟨z2, L2, e2, r2, l2, o2⟩ := trd_nts g2
  injection e2 with e2 _
  subst e0 e1 e2
  exact ⟨rfl, ⟨L0, L1, L2⟩, ⟨_, _, _, rfl, r0, r1, r2⟩, ⟨⟨⟨l0, o0⟩, ⟨l1, o1⟩, l2⟩, o2⟩⟩
set_option maxRecDepth 100000 in
theorem trd_tg {b : Nat} {sp : Nat → Bool} {hd : Bool} {n : Nat} {cs : List Value} {x : DataW H × List MemPlace} (h : DataW.trod enc Tryz.prog W b sp hd n 45 cs = some x) : cs.length = 4 ∧ ∃ s : Tg, TgP W W.heap.size cs s ∧ oqTg s := by
 obtain ⟨xs, m, _, _, hl, hlen, hf⟩ := DataW.trod_struct Tryz.underlying45 h
 have hc : Tryz.prog.cellsOf 45 = 4 := by kernel_rfl
 rw [hc] at hl
 have q0 : Tryz.prog.cellsOf 40 = 1 := by kernel_rfl
 have q1 : Tryz.prog.cellsOf 43 = 1 := by kernel_rfl
 have hx : xs.length = 4 := hlen
 match cs, hl with
 | [v0, v1, v2, v3], _ =>
  have g0 : DataW.trod enc Tryz.prog W b sp hd m 40 (([v0, v1, v2, v3].drop 0).take (Tryz.prog.cellsOf 40)) = xs[0]? := hf 0 _ rfl
  have g1 : DataW.trod enc Tryz.prog W b sp hd m 43 (([v0, v1, v2, v3].drop 1).take (Tryz.prog.cellsOf 43)) = xs[1]? := hf 1 _ rfl
  have g2 : DataW.trod enc Tryz.prog W b sp hd m 43 (([v0, v1, v2, v3].drop 2).take (Tryz.prog.cellsOf 43)) = xs[2]? := hf 2 _ rfl
  have g3 : DataW.trod enc Tryz.prog W b sp hd m 43 (([v0, v1, v2, v3].drop 3).take (Tryz.prog.cellsOf 43)) = xs[3]? := hf 3 _ rfl
  rw [List.getElem?_eq_getElem (by omega)] at g0 g1 g2 g3
  simp only [q0, q1, List.drop_zero, List.drop_succ_cons, List.take_succ_cons, List.take_zero] at g0 g1 g2 g3
  obtain ⟨z0, L0, e0, r0, l0, o0⟩ := trd_ins g0
  injection e0 with e0 _
  obtain ⟨z1, L1, e1, r1, l1, o1⟩ := trd_tms g1
  injection e1 with e1 _
  obtain ⟨z2, L2, e2, r2, l2, o2⟩ := trd_tms g2
  injection e2 with e2 _
  obtain ⟨z3, L3, e3, r3, l3, o3⟩ := trd_tms g3
  injection e3 with e3 _
  subst e0 e1 e2 e3
  exact ⟨rfl, ⟨L0, L1, L2, L3⟩, ⟨_, _, _, _, rfl, r0, r1, r2, r3⟩, ⟨⟨⟨l1, o1⟩, ⟨l2, o2⟩, ⟨l3, o3⟩, l0⟩, o0⟩⟩
set_option maxRecDepth 100000 in
theorem trd_wn {b : Nat} {sp : Nat → Bool} {hd : Bool} {n : Nat} {cs : List Value} {x : DataW H × List MemPlace} (h : DataW.trod enc Tryz.prog W b sp hd n 60 cs = some x) : cs.length = 2 ∧ ∃ s : Wn, WnP W W.heap.size cs s ∧ mxWn s := by
 obtain ⟨xs, m, _, _, hl, hlen, hf⟩ := DataW.trod_struct Tryz.underlying60 h
 have hc : Tryz.prog.cellsOf 60 = 2 := by kernel_rfl
 rw [hc] at hl
 have q0 : Tryz.prog.cellsOf 9 = 1 := by kernel_rfl
 have q1 : Tryz.prog.cellsOf 43 = 1 := by kernel_rfl
 have hx : xs.length = 2 := hlen
 match cs, hl with
 | [v0, v1], _ =>
  have g0 : DataW.trod enc Tryz.prog W b sp hd m 9 (([v0, v1].drop 0).take (Tryz.prog.cellsOf 9)) = xs[0]? := hf 0 _ rfl
  have g1 : DataW.trod enc Tryz.prog W b sp hd m 43 (([v0, v1].drop 1).take (Tryz.prog.cellsOf 43)) = xs[1]? := hf 1 _ rfl
  rw [List.getElem?_eq_getElem (by omega)] at g0 g1
  simp only [q0, q1, List.drop_zero, List.drop_succ_cons, List.take_succ_cons, List.take_zero] at g0 g1
  obtain ⟨s0, e0, _, w0⟩ := DataW.trod_string Tryz.underlying9 g0
  injection e0 with e0 _
  obtain ⟨z1, L1, e1, r1, l1, o1⟩ := trd_tms g1
  injection e1 with e1 _
  subst e1
  refine ⟨rfl, ⟨s0.data.toList, L1⟩, ⟨_, by rw [e0, strB_data], r1⟩, ⟨l1, o1⟩, ?_⟩
  show s0.data.toList.length ≤ _
  rw [Array.length_toList]
  simp only [maxLen] at w0
  exact w0
set_option maxRecDepth 100000 in
theorem trd_srs {b : Nat} {sp : Nat → Bool} {hd : Bool} {n : Nat} {cs : List Value} {x : DataW H × List MemPlace} (h : DataW.trod enc Tryz.prog W b sp hd n 47 cs = some x) : ∃ v L, cs = [v] ∧ RvG 3 SrP W W.heap.size v L ∧ L.length ≤ 9223372036854775807 ∧ ∀ f ∈ L, oqSr f := trd_rowG Tryz.underlying47 (by kernel_rfl) (by omega) (fun h => trd_sr h) h
set_option maxRecDepth 100000 in
theorem trd_tgs {b : Nat} {sp : Nat → Bool} {hd : Bool} {n : Nat} {cs : List Value} {x : DataW H × List MemPlace} (h : DataW.trod enc Tryz.prog W b sp hd n 46 cs = some x) : ∃ v L, cs = [v] ∧ RvG 4 TgP W W.heap.size v L ∧ L.length ≤ 9223372036854775807 ∧ ∀ f ∈ L, oqTg f := trd_rowG Tryz.underlying46 (by kernel_rfl) (by omega) (fun h => trd_tg h) h
set_option maxRecDepth 100000 in
theorem trd_wns {b : Nat} {sp : Nat → Bool} {hd : Bool} {n : Nat} {cs : List Value} {x : DataW H × List MemPlace} (h : DataW.trod enc Tryz.prog W b sp hd n 48 cs = some x) : ∃ v L, cs = [v] ∧ RvG 2 WnP W W.heap.size v L ∧ L.length ≤ 9223372036854775807 ∧ ∀ f ∈ L, mxWn f := trd_rowG Tryz.underlying48 (by kernel_rfl) (by omega) (fun h => trd_wn h) h
set_option maxRecDepth 100000 in
theorem trd_ru {b : Nat} {sp : Nat → Bool} {hd : Bool} {n : Nat} {cs : List Value} {x : DataW H × List MemPlace} (h : DataW.trod enc Tryz.prog W b sp hd n 50 cs = some x) : cs.length = 3 ∧ ∃ s : Ru, RuP W W.heap.size cs s ∧ oqRu s := by
 obtain ⟨xs, m, _, _, hl, hlen, hf⟩ := DataW.trod_struct Tryz.underlying50 h
 have hc : Tryz.prog.cellsOf 50 = 3 := by kernel_rfl
 rw [hc] at hl
 have q0 : Tryz.prog.cellsOf 47 = 1 := by kernel_rfl
 have q1 : Tryz.prog.cellsOf 46 = 1 := by kernel_rfl
 have q2 : Tryz.prog.cellsOf 48 = 1 := by kernel_rfl
 have hx : xs.length = 3 := hlen
 match cs, hl with
 | [v0, v1, v2], _ =>
  have g0 : DataW.trod enc Tryz.prog W b sp hd m 47 (([v0, v1, v2].drop 0).take (Tryz.prog.cellsOf 47)) = xs[0]? := hf 0 _ rfl
  have g1 : DataW.trod enc Tryz.prog W b sp hd m 46 (([v0, v1, v2].drop 1).take (Tryz.prog.cellsOf 46)) = xs[1]? := hf 1 _ rfl
  have g2 : DataW.trod enc Tryz.prog W b sp hd m 48 (([v0, v1, v2].drop 2).take (Tryz.prog.cellsOf 48)) = xs[2]? := hf 2 _ rfl
  rw [List.getElem?_eq_getElem (by omega)] at g0 g1 g2
  simp only [q0, q1, q2, List.drop_zero, List.drop_succ_cons, List.take_succ_cons, List.take_zero] at g0 g1 g2
  obtain ⟨z0, L0, e0, r0, l0, o0⟩ := trd_srs g0
  injection e0 with e0 _
  obtain ⟨z1, L1, e1, r1, l1, o1⟩ := trd_tgs g1
  injection e1 with e1 _
  obtain ⟨z2, L2, e2, r2, l2, o2⟩ := trd_wns g2
  injection e2 with e2 _
  subst e0 e1 e2
  exact ⟨rfl, ⟨L0, L1, L2⟩, ⟨_, _, _, rfl, r0, r1, r2⟩, ⟨l0, o0⟩, ⟨l1, o1⟩, ⟨l2, o2⟩⟩
set_option maxRecDepth 100000 in
theorem trd_rus {b : Nat} {sp : Nat → Bool} {hd : Bool} {n : Nat} {cs : List Value} {x : DataW H × List MemPlace} (h : DataW.trod enc Tryz.prog W b sp hd n 37 cs = some x) : ∃ v L, cs = [v] ∧ RvG 3 RuP W W.heap.size v L ∧ L.length ≤ 9223372036854775807 ∧ ∀ f ∈ L, oqRu f := trd_rowG Tryz.underlying37 (by kernel_rfl) (by omega) (fun h => trd_ru h) h
set_option maxRecDepth 100000 in
theorem trd_po {b : Nat} {sp : Nat → Bool} {hd : Bool} {n : Nat} {cs : List Value} {x : DataW H × List MemPlace} (h : DataW.trod enc Tryz.prog W b sp hd n 39 cs = some x) : cs.length = 5 ∧ ∃ s : Po, PoP W W.heap.size cs s ∧ oqPo s := by
 obtain ⟨xs, m, _, _, hl, hlen, hf⟩ := DataW.trod_struct Tryz.underlying39 h
 have hc : Tryz.prog.cellsOf 39 = 5 := by kernel_rfl
 rw [hc] at hl
 have q0 : Tryz.prog.cellsOf 36 = 1 := by kernel_rfl
 have q1 : Tryz.prog.cellsOf 9 = 1 := by kernel_rfl
 have q2 : Tryz.prog.cellsOf 3 = 1 := by kernel_rfl
 have q3 : Tryz.prog.cellsOf 37 = 1 := by kernel_rfl
 have hx : xs.length = 5 := hlen
 match cs, hl with
 | [v0, v1, v2, v3, v4], _ =>
  have g0 : DataW.trod enc Tryz.prog W b sp hd m 36 (([v0, v1, v2, v3, v4].drop 0).take (Tryz.prog.cellsOf 36)) = xs[0]? := hf 0 _ rfl
  have g1 : DataW.trod enc Tryz.prog W b sp hd m 9 (([v0, v1, v2, v3, v4].drop 1).take (Tryz.prog.cellsOf 9)) = xs[1]? := hf 1 _ rfl
  have g2 : DataW.trod enc Tryz.prog W b sp hd m 36 (([v0, v1, v2, v3, v4].drop 2).take (Tryz.prog.cellsOf 36)) = xs[2]? := hf 2 _ rfl
  have g3 : DataW.trod enc Tryz.prog W b sp hd m 3 (([v0, v1, v2, v3, v4].drop 3).take (Tryz.prog.cellsOf 3)) = xs[3]? := hf 3 _ rfl
  have g4 : DataW.trod enc Tryz.prog W b sp hd m 37 (([v0, v1, v2, v3, v4].drop 4).take (Tryz.prog.cellsOf 37)) = xs[4]? := hf 4 _ rfl
  rw [List.getElem?_eq_getElem (by omega)] at g0 g1 g2 g3 g4
  simp only [q0, q1, q2, q3, List.drop_zero, List.drop_succ_cons, List.take_succ_cons, List.take_zero] at g0 g1 g2 g3 g4
  obtain ⟨s0, e0, _, w0⟩ := DataW.trod_int Tryz.underlying36 g0
  injection e0 with e0 _
  obtain ⟨s1, e1, _, w1⟩ := DataW.trod_string Tryz.underlying9 g1
  injection e1 with e1 _
  obtain ⟨s2, e2, _, w2⟩ := DataW.trod_int Tryz.underlying36 g2
  injection e2 with e2 _
  obtain ⟨s3, e3, _, w3⟩ := DataW.trod_int Tryz.underlying3 g3
  injection e3 with e3 _
  obtain ⟨z4, L4, e4, r4, l4, o4⟩ := trd_rus g4
  injection e4 with e4 _
  subst e4
  have b0 := bounds_u64 w0
  have b2 := bounds_u64 w2
  have b3 := bounds_i64 w3
  refine ⟨rfl, ⟨s0.toNat, s1.data.toList, s2.toNat, s3, L4⟩, ⟨_, ?_, r4⟩, ?_, ?_, ?_, b3, l4, o4⟩
  ·rw [e0, e1, e2, e3, strB_data, Int.toNat_of_nonneg b0.1, Int.toNat_of_nonneg b2.1]
  ·show s0.toNat < _
   omega
  ·show s1.data.toList.length ≤ _
   rw [Array.length_toList]
   simp only [maxLen] at w1
   exact w1
  ·show s2.toNat < _
   omega
end
end Go.Proofs.YtpcdmbajfmnoiaaGreatDoor
