/- Merging, place by place; whether two nets are one, as the model asks it. No condition. -/
import Derived.Test.YtddfgalofngoiaaGreatDoorNetSort
import Derived.Laws.StructEq
namespace Go.Proofs.YtddfgalofngoiaaGreatDoor
open Go.RowKit Go.Sort
set_option linter.unusedVariables false
set_option linter.unusedSimpArgs false
theorem part_cell {P : Program} {e : Nat} {d : TypeDesc} (he : P.underlying e = some d) (hd : d.isRow = false) (xs : Array Value) (i : Nat) (v : Value) (hv : xs[i]? = some v) (w : World) : (part e xs i).run P w = .ok v w := by
  cases d <;> first | (simp [part, isAgg, run_underlying he, hv]; done) | cases hd
theorem host_beq (a b : Int) : (a == b) = decide (a = b) := by
  rw [Bool.eq_iff_iff]; simp
theorem fld_step {P : Program} {w : World} {d : Nat} {xs ys : Array Value} {f : Field} {fs : List Field} (hf : f.name ≠ "_") {a b : Value} {r : Bool} (ha : (part f.type xs f.offset).run P w = .ok a w) (hb : (part f.type ys f.offset).run P w = .ok b w) (hr : (Op.equalIn d f.type a b).run P w = .ok r w) {q : Bool} (hq : (Op.eqFields d xs ys fs).run P w = .ok q w) :
    (Op.eqFields d xs ys (f :: fs)).run P w = .ok (r && q) w := by
  simp only [Op.eqFields, hf, ne_eq, not_false_eq_true, if_true, Sem.run_bind, ha, hb, hr, Result.andThen_ok]
  cases r
  · simp
  · simpa using hq
theorem fld_nil {P : Program} {w : World} {d : Nat} {xs ys : Array Value} : (Op.eqFields d xs ys []).run P w = .ok true w := by simp [Op.eqFields]
theorem eq_int {P : Program} {e : Nat} {k : IntKind} (d : Nat) (he : P.underlying e = some (.int k)) (k' : IntKind) (a b : Int) (w : World) : (Op.equalIn (d + 1) e (.int k' a) (.int k' b)).run P w = .ok (decide (a = b)) w := by
  rw [run_equalIn_int w _ _ _ _ _ _ he, host_beq]
set_option maxRecDepth 100000 in
theorem run_cidr_eq (d : Nat) (a : Int) (b : Int) (a' : Int) (b' : Int) (w : World) : (Op.equalIn (d + 2) 29 (.agg #[.int .u32 a, .int .i64 b]) (.agg #[.int .u32 a', .int .i64 b'])).run Tryz.prog w = .ok (decide (a = a') && decide (b = b')) w := by
  rw [run_equalIn_struct (P := Tryz.prog) w (d + 1) 29 _ _ (by simp only [Program.fieldsOf, Tryz.underlying29]) (by kernel_rfl)]
  simp only [Program.fieldsOf, Tryz.underlying29]
  rw [← Bool.and_true (decide (b = b'))]
  refine fld_step (by decide) (part_cell Tryz.underlying27 rfl _ 0 (.int .u32 a) rfl w) (part_cell Tryz.underlying27 rfl _ 0 (.int .u32 a') rfl w) (eq_int d Tryz.underlying27 .u32 a a' w) ?_
  exact fld_step (by decide) (part_cell Tryz.underlying3 rfl _ 1 (.int .i64 b) rfl w) (part_cell Tryz.underlying3 rfl _ 1 (.int .i64 b') rfl w) (eq_int d Tryz.underlying3 .i64 b b' w) fld_nil
theorem run_nt_eq (a : Nat) (b : Int) (a' : Nat) (b' : Int) (w : World) : (Op.equalIn 10000 29 (.agg #[.int .u32 (a : Int), .int .i64 b]) (.agg #[.int .u32 (a' : Int), .int .i64 b'])).run Tryz.prog w = .ok (decide ((a, b) = (a', b'))) w := by
  rw [run_cidr_eq 9998 a b a' b' w]
  congr 1
  rw [Bool.eq_iff_iff]
  simp only [Bool.and_eq_true, decide_eq_true_eq, Prod.mk.injEq]
  constructor
  · rintro ⟨h1, h2⟩; exact ⟨by omega, h2⟩
  · rintro ⟨h1, h2⟩; exact ⟨by omega, h2⟩
/-- The step at a place. -/
theorem drop_two {Y : List Nt} {i : Nat} (h1 : 1 ≤ i) (h : i < Y.length) : Y.drop (i - 1) = ntAt Y (i - 1) :: ntAt Y i :: Y.drop (i + 1) := by
  have e1 := List.drop_eq_getElem_cons (l := Y) (i := i - 1) (by omega)
  have e2 := List.drop_eq_getElem_cons (l := Y) (i := i) h
  rw [ntAt_eq (by omega), ntAt_eq h, e1, show i - 1 + 1 = i by omega, e2]
def Till (Y : List Nt) (i : Nat) : Prop := mstep Y = (mstep (Y.drop (i - 1))).map (Y.take (i - 1) ++ ·)
theorem till_one (Y : List Nt) : Till Y 1 := by unfold Till; simp
theorem take_snoc' {Y : List Nt} {k : Nat} (h : k < Y.length) : Y.take (k + 1) = Y.take k ++ [ntAt Y k] := by
  rw [List.take_succ_eq_append_getElem h, ntAt_eq h]
theorem till_cov {Y : List Nt} {i : Nat} (h1 : 1 ≤ i) (h : i < Y.length) (ht : Till Y i) (hc : nCov (ntAt Y (i - 1)) (ntAt Y i) = true) : mstep Y = some (Y.eraseIdx i) := by
  obtain ⟨k, rfl⟩ : ∃ k, i = k + 1 := ⟨i - 1, by omega⟩
  have e := drop_two h1 h
  unfold Till at ht
  rw [ht, e, mstep, if_pos hc, Option.map_some, List.eraseIdx_eq_take_drop_succ]
  simp only [Nat.add_sub_cancel] at *
  rw [take_snoc' (by omega)]
  simp
theorem till_sib {Y : List Nt} {i : Nat} (h1 : 1 ≤ i) (h : i < Y.length) (ht : Till Y i) (hc : nCov (ntAt Y (i - 1)) (ntAt Y i) = false) (hs : nSib (ntAt Y (i - 1)) (ntAt Y i) = true) : mstep Y = some ((Y.set (i - 1) (nPar (ntAt Y (i - 1)))).eraseIdx i) := by
  obtain ⟨k, rfl⟩ : ∃ k, i = k + 1 := ⟨i - 1, by omega⟩
  have e := drop_two h1 h
  unfold Till at ht
  rw [ht, e, mstep, if_neg (by rw [hc]; simp), if_pos hs, Option.map_some, List.eraseIdx_eq_take_drop_succ]
  simp only [Nat.add_sub_cancel] at *
  rw [take_snoc' (Y := Y.set k (nPar (ntAt Y k))) (by rw [List.length_set]; omega), ntAt_eq (L := Y.set k (nPar (ntAt Y k))) (by rw [List.length_set]; omega), List.getElem_set_self, List.take_set_of_le (Nat.le_refl _), List.drop_set_of_lt (by omega)]
  simp
theorem till_next {Y : List Nt} {i : Nat} (h1 : 1 ≤ i) (h : i < Y.length) (ht : Till Y i) (hc : nCov (ntAt Y (i - 1)) (ntAt Y i) = false) (hs : nSib (ntAt Y (i - 1)) (ntAt Y i) = false) : Till Y (i + 1) := by
  obtain ⟨k, rfl⟩ : ∃ k, i = k + 1 := ⟨i - 1, by omega⟩
  have e := drop_two h1 h
  unfold Till at ht ⊢
  have e2 := List.drop_eq_getElem_cons (l := Y) (i := k + 1) h
  rw [ht, e, mstep, if_neg (by rw [hc]; simp), if_neg (by rw [hs]; simp), Option.map_map]
  simp only [Nat.add_sub_cancel] at *
  rw [ntAt_eq h, ← e2]
  congr 1
  funext l
  simp only [Function.comp]
  rw [take_snoc' (by omega)]
  simp
theorem till_end {Y : List Nt} {i : Nat} (h1 : 1 ≤ i) (h : Y.length ≤ i) (ht : Till Y i) : mstep Y = none := by
  unfold Till at ht
  rw [ht]
  have hl : (Y.drop (i - 1)).length ≤ 1 := by rw [List.length_drop]; omega
  rcases hd : Y.drop (i - 1) with _ | ⟨a, _ | ⟨b, r⟩⟩
  · rfl
  · rfl
  · rw [hd] at hl; simp at hl
set_option maxRecDepth 100000 in
theorem delete2_any (g c i : Nat) (L : List Nt) (w : World) (h : Rw w g c L) (hi : i < L.length) (hn : L.length ≤ 1000000) :
    Calls Tryz.prog 42 #[.slice (some ⟨g, 0, none⟩) L.length c, .int .i64 (i : Int), .int .i64 ((i : Int) + 1)] w fun e w' => e = .returned (.slice (some ⟨g, 0, none⟩) (L.eraseIdx i).length c) ∧ Rw w' g c (L.eraseIdx i) ∧ Below g w w' := by
  have hle : (L.eraseIdx i).length = L.length - 1 := by rw [List.length_eraseIdx, if_pos hi]
  obtain ⟨m, hm⟩ : ∃ m, L.length = m + 1 := ⟨L.length - 1, by omega⟩
  have := delete_any g m c i L w h hm (by omega) (by omega)
  rw [hle, hm, Nat.add_sub_cancel]
  rwa [show ((i + 1 : Nat) : Int) = (i : Int) + 1 by omega] at this
end Go.Proofs.YtddfgalofngoiaaGreatDoor
