/- '==' of two arrays of numbers. No condition. -/
import Derived.Test.YtgefbgjgcjiceaaWords
import Derived.Laws.StructEq
namespace Go.Proofs.Ytgefbgjgcjiceaa
open Go.RowKit
section
variable {P : Program} {w : World}
theorem run_each (body : Nat → Sem Bool) (g : Nat → Bool) (F : Nat → Option Bool × Unit → Sem (ForInStep (Option Bool × Unit))) (hF : ∀ i s, (F i s).run P w = ((body i).run P w).andThen fun b w' => .ok (if b = false then ForInStep.done (some false, ()) else ForInStep.yield (none, ())) w') :
    ∀ (l : List Nat), (∀ i ∈ l, (body i).run P w = .ok (g i) w) → (forIn l ((none, ()) : Option Bool × Unit) F).run P w = .ok (if l.all g then none else some false, ()) w
  | [], _ => by simp
  | i :: l, h => by
    have h1 := h i (List.mem_cons_self)
    have ih := run_each body g F hF l fun j hj => h j (List.mem_cons_of_mem _ hj)
    rw [List.forIn_cons, Sem.run_bind, hF, h1]
    simp only [Result.andThen_ok]
    cases hg : g i with
    | false => simp [hg]
    | true => simpa [hg] using ih
theorem run_equalIn_array {t e n : Nat} {k : IntKind} (ht : P.underlying t = some (.array n e)) (he : P.underlying e = some (.int k)) (hsz : (P.info? e).map (·.size) = some 1) (d : Nat) (xs ys : List Int) (hx : xs.length = n) (hy : ys.length = n) :
    (Op.equalIn (d + 2) t (.agg (xs.map (Value.int k)).toArray) (.agg (ys.map (Value.int k)).toArray)).run P w = .ok (decide (xs = ys)) w := by
  obtain ⟨j, hj, hs⟩ := Option.map_eq_some_iff.1 hsz
  unfold Op.equalIn
  simp only [Sem.run_bind, run_underlying ht, Result.andThen_ok, sizeOf, typeInfo]
  simp [hj, hs]
  rw [run_each (P := P) (w := w) (fun i => do
      let x ← part e (xs.map (Value.int k)).toArray i
      let y ← part e (ys.map (Value.int k)).toArray i
      Op.equalIn (d + 1) e x y) (fun i => xs.getD i 0 == ys.getD i 0) _ ?_ (List.range' 0 n) ?_]
  · have hb : (List.range' 0 n).all (fun i => xs.getD i 0 == ys.getD i 0) = decide (xs = ys) := by
      rw [Bool.eq_iff_iff]
      simp only [List.all_eq_true, List.mem_range'_1, beq_iff_eq, decide_eq_true_eq]
      refine ⟨fun h => List.ext_getElem (by omega) fun i h1 h2 => ?_, fun h i _ => by rw [h]⟩
      have := h i ⟨Nat.zero_le _, by omega⟩
      simpa [h1, h2] using this
    rw [hb]
    by_cases hxy : xs = ys <;> simp [hxy]
  · intro i s
    simp only [Sem.run_bind]
    generalize (part e (xs.map (Value.int k)).toArray i).run P w = r1
    cases r1 with
    | halt h w' => rfl
    | ok x w1 =>
      simp only [Result.andThen_ok]
      generalize (part e (ys.map (Value.int k)).toArray i).run P w1 = r2
      cases r2 with
      | halt h w' => rfl
      | ok y w2 =>
        simp only [Result.andThen_ok]
        generalize (Op.equalIn (d + 1) e x y).run P w2 = r3
        cases r3 with
        | halt h w' => rfl
        | ok b w3 => cases b <;> simp
  · intro i hi
    have hi' : i < n := by simpa using hi
    have h1 : i < xs.length := by omega
    have h2 : i < ys.length := by omega
    simp [part, isAgg, run_underlying he, h1, h2, Op.equalIn]
theorem run_eql_array {t e n : Nat} {k : IntKind} (ht : P.underlying t = some (.array n e)) (he : P.underlying e = some (.int k)) (hsz : (P.info? e).map (·.size) = some 1) (xs ys : List Int) (hx : xs.length = n) (hy : ys.length = n) (w : World) :
    (binOp .eql t (.agg (xs.map (Value.int k)).toArray) (.agg (ys.map (Value.int k)).toArray)).run P w = .ok (.bool (decide (xs = ys))) w := by
  rw [run_eql_struct, run_equalIn_array ht he hsz 9998 xs ys hx hy]
  rfl
theorem bvs_int (l : List UInt8) : bvs l = (l.map fun b => (b.toNat : Int)).map (Value.int .u8) := by simp [bvs, bv]
theorem run_eql_bytes {t e n : Nat} (ht : P.underlying t = some (.array n e)) (he : P.underlying e = some (.int .u8)) (hsz : (P.info? e).map (·.size) = some 1) (xs ys : List UInt8) (hx : xs.length = n) (hy : ys.length = n) (w : World) :
    (binOp .eql t (.agg (bvs xs).toArray) (.agg (bvs ys).toArray)).run P w = .ok (.bool (decide (xs = ys))) w := by
  rw [bvs_int, bvs_int, run_eql_array ht he hsz _ _ (by simpa using hx) (by simpa using hy)]
  congr 2
  rw [decide_eq_decide]
  refine ⟨fun h => ?_, fun h => by rw [h]⟩
  exact (List.map_inj_right fun a b hab => UInt8.toNat_inj.1 (by omega)).1 h
theorem run_equalIn_bytes {t e n : Nat} (ht : P.underlying t = some (.array n e)) (he : P.underlying e = some (.int .u8)) (hsz : (P.info? e).map (·.size) = some 1) (xs ys : List UInt8) (hx : xs.length = n) (hy : ys.length = n) (w : World) :
    (Op.equalIn 10000 t (.agg (bvs xs).toArray) (.agg (bvs ys).toArray)).run P w = .ok (decide (xs = ys)) w := by
  rw [bvs_int, bvs_int, run_equalIn_array ht he hsz 9998 _ _ (by simpa using hx) (by simpa using hy)]
  congr 1
  rw [decide_eq_decide]
  refine ⟨fun h => ?_, fun h => by rw [h]⟩
  exact (List.map_inj_right fun a b hab => UInt8.toNat_inj.1 (by omega)).1 h
end
end Go.Proofs.Ytgefbgjgcjiceaa
