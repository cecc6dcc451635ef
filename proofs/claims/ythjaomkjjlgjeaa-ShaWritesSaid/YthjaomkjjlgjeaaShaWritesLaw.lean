/- What the law ShaWrites needs besides: a part of a block is loaded; bytes read beside words that are laid; bytes of the call's own are written. No condition. -/
import Derived.Test.YthjaomkjjlgjeaaShaPartsLaw
import Derived.Test.YthjaomkjjlgjeaaRefSum
import Derived.Test.YthjaomkjjlgjeaaArrEq
namespace Go.Proofs.Ythjaomkjjlgjeaa
open Go.RowKit
set_option linter.unusedVariables false
theorem wp_load_part {P : Program} {o : Oper} {a : Act} {K : Act → World → Prop} {Q : Exit → Act → World → Prop} {w : World} {b off : Nat} {cs : List Value} (h : w.rangeAt b off cs)
    (ty : TypeId) (x : Operand) (ho : o.op = .load ty x) (hx : a.eval x = .pointer (some ⟨b, off, none⟩)) {d : TypeDesc} (hu : P.underlying ty = some d) (hi : (P.info? ty).map (·.size) = some cs.length)
    (hK : K (a.put o.dst (.agg cs.toArray)) w) (hd : d.isRow = true := by rfl) : o.wp P a w K Q := by
  unfold Oper.wp execOp
  simp only [ho, hx, Sem.run_bind, run_loadAt_mid w b off ty cs d h hu hd hi, Result.andThen_ok, Sem.run_pure]
  exact hK
/-- Bytes that are read lie in no block of words. -/
theorem RdB.words {u u' : World} {B : Nat} {A : Option Addr} {n : Nat} {l : List UInt8} {g t : Nat} {ws : List UInt32} (h : RdB u B A n l) (k : Blk u g t (uvs ws)) (hB : B ≤ u.heap.size) (hg : u.grownBy u' (some g)) : RdB u' B A n l := by
  refine ⟨h.1, fun hn => ?_⟩
  obtain ⟨b, off, hA, hb, hc⟩ := h.2 hn
  have hne : b ≠ g := by
    rintro rfl
    have h0 := hc 0 (by have := h.1; omega)
    rw [k.cell, uvs, List.getElem?_map] at h0
    cases hw : ws[off + 0]? <;> rw [hw] at h0
    · cases h0
    · simp [uv, bv] at h0
  refine ⟨b, off, hA, hb, fun j hj => ?_⟩
  have := hg.block b (Nat.lt_of_lt_of_le hb hB) (fun e => hne (by injection e))
  exact (World.cell?_of_block (a := ⟨b, off + j, none⟩) this).trans (hc j hj)
theorem uvs_int (l : List UInt32) : uvs l = (l.map fun b => (b.toNat : Int)).map (Value.int .u32) := by simp [uvs, uv]
theorem run_equalIn_words {P : Program} {t e n : Nat} (ht : P.underlying t = some (.array n e)) (he : P.underlying e = some (.int .u32)) (hsz : (P.info? e).map (·.size) = some 1) (xs ys : List UInt32) (hx : xs.length = n) (hy : ys.length = n) (w : World) :
    (Op.equalIn 10000 t (.agg (uvs xs).toArray) (.agg (uvs ys).toArray)).run P w = .ok (decide (xs = ys)) w := by
  rw [uvs_int, uvs_int, run_equalIn_array ht he hsz 9998 _ _ (by simpa using hx) (by simpa using hy)]
  congr 1
  rw [decide_eq_decide]
  refine ⟨fun h => ?_, fun h => by rw [h]⟩
  exact (List.map_inj_right fun a b hab => UInt32.toNat_inj.1 (by omega)).1 h
theorem FrB.cellAt {w : World} {base e : Nat} {A : Option Addr} {n : Nat} {l : List UInt8} (h : FrB w base e A n l) {j : Nat} (hj : j < n) : ∃ g off cur, A = some ⟨g, off, none⟩ ∧ base ≤ g ∧ Blk w g e cur ∧ w.cell? ⟨g, off + j, none⟩ = some (.int .u8 ((at8 l j).toNat : Int)) ∧ w.frozen? ⟨g, off + j, none⟩ = false ∧
    ∀ x : UInt8, FrB (w.setCell ⟨g, off + j, none⟩ (bv x)) base e A n (l.set j x) := by
  obtain ⟨g, off, cur, hA, hb, k, hc⟩ := h.2 (by omega)
  have hl := h.1
  have hlt : j < l.length := by omega
  have h1 : (bvs l)[j]? = some (.int .u8 ((at8 l j).toNat : Int)) := by simp [bvs, at8, bv, hlt]
  refine ⟨g, off, cur, hA, hb, k, ?_, k.frozen _, fun x => ⟨by rw [List.length_set]; exact hl, fun _ => ⟨g, off, _, hA, hb, k.set (off + j) (bv x), ?_⟩⟩⟩
  · rw [k.cell, ← List.getElem?_drop]
    rw [← hc, List.getElem?_take, if_pos hj] at h1
    exact h1
  · rw [List.drop_set, if_neg (by omega), show off + j - off = j from by omega, List.take_set, hc]
    unfold bvs
    rw [List.map_set]
end Go.Proofs.Ythjaomkjjlgjeaa
