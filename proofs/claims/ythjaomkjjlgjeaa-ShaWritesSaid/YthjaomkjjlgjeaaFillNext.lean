/- What a round of sha.fill leaves. No condition. -/
import Derived.Test.YthjaomkjjlgjeaaPrimes
import Derived.Test.YthjaomkjjlgjeaaWords
import Derived.RangeFuncBox
import Derived.RangeFuncNested
namespace Go.Proofs.Ythjaomkjjlgjeaa
open Go.RowKit
/-- The k-th word. -/
def rootW (rt : Nat → Nat) (k : Nat) : Value := .int .u32 ((rt (prAt k) % 4294967296 : Nat) : Int)
/-- k words written, of n. -/
def filled (rt : Nat → Nat) (n k : Nat) : List Value := (List.range k).map (rootW rt) ++ List.replicate (n - k) (.int .u32 0)
theorem filled_at (rt : Nat → Nat) (n k : Nat) (h : k < n) : (filled rt n k)[k]? = some (.int .u32 0) := by
  unfold filled
  rw [List.getElem?_append_right (by simp), List.length_map, List.length_range, Nat.sub_self, List.getElem?_replicate, if_pos (by omega)]
theorem filled_set (rt : Nat → Nat) (n k : Nat) (h : k < n) : (filled rt n k).set k (rootW rt k) = filled rt n (k + 1) := by
  unfold filled
  rw [List.set_append_right _ _ (by simp), List.length_map, List.length_range, Nat.sub_self, show n - k = (n - (k + 1)) + 1 from by omega, List.replicate_succ, List.set_cons_zero, List.range_succ, List.map_append, List.append_assoc]
  rfl
theorem filled_zero (rt : Nat → Nat) (n : Nat) : filled rt n 0 = List.replicate n (.int .u32 0) := by simp [filled]
theorem rootW_wrap (rt : Nat → Nat) (k : Nat) : (.int .u32 (IntKind.u32.wrap ((rt (prAt k) : Nat) : Int)) : Value) = rootW rt k := by
  unfold rootW
  rw [IntKind.wrap_u32]
  congr 1

theorem grown_set (W : World) (b i : Nat) (v : Value) : W.grownBy (W.setCell ⟨b, i, none⟩ v) (some b) :=
  ⟨rfl, rfl, rfl, (KeepsWalks.setCell W _ v).size, fun k _ hk => Below.heap_setCell _ _ _ k (fun e => hk (by rw [e]))⟩
/-- What lies between two rounds. -/
def FillI (rt : Nat → Nat) (fv : Value) (b n tt s B : Nat) (w : World) (k : Nat) (W : World) : Prop :=
  k ≤ n ∧ Boxed W s 69 (.slice (some ⟨b, 0, none⟩) n n) ∧ Boxed W (s + 1) 73 fv ∧ Boxed W (s + 2) 3 (.int .i64 k) ∧ Blk W b tt (filled rt n k) ∧ Below b w W ∧ B ≤ W.heap.size
theorem FillI.word {rt : Nat → Nat} {fv : Value} {b n tt s B : Nat} {w W w' : World} {k : Nat} (h : FillI rt fv b n tt s B w k W) (hs : b < s) (f : Below W.heap.size W.drew w') :
    Boxed (w'.setCell ⟨b, k, none⟩ (rootW rt k)) (s + 2) 3 (.int .i64 k) := by
  have l4 := h.2.2.2.1.lt
  exact Boxed.kept (W := w') ((f.block (s + 2) l4).trans h.2.2.2.1) (grown_set w' b k _) (by simp; omega)
theorem FillI.next {rt : Nat → Nat} {fv : Value} {b n tt s B : Nat} {w W w' : World} {k : Nat} (h : FillI rt fv b n tt s B w k W) (hk : k < n) (hs : b < s) (hB : b ≤ B) (hsB : s + 3 ≤ B) (f : Below W.heap.size W.drew w') :
    KeepsFrom B W ((w'.setCell ⟨b, k, none⟩ (rootW rt k)).setCell ⟨s + 2, 0, none⟩ (.int .i64 ((k : Int) + 1))) ∧
    FillI rt fv b n tt s B w (k + 1) ((w'.setCell ⟨b, k, none⟩ (rootW rt k)).setCell ⟨s + 2, 0, none⟩ (.int .i64 ((k : Int) + 1))) := by
  have hw := h.word (w' := w') hs f
  obtain ⟨h1, h2, h3, h4, h5, h6, h7⟩ := h
  have g1 := grown_set w' b k (rootW rt k)
  have g2 := grown_set (w'.setCell ⟨b, k, none⟩ (rootW rt k)) (s + 2) 0 (.int .i64 ((k : Int) + 1))
  have b2 : Boxed w' s _ _ := (f.block s h2.lt).trans h2
  have b3 : Boxed w' (s + 1) _ _ := (f.block (s + 1) h3.lt).trans h3
  have b5 : Blk w' b tt (filled rt n k) := (f.block b h5.lt).trans h5
  refine ⟨⟨?_, fun j o hj ho hc => ?_⟩, hk, (b2.kept g1 (by simp; omega)).kept g2 (by simp), (b3.kept g1 (by simp; omega)).kept g2 (by simp), ?_, ?_, ?_, ?_⟩
  · exact Nat.le_trans f.size (Nat.le_trans g1.size g2.size)
  · have lj := (Array.getElem?_eq_some_iff.1 ho).1
    have e1 := (f.block j lj).trans ho
    have lj' := (Array.getElem?_eq_some_iff.1 e1).1
    have e2 := (g1.block j lj' (by simp; omega)).trans e1
    exact (g2.block j (Array.getElem?_eq_some_iff.1 e2).1 (by simp; omega)).trans e2
  · have := hw.set (.int .i64 ((k : Int) + 1))
    simpa using this
  · have := (b5.set k (rootW rt k)).grown g2 (by simp; omega)
    rwa [filled_set rt n k hk] at this
  · have q := (h6.drew).trans (f.mono (Nat.le_of_lt h5.lt))
    exact (q.grown g1 (Nat.le_trans (Nat.le_of_lt h5.lt) f.size) (fun j e => by cases e; omega)).grown g2 (Nat.le_trans (Nat.le_of_lt h5.lt) (Nat.le_trans f.size g1.size)) (fun j e => by cases e; omega)
  · exact Nat.le_trans h7 (Nat.le_trans f.size (Nat.le_trans g1.size g2.size))
end Go.Proofs.Ythjaomkjjlgjeaa
