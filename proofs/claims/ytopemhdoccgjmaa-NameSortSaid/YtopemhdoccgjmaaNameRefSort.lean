/- gatepostref05.Sort: the names by their order, each once. Condition: a million names at most, of 2^62 bytes at most. -/
import Derived.Test.YtopemhdoccgjmaaNameSortF
import Derived.Test.YtopemhdoccgjmaaRowIns
import Derived.Test.YtopemhdoccgjmaaFacts
namespace Go.Proofs.Ytopemhdoccgjmaa
open Go.RowKit Go.Sort Go.Lib
set_option linter.unusedVariables false
set_option linter.unusedSimpArgs false
theorem two_set (cur : List Value) (i : Nat) (a b : Value) (h : i * 2 + 1 < cur.length) : (cur.set (i * 2) a).set (i * 2 + 1) b = cur.take (i * 2) ++ ([a, b] ++ cur.drop ((i + 1) * 2)) := by
  have e : cur = cur.take (i * 2) ++ (cur[i * 2] :: cur[i * 2 + 1] :: cur.drop ((i + 1) * 2)) := by
    have h1 := List.drop_eq_getElem_cons (l := cur) (i := i * 2) (by omega)
    have h2 := List.drop_eq_getElem_cons (l := cur) (i := i * 2 + 1) h
    rw [show (i + 1) * 2 = i * 2 + 1 + 1 by omega, ← h2, ← h1, List.take_append_drop]
  have hl : (cur.take (i * 2)).length = i * 2 := by rw [List.length_take]; omega
  conv => lhs; rw [e]
  rw [List.set_append_right _ _ (by omega), hl, Nat.sub_self, List.set_cons_zero, List.set_append_right _ _ (by omega), hl, show i * 2 + 1 - i * 2 = 1 by omega]
  rfl
theorem insert_own {w : World} {base g m c i : Nat} {cur : List Value} {X : List Nm} (hb : Blk w g 24 cur) (hl : cur.length = c * 2) (hg : base ≤ g) (hmc : m + 1 ≤ c) (hmx : c ≤ maxLen) (hi : i ≤ m) (hX : X.length = m)
    (h1 : cur.take (i * 2) = flatR nmC (X.take i)) (h2 : (cur.drop ((i + 1) * 2)).take ((m - i) * 2) = flatR nmC (X.drop i)) (x : Nm) :
    OwnR nmC 2 ((w.setCell ⟨g, i * 2, none⟩ (.string (strB x.1))).setCell ⟨g, i * 2 + 1, none⟩ (.string (strB x.2))) base 24 (.slice (some ⟨g, 0, none⟩) (m + 1) c) (X.take i ++ x :: X.drop i) := by
  have hlen : (X.take i ++ x :: X.drop i).length = m + 1 := by
    rw [List.length_append, List.length_take, List.length_cons, List.length_drop]; omega
  have hb2 := (hb.set (i * 2) (.string (strB x.1))).set (i * 2 + 1) (.string (strB x.2))
  rw [two_set cur i _ _ (by omega)] at hb2
  refine ⟨by rw [flatR_length nmC_len], .inr ⟨g, c, (cur.take (i * 2) ++ ([Value.string (strB x.1), Value.string (strB x.2)] ++ cur.drop ((i + 1) * 2))).toArray, by rw [hlen], hg, hb2, by omega, hmx, ?_, ?_⟩⟩
  · rw [List.size_toArray, List.length_append, List.length_append, List.length_take, List.length_drop, hl]
    simp only [List.length_cons, List.length_nil]
    omega
  · rw [hlen, flatR_append, ← h1, show flatR nmC (x :: X.drop i) = [Value.string (strB x.1), Value.string (strB x.2)] ++ flatR nmC (X.drop i) from rfl, ← h2]
    have e1 : (cur.take (i * 2)).length = i * 2 := by rw [List.length_take]; omega
    rw [show (m + 1) * 2 = i * 2 + (2 + (m - i) * 2) by omega, List.take_append, e1]
    simp only [Nat.add_sub_cancel_left]
    rw [List.take_of_length_le (by omega), List.take_append, List.take_of_length_le (l := [Value.string (strB x.1), Value.string (strB x.2)]) (by simp)]
    simp
theorem rising_insert {Y : List Nm} {x : Nm} {q : Nat} (h : Rising Y) (h1 : ∀ j (hj : j < Y.length), j < q → nmLt Y[j] x = true) (h2 : ∀ hq : q < Y.length, nmLt x Y[q] = true) : Rising (Y.take q ++ x :: Y.drop q) := by
  unfold Rising at *
  have ht : ∀ y ∈ Y.take q, nmLt y x = true := by
    intro y hy
    obtain ⟨j, hj, rfl⟩ := List.getElem_of_mem hy
    rw [List.length_take] at hj
    rw [List.getElem_take]
    exact h1 j (by omega) (by omega)
  have hd : ∀ y ∈ Y.drop q, nmLt x y = true := by
    intro y hy
    obtain ⟨j, hj, rfl⟩ := List.getElem_of_mem hy
    rw [List.length_drop] at hj
    rw [List.getElem_drop]
    have hq : q < Y.length := by omega
    rcases Nat.eq_zero_or_pos j with e | e
    · subst e; exact h2 hq
    · exact nmLt_trans (h2 hq) ((List.pairwise_iff_getElem.1 h) q (q + j) hq (by omega) (by omega))
  rw [List.pairwise_append, List.pairwise_cons]
  refine ⟨h.sublist (List.take_sublist _ _), ⟨hd, h.sublist (List.drop_sublist _ _)⟩, fun a ha b hb => ?_⟩
  rcases List.mem_cons.1 hb with rfl | hb
  · exact ht a ha
  · exact nmLt_trans (ht a ha) (hd b hb)
theorem insert_mem (Y : List Nm) (q : Nat) (x y : Nm) : y ∈ Y.take q ++ x :: Y.drop q ↔ y = x ∨ y ∈ Y := by
  rw [List.mem_append, List.mem_cons]
  have e : y ∈ Y ↔ y ∈ Y.take q ∨ y ∈ Y.drop q := by
    rw [← List.mem_append, List.take_append_drop]
  rw [e]
  constructor
  · rintro (h | h | h)
    · exact .inr (.inl h)
    · exact .inl h
    · exact .inr (.inr h)
  · rintro (h | h | h)
    · exact .inr (.inl h)
    · exact .inl h
    · exact .inr (.inr h)
theorem take_mem {L : List Nm} {k : Nat} (h : k < L.length) (y : Nm) : y ∈ L.take (k + 1) ↔ y = nmAt L k ∨ y ∈ L.take k := by
  rw [List.take_succ_eq_append_getElem h, List.mem_append, nmAt_eq h]
  simp [or_comm]
theorem one_zero (w : World) (B : Nat) (hB : w.heap.size < B) : RdR nmC 2 (w.alloc (.cells #[.string (strB []), .string (strB [])] 24)) B (some ⟨w.heap.size, 0, none⟩) 1 [(([], []) : Nm)] := by
  have k := Blk.newAt (w := w) rfl 24 #[.string (strB []), .string (strB [])]
  refine ⟨rfl, fun _ => ⟨w.heap.size, 0, rfl, hB, fun j hj i v hv => ?_⟩⟩
  have : j = 0 := by simpa using hj
  subst this
  have e : (0 + 0 * 2 + i) = i := by omega
  rw [e, k.cell]
  exact hv
end Go.Proofs.Ytopemhdoccgjmaa
