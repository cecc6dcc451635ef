/- slices.Clone, Sort, Compact of a target's ports. Conditions: a million at most. -/
import Derived.Test.YtdbjihpdfiipcaaGreatPolWhen
import Derived.Test.YtdbjihpdfiipcaaGreatPolPortsLaw
import Derived.Test.YtdbjihpdfiipcaaGreatShelf
import Derived.Lib.OwnBridge
namespace Go.Proofs.YtdbjihpdfiipcaaGreat
open Go.RowKit Go.Sort
set_option linter.unusedVariables false
set_option linter.unusedSimpArgs false
/-- A row of numbers of the call's own, from block b on. -/
def Hp (b : Nat) (u : World) (P : Option Addr) (n : Nat) (Z : List Int) : Prop := Z.length = n ∧ (0 < n → ∃ g, P = some ⟨g, 0, none⟩ ∧ b ≤ g ∧ g < u.heap.size ∧ Holds (Value.int .i64) u g 0 Z.toArray)
theorem Hp.below {b : Nat} {u v : World} {P : Option Addr} {n : Nat} {Z : List Int} (h : Hp b u P n Z) (hb : Below u.heap.size u v) : Hp b v P n Z :=
  ⟨h.1, fun hn => by
    obtain ⟨g, h1, h2, h3, h4⟩ := h.2 hn
    refine ⟨g, h1, h2, Nat.lt_of_lt_of_le h3 hb.size, fun j hj => ?_⟩
    obtain ⟨h5, h6⟩ := h4 j hj
    refine ⟨(hb.cell (p := ⟨g, 0 + j, none⟩) h3).trans h5, ?_⟩
    rw [← h6]
    unfold World.frozen?
    simp only [hb.block g h3]⟩
theorem RdR.ints {w : World} {B n : Nat} {A : Option Addr} {L : List Int} (h : RdR inC 1 w B A n L) (hn : 0 < n) : ∃ b off, A = some ⟨b, off, none⟩ ∧ ∀ j, j < L.length → w.cell? ⟨b, off + j, none⟩ = some (.int .i64 (L.getD j 0)) := by
  obtain ⟨b, off, h1, h2, h3⟩ := h.2 hn
  refine ⟨b, off, h1, fun j hj => ?_⟩
  have := h3 j hj 0 _ rfl
  rw [Nat.mul_one, Nat.add_zero] at this
  rw [this, List.getD_eq_getElem?_getD, List.getElem?_eq_getElem hj]
  rfl
theorem own_hp {b n : Nat} {w : World} {v : Value} {L : List Int} (h : w.ownsRow b 3 1 v n (L.map (Value.int .i64))) (hl : L.length = n) : ∃ P c, v = .slice P n c ∧ n ≤ c ∧ Hp b w P n L := by
  rcases h.2 with ⟨h1, h2⟩ | ⟨g, cap, cur, h1, h2, h3, h4, h5, h6, h7⟩
  · subst h1
    exact ⟨none, 0, by rw [h2], by omega, hl, fun hn => by omega⟩
  · refine ⟨_, _, h1, h4, hl, fun hn => ?_⟩
    have hg := (Array.getElem?_eq_some_iff.1 h3).1
    refine ⟨g, rfl, h2, hg, fun j hj => ?_⟩
    have hb : Blk w g 3 cur.toList := by unfold Blk; rw [Array.toArray_toList]; exact h3
    refine ⟨?_, hb.frozen _⟩
    rw [List.size_toArray] at hj
    rw [hb.cell, Nat.zero_add]
    have h8 : (List.take (n * 1) cur.toList)[j]? = (L.map (Value.int .i64))[j]? := by rw [h7]
    rw [List.getElem?_take, if_pos (by omega)] at h8
    rw [h8, List.getElem?_map, List.getElem?_eq_getElem hj]
    simp [hj]
theorem clonePorts (A : Option Addr) (n c : Nat) (L : List Int) (w : World) (h : RdR inC 1 w w.heap.size A n L) (hn : n ≤ 1000000) :
    Calls Tryz.prog 77 #[.slice A n c] w fun e w' => ∃ P c', e = .returned (.slice P n c') ∧ n ≤ c' ∧ Hp w.heap.size w' P n L ∧ Below w.heap.size w w' := by
  have hl := h.1
  rcases Nat.eq_zero_or_pos n with h0 | h0
  · subst h0
    have hL : L = [] := List.eq_nil_of_length_eq_zero hl
    subst hL
    rcases A with _ | a
    · refine (slices_Clone_int_nil 0 c w).mono ?_
      rintro e w' ⟨rfl, rfl⟩
      exact ⟨none, 0, rfl, Nat.le_refl _, ⟨rfl, fun h => absurd h (by omega)⟩, Below.refl _ _⟩
    · refine (slices_Clone_int_zero a c w).mono ?_
      rintro e w' ⟨v', rfl, ho, _, hb⟩
      obtain ⟨P, c', rfl, h2, h3⟩ := own_hp (L := []) ho rfl
      exact ⟨P, c', rfl, h2, h3, hb⟩
  · obtain ⟨b, off, rfl, hc⟩ := h.ints h0
    refine (slices_Clone_int b off n c L w (by omega) (by omega) hc).mono ?_
    rintro e w' ⟨v', rfl, ho, _, hb⟩
    rw [List.take_of_length_le (by omega)] at ho
    obtain ⟨P, c', rfl, h2, h3⟩ := own_hp ho hl
    exact ⟨P, c', rfl, h2, h3, hb⟩
theorem sortPorts (b : Nat) (P : Option Addr) (n c : Nat) (Z : List Int) (w : World) (h : Hp b w P n Z) (hn : n ≤ 1000000) (hbw : b ≤ w.heap.size) :
    Calls Tryz.prog 78 #[.slice P n c] w fun e w' => e = .returned (.tuple #[]) ∧ ∃ Y : List Int, Y.Perm Z ∧ Y.Pairwise (· ≤ ·) ∧ Hp b w' P n Y ∧ Below b w w' := by
  have hl := h.1
  rcases Nat.eq_zero_or_pos n with h0 | h0
  · subst h0
    have hL : Z = [] := List.eq_nil_of_length_eq_zero hl
    subst hL
    refine (slices_Sort_int_none P c w).mono ?_
    rintro e w' ⟨rfl, rfl⟩
    exact ⟨rfl, [], List.Perm.refl _, List.Pairwise.nil, h, Below.refl _ _⟩
  · obtain ⟨g, rfl, h1, h2, h3⟩ := h.2 h0
    subst hl
    refine (slices_Sort_int g 0 c Z w h3 h2 (by omega)).mono ?_
    rintro e w' ⟨rfl, m, os, rfl⟩
    have hp : (Z.mergeSort fun x y => decide (x ≤ y)).Perm Z := List.mergeSort_perm _ _
    have hlen := hp.length_eq
    have hs : (Z.mergeSort fun x y => decide (x ≤ y)).Pairwise (· ≤ ·) := by
      have := List.pairwise_mergeSort (le := fun x y : Int => decide (x ≤ y)) (by intro a b c h1 h2; simp at h1 h2 ⊢; omega) (by intro a b; simp; omega) Z
      exact this.imp fun h => by simpa using h
    generalize (Z.mergeSort fun x y => decide (x ≤ y)) = Y at *
    have hH : Holds (Value.int .i64) (Sort.ahead w m) g 0 Z.toArray := h3
    have hY := holds_putRow (Value.int .i64) (Sort.ahead w m) g 0 Z.toArray Y.toArray hH (by simpa using hlen)
    have hsz : (putRow (Value.int .i64) (Sort.ahead w m) g 0 Y.toArray).heap.size = w.heap.size := by rw [size_putRow]; rfl
    have f1 : Below b w (putRow (Value.int .i64) (Sort.ahead w m) g 0 Y.toArray) := Lib.below_putRow (enc := Value.int .i64) (Below.refl _ _) h1
    have f2 : Below b w (grow (putRow (Value.int .i64) (Sort.ahead w m) g 0 Y.toArray) os) := by
      refine ⟨f1.os, f1.tape, f1.output, Nat.le_trans f1.size (by simp [grow]), fun k hk => ?_⟩
      rw [← f1.block k hk]
      simp [grow, Array.getElem?_append, show k < w.heap.size by omega]
    refine ⟨rfl, Y, hp, hs, ⟨hlen, fun _ => ⟨g, rfl, h1, by simp [grow]; omega, fun j hj => ?_⟩⟩, f2⟩
    have hg : Below (putRow (Value.int .i64) (Sort.ahead w m) g 0 Y.toArray).heap.size (putRow (Value.int .i64) (Sort.ahead w m) g 0 Y.toArray) (grow (putRow (Value.int .i64) (Sort.ahead w m) g 0 Y.toArray) os) := by
      refine ⟨rfl, rfl, rfl, by simp [grow], fun k hk => ?_⟩
      simp only [grow]
      rw [Array.getElem?_append, if_pos (by omega)]
    obtain ⟨h5, h6⟩ := hY j hj
    refine ⟨(hg.cell (p := ⟨g, 0 + j, none⟩) (by show g < _; omega)).trans h5, ?_⟩
    rw [← h6]
    unfold World.frozen?
    simp only [hg.block g (by omega)]
theorem compactPorts (b : Nat) (P : Option Addr) (n c : Nat) (Y : List Int) (w : World) (h : Hp b w P n Y) (hn : n ≤ 1000000) (hc : n ≤ c) :
    Calls Tryz.prog 81 #[.slice P n c] w fun e w' => e = .returned (.slice P (Lib.compact Y).length c) ∧ Below b w w' := by
  have hl := h.1
  rcases Nat.eq_zero_or_pos n with h0 | h0
  · subst h0
    have hL : Y = [] := List.eq_nil_of_length_eq_zero hl
    subst hL
    refine (slices_Compact_int_empty P c w).mono ?_
    rintro e w' ⟨rfl, rfl⟩
    exact ⟨rfl, Below.refl _ _⟩
  · obtain ⟨g, rfl, h1, h2, h3⟩ := h.2 h0
    subst hl
    refine (slices_Compact_int g 0 c Y w h3 (by omega) hc).mono ?_
    rintro e w' ⟨rfl, q, rfl⟩
    exact ⟨rfl, Lib.below_putRow (enc := Value.int .i64) (Below.refl _ _) h1⟩
end Go.Proofs.YtdbjihpdfiipcaaGreat
