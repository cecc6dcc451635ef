/- slices.Clone, slices.SortFunc at a row of nets. Condition: a million nets at most. -/
import Derived.Test.YtddfgalofngoiaaGreatDoorNetDel
import Derived.Test.YtddfgalofngoiaaGreatDoorShelf
import Derived.Lib.SliceRun
import Derived.Lib.OwnBridge
import Derived.Shelf.SlSortCmp.NoneTotal
namespace Go.Proofs.YtddfgalofngoiaaGreatDoor
open Go.RowKit Go.Sort Go.Lib Go.Shelf
set_option linter.unusedVariables false
set_option linter.unusedSimpArgs false
def ntLt (x y : Nt) : Bool := decide (x.1 < y.1) || (decide (x.1 = y.1) && decide (x.2 < y.2))
theorem ntLt_iff (x y : Nt) : ntLt x y = true ↔ x.1 < y.1 ∨ (x.1 = y.1 ∧ x.2 < y.2) := by
  simp [ntLt]
theorem ltOf_nt : ltOf ntCmp = ntLt := by
  funext x y
  rw [Bool.eq_iff_iff, ntLt_iff]
  unfold ltOf ntCmp orI cmpI
  rw [decide_eq_true_iff]
  by_cases h1 : (x.1 : Int) < y.1
  · rw [if_pos h1, if_neg (by decide)]
    omega
  · by_cases h2 : (y.1 : Int) < x.1
    · rw [if_neg h1, if_pos h2, if_neg (by decide)]
      omega
    · rw [if_neg h1, if_neg h2, if_pos rfl]
      by_cases h3 : x.2 < y.2
      · rw [if_pos h3]; omega
      · by_cases h4 : y.2 < x.2
        · rw [if_neg h3, if_pos h4]; omega
        · rw [if_neg h3, if_neg h4]; omega
theorem swo_nt : SWO (ltOf ntCmp) := by
  rw [ltOf_nt]
  refine ⟨fun x => ?_, fun x y z h1 h2 => ?_, fun x y z h1 h2 => ?_⟩
  · rw [← Bool.not_eq_true, ntLt_iff]; omega
  · rw [ntLt_iff] at *; omega
  · rw [← Bool.not_eq_true, ntLt_iff] at *; omega
set_option maxRecDepth 100000 in
set_option maxHeartbeats 1000000 in
theorem cloneC_any (A : Option Addr) (n c : Nat) (L : List Nt) (w : World) (h : RdR ntC 2 w w.heap.size A n L) (hn : n ≤ 1000000) :
    Calls Tryz.prog 34 #[.slice A n c] w fun e w' => ∃ A' c', e = .returned (.slice A' n c') ∧ OwnR ntC 2 w' w.heap.size 29 (.slice A' n c') L ∧ Below w.heap.size w w' := by
  have q22 : ∀ (w : World) (a : Option Addr) (n c n' c' : Nat), (binOp .eql 22 (.slice a n c) (.slice none n' c')).run Tryz.prog w = .ok (.bool a.isNone) w := fun w a n c n' c' => Lib.run_eql_slice_nil w _ _ a n c n' c' Tryz.underlying22
  go_enter Tryz.func34, Tryz.ntmps34
  rcases A with _ | ad
  · have hn0 : n = 0 := by
      rcases Nat.eq_zero_or_pos n with h0 | h0
      · exact h0
      · obtain ⟨b, off, e, _⟩ := h.2 h0
        cases e
    subst hn0
    have hL : L = [] := List.eq_nil_of_length_eq_zero h.1
    subst hL
    go_wp2_with fail
    go_ret
    exact ⟨none, 0, rfl, OwnR.nil, Below.refl _ _⟩
  · go_wp2_with (first | (at_builtin; go_must (refine appendRow TC ntC_len ntC_one rfl rfl rfl (OwnR.empty (Nat.le_refl _)) rfl ((h : RdR ntC 2 w w.heap.size (some ad) n L).below ((Below.refl _ w).alloc (Nat.le_refl _) _)) (by omega) (by simp only [maxLen]; omega) ((Below.refl _ w).alloc (Nat.le_refl _) _) (Nat.le_refl _) ?_); intro A' c' w' o' b' g'; rw [Nat.zero_add, List.nil_append] at o'))
    go_ret
    exact ⟨A', c', rfl, o', b'⟩
theorem Rw.holds {w : World} {g c : Nat} {L : List Nt} (h : Rw w g c L) : HoldsK ntC 2 w g 0 L.toArray := by
  intro j hj
  rw [size_flatK, List.size_toArray] at hj
  rw [get_flatK _ _ _ _ (by rw [List.size_toArray]; exact hj), Nat.zero_add]
  refine ⟨?_, (h.cells j (by have := h.fits; omega)).2⟩
  obtain ⟨a1, a2⟩ := h.at_ (j := j / 2) (by omega)
  have e0 : L.toArray[j / 2]! = L[j / 2] := by simp [show j / 2 < L.length by omega]
  rw [e0]
  generalize L[j / 2] = x at *
  rcases (show j % 2 = 0 ∨ j % 2 = 1 by omega) with e | e
  · rw [e]
    have e2 : j / 2 * 2 = j := by omega
    rw [e2] at a1
    exact a1
  · rw [e]
    have e2 : j / 2 * 2 + 1 = j := by omega
    rw [e2] at a2
    exact a2
theorem Rw.sorted {w : World} {g c m : Nat} {L : List Nt} {d : Array Nt} {os : Array Obj} (h : Rw w g c L) (hd : d.size = L.length) : Rw (sortWorldK ntC 2 w g 0 m d os) g c d.toList := by
  obtain ⟨cur, h1, h2, h3, h4, h5⟩ := h
  have hlt := h1.lt
  refine ⟨(putCells id 0 (flatK ntC 2 d) cur.toArray).toList, ?_, by simpa [putCells] using h2, h3, by rw [Array.length_toList]; omega, ?_⟩
  · unfold Blk at h1 ⊢
    unfold sortWorldK putRowK putRow mapBlock
    simp only [grow, Sort.ahead]
    rw [Array.getElem?_append, if_pos (by simpa using hlt), Array.getElem?_modify, if_pos rfl, h1]
    rfl
  · apply List.ext_getElem?
    intro i
    rw [List.getElem?_take, Array.length_toList]
    by_cases hi : i < d.size * 2
    · rw [if_pos hi]
      have e := flatR_at ntC_len d.toList (i / 2) (by rw [Array.length_toList]; omega) (i % 2) (by omega)
      rw [show i / 2 * 2 + i % 2 = i by omega] at e
      rw [e]
      simp only [putCells, Array.toList_mapIdx, List.getElem?_mapIdx, List.getElem?_toArray, Array.getElem?_toList, Array.getElem?_mapIdx]
      rw [List.getElem?_eq_getElem (by omega), Option.map_some, if_pos ⟨by omega, by rw [size_flatK]; omega⟩, Nat.sub_zero, get_flatK _ _ _ _ hi, getElem!_pos d (i / 2) (by omega)]
      rcases (show i % 2 = 0 ∨ i % 2 = 1 by omega) with e | e <;> rw [e] <;> rfl
    · rw [if_neg hi, List.getElem?_eq_none (by rw [flatR_length ntC_len, Array.length_toList]; omega)]
theorem below_grow {B : Nat} {w0 w : World} (h : Below B w0 w) (hB : B ≤ w.heap.size) (os : Array Obj) : Below B w0 (grow w os) := by
  refine ⟨h.os, h.tape, h.output, Nat.le_trans h.size (by simp [grow]), fun k hk => ?_⟩
  rw [← h.block k hk]
  simp [grow, Array.getElem?_append, show k < w.heap.size by omega]
theorem below_sortWorldK {B : Nat} {w0 w : World} {g m : Nat} {d : Array Nt} {os : Array Obj} (h : Below B w0 w) (hg : B ≤ g) (hgw : g < w.heap.size) : Below B w0 (sortWorldK ntC 2 w g 0 m d os) := by
  unfold sortWorldK
  refine below_grow ?_ (by rw [show putRowK ntC 2 (Sort.ahead w m) g 0 d = putRow id (Sort.ahead w m) g 0 (flatK ntC 2 d) from rfl, size_putRow]; show B ≤ w.heap.size; omega) os
  exact below_putRow (enc := id) h hg
/-- What is sorted: the same nets, in their order. -/
def StPost (g c : Nat) (L : List Nt) (w : World) (e : Ending) (w' : World) : Prop := e = .returned (.tuple #[]) ∧ ∃ Y : List Nt, Rw w' g c Y ∧ Y.Perm L ∧ Y.Pairwise lexLe ∧ Below g w w'
theorem sortC_any (g n c : Nat) (L : List Nt) (w : World) (h : Rw w g c L) (hs : L.length = n) (hn : n ≤ 1000000) :
    Calls Tryz.prog 36 #[.slice (some ⟨g, 0, none⟩) n c, .func (.func 37) #[] #[]] w (StPost g c L w) := by
  subst hs
  have hg := h.lt
  have eg : ∀ args w, (callFunc 37 args).run Tryz.prog w = .ok (.enter 37 args) w := enters_of Tryz.func37 (by kernel_rfl) rfl
  have hcon := AnyQ.slices_SortFunc sortNt 2 Tryz.isAgg29 Tryz.sizeOf29 ntC ntC_len ntC_one ntCmp swo_nt 37 #[] g 0 c L.toArray w eg (fun _ _ _ _ x y => cmpNt_any x.1 x.2 y.1 y.2 _) h.holds hg (by rw [List.size_toArray]; omega)
  rw [List.size_toArray] at hcon
  refine hcon.mono ?_
  rintro e w' ⟨he, d', m, os, hp, hso, rfl⟩
  have hsz : d'.size = L.length := by rw [hp.1, List.size_toArray]
  refine ⟨he, d'.toList, h.sorted hsz, ?_, ?_, below_sortWorldK (Below.refl _ _) (Nat.le_refl _) hg⟩
  · have h1 : d'.extract 0 L.length = d' := by rw [← hsz]; simp
    have h2 : L.toArray.extract 0 L.length = L.toArray := by simp
    have h3 := hp.2.2
    rw [h1, h2] at h3
    exact h3
  · rw [List.pairwise_iff_getElem]
    intro i j hi hj hij
    rw [Array.length_toList] at hi hj
    have := hso i j (Nat.zero_le _) hij (by simpa [hsz] using hj)
    rw [ltOf_nt, getElem!_pos d' i hi, getElem!_pos d' j hj, ← Bool.not_eq_true, ntLt_iff] at this
    unfold lexLe
    simp only [Array.getElem_toList]
    omega
end Go.Proofs.YtddfgalofngoiaaGreatDoor
