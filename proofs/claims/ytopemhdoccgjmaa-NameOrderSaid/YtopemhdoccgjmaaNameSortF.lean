/- name.Sort: the names by their order, each once. Condition: a million names at most. -/
import Derived.Test.YtopemhdoccgjmaaCompact
import Derived.Test.YtopemhdoccgjmaaNameLaw
import Derived.Test.YtopemhdoccgjmaaRowR
import Derived.Test.YtopemhdoccgjmaaShelf
import Derived.Lib.SliceRun
import Derived.Lib.OwnBridge
import Derived.Shelf.SlSortCmp.NoneTotal
namespace Go.Proofs.Ytopemhdoccgjmaa
open Go.RowKit Go.Sort Go.Lib Go.Shelf
set_option linter.unusedVariables false
set_option linter.unusedSimpArgs false
theorem nmC_len (x : Nm) : (nmC x).length = 2 := rfl
theorem nmC_one (x : Nm) : ∀ v ∈ nmC x, v.oneCell' = true := by
  intro v hv
  simp only [nmC, List.mem_cons, List.mem_nil_iff, or_false] at hv
  rcases hv with rfl | rfl <;> rfl
theorem TN : RowTy Try.prog 38 24 2 32 (.agg #[.string (strB []), .string (strB [])]) := ⟨Try.underlying38, by kernel_rfl, rfl, by omega⟩
theorem RdN_eq : RdN = RdR nmC 2 := rfl
theorem OwnR.hn {w : World} {base g n c : Nat} {L : List Nm} (h : OwnR nmC 2 w base 24 (.slice (some ⟨g, 0, none⟩) n c) L) (hn : 0 < n) : HN w g L.toArray := by
  obtain ⟨g', cur, hA, _, hb, _, _, hc⟩ := h.blk nmC_len hn
  injection hA with hA
  injection hA with hA
  subst hA
  intro j hj
  rw [List.size_toArray] at hj
  have e : L.toArray[j]! = L[j] := by simp [hj]
  rw [e]
  refine ⟨⟨?_, ?_⟩, hb.frozen _, hb.frozen _⟩
  · rw [hb.cell, show j * 2 = j * 2 + 0 from rfl, hc j hj 0 (by omega)]; rfl
  · rw [hb.cell, hc j hj 1 (by omega)]; rfl
set_option maxRecDepth 100000 in
set_option maxHeartbeats 1000000 in
theorem cloneN_any (A : Option Addr) (n c : Nat) (L : List Nm) (w : World) (h : RdN w w.heap.size A n L) (hn : n ≤ 1000000) :
    Calls Try.prog 27 #[.slice A n c] w fun e w' => ∃ A' c', e = .returned (.slice A' n c') ∧ OwnR nmC 2 w' w.heap.size 24 (.slice A' n c') L ∧ Below w.heap.size w w' := by
  have q22 : ∀ (w : World) (a : Option Addr) (n c n' c' : Nat), (binOp .eql 38 (.slice a n c) (.slice none n' c')).run Try.prog w = .ok (.bool a.isNone) w := fun w a n c n' c' => Lib.run_eql_slice_nil w _ _ a n c n' c' Try.underlying38
  go_enter Try.func27, Try.ntmps27
  rcases A with _ | ad
  · have hn0 : n = 0 := by
      rcases Nat.eq_zero_or_pos n with h0 | h0
      · exact h0
      · obtain ⟨b, off, e, _⟩ := h.2 h0
        cases e
    subst hn0
    have hL : L = [] := List.eq_nil_of_length_eq_zero h.1
    subst hL
    go_wp2_with fail
    go_ret
    exact ⟨none, 0, rfl, OwnR.nil, Below.refl _ _⟩
  · go_wp2_with (first | (at_builtin; go_must (refine appendRow TN nmC_len nmC_one rfl rfl rfl (OwnR.empty (Nat.le_refl _)) rfl ((RdN_eq ▸ h : RdR nmC 2 w w.heap.size (some ad) n L).below ((Below.refl _ w).alloc (Nat.le_refl _) _)) (by omega) (by simp only [maxLen]; omega) ((Below.refl _ w).alloc (Nat.le_refl _) _) (Nat.le_refl _) ?_); intro A' c' w' o' b' g'; rw [Nat.zero_add, List.nil_append] at o'; try rw [Nat.zero_add]))
    go_ret
    exact ⟨A', c', rfl, o', b'⟩
theorem HN.holds {w : World} {g : Nat} {d : Array Nm} (h : HN w g d) : HoldsK nmC 2 w g 0 d := by
  intro j hj
  rw [size_flatK] at hj
  rw [get_flatK _ _ _ _ hj, Nat.zero_add]
  obtain ⟨⟨a1, a2⟩, a3, a4⟩ := h (j / 2) (by omega)
  rcases (show j % 2 = 0 ∨ j % 2 = 1 by omega) with e | e
  · rw [e, show j = j / 2 * 2 by omega]
    rw [show (j / 2 * 2) / 2 = j / 2 by omega]
    exact ⟨a1, a3⟩
  · rw [e]
    have e2 : j = j / 2 * 2 + 1 := by omega
    rw [e2, show (j / 2 * 2 + 1) / 2 = j / 2 by omega]
    exact ⟨a2, a4⟩
theorem HN.of_holds {w : World} {g : Nat} {d : Array Nm} (h : HoldsK nmC 2 w g 0 d) : HN w g d := by
  intro j hj
  obtain ⟨a1, a2⟩ := h.cell hj (c := 0) (by omega)
  obtain ⟨b1, b2⟩ := h.cell hj (c := 1) (by omega)
  rw [Nat.zero_add] at a1 a2 b1 b2
  exact ⟨⟨a1, b1⟩, a2, b2⟩
theorem below_grow {B : Nat} {w0 w : World} (h : Below B w0 w) (hB : B ≤ w.heap.size) (os : Array Obj) : Below B w0 (grow w os) := by
  refine ⟨h.os, h.tape, h.output, Nat.le_trans h.size (by simp [grow]), fun k hk => ?_⟩
  rw [← h.block k hk]
  simp [grow, Array.getElem?_append, show k < w.heap.size by omega]
theorem below_sortWorldK {B : Nat} {w0 w : World} {g m : Nat} {d : Array Nm} {os : Array Obj} (h : Below B w0 w) (hg : B ≤ g) (hgw : g < w.heap.size) : Below B w0 (sortWorldK nmC 2 w g 0 m d os) := by
  unfold sortWorldK
  refine below_grow ?_ (by rw [show putRowK nmC 2 (Sort.ahead w m) g 0 d = putRow id (Sort.ahead w m) g 0 (flatK nmC 2 d) from rfl, size_putRow]; show B ≤ w.heap.size; omega) os
  exact below_putRow (enc := id) h hg
theorem sortN_any (g n c : Nat) (d : Array Nm) (w : World) (h : HN w g d) (hs : d.size = n) (hn : n ≤ 1000000) (hg : g < w.heap.size) :
    Calls Try.prog 28 #[.slice (some ⟨g, 0, none⟩) n c, .func (.func 16) #[] #[]] w fun e w' => e = .returned (.tuple #[]) ∧ ∃ d', HN w' g d' ∧ d'.size = n ∧ PermIn 0 d.size d d' ∧ SortedIn nmLt 0 d'.size d' ∧ Below g w w' := by
  subst hs
  have eg : ∀ args w, (callFunc 16 args).run Try.prog w = .ok (.enter 16 args) w := enters_of Try.func16 (by kernel_rfl) rfl
  have hcon := AnyQ.slices_SortFunc sortNm 2 Try.isAgg24 Try.sizeOf24 nmC nmC_len nmC_one nmCmp swo_nm 16 #[] g 0 c d w eg (fun _ _ _ _ x y => cmp_grn x.1 x.2 y.1 y.2 _) h.holds hg (by omega)
  refine hcon.mono ?_
  rintro e w' ⟨he, d', m, os, hp, hso, rfl⟩
  refine ⟨he, d', HN.of_holds (holdsK_sortWorldK_c nmC 2 w g 0 d d' m os h.holds hg hp.1), hp.1, hp, ?_, below_sortWorldK (Below.refl _ _) (Nat.le_refl _) hg⟩
  rw [hp.1, ← ltOf_nm]
  exact hso
set_option maxRecDepth 100000 in
set_option maxHeartbeats 1000000 in
theorem compact_empty (A : Option Addr) (c : Nat) (w : World) :
    Calls Try.prog 29 #[.slice A 0 c] w fun e w' => e = .returned (.slice A 0 c) ∧ w' = w := by
  go_enter Try.func29, Try.ntmps29
  go_wp2_with fail
  go_ret
  exact ⟨rfl, rfl⟩
set_option maxRecDepth 100000 in
set_option maxHeartbeats 2000000 in
theorem nameSort_any (A : Option Addr) (n c : Nat) (L : List Nm) (w : World) (h : RdN w w.heap.size A n L) (hn : n ≤ 1000000) :
    Calls Try.prog 19 #[.slice A n c] w fun e w' => ∃ A' m c' X, e = .returned (.slice A' m c') ∧ RdN w' w'.heap.size A' m X ∧ Rising X ∧ (∀ x, x ∈ X ↔ x ∈ L) ∧ m ≤ n ∧ Below w.heap.size w w' := by
  have hl := h.1
  go_enter Try.func19, Try.ntmps19
  go_wp2_with fail
  refine (cloneN_any A n c L w h hn).mono ?_
  rintro e w1 ⟨A1, c1, rfl, o1, f1⟩
  rcases Nat.eq_zero_or_pos n with h0 | h0
  · subst h0
    have hL : L = [] := List.eq_nil_of_length_eq_zero hl
    subst hL
    go_wp2_with fail
    refine (AnyF.slices_SortFunc_none sortNm A1 c1 (.func (.func 16) #[] #[]) w1).mono ?_
    rintro e w2 ⟨rfl, rfl⟩
    go_wp2_with fail
    refine (compact_empty A1 c1 _).mono ?_
    rintro e w3 ⟨rfl, rfl⟩
    go_wp2_with fail
    go_ret
    exact ⟨A1, 0, c1, [], rfl, RdN.nil, List.Pairwise.nil, fun x => Iff.rfl, Nat.le_refl _, f1⟩
  · obtain ⟨g, cur, rfl, hg, hb, _⟩ := o1.blk nmC_len h0
    have hh := o1.hn h0
    have hcap := o1.cap
    go_wp2_with fail
    refine (sortN_any g n c1 L.toArray w1 hh (by rw [List.size_toArray]; exact hl) hn hb.lt).mono ?_
    rintro e w2 ⟨rfl, d', h2, hs2, hp, hso, f2⟩
    go_wp2_with fail
    refine (compact_any g n c1 d' w2 h2 hs2 hcap (by omega) (Nat.lt_of_lt_of_le hb.lt f2.size)).mono ?_
    rintro e w3 ⟨m, rfl, r3, f3⟩
    go_wp2_with fail
    go_ret
    refine ⟨_, m, c1, compactUpTo d' d'.size, rfl, r3, compact_rises d' hso, fun x => ?_, ?_, f1.trans ((f2.trans f3).mono hg)⟩
    · rw [compact_mem, perm_mem hp]
    · rw [← r3.1, ← hs2]
      unfold compactUpTo
      rw [List.length_map]
      exact Nat.le_trans (List.length_filter_le _ _) (by simp)
end Go.Proofs.Ytopemhdoccgjmaa
