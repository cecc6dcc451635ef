/- append to an empty row without room; append of one element as an operation. No condition. -/
import Derived.Test.YtdbjihpdfiipcaaGreatOwnG
namespace Go.Proofs.YtdbjihpdfiipcaaGreat
open Go.RowKit
set_option linter.unusedVariables false
section
variable {α : Type} {enc : α → List Value} {k : Nat} {P : World → Nat → List Value → α → Prop}
/-- 'append([]T{}, x...)': nothing that was there is written. -/
theorem run_append0 {Pr : Program} {t e : TypeId} {bytes : Nat} {z : Value} (T : RowTy Pr t e k bytes z) (hk : ∀ x, (enc x).length = k) (h1 : ∀ x, ∀ v ∈ enc x, v.oneCell' = true) (ty : TypeId) {w : World} {g base : Nat} (hb : Blk w g e []) (hg : base ≤ g)
    {B : Nat} {A2 : Option Addr} {m c2 : Nat} {L2 : List α} (hr : RdR enc k w B A2 m L2) (hlen : m * bytes ≤ 140737488355328) (hmax : m ≤ maxLen) :
    ∃ A' c' w', (Builtin.append_ #[t, t] ty #[.slice (some ⟨g, 0, none⟩) 0 0, .slice A2 m c2]).run Pr w = .ok (.slice A' m c') w' ∧ OwnR enc k w' base e (.slice A' m c') L2 ∧ Below w.heap.size w w' := by
  have hown : OwnR enc k w base e (.slice (some ⟨g, 0, none⟩) 0 0) ([] : List α) := ⟨by simp [flatR], .inr ⟨g, 0, #[], rfl, hg, hb, Nat.le_refl _, Nat.zero_le _, by simp, by simp [flatR]⟩⟩
  obtain ⟨A', c', w', hrun, h2, h3⟩ := run_appendRow T hk h1 ty hown hr c2 (by rw [Nat.zero_add]; exact hlen) (by rw [Nat.zero_add]; exact hmax) (by have := hb.lt; omega)
  rw [Nat.zero_add, List.nil_append] at *
  refine ⟨A', c', w', hrun, h2, ?_⟩
  have hgw : w'.heap[g]? = w.heap[g]? := by
    obtain ⟨i, hi, hz0, hz1, hz2⟩ := info_parts T.info
    have h63 : m ≤ 9223372036854775807 := by simp only [maxLen] at hmax; omega
    rcases A2 with _ | ad
    · have hm : m = 0 := by
        rcases Nat.eq_zero_or_pos m with h0 | h0
        · exact h0
        · obtain ⟨b, off, h, _⟩ := hr.2 h0
          cases h
      subst hm
      rw [run_append_nilR T ty hown c2] at hrun
      injection hrun with _ hw
      rw [hw]
    · have hl2 := hr.1
      subst hz1 hz2
      rcases Nat.eq_zero_or_pos m with h0 | h0
      · subst h0
        have hnil : L2 = [] := List.eq_nil_of_length_eq_zero hl2
        subst hnil
        rw [run_append_room (P := Pr) w t ty e i T.sl hi g 0 0 #[] hb ad 0 c2 [] (by simp) (by simp) (by simp) (Nat.le_refl _) (by simp)] at hrun
        injection hrun with _ hw
        rw [← hw, setRow_heap w g #[] _ e (0, 0) hb, hb]
        simp
      · rw [run_append_grow (P := Pr) w t ty e i z T.sl hi hz0 ⟨g, 0, none⟩ 0 0 [] (by simp) (by simp) ad m c2 (flatR enc L2) (by rw [flatR_length hk, hl2]) (hr.news hk) (by omega) (by omega) (growslice_fits (by omega) (by rw [Nat.zero_add]; exact hlen))] at hrun
        injection hrun with _ hw
        rw [← hw]
        exact Below.heap_alloc w.drew _ g hb.lt
  exact ⟨h3.os, h3.tape, h3.output, h3.size, fun q hq => by
    by_cases e : q = g
    · subst e; exact hgw
    · exact h3.block q hq (by simp [Value.ownBlock, e])⟩
theorem wp_append0 {Pr : Program} {t e : TypeId} {bytes : Nat} {z : Value} (T : RowTy Pr t e k bytes z) (hk : ∀ x, (enc x).length = k) (h1 : ∀ x, ∀ v ∈ enc x, v.oneCell' = true) {o : Oper} {a : Act} {K : Act → World → Prop} {Q : Exit → Act → World → Prop} {w : World}
    {s x : Operand} (ho : o.op = .call { callee := .builtin .append, args := #[s, x], argTypes := #[t, t] }) {g base : Nat} (hs : a.eval s = .slice (some ⟨g, 0, none⟩) 0 0) (hb : Blk w g e []) (hg : base ≤ g)
    {B : Nat} {A2 : Option Addr} {m c2 : Nat} {L2 : List α} (hx : a.eval x = .slice A2 m c2) (hr : RdR enc k w B A2 m L2) (hlen : m * bytes ≤ 140737488355328) (hmax : m ≤ maxLen)
    (h : ∀ A' c' w', OwnR enc k w' base e (.slice A' m c') L2 → Below w.heap.size w w' → K (a.put o.dst (.slice A' m c')) w') : o.wp Pr a w K Q := by
  obtain ⟨A', c', w', hrun, h2, h3⟩ := run_append0 T hk h1 o.type hb hg hr hlen hmax (c2 := c2)
  unfold Oper.wp execOp
  simp only [ho, resolve, invoke, builtin, Sem.run_bind, Sem.run_pure, Result.andThen_ok, List.map_toArray, List.map_cons, List.map_nil, hs, hx, hrun]
  exact h A' c' w' h2 h3
/-- append of one element, as an operation. -/
theorem wp_appendOwn1 {Pr : Program} {t e : TypeId} {bytes : Nat} {z : Value} (T : RowTy Pr t e k bytes z) (hP : Mn P) {o : Oper} {a : Act} {K : Act → World → Prop} {Q : Exit → Act → World → Prop} {w : World}
    {s x : Operand} (ho : o.op = .call { callee := .builtin .append, args := #[s, x], argTypes := #[t, t] }) {base n c : Nat} {A : Option Addr} {L : List α} (hs : a.eval s = .slice A n c) (hown : OwnG k P w base e (.slice A n c) L)
    {ad : Addr} {c2 : Nat} {cs : List Value} {y : α} (hx : a.eval x = .slice (some ad) 1 c2) (hk : cs.length = k) (h1 : ∀ u ∈ cs, u.oneCell' = true) (hc : ∀ j u, cs[j]? = some u → w.cell? (ad.add j) = some u) (hy : P (mineW base (Value.slice A n c).ownBlock w) w.heap.size cs y)
    (hlen : (n + 1) * bytes ≤ 140737488355328) (hmax : n + 1 ≤ maxLen) (hbase : base ≤ w.heap.size)
    (h : ∀ A' c' w', OwnG k P w' base e (.slice A' (n + 1) c') (L ++ [y]) → w.grownBy w' (Value.slice A n c).ownBlock → K (a.put o.dst (.slice A' (n + 1) c')) w') : o.wp Pr a w K Q := by
  obtain ⟨A', c', w', hrun, h2, h3⟩ := run_appendOwn1 T hP o.type hown hk h1 hc hy hlen hmax hbase (c2 := c2)
  unfold Oper.wp execOp
  simp only [ho, resolve, invoke, builtin, Sem.run_bind, Sem.run_pure, Result.andThen_ok, List.map_toArray, List.map_cons, List.map_nil, hs, hx, hrun]
  exact h A' c' w' h2 h3
theorem appendOwn1 {Pr : Program} {t e : TypeId} {bytes : Nat} {z : Value} (T : RowTy Pr t e k bytes z) (hP : Mn P) {ops : Array Oper} {rest : List Oper} {o : Oper} {a : Act} {Q : Exit → Act → World → Prop} {w : World} (hgd : o.guard = none)
    {s x : Operand} (ho : o.op = .call { callee := .builtin .append, args := #[s, x], argTypes := #[t, t] }) {base n c : Nat} {A : Option Addr} {L : List α} (hs : a.eval s = .slice A n c) (hown : OwnG k P w base e (.slice A n c) L)
    {ad : Addr} {c2 : Nat} {cs : List Value} {y : α} (hx : a.eval x = .slice (some ad) 1 c2) (hk : cs.length = k) (h1 : ∀ u ∈ cs, u.oneCell' = true) (hc : ∀ j u, cs[j]? = some u → w.cell? (ad.add j) = some u) (hy : P (mineW base (Value.slice A n c).ownBlock w) w.heap.size cs y)
    (hlen : (n + 1) * bytes ≤ 140737488355328) (hmax : n + 1 ≤ maxLen) (hbase : base ≤ w.heap.size)
    (h : ∀ A' c' w', OwnG k P w' base e (.slice A' (n + 1) c') (L ++ [y]) → w.grownBy w' (Value.slice A n c).ownBlock → wpList Pr ops Q rest (a.put o.dst (.slice A' (n + 1) c')) w') : wpList Pr ops Q (o :: rest) a w :=
  wpList_plain hgd fun _ hK => wp_appendOwn1 T hP ho hs hown hx hk h1 hc hy hlen hmax hbase fun A' c' w' h1 h2 => hK _ _ (h A' c' w' h1 h2)
/-- A cell row newly laid. -/
theorem new_cells (w : World) (cs : List Value) (t : Nat) : ∀ j u, cs[j]? = some u → (w.alloc (.cells cs.toArray t)).cell? ((⟨w.heap.size, 0, none⟩ : Addr).add j) = some u := by
  intro j u hu
  rw [show (⟨w.heap.size, 0, none⟩ : Addr).add j = ⟨w.heap.size, j, none⟩ from by unfold Addr.add; split <;> simp_all, (Blk.newAt (w := w) rfl t cs.toArray).cell]
  simpa using hu
/-- What is one's own in newer memory, in a world with a newer block. -/
theorem Sub.own1 {w : World} {base lo B : Nat} {g : Option Nat} (o : Obj) (hb : base ≤ lo) (hg : ∀ b, g = some b → b < lo) (hB : B ≤ w.heap.size) : Sub B (mineW lo none w) (mineW base g (w.alloc o)) :=
  (Sub.fresh (B := B) hb hg).trans (Sub.off (X := fun _ => False) ((Off.refl _ _).alloc _) hB (Nat.le_refl _) (fun _ _ _ _ => id) fun _ h => .inl h)
theorem OwnR.grownG {w w' : World} {base e : Nat} {v : Value} {L : List α} (h : OwnR enc k w base e v L) {row : Option Nat} (hg : w.grownBy w' row) (hr : ∀ b, row = some b → b < base) : OwnR enc k w' base e v L := by
  refine ⟨h.1, ?_⟩
  rcases h.2 with hn | ⟨g, cap, cur, h1, h2, h3, h4⟩
  · exact .inl hn
  · exact .inr ⟨g, cap, cur, h1, h2, (hg.block g (Array.getElem?_eq_some_iff.1 h3).1 (fun e => by have := hr g e.symm; omega)).trans h3, h4⟩
/-- A row of plain cells of the call's own, as a value. -/
theorem OwnR.rvm {w : World} {base e : Nat} {A : Option Addr} {n c : Nat} {L : List α} (hk : ∀ x, (enc x).length = k) (h : OwnR enc k w base e (.slice A n c) L) : RvR enc k (mineW base none w) w.heap.size (.slice A n c) L := by
  have hl := h.len
  have hc : c ≤ maxLen := by
    rcases h.2 with ⟨h1, h2⟩ | ⟨g, cap, cur, h1, h2, h3, h4, h5, h6, h7⟩
    · injection h1 with _ _ h3; omega
    · injection h1 with _ _ h3; omega
  refine ⟨A, n, c, rfl, h.cap, hc, hl, fun hn => ?_⟩
  obtain ⟨g, cur, hA, hg, hb, _, _, hcc⟩ := h.blk hk hn
  refine ⟨g, 0, hA, hb.lt, fun j hj i v hv => ?_⟩
  have hi : i < k := by
    have := (List.getElem?_eq_some_iff.1 hv).1
    rw [hk] at this
    exact this
  refine mineW_of ?_ hg (by simp) hb
  rw [Nat.zero_add, hb.cell, hcc j hj i hi]
  exact hv
end
end Go.Proofs.YtdbjihpdfiipcaaGreat
