/- append(row, others...): a row of the call's own, and a row that is only read. No condition. -/
import Derived.Test.YtpcdmbajfmnoiaaGreatDoorTxAll
namespace Go.Proofs.YtpcdmbajfmnoiaaGreatDoor
open Go.RowKit
set_option linter.unusedVariables false
set_option linter.unusedSimpArgs false
/-- The cells of a row that is only read, in one. -/
theorem RdG.cells {α : Type} {k : Nat} {P : World → Nat → List Value → α → Prop} {w : World} {B n : Nat} {b off : Nat} : ∀ {L : List α}, (∀ j (hj : j < L.length), ∃ cs, cs.length = k ∧ P w B cs L[j] ∧ ∀ i v, cs[i]? = some v → w.cell? ⟨b, off + j * k + i, none⟩ = some v) →
  ∃ css : List (List Value), css.length = L.length ∧ (∀ cs ∈ css, cs.length = k) ∧ (∀ j (hj : j < L.length) (hc : j < css.length), P w B css[j] L[j]) ∧ ∀ i v, css.flatten[i]? = some v → w.cell? ⟨b, off + i, none⟩ = some v := by
 intro L h
 induction L generalizing off with
 | nil => exact ⟨[], rfl, by simp, fun j hj => absurd hj (by simp), fun i v hv => by simp at hv⟩
 | cons x L ih =>
  obtain ⟨cs, h1, h2, h3⟩ := h 0 (by simp)
  obtain ⟨css, g1, g2, g3, g4⟩ := ih (off := off + k) fun j hj => by
   obtain ⟨ds, d1, d2, d3⟩ := h (j + 1) (by simpa using hj)
   refine ⟨ds, d1, by simpa using d2, fun i v hv => ?_⟩
   have := d3 i v hv
   rw [show off + (j + 1) * k + i = off + k + j * k + i from by rw [Nat.add_mul, Nat.one_mul]; omega] at this
   exact this
  refine ⟨cs :: css, by simp [g1], ?_, ?_, ?_⟩
  ·intro ds hds
   rcases List.mem_cons.1 hds with e | e
   ·rw [e]; exact h1
   ·exact g2 ds e
  ·intro j hj hc
   rcases j with _ | j
   ·exact h2
   ·simpa using g3 j (by simpa using hj) (by simpa using hc)
  ·intro i v hv
   rw [List.flatten_cons] at hv
   by_cases hi : i < cs.length
   ·rw [List.getElem?_append_left hi] at hv
    have := h3 i v hv
    rwa [Nat.zero_mul, Nat.add_zero] at this
   ·rw [List.getElem?_append_right (by omega)] at hv
    have := g4 (i - cs.length) v hv
    rw [h1] at this
    rwa [show off + k + (i - k) = off + i from by omega] at this
theorem flat_cell {k : Nat} {v : Value} : ∀ {css : List (List Value)} (hk : ∀ cs ∈ css, cs.length = k) {j i : Nat} (hj : j < css.length), css[j][i]? = some v → css.flatten[j * k + i]? = some v
 | [], _, j, i, hj, _ => absurd hj (by simp)
 | cs :: css, hk, j, i, hj, h => by
  have h1 := hk cs (List.mem_cons_self)
  rw [List.flatten_cons]
  rcases j with _ | j
  ·have hi := (List.getElem?_eq_some_iff.1 h).1
   simp only [List.getElem_cons_zero] at h hi
   rw [Nat.zero_mul, Nat.zero_add, List.getElem?_append_left hi]
   exact h
  ·rw [List.getElem?_append_right (by rw [h1, Nat.add_mul, Nat.one_mul]; omega), h1, show (j + 1) * k + i - k = j * k + i from by rw [Nat.add_mul, Nat.one_mul]; omega]
   exact flat_cell (fun c hc => hk c (List.mem_cons_of_mem _ hc)) (by simpa using hj) (by simpa using h)
section
variable {P : World → Nat → List Value → Po → Prop}
/-- A row of the call's own, whose cells are known, and what is behind them: as a row that is only read. -/
theorem rdG_of_own {α : Type} {k : Nat} {Q : World → Nat → List Value → α → Prop} {w : World} {base e : Nat} {A : Option Addr} {n c : Nat} {css : List (List Value)} {L : List α} (hk : ∀ cs ∈ css, cs.length = k) (hl : css.length = L.length) (h : w.ownsRow base e k (.slice A n c) n css.flatten) (hn : L.length = n)
  (hP : ∀ j (hj : j < L.length) (hc : j < css.length), Q w w.heap.size css[j] L[j]) : RdG k Q w w.heap.size A n L := by
 refine ⟨hn, fun hpos => ?_⟩
 rcases h.2 with ⟨h1, h2⟩ | ⟨g, cap, cur, h1, h2, h3, h4, h5, h6, h7⟩
 ·omega
 ·injection h1 with h1 _ _
  subst h1
  have hlt := (Array.getElem?_eq_some_iff.1 h3).1
  refine ⟨g, 0, rfl, hlt, fun j hj => ?_⟩
  have hjc : j < css.length := by omega
  refine ⟨css[j], hk _ (List.getElem_mem hjc), hP j hj hjc, fun i v hv => ?_⟩
  have hi : i < k := by rw [← hk _ (List.getElem_mem hjc)]; exact (List.getElem?_eq_some_iff.1 hv).1
  have hfl : css.flatten[j * k + i]? = some v := flat_cell hk hjc hv
  have hlen : j * k + i < n * k := by
   have : (j + 1) * k ≤ n * k := Nat.mul_le_mul_right k (by omega)
   rw [Nat.add_mul, Nat.one_mul] at this
   omega
  have hcur : cur.toList[j * k + i]? = some v := by
   rw [← h7, List.getElem?_take, if_pos hlen] at hfl
   exact hfl
  have hb : Blk w g e cur.toList := by unfold Blk; simpa using h3
  rw [Nat.zero_add, hb.cell]
  exact hcur
end
theorem run_append_nilArg {Pr : Program} {t e ty : TypeId} {A : Option Addr} {n c c2 : Nat} (hu : Pr.underlying t = some (.slice e)) {i : TypeInfo} (hi : Pr.info? e = some i) (w : World) (hn : n ≤ c) : (Builtin.append_ #[t, t] ty #[.slice A n c, .slice none 0 c2]).run Pr w = .ok (.slice A n c) w := by
 simp [Builtin.append_, run_underlying hu, sizeOf, typeInfo, hi, Builtin.lenOf, hn]
 cases A <;> simp [Builtin.firstCells, storeCells]
/-- append of a row that is only read to a row of the call's own. -/
theorem run_appG {α : Type} {k : Nat} {Q : World → Nat → List Value → α → Prop} {Pr : Program} {t e : TypeId} {bytes : Nat} {z : Value} (T : RowTy Pr t e k bytes z) (h1 : ∀ w B cs x, Q w B cs x → ∀ v ∈ cs, v.oneCell' = true) (ty : TypeId) {w : World} {base : Nat} {A : Option Addr} {n c : Nat} {xs : List Value} (hown : w.ownsRow base e k (.slice A n c) n xs) (hnc : n ≤ c)
  {B : Nat} {A2 : Option Addr} {m : Nat} {L2 : List α} (hr : RdG k Q w B A2 m L2) (c2 : Nat) (hlen : (n + m) * bytes ≤ 140737488355328) (hmax : n + m ≤ maxLen) (hbase : base ≤ w.heap.size) :
  ∃ (A' : Option Addr) (c' : Nat) (w' : World) (css : List (List Value)), (Builtin.append_ #[t, t] ty #[.slice A n c, .slice A2 m c2]).run Pr w = .ok (.slice A' (n + m) c') w' ∧ n + m ≤ c' ∧ w'.ownsRow base e k (.slice A' (n + m) c') (n + m) (xs ++ css.flatten) ∧ w.grownBy w' (Value.slice A n c).ownBlock ∧
   css.length = L2.length ∧ (∀ cs ∈ css, cs.length = k) ∧ ∀ j (hj : j < L2.length) (hc : j < css.length), Q w B css[j] L2[j] := by
 obtain ⟨i, hi, hz0, hz1, hz2⟩ := info_parts T.info
 have hl2 := hr.1
 rcases Nat.eq_zero_or_pos m with h0 | h0
 ·subst h0
  have hn : L2 = [] := List.eq_nil_of_length_eq_zero hl2
  subst hn
  rcases A2 with _ | ad
  ·exact ⟨A, c, w, [], run_append_nilArg T.sl hi w hnc, hnc, by rw [List.flatten_nil, List.append_nil]; exact hown, World.grownBy.refl w _, rfl, by simp, fun j hj => absurd hj (by simp)⟩
  ·obtain ⟨v', w', hrun, h2, h3, _⟩ := run_append_own (P := Pr) w base t ty e i z k bytes T.sl hi hz0 hz1 hz2 T.zs T.k0 (.slice A n c) n xs hown ad 0 c2 [] (by simp) (fun j u hu => by simp at hu) (by simp) hmax hlen hbase
   obtain ⟨A', c', rfl⟩ := OwnR.form h2
   refine ⟨A', c', w', [], hrun, ?_, by simpa using h2, h3, rfl, by simp, fun j hj => absurd hj (by simp)⟩
   rcases h2.2 with ⟨e1, _⟩ | ⟨g, cap, cur, e1, _, _, e2, _⟩
   ·injection e1 with _ e3 e4; omega
   ·injection e1 with _ e3 e4; omega
 ·obtain ⟨b, off, rfl, hb, hcs⟩ := hr.2 h0
  obtain ⟨css, g1, g2, g3, g4⟩ := RdG.cells (n := m) hcs
  have hfl : css.flatten.length = m * k := by
   rw [← hl2, ← g1]
   clear g1 g3 g4
   induction css with
   | nil => simp
   | cons cs css ih => rw [List.flatten_cons, List.length_append, g2 cs (List.mem_cons_self), ih fun c hc => g2 c (List.mem_cons_of_mem _ hc), List.length_cons, Nat.add_mul, Nat.one_mul, Nat.add_comm]
  have hone : ∀ u ∈ css.flatten, u.oneCell' = true := by
   intro u hu
   obtain ⟨cs, hc, hu⟩ := List.mem_flatten.1 hu
   obtain ⟨j, hj, rfl⟩ := List.mem_iff_getElem.1 hc
   exact h1 _ _ _ _ (g3 j (by omega) hj) u hu
  obtain ⟨v', w', hrun, h2, h3, _⟩ := run_append_own (P := Pr) w base t ty e i z k bytes T.sl hi hz0 hz1 hz2 T.zs T.k0 (.slice A n c) n xs hown ⟨b, off, none⟩ m c2 css.flatten hfl (fun j u hu => by
   have := g4 j u hu
   rw [show (⟨b, off, none⟩ : Addr).add j = ⟨b, off + j, none⟩ from by unfold Addr.add; split <;> simp_all]
   exact this) hone hmax hlen hbase
  obtain ⟨A', c', rfl⟩ := OwnR.form h2
  refine ⟨A', c', w', css, hrun, ?_, h2, h3, g1, g2, g3⟩
  rcases h2.2 with ⟨e1, _⟩ | ⟨g, cap, cur, e1, _, _, e2, _⟩
  ·injection e1 with _ e3 e4; omega
  ·injection e1 with _ e3 e4; omega
end Go.Proofs.YtpcdmbajfmnoiaaGreatDoor
