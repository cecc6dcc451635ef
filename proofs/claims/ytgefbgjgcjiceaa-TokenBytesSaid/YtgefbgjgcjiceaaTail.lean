/- 'append' onto a row whose mark stands behind its cells ('[]byte' of a text leaves such a one). Condition: the bytes are at most 2^47. -/
import Derived.Test.YtgefbgjgcjiceaaIdx
namespace Go.Proofs.Ytgefbgjgcjiceaa
open Go.RowKit
set_option linter.unusedVariables false
def OwnM (w : World) (base e : Nat) (v : Value) (l : List UInt8) : Prop :=
  ∃ g cap cur fz, v = .slice (some ⟨g, 0, none⟩) l.length cap ∧ base ≤ g ∧ w.heap[g]? = some (.cells cur e fz) ∧ (cur.size ≤ fz.1 ∨ fz.2 ≤ fz.1) ∧ l.length ≤ cap ∧ cap ≤ maxLen ∧ cur.size = cap ∧ cur.toList.take l.length = bvs l
theorem run_storeCells_atM (P : Program) (g o : Nat) (t : TypeId) (fz : Nat × Nat) : ∀ (vs : List Value) (i : Nat) (cur : Array Value) (w : World), w.heap[g]? = some (.cells cur t fz) → (cur.size ≤ fz.1 ∨ fz.2 ≤ fz.1) → o + i + vs.length ≤ cur.size → (∀ v ∈ vs, v.oneCell' = true) →
    (storeCells ⟨g, o, none⟩ vs i).run P w = .ok () (w.setRow g (cur.toList.take (o + i) ++ vs ++ cur.toList.drop (o + i + vs.length)).toArray)
  | [], i, cur, w, hg, _, _, _ => by
    simp only [storeCells, List.append_nil, List.length_nil, Nat.add_zero, List.take_append_drop, Array.toArray_toList]
    rw [setRow_self w g cur t fz hg]
    rfl
  | v :: rest, i, cur, w, hg, hfz, hl, h1 => by
    have hi : o + i < cur.size := by simp at hl; omega
    have hadd : (⟨g, o, none⟩ : Addr).add i = ⟨g, o + i, none⟩ := by unfold Addr.add; split <;> simp_all
    have hcell : w.cell? ⟨g, o + i, none⟩ = some cur[o + i] := by simp [World.cell?, hg, hi]
    have hfro : w.frozen? ⟨g, o + i, none⟩ = false := by
      obtain ⟨lo, hi'⟩ := fz
      simp only [World.frozen?, hg, Bool.and_eq_false_iff, decide_eq_false_iff_not]
      simp only at hfz
      omega
    have hst : (store ((⟨g, o, none⟩ : Addr).add i) v).run P w = .ok () (w.setRow g (cur.setIfInBounds (o + i) v)) := by
      rw [hadd, run_store P w _ v _ (h1 v (by simp)), hcell]
      simp [hfro, setCell_eq_setRow w g (o + i) cur t fz v hg]
    have ih := run_storeCells_atM P g o t fz rest (i + 1) (cur.setIfInBounds (o + i) v) (w.setRow g (cur.setIfInBounds (o + i) v)) (setRow_heap w g cur _ t _ hg) (by simpa using hfz) (by simp at hl ⊢; omega) (fun x hx => h1 x (by simp [hx]))
    simp only [storeCells, Sem.run_bind, hst, Result.andThen_ok, ih, setRow_setRow]
    congr 3
    have e := list_seg_step cur.toList (o + i) v rest (by simp at hl ⊢; omega)
    simpa [Array.toList_setIfInBounds, Nat.add_assoc] using e
theorem OwnM.cells {w : World} {base e : Nat} {g n c : Nat} {l : List UInt8} (h : OwnM w base e (.slice (some ⟨g, 0, none⟩) n c) l) {j : Nat} (hj : j < l.length) : w.cell? ⟨g, j, none⟩ = some (bv l[j]) := by
  obtain ⟨g', cap, cur, fz, h1, hb, hg, hf, hn, hc, hs, ht⟩ := h
  injection h1 with h1 _ _
  injection h1 with h1
  injection h1 with h1 _ _
  subst h1
  have hjc : j < cur.size := by omega
  have h2 : (cur.toList.take l.length)[j]? = some (bv l[j]) := by rw [ht]; simp [bvs, hj]
  rw [List.getElem?_take, if_pos hj] at h2
  simp only [World.cell?, hg]
  simpa using h2
theorem OwnM.form {w : World} {base e : Nat} {v : Value} {l : List UInt8} (h : OwnM w base e v l) : ∃ g c, v = .slice (some ⟨g, 0, none⟩) l.length c ∧ base ≤ g ∧ g < w.heap.size := by
  obtain ⟨g', cap, cur, fz, h1, hb, hg, _⟩ := h
  exact ⟨_, _, h1, hb, (Array.getElem?_eq_some_iff.1 hg).1⟩
theorem OwnM.rd {w : World} {base e : Nat} {A : Option Addr} {n c : Nat} {l : List UInt8} (h : OwnM w base e (.slice A n c) l) : RdB w w.heap.size A n l := by
  obtain ⟨g, c', h1, hb, hlt⟩ := h.form
  injection h1 with h2 h3 h4
  subst h2 h3 h4
  exact ⟨rfl, fun _ => ⟨g, 0, rfl, hlt, fun j hj => by rw [Nat.zero_add]; exact h.cells hj⟩⟩
theorem OwnM.alloc {w : World} {base e : Nat} {v : Value} {l : List UInt8} (h : OwnM w base e v l) (o : Obj) : OwnM (w.alloc o) base e v l := by
  obtain ⟨g', cap, cur, fz, h1, hb, hg, h2⟩ := h
  exact ⟨g', cap, cur, fz, h1, hb, (Below.heap_alloc w o g' (Array.getElem?_eq_some_iff.1 hg).1).trans hg, h2⟩
theorem OwnM.below {w w' : World} {base e : Nat} {v : Value} {l : List UInt8} (h : OwnM w base e v l) {B : Nat} (hB : w.heap.size ≤ B) (hb : Below B w w') : OwnM w' base e v l := by
  obtain ⟨g', cap, cur, fz, h1, hbb, hg, h2⟩ := h
  exact ⟨g', cap, cur, fz, h1, hbb, (hb.block g' (by have := (Array.getElem?_eq_some_iff.1 hg).1; omega)).trans hg, h2⟩
theorem OwnM.of_eq {w : World} {base e : Nat} {v : Value} {l m : List UInt8} (h : OwnM w base e v l) (e1 : l = m) : OwnM w base e v m := e1 ▸ h
theorem OwnM.conv (w : World) (e : TypeId) (s : List UInt8) (hs : s.length ≤ 140737488355328) : OwnM (Lib.bytesWorld w e (strB s)) w.heap.size e (.slice (some ⟨w.heap.size, 0, none⟩) s.length (grownCap w s.length 0 e)) s := by
  have hsz : (Lib.bytesCells w e (strB s)).size = grownCap w s.length 0 e := by
    have := grownCap_ge w s.length 0 e
    simp [Lib.bytesCells, strB_size]
    omega
  refine ⟨w.heap.size, _, _, _, rfl, Nat.le_refl _, Lib.bytesWorld_at_new w e (strB s), .inl (Nat.le_refl _), grownCap_ge w s.length 0 e, grownCap_le_maxLen w s.length 0 e (by simp only [maxLen]; omega), hsz, ?_⟩
  refine List.ext_getElem? fun j => ?_
  by_cases hj : j < s.length
  · rw [List.getElem?_take, if_pos hj]
    have h1 := Lib.bytesWorld_cell w e (strB s) j (by rw [strB_size]; exact hj)
    simp only [World.cell?, Lib.bytesWorld_at_new] at h1
    simp only [Array.getElem?_toList]
    simp only [Option.isSome_none, Bool.false_eq_true, if_false] at h1
    rw [h1]
    simp [strB, bv, bvs, List.getD, hj]
  · rw [List.getElem?_eq_none (by simp; omega), List.getElem?_eq_none (by simp [bvs]; omega)]
theorem run_appendM {P : Program} {t e : TypeId} (T : ByteTy P t e) (ty : TypeId) {w : World} {base : Nat} {A : Option Addr} {n c : Nat} {l : List UInt8} (hown : OwnM w base e (.slice A n c) l)
    {ad : Addr} {m : Nat} {l2 : List UInt8} (hl2 : l2.length = m) (hcells : ∀ j u, (bvs l2)[j]? = some u → w.cell? (ad.add j) = some u) (c2 : Nat) (hlen : n + m ≤ 140737488355328) (hbase : base ≤ w.heap.size) :
    ∃ A' c' w', (Builtin.append_ #[t, t] ty #[.slice A n c, .slice (some ad) m c2]).run P w = .ok (.slice A' (n + m) c') w' ∧ OwnM w' base e (.slice A' (n + m) c') (l ++ l2) ∧ w.grownBy w' (Value.slice A n c).ownBlock := by
  obtain ⟨i, hi, hz0, hz1, hz2⟩ := info_parts T.info
  have hown0 := hown
  obtain ⟨g, cap, cur, fz, h1, hb, hg, hf, hn, hc, hs, ht⟩ := hown
  injection h1 with h2 h3 h4
  subst h2 h3 h4
  have hb2 : (bvs l2).length = m * i.size := by rw [bvs_length, hz1, hl2, Nat.mul_one]
  by_cases hroom : l.length + m ≤ c
  · have hfc := run_firstCells_some (P := P) w i.size m ad m c2 (bvs l2) hb2 hcells
    have hst := run_storeCells_atM P g l.length e fz (bvs l2) 0 cur w hg hf (by rw [bvs_length]; omega) (bvs_one l2)
    simp only [Nat.add_zero] at hst
    rw [hz1] at hfc
    have hr : (Builtin.append_ #[t, t] ty #[.slice (some ⟨g, 0, none⟩) l.length c, .slice (some ad) m c2]).run P w = .ok (.slice (some ⟨g, 0, none⟩) (l.length + m) c) (w.setRow g (cur.toList.take l.length ++ bvs l2 ++ cur.toList.drop (l.length + (bvs l2).length)).toArray) := by
      simp [Builtin.append_, run_underlying T.sl, sizeOf, typeInfo, hi, hz1, Builtin.lenOf, hroom, hfc, Addr.add_lit, hst]
    have hsz : (cur.toList.take l.length ++ bvs l2 ++ cur.toList.drop (l.length + (bvs l2).length)).toArray.size = c := by
      simp only [List.size_toArray, List.length_append, List.length_take, List.length_drop, Array.length_toList, bvs_length]
      omega
    refine ⟨_, _, _, hr, ⟨g, c, _, fz, ?_, hb, setRow_heap w g cur _ e _ hg, ?_, ?_, hc, hsz, ?_⟩, ⟨rfl, rfl, rfl, by simp, fun k _ hk => setRow_other w g k _ (fun e => hk (by simp [Value.ownBlock, e]))⟩⟩
    · rw [List.length_append, hl2]
    · rw [hsz, ← hs]; exact hf
    · rw [List.length_append, hl2]; exact hroom
    · rw [ht, bvs_append]
      simp only [List.append_assoc]
      rw [← List.append_assoc, show (l ++ l2).length = (bvs l ++ bvs l2).length from by simp [bvs]]
      exact List.take_left
  · have holds : ∀ j u, (bvs l)[j]? = some u → w.cell? ((⟨g, 0, none⟩ : Addr).add j) = some u := by
      intro j u hu
      obtain ⟨hj, hu⟩ := List.getElem?_eq_some_iff.1 hu
      rw [bvs_length] at hj
      rw [show (⟨g, 0, none⟩ : Addr).add j = ⟨g, j, none⟩ from by unfold Addr.add; split <;> simp_all, hown0.cells hj, ← hu]
      simp [bvs]
    have hr := run_append_grow (P := P) w t ty e i (.int .u8 0) T.sl hi hz0 ⟨g, 0, none⟩ l.length c (bvs l) (by rw [bvs_length, hz1]; omega) holds ad m c2 (bvs l2) hb2 hcells (by omega) (by omega) (growslice_fits (by omega) (by rw [hz2]; omega))
    have hge := grownCap_ge w (l.length + m) c e
    have hcm2 : grownCap w (l.length + m) c e ≤ maxLen := grownCap_le_maxLen w (l.length + m) c e (by simp only [maxLen]; omega)
    have hz1' : (Value.int IntKind.u8 0).cells.size = 1 := rfl
    refine ⟨_, _, _, hr, ⟨w.heap.size, _, _, (0, 0), ?_, hbase, heap_alloc_new w.drew _, .inr (Nat.le_refl _), ?_, hcm2, ?_, ?_⟩, ⟨rfl, rfl, rfl, by simp, fun k hk _ => Below.heap_alloc w.drew _ k hk⟩⟩
    · rw [List.length_append, hl2]
    · rw [List.length_append, hl2]; exact hge
    · simp only [Array.size_append, List.size_toArray, size_zeroCells, hz1', bvs_length]
      omega
    · simp only [Array.toList_append, List.append_assoc]
      rw [← List.append_assoc, bvs_append, show (l ++ l2).length = (bvs l ++ bvs l2).length from by simp [bvs]]
      exact List.take_left
/-- 'append(s, x, ..)', the new bytes in a box of their own. -/
theorem appendM {P : Program} {t e : TypeId} (T : ByteTy P t e) {ops : Array Oper} {rest : List Oper} {o : Oper} {a : Act} {Q : Exit → Act → World → Prop} {w0 w : World}
    (hgd : o.guard = none) {s x : Operand} (ho : o.op = .call { callee := .builtin .append, args := #[s, x], argTypes := #[t, t] })
    {base : Nat} {A : Option Addr} {n c m c2 : Nat} {cs : Array Value} {l : List UInt8} (l2 : List UInt8) (hcs : cs.toList = bvs l2) (hm : l2.length = m) (hs : a.eval s = .slice A n c) (hx : a.eval x = .slice (some ⟨w.heap.size, 0, none⟩) m c2) (hown : OwnM w base e (.slice A n c) l)
    (hlen : n + m ≤ 140737488355328) (hB : Below base w0 w) (hbase : base ≤ w0.heap.size)
    (h : ∀ A' c' w', OwnM w' base e (.slice A' (n + m) c') (l ++ l2) → Below base w0 w' → wpList P ops Q rest (a.put o.dst (.slice A' (n + m) c')) w') :
    wpList P ops Q (o :: rest) a (w.alloc (.cells cs e)) :=
  wpList_plain hgd fun K hK => by
    have hbw : base ≤ w.heap.size := Nat.le_trans hbase hB.size
    have hblk : Blk (w.alloc (.cells cs e)) w.heap.size e (bvs l2) := by rw [← hcs]; exact Blk.newAt rfl e cs
    obtain ⟨A', c', w', hrun, h2, h3⟩ := run_appendM T o.type (hown.alloc (.cells cs e)) (ad := ⟨w.heap.size, 0, none⟩) hm (fun j u hu => by
      rw [show (⟨w.heap.size, 0, none⟩ : Addr).add j = ⟨w.heap.size, j, none⟩ from by unfold Addr.add; split <;> simp_all, hblk.cell, hu]) c2 hlen (by simp; omega)
    unfold Oper.wp execOp
    simp only [ho, resolve, invoke, builtin, Sem.run_bind, Sem.run_pure, Result.andThen_ok, List.map_toArray, List.map_cons, List.map_nil, hs, hx, hrun]
    obtain ⟨g, c3, h4, hbg, _⟩ := hown.form
    injection h4 with h4 _ _
    subst h4
    exact hK _ _ (h A' c' w' h2 ((hB.alloc hbw _).grown h3 (by simp; omega) (fun k hk => by simp [Value.ownBlock] at hk; omega)))
end Go.Proofs.Ytgefbgjgcjiceaa
