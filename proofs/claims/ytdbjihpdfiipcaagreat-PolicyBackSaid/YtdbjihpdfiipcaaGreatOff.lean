/- 'Off X w w'': the world w' is as w was off the blocks that meet X, and with new ones; append's law with the block that it leaves: the old one, or a new one. No condition. -/
import Derived.Test.YtdbjihpdfiipcaaGreatSeat
import Derived.Test.YtdbjihpdfiipcaaGreatMark
namespace Go.Proofs.YtdbjihpdfiipcaaGreat
open Go.RowKit
structure Off (X : Nat → Prop) (w w' : World) : Prop where
  os : w'.os = w.os
  tape : w'.tape = w.tape
  output : w'.output = w.output
  size : w.heap.size ≤ w'.heap.size
  block : ∀ k, k < w.heap.size → ¬ X k → w'.heap[k]? = w.heap[k]?
theorem Off.refl (X : Nat → Prop) (w : World) : Off X w w := ⟨rfl, rfl, rfl, Nat.le_refl _, fun _ _ _ => rfl⟩
theorem Off.trans {X Y : Nat → Prop} {a b c : World} (h : Off X a b) (k : Off Y b c) (hXY : ∀ i, i < a.heap.size → Y i → X i) : Off X a c :=
  ⟨k.os.trans h.os, k.tape.trans h.tape, k.output.trans h.output, Nat.le_trans h.size k.size, fun i hi hx => (k.block i (Nat.lt_of_lt_of_le hi h.size) fun hy => hx (hXY i hi hy)).trans (h.block i hi hx)⟩
theorem Off.mono {X Y : Nat → Prop} {a b : World} (h : Off X a b) (hXY : ∀ i, i < a.heap.size → X i → Y i) : Off Y a b :=
  ⟨h.os, h.tape, h.output, h.size, fun i hi hy => h.block i hi fun hx => hy (hXY i hi hx)⟩
theorem Off.drew {X : Nat → Prop} {a b : World} (h : Off X a b) : Off X a b.drew := ⟨h.os, h.tape, h.output, h.size, h.block⟩
theorem Off.drewN {X : Nat → Prop} {a b : World} (h : Off X a b) (n : Nat) : Off X a (b.drewN n) := ⟨h.os, h.tape, h.output, h.size, h.block⟩
theorem Off.alloc {X : Nat → Prop} {a b : World} (h : Off X a b) (o : Obj) : Off X a (b.alloc o) :=
  ⟨h.os, h.tape, h.output, Nat.le_trans h.size (by simp), fun i hi hx => (Below.heap_alloc b o i (Nat.lt_of_lt_of_le hi h.size)).trans (h.block i hi hx)⟩
theorem Off.setCell {X : Nat → Prop} {a b : World} (h : Off X a b) {p : Addr} (hp : p.block < a.heap.size → X p.block) (u : Value) : Off X a (b.setCell p u) :=
  ⟨h.os, h.tape, h.output, Nat.le_trans h.size (by simp [World.setCell]), fun i hi hx => (Below.heap_setCell b p u i (fun e => hx (e ▸ hp (e ▸ hi)))).trans (h.block i hi hx)⟩
theorem Off.grown {X : Nat → Prop} {a b c : World} {row : Option Nat} (h : Off X a b) (hg : b.grownBy c row) (hr : ∀ k, row = some k → k < a.heap.size → X k) : Off X a c :=
  ⟨hg.os.trans h.os, hg.tape.trans h.tape, hg.output.trans h.output, Nat.le_trans h.size hg.size, fun i hi hx => (hg.block i (Nat.lt_of_lt_of_le hi h.size) fun e => hx (hr i e.symm hi)).trans (h.block i hi hx)⟩
theorem Off.below {X : Nat → Prop} {a b : World} (h : Off X a b) {B : Nat} (hB : B ≤ a.heap.size) (hX : ∀ k, X k → B ≤ k) : Below B a b :=
  ⟨h.os, h.tape, h.output, h.size, fun k hk => h.block k (Nat.lt_of_lt_of_le hk hB) fun hx => Nat.lt_irrefl _ (Nat.lt_of_lt_of_le hk (hX k hx))⟩
theorem Off.of_below {a b : World} {B : Nat} (h : Below B a b) : Off (fun k => B ≤ k) a b :=
  ⟨h.os, h.tape, h.output, h.size, fun k _ hk => h.block k (by omega)⟩
theorem Off.of_all {a b : World} (h : Below a.heap.size a b) : Off (fun _ => False) a b :=
  ⟨h.os, h.tape, h.output, h.size, fun k hk _ => h.block k hk⟩
theorem Off.all {a b : World} (h : Off (fun _ => False) a b) : Below a.heap.size a b := ⟨h.os, h.tape, h.output, h.size, fun k hk => h.block k hk id⟩
theorem Blk.off {X : Nat → Prop} {w w' : World} {g t : Nat} {cs : List Value} (h : Blk w g t cs) (hb : Off X w w') (hg : ¬ X g) : Blk w' g t cs := (hb.block g h.lt hg).trans h
theorem Off.cell {X : Nat → Prop} {w w' : World} (hb : Off X w w') {p : Addr} (hp : p.block < w.heap.size) (hx : ¬ X p.block) : w'.cell? p = w.cell? p := World.cell?_of_block (hb.block _ hp hx)
/-- Is k the block of a slice's cells? -/
def isB (A : Option Addr) (k : Nat) : Prop := ∃ x : Addr, A = some x ∧ x.block = k
theorem OwnB.isB_lt {w : World} {base e : Nat} {A : Option Addr} {n c : Nat} {l : List UInt8} (h : OwnB w base e (.slice A n c) l) {k : Nat} (hk : isB A k) : base ≤ k ∧ k < w.heap.size := by
  obtain ⟨x, rfl, rfl⟩ := hk
  exact World.ownsRow.lt h x.block rfl
theorem OwnB.off {X : Nat → Prop} {w w' : World} {base e : Nat} {A : Option Addr} {n c : Nat} {l : List UInt8} (h : OwnB w base e (.slice A n c) l) (hb : Off X w w') (hX : ∀ k, isB A k → ¬ X k) : OwnB w' base e (.slice A n c) l := by
  refine ⟨h.1, ?_⟩
  rcases h.2 with h1 | ⟨g, cap, cur, h1, h2, h3, h4⟩
  · exact .inl h1
  · injection h1 with h5 h6 h7
    subst h5 h6 h7
    exact .inr ⟨g, c, cur, rfl, h2, (hb.block g (Array.getElem?_eq_some_iff.1 h3).1 (hX g ⟨_, rfl, rfl⟩)).trans h3, h4⟩
theorem run_appendG {P : Program} {t e : TypeId} (T : ByteTy P t e) (ty : TypeId) {w : World} {base : Nat} {A : Option Addr} {n c : Nat} {l : List UInt8} (hown : OwnB w base e (.slice A n c) l)
    {B : Nat} {A2 : Option Addr} {m : Nat} {l2 : List UInt8} (hr : RdB w B A2 m l2) (c2 : Nat) (hlen : n + m ≤ 140737488355328) (hbase : base ≤ w.heap.size) :
    ∃ A' c' w', (Builtin.append_ #[t, t] ty #[.slice A n c, .slice A2 m c2]).run P w = .ok (.slice A' (n + m) c') w' ∧ OwnB w' base e (.slice A' (n + m) c') (l ++ l2) ∧ w.grownBy w' (Value.slice A n c).ownBlock ∧
      (A' = A ∨ A' = some ⟨w.heap.size, 0, none⟩) := by
  obtain ⟨A', c', w', h1, h2, h3⟩ := run_appendR T ty hown hr c2 hlen hbase
  refine ⟨A', c', w', h1, h2, h3, ?_⟩
  obtain ⟨i, hi, hz0, hz1, hz2⟩ := info_parts T.info
  have hl := hown.len
  have hl2 := hr.1
  rcases A2 with _ | ad
  · have hm : m = 0 := by
      rcases Nat.eq_zero_or_pos m with h0 | h0
      · exact h0
      · obtain ⟨b, off, h, _⟩ := hr.2 h0
        cases h
    subst hm
    rw [run_append_nilB T ty hown c2] at h1
    injection h1 with h1 _
    injection h1 with h1 _ _
    exact .inl h1.symm
  · have hcells : ∀ j u, (bvs l2)[j]? = some u → w.cell? (ad.add j) = some u := by
      intro j u hu
      obtain ⟨hj, hu⟩ := List.getElem?_eq_some_iff.1 hu
      rw [bvs_length] at hj
      obtain ⟨b, off, h, _, hc⟩ := hr.2 (by omega)
      injection h with h
      subst h
      rw [show (⟨b, off, none⟩ : Addr).add j = ⟨b, off + j, none⟩ from by unfold Addr.add; split <;> simp_all, hc j hj, ← hu]
      simp [bvs]
    rcases hown.2 with ⟨h4, h5⟩ | ⟨g, cap, cur, h4, hbg, hg, hnc, hcm, hcs, htake⟩
    · injection h4 with h6 h7 h8
      subst h6 h7 h8
      rcases Nat.eq_zero_or_pos m with h0 | h0
      · subst h0
        refine .inl ?_
        simp [Builtin.append_, run_underlying T.sl, sizeOf, typeInfo, hi, Builtin.lenOf, Builtin.firstCells, loadCells, loadCellsFrom] at h1
        exact h1.1.1.symm
      · rw [run_append_nil (P := P) w t ty e i (.int .u8 0) T.sl hi hz0 ad m c2 (bvs l2) (by rw [bvs_length, hz1]; omega) hcells h0 (by omega) (by rw [hz2]; omega)] at h1
        injection h1 with h1 _
        injection h1 with h1 _ _
        exact .inr h1.symm
    · injection h4 with h6 h7 h8
      subst h6 h8
      by_cases hroom : n + m ≤ c
      · rw [run_append_room (P := P) w t ty e i T.sl hi g n c cur hg ad m c2 (bvs l2) (by rw [bvs_length, hz1]; omega) hcells (bvs_one l2) hroom (by rw [hz1, bvs_length, hcs]; omega)] at h1
        injection h1 with h1 _
        injection h1 with h1 _ _
        exact .inl h1.symm
      · rw [run_append_grow (P := P) w t ty e i (.int .u8 0) T.sl hi hz0 ⟨g, 0, none⟩ n c (bvs l) (by rw [bvs_length, hz1]; omega) (World.ownsRow.cells hown (g := g) rfl) ad m c2 (bvs l2) (by rw [bvs_length, hz1]; omega) hcells (by omega) (by omega) (growslice_fits (by omega) (by rw [hz2]; omega))] at h1
        injection h1 with h1 _
        injection h1 with h1 _ _
        exact .inr h1.symm
theorem wp_appendG {P : Program} {t e : TypeId} (T : ByteTy P t e) {o : Oper} {a : Act} {K : Act → World → Prop} {Q : Exit → Act → World → Prop} {w : World}
    {s x : Operand} (ho : o.op = .call { callee := .builtin .append, args := #[s, x], argTypes := #[t, t] })
    {base : Nat} {A : Option Addr} {n c : Nat} {l : List UInt8} (hs : a.eval s = .slice A n c) (hown : OwnB w base e (.slice A n c) l)
    {B : Nat} {A2 : Option Addr} {m c2 : Nat} {l2 : List UInt8} (hx : a.eval x = .slice A2 m c2) (hr : RdB w B A2 m l2) (hlen : n + m ≤ 140737488355328) (hbase : base ≤ w.heap.size)
    (h : ∀ A' c' w', OwnB w' base e (.slice A' (n + m) c') (l ++ l2) → Off (isB A) w w' → (A' = A ∨ A' = some ⟨w.heap.size, 0, none⟩) → K (a.put o.dst (.slice A' (n + m) c')) w') : o.wp P a w K Q := by
  obtain ⟨A', c', w', hrun, h2, h3, h4⟩ := run_appendG T o.type hown hr c2 hlen hbase
  unfold Oper.wp execOp
  simp only [ho, resolve, invoke, builtin, Sem.run_bind, Sem.run_pure, Result.andThen_ok, List.map_toArray, List.map_cons, List.map_nil, hs, hx, hrun]
  refine h A' c' w' h2 ((Off.refl _ _).grown h3 fun k hk _ => ?_) h4
  cases A with
  | none => cases hk
  | some x => exact ⟨x, rfl, by simpa [Value.ownBlock] using hk⟩
theorem appendG {P : Program} {t e : TypeId} (T : ByteTy P t e) {ops : Array Oper} {rest : List Oper} {o : Oper} {a : Act} {Q : Exit → Act → World → Prop} {w : World}
    (hgd : o.guard = none) {s x : Operand} (ho : o.op = .call { callee := .builtin .append, args := #[s, x], argTypes := #[t, t] })
    {base : Nat} {A : Option Addr} {n c : Nat} {l : List UInt8} (hs : a.eval s = .slice A n c) (hown : OwnB w base e (.slice A n c) l)
    {B : Nat} {A2 : Option Addr} {m c2 : Nat} {l2 : List UInt8} (hx : a.eval x = .slice A2 m c2) (hr : RdB w B A2 m l2) (hlen : n + m ≤ 140737488355328) (hbase : base ≤ w.heap.size)
    (h : ∀ A' c' w', OwnB w' base e (.slice A' (n + m) c') (l ++ l2) → Off (isB A) w w' → (A' = A ∨ A' = some ⟨w.heap.size, 0, none⟩) → wpList P ops Q rest (a.put o.dst (.slice A' (n + m) c')) w') :
    wpList P ops Q (o :: rest) a w :=
  wpList_plain hgd fun _ hK => wp_appendG T ho hs hown hx hr hlen hbase fun A' c' w' h1 h2 h3 => hK _ _ (h A' c' w' h1 h2 h3)
end Go.Proofs.YtdbjihpdfiipcaaGreat
