/- The seat's own numbers for the types that the proofs name. No condition. bits.Len64, groups: what they answer. Condition: the number is a uint64. Constants as bytes: what '[]byte' of a constant text leaves. No condition. 'Off X w w'': the world w' is as w was off the blocks that meet X, and with new ones; append's law with the block that it leaves: the old one, or a new one. No condition. Numbers as bytes, plain: LEB128, four bytes; a writer as a thing of the world. No condition. What a writer's methods leave. Conditions: all bytes together below 2^47. An array by value, at an index: of cells that are numbers. '[]byte' of a text. No condition. What a writer's U32, Text, Put leave. Conditions: all bytes together below 2^47. A writer's Put. Condition: all bytes together below 2^47. A writer and the blocks that it may be in; its methods in these words. Condition: all bytes together below 2^47. 'make([]byte, n)'. No condition but size. -/
import Derived.Test.YtdbjihpdfiipcaaGreatChecked
import Derived.Test.YtdbjihpdfiipcaaGreatBase
import Derived.Lib.Strings
import Derived.Lib.Slices
import Derived.Lib.Small
import Derived.Lib.Walk
import Derived.Lib.BitFns
import Derived.Deep.Light
import Derived.Lib.ConvBytes
namespace Go.Proofs.YtdbjihpdfiipcaaGreat
theorem T23 : ByteTy Tryz.prog 52 5 := ⟨Tryz.underlying52, Tryz.underlying5, by kernel_rfl⟩
end Go.Proofs.YtdbjihpdfiipcaaGreat
namespace Go.Proofs.YtdbjihpdfiipcaaGreat
open Go.RowKit
theorem len8tab_size : (Lib.len8tab.size : Int) = 256 := by
  have : Lib.len8tab.size = 256 := by decide +kernel
  omega
theorem wrap_add (k a b : Nat) (hk : k ≤ 56) (ha : a ≤ 8) (hb : b = k + a) : RowKit.wrap64 ((k : Int) + RowKit.wrap64 (a : Int)) = (b : Int) := by
  unfold RowKit.wrap64
  omega
theorem wrap_wrap (a : Nat) (ha : a ≤ 8) : RowKit.wrap64 (RowKit.wrap64 (a : Int)) = (a : Int) := by
  unfold RowKit.wrap64
  omega
theorem len8_get (y : Int) (h : y.toNat < Lib.len8tab.size) : ((Lib.len8tab[y.toNat]'h).toNat : Int) = Lib.len8 y := by
  unfold Lib.len8
  rw [getElem?_pos Lib.len8tab y.toNat h]
  rfl
set_option maxHeartbeats 4000000 in
set_option maxRecDepth 100000 in
theorem len64_any (x : Int) (w : World) (h0 : 0 ≤ x) (h1 : x ≤ 18446744073709551615) :
    Calls Tryz.prog 147 #[.int .u64 x] w fun e w' => e = .returned (.int .i64 (Lib.bitLen x.toNat)) ∧ w' = w := by
  go_enter Tryz.func147, Tryz.ntmps147
  go_wp2
  all_goals first
    | (go_ret; refine ⟨congrArg Ending.returned (congrArg (Value.int IntKind.i64) ?_), rfl⟩; go_light)
    | (exfalso
       go_light
       have hs := len8tab_size
       omega)
  all_goals first
    | (rw [len8_get (x / 4294967296 / 65536 / 256) _, Lib.len8_of (x / 4294967296 / 65536 / 256) (by omega) (by omega)]
       have e : (x / 4294967296 / 65536 / 256).toNat = x.toNat / 72057594037927936 := by omega
       have l := Lib.bitLen_le8' (x / 4294967296 / 65536 / 256) (by omega) (by omega)
       have s := Lib.bitLen_shift56 x.toNat (by omega) (by omega)
       rw [e] at l ⊢
       exact wrap_add 56 _ _ (by decide) l s)
    | (rw [len8_get (x / 4294967296 / 65536) _, Lib.len8_of (x / 4294967296 / 65536) (by omega) (by omega)]
       have e : (x / 4294967296 / 65536).toNat = x.toNat / 281474976710656 := by omega
       have l := Lib.bitLen_le8' (x / 4294967296 / 65536) (by omega) (by omega)
       have s := Lib.bitLen_shift48 x.toNat (by omega) (by omega)
       rw [e] at l ⊢
       exact wrap_add 48 _ _ (by decide) l s)
    | (rw [len8_get (x / 4294967296 / 256) _, Lib.len8_of (x / 4294967296 / 256) (by omega) (by omega)]
       have e : (x / 4294967296 / 256).toNat = x.toNat / 1099511627776 := by omega
       have l := Lib.bitLen_le8' (x / 4294967296 / 256) (by omega) (by omega)
       have s := Lib.bitLen_shift40 x.toNat (by omega) (by omega)
       rw [e] at l ⊢
       exact wrap_add 40 _ _ (by decide) l s)
    | (rw [len8_get (x / 4294967296) _, Lib.len8_of (x / 4294967296) (by omega) (by omega)]
       have e : (x / 4294967296).toNat = x.toNat / 4294967296 := by omega
       have l := Lib.bitLen_le8' (x / 4294967296) (by omega) (by omega)
       have s := Lib.bitLen_shift32 x.toNat (by omega) (by omega)
       rw [e] at l ⊢
       exact wrap_add 32 _ _ (by decide) l s)
    | (rw [len8_get (x / 65536 / 256) _, Lib.len8_of (x / 65536 / 256) (by omega) (by omega)]
       have e : (x / 65536 / 256).toNat = x.toNat / 16777216 := by omega
       have l := Lib.bitLen_le8' (x / 65536 / 256) (by omega) (by omega)
       have s := Lib.bitLen_shift24 x.toNat (by omega) (by omega)
       rw [e] at l ⊢
       exact wrap_add 24 _ _ (by decide) l s)
    | (rw [len8_get (x / 65536) _, Lib.len8_of (x / 65536) (by omega) (by omega)]
       have e : (x / 65536).toNat = x.toNat / 65536 := by omega
       have l := Lib.bitLen_le8' (x / 65536) (by omega) (by omega)
       have s := Lib.bitLen_shift16 x.toNat (by omega) (by omega)
       rw [e] at l ⊢
       exact wrap_add 16 _ _ (by decide) l s)
    | (rw [len8_get (x / 256) _, Lib.len8_of (x / 256) (by omega) (by omega)]
       have e : (x / 256).toNat = x.toNat / 256 := by omega
       have l := Lib.bitLen_le8' (x / 256) (by omega) (by omega)
       have s := Lib.bitLen_shift8 x.toNat (by omega) (by omega)
       rw [e] at l ⊢
       exact wrap_add 8 _ _ (by decide) l s)
    | (rw [len8_get x _, Lib.len8_of x (by omega) (by omega)]
       exact wrap_wrap _ (Lib.bitLen_le8' x (by omega) (by omega)))
/-- How many bytes a number has. -/
def grp (x : Nat) : Nat := if x < 128 then 1 else (Lib.bitLen x + 6) / 7
theorem bitLen_pos (x : Nat) (h0 : x ≠ 0) (h : x < 2 ^ 64) : 1 ≤ Lib.bitLen x := by
  have := Lib.bitLen_half x h0 h
  omega
theorem grp_small {x : Nat} (h : x < 128) : grp x = 1 := if_pos h
theorem grp_step {x : Nat} (h : 128 ≤ x) (h2 : x < 2 ^ 64) : grp x = grp (x / 128) + 1 := by
  have h3 := Lib.bitLen_shift 7 x h h2
  have h4 : x / 2 ^ 7 = x / 128 := rfl
  rw [h4] at h3
  unfold grp
  rw [if_neg (by omega)]
  split
  · have h5 : Lib.bitLen (x / 128) ≤ 7 := Lib.bitLen_le _ 7 (by omega) (by omega)
    have h6 := bitLen_pos (x / 128) (by omega) (by omega)
    omega
  · omega
theorem grp_pos (x : Nat) (h2 : x < 2 ^ 64) : 1 ≤ grp x := by
  by_cases h : x < 128
  · rw [grp_small h]; omega
  · rw [grp_step (by omega) h2]; omega
theorem grp_eq (x : Nat) (h2 : x < 2 ^ 64) : (max 1 ((Lib.bitLen x + 6) / 7)) = grp x := by
  have h3 := Lib.bitLen_le x 7 (by omega)
  by_cases h : x < 128
  · rw [grp_small h]
    have := h3 (by omega)
    omega
  · have h4 := grp_pos x h2
    unfold grp at h4 ⊢
    rw [if_neg h] at h4 ⊢
    omega
theorem grp_le (x : Nat) (h2 : x < 2 ^ 64) : grp x ≤ 10 := by
  have h3 := Lib.bitLen_le x 64 (by omega) h2
  unfold grp
  split <;> omega
set_option maxRecDepth 100000 in
set_option maxHeartbeats 1000000 in
theorem groups_any (x : Nat) (hx : x < 18446744073709551616) (w : World) :
    Calls Tryz.prog 101 #[.int .u64 x] w fun e w' => e = .returned (.int .i64 (grp x : Nat)) ∧ w' = w := by
  have hg := grp_eq x hx
  have hb := Lib.bitLen_le x 64 (by omega) hx
  go_enter Tryz.func101, Tryz.ntmps101
  go_wp2_with fail
  refine (len64_any x w (by omega) (by omega)).mono ?_
  rintro e w' ⟨rfl, rfl⟩
  rw [show (x : Int).toNat = x from rfl]
  generalize Lib.bitLen x = b at *
  go_wp2_with fail
  all_goals (go_ret; refine ⟨congrArg Ending.returned (congrArg (Value.int IntKind.i64) ?_), rfl⟩)
  all_goals omega
end Go.Proofs.YtdbjihpdfiipcaaGreat
namespace Go.Proofs.YtdbjihpdfiipcaaGreat
open Go.RowKit
theorem run_conv_constM {P : Program} {t e : TypeId} (T : ByteTy P t e) (w : World) (g : Nat) (hg : w.heap.size = g) (C : Array Value) (n c : Nat) :
    (convert t t (.slice (some ⟨g, 0, none⟩) n c)).run P (w.alloc (.cells C e)) = .ok (.slice (some ⟨g, 0, none⟩) n c) (w.alloc (.cells C e (C.size, C.size + 1))) := by
  subst hg
  exact Lib.run_convert_bytes_const w t e C n c T.sl T.el
end Go.Proofs.YtdbjihpdfiipcaaGreat
namespace Go.Proofs.YtdbjihpdfiipcaaGreat
open Go.RowKit
structure Off (X : Nat → Prop) (w w' : World) : Prop where
  os : w'.os = w.os
  tape : w'.tape = w.tape
  output : w'.output = w.output
  size : w.heap.size ≤ w'.heap.size
  block : ∀ k, k < w.heap.size → ¬ X k → w'.heap[k]? = w.heap[k]?
theorem Off.refl (X : Nat → Prop) (w : World) : Off X w w := ⟨rfl, rfl, rfl, Nat.le_refl _, fun _ _ _ => rfl⟩
theorem Off.trans {X Y : Nat → Prop} {a b c : World} (h : Off X a b) (k : Off Y b c) (hXY : ∀ i, i < a.heap.size → Y i → X i) : Off X a c :=
  ⟨k.os.trans h.os, k.tape.trans h.tape, k.output.trans h.output, Nat.le_trans h.size k.size, fun i hi hx => (k.block i (Nat.lt_of_lt_of_le hi h.size) fun hy => hx (hXY i hi hy)).trans (h.block i hi hx)⟩
theorem Off.mono {X Y : Nat → Prop} {a b : World} (h : Off X a b) (hXY : ∀ i, i < a.heap.size → X i → Y i) : Off Y a b :=
  ⟨h.os, h.tape, h.output, h.size, fun i hi hy => h.block i hi fun hx => hy (hXY i hi hx)⟩
theorem Off.drew {X : Nat → Prop} {a b : World} (h : Off X a b) : Off X a b.drew := ⟨h.os, h.tape, h.output, h.size, h.block⟩
theorem Off.drewN {X : Nat → Prop} {a b : World} (h : Off X a b) (n : Nat) : Off X a (b.drewN n) := ⟨h.os, h.tape, h.output, h.size, h.block⟩
theorem Off.alloc {X : Nat → Prop} {a b : World} (h : Off X a b) (o : Obj) : Off X a (b.alloc o) :=
  ⟨h.os, h.tape, h.output, Nat.le_trans h.size (by simp), fun i hi hx => (Below.heap_alloc b o i (Nat.lt_of_lt_of_le hi h.size)).trans (h.block i hi hx)⟩
theorem Off.setCell {X : Nat → Prop} {a b : World} (h : Off X a b) {p : Addr} (hp : p.block < a.heap.size → X p.block) (u : Value) : Off X a (b.setCell p u) :=
  ⟨h.os, h.tape, h.output, Nat.le_trans h.size (by simp [World.setCell]), fun i hi hx => (Below.heap_setCell b p u i (fun e => hx (e ▸ hp (e ▸ hi)))).trans (h.block i hi hx)⟩
theorem Off.grown {X : Nat → Prop} {a b c : World} {row : Option Nat} (h : Off X a b) (hg : b.grownBy c row) (hr : ∀ k, row = some k → k < a.heap.size → X k) : Off X a c :=
  ⟨hg.os.trans h.os, hg.tape.trans h.tape, hg.output.trans h.output, Nat.le_trans h.size hg.size, fun i hi hx => (hg.block i (Nat.lt_of_lt_of_le hi h.size) fun e => hx (hr i e.symm hi)).trans (h.block i hi hx)⟩
theorem Off.below {X : Nat → Prop} {a b : World} (h : Off X a b) {B : Nat} (hB : B ≤ a.heap.size) (hX : ∀ k, X k → B ≤ k) : Below B a b :=
  ⟨h.os, h.tape, h.output, h.size, fun k hk => h.block k (Nat.lt_of_lt_of_le hk hB) fun hx => Nat.lt_irrefl _ (Nat.lt_of_lt_of_le hk (hX k hx))⟩
theorem Off.of_below {a b : World} {B : Nat} (h : Below B a b) : Off (fun k => B ≤ k) a b :=
  ⟨h.os, h.tape, h.output, h.size, fun k _ hk => h.block k (by omega)⟩
theorem Off.of_all {a b : World} (h : Below a.heap.size a b) : Off (fun _ => False) a b :=
  ⟨h.os, h.tape, h.output, h.size, fun k hk _ => h.block k hk⟩
theorem Off.all {a b : World} (h : Off (fun _ => False) a b) : Below a.heap.size a b := ⟨h.os, h.tape, h.output, h.size, fun k hk => h.block k hk id⟩
theorem Blk.off {X : Nat → Prop} {w w' : World} {g t : Nat} {cs : List Value} (h : Blk w g t cs) (hb : Off X w w') (hg : ¬ X g) : Blk w' g t cs := (hb.block g h.lt hg).trans h
theorem Off.cell {X : Nat → Prop} {w w' : World} (hb : Off X w w') {p : Addr} (hp : p.block < w.heap.size) (hx : ¬ X p.block) : w'.cell? p = w.cell? p := World.cell?_of_block (hb.block _ hp hx)
/-- Is k the block of a slice's cells? -/
def isB (A : Option Addr) (k : Nat) : Prop := ∃ x : Addr, A = some x ∧ x.block = k
theorem OwnB.isB_lt {w : World} {base e : Nat} {A : Option Addr} {n c : Nat} {l : List UInt8} (h : OwnB w base e (.slice A n c) l) {k : Nat} (hk : isB A k) : base ≤ k ∧ k < w.heap.size := by
  obtain ⟨x, rfl, rfl⟩ := hk
  exact World.ownsRow.lt h x.block rfl
theorem OwnB.off {X : Nat → Prop} {w w' : World} {base e : Nat} {A : Option Addr} {n c : Nat} {l : List UInt8} (h : OwnB w base e (.slice A n c) l) (hb : Off X w w') (hX : ∀ k, isB A k → ¬ X k) : OwnB w' base e (.slice A n c) l := by
  refine ⟨h.1, ?_⟩
  rcases h.2 with h1 | ⟨g, cap, cur, h1, h2, h3, h4⟩
  · exact .inl h1
  · injection h1 with h5 h6 h7
    subst h5 h6 h7
    exact .inr ⟨g, c, cur, rfl, h2, (hb.block g (Array.getElem?_eq_some_iff.1 h3).1 (hX g ⟨_, rfl, rfl⟩)).trans h3, h4⟩
theorem run_appendG {P : Program} {t e : TypeId} (T : ByteTy P t e) (ty : TypeId) {w : World} {base : Nat} {A : Option Addr} {n c : Nat} {l : List UInt8} (hown : OwnB w base e (.slice A n c) l)
    {B : Nat} {A2 : Option Addr} {m : Nat} {l2 : List UInt8} (hr : RdB w B A2 m l2) (c2 : Nat) (hlen : n + m ≤ 140737488355328) (hbase : base ≤ w.heap.size) :
    ∃ A' c' w', (Builtin.append_ #[t, t] ty #[.slice A n c, .slice A2 m c2]).run P w = .ok (.slice A' (n + m) c') w' ∧ OwnB w' base e (.slice A' (n + m) c') (l ++ l2) ∧ w.grownBy w' (Value.slice A n c).ownBlock ∧
      (A' = A ∨ A' = some ⟨w.heap.size, 0, none⟩) := by
  obtain ⟨A', c', w', h1, h2, h3⟩ := run_appendR T ty hown hr c2 hlen hbase
  refine ⟨A', c', w', h1, h2, h3, ?_⟩
  obtain ⟨i, hi, hz0, hz1, hz2⟩ := info_parts T.info
  have hl := hown.len
  have hl2 := hr.1
  rcases A2 with _ | ad
  · have hm : m = 0 := by
      rcases Nat.eq_zero_or_pos m with h0 | h0
      · exact h0
      · obtain ⟨b, off, h, _⟩ := hr.2 h0
        cases h
    subst hm
    rw [run_append_nilB T ty hown c2] at h1
    injection h1 with h1 _
    injection h1 with h1 _ _
    exact .inl h1.symm
  · have hcells : ∀ j u, (bvs l2)[j]? = some u → w.cell? (ad.add j) = some u := by
      intro j u hu
      obtain ⟨hj, hu⟩ := List.getElem?_eq_some_iff.1 hu
      rw [bvs_length] at hj
      obtain ⟨b, off, h, _, hc⟩ := hr.2 (by omega)
      injection h with h
      subst h
      rw [show (⟨b, off, none⟩ : Addr).add j = ⟨b, off + j, none⟩ from by unfold Addr.add; split <;> simp_all, hc j hj, ← hu]
      simp [bvs]
    rcases hown.2 with ⟨h4, h5⟩ | ⟨g, cap, cur, h4, hbg, hg, hnc, hcm, hcs, htake⟩
    · injection h4 with h6 h7 h8
      subst h6 h7 h8
      rcases Nat.eq_zero_or_pos m with h0 | h0
      · subst h0
        refine .inl ?_
        simp [Builtin.append_, run_underlying T.sl, sizeOf, typeInfo, hi, Builtin.lenOf, Builtin.firstCells, loadCells, loadCellsFrom] at h1
        exact h1.1.1.symm
      · rw [run_append_nil (P := P) w t ty e i (.int .u8 0) T.sl hi hz0 ad m c2 (bvs l2) (by rw [bvs_length, hz1]; omega) hcells h0 (by omega) (by rw [hz2]; omega)] at h1
        injection h1 with h1 _
        injection h1 with h1 _ _
        exact .inr h1.symm
    · injection h4 with h6 h7 h8
      subst h6 h8
      by_cases hroom : n + m ≤ c
      · rw [run_append_room (P := P) w t ty e i T.sl hi g n c cur hg ad m c2 (bvs l2) (by rw [bvs_length, hz1]; omega) hcells (bvs_one l2) hroom (by rw [hz1, bvs_length, hcs]; omega)] at h1
        injection h1 with h1 _
        injection h1 with h1 _ _
        exact .inl h1.symm
      · rw [run_append_grow (P := P) w t ty e i (.int .u8 0) T.sl hi hz0 ⟨g, 0, none⟩ n c (bvs l) (by rw [bvs_length, hz1]; omega) (World.ownsRow.cells hown (g := g) rfl) ad m c2 (bvs l2) (by rw [bvs_length, hz1]; omega) hcells (by omega) (by omega) (growslice_fits (by omega) (by rw [hz2]; omega))] at h1
        injection h1 with h1 _
        injection h1 with h1 _ _
        exact .inr h1.symm
theorem wp_appendG {P : Program} {t e : TypeId} (T : ByteTy P t e) {o : Oper} {a : Act} {K : Act → World → Prop} {Q : Exit → Act → World → Prop} {w : World}
    {s x : Operand} (ho : o.op = .call { callee := .builtin .append, args := #[s, x], argTypes := #[t, t] })
    {base : Nat} {A : Option Addr} {n c : Nat} {l : List UInt8} (hs : a.eval s = .slice A n c) (hown : OwnB w base e (.slice A n c) l)
    {B : Nat} {A2 : Option Addr} {m c2 : Nat} {l2 : List UInt8} (hx : a.eval x = .slice A2 m c2) (hr : RdB w B A2 m l2) (hlen : n + m ≤ 140737488355328) (hbase : base ≤ w.heap.size)
    (h : ∀ A' c' w', OwnB w' base e (.slice A' (n + m) c') (l ++ l2) → Off (isB A) w w' → (A' = A ∨ A' = some ⟨w.heap.size, 0, none⟩) → K (a.put o.dst (.slice A' (n + m) c')) w') : o.wp P a w K Q := by
  obtain ⟨A', c', w', hrun, h2, h3, h4⟩ := run_appendG T o.type hown hr c2 hlen hbase
  unfold Oper.wp execOp
  simp only [ho, resolve, invoke, builtin, Sem.run_bind, Sem.run_pure, Result.andThen_ok, List.map_toArray, List.map_cons, List.map_nil, hs, hx, hrun]
  refine h A' c' w' h2 ((Off.refl _ _).grown h3 fun k hk _ => ?_) h4
  cases A with
  | none => cases hk
  | some x => exact ⟨x, rfl, by simpa [Value.ownBlock] using hk⟩
theorem appendG {P : Program} {t e : TypeId} (T : ByteTy P t e) {ops : Array Oper} {rest : List Oper} {o : Oper} {a : Act} {Q : Exit → Act → World → Prop} {w : World}
    (hgd : o.guard = none) {s x : Operand} (ho : o.op = .call { callee := .builtin .append, args := #[s, x], argTypes := #[t, t] })
    {base : Nat} {A : Option Addr} {n c : Nat} {l : List UInt8} (hs : a.eval s = .slice A n c) (hown : OwnB w base e (.slice A n c) l)
    {B : Nat} {A2 : Option Addr} {m c2 : Nat} {l2 : List UInt8} (hx : a.eval x = .slice A2 m c2) (hr : RdB w B A2 m l2) (hlen : n + m ≤ 140737488355328) (hbase : base ≤ w.heap.size)
    (h : ∀ A' c' w', OwnB w' base e (.slice A' (n + m) c') (l ++ l2) → Off (isB A) w w' → (A' = A ∨ A' = some ⟨w.heap.size, 0, none⟩) → wpList P ops Q rest (a.put o.dst (.slice A' (n + m) c')) w') :
    wpList P ops Q (o :: rest) a w :=
  wpList_plain hgd fun _ hK => wp_appendG T ho hs hown hx hr hlen hbase fun A' c' w' h1 h2 h3 => hK _ _ (h A' c' w' h1 h2 h3)
end Go.Proofs.YtdbjihpdfiipcaaGreat
namespace Go.Proofs.YtdbjihpdfiipcaaGreat
open Go.RowKit
def lebN : Nat → Nat → List UInt8
  | 0, x => [UInt8.ofNat x]
  | k + 1, x => UInt8.ofNat (x % 128 + 128) :: lebN k (x / 128)
def leb (x : Nat) : List UInt8 := lebN (grp x - 1) x
def le32 (x : Nat) : List UInt8 := [UInt8.ofNat x, UInt8.ofNat (x / 256), UInt8.ofNat (x / 65536), UInt8.ofNat (x / 16777216)]
theorem lebN_length (k x : Nat) : (lebN k x).length = k + 1 := by
  induction k generalizing x with
  | zero => rfl
  | succ k ih => rw [lebN, List.length_cons, ih]
theorem leb_length (x : Nat) (h : x < 2 ^ 64) : (leb x).length = grp x := by
  rw [leb, lebN_length]
  have := grp_pos x h
  omega
theorem leb_small {x : Nat} (h : x < 128) : leb x = [UInt8.ofNat x] := by rw [leb, grp_small h]; rfl
theorem leb_step {x : Nat} (h : 128 ≤ x) (h2 : x < 2 ^ 64) : leb x = UInt8.ofNat (x % 128 + 128) :: leb (x / 128) := by
  have h3 := grp_pos (x / 128) (by omega)
  rw [leb, grp_step h h2, leb, Nat.add_sub_cancel]
  obtain ⟨k, hk⟩ := Nat.exists_eq_add_of_le h3
  rw [hk, Nat.add_comm 1 k, lebN, Nat.add_sub_cancel]
theorem bits_or128 (X : Nat) (h : X < 256) : bits BinOp.or IntKind.u8 (X : Int) 128 = ((X % 128 + 128 : Nat) : Int) := by
  have : ∀ X : Fin 256, bits BinOp.or IntKind.u8 (X.val : Int) 128 = ((X.val % 128 + 128 : Nat) : Int) := by decide +kernel
  exact this ⟨X, h⟩
/-- A writer at p: its bytes l. -/
def Wr (w : World) (p : Nat) (A : Option Addr) (n c : Nat) (l : List UInt8) : Prop := Blk w p 130 [.slice A n c] ∧ OwnB w 0 5 (.slice A n c) l
theorem Wr.len {w : World} {p : Nat} {A : Option Addr} {n c : Nat} {l : List UInt8} (h : Wr w p A n c l) : l.length = n := h.2.len
theorem Wr.off {X : Nat → Prop} {w w' : World} {p : Nat} {A : Option Addr} {n c : Nat} {l : List UInt8} (h : Wr w p A n c l) (hb : Off X w w') (h1 : ¬ X p) (h2 : ∀ k, isB A k → ¬ X k) : Wr w' p A n c l := ⟨h.1.off hb h1, h.2.off hb h2⟩
theorem Wr.notOwn {w : World} {p : Nat} {A : Option Addr} {n c : Nat} {l : List UInt8} (h : Wr w p A n c l) : ¬ isB A p := by
  rintro ⟨x, rfl, rfl⟩
  exact h.2.not_row h.1 (by decide) rfl
/-- What is written: the slice is the old one or a new one; all else stays. -/
def Wrote (w w' : World) (p : Nat) (A A' : Option Addr) : Prop := (A' = A ∨ ∃ g, A' = some ⟨g, 0, none⟩ ∧ w.heap.size ≤ g) ∧ Off (fun k => k = p ∨ isB A k) w w'
theorem Wrote.refl (w : World) (p : Nat) (A : Option Addr) : Wrote w w p A A := ⟨.inl rfl, Off.refl _ _⟩
theorem Wrote.trans {a b c : World} {p : Nat} {A B C : Option Addr} (h : Wrote a b p A B) (k : Wrote b c p B C) : Wrote a c p A C := by
  refine ⟨?_, h.2.trans k.2 fun i hi hy => ?_⟩
  · rcases k.1 with rfl | ⟨g, rfl, hg⟩
    · exact h.1
    · exact .inr ⟨g, rfl, Nat.le_trans h.2.size hg⟩
  · rcases hy with rfl | ⟨x, rfl, rfl⟩
    · exact .inl rfl
    · rcases h.1 with h1 | ⟨g, h1, hg⟩
      · exact .inr ⟨x, h1.symm, rfl⟩
      · injection h1 with h1
        subst h1
        exact absurd hi (Nat.not_lt.2 hg)
/-- What a writer's method leaves: its bytes are l. -/
def WrP (w : World) (p : Nat) (A : Option Addr) (l : List UInt8) (w' : World) : Prop := ∃ A' c', Wr w' p A' l.length c' l ∧ Wrote w w' p A A'
theorem WrP.to {w w1 w2 : World} {p : Nat} {A B : Option Addr} {l : List UInt8} (h : Wrote w w1 p A B) (k : WrP w1 p B l w2) : WrP w p A l w2 := by
  obtain ⟨C, c, h1, h2⟩ := k
  exact ⟨C, c, h1, h.trans h2⟩
set_option maxRecDepth 100000 in
set_option maxHeartbeats 1000000 in
theorem more_any (p : Nat) (A : Option Addr) (n c : Nat) (l : List UInt8) (A2 : Option Addr) (m c2 : Nat) (l2 : List UInt8) (w : World) (h : Wr w p A n c l) (hr : RdB w w.heap.size A2 m l2) (hlen : n + m ≤ 140737488355328) :
    Calls Tryz.prog 102 #[.pointer (some ⟨p, 0, none⟩), .slice A2 m c2] w fun e w' => e = .returned (.tuple #[]) ∧ WrP w p A (l ++ l2) w' := by
  have c1 := h.1.cell 0
  have z1 := h.1.frozen 0
  have hl := h.2.len
  have hl2 := hr.1
  go_enter Tryz.func102, Tryz.ntmps102
  go_wp2_with (at_builtin; go_must (refine appendG T23 rfl rfl rfl h.2 rfl hr hlen (Nat.zero_le _) ?_); intro A' c' w' o1 f1 ho; have k1 := h.1.off f1 h.notOwn; have c2 := k1.cell 0; have z2 := k1.frozen 0)
  refine bodyPost_end (results_none rfl _ _ _) rfl ⟨rfl, A', c', ⟨?_, ?_⟩, ?_, ?_⟩
  · rw [List.length_append, hl, hl2]
    exact k1.set 0 _
  · rw [List.length_append, hl, hl2]
    exact o1.off ((Off.refl (fun k => k = p) w').setCell (fun _ => rfl) _) (fun k hk hx => by
      subst hx
      rcases ho with rfl | rfl
      · exact h.notOwn hk
      · obtain ⟨x, hx, rfl⟩ := hk
        injection hx with hx
        subst hx
        exact Nat.lt_irrefl _ h.1.lt)
  · rcases ho with ho | ho
    · exact .inl ho
    · exact .inr ⟨_, ho, Nat.le_refl _⟩
  · exact (f1.mono fun _ _ hk => .inr hk).setCell (fun _ => .inl rfl) _
theorem more_nil (A2 : Option Addr) (m c2 : Nat) (w : World) :
    Calls Tryz.prog 102 #[.pointer none, .slice A2 m c2] w fun e w' => e = .returned (.tuple #[]) ∧ w' = w := by
  go_enter Tryz.func102, Tryz.ntmps102
  go_wp2_with fail
  exact bodyPost_end (results_none rfl _ _ _) rfl ⟨rfl, rfl⟩
end Go.Proofs.YtdbjihpdfiipcaaGreat
namespace Go.Proofs.YtdbjihpdfiipcaaGreat
open Go.RowKit
theorem Wr.alloc {w : World} {p : Nat} {A : Option Addr} {n c : Nat} {l : List UInt8} (h : Wr w p A n c l) (o : Obj) : Wr (w.alloc o) p A n c l := ⟨h.1.alloc o, h.2.alloc o⟩
theorem Wrote.alloc (w : World) (p : Nat) (A : Option Addr) (o : Obj) : Wrote w (w.alloc o) p A A := ⟨.inl rfl, (Off.refl _ _).alloc o⟩
theorem rdB_one (w : World) {v : Int} {b : UInt8} (hv : v = (b.toNat : Int)) : RdB (w.alloc (.cells #[.int .u8 v] 5)) (w.alloc (.cells #[.int .u8 v] 5)).heap.size (some ⟨w.heap.size, 0, none⟩) 1 [b] := by
  subst hv
  exact (Blk.of_new w 5 (bvs [b])).rdB rfl
theorem Wr.lt {w : World} {p : Nat} {A : Option Addr} {n c : Nat} {l : List UInt8} (h : Wr w p A n c l) : p < w.heap.size := h.1.lt
set_option maxRecDepth 100000 in
set_option maxHeartbeats 1000000 in
theorem newWriter_any (w : World) : Calls Tryz.prog 50 #[] w fun e w' => e = .returned (.pointer (some ⟨w.heap.size, 0, none⟩)) ∧ Wr w' w.heap.size none 0 0 [] ∧ Below w.heap.size w w' := by
  go_enter Tryz.func50, Tryz.ntmps50
  go_wp2_with fail
  go_ret
  exact ⟨rfl, ⟨Blk.newAt rfl _ _, OwnB.nil_ _ _ _⟩, (Below.refl _ _).alloc (Nat.le_refl _) _⟩
set_option maxRecDepth 100000 in
set_option maxHeartbeats 1000000 in
theorem wU8_any (p : Nat) (A : Option Addr) (n c : Nat) (l : List UInt8) (b : UInt8) (w : World) (h : Wr w p A n c l) (hlen : n + 1 ≤ 140737488355328) :
    Calls Tryz.prog 152 #[.pointer (some ⟨p, 0, none⟩), .int .u8 (b.toNat : Int)] w fun e w' => e = .returned (.tuple #[]) ∧ WrP w p A (l ++ [b]) w' := by
  go_enter Tryz.func152, Tryz.ntmps152
  go_wp2_with fail
  refine (more_any p A n c l _ 1 1 [b] _ (h.alloc _) ((Blk.of_new w 5 (bvs [b])).rdB rfl) hlen).mono ?_
  rintro e w' ⟨rfl, hp⟩
  go_wp2_with fail
  go_end0
  exact ⟨rfl, hp.to (Wrote.alloc w p A _)⟩
theorem wU8_nil (x : Int) (w : World) : Calls Tryz.prog 152 #[.pointer none, .int .u8 x] w fun e w' => e = .returned (.tuple #[]) ∧ Below w.heap.size w w' := by
  go_enter Tryz.func152, Tryz.ntmps152
  go_wp2_with fail
  refine (more_nil _ _ _ _).mono ?_
  rintro e w' ⟨rfl, rfl⟩
  go_wp2_with fail
  go_end0
  exact ⟨rfl, (Below.refl _ _).alloc (Nat.le_refl _) _⟩
set_option maxRecDepth 100000 in
set_option maxHeartbeats 1000000 in
theorem bytes_any (p : Nat) (A : Option Addr) (n c : Nat) (l : List UInt8) (w : World) (h : Wr w p A n c l) (hlen : n ≤ 140737488355328) :
    Calls Tryz.prog 56 #[.pointer (some ⟨p, 0, none⟩)] w fun e w' => ∃ A' c', e = .returned (.slice A' n c') ∧ OwnB w' w.heap.size 5 (.slice A' n c') l ∧ Below w.heap.size w w' := by
  have c1 := h.1.cell 0
  go_enter Tryz.func56, Tryz.ntmps56
  go_wp2_with (at_builtin; go_must (refine appendR T23 rfl rfl rfl (OwnB.nil_ _ _ _) rfl h.2.rd (by omega) (Below.refl w.heap.size w) (Nat.le_refl _) ?_); intro A' c' w' o1 f1 _)
  go_ret
  exact ⟨A', c', by simp, by simpa using o1, f1⟩
theorem bytes_nil (w : World) : Calls Tryz.prog 56 #[.pointer none] w fun e w' => e = .returned (.slice none 0 0) ∧ w' = w := by
  go_enter Tryz.func56, Tryz.ntmps56
  go_wp2_with fail
  go_ret
  exact ⟨rfl, rfl⟩
set_option maxRecDepth 100000 in
set_option maxHeartbeats 1000000 in
theorem wUint_any (p : Nat) (A : Option Addr) (n c : Nat) (l : List UInt8) (x : Nat) (w : World) (hx : x < 18446744073709551616) (h : Wr w p A n c l) (hlen : n + 10 ≤ 140737488355328) :
    Calls Tryz.prog 51 #[.pointer (some ⟨p, 0, none⟩), .int .u64 x] w fun e w' => e = .returned (.tuple #[]) ∧ WrP w p A (l ++ leb x) w' := by
  have hg := grp_le x hx
  have hg1 := grp_pos x hx
  have hl := h.len
  go_enter Tryz.func51, Tryz.ntmps51
  go_wp2_with fail
  refine (groups_any x hx w).mono ?_
  rintro e w' ⟨rfl, rfl⟩
  generalize hG : grp x = G at *
  go_wp2_with fail
  go_loopw [1, 7] (fun i j wr => ∃ k y : Nat, ∃ m : List UInt8, j = .int .i64 k ∧ i = .int .u64 y ∧ k + 1 ≤ G ∧ y < 18446744073709551616 ∧ grp y + k = G ∧ m ++ leb y = l ++ leb x ∧ m.length = n + k ∧ WrP w' p A m wr) (fun _ j _ => G - (intOf j).toNat)
  case atStart => exact ⟨0, x, l, rfl, rfl, hg1, hx, by omega, rfl, hl, A, c, by rw [hl]; exact h, Wrote.refl _ _ _⟩
  case round =>
    obtain ⟨k, y, m, rfl, rfl, hk, hy, hgy, hm, hml, A1, c1, h1, d1⟩ := hrel
    have hm2 : m.length ≤ 140737488355327 := by omega
    by_cases hlt : k + 1 < G
    · have d1' : decide ((k : Int) < (G : Int) - 1) = true := by simp; omega
      have hy2 : 128 ≤ y := by
        refine Decidable.byContradiction fun h0 => ?_
        rw [grp_small (by omega)] at hgy
        omega
      have ho := bits_or128 (y % 256) (by omega)
      rw [show ((y % 256 : Nat) : Int) = (y : Int) % 256 from by omega, show y % 256 % 128 = y % 128 from by omega] at ho
      go_wp2_with fail
      have hb : ((y % 128 + 128 : Nat) : Int) = ((UInt8.ofNat (y % 128 + 128)).toNat : Int) := by simp; omega
      refine absC (fun w2 => Wr w2 p A1 m.length c1 m ∧ Wrote w' w2 p A A1 ∧ RdB w2 w2.heap.size (some ⟨wr.heap.size, 0, none⟩) 1 [UInt8.ofNat (y % 128 + 128)]) ⟨h1.alloc _, d1.trans (Wrote.alloc _ _ _ _), ?_⟩ ?_
      · exact rdB_one wr (by simp; omega)
      rintro w2 ⟨h2, d2, r2⟩
      refine (more_any p A1 _ c1 m _ 1 1 _ w2 h2 r2 (by omega)).mono ?_
      rintro e w3 ⟨rfl, hp⟩
      replace hp := hp.to d2
      go_wp2_with fail
      go_roundw
      case rel => exact ⟨k + 1, y / 128, _, by go_num, by go_num, by omega, by omega, by rw [grp_step hy2 (by omega)] at hgy; omega, by rw [← hm, leb_step hy2 (by omega)]; simp, by simp; omega, hp⟩
      case measure => simp [intOf]; omega
    · have d1' : decide ((k : Int) < (G : Int) - 1) = false := by simp; omega
      have hy2 : y < 128 := by
        refine Decidable.byContradiction fun h0 => ?_
        have := grp_pos (y / 128) (by omega)
        rw [grp_step (by omega) (by omega)] at hgy
        omega
      have hb : (y : Int) % 256 = ((UInt8.ofNat y).toNat : Int) := by simp
      go_wp2_with fail
      refine absC (fun w2 => Wr w2 p A1 m.length c1 m ∧ Wrote w' w2 p A A1 ∧ RdB w2 w2.heap.size (some ⟨wr.heap.size, 0, none⟩) 1 [UInt8.ofNat y]) ⟨h1.alloc _, d1.trans (Wrote.alloc _ _ _ _), ?_⟩ ?_
      · exact rdB_one wr (by simp <;> omega)
      rintro w2 ⟨h2, d2, r2⟩
      refine (more_any p A1 _ c1 m _ 1 1 _ w2 h2 r2 (by omega)).mono ?_
      rintro e w3 ⟨rfl, hp⟩
      replace hp := hp.to d2
      go_wp2_with fail
      go_end0
      rw [leb_small hy2] at hm
      rw [hm] at hp
      exact ⟨rfl, hp⟩
end Go.Proofs.YtdbjihpdfiipcaaGreat
namespace Go.Proofs.YtdbjihpdfiipcaaGreat
open Go.RowKit
theorem run_index_ints {P : Program} {t e n : Nat} {k0 : IntKind} (ht : P.underlying t = some (.array n e)) (he : P.underlying e = some (.int k0)) (hi : (P.info? e).map (·.size) = some 1)
    (w : World) (cs : Array Value) (k : IntKind) (j : Nat) (hj : j < n) (v : Value) (hv : cs[j]? = some v) : (Instr.index t (.agg cs) (.int k j)).run P w = .ok v w := by
  obtain ⟨i, hi, hz⟩ : ∃ i, P.info? e = some i ∧ i.size = 1 := by simpa using hi
  have h1 : (0 : Int) ≤ (j : Int) ∧ (j : Int) < (n : Int) := by omega
  simp [Instr.index, run_underlying ht, asIntOf, h1.1, hj, sizeOf, typeInfo, hi, hz, part, isAgg, run_underlying he, hv]
theorem run_conv_str {P : Program} {t e d : TypeId} (T : ByteTy P t e) (hd : P.underlying d = some .string) (w : World) (s : List UInt8) :
    (convert d t (.string (strB s))).run P w = .ok (.slice (some ⟨w.heap.size, 0, none⟩) s.length (grownCap w s.length 0 e)) (Lib.bytesWorld w e (strB s)) := by
  have := Lib.run_convert_string_bytes (P := P) w d t e (strB s) hd T.sl T.el
  rwa [strB_size] at this
theorem below_conv (w : World) (e : TypeId) (s : List UInt8) : Below w.heap.size w (Lib.bytesWorld w e (strB s)) :=
  ⟨by rw [Lib.bytesWorld, World.freeze]; split <;> first | rfl | simp, by rw [Lib.bytesWorld, World.freeze]; split <;> first | rfl | simp, by rw [Lib.bytesWorld, World.freeze]; split <;> first | rfl | simp, by rw [Lib.bytesWorld_size]; omega, fun k hk => Lib.bytesWorld_at_old w e (strB s) k hk⟩
theorem rd_conv (w : World) (e : TypeId) (s : List UInt8) : RdB (Lib.bytesWorld w e (strB s)) (Lib.bytesWorld w e (strB s)).heap.size (some ⟨w.heap.size, 0, none⟩) s.length s := by
  refine ⟨rfl, fun _ => ⟨w.heap.size, 0, rfl, by rw [Lib.bytesWorld_size]; omega, fun j hj => ?_⟩⟩
  rw [Nat.zero_add, Lib.bytesWorld_cell w e (strB s) j (by rw [strB_size]; exact hj)]
  simp [strB, bv, List.getD, hj]
end Go.Proofs.YtdbjihpdfiipcaaGreat
namespace Go.Proofs.YtdbjihpdfiipcaaGreat
open Go.RowKit
theorem WrP.trans {w w1 w2 : World} {p : Nat} {A B : Option Addr} {l : List UInt8} (h : Wrote w w1 p A B) (k : WrP w1 p B l w2) : WrP w p A l w2 := k.to h
set_option maxRecDepth 100000 in
set_option maxHeartbeats 1000000 in
theorem wU32_any (p : Nat) (A : Option Addr) (n c : Nat) (l : List UInt8) (x : Nat) (w : World) (hx : x < 4294967296) (h : Wr w p A n c l) (hlen : n + 4 ≤ 140737488355328) :
    Calls Tryz.prog 151 #[.pointer (some ⟨p, 0, none⟩), .int .u32 x] w fun e w' => e = .returned (.tuple #[]) ∧ WrP w p A (l ++ le32 x) w' := by
  have hl := h.len
  go_enter Tryz.func151, Tryz.ntmps151
  go_wp2_with fail
  go_loopw [7] (fun i wr => ∃ k : Nat, i = .int .i64 k ∧ k ≤ 4 ∧ WrP w p A (l ++ (le32 x).take k) wr) (fun i _ => 4 - (intOf i).toNat)
  case atStart => exact ⟨0, rfl, by omega, A, c, by rw [List.take_zero, List.append_nil, hl]; exact h, Wrote.refl _ _ _⟩
  case round =>
    obtain ⟨k, rfl, hk, A1, c1, h1, d1⟩ := hrel
    have hm2 : k < 4 → (l ++ (le32 x).take k).length ≤ 140737488355327 := fun h => by rw [List.length_append, List.length_take]; omega
    rcases k with _ | _ | _ | _ | _ | k
    · have ki : ∀ w, (Instr.index 210 (.agg #[.int .i64 0, .int .i64 8, .int .i64 16, .int .i64 24]) (.int .i64 0)).run Tryz.prog w = .ok (.int .i64 0) w := fun w => run_index_ints Tryz.underlying210 Tryz.underlying3 (by kernel_rfl) w _ .i64 0 (by omega) _ rfl
      go_wp2_with fail
      refine absC (fun w2 => Wr w2 p A1 (l ++ (le32 x).take 0).length c1 (l ++ (le32 x).take 0) ∧ Wrote w w2 p A A1 ∧ RdB w2 w2.heap.size (some ⟨wr.heap.size, 0, none⟩) 1 [UInt8.ofNat (x / 1)]) ⟨h1.alloc _, d1.trans (Wrote.alloc _ _ _ _), rdB_one wr (by simp <;> omega)⟩ ?_
      rintro w2 ⟨h2, d2, r2⟩
      refine (more_any p A1 _ c1 _ _ 1 1 _ w2 h2 r2 (Nat.add_le_add_right (hm2 (by omega)) 1)).mono ?_
      rintro e w3 ⟨rfl, hp⟩
      replace hp := hp.to d2
      go_wp2_with fail
      go_roundw
      case rel => exact ⟨0 + 1, by go_num, by omega, by simpa [le32] using hp⟩
      case measure => simp [intOf]
    · have ki : ∀ w, (Instr.index 210 (.agg #[.int .i64 0, .int .i64 8, .int .i64 16, .int .i64 24]) (.int .i64 1)).run Tryz.prog w = .ok (.int .i64 8) w := fun w => run_index_ints Tryz.underlying210 Tryz.underlying3 (by kernel_rfl) w _ .i64 1 (by omega) _ rfl
      go_wp2_with fail
      refine absC (fun w2 => Wr w2 p A1 (l ++ (le32 x).take 1).length c1 (l ++ (le32 x).take 1) ∧ Wrote w w2 p A A1 ∧ RdB w2 w2.heap.size (some ⟨wr.heap.size, 0, none⟩) 1 [UInt8.ofNat (x / 256)]) ⟨h1.alloc _, d1.trans (Wrote.alloc _ _ _ _), rdB_one wr (by simp <;> omega)⟩ ?_
      rintro w2 ⟨h2, d2, r2⟩
      refine (more_any p A1 _ c1 _ _ 1 1 _ w2 h2 r2 (Nat.add_le_add_right (hm2 (by omega)) 1)).mono ?_
      rintro e w3 ⟨rfl, hp⟩
      replace hp := hp.to d2
      go_wp2_with fail
      go_roundw
      case rel => exact ⟨1 + 1, by go_num, by omega, by simpa [le32] using hp⟩
      case measure => simp [intOf]
    · have ki : ∀ w, (Instr.index 210 (.agg #[.int .i64 0, .int .i64 8, .int .i64 16, .int .i64 24]) (.int .i64 2)).run Tryz.prog w = .ok (.int .i64 16) w := fun w => run_index_ints Tryz.underlying210 Tryz.underlying3 (by kernel_rfl) w _ .i64 2 (by omega) _ rfl
      go_wp2_with fail
      refine absC (fun w2 => Wr w2 p A1 (l ++ (le32 x).take 2).length c1 (l ++ (le32 x).take 2) ∧ Wrote w w2 p A A1 ∧ RdB w2 w2.heap.size (some ⟨wr.heap.size, 0, none⟩) 1 [UInt8.ofNat (x / 65536)]) ⟨h1.alloc _, d1.trans (Wrote.alloc _ _ _ _), rdB_one wr (by simp <;> omega)⟩ ?_
      rintro w2 ⟨h2, d2, r2⟩
      refine (more_any p A1 _ c1 _ _ 1 1 _ w2 h2 r2 (Nat.add_le_add_right (hm2 (by omega)) 1)).mono ?_
      rintro e w3 ⟨rfl, hp⟩
      replace hp := hp.to d2
      go_wp2_with fail
      go_roundw
      case rel => exact ⟨2 + 1, by go_num, by omega, by simpa [le32] using hp⟩
      case measure => simp [intOf]
    · have ki : ∀ w, (Instr.index 210 (.agg #[.int .i64 0, .int .i64 8, .int .i64 16, .int .i64 24]) (.int .i64 3)).run Tryz.prog w = .ok (.int .i64 24) w := fun w => run_index_ints Tryz.underlying210 Tryz.underlying3 (by kernel_rfl) w _ .i64 3 (by omega) _ rfl
      go_wp2_with fail
      refine absC (fun w2 => Wr w2 p A1 (l ++ (le32 x).take 3).length c1 (l ++ (le32 x).take 3) ∧ Wrote w w2 p A A1 ∧ RdB w2 w2.heap.size (some ⟨wr.heap.size, 0, none⟩) 1 [UInt8.ofNat (x / 16777216)]) ⟨h1.alloc _, d1.trans (Wrote.alloc _ _ _ _), rdB_one wr (by simp <;> omega)⟩ ?_
      rintro w2 ⟨h2, d2, r2⟩
      refine (more_any p A1 _ c1 _ _ 1 1 _ w2 h2 r2 (Nat.add_le_add_right (hm2 (by omega)) 1)).mono ?_
      rintro e w3 ⟨rfl, hp⟩
      replace hp := hp.to d2
      go_wp2_with fail
      go_roundw
      case rel => exact ⟨3 + 1, by go_num, by omega, by simpa [le32] using hp⟩
      case measure => simp [intOf]
    · go_wp2_with fail
      go_end0
      exact ⟨rfl, A1, c1, by simpa [le32] using h1, d1⟩
    · omega
set_option maxRecDepth 100000 in
set_option maxHeartbeats 1000000 in
theorem wText_any (p : Nat) (A : Option Addr) (n c : Nat) (l : List UInt8) (s : List UInt8) (w : World) (h : Wr w p A n c l) (hlen : n + 10 + s.length ≤ 140737488355328) :
    Calls Tryz.prog 52 #[.pointer (some ⟨p, 0, none⟩), .string (strB s)] w fun e w' => e = .returned (.tuple #[]) ∧ WrP w p A (l ++ leb s.length ++ s) w' := by
  have hl := h.len
  have hs := strB_size s
  go_enter Tryz.func52, Tryz.ntmps52
  go_wp2_with fail
  refine (wUint_any p A n c l s.length w (by omega) h (by omega)).mono ?_
  rintro e w1 ⟨rfl, A1, c1, h1, d1⟩
  have kc := fun w => run_conv_str T23 Tryz.underlying9 w s
  have hg := grp_le s.length (by omega)
  have hl1 : (l ++ leb s.length).length ≤ n + 10 := by rw [List.length_append, leb_length _ (by omega)]; omega
  go_wp2_with fail
  refine (more_any p A1 _ c1 _ _ s.length _ s _ (h1.off (Off.of_all (below_conv w1 _ s)) id (fun _ _ => id)) (rd_conv w1 _ s) (by omega)).mono ?_
  rintro e w2 ⟨rfl, hp⟩
  go_wp2_with fail
  go_end0
  exact ⟨rfl, hp.to (d1.trans (B := A1) ⟨.inl rfl, (Off.of_all (below_conv w1 _ s)).mono fun _ _ h => h.elim⟩)⟩
end Go.Proofs.YtdbjihpdfiipcaaGreat
namespace Go.Proofs.YtdbjihpdfiipcaaGreat
open Go.RowKit
def RdU (w : World) (B : Nat) (A : Option Addr) (n : Nat) (l : List Nat) : Prop :=
  l.length = n ∧ (0 < n → ∃ b off, A = some ⟨b, off, none⟩ ∧ b < B ∧ ∀ j (hj : j < l.length), w.cell? ⟨b, off + j, none⟩ = some (.int .u64 (l[j] : Nat)))
theorem RdU.below {w w' : World} {B : Nat} {A : Option Addr} {n : Nat} {l : List Nat} (h : RdU w B A n l) (hb : Below B w w') : RdU w' B A n l :=
  ⟨h.1, fun hn => by
    obtain ⟨b, off, h1, h2, h3⟩ := h.2 hn
    exact ⟨b, off, h1, h2, fun j hj => (hb.cell (p := ⟨b, off + j, none⟩) h2).trans (h3 j hj)⟩⟩
theorem RdU.more {w : World} {B B' : Nat} {A : Option Addr} {n : Nat} {l : List Nat} (h : RdU w B A n l) (hB : B ≤ B') : RdU w B' A n l :=
  ⟨h.1, fun hn => by
    obtain ⟨b, off, h1, h2, h3⟩ := h.2 hn
    exact ⟨b, off, h1, by omega, h3⟩⟩
theorem RdU.off {X : Nat → Prop} {w w' : World} {B : Nat} {A : Option Addr} {n : Nat} {l : List Nat} (h : RdU w B A n l) (hB : B ≤ w.heap.size) (hb : Off X w w') (hX : ∀ k, isB A k → ¬ X k) : RdU w' B A n l :=
  ⟨h.1, fun hn => by
    obtain ⟨b, off, h1, h2, h3⟩ := h.2 hn
    subst h1
    exact ⟨b, off, rfl, h2, fun j hj => (hb.cell (p := ⟨b, off + j, none⟩) (Nat.lt_of_lt_of_le h2 hB) (hX b ⟨_, rfl, rfl⟩)).trans (h3 j hj)⟩⟩
theorem RdU.at_ {w : World} {B : Nat} {A : Option Addr} {n : Nat} {l : List Nat} (h : RdU w B A n l) {k : Nat} (hk : k < n) : ∃ b off x, A = some ⟨b, off, none⟩ ∧ b < B ∧ l[k]? = some x ∧ w.cell? ⟨b, off + k, none⟩ = some (.int .u64 (x : Nat)) := by
  obtain ⟨b, off, h1, h2, h3⟩ := h.2 (by omega)
  have hl := h.1
  have hk' : k < l.length := by omega
  exact ⟨b, off, l[k], h1, h2, by simp [hk'], h3 k hk'⟩
def lebs (l : List Nat) : List UInt8 := l.flatMap leb
theorem lebs_take {l : List Nat} {k : Nat} {x : Nat} (h : l[k]? = some x) : lebs (l.take (k + 1)) = lebs (l.take k) ++ leb x := by
  obtain ⟨hk, rfl⟩ := List.getElem?_eq_some_iff.1 h
  rw [List.take_succ_eq_append_getElem hk]
  simp only [lebs, List.flatMap_append, List.flatMap_cons, List.flatMap_nil, List.append_nil]
theorem lebs_le (l : List Nat) (h : ∀ x ∈ l, x < 18446744073709551616) : (lebs l).length ≤ 10 * l.length := by
  induction l with
  | nil => simp [lebs]
  | cons x l ih =>
    have h1 := ih fun g hg => h g (List.mem_cons_of_mem _ hg)
    have h2 := h x List.mem_cons_self
    have h3 := leb_length x h2
    have h4 := grp_le x h2
    simp only [lebs, List.flatMap_cons, List.length_append, List.length_cons] at *
    omega
set_option maxRecDepth 100000 in
set_option maxHeartbeats 1000000 in
theorem put_any (p : Nat) (A : Option Addr) (n c : Nat) (l : List UInt8) (A2 : Option Addr) (m c2 : Nat) (xs : List Nat) (w : World) (h : Wr w p A n c l) (hx : RdU w w.heap.size A2 m xs) (hap : ∀ k, isB A2 k → k ≠ p ∧ ¬ isB A k) (hxs : ∀ x ∈ xs, x < 18446744073709551616)
    (hlen : n + 10 * m ≤ 140737488355328) :
    Calls Tryz.prog 53 #[.pointer (some ⟨p, 0, none⟩), .slice A2 m c2] w fun e w' => e = .returned (.tuple #[]) ∧ WrP w p A (l ++ lebs xs) w' := by
  have hl := hx.1
  have hln := h.len
  go_enter Tryz.func53, Tryz.ntmps53
  go_wp2_with fail
  go_loopw [8] (fun i wr => ∃ k : Nat, i = .int .i64 k ∧ k ≤ m ∧ WrP w p A (l ++ lebs (xs.take k)) wr) (fun i _ => m - (intOf i).toNat)
  case atStart => exact ⟨0, rfl, Nat.zero_le _, A, c, by simpa [lebs, hln] using h, Wrote.refl _ _ _⟩
  case round =>
    obtain ⟨k, rfl, hk, hp⟩ := hrel
    by_cases hlt : k < m
    · have d1 : decide ((k : Int) < (m : Int)) = true := by simp; omega
      have b1 : (0 : Int) ≤ (k : Int) := by omega
      have b2 : (k : Int) < (m : Int) := by omega
      obtain ⟨A1, c1, h2, d2⟩ := hp
      have hr := hx.off (Nat.le_refl _) d2.2 (fun k hk hx => by
        rcases hx with hx | hx
        · exact (hap k hk).1 hx
        · exact (hap k hk).2 hx)
      obtain ⟨b, off, x, rfl, hb, hf, e0⟩ := hr.at_ hlt
      have hst := lebs_take hf
      have hff := hxs x (List.mem_of_getElem? hf)
      have ht3 := lebs_le (xs.take k) (fun g hg => hxs g (List.mem_of_mem_take hg))
      rw [List.length_take] at ht3
      have ht4 : (l ++ lebs (xs.take k)).length + 10 ≤ 140737488355328 := by rw [List.length_append]; omega
      go_wp2_with fail
      refine (wUint_any p A1 _ c1 _ x wr hff h2 ht4).mono ?_
      rintro e w3 ⟨rfl, hp⟩
      go_wp2_with fail
      go_roundw
      case rel => exact ⟨k + 1, by go_num, by omega, by rw [hst, ← List.append_assoc]; exact hp.to d2⟩
      case measure => simp [intOf]; omega
    · obtain rfl : k = m := by omega
      have d1 : decide ((k : Int) < (k : Int)) = false := by simp
      rw [List.take_of_length_le (by omega)] at hp
      go_wp2_with fail
      go_end0
      exact ⟨rfl, hp⟩
end Go.Proofs.YtdbjihpdfiipcaaGreat
namespace Go.Proofs.YtdbjihpdfiipcaaGreat
open Go.RowKit
set_option linter.unusedVariables false
/-- A writer at p with the bytes l, which are in blocks that meet Z alone; new blocks meet Z. -/
def WrZ (Z : Nat → Prop) (w : World) (p : Nat) (l : List UInt8) : Prop := Z p ∧ (∀ k, w.heap.size ≤ k → Z k) ∧ ∃ A c, Wr w p A l.length c l ∧ ∀ k, isB A k → Z k
section
variable {Z : Nat → Prop} {w w' : World} {p : Nat} {l l' : List UInt8}
theorem WrZ.of {A : Option Addr} (h : Z p) (hz : ∀ k, w.heap.size ≤ k → Z k) (hA : ∀ k, isB A k → Z k) (k : WrP w p A l' w') : WrZ Z w' p l' ∧ Off Z w w' := by
  obtain ⟨A', c', h1, h2, h3⟩ := k
  refine ⟨⟨h, fun k hk => hz k (Nat.le_trans h3.size hk), A', c', h1, fun k hk => ?_⟩, h3.mono fun i _ hi => ?_⟩
  · rcases h2 with rfl | ⟨g, rfl, hg⟩
    · exact hA k hk
    · obtain ⟨x, hx, rfl⟩ := hk
      injection hx with hx
      subst hx
      exact hz _ hg
  · rcases hi with rfl | hi
    · exact h
    · exact hA _ hi
/-- New blocks that the writer has not are kept from it. -/
def lessZ (Z : Nat → Prop) (a b : Nat) (k : Nat) : Prop := Z k ∧ (k < a ∨ b ≤ k)
theorem WrZ.less (h : WrZ Z w p l) (hb : Below w.heap.size w w') : WrZ (lessZ Z w.heap.size w'.heap.size) w' p l := by
  obtain ⟨h1, h2, A, c, h3, h4⟩ := h
  have hlt : ∀ k, isB A k → k < w.heap.size := fun k hk => (h3.2.isB_lt hk).2
  exact ⟨⟨h1, .inl h3.1.lt⟩, fun k hk => ⟨h2 k (Nat.le_trans hb.size hk), .inr hk⟩, A, c, h3.off (Off.of_all hb) id (fun _ _ => id), fun k hk => ⟨h4 k hk, .inl (hlt k hk)⟩⟩
theorem WrZ.back {a b : Nat} (h : WrZ (lessZ Z a b) w p l) (hz : ∀ k, w.heap.size ≤ k → Z k) : WrZ Z w p l := by
  obtain ⟨h1, h2, A, c, h3, h4⟩ := h
  exact ⟨h1.1, hz, A, c, h3, fun k hk => (h4 k hk).1⟩
theorem WrZ.up (h : WrZ Z w p l) : ∀ k, w.heap.size ≤ k → Z k := h.2.1
theorem WrZ.below (h : WrZ Z w p l) (hb : Below w.heap.size w w') : WrZ Z w' p l := (h.less hb).back fun k hk => h.up k (Nat.le_trans hb.size hk)
theorem WrZ.eq (h : WrZ Z w p l) (e : l = l') : WrZ Z w p l' := e ▸ h
theorem WrZ.lt (h : WrZ Z w p l) : p < w.heap.size := by
  obtain ⟨h1, h2, A, c, h3, h4⟩ := h
  exact h3.1.lt
end
variable {Z : Nat → Prop} {w : World} {p : Nat} {l : List UInt8}
theorem wU8_z (b : UInt8) (h : WrZ Z w p l) (hl : l.length + 10 ≤ 140737488355328) :
    Calls Tryz.prog 152 #[.pointer (some ⟨p, 0, none⟩), .int .u8 (b.toNat : Int)] w fun e w' => e = .returned (.tuple #[]) ∧ WrZ Z w' p (l ++ [b]) ∧ Off Z w w' := by
  obtain ⟨h1, h2, A, c, h3, h4⟩ := h
  refine (wU8_any p A _ c l b w h3 (by omega)).mono ?_
  rintro e w' ⟨rfl, hp⟩
  exact ⟨rfl, WrZ.of h1 h2 h4 hp⟩
theorem wUint_z (x : Nat) (hx : x < 18446744073709551616) (h : WrZ Z w p l) (hl : l.length + 10 ≤ 140737488355328) :
    Calls Tryz.prog 51 #[.pointer (some ⟨p, 0, none⟩), .int .u64 x] w fun e w' => e = .returned (.tuple #[]) ∧ WrZ Z w' p (l ++ leb x) ∧ Off Z w w' := by
  obtain ⟨h1, h2, A, c, h3, h4⟩ := h
  refine (wUint_any p A _ c l x w hx h3 hl).mono ?_
  rintro e w' ⟨rfl, hp⟩
  exact ⟨rfl, WrZ.of h1 h2 h4 hp⟩
theorem wU32_z (x : Nat) (hx : x < 4294967296) (h : WrZ Z w p l) (hl : l.length + 10 ≤ 140737488355328) :
    Calls Tryz.prog 151 #[.pointer (some ⟨p, 0, none⟩), .int .u32 x] w fun e w' => e = .returned (.tuple #[]) ∧ WrZ Z w' p (l ++ le32 x) ∧ Off Z w w' := by
  obtain ⟨h1, h2, A, c, h3, h4⟩ := h
  refine (wU32_any p A _ c l x w hx h3 (by omega)).mono ?_
  rintro e w' ⟨rfl, hp⟩
  exact ⟨rfl, WrZ.of h1 h2 h4 hp⟩
/-- A text's bytes. -/
def txB (s : List UInt8) : List UInt8 := leb s.length ++ s
theorem wText_z (s : List UInt8) (h : WrZ Z w p l) (hl : l.length + s.length + 10 ≤ 140737488355328) :
    Calls Tryz.prog 52 #[.pointer (some ⟨p, 0, none⟩), .string (strB s)] w fun e w' => e = .returned (.tuple #[]) ∧ WrZ Z w' p (l ++ txB s) ∧ Off Z w w' := by
  obtain ⟨h1, h2, A, c, h3, h4⟩ := h
  refine (wText_any p A _ c l s w h3 (by omega)).mono ?_
  rintro e w' ⟨rfl, hp⟩
  rw [List.append_assoc] at hp
  exact ⟨rfl, WrZ.of h1 h2 h4 hp⟩
/-- Put of a row that the writer has not. -/
theorem wPut_z (A2 : Option Addr) (m c2 : Nat) (xs : List Nat) (h : WrZ Z w p l) (hx : RdU w w.heap.size A2 m xs) (hap : ∀ k, isB A2 k → ¬ Z k) (hxs : ∀ x ∈ xs, x < 18446744073709551616) (hl : l.length + 10 * m ≤ 140737488355328) :
    Calls Tryz.prog 53 #[.pointer (some ⟨p, 0, none⟩), .slice A2 m c2] w fun e w' => e = .returned (.tuple #[]) ∧ WrZ Z w' p (l ++ lebs xs) ∧ Off Z w w' := by
  obtain ⟨h1, h2, A, c, h3, h4⟩ := h
  refine (put_any p A _ c l A2 m c2 xs w h3 hx (fun k hk => ⟨fun e => hap k hk (e ▸ h1), fun hi => hap k hk (h4 k hi)⟩) hxs hl).mono ?_
  rintro e w' ⟨rfl, hp⟩
  exact ⟨rfl, WrZ.of h1 h2 h4 hp⟩
theorem newWriter_z (w : World) : Calls Tryz.prog 50 #[] w fun e w' => e = .returned (.pointer (some ⟨w.heap.size, 0, none⟩)) ∧ WrZ (fun k => w.heap.size ≤ k) w' w.heap.size [] ∧ Below w.heap.size w w' := by
  refine (newWriter_any w).mono ?_
  rintro e w' ⟨rfl, h, f⟩
  exact ⟨rfl, ⟨Nat.le_refl _, fun k hk => Nat.le_trans f.size hk, none, 0, h, fun k hk => by obtain ⟨x, hx, _⟩ := hk; cases hx⟩, f⟩
theorem bytes_z (h : WrZ Z w p l) (hl : l.length ≤ 140737488355328) :
    Calls Tryz.prog 56 #[.pointer (some ⟨p, 0, none⟩)] w fun e w' => ∃ A' c', e = .returned (.slice A' l.length c') ∧ OwnB w' w.heap.size 5 (.slice A' l.length c') l ∧ Below w.heap.size w w' := by
  obtain ⟨h1, h2, A, c, h3, h4⟩ := h
  exact bytes_any p A _ c l w h3 hl
end Go.Proofs.YtdbjihpdfiipcaaGreat
namespace Go.Proofs.YtdbjihpdfiipcaaGreat
open Go.RowKit
theorem run_make_bytesM {P : Program} {t e : TypeId} (T : ByteTy P t e) (n : Nat) (hn : n ≤ 140737488355328) (w : World) :
    (Instr.makeSlice t (.int .i64 (n : Int)) (.int .i64 (n : Int))).run P w = .ok (.slice (some ⟨w.heap.size, 0, none⟩) n n) (w.alloc (.cells (bvs (List.replicate n 0)).toArray e)) := by
  obtain ⟨i, hi, hz0, hz1, hz2⟩ := info_parts T.info
  have h := run_make (P := P) w t e i (.int .u8 0) T.sl hi hz0 .i64 .i64 n n (by omega) (by omega) (by rw [hz2]; omega) (by omega)
  simp only [Int.toNat_natCast, hz1, Nat.mul_one] at h
  rw [h]
  congr 3
  simp only [madeCells, bvs, List.map_replicate]
  apply Array.ext
  · simp [Value.cells]
  · intro j h1 h2
    simp [Value.cells, bv, Nat.mod_one]
end Go.Proofs.YtdbjihpdfiipcaaGreat
