/- Words for slices of bytes that a call owns, over any program: 'bv', 'bvs' (bytes as cells), 'ByteTy' (a slice type of bytes), 'OwnB' (a slice value owns these bytes, and what lay below is as it was), and append's law in these words. No condition. -/
import Derived.WalkKit
import Derived.WalkSpells
import Derived.WalkLawsBesides
import Derived.Maps.AppendAt
import Derived.Deep.Draws
import Derived.Lib.SlicesS
import Derived.Lib.Hide
import Derived.Deep.Cut
import Derived.Deep.DeepCutAuto
import Derived.Deep.DeepMust
import Derived.Deep.DeepFit
import Derived.Deep.QuietTactic
import Derived.BigQuiet
import Derived.Deep.LoopGhost
import Derived.Deep.Light
import Derived.Deep.RegionWith
import Derived.StillTailTactics
import Derived.Deep.RegionHeld3
import Derived.Deep.MidRow
import Derived.Lib.LazyBuf
import Derived.Lib.SlBytesConst
import Derived.Lib.ConvBytes
namespace Go.Proofs.YtpcdmbajfmnoiaaGreatDoor
open Go.RowKit

def bv (b : UInt8) : Value := .int .u8 (b.toNat : Int)
def bvs (l : List UInt8) : List Value := l.map bv

theorem bvs_length (l : List UInt8) : (bvs l).length = l.length := by simp [bvs]
theorem bvs_append (l m : List UInt8) : bvs (l ++ m) = bvs l ++ bvs m := by simp [bvs]
theorem bvs_one (l : List UInt8) : ∀ u ∈ bvs l, u.oneCell' = true := by
 intro u hu
 obtain ⟨b, _, rfl⟩ := List.mem_map.1 hu
 rfl

structure ByteTy (P : Program) (t e : TypeId) : Prop where
 sl : P.underlying t = some (.slice e)
 el : P.underlying e = some (.int .u8)
 info : (P.info? e).map (fun i => (i.zero, i.size, i.bytes)) = some (some (.int .u8 0), 1, 1)

/-- v owns the bytes l in a row from block base on. -/
def OwnB (w : World) (base : Nat) (e : TypeId) (v : Value) (l : List UInt8) : Prop := w.ownsRow base e 1 v l.length (bvs l)

theorem OwnB.alloc {w : World} {base e : Nat} {v : Value} {l : List UInt8} (h : OwnB w base e v l) (o : Obj) : OwnB (w.alloc o) base e v l := World.ownsRow.alloc h o
theorem OwnB.grown {w w' : World} {base e : Nat} {v : Value} {l : List UInt8} (h : OwnB w base e v l) {row : Option Nat} (hg : w.grownBy w' row) (hne : v.ownBlock = none ∨ v.ownBlock ≠ row) : OwnB w' base e v l := World.ownsRow.kept h hg hne
theorem OwnB.of_eq {w : World} {base e : Nat} {v : Value} {l m : List UInt8} (h : OwnB w base e v l) (e1 : l = m) : OwnB w base e v m := e1 ▸ h

theorem OwnB.len {w : World} {base e : Nat} {A : Option Addr} {n c : Nat} {l : List UInt8} (h : OwnB w base e (.slice A n c) l) : l.length = n := by
 rcases h.2 with ⟨h1, h2⟩ | ⟨g, cap, cur, h1, _⟩
 ·injection h1 with _ h3 _; omega
 ·injection h1 with _ h3 _; exact h3.symm
theorem OwnB.cell {w : World} {base e : Nat} {g n c : Nat} {l : List UInt8} (h : OwnB w base e (.slice (some ⟨g, 0, none⟩) n c) l) {j : Nat} (hj : j < l.length) : w.cell? ⟨g, j, none⟩ = some (bv l[j]) := by
 have h1 := World.ownsRow.cells h (g := g) rfl j (bv l[j]) (by simp [bvs, hj])
 rwa [show (⟨g, 0, none⟩ : Addr).add j = ⟨g, j, none⟩ from by unfold Addr.add; split <;> simp_all] at h1

/-- 'append(s, x)', x ONE new byte in a box of its own, s nil or the call's own. -/
theorem append1 {P : Program} {t e : TypeId} (T : ByteTy P t e) {ops : Array Oper} {rest : List Oper} {o : Oper} {a : Act} {Q : Exit → Act → World → Prop} {w0 w : World}
  (hgd : o.guard = none) {s x : Operand} (ho : o.op = .call { callee := .builtin .append, args := #[s, x], argTypes := #[t, t] })
  {base : Nat} {A : Option Addr} {n c : Nat} {y : Value} {l : List UInt8} (b : UInt8) (hy : y = bv b) (hs : a.eval s = .slice A n c) (hx : a.eval x = .slice (some ⟨w.heap.size, 0, none⟩) 1 1) (hown : OwnB w base e (.slice A n c) l)
  (hlen : n < 140737488355328) (hB : Below base w0 w) (hbase : base ≤ w0.heap.size)
  (h : ∀ g' c' w', OwnB w' base e (.slice (some ⟨g', 0, none⟩) (n + 1) c') (l ++ [b]) → Below base w0 w' → (w.alloc (.cells #[y] e)).grownBy w' (Value.slice A n c).ownBlock → wpList P ops Q rest (a.put o.dst (.slice (some ⟨g', 0, none⟩) (n + 1) c')) w') :
  wpList P ops Q (o :: rest) a (w.alloc (.cells #[y] e)) := by
 subst hy
 have hl := hown.len
 subst hl
 have hbw : base ≤ w.heap.size := Nat.le_trans hbase hB.size
 obtain ⟨i, hi, hz0, hz1, hz2⟩ := info_parts T.info
 refine wpList_append_own _ hgd s x t ho base e i (.int .u8 0) 1 1 T.sl hi hz0 hz1 hz2 rfl (by decide) _ l.length (bvs l) hs (hown.alloc _) ⟨w.heap.size, 0, none⟩ 1 1 [bv b] hx rfl (cell_one_new _ _ _) (by simp [bv]; rfl)
  (by simp only [maxLen]; omega) (by omega) (by simp; omega) ?_
 intro v' w' h1 h2 h3
 have h4 : OwnB w' base e v' (l ++ [b]) := by
  unfold OwnB; rw [bvs_append, List.length_append]; exact h1
 rcases h1.2 with ⟨_, h5⟩ | ⟨g, cap, _, h5, _⟩
 ·omega
 ·subst h5
  exact h g cap w' h4 ((hB.alloc hbw _).grown h2 (by simp; omega) (fun k hk => (World.ownsRow.lt hown k hk).1)) h2

/-- A new row of bytes, laid whole ('[]byte{..}'). -/
theorem OwnB.made {w : World} {base e : Nat} {cs : Array Value} {l : List UInt8} (hb : base ≤ w.heap.size) (h : cs.toList = bvs l) (hl : l.length ≤ maxLen) :
  OwnB (w.alloc (.cells cs e)) base e (.slice (some ⟨w.heap.size, 0, none⟩) l.length l.length) l := by
 have hs : cs.size = l.length := by rw [← Array.length_toList, h, bvs_length]
 exact ⟨by simp [bvs], .inr ⟨w.heap.size, l.length, cs, rfl, hb, heap_alloc_new w _, Nat.le_refl _, hl, by omega, by rw [h]; exact List.take_of_length_le (by simp [bvs])⟩⟩

/-! ### Bytes that are only read -/
/-- The slice value '.slice A n _' reads as l, below block B. -/
def RdB (w : World) (B : Nat) (A : Option Addr) (n : Nat) (l : List UInt8) : Prop :=
 l.length = n ∧ (0 < n → ∃ b off, A = some ⟨b, off, none⟩ ∧ b < B ∧ ∀ j (h : j < l.length), w.cell? ⟨b, off + j, none⟩ = some (bv l[j]))

theorem RdB.keep {w w' : World} {B : Nat} {A : Option Addr} {n : Nat} {l : List UInt8} (h : RdB w B A n l) (hk : ∀ p : Addr, p.block < B → w'.cell? p = w.cell? p) : RdB w' B A n l :=
 ⟨h.1, fun hn => by
  obtain ⟨b, off, e, hb, hc⟩ := h.2 hn
  exact ⟨b, off, e, hb, fun j hj => (hk _ hb).trans (hc j hj)⟩⟩
theorem RdB.below {w w' : World} {B : Nat} {A : Option Addr} {n : Nat} {l : List UInt8} (h : RdB w B A n l) (hb : Below B w w') : RdB w' B A n l := h.keep fun _ hp => hb.cell hp
theorem RdB.more {w : World} {B B' : Nat} {A : Option Addr} {n : Nat} {l : List UInt8} (h : RdB w B A n l) (hB : B ≤ B') : RdB w B' A n l :=
 ⟨h.1, fun hn => by
  obtain ⟨b, off, e, hb, hc⟩ := h.2 hn
  exact ⟨b, off, e, by omega, hc⟩⟩
theorem RdB.nil {w : World} {B : Nat} {A : Option Addr} : RdB w B A 0 [] := ⟨rfl, fun h => absurd h (by omega)⟩
theorem OwnB.rd {w : World} {base e : Nat} {A : Option Addr} {n c : Nat} {l : List UInt8} (h : OwnB w base e (.slice A n c) l) : RdB w w.heap.size A n l := by
 refine ⟨h.len, fun hn => ?_⟩
 rcases h.2 with ⟨h1, h2⟩ | ⟨g, cap, cur, h1, _⟩
 ·injection h1 with _ h3 _; omega
 ·injection h1 with h4 _ _
  subst h4
  exact ⟨g, 0, rfl, (World.ownsRow.lt h g rfl).2, fun j hj => by rw [Nat.zero_add]; exact h.cell hj⟩
theorem OwnB.below {w w' : World} {base e : Nat} {v : Value} {l : List UInt8} (h : OwnB w base e v l) {B : Nat} (hB : w.heap.size ≤ B) (hb : Below B w w') : OwnB w' base e v l := by
 refine ⟨h.1, ?_⟩
 rcases h.2 with hn | ⟨g, cap, cur, h1, h2, h3, h4⟩
 ·exact .inl hn
 ·refine .inr ⟨g, cap, cur, h1, h2, ?_, h4⟩
  rw [hb.block g (by have := (Array.getElem?_eq_some_iff.1 h3).1; omega)]
  exact h3
theorem OwnB.base_le {w : World} {base base' e : Nat} {v : Value} {l : List UInt8} (h : OwnB w base e v l) (hb : base' ≤ base) : OwnB w base' e v l := by
 refine ⟨h.1, ?_⟩
 rcases h.2 with hn | ⟨g, cap, cur, h1, h2, h3⟩
 ·exact .inl hn
 ·exact .inr ⟨g, cap, cur, h1, by omega, h3⟩

theorem RdB.mark (w : World) (e : TypeId) (l : List UInt8) (mk : Nat × Nat) (g : Nat) (hg : w.heap.size = g) (B : Nat) (hB : g < B) : RdB (w.alloc (.cells (bvs l).toArray e mk)) B (some ⟨g, 0, none⟩) l.length l := by
 subst hg
 refine ⟨rfl, fun _ => ⟨w.heap.size, 0, rfl, hB, fun j hj => ?_⟩⟩
 rw [Nat.zero_add, cell_of_row _ w.heap.size j (bvs l).toArray e mk (heap_alloc_new w _)]
 simp [bvs, hj]
theorem RdB.alloc {w : World} {B : Nat} {A : Option Addr} {n : Nat} {l : List UInt8} (h : RdB w B A n l) (hB : B ≤ w.heap.size) (o : Obj) : RdB (w.alloc o) B A n l :=
 h.keep fun p hp => World.cell?_alloc_lt w o p (by omega)
/-- 'string(b)'. -/
def strB (l : List UInt8) : ByteArray := ⟨l.toArray⟩
@[go_sem] theorem strB_toList (l : List UInt8) : (strB l).toList = l := by rw [ByteArray.toList_eq]; simp [strB]
theorem strB_size (l : List UInt8) : (strB l).size = l.length := by simp [strB, ByteArray.size]
theorem strB_data (s : ByteArray) : strB s.data.toList = s := by simp [strB]
theorem empty_strB : ByteArray.empty = strB [] := rfl
theorem strOf_bytes (l : List UInt8) : strOfNums (l.map fun b => (b.toNat : Int)) = strB l := by
 unfold strOfNums strB
 congr 1
 rw [List.map_map]
 congr 1
 conv => rhs; rw [← List.map_id l]
 refine List.map_congr_left fun b _ => ?_
 simp
theorem run_str {P : Program} {t e : TypeId} (T : ByteTy P t e) {w : World} {B : Nat} {A : Option Addr} {n : Nat} {l : List UInt8} (h : RdB w B A n l) (c : Nat) (d : TypeId) (hd : P.underlying d = some .string) :
  (convert t d (.slice A n c)).run P w = .ok (.string (strB l)) w := by
 rcases Nat.eq_zero_or_pos n with h0 | h0
 ·have hl : l = [] := List.eq_nil_of_length_eq_zero (by rw [h.1, h0])
  subst hl h0
  rcases A with _ | ad
  ·exact run_convert_bytes_nil w t e T.sl T.el 0 c d hd
  ·rw [run_convert_bytes_string w t d e _ 0 c T.sl T.el hd]
   have := run_bytesToString (P := P) w ad 0 c [] (by simp [loadCells, loadCellsFrom])
   exact this
 ·obtain ⟨b, off, rfl, _, hc⟩ := h.2 h0
  have := run_convert_bytes_arg (P := P) w t e T.sl T.el b off n c (l.map fun b => (b.toNat : Int)) (by rw [List.length_map]; exact h.1)
   (fun i hi => by rw [hc i (by rw [h.1]; exact hi)]; simp [bv, List.getD_eq_getElem?_getD, show i < l.length from by rw [h.1]; exact hi]) d hd
  rw [this, strOf_bytes]

/-! ### append(s, x...), x only read -/
theorem OwnB.form {w : World} {base e : Nat} {v : Value} {k : Nat} {l : List UInt8} (h : w.ownsRow base e 1 v k (bvs l)) : ∃ A c, v = .slice A k c := by
 rcases h.2 with ⟨h1, h2⟩ | ⟨g, cap, cur, h1, _⟩
 ·exact ⟨none, 0, by rw [h1, h2]⟩
 ·exact ⟨_, _, h1⟩
theorem run_append_nilB {P : Program} {t e : TypeId} (T : ByteTy P t e) (ty : TypeId) {w : World} {base : Nat} {A : Option Addr} {n c : Nat} {l : List UInt8} (hown : OwnB w base e (.slice A n c) l) (c2 : Nat) :
  (Builtin.append_ #[t, t] ty #[.slice A n c, .slice none 0 c2]).run P w = .ok (.slice A n c) w := by
 obtain ⟨i, hi, hz0, hz1, hz2⟩ := info_parts T.info
 rcases hown.2 with ⟨h1, h2⟩ | ⟨g, cap, cur, h1, _, _, hnc, _⟩
 ·rw [h1]
  simp [Builtin.append_, run_underlying T.sl, sizeOf, typeInfo, hi, Builtin.lenOf, Builtin.firstCells]
 ·injection h1 with h3 h4 h5
  subst h3 h4 h5
  simp [Builtin.append_, run_underlying T.sl, sizeOf, typeInfo, hi, Builtin.lenOf, Builtin.firstCells, hnc, storeCells]
theorem run_appendR {P : Program} {t e : TypeId} (T : ByteTy P t e) (ty : TypeId) {w : World} {base : Nat} {A : Option Addr} {n c : Nat} {l : List UInt8} (hown : OwnB w base e (.slice A n c) l)
  {B : Nat} {A2 : Option Addr} {m : Nat} {l2 : List UInt8} (hr : RdB w B A2 m l2) (c2 : Nat) (hlen : n + m ≤ 140737488355328) (hbase : base ≤ w.heap.size) :
  ∃ A' c' w', (Builtin.append_ #[t, t] ty #[.slice A n c, .slice A2 m c2]).run P w = .ok (.slice A' (n + m) c') w' ∧ OwnB w' base e (.slice A' (n + m) c') (l ++ l2) ∧ w.grownBy w' (Value.slice A n c).ownBlock := by
 obtain ⟨i, hi, hz0, hz1, hz2⟩ := info_parts T.info
 have hl := hown.len
 have hl2 := hr.1
 rcases A2 with _ | ad
 ·have hm : m = 0 := by
   rcases Nat.eq_zero_or_pos m with h0 | h0
   ·exact h0
   ·obtain ⟨b, off, h, _⟩ := hr.2 h0
    cases h
  subst hm
  have hn : l2 = [] := List.eq_nil_of_length_eq_zero hl2
  subst hn
  exact ⟨A, c, w, run_append_nilB T ty hown c2, hown.of_eq (by simp), World.grownBy.refl w _⟩
 ·have hcells : ∀ j u, (bvs l2)[j]? = some u → w.cell? (ad.add j) = some u := by
   intro j u hu
   obtain ⟨hj, hu⟩ := List.getElem?_eq_some_iff.1 hu
   rw [bvs_length] at hj
   obtain ⟨b, off, h, _, hc⟩ := hr.2 (by omega)
   injection h with h
   subst h
   rw [show (⟨b, off, none⟩ : Addr).add j = ⟨b, off + j, none⟩ from by unfold Addr.add; split <;> simp_all, hc j hj, ← hu]
   simp [bvs]
  obtain ⟨v', w', hrun, h2, h3, _⟩ := run_append_own (P := P) w base t ty e i (.int .u8 0) 1 1 T.sl hi hz0 hz1 hz2 rfl (by decide) (.slice A n c) n (bvs l) (hl ▸ hown) ad m c2 (bvs l2) (by rw [bvs_length]; omega) hcells (bvs_one l2) (by simp only [maxLen]; omega) (by omega) hbase
  rw [← bvs_append] at h2
  obtain ⟨A', c', rfl⟩ := OwnB.form h2
  refine ⟨A', c', w', hrun, ?_, h3⟩
  unfold OwnB
  rw [List.length_append, hl, hl2]
  exact h2
theorem wp_appendR {P : Program} {t e : TypeId} (T : ByteTy P t e) {o : Oper} {a : Act} {K : Act → World → Prop} {Q : Exit → Act → World → Prop} {w0 w : World}
  {s x : Operand} (ho : o.op = .call { callee := .builtin .append, args := #[s, x], argTypes := #[t, t] })
  {base : Nat} {A : Option Addr} {n c : Nat} {l : List UInt8} (hs : a.eval s = .slice A n c) (hown : OwnB w base e (.slice A n c) l)
  {B : Nat} {A2 : Option Addr} {m c2 : Nat} {l2 : List UInt8} (hx : a.eval x = .slice A2 m c2) (hr : RdB w B A2 m l2) (hlen : n + m ≤ 140737488355328) (hB : Below base w0 w) (hbase : base ≤ w0.heap.size)
  (h : ∀ A' c' w', OwnB w' base e (.slice A' (n + m) c') (l ++ l2) → Below base w0 w' → w.grownBy w' (Value.slice A n c).ownBlock → K (a.put o.dst (.slice A' (n + m) c')) w') : o.wp P a w K Q := by
 obtain ⟨A', c', w', hrun, h2, h3⟩ := run_appendR T o.type hown hr c2 hlen (Nat.le_trans hbase hB.size)
 unfold Oper.wp execOp
 simp only [ho, resolve, invoke, builtin, Sem.run_bind, Sem.run_pure, Result.andThen_ok, List.map_toArray, List.map_cons, List.map_nil, hs, hx, hrun]
 exact h A' c' w' h2 (hB.grown h3 (Nat.le_trans hbase hB.size) (fun k hk => (World.ownsRow.lt hown k hk).1)) h3
/-- 'append(s, x...)', s nil or the call's own, x only read. -/
theorem appendR {P : Program} {t e : TypeId} (T : ByteTy P t e) {ops : Array Oper} {rest : List Oper} {o : Oper} {a : Act} {Q : Exit → Act → World → Prop} {w0 w : World}
  (hgd : o.guard = none) {s x : Operand} (ho : o.op = .call { callee := .builtin .append, args := #[s, x], argTypes := #[t, t] })
  {base : Nat} {A : Option Addr} {n c : Nat} {l : List UInt8} (hs : a.eval s = .slice A n c) (hown : OwnB w base e (.slice A n c) l)
  {B : Nat} {A2 : Option Addr} {m c2 : Nat} {l2 : List UInt8} (hx : a.eval x = .slice A2 m c2) (hr : RdB w B A2 m l2) (hlen : n + m ≤ 140737488355328) (hB : Below base w0 w) (hbase : base ≤ w0.heap.size)
  (h : ∀ A' c' w', OwnB w' base e (.slice A' (n + m) c') (l ++ l2) → Below base w0 w' → w.grownBy w' (Value.slice A n c).ownBlock → wpList P ops Q rest (a.put o.dst (.slice A' (n + m) c')) w') :
  wpList P ops Q (o :: rest) a w :=
 wpList_plain hgd fun _ hK => wp_appendR T ho hs hown hx hr hlen hB hbase fun A' c' w' h1 h2 h3 => hK _ _ (h A' c' w' h1 h2 h3)
theorem OwnB.nil_ (w : World) (base e : Nat) : OwnB w base e (.slice none 0 0) [] := World.ownsRow_nil w base e 1

/-! ### A block that is known whole -/
/-- Block g holds just the cells cs (of type t), none shared with a string. -/
def Blk (w : World) (g t : Nat) (cs : List Value) : Prop := w.heap[g]? = some (.cells cs.toArray t (0, 0))
section
variable {w w' : World} {g t : Nat} {cs : List Value}
theorem Blk.lt (h : Blk w g t cs) : g < w.heap.size := (Array.getElem?_eq_some_iff.1 h).1
theorem Blk.cell (h : Blk w g t cs) (i : Nat) : w.cell? ⟨g, i, none⟩ = cs[i]? := by
 rw [cell_of_row w g i cs.toArray t (0, 0) h]
 simp
theorem Blk.frozen (h : Blk w g t cs) (i : Nat) : w.frozen? ⟨g, i, none⟩ = false := by
 unfold Blk at h
 simp [World.frozen?, h]
theorem Blk.new (w : World) (t : Nat) (cs : Array Value) : Blk (w.alloc (.cells cs t)) w.heap.size t cs.toList := by
 unfold Blk
 rw [Array.toArray_toList]
 exact heap_alloc_new w _
theorem Blk.drew (h : Blk w g t cs) : Blk w.drew g t cs := h
theorem Blk.drewN (h : Blk w g t cs) (n : Nat) : Blk (w.drewN n) g t cs := h
theorem Blk.alloc (h : Blk w g t cs) (o : Obj) : Blk (w.alloc o) g t cs := (Below.heap_alloc w o g h.lt).trans h
theorem Blk.set (h : Blk w g t cs) (i : Nat) (u : Value) : Blk (w.setCell ⟨g, i, none⟩ u) g t (cs.set i u) := by
 unfold Blk at h ⊢
 simp [World.setCell, Array.getElem?_modify, h]
theorem Blk.far (h : Blk w g t cs) {p : Addr} (hp : g ≠ p.block) (u : Value) : Blk (w.setCell p u) g t cs := (Below.heap_setCell w p u g hp).trans h
theorem Blk.below {B : Nat} (h : Blk w g t cs) (hb : Below B w w') (hg : g < B) : Blk w' g t cs := (hb.block g hg).trans h
theorem Blk.grown {row : Option Nat} (h : Blk w g t cs) (hb : w.grownBy w' row) (hg : some g ≠ row) : Blk w' g t cs := (hb.block g h.lt hg).trans h
end

theorem bvs_all (l : List UInt8) : (bvs l).all (·.oneCell') = true := by
 rw [List.all_eq_true]
 exact bvs_one l
theorem Blk.setByte {w : World} {g t : Nat} {l : List UInt8} (h : Blk w g t (bvs l)) (i : Nat) (x : UInt8) : Blk (w.setCell ⟨g, i, none⟩ (bv x)) g t (bvs (l.set i x)) := by
 have e : bvs (l.set i x) = (bvs l).set i (bv x) := by unfold bvs; rw [List.map_set]
 rw [e]
 exact Blk.set h i _
theorem Blk.byte {w : World} {g t : Nat} {l : List UInt8} (h : Blk w g t (bvs l)) {i : Nat} (hi : i < l.length) : w.cell? ⟨g, i, none⟩ = some (bv l[i]) := by
 rw [h.cell]
 simp [bvs, hi]
def at8 (l : List UInt8) (i : Nat) : UInt8 := l.getD i 0
theorem Blk.byteAt {w : World} {g t : Nat} {l : List UInt8} (h : Blk w g t (bvs l)) {i : Nat} (hi : i < l.length) : w.cell? ⟨g, i, none⟩ = some (.int .u8 ((at8 l i).toNat : Int)) := by
 rw [h.byte hi]
 simp [at8, hi, bv]
/-- A whole array is loaded out of its block. -/
theorem load_blk {P : Program} {ops : Array Oper} {rest : List Oper} {o : Oper} {a : Act} {Q : Exit → Act → World → Prop} {w : World} {g t : Nat} {cs : List Value} (h : Blk w g t cs)
  (hgd : o.guard = none) (ty : TypeId) (x : Operand) (ho : o.op = .load ty x) (hx : a.eval x = .pointer (some ⟨g, 0, none⟩)) {d : TypeDesc} (hu : P.underlying ty = some d) (hi : (P.info? ty).map (·.size) = some cs.length)
  (hK : wpList P ops Q rest (a.put o.dst (.agg cs.toArray)) w) (hd : d.isRow = true := by rfl) : wpList P ops Q (o :: rest) a w :=
 by cases d <;> first | exact wpList_load_row hgd ty x ho g hx t cs.toArray (0, 0) _ h hu rfl (by simpa using hi) hK | cases hd
/-- A whole array is read of its block, by a guarded operation that is wanted. -/
theorem load_blk_if {P : Program} {ops : Array Oper} {rest : List Oper} {o : Oper} {a : Act} {Q : Exit → Act → World → Prop} {w : World} {g t : Nat} {cs : List Value} (h : Blk w g t cs)
  (hgd : Region.wanted o (yielded ops a.tmps) = true) (ty : TypeId) (x : Operand) (ho : o.op = .load ty x) (hx : a.eval x = .pointer (some ⟨g, 0, none⟩)) {d : TypeDesc} (hu : P.underlying ty = some d) (hi : (P.info? ty).map (·.size) = some cs.length)
  (hK : wpList P ops Q rest (a.put o.dst (.agg cs.toArray)) w) (hd : d.isRow = true := by rfl) : wpList P ops Q (o :: rest) a w :=
 wpList_step fun K hK' => by
  rw [if_pos hgd]
  cases d <;> first | exact wp_load_row ty x ho g hx t cs.toArray (0, 0) _ h hu rfl (by simpa using hi) (hK' _ _ hK) | cases hd
/-- A whole array is stored into its block. -/
theorem store_blk {P : Program} {ops : Array Oper} {rest : List Oper} {o : Oper} {a : Act} {Q : Exit → Act → World → Prop} {w : World} {g t : Nat} {cs : List Value} (h : Blk w g t cs)
  (hgd : o.guard = none) (ty : TypeId) (x y : Operand) (ho : o.op = .store ty x y) (hx : a.eval x = .pointer (some ⟨g, 0, none⟩)) {us : List Value} (hy : a.eval y = .agg us.toArray)
  (hi : (P.info? ty).map (·.size) = some us.length) (hl : cs.length = us.length) (h1 : us.all (·.oneCell') = true)
  (hK : ∀ w', Blk w' g t us → w.grownBy w' (some g) → wpList P ops Q rest (a.put o.dst undef) w') : wpList P ops Q (o :: rest) a w := by
 refine wpList_store_row hgd ty x y ho g us.toArray hx hy t cs.toArray h (by simpa using hi) (by simpa using hl) (by rw [List.all_toArray]; exact h1) (hK _ ?_ ?_)
 ·unfold Blk
  exact setRow_heap w g cs.toArray us.toArray t (0, 0) h
 ·exact ⟨rfl, rfl, rfl, by simp, fun k _ hk => setRow_other w g k _ (fun e => hk (by rw [e]))⟩
theorem wp_store_blk {P : Program} {o : Oper} {a : Act} {K : Act → World → Prop} {Q : Exit → Act → World → Prop} {w : World} {g t : Nat} {cs : List Value} (h : Blk w g t cs)
  (ty : TypeId) (x y : Operand) (ho : o.op = .store ty x y) (hx : a.eval x = .pointer (some ⟨g, 0, none⟩)) {us : List Value} (hy : a.eval y = .agg us.toArray)
  (hi : (P.info? ty).map (·.size) = some us.length) (hl : cs.length = us.length) (h1 : us.all (·.oneCell') = true)
  (hK : ∀ w', Blk w' g t us → w.grownBy w' (some g) → K (a.put o.dst undef) w') : o.wp P a w K Q := by
 refine wp_store_row ty x y ho g us.toArray hx hy t cs.toArray h (by simpa using hi) (by simpa using hl) (by rw [List.all_toArray]; exact h1) (hK _ ?_ ?_)
 ·unfold Blk
  exact setRow_heap w g cs.toArray us.toArray t (0, 0) h
 ·exact ⟨rfl, rfl, rfl, by simp, fun k _ hk => setRow_other w g k _ (fun e => hk (by rw [e]))⟩
theorem Blk.sized {w : World} {g t : Nat} {cs : List Value} (h : Blk w g t cs) {fn : Func} {p : Tmp} {ty : TypeId} (hf : fn.results = #[.cell p ty]) (tmps : Array Value) {P : Program} (hp : tmps.getD p undef = .pointer (some ⟨g, 0, none⟩)) {d : TypeDesc}
  (hu : P.underlying ty = some d) (hi : (P.info? ty).map (·.size) = some cs.length) (hd : d.isRow = true := by rfl) : (results fn tmps).run P w = .ok (.agg cs.toArray) w :=
 by cases d <;> first | exact results_cell_row hf tmps w g t cs.toArray (0, 0) _ hp h hu rfl (by simpa using hi) | cases hd
theorem Blk.range {w : World} {g t : Nat} {cs : List Value} (h : Blk w g t cs) (o n : Nat) : w.rangeAt g o ((cs.drop o).take n) := by
 intro j v hv
 rw [h.cell]
 rw [List.getElem?_take] at hv
 split at hv
 ·rwa [List.getElem?_drop] at hv
 ·cases hv
theorem Blk.whole {w : World} {g t : Nat} {cs : List Value} (h : Blk w g t cs) : w.rangeAt g 0 cs := by
 have := h.range 0 cs.length
 rwa [List.drop_zero, List.take_length] at this
theorem Blk.there {w : World} {g t : Nat} {cs : List Value} (h : Blk w g t cs) {o n : Nat} (hn : o + n ≤ cs.length) : w.there g o n := by
 intro j hj
 refine ⟨?_, h.frozen _⟩
 rw [h.cell, List.getElem?_eq_getElem (by omega)]
 rfl
theorem Blk.setCells {g t : Nat} : ∀ (us : List Value) (o : Nat) (cs : List Value) (w : World), Blk w g t cs → o + us.length ≤ cs.length → Blk (w.setCells g o us) g t (cs.take o ++ us ++ cs.drop (o + us.length))
 | [], o, cs, w, h, _ => by simpa [World.setCells] using h
 | u :: us, o, cs, w, h, hl => by
  rw [List.length_cons] at hl
  have h1 := Blk.setCells us (o + 1) (cs.set o u) (w.setCell ⟨g, o, none⟩ u) (h.set o u) (by rw [List.length_set]; omega)
  rw [World.setCells]
  have e : (cs.set o u).take (o + 1) ++ us ++ (cs.set o u).drop (o + 1 + us.length) = cs.take o ++ (u :: us) ++ cs.drop (o + (u :: us).length) := by
   rw [List.take_succ_eq_append_getElem (by rw [List.length_set]; omega), List.getElem_set_self, List.take_set_of_le (Nat.le_refl _), List.drop_set_of_lt (by omega)]
   simp [Nat.add_comm, Nat.add_left_comm]
  rw [e] at h1
  exact h1
theorem size_setCells (g : Nat) : ∀ (us : List Value) (o : Nat) (w : World), (w.setCells g o us).heap.size = w.heap.size
 | [], _, _ => rfl
 | u :: us, o, w => by rw [World.setCells, size_setCells g us]; simp [World.setCell]
theorem grownBy_setCells (g : Nat) : ∀ (us : List Value) (o : Nat) (w : World), w.grownBy (w.setCells g o us) (some g)
 | [], _, w => World.grownBy.refl w _
 | u :: us, o, w => by
  have h := grownBy_setCells g us (o + 1) (w.setCell ⟨g, o, none⟩ u)
  rw [World.setCells]
  refine ⟨h.os, h.tape, h.output, ?_, fun k hk hne => ?_⟩
  ·have := h.size; simpa [World.setCell] using this
  ·rw [h.block k (by simpa [World.setCell] using hk) hne]
   exact Below.heap_setCell w _ u k (fun e => hne (by rw [e]))
/-- A part of a block is loaded whole, a part is stored whole. -/
theorem load_part {P : Program} {ops : Array Oper} {rest : List Oper} {o : Oper} {a : Act} {Q : Exit → Act → World → Prop} {w : World} {b off : Nat} {cs : List Value} (h : w.rangeAt b off cs)
  (hgd : o.guard = none) (ty : TypeId) (x : Operand) (ho : o.op = .load ty x) (hx : a.eval x = .pointer (some ⟨b, off, none⟩)) {d : TypeDesc} (hu : P.underlying ty = some d) (hi : (P.info? ty).map (·.size) = some cs.length)
  (hK : wpList P ops Q rest (a.put o.dst (.agg cs.toArray)) w) (hd : d.isRow = true := by rfl) : wpList P ops Q (o :: rest) a w :=
 wpList_load_mid hgd ty x ho b off hx cs d h hu hd hi hK
theorem store_part {P : Program} {ops : Array Oper} {rest : List Oper} {o : Oper} {a : Act} {Q : Exit → Act → World → Prop} {w : World} {g t off : Nat} {cs : List Value} (h : Blk w g t cs)
  (hgd : o.guard = none) (ty : TypeId) (x y : Operand) (ho : o.op = .store ty x y) (hx : a.eval x = .pointer (some ⟨g, off, none⟩)) {us : List Value} (hy : a.eval y = .agg us.toArray)
  (hi : (P.info? ty).map (·.size) = some us.length) (hl : off + us.length ≤ cs.length) (h1 : us.all (·.oneCell') = true)
  (hK : ∀ w', Blk w' g t (cs.take off ++ us ++ cs.drop (off + us.length)) → w.grownBy w' (some g) → wpList P ops Q rest (a.put o.dst undef) w') : wpList P ops Q (o :: rest) a w := by
 refine wpList_store_mid hgd ty x y ho g off us.toArray hx hy ?_ (by simpa using hi) (by rw [List.all_toArray]; exact h1) (hK _ ?_ ?_)
 ·rw [List.size_toArray]; exact h.there hl
 ·exact Blk.setCells us off cs w h hl
 ·exact grownBy_setCells g us off w
theorem still_load_part {P : Program} {ops : Array Oper} {rest : List Oper} {o : Oper} {a : Act} {Q : Act → Prop} {w : World} {b off : Nat} {cs : List Value} (h : w.rangeAt b off cs)
  (hgd : o.guard = none) (ty : TypeId) (x : Operand) (ho : o.op = .load ty x) (hx : a.eval x = .pointer (some ⟨b, off, none⟩)) {d : TypeDesc} (hu : P.underlying ty = some d) (hi : (P.info? ty).map (·.size) = some cs.length)
  (hK : wpStill P ops w Q rest (a.put o.dst (.agg cs.toArray))) (hd : d.isRow = true := by rfl) : wpStill P ops w Q (o :: rest) a := by
 unfold wpStill
 rw [if_pos (by simp [Region.wanted, hgd])]
 unfold Oper.still execOp
 simp only [ho, hx, Sem.run_bind, run_loadAt_mid w b off ty cs d h hu hd hi, Result.andThen_ok, Sem.run_pure, Oper.stillUpon]
 exact ⟨trivial, hK⟩

theorem OwnB.of_blk {w : World} {base g e n : Nat} {l : List UInt8} (h : Blk w g e (bvs l)) (hb : base ≤ g) (hl : l.length = n) (hn : n ≤ maxLen) : OwnB w base e (.slice (some ⟨g, 0, none⟩) n n) l := by
 subst hl
 exact ⟨by simp [bvs], .inr ⟨g, _, _, rfl, hb, h, Nat.le_refl _, hn, by simp [bvs], by rw [Nat.mul_one]; exact List.take_of_length_le (by simp [bvs])⟩⟩
def lenAt (w : World) (a : Addr) : Nat := match w.cell? a with | some (.slice _ n _) => n | _ => 0
theorem lenAt_of {w : World} {a : Addr} {A : Option Addr} {n c : Nat} (h : w.cell? a = some (.slice A n c)) : lenAt w a = n := by simp [lenAt, h]
theorem OwnB.cap {w : World} {base e : Nat} {A : Option Addr} {n c : Nat} {l : List UInt8} (h : OwnB w base e (.slice A n c) l) : n ≤ c := by
 rcases h.2 with ⟨h1, h2⟩ | ⟨g, cap, cur, h1, h2, h3, h4, h5, h6, h7⟩
 ·injection h1 with _ h3 h4; omega
 ·injection h1 with h8 h9 h10
  have := h.len
  omega

/-! ### Bytes that lie somewhere in a block of the call's own -/
def FrB (w : World) (base : Nat) (e : TypeId) (A : Option Addr) (n : Nat) (l : List UInt8) : Prop :=
 l.length = n ∧ (0 < n → ∃ g off cur, A = some ⟨g, off, none⟩ ∧ base ≤ g ∧ Blk w g e cur ∧ (cur.drop off).take n = bvs l)
theorem OwnB.fr {w : World} {base e : Nat} {A : Option Addr} {n c : Nat} {l : List UInt8} (h : OwnB w base e (.slice A n c) l) : FrB w base e A n l := by
 refine ⟨h.len, fun hn => ?_⟩
 rcases h.2 with ⟨h1, h2⟩ | ⟨g, cap, cur, h1, h2, h3, h4, h5, h6, h7⟩
 ·injection h1 with _ h3 _; omega
 ·injection h1 with h8 h9 _
  subst h8
  refine ⟨g, 0, cur.toList, rfl, h2, by unfold Blk; rw [Array.toArray_toList]; exact h3, ?_⟩
  rw [List.drop_zero, ← h7, h9, Nat.mul_one]
theorem FrB.rd {w : World} {base e : Nat} {A : Option Addr} {n : Nat} {l : List UInt8} (h : FrB w base e A n l) : RdB w w.heap.size A n l := by
 refine ⟨h.1, fun hn => ?_⟩
 obtain ⟨g, off, cur, hA, _, hb, hc⟩ := h.2 hn
 refine ⟨g, off, hA, hb.lt, fun j hj => ?_⟩
 have h1 : (bvs l)[j]? = some (bv l[j]) := by simp [bvs, hj]
 rw [hb.cell, ← List.getElem?_drop, ← h1, ← hc, List.getElem?_take, if_pos (by have := h.1; omega)]
theorem FrB.below {w w' : World} {base e : Nat} {A : Option Addr} {n : Nat} {l : List UInt8} (h : FrB w base e A n l) {B : Nat} (hB : w.heap.size ≤ B) (hb : Below B w w') : FrB w' base e A n l :=
 ⟨h.1, fun hn => by
  obtain ⟨g, off, cur, hA, h1, h2, h3⟩ := h.2 hn
  exact ⟨g, off, cur, hA, h1, h2.below hb (by have := h2.lt; omega), h3⟩⟩
theorem FrB.grown {w w' : World} {base e : Nat} {A : Option Addr} {n : Nat} {l : List UInt8} (h : FrB w base e A n l) {row : Nat} (hg : w.grownBy w' (some row)) (hr : row < base) : FrB w' base e A n l :=
 ⟨h.1, fun hn => by
  obtain ⟨g, off, cur, hA, h1, h2, h3⟩ := h.2 hn
  exact ⟨g, off, cur, hA, h1, h2.grown hg (by intro e; injection e with e; omega), h3⟩⟩
theorem FrB.drewN {w : World} {base e : Nat} {A : Option Addr} {n : Nat} {l : List UInt8} (h : FrB w base e A n l) (k : Nat) : FrB (w.drewN k) base e A n l := h
theorem FrB.drew {w : World} {base e : Nat} {A : Option Addr} {n : Nat} {l : List UInt8} (h : FrB w base e A n l) : FrB w.drew base e A n l := h
theorem FrB.base_le {w : World} {base base' e : Nat} {A : Option Addr} {n : Nat} {l : List UInt8} (h : FrB w base e A n l) (hb : base' ≤ base) : FrB w base' e A n l :=
 ⟨h.1, fun hn => by
  obtain ⟨g, off, cur, hA, h1, h2, h3⟩ := h.2 hn
  exact ⟨g, off, cur, hA, by omega, h2, h3⟩⟩
theorem FrB.nil_ {w : World} {base e : Nat} {A : Option Addr} : FrB w base e A 0 [] := ⟨rfl, fun h => absurd h (by omega)⟩
theorem FrB.take {w : World} {base e : Nat} {A : Option Addr} {n : Nat} {l : List UInt8} (h : FrB w base e A n l) {k : Nat} (hk : k ≤ n) : FrB w base e A k (l.take k) :=
 ⟨by rw [List.length_take, h.1]; omega, fun hn => by
  obtain ⟨g, off, cur, hA, h1, h2, h3⟩ := h.2 (by omega)
  refine ⟨g, off, cur, hA, h1, h2, ?_⟩
  have : bvs (l.take k) = (bvs l).take k := by simp [bvs]
  rw [this, ← h3, List.take_take, Nat.min_eq_left hk]⟩
theorem FrB.drop {w : World} {base e : Nat} {g off n : Nat} {l : List UInt8} (h : FrB w base e (some ⟨g, off, none⟩) n l) {k : Nat} (hk : k ≤ n) : FrB w base e (some ⟨g, off + k, none⟩) (n - k) (l.drop k) :=
 ⟨by rw [List.length_drop, h.1], fun hn => by
  obtain ⟨g', off', cur, hA, h1, h2, h3⟩ := h.2 (by omega)
  injection hA with hA
  injection hA with e1 e2
  subst e1 e2
  refine ⟨_, _, cur, rfl, h1, h2, ?_⟩
  have : bvs (l.drop k) = (bvs l).drop k := by simp [bvs]
  rw [this, ← h3, List.drop_take, List.drop_drop]⟩
/-- From here on the world is a letter of which F is known. -/
theorem abs {P : Program} {cd : Code} {Q : Exit → Act → World → Prop} {a : Act} {W : World} (F : World → Prop) (hF : F W) (h : ∀ w1, F w1 → Code.wp P cd Q a w1) : Code.wp P cd Q a W := h W hF
theorem absL {P : Program} {ops : Array Oper} {Q : Exit → Act → World → Prop} {l : List Oper} {a : Act} {W : World} (F : World → Prop) (hF : F W) (h : ∀ w1, F w1 → wpList P ops Q l a w1) : wpList P ops Q l a W := h W hF
theorem absC {P : Program} {f : FuncId} {args : Array Value} {R : Ending → World → Prop} {W : World} (F : World → Prop) (hF : F W) (h : ∀ w1, F w1 → Calls P f args w1 R) : Calls P f args W R := h W hF
theorem absK {K : Act → World → Prop} {a : Act} {W : World} (F : World → Prop) (hF : F W) (h : ∀ w1, F w1 → K a w1) : K a W := h W hF
theorem Blk.newAt {w : World} {g : Nat} (hg : w.heap.size = g) (t : Nat) (cs : Array Value) : Blk (w.alloc (.cells cs t)) g t cs.toList := by
 subst hg
 exact Blk.new w t cs
theorem Blk.of_new (w : World) (t : Nat) (cs : List Value) : Blk (w.alloc (.cells cs.toArray t)) w.heap.size t cs := by
 have := Blk.new w t cs.toArray
 simpa using this
theorem belowN {B : Nat} {a w : World} (h : Below B a w) (n : Nat) : Below B a (w.drewN n) := ⟨h.os, h.tape, h.output, h.size, h.block⟩
theorem Blk.rdB {w : World} {g t n : Nat} {l : List UInt8} (h : Blk w g t (bvs l)) (hn : l.length = n) : RdB w w.heap.size (some ⟨g, 0, none⟩) n l :=
 ⟨hn, fun _ => ⟨g, 0, rfl, h.lt, fun j hj => by rw [Nat.zero_add]; exact h.byte hj⟩⟩
/-- Two blocks that hold unlike things are two. -/
theorem Blk.ne {w : World} {g g' t t' : Nat} {cs cs' : List Value} (h : Blk w g t cs) (h' : Blk w g' t' cs') (hne : t ≠ t' ∨ cs ≠ cs') : g ≠ g' := by
 rintro rfl
 unfold Blk at h h'
 rw [h] at h'
 injection h' with h'
 injection h' with h1 h2
 rcases hne with hne | hne
 ·exact hne h2
 ·exact hne (by simpa using h1)
theorem OwnB.not_row {w : World} {base e g t : Nat} {v : Value} {l : List UInt8} {cs : List Value} (h : OwnB w base e v l) (k : Blk w g t cs) (hne : t ≠ e) : some g ≠ v.ownBlock := by
 rcases h.2 with ⟨h1, h2⟩ | ⟨g', cap, cur, h1, _, h3, _⟩
 ·rw [h1]; simp [Value.ownBlock]
 ·rw [h1]
  intro hg
  simp [Value.ownBlock] at hg
  subst hg
  unfold Blk at k
  rw [h3] at k
  injection k with k
  injection k with _ h5
  exact hne h5.symm
theorem wp_load_blk {P : Program} {o : Oper} {a : Act} {K : Act → World → Prop} {Q : Exit → Act → World → Prop} {w : World} {g t : Nat} {cs : List Value} (h : Blk w g t cs)
  (ty : TypeId) (x : Operand) (ho : o.op = .load ty x) (hx : a.eval x = .pointer (some ⟨g, 0, none⟩)) {d : TypeDesc} (hu : P.underlying ty = some d) (hi : (P.info? ty).map (·.size) = some cs.length)
  (hK : K (a.put o.dst (.agg cs.toArray)) w) (hd : d.isRow = true := by rfl) : o.wp P a w K Q := by
 cases d <;> first | exact wp_load_row ty x ho g hx t cs.toArray (0, 0) _ h hu rfl (by simpa using hi) hK | cases hd
/-- A slice of bytes that are read. -/
theorem RdB.sliced {w : World} {B : Nat} {A : Option Addr} {n : Nat} {l : List UInt8} (h : RdB w B A n l) {i k c : Nat} (hi : i ≤ k) (hk : k ≤ n) (hc : n ≤ c) :
  ∃ A', sliced A i k c 1 = .slice A' (k - i) (c - i) ∧ RdB w B A' (k - i) ((l.take k).drop i) := by
 refine ⟨_, rfl, by rw [List.length_drop, List.length_take, h.1]; omega, fun hp => ?_⟩
 obtain ⟨b, off, rfl, hb, hj⟩ := h.2 (by omega)
 refine ⟨b, off + i, ?_, hb, fun j hj' => ?_⟩
 ·rw [if_neg (by omega)]
  simp [Addr.add]
 ·rw [List.length_drop, List.length_take] at hj'
  rw [Nat.add_assoc, hj (i + j) (by omega)]
  simp
end Go.Proofs.YtpcdmbajfmnoiaaGreatDoor
