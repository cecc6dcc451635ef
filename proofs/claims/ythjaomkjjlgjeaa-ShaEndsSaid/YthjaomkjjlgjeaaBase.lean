/- Words for slices of bytes that a call owns, over any program: 'bv', 'bvs' (bytes as cells), 'ByteTy' (a slice type of bytes), 'OwnB' (a slice value owns these bytes, and what lay below is as it was), and append's law in these words. No condition. -/
import Derived.WalkKit
import Derived.WalkSpells
import Derived.WalkLawsBesides
import Derived.Maps.AppendAt
import Derived.Deep.Draws
import Derived.Lib.SlicesS
import Derived.Lib.Hide
import Derived.Deep.Cut
import Derived.Deep.DeepCutAuto
import Derived.Deep.DeepMust
import Derived.Deep.DeepFit
import Derived.Deep.QuietTactic
import Derived.BigQuiet
import Derived.Deep.LoopGhost
import Derived.Deep.Light
import Derived.Deep.RegionWith
namespace Go.Proofs.Ythjaomkjjlgjeaa
open Go.RowKit

def bv (b : UInt8) : Value := .int .u8 (b.toNat : Int)
def bvs (l : List UInt8) : List Value := l.map bv

theorem bvs_length (l : List UInt8) : (bvs l).length = l.length := by simp [bvs]
theorem bvs_append (l m : List UInt8) : bvs (l ++ m) = bvs l ++ bvs m := by simp [bvs]
theorem bvs_one (l : List UInt8) : ∀ u ∈ bvs l, u.oneCell' = true := by
  intro u hu
  obtain ⟨b, _, rfl⟩ := List.mem_map.1 hu
  rfl

structure ByteTy (P : Program) (t e : TypeId) : Prop where
  sl : P.underlying t = some (.slice e)
  el : P.underlying e = some (.int .u8)
  info : (P.info? e).map (fun i => (i.zero, i.size, i.bytes)) = some (some (.int .u8 0), 1, 1)

/-- v owns the bytes l in a row from block base on. -/
def OwnB (w : World) (base : Nat) (e : TypeId) (v : Value) (l : List UInt8) : Prop := w.ownsRow base e 1 v l.length (bvs l)

theorem OwnB.alloc {w : World} {base e : Nat} {v : Value} {l : List UInt8} (h : OwnB w base e v l) (o : Obj) : OwnB (w.alloc o) base e v l := World.ownsRow.alloc h o
theorem OwnB.grown {w w' : World} {base e : Nat} {v : Value} {l : List UInt8} (h : OwnB w base e v l) {row : Option Nat} (hg : w.grownBy w' row) (hne : v.ownBlock = none ∨ v.ownBlock ≠ row) : OwnB w' base e v l := World.ownsRow.kept h hg hne
theorem OwnB.of_eq {w : World} {base e : Nat} {v : Value} {l m : List UInt8} (h : OwnB w base e v l) (e1 : l = m) : OwnB w base e v m := e1 ▸ h

theorem OwnB.len {w : World} {base e : Nat} {A : Option Addr} {n c : Nat} {l : List UInt8} (h : OwnB w base e (.slice A n c) l) : l.length = n := by
  rcases h.2 with ⟨h1, h2⟩ | ⟨g, cap, cur, h1, _⟩
  · injection h1 with _ h3 _; omega
  · injection h1 with _ h3 _; exact h3.symm
theorem OwnB.cell {w : World} {base e : Nat} {g n c : Nat} {l : List UInt8} (h : OwnB w base e (.slice (some ⟨g, 0, none⟩) n c) l) {j : Nat} (hj : j < l.length) : w.cell? ⟨g, j, none⟩ = some (bv l[j]) := by
  have h1 := World.ownsRow.cells h (g := g) rfl j (bv l[j]) (by simp [bvs, hj])
  rwa [show (⟨g, 0, none⟩ : Addr).add j = ⟨g, j, none⟩ from by unfold Addr.add; split <;> simp_all] at h1

/-- 'append(s, x)', x ONE new byte in a box of its own, s nil or the call's own. -/
theorem append1 {P : Program} {t e : TypeId} (T : ByteTy P t e) {ops : Array Oper} {rest : List Oper} {o : Oper} {a : Act} {Q : Exit → Act → World → Prop} {w0 w : World}
    (hgd : o.guard = none) {s x : Operand} (ho : o.op = .call { callee := .builtin .append, args := #[s, x], argTypes := #[t, t] })
    {base : Nat} {A : Option Addr} {n c : Nat} {y : Value} {l : List UInt8} (b : UInt8) (hy : y = bv b) (hs : a.eval s = .slice A n c) (hx : a.eval x = .slice (some ⟨w.heap.size, 0, none⟩) 1 1) (hown : OwnB w base e (.slice A n c) l)
    (hlen : n < 140737488355328) (hB : Below base w0 w) (hbase : base ≤ w0.heap.size)
    (h : ∀ g' c' w', OwnB w' base e (.slice (some ⟨g', 0, none⟩) (n + 1) c') (l ++ [b]) → Below base w0 w' → (w.alloc (.cells #[y] e)).grownBy w' (Value.slice A n c).ownBlock → wpList P ops Q rest (a.put o.dst (.slice (some ⟨g', 0, none⟩) (n + 1) c')) w') :
    wpList P ops Q (o :: rest) a (w.alloc (.cells #[y] e)) := by
  subst hy
  have hl := hown.len
  subst hl
  have hbw : base ≤ w.heap.size := Nat.le_trans hbase hB.size
  obtain ⟨i, hi, hz0, hz1, hz2⟩ := info_parts T.info
  refine wpList_append_own _ hgd s x t ho base e i (.int .u8 0) 1 1 T.sl hi hz0 hz1 hz2 rfl (by decide) _ l.length (bvs l) hs (hown.alloc _) ⟨w.heap.size, 0, none⟩ 1 1 [bv b] hx rfl (cell_one_new _ _ _) (by simp [bv]; rfl)
    (by simp only [maxLen]; omega) (by omega) (by simp; omega) ?_
  intro v' w' h1 h2 h3
  have h4 : OwnB w' base e v' (l ++ [b]) := by
    unfold OwnB; rw [bvs_append, List.length_append]; exact h1
  rcases h1.2 with ⟨_, h5⟩ | ⟨g, cap, _, h5, _⟩
  · omega
  · subst h5
    exact h g cap w' h4 ((hB.alloc hbw _).grown h2 (by simp; omega) (fun k hk => (World.ownsRow.lt hown k hk).1)) h2

/-- A new row of bytes, laid whole ('[]byte{..}'). -/
theorem OwnB.made {w : World} {base e : Nat} {cs : Array Value} {l : List UInt8} (hb : base ≤ w.heap.size) (h : cs.toList = bvs l) (hl : l.length ≤ maxLen) :
    OwnB (w.alloc (.cells cs e)) base e (.slice (some ⟨w.heap.size, 0, none⟩) l.length l.length) l := by
  have hs : cs.size = l.length := by rw [← Array.length_toList, h, bvs_length]
  exact ⟨by simp [bvs], .inr ⟨w.heap.size, l.length, cs, rfl, hb, heap_alloc_new w _, Nat.le_refl _, hl, by omega, by rw [h]; exact List.take_of_length_le (by simp [bvs])⟩⟩

/-! ### Bytes that are only read -/
/-- The slice value '.slice A n _' reads as l, below block B. -/
def RdB (w : World) (B : Nat) (A : Option Addr) (n : Nat) (l : List UInt8) : Prop :=
  l.length = n ∧ (0 < n → ∃ b off, A = some ⟨b, off, none⟩ ∧ b < B ∧ ∀ j (h : j < l.length), w.cell? ⟨b, off + j, none⟩ = some (bv l[j]))

theorem RdB.keep {w w' : World} {B : Nat} {A : Option Addr} {n : Nat} {l : List UInt8} (h : RdB w B A n l) (hk : ∀ p : Addr, p.block < B → w'.cell? p = w.cell? p) : RdB w' B A n l :=
  ⟨h.1, fun hn => by
    obtain ⟨b, off, e, hb, hc⟩ := h.2 hn
    exact ⟨b, off, e, hb, fun j hj => (hk _ hb).trans (hc j hj)⟩⟩
theorem RdB.below {w w' : World} {B : Nat} {A : Option Addr} {n : Nat} {l : List UInt8} (h : RdB w B A n l) (hb : Below B w w') : RdB w' B A n l := h.keep fun _ hp => hb.cell hp
theorem RdB.more {w : World} {B B' : Nat} {A : Option Addr} {n : Nat} {l : List UInt8} (h : RdB w B A n l) (hB : B ≤ B') : RdB w B' A n l :=
  ⟨h.1, fun hn => by
    obtain ⟨b, off, e, hb, hc⟩ := h.2 hn
    exact ⟨b, off, e, by omega, hc⟩⟩
theorem RdB.nil {w : World} {B : Nat} {A : Option Addr} : RdB w B A 0 [] := ⟨rfl, fun h => absurd h (by omega)⟩
theorem OwnB.rd {w : World} {base e : Nat} {A : Option Addr} {n c : Nat} {l : List UInt8} (h : OwnB w base e (.slice A n c) l) : RdB w w.heap.size A n l := by
  refine ⟨h.len, fun hn => ?_⟩
  rcases h.2 with ⟨h1, h2⟩ | ⟨g, cap, cur, h1, _⟩
  · injection h1 with _ h3 _; omega
  · injection h1 with h4 _ _
    subst h4
    exact ⟨g, 0, rfl, (World.ownsRow.lt h g rfl).2, fun j hj => by rw [Nat.zero_add]; exact h.cell hj⟩
theorem OwnB.below {w w' : World} {base e : Nat} {v : Value} {l : List UInt8} (h : OwnB w base e v l) {B : Nat} (hB : w.heap.size ≤ B) (hb : Below B w w') : OwnB w' base e v l := by
  refine ⟨h.1, ?_⟩
  rcases h.2 with hn | ⟨g, cap, cur, h1, h2, h3, h4⟩
  · exact .inl hn
  · refine .inr ⟨g, cap, cur, h1, h2, ?_, h4⟩
    rw [hb.block g (by have := (Array.getElem?_eq_some_iff.1 h3).1; omega)]
    exact h3
theorem OwnB.base_le {w : World} {base base' e : Nat} {v : Value} {l : List UInt8} (h : OwnB w base e v l) (hb : base' ≤ base) : OwnB w base' e v l := by
  refine ⟨h.1, ?_⟩
  rcases h.2 with hn | ⟨g, cap, cur, h1, h2, h3⟩
  · exact .inl hn
  · exact .inr ⟨g, cap, cur, h1, by omega, h3⟩

/-- 'string(b)'. -/
def strB (l : List UInt8) : ByteArray := ⟨l.toArray⟩
@[go_sem] theorem strB_toList (l : List UInt8) : (strB l).toList = l := by rw [ByteArray.toList_eq]; simp [strB]
theorem strB_size (l : List UInt8) : (strB l).size = l.length := by simp [strB, ByteArray.size]
theorem strB_data (s : ByteArray) : strB s.data.toList = s := by simp [strB]
theorem empty_strB : ByteArray.empty = strB [] := rfl
theorem strOf_bytes (l : List UInt8) : strOfNums (l.map fun b => (b.toNat : Int)) = strB l := by
  unfold strOfNums strB
  congr 1
  rw [List.map_map]
  congr 1
  conv => rhs; rw [← List.map_id l]
  refine List.map_congr_left fun b _ => ?_
  simp
theorem run_str {P : Program} {t e : TypeId} (T : ByteTy P t e) {w : World} {B : Nat} {A : Option Addr} {n : Nat} {l : List UInt8} (h : RdB w B A n l) (c : Nat) (d : TypeId) (hd : P.underlying d = some .string) :
    (convert t d (.slice A n c)).run P w = .ok (.string (strB l)) w := by
  rcases Nat.eq_zero_or_pos n with h0 | h0
  · have hl : l = [] := List.eq_nil_of_length_eq_zero (by rw [h.1, h0])
    subst hl h0
    rcases A with _ | ad
    · exact run_convert_bytes_nil w t e T.sl T.el 0 c d hd
    · rw [run_convert_bytes_string w t d e _ 0 c T.sl T.el hd]
      have := run_bytesToString (P := P) w ad 0 c [] (by simp [loadCells, loadCellsFrom])
      exact this
  · obtain ⟨b, off, rfl, _, hc⟩ := h.2 h0
    have := run_convert_bytes_arg (P := P) w t e T.sl T.el b off n c (l.map fun b => (b.toNat : Int)) (by rw [List.length_map]; exact h.1)
      (fun i hi => by rw [hc i (by rw [h.1]; exact hi)]; simp [bv, List.getD_eq_getElem?_getD, show i < l.length from by rw [h.1]; exact hi]) d hd
    rw [this, strOf_bytes]
end Go.Proofs.Ythjaomkjjlgjeaa
