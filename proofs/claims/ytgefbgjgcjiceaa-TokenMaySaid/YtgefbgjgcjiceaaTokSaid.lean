/- token.said, token.sum. Condition: labels of 1000 bytes at most, a host from 0 to 9. -/
import Derived.Test.YtgefbgjgcjiceaaTok
import Derived.Test.YtgefbgjgcjiceaaPut6
import Derived.Test.YtgefbgjgcjiceaaDerive
namespace Go.Proofs.Ytgefbgjgcjiceaa
open Go.RowKit
set_option linter.unusedVariables false
set_option linter.unusedSimpArgs false
def saidB (t : Tk) : List UInt8 := [] ++ [1] ++ leb t.ns.length ++ t.ns ++ leb t.sa.length ++ t.sa ++ lebs [t.uid, t.host.toNat] ++ le32 t.addr ++ lebs [t.born, t.till, t.key]
theorem Wrote.notB {w w' : World} {p : Nat} {A A' : Option Addr} (d : Wrote w w' p A A') {g : Nat} (hg : g < w.heap.size) (h : ¬ isB A g) : ¬ isB A' g := by
  rcases d.1 with rfl | ⟨k, rfl, hk⟩
  · exact h
  · rintro ⟨x, hx, rfl⟩
    injection hx with hx
    subst hx
    simp at hg; omega
/-- A writer p that holds l, since w; beside it a token in block g. -/
def StW (w : World) (p g : Nat) (t : Tk) (l : List UInt8) (u : World) : Prop := ∃ A' c', Wr u p A' l.length c' l ∧ Wrote w u p none A' ∧ Blk u g 31 t.cells ∧ ¬ isB A' g
theorem StW.step {w u u' : World} {p g : Nat} {t : Tk} {l' : List UInt8} {A' : Option Addr} (hg : g ≠ p) (D : Wrote w u p none A') (K : Blk u g 31 t.cells) (N : ¬ isB A' g) (hp : WrP u p A' l' u') : StW w p g t l' u' := by
  obtain ⟨A2, c2, h, d⟩ := hp
  refine ⟨A2, c2, h, D.trans d, K.off d.2 ?_, d.notB K.lt N⟩
  rintro (h1 | h1)
  · exact hg h1
  · exact N h1
theorem leb_le (x : Nat) (h : x < 18446744073709551616) : (leb x).length ≤ 10 := by rw [leb_length _ (by omega)]; exact grp_le x (by omega)
theorem rdU_new (u : World) (t : Nat) (xs : List Nat) (vs : Array Value) (hv : vs.toList = xs.map fun x => .int .u64 (x : Int)) (n : Nat) (hn : xs.length = n) : RdU (u.alloc (.cells vs t)) (u.alloc (.cells vs t)).heap.size (some ⟨u.heap.size, 0, none⟩) n xs := by
  refine ⟨hn, fun _ => ⟨u.heap.size, 0, rfl, by simp, fun j hj => ?_⟩⟩
  have k : Blk (u.alloc (.cells vs t)) u.heap.size t vs.toList := Blk.newAt rfl _ _
  rw [Nat.zero_add, k.cell, hv]
  simp [hj]
theorem isB_new {u : World} {p : Nat} {A : Option Addr} {n c : Nat} {l : List UInt8} (h : Wr u p A n c l) : ∀ k, isB (some ⟨u.heap.size, 0, none⟩) k → k ≠ p ∧ ¬ isB A k := by
  rintro k ⟨x, hx, rfl⟩
  injection hx with hx
  subst hx
  refine ⟨fun e => ?_, fun hb => ?_⟩
  · have := h.lt; simp at e; omega
  · have := (h.2.isB_lt hb).2; simp at this
set_option maxRecDepth 100000 in
set_option maxHeartbeats 2000000 in
theorem said_any (p : Nat) (t : Tk) (ht : t.ok) (h1 : t.ns.length ≤ 1000) (h2 : t.sa.length ≤ 1000) (h3 : 0 ≤ t.host ∧ t.host ≤ 9) (w : World) (h : Wr w p none 0 0 []) :
    Calls Try.prog 38 #[.pointer (some ⟨p, 0, none⟩), t.v] w fun e w' => e = .returned (.tuple #[]) ∧ WrP w p none (saidB t) w' := by
  have hpl := h.lt
  have hu := ht.uid
  have ha := ht.addr
  have hb := ht.born
  have hti := ht.till
  have hke := ht.key
  have b1 := leb_le t.ns.length (by omega)
  have b2 := leb_le t.sa.length (by omega)
  have b3 := lebs_le [t.uid, t.host.toNat] (by intro x hx; simp at hx; omega)
  have hl32 : (le32 t.addr).length = 4 := rfl
  have hho : IntKind.u64.wrap t.host = ((t.host.toNat : Nat) : Int) := by rw [IntWalk.u64_in _ (by omega)]; omega
  have Hho := Lib.hid hho; clear hho
  unfold Tk.v
  go_enter Try.func38, Try.ntmps38
  go_wp2_with fail
  refine absC (fun u => StW w p w.heap.size t [] u) ⟨none, 0, h.alloc _, Wrote.alloc w p none _, Blk.of_new w _ _, by rintro ⟨x, hx, _⟩; cases hx⟩ ?_
  rintro u ⟨A, c, wr, D, K, N⟩
  have hgp : w.heap.size ≠ p := by omega
  refine (wU8_any p A 0 c [] 1 u wr (by omega)).mono ?_
  rintro e u1 ⟨rfl, hp⟩
  obtain ⟨A1, c1, wr1, D1, K1, N1⟩ := StW.step hgp D K N hp
  clear wr D K N hp u A c
  have q0 : u1.cell? ⟨w.heap.size, 0, none⟩ = some (.string (strB t.ns)) := K1.cell 0
  go_wp2_with fail
  refine (wText_any p A1 _ c1 _ t.ns u1 wr1 (by simp only [List.length_append, List.length_cons, List.length_nil]; omega)).mono ?_
  rintro e u2 ⟨rfl, hp⟩
  obtain ⟨A2, c2, wr2, D2, K2, N2⟩ := StW.step hgp D1 K1 N1 hp
  clear wr1 D1 K1 N1 hp q0 u1 A1 c1
  have q1 : u2.cell? ⟨w.heap.size, 1, none⟩ = some (.string (strB t.sa)) := K2.cell 1
  go_wp2_with fail
  refine (wText_any p A2 _ c2 _ t.sa u2 wr2 (by simp only [List.length_append, List.length_cons, List.length_nil]; omega)).mono ?_
  rintro e u3 ⟨rfl, hp⟩
  obtain ⟨A3, c3, wr3, D3, K3, N3⟩ := StW.step hgp D2 K2 N2 hp
  clear wr2 D2 K2 N2 hp q1 u2 A2 c2
  have q2 : u3.cell? ⟨w.heap.size, 2, none⟩ = some (.int .u64 (t.uid : Int)) := K3.cell 2
  have q3 : u3.cell? ⟨w.heap.size, 3, none⟩ = some (.int .i64 t.host) := K3.cell 3
  go_wp2_with fail
  refine (put_any p A3 _ c3 _ (some ⟨u3.heap.size, 0, none⟩) 2 2 [t.uid, t.host.toNat] _ (wr3.alloc _) (rdU_new u3 _ _ _ (by simp; omega) 2 rfl) (isB_new wr3) (by intro x hx; simp at hx; omega) (by simp only [List.length_append, List.length_cons, List.length_nil]; omega)).mono ?_
  rintro e u4 ⟨rfl, hp⟩
  obtain ⟨A4, c4, wr4, D4, K4, N4⟩ := StW.step hgp (D3.trans (Wrote.alloc u3 p A3 _)) (K3.alloc _) N3 hp
  clear wr3 D3 K3 N3 hp q2 q3 A3 c3
  have q4 : u4.cell? ⟨w.heap.size, 4, none⟩ = some (.int .u32 (t.addr : Int)) := K4.cell 4
  simp only [List.length_cons, List.length_nil] at b3
  go_wp2_with fail
  refine (wU32_any p A4 _ c4 _ t.addr u4 ha wr4 (by simp only [List.length_append, List.length_cons, List.length_nil]; omega)).mono ?_
  rintro e u5 ⟨rfl, hp⟩
  obtain ⟨A5, c5, wr5, D5, K5, N5⟩ := StW.step hgp D4 K4 N4 hp
  clear wr4 D4 K4 N4 hp q4 u4 A4 c4
  have q5 : u5.cell? ⟨w.heap.size, 5, none⟩ = some (.int .u64 (t.born : Int)) := K5.cell 5
  have q6 : u5.cell? ⟨w.heap.size, 6, none⟩ = some (.int .u64 (t.till : Int)) := K5.cell 6
  have q7 : u5.cell? ⟨w.heap.size, 7, none⟩ = some (.int .u64 (t.key : Int)) := K5.cell 7
  go_wp2_with fail
  refine (put_any p A5 _ c5 _ (some ⟨u5.heap.size, 0, none⟩) 3 3 [t.born, t.till, t.key] _ (wr5.alloc _) (rdU_new u5 _ _ _ rfl 3 rfl) (isB_new wr5) (by intro x hx; simp at hx; omega) (by simp only [List.length_append, List.length_cons, List.length_nil]; omega)).mono ?_
  rintro e u6 ⟨rfl, hp⟩
  obtain ⟨A6, c6, wr6, D6, K6, N6⟩ := StW.step hgp (D5.trans (Wrote.alloc u5 p A5 _)) (K5.alloc _) N5 hp
  clear wr5 D5 K5 N5 hp q5 q6 q7 A5 c5
  go_wp2_with fail
  go_end0
  exact ⟨rfl, A6, c6, wr6, D6⟩
end Go.Proofs.Ytgefbgjgcjiceaa
