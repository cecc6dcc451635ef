/- token.said, token.sum. Condition: labels of 1000 bytes at most, a host from 0 to 9. token.sum. Condition: as of token.said; the root of 2^40 bytes at most. -/
import Derived.Test.YtgefbgjgcjiceaaTok
import Derived.Test.YtgefbgjgcjiceaaPut6
import Derived.Test.YtgefbgjgcjiceaaDerive
namespace Go.Proofs.Ytgefbgjgcjiceaa
open Go.RowKit
set_option linter.unusedVariables false
set_option linter.unusedSimpArgs false
def saidB (t : Tk) : List UInt8 := [] ++ [1] ++ leb t.ns.length ++ t.ns ++ leb t.sa.length ++ t.sa ++ lebs [t.uid, t.host.toNat] ++ le32 t.addr ++ lebs [t.born, t.till, t.key]
theorem Wrote.notB {w w' : World} {p : Nat} {A A' : Option Addr} (d : Wrote w w' p A A') {g : Nat} (hg : g < w.heap.size) (h : ¬ isB A g) : ¬ isB A' g := by
  rcases d.1 with rfl | ⟨k, rfl, hk⟩
  · exact h
  · rintro ⟨x, hx, rfl⟩
    injection hx with hx
    subst hx
    simp at hg; omega
/-- A writer p that holds l, since w; beside it a token in block g. -/
def StW (w : World) (p g : Nat) (t : Tk) (l : List UInt8) (u : World) : Prop := ∃ A' c', Wr u p A' l.length c' l ∧ Wrote w u p none A' ∧ Blk u g 31 t.cells ∧ ¬ isB A' g
theorem StW.step {w u u' : World} {p g : Nat} {t : Tk} {l' : List UInt8} {A' : Option Addr} (hg : g ≠ p) (D : Wrote w u p none A') (K : Blk u g 31 t.cells) (N : ¬ isB A' g) (hp : WrP u p A' l' u') : StW w p g t l' u' := by
  obtain ⟨A2, c2, h, d⟩ := hp
  refine ⟨A2, c2, h, D.trans d, K.off d.2 ?_, d.notB K.lt N⟩
  rintro (h1 | h1)
  · exact hg h1
  · exact N h1
theorem leb_le (x : Nat) (h : x < 18446744073709551616) : (leb x).length ≤ 10 := by rw [leb_length _ (by omega)]; exact grp_le x (by omega)
theorem rdU_new (u : World) (t : Nat) (xs : List Nat) (vs : Array Value) (hv : vs.toList = xs.map fun x => .int .u64 (x : Int)) (n : Nat) (hn : xs.length = n) : RdU (u.alloc (.cells vs t)) (u.alloc (.cells vs t)).heap.size (some ⟨u.heap.size, 0, none⟩) n xs := by
  refine ⟨hn, fun _ => ⟨u.heap.size, 0, rfl, by simp, fun j hj => ?_⟩⟩
  have k : Blk (u.alloc (.cells vs t)) u.heap.size t vs.toList := Blk.newAt rfl _ _
  rw [Nat.zero_add, k.cell, hv]
  simp [hj]
theorem isB_new {u : World} {p : Nat} {A : Option Addr} {n c : Nat} {l : List UInt8} (h : Wr u p A n c l) : ∀ k, isB (some ⟨u.heap.size, 0, none⟩) k → k ≠ p ∧ ¬ isB A k := by
  rintro k ⟨x, hx, rfl⟩
  injection hx with hx
  subst hx
  refine ⟨fun e => ?_, fun hb => ?_⟩
  · have := h.lt; simp at e; omega
  · have := (h.2.isB_lt hb).2; simp at this
set_option maxRecDepth 100000 in
set_option maxHeartbeats 2000000 in
theorem said_any (p : Nat) (t : Tk) (ht : t.ok) (h1 : t.ns.length ≤ 1000) (h2 : t.sa.length ≤ 1000) (h3 : 0 ≤ t.host ∧ t.host ≤ 9) (w : World) (h : Wr w p none 0 0 []) :
    Calls Try.prog 38 #[.pointer (some ⟨p, 0, none⟩), t.v] w fun e w' => e = .returned (.tuple #[]) ∧ WrP w p none (saidB t) w' := by
  have hpl := h.lt
  have hu := ht.uid
  have ha := ht.addr
  have hb := ht.born
  have hti := ht.till
  have hke := ht.key
  have b1 := leb_le t.ns.length (by omega)
  have b2 := leb_le t.sa.length (by omega)
  have b3 := lebs_le [t.uid, t.host.toNat] (by intro x hx; simp at hx; omega)
  have hl32 : (le32 t.addr).length = 4 := rfl
  have hho : IntKind.u64.wrap t.host = ((t.host.toNat : Nat) : Int) := by rw [IntWalk.u64_in _ (by omega)]; omega
  have Hho := Lib.hid hho; clear hho
  unfold Tk.v
  go_enter Try.func38, Try.ntmps38
  go_wp2_with fail
  refine absC (fun u => StW w p w.heap.size t [] u) ⟨none, 0, h.alloc _, Wrote.alloc w p none _, Blk.of_new w _ _, by rintro ⟨x, hx, _⟩; cases hx⟩ ?_
  rintro u ⟨A, c, wr, D, K, N⟩
  have hgp : w.heap.size ≠ p := by omega
  refine (wU8_any p A 0 c [] 1 u wr (by omega)).mono ?_
  rintro e u1 ⟨rfl, hp⟩
  obtain ⟨A1, c1, wr1, D1, K1, N1⟩ := StW.step hgp D K N hp
  clear wr D K N hp u A c
  have q0 : u1.cell? ⟨w.heap.size, 0, none⟩ = some (.string (strB t.ns)) := K1.cell 0
  go_wp2_with fail
  refine (wText_any p A1 _ c1 _ t.ns u1 wr1 (by simp only [List.length_append, List.length_cons, List.length_nil]; omega)).mono ?_
  rintro e u2 ⟨rfl, hp⟩
  obtain ⟨A2, c2, wr2, D2, K2, N2⟩ := StW.step hgp D1 K1 N1 hp
  clear wr1 D1 K1 N1 hp q0 u1 A1 c1
  have q1 : u2.cell? ⟨w.heap.size, 1, none⟩ = some (.string (strB t.sa)) := K2.cell 1
  go_wp2_with fail
  refine (wText_any p A2 _ c2 _ t.sa u2 wr2 (by simp only [List.length_append, List.length_cons, List.length_nil]; omega)).mono ?_
  rintro e u3 ⟨rfl, hp⟩
  obtain ⟨A3, c3, wr3, D3, K3, N3⟩ := StW.step hgp D2 K2 N2 hp
  clear wr2 D2 K2 N2 hp q1 u2 A2 c2
  have q2 : u3.cell? ⟨w.heap.size, 2, none⟩ = some (.int .u64 (t.uid : Int)) := K3.cell 2
  have q3 : u3.cell? ⟨w.heap.size, 3, none⟩ = some (.int .i64 t.host) := K3.cell 3
  go_wp2_with fail
  refine (put_any p A3 _ c3 _ (some ⟨u3.heap.size, 0, none⟩) 2 2 [t.uid, t.host.toNat] _ (wr3.alloc _) (rdU_new u3 _ _ _ (by simp; omega) 2 rfl) (isB_new wr3) (by intro x hx; simp at hx; omega) (by simp only [List.length_append, List.length_cons, List.length_nil]; omega)).mono ?_
  rintro e u4 ⟨rfl, hp⟩
  obtain ⟨A4, c4, wr4, D4, K4, N4⟩ := StW.step hgp (D3.trans (Wrote.alloc u3 p A3 _)) (K3.alloc _) N3 hp
  clear wr3 D3 K3 N3 hp q2 q3 A3 c3
  have q4 : u4.cell? ⟨w.heap.size, 4, none⟩ = some (.int .u32 (t.addr : Int)) := K4.cell 4
  simp only [List.length_cons, List.length_nil] at b3
  go_wp2_with fail
  refine (wU32_any p A4 _ c4 _ t.addr u4 ha wr4 (by simp only [List.length_append, List.length_cons, List.length_nil]; omega)).mono ?_
  rintro e u5 ⟨rfl, hp⟩
  obtain ⟨A5, c5, wr5, D5, K5, N5⟩ := StW.step hgp D4 K4 N4 hp
  clear wr4 D4 K4 N4 hp q4 u4 A4 c4
  have q5 : u5.cell? ⟨w.heap.size, 5, none⟩ = some (.int .u64 (t.born : Int)) := K5.cell 5
  have q6 : u5.cell? ⟨w.heap.size, 6, none⟩ = some (.int .u64 (t.till : Int)) := K5.cell 6
  have q7 : u5.cell? ⟨w.heap.size, 7, none⟩ = some (.int .u64 (t.key : Int)) := K5.cell 7
  go_wp2_with fail
  refine (put_any p A5 _ c5 _ (some ⟨u5.heap.size, 0, none⟩) 3 3 [t.born, t.till, t.key] _ (wr5.alloc _) (rdU_new u5 _ _ _ rfl 3 rfl) (isB_new wr5) (by intro x hx; simp at hx; omega) (by simp only [List.length_append, List.length_cons, List.length_nil]; omega)).mono ?_
  rintro e u6 ⟨rfl, hp⟩
  obtain ⟨A6, c6, wr6, D6, K6, N6⟩ := StW.step hgp (D5.trans (Wrote.alloc u5 p A5 _)) (K5.alloc _) N5 hp
  clear wr5 D5 K5 N5 hp q5 q6 q7 A5 c5
  go_wp2_with fail
  go_end0
  exact ⟨rfl, A6, c6, wr6, D6⟩
end Go.Proofs.Ytgefbgjgcjiceaa
namespace Go.Proofs.Ytgefbgjgcjiceaa
open Go.RowKit
set_option linter.unusedVariables false
set_option linter.unusedSimpArgs false
def sigB (root : List UInt8) (t : Tk) : List UInt8 := macB (macB root (derB [99, 97] t.key)) (saidB t)
theorem sigB_length (root : List UInt8) (t : Tk) : (sigB root t).length = 32 := macB_length _ _
theorem saidB_le (t : Tk) (ht : t.ok) (h1 : t.ns.length ≤ 1000) (h2 : t.sa.length ≤ 1000) (h3 : 0 ≤ t.host ∧ t.host ≤ 9) : (saidB t).length ≤ 3000 := by
  have hu := ht.uid
  have hb := ht.born
  have hti := ht.till
  have hke := ht.key
  have b1 := leb_le t.ns.length (by omega)
  have b2 := leb_le t.sa.length (by omega)
  have b3 := lebs_le [t.uid, t.host.toNat] (by intro x hx; simp at hx; omega)
  have b4 := lebs_le [t.born, t.till, t.key] (by intro x hx; simp at hx; omega)
  have hl32 : (le32 t.addr).length = 4 := rfl
  simp only [List.length_cons, List.length_nil] at b3 b4
  unfold saidB
  simp only [List.length_append, List.length_cons, List.length_nil]
  omega
attribute [local irreducible] saidB derB
set_option maxRecDepth 100000 in
set_option maxHeartbeats 2000000 in
theorem sum2_any (A : Option Addr) (n c o m : Nat) (root : List UInt8) (t : Tk) (ht : t.ok) (h1 : t.ns.length ≤ 1000) (h2 : t.sa.length ≤ 1000) (h3 : 0 ≤ t.host ∧ t.host ≤ 9) (w : World) (hr : RdB w w.heap.size A n root) (hn : n ≤ 1099511627776) :
    Calls Try.prog 28 #[rgV A n c o m, t.v] w fun e w' => e = .returned (.agg (bvs (sigB root t)).toArray) ∧ Below w.heap.size w w' := by
  have hsl := saidB_le t ht h1 h2 h3
  have hke := ht.key
  have hit : (Try.prog.info? 31).map (·.size) = some t.cells.length := by rw [t.len ht.mac]; kernel_rfl
  have Hit := Lib.hid hit; clear hit
  have hi32 : (Try.prog.info? 29).map (·.size) = some (bvs (sigB root t)).length := by rw [bvs_length, sigB_length]; kernel_rfl
  have Hi32 := Lib.hid hi32; clear hi32
  have hz32 : (bvs (List.replicate 32 0)).length = (bvs (sigB root t)).length := by rw [bvs_length, bvs_length, sigB_length]; rfl
  have Hz32 := Lib.hid hz32; clear hz32
  have htv : t.v = .agg t.cells.toArray := rfl
  rw [htv]
  unfold rgV
  go_enter Try.func28, Try.ntmps28
  go_wp2_with fail
  refine absC (fun w1 => Blk w1 w.heap.size 25 [.slice A n c, .int .u64 (o : Int), .int .u64 (m : Int)] ∧ Blk w1 (w.heap.size + 1) 31 t.cells ∧ Blk w1 (w.heap.size + 2) 29 (bvs (List.replicate 32 0)) ∧ Below w.heap.size w w1) ⟨((Blk.of_new w _ _).alloc _).alloc _, (Blk.newAt (by simp) _ _).alloc _, Blk.newAt (by simp) _ _, (((Below.refl _ w).alloc (Nat.le_refl _) _).alloc (by simp) _).alloc (by simp; omega) _⟩ ?_
  rintro w1 ⟨k1, k2, k3, f1⟩
  refine (newWriter_any w1).mono ?_
  rintro e w2 ⟨rfl, wr, f2⟩
  have l1 := k1.lt
  have l2 := k2.lt
  have l3 := k3.lt
  replace k1 := k1.below f2 l1
  replace k2 := k2.below f2 l2
  replace k3 := k3.below f2 l3
  have hs1 := f1.size
  replace f1 := f1.trans (f2.mono f1.size)
  clear f2
  generalize w1.heap.size = p at *
  go_wp2_with (first | (refine load_blk k2 rfl 31 (.tmp 3) rfl rfl Try.underlying31 Hit.out ?_))
  rw [← htv]
  refine (said_any p t ht h1 h2 h3 w2 wr).mono ?_
  rintro e w3 ⟨rfl, A3, c3, wr3, d3⟩
  have f3 : Below p w2 w3 := d3.2.below (Nat.le_of_lt wr.lt) (by
    rintro k (hk | ⟨x, hx, _⟩)
    · omega
    · cases hx)
  replace k1 := k1.below f3 l1
  replace k2 := k2.below f3 l2
  replace k3 := k3.below f3 l3
  replace f1 := f1.trans (f3.mono hs1)
  have hr3 := (hr.below f1).more f1.size
  clear f3 d3 wr
  have q0 : w3.cell? ⟨w.heap.size, 0, none⟩ = some (.slice A n c) := k1.cell 0
  have q7 : w3.cell? ⟨w.heap.size + 1, 7, none⟩ = some (.int .u64 (t.key : Int)) := k2.cell 7
  go_wp2_with fail
  refine (derive_any A n c root [99, 97] t.key w3 hr3 (by omega) (by simp) hke).mono ?_
  rintro e w4 ⟨g, rfl, r4, f4⟩
  replace wr3 := wr3.off (Off.of_all f4) id (fun _ _ => id)
  replace k3 := k3.below f4 k3.lt
  replace f1 := f1.trans (f4.mono f1.size)
  clear f4 q0 q7 k1 k2
  go_wp2_with fail
  refine (bytes_any p A3 _ c3 _ w4 wr3 (by omega)).mono ?_
  rintro e w5 ⟨A5, c5, rfl, o5, f5⟩
  replace r4 := (r4.below f5).more f5.size
  replace k3 := k3.below f5 k3.lt
  replace f1 := f1.trans (f5.mono f1.size)
  clear f5 wr3
  go_wp2_with fail
  refine absC (fun w6 => RdB w6 w6.heap.size (some ⟨g, 0, none⟩) 32 (macB root (derB [99, 97] t.key)) ∧ RdL w6 w6.heap.size (some ⟨w5.heap.size, 0, none⟩) 1 [⟨A5, (saidB t).length, c5, saidB t⟩] ∧ Blk w6 (w.heap.size + 2) 29 (bvs (List.replicate 32 0)) ∧ Below w.heap.size w w6) ⟨(r4.alloc (Nat.le_refl _) _).more (by simp), ?_, k3.alloc _, f1.alloc f1.size _⟩ ?_
  · refine RdL.of_blk (ps := [⟨A5, (saidB t).length, c5, saidB t⟩]) (t := 22) (Blk.newAt rfl _ _) ?_
    intro p hp
    obtain rfl : p = ⟨A5, (saidB t).length, c5, saidB t⟩ := by simpa using hp
    exact (o5.rd.alloc (Nat.le_refl _) _).more (by simp)
  clear r4 o5 k3 f1
  rintro w6 ⟨r4, q6, k3, f1⟩
  refine (mac_any _ 32 32 _ _ 1 1 _ w6 r4 (by omega) q6 (by simp [catB]; omega) (by omega)).mono ?_
  rintro e w7 ⟨rfl, f7⟩
  rw [show catB [(⟨A5, (saidB t).length, c5, saidB t⟩ : Part)] = saidB t from by simp [catB], show macB (macB root (derB [99, 97] t.key)) (saidB t) = sigB root t from rfl]
  replace k3 := k3.below f7 k3.lt
  replace f1 := f1.trans (f7.mono f1.size)
  clear f7 r4 q6
  go_wp2_with (first | (refine store_blk k3 rfl 29 (.tmp 4) (.tmp 18) rfl rfl (us := bvs (sigB root t)) rfl Hi32.out Hz32.out (bvs_all _) ?_; intro w9 k9 hg9))
  exact bodyPost_ret (k9.sized rfl _ rfl Try.underlying29 Hi32.out) rfl ⟨rfl, f1.grown hg9 f1.size (by simp)⟩
end Go.Proofs.Ytgefbgjgcjiceaa
