/- sha.Of: the sum of parts is the sum of their bytes, one behind the other. Condition: together they are at most 2^46 bytes. -/
import Derived.Test.YtgefbgjgcjiceaaShaSum
namespace Go.Proofs.Ytgefbgjgcjiceaa
open Go.RowKit
attribute [local irreducible] sched rounds addTo comp blkN outN
theorem blkN_congr (h : List UInt32) (L M : List UInt8) (k : Nat) (he : ∀ i, i < k → (L.drop (64 * i)).take 64 = (M.drop (64 * i)).take 64) : blkN h L k = blkN h M k := by
  induction k with
  | zero => rw [blkN_zero, blkN_zero]
  | succ k ih => rw [blkN_succ, blkN_succ, ih fun i hi => he i (by omega), he k (by omega)]
theorem blkN_front (h : List UInt32) (L b : List UInt8) (k : Nat) (hk : 64 * k ≤ L.length) : blkN h (L ++ b) k = blkN h L k := by
  refine blkN_congr h _ _ k fun i hi => ?_
  rw [List.drop_append_of_le_length (by omega), List.take_append_of_le_length (by rw [List.length_drop]; omega)]
theorem blkN_add (h : List UInt32) (L b : List UInt8) (q k : Nat) (hq : 64 * q ≤ L.length) : blkN h (L ++ b) (q + k) = blkN (blkN h L q) (L.drop (64 * q) ++ b) k := by
  induction k with
  | zero => rw [Nat.add_zero, blkN_zero]; exact blkN_front h L b q hq
  | succ k ih =>
    rw [← Nat.add_assoc, blkN_succ, blkN_succ, ih, Nat.mul_add, ← List.drop_drop, List.drop_append_of_le_length hq]
/-- The sum of bytes. -/
def shaB (L : List UInt8) : List UInt8 := sumB H0 L L.length
theorem shaB_length (L : List UInt8) : (shaB L).length = 32 := sumB_length _ _ _
theorem sumB_rest (h : List UInt32) (L : List UInt8) (N : Nat) : sumB (blkN h L (L.length / 64)) (L.drop (64 * (L.length / 64))) N = sumB h L N := by
  unfold sumB
  rw [← blkN_add h L (endB N) (L.length / 64) _ (by omega), List.length_drop]
  congr 2
  omega
theorem write_rest (h : List UInt32) (L b : List UInt8) : blkN (blkN h L (L.length / 64)) (L.drop (64 * (L.length / 64)) ++ b) ((L.length % 64 + b.length) / 64) = blkN h (L ++ b) ((L ++ b).length / 64) := by
  rw [← blkN_add h L b (L.length / 64) _ (by omega), List.length_append]
  congr 1
  omega
theorem drop_rest (L b : List UInt8) : (L.drop (64 * (L.length / 64)) ++ b).drop (64 * ((L.length % 64 + b.length) / 64)) = (L ++ b).drop (64 * ((L ++ b).length / 64)) := by
  rw [← List.drop_append_of_le_length (by omega), List.drop_drop, List.length_append]
  congr 1
  omega

/-! ### A slice of slices of bytes -/
structure Part where
  A : Option Addr
  n : Nat
  c : Nat
  l : List UInt8
def Part.v (p : Part) : Value := .slice p.A p.n p.c
def RdL (w : World) (B : Nat) (A : Option Addr) (k : Nat) (ps : List Part) : Prop :=
  ps.length = k ∧ (0 < k → ∃ b off, A = some ⟨b, off, none⟩ ∧ b < B ∧ ∀ j (h : j < ps.length), w.cell? ⟨b, off + j, none⟩ = some (ps[j].v)) ∧ ∀ p ∈ ps, RdB w B p.A p.n p.l
theorem RdL.below {w w' : World} {B : Nat} {A : Option Addr} {k : Nat} {ps : List Part} (h : RdL w B A k ps) (hb : Below B w w') : RdL w' B A k ps :=
  ⟨h.1, fun hk => by
    obtain ⟨b, off, e, hB, hc⟩ := h.2.1 hk
    exact ⟨b, off, e, hB, fun j hj => (hb.cell (p := ⟨b, off + j, none⟩) hB).trans (hc j hj)⟩, fun p hp => (h.2.2 p hp).below hb⟩
theorem RdL.more {w : World} {B B' : Nat} {A : Option Addr} {k : Nat} {ps : List Part} (h : RdL w B A k ps) (hB : B ≤ B') : RdL w B' A k ps :=
  ⟨h.1, fun hk => by
    obtain ⟨b, off, e, hB', hc⟩ := h.2.1 hk
    exact ⟨b, off, e, by omega, hc⟩, fun p hp => (h.2.2 p hp).more hB⟩
def catB (ps : List Part) : List UInt8 := ps.flatMap (·.l)
theorem catB_append (a b : List Part) : catB (a ++ b) = catB a ++ catB b := by unfold catB; exact List.flatMap_append
theorem catB_take (ps : List Part) (j : Nat) (h : j < ps.length) : catB (ps.take (j + 1)) = catB (ps.take j) ++ ps[j].l := by
  rw [List.take_succ_eq_append_getElem h, catB_append]
  simp [catB]
theorem catB_take_le (ps : List Part) (j : Nat) : (catB (ps.take j)).length ≤ (catB ps).length := by
  have h := catB_append (ps.take j) (ps.drop j)
  rw [List.take_append_drop] at h
  rw [h, List.length_append]
  omega
set_option maxRecDepth 100000 in
set_option maxHeartbeats 1000000 in
theorem of_any (A : Option Addr) (k c : Nat) (ps : List Part) (w : World) (h : RdL w w.heap.size A k ps) (hlen : (catB ps).length ≤ 70368744177664) (hk : k ≤ 70368744177664) :
    Calls Try.prog 78 #[.slice A k c] w fun e w' => e = .returned (.agg (bvs (shaB (catB ps))).toArray) ∧ Below w.heap.size w w' := by
  have hs : (Try.prog.info? 129).map (·.size) = some 10 := by kernel_rfl
  have Hs := Lib.hid hs; clear hs
  have hs2 : (Try.prog.info? 29).map (·.size) = some 32 := by kernel_rfl
  have Hs2 := Lib.hid hs2; clear hs2
  go_enter Try.func78, Try.ntmps78
  go_wp2_with fail
  refine absC (fun w1 => Blk w1 w.heap.size 29 (bvs (List.replicate 32 0)) ∧ Below w.heap.size w w1) ⟨Blk.newAt rfl _ _, (Below.refl _ w).alloc (Nat.le_refl _) _⟩ ?_
  rintro w1 ⟨kz, f1⟩
  refine (new_any w1).mono ?_
  rintro e w2 ⟨rfl, g2⟩
  replace kz := kz.below g2 kz.lt
  replace f1 := f1.trans (g2.mono f1.size)
  clear g2 w1
  have lz := kz.lt
  go_wp2_with (first
    | (refine store_blk (Blk.newAt rfl 129 _) rfl 129 (.tmp 3) (.tmp 6) rfl rfl rfl Hs.out rfl (shaC_all _ _ _ _ _) ?_; intro w3 k3 hg))
  have f3 : Below w2.heap.size w2 w3 := ((Below.refl _ w2).alloc (Nat.le_refl _) _).grown hg (by simp) (by simp)
  replace kz := kz.below f3 lz
  replace f1 := f1.trans (f3.mono f1.size)
  clear hg f3
  generalize w2.heap.size = b3 at *
  clear w2
  try go_frame
  go_loopw [9, 5] (fun i _ wr => ∃ (j : Nat) (A1 : Option Addr) (c1 : Nat), j ≤ k ∧ i = .int .i64 j ∧ Blk wr b3 129 (shaC (blkN H0 (catB (ps.take j)) ((catB (ps.take j)).length / 64)) A1 ((catB (ps.take j)).length % 64) c1 (catB (ps.take j)).length) ∧
    RdB wr wr.heap.size A1 ((catB (ps.take j)).length % 64) ((catB (ps.take j)).drop (64 * ((catB (ps.take j)).length / 64))) ∧ Blk wr w.heap.size 29 (bvs (List.replicate 32 0)) ∧ Below w.heap.size w wr) (fun i _ _ => k - (intOf i).toNat)
  case atStart =>
    refine ⟨0, none, 0, by omega, rfl, ?_, ?_, kz, f1⟩
    · simp only [List.take_zero, catB, List.flatMap_nil, List.length_nil, Nat.zero_div, Nat.zero_mod, blkN_zero]; exact k3
    · simp only [List.take_zero, catB, List.flatMap_nil, List.length_nil, Nat.zero_div, Nat.zero_mod]; exact RdB.nil
  case round =>
    clear k3 kz f1
    obtain ⟨j, A1, c1, hj, rfl, k3, hr, kz, f1⟩ := hrel
    have hle := catB_take_le ps j
    generalize hL : catB (ps.take j) = L at *
    have hH := blkN_length H0 L (L.length / 64) rfl
    have HH := Lib.hid hH; clear hH
    have hsz : (Try.prog.info? 129).map (·.size) = some (shaC (blkN H0 L (L.length / 64)) A1 (L.length % 64) c1 L.length).length := by rw [shaC_length HH.out]; exact Hs.out
    have Hsz := Lib.hid hsz; clear hsz
    by_cases hlt : j < k
    · have d1 : decide ((j : Int) < (k : Int)) = true := by simp; omega
      have hjp : j < ps.length := by rw [h.1]; exact hlt
      obtain ⟨b, off, hA, hB, hc⟩ := h.2.1 (by omega)
      subst hA
      have hcj : wr.cell? ⟨b, off + j, none⟩ = some (.slice ps[j].A ps[j].n ps[j].c) := (f1.cell (p := ⟨b, off + j, none⟩) hB).trans (hc j hjp)
      have hpj := h.2.2 ps[j] (List.getElem_mem hjp)
      have hL2 := catB_take ps j hjp
      rw [hL] at hL2
      have hle2 := catB_take_le ps (j + 1)
      rw [hL2, List.length_append] at hle2
      have hpl := hpj.1
      have HL := Lib.hid hL; clear hL
      have HL2 := Lib.hid hL2; clear hL2
      generalize ps[j] = p at *
      have Hpl := Lib.hid hpl
      clear hpl hc
      go_wp2_with (first | (refine load_blk k3 rfl 129 (.tmp 3) rfl rfl Try.underlying129 Hsz.out ?_))
      refine (write_any (blkN H0 L (L.length / 64)) A1 (L.length % 64) c1 L.length _ p.A p.n p.c p.l wr HH.out hr ((hpj.below f1).more f1.size) (by omega) (by have := Hpl.out; omega)).mono ?_
      rintro e w4 ⟨A', c', rfl, fr, hB4⟩
      have e1 := write_rest H0 L p.l
      have e2 := drop_rest L p.l
      have e3 : (L.length % 64 + p.n) % 64 = (L ++ p.l).length % 64 := by rw [List.length_append, Hpl.out]; omega
      have e4 : (L.length + p.n) % 18446744073709551616 = (L ++ p.l).length := by have hp := Hpl.out; rw [List.length_append]; omega
      rw [Hpl.out] at e1 e2
      rw [e2, e3] at fr
      rw [e1, e3, e4]
      clear e1 e2 e3 e4
      replace kz := kz.below hB4 kz.lt
      have l3 := k3.lt
      replace k3 := k3.below hB4 l3
      replace f1 := f1.trans (hB4.mono f1.size)
      clear hB4 hr
      have hH2 := blkN_length H0 (L ++ p.l) ((L ++ p.l).length / 64) rfl
      have HH2 := Lib.hid hH2; clear hH2
      rw [← HL2.out] at fr HH2 ⊢
      generalize hL' : catB (ps.take (j + 1)) = L' at *
      have HL' := Lib.hid hL'; clear hL'
      have hsz2 : (Try.prog.info? 129).map (·.size) = some (shaC (blkN H0 L' (L'.length / 64)) A' (L'.length % 64) c' L'.length).length := by rw [shaC_length HH2.out]; exact Hs.out
      have Hsz2 := Lib.hid hsz2; clear hsz2
      have hse : (shaC (blkN H0 L (L.length / 64)) A1 (L.length % 64) c1 L.length).length = (shaC (blkN H0 L' (L'.length / 64)) A' (L'.length % 64) c' L'.length).length := by rw [shaC_length HH2.out, shaC_length HH.out]
      have Hse := Lib.hid hse; clear hse
      go_wp2_with (first | (refine store_blk k3 rfl 129 (.tmp 3) (.tmp 15) rfl rfl (us := shaC (blkN H0 L' (L'.length / 64)) A' (L'.length % 64) c' L'.length) rfl Hsz2.out Hse.out (shaC_all _ _ _ _ _) ?_; intro w5 k5 hg))
      go_roundw
      case rel =>
        refine ⟨j + 1, A', c', by omega, by go_num, ?_⟩
        rw [HL'.out]
        have hg5 := hg.size
        exact ⟨k5, ((fr.grown (row := b3) hg (by omega)).rd), kz.grown hg (by intro e; injection e with e; omega), f1.grown hg f1.size (by intro k hk; injection hk with hk; omega)⟩
      case measure => simp [intOf]; omega
    · obtain rfl : j = k := by omega
      have d1 : decide ((j : Int) < (j : Int)) = false := by simp
      have hLL : catB ps = L := by rw [← hL, List.take_of_length_le (by rw [h.1]; omega)]
      have HLL := Lib.hid hLL; clear hLL
      have HL := Lib.hid hL; clear hL
      go_wp2_with (first | (refine load_blk k3 rfl 129 (.tmp 3) rfl rfl Try.underlying129 Hsz.out ?_))
      refine (sum_any (blkN H0 L (L.length / 64)) A1 (L.length % 64) c1 L.length _ wr HH.out hr (by omega)).mono ?_
      rintro e w4 ⟨rfl, hB4⟩
      rw [sumB_rest]
      replace kz := kz.below hB4 kz.lt
      replace f1 := f1.trans (hB4.mono f1.size)
      clear hB4 hr k3
      have hz : (Try.prog.info? 29).map (·.size) = some (bvs (sumB H0 L L.length)).length := by rw [bvs_length, sumB_length]; exact Hs2.out
      have Hz := Lib.hid hz; clear hz
      have hz2 : (bvs (List.replicate 32 0)).length = (bvs (sumB H0 L L.length)).length := by rw [bvs_length, bvs_length, sumB_length]; rfl
      have Hz2 := Lib.hid hz2; clear hz2
      go_wp2_with (first | (refine store_blk kz rfl 29 (.tmp 2) (.tmp 18) rfl rfl (us := bvs (sumB H0 L L.length)) rfl Hz.out Hz2.out (bvs_all _) ?_; intro w' k2 hg))
      refine bodyPost_ret (k2.sized rfl _ rfl Try.underlying29 Hz.out) rfl ⟨?_, f1.grown hg f1.size (by simp)⟩
      rw [HLL.out]
      rfl
attribute [irreducible] shaB
end Go.Proofs.Ytgefbgjgcjiceaa
