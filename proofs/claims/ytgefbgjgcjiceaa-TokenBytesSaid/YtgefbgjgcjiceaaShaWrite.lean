/- sha.Write: a Sha behind any bytes. Conditions: the bytes are fewer than 2^46, each. -/
import Derived.Test.YtgefbgjgcjiceaaShaNew
namespace Go.Proofs.Ytgefbgjgcjiceaa
open Go.RowKit
def shaC (h : List UInt32) (A : Option Addr) (n c N : Nat) : List Value := uvs h ++ [.slice A n c, .int .u64 (N : Int)]
theorem shaC_length {h : List UInt32} (hh : h.length = 8) (A : Option Addr) (n c N : Nat) : (shaC h A n c N).length = 10 := by simp [shaC, uvs_length, hh]
theorem shaC_8 {h : List UInt32} (hh : h.length = 8) (A : Option Addr) (n c N : Nat) : (shaC h A n c N)[8]? = some (.slice A n c) := by
  unfold shaC
  rw [List.getElem?_append_right (by rw [uvs_length]; omega), uvs_length, hh]
  rfl
theorem shaC_9 {h : List UInt32} (hh : h.length = 8) (A : Option Addr) (n c N : Nat) : (shaC h A n c N)[9]? = some (.int .u64 (N : Int)) := by
  unfold shaC
  rw [List.getElem?_append_right (by rw [uvs_length]; omega), uvs_length, hh]
  rfl
theorem shaC_set8 {h : List UInt32} (hh : h.length = 8) (A : Option Addr) (n c N : Nat) (A' : Option Addr) (n' c' : Nat) : (shaC h A n c N).set 8 (.slice A' n' c') = shaC h A' n' c' N := by
  unfold shaC
  rw [List.set_append_right _ _ (by rw [uvs_length]; omega), uvs_length, hh]
  rfl
theorem shaC_set9 {h : List UInt32} (hh : h.length = 8) (A : Option Addr) (n c N N' : Nat) : (shaC h A n c N).set 9 (.int .u64 (N' : Int)) = shaC h A n c N' := by
  unfold shaC
  rw [List.set_append_right _ _ (by rw [uvs_length]; omega), uvs_length, hh]
  rfl
theorem shaC_all (h : List UInt32) (A : Option Addr) (n c N : Nat) : (shaC h A n c N).all (·.oneCell') = true := by
  unfold shaC
  rw [List.all_append, uvs_all]
  rfl
theorem shaC_H {h : List UInt32} (hh : h.length = 8) (A : Option Addr) (n c N : Nat) : ((shaC h A n c N).drop 0).take 8 = uvs h := by
  unfold shaC
  rw [List.drop_zero, List.take_append_of_le_length (by rw [uvs_length]; omega), List.take_of_length_le (by rw [uvs_length]; omega)]
theorem shaC_setH {h h' : List UInt32} (hh : h.length = 8) (hh' : h'.length = 8) (A : Option Addr) (n c N : Nat) : (shaC h A n c N).take 0 ++ uvs h' ++ (shaC h A n c N).drop (0 + (uvs h').length) = shaC h' A n c N := by
  unfold shaC
  rw [uvs_length, hh', List.drop_append_of_le_length (by rw [uvs_length]; omega), List.drop_of_length_le (by rw [uvs_length]; omega)]
  rfl
/-- A state behind the first k blocks of bytes. -/
def blkN (h : List UInt32) (L : List UInt8) (k : Nat) : List UInt32 := (List.range k).foldl (fun h i => comp KEYS h ((L.drop (64 * i)).take 64)) h
theorem blkN_succ (h : List UInt32) (L : List UInt8) (k : Nat) : blkN h L (k + 1) = comp KEYS (blkN h L k) ((L.drop (64 * k)).take 64) := by
  unfold blkN
  rw [List.range_succ, List.foldl_append]
  rfl
theorem blkN_zero (h : List UInt32) (L : List UInt8) : blkN h L 0 = h := by simp [blkN]
theorem blkN_length (h : List UInt32) (L : List UInt8) (k : Nat) (hh : h.length = 8) : (blkN h L k).length = 8 := by
  induction k with
  | zero => exact hh
  | succ k ih => rw [blkN_succ, comp_length]; exact ih
theorem sha_wrap (N m : Nat) : IntKind.u64.wrap ((N : Int) + (m : Int)) = (((N + m) % 18446744073709551616 : Nat) : Int) := by
  rw [IntKind.wrap_u64]; omega
set_option maxRecDepth 100000 in
set_option maxHeartbeats 1000000 in
theorem write_any (h0 : List UInt32) (A : Option Addr) (n c N : Nat) (l : List UInt8) (A2 : Option Addr) (m c2 : Nat) (b : List UInt8) (w : World) (hh : h0.length = 8)
    (hl : RdB w w.heap.size A n l) (hb : RdB w w.heap.size A2 m b) (hn : n ≤ 70368744177664) (hm : m ≤ 70368744177664) :
    Calls Try.prog 84 #[.agg (shaC h0 A n c N).toArray, .slice A2 m c2] w fun e w' =>
      ∃ A' c', e = .returned (.agg (shaC (blkN h0 (l ++ b) ((n + m) / 64)) A' ((n + m) % 64) c' ((N + m) % 18446744073709551616)).toArray) ∧ FrB w' w.heap.size 5 A' ((n + m) % 64) ((l ++ b).drop (64 * ((n + m) / 64))) ∧ Below w.heap.size w w' := by
  have Hh := Lib.hid hh; clear hh
  go_enter Try.func84, Try.ntmps84
  go_upto_region 1 with (fail)
  refine abs (fun w1 => Blk w1 w.heap.size 129 (shaC h0 A n c N) ∧ (∃ z, z.length = 10 ∧ Blk w1 (w.heap.size + 1) 129 z) ∧ Below w.heap.size w w1) ⟨(Blk.of_new w _ _).alloc _, ⟨_, rfl, Blk.newAt (by simp) _ _⟩, ((Below.refl _ w).alloc (Nat.le_refl _) _).alloc (by simp) _⟩ ?_
  rintro w1 ⟨k1, ⟨z, hz, kz⟩, f1⟩
  have c9 : w1.cell? ⟨w.heap.size, 9, none⟩ = some (.int .u64 (N : Int)) := by rw [k1.cell, shaC_9 Hh.out]
  have z9 := k1.frozen 9
  have hw := sha_wrap N m
  go_upto_region 2 with (fail)
  clear c9 z9 hw
  refine abs (fun w1 => Blk w1 w.heap.size 129 (shaC h0 A n c ((N + m) % 18446744073709551616)) ∧ Blk w1 (w.heap.size + 1) 129 z ∧ Below w.heap.size w w1) ⟨by rw [← shaC_set9 Hh.out A n c N]; exact k1.set 9 _, kz.far (by simp) _, f1.setCell (Nat.le_refl _) _⟩ ?_
  clear k1 kz f1 w1
  rintro w1 ⟨k1, kz, f1⟩
  generalize hN : (N + m) % 18446744073709551616 = N' at *
  have HN := Lib.hid hN; clear hN
  have c8 : w1.cell? ⟨w.heap.size, 8, none⟩ = some (.slice A n c) := by rw [k1.cell, shaC_8 Hh.out]
  go_wp2_with fail
  refine (clone_any A n c l w1 ((hl.below f1).more f1.size) (by omega)).mono ?_
  rintro e w2 ⟨A3, c3, rfl, o2, g2⟩
  have l1 := k1.lt
  have lz := kz.lt
  replace k1 := k1.below g2 k1.lt
  replace kz := kz.below g2 kz.lt
  have hs1 := f1.size
  have hs2 := g2.size
  replace f1 := f1.trans (g2.mono f1.size)
  have hb2 := hb.below f1
  clear c8 g2
  go_wp2_with (at_builtin; go_must (refine appendR T23 rfl rfl rfl o2 rfl hb2 (by omega) (Below.refl _ w2) hs2 ?_); intro A' c' w' h1 h2 h3; have c8 : w'.cell? ⟨w.heap.size, 8, none⟩ = some (.slice A n c) := (by rw [(k1.below h2 l1).cell, shaC_8 Hh.out]); have z8 := (k1.below h2 l1).frozen 8)
  have b1 := k1.below h2 l1
  refine (absC (fun w3 => Blk w3 w.heap.size 129 (shaC h0 A' (n + m) c' N') ∧ Blk w3 (w.heap.size + 1) 129 z ∧ Below w.heap.size w w3 ∧ FrB w3 (w.heap.size + 2) 5 A' (n + m) (l ++ b) ∧ n + m ≤ c') ⟨?_, ?_, ?_, ?_, h1.cap⟩ ?_)
  · rw [← shaC_set8 Hh.out A n c]; exact b1.set 8 _
  · exact (kz.below h2 lz).far (by simp) _
  · exact (f1.trans (h2.mono hs1)).setCell (Nat.le_refl _) _
  · refine (h1.fr.base_le (by omega)).grown (row := w.heap.size) ?_ (by omega)
    exact grownBy_setCells w.heap.size [.slice A' (n + m) c'] 8 w'
  clear c8 z8 b1 h1 h2 h3 k1 kz f1 o2 hs1 hs2 l1 lz hb2 w'
  rintro w3 ⟨k1, kz, f1, fr, hcap⟩
  refine (table_any w3).mono ?_
  rintro e w4 ⟨rfl, g4⟩
  replace fr := fr.below (Nat.le_refl _) g4
  have l1 := k1.lt
  have lz := kz.lt
  replace k1 := k1.below g4 k1.lt
  replace kz := kz.below g4 kz.lt
  replace f1 := f1.trans (g4.mono f1.size)
  have hlt4 : w.heap.size + 1 < w4.heap.size := by have := g4.size; omega
  clear g4 l1 lz
  have hi : (Try.prog.info? 138).map (·.size) = some (uvs KEYS).length := by kernel_rfl
  have Hi := Lib.hid hi; clear hi
  go_wp2_with (first | (refine store_blk (us := uvs KEYS) (Blk.newAt rfl 138 _) rfl 138 (.tmp 5) (.tmp 19) rfl rfl rfl Hi.out rfl (uvs_all _) ?_; intro w5 b9 hg))
  have f5 : Below w4.heap.size w4 w5 := ((Below.refl _ w4).alloc (Nat.le_refl _) _).grown hg (by simp) (by simp)
  replace fr := fr.below (Nat.le_refl _) f5
  replace k1 := k1.below f5 k1.lt
  replace kz := kz.below f5 kz.lt
  replace f1 := f1.trans (f5.mono f1.size)
  clear hg f5
  generalize w4.heap.size = kb at *
  generalize hL : l ++ b = L at *
  have HL := Lib.hid hL; clear hL
  have hLn := fr.1
  generalize hT : n + m = T at *
  have HT := Lib.hid hT; clear hT
  go_frame
  go_loopw [] (fun wr => ∃ i A1 n1 c1, 64 * i ≤ T ∧ n1 = T - 64 * i ∧ n1 ≤ c1 ∧ Blk wr w.heap.size 129 (shaC (blkN h0 L i) A1 n1 c1 N') ∧ Blk wr (w.heap.size + 1) 129 z ∧ Blk wr kb 138 (uvs KEYS) ∧ Below w.heap.size w wr ∧ FrB wr (w.heap.size + 2) 5 A1 n1 (L.drop (64 * i))) (fun wr => lenAt wr ⟨w.heap.size, 8, none⟩)
  case atStart => exact ⟨0, A', T, c', by omega, by omega, hcap, k1, kz, b9, f1, by simpa using fr⟩
  case round =>
    clear k1 kz b9 f1 fr hcap
    obtain ⟨i, A1, n1, c1, hi, hn1, hcap, k1, kz, kk, f1, fr⟩ := hrel
    have Hn1 := Lib.hid hn1; clear hn1
    have hB := blkN_length h0 L i Hh.out
    have HB := Lib.hid hB; clear hB
    have c8 : wr.cell? ⟨w.heap.size, 8, none⟩ = some (.slice A1 n1 c1) := by rw [k1.cell, shaC_8 HB.out]
    by_cases h64 : 64 ≤ n1
    · obtain ⟨g, off, cur, hA, _⟩ := fr.2 (by omega)
      subst hA
      have d1 : decide (64 ≤ (n1 : Int)) = true := by simp; omega
      have hs8 : (Try.prog.info? 127).map (·.size) = some (uvs (blkN h0 L i)).length := by rw [uvs_length, HB.out]; kernel_rfl
      have Hs8 := Lib.hid hs8; clear hs8
      have hlc : (64 : Int) ≤ (c1 : Int) := by omega
      go_wp2_with fail
      refine wp_region_still_tail 5 (by kernel_rfl) (by kernel_rfl) ?_
      simp only [List.take_succ_cons, List.take_zero, List.drop_succ_cons, List.drop_zero]
      still_step
      refine still_load_part (cs := uvs (blkN h0 L i)) (b := w.heap.size) (off := 0) (by rw [← shaC_H HB.out (some ⟨g, off, none⟩) n1 c1 N']; exact k1.range 0 8) rfl 127 (.tmp 24) rfl rfl Try.underlying127 Hs8.out ?_
      still_step
      still_step
      still_step
      refine wpStill_nil ?_
      refine absL (fun w6 => Blk w6 w.heap.size 129 (shaC (blkN h0 L i) (some ⟨g, off, none⟩) n1 c1 N') ∧ Blk w6 (w.heap.size + 1) 129 z ∧ Blk w6 kb 138 (uvs KEYS) ∧ Below w.heap.size w w6 ∧ FrB w6 (w.heap.size + 2) 5 (some ⟨g, off, none⟩) n1 (L.drop (64 * i))) ⟨k1.drew, kz.drew, kk.drew, f1.drew, fr.drew⟩ ?_
      clear c8
      have Hl := Lib.hid (show lenAt wr ⟨w.heap.size, 8, none⟩ = n1 from lenAt_of (by rw [k1.cell, shaC_8 HB.out]))
      clear k1 kz kk f1 fr
      rintro w6 ⟨k1, kz, kk, f1, fr⟩
      go_wp2_with fail
      refine (take_any KEYS (blkN h0 L i) kb _ c1 ((L.drop (64 * i)).take 64) w6 HB.out rfl kk ((fr.take h64).rd) (by omega)).mono ?_
      rintro e w7 ⟨rfl, g7⟩
      rw [← blkN_succ]
      have k1' := k1.below g7 k1.lt
      have kz' := kz.below g7 kz.lt
      have kk' := kk.below g7 kk.lt
      have f1' := f1.trans (g7.mono f1.size)
      have fr' := fr.below (Nat.le_refl _) g7
      clear k1 kz kk f1 fr g7
      have hB2 := blkN_length h0 L (i + 1) Hh.out
      have HB2 := Lib.hid hB2; clear hB2
      have hs8' : (Try.prog.info? 127).map (·.size) = some (uvs (blkN h0 L (i + 1))).length := by rw [uvs_length, HB2.out]; kernel_rfl
      have Hs8' := Lib.hid hs8'; clear hs8'
      have hln : 0 + (uvs (blkN h0 L (i + 1))).length ≤ (shaC (blkN h0 L i) (some ⟨g, off, none⟩) n1 c1 N').length := by rw [shaC_length HB.out, uvs_length, HB2.out]; omega
      have Hln := Lib.hid hln; clear hln
      have hfl : w.heap.size ≠ kb := by omega
      have hfin : ∀ (w8 : World) (off' n' c' : Nat), Blk w8 w.heap.size 129 (shaC (blkN h0 L (i + 1)) (some ⟨g, off, none⟩) n1 c1 N') → w7.grownBy w8 (some w.heap.size) → n' = n1 - 64 → n' ≤ c' → (0 < n' → off' = off + 64) →
          (∃ i A1 n1 c1, 64 * i ≤ T ∧ n1 = T - 64 * i ∧ n1 ≤ c1 ∧ Blk (w8.setCell ⟨w.heap.size, 8, none⟩ (.slice (some ⟨g, off', none⟩) n' c')) w.heap.size 129 (shaC (blkN h0 L i) A1 n1 c1 N') ∧ Blk (w8.setCell ⟨w.heap.size, 8, none⟩ (.slice (some ⟨g, off', none⟩) n' c')) (w.heap.size + 1) 129 z ∧ Blk (w8.setCell ⟨w.heap.size, 8, none⟩ (.slice (some ⟨g, off', none⟩) n' c')) kb 138 (uvs KEYS) ∧ Below w.heap.size w (w8.setCell ⟨w.heap.size, 8, none⟩ (.slice (some ⟨g, off', none⟩) n' c')) ∧ FrB (w8.setCell ⟨w.heap.size, 8, none⟩ (.slice (some ⟨g, off', none⟩) n' c')) (w.heap.size + 2) 5 A1 n1 (L.drop (64 * i))) ∧
          lenAt (w8.setCell ⟨w.heap.size, 8, none⟩ (.slice (some ⟨g, off', none⟩) n' c')) ⟨w.heap.size, 8, none⟩ < lenAt wr ⟨w.heap.size, 8, none⟩ := by
        intro w8 off' n' c' k8 g8 hn' hc' ho'
        have e1 := Hn1.out
        have hset : Blk (w8.setCell ⟨w.heap.size, 8, none⟩ (.slice (some ⟨g, off', none⟩) n' c')) w.heap.size 129 (shaC (blkN h0 L (i + 1)) (some ⟨g, off', none⟩) n' c' N') := by
          rw [← shaC_set8 HB2.out (some ⟨g, off, none⟩) n1 c1]; exact k8.set 8 _
        refine ⟨⟨i + 1, some ⟨g, off', none⟩, n', c', by omega, by omega, hc', hset, (kz'.grown g8 (by simp)).far (by simp) _, (kk'.grown g8 (by intro e; injection e with e; exact hfl e.symm)).far (fun e => hfl e.symm) _, (f1'.grown g8 f1'.size (by simp)).setCell (Nat.le_refl _) _, ?_⟩, ?_⟩
        · refine FrB.grown (row := w.heap.size) (w := w8) ?_ (grownBy_setCells w.heap.size [.slice (some ⟨g, off', none⟩) n' c'] 8 w8) (by omega)
          have h1 := (fr'.grown g8 (by omega)).drop h64
          rw [List.drop_drop, show 64 * i + 64 = 64 * (i + 1) from by omega, ← hn'] at h1
          rcases Nat.eq_zero_or_pos n' with h0 | h0
          · exact ⟨by rw [h1.1], fun h => absurd h (by omega)⟩
          · rw [ho' h0]; exact h1
        · rw [Hl.out, lenAt_of (by rw [hset.cell, shaC_8 HB2.out])]
          omega
      have Hfin := Lib.hid hfin
      clear hfin kz' kk' f1' fr' hfl
      by_cases hc64 : c1 = 64
      · have hn64 : n1 = 64 := by omega
        subst hc64 hn64
        go_wp2_with (first
          | (refine store_part k1' rfl 127 (.tmp 30) (.tmp 29) rfl rfl (off := 0) rfl Hs8'.out Hln.out (uvs_all _) ?_; intro w8 k8 g8; rw [shaC_setH HB.out HB2.out] at k8; have c8 : w8.cell? ⟨w.heap.size, 8, none⟩ = some (.slice (some ⟨g, off, none⟩) 64 64) := (by rw [k8.cell, shaC_8 HB2.out]); have z8 := k8.frozen 8))
        exact Hfin.out w8 off 0 0 k8 g8 (by omega) (by omega) (by omega)
      · go_wp2_with (first
          | (refine store_part k1' rfl 127 (.tmp 30) (.tmp 29) rfl rfl (off := 0) rfl Hs8'.out Hln.out (uvs_all _) ?_; intro w8 k8 g8; rw [shaC_setH HB.out HB2.out] at k8; have c8 : w8.cell? ⟨w.heap.size, 8, none⟩ = some (.slice (some ⟨g, off, none⟩) n1 c1) := (by rw [k8.cell, shaC_8 HB2.out]); have z8 := k8.frozen 8))
        exact Hfin.out w8 (off + 64) (n1 - 64) (c1 - 64) k8 g8 rfl (by omega) (fun _ => rfl)
    · have d1 : decide (64 ≤ (n1 : Int)) = false := by simp; omega
      have hs : (Try.prog.info? 129).map (·.size) = some (shaC (blkN h0 L i) A1 n1 c1 N').length := by rw [shaC_length HB.out]; kernel_rfl
      have Hs := Lib.hid hs; clear hs
      have hzl : z.length = (shaC (blkN h0 L i) A1 n1 c1 N').length := by rw [shaC_length HB.out, hz]
      have Hzl := Lib.hid hzl; clear hzl hz
      go_wp2_with (first
        | (refine load_blk k1 rfl 129 (.tmp 2) rfl rfl Try.underlying129 Hs.out ?_)
        | (refine store_blk kz rfl 129 (.tmp 4) (.tmp 35) rfl rfl rfl Hs.out Hzl.out (shaC_all _ _ _ _ _) ?_; intro w' k2 hg))
      refine bodyPost_ret (k2.sized rfl _ rfl Try.underlying129 Hs.out) rfl ?_
      have e := Hn1.out
      have e1 : i = T / 64 := by omega
      have e2 : n1 = T % 64 := by omega
      subst e1 e2
      rw [HT.out, HL.out, HN.out]
      exact ⟨_, c1, rfl, (fr.grown hg (by omega)).base_le (by omega), f1.grown hg f1.size (by simp)⟩
end Go.Proofs.Ytgefbgjgcjiceaa
