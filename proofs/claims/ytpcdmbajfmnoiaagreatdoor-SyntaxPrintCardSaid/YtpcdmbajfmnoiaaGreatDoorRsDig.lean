/- The document's numbers, terms and lists as text: gatepostref15.Digits, gatepostref07.Print, gatepostref15.terms. Conditions: sizes. -/
import Derived.Test.YtpcdmbajfmnoiaaGreatDoorSynPrAll
import Derived.Test.YtpcdmbajfmnoiaaGreatDoorSynParseAll
import Derived.IntWalk
namespace Go.Proofs.YtpcdmbajfmnoiaaGreatDoor
open Go.RowKit Go.Sort
set_option linter.unusedVariables false
set_option linter.unusedSimpArgs false
theorem TBr : ByteTy Tryz.prog 123 5 := ⟨Tryz.underlying123, Tryz.underlying5, by kernel_rfl⟩
theorem one_bvr (w : World) (b : UInt8) : RdB (w.alloc (.cells #[bv b] 5)) (w.alloc (.cells #[bv b] 5)).heap.size (some ⟨w.heap.size, 0, none⟩) 1 [b] := by
 have k := Blk.of_new w 5 (bvs [b])
 exact k.rdB rfl
theorem bv_dig (r : Nat) (h : r < 10) : (Value.int .u8 (48 + (r : Int))) = bv (UInt8.ofNat (48 + r)) := by
 unfold bv
 congr 1
 rw [UInt8.toNat_ofNat']
 omega
theorem dec_snoc (n : Nat) (h : ¬ n < 10) : Lib.decDigits n = Lib.decDigits (n / 10) ++ [UInt8.ofNat (48 + n % 10)] := by rw [Lib.decDigits, dif_neg h]
set_option maxRecDepth 100000 in
set_option maxHeartbeats 4000000 in
theorem rDig_any (n : Nat) (w : World) (hn : n < 18446744073709551616) : Calls Tryz.prog 46 #[.int .u64 (n : Int)] w fun e w' => e = .returned (.string (strB (Lib.decDigits n))) ∧ Below w.heap.size w w' := by
 have hl := dec_len20 hn
 go_enter Tryz.func46, Tryz.ntmps46
 go_wp2_with fail
 go_loopw [0, 3] (fun v0 v3 wr => ∃ (m : Nat) (s : List UInt8), v0 = .int .u64 (m : Int) ∧ m < 18446744073709551616 ∧ v3 = .string (strB s) ∧ Lib.decDigits n = Lib.decDigits m ++ s ∧ Below w.heap.size w wr) (fun v0 _ _ => (intOf v0).toNat)
 case atStart => exact ⟨n, [], rfl, hn, rfl, by rw [List.append_nil], Below.refl _ _⟩
 case round =>
  obtain ⟨m, s, rfl, hm, rfl, hd, f1⟩ := hrel
  have hr := Nat.mod_lt m (show 0 < 10 by omega)
  have BV := bv_dig (m % 10) hr
  have E1 : (m : Int) % 10 = ((m % 10 : Nat) : Int) := by omega
  have E2 : (m : Int).tmod 10 = ((m % 10 : Nat) : Int) := by rw [Int.tmod_eq_emod_of_nonneg (by omega)]; omega
  have E3 : (m : Int) / 10 = ((m / 10 : Nat) : Int) := by omega
  have E4 : (m : Int).tdiv 10 = ((m / 10 : Nat) : Int) := by rw [Int.tdiv_eq_ediv_of_nonneg (by omega)]; omega
  have hs1 : s.length ≤ 20 := by rw [hd, List.length_append] at hl; omega
  have zs : (strB s).size ≤ 20 := by rw [strB_size]; exact hs1
  have hq : strB [UInt8.ofNat (48 + m % 10)] ++ strB s = strB (UInt8.ofNat (48 + m % 10) :: s) := by rw [strB_app]; rfl
  have z1 : (strB [UInt8.ofNat (48 + m % 10)]).size = 1 := strB_size _
  have one := one_bvr wr (UInt8.ofNat (48 + m % 10))
  have hr1 := run_str TBr one 1 9 Tryz.underlying9
  have hnext : ¬ m < 10 → Lib.decDigits n = Lib.decDigits (m / 10) ++ (UInt8.ofNat (48 + m % 10) :: s) := fun h => by rw [hd, dec_snoc m h, List.append_assoc]; rfl
  have hlast : m < 10 → Lib.decDigits n = UInt8.ofNat (48 + m % 10) :: s := fun h => by rw [hd, Lib.decDigits_one h, Nat.mod_eq_of_lt h]; rfl
  have hm10 : m / 10 < 18446744073709551616 := by omega
  have hq10 : (m / 10 = 0) ↔ m < 10 := by omega
  have hmeas : ¬ m < 10 → m / 10 < m := by omega
  have HL := Lib.hid hlast; have HN := Lib.hid hnext
  clear hd hlast hnext
  generalize UInt8.ofNat (48 + m % 10) = y at *
  rw [← BV] at hr1
  clear one BV
  obtain ⟨t, ht⟩ : ∃ t, strB (y :: s) = t := ⟨_, rfl⟩
  have HTT := Lib.hid ht
  rw [ht] at hq
  clear ht
  obtain ⟨r, hrr⟩ : ∃ r, m % 10 = r := ⟨_, rfl⟩
  obtain ⟨q, hqq⟩ : ∃ q, m / 10 = q := ⟨_, rfl⟩
  rw [hrr] at hr E1 E2 hr1
  rw [hqq] at E3 E4 HN hm10 hq10 hmeas
  clear hrr hqq
  have r0 : (0 : Int) ≤ (r : Int) := by omega
  have r1 : (r : Int) ≤ 9 := by omega
  have q0 : (0 : Int) ≤ (q : Int) := by omega
  have w8 : IntKind.u8.wrap (48 + (r : Int)) = 48 + (r : Int) := IntWalk.u8_in _ (by omega)
  have w64 : IntKind.u64.wrap (48 + (r : Int)) = 48 + (r : Int) := IntWalk.u64_in _ (by omega)
  have wr64 : IntKind.u64.wrap (r : Int) = (r : Int) := IntWalk.u64_in _ (by omega)
  have wq64 : IntKind.u64.wrap (q : Int) = (q : Int) := IntWalk.u64_in _ (by omega)
  have zz : ¬ 9223372036854775807 < 1 + (strB s).size := by omega
  have zz2 : ¬ 9223372036854775807 < (strB [y]).size + (strB s).size := by omega
  generalize strB s = S at *
  by_cases h10 : m < 10
  ·have d0 : ((q : Int) == 0) = true := by rw [beq_iff_eq]; have := hq10.2 h10; omega
   have d1 : q = 0 := hq10.2 h10
   clear hq10 hmeas HN
   go_wp2_with fail
   go_ret
   refine ⟨?_, f1.trans (((Below.refl _ wr).alloc (Nat.le_refl _) _).mono f1.size)⟩
   rw [HL.out h10, HTT.out]
   first | rfl | (rw [← hq]; rfl)
  ·have d0 : ((q : Int) == 0) = false := by rw [beq_eq_false_iff_ne]; intro e; exact h10 (hq10.1 (by omega))
   have d1 : ¬ q = 0 := fun e => h10 (hq10.1 e)
   have hms := hmeas h10
   have hnx := HN.out h10
   have HNX := Lib.hid hnx
   clear hq10 hmeas HL hnx
   go_wp2_with fail
   go_roundw
   case rel => exact ⟨q, y :: s, by go_num, hm10, (by first | (rw [HTT.out]; done) | (rw [HTT.out, ← hq]; rfl)), HNX.out, f1.trans (((Below.refl _ wr).alloc (Nat.le_refl _) _).mono f1.size)⟩
   case measure => simp [intOf]; omega
/-! ### terms -/
theorem join_snoc (x c : List UInt8) : ∀ (M : List (List UInt8)), Lib.join (M ++ [x]) c = if M = [] then x else Lib.join M c ++ c ++ x
 | [] => by simp [join_one]
 | [y] => by simp [join_one, join_cons2]
 | y :: z :: M => by
  have h := join_snoc x c (z :: M)
  rw [if_neg (by simp)] at h
  rw [if_neg (by simp), List.cons_append, List.cons_append, join_cons2, ← List.cons_append, h, join_cons2]
  simp
theorem join_take (c : List UInt8) : ∀ (M : List (List UInt8)) (k : Nat), (Lib.join (M.take k) c).length ≤ (Lib.join M c).length
 | [], k => by simp
 | x :: M, 0 => by simp [Lib.join]
 | [x], k + 1 => by simp
 | x :: y :: M, 1 => by
  rw [List.take_succ_cons, List.take_zero, join_one, join_cons2, List.length_append, List.length_append]
  omega
 | x :: y :: M, k + 2 => by
  have h := join_take c (y :: M) (k + 1)
  rw [List.take_succ_cons] at h
  rw [List.take_succ_cons, List.take_succ_cons, join_cons2, join_cons2, List.length_append, List.length_append, List.length_append, List.length_append]
  omega
theorem join_next0 {c : List UInt8} {M : List (List UInt8)} (h : 0 < M.length) : Lib.join (M.take 1) c = M[0] := by
 rcases M with _ | ⟨x, M⟩
 ·simp at h
 ·simp [join_one]
theorem join_next {c : List UInt8} {M : List (List UInt8)} {k : Nat} (h : k < M.length) (hk : 0 < k) : Lib.join (M.take (k + 1)) c = Lib.join (M.take k) c ++ c ++ M[k] := by
 rw [← List.take_append_getElem h, join_snoc, if_neg]
 intro e
 have h2 : (M.take k).length = 0 := by rw [e]; rfl
 rw [List.length_take] at h2
 omega
set_option maxRecDepth 100000 in
set_option maxHeartbeats 4000000 in
theorem rTm_any (K : Int) (l : List UInt8) (w : World) (hl : l.length ≤ 1000000) : Calls Tryz.prog 81 #[.agg #[.int .i64 K, .string (strB l)]] w fun e w' => e = .returned (.string (strB (tmT (K, l)))) ∧ Below w.heap.size w w' := by
 have hz : (strB l).size ≤ 1000000 := by rw [strB_size]; exact hl
 have h2 : strB l ++ ⟨#[42]⟩ = strB (l ++ [42]) := by rw [← strB_app]; rfl
 have h3 : ⟨#[42]⟩ ++ strB l = strB (42 :: l) := (strB_app [42] l : _)
 have fb : Below w.heap.size w (w.alloc (.cells #[.int .i64 K, .string (strB l)] 42)) := (Below.refl _ w).alloc (Nat.le_refl _) _
 obtain ⟨R, hR⟩ : ∃ R, strB (tmT (K, l)) = R := ⟨_, rfl⟩
 have c1 : K = 1 → R = strB l := fun h => by rw [← hR, h]; rfl
 have c2 : K = 2 → R = strB (l ++ [42]) := fun h => by rw [← hR, h]; rfl
 have c3 : K = 3 → R = strB (42 :: l) := fun h => by rw [← hR, h]; rfl
 have c4 : K ≠ 1 → K ≠ 2 → K ≠ 3 → R = ⟨#[42]⟩ := fun g1 g2 g3 => by rw [← hR]; unfold tmT; simp only [g1, g2, g3, if_false]; rfl
 rw [hR]
 have C1 := Lib.hid c1; have C2 := Lib.hid c2; have C3 := Lib.hid c3; have C4 := Lib.hid c4
 clear hR c1 c2 c3 c4
 generalize strB (l ++ [42]) = s2 at *
 generalize strB (42 :: l) = s3 at *
 generalize strB l = s1 at *
 have q1 : ¬ 9223372036854775807 < s1.size + 1 := by omega
 have q2 : ¬ 9223372036854775807 < 1 + s1.size := by omega
 by_cases h1 : K = 1
 ·have d1 : (K == 1) = true := by simp [h1]
  have hc := C1.out h1
  have HC := Lib.hid hc
  clear hc h1
  go_enter Tryz.func81, Tryz.ntmps81
  go_wp2_with fail
  go_ret
  exact ⟨by rw [HC.out]; rfl, fb⟩
 ·have d1 : (K == 1) = false := by simp [h1]
  by_cases h2' : K = 2
  ·have d2 : (K == 2) = true := by simp [h2']
   have hc := C2.out h2'
   have HC := Lib.hid hc
   clear hc h1 h2'
   go_enter Tryz.func81, Tryz.ntmps81
   go_wp2_with fail
   go_ret
   exact ⟨by rw [HC.out]; first | rfl | rw [← h2], fb⟩
  ·have d2 : (K == 2) = false := by simp [h2']
   by_cases h3' : K = 3
   ·have d3 : (K == 3) = true := by simp [h3']
    have hc := C3.out h3'
    have HC := Lib.hid hc
    clear hc h1 h2' h3'
    go_enter Tryz.func81, Tryz.ntmps81
    go_wp2_with fail
    go_ret
    exact ⟨by rw [HC.out]; first | rfl | rw [← h3], fb⟩
   ·have d3 : (K == 3) = false := by simp [h3']
    have hc := C4.out h1 h2' h3'
    have HC := Lib.hid hc
    clear hc h1 h2' h3'
    go_enter Tryz.func81, Tryz.ntmps81
    go_wp2_with fail
    go_ret
    exact ⟨by rw [HC.out]; rfl, fb⟩
set_option maxRecDepth 100000 in
set_option maxHeartbeats 4000000 in
theorem rTerms_any (word : List UInt8) (A : Option Addr) (n c : Nat) (L : List Tm) (w : World) (h : RdR tmC 2 w w.heap.size A n L) (hn : n ≤ 1000) (hok : ∀ x ∈ L, okS x.2) (hwd : word.length ≤ 1000000) (hj : (Lib.join (L.map tmT) [44]).length ≤ 1000000) :
  Calls Tryz.prog 47 #[.string (strB word), .slice A n c] w fun e w' => e = .returned (.string (strB (listS word (L.map tmT)))) ∧ Below w.heap.size w w' := by
 have hl := h.1
 obtain ⟨r, hr⟩ : ∃ r, listS word (L.map tmT) = r := ⟨_, rfl⟩
 rw [hr]
 obtain ⟨wd, hwd2⟩ : ∃ wd, strB word = wd := ⟨_, rfl⟩
 have hwsz : wd.size ≤ 1000000 := by rw [← hwd2, strB_size]; exact hwd
 rw [hwd2]
 have hend : n ≠ 0 → (⟨#[32]⟩ : ByteArray) ++ wd ++ ⟨#[32]⟩ ++ strB (Lib.join ((L.map tmT).take n) [44]) = strB r := fun h0 => by
  rw [← hwd2, list_eq, ← hr, ← hl, ← List.length_map (f := tmT), List.take_length]
  unfold listS
  rw [if_neg]
  intro e
  have := congrArg List.length e
  simp at this
  exact h0 (by rw [← hl, this]; rfl)
 have hnil : n = 0 → strB r = ⟨#[]⟩ := fun h0 => by
  rw [← hr]
  rw [h0] at hl
  rw [List.length_eq_zero_iff.1 hl]
  rfl
 have hjt := fun k => Nat.le_trans (join_take [44] (L.map tmT) k) hj
 have HE := Lib.hid hend; have HN := Lib.hid hnil; have HJ := Lib.hid hjt; have H := Lib.hid h; have HOK := Lib.hid hok
 clear hr hwd2 hend hnil hjt h hok hj
 go_enter Tryz.func47, Tryz.ntmps47
 go_wp2_with fail
 go_loopw [6, 5] (fun v6 v5 wr => ∃ k : Nat, v6 = .int .i64 (k : Int) ∧ k ≤ n ∧ v5 = .string (strB (Lib.join ((L.map tmT).take k) [44])) ∧ Below w.heap.size w wr) (fun v6 _ _ => n - (intOf v6).toNat)
 case atStart => exact ⟨0, rfl, by omega, rfl, Below.refl _ _⟩
 case round =>
  obtain ⟨k, rfl, hk, rfl, f1⟩ := hrel
  by_cases hlt2 : k < n
  ·have d5 : decide ((k : Int) < (n : Int)) = true := by simp; omega
   have b1 : (0 : Int) ≤ (k : Int) := by omega
   have b2 : (k : Int) < (n : Int) := by omega
   have hkl : k < L.length := by omega
   have hkm : k < (L.map tmT).length := by rw [List.length_map]; exact hkl
   obtain ⟨b, off, rfl, hb, hcell⟩ := H.out.2 (by omega)
   have hok := HOK.out _ (List.getElem_mem hkl)
   have g0 := (f1.cell (p := ⟨b, off + k * 2 + 0, none⟩) hb).trans (hcell k hkl 0 _ rfl)
   have g1 := (f1.cell (p := ⟨b, off + k * 2 + 1, none⟩) hb).trans (hcell k hkl 1 _ rfl)
   rw [Nat.add_zero] at g0
   have hcl := rTm_any L[k].1 L[k].2 wr hok
   have hj1 := HJ.out (k + 1)
   have hn0 : k = 0 → Lib.join ((L.map tmT).take (k + 1)) [44] = tmT L[k] := fun h => by
    subst h
    rw [join_next0 hkm, List.getElem_map]
   have hn1 : 0 < k → Lib.join ((L.map tmT).take (k + 1)) [44] = Lib.join ((L.map tmT).take k) [44] ++ [44] ++ tmT L[k] := fun h => by
    rw [join_next hkm h, List.getElem_map]
   obtain ⟨t1, ht1⟩ : ∃ t, L[k].1 = t := ⟨_, rfl⟩
   obtain ⟨t2, ht2⟩ : ∃ t, L[k].2 = t := ⟨_, rfl⟩
   obtain ⟨tt, htt⟩ : ∃ t, tmT L[k] = t := ⟨_, rfl⟩
   have htt2 : tmT (t1, t2) = tt := by rw [← ht1, ← ht2, ← htt]
   rw [ht1, ht2, htt2] at hcl
   rw [htt] at hn0 hn1
   replace g0 : wr.cell? ⟨b, off + k * 2, none⟩ = some (.int .i64 t1) := by rw [← ht1]; exact g0
   replace g1 : wr.cell? ⟨b, off + k * 2 + 1, none⟩ = some (.string (strB t2)) := by rw [← ht2]; exact g1
   clear ht1 ht2 htt htt2 hcell hok
   obtain ⟨J1, hJ1⟩ : ∃ J, Lib.join ((L.map tmT).take (k + 1)) [44] = J := ⟨_, rfl⟩
   obtain ⟨J0, hJ0⟩ : ∃ J, Lib.join ((L.map tmT).take k) [44] = J := ⟨_, rfl⟩
   rw [hJ1] at hn0 hn1 hj1
   rw [hJ0] at hn1 ⊢
   have HJ1 := Lib.hid hJ1
   generalize strB t2 = s2 at *
   by_cases hk0 : k = 0
   ·have d6 : decide ((0 : Int) < (k : Int)) = false := by simp; omega
    have d7 : decide (0 < k) = false := by simp; omega
    have d8 : ¬ 0 < k := by omega
    have hJ00 : strB J0 = ⟨#[]⟩ := by rw [← hJ0, hk0]; rfl
    have hn := hn0 hk0
    have zt : (strB tt).size ≤ 1000000 := by rw [strB_size, ← hn]; exact hj1
    have HN0 := Lib.hid hn
    rw [hJ00]
    have he : (⟨#[]⟩ : ByteArray) ++ strB tt = strB tt := by apply ByteArray.ext; simp
    have q1 : ¬ 9223372036854775807 < 0 + (strB tt).size := by omega
    clear hn hn0 hn1 hj1 hJ1 hJ0 hJ00 hk0
    obtain ⟨st, hst⟩ : ∃ t, strB tt = t := ⟨_, rfl⟩
    have HST := Lib.hid hst
    rw [hst] at zt he q1 hcl
    clear hst
    go_wp2_with fail
    refine hcl.mono ?_
    rintro e w2 ⟨rfl, f2⟩
    clear g0 g1
    go_wp2_with fail
    go_roundw
    case rel => exact ⟨k + 1, by go_num, by omega, (by first | rw [HJ1.out, HN0.out, HST.out] | (rw [HJ1.out, HN0.out, HST.out, he])), f1.trans (f2.mono f1.size)⟩
    case measure => simp [intOf]; omega
   ·have d6 : decide ((0 : Int) < (k : Int)) = true := by simp; omega
    have d7 : decide (0 < k) = true := by simp; omega
    have d8 : 0 < k := by omega
    have hn := hn1 (by omega)
    have he : strB J0 ++ ⟨#[44]⟩ ++ strB tt = strB J1 := by rw [hn, ← strB_app, ← strB_app]; rfl
    have zt : (strB J0).size + 1 + (strB tt).size ≤ 1000000 := by rw [hn] at hj1; rw [strB_size, strB_size]; simp only [List.length_append, List.length_cons, List.length_nil] at hj1; omega
    have HE2 := Lib.hid he
    have q1 : ¬ 9223372036854775807 < (strB J0).size + 1 := by omega
    have q2 : ¬ 9223372036854775807 < (strB J0).size + 1 + (strB tt).size := by omega
    clear hn hn0 hn1 hj1 hJ1 hJ0 hk0 he
    generalize strB tt = st at *
    generalize strB J0 = sj at *
    go_wp2_with fail
    refine hcl.mono ?_
    rintro e w2 ⟨rfl, f2⟩
    clear g0 g1
    go_wp2_with fail
    go_roundw
    case rel => exact ⟨k + 1, by go_num, by omega, (by rw [HJ1.out, ← HE2.out]), f1.trans (f2.mono f1.size)⟩
    case measure => simp [intOf]; omega
  ·have d5 : decide ((k : Int) < (n : Int)) = false := by simp; omega
   have hkn : k = n := by omega
   subst hkn
   have hje := HJ.out k
   have zj : (strB (Lib.join ((L.map tmT).take k) [44])).size ≤ 1000000 := by rw [strB_size]; exact hje
   by_cases h0 : k = 0
   ·have d0 : ((k : Int) == 0) = true := by rw [beq_iff_eq]; omega
    have hh := HN.out h0
    have HH := Lib.hid hh
    clear hh h0
    go_wp2_with fail
    go_ret
    exact ⟨by rw [HH.out]; rfl, f1⟩
   ·have d0 : ((k : Int) == 0) = false := by rw [beq_eq_false_iff_ne]; omega
    have hh := HE.out h0
    have HH := Lib.hid hh
    clear hh h0 hje
    generalize strB (Lib.join ((L.map tmT).take k) [44]) = sj at *
    have q1 : ¬ 9223372036854775807 < 1 + wd.size := by omega
    have q2 : ¬ 9223372036854775807 < 1 + wd.size + 1 := by omega
    have q3 : ¬ 9223372036854775807 < 1 + wd.size + 1 + sj.size := by omega
    go_wp2_with fail
    go_ret
    exact ⟨by rw [← HH.out]; rfl, f1⟩
end Go.Proofs.YtpcdmbajfmnoiaaGreatDoor
