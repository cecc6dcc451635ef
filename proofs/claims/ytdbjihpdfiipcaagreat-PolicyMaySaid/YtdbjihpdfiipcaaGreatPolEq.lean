/- slices.Equal, slices.EqualFunc at the policy's types; policy.Same. Condition: a million at most. Printed by gen_peq.py. -/
import Derived.Test.YtdbjihpdfiipcaaGreatPolSame
import Derived.Test.YtdbjihpdfiipcaaGreatPolSameR
import Derived.Test.YtdbjihpdfiipcaaGreatPolTRS
namespace Go.Proofs.YtdbjihpdfiipcaaGreat
open Go.RowKit Go.Sort
set_option linter.unusedVariables false
set_option linter.unusedSimpArgs false
theorem RdR.ntE' {w : World} {B n k : Nat} {A : Option Addr} {L : List Nt} (h : RdR ntC 2 w B A n L) (hk : k < L.length) : ∃ b off, A = some ⟨b, off, none⟩ ∧ w.cell? ⟨b, off + k * 2, none⟩ = some (.int .u32 (L[k].1 : Int)) ∧ w.cell? ⟨b, off + k * 2 + 1, none⟩ = some (.int .i64 L[k].2) := by
  obtain ⟨hl, h⟩ := h
  obtain ⟨b, off, h1, h2, h3⟩ := h (by omega)
  exact ⟨b, off, h1, h3 k hk 0 _ rfl, h3 k hk 1 _ rfl⟩
set_option maxRecDepth 100000 in
set_option maxHeartbeats 4000000 in
theorem equalT_any (A B : Option Addr) (n c m d : Nat) (L M : List Tm) (w : World) (hA : RdR tmC 2 w w.heap.size A n L) (hB : RdR tmC 2 w w.heap.size B m M) (hn : n ≤ 1000000) (hm : m ≤ 1000000) :
    Calls Tryz.prog 142 #[.slice A n c, .slice B m d] w fun e w' => e = .returned (.bool (decide (L = M))) ∧ ∃ q, w' = w.drewN q := by
  have hl := hA.1
  have hk := hB.1
  have HL := Lib.hid hl; have HK := Lib.hid hk; clear hl hk
  obtain ⟨r, hr⟩ : ∃ r, decide (L = M) = r := ⟨_, rfl⟩
  rw [hr]
  have HR := Lib.hid hr; clear hr
  by_cases hnm : n = m
  · subst hnm
    have d0 : ((n : Int) == (n : Int)) = true := by simp
    have d1 : ((n : Int) != (n : Int)) = false := by simp
    go_enter Tryz.func142, Tryz.ntmps142
    go_wp2_with fail
    go_loopw [13] (fun i wr => ∃ k q : Nat, i = .int .i64 k ∧ k ≤ n ∧ wr = w.drewN q ∧ L.take k = M.take k) (fun i _ => n - (intOf i).toNat)
    case atStart => exact ⟨0, 0, rfl, Nat.zero_le _, rfl, rfl⟩
    case round =>
      obtain ⟨k, q, rfl, hkn, rfl, heq⟩ := hrel
      have HEQ := Lib.hid heq; clear heq
      by_cases hlt : k < n
      · have d2 : decide ((k : Int) < (n : Int)) = true := by simp; omega
        have b1 : (0 : Int) ≤ (k : Int) := by omega
        have b2 : (k : Int) < (n : Int) := by omega
        have hkL : k < L.length := by rw [HL.out]; exact hlt
        have hkM : k < M.length := by rw [HK.out]; exact hlt
        obtain ⟨ba, oa, rfl, x0, x1⟩ := hA.tmE' hkL
        obtain ⟨bb, ob, rfl, y0, y1⟩ := hB.tmE' hkM
        obtain ⟨x, hx⟩ : ∃ x, L[k] = x := ⟨_, rfl⟩
        obtain ⟨y, hy⟩ : ∃ y, M[k] = y := ⟨_, rfl⟩
        rw [hx] at x0 x1
        rw [hy] at y0 y1
        have HX := Lib.hid hx; have HY := Lib.hid hy; clear hx hy
        obtain ⟨a1, a2⟩ := x
        obtain ⟨b1', b2'⟩ := y
        simp only at x0 x1 y0 y1
        have qe := fun w : World => run_tm_eq a1 a2 b1' b2' w
        by_cases he : (a1, a2) = (b1', b2')
        · rw [decide_eq_true he] at qe
          have HE := Lib.hid he; clear he
          go_wp2_with fail
          go_quiet (fail)
          go_wp2_with fail
          go_roundw
          case rel => exact ⟨k + 1, q + nq, by go_num, by omega, by simp [World.drewN, Nat.add_assoc], take_next hkL hkM HEQ.out (by rw [HX.out, HY.out]; exact HE.out)⟩
          case measure => simp [intOf]; omega
        · rw [decide_eq_false he] at qe
          have HE := Lib.hid he; clear he
          go_wp2_with fail
          go_quiet (fail)
          go_wp2_with fail
          go_ret
          refine ⟨?_, q + nq, by simp [World.drewN, Nat.add_assoc]⟩
          have : r = false := by
            rw [← HR.out, decide_eq_false_iff_not]
            exact take_not hkL hkM (by rw [HX.out, HY.out]; exact HE.out)
          rw [this]; rfl
      · have d2 : decide ((k : Int) < (n : Int)) = false := by simp; omega
        obtain rfl : k = n := by omega
        go_wp2_with fail
        go_ret
        refine ⟨?_, _, rfl⟩
        have : r = true := by
          rw [← HR.out, decide_eq_true_eq]
          exact take_end (by rw [HL.out, HK.out]) (by rw [HL.out]; exact HEQ.out)
        rw [this]; rfl
  · have d0 : ((n : Int) == (m : Int)) = false := by simp; omega
    have d1 : ((n : Int) != (m : Int)) = true := by simp; omega
    have : r = false := by
      rw [← HR.out, decide_eq_false_iff_not]
      intro e
      have := HL.out; have := HK.out
      rw [e] at *
      omega
    subst this
    go_enter Tryz.func142, Tryz.ntmps142
    go_wp2_with fail
    go_ret
    exact ⟨rfl, 0, rfl⟩
set_option maxRecDepth 100000 in
set_option maxHeartbeats 4000000 in
theorem equalN_any (A B : Option Addr) (n c m d : Nat) (L M : List Nt) (w : World) (hA : RdR ntC 2 w w.heap.size A n L) (hB : RdR ntC 2 w w.heap.size B m M) (hn : n ≤ 1000000) (hm : m ≤ 1000000) :
    Calls Tryz.prog 143 #[.slice A n c, .slice B m d] w fun e w' => e = .returned (.bool (decide (L = M))) ∧ ∃ q, w' = w.drewN q := by
  have hl := hA.1
  have hk := hB.1
  have HL := Lib.hid hl; have HK := Lib.hid hk; clear hl hk
  obtain ⟨r, hr⟩ : ∃ r, decide (L = M) = r := ⟨_, rfl⟩
  rw [hr]
  have HR := Lib.hid hr; clear hr
  by_cases hnm : n = m
  · subst hnm
    have d0 : ((n : Int) == (n : Int)) = true := by simp
    have d1 : ((n : Int) != (n : Int)) = false := by simp
    go_enter Tryz.func143, Tryz.ntmps143
    go_wp2_with fail
    go_loopw [13] (fun i wr => ∃ k q : Nat, i = .int .i64 k ∧ k ≤ n ∧ wr = w.drewN q ∧ L.take k = M.take k) (fun i _ => n - (intOf i).toNat)
    case atStart => exact ⟨0, 0, rfl, Nat.zero_le _, rfl, rfl⟩
    case round =>
      obtain ⟨k, q, rfl, hkn, rfl, heq⟩ := hrel
      have HEQ := Lib.hid heq; clear heq
      by_cases hlt : k < n
      · have d2 : decide ((k : Int) < (n : Int)) = true := by simp; omega
        have b1 : (0 : Int) ≤ (k : Int) := by omega
        have b2 : (k : Int) < (n : Int) := by omega
        have hkL : k < L.length := by rw [HL.out]; exact hlt
        have hkM : k < M.length := by rw [HK.out]; exact hlt
        obtain ⟨ba, oa, rfl, x0, x1⟩ := hA.ntE' hkL
        obtain ⟨bb, ob, rfl, y0, y1⟩ := hB.ntE' hkM
        obtain ⟨x, hx⟩ : ∃ x, L[k] = x := ⟨_, rfl⟩
        obtain ⟨y, hy⟩ : ∃ y, M[k] = y := ⟨_, rfl⟩
        rw [hx] at x0 x1
        rw [hy] at y0 y1
        have HX := Lib.hid hx; have HY := Lib.hid hy; clear hx hy
        obtain ⟨a1, a2⟩ := x
        obtain ⟨b1', b2'⟩ := y
        simp only at x0 x1 y0 y1
        have qe := fun w : World => run_nt_eq a1 a2 b1' b2' w
        by_cases he : (a1, a2) = (b1', b2')
        · rw [decide_eq_true he] at qe
          have HE := Lib.hid he; clear he
          go_wp2_with fail
          go_quiet (fail)
          go_wp2_with fail
          go_roundw
          case rel => exact ⟨k + 1, q + nq, by go_num, by omega, by simp [World.drewN, Nat.add_assoc], take_next hkL hkM HEQ.out (by rw [HX.out, HY.out]; exact HE.out)⟩
          case measure => simp [intOf]; omega
        · rw [decide_eq_false he] at qe
          have HE := Lib.hid he; clear he
          go_wp2_with fail
          go_quiet (fail)
          go_wp2_with fail
          go_ret
          refine ⟨?_, q + nq, by simp [World.drewN, Nat.add_assoc]⟩
          have : r = false := by
            rw [← HR.out, decide_eq_false_iff_not]
            exact take_not hkL hkM (by rw [HX.out, HY.out]; exact HE.out)
          rw [this]; rfl
      · have d2 : decide ((k : Int) < (n : Int)) = false := by simp; omega
        obtain rfl : k = n := by omega
        go_wp2_with fail
        go_ret
        refine ⟨?_, _, rfl⟩
        have : r = true := by
          rw [← HR.out, decide_eq_true_eq]
          exact take_end (by rw [HL.out, HK.out]) (by rw [HL.out]; exact HEQ.out)
        rw [this]; rfl
  · have d0 : ((n : Int) == (m : Int)) = false := by simp; omega
    have d1 : ((n : Int) != (m : Int)) = true := by simp; omega
    have : r = false := by
      rw [← HR.out, decide_eq_false_iff_not]
      intro e
      have := HL.out; have := HK.out
      rw [e] at *
      omega
    subst this
    go_enter Tryz.func143, Tryz.ntmps143
    go_wp2_with fail
    go_ret
    exact ⟨rfl, 0, rfl⟩
set_option maxRecDepth 100000 in
set_option maxHeartbeats 4000000 in
theorem equalI_any (A B : Option Addr) (n c m d : Nat) (L M : List Int) (w : World) (hA : RdR inC 1 w w.heap.size A n L) (hB : RdR inC 1 w w.heap.size B m M) (hn : n ≤ 1000000) (hm : m ≤ 1000000) :
    Calls Tryz.prog 144 #[.slice A n c, .slice B m d] w fun e w' => e = .returned (.bool (decide (L = M))) ∧ ∃ q, w' = w.drewN q := by
  have hl := hA.1
  have hk := hB.1
  have HL := Lib.hid hl; have HK := Lib.hid hk; clear hl hk
  obtain ⟨r, hr⟩ : ∃ r, decide (L = M) = r := ⟨_, rfl⟩
  rw [hr]
  have HR := Lib.hid hr; clear hr
  by_cases hnm : n = m
  · subst hnm
    have d0 : ((n : Int) == (n : Int)) = true := by simp
    have d1 : ((n : Int) != (n : Int)) = false := by simp
    go_enter Tryz.func144, Tryz.ntmps144
    go_wp2_with fail
    go_loopw [13] (fun i wr => ∃ k q : Nat, i = .int .i64 k ∧ k ≤ n ∧ wr = w.drewN q ∧ L.take k = M.take k) (fun i _ => n - (intOf i).toNat)
    case atStart => exact ⟨0, 0, rfl, Nat.zero_le _, rfl, rfl⟩
    case round =>
      obtain ⟨k, q, rfl, hkn, rfl, heq⟩ := hrel
      have HEQ := Lib.hid heq; clear heq
      by_cases hlt : k < n
      · have d2 : decide ((k : Int) < (n : Int)) = true := by simp; omega
        have b1 : (0 : Int) ≤ (k : Int) := by omega
        have b2 : (k : Int) < (n : Int) := by omega
        have hkL : k < L.length := by rw [HL.out]; exact hlt
        have hkM : k < M.length := by rw [HK.out]; exact hlt
        obtain ⟨ba, oa, rfl, _, x0⟩ := hA.inE hkL
        obtain ⟨bb, ob, rfl, _, y0⟩ := hB.inE hkM
        obtain ⟨x, hx⟩ : ∃ x, L[k] = x := ⟨_, rfl⟩
        obtain ⟨y, hy⟩ : ∃ y, M[k] = y := ⟨_, rfl⟩
        rw [hx] at x0
        rw [hy] at y0
        have HX := Lib.hid hx; have HY := Lib.hid hy; clear hx hy
        by_cases he : x = y
        · have q1 : (x == y) = true := by simp [he]
          have q2 : (x != y) = false := by simp [he]
          have HE := Lib.hid he; clear he
          go_wp2_with fail
          go_quiet (fail)
          go_wp2_with fail
          go_roundw
          case rel => exact ⟨k + 1, q + nq, by go_num, by omega, by simp [World.drewN, Nat.add_assoc], take_next hkL hkM HEQ.out (by rw [HX.out, HY.out]; exact HE.out)⟩
          case measure => simp [intOf]; omega
        · have q1 : (x == y) = false := by simp [he]
          have q2 : (x != y) = true := by simp [he]
          have HE := Lib.hid he; clear he
          go_wp2_with fail
          go_quiet (fail)
          go_wp2_with fail
          go_ret
          refine ⟨?_, q + nq, by simp [World.drewN, Nat.add_assoc]⟩
          have : r = false := by
            rw [← HR.out, decide_eq_false_iff_not]
            exact take_not hkL hkM (by rw [HX.out, HY.out]; exact HE.out)
          rw [this]; rfl
      · have d2 : decide ((k : Int) < (n : Int)) = false := by simp; omega
        obtain rfl : k = n := by omega
        go_wp2_with fail
        go_ret
        refine ⟨?_, _, rfl⟩
        have : r = true := by
          rw [← HR.out, decide_eq_true_eq]
          exact take_end (by rw [HL.out, HK.out]) (by rw [HL.out]; exact HEQ.out)
        rw [this]; rfl
  · have d0 : ((n : Int) == (m : Int)) = false := by simp; omega
    have d1 : ((n : Int) != (m : Int)) = true := by simp; omega
    have : r = false := by
      rw [← HR.out, decide_eq_false_iff_not]
      intro e
      have := HL.out; have := HK.out
      rw [e] at *
      omega
    subst this
    go_enter Tryz.func144, Tryz.ntmps144
    go_wp2_with fail
    go_ret
    exact ⟨rfl, 0, rfl⟩
set_option maxRecDepth 100000 in
set_option maxHeartbeats 4000000 in
theorem psSource_any (s u : Sr) (cs ds : List Value) (w : World) (h : SrP w w.heap.size cs s) (h' : SrP w w.heap.size ds u) (hok : okSr s) (hok' : okSr u) :
    Calls Tryz.prog 90 #[.agg cs.toArray, .agg ds.toArray] w fun e w' => e = .returned (.bool (decide (s = u))) ∧ Below w.heap.size w w' := by
  obtain ⟨A1, n1, c1, A2, n2, c2, A3, n3, c3, rfl, h1, h2, h3⟩ := vals_sr h
  obtain ⟨D1, m1, d1, D2, m2, d2, D3, m3, d3, rfl, k1, k2, k3⟩ := vals_sr h'
  obtain ⟨r, hr⟩ : ∃ r, decide (s = u) = r := ⟨_, rfl⟩
  rw [hr]
  have hn1 : n1 ≤ 1000000 := by rw [← h1.1]; exact hok.1.1
  have hm1 : m1 ≤ 1000000 := by rw [← k1.1]; exact hok'.1.1
  have hn2 : n2 ≤ 1000000 := by rw [← h2.1]; exact hok.2.1.1
  have hm2 : m2 ≤ 1000000 := by rw [← k2.1]; exact hok'.2.1.1
  have hn3 : n3 ≤ 1000000 := by rw [← h3.1]; exact hok.2.2.1
  have hm3 : m3 ≤ 1000000 := by rw [← k3.1]; exact hok'.2.2.1
  have eqs : s = u ↔ (s.names = u.names ∧ s.spaces = u.spaces ∧ s.nets = u.nets) := by cases s; cases u; simp
  have EQS := Lib.hid eqs; have HR := Lib.hid hr; clear eqs hr
  have H1 := Lib.hid h1; have K1 := Lib.hid k1; clear h1 k1
  have H2 := Lib.hid h2; have K2 := Lib.hid k2; clear h2 k2
  have H3 := Lib.hid h3; have K3 := Lib.hid k3; clear h3 k3
  have OK1 := Lib.hid hok; have OK2 := Lib.hid hok'; clear hok hok'
  show Calls Tryz.prog 90 #[.agg #[.slice A1 n1 c1, .slice A2 n2 c2, .slice A3 n3 c3], .agg #[.slice D1 m1 d1, .slice D2 m2 d2, .slice D3 m3 d3]] w _
  go_enter Tryz.func90, Tryz.ntmps90
  go_upto_region 1 with fail
  refine abs (fun x => Blk x w.heap.size 45 [.slice A1 n1 c1, .slice A2 n2 c2, .slice A3 n3 c3] ∧ Blk x (w.heap.size + 1) 45 [.slice D1 m1 d1, .slice D2 m2 d2, .slice D3 m3 d3] ∧ Below w.heap.size w x) ⟨(Blk.newAt rfl _ #[.slice A1 n1 c1, .slice A2 n2 c2, .slice A3 n3 c3]).alloc _, Blk.newAt (by simp) _ #[.slice D1 m1 d1, .slice D2 m2 d2, .slice D3 m3 d3], ((Below.refl _ _).alloc (Nat.le_refl _) _).alloc (by simp) _⟩ ?_
  rintro x0 ⟨ka, kb, f1⟩
  have a1 := ka.cell 0; have b1 := kb.cell 0
  go_wp2_with fail
  refine (equalT_any A1 D1 n1 c1 m1 d1 _ _ x0 ((H1.out.below f1).more f1.size) ((K1.out.below f1).more f1.size) hn1 hm1).mono ?_
  rintro e x1 ⟨rfl, q, hq⟩
  have f2 : Below x0.heap.size x0 x1 := by rw [hq]; exact belowN (Below.refl _ _) q
  clear hq
  replace ka := ka.below f2 ka.lt
  have lkb := kb.lt
  replace kb := kb.below f2 lkb
  replace f1 := f1.trans (f2.mono f1.size)
  clear f2 a1 b1 lkb
  by_cases he : s.names = u.names
  · have HE1 := Lib.hid he
    rw [decide_eq_true he]
    clear he
    have a2 := ka.cell 1; have b2 := kb.cell 1
    go_wp2_with fail
    refine (equalT_any A2 D2 n2 c2 m2 d2 _ _ x1 ((H2.out.below f1).more f1.size) ((K2.out.below f1).more f1.size) hn2 hm2).mono ?_
    rintro e x2 ⟨rfl, q, hq⟩
    have f2 : Below x1.heap.size x1 x2 := by rw [hq]; exact belowN (Below.refl _ _) q
    clear hq
    replace ka := ka.below f2 ka.lt
    have lkb := kb.lt
    replace kb := kb.below f2 lkb
    replace f1 := f1.trans (f2.mono f1.size)
    clear f2 a2 b2 lkb
    by_cases he : s.spaces = u.spaces
    · have HE2 := Lib.hid he
      rw [decide_eq_true he]
      clear he
      have a3 := ka.cell 2; have b3 := kb.cell 2
      go_wp2_with fail
      refine (equalN_any A3 D3 n3 c3 m3 d3 _ _ x2 ((H3.out.below f1).more f1.size) ((K3.out.below f1).more f1.size) hn3 hm3).mono ?_
      rintro e x3 ⟨rfl, q, hq⟩
      have f2 : Below x2.heap.size x2 x3 := by rw [hq]; exact belowN (Below.refl _ _) q
      clear hq
      replace ka := ka.below f2 ka.lt
      have lkb := kb.lt
      replace kb := kb.below f2 lkb
      replace f1 := f1.trans (f2.mono f1.size)
      clear f2 a3 b3 lkb
      by_cases he : s.nets = u.nets
      · have HE3 := Lib.hid he
        rw [decide_eq_true he]
        clear he
        obtain rfl : r = true := by rw [← HR.out, decide_eq_true_eq, EQS.out]; exact ⟨HE1.out, HE2.out, HE3.out⟩
        go_wp2_with fail
        go_ret
        exact ⟨rfl, f1⟩
      · have HE3 := Lib.hid he
        rw [decide_eq_false he]
        clear he
        obtain rfl : r = false := by rw [← HR.out, decide_eq_false_iff_not, EQS.out]; intro e; exact HE3.out e.2.2
        go_wp2_with fail
        go_ret
        exact ⟨rfl, f1⟩
    · have HE2 := Lib.hid he
      rw [decide_eq_false he]
      clear he
      obtain rfl : r = false := by rw [← HR.out, decide_eq_false_iff_not, EQS.out]; intro e; exact HE2.out e.2.1
      go_wp2_with fail
      go_ret
      exact ⟨rfl, f1⟩
  · have HE1 := Lib.hid he
    rw [decide_eq_false he]
    clear he
    obtain rfl : r = false := by rw [← HR.out, decide_eq_false_iff_not, EQS.out]; intro e; exact HE1.out e.1
    go_wp2_with fail
    go_ret
    exact ⟨rfl, f1⟩
set_option maxRecDepth 100000 in
set_option maxHeartbeats 4000000 in
theorem psTarget_any (s u : Tg) (cs ds : List Value) (w : World) (h : TgP w w.heap.size cs s) (h' : TgP w w.heap.size ds u) (hok : okTg s) (hok' : okTg u) :
    Calls Tryz.prog 92 #[.agg cs.toArray, .agg ds.toArray] w fun e w' => e = .returned (.bool (decide (s = u))) ∧ Below w.heap.size w w' := by
  obtain ⟨A1, n1, c1, A2, n2, c2, A3, n3, c3, A4, n4, c4, rfl, h1, h2, h3, h4⟩ := vals_tg h
  obtain ⟨D1, m1, d1, D2, m2, d2, D3, m3, d3, D4, m4, d4, rfl, k1, k2, k3, k4⟩ := vals_tg h'
  obtain ⟨r, hr⟩ : ∃ r, decide (s = u) = r := ⟨_, rfl⟩
  rw [hr]
  have hn1 : n1 ≤ 1000000 := by rw [← h1.1]; exact hok.1.1
  have hm1 : m1 ≤ 1000000 := by rw [← k1.1]; exact hok'.1.1
  have hn2 : n2 ≤ 1000000 := by rw [← h2.1]; exact hok.2.1.1
  have hm2 : m2 ≤ 1000000 := by rw [← k2.1]; exact hok'.2.1.1
  have hn3 : n3 ≤ 1000000 := by rw [← h3.1]; exact hok.2.2.1.1
  have hm3 : m3 ≤ 1000000 := by rw [← k3.1]; exact hok'.2.2.1.1
  have hn4 : n4 ≤ 1000000 := by rw [← h4.1]; exact hok.2.2.2.1
  have hm4 : m4 ≤ 1000000 := by rw [← k4.1]; exact hok'.2.2.2.1
  have eqs : s = u ↔ (s.ports = u.ports ∧ s.methods = u.methods ∧ s.paths = u.paths ∧ s.hosts = u.hosts) := by cases s; cases u; simp
  have EQS := Lib.hid eqs; have HR := Lib.hid hr; clear eqs hr
  have H1 := Lib.hid h1; have K1 := Lib.hid k1; clear h1 k1
  have H2 := Lib.hid h2; have K2 := Lib.hid k2; clear h2 k2
  have H3 := Lib.hid h3; have K3 := Lib.hid k3; clear h3 k3
  have H4 := Lib.hid h4; have K4 := Lib.hid k4; clear h4 k4
  have OK1 := Lib.hid hok; have OK2 := Lib.hid hok'; clear hok hok'
  show Calls Tryz.prog 92 #[.agg #[.slice A1 n1 c1, .slice A2 n2 c2, .slice A3 n3 c3, .slice A4 n4 c4], .agg #[.slice D1 m1 d1, .slice D2 m2 d2, .slice D3 m3 d3, .slice D4 m4 d4]] w _
  go_enter Tryz.func92, Tryz.ntmps92
  go_upto_region 1 with fail
  refine abs (fun x => Blk x w.heap.size 33 [.slice A1 n1 c1, .slice A2 n2 c2, .slice A3 n3 c3, .slice A4 n4 c4] ∧ Blk x (w.heap.size + 1) 33 [.slice D1 m1 d1, .slice D2 m2 d2, .slice D3 m3 d3, .slice D4 m4 d4] ∧ Below w.heap.size w x) ⟨(Blk.newAt rfl _ #[.slice A1 n1 c1, .slice A2 n2 c2, .slice A3 n3 c3, .slice A4 n4 c4]).alloc _, Blk.newAt (by simp) _ #[.slice D1 m1 d1, .slice D2 m2 d2, .slice D3 m3 d3, .slice D4 m4 d4], ((Below.refl _ _).alloc (Nat.le_refl _) _).alloc (by simp) _⟩ ?_
  rintro x0 ⟨ka, kb, f1⟩
  have a1 := ka.cell 0; have b1 := kb.cell 0
  go_wp2_with fail
  refine (equalI_any A1 D1 n1 c1 m1 d1 _ _ x0 ((H1.out.below f1).more f1.size) ((K1.out.below f1).more f1.size) hn1 hm1).mono ?_
  rintro e x1 ⟨rfl, q, hq⟩
  have f2 : Below x0.heap.size x0 x1 := by rw [hq]; exact belowN (Below.refl _ _) q
  clear hq
  replace ka := ka.below f2 ka.lt
  have lkb := kb.lt
  replace kb := kb.below f2 lkb
  replace f1 := f1.trans (f2.mono f1.size)
  clear f2 a1 b1 lkb
  by_cases he : s.ports = u.ports
  · have HE1 := Lib.hid he
    rw [decide_eq_true he]
    clear he
    have a2 := ka.cell 1; have b2 := kb.cell 1
    go_wp2_with fail
    refine (equalT_any A2 D2 n2 c2 m2 d2 _ _ x1 ((H2.out.below f1).more f1.size) ((K2.out.below f1).more f1.size) hn2 hm2).mono ?_
    rintro e x2 ⟨rfl, q, hq⟩
    have f2 : Below x1.heap.size x1 x2 := by rw [hq]; exact belowN (Below.refl _ _) q
    clear hq
    replace ka := ka.below f2 ka.lt
    have lkb := kb.lt
    replace kb := kb.below f2 lkb
    replace f1 := f1.trans (f2.mono f1.size)
    clear f2 a2 b2 lkb
    by_cases he : s.methods = u.methods
    · have HE2 := Lib.hid he
      rw [decide_eq_true he]
      clear he
      have a3 := ka.cell 2; have b3 := kb.cell 2
      go_wp2_with fail
      refine (equalT_any A3 D3 n3 c3 m3 d3 _ _ x2 ((H3.out.below f1).more f1.size) ((K3.out.below f1).more f1.size) hn3 hm3).mono ?_
      rintro e x3 ⟨rfl, q, hq⟩
      have f2 : Below x2.heap.size x2 x3 := by rw [hq]; exact belowN (Below.refl _ _) q
      clear hq
      replace ka := ka.below f2 ka.lt
      have lkb := kb.lt
      replace kb := kb.below f2 lkb
      replace f1 := f1.trans (f2.mono f1.size)
      clear f2 a3 b3 lkb
      by_cases he : s.paths = u.paths
      · have HE3 := Lib.hid he
        rw [decide_eq_true he]
        clear he
        have a4 := ka.cell 3; have b4 := kb.cell 3
        go_wp2_with fail
        refine (equalT_any A4 D4 n4 c4 m4 d4 _ _ x3 ((H4.out.below f1).more f1.size) ((K4.out.below f1).more f1.size) hn4 hm4).mono ?_
        rintro e x4 ⟨rfl, q, hq⟩
        have f2 : Below x3.heap.size x3 x4 := by rw [hq]; exact belowN (Below.refl _ _) q
        clear hq
        replace ka := ka.below f2 ka.lt
        have lkb := kb.lt
        replace kb := kb.below f2 lkb
        replace f1 := f1.trans (f2.mono f1.size)
        clear f2 a4 b4 lkb
        by_cases he : s.hosts = u.hosts
        · have HE4 := Lib.hid he
          rw [decide_eq_true he]
          clear he
          obtain rfl : r = true := by rw [← HR.out, decide_eq_true_eq, EQS.out]; exact ⟨HE1.out, HE2.out, HE3.out, HE4.out⟩
          go_wp2_with fail
          go_ret
          exact ⟨rfl, f1⟩
        · have HE4 := Lib.hid he
          rw [decide_eq_false he]
          clear he
          obtain rfl : r = false := by rw [← HR.out, decide_eq_false_iff_not, EQS.out]; intro e; exact HE4.out e.2.2.2
          go_wp2_with fail
          go_ret
          exact ⟨rfl, f1⟩
      · have HE3 := Lib.hid he
        rw [decide_eq_false he]
        clear he
        obtain rfl : r = false := by rw [← HR.out, decide_eq_false_iff_not, EQS.out]; intro e; exact HE3.out e.2.2.1
        go_wp2_with fail
        go_ret
        exact ⟨rfl, f1⟩
    · have HE2 := Lib.hid he
      rw [decide_eq_false he]
      clear he
      obtain rfl : r = false := by rw [← HR.out, decide_eq_false_iff_not, EQS.out]; intro e; exact HE2.out e.2.1
      go_wp2_with fail
      go_ret
      exact ⟨rfl, f1⟩
  · have HE1 := Lib.hid he
    rw [decide_eq_false he]
    clear he
    obtain rfl : r = false := by rw [← HR.out, decide_eq_false_iff_not, EQS.out]; intro e; exact HE1.out e.1
    go_wp2_with fail
    go_ret
    exact ⟨rfl, f1⟩
set_option maxRecDepth 100000 in
set_option maxHeartbeats 4000000 in
theorem psWhen_any (s u : Wn) (cs ds : List Value) (w : World) (h : WnP w w.heap.size cs s) (h' : WnP w w.heap.size ds u) (hok : okWn s) (hok' : okWn u) :
    Calls Tryz.prog 94 #[.agg cs.toArray, .agg ds.toArray] w fun e w' => e = .returned (.bool (decide (s = u))) ∧ Below w.heap.size w w' := by
  obtain ⟨A2, n2, c2, rfl, h2⟩ := vals_wn h
  obtain ⟨D2, m2, d2, rfl, k2⟩ := vals_wn h'
  obtain ⟨r, hr⟩ : ∃ r, decide (s = u) = r := ⟨_, rfl⟩
  rw [hr]
  have hn2 : n2 ≤ 1000000 := by rw [← h2.1]; exact hok.2.1
  have hm2 : m2 ≤ 1000000 := by rw [← k2.1]; exact hok'.2.1
  have hq1 := strB_beq s.head u.head
  have eqs : s = u ↔ (s.head = u.head ∧ s.terms = u.terms) := by cases s; cases u; simp
  have EQS := Lib.hid eqs; have HR := Lib.hid hr; clear eqs hr
  have H2 := Lib.hid h2; have K2 := Lib.hid k2; clear h2 k2
  have OK1 := Lib.hid hok; have OK2 := Lib.hid hok'; clear hok hok'
  show Calls Tryz.prog 94 #[.agg #[.string (strB s.head), .slice A2 n2 c2], .agg #[.string (strB u.head), .slice D2 m2 d2]] w _
  generalize strB s.head = sx at *
  generalize strB u.head = sy at *
  go_enter Tryz.func94, Tryz.ntmps94
  go_upto_region 1 with fail
  refine abs (fun x => Blk x w.heap.size 50 [.string (sx), .slice A2 n2 c2] ∧ Blk x (w.heap.size + 1) 50 [.string (sy), .slice D2 m2 d2] ∧ Below w.heap.size w x) ⟨(Blk.newAt rfl _ #[.string (sx), .slice A2 n2 c2]).alloc _, Blk.newAt (by simp) _ #[.string (sy), .slice D2 m2 d2], ((Below.refl _ _).alloc (Nat.le_refl _) _).alloc (by simp) _⟩ ?_
  rintro x0 ⟨ka, kb, f1⟩
  have a1 := ka.cell 0; have b1 := kb.cell 0
  by_cases he : s.head = u.head
  · have HE1 := Lib.hid he
    rw [decide_eq_true he] at hq1
    clear he
    have a2 := ka.cell 1; have b2 := kb.cell 1
    go_wp2_with fail
    refine (equalT_any A2 D2 n2 c2 m2 d2 _ _ x0 ((H2.out.below f1).more f1.size) ((K2.out.below f1).more f1.size) hn2 hm2).mono ?_
    rintro e x2 ⟨rfl, q, hq⟩
    have f2 : Below x0.heap.size x0 x2 := by rw [hq]; exact belowN (Below.refl _ _) q
    clear hq
    replace ka := ka.below f2 ka.lt
    have lkb := kb.lt
    replace kb := kb.below f2 lkb
    replace f1 := f1.trans (f2.mono f1.size)
    clear f2 a2 b2 lkb
    by_cases he : s.terms = u.terms
    · have HE2 := Lib.hid he
      rw [decide_eq_true he]
      clear he
      obtain rfl : r = true := by rw [← HR.out, decide_eq_true_eq, EQS.out]; exact ⟨HE1.out, HE2.out⟩
      go_wp2_with fail
      go_ret
      exact ⟨rfl, f1⟩
    · have HE2 := Lib.hid he
      rw [decide_eq_false he]
      clear he
      obtain rfl : r = false := by rw [← HR.out, decide_eq_false_iff_not, EQS.out]; intro e; exact HE2.out e.2
      go_wp2_with fail
      go_ret
      exact ⟨rfl, f1⟩
  · have HE1 := Lib.hid he
    rw [decide_eq_false he] at hq1
    clear he
    obtain rfl : r = false := by rw [← HR.out, decide_eq_false_iff_not, EQS.out]; intro e; exact HE1.out e.1
    go_wp2_with fail
    go_ret
    exact ⟨rfl, f1⟩
set_option maxRecDepth 100000 in
set_option maxHeartbeats 4000000 in
theorem eqfS_any (A B : Option Addr) (n c m d : Nat) (L M : List Sr) (w : World) (hA : RdG 3 SrP w w.heap.size A n L) (hB : RdG 3 SrP w w.heap.size B m M) (hn : n ≤ 1000000) (hm : m ≤ 1000000) (okL : ∀ x ∈ L, okSr x) (okM : ∀ x ∈ M, okSr x) :
    Calls Tryz.prog 89 #[.slice A n c, .slice B m d, .func (.func 90) #[] #[]] w fun e w' => e = .returned (.bool (decide (L = M))) ∧ Below w.heap.size w w' := by
  have hl := hA.1
  have hk := hB.1
  have HL := Lib.hid hl; have HK := Lib.hid hk; have OKL := Lib.hid okL; have OKM := Lib.hid okM; clear hl hk okL okM
  obtain ⟨r, hr⟩ : ∃ r, decide (L = M) = r := ⟨_, rfl⟩
  rw [hr]
  have HR := Lib.hid hr; clear hr
  by_cases hnm : n = m
  · subst hnm
    have d0 : ((n : Int) == (n : Int)) = true := by simp
    have d1 : ((n : Int) != (n : Int)) = false := by simp
    go_enter Tryz.func89, Tryz.ntmps89
    go_wp2_with fail
    go_loopw [17] (fun i wr => ∃ k : Nat, i = .int .i64 k ∧ k ≤ n ∧ Below w.heap.size w wr ∧ L.take k = M.take k) (fun i _ => n - (intOf i).toNat)
    case atStart => exact ⟨0, rfl, Nat.zero_le _, Below.refl _ _, rfl⟩
    case round =>
      obtain ⟨k, rfl, hkn, f1, heq⟩ := hrel
      have HEQ := Lib.hid heq; clear heq
      by_cases hlt : k < n
      · have d2 : decide ((k : Int) < (n : Int)) = true := by simp; omega
        have b1 : (0 : Int) ≤ (k : Int) := by omega
        have b2 : (k : Int) < (n : Int) := by omega
        have hkL : k < L.length := by rw [HL.out]; exact hlt
        have hkM : k < M.length := by rw [HK.out]; exact hlt
        obtain ⟨ba, oa, ca, rfl, p2, p3, p4, p5⟩ := hA.at_ hlt
        obtain ⟨bb, ob, cb, rfl, q2, q3, q4, q5⟩ := hB.at_ hlt
        have okx := OKL.out _ (List.getElem_mem hkL)
        have oky := OKM.out _ (List.getElem_mem hkM)
        obtain ⟨x, hx⟩ : ∃ x, L[k]'hkL = x := ⟨_, rfl⟩
        obtain ⟨y, hy⟩ : ∃ y, M[k]'hkM = y := ⟨_, rfl⟩
        rw [hx] at p4 okx
        rw [hy] at q4 oky
        have HX := Lib.hid hx; have HY := Lib.hid hy; clear hx hy p3 q3
        have PX := Lib.hid p4; have PY := Lib.hid q4
        obtain ⟨A1, n1, c1, A2, n2, c2, A3, n3, c3, rfl, _, _, _⟩ := vals_sr p4
        obtain ⟨D1, m1, d1, D2, m2, d2, D3, m3, d3, rfl, _, _, _⟩ := vals_sr q4
        clear p4 q4
        have a0 := (f1.cell (p := ⟨ba, oa + k * 3, none⟩) (by simp only; omega)).trans (p5 0 _ rfl)
        have a1 := (f1.cell (p := ⟨ba, oa + k * 3 + 1, none⟩) (by simp only; omega)).trans (p5 1 _ rfl)
        have a2 := (f1.cell (p := ⟨ba, oa + k * 3 + 2, none⟩) (by simp only; omega)).trans (p5 2 _ rfl)
        have gs1 := f1.size
        obtain ⟨g8, hg8⟩ : ∃ x, wr.heap.size = x := ⟨_, rfl⟩
        go_upto_region 6 with fail
        refine abs (fun xw => Blk xw g8 45 [.slice A1 n1 c1, .slice A2 n2 c2, .slice A3 n3 c3] ∧ Below w.heap.size w xw) ⟨Blk.newAt hg8 _ #[.slice A1 n1 c1, .slice A2 n2 c2, .slice A3 n3 c3], f1.alloc gs1 _⟩ ?_
        rintro v1 ⟨ka, f2⟩
        clear a0 a1 a2 p5 gs1
        have b0 := (f2.cell (p := ⟨bb, ob + k * 3, none⟩) (by simp only; omega)).trans (q5 0 _ rfl)
        have b1 := (f2.cell (p := ⟨bb, ob + k * 3 + 1, none⟩) (by simp only; omega)).trans (q5 1 _ rfl)
        have b2 := (f2.cell (p := ⟨bb, ob + k * 3 + 2, none⟩) (by simp only; omega)).trans (q5 2 _ rfl)
        have gs2 := f2.size
        have lka := ka.lt
        obtain ⟨g9, hg9⟩ : ∃ x, v1.heap.size = x := ⟨_, rfl⟩
        clear hg8
        go_upto_region 7 with fail
        refine abs (fun xw => Blk xw g8 45 [.slice A1 n1 c1, .slice A2 n2 c2, .slice A3 n3 c3] ∧ Blk xw g9 45 [.slice D1 m1 d1, .slice D2 m2 d2, .slice D3 m3 d3] ∧ Below w.heap.size w xw) ⟨ka.alloc _, Blk.newAt hg9 _ #[.slice D1 m1 d1, .slice D2 m2 d2, .slice D3 m3 d3], f2.alloc gs2 _⟩ ?_
        rintro v2 ⟨ka, kb, f3⟩
        clear b0 b1 b2 q5 gs2 hg9 f2
        have e0 := ka.cell 0; have g0 := kb.cell 0
        have e1 := ka.cell 1; have g1 := kb.cell 1
        have e2 := ka.cell 2; have g2 := kb.cell 2
        have hC := psSource_any x y _ _ v2 (PX.out.mono f3.size f3) (PY.out.mono f3.size f3) okx oky
        go_wp2_with fail
        refine hC.mono ?_
        rintro e v3 ⟨rfl, f4⟩
        have f5 := f3.trans (f4.mono f3.size)
        clear e0 g0 e1 g1 e2 g2 hC f1 f3 f4
        by_cases he : x = y
        · rw [decide_eq_true he]
          have HE := Lib.hid he; clear he
          go_wp2_with fail
          go_roundw
          case rel => exact ⟨k + 1, by go_num, by omega, f5, take_next hkL hkM HEQ.out (by rw [HX.out, HY.out]; exact HE.out)⟩
          case measure => simp [intOf]; omega
        · rw [decide_eq_false he]
          obtain rfl : r = false := by
            rw [← HR.out, decide_eq_false_iff_not]
            exact take_not hkL hkM (by rw [HX.out, HY.out]; exact he)
          clear he
          go_wp2_with fail
          go_ret
          exact ⟨rfl, f5⟩
      · have d2 : decide ((k : Int) < (n : Int)) = false := by simp; omega
        obtain rfl : k = n := by omega
        obtain rfl : r = true := by
          rw [← HR.out, decide_eq_true_eq]
          exact take_end (by rw [HL.out, HK.out]) (by rw [HL.out]; exact HEQ.out)
        go_wp2_with fail
        go_ret
        exact ⟨rfl, f1⟩
  · have d0 : ((n : Int) == (m : Int)) = false := by simp; omega
    have d1 : ((n : Int) != (m : Int)) = true := by simp; omega
    have : r = false := by
      rw [← HR.out, decide_eq_false_iff_not]
      intro e
      have := HL.out; have := HK.out
      rw [e] at *
      omega
    subst this
    go_enter Tryz.func89, Tryz.ntmps89
    go_wp2_with fail
    go_ret
    exact ⟨rfl, Below.refl _ _⟩
set_option maxRecDepth 100000 in
set_option maxHeartbeats 4000000 in
theorem eqfT_any (A B : Option Addr) (n c m d : Nat) (L M : List Tg) (w : World) (hA : RdG 4 TgP w w.heap.size A n L) (hB : RdG 4 TgP w w.heap.size B m M) (hn : n ≤ 1000000) (hm : m ≤ 1000000) (okL : ∀ x ∈ L, okTg x) (okM : ∀ x ∈ M, okTg x) :
    Calls Tryz.prog 91 #[.slice A n c, .slice B m d, .func (.func 92) #[] #[]] w fun e w' => e = .returned (.bool (decide (L = M))) ∧ Below w.heap.size w w' := by
  have hl := hA.1
  have hk := hB.1
  have HL := Lib.hid hl; have HK := Lib.hid hk; have OKL := Lib.hid okL; have OKM := Lib.hid okM; clear hl hk okL okM
  obtain ⟨r, hr⟩ : ∃ r, decide (L = M) = r := ⟨_, rfl⟩
  rw [hr]
  have HR := Lib.hid hr; clear hr
  by_cases hnm : n = m
  · subst hnm
    have d0 : ((n : Int) == (n : Int)) = true := by simp
    have d1 : ((n : Int) != (n : Int)) = false := by simp
    go_enter Tryz.func91, Tryz.ntmps91
    go_wp2_with fail
    go_loopw [17] (fun i wr => ∃ k : Nat, i = .int .i64 k ∧ k ≤ n ∧ Below w.heap.size w wr ∧ L.take k = M.take k) (fun i _ => n - (intOf i).toNat)
    case atStart => exact ⟨0, rfl, Nat.zero_le _, Below.refl _ _, rfl⟩
    case round =>
      obtain ⟨k, rfl, hkn, f1, heq⟩ := hrel
      have HEQ := Lib.hid heq; clear heq
      by_cases hlt : k < n
      · have d2 : decide ((k : Int) < (n : Int)) = true := by simp; omega
        have b1 : (0 : Int) ≤ (k : Int) := by omega
        have b2 : (k : Int) < (n : Int) := by omega
        have hkL : k < L.length := by rw [HL.out]; exact hlt
        have hkM : k < M.length := by rw [HK.out]; exact hlt
        obtain ⟨ba, oa, ca, rfl, p2, p3, p4, p5⟩ := hA.at_ hlt
        obtain ⟨bb, ob, cb, rfl, q2, q3, q4, q5⟩ := hB.at_ hlt
        have okx := OKL.out _ (List.getElem_mem hkL)
        have oky := OKM.out _ (List.getElem_mem hkM)
        obtain ⟨x, hx⟩ : ∃ x, L[k]'hkL = x := ⟨_, rfl⟩
        obtain ⟨y, hy⟩ : ∃ y, M[k]'hkM = y := ⟨_, rfl⟩
        rw [hx] at p4 okx
        rw [hy] at q4 oky
        have HX := Lib.hid hx; have HY := Lib.hid hy; clear hx hy p3 q3
        have PX := Lib.hid p4; have PY := Lib.hid q4
        obtain ⟨A1, n1, c1, A2, n2, c2, A3, n3, c3, A4, n4, c4, rfl, _, _, _, _⟩ := vals_tg p4
        obtain ⟨D1, m1, d1, D2, m2, d2, D3, m3, d3, D4, m4, d4, rfl, _, _, _, _⟩ := vals_tg q4
        clear p4 q4
        have a0 := (f1.cell (p := ⟨ba, oa + k * 4, none⟩) (by simp only; omega)).trans (p5 0 _ rfl)
        have a1 := (f1.cell (p := ⟨ba, oa + k * 4 + 1, none⟩) (by simp only; omega)).trans (p5 1 _ rfl)
        have a2 := (f1.cell (p := ⟨ba, oa + k * 4 + 2, none⟩) (by simp only; omega)).trans (p5 2 _ rfl)
        have a3 := (f1.cell (p := ⟨ba, oa + k * 4 + 3, none⟩) (by simp only; omega)).trans (p5 3 _ rfl)
        have gs1 := f1.size
        obtain ⟨g8, hg8⟩ : ∃ x, wr.heap.size = x := ⟨_, rfl⟩
        go_upto_region 6 with fail
        refine abs (fun xw => Blk xw g8 33 [.slice A1 n1 c1, .slice A2 n2 c2, .slice A3 n3 c3, .slice A4 n4 c4] ∧ Below w.heap.size w xw) ⟨Blk.newAt hg8 _ #[.slice A1 n1 c1, .slice A2 n2 c2, .slice A3 n3 c3, .slice A4 n4 c4], f1.alloc gs1 _⟩ ?_
        rintro v1 ⟨ka, f2⟩
        clear a0 a1 a2 a3 p5 gs1
        have b0 := (f2.cell (p := ⟨bb, ob + k * 4, none⟩) (by simp only; omega)).trans (q5 0 _ rfl)
        have b1 := (f2.cell (p := ⟨bb, ob + k * 4 + 1, none⟩) (by simp only; omega)).trans (q5 1 _ rfl)
        have b2 := (f2.cell (p := ⟨bb, ob + k * 4 + 2, none⟩) (by simp only; omega)).trans (q5 2 _ rfl)
        have b3 := (f2.cell (p := ⟨bb, ob + k * 4 + 3, none⟩) (by simp only; omega)).trans (q5 3 _ rfl)
        have gs2 := f2.size
        have lka := ka.lt
        obtain ⟨g9, hg9⟩ : ∃ x, v1.heap.size = x := ⟨_, rfl⟩
        clear hg8
        go_upto_region 7 with fail
        refine abs (fun xw => Blk xw g8 33 [.slice A1 n1 c1, .slice A2 n2 c2, .slice A3 n3 c3, .slice A4 n4 c4] ∧ Blk xw g9 33 [.slice D1 m1 d1, .slice D2 m2 d2, .slice D3 m3 d3, .slice D4 m4 d4] ∧ Below w.heap.size w xw) ⟨ka.alloc _, Blk.newAt hg9 _ #[.slice D1 m1 d1, .slice D2 m2 d2, .slice D3 m3 d3, .slice D4 m4 d4], f2.alloc gs2 _⟩ ?_
        rintro v2 ⟨ka, kb, f3⟩
        clear b0 b1 b2 b3 q5 gs2 hg9 f2
        have e0 := ka.cell 0; have g0 := kb.cell 0
        have e1 := ka.cell 1; have g1 := kb.cell 1
        have e2 := ka.cell 2; have g2 := kb.cell 2
        have e3 := ka.cell 3; have g3 := kb.cell 3
        have hC := psTarget_any x y _ _ v2 (PX.out.mono f3.size f3) (PY.out.mono f3.size f3) okx oky
        go_wp2_with fail
        refine hC.mono ?_
        rintro e v3 ⟨rfl, f4⟩
        have f5 := f3.trans (f4.mono f3.size)
        clear e0 g0 e1 g1 e2 g2 e3 g3 hC f1 f3 f4
        by_cases he : x = y
        · rw [decide_eq_true he]
          have HE := Lib.hid he; clear he
          go_wp2_with fail
          go_roundw
          case rel => exact ⟨k + 1, by go_num, by omega, f5, take_next hkL hkM HEQ.out (by rw [HX.out, HY.out]; exact HE.out)⟩
          case measure => simp [intOf]; omega
        · rw [decide_eq_false he]
          obtain rfl : r = false := by
            rw [← HR.out, decide_eq_false_iff_not]
            exact take_not hkL hkM (by rw [HX.out, HY.out]; exact he)
          clear he
          go_wp2_with fail
          go_ret
          exact ⟨rfl, f5⟩
      · have d2 : decide ((k : Int) < (n : Int)) = false := by simp; omega
        obtain rfl : k = n := by omega
        obtain rfl : r = true := by
          rw [← HR.out, decide_eq_true_eq]
          exact take_end (by rw [HL.out, HK.out]) (by rw [HL.out]; exact HEQ.out)
        go_wp2_with fail
        go_ret
        exact ⟨rfl, f1⟩
  · have d0 : ((n : Int) == (m : Int)) = false := by simp; omega
    have d1 : ((n : Int) != (m : Int)) = true := by simp; omega
    have : r = false := by
      rw [← HR.out, decide_eq_false_iff_not]
      intro e
      have := HL.out; have := HK.out
      rw [e] at *
      omega
    subst this
    go_enter Tryz.func91, Tryz.ntmps91
    go_wp2_with fail
    go_ret
    exact ⟨rfl, Below.refl _ _⟩
set_option maxRecDepth 100000 in
set_option maxHeartbeats 4000000 in
theorem eqfW_any (A B : Option Addr) (n c m d : Nat) (L M : List Wn) (w : World) (hA : RdG 2 WnP w w.heap.size A n L) (hB : RdG 2 WnP w w.heap.size B m M) (hn : n ≤ 1000000) (hm : m ≤ 1000000) (okL : ∀ x ∈ L, okWn x) (okM : ∀ x ∈ M, okWn x) :
    Calls Tryz.prog 93 #[.slice A n c, .slice B m d, .func (.func 94) #[] #[]] w fun e w' => e = .returned (.bool (decide (L = M))) ∧ Below w.heap.size w w' := by
  have hl := hA.1
  have hk := hB.1
  have HL := Lib.hid hl; have HK := Lib.hid hk; have OKL := Lib.hid okL; have OKM := Lib.hid okM; clear hl hk okL okM
  obtain ⟨r, hr⟩ : ∃ r, decide (L = M) = r := ⟨_, rfl⟩
  rw [hr]
  have HR := Lib.hid hr; clear hr
  by_cases hnm : n = m
  · subst hnm
    have d0 : ((n : Int) == (n : Int)) = true := by simp
    have d1 : ((n : Int) != (n : Int)) = false := by simp
    go_enter Tryz.func93, Tryz.ntmps93
    go_wp2_with fail
    go_loopw [17] (fun i wr => ∃ k : Nat, i = .int .i64 k ∧ k ≤ n ∧ Below w.heap.size w wr ∧ L.take k = M.take k) (fun i _ => n - (intOf i).toNat)
    case atStart => exact ⟨0, rfl, Nat.zero_le _, Below.refl _ _, rfl⟩
    case round =>
      obtain ⟨k, rfl, hkn, f1, heq⟩ := hrel
      have HEQ := Lib.hid heq; clear heq
      by_cases hlt : k < n
      · have d2 : decide ((k : Int) < (n : Int)) = true := by simp; omega
        have b1 : (0 : Int) ≤ (k : Int) := by omega
        have b2 : (k : Int) < (n : Int) := by omega
        have hkL : k < L.length := by rw [HL.out]; exact hlt
        have hkM : k < M.length := by rw [HK.out]; exact hlt
        obtain ⟨ba, oa, ca, rfl, p2, p3, p4, p5⟩ := hA.at_ hlt
        obtain ⟨bb, ob, cb, rfl, q2, q3, q4, q5⟩ := hB.at_ hlt
        have okx := OKL.out _ (List.getElem_mem hkL)
        have oky := OKM.out _ (List.getElem_mem hkM)
        obtain ⟨x, hx⟩ : ∃ x, L[k]'hkL = x := ⟨_, rfl⟩
        obtain ⟨y, hy⟩ : ∃ y, M[k]'hkM = y := ⟨_, rfl⟩
        rw [hx] at p4 okx
        rw [hy] at q4 oky
        have HX := Lib.hid hx; have HY := Lib.hid hy; clear hx hy p3 q3
        have PX := Lib.hid p4; have PY := Lib.hid q4
        obtain ⟨A1, n1, c1, rfl, _⟩ := vals_wn p4
        obtain ⟨D1, m1, d1, rfl, _⟩ := vals_wn q4
        clear p4 q4
        have a0 := (f1.cell (p := ⟨ba, oa + k * 2, none⟩) (by simp only; omega)).trans (p5 0 _ rfl)
        have a1 := (f1.cell (p := ⟨ba, oa + k * 2 + 1, none⟩) (by simp only; omega)).trans (p5 1 _ rfl)
        have gs1 := f1.size
        obtain ⟨g8, hg8⟩ : ∃ x, wr.heap.size = x := ⟨_, rfl⟩
        go_upto_region 6 with fail
        refine abs (fun xw => Blk xw g8 50 [.string (strB x.head), .slice A1 n1 c1] ∧ Below w.heap.size w xw) ⟨Blk.newAt hg8 _ #[.string (strB x.head), .slice A1 n1 c1], f1.alloc gs1 _⟩ ?_
        rintro v1 ⟨ka, f2⟩
        clear a0 a1 p5 gs1
        have b0 := (f2.cell (p := ⟨bb, ob + k * 2, none⟩) (by simp only; omega)).trans (q5 0 _ rfl)
        have b1 := (f2.cell (p := ⟨bb, ob + k * 2 + 1, none⟩) (by simp only; omega)).trans (q5 1 _ rfl)
        have gs2 := f2.size
        have lka := ka.lt
        obtain ⟨g9, hg9⟩ : ∃ x, v1.heap.size = x := ⟨_, rfl⟩
        clear hg8
        go_upto_region 7 with fail
        refine abs (fun xw => Blk xw g8 50 [.string (strB x.head), .slice A1 n1 c1] ∧ Blk xw g9 50 [.string (strB y.head), .slice D1 m1 d1] ∧ Below w.heap.size w xw) ⟨ka.alloc _, Blk.newAt hg9 _ #[.string (strB y.head), .slice D1 m1 d1], f2.alloc gs2 _⟩ ?_
        rintro v2 ⟨ka, kb, f3⟩
        clear b0 b1 q5 gs2 hg9 f2
        have e0 := ka.cell 0; have g0 := kb.cell 0
        have e1 := ka.cell 1; have g1 := kb.cell 1
        have hC := psWhen_any x y _ _ v2 (PX.out.mono f3.size f3) (PY.out.mono f3.size f3) okx oky
        go_wp2_with fail
        refine hC.mono ?_
        rintro e v3 ⟨rfl, f4⟩
        have f5 := f3.trans (f4.mono f3.size)
        clear e0 g0 e1 g1 hC f1 f3 f4
        by_cases he : x = y
        · rw [decide_eq_true he]
          have HE := Lib.hid he; clear he
          go_wp2_with fail
          go_roundw
          case rel => exact ⟨k + 1, by go_num, by omega, f5, take_next hkL hkM HEQ.out (by rw [HX.out, HY.out]; exact HE.out)⟩
          case measure => simp [intOf]; omega
        · rw [decide_eq_false he]
          obtain rfl : r = false := by
            rw [← HR.out, decide_eq_false_iff_not]
            exact take_not hkL hkM (by rw [HX.out, HY.out]; exact he)
          clear he
          go_wp2_with fail
          go_ret
          exact ⟨rfl, f5⟩
      · have d2 : decide ((k : Int) < (n : Int)) = false := by simp; omega
        obtain rfl : k = n := by omega
        obtain rfl : r = true := by
          rw [← HR.out, decide_eq_true_eq]
          exact take_end (by rw [HL.out, HK.out]) (by rw [HL.out]; exact HEQ.out)
        go_wp2_with fail
        go_ret
        exact ⟨rfl, f1⟩
  · have d0 : ((n : Int) == (m : Int)) = false := by simp; omega
    have d1 : ((n : Int) != (m : Int)) = true := by simp; omega
    have : r = false := by
      rw [← HR.out, decide_eq_false_iff_not]
      intro e
      have := HL.out; have := HK.out
      rw [e] at *
      omega
    subst this
    go_enter Tryz.func93, Tryz.ntmps93
    go_wp2_with fail
    go_ret
    exact ⟨rfl, Below.refl _ _⟩
set_option maxRecDepth 100000 in
set_option maxHeartbeats 4000000 in
theorem psRule_any (s u : Ru) (cs ds : List Value) (w : World) (h : RuP w w.heap.size cs s) (h' : RuP w w.heap.size ds u) (hok : okRu s) (hok' : okRu u) :
    Calls Tryz.prog 47 #[.agg cs.toArray, .agg ds.toArray] w fun e w' => e = .returned (.bool (decide (s = u))) ∧ Below w.heap.size w w' := by
  obtain ⟨A1, n1, c1, A2, n2, c2, A3, n3, c3, rfl, h1, h2, h3⟩ := vals_ru h
  obtain ⟨D1, m1, d1, D2, m2, d2, D3, m3, d3, rfl, k1, k2, k3⟩ := vals_ru h'
  obtain ⟨r, hr⟩ : ∃ r, decide (s = u) = r := ⟨_, rfl⟩
  rw [hr]
  have hn1 : n1 ≤ 1000000 := by rw [← h1.1]; exact hok.1.1
  have hm1 : m1 ≤ 1000000 := by rw [← k1.1]; exact hok'.1.1
  have hn2 : n2 ≤ 1000000 := by rw [← h2.1]; exact hok.2.1.1
  have hm2 : m2 ≤ 1000000 := by rw [← k2.1]; exact hok'.2.1.1
  have hn3 : n3 ≤ 1000000 := by rw [← h3.1]; exact hok.2.2.1
  have hm3 : m3 ≤ 1000000 := by rw [← k3.1]; exact hok'.2.2.1
  have eqs : s = u ↔ (s.froms = u.froms ∧ s.tos = u.tos ∧ s.whens = u.whens) := by cases s; cases u; simp
  have EQS := Lib.hid eqs; have HR := Lib.hid hr; clear eqs hr
  have H1 := Lib.hid h1; have K1 := Lib.hid k1; clear h1 k1
  have H2 := Lib.hid h2; have K2 := Lib.hid k2; clear h2 k2
  have H3 := Lib.hid h3; have K3 := Lib.hid k3; clear h3 k3
  have OK1 := Lib.hid hok; have OK2 := Lib.hid hok'; clear hok hok'
  show Calls Tryz.prog 47 #[.agg #[.slice A1 n1 c1, .slice A2 n2 c2, .slice A3 n3 c3], .agg #[.slice D1 m1 d1, .slice D2 m2 d2, .slice D3 m3 d3]] w _
  go_enter Tryz.func47, Tryz.ntmps47
  go_upto_region 1 with fail
  refine abs (fun x => Blk x w.heap.size 26 [.slice A1 n1 c1, .slice A2 n2 c2, .slice A3 n3 c3] ∧ Blk x (w.heap.size + 1) 26 [.slice D1 m1 d1, .slice D2 m2 d2, .slice D3 m3 d3] ∧ Below w.heap.size w x) ⟨(Blk.newAt rfl _ #[.slice A1 n1 c1, .slice A2 n2 c2, .slice A3 n3 c3]).alloc _, Blk.newAt (by simp) _ #[.slice D1 m1 d1, .slice D2 m2 d2, .slice D3 m3 d3], ((Below.refl _ _).alloc (Nat.le_refl _) _).alloc (by simp) _⟩ ?_
  rintro x0 ⟨ka, kb, f1⟩
  have a1 := ka.cell 0; have b1 := kb.cell 0
  go_wp2_with fail
  refine (eqfS_any A1 D1 n1 c1 m1 d1 _ _ x0 (H1.out.mono f1.size f1 (fun _ _ h => h.mono f1.size f1)) (K1.out.mono f1.size f1 (fun _ _ h => h.mono f1.size f1)) hn1 hm1 OK1.out.1.2 OK2.out.1.2).mono ?_
  rintro e x1 ⟨rfl, f2⟩
  replace ka := ka.below f2 ka.lt
  have lkb := kb.lt
  replace kb := kb.below f2 lkb
  replace f1 := f1.trans (f2.mono f1.size)
  clear f2 a1 b1 lkb
  by_cases he : s.froms = u.froms
  · have HE1 := Lib.hid he
    rw [decide_eq_true he]
    clear he
    have a2 := ka.cell 1; have b2 := kb.cell 1
    go_wp2_with fail
    refine (eqfT_any A2 D2 n2 c2 m2 d2 _ _ x1 (H2.out.mono f1.size f1 (fun _ _ h => h.mono f1.size f1)) (K2.out.mono f1.size f1 (fun _ _ h => h.mono f1.size f1)) hn2 hm2 OK1.out.2.1.2 OK2.out.2.1.2).mono ?_
    rintro e x2 ⟨rfl, f2⟩
    replace ka := ka.below f2 ka.lt
    have lkb := kb.lt
    replace kb := kb.below f2 lkb
    replace f1 := f1.trans (f2.mono f1.size)
    clear f2 a2 b2 lkb
    by_cases he : s.tos = u.tos
    · have HE2 := Lib.hid he
      rw [decide_eq_true he]
      clear he
      have a3 := ka.cell 2; have b3 := kb.cell 2
      go_wp2_with fail
      refine (eqfW_any A3 D3 n3 c3 m3 d3 _ _ x2 (H3.out.mono f1.size f1 (fun _ _ h => h.mono f1.size f1)) (K3.out.mono f1.size f1 (fun _ _ h => h.mono f1.size f1)) hn3 hm3 OK1.out.2.2.2 OK2.out.2.2.2).mono ?_
      rintro e x3 ⟨rfl, f2⟩
      replace ka := ka.below f2 ka.lt
      have lkb := kb.lt
      replace kb := kb.below f2 lkb
      replace f1 := f1.trans (f2.mono f1.size)
      clear f2 a3 b3 lkb
      by_cases he : s.whens = u.whens
      · have HE3 := Lib.hid he
        rw [decide_eq_true he]
        clear he
        obtain rfl : r = true := by rw [← HR.out, decide_eq_true_eq, EQS.out]; exact ⟨HE1.out, HE2.out, HE3.out⟩
        go_wp2_with fail
        go_ret
        exact ⟨rfl, f1⟩
      · have HE3 := Lib.hid he
        rw [decide_eq_false he]
        clear he
        obtain rfl : r = false := by rw [← HR.out, decide_eq_false_iff_not, EQS.out]; intro e; exact HE3.out e.2.2
        go_wp2_with fail
        go_ret
        exact ⟨rfl, f1⟩
    · have HE2 := Lib.hid he
      rw [decide_eq_false he]
      clear he
      obtain rfl : r = false := by rw [← HR.out, decide_eq_false_iff_not, EQS.out]; intro e; exact HE2.out e.2.1
      go_wp2_with fail
      go_ret
      exact ⟨rfl, f1⟩
  · have HE1 := Lib.hid he
    rw [decide_eq_false he]
    clear he
    obtain rfl : r = false := by rw [← HR.out, decide_eq_false_iff_not, EQS.out]; intro e; exact HE1.out e.1
    go_wp2_with fail
    go_ret
    exact ⟨rfl, f1⟩
set_option maxRecDepth 100000 in
set_option maxHeartbeats 4000000 in
theorem eqfR_any (A B : Option Addr) (n c m d : Nat) (L M : List Ru) (w : World) (hA : RdG 3 RuP w w.heap.size A n L) (hB : RdG 3 RuP w w.heap.size B m M) (hn : n ≤ 1000000) (hm : m ≤ 1000000) (okL : ∀ x ∈ L, okRu x) (okM : ∀ x ∈ M, okRu x) :
    Calls Tryz.prog 46 #[.slice A n c, .slice B m d, .func (.func 47) #[] #[]] w fun e w' => e = .returned (.bool (decide (L = M))) ∧ Below w.heap.size w w' := by
  have hl := hA.1
  have hk := hB.1
  have HL := Lib.hid hl; have HK := Lib.hid hk; have OKL := Lib.hid okL; have OKM := Lib.hid okM; clear hl hk okL okM
  obtain ⟨r, hr⟩ : ∃ r, decide (L = M) = r := ⟨_, rfl⟩
  rw [hr]
  have HR := Lib.hid hr; clear hr
  by_cases hnm : n = m
  · subst hnm
    have d0 : ((n : Int) == (n : Int)) = true := by simp
    have d1 : ((n : Int) != (n : Int)) = false := by simp
    go_enter Tryz.func46, Tryz.ntmps46
    go_wp2_with fail
    go_loopw [17] (fun i wr => ∃ k : Nat, i = .int .i64 k ∧ k ≤ n ∧ Below w.heap.size w wr ∧ L.take k = M.take k) (fun i _ => n - (intOf i).toNat)
    case atStart => exact ⟨0, rfl, Nat.zero_le _, Below.refl _ _, rfl⟩
    case round =>
      obtain ⟨k, rfl, hkn, f1, heq⟩ := hrel
      have HEQ := Lib.hid heq; clear heq
      by_cases hlt : k < n
      · have d2 : decide ((k : Int) < (n : Int)) = true := by simp; omega
        have b1 : (0 : Int) ≤ (k : Int) := by omega
        have b2 : (k : Int) < (n : Int) := by omega
        have hkL : k < L.length := by rw [HL.out]; exact hlt
        have hkM : k < M.length := by rw [HK.out]; exact hlt
        obtain ⟨ba, oa, ca, rfl, p2, p3, p4, p5⟩ := hA.at_ hlt
        obtain ⟨bb, ob, cb, rfl, q2, q3, q4, q5⟩ := hB.at_ hlt
        have okx := OKL.out _ (List.getElem_mem hkL)
        have oky := OKM.out _ (List.getElem_mem hkM)
        obtain ⟨x, hx⟩ : ∃ x, L[k]'hkL = x := ⟨_, rfl⟩
        obtain ⟨y, hy⟩ : ∃ y, M[k]'hkM = y := ⟨_, rfl⟩
        rw [hx] at p4 okx
        rw [hy] at q4 oky
        have HX := Lib.hid hx; have HY := Lib.hid hy; clear hx hy p3 q3
        have PX := Lib.hid p4; have PY := Lib.hid q4
        obtain ⟨A1, n1, c1, A2, n2, c2, A3, n3, c3, rfl, _, _, _⟩ := vals_ru p4
        obtain ⟨D1, m1, d1, D2, m2, d2, D3, m3, d3, rfl, _, _, _⟩ := vals_ru q4
        clear p4 q4
        have a0 := (f1.cell (p := ⟨ba, oa + k * 3, none⟩) (by simp only; omega)).trans (p5 0 _ rfl)
        have a1 := (f1.cell (p := ⟨ba, oa + k * 3 + 1, none⟩) (by simp only; omega)).trans (p5 1 _ rfl)
        have a2 := (f1.cell (p := ⟨ba, oa + k * 3 + 2, none⟩) (by simp only; omega)).trans (p5 2 _ rfl)
        have gs1 := f1.size
        obtain ⟨g8, hg8⟩ : ∃ x, wr.heap.size = x := ⟨_, rfl⟩
        go_upto_region 6 with fail
        refine abs (fun xw => Blk xw g8 26 [.slice A1 n1 c1, .slice A2 n2 c2, .slice A3 n3 c3] ∧ Below w.heap.size w xw) ⟨Blk.newAt hg8 _ #[.slice A1 n1 c1, .slice A2 n2 c2, .slice A3 n3 c3], f1.alloc gs1 _⟩ ?_
        rintro v1 ⟨ka, f2⟩
        clear a0 a1 a2 p5 gs1
        have b0 := (f2.cell (p := ⟨bb, ob + k * 3, none⟩) (by simp only; omega)).trans (q5 0 _ rfl)
        have b1 := (f2.cell (p := ⟨bb, ob + k * 3 + 1, none⟩) (by simp only; omega)).trans (q5 1 _ rfl)
        have b2 := (f2.cell (p := ⟨bb, ob + k * 3 + 2, none⟩) (by simp only; omega)).trans (q5 2 _ rfl)
        have gs2 := f2.size
        have lka := ka.lt
        obtain ⟨g9, hg9⟩ : ∃ x, v1.heap.size = x := ⟨_, rfl⟩
        clear hg8
        go_upto_region 7 with fail
        refine abs (fun xw => Blk xw g8 26 [.slice A1 n1 c1, .slice A2 n2 c2, .slice A3 n3 c3] ∧ Blk xw g9 26 [.slice D1 m1 d1, .slice D2 m2 d2, .slice D3 m3 d3] ∧ Below w.heap.size w xw) ⟨ka.alloc _, Blk.newAt hg9 _ #[.slice D1 m1 d1, .slice D2 m2 d2, .slice D3 m3 d3], f2.alloc gs2 _⟩ ?_
        rintro v2 ⟨ka, kb, f3⟩
        clear b0 b1 b2 q5 gs2 hg9 f2
        have e0 := ka.cell 0; have g0 := kb.cell 0
        have e1 := ka.cell 1; have g1 := kb.cell 1
        have e2 := ka.cell 2; have g2 := kb.cell 2
        have hC := psRule_any x y _ _ v2 (PX.out.mono f3.size f3) (PY.out.mono f3.size f3) okx oky
        go_wp2_with fail
        refine hC.mono ?_
        rintro e v3 ⟨rfl, f4⟩
        have f5 := f3.trans (f4.mono f3.size)
        clear e0 g0 e1 g1 e2 g2 hC f1 f3 f4
        by_cases he : x = y
        · rw [decide_eq_true he]
          have HE := Lib.hid he; clear he
          go_wp2_with fail
          go_roundw
          case rel => exact ⟨k + 1, by go_num, by omega, f5, take_next hkL hkM HEQ.out (by rw [HX.out, HY.out]; exact HE.out)⟩
          case measure => simp [intOf]; omega
        · rw [decide_eq_false he]
          obtain rfl : r = false := by
            rw [← HR.out, decide_eq_false_iff_not]
            exact take_not hkL hkM (by rw [HX.out, HY.out]; exact he)
          clear he
          go_wp2_with fail
          go_ret
          exact ⟨rfl, f5⟩
      · have d2 : decide ((k : Int) < (n : Int)) = false := by simp; omega
        obtain rfl : k = n := by omega
        obtain rfl : r = true := by
          rw [← HR.out, decide_eq_true_eq]
          exact take_end (by rw [HL.out, HK.out]) (by rw [HL.out]; exact HEQ.out)
        go_wp2_with fail
        go_ret
        exact ⟨rfl, f1⟩
  · have d0 : ((n : Int) == (m : Int)) = false := by simp; omega
    have d1 : ((n : Int) != (m : Int)) = true := by simp; omega
    have : r = false := by
      rw [← HR.out, decide_eq_false_iff_not]
      intro e
      have := HL.out; have := HK.out
      rw [e] at *
      omega
    subst this
    go_enter Tryz.func46, Tryz.ntmps46
    go_wp2_with fail
    go_ret
    exact ⟨rfl, Below.refl _ _⟩
theorem vals_po {w : World} {B : Nat} {cs : List Value} {x : Po} (h : PoP w B cs x) : ∃ A n c, cs = [.int .u64 (x.id : Int), .string (strB x.ns), .int .u64 (x.service : Int), .int .i64 x.deny, .slice A n c] ∧ RdG 3 RuP w B A n x.rules := by
  obtain ⟨_, rfl, ⟨A, n, c, rfl, _, _, h1⟩⟩ := h
  exact ⟨A, n, c, rfl, h1⟩
set_option maxRecDepth 100000 in
set_option maxHeartbeats 4000000 in
theorem psame12_any (s u : Po) (cs ds : List Value) (w : World) (h : PoP w w.heap.size cs s) (h' : PoP w w.heap.size ds u) (hok : okPo s) (hok' : okPo u) :
    Calls Tryz.prog 18 #[.agg cs.toArray, .agg ds.toArray] w fun e w' => e = .returned (.bool (decide (s = u))) ∧ Below w.heap.size w w' := by
  obtain ⟨A5, n5, c5, rfl, h5⟩ := vals_po h
  obtain ⟨D5, m5, d5, rfl, k5⟩ := vals_po h'
  obtain ⟨r, hr⟩ : ∃ r, decide (s = u) = r := ⟨_, rfl⟩
  rw [hr]
  have hn5 : n5 ≤ 1000000 := by rw [← h5.1]; exact hok.2.2.2.2.1
  have hm5 : m5 ≤ 1000000 := by rw [← k5.1]; exact hok'.2.2.2.2.1
  have hq2 := strB_beq s.ns u.ns
  have eqs : s = u ↔ (s.id = u.id ∧ s.ns = u.ns ∧ s.service = u.service ∧ s.deny = u.deny ∧ s.rules = u.rules) := by cases s; cases u; simp
  have EQS := Lib.hid eqs; have HR := Lib.hid hr; clear eqs hr
  have H5 := Lib.hid h5; have K5 := Lib.hid k5; clear h5 k5
  have OK1 := Lib.hid hok; have OK2 := Lib.hid hok'; clear hok hok'
  show Calls Tryz.prog 18 #[.agg #[.int .u64 (s.id : Int), .string (strB s.ns), .int .u64 (s.service : Int), .int .i64 s.deny, .slice A5 n5 c5], .agg #[.int .u64 (u.id : Int), .string (strB u.ns), .int .u64 (u.service : Int), .int .i64 u.deny, .slice D5 m5 d5]] w _
  generalize strB s.ns = sx at *
  generalize strB u.ns = sy at *
  go_enter Tryz.func18, Tryz.ntmps18
  go_upto_region 1 with fail
  refine abs (fun x => Blk x w.heap.size 38 [.int .u64 (s.id : Int), .string (sx), .int .u64 (s.service : Int), .int .i64 s.deny, .slice A5 n5 c5] ∧ Blk x (w.heap.size + 1) 38 [.int .u64 (u.id : Int), .string (sy), .int .u64 (u.service : Int), .int .i64 u.deny, .slice D5 m5 d5] ∧ Below w.heap.size w x) ⟨(Blk.newAt rfl _ #[.int .u64 (s.id : Int), .string (sx), .int .u64 (s.service : Int), .int .i64 s.deny, .slice A5 n5 c5]).alloc _, Blk.newAt (by simp) _ #[.int .u64 (u.id : Int), .string (sy), .int .u64 (u.service : Int), .int .i64 u.deny, .slice D5 m5 d5], ((Below.refl _ _).alloc (Nat.le_refl _) _).alloc (by simp) _⟩ ?_
  rintro x0 ⟨ka, kb, f1⟩
  have a1 := ka.cell 0; have b1 := kb.cell 0
  by_cases he : s.id = u.id
  · have HE1 := Lib.hid he
    have g1 : ((s.id : Int) == (u.id : Int)) = true := by simp [he]
    clear he
    have a2 := ka.cell 1; have b2 := kb.cell 1
    by_cases he : s.ns = u.ns
    · have HE2 := Lib.hid he
      rw [decide_eq_true he] at hq2
      clear he
      have a3 := ka.cell 2; have b3 := kb.cell 2
      by_cases he : s.service = u.service
      · have HE3 := Lib.hid he
        have g3 : ((s.service : Int) == (u.service : Int)) = true := by simp [he]
        clear he
        have a4 := ka.cell 3; have b4 := kb.cell 3
        by_cases he : s.deny = u.deny
        · have HE4 := Lib.hid he
          have g4 : ((s.deny : Int) == (u.deny : Int)) = true := by simp [he]
          clear he
          have a5 := ka.cell 4; have b5 := kb.cell 4
          go_wp2_with fail
          refine (eqfR_any A5 D5 n5 c5 m5 d5 _ _ x0 (H5.out.mono f1.size f1 (fun _ _ h => h.mono f1.size f1)) (K5.out.mono f1.size f1 (fun _ _ h => h.mono f1.size f1)) hn5 hm5 OK1.out.2.2.2.2.2 OK2.out.2.2.2.2.2).mono ?_
          rintro e x5 ⟨rfl, f2⟩
          replace ka := ka.below f2 ka.lt
          have lkb := kb.lt
          replace kb := kb.below f2 lkb
          replace f1 := f1.trans (f2.mono f1.size)
          clear f2 a5 b5 lkb
          by_cases he : s.rules = u.rules
          · have HE5 := Lib.hid he
            rw [decide_eq_true he]
            clear he
            obtain rfl : r = true := by rw [← HR.out, decide_eq_true_eq, EQS.out]; exact ⟨HE1.out, HE2.out, HE3.out, HE4.out, HE5.out⟩
            go_wp2_with fail
            go_ret
            exact ⟨rfl, f1⟩
          · have HE5 := Lib.hid he
            rw [decide_eq_false he]
            clear he
            obtain rfl : r = false := by rw [← HR.out, decide_eq_false_iff_not, EQS.out]; intro e; exact HE5.out e.2.2.2.2
            go_wp2_with fail
            go_ret
            exact ⟨rfl, f1⟩
        · have HE4 := Lib.hid he
          have g4 : ((s.deny : Int) == (u.deny : Int)) = false := by simp; omega
          clear he
          obtain rfl : r = false := by rw [← HR.out, decide_eq_false_iff_not, EQS.out]; intro e; exact HE4.out e.2.2.2.1
          go_wp2_with fail
          go_ret
          exact ⟨rfl, f1⟩
      · have HE3 := Lib.hid he
        have g3 : ((s.service : Int) == (u.service : Int)) = false := by simp; omega
        clear he
        obtain rfl : r = false := by rw [← HR.out, decide_eq_false_iff_not, EQS.out]; intro e; exact HE3.out e.2.2.1
        go_wp2_with fail
        go_ret
        exact ⟨rfl, f1⟩
    · have HE2 := Lib.hid he
      rw [decide_eq_false he] at hq2
      clear he
      obtain rfl : r = false := by rw [← HR.out, decide_eq_false_iff_not, EQS.out]; intro e; exact HE2.out e.2.1
      go_wp2_with fail
      go_ret
      exact ⟨rfl, f1⟩
  · have HE1 := Lib.hid he
    have g1 : ((s.id : Int) == (u.id : Int)) = false := by simp; omega
    clear he
    obtain rfl : r = false := by rw [← HR.out, decide_eq_false_iff_not, EQS.out]; intro e; exact HE1.out e.1
    go_wp2_with fail
    go_ret
    exact ⟨rfl, f1⟩
end Go.Proofs.YtdbjihpdfiipcaaGreat
