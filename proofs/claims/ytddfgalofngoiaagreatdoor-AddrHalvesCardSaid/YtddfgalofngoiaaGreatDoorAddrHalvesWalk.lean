/- The law AddrHalves, walked. Condition: the library's variables hold what they should. -/
import Derived.Test.YtddfgalofngoiaaGreatDoorAddrAwake
import Derived.Test.YtddfgalofngoiaaGreatDoorAddrH
import Derived.Test.YtddfgalofngoiaaGreatDoorAddrLaw
import Derived.Test.YtddfgalofngoiaaGreatDoorNetOpen
import Derived.Test.YtddfgalofngoiaaGreatDoorNetSame
import Derived.Test.YtddfgalofngoiaaGreatDoorFacts
import Derived.Deep.DeepCutAuto
namespace Go.Proofs.YtddfgalofngoiaaGreatDoor
open Go.RowKit Go.Sort
set_option linter.unusedVariables false
set_option linter.unusedSimpArgs false
def Bx2 (g a : Nat) (b : Int) (c : Nat) (d : Int) (u : World) : Prop := BxS g a b u ∧ BxS (g + 1) c d u
theorem Bx2.below {g a c : Nat} {b d : Int} {u v : World} (h : Bx2 g a b c d u) (hb : Below u.heap.size u v) : Bx2 g a b c d v := ⟨h.1.below hb, h.2.below hb⟩
theorem okN_half {c : Nt} (hm : nMay c = true) (h : c.2 < 32) (hc : okN c) : okN (nLow c) ∧ okN (nHigh c) := by
  obtain ⟨k, hk⟩ := half_of hm h
  have H := halved hm hk
  have h1 := hi_le H.mhigh (by rw [H.mid, H.hlow]; have := hi_le hm hc.1; rw [H.gap] at this; have := Nat.pow_pos (n := k) (show 0 < 2 by omega); omega)
  have h2 := nhi_gt (nHigh c)
  have h0 := ((nMay_iff c).1 hm).1
  refine ⟨⟨hc.1, ?_, ?_⟩, ⟨by omega, ?_, ?_⟩⟩
  all_goals
    first | (show _ ≤ c.2 + 1; omega) | (show c.2 + 1 ≤ _; omega)
theorem Blk.rdNet {w : World} {g : Nat} {L : List Nt} (k : Blk w g 29 (flatR ntC L)) : RdR ntC 2 w w.heap.size (some ⟨g, 0, none⟩) L.length L := by
  refine ⟨rfl, fun _ => ⟨g, 0, rfl, k.lt, fun j hj i v hv => ?_⟩⟩
  have hi : i < 2 := by have := (List.getElem?_eq_some_iff.1 hv).1; rwa [ntC_len] at this
  rw [Nat.zero_add, k.cell, flatR_at ntC_len L j hj i hi]
  exact hv
theorem OutS.rd {w : World} {base m c : Nat} {A : Option Addr} {Y : List Nt} (h : OutS w base A m c Y) : RdR ntC 2 w w.heap.size A m Y := by
  obtain ⟨h1, h2⟩ := h
  subst h1
  refine ⟨rfl, fun hn => ?_⟩
  rcases h2 with h2 | ⟨g, rfl, _, hr⟩
  · omega
  · refine ⟨g, 0, rfl, hr.lt, fun j hj i v hv => ?_⟩
    have hi : i < 2 := by have := (List.getElem?_eq_some_iff.1 hv).1; rwa [ntC_len] at this
    obtain ⟨c0, c1⟩ := hr.at_ hj
    rw [Nat.zero_add]
    rcases (show i = 0 ∨ i = 1 by omega) with rfl | rfl
    · rw [Nat.add_zero, c0]; exact hv
    · rw [c1]; exact hv
theorem merge_halves (a : Nat) (b : Int) (hc : okN (a, b)) (hm : nMay (a, b) = true) (hb : b < 32) (g : Nat) (w : World) (k : Blk w g 29 (flatR ntC [nLow (a, b), nHigh (a, b)])) :
    Calls Tryz.prog 9 #[.slice (some ⟨g, 0, none⟩) 2 2] w fun e w' => ∃ A c, e = .returned (.slice A 1 c) ∧ RdR ntC 2 w' w'.heap.size A 1 [(a, b)] ∧ Below w.heap.size w w' := by
  obtain ⟨o1, o2⟩ := okN_half hm hb hc
  refine (merge_any (some ⟨g, 0, none⟩) 2 2 [nLow (a, b), nHigh (a, b)] w k.rdNet (fun x hx => ?_) (by omega) (by omega)).mono ?_
  · simp only [List.mem_cons, List.mem_nil_iff, or_false] at hx
    rcases hx with rfl | rfl
    · exact o1
    · exact o2
  · rintro e w' ⟨A, m, c, Y, rfl, hO, hN, hh, _, _, hb'⟩
    obtain rfl := halves_merged hm hb hN hh
    have h1 : m = 1 := hO.1.symm
    subst h1
    exact ⟨A, c, rfl, hO.rd, hb'⟩
set_option maxRecDepth 100000 in
set_option maxHeartbeats 8000000 in
theorem addrHalves_no (w : World) (hW : LdW w) (a : Nat) (b : Int) (hc : okN (a, b)) (c : Nat) (d : Int) (hd : okN (c, d)) (hm : nMay (a, b) = false ∨ nMay (c, d) = false) :
    Calls Tryz.prog 7 #[ntV a b, ntV c d] w fun e w' => e = .returned (.bool true) ∧ Below w.heap.size w w' := by
  have hlt := hW.lt
  have hma := fun w => may_any a b w hc
  have hmb := fun w => may_any c d w hd
  have hcd := fun w => cov_any a b c d w hc hd
  have hdc := fun w => cov_any c d a b w hd hc
  obtain ⟨k1, k2⟩ := cov_no hm
  rw [k1] at hcd
  rw [k2] at hdc
  clear k1 k2
  generalize nMay (a, b) = ma at *
  generalize nMay (c, d) = mb at *
  unfold ntV at *
  go_enter Tryz.func7, Tryz.ntmps7
  go_upto_region 1 with fail
  refine abs (fun w1 => Bx2 w.heap.size a b c d w1 ∧ Below w.heap.size w w1) ⟨box_two w a b c d, ((Below.refl _ w).alloc (Nat.le_refl _) _).alloc (by simp) _⟩ ?_
  rintro w1 ⟨hS1, f1⟩
  have hS2 := hS1
  obtain ⟨⟨e0, e1⟩, e2, e3⟩ := hS2
  rcases ma with _ | _
  · clear hm
    go_wp2_with fail
    refine (hma _).mono ?_
    rintro _ w2 ⟨rfl, f9⟩
    replace hS1 := hS1.below f9.below
    replace f1 := f1.trans (f9.below.mono f1.size)
    clear e0 e1 e2 e3 f9
    have hS2 := hS1
    obtain ⟨⟨e0, e1⟩, e2, e3⟩ := hS2
    go_wp2_with fail
    refine (hcd _).mono ?_
    rintro _ w8 ⟨rfl, f9⟩
    replace hS1 := hS1.below f9.below
    replace f1 := f1.trans (f9.below.mono f1.size)
    clear e0 e1 e2 e3 f9
    have hS2 := hS1
    obtain ⟨⟨e0, e1⟩, e2, e3⟩ := hS2
    go_wp2_with fail
    refine (hdc _).mono ?_
    rintro _ w9 ⟨rfl, f9⟩
    replace hS1 := hS1.below f9.below
    replace f1 := f1.trans (f9.below.mono f1.size)
    clear e0 e1 e2 e3 f9
    have hS2 := hS1
    obtain ⟨⟨e0, e1⟩, e2, e3⟩ := hS2
    go_wp2_with fail
    refine (awake4_any _ (hW.below hlt f1)).mono ?_
    rintro e9 w9 ⟨rfl, f9⟩
    go_wp2_with fail
    go_ret
    exact ⟨rfl, f1.trans (f9.mono f1.size)⟩
  · obtain rfl : mb = false := by rcases hm with h | h <;> first | exact h | cases h
    clear hm
    go_wp2_with fail
    refine (hma _).mono ?_
    rintro _ w2 ⟨rfl, f9⟩
    replace hS1 := hS1.below f9.below
    replace f1 := f1.trans (f9.below.mono f1.size)
    clear e0 e1 e2 e3 f9
    have hS2 := hS1
    obtain ⟨⟨e0, e1⟩, e2, e3⟩ := hS2
    go_wp2_with fail
    refine (hmb _).mono ?_
    rintro _ w3 ⟨rfl, f9⟩
    replace hS1 := hS1.below f9.below
    replace f1 := f1.trans (f9.below.mono f1.size)
    clear e0 e1 e2 e3 f9
    have hS2 := hS1
    obtain ⟨⟨e0, e1⟩, e2, e3⟩ := hS2
    go_wp2_with fail
    refine (hcd _).mono ?_
    rintro _ w8 ⟨rfl, f9⟩
    replace hS1 := hS1.below f9.below
    replace f1 := f1.trans (f9.below.mono f1.size)
    clear e0 e1 e2 e3 f9
    have hS2 := hS1
    obtain ⟨⟨e0, e1⟩, e2, e3⟩ := hS2
    go_wp2_with fail
    refine (hdc _).mono ?_
    rintro _ w9 ⟨rfl, f9⟩
    replace hS1 := hS1.below f9.below
    replace f1 := f1.trans (f9.below.mono f1.size)
    clear e0 e1 e2 e3 f9
    have hS2 := hS1
    obtain ⟨⟨e0, e1⟩, e2, e3⟩ := hS2
    go_wp2_with fail
    refine (awake4_any _ (hW.below hlt f1)).mono ?_
    rintro e9 w9 ⟨rfl, f9⟩
    go_wp2_with fail
    go_ret
    exact ⟨rfl, f1.trans (f9.mono f1.size)⟩
set_option maxRecDepth 100000 in
set_option maxHeartbeats 8000000 in
theorem addrHalves_yes (w : World) (hW : LdW w) (a : Nat) (b : Int) (hc : okN (a, b)) (c : Nat) (d : Int) (hd : okN (c, d)) (hm : nMay (a, b) = true) (hn : nMay (c, d) = true) :
    Calls Tryz.prog 7 #[ntV a b, ntV c d] w fun e w' => e = .returned (.bool true) ∧ Below w.heap.size w w' := by
  have hlt := hW.lt
  have hma := fun w => may_any a b w hc
  have hmb := fun w => may_any c d w hd
  have hfa := fun w => first_any a b w hc
  have hfb := fun w => first_any c d w hd
  have hla := fun w => last_any a b w hc
  have hlb := fun w => last_any c d w hd
  have hcd := fun w => cov_any a b c d w hc hd
  have hdc := fun w => cov_any c d a b w hd hc
  have hno := fun w h => halves_no a b w hc (.inr h)
  have hyes := fun w => halves_yes a b w hc hm
  have hmg := fun h g w => merge_halves a b hc hm h g w
  rw [hm] at hma hfa hla
  rw [hn] at hmb hfb hlb
  simp only [if_true] at hfa hfb hla hlb
  have hmt := meet_iff hm hn
  simp only at hmt
  have hb32 : b ≤ 32 := ((nMay_iff (a, b)).1 hm).2.1
  have HMG := Lib.hid hmg; clear hmg
  generalize nhi (a, b) - 1 = y at *
  generalize nhi (c, d) - 1 = z at *
  generalize nCov (a, b) (c, d) = k1 at *
  generalize nCov (c, d) (a, b) = k2 at *
  have hmt' : decide (max (a : Int) (c : Int) ≤ min (y : Int) (z : Int)) = (k1 || k2) := by rw [← hmt, decide_eq_decide]; omega
  have HMT := Lib.hid hmt'
  clear hmt hmt' hm hn hc hd
  unfold ntV at *
  go_enter Tryz.func7, Tryz.ntmps7
  go_upto_region 1 with fail
  refine abs (fun w1 => Bx2 w.heap.size a b c d w1 ∧ Below w.heap.size w w1) ⟨box_two w a b c d, ((Below.refl _ w).alloc (Nat.le_refl _) _).alloc (by simp) _⟩ ?_
  rintro w1 ⟨hS1, f1⟩
  have hS2 := hS1
  obtain ⟨⟨e0, e1⟩, e2, e3⟩ := hS2
  go_wp2_with fail
  refine (hma _).mono ?_
  rintro _ w2 ⟨rfl, f9⟩
  replace hS1 := hS1.below f9.below
  replace f1 := f1.trans (f9.below.mono f1.size)
  clear e0 e1 e2 e3 f9
  have hS2 := hS1
  obtain ⟨⟨e0, e1⟩, e2, e3⟩ := hS2
  go_wp2_with fail
  refine (hmb _).mono ?_
  rintro _ w3 ⟨rfl, f9⟩
  replace hS1 := hS1.below f9.below
  replace f1 := f1.trans (f9.below.mono f1.size)
  clear e0 e1 e2 e3 f9
  have hS2 := hS1
  obtain ⟨⟨e0, e1⟩, e2, e3⟩ := hS2
  go_wp2_with fail
  refine (hfa _).mono ?_
  rintro _ w4 ⟨rfl, f9⟩
  replace hS1 := hS1.below f9.below
  replace f1 := f1.trans (f9.below.mono f1.size)
  clear e0 e1 e2 e3 f9
  have hS2 := hS1
  obtain ⟨⟨e0, e1⟩, e2, e3⟩ := hS2
  go_wp2_with fail
  refine (hfb _).mono ?_
  rintro _ w5 ⟨rfl, f9⟩
  replace hS1 := hS1.below f9.below
  replace f1 := f1.trans (f9.below.mono f1.size)
  clear e0 e1 e2 e3 f9
  have hS2 := hS1
  obtain ⟨⟨e0, e1⟩, e2, e3⟩ := hS2
  go_wp2_with fail
  refine (hla _).mono ?_
  rintro _ w6 ⟨rfl, f9⟩
  replace hS1 := hS1.below f9.below
  replace f1 := f1.trans (f9.below.mono f1.size)
  clear e0 e1 e2 e3 f9
  have hS2 := hS1
  obtain ⟨⟨e0, e1⟩, e2, e3⟩ := hS2
  go_wp2_with fail
  refine (hlb _).mono ?_
  rintro _ w7 ⟨rfl, f9⟩
  replace hS1 := hS1.below f9.below
  replace f1 := f1.trans (f9.below.mono f1.size)
  clear e0 e1 e2 e3 f9
  have hS2 := hS1
  obtain ⟨⟨e0, e1⟩, e2, e3⟩ := hS2
  go_upto_region 7 with fail
  go_cut [71] (fun v71 wx => v71 = .bool false ∧ Bx2 w.heap.size a b c d wx ∧ Below w.heap.size w wx)
  case first =>
    have hmt := HMT.out
    clear HMT
    rcases k1 with _ | _
    · rcases k2 with _ | _
      · simp only [Bool.or_false] at hmt
        go_wp2_with fail
        refine (hcd _).mono ?_
        rintro _ w8 ⟨rfl, f9⟩
        replace hS1 := hS1.below f9.below
        replace f1 := f1.trans (f9.below.mono f1.size)
        clear e0 e1 e2 e3 f9
        have hS2 := hS1
        obtain ⟨⟨e0, e1⟩, e2, e3⟩ := hS2
        go_wp2_with fail
        refine (hdc _).mono ?_
        rintro _ w9 ⟨rfl, f9⟩
        replace hS1 := hS1.below f9.below
        replace f1 := f1.trans (f9.below.mono f1.size)
        clear e0 e1 e2 e3 f9
        have hS2 := hS1
        obtain ⟨⟨e0, e1⟩, e2, e3⟩ := hS2
        go_wp2_with fail
        go_meet
        exact ⟨rfl, hS1, f1⟩
      · simp only [Bool.or_true] at hmt
        go_wp2_with fail
        refine (hcd _).mono ?_
        rintro _ w8 ⟨rfl, f9⟩
        replace hS1 := hS1.below f9.below
        replace f1 := f1.trans (f9.below.mono f1.size)
        clear e0 e1 e2 e3 f9
        have hS2 := hS1
        obtain ⟨⟨e0, e1⟩, e2, e3⟩ := hS2
        go_wp2_with fail
        refine (hdc _).mono ?_
        rintro _ w9 ⟨rfl, f9⟩
        replace hS1 := hS1.below f9.below
        replace f1 := f1.trans (f9.below.mono f1.size)
        clear e0 e1 e2 e3 f9
        have hS2 := hS1
        obtain ⟨⟨e0, e1⟩, e2, e3⟩ := hS2
        go_wp2_with fail
        go_meet
        exact ⟨rfl, hS1, f1⟩
    · simp only [Bool.true_or] at hmt
      go_wp2_with fail
      refine (hcd _).mono ?_
      rintro _ w8 ⟨rfl, f9⟩
      replace hS1 := hS1.below f9.below
      replace f1 := f1.trans (f9.below.mono f1.size)
      clear e0 e1 e2 e3 f9
      have hS2 := hS1
      obtain ⟨⟨e0, e1⟩, e2, e3⟩ := hS2
      go_wp2_with fail
      go_meet
      exact ⟨rfl, hS1, f1⟩
  case rest =>
    clear hS1 f1 e0 e1 e2 e3
    obtain ⟨rfl, hS1, f1⟩ := hcut
    have hS2 := hS1
    obtain ⟨⟨e0, e1⟩, e2, e3⟩ := hS2
    clear HMT
    by_cases h32 : b < 32
    · go_wp2_with fail
      refine (hyes _ h32).mono ?_
      rintro _ w8 ⟨g, rfl, hg, kg, f9⟩
      have lg := kg.lt
      replace hS1 := hS1.below f9
      replace f1 := f1.trans (f9.mono f1.size)
      clear e0 e1 e2 e3 f9 hg
      have hS2 := hS1
      obtain ⟨⟨e0, e1⟩, e2, e3⟩ := hS2
      have l0 := World.block_lt_of_cell? w8 _ e0
      have E0 := fun (u : World) (h : Below w8.heap.size w8 u) => (h.cell (p := ⟨w.heap.size, 0, none⟩) l0).trans e0
      have E1 := fun (u : World) (h : Below w8.heap.size w8 u) => (h.cell (p := ⟨w.heap.size, 1, none⟩) l0).trans e1
      have d32 : decide (b < 32) = true := by simp; omega
      go_upto_region 10 with fail
      refine wp_region_facts (fun u => Below w8.heap.size w8 u) [
          fun v _ => v = .bool true,
          fun v _ => v = .pointer (some ⟨w.heap.size, 1, none⟩),
          fun v _ => v = .int .i64 b,
          fun v _ => v = .bool true,
          fun v _ => v = .bool true,
          fun v _ => v = .bool true,
          fun v _ => v = .bool true,
          fun v _ => v = .bool false,
          fun v _ => v = .bool false,
          fun v _ => v = .slice (some ⟨g, 0, none⟩) 2 2,
          fun v u => ∃ A c', v = .slice A 1 c' ∧ RdR ntC 2 u u.heap.size A 1 [(a, b)],
          fun v _ => v = .agg #[.int .u32 (a : Int), .int .i64 b],
          fun v u => ∃ h, v = .slice (some ⟨h, 0, none⟩) 1 1 ∧ RdR ntC 2 u u.heap.size (some ⟨h, 0, none⟩) 1 [(a, b)],
          fun v _ => v = .bool true,
          fun v _ => v = .bool true,
          fun v _ => v = .bool true,
          fun v _ => v = .bool true,
          fun v _ => v = .bool true,
          fun v _ => v = .bool true,
          fun v _ => v = .bool true] (fun u u' => Below u.heap.size u u')
          [[], [], [1], [2], [0, 3], [4], [5], [5, 6], [5, 7], [8], [8, 9], [8], [8, 11], [8, 10, 12], [5, 8, 13], [5, 14], [15], [16], [16, 17], [18]] []
          (by kernel_rfl) (by kernel_rfl) ?_ (fun _ _ _ _ _ h => h) ((Below.refl _ _).drew) ?_ ?_
      · refine hE_of (fun u u' h f => f.trans (h.mono f.size)) ?_
        repeat' (first | exact mono_nil | refine mono_cons (fun v u u' h => ?_) ?_)
        all_goals first | exact _root_.id | (rintro ⟨A, c', e, r⟩; exact ⟨A, c', e, (r.below h).more h.size⟩) | (rintro ⟨g', e, r⟩; exact ⟨g', e, (r.below h).more h.size⟩)
      ·
        refine owed_cons (fun vs u hS hD N => ?_) ?_
        · clear hD
          intro hN
          simp only [fact, layAt, depOn, dstOf, List.map_cons, List.map_nil, List.foldl_cons, List.foldl_nil, List.getD_cons_zero, List.getD_cons_succ, List.getElem?_cons_zero, List.getElem?_cons_succ, Option.bind_some] at hN ⊢
          go_simp
          have hh := hN _ _ rfl (.inl (Below.refl _ _))
          revert hh
          go_simp
        refine owed_cons (fun vs u hS hD N => ?_) ?_
        · clear hD
          intro hN
          simp only [fact, layAt, depOn, dstOf, List.map_cons, List.map_nil, List.foldl_cons, List.foldl_nil, List.getD_cons_zero, List.getD_cons_succ, List.getElem?_cons_zero, List.getElem?_cons_succ, Option.bind_some] at hN ⊢
          go_simp
          have hh := hN _ _ rfl (.inl (Below.refl _ _))
          revert hh
          go_simp
        refine owed_cons (fun vs u hS hD N => ?_) ?_
        · have d1 := hD 1 (by decide)
          simp only [fact, layAt, depOn, dstOf, List.map_cons, List.map_nil, List.foldl_cons, List.foldl_nil, List.getD_cons_zero, List.getD_cons_succ, List.getElem?_cons_zero, List.getElem?_cons_succ, Option.bind_some] at d1
          clear hD
          intro hN
          simp only [fact, layAt, depOn, dstOf, List.map_cons, List.map_nil, List.foldl_cons, List.foldl_nil, List.getD_cons_zero, List.getD_cons_succ, List.getElem?_cons_zero, List.getElem?_cons_succ, Option.bind_some, d1] at hN ⊢
          go_simp
          have e1 := E1 _ hS
          go_simp
          have hh := hN _ _ rfl (.inl (Below.refl _ _))
          revert hh
          go_simp
        refine owed_cons (fun vs u hS hD N => ?_) ?_
        · have d2 := hD 2 (by decide)
          simp only [fact, layAt, depOn, dstOf, List.map_cons, List.map_nil, List.foldl_cons, List.foldl_nil, List.getD_cons_zero, List.getD_cons_succ, List.getElem?_cons_zero, List.getElem?_cons_succ, Option.bind_some] at d2
          clear hD
          intro hN
          simp only [fact, layAt, depOn, dstOf, List.map_cons, List.map_nil, List.foldl_cons, List.foldl_nil, List.getD_cons_zero, List.getD_cons_succ, List.getElem?_cons_zero, List.getElem?_cons_succ, Option.bind_some, d2] at hN ⊢
          go_simp
          have hh := hN _ _ rfl (.inl (Below.refl _ _))
          revert hh
          go_simp
        refine owed_cons (fun vs u hS hD N => ?_) ?_
        · have d0 := hD 0 (by decide)
          simp only [fact, layAt, depOn, dstOf, List.map_cons, List.map_nil, List.foldl_cons, List.foldl_nil, List.getD_cons_zero, List.getD_cons_succ, List.getElem?_cons_zero, List.getElem?_cons_succ, Option.bind_some] at d0
          have d3 := hD 3 (by decide)
          simp only [fact, layAt, depOn, dstOf, List.map_cons, List.map_nil, List.foldl_cons, List.foldl_nil, List.getD_cons_zero, List.getD_cons_succ, List.getElem?_cons_zero, List.getElem?_cons_succ, Option.bind_some] at d3
          clear hD
          intro hN
          simp only [fact, layAt, depOn, dstOf, List.map_cons, List.map_nil, List.foldl_cons, List.foldl_nil, List.getD_cons_zero, List.getD_cons_succ, List.getElem?_cons_zero, List.getElem?_cons_succ, Option.bind_some, d0, d3] at hN ⊢
          go_simp
          have hh := hN _ _ rfl (.inl (Below.refl _ _))
          revert hh
          go_simp
        refine owed_cons (fun vs u hS hD N => ?_) ?_
        · have d4 := hD 4 (by decide)
          simp only [fact, layAt, depOn, dstOf, List.map_cons, List.map_nil, List.foldl_cons, List.foldl_nil, List.getD_cons_zero, List.getD_cons_succ, List.getElem?_cons_zero, List.getElem?_cons_succ, Option.bind_some] at d4
          clear hD
          intro hN
          simp only [fact, layAt, depOn, dstOf, List.map_cons, List.map_nil, List.foldl_cons, List.foldl_nil, List.getD_cons_zero, List.getD_cons_succ, List.getElem?_cons_zero, List.getElem?_cons_succ, Option.bind_some, d4] at hN ⊢
          go_simp
          have hh := hN _ _ rfl (.inl (Below.refl _ _))
          revert hh
          go_simp
        refine owed_cons (fun vs u hS hD N => ?_) ?_
        · have d5 := hD 5 (by decide)
          simp only [fact, layAt, depOn, dstOf, List.map_cons, List.map_nil, List.foldl_cons, List.foldl_nil, List.getD_cons_zero, List.getD_cons_succ, List.getElem?_cons_zero, List.getElem?_cons_succ, Option.bind_some] at d5
          clear hD
          intro hN
          simp only [fact, layAt, depOn, dstOf, List.map_cons, List.map_nil, List.foldl_cons, List.foldl_nil, List.getD_cons_zero, List.getD_cons_succ, List.getElem?_cons_zero, List.getElem?_cons_succ, Option.bind_some, d5] at hN ⊢
          go_simp
          have hh := hN _ _ rfl (.inl (Below.refl _ _))
          revert hh
          go_simp
        refine owed_cons (fun vs u hS hD N => ?_) ?_
        · have d5 := hD 5 (by decide)
          simp only [fact, layAt, depOn, dstOf, List.map_cons, List.map_nil, List.foldl_cons, List.foldl_nil, List.getD_cons_zero, List.getD_cons_succ, List.getElem?_cons_zero, List.getElem?_cons_succ, Option.bind_some] at d5
          have d6 := hD 6 (by decide)
          simp only [fact, layAt, depOn, dstOf, List.map_cons, List.map_nil, List.foldl_cons, List.foldl_nil, List.getD_cons_zero, List.getD_cons_succ, List.getElem?_cons_zero, List.getElem?_cons_succ, Option.bind_some] at d6
          clear hD
          intro hN
          simp only [fact, layAt, depOn, dstOf, List.map_cons, List.map_nil, List.foldl_cons, List.foldl_nil, List.getD_cons_zero, List.getD_cons_succ, List.getElem?_cons_zero, List.getElem?_cons_succ, Option.bind_some, d5, d6] at hN ⊢
          go_simp
          have hh := hN _ _ rfl (.inl (Below.refl _ _))
          revert hh
          go_simp
        refine owed_cons (fun vs u hS hD N => ?_) ?_
        · have d5 := hD 5 (by decide)
          simp only [fact, layAt, depOn, dstOf, List.map_cons, List.map_nil, List.foldl_cons, List.foldl_nil, List.getD_cons_zero, List.getD_cons_succ, List.getElem?_cons_zero, List.getElem?_cons_succ, Option.bind_some] at d5
          have d7 := hD 7 (by decide)
          simp only [fact, layAt, depOn, dstOf, List.map_cons, List.map_nil, List.foldl_cons, List.foldl_nil, List.getD_cons_zero, List.getD_cons_succ, List.getElem?_cons_zero, List.getElem?_cons_succ, Option.bind_some] at d7
          clear hD
          intro hN
          simp only [fact, layAt, depOn, dstOf, List.map_cons, List.map_nil, List.foldl_cons, List.foldl_nil, List.getD_cons_zero, List.getD_cons_succ, List.getElem?_cons_zero, List.getElem?_cons_succ, Option.bind_some, d5, d7] at hN ⊢
          go_simp
          have hh := hN _ _ rfl (.inl (Below.refl _ _))
          revert hh
          go_simp
        refine owed_cons (fun vs u hS hD N => ?_) ?_
        · have d8 := hD 8 (by decide)
          simp only [fact, layAt, depOn, dstOf, List.map_cons, List.map_nil, List.foldl_cons, List.foldl_nil, List.getD_cons_zero, List.getD_cons_succ, List.getElem?_cons_zero, List.getElem?_cons_succ, Option.bind_some] at d8
          clear hD
          intro hN
          simp only [fact, layAt, depOn, dstOf, List.map_cons, List.map_nil, List.foldl_cons, List.foldl_nil, List.getD_cons_zero, List.getD_cons_succ, List.getElem?_cons_zero, List.getElem?_cons_succ, Option.bind_some, d8] at hN ⊢
          go_simp
          have hh := hN _ _ rfl (.inl (Below.refl _ _))
          revert hh
          go_simp
        refine owed_cons (fun vs u hS hD N => ?_) ?_
        · have d8 := hD 8 (by decide)
          simp only [fact, layAt, depOn, dstOf, List.map_cons, List.map_nil, List.foldl_cons, List.foldl_nil, List.getD_cons_zero, List.getD_cons_succ, List.getElem?_cons_zero, List.getElem?_cons_succ, Option.bind_some] at d8
          have d9 := hD 9 (by decide)
          simp only [fact, layAt, depOn, dstOf, List.map_cons, List.map_nil, List.foldl_cons, List.foldl_nil, List.getD_cons_zero, List.getD_cons_succ, List.getElem?_cons_zero, List.getElem?_cons_succ, Option.bind_some] at d9
          clear hD
          intro hN
          simp only [fact, layAt, depOn, dstOf, List.map_cons, List.map_nil, List.foldl_cons, List.foldl_nil, List.getD_cons_zero, List.getD_cons_succ, List.getElem?_cons_zero, List.getElem?_cons_succ, Option.bind_some, d8, d9] at hN ⊢
          go_simp
          refine (HMG.out h32 g u (kg.below hS lg)).mono ?_
          rintro e u' ⟨A, c', rfl, r, f⟩
          exact hN _ _ ⟨A, c', rfl, r⟩ (.inl f)
        refine owed_cons (fun vs u hS hD N => ?_) ?_
        · have d8 := hD 8 (by decide)
          simp only [fact, layAt, depOn, dstOf, List.map_cons, List.map_nil, List.foldl_cons, List.foldl_nil, List.getD_cons_zero, List.getD_cons_succ, List.getElem?_cons_zero, List.getElem?_cons_succ, Option.bind_some] at d8
          clear hD
          intro hN
          simp only [fact, layAt, depOn, dstOf, List.map_cons, List.map_nil, List.foldl_cons, List.foldl_nil, List.getD_cons_zero, List.getD_cons_succ, List.getElem?_cons_zero, List.getElem?_cons_succ, Option.bind_some, d8] at hN ⊢
          go_simp
          have e0 := E0 _ hS
          have e1 := E1 _ hS
          go_simp
          have hh := hN _ _ rfl (.inl (Below.refl _ _))
          revert hh
          go_simp
        refine owed_cons (fun vs u hS hD N => ?_) ?_
        · have d8 := hD 8 (by decide)
          simp only [fact, layAt, depOn, dstOf, List.map_cons, List.map_nil, List.foldl_cons, List.foldl_nil, List.getD_cons_zero, List.getD_cons_succ, List.getElem?_cons_zero, List.getElem?_cons_succ, Option.bind_some] at d8
          have d11 := hD 11 (by decide)
          simp only [fact, layAt, depOn, dstOf, List.map_cons, List.map_nil, List.foldl_cons, List.foldl_nil, List.getD_cons_zero, List.getD_cons_succ, List.getElem?_cons_zero, List.getElem?_cons_succ, Option.bind_some] at d11
          clear hD
          intro hN
          simp only [fact, layAt, depOn, dstOf, List.map_cons, List.map_nil, List.foldl_cons, List.foldl_nil, List.getD_cons_zero, List.getD_cons_succ, List.getElem?_cons_zero, List.getElem?_cons_succ, Option.bind_some, d8, d11] at hN ⊢
          go_simp
          have kb : Blk (u.alloc (.cells #[.int .u32 (a : Int), .int .i64 b] 29)) u.heap.size 29 (flatR ntC [(a, b)]) := Blk.newAt rfl _ _
          exact hN _ _ ⟨u.heap.size, rfl, kb.rdNet⟩ (.inl ((Below.refl _ _).alloc (Nat.le_refl _) _))
        refine owed_cons (fun vs u hS hD N => ?_) ?_
        · have d8 := hD 8 (by decide)
          simp only [fact, layAt, depOn, dstOf, List.map_cons, List.map_nil, List.foldl_cons, List.foldl_nil, List.getD_cons_zero, List.getD_cons_succ, List.getElem?_cons_zero, List.getElem?_cons_succ, Option.bind_some] at d8
          have d10 := hD 10 (by decide)
          simp only [fact, layAt, depOn, dstOf, List.map_cons, List.map_nil, List.foldl_cons, List.foldl_nil, List.getD_cons_zero, List.getD_cons_succ, List.getElem?_cons_zero, List.getElem?_cons_succ, Option.bind_some] at d10
          obtain ⟨A, c', e10, rA⟩ := d10
          have d12 := hD 12 (by decide)
          simp only [fact, layAt, depOn, dstOf, List.map_cons, List.map_nil, List.foldl_cons, List.foldl_nil, List.getD_cons_zero, List.getD_cons_succ, List.getElem?_cons_zero, List.getElem?_cons_succ, Option.bind_some] at d12
          obtain ⟨h, e12, rB⟩ := d12
          clear hD
          intro hN
          simp only [fact, layAt, depOn, dstOf, List.map_cons, List.map_nil, List.foldl_cons, List.foldl_nil, List.getD_cons_zero, List.getD_cons_succ, List.getElem?_cons_zero, List.getElem?_cons_succ, Option.bind_some, d8, e10, e12] at hN ⊢
          go_simp
          refine (same_any _ _ 1 _ 1 1 [(a, b)] [(a, b)] u rA rB (by omega) (by omega)).mono ?_
          rintro e u' ⟨rfl, q, rfl⟩
          rw [decide_eq_true rfl]
          exact hN _ _ rfl (.inl (belowN (Below.refl _ _) q))
        refine owed_cons (fun vs u hS hD N => ?_) ?_
        · have d5 := hD 5 (by decide)
          simp only [fact, layAt, depOn, dstOf, List.map_cons, List.map_nil, List.foldl_cons, List.foldl_nil, List.getD_cons_zero, List.getD_cons_succ, List.getElem?_cons_zero, List.getElem?_cons_succ, Option.bind_some] at d5
          have d8 := hD 8 (by decide)
          simp only [fact, layAt, depOn, dstOf, List.map_cons, List.map_nil, List.foldl_cons, List.foldl_nil, List.getD_cons_zero, List.getD_cons_succ, List.getElem?_cons_zero, List.getElem?_cons_succ, Option.bind_some] at d8
          have d13 := hD 13 (by decide)
          simp only [fact, layAt, depOn, dstOf, List.map_cons, List.map_nil, List.foldl_cons, List.foldl_nil, List.getD_cons_zero, List.getD_cons_succ, List.getElem?_cons_zero, List.getElem?_cons_succ, Option.bind_some] at d13
          clear hD
          intro hN
          simp only [fact, layAt, depOn, dstOf, List.map_cons, List.map_nil, List.foldl_cons, List.foldl_nil, List.getD_cons_zero, List.getD_cons_succ, List.getElem?_cons_zero, List.getElem?_cons_succ, Option.bind_some, d5, d8, d13] at hN ⊢
          go_simp
          have hh := hN _ _ rfl (.inl (Below.refl _ _))
          revert hh
          go_simp
        refine owed_cons (fun vs u hS hD N => ?_) ?_
        · have d5 := hD 5 (by decide)
          simp only [fact, layAt, depOn, dstOf, List.map_cons, List.map_nil, List.foldl_cons, List.foldl_nil, List.getD_cons_zero, List.getD_cons_succ, List.getElem?_cons_zero, List.getElem?_cons_succ, Option.bind_some] at d5
          have d14 := hD 14 (by decide)
          simp only [fact, layAt, depOn, dstOf, List.map_cons, List.map_nil, List.foldl_cons, List.foldl_nil, List.getD_cons_zero, List.getD_cons_succ, List.getElem?_cons_zero, List.getElem?_cons_succ, Option.bind_some] at d14
          clear hD
          intro hN
          simp only [fact, layAt, depOn, dstOf, List.map_cons, List.map_nil, List.foldl_cons, List.foldl_nil, List.getD_cons_zero, List.getD_cons_succ, List.getElem?_cons_zero, List.getElem?_cons_succ, Option.bind_some, d5, d14] at hN ⊢
          go_simp
          have hh := hN _ _ rfl (.inl (Below.refl _ _))
          revert hh
          go_simp
        refine owed_cons (fun vs u hS hD N => ?_) ?_
        · have d15 := hD 15 (by decide)
          simp only [fact, layAt, depOn, dstOf, List.map_cons, List.map_nil, List.foldl_cons, List.foldl_nil, List.getD_cons_zero, List.getD_cons_succ, List.getElem?_cons_zero, List.getElem?_cons_succ, Option.bind_some] at d15
          clear hD
          intro hN
          simp only [fact, layAt, depOn, dstOf, List.map_cons, List.map_nil, List.foldl_cons, List.foldl_nil, List.getD_cons_zero, List.getD_cons_succ, List.getElem?_cons_zero, List.getElem?_cons_succ, Option.bind_some, d15] at hN ⊢
          go_simp
          have hh := hN _ _ rfl (.inl (Below.refl _ _))
          revert hh
          go_simp
        refine owed_cons (fun vs u hS hD N => ?_) ?_
        · have d16 := hD 16 (by decide)
          simp only [fact, layAt, depOn, dstOf, List.map_cons, List.map_nil, List.foldl_cons, List.foldl_nil, List.getD_cons_zero, List.getD_cons_succ, List.getElem?_cons_zero, List.getElem?_cons_succ, Option.bind_some] at d16
          clear hD
          intro hN
          simp only [fact, layAt, depOn, dstOf, List.map_cons, List.map_nil, List.foldl_cons, List.foldl_nil, List.getD_cons_zero, List.getD_cons_succ, List.getElem?_cons_zero, List.getElem?_cons_succ, Option.bind_some, d16] at hN ⊢
          go_simp
          refine (awake4_any u ((hW.below hlt f1).below (Nat.lt_of_lt_of_le hlt f1.size) hS)).mono ?_
          rintro e u' ⟨rfl, f⟩
          have hh := hN _ _ rfl (.inl f)
          revert hh
          go_simp
        refine owed_cons (fun vs u hS hD N => ?_) ?_
        · have d16 := hD 16 (by decide)
          simp only [fact, layAt, depOn, dstOf, List.map_cons, List.map_nil, List.foldl_cons, List.foldl_nil, List.getD_cons_zero, List.getD_cons_succ, List.getElem?_cons_zero, List.getElem?_cons_succ, Option.bind_some] at d16
          have d17 := hD 17 (by decide)
          simp only [fact, layAt, depOn, dstOf, List.map_cons, List.map_nil, List.foldl_cons, List.foldl_nil, List.getD_cons_zero, List.getD_cons_succ, List.getElem?_cons_zero, List.getElem?_cons_succ, Option.bind_some] at d17
          clear hD
          intro hN
          simp only [fact, layAt, depOn, dstOf, List.map_cons, List.map_nil, List.foldl_cons, List.foldl_nil, List.getD_cons_zero, List.getD_cons_succ, List.getElem?_cons_zero, List.getElem?_cons_succ, Option.bind_some, d16, d17] at hN ⊢
          go_simp
          have hh := hN _ _ rfl (.inl (Below.refl _ _))
          revert hh
          go_simp
        refine owed_cons (fun vs u hS hD N => ?_) ?_
        · have d18 := hD 18 (by decide)
          simp only [fact, layAt, depOn, dstOf, List.map_cons, List.map_nil, List.foldl_cons, List.foldl_nil, List.getD_cons_zero, List.getD_cons_succ, List.getElem?_cons_zero, List.getElem?_cons_succ, Option.bind_some] at d18
          clear hD
          intro hN
          simp only [fact, layAt, depOn, dstOf, List.map_cons, List.map_nil, List.foldl_cons, List.foldl_nil, List.getD_cons_zero, List.getD_cons_succ, List.getElem?_cons_zero, List.getElem?_cons_succ, Option.bind_some, d18] at hN ⊢
          go_simp
          have hh := hN _ _ rfl (.inl (Below.refl _ _))
          revert hh
          go_simp
        exact owed_nil
      ·
        intro vs u hS hF
        have d19 := hF 19 (by decide) (by decide)
        simp only [fact, layAt, depOn, dstOf, List.map_cons, List.map_nil, List.foldl_cons, List.foldl_nil, List.getD_cons_zero, List.getD_cons_succ, List.getElem?_cons_zero, List.getElem?_cons_succ, Option.bind_some] at d19
        clear hF
        simp only [List.length_cons, List.length_nil, Nat.reduceAdd, List.range, List.range.loop, fact, layAt, depOn, dstOf, List.map_cons, List.map_nil, List.foldl_cons, List.foldl_nil, List.getD_cons_zero, List.getD_cons_succ, List.getElem?_cons_zero, List.getElem?_cons_succ, Option.bind_some, d19]
        go_simp
        go_wp2_with fail
        go_ret
        exact ⟨rfl, f1.trans (hS.mono f1.size)⟩
    · have d32 : decide (b < 32) = false := by simp; omega
      replace hno := fun w => hno w (by omega)
      go_wp2_with fail
      refine (hno _).mono ?_
      rintro _ w8 ⟨rfl, f9⟩
      replace hS1 := hS1.below f9
      replace f1 := f1.trans (f9.mono f1.size)
      clear e0 e1 e2 e3 f9
      have hS2 := hS1
      obtain ⟨⟨e0, e1⟩, e2, e3⟩ := hS2
      have l0 := World.block_lt_of_cell? w8 _ e0
      have E0 := fun (u : World) (h : Below w8.heap.size w8 u) => (h.cell (p := ⟨w.heap.size, 0, none⟩) l0).trans e0
      have E1 := fun (u : World) (h : Below w8.heap.size w8 u) => (h.cell (p := ⟨w.heap.size, 1, none⟩) l0).trans e1
      go_upto_region 10 with fail
      refine wp_region_facts (fun u => Below w8.heap.size w8 u) [
          fun v _ => v = .bool false,
          fun v _ => v = .pointer (some ⟨w.heap.size, 1, none⟩),
          fun v _ => v = .int .i64 b,
          fun v _ => v = .bool false,
          fun v _ => v = .bool true,
          fun v _ => v = .bool true,
          fun v _ => v = .bool false,
          fun v _ => v = .bool true,
          fun v _ => v = .bool true,
          fun v _ => v = undef,
          fun v _ => v = undef,
          fun v _ => v = undef,
          fun v _ => v = undef,
          fun v _ => v = undef,
          fun v _ => v = .bool true,
          fun v _ => v = .bool true,
          fun v _ => v = .bool true,
          fun v _ => v = .bool true,
          fun v _ => v = .bool true,
          fun v _ => v = .bool true] (fun u u' => Below u.heap.size u u')
          [[], [], [1], [2], [0, 3], [4], [5], [5, 6], [5, 7], [8], [8, 9], [8], [8, 11], [8, 10, 12], [5, 8, 13], [5, 14], [15], [16], [16, 17], [18]] []
          (by kernel_rfl) (by kernel_rfl) ?_ (fun _ _ _ _ _ h => h) ((Below.refl _ _).drew) ?_ ?_
      · refine hE_of (fun u u' h f => f.trans (h.mono f.size)) ?_
        repeat' (first | exact mono_nil | refine mono_cons (fun v u u' h => ?_) ?_)
        all_goals first | exact _root_.id | (rintro ⟨A, c', e, r⟩; exact ⟨A, c', e, (r.below h).more h.size⟩) | (rintro ⟨g', e, r⟩; exact ⟨g', e, (r.below h).more h.size⟩)
      ·
        refine owed_cons (fun vs u hS hD N => ?_) ?_
        · clear hD
          intro hN
          simp only [fact, layAt, depOn, dstOf, List.map_cons, List.map_nil, List.foldl_cons, List.foldl_nil, List.getD_cons_zero, List.getD_cons_succ, List.getElem?_cons_zero, List.getElem?_cons_succ, Option.bind_some] at hN ⊢
          go_simp
          have hh := hN _ _ rfl (.inl (Below.refl _ _))
          revert hh
          go_simp
        refine owed_cons (fun vs u hS hD N => ?_) ?_
        · clear hD
          intro hN
          simp only [fact, layAt, depOn, dstOf, List.map_cons, List.map_nil, List.foldl_cons, List.foldl_nil, List.getD_cons_zero, List.getD_cons_succ, List.getElem?_cons_zero, List.getElem?_cons_succ, Option.bind_some] at hN ⊢
          go_simp
          have hh := hN _ _ rfl (.inl (Below.refl _ _))
          revert hh
          go_simp
        refine owed_cons (fun vs u hS hD N => ?_) ?_
        · have d1 := hD 1 (by decide)
          simp only [fact, layAt, depOn, dstOf, List.map_cons, List.map_nil, List.foldl_cons, List.foldl_nil, List.getD_cons_zero, List.getD_cons_succ, List.getElem?_cons_zero, List.getElem?_cons_succ, Option.bind_some] at d1
          clear hD
          intro hN
          simp only [fact, layAt, depOn, dstOf, List.map_cons, List.map_nil, List.foldl_cons, List.foldl_nil, List.getD_cons_zero, List.getD_cons_succ, List.getElem?_cons_zero, List.getElem?_cons_succ, Option.bind_some, d1] at hN ⊢
          go_simp
          have e1 := E1 _ hS
          go_simp
          have hh := hN _ _ rfl (.inl (Below.refl _ _))
          revert hh
          go_simp
        refine owed_cons (fun vs u hS hD N => ?_) ?_
        · have d2 := hD 2 (by decide)
          simp only [fact, layAt, depOn, dstOf, List.map_cons, List.map_nil, List.foldl_cons, List.foldl_nil, List.getD_cons_zero, List.getD_cons_succ, List.getElem?_cons_zero, List.getElem?_cons_succ, Option.bind_some] at d2
          clear hD
          intro hN
          simp only [fact, layAt, depOn, dstOf, List.map_cons, List.map_nil, List.foldl_cons, List.foldl_nil, List.getD_cons_zero, List.getD_cons_succ, List.getElem?_cons_zero, List.getElem?_cons_succ, Option.bind_some, d2] at hN ⊢
          go_simp
          have hh := hN _ _ rfl (.inl (Below.refl _ _))
          revert hh
          go_simp
        refine owed_cons (fun vs u hS hD N => ?_) ?_
        · have d0 := hD 0 (by decide)
          simp only [fact, layAt, depOn, dstOf, List.map_cons, List.map_nil, List.foldl_cons, List.foldl_nil, List.getD_cons_zero, List.getD_cons_succ, List.getElem?_cons_zero, List.getElem?_cons_succ, Option.bind_some] at d0
          have d3 := hD 3 (by decide)
          simp only [fact, layAt, depOn, dstOf, List.map_cons, List.map_nil, List.foldl_cons, List.foldl_nil, List.getD_cons_zero, List.getD_cons_succ, List.getElem?_cons_zero, List.getElem?_cons_succ, Option.bind_some] at d3
          clear hD
          intro hN
          simp only [fact, layAt, depOn, dstOf, List.map_cons, List.map_nil, List.foldl_cons, List.foldl_nil, List.getD_cons_zero, List.getD_cons_succ, List.getElem?_cons_zero, List.getElem?_cons_succ, Option.bind_some, d0, d3] at hN ⊢
          go_simp
          have hh := hN _ _ rfl (.inl (Below.refl _ _))
          revert hh
          go_simp
        refine owed_cons (fun vs u hS hD N => ?_) ?_
        · have d4 := hD 4 (by decide)
          simp only [fact, layAt, depOn, dstOf, List.map_cons, List.map_nil, List.foldl_cons, List.foldl_nil, List.getD_cons_zero, List.getD_cons_succ, List.getElem?_cons_zero, List.getElem?_cons_succ, Option.bind_some] at d4
          clear hD
          intro hN
          simp only [fact, layAt, depOn, dstOf, List.map_cons, List.map_nil, List.foldl_cons, List.foldl_nil, List.getD_cons_zero, List.getD_cons_succ, List.getElem?_cons_zero, List.getElem?_cons_succ, Option.bind_some, d4] at hN ⊢
          go_simp
          have hh := hN _ _ rfl (.inl (Below.refl _ _))
          revert hh
          go_simp
        refine owed_cons (fun vs u hS hD N => ?_) ?_
        · have d5 := hD 5 (by decide)
          simp only [fact, layAt, depOn, dstOf, List.map_cons, List.map_nil, List.foldl_cons, List.foldl_nil, List.getD_cons_zero, List.getD_cons_succ, List.getElem?_cons_zero, List.getElem?_cons_succ, Option.bind_some] at d5
          clear hD
          intro hN
          simp only [fact, layAt, depOn, dstOf, List.map_cons, List.map_nil, List.foldl_cons, List.foldl_nil, List.getD_cons_zero, List.getD_cons_succ, List.getElem?_cons_zero, List.getElem?_cons_succ, Option.bind_some, d5] at hN ⊢
          go_simp
          have hh := hN _ _ rfl (.inl (Below.refl _ _))
          revert hh
          go_simp
        refine owed_cons (fun vs u hS hD N => ?_) ?_
        · have d5 := hD 5 (by decide)
          simp only [fact, layAt, depOn, dstOf, List.map_cons, List.map_nil, List.foldl_cons, List.foldl_nil, List.getD_cons_zero, List.getD_cons_succ, List.getElem?_cons_zero, List.getElem?_cons_succ, Option.bind_some] at d5
          have d6 := hD 6 (by decide)
          simp only [fact, layAt, depOn, dstOf, List.map_cons, List.map_nil, List.foldl_cons, List.foldl_nil, List.getD_cons_zero, List.getD_cons_succ, List.getElem?_cons_zero, List.getElem?_cons_succ, Option.bind_some] at d6
          clear hD
          intro hN
          simp only [fact, layAt, depOn, dstOf, List.map_cons, List.map_nil, List.foldl_cons, List.foldl_nil, List.getD_cons_zero, List.getD_cons_succ, List.getElem?_cons_zero, List.getElem?_cons_succ, Option.bind_some, d5, d6] at hN ⊢
          go_simp
          have hh := hN _ _ rfl (.inl (Below.refl _ _))
          revert hh
          go_simp
        refine owed_cons (fun vs u hS hD N => ?_) ?_
        · have d5 := hD 5 (by decide)
          simp only [fact, layAt, depOn, dstOf, List.map_cons, List.map_nil, List.foldl_cons, List.foldl_nil, List.getD_cons_zero, List.getD_cons_succ, List.getElem?_cons_zero, List.getElem?_cons_succ, Option.bind_some] at d5
          have d7 := hD 7 (by decide)
          simp only [fact, layAt, depOn, dstOf, List.map_cons, List.map_nil, List.foldl_cons, List.foldl_nil, List.getD_cons_zero, List.getD_cons_succ, List.getElem?_cons_zero, List.getElem?_cons_succ, Option.bind_some] at d7
          clear hD
          intro hN
          simp only [fact, layAt, depOn, dstOf, List.map_cons, List.map_nil, List.foldl_cons, List.foldl_nil, List.getD_cons_zero, List.getD_cons_succ, List.getElem?_cons_zero, List.getElem?_cons_succ, Option.bind_some, d5, d7] at hN ⊢
          go_simp
          have hh := hN _ _ rfl (.inl (Below.refl _ _))
          revert hh
          go_simp
        refine owed_cons (fun vs u hS hD N => ?_) ?_
        · have d8 := hD 8 (by decide)
          simp only [fact, layAt, depOn, dstOf, List.map_cons, List.map_nil, List.foldl_cons, List.foldl_nil, List.getD_cons_zero, List.getD_cons_succ, List.getElem?_cons_zero, List.getElem?_cons_succ, Option.bind_some] at d8
          clear hD
          intro hN
          simp only [fact, layAt, depOn, dstOf, List.map_cons, List.map_nil, List.foldl_cons, List.foldl_nil, List.getD_cons_zero, List.getD_cons_succ, List.getElem?_cons_zero, List.getElem?_cons_succ, Option.bind_some, d8] at hN ⊢
          go_simp
          have hh := hN _ _ rfl (.inl (Below.refl _ _))
          revert hh
          go_simp
        refine owed_cons (fun vs u hS hD N => ?_) ?_
        · have d8 := hD 8 (by decide)
          simp only [fact, layAt, depOn, dstOf, List.map_cons, List.map_nil, List.foldl_cons, List.foldl_nil, List.getD_cons_zero, List.getD_cons_succ, List.getElem?_cons_zero, List.getElem?_cons_succ, Option.bind_some] at d8
          have d9 := hD 9 (by decide)
          simp only [fact, layAt, depOn, dstOf, List.map_cons, List.map_nil, List.foldl_cons, List.foldl_nil, List.getD_cons_zero, List.getD_cons_succ, List.getElem?_cons_zero, List.getElem?_cons_succ, Option.bind_some] at d9
          clear hD
          intro hN
          simp only [fact, layAt, depOn, dstOf, List.map_cons, List.map_nil, List.foldl_cons, List.foldl_nil, List.getD_cons_zero, List.getD_cons_succ, List.getElem?_cons_zero, List.getElem?_cons_succ, Option.bind_some, d8, d9] at hN ⊢
          go_simp
          have hh := hN _ _ rfl (.inl (Below.refl _ _))
          revert hh
          go_simp
        refine owed_cons (fun vs u hS hD N => ?_) ?_
        · have d8 := hD 8 (by decide)
          simp only [fact, layAt, depOn, dstOf, List.map_cons, List.map_nil, List.foldl_cons, List.foldl_nil, List.getD_cons_zero, List.getD_cons_succ, List.getElem?_cons_zero, List.getElem?_cons_succ, Option.bind_some] at d8
          clear hD
          intro hN
          simp only [fact, layAt, depOn, dstOf, List.map_cons, List.map_nil, List.foldl_cons, List.foldl_nil, List.getD_cons_zero, List.getD_cons_succ, List.getElem?_cons_zero, List.getElem?_cons_succ, Option.bind_some, d8] at hN ⊢
          go_simp
          have hh := hN _ _ rfl (.inl (Below.refl _ _))
          revert hh
          go_simp
        refine owed_cons (fun vs u hS hD N => ?_) ?_
        · have d8 := hD 8 (by decide)
          simp only [fact, layAt, depOn, dstOf, List.map_cons, List.map_nil, List.foldl_cons, List.foldl_nil, List.getD_cons_zero, List.getD_cons_succ, List.getElem?_cons_zero, List.getElem?_cons_succ, Option.bind_some] at d8
          have d11 := hD 11 (by decide)
          simp only [fact, layAt, depOn, dstOf, List.map_cons, List.map_nil, List.foldl_cons, List.foldl_nil, List.getD_cons_zero, List.getD_cons_succ, List.getElem?_cons_zero, List.getElem?_cons_succ, Option.bind_some] at d11
          clear hD
          intro hN
          simp only [fact, layAt, depOn, dstOf, List.map_cons, List.map_nil, List.foldl_cons, List.foldl_nil, List.getD_cons_zero, List.getD_cons_succ, List.getElem?_cons_zero, List.getElem?_cons_succ, Option.bind_some, d8, d11] at hN ⊢
          go_simp
          have hh := hN _ _ rfl (.inl (Below.refl _ _))
          revert hh
          go_simp
        refine owed_cons (fun vs u hS hD N => ?_) ?_
        · have d8 := hD 8 (by decide)
          simp only [fact, layAt, depOn, dstOf, List.map_cons, List.map_nil, List.foldl_cons, List.foldl_nil, List.getD_cons_zero, List.getD_cons_succ, List.getElem?_cons_zero, List.getElem?_cons_succ, Option.bind_some] at d8
          have d10 := hD 10 (by decide)
          simp only [fact, layAt, depOn, dstOf, List.map_cons, List.map_nil, List.foldl_cons, List.foldl_nil, List.getD_cons_zero, List.getD_cons_succ, List.getElem?_cons_zero, List.getElem?_cons_succ, Option.bind_some] at d10
          have d12 := hD 12 (by decide)
          simp only [fact, layAt, depOn, dstOf, List.map_cons, List.map_nil, List.foldl_cons, List.foldl_nil, List.getD_cons_zero, List.getD_cons_succ, List.getElem?_cons_zero, List.getElem?_cons_succ, Option.bind_some] at d12
          clear hD
          intro hN
          simp only [fact, layAt, depOn, dstOf, List.map_cons, List.map_nil, List.foldl_cons, List.foldl_nil, List.getD_cons_zero, List.getD_cons_succ, List.getElem?_cons_zero, List.getElem?_cons_succ, Option.bind_some, d8, d10, d12] at hN ⊢
          go_simp
          have hh := hN _ _ rfl (.inl (Below.refl _ _))
          revert hh
          go_simp
        refine owed_cons (fun vs u hS hD N => ?_) ?_
        · have d5 := hD 5 (by decide)
          simp only [fact, layAt, depOn, dstOf, List.map_cons, List.map_nil, List.foldl_cons, List.foldl_nil, List.getD_cons_zero, List.getD_cons_succ, List.getElem?_cons_zero, List.getElem?_cons_succ, Option.bind_some] at d5
          have d8 := hD 8 (by decide)
          simp only [fact, layAt, depOn, dstOf, List.map_cons, List.map_nil, List.foldl_cons, List.foldl_nil, List.getD_cons_zero, List.getD_cons_succ, List.getElem?_cons_zero, List.getElem?_cons_succ, Option.bind_some] at d8
          have d13 := hD 13 (by decide)
          simp only [fact, layAt, depOn, dstOf, List.map_cons, List.map_nil, List.foldl_cons, List.foldl_nil, List.getD_cons_zero, List.getD_cons_succ, List.getElem?_cons_zero, List.getElem?_cons_succ, Option.bind_some] at d13
          clear hD
          intro hN
          simp only [fact, layAt, depOn, dstOf, List.map_cons, List.map_nil, List.foldl_cons, List.foldl_nil, List.getD_cons_zero, List.getD_cons_succ, List.getElem?_cons_zero, List.getElem?_cons_succ, Option.bind_some, d5, d8, d13] at hN ⊢
          go_simp
          have hh := hN _ _ rfl (.inl (Below.refl _ _))
          revert hh
          go_simp
        refine owed_cons (fun vs u hS hD N => ?_) ?_
        · have d5 := hD 5 (by decide)
          simp only [fact, layAt, depOn, dstOf, List.map_cons, List.map_nil, List.foldl_cons, List.foldl_nil, List.getD_cons_zero, List.getD_cons_succ, List.getElem?_cons_zero, List.getElem?_cons_succ, Option.bind_some] at d5
          have d14 := hD 14 (by decide)
          simp only [fact, layAt, depOn, dstOf, List.map_cons, List.map_nil, List.foldl_cons, List.foldl_nil, List.getD_cons_zero, List.getD_cons_succ, List.getElem?_cons_zero, List.getElem?_cons_succ, Option.bind_some] at d14
          clear hD
          intro hN
          simp only [fact, layAt, depOn, dstOf, List.map_cons, List.map_nil, List.foldl_cons, List.foldl_nil, List.getD_cons_zero, List.getD_cons_succ, List.getElem?_cons_zero, List.getElem?_cons_succ, Option.bind_some, d5, d14] at hN ⊢
          go_simp
          have hh := hN _ _ rfl (.inl (Below.refl _ _))
          revert hh
          go_simp
        refine owed_cons (fun vs u hS hD N => ?_) ?_
        · have d15 := hD 15 (by decide)
          simp only [fact, layAt, depOn, dstOf, List.map_cons, List.map_nil, List.foldl_cons, List.foldl_nil, List.getD_cons_zero, List.getD_cons_succ, List.getElem?_cons_zero, List.getElem?_cons_succ, Option.bind_some] at d15
          clear hD
          intro hN
          simp only [fact, layAt, depOn, dstOf, List.map_cons, List.map_nil, List.foldl_cons, List.foldl_nil, List.getD_cons_zero, List.getD_cons_succ, List.getElem?_cons_zero, List.getElem?_cons_succ, Option.bind_some, d15] at hN ⊢
          go_simp
          have hh := hN _ _ rfl (.inl (Below.refl _ _))
          revert hh
          go_simp
        refine owed_cons (fun vs u hS hD N => ?_) ?_
        · have d16 := hD 16 (by decide)
          simp only [fact, layAt, depOn, dstOf, List.map_cons, List.map_nil, List.foldl_cons, List.foldl_nil, List.getD_cons_zero, List.getD_cons_succ, List.getElem?_cons_zero, List.getElem?_cons_succ, Option.bind_some] at d16
          clear hD
          intro hN
          simp only [fact, layAt, depOn, dstOf, List.map_cons, List.map_nil, List.foldl_cons, List.foldl_nil, List.getD_cons_zero, List.getD_cons_succ, List.getElem?_cons_zero, List.getElem?_cons_succ, Option.bind_some, d16] at hN ⊢
          go_simp
          refine (awake4_any u ((hW.below hlt f1).below (Nat.lt_of_lt_of_le hlt f1.size) hS)).mono ?_
          rintro e u' ⟨rfl, f⟩
          have hh := hN _ _ rfl (.inl f)
          revert hh
          go_simp
        refine owed_cons (fun vs u hS hD N => ?_) ?_
        · have d16 := hD 16 (by decide)
          simp only [fact, layAt, depOn, dstOf, List.map_cons, List.map_nil, List.foldl_cons, List.foldl_nil, List.getD_cons_zero, List.getD_cons_succ, List.getElem?_cons_zero, List.getElem?_cons_succ, Option.bind_some] at d16
          have d17 := hD 17 (by decide)
          simp only [fact, layAt, depOn, dstOf, List.map_cons, List.map_nil, List.foldl_cons, List.foldl_nil, List.getD_cons_zero, List.getD_cons_succ, List.getElem?_cons_zero, List.getElem?_cons_succ, Option.bind_some] at d17
          clear hD
          intro hN
          simp only [fact, layAt, depOn, dstOf, List.map_cons, List.map_nil, List.foldl_cons, List.foldl_nil, List.getD_cons_zero, List.getD_cons_succ, List.getElem?_cons_zero, List.getElem?_cons_succ, Option.bind_some, d16, d17] at hN ⊢
          go_simp
          have hh := hN _ _ rfl (.inl (Below.refl _ _))
          revert hh
          go_simp
        refine owed_cons (fun vs u hS hD N => ?_) ?_
        · have d18 := hD 18 (by decide)
          simp only [fact, layAt, depOn, dstOf, List.map_cons, List.map_nil, List.foldl_cons, List.foldl_nil, List.getD_cons_zero, List.getD_cons_succ, List.getElem?_cons_zero, List.getElem?_cons_succ, Option.bind_some] at d18
          clear hD
          intro hN
          simp only [fact, layAt, depOn, dstOf, List.map_cons, List.map_nil, List.foldl_cons, List.foldl_nil, List.getD_cons_zero, List.getD_cons_succ, List.getElem?_cons_zero, List.getElem?_cons_succ, Option.bind_some, d18] at hN ⊢
          go_simp
          have hh := hN _ _ rfl (.inl (Below.refl _ _))
          revert hh
          go_simp
        exact owed_nil
      ·
        intro vs u hS hF
        have d19 := hF 19 (by decide) (by decide)
        simp only [fact, layAt, depOn, dstOf, List.map_cons, List.map_nil, List.foldl_cons, List.foldl_nil, List.getD_cons_zero, List.getD_cons_succ, List.getElem?_cons_zero, List.getElem?_cons_succ, Option.bind_some] at d19
        clear hF
        simp only [List.length_cons, List.length_nil, Nat.reduceAdd, List.range, List.range.loop, fact, layAt, depOn, dstOf, List.map_cons, List.map_nil, List.foldl_cons, List.foldl_nil, List.getD_cons_zero, List.getD_cons_succ, List.getElem?_cons_zero, List.getElem?_cons_succ, Option.bind_some, d19]
        go_simp
        go_wp2_with fail
        go_ret
        exact ⟨rfl, f1.trans (hS.mono f1.size)⟩
theorem addrHalves_walk (w : World) (hW : LdW w) (a : Nat) (b : Int) (hc : okN (a, b)) (c : Nat) (d : Int) (hd : okN (c, d)) :
    Calls Tryz.prog 7 #[ntV a b, ntV c d] w fun e w' => e = .returned (.bool true) ∧ Below w.heap.size w w' := by
  by_cases hm : nMay (a, b) = true
  · by_cases hn : nMay (c, d) = true
    · exact addrHalves_yes w hW a b hc c d hd hm hn
    · exact addrHalves_no w hW a b hc c d hd (.inr (by simpa using hn))
  · exact addrHalves_no w hW a b hc c d hd (.inl (by simpa using hm))
end Go.Proofs.YtddfgalofngoiaaGreatDoor
