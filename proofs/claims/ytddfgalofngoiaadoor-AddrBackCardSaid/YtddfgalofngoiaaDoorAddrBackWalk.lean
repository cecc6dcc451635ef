/- The law AddrBack, walked. Condition: the library's variables hold what they should. -/
import Derived.Test.YtddfgalofngoiaaDoorAddrAwake
import Derived.Test.YtddfgalofngoiaaDoorAddrPn
import Derived.Test.YtddfgalofngoiaaDoorNetOpen
import Derived.Deep.DeepCutAuto
namespace Go.Proofs.YtddfgalofngoiaaDoor
open Go.RowKit Go.Sort
set_option linter.unusedVariables false
set_option linter.unusedSimpArgs false
theorem dig3_len (n : Nat) : (dig3 n).length ≤ 3 := by
  unfold dig3
  split
  · simp
  · split <;> simp
theorem printNet_len (c : Nt) : (printNetA c).length ≤ 20 := by
  unfold printNetA
  split
  · rename_i h
    have hb := (nMay_iff c).1 h
    have h1 := join_len c.1
    have h2 := itoa_len c.2.toNat (by omega)
    rw [show ((c.2.toNat : Nat) : Int) = c.2 by omega] at h2
    rw [List.length_append, List.length_cons]
    omega
  · simp
set_option maxRecDepth 100000 in
set_option maxHeartbeats 8000000 in
theorem addrBack_walk (w : World) (hW : LdW w) (x : Nat) (hx : x < 4294967296) (a : Nat) (b : Int) (hc : okN (a, b)) (l : List UInt8) (hl : l.length ≤ maxLen) :
    Calls Tryd.prog 3 #[.int .u32 (x : Int), ntV a b, .string (strB l)] w fun e w' => e = .returned (.bool true) ∧ Below w.heap.size w w' := by
  have hlt := hW.lt
  have a0 : l.length ≤ 9223372036854775807 := by simp only [maxLen] at hl; omega
  clear hl
  have z0 := strB_size l
  have hpx := fun w h => print_any x hx w h
  have hpp := fun w h => parse_any (printA x) (Nat.le_trans (join_len x) (by omega)) w h
  rw [parse_print hx] at hpp
  have hpn := fun w h => printNet_any a b w h hc
  have hpq := fun w h => parseNet_any (printNetA (a, b)) (Nat.le_trans (printNet_len (a, b)) (by omega)) w h
  rw [parse_printNet hc.1] at hpq
  have hma := fun w => may_any a b w hc
  generalize printA x = px at *
  generalize printNetA (a, b) = pn at *
  unfold paV at hpp
  simp only at hpp
  have qe := fun w => run_nt_eq a b a b w
  rw [decide_eq_true rfl] at qe
  have lp := fun (h : l.length ≤ 1000000) w hw => parse_any l h w hw
  have lq := fun (h : l.length ≤ 1000000) w hw => parseNet_any l h w hw
  have HLP := Lib.hid lp; have HLQ := Lib.hid lq; clear lp lq
  unfold ntV at *
  go_enter Tryd.func3, Tryd.ntmps3
  go_upto_region 1 with fail
  refine abs (fun w1 => BxS w.heap.size a b w1 ∧ Below w.heap.size w w1) ⟨box_cells w a b, (Below.refl _ w).alloc (Nat.le_refl _) _⟩ ?_
  rintro w1 ⟨hS, f1⟩
  have hS2 := hS
  obtain ⟨e0, e1⟩ := hS2
  by_cases hlong : 10000 < l.length
  · have d0 : decide ((10000 : Int) < (l.length : Int)) = true := by simp; omega
    go_wp2_with fail
    refine (awake4_any _ (hW.below hlt f1)).mono ?_
    rintro e9 w9 ⟨rfl, f9⟩
    go_wp2_with fail
    go_ret
    exact ⟨rfl, f1.trans (f9.mono f1.size)⟩
  have d0 : decide ((10000 : Int) < (l.length : Int)) = false := by simp; omega
  have hlp := HLP.out (by omega)
  have hlq := HLQ.out (by omega)
  clear HLP HLQ
  go_wp2_with fail
  refine (hpx _ (hW.below hlt f1)).mono ?_
  rintro _ w2 ⟨rfl, f9⟩
  replace hS := hS.below f9
  replace f1 := f1.trans (f9.mono f1.size)
  clear e0 e1 f9
  have hS2 := hS
  obtain ⟨e0, e1⟩ := hS2
  go_wp2_with fail
  refine (hpp _ (hW.below hlt f1)).mono ?_
  rintro _ w3 ⟨rfl, f9⟩
  replace hS := hS.below f9
  replace f1 := f1.trans (f9.mono f1.size)
  clear e0 e1 f9
  have hS2 := hS
  obtain ⟨e0, e1⟩ := hS2
  go_wp2_with fail
  refine (hpn _ (hW.below hlt f1)).mono ?_
  rintro _ w4 ⟨rfl, f9⟩
  replace hS := hS.below f9
  replace f1 := f1.trans (f9.mono f1.size)
  clear e0 e1 f9
  have hS2 := hS
  obtain ⟨e0, e1⟩ := hS2
  rcases hm : nMay (a, b) with _ | _
  · rw [hm] at hma hpq
    simp only [Bool.false_eq_true, if_false] at hpq
    unfold pnV ntV at hpq
    simp only at hpq
    go_wp2_with fail
    refine (hpq _ (hW.below hlt f1)).mono ?_
    rintro _ w5 ⟨rfl, f9⟩
    replace hS := hS.below f9
    replace f1 := f1.trans (f9.mono f1.size)
    clear e0 e1 f9
    have hS2 := hS
    obtain ⟨e0, e1⟩ := hS2
    go_upto_region 7 with fail
    refine abs (fun wx => BxS w.heap.size a b wx ∧ Below w.heap.size w wx) ⟨hS.below ((Below.refl _ w5).alloc (Nat.le_refl _) _), f1.alloc f1.size _⟩ ?_
    clear e0 e1 hS f1
    rintro w6 ⟨hS, f1⟩
    have hS2 := hS
    obtain ⟨e0, e1⟩ := hS2
    go_wp2_with fail
    refine (hma _).mono ?_
    rintro _ w7 ⟨rfl, f9⟩
    replace hS := hS.below f9.below
    replace f1 := f1.trans (f9.below.mono f1.size)
    clear e0 e1 f9
    have hS2 := hS
    obtain ⟨e0, e1⟩ := hS2

    clear qe
    clear hpx hpp hpn hpq hma hS e0 e1
    rcases hp : parseA l with _ | y
    · rw [hp] at hlp
      unfold paV at hlp
      simp only at hlp
      clear hp
      go_wp2_with fail
      refine (hlp _ (hW.below hlt f1)).mono ?_
      rintro _ w8 ⟨rfl, f9⟩
      replace f1 := f1.trans (f9.mono f1.size)
      clear f9
      rcases hq : parseNetA l with _ | c
      · rw [hq] at hlq
        unfold pnV ntV at hlq
        simp only at hlq
        clear hq
        go_wp2_with fail
        refine (hlq _ (hW.below hlt f1)).mono ?_
        rintro _ w8 ⟨rfl, f9⟩
        replace f1 := f1.trans (f9.mono f1.size)
        clear f9
        go_upto_region 13 with fail
        refine abs (fun wx => Below w.heap.size w wx) (f1.alloc f1.size _) ?_
        clear f1
        intro w9 f1
        go_wp2_with fail
        refine (awake4_any _ (hW.below hlt f1)).mono ?_
        rintro e9 w9 ⟨rfl, f9⟩
        go_wp2_with fail
        go_ret
        exact ⟨rfl, f1.trans (f9.mono f1.size)⟩
      · rw [hq] at hlq
        obtain ⟨hcl, hcm, hc1⟩ := parseNet_inv hq
        obtain ⟨c1, c2⟩ := c
        have hcb := (nMay_iff _).1 hcm
        simp only at hcb hc1
        have okc : okN (c1, c2) := ⟨hc1, by show _ ≤ c2; omega, by show c2 ≤ _; omega⟩
        have hpy := fun w h => printNet_any c1 c2 w h okc
        have hmy := fun w => may_any c1 c2 w okc
        rw [hcl] at hpy
        rw [hcm] at hmy
        unfold pnV at hlq
        simp only at hlq
        unfold ntV at *
        clear hq hcl hcm hcb okc hc1
        go_wp2_with fail
        refine (hlq _ (hW.below hlt f1)).mono ?_
        rintro _ w8 ⟨rfl, f9⟩
        replace f1 := f1.trans (f9.mono f1.size)
        clear f9
        go_upto_region 13 with fail
        refine abs (fun wx => BxS w8.heap.size c1 c2 wx ∧ Below w.heap.size w wx) ⟨box_cells w8 c1 c2, f1.alloc f1.size _⟩ ?_
        clear f1
        rintro w9 ⟨hT, f1⟩
        have hT2 := hT
        obtain ⟨e2, e3⟩ := hT2
        go_wp2_with fail
        refine (hpy _ (hW.below hlt f1)).mono ?_
        rintro _ w8 ⟨rfl, f9⟩
        replace hT := hT.below f9
        replace f1 := f1.trans (f9.mono f1.size)
        clear f9 e2 e3
        have hT2 := hT
        obtain ⟨e2, e3⟩ := hT2
        go_wp2_with fail
        refine (hmy _).mono ?_
        rintro _ w8 ⟨rfl, f9⟩
        replace f1 := f1.trans (f9.below.mono f1.size)
        clear f9 e2 e3 hT
        go_wp2_with fail
        refine (awake4_any _ (hW.below hlt f1)).mono ?_
        rintro e9 w9 ⟨rfl, f9⟩
        go_wp2_with fail
        go_ret
        exact ⟨rfl, f1.trans (f9.mono f1.size)⟩
    · rw [hp] at hlp
      obtain ⟨hyl, hy⟩ := parse_inv hp
      have hpy := fun w h => print_any y hy w h
      rw [hyl] at hpy
      unfold paV at hlp
      simp only at hlp
      clear hp hyl
      go_wp2_with fail
      refine (hlp _ (hW.below hlt f1)).mono ?_
      rintro _ w8 ⟨rfl, f9⟩
      replace f1 := f1.trans (f9.mono f1.size)
      clear f9
      go_wp2_with fail
      refine (hpy _ (hW.below hlt f1)).mono ?_
      rintro _ w8 ⟨rfl, f9⟩
      replace f1 := f1.trans (f9.mono f1.size)
      clear f9 hy hpy
      rcases hq : parseNetA l with _ | c
      · rw [hq] at hlq
        unfold pnV ntV at hlq
        simp only at hlq
        clear hq
        go_wp2_with fail
        refine (hlq _ (hW.below hlt f1)).mono ?_
        rintro _ w8 ⟨rfl, f9⟩
        replace f1 := f1.trans (f9.mono f1.size)
        clear f9
        go_upto_region 13 with fail
        refine abs (fun wx => Below w.heap.size w wx) (f1.alloc f1.size _) ?_
        clear f1
        intro w9 f1
        go_wp2_with fail
        refine (awake4_any _ (hW.below hlt f1)).mono ?_
        rintro e9 w9 ⟨rfl, f9⟩
        go_wp2_with fail
        go_ret
        exact ⟨rfl, f1.trans (f9.mono f1.size)⟩
      · rw [hq] at hlq
        obtain ⟨hcl, hcm, hc1⟩ := parseNet_inv hq
        obtain ⟨c1, c2⟩ := c
        have hcb := (nMay_iff _).1 hcm
        simp only at hcb hc1
        have okc : okN (c1, c2) := ⟨hc1, by show _ ≤ c2; omega, by show c2 ≤ _; omega⟩
        have hpy := fun w h => printNet_any c1 c2 w h okc
        have hmy := fun w => may_any c1 c2 w okc
        rw [hcl] at hpy
        rw [hcm] at hmy
        unfold pnV at hlq
        simp only at hlq
        unfold ntV at *
        clear hq hcl hcm hcb okc hc1
        go_wp2_with fail
        refine (hlq _ (hW.below hlt f1)).mono ?_
        rintro _ w8 ⟨rfl, f9⟩
        replace f1 := f1.trans (f9.mono f1.size)
        clear f9
        go_upto_region 13 with fail
        refine abs (fun wx => BxS w8.heap.size c1 c2 wx ∧ Below w.heap.size w wx) ⟨box_cells w8 c1 c2, f1.alloc f1.size _⟩ ?_
        clear f1
        rintro w9 ⟨hT, f1⟩
        have hT2 := hT
        obtain ⟨e2, e3⟩ := hT2
        go_wp2_with fail
        refine (hpy _ (hW.below hlt f1)).mono ?_
        rintro _ w8 ⟨rfl, f9⟩
        replace hT := hT.below f9
        replace f1 := f1.trans (f9.mono f1.size)
        clear f9 e2 e3
        have hT2 := hT
        obtain ⟨e2, e3⟩ := hT2
        go_wp2_with fail
        refine (hmy _).mono ?_
        rintro _ w8 ⟨rfl, f9⟩
        replace f1 := f1.trans (f9.below.mono f1.size)
        clear f9 e2 e3 hT
        go_wp2_with fail
        refine (awake4_any _ (hW.below hlt f1)).mono ?_
        rintro e9 w9 ⟨rfl, f9⟩
        go_wp2_with fail
        go_ret
        exact ⟨rfl, f1.trans (f9.mono f1.size)⟩
  · rw [hm] at hma hpq
    simp only [if_true] at hpq
    unfold pnV ntV at hpq
    simp only at hpq
    go_wp2_with fail
    refine (hpq _ (hW.below hlt f1)).mono ?_
    rintro _ w5 ⟨rfl, f9⟩
    replace hS := hS.below f9
    replace f1 := f1.trans (f9.mono f1.size)
    clear e0 e1 f9
    have hS2 := hS
    obtain ⟨e0, e1⟩ := hS2
    go_upto_region 7 with fail
    refine abs (fun wx => BxS w5.heap.size a b wx ∧ BxS w.heap.size a b wx ∧ Below w.heap.size w wx) ⟨box_cells w5 a b, hS.below ((Below.refl _ w5).alloc (Nat.le_refl _) _), f1.alloc f1.size _⟩ ?_
    clear e0 e1 hS f1
    rintro w6 ⟨hT, hS, f1⟩
    have hS2 := hS
    obtain ⟨e0, e1⟩ := hS2
    obtain ⟨e2, e3⟩ := hT
    go_wp2_with fail
    refine (hma _).mono ?_
    rintro _ w7 ⟨rfl, f9⟩
    obtain ⟨e2, e3⟩ := BxS.below ⟨e2, e3⟩ f9.below
    replace hS := hS.below f9.below
    replace f1 := f1.trans (f9.below.mono f1.size)
    clear e0 e1 f9
    have hS2 := hS
    obtain ⟨e0, e1⟩ := hS2

    go_wp2_with fail
    clear e2 e3 qe
    clear hpx hpp hpn hpq hma hS e0 e1
    rcases hp : parseA l with _ | y
    · rw [hp] at hlp
      unfold paV at hlp
      simp only at hlp
      clear hp
      go_wp2_with fail
      refine (hlp _ (hW.below hlt f1)).mono ?_
      rintro _ w8 ⟨rfl, f9⟩
      replace f1 := f1.trans (f9.mono f1.size)
      clear f9
      rcases hq : parseNetA l with _ | c
      · rw [hq] at hlq
        unfold pnV ntV at hlq
        simp only at hlq
        clear hq
        go_wp2_with fail
        refine (hlq _ (hW.below hlt f1)).mono ?_
        rintro _ w8 ⟨rfl, f9⟩
        replace f1 := f1.trans (f9.mono f1.size)
        clear f9
        go_upto_region 13 with fail
        refine abs (fun wx => Below w.heap.size w wx) (f1.alloc f1.size _) ?_
        clear f1
        intro w9 f1
        go_wp2_with fail
        refine (awake4_any _ (hW.below hlt f1)).mono ?_
        rintro e9 w9 ⟨rfl, f9⟩
        go_wp2_with fail
        go_ret
        exact ⟨rfl, f1.trans (f9.mono f1.size)⟩
      · rw [hq] at hlq
        obtain ⟨hcl, hcm, hc1⟩ := parseNet_inv hq
        obtain ⟨c1, c2⟩ := c
        have hcb := (nMay_iff _).1 hcm
        simp only at hcb hc1
        have okc : okN (c1, c2) := ⟨hc1, by show _ ≤ c2; omega, by show c2 ≤ _; omega⟩
        have hpy := fun w h => printNet_any c1 c2 w h okc
        have hmy := fun w => may_any c1 c2 w okc
        rw [hcl] at hpy
        rw [hcm] at hmy
        unfold pnV at hlq
        simp only at hlq
        unfold ntV at *
        clear hq hcl hcm hcb okc hc1
        go_wp2_with fail
        refine (hlq _ (hW.below hlt f1)).mono ?_
        rintro _ w8 ⟨rfl, f9⟩
        replace f1 := f1.trans (f9.mono f1.size)
        clear f9
        go_upto_region 13 with fail
        refine abs (fun wx => BxS w8.heap.size c1 c2 wx ∧ Below w.heap.size w wx) ⟨box_cells w8 c1 c2, f1.alloc f1.size _⟩ ?_
        clear f1
        rintro w9 ⟨hT, f1⟩
        have hT2 := hT
        obtain ⟨e2, e3⟩ := hT2
        go_wp2_with fail
        refine (hpy _ (hW.below hlt f1)).mono ?_
        rintro _ w8 ⟨rfl, f9⟩
        replace hT := hT.below f9
        replace f1 := f1.trans (f9.mono f1.size)
        clear f9 e2 e3
        have hT2 := hT
        obtain ⟨e2, e3⟩ := hT2
        go_wp2_with fail
        refine (hmy _).mono ?_
        rintro _ w8 ⟨rfl, f9⟩
        replace f1 := f1.trans (f9.below.mono f1.size)
        clear f9 e2 e3 hT
        go_wp2_with fail
        refine (awake4_any _ (hW.below hlt f1)).mono ?_
        rintro e9 w9 ⟨rfl, f9⟩
        go_wp2_with fail
        go_ret
        exact ⟨rfl, f1.trans (f9.mono f1.size)⟩
    · rw [hp] at hlp
      obtain ⟨hyl, hy⟩ := parse_inv hp
      have hpy := fun w h => print_any y hy w h
      rw [hyl] at hpy
      unfold paV at hlp
      simp only at hlp
      clear hp hyl
      go_wp2_with fail
      refine (hlp _ (hW.below hlt f1)).mono ?_
      rintro _ w8 ⟨rfl, f9⟩
      replace f1 := f1.trans (f9.mono f1.size)
      clear f9
      go_wp2_with fail
      refine (hpy _ (hW.below hlt f1)).mono ?_
      rintro _ w8 ⟨rfl, f9⟩
      replace f1 := f1.trans (f9.mono f1.size)
      clear f9 hy hpy
      rcases hq : parseNetA l with _ | c
      · rw [hq] at hlq
        unfold pnV ntV at hlq
        simp only at hlq
        clear hq
        go_wp2_with fail
        refine (hlq _ (hW.below hlt f1)).mono ?_
        rintro _ w8 ⟨rfl, f9⟩
        replace f1 := f1.trans (f9.mono f1.size)
        clear f9
        go_upto_region 13 with fail
        refine abs (fun wx => Below w.heap.size w wx) (f1.alloc f1.size _) ?_
        clear f1
        intro w9 f1
        go_wp2_with fail
        refine (awake4_any _ (hW.below hlt f1)).mono ?_
        rintro e9 w9 ⟨rfl, f9⟩
        go_wp2_with fail
        go_ret
        exact ⟨rfl, f1.trans (f9.mono f1.size)⟩
      · rw [hq] at hlq
        obtain ⟨hcl, hcm, hc1⟩ := parseNet_inv hq
        obtain ⟨c1, c2⟩ := c
        have hcb := (nMay_iff _).1 hcm
        simp only at hcb hc1
        have okc : okN (c1, c2) := ⟨hc1, by show _ ≤ c2; omega, by show c2 ≤ _; omega⟩
        have hpy := fun w h => printNet_any c1 c2 w h okc
        have hmy := fun w => may_any c1 c2 w okc
        rw [hcl] at hpy
        rw [hcm] at hmy
        unfold pnV at hlq
        simp only at hlq
        unfold ntV at *
        clear hq hcl hcm hcb okc hc1
        go_wp2_with fail
        refine (hlq _ (hW.below hlt f1)).mono ?_
        rintro _ w8 ⟨rfl, f9⟩
        replace f1 := f1.trans (f9.mono f1.size)
        clear f9
        go_upto_region 13 with fail
        refine abs (fun wx => BxS w8.heap.size c1 c2 wx ∧ Below w.heap.size w wx) ⟨box_cells w8 c1 c2, f1.alloc f1.size _⟩ ?_
        clear f1
        rintro w9 ⟨hT, f1⟩
        have hT2 := hT
        obtain ⟨e2, e3⟩ := hT2
        go_wp2_with fail
        refine (hpy _ (hW.below hlt f1)).mono ?_
        rintro _ w8 ⟨rfl, f9⟩
        replace hT := hT.below f9
        replace f1 := f1.trans (f9.mono f1.size)
        clear f9 e2 e3
        have hT2 := hT
        obtain ⟨e2, e3⟩ := hT2
        go_wp2_with fail
        refine (hmy _).mono ?_
        rintro _ w8 ⟨rfl, f9⟩
        replace f1 := f1.trans (f9.below.mono f1.size)
        clear f9 e2 e3 hT
        go_wp2_with fail
        refine (awake4_any _ (hW.below hlt f1)).mono ?_
        rintro e9 w9 ⟨rfl, f9⟩
        go_wp2_with fail
        go_ret
        exact ⟨rfl, f1.trans (f9.mono f1.size)⟩
end Go.Proofs.YtddfgalofngoiaaDoor
