/- The law NameBack, walked. No condition beyond the world's shape. -/
import Derived.Test.YtopemhdoccgjmaaNameAwake
import Derived.Test.YtopemhdoccgjmaaNameOpen
namespace Go.Proofs.Ytopemhdoccgjmaa
open Go.RowKit
set_option linter.unusedVariables false
theorem prN_inj {a b c d : List UInt8} (h1 : mayN a b = true) (h2 : mayN c d = true) (h : prN a b = prN c d) : a = c ∧ b = d := by
  have e1 := parse_mk h1
  rw [h, parse_mk h2] at e1
  injection e1 with e1
  injection e1 with e1 e2
  exact ⟨e1.symm, e2.symm⟩
theorem prN_len {a b : List UInt8} (h : mayN a b = true) : (prN a b).length ≤ 61 := parse_len (parse_mk h)
/-- The rest of the law, behind the two names. -/
def BackRest (w : World) : Prop := True
set_option maxRecDepth 100000 in
set_option maxHeartbeats 4000000 in
theorem nameBack_walk (w : World) (hL : LibW w) (an as_ : List UInt8) (h1 : an.length ≤ maxLen) (h2 : as_.length ≤ maxLen) (bn bs : List UInt8) (h3 : bn.length ≤ maxLen) (h4 : bs.length ≤ maxLen) (l : List UInt8) (hlb : l.length ≤ maxLen) :
    Calls Try.prog 4 #[nmV an as_, nmV bn bs, .string (strB l)] w fun e w' => e = .returned (.bool true) ∧ Below w.heap.size w w' := by
  have hlb2 : l.length ≤ 9223372036854775807 := by simp only [maxLen] at hlb; omega
  have a1 : an.length ≤ 9223372036854775807 := by simp only [maxLen] at h1; omega
  have a2 : as_.length ≤ 9223372036854775807 := by simp only [maxLen] at h2; omega
  have a3 : bn.length ≤ 9223372036854775807 := by simp only [maxLen] at h3; omega
  have a4 : bs.length ≤ 9223372036854775807 := by simp only [maxLen] at h4; omega
  clear h1 h2 h3 h4 hlb
  have h0 := hL.lt
  have hsz := strB_size l
  have hpa := fun w => print_any an as_ a1 a2 w
  have hpb := fun w => print_any bn bs a3 a4 w
  have hma := fun w => may_any an as_ a1 a2 w
  unfold nmV at hpa hpb hma ⊢
  go_enter Try.func4, Try.ntmps4
  go_upto_region 1 with fail
  refine abs (fun w1 => Blk w1 w.heap.size 24 [.string (strB an), .string (strB as_)] ∧ Blk w1 (w.heap.size + 1) 24 [.string (strB bn), .string (strB bs)] ∧ Below w.heap.size w w1) ⟨(Blk.newAt rfl _ _).alloc _, Blk.newAt (by simp) _ _, ((Below.refl _ w).alloc (Nat.le_refl _) _).alloc (by simp) _⟩ ?_
  rintro w1 ⟨ka, kb, f1⟩
  by_cases hbig : 1000 < l.length
  · have d1 : decide ((1000 : Int) < (l.length : Int)) = true := by simp; omega
    go_wp2_with fail
    refine (awake5_any w1 (hL.below h0 f1)).mono ?_
    rintro e w2 ⟨rfl, f2⟩
    go_wp2_with fail
    go_ret
    exact ⟨rfl, f1.trans (f2.mono f1.size)⟩
  have d1 : decide ((1000 : Int) < (l.length : Int)) = false := by simp; omega
  have c0 := ka.cell 0
  have c1 := ka.cell 1
  go_wp2_with fail
  refine (hpa w1).mono ?_
  rintro e w2 ⟨rfl, f2⟩
  have la := ka.lt
  have lb := kb.lt
  replace ka := ka.below f2 la
  replace kb := kb.below f2 lb
  have F2 := f1.trans (f2.mono f1.size)
  clear c0 c1 f1 f2 hpa la lb
  -- the two ways of the first test
  cases hb : mayN an as_
  · have Hb := Lib.hid hb
    clear hb
    rw [prV_no Hb.out]
    have c0 := ka.cell 0
    have c1 := ka.cell 1
    go_wp2_with fail
    refine (hma w2).mono ?_
    rintro e w3 ⟨rfl, f3⟩
    rw [Hb.out]
    have lb := kb.lt
    replace kb := kb.below f3 lb
    have F3 := F2.trans (f3.mono F2.size)
    clear c0 c1 f3 ka F2
    have c0 := kb.cell 0
    have c1 := kb.cell 1
    go_wp2_with fail
    refine (hpb w3).mono ?_
    rintro e w4 ⟨rfl, f4⟩
    have F4 := F3.trans (f4.mono F3.size)
    clear c0 c1 f4 kb F3
    cases hb2 : mayN bn bs
    · have Hb2 := Lib.hid hb2
      clear hb2
      rw [prV_no Hb2.out]
      go_wp2_with fail
      refine (parse_any l (by omega) w4 (hL.below h0 F4)).mono ?_
      rintro e w5 ⟨rfl, f5⟩
      have F5 := F4.trans (f5.mono F4.size)
      clear f5
      cases hp : parseP l with
      | none =>
        have Hp := Lib.hid hp
        clear hp
        unfold psV nmV
        go_wp2_with fail
        have F6 : Below w.heap.size w (w5.alloc (.cells #[.string (strB []), .string (strB [])] 24)) := F5.alloc F5.size _
        refine (awake5_any _ (hL.below h0 F6)).mono ?_
        rintro e w7 ⟨rfl, f7⟩
        go_wp2_with fail
        go_ret
        exact ⟨rfl, F6.trans (f7.mono F6.size)⟩
      | some q =>
        obtain ⟨ns, sa⟩ := q
        obtain ⟨hmy, hpl⟩ := parse_inv hp
        have hle := mayN_le hmy
        have hpr := fun w => print_any ns sa (by omega) (by omega) w
        have hmm := fun w => may_any ns sa (by omega) (by omega) w
        have Hmy := Lib.hid hmy
        have Hpl := Lib.hid hpl
        clear hp hmy hpl hle
        unfold psV
        unfold nmV at hpr hmm ⊢
        go_wp2_with fail
        have k6 := Blk.of_new w5 24 [.string (strB ns), .string (strB sa)]
        have F6 : Below w.heap.size w (w5.alloc (.cells #[.string (strB ns), .string (strB sa)] 24)) := F5.alloc F5.size _
        refine (hpr _).mono ?_
        rintro e w7 ⟨rfl, f7⟩
        rw [prV_yes Hmy.out, ← Hpl.out]
        have k7 := k6.below f7 k6.lt
        have F7 := F6.trans (f7.mono F6.size)
        have c0 := k7.cell 0
        have c1 := k7.cell 1
        clear k6 F6 f7
        go_wp2_with fail
        refine (hmm _).mono ?_
        rintro e w8 ⟨rfl, f8⟩
        rw [Hmy.out]
        have F8 := F7.trans (f8.mono F7.size)
        clear c0 c1 f8 F7 k7
        go_wp2_with fail
        refine (awake5_any _ (hL.below h0 F8)).mono ?_
        rintro e w9 ⟨rfl, f9⟩
        go_wp2_with fail
        go_ret
        exact ⟨rfl, F8.trans (f9.mono F8.size)⟩
    · have Hb2 := Lib.hid hb2
      clear hb2
      rw [prV_yes Hb2.out]
      go_wp2_with fail
      refine (parse_any l (by omega) w4 (hL.below h0 F4)).mono ?_
      rintro e w5 ⟨rfl, f5⟩
      have F5 := F4.trans (f5.mono F4.size)
      clear f5
      cases hp : parseP l with
      | none =>
        have Hp := Lib.hid hp
        clear hp
        unfold psV nmV
        go_wp2_with fail
        have F6 : Below w.heap.size w (w5.alloc (.cells #[.string (strB []), .string (strB [])] 24)) := F5.alloc F5.size _
        refine (awake5_any _ (hL.below h0 F6)).mono ?_
        rintro e w7 ⟨rfl, f7⟩
        go_wp2_with fail
        go_ret
        exact ⟨rfl, F6.trans (f7.mono F6.size)⟩
      | some q =>
        obtain ⟨ns, sa⟩ := q
        obtain ⟨hmy, hpl⟩ := parse_inv hp
        have hle := mayN_le hmy
        have hpr := fun w => print_any ns sa (by omega) (by omega) w
        have hmm := fun w => may_any ns sa (by omega) (by omega) w
        have Hmy := Lib.hid hmy
        have Hpl := Lib.hid hpl
        clear hp hmy hpl hle
        unfold psV
        unfold nmV at hpr hmm ⊢
        go_wp2_with fail
        have k6 := Blk.of_new w5 24 [.string (strB ns), .string (strB sa)]
        have F6 : Below w.heap.size w (w5.alloc (.cells #[.string (strB ns), .string (strB sa)] 24)) := F5.alloc F5.size _
        refine (hpr _).mono ?_
        rintro e w7 ⟨rfl, f7⟩
        rw [prV_yes Hmy.out, ← Hpl.out]
        have k7 := k6.below f7 k6.lt
        have F7 := F6.trans (f7.mono F6.size)
        have c0 := k7.cell 0
        have c1 := k7.cell 1
        clear k6 F6 f7
        go_wp2_with fail
        refine (hmm _).mono ?_
        rintro e w8 ⟨rfl, f8⟩
        rw [Hmy.out]
        have F8 := F7.trans (f8.mono F7.size)
        clear c0 c1 f8 F7 k7
        go_wp2_with fail
        refine (awake5_any _ (hL.below h0 F8)).mono ?_
        rintro e w9 ⟨rfl, f9⟩
        go_wp2_with fail
        go_ret
        exact ⟨rfl, F8.trans (f9.mono F8.size)⟩
  · have Hb := Lib.hid hb
    have hle := prN_len hb
    have hpk := parse_mk hb
    have Hpk := Lib.hid hpk
    clear hb hpk
    rw [prV_yes Hb.out]
    have c0 := ka.cell 0
    have c1 := ka.cell 1
    go_wp2_with fail
    refine (hma w2).mono ?_
    rintro e w3 ⟨rfl, f3⟩
    rw [Hb.out]
    have la := ka.lt
    have lb := kb.lt
    replace ka := ka.below f3 la
    replace kb := kb.below f3 lb
    have F3 := F2.trans (f3.mono F2.size)
    clear c0 c1 f3 F2
    go_wp2_with fail
    refine (parse_any (prN an as_) (by omega) w3 (hL.below h0 F3)).mono ?_
    rintro e w6 ⟨rfl, f6⟩
    rw [Hpk.out]
    have la := ka.lt
    have lb := kb.lt
    replace ka := ka.below f6 la
    replace kb := kb.below f6 lb
    have F6 := F3.trans (f6.mono F3.size)
    have F7 : Below w.heap.size w (w6.alloc (.cells #[.string (strB an), .string (strB as_)] 24)) := F6.alloc F6.size _
    replace ka := ka.alloc (.cells #[.string (strB an), .string (strB as_)] 24)
    replace kb := kb.alloc (.cells #[.string (strB an), .string (strB as_)] 24)
    have c0 := ka.cell 0
    have c1 := ka.cell 1
    have c2 := kb.cell 0
    have c3 := kb.cell 1
    have hx1 := strB_size (prN an as_)
    have d9 : decide ((64 : Int) < ((prN an as_).length : Int)) = false := by simp; omega
    clear f6 F3 F6
    unfold psV nmV
    go_wp2_with fail
    refine (hpb _).mono ?_
    rintro e w4 ⟨rfl, f4⟩
    have F4 := F7.trans (f4.mono F7.size)
    have ka4 := ka.below f4 ka.lt
    have kb4 := kb.below f4 kb.lt
    clear c0 c1 f4 kb F7
    cases hb2 : mayN bn bs
    · have Hb2 := Lib.hid hb2
      clear hb2
      rw [prV_no Hb2.out]
      go_wp2_with fail
      refine (parse_any l (by omega) w4 (hL.below h0 F4)).mono ?_
      rintro e w5 ⟨rfl, f5⟩
      have F5 := F4.trans (f5.mono F4.size)
      clear f5
      cases hp : parseP l with
      | none =>
        have Hp := Lib.hid hp
        clear hp
        unfold psV nmV
        go_wp2_with fail
        have F6 : Below w.heap.size w (w5.alloc (.cells #[.string (strB []), .string (strB [])] 24)) := F5.alloc F5.size _
        refine (awake5_any _ (hL.below h0 F6)).mono ?_
        rintro e w7 ⟨rfl, f7⟩
        go_wp2_with fail
        go_ret
        exact ⟨rfl, F6.trans (f7.mono F6.size)⟩
      | some q =>
        obtain ⟨ns, sa⟩ := q
        obtain ⟨hmy, hpl⟩ := parse_inv hp
        have hle := mayN_le hmy
        have hpr := fun w => print_any ns sa (by omega) (by omega) w
        have hmm := fun w => may_any ns sa (by omega) (by omega) w
        have Hmy := Lib.hid hmy
        have Hpl := Lib.hid hpl
        clear hp hmy hpl hle
        unfold psV
        unfold nmV at hpr hmm ⊢
        go_wp2_with fail
        have k6 := Blk.of_new w5 24 [.string (strB ns), .string (strB sa)]
        have F6 : Below w.heap.size w (w5.alloc (.cells #[.string (strB ns), .string (strB sa)] 24)) := F5.alloc F5.size _
        refine (hpr _).mono ?_
        rintro e w7 ⟨rfl, f7⟩
        rw [prV_yes Hmy.out, ← Hpl.out]
        have k7 := k6.below f7 k6.lt
        have F7 := F6.trans (f7.mono F6.size)
        have c0 := k7.cell 0
        have c1 := k7.cell 1
        clear k6 F6 f7
        go_wp2_with fail
        refine (hmm _).mono ?_
        rintro e w8 ⟨rfl, f8⟩
        rw [Hmy.out]
        have F8 := F7.trans (f8.mono F7.size)
        clear c0 c1 f8 F7 k7
        go_wp2_with fail
        refine (awake5_any _ (hL.below h0 F8)).mono ?_
        rintro e w9 ⟨rfl, f9⟩
        go_wp2_with fail
        go_ret
        exact ⟨rfl, F8.trans (f9.mono F8.size)⟩
    · have Hb2 := Lib.hid hb2
      clear hb2
      rw [prV_yes Hb2.out]
      have e0 := ka4.cell 0
      have e1 := ka4.cell 1
      have e2 := kb4.cell 0
      have e3 := kb4.cell 1
      clear ka4 kb4
      by_cases heq : an = bn ∧ as_ = bs
      · obtain ⟨rfl, rfl⟩ := heq
        go_wp2_with fail
        refine (parse_any l (by omega) w4 (hL.below h0 F4)).mono ?_
        rintro e w5 ⟨rfl, f5⟩
        have F5 := F4.trans (f5.mono F4.size)
        clear f5
        cases hp : parseP l with
        | none =>
          have Hp := Lib.hid hp
          clear hp
          unfold psV nmV
          go_wp2_with fail
          have F6 : Below w.heap.size w (w5.alloc (.cells #[.string (strB []), .string (strB [])] 24)) := F5.alloc F5.size _
          refine (awake5_any _ (hL.below h0 F6)).mono ?_
          rintro e w7 ⟨rfl, f7⟩
          go_wp2_with fail
          go_ret
          exact ⟨rfl, F6.trans (f7.mono F6.size)⟩
        | some q =>
          obtain ⟨ns, sa⟩ := q
          obtain ⟨hmy, hpl⟩ := parse_inv hp
          have hle := mayN_le hmy
          have hpr := fun w => print_any ns sa (by omega) (by omega) w
          have hmm := fun w => may_any ns sa (by omega) (by omega) w
          have Hmy := Lib.hid hmy
          have Hpl := Lib.hid hpl
          clear hp hmy hpl hle
          unfold psV
          unfold nmV at hpr hmm ⊢
          go_wp2_with fail
          have k6 := Blk.of_new w5 24 [.string (strB ns), .string (strB sa)]
          have F6 : Below w.heap.size w (w5.alloc (.cells #[.string (strB ns), .string (strB sa)] 24)) := F5.alloc F5.size _
          refine (hpr _).mono ?_
          rintro e w7 ⟨rfl, f7⟩
          rw [prV_yes Hmy.out, ← Hpl.out]
          have k7 := k6.below f7 k6.lt
          have F7 := F6.trans (f7.mono F6.size)
          have c0 := k7.cell 0
          have c1 := k7.cell 1
          clear k6 F6 f7
          go_wp2_with fail
          refine (hmm _).mono ?_
          rintro e w8 ⟨rfl, f8⟩
          rw [Hmy.out]
          have F8 := F7.trans (f8.mono F7.size)
          clear c0 c1 f8 F7 k7
          go_wp2_with fail
          refine (awake5_any _ (hL.below h0 F8)).mono ?_
          rintro e w9 ⟨rfl, f9⟩
          go_wp2_with fail
          go_ret
          exact ⟨rfl, F8.trans (f9.mono F8.size)⟩
      · have hne : (prN an as_ == prN bn bs) = false := by
          rw [beq_eq_false_iff_ne]
          exact fun h => heq (prN_inj Hb.out Hb2.out h)
        by_cases h5 : an = bn
        · subst h5
          have h6 : ¬ as_ = bs := fun h => heq ⟨rfl, h⟩
          clear heq
          go_wp2_with fail
          refine (parse_any l (by omega) w4 (hL.below h0 F4)).mono ?_
          rintro e w5 ⟨rfl, f5⟩
          have F5 := F4.trans (f5.mono F4.size)
          clear f5
          cases hp : parseP l with
          | none =>
            have Hp := Lib.hid hp
            clear hp
            unfold psV nmV
            go_wp2_with fail
            have F6 : Below w.heap.size w (w5.alloc (.cells #[.string (strB []), .string (strB [])] 24)) := F5.alloc F5.size _
            refine (awake5_any _ (hL.below h0 F6)).mono ?_
            rintro e w7 ⟨rfl, f7⟩
            go_wp2_with fail
            go_ret
            exact ⟨rfl, F6.trans (f7.mono F6.size)⟩
          | some q =>
            obtain ⟨ns, sa⟩ := q
            obtain ⟨hmy, hpl⟩ := parse_inv hp
            have hle := mayN_le hmy
            have hpr := fun w => print_any ns sa (by omega) (by omega) w
            have hmm := fun w => may_any ns sa (by omega) (by omega) w
            have Hmy := Lib.hid hmy
            have Hpl := Lib.hid hpl
            clear hp hmy hpl hle
            unfold psV
            unfold nmV at hpr hmm ⊢
            go_wp2_with fail
            have k6 := Blk.of_new w5 24 [.string (strB ns), .string (strB sa)]
            have F6 : Below w.heap.size w (w5.alloc (.cells #[.string (strB ns), .string (strB sa)] 24)) := F5.alloc F5.size _
            refine (hpr _).mono ?_
            rintro e w7 ⟨rfl, f7⟩
            rw [prV_yes Hmy.out, ← Hpl.out]
            have k7 := k6.below f7 k6.lt
            have F7 := F6.trans (f7.mono F6.size)
            have c0 := k7.cell 0
            have c1 := k7.cell 1
            clear k6 F6 f7
            go_wp2_with fail
            refine (hmm _).mono ?_
            rintro e w8 ⟨rfl, f8⟩
            rw [Hmy.out]
            have F8 := F7.trans (f8.mono F7.size)
            clear c0 c1 f8 F7 k7
            go_wp2_with fail
            refine (awake5_any _ (hL.below h0 F8)).mono ?_
            rintro e w9 ⟨rfl, f9⟩
            go_wp2_with fail
            go_ret
            exact ⟨rfl, F8.trans (f9.mono F8.size)⟩
        · clear heq
          go_wp2_with fail
          refine (parse_any l (by omega) w4 (hL.below h0 F4)).mono ?_
          rintro e w5 ⟨rfl, f5⟩
          have F5 := F4.trans (f5.mono F4.size)
          clear f5
          cases hp : parseP l with
          | none =>
            have Hp := Lib.hid hp
            clear hp
            unfold psV nmV
            go_wp2_with fail
            have F6 : Below w.heap.size w (w5.alloc (.cells #[.string (strB []), .string (strB [])] 24)) := F5.alloc F5.size _
            refine (awake5_any _ (hL.below h0 F6)).mono ?_
            rintro e w7 ⟨rfl, f7⟩
            go_wp2_with fail
            go_ret
            exact ⟨rfl, F6.trans (f7.mono F6.size)⟩
          | some q =>
            obtain ⟨ns, sa⟩ := q
            obtain ⟨hmy, hpl⟩ := parse_inv hp
            have hle := mayN_le hmy
            have hpr := fun w => print_any ns sa (by omega) (by omega) w
            have hmm := fun w => may_any ns sa (by omega) (by omega) w
            have Hmy := Lib.hid hmy
            have Hpl := Lib.hid hpl
            clear hp hmy hpl hle
            unfold psV
            unfold nmV at hpr hmm ⊢
            go_wp2_with fail
            have k6 := Blk.of_new w5 24 [.string (strB ns), .string (strB sa)]
            have F6 : Below w.heap.size w (w5.alloc (.cells #[.string (strB ns), .string (strB sa)] 24)) := F5.alloc F5.size _
            refine (hpr _).mono ?_
            rintro e w7 ⟨rfl, f7⟩
            rw [prV_yes Hmy.out, ← Hpl.out]
            have k7 := k6.below f7 k6.lt
            have F7 := F6.trans (f7.mono F6.size)
            have c0 := k7.cell 0
            have c1 := k7.cell 1
            clear k6 F6 f7
            go_wp2_with fail
            refine (hmm _).mono ?_
            rintro e w8 ⟨rfl, f8⟩
            rw [Hmy.out]
            have F8 := F7.trans (f8.mono F7.size)
            clear c0 c1 f8 F7 k7
            go_wp2_with fail
            refine (awake5_any _ (hL.below h0 F8)).mono ?_
            rintro e w9 ⟨rfl, f9⟩
            go_wp2_with fail
            go_ret
            exact ⟨rfl, F8.trans (f9.mono F8.size)⟩
end Go.Proofs.Ytopemhdoccgjmaa
