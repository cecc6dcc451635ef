/- The document's Cut, Parse, PrintNet, ParseNet. Conditions: texts of a million bytes at most. -/
import Derived.Test.YtddfgalofngoiaaGreatDoorAddrRefT
import Derived.Test.YtddfgalofngoiaaGreatDoorAddrRefB
namespace Go.Proofs.YtddfgalofngoiaaGreatDoor
open Go.RowKit Go.Sort
set_option linter.unusedVariables false
set_option linter.unusedSimpArgs false
theorem ext_str (l : List UInt8) (f i : Nat) : (strB l).extract f i = strB ((l.drop f).take (i - f)) := by
  unfold strB
  apply ByteArray.ext
  simp [ByteArray.data_extract]
/-- Where the document's Cut stands. -/
def CutS (c : UInt8) (l : List UInt8) (D : List (List UInt8)) (f i : Nat) : Prop := CutAt c l D f i ∨ (i = l.length + 1 ∧ D = spl c l)
theorem CutS.len {c : UInt8} {l : List UInt8} {D : List (List UInt8)} {f i : Nat} (h : CutS c l D f i) : D.length ≤ l.length + 1 ∧ i ≤ l.length + 1 := by
  have hs := spl_len c l
  rcases h with h | ⟨h1, h2⟩
  · have e := congrArg List.length h.eq
    rw [List.length_append] at e
    have := h.li
    omega
  · rw [h2]; omega
set_option maxRecDepth 100000 in
set_option maxHeartbeats 4000000 in
theorem refCut_any (l : List UInt8) (c : UInt8) (hl : l.length ≤ 1000000) (w : World) :
    Calls Tryz.prog 46 #[.string (strB l), .int .u8 (c.toNat : Int)] w fun e w' => ∃ A n cp, e = .returned (.slice A n cp) ∧ RdR sC 1 w' w'.heap.size A n (spl c l) ∧ Below w.heap.size w w' := by
  have zz : (strB l).size = l.length := strB_size l
  have HG : ∀ (k : Nat) (h : k < l.length) (h' : k < (strB l).size), (strB l)[k] = l[k] := fun k h h' => rfl
  have HX : ∀ f i : Nat, (strB l).extract f i = strB ((l.drop f).take (i - f)) := ext_str l
  obtain ⟨s, hs⟩ : ∃ s, strB l = s := ⟨_, rfl⟩
  rw [hs] at zz HX ⊢
  have HG' : ∀ (k : Nat) (h : k < l.length) (h' : k < s.size), s[k] = l[k] := by subst hs; exact HG
  clear HG hs
  have HG := HG'
  clear HG'
  have HG2 := Lib.hid HG
  have HX2 := Lib.hid HX
  clear HG HX
  have zz2 : s.size ≤ 1000000 := by omega
  have HZ := Lib.hid zz; clear zz
  have hcb : c.toNat < 256 := c.toNat_lt
  go_enter Tryz.func46, Tryz.ntmps46
  go_wp2_with fail
  go_loopw [5, 6, 7] (fun s5 s6 s7 wr => ∃ (D : List (List UInt8)) (f i n : Nat) (A : Option Addr) (cp : Nat), s5 = .slice A n cp ∧ D.length = n ∧ s6 = .int .i64 (f : Int) ∧ s7 = .int .i64 (i : Int) ∧ CutS c l D f i ∧ OwnR sC 1 wr w.heap.size 9 (.slice A n cp) D ∧ Below w.heap.size w wr) (fun _ _ s7 _ => l.length + 1 - (intOf s7).toNat)
  case atStart => exact ⟨[], 0, 0, 0, none, 0, rfl, rfl, rfl, rfl, .inl (cutAt_start c l), OwnR.nil, Below.refl _ _⟩
  case round =>
    obtain ⟨D, f, i, n, A, cp, rfl, hDn, rfl, rfl, hcs, o1, f1⟩ := hrel
    have hlen := hcs.len
    obtain ⟨hlen1, hlen2⟩ := hlen
    have hcap := o1.cap
    by_cases hlt : i < l.length
    · have hca : CutAt c l D f i := by
        rcases hcs with h | ⟨h, _⟩
        · exact h
        · omega
      have hfi := hca.le
      have HCA := Lib.hid hca
      clear hca hcs
      have his : i < s.size := by rw [HZ.out]; exact hlt
      have d0 : decide ((i : Int) ≤ (s.size : Int)) = true := by simp; omega
      have d1 : ((i : Int) == (s.size : Int)) = false := by rw [beq_eq_false_iff_ne]; omega
      have b0 : (0 : Int) ≤ (i : Int) := by omega
      have b1 : (i : Int) < (s.size : Int) := by omega
      have hg := HG2.out i hlt his
      obtain ⟨y, hy⟩ : ∃ y, s[i] = y := ⟨_, rfl⟩
      have hyl : l[i] = y := by rw [← hg, hy]
      have HYL := Lib.hid hyl
      have HY := Lib.hid hy
      clear hg hyl hy
      have hyb : y.toNat < 256 := y.toNat_lt
      by_cases hyc : y = c
      · have d2 : ((s[i].toNat : Int) == (c.toNat : Int)) = true := by rw [HY.out, hyc]; simp
        have hx := HX2.out f i
        obtain ⟨p, hp⟩ : ∃ p, (l.drop f).take (i - f) = p := ⟨_, rfl⟩
        rw [hp] at hx
        have HN := Lib.hid (show CutS c l (D ++ [p]) (i + 1) (i + 1) by rw [← hp]; exact .inl (cutAt_hit HCA.out hlt (by rw [HYL.out]; exact hyc)))
        clear hp
        have c0 : (0 : Int) ≤ (f : Int) := by omega
        have c1 : (f : Int) ≤ (i : Int) := by omega
        have c2 : (i : Int) ≤ (s.size : Int) := by omega
        have oz := one_str wr p (wr.heap.size + 1) (by omega)
        have hbp : Below w.heap.size wr (wr.alloc (.cells #[.string (strB p)] 9)) := (Below.refl _ _).alloc f1.size _
        go_wp2_with (first | (at_builtin; go_must (refine appendRow TS sC_len sC_one rfl rfl rfl (o1.below (Nat.le_refl _) ((Below.refl _ wr).alloc (Nat.le_refl _) _)) rfl oz (by omega) (by simp only [maxLen]; omega) hbp f1.size ?_); intro A5 c5 w5 o5 f5 g5))
        have f6 := f1.trans f5
        clear g5 oz hbp f5 f1 o1
        go_roundw
        case rel => exact ⟨D ++ [p], i + 1, i + 1, n + 1, A5, c5, rfl, by rw [List.length_append]; simp; omega, by go_num, by go_num, HN.out, o5, f6⟩
        case measure => simp [intOf]; omega
      · have d2 : ((s[i].toNat : Int) == (c.toNat : Int)) = false := by
          rw [beq_eq_false_iff_ne, HY.out]
          intro e
          exact hyc (UInt8.toNat_inj.1 (by omega))
        have HN := Lib.hid (show CutS c l D f (i + 1) from .inl (cutAt_miss HCA.out hlt (by rw [HYL.out]; exact hyc)))
        clear hyc
        go_wp2_with fail
        go_roundw
        case rel => exact ⟨D, f, i + 1, n, A, cp, rfl, hDn, rfl, by go_num, HN.out, o1, f1⟩
        case measure => simp [intOf]; omega
    · by_cases hle : i = l.length
      · subst hle
        have hca : CutAt c l D f l.length := by
          rcases hcs with h | ⟨h, _⟩
          · exact h
          · omega
        have hfi := hca.le
        have hx := HX2.out f l.length
        obtain ⟨p, hp⟩ : ∃ p, (l.drop f).take (l.length - f) = p := ⟨_, rfl⟩
        rw [hp] at hx
        have HN := Lib.hid (show CutS c l (D ++ [p]) (l.length + 1) (l.length + 1) by rw [← hp]; exact .inr ⟨rfl, cutAt_end hca⟩)
        clear hp hca hcs
        have hz := HZ.out
        rw [← hz] at hx HN hlen1 hfi ⊢
        clear hlt hlen2 hz
        have d0 : decide ((s.size : Int) ≤ (s.size : Int)) = true := by simp
        have d1 : ((s.size : Int) == (s.size : Int)) = true := by simp
        have c0 : (0 : Int) ≤ (f : Int) := by omega
        have c1 : (f : Int) ≤ (s.size : Int) := by omega
        have c2 : (s.size : Int) ≤ (s.size : Int) := by omega
        have c3 : (0 : Int) ≤ (s.size : Int) := by omega
        have oz := one_str wr p (wr.heap.size + 1) (by omega)
        have hbp : Below w.heap.size wr (wr.alloc (.cells #[.string (strB p)] 9)) := (Below.refl _ _).alloc f1.size _
        go_wp2_with (first | (at_builtin; go_must (refine appendRow TS sC_len sC_one rfl rfl rfl (o1.below (Nat.le_refl _) ((Below.refl _ wr).alloc (Nat.le_refl _) _)) rfl oz (by omega) (by simp only [maxLen]; omega) hbp f1.size ?_); intro A5 c5 w5 o5 f5 g5))
        have f6 := f1.trans f5
        clear g5 oz hbp f5 f1 o1
        go_roundw
        case rel => exact ⟨D ++ [p], s.size + 1, s.size + 1, n + 1, A5, c5, rfl, by rw [List.length_append]; simp; omega, by go_num, by go_num, HN.out, o5, f6⟩
        case measure => first | (simp [intOf]; done) | (simp [intOf]; omega)
      · have hD : D = spl c l := by
          rcases hcs with h | ⟨_, h⟩
          · have := h.li; omega
          · exact h
        have hz := HZ.out
        have d0 : decide ((i : Int) ≤ (s.size : Int)) = false := by simp; omega
        have d0' : decide (i ≤ s.size) = false := by simp; omega
        have d0'' : ¬ i ≤ s.size := by omega
        clear hz hcs
        subst hD
        have rd := o1.rd sC_len
        go_wp2_with fail
        go_ret
        exact ⟨A, n, cp, rfl, rd, f1⟩
theorem parseA_spl (l : List UInt8) : parseA l = if (spl 46 l).length = 4 then parseGo 0 (spl 46 l) else none := by
  unfold parseA
  rw [split_spl]
theorem parseGo_neg {L : List (List UInt8)} {a i : Nat} (h : i < L.length) (hs : smallS (slAt L i) 255 < 0) : parseGo a (L.drop i) = none := by
  rw [List.drop_eq_getElem_cons h, ← slAt_eq h]
  show (if _ then _ else _) = _
  rw [if_pos hs]
theorem parseGo_pos {L : List (List UInt8)} {a i v : Nat} (h : i < L.length) (hs : smallS (slAt L i) 255 = v) : parseGo a (L.drop i) = parseGo (a * 256 + v) (L.drop (i + 1)) := by
  rw [List.drop_eq_getElem_cons h, ← slAt_eq h]
  show (if _ then _ else _) = _
  rw [if_neg (by omega), hs, Int.toNat_natCast]
set_option maxRecDepth 100000 in
set_option maxHeartbeats 4000000 in
theorem refParse_any (l : List UInt8) (hl : l.length ≤ 1000000) (w : World) :
    Calls Tryz.prog 13 #[.string (strB l)] w fun e w' => e = .returned (paV (parseA l)) ∧ Below w.heap.size w w' := by
  obtain ⟨r, hr⟩ : ∃ r, parseA l = r := ⟨_, rfl⟩
  rw [hr]
  rw [parseA_spl] at hr
  have hne := spl_ne 46 l
  have hml := spl_mem_len 46 l
  have hcut := fun w => refCut_any l 46 hl w
  have hsl := spl_len 46 l
  generalize spl 46 l = L at *
  have HR := Lib.hid hr
  have hpos : 0 < L.length := by cases L with
    | nil => exact absurd rfl hne
    | cons _ _ => simp
  clear hr hne
  go_enter Tryz.func13, Tryz.ntmps13
  go_wp2_with fail
  refine (hcut w).mono ?_
  rintro _ w1 ⟨A, n, cp, rfl, rL, f1⟩
  have HLn := Lib.hid rL.1
  have hn := rL.1
  rw [hn] at hpos hsl
  clear hn
  go_wp2_with fail
  go_loopw [5, 6, 7] (fun s5 s6 _ wr => ∃ i a : Nat, i ≤ n ∧ s6 = .int .i64 (i : Int) ∧ s5 = .int .u32 (a : Int) ∧ parseGo a (L.drop i) = parseGo 0 L ∧ (i = 0 ∨ n = 4) ∧ a < 256 ^ i ∧ RdR sC 1 wr wr.heap.size A n L ∧ Below w.heap.size w wr) (fun _ s6 _ _ => n - (intOf s6).toNat)
  case atStart => exact ⟨0, 0, Nat.zero_le _, rfl, rfl, rfl, .inl rfl, by simp, rL, f1⟩
  case round =>
    clear rL f1
    obtain ⟨i, a, hin, rfl, rfl, hst, hi4, ha, rL, f1⟩ := hrel
    have HST := Lib.hid hst; clear hst
    by_cases hlt : i < n
    · have d0 : decide ((i : Int) < (n : Int)) = true := by simp; omega
      have b0 : (0 : Int) ≤ (i : Int) := by omega
      have b1 : (i : Int) < (n : Int) := by omega
      have hiL : i < L.length := by rw [HLn.out]; exact hlt
      obtain ⟨b, off, rfl, hbB, hcell⟩ := rL.str hlt
      have hxl : (slAt L i).length ≤ 1000000 := by
        have := hml (slAt L i) (by rw [slAt_eq hiL]; exact List.getElem_mem _)
        omega
      have hnum := fun w => refNumber_any (slAt L i) 255 (by omega) hxl w
      have hneg := parseGo_neg (a := a) hiL
      have hpp := fun v => parseGo_pos (a := a) (v := v) hiL
      have hsb := smallS_le (slAt L i) 255 (by omega)
      rw [HST.out] at hneg
      obtain ⟨v, hv⟩ : ∃ v, smallS (slAt L i) 255 = v := ⟨_, rfl⟩
      have hnum' : ∀ w, Calls Tryz.prog 47 #[.string (strB (slAt L i)), .int .i64 255] w fun e w' => e = .returned (.int .i64 v) ∧ Below w.heap.size w w' := by
        intro w
        have := hnum w
        rw [show ((255 : Nat) : Int) = 255 from rfl, hv] at this
        exact this
      rw [hv] at hneg hpp hsb
      generalize slAt L i = x at *
      clear hnum hv hxl hiL
      by_cases hv0 : v < 0
      · have d1 : decide (v < 0) = true := by simp; omega
        have hr2 : r = none := by
          rw [← HR.out]
          split
          · exact hneg hv0
          · rfl
        subst hr2
        clear hneg hpp
        go_wp2_with fail
        refine (hnum' _).mono ?_
        rintro _ w2 ⟨rfl, f2⟩
        have f3 := f1.trans (f2.mono f1.size)
        go_wp2_with fail
        go_ret2
        exact ⟨rfl, f3⟩
      · have d1 : decide (v < 0) = false := by simp; omega
        by_cases hn4 : n = 4
        · obtain ⟨u, rfl⟩ : ∃ u : Nat, v = u := ⟨v.toNat, by omega⟩
          have hnx := hpp u rfl
          rw [HST.out] at hnx
          have HNX := Lib.hid hnx
          have hp4 : 256 ^ i ≤ 256 ^ 3 := Nat.pow_le_pow_right (by omega) (by omega)
          have ha2 : a < 16777216 := by have : (256 : Nat) ^ 3 = 16777216 := by decide
                                        omega
          have ha3 : a * 256 + u < 256 ^ (i + 1) := by rw [Nat.pow_succ]; omega
          have HA3 := Lib.hid ha3
          have d2 : ((n : Int) != 4) = false := by rw [hn4]; rfl
          have d3 : ((n : Int) == 4) = true := by rw [hn4]; rfl
          have w1' : IntKind.u32.wrap (256 * (a : Int)) = 256 * (a : Int) := IntWalk.u32_in _ (by omega)
          have w2' : IntKind.u32.wrap (u : Int) = (u : Int) := IntWalk.u32_in _ (by omega)
          have w3' : IntKind.u32.wrap (256 * (a : Int) + (u : Int)) = 256 * (a : Int) + (u : Int) := IntWalk.u32_in _ (by omega)
          have u0 : (0 : Int) ≤ (u : Int) := by omega
          have u1 : (u : Int) ≤ 255 := by omega
          have H4 := Lib.hid hn4
          clear hneg hpp hnx ha3 hp4 hn4 hi4
          go_wp2_with fail
          refine (hnum' _).mono ?_
          rintro _ w2 ⟨rfl, f2⟩
          have f3 := f1.trans (f2.mono f1.size)
          have r3 := (rL.below f2).more f2.size
          clear rL f1 f2 hnum' hcell
          go_wp2_with fail
          go_roundw
          case rel => exact ⟨i + 1, a * 256 + u, by omega, by go_num, congrArg (Value.int .u32) (by omega), HNX.out.symm, .inr H4.out, HA3.out, r3, f3⟩
          case measure => simp [intOf]; omega
        · have d2 : ((n : Int) != 4) = true := by rw [bne_iff_ne]; omega
          have d3 : ((n : Int) == 4) = false := by rw [beq_eq_false_iff_ne]; omega
          have hr2 : r = none := by
            rw [← HR.out, if_neg (by rw [HLn.out]; exact hn4)]
          subst hr2
          clear hneg hpp hn4 hi4
          go_wp2_with fail
          refine (hnum' _).mono ?_
          rintro _ w2 ⟨rfl, f2⟩
          have f3 := f1.trans (f2.mono f1.size)
          go_wp2_with fail
          go_ret2
          exact ⟨rfl, f3⟩
    · have d0 : decide ((i : Int) < (n : Int)) = false := by simp; omega
      obtain rfl : n = i := by omega
      have hn4 : n = 4 := by omega
      have hr2 : r = some a := by
        rw [← HR.out, if_pos (by rw [HLn.out]; exact hn4), ← HST.out, List.drop_of_length_le (by rw [HLn.out]; exact Nat.le_refl _)]
        rfl
      subst hr2
      clear hn4 hi4
      go_wp2_with fail
      go_ret2
      exact ⟨rfl, f1⟩
end Go.Proofs.YtddfgalofngoiaaGreatDoor
