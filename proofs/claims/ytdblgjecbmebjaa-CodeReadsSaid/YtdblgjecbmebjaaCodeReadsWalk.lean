/- The law CodeReads, walked. No condition. -/
import Derived.Test.YtdblgjecbmebjaaReadsLaw
import Derived.Deep.CutBlock
import Derived.Test.YtdblgjecbmebjaaCodeWritesWalk
namespace Go.Proofs.Ytdblgjecbmebjaa
open Go.RowKit
set_option linter.unusedVariables false
theorem bsz {s0 : Nat} {w' w : World} (h : Below s0 w' w) (H : Hid (w'.heap.size = s0)) : s0 ≤ w.heap.size := by
  have := h.size
  have := H.out
  omega
def SameW (a b : World) : Prop := a = b
theorem raw_len (m : Int) (s : RS) : (takeS (findRaw m) [] s).1.length ≤ s.l.length := by
  unfold takeS
  split
  · simp
  · split
    · simp
    · rename_i h
      unfold findRaw at h
      split at h
      · cases h
      · injection h with h
        injection h with h _
        rw [← h, List.length_take]
        omega
theorem reads_both {s0 s2 p b pm : Nat} {l : List UInt8} {s s' : RS} {w' w5 w6 : World} {Am : Option Addr} (R : Rr w5 p b s) (hp : p < s2) (hb : l ≠ [] → b < s2) (hsl : s.l ≠ [] → l ≠ []) (hpm : s2 ≤ pm) (hm : pm < w5.heap.size) (hAm : ∀ k, isB Am k → s2 ≤ k)
    (h : RmP w5 pm Am s' w6) (F : Below s0 w' w5) (h0 : s0 ≤ s2) : Rr w6 p b s ∧ (∃ A' c', Rm w6 pm A' s'.l.length c' s' ∧ (∀ k, isB A' k → s2 ≤ k) ∧ Wrote w5 w6 pm Am A') ∧ Below s0 w' w6 := by
  obtain ⟨A', c', h1, h2⟩ := h
  have o : Off (fun k => s2 ≤ k) w5 w6 := h2.2.mono fun k _ hk => by
    rcases hk with rfl | hk
    · exact hpm
    · exact hAm k hk
  refine ⟨R.offE o (by omega) (fun hne e => by have := hb (hsl hne); omega), ⟨A', c', h1, fun k hk => ?_, h2⟩, F.trans (o.below (B := s0) (by omega) (fun k hk => Nat.le_trans h0 hk))⟩
  rcases h2.1 with rfl | ⟨g, rfl, hg⟩
  · exact hAm k hk
  · obtain ⟨y, hy, rfl⟩ := hk
    injection hy with hy
    subst hy
    simp only
    omega
set_option maxRecDepth 100000 in
set_option maxHeartbeats 4000000 in
theorem codeReads_walk (w : World) (A : Option Addr) (n c : Nat) (l : List UInt8) (r : RdB w w.heap.size A n l) (hnc : n ≤ c) (hc : c ≤ maxLen) (A2 : Option Addr) (n2 c2 : Nat) (fs : List Fd) (rf : RdF w w.heap.size A2 n2 fs) (hnc2 : n2 ≤ c2) (hc2 : c2 ≤ maxLen) (hok : ∀ f ∈ fs, FdOk f) (fa : Int) (hfa1 : -9223372036854775808 ≤ fa) (hfa2 : fa ≤ 9223372036854775807) :
    Calls Try.prog 6 #[.slice A n c, .slice A2 n2 c2, .int .i64 fa] w fun e w' => e = .returned (.bool true) ∧ Below w.heap.size w w' := by
  have hn2 : n2 ≤ 9223372036854775807 := by simp only [maxLen] at hc2; omega
  have hl := r.1
  go_enter Try.func6, Try.ntmps6
  go_wp2_with fail
  refine (long_any A2 n2 c2 fs _ w rf (fun f hf => (hok f hf).2.2.2.2.2.2.2) hn2).mono ?_
  rintro e w' ⟨rfl, rfl⟩
  by_cases hlong : 1000 < longN fs
  · have d0 : decide (1000 < longN fs) = true := by simp [hlong]
    rw [d0]
    go_wp2_with fail
    refine (awake3_any w').mono ?_
    rintro e w1 ⟨rfl, f1⟩
    go_wp2_with fail
    go_ret
    exact ⟨rfl, f1⟩
  · have d0 : decide (1000 < longN fs) = false := by simp [hlong]
    rw [d0]
    have hll : longN fs ≤ 1000 := by omega
    have hfl := list_long hll
    have hrl := rf.1
    have hso := fun f (hf : f ∈ fs) => size_of hll hf
    clear hlong
    by_cases hbig : 20000 < n
    · have d1 : decide ((20000 : Int) < (n : Int)) = true := by simp; omega
      go_wp2_with fail
      refine (awake3_any w').mono ?_
      rintro e w1 ⟨rfl, f1⟩
      go_wp2_with fail
      go_ret
      exact ⟨rfl, f1⟩
    · have d1 : decide ((20000 : Int) < (n : Int)) = false := by simp; omega
      have hn3 : n ≤ 20000 := by omega
      have ra := r.below ((Below.refl _ w').alloc (Nat.le_refl _) (.cells #[] 5))
      clear hbig
      go_wp2_with (at_builtin; go_must (refine appendR T23 rfl rfl rfl (OwnB.of_blk (l := []) (Blk.of_new w' _ _) (Nat.le_refl _) rfl (by simp [maxLen])) rfl ra (by omega) ((Below.refl _ w').alloc (Nat.le_refl _) _) (Nat.le_refl _) ?_); intro Ao co w1 o1 f1 _)
      rw [Nat.zero_add, List.nil_append] at o1
      have hs1 := f1.size
      clear ra
      refine (newReader_any Ao n co l w1 o1.rd (by omega)).mono ?_
      rintro e w2 ⟨p, b, hp, hb, rfl, R, f2⟩
      have tp := R.plt
      have tb : l ≠ [] → b < w2.heap.size := fun h => R.blt h
      have Tb := Lib.hid tb
      clear tb
      have hs2 := f2.size
      have hol : ∀ k, isB Ao k → k < w1.heap.size := fun k hk => (o1.isB_lt hk).2
      replace o1 := o1.below (Nat.le_refl _) f2
      have F2 := f1.trans (f2.mono hs1)
      have ra := (r.below F2).below ((Below.refl w'.heap.size w2).alloc (by omega) (.cells #[] 5))
      clear f1 f2
      go_wp2_with (at_builtin; go_must (refine appendR T23 rfl rfl rfl (OwnB.of_blk (l := []) (Blk.of_new w2 _ _) (Nat.le_refl _) rfl (by simp [maxLen])) rfl ra (by omega) ((Below.refl _ w2).alloc (Nat.le_refl _) _) (Nat.le_refl _) ?_); intro Am cm w3 o3 f3 _)
      rw [Nat.zero_add, List.nil_append] at o3
      have hs3 := f3.size
      have R3 := R.offE (Off.of_below f3) (fun h => by have h' : w2.heap.size ≤ p := h; omega) (fun hne h => by have h' : w2.heap.size ≤ b := h; have := Tb.out hne; omega)
      have o1' := o1.below (Nat.le_refl _) f3
      have F3 := F2.trans (f3.mono F2.size)
      have hso0 : w'.heap.size ≤ w1.heap.size := hs1
      obtain ⟨s0, hs0⟩ : ∃ s0, w'.heap.size = s0 := ⟨_, rfl⟩
      obtain ⟨s1, hs1e⟩ : ∃ s1, w1.heap.size = s1 := ⟨_, rfl⟩
      obtain ⟨s2, hs2e⟩ : ∃ s2, w2.heap.size = s2 := ⟨_, rfl⟩
      obtain ⟨pm, hpm⟩ : ∃ pm, w3.heap.size = pm := ⟨_, rfl⟩
      refine abs (fun w4 => OwnB w4 s0 5 (.slice Ao n co) l ∧ Rr w4 p b ⟨l, false⟩ ∧ Rm w4 pm Am n cm ⟨l, false⟩ ∧ (∀ k, isB Am k → s2 ≤ k) ∧ Below s0 w' w4) ⟨?_, ?_, ?_, ?_, ?_⟩ ?_
      · rw [← hs0]; exact o1'.alloc _
      · exact R3.below ((Below.refl _ w3).alloc (Nat.le_refl _) _)
      · exact ⟨Blk.newAt hpm _ _, (o3.alloc _).base_le (Nat.zero_le _)⟩
      · intro k hk
        rw [← hs2e]
        exact (o3.isB_lt hk).1
      · rw [← hs0]; exact F3.alloc F3.size _
      rw [hs1e] at hol hp hb hs2
      rw [hs2e] at Tb tp hs2
      have hp2 : s2 ≤ pm := by omega
      have h01 : s0 ≤ s1 := by omega
      rw [hpm]
      rw [hs0] at r rf
      clear R R3 o1 o1' o3 ra F2 F3 f3 hs3 hs1 hso0 hs1e hs2e hpm
      have HS0 := Lib.hid hs0
      clear hs0
      rintro w4 ⟨o1, R, M, hAm, F⟩
      go_loopw [10] (fun i wr => ∃ (q : Nat) (L' : List UInt8), i = .int .i64 q ∧ q ≤ n ∧ OwnB wr s0 5 (.slice Ao n co) L' ∧ Rr wr p b ⟨l, false⟩ ∧ Rm wr pm Am n cm ⟨l, false⟩ ∧ Below s0 w' wr) (fun i _ => n - (intOf i).toNat)
      case atStart => exact ⟨0, l, rfl, Nat.zero_le _, o1, R, M, F⟩
      case round =>
        clear o1 R M F
        obtain ⟨q, L', rfl, hq, o1, R, M, F⟩ := hrel
        by_cases hlt : q < n
        · have d2 : decide ((q : Int) < (n : Int)) = true := by simp; omega
          have b3 : (0 : Int) ≤ (q : Int) := by omega
          have b4 : (q : Int) < (n : Int) := by omega
          obtain ⟨g, rfl, hg, hz⟩ := o1.addr (by omega)
          have hLl := o1.len
          have hg1 := hol g ⟨_, rfl, rfl⟩
          have c1 := o1.cell (j := q) (by omega)
          have z1 := hz q
          have ob2 := o1.setByte hlt (L'[q] + 1)
          unfold bv at c1 ob2
          rw [← byte_inc] at ob2
          have oS : Off (fun k => k = g) wr (wr.setCell ⟨g, q, none⟩ (.int .u8 (((L'[q].toNat : Int) + 1) % 256))) := (Off.refl (fun k => k = g) wr).setCell (p := ⟨g, q, none⟩) (fun _ => rfl) _
          have R2 := R.off oS (fun h => by have h' : p = g := h; omega) (fun h => by have h' : b = g := h; omega)
          have M2 := M.off oS (fun h => by have h' : pm = g := h; omega) (fun k hk h => by have h' : k = g := h; have := hAm k hk; omega)
          have F2 := F.trans (oS.below (B := s0) (by have := bsz F HS0; omega) (fun k hk => by have h' : k = g := hk; omega))
          clear o1 R M F oS hz
          have HL2 := Lib.hid ob2
          clear ob2
          generalize L'[q].toNat = C at *
          go_wp2_with fail
          go_roundw
          case rel => exact ⟨q + 1, _, by go_num, by omega, HL2.out, R2, M2, F2⟩
          case measure => simp [intOf]; omega
        · have d2 : decide ((q : Int) < (n : Int)) = false := by simp; omega
          clear o1
          go_wp2_with fail
          go_loopw [11] (fun i wr => ∃ (j : Nat) (s : RS) (Am : Option Addr) (cm : Nat), i = .int .i64 j ∧ j ≤ n2 ∧ s.l.length ≤ n ∧ (s.l ≠ [] → l ≠ []) ∧ Rr wr p b s ∧ Rm wr pm Am s.l.length cm s ∧ (∀ k, isB Am k → s2 ≤ k) ∧ Below s0 w' wr) (fun i _ => n2 - (intOf i).toNat)
          case atStart => exact ⟨0, ⟨l, false⟩, Am, cm, rfl, Nat.zero_le _, by simp only; omega, id, R, by simp only; rw [hl]; exact M, hAm, F⟩
          case round =>
            clear R M F hAm
            obtain ⟨j, s, Am, cm, rfl, hj, hsn, hsl, R, M, hAm, F⟩ := hrel
            by_cases hlt2 : j < n2
            · have d3 : decide ((j : Int) < (n2 : Int)) = true := by simp; omega
              have b3 : (0 : Int) ≤ (j : Int) := by omega
              have b4 : (j : Int) < (n2 : Int) := by omega
              obtain ⟨bf, off, f, hA, hbf, hf, q0, q1, q2, q3, q4⟩ := (rf.below F).at_ hlt2
              subst hA
              have hfm := List.mem_of_getElem? hf
              have hfk := hok f hfm
              go_wp2_with fail
              refine absC (fun w3 => Blk w3 wr.heap.size 32 f.cells ∧ Rr w3 p b s ∧ Rm w3 pm Am s.l.length cm s ∧ Below s0 w' w3) ⟨Blk.newAt rfl _ _, R.below ((Below.refl _ wr).alloc (Nat.le_refl _) _), M.below ((Below.refl _ wr).alloc (Nat.le_refl _) _), F.alloc (by have := bsz F HS0; omega) _⟩ ?_
              have hpmr := M.1.lt
              have hAlt : ∀ k, isB Am k → k < wr.heap.size := fun k hk => (M.2.isB_lt hk).2
              have hF0 : s0 ≤ wr.heap.size := by have := bsz F HS0; omega
              generalize hgg : wr.heap.size = gg at *
              clear R M F q0 q1 q2 q3 q4 hgg
              rintro w3 ⟨k3, R, M, F3⟩
              refine (kind_any f w3).mono ?_
              rintro e w4 ⟨rfl, f4⟩
              replace k3 := k3.below f4 k3.lt
              replace R := R.below f4
              replace M := M.below f4
              replace F3 := F3.trans (f4.mono (by have := bsz F3 HS0; omega))
              clear f4
              have c1 : w4.cell? ⟨gg, 1, none⟩ = some (.int .i64 f.most) := k3.cell 1
              have hm1 := hfk.2.2.1
              have hm2 := hfk.2.2.2.1
              have hlen : s.l.length ≤ 20000 := by omega
              have hk := fk_lt f
              have hg4 := k3.lt
              have Hsn := Lib.hid hsn
              clear hsn hfk
              generalize hK : fk f = K at *
              clear hK
              go_upto_block 4 with fail
              go_cut [13] (fun s13 wx => s13 = .bool true ∧ (∃ (s' : RS) (Am' : Option Addr) (cm' : Nat), s'.l.length ≤ n ∧ (s'.l ≠ [] → l ≠ []) ∧ Rr wx p b s' ∧ Rm wx pm Am' s'.l.length cm' s' ∧ (∀ k, isB Am' k → s2 ≤ k) ∧ Below s0 w' wx))
              case first =>
                rcases K with _ | _ | _ | _ | _ | K
                · skip
                  have hlt := u8_lt s
                  have hle := takeS_len (findU8) 0 s
                  have hne := takeS_ne (findU8) 0 s
                  have hwd := u8_wide s
                  generalize hX : takeS (findRaw (1 : Nat)) [] s = X at *
                  generalize hY : wideN X.1 X.1.length = Y at *
                  have HX := Lib.hid hX
                  have HY := Lib.hid hY
                  clear hX hY
                  rw [hwd] at hlt hle hne
                  simp only at hlt hle hne
                  have HW := Lib.hid hwd
                  clear hwd
                  have hwr := wrap_small (v := (Y : Int)) (by omega) (by omega)
                  have HN := Lib.hid hne
                  have HL := Lib.hid hle
                  clear hne hle
                  go_wp2_with fail
                  refine (rU8_any p b _ w4 R).mono ?_
                  rintro e w5 ⟨rfl, R5, g5⟩
                  rw [HW.out] at R5 ⊢
                  simp only at R5 ⊢
                  have M5 := M.off g5 (by omega) (fun k hk e => by have e' : k = p := e; have := hAm k hk; omega)
                  have F5 := F3.trans (Below.one g5 (by omega) (by omega))
                  clear R M F3 c1 k3
                  have hs5 := g5.size
                  go_wp2_with fail
                  refine (refWide_any pm Am _ cm _ 1 (by omega) w5 M5 (by omega)).mono ?_
                  rintro e w6 ⟨rfl, hp6⟩
                  rw [HX.out] at hp6 ⊢
                  rw [HY.out]
                  obtain ⟨R6, ⟨A6, c6, M6, hA6, _⟩, F6⟩ := reads_both R5 (by omega) (fun h => Tb.out h) (fun h => hsl (HN.out h)) hp2 (by omega) hAm hp6 F5 (by omega)
                  clear hp6 R5 M5 F5 g5
                  go_wp2_with fail
                  go_meet
                  exact ⟨rfl, X.2, A6, c6, Nat.le_trans HL.out Hsn.out, fun h => hsl (HN.out h), R6, M6, hA6, F6⟩
                · skip
                  have hlt := u32_lt s
                  have hle := takeS_len (findU32) 0 s
                  have hne := takeS_ne (findU32) 0 s
                  have hwd := u32_wide s
                  generalize hX : takeS (findRaw (4 : Nat)) [] s = X at *
                  generalize hY : wideN X.1 X.1.length = Y at *
                  have HX := Lib.hid hX
                  have HY := Lib.hid hY
                  clear hX hY
                  rw [hwd] at hlt hle hne
                  simp only at hlt hle hne
                  have HW := Lib.hid hwd
                  clear hwd
                  have hwr := wrap_small (v := (Y : Int)) (by omega) (by omega)
                  have HN := Lib.hid hne
                  have HL := Lib.hid hle
                  clear hne hle
                  go_wp2_with fail
                  refine (rU32_any p b _ w4 R).mono ?_
                  rintro e w5 ⟨rfl, R5, g5⟩
                  rw [HW.out] at R5 ⊢
                  simp only at R5 ⊢
                  have M5 := M.off g5 (by omega) (fun k hk e => by have e' : k = p := e; have := hAm k hk; omega)
                  have F5 := F3.trans (Below.one g5 (by omega) (by omega))
                  clear R M F3 c1 k3
                  have hs5 := g5.size
                  go_wp2_with fail
                  refine (refWide_any pm Am _ cm _ 4 (by omega) w5 M5 (by omega)).mono ?_
                  rintro e w6 ⟨rfl, hp6⟩
                  rw [HX.out] at hp6 ⊢
                  rw [HY.out]
                  obtain ⟨R6, ⟨A6, c6, M6, hA6, _⟩, F6⟩ := reads_both R5 (by omega) (fun h => Tb.out h) (fun h => hsl (HN.out h)) hp2 (by omega) hAm hp6 F5 (by omega)
                  clear hp6 R5 M5 F5 g5
                  go_wp2_with fail
                  go_meet
                  exact ⟨rfl, X.2, A6, c6, Nat.le_trans HL.out Hsn.out, fun h => hsl (HN.out h), R6, M6, hA6, F6⟩
                · skip
                  have hlt := short_lt s
                  have hle := takeS_len (findShort) 0 s
                  have hne := takeS_ne (findShort) 0 s
                  generalize hX : takeS findShort 0 s = X at *
                  have HX := Lib.hid hX
                  clear hX
                  have HN := Lib.hid hne
                  have HL := Lib.hid hle
                  clear hne hle
                  go_wp2_with fail
                  refine (rUint_any p b _ w4 R).mono ?_
                  rintro e w5 ⟨rfl, R5, g5⟩
                  rw [HX.out] at R5 ⊢
                  have M5 := M.off g5 (by omega) (fun k hk e => by have e' : k = p := e; have := hAm k hk; omega)
                  have F5 := F3.trans (Below.one g5 (by omega) (by omega))
                  clear R M F3 c1 k3
                  have hs5 := g5.size
                  go_wp2_with fail
                  refine (refUint_any pm Am _ cm _ w5 M5 (by omega)).mono ?_
                  rintro e w6 ⟨rfl, hp6⟩
                  rw [HX.out] at hp6 ⊢
                  obtain ⟨R6, ⟨A6, c6, M6, hA6, _⟩, F6⟩ := reads_both R5 (by omega) (fun h => Tb.out h) (fun h => hsl (HN.out h)) hp2 (by omega) hAm hp6 F5 (by omega)
                  clear hp6 R5 M5 F5 g5
                  go_wp2_with fail
                  go_meet
                  exact ⟨rfl, X.2, A6, c6, Nat.le_trans HL.out Hsn.out, fun h => hsl (HN.out h), R6, M6, hA6, F6⟩
                · skip
                  have hle := takeS_len (findText f.most) [] s
                  have hne := takeS_ne (findText f.most) [] s
                  generalize hX : takeS (findText f.most) [] s = X at *
                  have HX := Lib.hid hX
                  have HN := Lib.hid hne
                  have HL := Lib.hid hle
                  clear hne hle hX
                  go_wp2_with fail
                  refine wp_region_order (fun u => u.cell? ⟨gg, 1, none⟩ = some (.int .i64 f.most)) 99 [(0,0), (1,0), (2,0), (4,0), (5,0), (6,0), (3,1), (7,1), (8,1), (9,1)] (by kernel_rfl) (by kernel_rfl) ?_
                  simp only [pick, List.filterMap_cons, List.filterMap_nil, List.getElem?_cons_zero, List.getElem?_cons_succ, Option.map_some]
                  have hS : w4.drew.cell? ⟨gg, 1, none⟩ = some (.int .i64 f.most) := c1
                  have k3' : Blk w4.drew gg 32 f.cells := k3
                  have R' : Rr w4.drew p b s := R
                  have M' : Rm w4.drew pm Am s.l.length cm s := M
                  have F3' : Below s0 w' w4.drew := F3.drew
                  have hg4' : gg < w4.drew.heap.size := hg4
                  clear R M F3 c1 k3 hg4
                  refine wpF_take (v := ?_) hS rfl ?_ (fun _ _ _ h => h) ?_
                  rotate_left
                  · intro w' hS'
                    obtain e0 := hS'
                    go_simp <;> rfl
                  go_simp
                  refine wpF_take (v := ?_) hS rfl ?_ (fun _ _ _ h => h) ?_
                  rotate_left
                  · intro w' hS'
                    obtain e0 := hS'
                    go_simp <;> rfl
                  go_simp
                  refine wpF_take (v := ?_) hS rfl ?_ (fun _ _ _ h => h) ?_
                  rotate_left
                  · intro w' hS'
                    obtain e0 := hS'
                    go_simp <;> rfl
                  go_simp
                  refine wpF_take (v := ?_) hS rfl ?_ (fun _ _ _ h => h) ?_
                  rotate_left
                  · intro w' hS'
                    obtain e0 := hS'
                    go_simp <;> rfl
                  go_simp
                  refine wpF_take (v := ?_) hS rfl ?_ (fun _ _ _ h => h) ?_
                  rotate_left
                  · intro w' hS'
                    obtain e0 := hS'
                    go_simp <;> rfl
                  go_simp
                  refine wpF_take (v := ?_) hS rfl ?_ (fun _ _ _ h => h) ?_
                  rotate_left
                  · intro w' hS'
                    obtain e0 := hS'
                    go_simp <;> rfl
                  go_simp
                  refine wpF_only rfl (fun K hK => ?_)
                  go_wp2_with fail
                  refine (rText_any p b _ f.most _ R' (by omega) hm1 hm2).mono ?_
                  rintro e w5 ⟨rfl, R5, g5⟩
                  rw [HX.out] at R5 ⊢
                  have k5 := k3'.off g5 (by omega)
                  have hS5 : w5.cell? ⟨gg, 1, none⟩ = some (.int .i64 f.most) := k5.cell 1
                  have M5 := M'.off g5 (by omega) (fun k hk e => by have e' : k = p := e; have := hAm k hk; omega)
                  have F5 := F3'.trans (Below.one g5 (by have := bsz F3' HS0; omega) (by omega))
                  have hs5 := g5.size
                  clear R' M' F3' k3' hS g5
                  go_wp2_with fail
                  first | refine ⟨fun _ => hS5, ?_⟩ | skip
                  go_simp
                  refine wpF_only rfl (fun K hK => ?_)
                  go_wp2_with fail
                  refine (refRText_any pm Am _ cm _ f.most _ M5 (by omega) hm1 hm2).mono ?_
                  rintro e w6 ⟨rfl, hp6⟩
                  rw [HX.out] at hp6 ⊢
                  obtain ⟨R6, ⟨A6, c6, M6, hA6, d6⟩, F6⟩ := reads_both R5 (by omega) (fun h => Tb.out h) (fun h => hsl (HN.out h)) hp2 (by omega) hAm hp6 F5 (by omega)
                  have k6 := k5.off d6.2 (fun h => by
                    rcases h with h | h
                    · omega
                    · have := hAlt _ h
                      omega)
                  have hS6 : w6.cell? ⟨gg, 1, none⟩ = some (.int .i64 f.most) := k6.cell 1
                  clear hp6 R5 M5 F5 k5 hS5 d6 k6
                  go_wp2_with fail
                  first | refine ⟨fun _ => hS6, ?_⟩ | skip
                  go_simp
                  refine wpF_only rfl (fun K hK => ?_)
                  go_wp2_with fail
                  first | refine ⟨fun _ => hS6, ?_⟩ | skip
                  go_simp
                  refine wpF_nil ?_
                  go_wp2_with fail
                  go_meet
                  exact ⟨rfl, X.2, A6, c6, Nat.le_trans HL.out Hsn.out, fun h => hsl (HN.out h), R6, M6, hA6, F6⟩
                · skip
                  have hle := takeS_len (findRaw f.most) [] s
                  have hne := takeS_ne (findRaw f.most) [] s
                  have hrl := raw_len f.most s
                  generalize hX : takeS (findRaw f.most) [] s = X at *
                  have HX := Lib.hid hX
                  have HN := Lib.hid hne
                  have HL := Lib.hid hle
                  clear hne hle hX
                  go_wp2_with fail
                  refine (rRaw_any p b _ f.most w4 R (by omega)).mono ?_
                  rintro e w5 ⟨A3, n3, c3, rfl, o3, R5, g5⟩
                  rw [HX.out] at o3 R5
                  have k5 := k3.off g5 (by omega)
                  have M5 := M.off g5 (by omega) (fun k hk e => by have e' : k = p := e; have := hAm k hk; omega)
                  have F5 := F3.trans (Below.one g5 (by have := bsz F3 HS0; omega) (by omega))
                  have hs5 := g5.size
                  clear R M F3 k3 c1 g5
                  obtain ⟨s4, hs4⟩ : ∃ s4, w4.heap.size = s4 := ⟨_, rfl⟩
                  rw [hs4] at o3 hs5 hg4
                  clear hs4
                  have h3lt : ∀ k, isB A3 k → s4 ≤ k ∧ k < w5.heap.size := fun k hk => o3.isB_lt hk
                  have hpm5 := M5.1.lt
                  have h3l := o3.len
                  have hn20 : n3 ≤ 20000 := by omega
                  clear h3l
                  go_wp2_with fail
                  refine wp_region_order (fun u => u.cell? ⟨gg, 1, none⟩ = some (.int .i64 f.most) ∧ OwnB u s4 5 (.slice A3 n3 c3) X.1) 99 [(0,0), (1,0), (2,0), (3,0), (4,0), (5,1), (6,1), (7,1), (8,1)] (by kernel_rfl) (by kernel_rfl) ?_
                  simp only [pick, List.filterMap_cons, List.filterMap_nil, List.getElem?_cons_zero, List.getElem?_cons_succ, Option.map_some]
                  have hS : w5.drew.cell? ⟨gg, 1, none⟩ = some (.int .i64 f.most) ∧ OwnB w5.drew s4 5 (.slice A3 n3 c3) X.1 := ⟨k5.cell 1, o3⟩
                  have k5' : Blk w5.drew gg 32 f.cells := k5
                  have R5' : Rr w5.drew p b X.2 := R5
                  have M5' : Rm w5.drew pm Am s.l.length cm s := M5
                  have F5' : Below s0 w' w5.drew := F5.drew
                  have h3lt' : ∀ k, isB A3 k → s4 ≤ k ∧ k < w5.drew.heap.size := h3lt
                  have hpm5' : pm < w5.drew.heap.size := hpm5
                  have hs5' : s4 ≤ w5.drew.heap.size := hs5
                  clear R5 M5 F5 k5 o3 h3lt hpm5 hs5
                  refine wpF_take (v := ?_) hS rfl ?_ (fun _ _ _ h => h) ?_
                  rotate_left
                  · intro w' hS'
                    obtain ⟨e0, _⟩ := hS'
                    go_simp <;> rfl
                  go_simp
                  refine wpF_take (v := .string (strB X.1)) hS rfl (fun u hS' => ?_) (fun _ _ _ h => h) ?_
                  · have := run_str T23 hS'.2.rd c3 _ Try.underlying9
                    go_simp <;> rw [this]
                  go_simp
                  refine wpF_take (v := ?_) hS rfl ?_ (fun _ _ _ h => h) ?_
                  rotate_left
                  · intro w' hS'
                    obtain ⟨e0, _⟩ := hS'
                    go_simp <;> rfl
                  go_simp
                  refine wpF_take (v := ?_) hS rfl ?_ (fun _ _ _ h => h) ?_
                  rotate_left
                  · intro w' hS'
                    obtain ⟨e0, _⟩ := hS'
                    go_simp <;> rfl
                  go_simp
                  refine wpF_take (v := ?_) hS rfl ?_ (fun _ _ _ h => h) ?_
                  rotate_left
                  · intro w' hS'
                    obtain ⟨e0, _⟩ := hS'
                    go_simp <;> rfl
                  go_simp
                  refine wpF_only rfl (fun K hK => ?_)
                  go_wp2_with fail
                  refine (refRaw_any pm Am _ cm _ f.most _ M5' (by omega)).mono ?_
                  rintro e w6 ⟨A7, n7, c7, rfl, o7, hp6⟩
                  rw [HX.out] at hp6 o7
                  have kc : (convert 28 9 (.slice A7 n7 c7)).run Try.prog w6 = .ok (.string (strB X.1)) w6 := o7.str
                  obtain ⟨R6, ⟨A6, c6, M6, hA6, d6⟩, F6⟩ := reads_both R5' (by omega) (fun h => Tb.out h) (fun h => hsl (HN.out h)) hp2 hpm5' hAm hp6 F5' (by omega)
                  have k6 := k5'.off d6.2 (fun h => by
                    rcases h with h | h
                    · omega
                    · have := hAlt _ h
                      omega)
                  have o6 := hS.2.off d6.2 (fun k hk h => by
                    have h1 := h3lt' k hk
                    rcases h with h | h
                    · omega
                    · have := hAlt _ h
                      omega)
                  have hap : ∀ k, isB A3 k → ¬ isB A6 k := fun k hk h => by
                    have h1 := h3lt' k hk
                    rcases d6.1 with rfl | ⟨g, rfl, hg⟩
                    · have := hAlt _ h
                      omega
                    · obtain ⟨y, hy, rfl⟩ := h
                      injection hy with hy
                      subst hy
                      simp only at h1
                      omega
                  have hS6 : w6.cell? ⟨gg, 1, none⟩ = some (.int .i64 f.most) ∧ OwnB w6 s4 5 (.slice A3 n3 c3) X.1 := ⟨k6.cell 1, o6⟩
                  have hA3 : ∀ k, isB A3 k → s4 ≤ k := fun k hk => (h3lt' k hk).1
                  have hs6 := F6.size
                  clear hp6 R5' M5' F5' k5' hS d6 k6 o6 o7 h3lt' hpm5'
                  go_wp2_with fail
                  first | refine ⟨fun _ => hS6, ?_⟩ | skip
                  go_simp
                  refine wpF_only rfl (fun K hK => ?_)
                  go_wp2_with fail
                  first | refine ⟨fun _ => hS6, ?_⟩ | skip
                  go_simp
                  refine wpF_only rfl (fun K hK => ?_)
                  go_wp2_with fail
                  first | refine ⟨fun _ => hS6, ?_⟩ | skip
                  go_simp
                  refine wpF_nil ?_
                  have o6 := hS6.2
                  clear hS6 kc
                  go_wp2_with fail
                  go_loopw [15] (fun i wz => ∃ (q : Nat) (L' : List UInt8), i = .int .i64 q ∧ q ≤ n3 ∧ OwnB wz s4 5 (.slice A3 n3 c3) L' ∧ Rr wz p b X.2 ∧ Rm wz pm A6 X.2.l.length c6 X.2 ∧ Below s0 w' wz) (fun i _ => n3 - (intOf i).toNat)
                  case atStart => exact ⟨0, X.1, rfl, Nat.zero_le _, o6, R6, M6, F6⟩
                  case round =>
                    clear o6 R6 M6 F6
                    obtain ⟨q, L', rfl, hq, o1, R, M, F⟩ := hrel
                    by_cases hlq : q < n3
                    · have d4 : decide ((q : Int) < (n3 : Int)) = true := by simp; omega
                      have b5 : (0 : Int) ≤ (q : Int) := by omega
                      have b6 : (q : Int) < (n3 : Int) := by omega
                      obtain ⟨g, rfl, hg, hz⟩ := o1.addr (by omega)
                      have hLl := o1.len
                      have hg1 := hA3 g ⟨_, rfl, rfl⟩
                      have hg2 := hap g ⟨_, rfl, rfl⟩
                      have c1 := o1.cell (j := q) (by omega)
                      have z1 := hz q
                      have ob2 := o1.setByte hlq (L'[q] + 1)
                      unfold bv at c1 ob2
                      rw [← byte_inc] at ob2
                      have oS : Off (fun k => k = g) wr (wr.setCell ⟨g, q, none⟩ (.int .u8 (((L'[q].toNat : Int) + 1) % 256))) := (Off.refl (fun k => k = g) wr).setCell (p := ⟨g, q, none⟩) (fun _ => rfl) _
                      have R2 := R.offE oS (fun h => by have h' : p = g := h; omega) (fun hne h => by have h' : b = g := h; have := Tb.out (hsl (HN.out hne)); omega)
                      have M2 := M.off oS (fun h => by have h' : pm = g := h; omega) (fun k hk h => by have h' : k = g := h; subst h'; exact hg2 hk)
                      have F2 := F.trans (oS.below (B := s0) (by have := bsz F HS0; omega) (fun k hk => by have h' : k = g := hk; omega))
                      clear o1 R M F oS hz
                      have HL2 := Lib.hid ob2
                      clear ob2
                      generalize L'[q].toNat = C at *
                      go_wp2_with fail
                      go_roundw
                      case rel => exact ⟨q + 1, _, by go_num, by omega, HL2.out, R2, M2, F2⟩
                      case measure => simp [intOf]; omega
                    · have d4 : decide ((q : Int) < (n3 : Int)) = false := by simp; omega
                      clear o1
                      go_wp2_with fail
                      go_meet
                      exact ⟨rfl, X.2, A6, c6, Nat.le_trans HL.out Hsn.out, fun h => hsl (HN.out h), R, M, hA6, F⟩
                · omega
              case rest =>
                obtain ⟨rfl, s', Am', cm', hsn', hsl', R, M, hAm', F⟩ := hcut
                obtain ⟨l', st⟩ := s'
                simp only at hsn' hsl' M
                have hpm' := M.1.lt
                rename World => wt
                by_cases hfa : (j : Int) = fa
                · have e1 : ((j : Int) == fa) = true := by simp [hfa]
                  clear hfa
                  go_wp2_with fail
                  refine (fail_any p b _ wt R).mono ?_
                  rintro e wf ⟨rfl, Rf, gf⟩
                  have Mf := M.off gf (by omega) (fun k hk e => by have e' : k = p := e; have := hAm' k hk; omega)
                  have Ff := F.trans (Below.one gf (by have := bsz F HS0; omega) (by omega))
                  have z1 := Mf.1.frozen 1
                  have c9 := Mf.1.cell 1
                  have hb6 := reads_both Rf (by omega) (fun h => Tb.out h) hsl' hp2 Mf.1.lt hAm' (Mf.setB true) Ff (by omega)
                  clear R M F gf Rf Mf Ff
                  go_upto_region 33 with fail
                  refine abs (fun w6 => Rr w6 p b ⟨l', true⟩ ∧ (∃ A' c', Rm w6 pm A' l'.length c' ⟨l', true⟩ ∧ (∀ k, isB A' k → s2 ≤ k)) ∧ Below s0 w' w6) ?_ ?_
                  · obtain ⟨h1, ⟨A', c', h2, h3, _⟩, h4⟩ := hb6
                    exact ⟨h1, ⟨A', c', h2, h3⟩, h4⟩
                  clear hb6 z1 c9 hAm'
                  rintro wt ⟨R, ⟨Am', cm', M, hAm'⟩, F⟩
                  have c0 := M.1.cell 0
                  have c1 := M.1.cell 1
                  go_wp2_with fail
                  refine wp_region_order (fun u => SameW u wt.drew) 99 [(0,0), (1,0), (2,0), (3,0), (5,0), (6,0), (7,0), (8,0), (9,0), (4,1), (10,0), (11,0), (12,0), (13,0), (16,0), (17,0), (18,0), (19,0), (14,1), (15,0), (20,0), (21,0)] (by kernel_rfl) (by kernel_rfl) ?_
                  simp only [pick, List.filterMap_cons, List.filterMap_nil, List.getElem?_cons_zero, List.getElem?_cons_succ, Option.map_some]
                  have hS : SameW wt.drew wt.drew := rfl
                  have R' : Rr wt.drew p b ⟨l', true⟩ := R
                  refine wpF_take (v := ?_) hS rfl ?_ (fun _ _ _ h => h) ?_
                  rotate_left
                  · intro w' hS'
                    obtain rfl := hS'
                    go_simp <;> rfl
                  go_simp
                  refine wpF_take (v := ?_) hS rfl ?_ (fun _ _ _ h => h) ?_
                  rotate_left
                  · intro w' hS'
                    obtain rfl := hS'
                    go_simp <;> rfl
                  go_simp
                  refine wpF_take (v := ?_) hS rfl ?_ (fun _ _ _ h => h) ?_
                  rotate_left
                  · intro w' hS'
                    obtain rfl := hS'
                    go_simp <;> rfl
                  go_simp
                  refine wpF_take (v := ?_) hS rfl ?_ (fun _ _ _ h => h) ?_
                  rotate_left
                  · intro w' hS'
                    obtain rfl := hS'
                    go_simp <;> rfl
                  go_simp
                  refine wpF_take (v := ?_) hS rfl ?_ (fun _ _ _ h => h) ?_
                  rotate_left
                  · intro w' hS'
                    obtain rfl := hS'
                    go_simp <;> rfl
                  go_simp
                  refine wpF_take (v := ?_) hS rfl ?_ (fun _ _ _ h => h) ?_
                  rotate_left
                  · intro w' hS'
                    obtain rfl := hS'
                    go_simp <;> rfl
                  go_simp
                  refine wpF_take (v := ?_) hS rfl ?_ (fun _ _ _ h => h) ?_
                  rotate_left
                  · intro w' hS'
                    obtain rfl := hS'
                    go_simp <;> rfl
                  go_simp
                  refine wpF_take (v := ?_) hS rfl ?_ (fun _ _ _ h => h) ?_
                  rotate_left
                  · intro w' hS'
                    obtain rfl := hS'
                    go_simp <;> rfl
                  go_simp
                  refine wpF_take (v := ?_) hS rfl ?_ (fun _ _ _ h => h) ?_
                  rotate_left
                  · intro w' hS'
                    obtain rfl := hS'
                    go_simp <;> rfl
                  go_simp
                  refine wpF_only rfl (fun K hK => ?_)
                  go_wp2_with fail
                  refine (left_any p b _ _ R').mono ?_
                  rintro e wL ⟨rfl, rfl⟩
                  go_wp2_with fail
                  first | refine ⟨fun _ => hS, ?_⟩ | skip
                  go_simp
                  refine wpF_take (v := ?_) hS rfl ?_ (fun _ _ _ h => h) ?_
                  rotate_left
                  · intro w' hS'
                    obtain rfl := hS'
                    go_simp <;> rfl
                  go_simp
                  refine wpF_take (v := ?_) hS rfl ?_ (fun _ _ _ h => h) ?_
                  rotate_left
                  · intro w' hS'
                    obtain rfl := hS'
                    go_simp <;> rfl
                  go_simp
                  refine wpF_take (v := ?_) hS rfl ?_ (fun _ _ _ h => h) ?_
                  rotate_left
                  · intro w' hS'
                    obtain rfl := hS'
                    go_simp <;> rfl
                  go_simp
                  refine wpF_take (v := ?_) hS rfl ?_ (fun _ _ _ h => h) ?_
                  rotate_left
                  · intro w' hS'
                    obtain rfl := hS'
                    go_simp <;> rfl
                  go_simp
                  refine wpF_take (v := ?_) hS rfl ?_ (fun _ _ _ h => h) ?_
                  rotate_left
                  · intro w' hS'
                    obtain rfl := hS'
                    go_simp <;> rfl
                  go_simp
                  refine wpF_take (v := ?_) hS rfl ?_ (fun _ _ _ h => h) ?_
                  rotate_left
                  · intro w' hS'
                    obtain rfl := hS'
                    go_simp <;> rfl
                  go_simp
                  refine wpF_take (v := ?_) hS rfl ?_ (fun _ _ _ h => h) ?_
                  rotate_left
                  · intro w' hS'
                    obtain rfl := hS'
                    go_simp <;> rfl
                  go_simp
                  refine wpF_take (v := ?_) hS rfl ?_ (fun _ _ _ h => h) ?_
                  rotate_left
                  · intro w' hS'
                    obtain rfl := hS'
                    go_simp <;> rfl
                  go_simp
                  refine wpF_only rfl (fun K hK => ?_)
                  go_wp2_with fail
                  refine (err_any p b _ _ R').mono ?_
                  rintro e wL ⟨rfl, rfl⟩
                  go_wp2_with fail
                  first | refine ⟨fun _ => hS, ?_⟩ | skip
                  go_simp
                  refine wpF_take (v := ?_) hS rfl ?_ (fun _ _ _ h => h) ?_
                  rotate_left
                  · intro w' hS'
                    obtain rfl := hS'
                    go_simp <;> rfl
                  go_simp
                  refine wpF_take (v := ?_) hS rfl ?_ (fun _ _ _ h => h) ?_
                  rotate_left
                  · intro w' hS'
                    obtain rfl := hS'
                    go_simp <;> rfl
                  go_simp
                  refine wpF_take (v := ?_) hS rfl ?_ (fun _ _ _ h => h) ?_
                  rotate_left
                  · intro w' hS'
                    obtain rfl := hS'
                    go_simp <;> rfl
                  go_simp
                  refine wpF_nil ?_
                  clear c0 c1 hS R'
                  go_wp2_with fail
                  go_roundw
                  case rel => exact ⟨j + 1, ⟨l', true⟩, _, _, by go_num, by omega, hsn', hsl', R, M, hAm', F.drew⟩
                  case measure => simp [intOf]; omega
                · have e1 : ((j : Int) == fa) = false := by simp [hfa]
                  clear hfa
                  cases st
                  · skip
                    have c0 := M.1.cell 0
                    have c1 := M.1.cell 1
                    go_wp2_with fail
                    refine wp_region_order (fun u => SameW u wt.drew) 99 [(0,0), (1,0), (2,0), (3,0), (5,0), (6,0), (7,0), (8,0), (9,0), (4,1), (10,0), (11,0), (12,0), (13,0), (16,0), (17,0), (18,0), (19,0), (14,1), (15,0), (20,0), (21,0)] (by kernel_rfl) (by kernel_rfl) ?_
                    simp only [pick, List.filterMap_cons, List.filterMap_nil, List.getElem?_cons_zero, List.getElem?_cons_succ, Option.map_some]
                    have hS : SameW wt.drew wt.drew := rfl
                    have R' : Rr wt.drew p b ⟨l', false⟩ := R
                    refine wpF_take (v := ?_) hS rfl ?_ (fun _ _ _ h => h) ?_
                    rotate_left
                    · intro w' hS'
                      obtain rfl := hS'
                      go_simp <;> rfl
                    go_simp
                    refine wpF_take (v := ?_) hS rfl ?_ (fun _ _ _ h => h) ?_
                    rotate_left
                    · intro w' hS'
                      obtain rfl := hS'
                      go_simp <;> rfl
                    go_simp
                    refine wpF_take (v := ?_) hS rfl ?_ (fun _ _ _ h => h) ?_
                    rotate_left
                    · intro w' hS'
                      obtain rfl := hS'
                      go_simp <;> rfl
                    go_simp
                    refine wpF_take (v := ?_) hS rfl ?_ (fun _ _ _ h => h) ?_
                    rotate_left
                    · intro w' hS'
                      obtain rfl := hS'
                      go_simp <;> rfl
                    go_simp
                    refine wpF_take (v := ?_) hS rfl ?_ (fun _ _ _ h => h) ?_
                    rotate_left
                    · intro w' hS'
                      obtain rfl := hS'
                      go_simp <;> rfl
                    go_simp
                    refine wpF_take (v := ?_) hS rfl ?_ (fun _ _ _ h => h) ?_
                    rotate_left
                    · intro w' hS'
                      obtain rfl := hS'
                      go_simp <;> rfl
                    go_simp
                    refine wpF_take (v := ?_) hS rfl ?_ (fun _ _ _ h => h) ?_
                    rotate_left
                    · intro w' hS'
                      obtain rfl := hS'
                      go_simp <;> rfl
                    go_simp
                    refine wpF_take (v := ?_) hS rfl ?_ (fun _ _ _ h => h) ?_
                    rotate_left
                    · intro w' hS'
                      obtain rfl := hS'
                      go_simp <;> rfl
                    go_simp
                    refine wpF_take (v := ?_) hS rfl ?_ (fun _ _ _ h => h) ?_
                    rotate_left
                    · intro w' hS'
                      obtain rfl := hS'
                      go_simp <;> rfl
                    go_simp
                    refine wpF_only rfl (fun K hK => ?_)
                    go_wp2_with fail
                    refine (left_any p b _ _ R').mono ?_
                    rintro e wL ⟨rfl, rfl⟩
                    go_wp2_with fail
                    first | refine ⟨fun _ => hS, ?_⟩ | skip
                    go_simp
                    refine wpF_take (v := ?_) hS rfl ?_ (fun _ _ _ h => h) ?_
                    rotate_left
                    · intro w' hS'
                      obtain rfl := hS'
                      go_simp <;> rfl
                    go_simp
                    refine wpF_take (v := ?_) hS rfl ?_ (fun _ _ _ h => h) ?_
                    rotate_left
                    · intro w' hS'
                      obtain rfl := hS'
                      go_simp <;> rfl
                    go_simp
                    refine wpF_take (v := ?_) hS rfl ?_ (fun _ _ _ h => h) ?_
                    rotate_left
                    · intro w' hS'
                      obtain rfl := hS'
                      go_simp <;> rfl
                    go_simp
                    refine wpF_take (v := ?_) hS rfl ?_ (fun _ _ _ h => h) ?_
                    rotate_left
                    · intro w' hS'
                      obtain rfl := hS'
                      go_simp <;> rfl
                    go_simp
                    refine wpF_take (v := ?_) hS rfl ?_ (fun _ _ _ h => h) ?_
                    rotate_left
                    · intro w' hS'
                      obtain rfl := hS'
                      go_simp <;> rfl
                    go_simp
                    refine wpF_take (v := ?_) hS rfl ?_ (fun _ _ _ h => h) ?_
                    rotate_left
                    · intro w' hS'
                      obtain rfl := hS'
                      go_simp <;> rfl
                    go_simp
                    refine wpF_take (v := ?_) hS rfl ?_ (fun _ _ _ h => h) ?_
                    rotate_left
                    · intro w' hS'
                      obtain rfl := hS'
                      go_simp <;> rfl
                    go_simp
                    refine wpF_take (v := ?_) hS rfl ?_ (fun _ _ _ h => h) ?_
                    rotate_left
                    · intro w' hS'
                      obtain rfl := hS'
                      go_simp <;> rfl
                    go_simp
                    refine wpF_only rfl (fun K hK => ?_)
                    go_wp2_with fail
                    refine (err_any p b _ _ R').mono ?_
                    rintro e wL ⟨rfl, rfl⟩
                    go_wp2_with fail
                    first | refine ⟨fun _ => hS, ?_⟩ | skip
                    go_simp
                    refine wpF_take (v := ?_) hS rfl ?_ (fun _ _ _ h => h) ?_
                    rotate_left
                    · intro w' hS'
                      obtain rfl := hS'
                      go_simp <;> rfl
                    go_simp
                    refine wpF_take (v := ?_) hS rfl ?_ (fun _ _ _ h => h) ?_
                    rotate_left
                    · intro w' hS'
                      obtain rfl := hS'
                      go_simp <;> rfl
                    go_simp
                    refine wpF_take (v := ?_) hS rfl ?_ (fun _ _ _ h => h) ?_
                    rotate_left
                    · intro w' hS'
                      obtain rfl := hS'
                      go_simp <;> rfl
                    go_simp
                    refine wpF_nil ?_
                    clear c0 c1 hS R'
                    go_wp2_with fail
                    go_roundw
                    case rel => exact ⟨j + 1, ⟨l', false⟩, _, _, by go_num, by omega, hsn', hsl', R, M, hAm', F.drew⟩
                    case measure => simp [intOf]; omega
                  · skip
                    have c0 := M.1.cell 0
                    have c1 := M.1.cell 1
                    go_wp2_with fail
                    refine wp_region_order (fun u => SameW u wt.drew) 99 [(0,0), (1,0), (2,0), (3,0), (5,0), (6,0), (7,0), (8,0), (9,0), (4,1), (10,0), (11,0), (12,0), (13,0), (16,0), (17,0), (18,0), (19,0), (14,1), (15,0), (20,0), (21,0)] (by kernel_rfl) (by kernel_rfl) ?_
                    simp only [pick, List.filterMap_cons, List.filterMap_nil, List.getElem?_cons_zero, List.getElem?_cons_succ, Option.map_some]
                    have hS : SameW wt.drew wt.drew := rfl
                    have R' : Rr wt.drew p b ⟨l', true⟩ := R
                    refine wpF_take (v := ?_) hS rfl ?_ (fun _ _ _ h => h) ?_
                    rotate_left
                    · intro w' hS'
                      obtain rfl := hS'
                      go_simp <;> rfl
                    go_simp
                    refine wpF_take (v := ?_) hS rfl ?_ (fun _ _ _ h => h) ?_
                    rotate_left
                    · intro w' hS'
                      obtain rfl := hS'
                      go_simp <;> rfl
                    go_simp
                    refine wpF_take (v := ?_) hS rfl ?_ (fun _ _ _ h => h) ?_
                    rotate_left
                    · intro w' hS'
                      obtain rfl := hS'
                      go_simp <;> rfl
                    go_simp
                    refine wpF_take (v := ?_) hS rfl ?_ (fun _ _ _ h => h) ?_
                    rotate_left
                    · intro w' hS'
                      obtain rfl := hS'
                      go_simp <;> rfl
                    go_simp
                    refine wpF_take (v := ?_) hS rfl ?_ (fun _ _ _ h => h) ?_
                    rotate_left
                    · intro w' hS'
                      obtain rfl := hS'
                      go_simp <;> rfl
                    go_simp
                    refine wpF_take (v := ?_) hS rfl ?_ (fun _ _ _ h => h) ?_
                    rotate_left
                    · intro w' hS'
                      obtain rfl := hS'
                      go_simp <;> rfl
                    go_simp
                    refine wpF_take (v := ?_) hS rfl ?_ (fun _ _ _ h => h) ?_
                    rotate_left
                    · intro w' hS'
                      obtain rfl := hS'
                      go_simp <;> rfl
                    go_simp
                    refine wpF_take (v := ?_) hS rfl ?_ (fun _ _ _ h => h) ?_
                    rotate_left
                    · intro w' hS'
                      obtain rfl := hS'
                      go_simp <;> rfl
                    go_simp
                    refine wpF_take (v := ?_) hS rfl ?_ (fun _ _ _ h => h) ?_
                    rotate_left
                    · intro w' hS'
                      obtain rfl := hS'
                      go_simp <;> rfl
                    go_simp
                    refine wpF_only rfl (fun K hK => ?_)
                    go_wp2_with fail
                    refine (left_any p b _ _ R').mono ?_
                    rintro e wL ⟨rfl, rfl⟩
                    go_wp2_with fail
                    first | refine ⟨fun _ => hS, ?_⟩ | skip
                    go_simp
                    refine wpF_take (v := ?_) hS rfl ?_ (fun _ _ _ h => h) ?_
                    rotate_left
                    · intro w' hS'
                      obtain rfl := hS'
                      go_simp <;> rfl
                    go_simp
                    refine wpF_take (v := ?_) hS rfl ?_ (fun _ _ _ h => h) ?_
                    rotate_left
                    · intro w' hS'
                      obtain rfl := hS'
                      go_simp <;> rfl
                    go_simp
                    refine wpF_take (v := ?_) hS rfl ?_ (fun _ _ _ h => h) ?_
                    rotate_left
                    · intro w' hS'
                      obtain rfl := hS'
                      go_simp <;> rfl
                    go_simp
                    refine wpF_take (v := ?_) hS rfl ?_ (fun _ _ _ h => h) ?_
                    rotate_left
                    · intro w' hS'
                      obtain rfl := hS'
                      go_simp <;> rfl
                    go_simp
                    refine wpF_take (v := ?_) hS rfl ?_ (fun _ _ _ h => h) ?_
                    rotate_left
                    · intro w' hS'
                      obtain rfl := hS'
                      go_simp <;> rfl
                    go_simp
                    refine wpF_take (v := ?_) hS rfl ?_ (fun _ _ _ h => h) ?_
                    rotate_left
                    · intro w' hS'
                      obtain rfl := hS'
                      go_simp <;> rfl
                    go_simp
                    refine wpF_take (v := ?_) hS rfl ?_ (fun _ _ _ h => h) ?_
                    rotate_left
                    · intro w' hS'
                      obtain rfl := hS'
                      go_simp <;> rfl
                    go_simp
                    refine wpF_take (v := ?_) hS rfl ?_ (fun _ _ _ h => h) ?_
                    rotate_left
                    · intro w' hS'
                      obtain rfl := hS'
                      go_simp <;> rfl
                    go_simp
                    refine wpF_only rfl (fun K hK => ?_)
                    go_wp2_with fail
                    refine (err_any p b _ _ R').mono ?_
                    rintro e wL ⟨rfl, rfl⟩
                    go_wp2_with fail
                    first | refine ⟨fun _ => hS, ?_⟩ | skip
                    go_simp
                    refine wpF_take (v := ?_) hS rfl ?_ (fun _ _ _ h => h) ?_
                    rotate_left
                    · intro w' hS'
                      obtain rfl := hS'
                      go_simp <;> rfl
                    go_simp
                    refine wpF_take (v := ?_) hS rfl ?_ (fun _ _ _ h => h) ?_
                    rotate_left
                    · intro w' hS'
                      obtain rfl := hS'
                      go_simp <;> rfl
                    go_simp
                    refine wpF_take (v := ?_) hS rfl ?_ (fun _ _ _ h => h) ?_
                    rotate_left
                    · intro w' hS'
                      obtain rfl := hS'
                      go_simp <;> rfl
                    go_simp
                    refine wpF_nil ?_
                    clear c0 c1 hS R'
                    go_wp2_with fail
                    go_roundw
                    case rel => exact ⟨j + 1, ⟨l', true⟩, _, _, by go_num, by omega, hsn', hsl', R, M, hAm', F.drew⟩
                    case measure => simp [intOf]; omega
            · have d3 : decide ((j : Int) < (n2 : Int)) = false := by simp; omega
              go_wp2_with fail
              refine (refEnd_any pm Am _ cm s wr M).mono ?_
              rintro e w5 ⟨rfl, hp5⟩
              obtain ⟨R5, _, F5⟩ := reads_both R (by omega) (fun h => Tb.out h) hsl hp2 M.1.lt hAm hp5 F (by omega)
              generalize hB : (s.st || !s.l.isEmpty) = B at *
              go_wp2_with fail
              refine (end_any p b s w5 R5).mono ?_
              rintro e w6 ⟨rfl, R6, g6⟩
              rw [hB] at R6 ⊢
              have F6 := F5.trans (Below.one g6 (by have := bsz F5 HS0; omega) (by omega))
              clear hp5 R5 F5 g6 hB R M F
              cases B
              · go_wp2_with fail
                refine (err_any p b _ w6 R6).mono ?_
                rintro e w7 ⟨rfl, rfl⟩
                go_wp2_with fail
                refine (awake3_any _).mono ?_
                rintro e wA ⟨rfl, fA⟩
                have FA := F6.trans (fA.mono (by have := bsz F6 HS0; omega))
                clear F6 fA R6
                go_wp2_with fail
                go_ret
                exact ⟨rfl, by rw [HS0.out]; exact FA⟩
              · go_wp2_with fail
                refine (err_any p b _ w6 R6).mono ?_
                rintro e w7 ⟨rfl, rfl⟩
                go_wp2_with fail
                refine (awake3_any _).mono ?_
                rintro e wA ⟨rfl, fA⟩
                have FA := F6.trans (fA.mono (by have := bsz F6 HS0; omega))
                clear F6 fA R6
                go_wp2_with fail
                go_ret
                exact ⟨rfl, by rw [HS0.out]; exact FA⟩
end Go.Proofs.Ytdblgjecbmebjaa
