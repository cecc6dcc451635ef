/- The document's mac: Of. Condition: the bytes are at most 2^45, each. -/
import Derived.Test.YtgefbgjgcjiceaaRefOf2
import Derived.Test.YtgefbgjgcjiceaaOff
namespace Go.Proofs.Ytgefbgjgcjiceaa
open Go.RowKit
set_option linter.unusedVariables false
def xorM (x : UInt8) (l : List UInt8) : List UInt8 := l.map fun b => xor8 b x
theorem xorL_part (x : UInt8) (l : List UInt8) (k : Nat) (hk : k ≤ l.length) : xorL x l k = xorM x (l.take k) ++ l.drop k := by
  induction k with
  | zero => rw [xorL_zero]; rfl
  | succ k ih =>
    have h1 := ih (by omega)
    have hl : (xorM x (l.take k)).length = k := by simp [xorM]; omega
    rw [xorL_succ, h1]
    have ha : at8 (xorM x (l.take k) ++ l.drop k) k = at8 l k := by
      unfold at8
      rw [List.getD_eq_getElem?_getD, List.getElem?_append_right (by omega), hl, Nat.sub_self, List.getElem?_drop, List.getD_eq_getElem?_getD]
      rfl
    rw [ha, List.set_append_right _ _ (by omega), hl, Nat.sub_self, List.drop_eq_getElem_cons (by omega), List.set_cons_zero, List.take_succ_eq_append_getElem (by omega)]
    unfold xorM
    rw [List.map_append, List.append_assoc]
    congr 1
    simp [at8, List.getD, show k < l.length by omega]
theorem xorL_all (x : UInt8) (l : List UInt8) (k : Nat) (hk : l.length = k) : xorL x l k = xorM x l := by
  rw [xorL_part x l k (by omega), List.take_of_length_le (by omega), List.drop_of_length_le (by omega), List.append_nil]
theorem xorM_snoc (x : UInt8) (l : List UInt8) (k : Nat) (hk : k < l.length) : xorM x (l.take (k + 1)) = xorM x (l.take k) ++ [xor8 (at8 l k) x] := by
  unfold xorM
  rw [List.take_succ_eq_append_getElem hk, List.map_append]
  congr 1
  simp [at8, List.getD, hk]
theorem padB_of (l : List UInt8) (k : Nat) (hk : l.length + k = 64) : l ++ List.replicate k 0 = padB l := by
  unfold padB
  rw [List.drop_replicate, show 64 - l.length = k from by omega]
theorem macIn_of (key : List UInt8) : xorM 0x36 (padB (keyB key)) = macIn key := by
  unfold macIn
  rw [xorL_all _ _ _ (padB_length _ (keyB_length key))]
theorem macOut_of (key : List UInt8) : xorM 0x5c (padB (keyB key)) = macOut key := by
  unfold macOut
  rw [xorL_all _ _ _ (padB_length _ (keyB_length key))]
theorem keyB_big {l : List UInt8} (h : 64 < l.length) : keyB l = shaB l := by unfold keyB; rw [if_pos h]
theorem keyB_small {l : List UInt8} (h : ¬ 64 < l.length) : keyB l = l := by unfold keyB; rw [if_neg h]
theorem OwnB.addr2 {w : World} {base e : Nat} {A : Option Addr} {n c : Nat} {l : List UInt8} (h : OwnB w base e (.slice A n c) l) (hn : 0 < n) : ∃ g, A = some ⟨g, 0, none⟩ ∧ base ≤ g ∧ g < w.heap.size := by
  rcases h.2 with ⟨h1, h2⟩ | ⟨g, cap, cur, h1, h2, h3, _⟩
  · injection h1 with _ h3 _
    omega
  · injection h1 with h4 _ _
    exact ⟨g, h4, h2, (Array.getElem?_eq_some_iff.1 h3).1⟩
theorem Off.below2 {X : Nat → Prop} {a b : World} (h : Off X a b) {B : Nat} (hB : B ≤ a.heap.size) (hX : ∀ k, X k → B ≤ k) : Below B a b := h.below hB hX
set_option maxRecDepth 100000 in
set_option maxHeartbeats 4000000 in
theorem refMac_any (A : Option Addr) (n c : Nat) (key : List UInt8) (A2 : Option Addr) (m c2 : Nat) (l : List UInt8) (w : World) (hk : RdB w w.heap.size A n key) (hl : RdB w w.heap.size A2 m l) (hn : n ≤ 35184372088832) (hm : m ≤ 35184372088832) :
    Calls Try.prog 53 #[.slice A n c, .slice A2 m c2] w fun e w' => e = .returned (.agg (bvs (macB key l)).toArray) ∧ Below w.heap.size w w' := by
  have hln := hk.1
  have Hln := Lib.hid hln
  clear hln
  have hi32 : (Try.prog.info? 29).map (·.size) = some 32 := by kernel_rfl
  have Hi32 := Lib.hid hi32
  clear hi32
  go_enter Try.func53, Try.ntmps53
  go_upto_region 1 with fail
  refine abs (fun w1 => Blk w1 w.heap.size 29 (bvs (List.replicate 32 0)) ∧ Below w.heap.size w w1 ∧ w.heap.size + 1 ≤ w1.heap.size) ⟨Blk.newAt rfl _ _, (Below.refl _ w).alloc (Nat.le_refl _) _, by simp⟩ ?_
  rintro w1 ⟨kz, f1, hs1⟩
  have hk1 := (hk.below f1).below ((Below.refl _ w1).alloc f1.size (.cells #[] 5))
  have lz1 := kz.lt
  go_upto_if 16 with (at_builtin; go_must (refine appendR T23 rfl rfl rfl (OwnB.of_blk (l := []) (Blk.of_new w1 _ _) (Nat.le_refl _) rfl (by simp [maxLen])) rfl hk1 (by omega) ((Below.refl _ w1).alloc (Nat.le_refl _) _) (Nat.le_refl _) ?_); intro A3 c3 w3 o3 f3 _)
  rw [Nat.zero_add, List.nil_append] at o3
  replace kz := kz.below f3 lz1
  have F3 := f1.trans (f3.mono f1.size)
  have hs3 := f3.size
  clear hk1 f1 f3
  go_cut [5] (fun s5 wx => ∃ (A4 : Option Addr) (c4 : Nat), s5 = .slice A4 (keyB key).length c4 ∧ OwnB wx (w.heap.size + 1) 5 (.slice A4 (keyB key).length c4) (keyB key) ∧ Blk wx w.heap.size 29 (bvs (List.replicate 32 0)) ∧ Below w.heap.size w wx ∧ w.heap.size + 1 ≤ wx.heap.size)
  case first =>
    by_cases h64 : 64 < n
    · have d1 : decide ((64 : Int) < (n : Int)) = true := by simp; omega
      have hkb := Lib.hid (keyB_big (l := key) (by rw [Hln.out]; exact h64))
      have lz3 := kz.lt
      go_wp2_with fail
      refine (refOf_any A3 n c3 key w3 o3.rd (by omega)).mono ?_
      rintro e w4 ⟨rfl, f4⟩
      replace kz := kz.below f4 lz3
      have F4 := F3.trans (f4.mono F3.size)
      have hs4 := F4.size
      have hSl := shaB_length key
      have HSl := Lib.hid hSl
      clear hSl
      generalize hSe : shaB key = S at *
      have HSe := Lib.hid hSe
      clear hSe
      have hz : (Try.prog.info? 29).map (·.size) = some (bvs S).length := by rw [bvs_length, HSl.out]; exact Hi32.out
      have Hz := Lib.hid hz
      have hz2 : (bvs (List.replicate 32 0)).length = (bvs S).length := by rw [bvs_length, bvs_length, HSl.out]; rfl
      have Hz2 := Lib.hid hz2
      clear hz hz2 o3 F3
      have lz4 := kz.lt
      go_upto_region 4 with (first | (refine store_blk (us := bvs S) (Blk.of_new w4 29 (bvs (List.replicate 32 0))) rfl 29 (.tmp 6) (.tmp 18) rfl rfl rfl Hz.out Hz2.out (bvs_all _) ?_; intro w5 k5 hg5))
      have f5 : Below w4.heap.size w4 w5 := ((Below.refl _ w4).alloc (Nat.le_refl _) _).grown hg5 (by simp) (by simp)
      replace kz := kz.below f5 lz4
      have F5 := F4.trans (f5.mono F4.size)
      have rS : RdB w5 w5.heap.size (some ⟨w4.heap.size, 0, none⟩) 32 S := (OwnB.of_blk k5 (Nat.zero_le _) HSl.out (by simp [maxLen])).rd
      have rS2 := rS.below ((Below.refl _ w5).alloc (Nat.le_refl _) (.cells #[] 5))
      have lz5 := kz.lt
      clear hg5 f5 F4 k5 rS
      go_wp2_with (at_builtin; go_must (refine appendR T23 rfl rfl rfl (OwnB.of_blk (l := []) (Blk.of_new w5 _ _) (Nat.le_refl _) rfl (by simp [maxLen])) rfl rS2 (by omega) ((Below.refl _ w5).alloc (Nat.le_refl _) _) (Nat.le_refl _) ?_); intro A6 c6 w6 o6 f6 _)
      rw [Nat.zero_add, List.nil_append] at o6
      go_meet
      rw [hkb.out, HSl.out]
      have F6 := F5.trans (f6.mono F5.size)
      exact ⟨A6, c6, rfl, o6.base_le (by omega), kz.below f6 lz5, F6, by have := f6.size; omega⟩
    · have d1 : decide ((64 : Int) < (n : Int)) = false := by simp; omega
      have hkb := Lib.hid (keyB_small (l := key) (by rw [Hln.out]; exact h64))
      go_wp2_with fail
      go_meet
      rw [hkb.out, Hln.out]
      exact ⟨A3, c3, rfl, o3.base_le hs1, kz, F3, by omega⟩
  case rest =>
    obtain ⟨A4, c4, rfl, o4, kz, f4, hs4⟩ := hcut
    clear F3 o3
    have hkl := keyB_length key
    have hpad := fun k hk => padB_of (keyB key) k hk
    have hpl := padB_length (keyB key) hkl
    have hin := macIn_of key
    have hout := macOut_of key
    generalize keyB key = Kb at *
    have Hpad := Lib.hid hpad
    have Hpl := Lib.hid hpl
    have Hin := Lib.hid hin
    have Hout := Lib.hid hout
    clear hpad hpl hin hout
    go_wp2_with fail
    go_loopw [5] (fun s wr => ∃ (k : Nat) (A' : Option Addr) (c' : Nat), Kb.length + k ≤ 64 ∧ s = .slice A' (Kb.length + k) c' ∧ OwnB wr (w.heap.size + 1) 5 (.slice A' (Kb.length + k) c') (Kb ++ List.replicate k 0) ∧ Blk wr w.heap.size 29 (bvs (List.replicate 32 0)) ∧ Below w.heap.size w wr ∧ w.heap.size + 1 ≤ wr.heap.size) (fun s _ => 64 - lenOf s)
    case atStart => exact ⟨0, A4, c4, by omega, rfl, by simpa using o4, kz, f4, hs4⟩
    case round =>
      clear o4 kz f4 hs4
      obtain ⟨k, A', c', hk64, rfl, o4, kz, f4, hs4⟩ := hrel
      by_cases hlt : Kb.length + k < 64
      · have d1 : decide (((Kb.length + k : Nat) : Int) < 64) = true := by simp; omega
        have lz := kz.lt
        have hne := fun h => (o4.not_row kz (by decide) h)
        generalize hM : Kb.length + k = M at *
        have HM := Lib.hid hM
        clear hM
        go_wp2_with (at_builtin; go_must (refine append1 T23 (w0 := wr) rfl rfl 0 rfl rfl rfl o4 (by omega) (Below.refl _ _) hs4 ?_); intro g' c5 w5 o5 f5 hg5)
        go_roundw
        case rel => exact ⟨k + 1, _, c5, by have := HM.out; omega, by rw [← Nat.add_assoc, HM.out], by rw [← Nat.add_assoc, HM.out]; exact o5.of_eq (by rw [List.append_assoc, List.replicate_succ']), kz.below f5 (by omega), f4.trans (f5.mono (by omega)), by have := f5.size; omega⟩
        case measure => simp [lenOf]; omega
      · have hM : Kb.length + k = 64 := by omega
        have hP := Hpad.out k hM
        rw [hP] at o4
        rw [hM] at o4 ⊢
        have d1 : decide ((64 : Int) < 64) = false := rfl
        generalize padB Kb = P at *
        have HM := Lib.hid hM
        clear hM hP
        obtain ⟨gP, rfl, hgP, hzP⟩ := o4.addr2 (by omega)
        clear hzP
        go_wp2_with fail
        go_loopw [9, 7, 8] (fun i s7 s8 wr => ∃ (k : Nat) (A1 : Option Addr) (c1 : Nat) (A3 : Option Addr) (c3 : Nat), k ≤ 64 ∧ i = .int .i64 k ∧ s7 = .slice A1 k c1 ∧ s8 = .slice A3 k c3 ∧ OwnB wr (w.heap.size + 1) 5 (.slice A1 k c1) (xorM 54 (P.take k)) ∧ OwnB wr (w.heap.size + 1) 5 (.slice A3 k c3) (xorM 92 (P.take k)) ∧ (∀ j, isB A1 j → ¬ isB A3 j ∧ j ≠ gP) ∧ (∀ j, isB A3 j → j ≠ gP) ∧ OwnB wr (w.heap.size + 1) 5 (.slice (some ⟨gP, 0, none⟩) 64 c') P ∧ Blk wr w.heap.size 29 (bvs (List.replicate 32 0)) ∧ Below w.heap.size w wr ∧ w.heap.size + 1 ≤ wr.heap.size) (fun i _ _ _ => 64 - (intOf i).toNat)
        case atStart => exact ⟨0, none, 0, none, 0, by omega, rfl, rfl, rfl, OwnB.nil_ _ _ _, OwnB.nil_ _ _ _, (fun j hj => by obtain ⟨x, hx, _⟩ := hj; cases hx), (fun j hj => by obtain ⟨x, hx, _⟩ := hj; cases hx), o4, kz, f4, hs4⟩
        case round =>
          clear o4 kz f4 hs4
          obtain ⟨k, A1, c1, A3, c3, hk64, rfl, rfl, rfl, o1, o3, ap1, ap3, o4, kz, f4, hs4⟩ := hrel
          by_cases hlt : k < 64
          · have d1 : decide ((k : Int) < 64) = true := by simp; omega
            have b1 : (0 : Int) ≤ (k : Int) := by omega
            have hPl := Hpl.out
            have cP := o4.cell (j := k) (by omega)
            have eP : P[k] = at8 P k := by simp [at8, List.getD, show k < P.length by omega]
            rw [eP] at cP
            unfold bv at cP
            have x1 : bits BinOp.xor IntKind.u8 ((at8 P k).toNat : Int) 54 = ((xor8 (at8 P k) 54).toNat : Int) := u8_xor' (at8 P k) 54
            have x2 : bits BinOp.xor IntKind.u8 ((at8 P k).toNat : Int) 92 = ((xor8 (at8 P k) 92).toNat : Int) := u8_xor' (at8 P k) 92
            have s1 := Lib.hid (xorM_snoc 54 P k (by omega))
            have s2 := Lib.hid (xorM_snoc 92 P k (by omega))
            have lt1 : ∀ j, isB A1 j → j < wr.heap.size := fun j hj => (o1.isB_lt hj).2
            have lt3 : ∀ j, isB A3 j → j < wr.heap.size := fun j hj => (o3.isB_lt hj).2
            have gPlt : gP < wr.heap.size := (o4.isB_lt ⟨_, rfl, rfl⟩).2
            clear hPl eP
            go_upto_region 12 with (at_builtin; go_must (refine appendG T23 (l2 := [xor8 (at8 P k) 54]) (B := wr.heap.size + 1) rfl rfl rfl (o1.alloc _) rfl (RdB.mark wr 5 [xor8 (at8 P k) 54] (0, 0) wr.heap.size rfl _ (Nat.lt_succ_self _)) (by omega) (by simp; omega) ?_); intro A5 c5 w5 o5 f5 ho5)
            have oA : Off (isB A1) wr w5 := ((Off.refl _ wr).alloc _).trans f5 (fun _ _ h => h)
            have hsA := oA.size
            have ho5' : A5 = A1 ∨ ∃ y, A5 = some ⟨y, 0, none⟩ ∧ wr.heap.size ≤ y := by
              rcases ho5 with h | h
              · exact .inl h
              · exact .inr ⟨_, h, by simp⟩
            have o3' := o3.off oA (fun j hj h => (ap1 j h).1 hj)
            have o4' := o4.off oA (fun j hj h => (ap1 j h).2 (by obtain ⟨y, hy, rfl⟩ := hj; injection hy with hy; rw [← hy]))
            have kz' := kz.off oA (fun h => by have := (o1.isB_lt h).1; omega)
            have F5 := f4.trans (oA.below (B := w.heap.size) (by omega) (fun j hj => by have := (o1.isB_lt hj).1; omega))
            have ap5 : ∀ j, isB A5 j → ¬ isB A3 j ∧ j ≠ gP := fun j hj => by
              rcases ho5' with rfl | ⟨y, rfl, hy⟩
              · exact ap1 j hj
              · obtain ⟨z, hz, rfl⟩ := hj
                injection hz with hz
                subst hz
                exact ⟨fun h => by have := lt3 _ h; simp only at this; omega, by simp only; omega⟩
            have gPlt5 : gP < w5.heap.size := by omega
            have lt5 : ∀ j, isB A5 j → j < w5.heap.size := fun j hj => (o5.isB_lt hj).2
            have cP5 := o4'.cell (j := k) (by have := Hpl.out; omega)
            have eP : P[k]'(by have := Hpl.out; omega) = at8 P k := by simp [at8, List.getD, show k < P.length by have := Hpl.out; omega]
            rw [eP] at cP5
            unfold bv at cP5
            clear eP oA f5 ho5 ho5' o1 o3 o4 kz f4 ap1 cP lt1 gPlt
            go_wp2_with (at_builtin; go_must (refine appendG T23 (l2 := [xor8 (at8 P k) 92]) (B := w5.heap.size + 1) rfl rfl rfl (o3'.alloc _) rfl (RdB.mark w5 5 [xor8 (at8 P k) 92] (0, 0) w5.heap.size rfl _ (Nat.lt_succ_self _)) (by omega) (by simp; omega) ?_); intro A6 c6 w6 o6 f6 ho6)
            have oB : Off (isB A3) w5 w6 := ((Off.refl _ w5).alloc _).trans f6 (fun _ _ h => h)
            have hsB := oB.size
            have ho6' : A6 = A3 ∨ ∃ y, A6 = some ⟨y, 0, none⟩ ∧ w5.heap.size ≤ y := by
              rcases ho6 with h | h
              · exact .inl h
              · exact .inr ⟨_, h, by simp⟩
            have o5' := o5.off oB (fun j hj h => (ap5 j hj).1 h)
            have o4'' := o4'.off oB (fun j hj h => ap3 j h (by obtain ⟨y, hy, rfl⟩ := hj; injection hy with hy; rw [← hy]))
            have kz'' := kz'.off oB (fun h => by have := (o3'.isB_lt h).1; omega)
            have F6 := F5.trans (oB.below (B := w.heap.size) (by omega) (fun j hj => by have := (o3'.isB_lt hj).1; omega))
            have ap6 : ∀ j, isB A5 j → ¬ isB A6 j ∧ j ≠ gP := fun j hj => by
              refine ⟨fun h => ?_, (ap5 j hj).2⟩
              rcases ho6' with rfl | ⟨y, rfl, hy⟩
              · exact (ap5 j hj).1 h
              · obtain ⟨z, hz, rfl⟩ := h
                injection hz with hz
                subst hz
                have := lt5 _ hj
                simp only at this
                omega
            have ap7 : ∀ j, isB A6 j → j ≠ gP := fun j hj => by
              rcases ho6' with rfl | ⟨y, rfl, hy⟩
              · exact ap3 j hj
              · obtain ⟨z, hz, rfl⟩ := hj
                injection hz with hz
                subst hz
                simp only
                omega
            clear oB f6 ho6 ho6' o5 o3' o4' kz' F5 ap5 ap3 cP5 lt3 lt5
            go_roundw
            case rel => exact ⟨k + 1, A5, c5, A6, c6, by omega, by go_num, rfl, rfl, by rw [s1.out]; exact o5', by rw [s2.out]; exact o6, ap6, ap7, o4'', kz'', F6, by omega⟩
            case measure => simp [intOf]; omega
          · obtain rfl : k = 64 := by omega
            have d1 : decide (((64 : Nat) : Int) < 64) = false := rfl
            rw [List.take_of_length_le (by have := Hpl.out; omega), Hin.out] at o1
            rw [List.take_of_length_le (by have := Hpl.out; omega), Hout.out] at o3
            have lt3 : ∀ j, isB A3 j → j < wr.heap.size := fun j hj => (o3.isB_lt hj).2
            have hl1 := hl.below f4
            have hlm := hl.1
            clear o4 ap3
            go_upto_region 14 with (first | (at_builtin; go_must (refine appendG T23 rfl rfl rfl o1 rfl hl1 (by omega) hs4 ?_); intro A5 c5 w5 o5 f5 ho5))
            have o3' := o3.off f5 (fun j hj h => (ap1 j h).1 hj)
            have kz' := kz.off f5 (fun h => by have := (o1.isB_lt h).1; omega)
            have F5 := f4.trans (f5.below (B := w.heap.size) (by omega) (fun j hj => by have := (o1.isB_lt hj).1; omega))
            have hs5 := f5.size
            clear o1 o3 kz f4 f5 ho5 ap1 lt3 hl1
            refine (refOf_any A5 (64 + m) c5 (macIn key ++ l) w5 o5.rd (by omega)).mono ?_
            rintro e w6 ⟨rfl, f6⟩
            have lz5 := kz'.lt
            replace kz' := kz'.below f6 lz5
            replace o3' := o3'.below (Nat.le_refl _) f6
            have F6 := F5.trans (f6.mono (by omega))
            have hs6 := f6.size
            have hSl := shaB_length (macIn key ++ l)
            have HSl := Lib.hid hSl
            clear hSl o5 F5 f6
            generalize hSe : shaB (macIn key ++ l) = S at *
            have HSe := Lib.hid hSe
            clear hSe
            have hz : (Try.prog.info? 29).map (·.size) = some (bvs S).length := by rw [bvs_length, HSl.out]; exact Hi32.out
            have Hz := Lib.hid hz
            have hz2 : (bvs (List.replicate 32 0)).length = (bvs S).length := by rw [bvs_length, bvs_length, HSl.out]; rfl
            have Hz2 := Lib.hid hz2
            clear hz hz2
            have lz6 := kz'.lt
            go_upto_region 14 with (first | (refine store_blk (us := bvs S) (Blk.of_new w6 29 (bvs (List.replicate 32 0))) rfl 29 (.tmp 10) (.tmp 51) rfl rfl rfl Hz.out Hz2.out (bvs_all _) ?_; intro w7 k7 hg7))
            have f7 : Below w6.heap.size w6 w7 := ((Below.refl _ w6).alloc (Nat.le_refl _) _).grown hg7 (by simp) (by simp)
            replace kz' := kz'.below f7 lz6
            replace o3' := o3'.below (Nat.le_refl _) f7
            have F7 := F6.trans (f7.mono F6.size)
            have hs7 := f7.size
            have rS : RdB w7 w7.heap.size (some ⟨w6.heap.size, 0, none⟩) 32 S := (OwnB.of_blk k7 (Nat.zero_le _) HSl.out (by simp [maxLen])).rd
            have lz7 := kz'.lt
            clear hg7 f7 F6 k7
            go_wp2_with (first | (at_builtin; go_must (refine appendG T23 rfl rfl rfl o3' rfl rS (by omega) (by omega) ?_); intro A8 c8 w8 o8 f8 ho8))
            have kz8 := kz'.off f8 (fun h => by have := (o3'.isB_lt h).1; omega)
            have F8 := F7.trans (f8.below (B := w.heap.size) (by omega) (fun j hj => by have := (o3'.isB_lt hj).1; omega))
            have hs8 := f8.size
            have lz8 := kz8.lt
            clear kz' F7 f8 ho8 o3' rS
            refine (refOf_any A8 (64 + 32) c8 (macOut key ++ S) w8 o8.rd (by omega)).mono ?_
            rintro e w9 ⟨rfl, f9⟩
            replace kz8 := kz8.below f9 lz8
            have F9 := F8.trans (f9.mono F8.size)
            have hmac : shaB (macOut key ++ S) = macB key l := by rw [← HSe.out]; unfold macB; rfl
            rw [hmac]
            have hml := macB_length key l
            have HML := Lib.hid hml
            clear hml hmac o8 f9 F8
            generalize hRe : macB key l = R at *
            have HRe := Lib.hid hRe
            clear hRe
            have hz : (Try.prog.info? 29).map (·.size) = some (bvs R).length := by rw [bvs_length, HML.out]; exact Hi32.out
            have HzR := Lib.hid hz
            have hz2 : (bvs (List.replicate 32 0)).length = (bvs R).length := by rw [bvs_length, bvs_length, HML.out]; rfl
            have HzR2 := Lib.hid hz2
            clear hz hz2
            go_wp2_with (first | (refine store_blk kz8 rfl 29 (.tmp 4) (.tmp 55) rfl rfl (us := bvs R) rfl HzR.out HzR2.out (bvs_all _) ?_; intro w10 k10 hg10))
            exact bodyPost_ret (k10.sized rfl _ rfl Try.underlying29 HzR.out) rfl ⟨by rw [HRe.out], F9.grown hg10 F9.size (by simp)⟩
end Go.Proofs.Ytgefbgjgcjiceaa
