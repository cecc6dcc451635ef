/- The law CodeOneForm, walked. No condition. -/
import Derived.Test.YtdblgjecbmebjaaOneLaw
import Derived.Test.YtdblgjecbmebjaaCodeCutWalk
namespace Go.Proofs.Ytdblgjecbmebjaa
open Go.RowKit
set_option linter.unusedVariables false
set_option maxRecDepth 100000 in
set_option maxHeartbeats 4000000 in
theorem codeOneForm_walk (w : World) (A : Option Addr) (n c : Nat) (l : List UInt8) (r : RdB w w.heap.size A n l) (hnc : n ≤ c) (hc : c ≤ maxLen) (A2 : Option Addr) (n2 c2 : Nat) (fs : List Fd) (rf : RdF w w.heap.size A2 n2 fs) (hnc2 : n2 ≤ c2) (hc2 : c2 ≤ maxLen) (hok : ∀ f ∈ fs, FdOk f) :
    Calls Try.prog 9 #[.slice A n c, .slice A2 n2 c2] w fun e w' => e = .returned (.bool true) ∧ Below w.heap.size w w' := by
  have hn2 : n2 ≤ 9223372036854775807 := by simp only [maxLen] at hc2; omega
  have hl := r.1
  go_enter Try.func9, Try.ntmps9
  go_wp2_with fail
  refine (long_any A2 n2 c2 fs _ w rf (fun f hf => (hok f hf).2.2.2.2.2.2.2) hn2).mono ?_
  rintro e w' ⟨rfl, rfl⟩
  by_cases hlong : 1000 < longN fs
  · have d0 : decide (1000 < longN fs) = true := by simp [hlong]
    rw [d0]
    go_wp2_with fail
    refine (awake3_any w').mono ?_
    rintro e w1 ⟨rfl, f1⟩
    go_wp2_with fail
    go_ret
    exact ⟨rfl, f1⟩
  · have d0 : decide (1000 < longN fs) = false := by simp [hlong]
    rw [d0]
    have hll : longN fs ≤ 1000 := by omega
    have hfl := list_long hll
    have hrl := rf.1
    have hso := fun f (hf : f ∈ fs) => size_of hll hf
    clear hlong
    by_cases hbig : 20000 < n
    · have d1 : decide ((20000 : Int) < (n : Int)) = true := by simp; omega
      go_wp2_with fail
      refine (awake3_any w').mono ?_
      rintro e w1 ⟨rfl, f1⟩
      go_wp2_with fail
      go_ret
      exact ⟨rfl, f1⟩
    · have d1 : decide ((20000 : Int) < (n : Int)) = false := by simp; omega
      have hn3 : n ≤ 20000 := by omega
      clear hbig
      go_wp2_with fail
      refine (newReader_any A n c l w' r (by omega)).mono ?_
      rintro e w1 ⟨p, b, hp, hb, rfl, R, f1⟩
      have tp := R.plt
      have tb : l ≠ [] → b < w1.heap.size := fun h => R.blt h
      have Tb := Lib.hid tb
      clear tb
      go_wp2_with fail
      refine (newWriter_any w1).mono ?_
      rintro e w2 ⟨rfl, h2, f2⟩
      replace R := R.below f2
      have hs1 := f1.size
      have hs2 := f2.size
      have hs3 := h2.lt
      replace f2 := f1.trans (f2.mono f1.size)
      clear f1
      go_wp2_with fail
      go_loopw [7] (fun i wr => ∃ (j a : Nat) (Aw : Option Addr) (cw : Nat), i = .int .i64 j ∧ j ≤ n2 ∧ a ≤ n ∧ Rr wr p b ⟨l.drop a, false⟩ ∧ Wr wr w1.heap.size Aw a cw (l.take a) ∧ (∀ k, isB Aw k → w1.heap.size ≤ k) ∧ Below w'.heap.size w' wr) (fun i _ => n2 - (intOf i).toNat)
      case atStart => exact ⟨0, 0, none, 0, rfl, Nat.zero_le _, Nat.zero_le _, R, h2, (fun k hk => by obtain ⟨x, hx, _⟩ := hk; cases hx), f2⟩
      case round =>
        clear R h2 f2
        obtain ⟨j, a, Aw, cw, rfl, hj, ha, R, h2, hAw, F⟩ := hrel
        by_cases hlt : j < n2
        · have d2 : decide ((j : Int) < (n2 : Int)) = true := by simp; omega
          have b3 : (0 : Int) ≤ (j : Int) := by omega
          have b4 : (j : Int) < (n2 : Int) := by omega
          obtain ⟨bf, off, f, hA, hbf, hf, q0, q1, q2, q3, q4⟩ := (rf.below F).at_ hlt
          subst hA
          have hfm := List.mem_of_getElem? hf
          have hff := (hok f hfm).ok
          have hfk := (hok f hfm)
          have hfs := hso f hfm
          have hAlt : ∀ k, isB Aw k → k < wr.heap.size := fun k hk => (h2.2.isB_lt hk).2
          go_wp2_with fail
          refine absC (fun w3 => Blk w3 wr.heap.size 32 f.cells ∧ Rr w3 p b ⟨l.drop a, false⟩ ∧ Wr w3 w1.heap.size Aw a cw (l.take a) ∧ Below w'.heap.size w' w3) ⟨Blk.newAt rfl _ _, R.below ((Below.refl _ wr).alloc (Nat.le_refl _) _), h2.alloc _, F.alloc F.size _⟩ ?_
          have hpr := R.plt
          have hgr := h2.lt
          clear R h2 q0 q1 q2 q3 q4
          rintro w3 ⟨k3, R, h2, F3⟩
          have hF3 := F.size
          refine (kind_any f w3).mono ?_
          rintro e w4 ⟨rfl, f4⟩
          replace k3 := k3.below f4 k3.lt
          replace R := R.below f4
          replace h2 := h2.below f4
          replace F3 := F3.trans (f4.mono F3.size)
          clear f4
          have c0 : w4.cell? ⟨wr.heap.size, 0, none⟩ = some (.int .i64 f.kind) := k3.cell 0
          have c1 : w4.cell? ⟨wr.heap.size, 1, none⟩ = some (.int .i64 f.most) := k3.cell 1
          have hdl0 : (l.drop a).length ≤ 20000 := by rw [List.length_drop]; omega
          have hm1 := hfk.2.2.1
          have hm2 := hfk.2.2.2.1
          have hrd : ∀ g k, readF f (l.drop a) = some (g, k) → fbytes g = (l.drop a).take k ∧ k ≤ (l.drop a).length ∧ Fok g ∧ g.s.length ≤ max f.s.length (l.drop a).length := fun g k h => readF_bytes hff (by omega) h
          have Hrd := Lib.hid hrd
          clear hrd
          have hk := fk_lt f
          generalize hK : fk f = K at *
          have HK := Lib.hid hK
          clear hK
          rcases K with _ | _ | _ | _ | _ | K
          · cases hq : findU8 (l.drop a) with
            | none =>
              have htk := takeS_none (z := 0) hq
              have HT := Lib.hid htk
              clear htk
              go_wp2_with fail
              refine (rU8_any p b _ w4 R).mono ?_
              rintro e w5 ⟨rfl, R5, g5⟩
              rw [HT.out] at R5 ⊢
              have k5 := k3.off g5 (by omega)
              have h5 := h2.off g5 (by omega) (fun k hk => by have := hAw k hk; omega)
              have F5 := F3.trans (Below.one g5 F3.size hp)
              have z5 := k5.frozen 3
              have b0 : w5.cell? ⟨wr.heap.size, 0, none⟩ = some (.int .i64 f.kind) := k5.cell 0
              have b1 : w5.cell? ⟨wr.heap.size, 1, none⟩ = some (.int .i64 f.most) := k5.cell 1
              have b2 : w5.cell? ⟨wr.heap.size, 2, none⟩ = some (.int .i64 f.more) := k5.cell 2
              have b3 : w5.cell? ⟨wr.heap.size, 3, none⟩ = some (.int .u64 f.n) := k5.cell 3
              have b4 : w5.cell? ⟨wr.heap.size, 4, none⟩ = some (.string (strB f.s)) := k5.cell 4
              clear c0 c1
              go_wp2_with fail
              have oS : Off (fun k => k = wr.heap.size) w5 (w5.setCell ⟨wr.heap.size, 3, none⟩ (.int .u64 (0 : Nat))) := (Off.refl (fun k => k = wr.heap.size) w5).setCell (p := ⟨wr.heap.size, 3, none⟩) (fun _ => rfl) _
              refine absC (fun w6 => Blk w6 wr.heap.size 32 ({ f with n := 0 } : Fd).cells ∧ Rr w6 p b ⟨l.drop a, true⟩ ∧ Wr w6 w1.heap.size Aw a cw (l.take a) ∧ Below w'.heap.size w' w6) ⟨k5.set 3 _, R5.offE oS (by omega) (fun hne e => ?_), h5.off oS (by omega) (fun k hk e => ?_), F5.setCell (by simp only; omega) _⟩ ?_
              · have hne2 : l ≠ [] := fun h => hne (by simp [h])
                have := Tb.out hne2
                have e2 : b = wr.heap.size := e
                omega
              · have e2 : k = wr.heap.size := e
                have := (h2.2.isB_lt hk).2
                have e3 := hAlt k hk
                omega
              clear oS k5 R5 h5 F5 b0 b1 b2 b3 b4 z5 g5
              rintro w6 ⟨k6, R6, h6, F6⟩
              refine (err_any p b _ w6 R6).mono ?_
              rintro e w7 ⟨rfl, rfl⟩
              go_wp2_with fail
              refine (bytes_any w1.heap.size Aw a cw (l.take a) w7 h6 (by omega)).mono ?_
              rintro e wB ⟨Ac, cc, rfl, oc, fB⟩
              have RB := R6.below fB
              have FB := F6.trans (fB.mono F6.size)
              have rc := oc.rd
              have rb := (r.below FB).more FB.size
              clear oc fB
              obtain ⟨d, hd⟩ := Nat.exists_eq_add_of_le ha
              have hdl : (l.drop a).length = d := by rw [List.length_drop]; omega
              have hwr : IntKind.i64.wrap ((a : Int) + (d : Int)) = (a : Int) + (d : Int) := by simp [IntKind.wrap, IntKind.bits, IntKind.signed]; omega
              have heq : ((a : Int) + (d : Int) == (n : Int)) = true := by simp; omega
              have hac : a ≤ c := by omega
              clear hd
              go_wp2_with fail
              refine wp_region_order (fun u => Below wB.heap.size wB u) 21 [(0,0), (1,0), (2,0), (5,0), (6,0), (3,1), (4,0), (7,0), (8,0), (9,0), (10,0), (11,0), (14,0), (15,0), (12,1), (13,0), (16,0), (17,0), (18,0), (19,1), (20,0), (21,2)] (by kernel_rfl) (by kernel_rfl) ?_
              simp only [pick, List.filterMap_cons, List.filterMap_nil, List.getElem?_cons_zero, List.getElem?_cons_succ, Option.map_some]
              have hS : Below wB.heap.size wB wB.drew := (Below.refl _ _).drew
              refine wpF_take (v := ?_) hS rfl ?_ (fun _ _ _ h => h) ?_
              rotate_left
              · intro w' hS'
                obtain _ := hS'
                go_simp <;> rfl
              go_simp
              refine wpF_take (v := ?_) hS rfl ?_ (fun _ _ _ h => h) ?_
              rotate_left
              · intro w' hS'
                obtain _ := hS'
                go_simp <;> rfl
              go_simp
              refine wpF_take (v := ?_) hS rfl ?_ (fun _ _ _ h => h) ?_
              rotate_left
              · intro w' hS'
                obtain _ := hS'
                go_simp <;> rfl
              go_simp
              refine wpF_take (v := ?_) hS rfl ?_ (fun _ _ _ h => h) ?_
              rotate_left
              · intro w' hS'
                obtain _ := hS'
                go_simp <;> rfl
              go_simp
              refine wpF_take (v := ?_) hS rfl ?_ (fun _ _ _ h => h) ?_
              rotate_left
              · intro w' hS'
                obtain _ := hS'
                go_simp <;> rfl
              go_simp
              refine wpF_only rfl (fun K hK => ?_)
              go_wp2_with fail
              refine (left_any p b _ _ (show Rr wB.drew p b ⟨l.drop a, true⟩ from RB)).mono ?_
              rintro e wL ⟨rfl, rfl⟩
              simp only
              rw [hdl]
              go_wp2_with fail
              refine ⟨fun _ => hS, ?_⟩
              go_simp
              refine wpF_take (v := ?_) hS rfl ?_ (fun _ _ _ h => h) ?_
              rotate_left
              · intro w' hS'
                obtain _ := hS'
                go_simp <;> rfl
              go_simp
              refine wpF_take (v := .bool true) hS rfl (fun w' _ => by go_simp) (fun _ _ _ h => h) ?_
              go_simp
              refine wpF_take (v := ?_) hS rfl ?_ (fun _ _ _ h => h) ?_
              rotate_left
              · intro w' hS'
                obtain _ := hS'
                go_simp <;> rfl
              go_simp
              refine wpF_take (v := ?_) hS rfl ?_ (fun _ _ _ h => h) ?_
              rotate_left
              · intro w' hS'
                obtain _ := hS'
                go_simp <;> rfl
              go_simp
              refine wpF_take (v := ?_) hS rfl ?_ (fun _ _ _ h => h) ?_
              rotate_left
              · intro w' hS'
                obtain _ := hS'
                go_simp <;> rfl
              go_simp
              refine wpF_take (v := ?_) hS rfl ?_ (fun _ _ _ h => h) ?_
              rotate_left
              · intro w' hS'
                obtain _ := hS'
                go_simp <;> rfl
              go_simp
              refine wpF_take (v := ?_) hS rfl ?_ (fun _ _ _ h => h) ?_
              rotate_left
              · intro w' hS'
                obtain _ := hS'
                go_simp <;> rfl
              go_simp
              refine wpF_take (v := .string (strB (l.take a))) hS rfl (fun u hS' => ?_) (fun _ _ _ h => h) ?_
              · have := run_str T23 (rc.below hS') cc _ Try.underlying9
                go_simp <;> rw [this]
              go_simp
              refine wpF_only rfl (fun K hK => wp_slice_h T23 rfl rfl rfl rb ha hnc (fun A7 r7 => ?_))
              refine hK _ _ ⟨fun _ => hS, ?_⟩
              go_simp
              refine wpF_take (v := .string (strB (l.take a))) hS rfl (fun u hS' => ?_) (fun _ _ _ h => h) ?_
              · have := run_str T23 (r7.below hS') c _ Try.underlying9
                go_simp <;> rw [this]
              go_simp
              refine wpF_take (v := .bool true) hS rfl (fun w' _ => by go_simp) (fun _ _ _ h => h) ?_
              go_simp
              refine wpF_take (v := ?_) hS rfl ?_ (fun _ _ _ h => h) ?_
              rotate_left
              · intro w' hS'
                obtain _ := hS'
                go_simp <;> rfl
              go_simp
              refine wpF_take (v := ?_) hS rfl ?_ (fun _ _ _ h => h) ?_
              rotate_left
              · intro w' hS'
                obtain _ := hS'
                go_simp <;> rfl
              go_simp
              refine wpF_only rfl (fun K hK => ?_)
              go_wp2_with fail
              refine (awake3_any _).mono ?_
              rintro e wA ⟨rfl, fA⟩
              have hS3 : Below wB.heap.size wB wA := (Below.refl wB.heap.size wB).drew.trans fA
              clear fA
              go_wp2_with fail
              refine ⟨fun _ => hS3, ?_⟩
              go_simp
              refine wpF_take (v := ?_) hS3 rfl ?_ (fun _ _ _ h => h) ?_
              rotate_left
              · intro w' hS'
                obtain _ := hS'
                go_simp <;> rfl
              go_simp
              refine wpF_only rfl (fun K hK => ?_)
              go_wp2_with fail
              refine ⟨fun h => absurd h (by omega), wpF_nil ?_⟩
              go_wp2_with fail
              go_ret
              exact ⟨rfl, FB.trans (hS3.mono FB.size)⟩
            | some q =>
              obtain ⟨x, k⟩ := q
              have htk := takeS_some (z := 0) hq
              have hrf : readF f (l.drop a) = some ({ f with n := x }, k) := by
                unfold readF
                rw [HK.out]
                simp only
                rw [hq]
                rfl
              obtain ⟨y1, y2, y3, y4⟩ := Hrd.out _ _ hrf
              have Y1 := Lib.hid y1
              clear y1 hrf
              have hx := (findU8_inv hq).2.2.2
              have hw := wrap_small (v := (x : Int)) (by omega) (by omega)
              have HT := Lib.hid htk
              clear htk
              go_wp2_with fail
              refine (rU8_any p b _ w4 R).mono ?_
              rintro e w5 ⟨rfl, R5, g5⟩
              rw [HT.out] at R5 ⊢
              have k5 := k3.off g5 (by omega)
              have h5 := h2.off g5 (by omega) (fun k hk => by have := hAw k hk; omega)
              have F5 := F3.trans (Below.one g5 F3.size hp)
              have z5 := k5.frozen 3
              have b0 : w5.cell? ⟨wr.heap.size, 0, none⟩ = some (.int .i64 f.kind) := k5.cell 0
              have b1 : w5.cell? ⟨wr.heap.size, 1, none⟩ = some (.int .i64 f.most) := k5.cell 1
              have b2 : w5.cell? ⟨wr.heap.size, 2, none⟩ = some (.int .i64 f.more) := k5.cell 2
              have b3 : w5.cell? ⟨wr.heap.size, 3, none⟩ = some (.int .u64 f.n) := k5.cell 3
              have b4 : w5.cell? ⟨wr.heap.size, 4, none⟩ = some (.string (strB f.s)) := k5.cell 4
              clear c0 c1
              go_wp2_with fail
              have oS : Off (fun k => k = wr.heap.size) w5 (w5.setCell ⟨wr.heap.size, 3, none⟩ (.int .u64 (x : Nat))) := (Off.refl (fun k => k = wr.heap.size) w5).setCell (p := ⟨wr.heap.size, 3, none⟩) (fun _ => rfl) _
              refine absC (fun w6 => Blk w6 wr.heap.size 32 ({ f with n := x } : Fd).cells ∧ Rr w6 p b ⟨(l.drop a).drop k, false⟩ ∧ Wr w6 w1.heap.size Aw a cw (l.take a) ∧ Below w'.heap.size w' w6) ⟨k5.set 3 _, R5.offE oS (by omega) (fun hne e => ?_), h5.off oS (by omega) (fun k hk e => ?_), F5.setCell (by simp only; omega) _⟩ ?_
              · have hne2 : l ≠ [] := fun h => hne (by simp [h])
                have := Tb.out hne2
                have e2 : b = wr.heap.size := e
                omega
              · have e2 : k = wr.heap.size := e
                have := (h2.2.isB_lt hk).2
                have e3 := hAlt k hk
                omega
              clear oS k5 R5 h5 F5 b0 b1 b2 b3 b4 z5 g5
              rintro w6 ⟨k6, R6, h6, F6⟩
              refine (err_any p b _ w6 R6).mono ?_
              rintro e w7 ⟨rfl, rfl⟩
              have b0 : w7.cell? ⟨wr.heap.size, 0, none⟩ = some (.int .i64 f.kind) := k6.cell 0
              have b1 : w7.cell? ⟨wr.heap.size, 1, none⟩ = some (.int .i64 f.most) := k6.cell 1
              have b2 : w7.cell? ⟨wr.heap.size, 2, none⟩ = some (.int .i64 f.more) := k6.cell 2
              have b3 : w7.cell? ⟨wr.heap.size, 3, none⟩ = some (.int .u64 (x : Nat)) := k6.cell 3
              have b4 : w7.cell? ⟨wr.heap.size, 4, none⟩ = some (.string (strB f.s)) := k6.cell 4
              go_wp2_with fail
              refine (write_any w1.heap.size Aw a cw (l.take a) ({ f with n := x } : Fd) w7 h6 y3.1 (by simp only at y4 ⊢; omega)).mono ?_
              rintro e w8 ⟨rfl, A8, c8, h8, d8⟩
              rw [Y1.out, ← List.take_add] at h8
              have hlen : (l.take (a + k)).length = a + k := by rw [List.length_take]; rw [List.length_drop] at y2; omega
              rw [hlen] at h8
              have F8 := F6.trans (d8.2.below (B := w'.heap.size) F6.size (fun k hk => by
                rcases hk with rfl | hk
                · exact hs1
                · exact Nat.le_trans hs1 (hAw k hk)))
              have R8 := R6.offE d8.2 (fun h => by
                rcases h with h | h
                · omega
                · have := hAw _ h
                  omega) (fun hne h => by
                have hne2 : l ≠ [] := fun h => hne (by simp [h])
                have := Tb.out hne2
                rcases h with h | h
                · omega
                · have := hAw _ h
                  omega)
              rw [List.drop_drop] at R8
              have hA8 : ∀ k, isB A8 k → w1.heap.size ≤ k := fun k hk => by
                rcases d8.1 with rfl | ⟨g, rfl, hg⟩
                · exact hAw k hk
                · obtain ⟨y, hy, rfl⟩ := hk
                  injection hy with hy
                  subst hy
                  have := h6.lt
                  exact Nat.le_trans (Nat.le_of_lt this) hg
              go_wp2_with fail
              go_roundw
              case rel => exact ⟨j + 1, a + k, A8, c8, by go_num, by omega, by rw [List.length_drop] at y2; omega, R8, h8, hA8, F8⟩
              case measure => simp [intOf]; omega
          · cases hq : findU32 (l.drop a) with
            | none =>
              have htk := takeS_none (z := 0) hq
              have HT := Lib.hid htk
              clear htk
              go_wp2_with fail
              refine (rU32_any p b _ w4 R).mono ?_
              rintro e w5 ⟨rfl, R5, g5⟩
              rw [HT.out] at R5 ⊢
              have k5 := k3.off g5 (by omega)
              have h5 := h2.off g5 (by omega) (fun k hk => by have := hAw k hk; omega)
              have F5 := F3.trans (Below.one g5 F3.size hp)
              have z5 := k5.frozen 3
              have b0 : w5.cell? ⟨wr.heap.size, 0, none⟩ = some (.int .i64 f.kind) := k5.cell 0
              have b1 : w5.cell? ⟨wr.heap.size, 1, none⟩ = some (.int .i64 f.most) := k5.cell 1
              have b2 : w5.cell? ⟨wr.heap.size, 2, none⟩ = some (.int .i64 f.more) := k5.cell 2
              have b3 : w5.cell? ⟨wr.heap.size, 3, none⟩ = some (.int .u64 f.n) := k5.cell 3
              have b4 : w5.cell? ⟨wr.heap.size, 4, none⟩ = some (.string (strB f.s)) := k5.cell 4
              clear c0 c1
              go_wp2_with fail
              have oS : Off (fun k => k = wr.heap.size) w5 (w5.setCell ⟨wr.heap.size, 3, none⟩ (.int .u64 (0 : Nat))) := (Off.refl (fun k => k = wr.heap.size) w5).setCell (p := ⟨wr.heap.size, 3, none⟩) (fun _ => rfl) _
              refine absC (fun w6 => Blk w6 wr.heap.size 32 ({ f with n := 0 } : Fd).cells ∧ Rr w6 p b ⟨l.drop a, true⟩ ∧ Wr w6 w1.heap.size Aw a cw (l.take a) ∧ Below w'.heap.size w' w6) ⟨k5.set 3 _, R5.offE oS (by omega) (fun hne e => ?_), h5.off oS (by omega) (fun k hk e => ?_), F5.setCell (by simp only; omega) _⟩ ?_
              · have hne2 : l ≠ [] := fun h => hne (by simp [h])
                have := Tb.out hne2
                have e2 : b = wr.heap.size := e
                omega
              · have e2 : k = wr.heap.size := e
                have := (h2.2.isB_lt hk).2
                have e3 := hAlt k hk
                omega
              clear oS k5 R5 h5 F5 b0 b1 b2 b3 b4 z5 g5
              rintro w6 ⟨k6, R6, h6, F6⟩
              refine (err_any p b _ w6 R6).mono ?_
              rintro e w7 ⟨rfl, rfl⟩
              go_wp2_with fail
              refine (bytes_any w1.heap.size Aw a cw (l.take a) w7 h6 (by omega)).mono ?_
              rintro e wB ⟨Ac, cc, rfl, oc, fB⟩
              have RB := R6.below fB
              have FB := F6.trans (fB.mono F6.size)
              have rc := oc.rd
              have rb := (r.below FB).more FB.size
              clear oc fB
              obtain ⟨d, hd⟩ := Nat.exists_eq_add_of_le ha
              have hdl : (l.drop a).length = d := by rw [List.length_drop]; omega
              have hwr : IntKind.i64.wrap ((a : Int) + (d : Int)) = (a : Int) + (d : Int) := by simp [IntKind.wrap, IntKind.bits, IntKind.signed]; omega
              have heq : ((a : Int) + (d : Int) == (n : Int)) = true := by simp; omega
              have hac : a ≤ c := by omega
              clear hd
              go_wp2_with fail
              refine wp_region_order (fun u => Below wB.heap.size wB u) 21 [(0,0), (1,0), (2,0), (5,0), (6,0), (3,1), (4,0), (7,0), (8,0), (9,0), (10,0), (11,0), (14,0), (15,0), (12,1), (13,0), (16,0), (17,0), (18,0), (19,1), (20,0), (21,2)] (by kernel_rfl) (by kernel_rfl) ?_
              simp only [pick, List.filterMap_cons, List.filterMap_nil, List.getElem?_cons_zero, List.getElem?_cons_succ, Option.map_some]
              have hS : Below wB.heap.size wB wB.drew := (Below.refl _ _).drew
              refine wpF_take (v := ?_) hS rfl ?_ (fun _ _ _ h => h) ?_
              rotate_left
              · intro w' hS'
                obtain _ := hS'
                go_simp <;> rfl
              go_simp
              refine wpF_take (v := ?_) hS rfl ?_ (fun _ _ _ h => h) ?_
              rotate_left
              · intro w' hS'
                obtain _ := hS'
                go_simp <;> rfl
              go_simp
              refine wpF_take (v := ?_) hS rfl ?_ (fun _ _ _ h => h) ?_
              rotate_left
              · intro w' hS'
                obtain _ := hS'
                go_simp <;> rfl
              go_simp
              refine wpF_take (v := ?_) hS rfl ?_ (fun _ _ _ h => h) ?_
              rotate_left
              · intro w' hS'
                obtain _ := hS'
                go_simp <;> rfl
              go_simp
              refine wpF_take (v := ?_) hS rfl ?_ (fun _ _ _ h => h) ?_
              rotate_left
              · intro w' hS'
                obtain _ := hS'
                go_simp <;> rfl
              go_simp
              refine wpF_only rfl (fun K hK => ?_)
              go_wp2_with fail
              refine (left_any p b _ _ (show Rr wB.drew p b ⟨l.drop a, true⟩ from RB)).mono ?_
              rintro e wL ⟨rfl, rfl⟩
              simp only
              rw [hdl]
              go_wp2_with fail
              refine ⟨fun _ => hS, ?_⟩
              go_simp
              refine wpF_take (v := ?_) hS rfl ?_ (fun _ _ _ h => h) ?_
              rotate_left
              · intro w' hS'
                obtain _ := hS'
                go_simp <;> rfl
              go_simp
              refine wpF_take (v := .bool true) hS rfl (fun w' _ => by go_simp) (fun _ _ _ h => h) ?_
              go_simp
              refine wpF_take (v := ?_) hS rfl ?_ (fun _ _ _ h => h) ?_
              rotate_left
              · intro w' hS'
                obtain _ := hS'
                go_simp <;> rfl
              go_simp
              refine wpF_take (v := ?_) hS rfl ?_ (fun _ _ _ h => h) ?_
              rotate_left
              · intro w' hS'
                obtain _ := hS'
                go_simp <;> rfl
              go_simp
              refine wpF_take (v := ?_) hS rfl ?_ (fun _ _ _ h => h) ?_
              rotate_left
              · intro w' hS'
                obtain _ := hS'
                go_simp <;> rfl
              go_simp
              refine wpF_take (v := ?_) hS rfl ?_ (fun _ _ _ h => h) ?_
              rotate_left
              · intro w' hS'
                obtain _ := hS'
                go_simp <;> rfl
              go_simp
              refine wpF_take (v := ?_) hS rfl ?_ (fun _ _ _ h => h) ?_
              rotate_left
              · intro w' hS'
                obtain _ := hS'
                go_simp <;> rfl
              go_simp
              refine wpF_take (v := .string (strB (l.take a))) hS rfl (fun u hS' => ?_) (fun _ _ _ h => h) ?_
              · have := run_str T23 (rc.below hS') cc _ Try.underlying9
                go_simp <;> rw [this]
              go_simp
              refine wpF_only rfl (fun K hK => wp_slice_h T23 rfl rfl rfl rb ha hnc (fun A7 r7 => ?_))
              refine hK _ _ ⟨fun _ => hS, ?_⟩
              go_simp
              refine wpF_take (v := .string (strB (l.take a))) hS rfl (fun u hS' => ?_) (fun _ _ _ h => h) ?_
              · have := run_str T23 (r7.below hS') c _ Try.underlying9
                go_simp <;> rw [this]
              go_simp
              refine wpF_take (v := .bool true) hS rfl (fun w' _ => by go_simp) (fun _ _ _ h => h) ?_
              go_simp
              refine wpF_take (v := ?_) hS rfl ?_ (fun _ _ _ h => h) ?_
              rotate_left
              · intro w' hS'
                obtain _ := hS'
                go_simp <;> rfl
              go_simp
              refine wpF_take (v := ?_) hS rfl ?_ (fun _ _ _ h => h) ?_
              rotate_left
              · intro w' hS'
                obtain _ := hS'
                go_simp <;> rfl
              go_simp
              refine wpF_only rfl (fun K hK => ?_)
              go_wp2_with fail
              refine (awake3_any _).mono ?_
              rintro e wA ⟨rfl, fA⟩
              have hS3 : Below wB.heap.size wB wA := (Below.refl wB.heap.size wB).drew.trans fA
              clear fA
              go_wp2_with fail
              refine ⟨fun _ => hS3, ?_⟩
              go_simp
              refine wpF_take (v := ?_) hS3 rfl ?_ (fun _ _ _ h => h) ?_
              rotate_left
              · intro w' hS'
                obtain _ := hS'
                go_simp <;> rfl
              go_simp
              refine wpF_only rfl (fun K hK => ?_)
              go_wp2_with fail
              refine ⟨fun h => absurd h (by omega), wpF_nil ?_⟩
              go_wp2_with fail
              go_ret
              exact ⟨rfl, FB.trans (hS3.mono FB.size)⟩
            | some q =>
              obtain ⟨x, k⟩ := q
              have htk := takeS_some (z := 0) hq
              have hrf : readF f (l.drop a) = some ({ f with n := x }, k) := by
                unfold readF
                rw [HK.out]
                simp only
                rw [hq]
                rfl
              obtain ⟨y1, y2, y3, y4⟩ := Hrd.out _ _ hrf
              have Y1 := Lib.hid y1
              clear y1 hrf
              have hx := (findU32_inv hq).2.2.2
              have hw := wrap_small (v := (x : Int)) (by omega) (by omega)
              have HT := Lib.hid htk
              clear htk
              go_wp2_with fail
              refine (rU32_any p b _ w4 R).mono ?_
              rintro e w5 ⟨rfl, R5, g5⟩
              rw [HT.out] at R5 ⊢
              have k5 := k3.off g5 (by omega)
              have h5 := h2.off g5 (by omega) (fun k hk => by have := hAw k hk; omega)
              have F5 := F3.trans (Below.one g5 F3.size hp)
              have z5 := k5.frozen 3
              have b0 : w5.cell? ⟨wr.heap.size, 0, none⟩ = some (.int .i64 f.kind) := k5.cell 0
              have b1 : w5.cell? ⟨wr.heap.size, 1, none⟩ = some (.int .i64 f.most) := k5.cell 1
              have b2 : w5.cell? ⟨wr.heap.size, 2, none⟩ = some (.int .i64 f.more) := k5.cell 2
              have b3 : w5.cell? ⟨wr.heap.size, 3, none⟩ = some (.int .u64 f.n) := k5.cell 3
              have b4 : w5.cell? ⟨wr.heap.size, 4, none⟩ = some (.string (strB f.s)) := k5.cell 4
              clear c0 c1
              go_wp2_with fail
              have oS : Off (fun k => k = wr.heap.size) w5 (w5.setCell ⟨wr.heap.size, 3, none⟩ (.int .u64 (x : Nat))) := (Off.refl (fun k => k = wr.heap.size) w5).setCell (p := ⟨wr.heap.size, 3, none⟩) (fun _ => rfl) _
              refine absC (fun w6 => Blk w6 wr.heap.size 32 ({ f with n := x } : Fd).cells ∧ Rr w6 p b ⟨(l.drop a).drop k, false⟩ ∧ Wr w6 w1.heap.size Aw a cw (l.take a) ∧ Below w'.heap.size w' w6) ⟨k5.set 3 _, R5.offE oS (by omega) (fun hne e => ?_), h5.off oS (by omega) (fun k hk e => ?_), F5.setCell (by simp only; omega) _⟩ ?_
              · have hne2 : l ≠ [] := fun h => hne (by simp [h])
                have := Tb.out hne2
                have e2 : b = wr.heap.size := e
                omega
              · have e2 : k = wr.heap.size := e
                have := (h2.2.isB_lt hk).2
                have e3 := hAlt k hk
                omega
              clear oS k5 R5 h5 F5 b0 b1 b2 b3 b4 z5 g5
              rintro w6 ⟨k6, R6, h6, F6⟩
              refine (err_any p b _ w6 R6).mono ?_
              rintro e w7 ⟨rfl, rfl⟩
              have b0 : w7.cell? ⟨wr.heap.size, 0, none⟩ = some (.int .i64 f.kind) := k6.cell 0
              have b1 : w7.cell? ⟨wr.heap.size, 1, none⟩ = some (.int .i64 f.most) := k6.cell 1
              have b2 : w7.cell? ⟨wr.heap.size, 2, none⟩ = some (.int .i64 f.more) := k6.cell 2
              have b3 : w7.cell? ⟨wr.heap.size, 3, none⟩ = some (.int .u64 (x : Nat)) := k6.cell 3
              have b4 : w7.cell? ⟨wr.heap.size, 4, none⟩ = some (.string (strB f.s)) := k6.cell 4
              go_wp2_with fail
              refine (write_any w1.heap.size Aw a cw (l.take a) ({ f with n := x } : Fd) w7 h6 y3.1 (by simp only at y4 ⊢; omega)).mono ?_
              rintro e w8 ⟨rfl, A8, c8, h8, d8⟩
              rw [Y1.out, ← List.take_add] at h8
              have hlen : (l.take (a + k)).length = a + k := by rw [List.length_take]; rw [List.length_drop] at y2; omega
              rw [hlen] at h8
              have F8 := F6.trans (d8.2.below (B := w'.heap.size) F6.size (fun k hk => by
                rcases hk with rfl | hk
                · exact hs1
                · exact Nat.le_trans hs1 (hAw k hk)))
              have R8 := R6.offE d8.2 (fun h => by
                rcases h with h | h
                · omega
                · have := hAw _ h
                  omega) (fun hne h => by
                have hne2 : l ≠ [] := fun h => hne (by simp [h])
                have := Tb.out hne2
                rcases h with h | h
                · omega
                · have := hAw _ h
                  omega)
              rw [List.drop_drop] at R8
              have hA8 : ∀ k, isB A8 k → w1.heap.size ≤ k := fun k hk => by
                rcases d8.1 with rfl | ⟨g, rfl, hg⟩
                · exact hAw k hk
                · obtain ⟨y, hy, rfl⟩ := hk
                  injection hy with hy
                  subst hy
                  have := h6.lt
                  exact Nat.le_trans (Nat.le_of_lt this) hg
              go_wp2_with fail
              go_roundw
              case rel => exact ⟨j + 1, a + k, A8, c8, by go_num, by omega, by rw [List.length_drop] at y2; omega, R8, h8, hA8, F8⟩
              case measure => simp [intOf]; omega
          · cases hq : findShort (l.drop a) with
            | none =>
              have htk := takeS_none (z := 0) hq
              have HT := Lib.hid htk
              clear htk
              go_wp2_with fail
              refine (rUint_any p b _ w4 R).mono ?_
              rintro e w5 ⟨rfl, R5, g5⟩
              rw [HT.out] at R5 ⊢
              have k5 := k3.off g5 (by omega)
              have h5 := h2.off g5 (by omega) (fun k hk => by have := hAw k hk; omega)
              have F5 := F3.trans (Below.one g5 F3.size hp)
              have z5 := k5.frozen 3
              have b0 : w5.cell? ⟨wr.heap.size, 0, none⟩ = some (.int .i64 f.kind) := k5.cell 0
              have b1 : w5.cell? ⟨wr.heap.size, 1, none⟩ = some (.int .i64 f.most) := k5.cell 1
              have b2 : w5.cell? ⟨wr.heap.size, 2, none⟩ = some (.int .i64 f.more) := k5.cell 2
              have b3 : w5.cell? ⟨wr.heap.size, 3, none⟩ = some (.int .u64 f.n) := k5.cell 3
              have b4 : w5.cell? ⟨wr.heap.size, 4, none⟩ = some (.string (strB f.s)) := k5.cell 4
              clear c0 c1
              go_wp2_with fail
              have oS : Off (fun k => k = wr.heap.size) w5 (w5.setCell ⟨wr.heap.size, 3, none⟩ (.int .u64 (0 : Nat))) := (Off.refl (fun k => k = wr.heap.size) w5).setCell (p := ⟨wr.heap.size, 3, none⟩) (fun _ => rfl) _
              refine absC (fun w6 => Blk w6 wr.heap.size 32 ({ f with n := 0 } : Fd).cells ∧ Rr w6 p b ⟨l.drop a, true⟩ ∧ Wr w6 w1.heap.size Aw a cw (l.take a) ∧ Below w'.heap.size w' w6) ⟨k5.set 3 _, R5.offE oS (by omega) (fun hne e => ?_), h5.off oS (by omega) (fun k hk e => ?_), F5.setCell (by simp only; omega) _⟩ ?_
              · have hne2 : l ≠ [] := fun h => hne (by simp [h])
                have := Tb.out hne2
                have e2 : b = wr.heap.size := e
                omega
              · have e2 : k = wr.heap.size := e
                have := (h2.2.isB_lt hk).2
                have e3 := hAlt k hk
                omega
              clear oS k5 R5 h5 F5 b0 b1 b2 b3 b4 z5 g5
              rintro w6 ⟨k6, R6, h6, F6⟩
              refine (err_any p b _ w6 R6).mono ?_
              rintro e w7 ⟨rfl, rfl⟩
              go_wp2_with fail
              refine (bytes_any w1.heap.size Aw a cw (l.take a) w7 h6 (by omega)).mono ?_
              rintro e wB ⟨Ac, cc, rfl, oc, fB⟩
              have RB := R6.below fB
              have FB := F6.trans (fB.mono F6.size)
              have rc := oc.rd
              have rb := (r.below FB).more FB.size
              clear oc fB
              obtain ⟨d, hd⟩ := Nat.exists_eq_add_of_le ha
              have hdl : (l.drop a).length = d := by rw [List.length_drop]; omega
              have hwr : IntKind.i64.wrap ((a : Int) + (d : Int)) = (a : Int) + (d : Int) := by simp [IntKind.wrap, IntKind.bits, IntKind.signed]; omega
              have heq : ((a : Int) + (d : Int) == (n : Int)) = true := by simp; omega
              have hac : a ≤ c := by omega
              clear hd
              go_wp2_with fail
              refine wp_region_order (fun u => Below wB.heap.size wB u) 21 [(0,0), (1,0), (2,0), (5,0), (6,0), (3,1), (4,0), (7,0), (8,0), (9,0), (10,0), (11,0), (14,0), (15,0), (12,1), (13,0), (16,0), (17,0), (18,0), (19,1), (20,0), (21,2)] (by kernel_rfl) (by kernel_rfl) ?_
              simp only [pick, List.filterMap_cons, List.filterMap_nil, List.getElem?_cons_zero, List.getElem?_cons_succ, Option.map_some]
              have hS : Below wB.heap.size wB wB.drew := (Below.refl _ _).drew
              refine wpF_take (v := ?_) hS rfl ?_ (fun _ _ _ h => h) ?_
              rotate_left
              · intro w' hS'
                obtain _ := hS'
                go_simp <;> rfl
              go_simp
              refine wpF_take (v := ?_) hS rfl ?_ (fun _ _ _ h => h) ?_
              rotate_left
              · intro w' hS'
                obtain _ := hS'
                go_simp <;> rfl
              go_simp
              refine wpF_take (v := ?_) hS rfl ?_ (fun _ _ _ h => h) ?_
              rotate_left
              · intro w' hS'
                obtain _ := hS'
                go_simp <;> rfl
              go_simp
              refine wpF_take (v := ?_) hS rfl ?_ (fun _ _ _ h => h) ?_
              rotate_left
              · intro w' hS'
                obtain _ := hS'
                go_simp <;> rfl
              go_simp
              refine wpF_take (v := ?_) hS rfl ?_ (fun _ _ _ h => h) ?_
              rotate_left
              · intro w' hS'
                obtain _ := hS'
                go_simp <;> rfl
              go_simp
              refine wpF_only rfl (fun K hK => ?_)
              go_wp2_with fail
              refine (left_any p b _ _ (show Rr wB.drew p b ⟨l.drop a, true⟩ from RB)).mono ?_
              rintro e wL ⟨rfl, rfl⟩
              simp only
              rw [hdl]
              go_wp2_with fail
              refine ⟨fun _ => hS, ?_⟩
              go_simp
              refine wpF_take (v := ?_) hS rfl ?_ (fun _ _ _ h => h) ?_
              rotate_left
              · intro w' hS'
                obtain _ := hS'
                go_simp <;> rfl
              go_simp
              refine wpF_take (v := .bool true) hS rfl (fun w' _ => by go_simp) (fun _ _ _ h => h) ?_
              go_simp
              refine wpF_take (v := ?_) hS rfl ?_ (fun _ _ _ h => h) ?_
              rotate_left
              · intro w' hS'
                obtain _ := hS'
                go_simp <;> rfl
              go_simp
              refine wpF_take (v := ?_) hS rfl ?_ (fun _ _ _ h => h) ?_
              rotate_left
              · intro w' hS'
                obtain _ := hS'
                go_simp <;> rfl
              go_simp
              refine wpF_take (v := ?_) hS rfl ?_ (fun _ _ _ h => h) ?_
              rotate_left
              · intro w' hS'
                obtain _ := hS'
                go_simp <;> rfl
              go_simp
              refine wpF_take (v := ?_) hS rfl ?_ (fun _ _ _ h => h) ?_
              rotate_left
              · intro w' hS'
                obtain _ := hS'
                go_simp <;> rfl
              go_simp
              refine wpF_take (v := ?_) hS rfl ?_ (fun _ _ _ h => h) ?_
              rotate_left
              · intro w' hS'
                obtain _ := hS'
                go_simp <;> rfl
              go_simp
              refine wpF_take (v := .string (strB (l.take a))) hS rfl (fun u hS' => ?_) (fun _ _ _ h => h) ?_
              · have := run_str T23 (rc.below hS') cc _ Try.underlying9
                go_simp <;> rw [this]
              go_simp
              refine wpF_only rfl (fun K hK => wp_slice_h T23 rfl rfl rfl rb ha hnc (fun A7 r7 => ?_))
              refine hK _ _ ⟨fun _ => hS, ?_⟩
              go_simp
              refine wpF_take (v := .string (strB (l.take a))) hS rfl (fun u hS' => ?_) (fun _ _ _ h => h) ?_
              · have := run_str T23 (r7.below hS') c _ Try.underlying9
                go_simp <;> rw [this]
              go_simp
              refine wpF_take (v := .bool true) hS rfl (fun w' _ => by go_simp) (fun _ _ _ h => h) ?_
              go_simp
              refine wpF_take (v := ?_) hS rfl ?_ (fun _ _ _ h => h) ?_
              rotate_left
              · intro w' hS'
                obtain _ := hS'
                go_simp <;> rfl
              go_simp
              refine wpF_take (v := ?_) hS rfl ?_ (fun _ _ _ h => h) ?_
              rotate_left
              · intro w' hS'
                obtain _ := hS'
                go_simp <;> rfl
              go_simp
              refine wpF_only rfl (fun K hK => ?_)
              go_wp2_with fail
              refine (awake3_any _).mono ?_
              rintro e wA ⟨rfl, fA⟩
              have hS3 : Below wB.heap.size wB wA := (Below.refl wB.heap.size wB).drew.trans fA
              clear fA
              go_wp2_with fail
              refine ⟨fun _ => hS3, ?_⟩
              go_simp
              refine wpF_take (v := ?_) hS3 rfl ?_ (fun _ _ _ h => h) ?_
              rotate_left
              · intro w' hS'
                obtain _ := hS'
                go_simp <;> rfl
              go_simp
              refine wpF_only rfl (fun K hK => ?_)
              go_wp2_with fail
              refine ⟨fun h => absurd h (by omega), wpF_nil ?_⟩
              go_wp2_with fail
              go_ret
              exact ⟨rfl, FB.trans (hS3.mono FB.size)⟩
            | some q =>
              obtain ⟨x, k⟩ := q
              have htk := takeS_some (z := 0) hq
              have hrf : readF f (l.drop a) = some ({ f with n := x }, k) := by
                unfold readF
                rw [HK.out]
                simp only
                rw [hq]
                rfl
              obtain ⟨y1, y2, y3, y4⟩ := Hrd.out _ _ hrf
              have Y1 := Lib.hid y1
              clear y1 hrf
              have HT := Lib.hid htk
              clear htk
              go_wp2_with fail
              refine (rUint_any p b _ w4 R).mono ?_
              rintro e w5 ⟨rfl, R5, g5⟩
              rw [HT.out] at R5 ⊢
              have k5 := k3.off g5 (by omega)
              have h5 := h2.off g5 (by omega) (fun k hk => by have := hAw k hk; omega)
              have F5 := F3.trans (Below.one g5 F3.size hp)
              have z5 := k5.frozen 3
              have b0 : w5.cell? ⟨wr.heap.size, 0, none⟩ = some (.int .i64 f.kind) := k5.cell 0
              have b1 : w5.cell? ⟨wr.heap.size, 1, none⟩ = some (.int .i64 f.most) := k5.cell 1
              have b2 : w5.cell? ⟨wr.heap.size, 2, none⟩ = some (.int .i64 f.more) := k5.cell 2
              have b3 : w5.cell? ⟨wr.heap.size, 3, none⟩ = some (.int .u64 f.n) := k5.cell 3
              have b4 : w5.cell? ⟨wr.heap.size, 4, none⟩ = some (.string (strB f.s)) := k5.cell 4
              clear c0 c1
              go_wp2_with fail
              have oS : Off (fun k => k = wr.heap.size) w5 (w5.setCell ⟨wr.heap.size, 3, none⟩ (.int .u64 (x : Nat))) := (Off.refl (fun k => k = wr.heap.size) w5).setCell (p := ⟨wr.heap.size, 3, none⟩) (fun _ => rfl) _
              refine absC (fun w6 => Blk w6 wr.heap.size 32 ({ f with n := x } : Fd).cells ∧ Rr w6 p b ⟨(l.drop a).drop k, false⟩ ∧ Wr w6 w1.heap.size Aw a cw (l.take a) ∧ Below w'.heap.size w' w6) ⟨k5.set 3 _, R5.offE oS (by omega) (fun hne e => ?_), h5.off oS (by omega) (fun k hk e => ?_), F5.setCell (by simp only; omega) _⟩ ?_
              · have hne2 : l ≠ [] := fun h => hne (by simp [h])
                have := Tb.out hne2
                have e2 : b = wr.heap.size := e
                omega
              · have e2 : k = wr.heap.size := e
                have := (h2.2.isB_lt hk).2
                have e3 := hAlt k hk
                omega
              clear oS k5 R5 h5 F5 b0 b1 b2 b3 b4 z5 g5
              rintro w6 ⟨k6, R6, h6, F6⟩
              refine (err_any p b _ w6 R6).mono ?_
              rintro e w7 ⟨rfl, rfl⟩
              have b0 : w7.cell? ⟨wr.heap.size, 0, none⟩ = some (.int .i64 f.kind) := k6.cell 0
              have b1 : w7.cell? ⟨wr.heap.size, 1, none⟩ = some (.int .i64 f.most) := k6.cell 1
              have b2 : w7.cell? ⟨wr.heap.size, 2, none⟩ = some (.int .i64 f.more) := k6.cell 2
              have b3 : w7.cell? ⟨wr.heap.size, 3, none⟩ = some (.int .u64 (x : Nat)) := k6.cell 3
              have b4 : w7.cell? ⟨wr.heap.size, 4, none⟩ = some (.string (strB f.s)) := k6.cell 4
              go_wp2_with fail
              refine (write_any w1.heap.size Aw a cw (l.take a) ({ f with n := x } : Fd) w7 h6 y3.1 (by simp only at y4 ⊢; omega)).mono ?_
              rintro e w8 ⟨rfl, A8, c8, h8, d8⟩
              rw [Y1.out, ← List.take_add] at h8
              have hlen : (l.take (a + k)).length = a + k := by rw [List.length_take]; rw [List.length_drop] at y2; omega
              rw [hlen] at h8
              have F8 := F6.trans (d8.2.below (B := w'.heap.size) F6.size (fun k hk => by
                rcases hk with rfl | hk
                · exact hs1
                · exact Nat.le_trans hs1 (hAw k hk)))
              have R8 := R6.offE d8.2 (fun h => by
                rcases h with h | h
                · omega
                · have := hAw _ h
                  omega) (fun hne h => by
                have hne2 : l ≠ [] := fun h => hne (by simp [h])
                have := Tb.out hne2
                rcases h with h | h
                · omega
                · have := hAw _ h
                  omega)
              rw [List.drop_drop] at R8
              have hA8 : ∀ k, isB A8 k → w1.heap.size ≤ k := fun k hk => by
                rcases d8.1 with rfl | ⟨g, rfl, hg⟩
                · exact hAw k hk
                · obtain ⟨y, hy, rfl⟩ := hk
                  injection hy with hy
                  subst hy
                  have := h6.lt
                  exact Nat.le_trans (Nat.le_of_lt this) hg
              go_wp2_with fail
              go_roundw
              case rel => exact ⟨j + 1, a + k, A8, c8, by go_num, by omega, by rw [List.length_drop] at y2; omega, R8, h8, hA8, F8⟩
              case measure => simp [intOf]; omega
          · cases hq : findText f.most (l.drop a) with
            | none =>
              have htk := takeS_none (z := []) hq
              have HT := Lib.hid htk
              clear htk
              go_wp2_with fail
              refine (rText_any p b _ f.most w4 R (by simp only; omega) hm1 hm2).mono ?_
              rintro e w5 ⟨rfl, R5, g5⟩
              rw [HT.out] at R5 ⊢
              have k5 := k3.off g5 (by omega)
              have h5 := h2.off g5 (by omega) (fun k hk => by have := hAw k hk; omega)
              have F5 := F3.trans (Below.one g5 F3.size hp)
              have z5 := k5.frozen 4
              have b0 : w5.cell? ⟨wr.heap.size, 0, none⟩ = some (.int .i64 f.kind) := k5.cell 0
              have b1 : w5.cell? ⟨wr.heap.size, 1, none⟩ = some (.int .i64 f.most) := k5.cell 1
              have b2 : w5.cell? ⟨wr.heap.size, 2, none⟩ = some (.int .i64 f.more) := k5.cell 2
              have b3 : w5.cell? ⟨wr.heap.size, 3, none⟩ = some (.int .u64 f.n) := k5.cell 3
              have b4 : w5.cell? ⟨wr.heap.size, 4, none⟩ = some (.string (strB f.s)) := k5.cell 4
              clear c0 c1
              go_wp2_with fail
              have oS : Off (fun k => k = wr.heap.size) w5 (w5.setCell ⟨wr.heap.size, 4, none⟩ (.string (strB []))) := (Off.refl (fun k => k = wr.heap.size) w5).setCell (p := ⟨wr.heap.size, 4, none⟩) (fun _ => rfl) _
              refine absC (fun w6 => Blk w6 wr.heap.size 32 ({ f with s := [] } : Fd).cells ∧ Rr w6 p b ⟨l.drop a, true⟩ ∧ Wr w6 w1.heap.size Aw a cw (l.take a) ∧ Below w'.heap.size w' w6) ⟨k5.set 4 _, R5.offE oS (by omega) (fun hne e => ?_), h5.off oS (by omega) (fun k hk e => ?_), F5.setCell (by simp only; omega) _⟩ ?_
              · have hne2 : l ≠ [] := fun h => hne (by simp [h])
                have := Tb.out hne2
                have e2 : b = wr.heap.size := e
                omega
              · have e2 : k = wr.heap.size := e
                have := (h2.2.isB_lt hk).2
                have e3 := hAlt k hk
                omega
              clear oS k5 R5 h5 F5 b0 b1 b2 b3 b4 z5 g5
              rintro w6 ⟨k6, R6, h6, F6⟩
              refine (err_any p b _ w6 R6).mono ?_
              rintro e w7 ⟨rfl, rfl⟩
              go_wp2_with fail
              refine (bytes_any w1.heap.size Aw a cw (l.take a) w7 h6 (by omega)).mono ?_
              rintro e wB ⟨Ac, cc, rfl, oc, fB⟩
              have RB := R6.below fB
              have FB := F6.trans (fB.mono F6.size)
              have rc := oc.rd
              have rb := (r.below FB).more FB.size
              clear oc fB
              obtain ⟨d, hd⟩ := Nat.exists_eq_add_of_le ha
              have hdl : (l.drop a).length = d := by rw [List.length_drop]; omega
              have hwr : IntKind.i64.wrap ((a : Int) + (d : Int)) = (a : Int) + (d : Int) := by simp [IntKind.wrap, IntKind.bits, IntKind.signed]; omega
              have heq : ((a : Int) + (d : Int) == (n : Int)) = true := by simp; omega
              have hac : a ≤ c := by omega
              clear hd
              go_wp2_with fail
              refine wp_region_order (fun u => Below wB.heap.size wB u) 21 [(0,0), (1,0), (2,0), (5,0), (6,0), (3,1), (4,0), (7,0), (8,0), (9,0), (10,0), (11,0), (14,0), (15,0), (12,1), (13,0), (16,0), (17,0), (18,0), (19,1), (20,0), (21,2)] (by kernel_rfl) (by kernel_rfl) ?_
              simp only [pick, List.filterMap_cons, List.filterMap_nil, List.getElem?_cons_zero, List.getElem?_cons_succ, Option.map_some]
              have hS : Below wB.heap.size wB wB.drew := (Below.refl _ _).drew
              refine wpF_take (v := ?_) hS rfl ?_ (fun _ _ _ h => h) ?_
              rotate_left
              · intro w' hS'
                obtain _ := hS'
                go_simp <;> rfl
              go_simp
              refine wpF_take (v := ?_) hS rfl ?_ (fun _ _ _ h => h) ?_
              rotate_left
              · intro w' hS'
                obtain _ := hS'
                go_simp <;> rfl
              go_simp
              refine wpF_take (v := ?_) hS rfl ?_ (fun _ _ _ h => h) ?_
              rotate_left
              · intro w' hS'
                obtain _ := hS'
                go_simp <;> rfl
              go_simp
              refine wpF_take (v := ?_) hS rfl ?_ (fun _ _ _ h => h) ?_
              rotate_left
              · intro w' hS'
                obtain _ := hS'
                go_simp <;> rfl
              go_simp
              refine wpF_take (v := ?_) hS rfl ?_ (fun _ _ _ h => h) ?_
              rotate_left
              · intro w' hS'
                obtain _ := hS'
                go_simp <;> rfl
              go_simp
              refine wpF_only rfl (fun K hK => ?_)
              go_wp2_with fail
              refine (left_any p b _ _ (show Rr wB.drew p b ⟨l.drop a, true⟩ from RB)).mono ?_
              rintro e wL ⟨rfl, rfl⟩
              simp only
              rw [hdl]
              go_wp2_with fail
              refine ⟨fun _ => hS, ?_⟩
              go_simp
              refine wpF_take (v := ?_) hS rfl ?_ (fun _ _ _ h => h) ?_
              rotate_left
              · intro w' hS'
                obtain _ := hS'
                go_simp <;> rfl
              go_simp
              refine wpF_take (v := .bool true) hS rfl (fun w' _ => by go_simp) (fun _ _ _ h => h) ?_
              go_simp
              refine wpF_take (v := ?_) hS rfl ?_ (fun _ _ _ h => h) ?_
              rotate_left
              · intro w' hS'
                obtain _ := hS'
                go_simp <;> rfl
              go_simp
              refine wpF_take (v := ?_) hS rfl ?_ (fun _ _ _ h => h) ?_
              rotate_left
              · intro w' hS'
                obtain _ := hS'
                go_simp <;> rfl
              go_simp
              refine wpF_take (v := ?_) hS rfl ?_ (fun _ _ _ h => h) ?_
              rotate_left
              · intro w' hS'
                obtain _ := hS'
                go_simp <;> rfl
              go_simp
              refine wpF_take (v := ?_) hS rfl ?_ (fun _ _ _ h => h) ?_
              rotate_left
              · intro w' hS'
                obtain _ := hS'
                go_simp <;> rfl
              go_simp
              refine wpF_take (v := ?_) hS rfl ?_ (fun _ _ _ h => h) ?_
              rotate_left
              · intro w' hS'
                obtain _ := hS'
                go_simp <;> rfl
              go_simp
              refine wpF_take (v := .string (strB (l.take a))) hS rfl (fun u hS' => ?_) (fun _ _ _ h => h) ?_
              · have := run_str T23 (rc.below hS') cc _ Try.underlying9
                go_simp <;> rw [this]
              go_simp
              refine wpF_only rfl (fun K hK => wp_slice_h T23 rfl rfl rfl rb ha hnc (fun A7 r7 => ?_))
              refine hK _ _ ⟨fun _ => hS, ?_⟩
              go_simp
              refine wpF_take (v := .string (strB (l.take a))) hS rfl (fun u hS' => ?_) (fun _ _ _ h => h) ?_
              · have := run_str T23 (r7.below hS') c _ Try.underlying9
                go_simp <;> rw [this]
              go_simp
              refine wpF_take (v := .bool true) hS rfl (fun w' _ => by go_simp) (fun _ _ _ h => h) ?_
              go_simp
              refine wpF_take (v := ?_) hS rfl ?_ (fun _ _ _ h => h) ?_
              rotate_left
              · intro w' hS'
                obtain _ := hS'
                go_simp <;> rfl
              go_simp
              refine wpF_take (v := ?_) hS rfl ?_ (fun _ _ _ h => h) ?_
              rotate_left
              · intro w' hS'
                obtain _ := hS'
                go_simp <;> rfl
              go_simp
              refine wpF_only rfl (fun K hK => ?_)
              go_wp2_with fail
              refine (awake3_any _).mono ?_
              rintro e wA ⟨rfl, fA⟩
              have hS3 : Below wB.heap.size wB wA := (Below.refl wB.heap.size wB).drew.trans fA
              clear fA
              go_wp2_with fail
              refine ⟨fun _ => hS3, ?_⟩
              go_simp
              refine wpF_take (v := ?_) hS3 rfl ?_ (fun _ _ _ h => h) ?_
              rotate_left
              · intro w' hS'
                obtain _ := hS'
                go_simp <;> rfl
              go_simp
              refine wpF_only rfl (fun K hK => ?_)
              go_wp2_with fail
              refine ⟨fun h => absurd h (by omega), wpF_nil ?_⟩
              go_wp2_with fail
              go_ret
              exact ⟨rfl, FB.trans (hS3.mono FB.size)⟩
            | some q =>
              obtain ⟨x, k⟩ := q
              have htk := takeS_some (z := []) hq
              have hrf : readF f (l.drop a) = some ({ f with s := x }, k) := by
                unfold readF
                rw [HK.out]
                simp only
                rw [hq]
                rfl
              obtain ⟨y1, y2, y3, y4⟩ := Hrd.out _ _ hrf
              have Y1 := Lib.hid y1
              clear y1 hrf
              have HT := Lib.hid htk
              clear htk
              go_wp2_with fail
              refine (rText_any p b _ f.most w4 R (by simp only; omega) hm1 hm2).mono ?_
              rintro e w5 ⟨rfl, R5, g5⟩
              rw [HT.out] at R5 ⊢
              have k5 := k3.off g5 (by omega)
              have h5 := h2.off g5 (by omega) (fun k hk => by have := hAw k hk; omega)
              have F5 := F3.trans (Below.one g5 F3.size hp)
              have z5 := k5.frozen 4
              have b0 : w5.cell? ⟨wr.heap.size, 0, none⟩ = some (.int .i64 f.kind) := k5.cell 0
              have b1 : w5.cell? ⟨wr.heap.size, 1, none⟩ = some (.int .i64 f.most) := k5.cell 1
              have b2 : w5.cell? ⟨wr.heap.size, 2, none⟩ = some (.int .i64 f.more) := k5.cell 2
              have b3 : w5.cell? ⟨wr.heap.size, 3, none⟩ = some (.int .u64 f.n) := k5.cell 3
              have b4 : w5.cell? ⟨wr.heap.size, 4, none⟩ = some (.string (strB f.s)) := k5.cell 4
              clear c0 c1
              go_wp2_with fail
              have oS : Off (fun k => k = wr.heap.size) w5 (w5.setCell ⟨wr.heap.size, 4, none⟩ (.string (strB x))) := (Off.refl (fun k => k = wr.heap.size) w5).setCell (p := ⟨wr.heap.size, 4, none⟩) (fun _ => rfl) _
              refine absC (fun w6 => Blk w6 wr.heap.size 32 ({ f with s := x } : Fd).cells ∧ Rr w6 p b ⟨(l.drop a).drop k, false⟩ ∧ Wr w6 w1.heap.size Aw a cw (l.take a) ∧ Below w'.heap.size w' w6) ⟨k5.set 4 _, R5.offE oS (by omega) (fun hne e => ?_), h5.off oS (by omega) (fun k hk e => ?_), F5.setCell (by simp only; omega) _⟩ ?_
              · have hne2 : l ≠ [] := fun h => hne (by simp [h])
                have := Tb.out hne2
                have e2 : b = wr.heap.size := e
                omega
              · have e2 : k = wr.heap.size := e
                have := (h2.2.isB_lt hk).2
                have e3 := hAlt k hk
                omega
              clear oS k5 R5 h5 F5 b0 b1 b2 b3 b4 z5 g5
              rintro w6 ⟨k6, R6, h6, F6⟩
              refine (err_any p b _ w6 R6).mono ?_
              rintro e w7 ⟨rfl, rfl⟩
              have b0 : w7.cell? ⟨wr.heap.size, 0, none⟩ = some (.int .i64 f.kind) := k6.cell 0
              have b1 : w7.cell? ⟨wr.heap.size, 1, none⟩ = some (.int .i64 f.most) := k6.cell 1
              have b2 : w7.cell? ⟨wr.heap.size, 2, none⟩ = some (.int .i64 f.more) := k6.cell 2
              have b3 : w7.cell? ⟨wr.heap.size, 3, none⟩ = some (.int .u64 f.n) := k6.cell 3
              have b4 : w7.cell? ⟨wr.heap.size, 4, none⟩ = some (.string (strB x)) := k6.cell 4
              go_wp2_with fail
              refine (write_any w1.heap.size Aw a cw (l.take a) ({ f with s := x } : Fd) w7 h6 y3.1 (by simp only at y4 ⊢; omega)).mono ?_
              rintro e w8 ⟨rfl, A8, c8, h8, d8⟩
              rw [Y1.out, ← List.take_add] at h8
              have hlen : (l.take (a + k)).length = a + k := by rw [List.length_take]; rw [List.length_drop] at y2; omega
              rw [hlen] at h8
              have F8 := F6.trans (d8.2.below (B := w'.heap.size) F6.size (fun k hk => by
                rcases hk with rfl | hk
                · exact hs1
                · exact Nat.le_trans hs1 (hAw k hk)))
              have R8 := R6.offE d8.2 (fun h => by
                rcases h with h | h
                · omega
                · have := hAw _ h
                  omega) (fun hne h => by
                have hne2 : l ≠ [] := fun h => hne (by simp [h])
                have := Tb.out hne2
                rcases h with h | h
                · omega
                · have := hAw _ h
                  omega)
              rw [List.drop_drop] at R8
              have hA8 : ∀ k, isB A8 k → w1.heap.size ≤ k := fun k hk => by
                rcases d8.1 with rfl | ⟨g, rfl, hg⟩
                · exact hAw k hk
                · obtain ⟨y, hy, rfl⟩ := hk
                  injection hy with hy
                  subst hy
                  have := h6.lt
                  exact Nat.le_trans (Nat.le_of_lt this) hg
              go_wp2_with fail
              go_roundw
              case rel => exact ⟨j + 1, a + k, A8, c8, by go_num, by omega, by rw [List.length_drop] at y2; omega, R8, h8, hA8, F8⟩
              case measure => simp [intOf]; omega
          · cases hq : findRaw f.most (l.drop a) with
            | none =>
              have htk := takeS_none (z := []) hq
              have HT := Lib.hid htk
              clear htk
              go_wp2_with fail
              refine (rRaw_any p b _ f.most w4 R (by simp only; omega)).mono ?_
              rintro e w5 ⟨A3, n3, c3, rfl, o3, R5, g5⟩
              rw [HT.out] at o3 R5
              have k5c : (convert 28 9 (.slice A3 n3 c3)).run Try.prog w5 = .ok (.string (strB [])) w5 := o3.str
              have k5 := k3.off g5 (by omega)
              have h5 := h2.off g5 (by omega) (fun k hk => by have := hAw k hk; omega)
              have F5 := F3.trans (Below.one g5 F3.size hp)
              have z5 := k5.frozen 4
              have b0 : w5.cell? ⟨wr.heap.size, 0, none⟩ = some (.int .i64 f.kind) := k5.cell 0
              have b1 : w5.cell? ⟨wr.heap.size, 1, none⟩ = some (.int .i64 f.most) := k5.cell 1
              have b2 : w5.cell? ⟨wr.heap.size, 2, none⟩ = some (.int .i64 f.more) := k5.cell 2
              have b3 : w5.cell? ⟨wr.heap.size, 3, none⟩ = some (.int .u64 f.n) := k5.cell 3
              have b4 : w5.cell? ⟨wr.heap.size, 4, none⟩ = some (.string (strB f.s)) := k5.cell 4
              clear c0 c1
              go_wp2_with fail
              have oS : Off (fun k => k = wr.heap.size) w5 (w5.setCell ⟨wr.heap.size, 4, none⟩ (.string (strB []))) := (Off.refl (fun k => k = wr.heap.size) w5).setCell (p := ⟨wr.heap.size, 4, none⟩) (fun _ => rfl) _
              refine absC (fun w6 => Blk w6 wr.heap.size 32 ({ f with s := [] } : Fd).cells ∧ Rr w6 p b ⟨l.drop a, true⟩ ∧ Wr w6 w1.heap.size Aw a cw (l.take a) ∧ Below w'.heap.size w' w6) ⟨k5.set 4 _, R5.offE oS (by omega) (fun hne e => ?_), h5.off oS (by omega) (fun k hk e => ?_), F5.setCell (by simp only; omega) _⟩ ?_
              · have hne2 : l ≠ [] := fun h => hne (by simp [h])
                have := Tb.out hne2
                have e2 : b = wr.heap.size := e
                omega
              · have e2 : k = wr.heap.size := e
                have := (h2.2.isB_lt hk).2
                have e3 := hAlt k hk
                omega
              clear oS k5 R5 h5 F5 b0 b1 b2 b3 b4 z5 g5 k5c o3
              rintro w6 ⟨k6, R6, h6, F6⟩
              refine (err_any p b _ w6 R6).mono ?_
              rintro e w7 ⟨rfl, rfl⟩
              go_wp2_with fail
              refine (bytes_any w1.heap.size Aw a cw (l.take a) w7 h6 (by omega)).mono ?_
              rintro e wB ⟨Ac, cc, rfl, oc, fB⟩
              have RB := R6.below fB
              have FB := F6.trans (fB.mono F6.size)
              have rc := oc.rd
              have rb := (r.below FB).more FB.size
              clear oc fB
              obtain ⟨d, hd⟩ := Nat.exists_eq_add_of_le ha
              have hdl : (l.drop a).length = d := by rw [List.length_drop]; omega
              have hwr : IntKind.i64.wrap ((a : Int) + (d : Int)) = (a : Int) + (d : Int) := by simp [IntKind.wrap, IntKind.bits, IntKind.signed]; omega
              have heq : ((a : Int) + (d : Int) == (n : Int)) = true := by simp; omega
              have hac : a ≤ c := by omega
              clear hd
              go_wp2_with fail
              refine wp_region_order (fun u => Below wB.heap.size wB u) 21 [(0,0), (1,0), (2,0), (5,0), (6,0), (3,1), (4,0), (7,0), (8,0), (9,0), (10,0), (11,0), (14,0), (15,0), (12,1), (13,0), (16,0), (17,0), (18,0), (19,1), (20,0), (21,2)] (by kernel_rfl) (by kernel_rfl) ?_
              simp only [pick, List.filterMap_cons, List.filterMap_nil, List.getElem?_cons_zero, List.getElem?_cons_succ, Option.map_some]
              have hS : Below wB.heap.size wB wB.drew := (Below.refl _ _).drew
              refine wpF_take (v := ?_) hS rfl ?_ (fun _ _ _ h => h) ?_
              rotate_left
              · intro w' hS'
                obtain _ := hS'
                go_simp <;> rfl
              go_simp
              refine wpF_take (v := ?_) hS rfl ?_ (fun _ _ _ h => h) ?_
              rotate_left
              · intro w' hS'
                obtain _ := hS'
                go_simp <;> rfl
              go_simp
              refine wpF_take (v := ?_) hS rfl ?_ (fun _ _ _ h => h) ?_
              rotate_left
              · intro w' hS'
                obtain _ := hS'
                go_simp <;> rfl
              go_simp
              refine wpF_take (v := ?_) hS rfl ?_ (fun _ _ _ h => h) ?_
              rotate_left
              · intro w' hS'
                obtain _ := hS'
                go_simp <;> rfl
              go_simp
              refine wpF_take (v := ?_) hS rfl ?_ (fun _ _ _ h => h) ?_
              rotate_left
              · intro w' hS'
                obtain _ := hS'
                go_simp <;> rfl
              go_simp
              refine wpF_only rfl (fun K hK => ?_)
              go_wp2_with fail
              refine (left_any p b _ _ (show Rr wB.drew p b ⟨l.drop a, true⟩ from RB)).mono ?_
              rintro e wL ⟨rfl, rfl⟩
              simp only
              rw [hdl]
              go_wp2_with fail
              refine ⟨fun _ => hS, ?_⟩
              go_simp
              refine wpF_take (v := ?_) hS rfl ?_ (fun _ _ _ h => h) ?_
              rotate_left
              · intro w' hS'
                obtain _ := hS'
                go_simp <;> rfl
              go_simp
              refine wpF_take (v := .bool true) hS rfl (fun w' _ => by go_simp) (fun _ _ _ h => h) ?_
              go_simp
              refine wpF_take (v := ?_) hS rfl ?_ (fun _ _ _ h => h) ?_
              rotate_left
              · intro w' hS'
                obtain _ := hS'
                go_simp <;> rfl
              go_simp
              refine wpF_take (v := ?_) hS rfl ?_ (fun _ _ _ h => h) ?_
              rotate_left
              · intro w' hS'
                obtain _ := hS'
                go_simp <;> rfl
              go_simp
              refine wpF_take (v := ?_) hS rfl ?_ (fun _ _ _ h => h) ?_
              rotate_left
              · intro w' hS'
                obtain _ := hS'
                go_simp <;> rfl
              go_simp
              refine wpF_take (v := ?_) hS rfl ?_ (fun _ _ _ h => h) ?_
              rotate_left
              · intro w' hS'
                obtain _ := hS'
                go_simp <;> rfl
              go_simp
              refine wpF_take (v := ?_) hS rfl ?_ (fun _ _ _ h => h) ?_
              rotate_left
              · intro w' hS'
                obtain _ := hS'
                go_simp <;> rfl
              go_simp
              refine wpF_take (v := .string (strB (l.take a))) hS rfl (fun u hS' => ?_) (fun _ _ _ h => h) ?_
              · have := run_str T23 (rc.below hS') cc _ Try.underlying9
                go_simp <;> rw [this]
              go_simp
              refine wpF_only rfl (fun K hK => wp_slice_h T23 rfl rfl rfl rb ha hnc (fun A7 r7 => ?_))
              refine hK _ _ ⟨fun _ => hS, ?_⟩
              go_simp
              refine wpF_take (v := .string (strB (l.take a))) hS rfl (fun u hS' => ?_) (fun _ _ _ h => h) ?_
              · have := run_str T23 (r7.below hS') c _ Try.underlying9
                go_simp <;> rw [this]
              go_simp
              refine wpF_take (v := .bool true) hS rfl (fun w' _ => by go_simp) (fun _ _ _ h => h) ?_
              go_simp
              refine wpF_take (v := ?_) hS rfl ?_ (fun _ _ _ h => h) ?_
              rotate_left
              · intro w' hS'
                obtain _ := hS'
                go_simp <;> rfl
              go_simp
              refine wpF_take (v := ?_) hS rfl ?_ (fun _ _ _ h => h) ?_
              rotate_left
              · intro w' hS'
                obtain _ := hS'
                go_simp <;> rfl
              go_simp
              refine wpF_only rfl (fun K hK => ?_)
              go_wp2_with fail
              refine (awake3_any _).mono ?_
              rintro e wA ⟨rfl, fA⟩
              have hS3 : Below wB.heap.size wB wA := (Below.refl wB.heap.size wB).drew.trans fA
              clear fA
              go_wp2_with fail
              refine ⟨fun _ => hS3, ?_⟩
              go_simp
              refine wpF_take (v := ?_) hS3 rfl ?_ (fun _ _ _ h => h) ?_
              rotate_left
              · intro w' hS'
                obtain _ := hS'
                go_simp <;> rfl
              go_simp
              refine wpF_only rfl (fun K hK => ?_)
              go_wp2_with fail
              refine ⟨fun h => absurd h (by omega), wpF_nil ?_⟩
              go_wp2_with fail
              go_ret
              exact ⟨rfl, FB.trans (hS3.mono FB.size)⟩
            | some q =>
              obtain ⟨x, k⟩ := q
              have htk := takeS_some (z := []) hq
              have hrf : readF f (l.drop a) = some ({ f with s := x }, k) := by
                unfold readF
                rw [HK.out]
                simp only
                rw [hq]
                rfl
              obtain ⟨y1, y2, y3, y4⟩ := Hrd.out _ _ hrf
              have Y1 := Lib.hid y1
              clear y1 hrf
              have HT := Lib.hid htk
              clear htk
              go_wp2_with fail
              refine (rRaw_any p b _ f.most w4 R (by simp only; omega)).mono ?_
              rintro e w5 ⟨A3, n3, c3, rfl, o3, R5, g5⟩
              rw [HT.out] at o3 R5
              have k5c : (convert 28 9 (.slice A3 n3 c3)).run Try.prog w5 = .ok (.string (strB x)) w5 := o3.str
              have k5 := k3.off g5 (by omega)
              have h5 := h2.off g5 (by omega) (fun k hk => by have := hAw k hk; omega)
              have F5 := F3.trans (Below.one g5 F3.size hp)
              have z5 := k5.frozen 4
              have b0 : w5.cell? ⟨wr.heap.size, 0, none⟩ = some (.int .i64 f.kind) := k5.cell 0
              have b1 : w5.cell? ⟨wr.heap.size, 1, none⟩ = some (.int .i64 f.most) := k5.cell 1
              have b2 : w5.cell? ⟨wr.heap.size, 2, none⟩ = some (.int .i64 f.more) := k5.cell 2
              have b3 : w5.cell? ⟨wr.heap.size, 3, none⟩ = some (.int .u64 f.n) := k5.cell 3
              have b4 : w5.cell? ⟨wr.heap.size, 4, none⟩ = some (.string (strB f.s)) := k5.cell 4
              clear c0 c1
              go_wp2_with fail
              have oS : Off (fun k => k = wr.heap.size) w5 (w5.setCell ⟨wr.heap.size, 4, none⟩ (.string (strB x))) := (Off.refl (fun k => k = wr.heap.size) w5).setCell (p := ⟨wr.heap.size, 4, none⟩) (fun _ => rfl) _
              refine absC (fun w6 => Blk w6 wr.heap.size 32 ({ f with s := x } : Fd).cells ∧ Rr w6 p b ⟨(l.drop a).drop k, false⟩ ∧ Wr w6 w1.heap.size Aw a cw (l.take a) ∧ Below w'.heap.size w' w6) ⟨k5.set 4 _, R5.offE oS (by omega) (fun hne e => ?_), h5.off oS (by omega) (fun k hk e => ?_), F5.setCell (by simp only; omega) _⟩ ?_
              · have hne2 : l ≠ [] := fun h => hne (by simp [h])
                have := Tb.out hne2
                have e2 : b = wr.heap.size := e
                omega
              · have e2 : k = wr.heap.size := e
                have := (h2.2.isB_lt hk).2
                have e3 := hAlt k hk
                omega
              clear oS k5 R5 h5 F5 b0 b1 b2 b3 b4 z5 g5 k5c o3
              rintro w6 ⟨k6, R6, h6, F6⟩
              refine (err_any p b _ w6 R6).mono ?_
              rintro e w7 ⟨rfl, rfl⟩
              have b0 : w7.cell? ⟨wr.heap.size, 0, none⟩ = some (.int .i64 f.kind) := k6.cell 0
              have b1 : w7.cell? ⟨wr.heap.size, 1, none⟩ = some (.int .i64 f.most) := k6.cell 1
              have b2 : w7.cell? ⟨wr.heap.size, 2, none⟩ = some (.int .i64 f.more) := k6.cell 2
              have b3 : w7.cell? ⟨wr.heap.size, 3, none⟩ = some (.int .u64 f.n) := k6.cell 3
              have b4 : w7.cell? ⟨wr.heap.size, 4, none⟩ = some (.string (strB x)) := k6.cell 4
              go_wp2_with fail
              refine (write_any w1.heap.size Aw a cw (l.take a) ({ f with s := x } : Fd) w7 h6 y3.1 (by simp only at y4 ⊢; omega)).mono ?_
              rintro e w8 ⟨rfl, A8, c8, h8, d8⟩
              rw [Y1.out, ← List.take_add] at h8
              have hlen : (l.take (a + k)).length = a + k := by rw [List.length_take]; rw [List.length_drop] at y2; omega
              rw [hlen] at h8
              have F8 := F6.trans (d8.2.below (B := w'.heap.size) F6.size (fun k hk => by
                rcases hk with rfl | hk
                · exact hs1
                · exact Nat.le_trans hs1 (hAw k hk)))
              have R8 := R6.offE d8.2 (fun h => by
                rcases h with h | h
                · omega
                · have := hAw _ h
                  omega) (fun hne h => by
                have hne2 : l ≠ [] := fun h => hne (by simp [h])
                have := Tb.out hne2
                rcases h with h | h
                · omega
                · have := hAw _ h
                  omega)
              rw [List.drop_drop] at R8
              have hA8 : ∀ k, isB A8 k → w1.heap.size ≤ k := fun k hk => by
                rcases d8.1 with rfl | ⟨g, rfl, hg⟩
                · exact hAw k hk
                · obtain ⟨y, hy, rfl⟩ := hk
                  injection hy with hy
                  subst hy
                  have := h6.lt
                  exact Nat.le_trans (Nat.le_of_lt this) hg
              go_wp2_with fail
              go_roundw
              case rel => exact ⟨j + 1, a + k, A8, c8, by go_num, by omega, by rw [List.length_drop] at y2; omega, R8, h8, hA8, F8⟩
              case measure => simp [intOf]; omega
          · omega
        · obtain rfl : j = n2 := by omega
          have d2 : decide ((j : Int) < (j : Int)) = false := by simp
          go_wp2_with fail
          refine (bytes_any w1.heap.size Aw a cw (l.take a) wr h2 (by omega)).mono ?_
          rintro e wB ⟨Ac, cc, rfl, oc, fB⟩
          have RB := R.below fB
          have FB := F.trans (fB.mono F.size)
          have rc := oc.rd
          have rb := (r.below FB).more FB.size
          clear oc fB
          obtain ⟨d, hd⟩ := Nat.exists_eq_add_of_le ha
          have hdl : (l.drop a).length = d := by rw [List.length_drop]; omega
          have hwr : IntKind.i64.wrap ((a : Int) + (d : Int)) = (a : Int) + (d : Int) := by simp [IntKind.wrap, IntKind.bits, IntKind.signed]; omega
          have heq : ((a : Int) + (d : Int) == (n : Int)) = true := by simp; omega
          have hac : a ≤ c := by omega
          clear hd
          go_wp2_with fail
          refine wp_region_order (fun u => Below wB.heap.size wB u) 21 [(0,0), (1,0), (2,0), (5,0), (6,0), (3,1), (4,0), (7,0), (8,0), (9,0), (10,0), (11,0), (14,0), (15,0), (12,1), (13,0), (16,0), (17,0), (18,0), (19,1), (20,0), (21,2)] (by kernel_rfl) (by kernel_rfl) ?_
          simp only [pick, List.filterMap_cons, List.filterMap_nil, List.getElem?_cons_zero, List.getElem?_cons_succ, Option.map_some]
          have hS : Below wB.heap.size wB wB.drew := (Below.refl _ _).drew
          refine wpF_take (v := ?_) hS rfl ?_ (fun _ _ _ h => h) ?_
          rotate_left
          · intro w' hS'
            obtain _ := hS'
            go_simp <;> rfl
          go_simp
          refine wpF_take (v := ?_) hS rfl ?_ (fun _ _ _ h => h) ?_
          rotate_left
          · intro w' hS'
            obtain _ := hS'
            go_simp <;> rfl
          go_simp
          refine wpF_take (v := ?_) hS rfl ?_ (fun _ _ _ h => h) ?_
          rotate_left
          · intro w' hS'
            obtain _ := hS'
            go_simp <;> rfl
          go_simp
          refine wpF_take (v := ?_) hS rfl ?_ (fun _ _ _ h => h) ?_
          rotate_left
          · intro w' hS'
            obtain _ := hS'
            go_simp <;> rfl
          go_simp
          refine wpF_take (v := ?_) hS rfl ?_ (fun _ _ _ h => h) ?_
          rotate_left
          · intro w' hS'
            obtain _ := hS'
            go_simp <;> rfl
          go_simp
          refine wpF_only rfl (fun K hK => ?_)
          go_wp2_with fail
          refine (left_any p b _ _ (show Rr wB.drew p b ⟨l.drop a, false⟩ from RB)).mono ?_
          rintro e wL ⟨rfl, rfl⟩
          simp only
          rw [hdl]
          go_wp2_with fail
          refine ⟨fun _ => hS, ?_⟩
          go_simp
          refine wpF_take (v := ?_) hS rfl ?_ (fun _ _ _ h => h) ?_
          rotate_left
          · intro w' hS'
            obtain _ := hS'
            go_simp <;> rfl
          go_simp
          refine wpF_take (v := .bool true) hS rfl (fun w' _ => by go_simp) (fun _ _ _ h => h) ?_
          go_simp
          refine wpF_take (v := ?_) hS rfl ?_ (fun _ _ _ h => h) ?_
          rotate_left
          · intro w' hS'
            obtain _ := hS'
            go_simp <;> rfl
          go_simp
          refine wpF_take (v := ?_) hS rfl ?_ (fun _ _ _ h => h) ?_
          rotate_left
          · intro w' hS'
            obtain _ := hS'
            go_simp <;> rfl
          go_simp
          refine wpF_take (v := ?_) hS rfl ?_ (fun _ _ _ h => h) ?_
          rotate_left
          · intro w' hS'
            obtain _ := hS'
            go_simp <;> rfl
          go_simp
          refine wpF_take (v := ?_) hS rfl ?_ (fun _ _ _ h => h) ?_
          rotate_left
          · intro w' hS'
            obtain _ := hS'
            go_simp <;> rfl
          go_simp
          refine wpF_take (v := ?_) hS rfl ?_ (fun _ _ _ h => h) ?_
          rotate_left
          · intro w' hS'
            obtain _ := hS'
            go_simp <;> rfl
          go_simp
          refine wpF_take (v := .string (strB (l.take a))) hS rfl (fun u hS' => ?_) (fun _ _ _ h => h) ?_
          · have := run_str T23 (rc.below hS') cc _ Try.underlying9
            go_simp <;> rw [this]
          go_simp
          refine wpF_only rfl (fun K hK => wp_slice_h T23 rfl rfl rfl rb ha hnc (fun A7 r7 => ?_))
          refine hK _ _ ⟨fun _ => hS, ?_⟩
          go_simp
          refine wpF_take (v := .string (strB (l.take a))) hS rfl (fun u hS' => ?_) (fun _ _ _ h => h) ?_
          · have := run_str T23 (r7.below hS') c _ Try.underlying9
            go_simp <;> rw [this]
          go_simp
          refine wpF_take (v := .bool true) hS rfl (fun w' _ => by go_simp) (fun _ _ _ h => h) ?_
          go_simp
          refine wpF_take (v := ?_) hS rfl ?_ (fun _ _ _ h => h) ?_
          rotate_left
          · intro w' hS'
            obtain _ := hS'
            go_simp <;> rfl
          go_simp
          refine wpF_take (v := ?_) hS rfl ?_ (fun _ _ _ h => h) ?_
          rotate_left
          · intro w' hS'
            obtain _ := hS'
            go_simp <;> rfl
          go_simp
          refine wpF_only rfl (fun K hK => ?_)
          go_wp2_with fail
          refine (awake3_any _).mono ?_
          rintro e wA ⟨rfl, fA⟩
          have hS3 : Below wB.heap.size wB wA := (Below.refl wB.heap.size wB).drew.trans fA
          clear fA
          go_wp2_with fail
          refine ⟨fun _ => hS3, ?_⟩
          go_simp
          refine wpF_take (v := ?_) hS3 rfl ?_ (fun _ _ _ h => h) ?_
          rotate_left
          · intro w' hS'
            obtain _ := hS'
            go_simp <;> rfl
          go_simp
          refine wpF_only rfl (fun K hK => ?_)
          go_wp2_with fail
          refine ⟨fun h => absurd h (by omega), wpF_nil ?_⟩
          go_wp2_with fail
          go_ret
          exact ⟨rfl, FB.trans (hS3.mono FB.size)⟩
end Go.Proofs.Ytdblgjecbmebjaa
