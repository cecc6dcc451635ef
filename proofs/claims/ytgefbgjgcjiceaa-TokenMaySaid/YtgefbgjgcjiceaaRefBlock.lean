/- The document's sha: Block. No condition beyond the sizes. -/
import Derived.Test.YtgefbgjgcjiceaaRefSha
namespace Go.Proofs.Ytgefbgjgcjiceaa
open Go.RowKit
set_option linter.unusedVariables false
theorem be4 (a b c d : UInt8) : beN [a, b, c, d] = a.toNat * 16777216 + b.toNat * 65536 + c.toNat * 256 + d.toNat := by
  simp [beN]; omega
theorem or_bytes (a b c d : Nat) (ha : a < 256) (hb : b < 256) (hc : c < 256) (hd : d < 256) :
    bits BinOp.or .u32 (bits BinOp.or .u32 (bits BinOp.or .u32 ((a : Int) * 16777216) ((b : Int) * 65536)) ((c : Int) * 256)) (d : Int) = ((a * 16777216 + b * 65536 + c * 256 + d : Nat) : Int) := by
  rw [show (a : Int) * 16777216 = ((2 ^ 24 * a : Nat) : Int) from by omega, show (b : Int) * 65536 = ((2 ^ 16 * b : Nat) : Int) from by omega, show (c : Int) * 256 = ((2 ^ 8 * c : Nat) : Int) from by omega,
    u32_or_nat _ _ (by omega) (by omega), ← Nat.two_pow_add_eq_or_of_lt (by omega), u32_or_nat _ _ (by omega) (by omega),
    show 2 ^ 24 * a + 2 ^ 16 * b = 2 ^ 16 * (2 ^ 8 * a + b) from by omega, ← Nat.two_pow_add_eq_or_of_lt (by omega), u32_or_nat _ _ (by omega) (by omega),
    show 2 ^ 16 * (2 ^ 8 * a + b) + 2 ^ 8 * c = 2 ^ 8 * (2 ^ 16 * a + 2 ^ 8 * b + c) from by omega, ← Nat.two_pow_add_eq_or_of_lt (by omega)]
  congr 1
  omega
theorem wordAt_of (l : List UInt8) (hl : l.length = 64) (t : Nat) (ht : t < 16) :
    ((wordAt l t).toNat : Int) = (((at8 l (4 * t)).toNat * 16777216 + (at8 l (4 * t + 1)).toNat * 65536 + (at8 l (4 * t + 2)).toNat * 256 + (at8 l (4 * t + 3)).toNat : Nat) : Int) := by
  have e : (l.drop (4 * t)).take 4 = [at8 l (4 * t), at8 l (4 * t + 1), at8 l (4 * t + 2), at8 l (4 * t + 3)] := by
    refine List.ext_getElem? fun j => ?_
    rw [List.getElem?_take, List.getElem?_drop]
    unfold at8
    rcases j with _ | _ | _ | _ | j
    · simp [show 4 * t < l.length from by omega]
    · simp [show 4 * t + 1 < l.length from by omega]
    · simp [show 4 * t + 2 < l.length from by omega]
    · simp [show 4 * t + 3 < l.length from by omega]
    · rw [if_neg (by omega)]; simp
  have h0 := (at8 l (4 * t)).toNat_lt
  have h1 := (at8 l (4 * t + 1)).toNat_lt
  have h2 := (at8 l (4 * t + 2)).toNat_lt
  have h3 := (at8 l (4 * t + 3)).toNat_lt
  unfold wordAt
  rw [e, be4, UInt32.toNat_ofNat', Nat.mod_eq_of_lt (by omega)]
theorem addTo_eight (h V : List UInt32) (hh : h.length = 8) : addTo h V 8 = [add32 (at32 h 0) (at32 V 0), add32 (at32 h 1) (at32 V 1), add32 (at32 h 2) (at32 V 2), add32 (at32 h 3) (at32 V 3), add32 (at32 h 4) (at32 V 4), add32 (at32 h 5) (at32 V 5), add32 (at32 h 6) (at32 V 6), add32 (at32 h 7) (at32 V 7)] := by
  obtain ⟨a0, a1, a2, a3, a4, a5, a6, a7, rfl⟩ : ∃ a0 a1 a2 a3 a4 a5 a6 a7, h = [a0, a1, a2, a3, a4, a5, a6, a7] := by
    rcases h with _ | ⟨a0, _ | ⟨a1, _ | ⟨a2, _ | ⟨a3, _ | ⟨a4, _ | ⟨a5, _ | ⟨a6, _ | ⟨a7, h⟩⟩⟩⟩⟩⟩⟩⟩
    all_goals (try (simp at hh; done))
    have : h = [] := List.eq_nil_of_length_eq_zero (by simpa using hh)
    exact ⟨a0, a1, a2, a3, a4, a5, a6, a7, by rw [this]⟩
  rfl
theorem sched_start (l : List UInt8) : sched l 0 = List.replicate 64 0 := rfl
theorem rounds_start (K W v : List UInt32) : rounds K W v 0 = v := rfl
attribute [local irreducible] sched rounds addTo
set_option maxRecDepth 100000 in
set_option maxHeartbeats 4000000 in
theorem refBlock_any (h : List UInt32) (A : Option Addr) (c : Nat) (l : List UInt8) (K : List UInt32) (w : World) (hh : h.length = 8) (hK : K.length = 64) (hl : RdB w w.heap.size A 64 l) (hc : 64 ≤ c) :
    Calls Try.prog 96 #[.agg (uvs h).toArray, .slice A 64 c, .agg (uvs K).toArray] w fun e w' => e = .returned (.agg (uvs (comp K h l)).toArray) ∧ Below w.heap.size w w' := by
  have Hh := Lib.hid hh; clear hh
  have HK := Lib.hid hK; clear hK
  have hl64 := hl.1
  obtain ⟨b, off, rfl, hb, hj⟩ := hl.2 (by omega)
  have Hl := Lib.hid hl64; clear hl64
  have Hj := Lib.hid hj; clear hj hl
  go_enter Try.func96, Try.ntmps96
  go_upto_region 2 with fail
  refine abs (fun w1 => Blk w1 w.heap.size 127 (uvs h) ∧ Blk w1 (w.heap.size + 1) 138 (uvs K) ∧ Blk w1 (w.heap.size + 2) 127 (uvs (List.replicate 8 0)) ∧ Blk w1 (w.heap.size + 3) 138 (uvs (sched l 0)) ∧ Below w.heap.size w w1) ⟨(((Blk.of_new w _ _).alloc _).alloc _).alloc _, ((Blk.newAt (by simp) _ _).alloc _).alloc _, (Blk.newAt (by simp) _ _).alloc _, by rw [sched_start]; exact Blk.newAt (by simp) _ _, ((((Below.refl _ w).alloc (Nat.le_refl _) _).alloc (by simp) _).alloc (by simp <;> omega) _).alloc (by simp <;> omega) _⟩ ?_
  rintro w1 ⟨k0, k1, k2, k3, f1⟩
  go_wp2_with fail
  go_loopw [8] (fun i wr => ∃ t : Nat, t ≤ 16 ∧ i = .int .i64 t ∧ Blk wr w.heap.size 127 (uvs h) ∧ Blk wr (w.heap.size + 1) 138 (uvs K) ∧ Blk wr (w.heap.size + 2) 127 (uvs (List.replicate 8 0)) ∧ Blk wr (w.heap.size + 3) 138 (uvs (sched l t)) ∧ Below w.heap.size w wr) (fun i _ => 16 - (intOf i).toNat)
  case atStart => exact ⟨0, by omega, rfl, k0, k1, k2, k3, f1⟩
  case round =>
    clear k0 k1 k2 k3 f1
    obtain ⟨t, ht, rfl, k0, k1, k2, k3, f1⟩ := hrel
    by_cases hlt : t < 16
    · have d1 : decide ((t : Int) < 16) = true := by simp; omega
      have cell : ∀ j, j < 64 → wr.cell? ⟨b, off + j, none⟩ = some (.int .u8 ((at8 l j).toNat : Int)) := fun j hj => by
        rw [f1.cell (p := ⟨b, off + j, none⟩) hb, Hj.out j (by rw [Hl.out]; exact hj)]
        simp [bv, at8, List.getD, show j < l.length from by rw [Hl.out]; exact hj]
      have c0 := cell (4 * t) (by omega)
      have c1 := cell (4 * t + 1) (by omega)
      have c2 := cell (4 * t + 2) (by omega)
      have c3 := cell (4 * t + 3) (by omega)
      clear cell
      have b0 := (at8 l (4 * t)).toNat_lt
      have b1 := (at8 l (4 * t + 1)).toNat_lt
      have b2 := (at8 l (4 * t + 2)).toNat_lt
      have b3 := (at8 l (4 * t + 3)).toNat_lt
      have hw := wordAt_of l Hl.out t hlt
      have hor := or_bytes _ _ _ _ b0 b1 b2 b3
      rw [← hw] at hor
      clear hw
      generalize (at8 l (4 * t)).toNat = B0 at *
      generalize (at8 l (4 * t + 1)).toNat = B1 at *
      generalize (at8 l (4 * t + 2)).toNat = B2 at *
      generalize (at8 l (4 * t + 3)).toNat = B3 at *
      have ct := k3.word (i := t) (by rw [sched_length]; omega)
      have zt := k3.frozen t
      go_wp2_with fail
      go_region
      go_wp2_with fail
      go_roundw
      case rel => exact ⟨t + 1, by omega, by go_num, (k0.far (by simp <;> omega) _).drew, (k1.far (by simp <;> omega) _).drew, (k2.far (by simp <;> omega) _).drew, by rw [sched_succ]; unfold wstep; rw [if_pos hlt]; exact (k3.setWord t _).drew, (f1.setCell (by simp <;> omega) _).drew⟩
      case measure => simp [intOf]; omega
    · obtain rfl : t = 16 := by omega
      have d1 : decide (((16 : Nat) : Int) < 16) = false := rfl
      clear Hj
      go_wp2_with fail
      go_loopw [9, 10, 11] (fun i _ _ wr => ∃ t : Nat, 16 ≤ t ∧ t ≤ 64 ∧ i = .int .i64 t ∧ Blk wr w.heap.size 127 (uvs h) ∧ Blk wr (w.heap.size + 1) 138 (uvs K) ∧ Blk wr (w.heap.size + 2) 127 (uvs (List.replicate 8 0)) ∧ Blk wr (w.heap.size + 3) 138 (uvs (sched l t)) ∧ Below w.heap.size w wr) (fun i _ _ _ => 64 - (intOf i).toNat)
      case atStart => exact ⟨16, by omega, by omega, rfl, k0, k1, k2, k3, f1⟩
      case round =>
        clear k0 k1 k2 k3 f1
        obtain ⟨t, ht1, ht, rfl, k0, k1, k2, k3, f1⟩ := hrel
        by_cases hlt : t < 64
        · have d1 : decide ((t : Int) < 64) = true := by simp; omega
          have c15 := k3.word (i := t - 15) (by rw [sched_length]; omega)
          have b15 : (0 : Int) ≤ (t : Int) - 15 := by omega
          have i15 : ((t : Int) - 15).toNat = t - 15 := by omega
          have l15 : (t : Int) - 15 < 64 := by omega
          have i7 : ((t : Int) - 7).toNat = t - 7 := by omega
          have i16 : ((t : Int) - 16).toNat = t - 16 := by omega
          have i2 : ((t : Int) - 2).toNat = t - 2 := by omega
          have s3 := shr_3
          have s10 := shr_10
          go_wp2_with fail
          go_quiet ((go_at_call 99; exact Calls.quiet_of_same (rorR_any _ _ _ (by omega) (by omega))))
          replace k0 := k0.drewN nq
          replace k1 := k1.drewN nq
          replace k2 := k2.drewN nq
          replace k3 := k3.drewN nq
          replace f1 := belowN f1 nq
          clear c15 b15 l15
          generalize wr.drewN nq = wx at *
          have c2 := k3.word (i := t - 2) (by rw [sched_length]; omega)
          have b2 : (0 : Int) ≤ (t : Int) - 2 := by omega
          have l2 : (t : Int) - 2 < 64 := by omega
          go_wp2_with fail
          go_quiet ((go_at_call 99; exact Calls.quiet_of_same (rorR_any _ _ _ (by omega) (by omega))))
          replace k0 := k0.drewN nq
          replace k1 := k1.drewN nq
          replace k2 := k2.drewN nq
          replace k3 := k3.drewN nq
          replace f1 := belowN f1 nq
          clear c2 b2 l2 s3 s10
          generalize wx.drewN nq = wy at *
          have c7 := k3.word (i := t - 7) (by rw [sched_length]; omega)
          have c16 := k3.word (i := t - 16) (by rw [sched_length]; omega)
          have ct := k3.word (i := t) (by rw [sched_length]; omega)
          have ft := k3.frozen t
          have b7 : (0 : Int) ≤ (t : Int) - 7 := by omega
          have b16 : (0 : Int) ≤ (t : Int) - 16 := by omega
          go_wp2_with fail
          go_region
          go_wp2_with fail
          go_roundw
          case rel => exact ⟨t + 1, by omega, by omega, by go_num, (k0.far (by simp <;> omega) _).drew, (k1.far (by simp <;> omega) _).drew, (k2.far (by simp <;> omega) _).drew, by rw [sched_succ]; unfold wstep; rw [if_neg (by omega)]; exact (k3.setWord t _).drew, (f1.setCell (by simp <;> omega) _).drew⟩
          case measure => simp [intOf]; omega
        · obtain rfl : t = 64 := by omega
          have d1 : decide (((64 : Nat) : Int) < 64) = false := rfl
          have hWl := sched_length l 64
          have HWl := Lib.hid hWl
          clear hWl
          have c0 := k0.word (i := 0) (by rw [Hh.out]; omega)
          have c1 := k0.word (i := 1) (by rw [Hh.out]; omega)
          have c2 := k0.word (i := 2) (by rw [Hh.out]; omega)
          have c3 := k0.word (i := 3) (by rw [Hh.out]; omega)
          have c4 := k0.word (i := 4) (by rw [Hh.out]; omega)
          have c5 := k0.word (i := 5) (by rw [Hh.out]; omega)
          have c6 := k0.word (i := 6) (by rw [Hh.out]; omega)
          have c7 := k0.word (i := 7) (by rw [Hh.out]; omega)
          go_wp2_with fail
          go_quiet (fail)
          clear c0 c1 c2 c3 c4 c5 c6 c7
          replace k0 := k0.drewN nq
          replace k1 := k1.drewN nq
          replace k2 := k2.drewN nq
          replace k3 := k3.drewN nq
          replace f1 := belowN f1 nq
          generalize wr.drewN nq = wx at *
          go_wp2_with fail
          go_loopw [20, 12, 13, 14, 15, 16, 17, 18, 19, 21, 22] (fun i v0 v1 v2 v3 v4 v5 v6 v7 _ _ wr => ∃ t : Nat, t ≤ 64 ∧ i = .int .i64 t ∧ v0 = .int .u32 (at32 (rounds K (sched l 64) h t) 0).toNat ∧ v1 = .int .u32 (at32 (rounds K (sched l 64) h t) 1).toNat ∧ v2 = .int .u32 (at32 (rounds K (sched l 64) h t) 2).toNat ∧ v3 = .int .u32 (at32 (rounds K (sched l 64) h t) 3).toNat ∧ v4 = .int .u32 (at32 (rounds K (sched l 64) h t) 4).toNat ∧ v5 = .int .u32 (at32 (rounds K (sched l 64) h t) 5).toNat ∧ v6 = .int .u32 (at32 (rounds K (sched l 64) h t) 6).toNat ∧ v7 = .int .u32 (at32 (rounds K (sched l 64) h t) 7).toNat ∧
            Blk wr w.heap.size 127 (uvs h) ∧ Blk wr (w.heap.size + 1) 138 (uvs K) ∧ Blk wr (w.heap.size + 2) 127 (uvs (List.replicate 8 0)) ∧ Blk wr (w.heap.size + 3) 138 (uvs (sched l 64)) ∧ Below w.heap.size w wr) (fun i _ _ _ _ _ _ _ _ _ _ _ => 64 - (intOf i).toNat)
          case atStart => exact ⟨0, by omega, rfl, by rw [rounds_start], by rw [rounds_start], by rw [rounds_start], by rw [rounds_start], by rw [rounds_start], by rw [rounds_start], by rw [rounds_start], by rw [rounds_start], k0, k1, k2, k3, f1⟩
          case round =>
            clear k0 k1 k2 k3 f1
            obtain ⟨t, ht, rfl, rfl, rfl, rfl, rfl, rfl, rfl, rfl, rfl, k0, k1, k2, k3, f1⟩ := hrel
            by_cases hlt : t < 64
            · have d1 : decide ((t : Int) < 64) = true := by simp; omega
              have hrs := rounds_succ K (sched l 64) h t
              have ck := k1.word (i := t) (by rw [HK.out]; exact hlt)
              have cw := k3.word (i := t) (by rw [HWl.out]; exact hlt)
              generalize hV : rounds K (sched l 64) h t = V at *
              have HV := Lib.hid hV
              have HRS := Lib.hid hrs
              clear hrs hV
              go_upto_region 16 with fail
              go_cut [21] (fun s21 wx => s21 = .int .u32 (t1Of V (at32 K t) (at32 (sched l 64) t)).toNat ∧ ∃ nq, wx = wr.drewN nq)
              case first =>
                go_quiet ((go_at_call 99; exact Calls.quiet_of_same (rorR_any _ _ _ (by omega) (by omega))))
                go_wp2_with fail
                go_meet
                exact ⟨congrArg (Value.int IntKind.u32) (by unfold t1Of; simp only [add32_int]; omega), nq, rfl⟩
              case rest =>
              obtain ⟨rfl, nq, rfl⟩ := hcut
              clear ck cw
              generalize hT : t1Of V (at32 K t) (at32 (sched l 64) t) = T1 at *
              have HT := Lib.hid hT
              clear hT
              go_upto_region 17 with fail
              go_cut [22] (fun s22 wx => s22 = .int .u32 (t2Of V).toNat ∧ wx = wr.drewN nq)
              case first =>
                go_wp2_with ((go_at_call 99; refine (rorR_any _ _ _ (by omega) (by omega)).mono ?_; rintro e w' ⟨rfl, rfl⟩))
                go_meet
                exact ⟨rfl, rfl⟩
              case rest =>
              obtain ⟨rfl, rfl⟩ := hcut
              generalize hT2 : t2Of V = T2 at *
              have HT2 := Lib.hid hT2
              clear hT2
              go_wp2_with fail
              go_roundw
              case rel =>
                refine ⟨t + 1, by omega, by go_num, ?_, ?_, ?_, ?_, ?_, ?_, ?_, ?_, k0.drewN nq, k1.drewN nq, k2.drewN nq, k3.drewN nq, belowN f1 nq⟩
                all_goals rw [HRS.out, rnd, HT.out]
                · rw [HT2.out]; rfl
                all_goals rfl
              case measure => simp [intOf]; omega
            · obtain rfl : t = 64 := by omega
              have d1 : decide (((64 : Nat) : Int) < 64) = false := rfl
              have hae := addTo_eight h (rounds K (sched l 64) h 64) Hh.out
              have HAE := Lib.hid hae
              have hsz : (Try.prog.info? 127).map (·.size) = some (uvs (addTo h (rounds K (sched l 64) h 64) 8)).length := by rw [uvs_length, hae]; kernel_rfl
              have hsz2 : (uvs (List.replicate 8 0)).length = (uvs (addTo h (rounds K (sched l 64) h 64) 8)).length := by rw [uvs_length, uvs_length, hae]; rfl
              have Hsz := Lib.hid hsz
              have Hsz2 := Lib.hid hsz2
              clear hae hsz hsz2
              have c0 := k0.word (i := 0) (by rw [Hh.out]; omega)
              have c1 := k0.word (i := 1) (by rw [Hh.out]; omega)
              have c2 := k0.word (i := 2) (by rw [Hh.out]; omega)
              have c3 := k0.word (i := 3) (by rw [Hh.out]; omega)
              have c4 := k0.word (i := 4) (by rw [Hh.out]; omega)
              have c5 := k0.word (i := 5) (by rw [Hh.out]; omega)
              have c6 := k0.word (i := 6) (by rw [Hh.out]; omega)
              have c7 := k0.word (i := 7) (by rw [Hh.out]; omega)
              go_wp2_with (first | (refine store_blk k2 rfl 127 (.tmp 6) (.tmp 226) rfl rfl (us := uvs (addTo h (rounds K (sched l 64) h 64) 8)) ?_ Hsz.out Hsz2.out (uvs_all _) ?_))
              · rw [HAE.out]; rfl
              intro w' k9 hg
              go_wp2_with fail
              exact bodyPost_ret (k9.sized rfl _ rfl Try.underlying127 Hsz.out) rfl ⟨rfl, f1.grown hg f1.size (by simp)⟩
end Go.Proofs.Ytgefbgjgcjiceaa
