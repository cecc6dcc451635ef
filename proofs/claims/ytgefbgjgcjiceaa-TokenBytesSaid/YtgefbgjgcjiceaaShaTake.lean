/- sha.take: the compression of a block of 64 bytes. No condition beyond the sizes. -/
import Derived.Test.YtgefbgjgcjiceaaShaWords
namespace Go.Proofs.Ytgefbgjgcjiceaa
open Go.RowKit
set_option maxRecDepth 100000 in
set_option maxHeartbeats 1000000 in
theorem take_any (K v0 : List UInt32) (kb : Nat) (A : Option Addr) (c : Nat) (l : List UInt8) (w : World) (hh : v0.length = 8) (hK : K.length = 64) (hkb : Blk w kb 138 (uvs K)) (hl : RdB w w.heap.size A 64 l) (hc : 64 ≤ c) :
    Calls Try.prog 93 #[.agg (uvs v0).toArray, .pointer (some ⟨kb, 0, none⟩), .slice A 64 c] w fun e w' => e = .returned (.agg (uvs (comp K v0 l)).toArray) ∧ Below w.heap.size w w' := by
  have hs8 : (Try.prog.info? 127).map (·.size) = some (uvs v0).length := by rw [uvs_length, hh]; kernel_rfl
  have Hs8 := Lib.hid hs8; clear hs8
  have hhu : 8 = (uvs v0).length := by rw [uvs_length, hh]
  have Hu := Lib.hid hhu; clear hhu
  have Hh := Lib.hid hh; clear hh
  have HK := Lib.hid hK; clear hK
  have klt := hkb.lt
  go_enter Try.func93, Try.ntmps93
  go_wp2_with (first
    | (refine load_blk ((Blk.of_new w 127 (uvs v0)).alloc _) rfl 127 (.tmp 3) rfl rfl Try.underlying127 Hs8.out ?_)
    | (refine store_blk (Blk.newAt (by simp) 127 _) rfl 127 (.tmp 7) (.tmp 19) rfl rfl (us := uvs v0) rfl Hs8.out Hu.out (uvs_all _) ?_; intro w1 hb7 hg1))
  have f1 : Below w.heap.size w w1 := ((((Below.refl _ w).alloc (Nat.le_refl _) _).alloc (by simp) _).alloc (by simp; omega) _).grown hg1 (by simp; omega) (by simp; omega)
  have b3 : Blk w1 w.heap.size 127 (uvs v0) := (((Blk.of_new w _ _).alloc _).alloc _).grown hg1 (by simp; omega)
  have b6 : Blk w1 (w.heap.size + 1) 127 (uvs (List.replicate 8 0)) := ((Blk.newAt (w := w.alloc (.cells (uvs v0).toArray 127)) (by simp) _ _).alloc _).grown hg1 (by simp)
  refine (words_any A c l w1 ((hl.below f1).more f1.size) hc).mono ?_
  rintro e w2 ⟨rfl, g2⟩
  have f2 := f1.trans (g2.mono f1.size)
  have b3' := b3.below g2 b3.lt
  have b7' := hb7.below g2 hb7.lt
  have k2 := hkb.below f2 klt
  have b6' := b6.below g2 b6.lt
  clear b6
  clear f1 b3 hb7 hg1 g2 hl hkb
  have hix : ∀ (t : Nat), t < 64 → ∀ W, (Instr.index 138 (.agg (uvs (sched l 64)).toArray) (.int .i64 (t : Int))).run Try.prog W = .ok (.int .u32 ((at32 (sched l 64) t).toNat : Int)) W :=
    fun t ht W => run_index_words Try.underlying138 (by kernel_rfl) Try.underlying28 _ (sched_length _ _) t ht W
  have Hix := Lib.hid hix; clear hix
  go_wp2_with fail
  go_loopw [22, 8, 9, 10, 11, 12, 13, 14, 15, 16, 17] (fun i _ _ _ _ _ _ _ _ _ _ wr => ∃ t : Nat, t ≤ 64 ∧ i = .int .i64 t ∧ Blk wr (w.heap.size + 1 + 1) 127 (uvs (rounds K (sched l 64) v0 t)) ∧ Blk wr w.heap.size 127 (uvs v0) ∧ Blk wr (w.heap.size + 1) 127 (uvs (List.replicate 8 0)) ∧ Blk wr kb 138 (uvs K) ∧ Below w.heap.size w wr) (fun i _ _ _ _ _ _ _ _ _ _ _ => 64 - (intOf i).toNat)
  case atStart => exact ⟨0, by omega, rfl, b7', b3', b6', k2, f2⟩
  case round =>
    clear b7' b3' b6' k2 f2
    obtain ⟨t, ht, rfl, b7, b3, b6, k2, f2⟩ := hrel
    by_cases hlt : t < 64
    · have d1 : decide ((t : Int) < 64) = true := by simp; omega
      have ix := Hix.out t hlt
      have hv := rounds_length K (sched l 64) v0 t Hh.out
      have c0 := b7.word (i := 0) (by omega)
      have c1 := b7.word (i := 1) (by omega)
      have c2 := b7.word (i := 2) (by omega)
      have c4 := b7.word (i := 4) (by omega)
      have c5 := b7.word (i := 5) (by omega)
      have c6 := b7.word (i := 6) (by omega)
      have Hv := Lib.hid hv; clear hv
      have hs8' : (Try.prog.info? 127).map (·.size) = some (uvs (rounds K (sched l 64) v0 (t + 1))).length := by rw [uvs_length, rounds_length K _ v0 _ Hh.out]; kernel_rfl
      have Hs8' := Lib.hid hs8'; clear hs8'
      go_wp2_with fail
      clear ix
      go_quiet (fail)
      go_wp2_with fail
      clear c0 c1 c2 c4 c5 c6
      replace b7 := b7.drewN nq
      replace b3 := b3.drewN nq
      replace b6 := b6.drewN nq
      replace k2 := k2.drewN nq
      replace f2 := belowN f2 nq
      generalize wr.drewN nq = wx at *
      have c7 := b7.word (i := 7) (by rw [Hv.out]; omega)
      have ck := k2.word (i := t) (by rw [HK.out]; exact hlt)
      go_quiet ((go_at_call 98; exact Calls.quiet_of_same (ror_any _ _ _ (by omega) (by omega))))
      replace b7 := b7.drewN nq
      replace b3 := b3.drewN nq
      replace b6 := b6.drewN nq
      replace k2 := k2.drewN nq
      replace f2 := belowN f2 nq
      clear c7 ck
      generalize wx.drewN nq = wy at *
      have c3 := b7.word (i := 3) (by rw [Hv.out]; omega)
      go_wp2_with (first
        | (go_at_call 98; refine (ror_any _ _ _ (by omega) (by omega)).mono ?_; rintro e w' ⟨rfl, rfl⟩)
        | (refine store_blk b7 rfl 127 (.tmp 7) (.tmp 99) rfl rfl (us := uvs (rounds K (sched l 64) v0 (t + 1))) ?_ Hs8'.out ?_ (uvs_all _) ?_))
      · rw [rounds_succ]
        simp only [uvs, rnd, List.map_cons, List.map_nil, uv, t1Of, t2Of, List.cons.injEq, Value.int.injEq, and_true, true_and]
        constructor <;> (simp only [add32_int]; omega)
      · rw [uvs_length, uvs_length, Hv.out, rounds_length K _ v0 _ Hh.out]
      intro w' b7' hg
      go_wp2_with fail
      go_roundw
      case rel => exact ⟨t + 1, by omega, by go_num, b7', b3.grown hg (by simp; omega), b6.grown hg (by simp), k2.grown hg (by simp; omega), f2.grown hg f2.size (by simp; omega)⟩
      case measure => simp [intOf]; omega
    · obtain rfl : t = 64 := by omega
      have d1 : decide (((64 : Nat) : Int) < 64) = false := rfl
      clear Hix
      have hv := rounds_length K (sched l 64) v0 64 Hh.out
      have Hv := Lib.hid hv; clear hv
      generalize hV : rounds K (sched l 64) v0 64 = V at *
      have HV := Lib.hid hV; clear hV
      go_wp2_with fail
      go_loopw [101, 18] (fun i _ wr => ∃ t : Nat, t ≤ 8 ∧ i = .int .i64 t ∧ Blk wr (w.heap.size + 1 + 1) 127 (uvs V) ∧ Blk wr w.heap.size 127 (uvs (addTo v0 V t)) ∧ Blk wr (w.heap.size + 1) 127 (uvs (List.replicate 8 0)) ∧ Below w.heap.size w wr) (fun i _ _ => 8 - (intOf i).toNat)
      case atStart => exact ⟨0, by omega, rfl, b7, b3, b6, f2⟩
      case round =>
        clear b7 b3 b6 k2 f2
        obtain ⟨t, ht, rfl, b7, b3, b6, f2⟩ := hrel
        by_cases hlt : t < 8
        · have d1 : decide ((t : Int) < 8) = true := by simp; omega
          have ha : t < (addTo v0 V t).length := by rw [addTo_length, Hh.out]; exact hlt
          have c1 := b7.word (i := t) (by rw [Hv.out]; exact hlt)
          have c2 := b3.word (i := t) ha
          have c3 := b3.frozen t
          clear ha
          go_wp2_with fail
          go_region
          go_wp2_with fail
          go_roundw
          case rel => exact ⟨t + 1, by omega, by go_num, (b7.drew).far (by simp; omega) _, by rw [addTo_succ]; exact (b3.drew).setWord t _, (b6.drew).far (by simp) _, f2.drew.setCell (Nat.le_refl _) _⟩
          case measure => simp [intOf]; omega
        · obtain rfl : t = 8 := by omega
          have d1 : decide (((8 : Nat) : Int) < 8) = false := rfl
          have hs8' : (Try.prog.info? 127).map (·.size) = some (uvs (addTo v0 V 8)).length := by rw [uvs_length, addTo_length, Hh.out]; kernel_rfl
          have Hs8' := Lib.hid hs8'; clear hs8'
          have ho : 8 = (uvs (addTo v0 V 8)).length := by rw [uvs_length, addTo_length, Hh.out]
          have Ho := Lib.hid ho; clear ho
          go_wp2_with (first
            | (refine load_blk b3 rfl 127 (.tmp 3) rfl rfl Try.underlying127 Hs8'.out ?_)
            | (refine store_blk b6 rfl 127 (.tmp 6) (.tmp 113) rfl rfl (us := uvs (addTo v0 V 8)) rfl Hs8'.out Ho.out (uvs_all _) ?_; intro w' b9 hg))
          refine bodyPost_ret (b9.sized rfl _ rfl Try.underlying127 Hs8'.out) rfl ⟨?_, f2.grown hg f2.size (by simp)⟩
          rw [← HV.out]
          rfl
end Go.Proofs.Ytgefbgjgcjiceaa
