/- sha.words: the words of a block of 64 bytes. No condition beyond its size. -/
import Derived.Test.YtgefbgjgcjiceaaRor
import Derived.Test.YtgefbgjgcjiceaaShaSpec
namespace Go.Proofs.Ytgefbgjgcjiceaa
open Go.RowKit
set_option maxHeartbeats 400000 in
theorem words_any (A : Option Addr) (c : Nat) (l : List UInt8) (w : World) (h : RdB w w.heap.size A 64 l) (hc : 64 ≤ c) :
    Calls Try.prog 97 #[.slice A 64 c] w fun e w' => e = .returned (.agg (uvs (sched l 64)).toArray) ∧ Below w.heap.size w w' := by
  obtain ⟨hl, h'⟩ := h
  obtain ⟨b, off, rfl, hb, hcell⟩ := h' (by omega)
  clear h'
  have Hl := Lib.hid hl; clear hl
  go_enter Try.func97, Try.ntmps97
  go_wp2_with fail
  go_loopw [10, 3, 5, 6, 7, 8, 9] (fun i _ _ _ _ _ _ wr => ∃ t : Nat, t ≤ 64 ∧ i = .int .i64 t ∧ Blk wr w.heap.size 138 (uvs (sched l t)) ∧ Below w.heap.size w wr) (fun i _ _ _ _ _ _ _ => 64 - (intOf i).toNat)
  case atStart => exact ⟨0, by omega, rfl, Blk.new _ _ _, (Below.refl _ _).alloc (Nat.le_refl _) _⟩
  case round =>
    obtain ⟨t, ht, rfl, hk, hB⟩ := hrel
    by_cases hlt : t < 64
    · have d1 : decide ((t : Int) < 64) = true := by simp; omega
      by_cases h16 : t < 16
      · have d2 : decide ((t : Int) < 16) = true := by simp; omega
        go_wp2_with fail
        go_loopw [23, 5] (fun j _ wr2 => ∃ k : Nat, k ≤ 4 ∧ j = .int .i64 k ∧ Blk wr2 w.heap.size 138 (uvs ((sched l t).set t (UInt32.ofNat (beN ((l.drop (4 * t)).take k))))) ∧ Below w.heap.size w wr2) (fun j _ _ => 4 - (intOf j).toNat)
        case atStart =>
          refine ⟨0, by omega, rfl, ?_, hB⟩
          have e : UInt32.ofNat (beN ((l.drop (4 * t)).take 0)) = at32 (sched l t) t := by rw [sched_zero l t t (Nat.le_refl _)]; rfl
          rw [e, set_at32 _ _ (by rw [sched_length]; exact hlt)]
          exact hk
        case round =>
          obtain ⟨k, hk4, rfl, hk2, hB2⟩ := hrel
          by_cases hlt4 : k < 4
          · have d3 : decide ((k : Int) < 4) = true := by simp; omega
            have c1 : wr.cell? ⟨b, off + 4 * t + k, none⟩ = some (.int .u8 ((l[4 * t + k]'(by rw [Hl.out]; omega)).toNat : Int)) := by
              have := hcell (4 * t + k) (by rw [Hl.out]; omega)
              rw [hB2.cell (p := ⟨b, off + 4 * t + k, none⟩) hb, Nat.add_assoc]
              exact this
            have c2 := hk2.word (i := t) (by simp [sched_length]; omega)
            have c3 := hk2.frozen t
            go_wp2_with fail
            go_roundw
            case rel =>
              refine ⟨k + 1, by omega, by go_num, ?_, hB2.setCell (Nat.le_refl _) _⟩
              rw [at32_set _ _ _ _ (by rw [sched_length]; exact hlt), if_pos rfl, shl8_or _ _ (words_lt l t k hlt4), ← words_byte l Hl.out t k h16 hlt4]
              have := hk2.setWord t (UInt32.ofNat (beN ((l.drop (4 * t)).take (k + 1))))
              rwa [List.set_set] at this
            case measure => simp [intOf]; omega
          · obtain rfl : k = 4 := by omega
            have d3 : decide ((4 : Int) < 4) = false := rfl
            go_wp2_with fail
            go_roundw
            case rel => 
              refine ⟨t + 1, by omega, by go_num, ?_, hB2⟩
              rw [sched_succ]; unfold wstep; rw [if_pos h16]; exact hk2
            case measure => simp [intOf]; omega
      · have d2 : decide ((t : Int) < 16) = false := by simp; omega
        have c15 := hk.word (i := t - 15) (by rw [sched_length]; omega)
        have c2 := hk.word (i := t - 2) (by rw [sched_length]; omega)
        have b15 : (0 : Int) ≤ (t : Int) - 15 := by omega
        have b2 : (0 : Int) ≤ (t : Int) - 2 := by omega
        go_wp2_with fail
        go_quiet (fail)
        have s3 := shr_3
        have s10 := shr_10
        go_wp2_with (go_at_call 98; refine (ror_any _ _ _ (by omega) (by omega)).mono ?_; rintro e w' ⟨rfl, rfl⟩)
        clear c15 c2 b15 b2
        have c7 := hk.word (i := t - 7) (by rw [sched_length]; omega)
        have c16 := hk.word (i := t - 16) (by rw [sched_length]; omega)
        have ct := hk.word (i := t) (by rw [sched_length]; omega)
        have ft := hk.frozen t
        have b7 : (0 : Int) ≤ (t : Int) - 7 := by omega
        have b16 : (0 : Int) ≤ (t : Int) - 16 := by omega
        go_region
        go_wp2_with fail
        go_roundw
        case rel =>
          refine ⟨t + 1, by omega, by go_num, ?_, (((belowN hB nq).drew).setCell (Nat.le_refl _) _)⟩
          rw [sched_succ]; unfold wstep; rw [if_neg h16]
          exact ((hk.drewN nq).drew).setWord t _
        case measure => simp [intOf]; omega
    · have d1 : decide ((t : Int) < 64) = false := by simp; omega
      have hsz : (Try.prog.info? 138).map (·.size) = some (uvs (sched l t)).length := by rw [uvs_length, sched_length]; kernel_rfl
      have hsz' := Lib.hid hsz
      clear hsz
      go_wp2_with (first | (refine load_blk hk rfl 138 (.tmp 2) rfl rfl Try.underlying138 hsz'.out ?_) | (refine store_blk hk rfl 138 (.tmp 2) (.tmp 77) rfl rfl (us := uvs (sched l t)) rfl hsz'.out rfl (uvs_all _) ?_; intro w' hk' hg'))
      refine bodyPost_ret (hk'.sized rfl _ rfl Try.underlying138 hsz'.out) rfl ⟨?_, hB.grown hg' hB.size (by simp)⟩
      obtain rfl : t = 64 := by omega
      rfl

end Go.Proofs.Ytgefbgjgcjiceaa
