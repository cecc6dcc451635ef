/- The document's sha: table, begin, out, End. No condition. The document's sha: Block. No condition beyond the sizes. The document's sha: Blocks, Of. Condition: the bytes are at most 2^46. The document's sha: Of. Condition: the bytes are at most 2^46. The document's mac: Of. Condition: the bytes are at most 2^45, each. -/
import Derived.Test.YtgefbgjgcjiceaaMacOf
import Derived.Test.YtgefbgjgcjiceaaOrder
import Derived.Test.YtgefbgjgcjiceaaOff
namespace Go.Proofs.Ytgefbgjgcjiceaa
open Go.RowKit
set_option linter.unusedVariables false
set_option maxRecDepth 100000 in
theorem refBegin_any (w : World) : Calls Try.prog 87 #[] w fun e w' => e = .returned (.agg (uvs H0).toArray) ∧ Below w.heap.size w w' := by
  have hi : (Try.prog.info? 127).map (·.size) = some (uvs H0).length := by kernel_rfl
  have Hi := Lib.hid hi; clear hi
  go_enter Try.func87, Try.ntmps87
  go_wp2_with (first | (refine store_blk (us := uvs H0) (Blk.newAt rfl 127 _) rfl 127 (.tmp 0) (.tmp 1) rfl rfl (by rfl) Hi.out rfl (uvs_all _) ?_; intro w' b9 hg))
  exact bodyPost_ret (b9.sized rfl _ rfl Try.underlying127 Hi.out) rfl ⟨rfl, ((Below.refl _ w).alloc (Nat.le_refl _) _).grown hg (by simp) (by simp)⟩
set_option maxRecDepth 100000 in
set_option maxHeartbeats 1000000 in
theorem refTable_any (w : World) : Calls Try.prog 95 #[] w fun e w' => e = .returned (.agg (uvs KEYS).toArray) ∧ Below w.heap.size w w' := by
  have hi : (Try.prog.info? 138).map (·.size) = some (uvs KEYS).length := by kernel_rfl
  have Hi := Lib.hid hi; clear hi
  go_enter Try.func95, Try.ntmps95
  go_wp2_with (first | (refine store_blk (us := uvs KEYS) (Blk.newAt rfl 138 _) rfl 138 (.tmp 0) (.tmp 1) rfl rfl (by rfl) Hi.out rfl (uvs_all _) ?_; intro w' b9 hg))
  exact bodyPost_ret (b9.sized rfl _ rfl Try.underlying138 Hi.out) rfl ⟨rfl, ((Below.refl _ w).alloc (Nat.le_refl _) _).grown hg (by simp) (by simp)⟩
theorem out_byte (h : List UInt32) (k j : Nat) (hj : j < 4) (m : Nat) (hm : m = 2 ^ (24 - 8 * j)) : bv (byteAt h (4 * k + j)) = .int .u8 (((at32 h k).toNat : Int) / (m : Int) % 256) := by
  rw [← byteAt_of, show (4 * k + j) / 4 = k from by omega, show (4 * k + j) % 4 = j from by omega, hm]
  push_cast
  rfl
theorem out_four {h : List UInt32} {k g t : Nat} {w : World} (b : Blk w g t (bvs (outN h (4 * k)))) :
    Blk ((((w.setCell ⟨g, 4 * k, none⟩ (.int .u8 (((at32 h k).toNat : Int) / 16777216 % 256))).setCell ⟨g, 4 * k + 1, none⟩ (.int .u8 (((at32 h k).toNat : Int) / 65536 % 256))).setCell ⟨g, 4 * k + 2, none⟩ (.int .u8 (((at32 h k).toNat : Int) / 256 % 256))).setCell ⟨g, 4 * k + 3, none⟩ (.int .u8 (((at32 h k).toNat : Int) % 256))) g t (bvs (outN h (4 * (k + 1)))) := by
  have e0 := out_byte h k 0 (by omega) 16777216 rfl
  have e1 := out_byte h k 1 (by omega) 65536 rfl
  have e2 := out_byte h k 2 (by omega) 256 rfl
  have e3 := out_byte h k 3 (by omega) 1 rfl
  have q := (((b.setByte (4 * k) (byteAt h (4 * k + 0))).setByte (4 * k + 1) (byteAt h (4 * k + 1))).setByte (4 * k + 2) (byteAt h (4 * k + 2))).setByte (4 * k + 3) (byteAt h (4 * k + 3))
  rw [e0, e1, e2, e3] at q
  rw [show 4 * (k + 1) = 4 * k + 3 + 1 from by omega, outN_succ, outN_succ, outN_succ, outN_succ]
  simpa using q
set_option maxRecDepth 100000 in
set_option maxHeartbeats 1000000 in
theorem refOut_any (h : List UInt32) (hh : h.length = 8) (w : World) : Calls Try.prog 89 #[.agg (uvs h).toArray] w fun e w' => e = .returned (.agg (bvs (outN h 32)).toArray) ∧ Below w.heap.size w w' := by
  have Hh := Lib.hid hh; clear hh
  go_enter Try.func89, Try.ntmps89
  go_wp2_with fail
  refine abs (fun w1 => Blk w1 w.heap.size 127 (uvs h) ∧ Blk w1 (w.heap.size + 1) 29 (bvs (List.replicate 32 0)) ∧ Blk w1 (w.heap.size + 2) 29 (bvs (outN h (4 * 0))) ∧ Below w.heap.size w w1) ⟨((Blk.of_new w _ _).alloc _).alloc _, (Blk.newAt (by simp) _ _).alloc _, Blk.newAt (by simp) _ _, (((Below.refl _ w).alloc (Nat.le_refl _) _).alloc (by simp) _).alloc (by simp; omega) _⟩ ?_
  rintro w1 ⟨k1, kz, k2, f1⟩
  go_loopw [4] (fun i wr => ∃ k : Nat, k ≤ 8 ∧ i = .int .i64 k ∧ Blk wr w.heap.size 127 (uvs h) ∧ Blk wr (w.heap.size + 1) 29 (bvs (List.replicate 32 0)) ∧ Blk wr (w.heap.size + 2) 29 (bvs (outN h (4 * k))) ∧ Below w.heap.size w wr) (fun i _ => 8 - (intOf i).toNat)
  case atStart => exact ⟨0, by omega, rfl, k1, kz, k2, f1⟩
  case round =>
    clear k1 kz k2 f1
    obtain ⟨k, hk, rfl, k1, kz, k2, f1⟩ := hrel
    by_cases hlt : k < 8
    · have d1 : decide ((k : Int) < 8) = true := by simp; omega
      have c1 := k1.word (i := k) (by rw [Hh.out]; exact hlt)
      have b0 := k2.byte (i := 4 * k) (by rw [outN_length]; omega)
      have b1 := k2.byte (i := 4 * k + 1) (by rw [outN_length]; omega)
      have b2 := k2.byte (i := 4 * k + 2) (by rw [outN_length]; omega)
      have b3 := k2.byte (i := 4 * k + 3) (by rw [outN_length]; omega)
      have z0 := k2.frozen (4 * k)
      have z1 := k2.frozen (4 * k + 1)
      have z2 := k2.frozen (4 * k + 2)
      have z3 := k2.frozen (4 * k + 3)
      go_wp2_with fail
      go_roundw
      case rel => exact ⟨k + 1, by omega, by go_num, (((k1.far (by simp <;> omega) _).far (by simp <;> omega) _).far (by simp <;> omega) _).far (by simp <;> omega) _, (((kz.far (by simp <;> omega) _).far (by simp <;> omega) _).far (by simp <;> omega) _).far (by simp <;> omega) _, out_four k2, (((f1.setCell (by simp <;> omega) _).setCell (by simp <;> omega) _).setCell (by simp <;> omega) _).setCell (by simp <;> omega) _⟩
      case measure => simp [intOf]; omega
    · obtain rfl : k = 8 := by omega
      have d1 : decide (((8 : Nat) : Int) < 8) = false := rfl
      have hs : (Try.prog.info? 29).map (·.size) = some (bvs (outN h (4 * 8))).length := by rw [bvs_length, outN_length]; kernel_rfl
      have Hs := Lib.hid hs; clear hs
      have hs2 : (bvs (List.replicate 32 0)).length = (bvs (outN h (4 * 8))).length := by rw [bvs_length, bvs_length, outN_length]; rfl
      have Hs2 := Lib.hid hs2; clear hs2
      go_wp2_with (first
        | (refine load_blk k2 rfl 29 (.tmp 3) rfl rfl Try.underlying29 Hs.out ?_)
        | (refine store_blk kz rfl 29 (.tmp 2) (.tmp 43) rfl rfl (us := bvs (outN h (4 * 8))) rfl Hs.out Hs2.out (bvs_all _) ?_; intro w' k9 hg))
      exact bodyPost_ret (k9.sized rfl _ rfl Try.underlying29 Hs.out) rfl ⟨rfl, f1.grown hg f1.size (by simp)⟩
def endR (n k : Nat) : List UInt8 := (128 :: List.replicate (zeros n) 0) ++ ((be64 (8 * n % 2 ^ 64)).take k ++ List.replicate (8 - k) 0)
theorem endR_zero (n : Nat) : endR n 0 = 128 :: List.replicate (zeros n + 8) 0 := by
  unfold endR
  rw [List.take_zero, List.nil_append, List.cons_append, List.replicate_append_replicate]
theorem endR_length (n k : Nat) (hk : k ≤ 8) : (endR n k).length = zeros n + 9 := by
  simp [endR, be64_length]; omega
theorem endR_eight (n : Nat) : endR n 8 = endB n := by
  unfold endR endB
  rw [List.take_of_length_le (by rw [be64_length]; omega)]
  simp
theorem endR_succ (n k : Nat) (hk : k < 8) : (endR n k).set (zeros n + 1 + k) ((be64 (8 * n % 2 ^ 64))[k]'(by rw [be64_length]; exact hk)) = endR n (k + 1) := by
  have hl := be64_length (8 * n % 2 ^ 64)
  unfold endR
  rw [List.set_append_right _ _ (by simp), List.set_append_right _ _ (by simp [be64_length]; omega), List.take_succ_eq_append_getElem (by omega)]
  have e : zeros n + 1 + k - (128 :: List.replicate (zeros n) (0 : UInt8)).length - (List.take k (be64 (8 * n % 2 ^ 64))).length = 0 := by simp [be64_length]; omega
  rw [e, show 8 - k = (8 - (k + 1)) + 1 from by omega, List.replicate_succ, List.set_cons_zero, List.append_assoc _ [_], List.singleton_append]
theorem run_make_bytesU {P : Program} {t e : TypeId} (T : ByteTy P t e) (n : Nat) (hn : n ≤ 140737488355328) (w : World) :
    (Instr.makeSlice t (.int .u64 (n : Int)) (.int .u64 (n : Int))).run P w = .ok (.slice (some ⟨w.heap.size, 0, none⟩) n n) (w.alloc (.cells (bvs (List.replicate n 0)).toArray e)) := by
  obtain ⟨i, hi, hz0, hz1, hz2⟩ := info_parts T.info
  have h := run_make (P := P) w t e i (.int .u8 0) T.sl hi hz0 .u64 .u64 n n (by omega) (by omega) (by rw [hz2]; omega) (by omega)
  simp only [Int.toNat_natCast, hz1, Nat.mul_one] at h
  rw [h]
  congr 3
  simp only [madeCells, bvs, List.map_replicate]
  apply Array.ext
  · simp [Value.cells]
  · intro j h1 h2
    simp [Value.cells, bv, Nat.mod_one]
set_option maxRecDepth 100000 in
set_option maxHeartbeats 1000000 in
theorem refEnd_any (n : Nat) (hn : n < 18446744073709551616) (w : World) : Calls Try.prog 88 #[.int .u64 n] w fun e w' => ∃ g, e = .returned (.slice (some ⟨g, 0, none⟩) (zeros n + 9) (zeros n + 9)) ∧ OwnB w' w.heap.size 5 (.slice (some ⟨g, 0, none⟩) (zeros n + 9) (zeros n + 9)) (endB n) ∧ Below w.heap.size w w' := by
  have hzl := zeros_lt n
  have hz : (119 - (n : Int) % 64) % 64 = (zeros n : Int) := by unfold zeros; omega
  have hmk := run_make_bytesU T23 (zeros n + 9) (by omega)
  go_enter Try.func88, Try.ntmps88
  rw [show ((zeros n + 9 : Nat) : Int) = 1 + (zeros n : Int) + 8 from by omega] at hmk
  go_upto_region 3 with fail
  refine abs (fun w1 => Blk w1 w.heap.size 5 (bvs (List.replicate (zeros n + 9) 0)) ∧ Below w.heap.size w w1) ⟨Blk.of_new w _ _, (Below.refl _ w).alloc (Nat.le_refl _) _⟩ ?_
  rintro w1 ⟨k1, f1⟩
  have c0 := k1.byteAt (i := 0) (by simp)
  have z0 := k1.frozen 0
  have k2 := k1.setByte 0 128
  have e2 : (List.replicate (zeros n + 9) (0 : UInt8)).set 0 128 = endR n 0 := by rw [endR_zero]; rfl
  rw [e2] at k2
  clear e2 hmk
  go_wp2_with fail
  go_loopw [5] (fun i wr => ∃ k : Nat, k ≤ 8 ∧ i = .int .u64 k ∧ Blk wr w.heap.size 5 (bvs (endR n k)) ∧ Below w.heap.size w wr) (fun i _ => 8 - (intOf i).toNat)
  case atStart => exact ⟨0, by omega, rfl, k2, f1.setCell (Nat.le_refl _) _⟩
  case round =>
    clear k1 f1 k2 c0 z0
    obtain ⟨k, hk, rfl, k1, f1⟩ := hrel
    by_cases hlt : k < 8
    · have d1 : decide ((k : Int) < 8) = true := by simp; omega
      have hel := endR_length n k hk
      have c1 := k1.byteAt (i := 1 + zeros n + k) (by omega)
      have z1 := k1.frozen (1 + zeros n + k)
      clear hel
      have hb := endR_succ n k hlt
      have he := end_byte n k hlt
      rw [Int.mul_comm 8 (n : Int), show 8 * (7 - k) = 56 - 8 * k from by omega] at he
      have HB := Lib.hid hb
      have HE := Lib.hid he
      clear hb he
      go_wp2_with fail
      go_roundw
      case rel =>
        refine ⟨k + 1, by omega, by go_num, ?_, f1.setCell (Nat.le_refl _) _⟩
        rw [HE.out, ← HB.out, show 1 + zeros n + k = zeros n + 1 + k from by omega]
        exact k1.setByte _ _
      case measure => simp [intOf]; omega
    · obtain rfl : k = 8 := by omega
      have d1 : decide (((8 : Nat) : Int) < 8) = false := rfl
      go_wp2_with fail
      go_ret
      rw [endR_eight] at k1
      exact ⟨_, rfl, OwnB.of_blk k1 (Nat.le_refl _) (endB_len n) (by simp only [maxLen]; omega), f1⟩
end Go.Proofs.Ytgefbgjgcjiceaa
namespace Go.Proofs.Ytgefbgjgcjiceaa
open Go.RowKit
set_option linter.unusedVariables false
theorem be4 (a b c d : UInt8) : beN [a, b, c, d] = a.toNat * 16777216 + b.toNat * 65536 + c.toNat * 256 + d.toNat := by
  simp [beN]; omega
theorem or_bytes (a b c d : Nat) (ha : a < 256) (hb : b < 256) (hc : c < 256) (hd : d < 256) :
    bits BinOp.or .u32 (bits BinOp.or .u32 (bits BinOp.or .u32 ((a : Int) * 16777216) ((b : Int) * 65536)) ((c : Int) * 256)) (d : Int) = ((a * 16777216 + b * 65536 + c * 256 + d : Nat) : Int) := by
  rw [show (a : Int) * 16777216 = ((2 ^ 24 * a : Nat) : Int) from by omega, show (b : Int) * 65536 = ((2 ^ 16 * b : Nat) : Int) from by omega, show (c : Int) * 256 = ((2 ^ 8 * c : Nat) : Int) from by omega,
    u32_or_nat _ _ (by omega) (by omega), ← Nat.two_pow_add_eq_or_of_lt (by omega), u32_or_nat _ _ (by omega) (by omega),
    show 2 ^ 24 * a + 2 ^ 16 * b = 2 ^ 16 * (2 ^ 8 * a + b) from by omega, ← Nat.two_pow_add_eq_or_of_lt (by omega), u32_or_nat _ _ (by omega) (by omega),
    show 2 ^ 16 * (2 ^ 8 * a + b) + 2 ^ 8 * c = 2 ^ 8 * (2 ^ 16 * a + 2 ^ 8 * b + c) from by omega, ← Nat.two_pow_add_eq_or_of_lt (by omega)]
  congr 1
  omega
theorem wordAt_of (l : List UInt8) (hl : l.length = 64) (t : Nat) (ht : t < 16) :
    ((wordAt l t).toNat : Int) = (((at8 l (4 * t)).toNat * 16777216 + (at8 l (4 * t + 1)).toNat * 65536 + (at8 l (4 * t + 2)).toNat * 256 + (at8 l (4 * t + 3)).toNat : Nat) : Int) := by
  have e : (l.drop (4 * t)).take 4 = [at8 l (4 * t), at8 l (4 * t + 1), at8 l (4 * t + 2), at8 l (4 * t + 3)] := by
    refine List.ext_getElem? fun j => ?_
    rw [List.getElem?_take, List.getElem?_drop]
    unfold at8
    rcases j with _ | _ | _ | _ | j
    · simp [show 4 * t < l.length from by omega]
    · simp [show 4 * t + 1 < l.length from by omega]
    · simp [show 4 * t + 2 < l.length from by omega]
    · simp [show 4 * t + 3 < l.length from by omega]
    · rw [if_neg (by omega)]; simp
  have h0 := (at8 l (4 * t)).toNat_lt
  have h1 := (at8 l (4 * t + 1)).toNat_lt
  have h2 := (at8 l (4 * t + 2)).toNat_lt
  have h3 := (at8 l (4 * t + 3)).toNat_lt
  unfold wordAt
  rw [e, be4, UInt32.toNat_ofNat', Nat.mod_eq_of_lt (by omega)]
theorem addTo_eight (h V : List UInt32) (hh : h.length = 8) : addTo h V 8 = [add32 (at32 h 0) (at32 V 0), add32 (at32 h 1) (at32 V 1), add32 (at32 h 2) (at32 V 2), add32 (at32 h 3) (at32 V 3), add32 (at32 h 4) (at32 V 4), add32 (at32 h 5) (at32 V 5), add32 (at32 h 6) (at32 V 6), add32 (at32 h 7) (at32 V 7)] := by
  obtain ⟨a0, a1, a2, a3, a4, a5, a6, a7, rfl⟩ : ∃ a0 a1 a2 a3 a4 a5 a6 a7, h = [a0, a1, a2, a3, a4, a5, a6, a7] := by
    rcases h with _ | ⟨a0, _ | ⟨a1, _ | ⟨a2, _ | ⟨a3, _ | ⟨a4, _ | ⟨a5, _ | ⟨a6, _ | ⟨a7, h⟩⟩⟩⟩⟩⟩⟩⟩
    all_goals (try (simp at hh; done))
    have : h = [] := List.eq_nil_of_length_eq_zero (by simpa using hh)
    exact ⟨a0, a1, a2, a3, a4, a5, a6, a7, by rw [this]⟩
  rfl
theorem sched_start (l : List UInt8) : sched l 0 = List.replicate 64 0 := rfl
theorem rounds_start (K W v : List UInt32) : rounds K W v 0 = v := rfl
attribute [local irreducible] sched rounds addTo
set_option maxRecDepth 100000 in
set_option maxHeartbeats 4000000 in
theorem refBlock_any (h : List UInt32) (A : Option Addr) (c : Nat) (l : List UInt8) (K : List UInt32) (w : World) (hh : h.length = 8) (hK : K.length = 64) (hl : RdB w w.heap.size A 64 l) (hc : 64 ≤ c) :
    Calls Try.prog 96 #[.agg (uvs h).toArray, .slice A 64 c, .agg (uvs K).toArray] w fun e w' => e = .returned (.agg (uvs (comp K h l)).toArray) ∧ Below w.heap.size w w' := by
  have Hh := Lib.hid hh; clear hh
  have HK := Lib.hid hK; clear hK
  have hl64 := hl.1
  obtain ⟨b, off, rfl, hb, hj⟩ := hl.2 (by omega)
  have Hl := Lib.hid hl64; clear hl64
  have Hj := Lib.hid hj; clear hj hl
  go_enter Try.func96, Try.ntmps96
  go_upto_region 2 with fail
  refine abs (fun w1 => Blk w1 w.heap.size 127 (uvs h) ∧ Blk w1 (w.heap.size + 1) 138 (uvs K) ∧ Blk w1 (w.heap.size + 2) 127 (uvs (List.replicate 8 0)) ∧ Blk w1 (w.heap.size + 3) 138 (uvs (sched l 0)) ∧ Below w.heap.size w w1) ⟨(((Blk.of_new w _ _).alloc _).alloc _).alloc _, ((Blk.newAt (by simp) _ _).alloc _).alloc _, (Blk.newAt (by simp) _ _).alloc _, by rw [sched_start]; exact Blk.newAt (by simp) _ _, ((((Below.refl _ w).alloc (Nat.le_refl _) _).alloc (by simp) _).alloc (by simp <;> omega) _).alloc (by simp <;> omega) _⟩ ?_
  rintro w1 ⟨k0, k1, k2, k3, f1⟩
  go_wp2_with fail
  go_loopw [8] (fun i wr => ∃ t : Nat, t ≤ 16 ∧ i = .int .i64 t ∧ Blk wr w.heap.size 127 (uvs h) ∧ Blk wr (w.heap.size + 1) 138 (uvs K) ∧ Blk wr (w.heap.size + 2) 127 (uvs (List.replicate 8 0)) ∧ Blk wr (w.heap.size + 3) 138 (uvs (sched l t)) ∧ Below w.heap.size w wr) (fun i _ => 16 - (intOf i).toNat)
  case atStart => exact ⟨0, by omega, rfl, k0, k1, k2, k3, f1⟩
  case round =>
    clear k0 k1 k2 k3 f1
    obtain ⟨t, ht, rfl, k0, k1, k2, k3, f1⟩ := hrel
    by_cases hlt : t < 16
    · have d1 : decide ((t : Int) < 16) = true := by simp; omega
      have cell : ∀ j, j < 64 → wr.cell? ⟨b, off + j, none⟩ = some (.int .u8 ((at8 l j).toNat : Int)) := fun j hj => by
        rw [f1.cell (p := ⟨b, off + j, none⟩) hb, Hj.out j (by rw [Hl.out]; exact hj)]
        simp [bv, at8, List.getD, show j < l.length from by rw [Hl.out]; exact hj]
      have c0 := cell (4 * t) (by omega)
      have c1 := cell (4 * t + 1) (by omega)
      have c2 := cell (4 * t + 2) (by omega)
      have c3 := cell (4 * t + 3) (by omega)
      clear cell
      have b0 := (at8 l (4 * t)).toNat_lt
      have b1 := (at8 l (4 * t + 1)).toNat_lt
      have b2 := (at8 l (4 * t + 2)).toNat_lt
      have b3 := (at8 l (4 * t + 3)).toNat_lt
      have hw := wordAt_of l Hl.out t hlt
      have hor := or_bytes _ _ _ _ b0 b1 b2 b3
      rw [← hw] at hor
      clear hw
      generalize (at8 l (4 * t)).toNat = B0 at *
      generalize (at8 l (4 * t + 1)).toNat = B1 at *
      generalize (at8 l (4 * t + 2)).toNat = B2 at *
      generalize (at8 l (4 * t + 3)).toNat = B3 at *
      have ct := k3.word (i := t) (by rw [sched_length]; omega)
      have zt := k3.frozen t
      go_wp2_with fail
      go_region
      go_wp2_with fail
      go_roundw
      case rel => exact ⟨t + 1, by omega, by go_num, (k0.far (by simp <;> omega) _).drew, (k1.far (by simp <;> omega) _).drew, (k2.far (by simp <;> omega) _).drew, by rw [sched_succ]; unfold wstep; rw [if_pos hlt]; exact (k3.setWord t _).drew, (f1.setCell (by simp <;> omega) _).drew⟩
      case measure => simp [intOf]; omega
    · obtain rfl : t = 16 := by omega
      have d1 : decide (((16 : Nat) : Int) < 16) = false := rfl
      clear Hj
      go_wp2_with fail
      go_loopw [9, 10, 11] (fun i _ _ wr => ∃ t : Nat, 16 ≤ t ∧ t ≤ 64 ∧ i = .int .i64 t ∧ Blk wr w.heap.size 127 (uvs h) ∧ Blk wr (w.heap.size + 1) 138 (uvs K) ∧ Blk wr (w.heap.size + 2) 127 (uvs (List.replicate 8 0)) ∧ Blk wr (w.heap.size + 3) 138 (uvs (sched l t)) ∧ Below w.heap.size w wr) (fun i _ _ _ => 64 - (intOf i).toNat)
      case atStart => exact ⟨16, by omega, by omega, rfl, k0, k1, k2, k3, f1⟩
      case round =>
        clear k0 k1 k2 k3 f1
        obtain ⟨t, ht1, ht, rfl, k0, k1, k2, k3, f1⟩ := hrel
        by_cases hlt : t < 64
        · have d1 : decide ((t : Int) < 64) = true := by simp; omega
          have c15 := k3.word (i := t - 15) (by rw [sched_length]; omega)
          have b15 : (0 : Int) ≤ (t : Int) - 15 := by omega
          have i15 : ((t : Int) - 15).toNat = t - 15 := by omega
          have l15 : (t : Int) - 15 < 64 := by omega
          have i7 : ((t : Int) - 7).toNat = t - 7 := by omega
          have i16 : ((t : Int) - 16).toNat = t - 16 := by omega
          have i2 : ((t : Int) - 2).toNat = t - 2 := by omega
          have s3 := shr_3
          have s10 := shr_10
          go_wp2_with fail
          go_quiet ((go_at_call 99; exact Calls.quiet_of_same (rorR_any _ _ _ (by omega) (by omega))))
          replace k0 := k0.drewN nq
          replace k1 := k1.drewN nq
          replace k2 := k2.drewN nq
          replace k3 := k3.drewN nq
          replace f1 := belowN f1 nq
          clear c15 b15 l15
          generalize wr.drewN nq = wx at *
          have c2 := k3.word (i := t - 2) (by rw [sched_length]; omega)
          have b2 : (0 : Int) ≤ (t : Int) - 2 := by omega
          have l2 : (t : Int) - 2 < 64 := by omega
          go_wp2_with fail
          go_quiet ((go_at_call 99; exact Calls.quiet_of_same (rorR_any _ _ _ (by omega) (by omega))))
          replace k0 := k0.drewN nq
          replace k1 := k1.drewN nq
          replace k2 := k2.drewN nq
          replace k3 := k3.drewN nq
          replace f1 := belowN f1 nq
          clear c2 b2 l2 s3 s10
          generalize wx.drewN nq = wy at *
          have c7 := k3.word (i := t - 7) (by rw [sched_length]; omega)
          have c16 := k3.word (i := t - 16) (by rw [sched_length]; omega)
          have ct := k3.word (i := t) (by rw [sched_length]; omega)
          have ft := k3.frozen t
          have b7 : (0 : Int) ≤ (t : Int) - 7 := by omega
          have b16 : (0 : Int) ≤ (t : Int) - 16 := by omega
          go_wp2_with fail
          go_region
          go_wp2_with fail
          go_roundw
          case rel => exact ⟨t + 1, by omega, by omega, by go_num, (k0.far (by simp <;> omega) _).drew, (k1.far (by simp <;> omega) _).drew, (k2.far (by simp <;> omega) _).drew, by rw [sched_succ]; unfold wstep; rw [if_neg (by omega)]; exact (k3.setWord t _).drew, (f1.setCell (by simp <;> omega) _).drew⟩
          case measure => simp [intOf]; omega
        · obtain rfl : t = 64 := by omega
          have d1 : decide (((64 : Nat) : Int) < 64) = false := rfl
          have hWl := sched_length l 64
          have HWl := Lib.hid hWl
          clear hWl
          have c0 := k0.word (i := 0) (by rw [Hh.out]; omega)
          have c1 := k0.word (i := 1) (by rw [Hh.out]; omega)
          have c2 := k0.word (i := 2) (by rw [Hh.out]; omega)
          have c3 := k0.word (i := 3) (by rw [Hh.out]; omega)
          have c4 := k0.word (i := 4) (by rw [Hh.out]; omega)
          have c5 := k0.word (i := 5) (by rw [Hh.out]; omega)
          have c6 := k0.word (i := 6) (by rw [Hh.out]; omega)
          have c7 := k0.word (i := 7) (by rw [Hh.out]; omega)
          go_wp2_with fail
          go_quiet (fail)
          clear c0 c1 c2 c3 c4 c5 c6 c7
          replace k0 := k0.drewN nq
          replace k1 := k1.drewN nq
          replace k2 := k2.drewN nq
          replace k3 := k3.drewN nq
          replace f1 := belowN f1 nq
          generalize wr.drewN nq = wx at *
          go_wp2_with fail
          go_loopw [20, 12, 13, 14, 15, 16, 17, 18, 19, 21, 22] (fun i v0 v1 v2 v3 v4 v5 v6 v7 _ _ wr => ∃ t : Nat, t ≤ 64 ∧ i = .int .i64 t ∧ v0 = .int .u32 (at32 (rounds K (sched l 64) h t) 0).toNat ∧ v1 = .int .u32 (at32 (rounds K (sched l 64) h t) 1).toNat ∧ v2 = .int .u32 (at32 (rounds K (sched l 64) h t) 2).toNat ∧ v3 = .int .u32 (at32 (rounds K (sched l 64) h t) 3).toNat ∧ v4 = .int .u32 (at32 (rounds K (sched l 64) h t) 4).toNat ∧ v5 = .int .u32 (at32 (rounds K (sched l 64) h t) 5).toNat ∧ v6 = .int .u32 (at32 (rounds K (sched l 64) h t) 6).toNat ∧ v7 = .int .u32 (at32 (rounds K (sched l 64) h t) 7).toNat ∧
            Blk wr w.heap.size 127 (uvs h) ∧ Blk wr (w.heap.size + 1) 138 (uvs K) ∧ Blk wr (w.heap.size + 2) 127 (uvs (List.replicate 8 0)) ∧ Blk wr (w.heap.size + 3) 138 (uvs (sched l 64)) ∧ Below w.heap.size w wr) (fun i _ _ _ _ _ _ _ _ _ _ _ => 64 - (intOf i).toNat)
          case atStart => exact ⟨0, by omega, rfl, by rw [rounds_start], by rw [rounds_start], by rw [rounds_start], by rw [rounds_start], by rw [rounds_start], by rw [rounds_start], by rw [rounds_start], by rw [rounds_start], k0, k1, k2, k3, f1⟩
          case round =>
            clear k0 k1 k2 k3 f1
            obtain ⟨t, ht, rfl, rfl, rfl, rfl, rfl, rfl, rfl, rfl, rfl, k0, k1, k2, k3, f1⟩ := hrel
            by_cases hlt : t < 64
            · have d1 : decide ((t : Int) < 64) = true := by simp; omega
              have hrs := rounds_succ K (sched l 64) h t
              have ck := k1.word (i := t) (by rw [HK.out]; exact hlt)
              have cw := k3.word (i := t) (by rw [HWl.out]; exact hlt)
              generalize hV : rounds K (sched l 64) h t = V at *
              have HV := Lib.hid hV
              have HRS := Lib.hid hrs
              clear hrs hV
              go_upto_region 16 with fail
              go_cut [21] (fun s21 wx => s21 = .int .u32 (t1Of V (at32 K t) (at32 (sched l 64) t)).toNat ∧ ∃ nq, wx = wr.drewN nq)
              case first =>
                go_quiet ((go_at_call 99; exact Calls.quiet_of_same (rorR_any _ _ _ (by omega) (by omega))))
                go_wp2_with fail
                go_meet
                exact ⟨congrArg (Value.int IntKind.u32) (by unfold t1Of; simp only [add32_int]; omega), nq, rfl⟩
              case rest =>
              obtain ⟨rfl, nq, rfl⟩ := hcut
              clear ck cw
              generalize hT : t1Of V (at32 K t) (at32 (sched l 64) t) = T1 at *
              have HT := Lib.hid hT
              clear hT
              go_upto_region 17 with fail
              go_cut [22] (fun s22 wx => s22 = .int .u32 (t2Of V).toNat ∧ wx = wr.drewN nq)
              case first =>
                go_wp2_with ((go_at_call 99; refine (rorR_any _ _ _ (by omega) (by omega)).mono ?_; rintro e w' ⟨rfl, rfl⟩))
                go_meet
                exact ⟨rfl, rfl⟩
              case rest =>
              obtain ⟨rfl, rfl⟩ := hcut
              generalize hT2 : t2Of V = T2 at *
              have HT2 := Lib.hid hT2
              clear hT2
              go_wp2_with fail
              go_roundw
              case rel =>
                refine ⟨t + 1, by omega, by go_num, ?_, ?_, ?_, ?_, ?_, ?_, ?_, ?_, k0.drewN nq, k1.drewN nq, k2.drewN nq, k3.drewN nq, belowN f1 nq⟩
                all_goals rw [HRS.out, rnd, HT.out]
                · rw [HT2.out]; rfl
                all_goals rfl
              case measure => simp [intOf]; omega
            · obtain rfl : t = 64 := by omega
              have d1 : decide (((64 : Nat) : Int) < 64) = false := rfl
              have hae := addTo_eight h (rounds K (sched l 64) h 64) Hh.out
              have HAE := Lib.hid hae
              have hsz : (Try.prog.info? 127).map (·.size) = some (uvs (addTo h (rounds K (sched l 64) h 64) 8)).length := by rw [uvs_length, hae]; kernel_rfl
              have hsz2 : (uvs (List.replicate 8 0)).length = (uvs (addTo h (rounds K (sched l 64) h 64) 8)).length := by rw [uvs_length, uvs_length, hae]; rfl
              have Hsz := Lib.hid hsz
              have Hsz2 := Lib.hid hsz2
              clear hae hsz hsz2
              have c0 := k0.word (i := 0) (by rw [Hh.out]; omega)
              have c1 := k0.word (i := 1) (by rw [Hh.out]; omega)
              have c2 := k0.word (i := 2) (by rw [Hh.out]; omega)
              have c3 := k0.word (i := 3) (by rw [Hh.out]; omega)
              have c4 := k0.word (i := 4) (by rw [Hh.out]; omega)
              have c5 := k0.word (i := 5) (by rw [Hh.out]; omega)
              have c6 := k0.word (i := 6) (by rw [Hh.out]; omega)
              have c7 := k0.word (i := 7) (by rw [Hh.out]; omega)
              go_wp2_with (first | (refine store_blk k2 rfl 127 (.tmp 6) (.tmp 226) rfl rfl (us := uvs (addTo h (rounds K (sched l 64) h 64) 8)) ?_ Hsz.out Hsz2.out (uvs_all _) ?_))
              · rw [HAE.out]; rfl
              intro w' k9 hg
              go_wp2_with fail
              exact bodyPost_ret (k9.sized rfl _ rfl Try.underlying127 Hsz.out) rfl ⟨rfl, f1.grown hg f1.size (by simp)⟩
end Go.Proofs.Ytgefbgjgcjiceaa
namespace Go.Proofs.Ytgefbgjgcjiceaa
open Go.RowKit
set_option linter.unusedVariables false
theorem Blk.sized2 {w : World} {g t : Nat} {cs : List Value} (h : Blk w g t cs) {fn : Func} {p u : Tmp} {ty : TypeId} (hf : fn.results = #[.cell p ty, .tmp u]) (tmps : Array Value) {P : Program} (hp : tmps.getD p undef = .pointer (some ⟨g, 0, none⟩)) {d : TypeDesc}
    (hu : P.underlying ty = some d) (hi : (P.info? ty).map (·.size) = some cs.length) (hd : d.isRow = true := by rfl) : (results fn tmps).run P w = .ok (.tuple #[.agg cs.toArray, tmps.getD u undef]) w := by
  have hp' : tmps[p]?.getD undef = .pointer (some ⟨g, 0, none⟩) := by simpa using hp
  have h1 : (loadVar ty ⟨g, 0, none⟩).run P w = .ok (.agg cs.toArray) w := by
    cases d <;> first | exact run_loadVar_row (P := P) w g t ty cs.toArray (0, 0) _ h hu rfl (by simpa using hi) | cases hd
  simp [results, hf, hp', asAddr, h1]
attribute [local irreducible] blkN comp
set_option maxRecDepth 100000 in
set_option maxHeartbeats 2000000 in
theorem refBlocks_any (h : List UInt32) (A : Option Addr) (n c : Nat) (l : List UInt8) (w : World) (hh : h.length = 8) (hl : RdB w w.heap.size A n l) (hc : n ≤ c) (hn : n ≤ 140737488355328) :
    Calls Try.prog 86 #[.agg (uvs h).toArray, .slice A n c] w fun e w' => ∃ A' c', e = .returned (.tuple #[.agg (uvs (blkN h l (n / 64))).toArray, .slice A' (n - 64 * (n / 64)) c']) ∧ RdB w' w.heap.size A' (n - 64 * (n / 64)) (l.drop (64 * (n / 64))) ∧ Below w.heap.size w w' := by
  have Hh := Lib.hid hh; clear hh
  have hi8 : (Try.prog.info? 127).map (·.size) = some 8 := by kernel_rfl
  have hi64 : (Try.prog.info? 138).map (·.size) = some (uvs KEYS).length := by kernel_rfl
  have Hi8 := Lib.hid hi8
  have Hi64 := Lib.hid hi64
  clear hi8 hi64
  go_enter Try.func86, Try.ntmps86
  go_upto_region 1 with fail
  refine abs (fun w1 => Blk w1 w.heap.size 127 (uvs h) ∧ Blk w1 (w.heap.size + 1) 127 (uvs (List.replicate 8 0)) ∧ Below w.heap.size w w1) ⟨(Blk.of_new w _ _).alloc _, Blk.newAt (by simp) _ _, ((Below.refl _ w).alloc (Nat.le_refl _) _).alloc (by simp) _⟩ ?_
  rintro w1 ⟨k0, k1, f1⟩
  go_wp2_with fail
  refine (refTable_any w1).mono ?_
  rintro e w2 ⟨rfl, g2⟩
  have l0 := k0.lt
  have l1 := k1.lt
  replace k0 := k0.below g2 l0
  replace k1 := k1.below g2 l1
  replace f1 := f1.trans (g2.mono f1.size)
  have hs2 := g2.size
  clear g2
  go_wp2_with (first | (refine store_blk (us := uvs KEYS) (Blk.newAt rfl 138 _) rfl 138 (.tmp 6) (.tmp 7) rfl rfl rfl Hi64.out rfl (uvs_all _) ?_; intro w3 k2 hg))
  have f3 : Below w2.heap.size w2 w3 := ((Below.refl _ w2).alloc (Nat.le_refl _) _).grown hg (by simp) (by simp)
  replace k0 := k0.below f3 (by omega)
  replace k1 := k1.below f3 (by omega)
  replace f1 := f1.trans (f3.mono f1.size)
  have hg1 : w.heap.size + 1 < w2.heap.size := by omega
  generalize w2.heap.size = g at *
  clear hg f3 hs2 l0 l1
  try go_frame
  go_loopw [1] (fun s wr => ∃ (k : Nat) (A1 : Option Addr) (c1 : Nat), 64 * k ≤ n ∧ s = .slice A1 (n - 64 * k) c1 ∧ n - 64 * k ≤ c1 ∧ RdB wr w.heap.size A1 (n - 64 * k) (l.drop (64 * k)) ∧ Blk wr w.heap.size 127 (uvs (blkN h l k)) ∧ Blk wr (w.heap.size + 1) 127 (uvs (List.replicate 8 0)) ∧ Blk wr g 138 (uvs KEYS) ∧ Below w.heap.size w wr) (fun s _ => lenOf s)
  case atStart => exact ⟨0, A, c, by omega, rfl, hc, by simpa using hl.below f1, by rw [blkN_zero]; exact k0, k1, k2, f1⟩
  case round =>
    clear k0 k1 k2 f1
    obtain ⟨k, A1, c1, hk, rfl, hc1, r1, k0, k1, k2, f1⟩ := hrel
    have hbl := blkN_length h l k Hh.out
    have HBL := Lib.hid hbl
    clear hbl
    by_cases hlt : 64 ≤ n - 64 * k
    · have d1 : decide ((64 : Int) ≤ ((n - 64 * k : Nat) : Int)) = true := by simp; omega
      generalize hM : n - 64 * k = M at *
      have HM := Lib.hid hM
      clear hM
      have b1 : (64 : Int) ≤ (c1 : Int) := by omega
      have b2 : 64 ≤ c1 := by omega
      obtain ⟨b, off, rfl, hb, hj⟩ := r1.2 (by omega)
      have rk := (RdB.sliced r1 (i := 0) (k := 64) (c := c1) (by omega) hlt hc1)
      have rd := (RdB.sliced r1 (i := 64) (k := M) (c := c1) hlt (Nat.le_refl _) hc1)
      have hbs := blkN_succ h l k
      have HBS := Lib.hid hbs
      have rb : RdB wr w.heap.size (some ⟨b, off, none⟩) 64 ((l.drop (64 * k)).take 64) := by
        obtain ⟨A', e1, r'⟩ := rk
        simp only [sliced, Nat.mul_one] at e1
        injection e1 with e1 _ _
        rw [← e1] at r'
        simpa [show c1 ≠ 0 from by omega, Addr.add] using r'
      have rn : RdB wr w.heap.size (if c1 = 64 then some ⟨b, off, none⟩ else some ⟨b, off + 64, none⟩) (M - 64) (l.drop (64 * (k + 1))) := by
        obtain ⟨A', e1, r'⟩ := rd
        simp only [sliced, Nat.mul_one] at e1
        injection e1 with e1 _ _
        rw [← e1] at r'
        rw [List.take_of_length_le (by rw [r1.1]; exact Nat.le_refl _), List.drop_drop] at r'
        rw [show 64 * (k + 1) = 64 * k + 64 from by omega]
        by_cases hcc : c1 = 64
        · rw [if_pos hcc] at r' ⊢; exact r'
        · rw [if_neg hcc] at r' ⊢; simpa [Addr.add] using r'
      clear hbs rk rd hj
      have hsz : (Try.prog.info? 127).map (·.size) = some (uvs (blkN h l k)).length := by rw [uvs_length, HBL.out]; exact Hi8.out
      have Hsz := Lib.hid hsz
      clear hsz
      have hpl := f1.size
      go_wp2_with fail
      refine wp_region_order (fun u => Blk u w.heap.size 127 (uvs (blkN h l k)) ∧ Blk u g 138 (uvs KEYS)) 5 [(0,0), (1,0), (2,0), (3,0), (4,1), (5,2)] (by kernel_rfl) (by kernel_rfl) ?_
      simp only [pick, List.filterMap_cons, List.filterMap_nil, List.getElem?_cons_zero, List.getElem?_cons_succ, Option.map_some]
      have hS : Blk wr.drew w.heap.size 127 (uvs (blkN h l k)) ∧ Blk wr.drew g 138 (uvs KEYS) := ⟨k0, k2⟩
      refine wpF_load hS rfl 127 (.tmp 2) rfl rfl (fun _ h => h.1.whole) Try.underlying127 Hsz.out (fun _ _ _ h => h) ?_
      refine wpF_take (v := ?_) hS rfl ?_ (fun _ _ _ h => h) ?_
      rotate_left
      · intro w' hS'
        obtain _ := hS'
        go_simp <;> rfl
      go_simp
      refine wpF_take (v := .slice (some ⟨b, off, none⟩) 64 c1) hS rfl (fun u hS' => by go_simp) (fun _ _ _ h => h) ?_
      go_simp
      refine wpF_load hS rfl 138 (.tmp 6) rfl rfl (fun _ h => h.2.whole) Try.underlying138 Hi64.out (fun _ _ _ h => h) ?_
      refine wpF_only rfl (fun K hK => ?_)
      go_wp2_with fail
      refine (refBlock_any (blkN h l k) (some ⟨b, off, none⟩) c1 ((l.drop (64 * k)).take 64) KEYS _ HBL.out rfl ((show RdB wr.drew w.heap.size (some ⟨b, off, none⟩) 64 ((l.drop (64 * k)).take 64) from rb).more hpl) b2).mono ?_
      rintro e w5 ⟨rfl, g5⟩
      have l0 := k0.lt
      have l1 := k1.lt
      have l2 := k2.lt
      have hS5 : Blk w5 w.heap.size 127 (uvs (blkN h l k)) ∧ Blk w5 g 138 (uvs KEYS) := ⟨hS.1.below g5 l0, hS.2.below g5 l2⟩
      have k1' : Blk w5 (w.heap.size + 1) 127 (uvs (List.replicate 8 0)) := (show Blk wr.drew (w.heap.size + 1) 127 (uvs (List.replicate 8 0)) from k1).below g5 l1
      have f5 : Below w.heap.size w w5 := f1.drew.trans (g5.mono hpl)
      have rn5 := rn.keep (w' := w5) (fun p hp => (g5.cell (Nat.lt_of_lt_of_le hp hpl)))
      clear hS k0 k1 k2 f1 rb rn g5 l0 l1 l2
      go_wp2_with fail
      first | refine ⟨fun _ => hS5, ?_⟩ | skip
      go_simp
      refine wpF_only rfl (fun K hK => ?_)
      have hsz2 : (Try.prog.info? 127).map (·.size) = some (uvs (comp KEYS (blkN h l k) ((l.drop (64 * k)).take 64))).length := by rw [uvs_length, comp_length, HBL.out]; exact Hi8.out
      have hsz3 : (uvs (blkN h l k)).length = (uvs (comp KEYS (blkN h l k) ((l.drop (64 * k)).take 64))).length := by rw [uvs_length, uvs_length, comp_length]
      refine wp_store_blk hS5.1 127 (.tmp 2) (.tmp 15) rfl rfl (us := uvs (comp KEYS (blkN h l k) ((l.drop (64 * k)).take 64))) rfl hsz2 hsz3 (uvs_all _) ?_
      intro w6 k6 hg6
      refine hK _ _ ⟨fun h => absurd h (by omega), wpF_nil ?_⟩
      have k2' := hS5.2.grown hg6 (by simp; omega)
      replace k1' := k1'.grown hg6 (by simp)
      have f6 := f5.grown hg6 f5.size (by simp)
      have rn6 := rn5.keep (w' := w6) (fun p hp => by
        have := hg6.block p.block (Nat.lt_of_lt_of_le hp f5.size) (by simp; omega)
        exact World.cell?_of_block this)
      rw [← HBS.out] at k6
      clear hS5 hsz2 hsz3 hg6 f5 rn5 hK K
      have hM2 := Lib.hid (show M - 64 = n - 64 * (k + 1) by have := HM.out; omega)
      by_cases hcc : c1 = 64
      · rw [if_pos hcc] at rn6
        go_wp2_with fail
        go_roundw
        case rel => exact ⟨k + 1, _, 0, by have := HM.out; omega, by rw [← hM2.out], by have := HM.out; omega, by rw [← hM2.out]; exact rn6, k6, k1', k2', f6⟩
        case measure => simp [lenOf]; omega
      · rw [if_neg hcc] at rn6
        go_wp2_with fail
        go_roundw
        case rel => exact ⟨k + 1, _, c1 - 64, by have := HM.out; omega, by rw [← hM2.out], by have := HM.out; omega, by rw [← hM2.out]; exact rn6, k6, k1', k2', f6⟩
        case measure => simp [lenOf]; omega
    · have d1 : decide ((64 : Int) ≤ ((n - 64 * k : Nat) : Int)) = false := by simp; omega
      obtain rfl : k = n / 64 := by omega
      have hsz : (Try.prog.info? 127).map (·.size) = some (uvs (blkN h l (n / 64))).length := by rw [uvs_length, HBL.out]; exact Hi8.out
      have hsz3 : (uvs (List.replicate 8 0)).length = (uvs (blkN h l (n / 64))).length := by rw [uvs_length, uvs_length, HBL.out]; rfl
      have Hsz := Lib.hid hsz
      have Hsz3 := Lib.hid hsz3
      clear hsz hsz3
      generalize hM : n - 64 * (n / 64) = M at *
      go_wp2_with (first
        | (refine load_blk k0 rfl 127 (.tmp 2) rfl rfl Try.underlying127 Hsz.out ?_)
        | (refine store_blk k1 rfl 127 (.tmp 4) (.tmp 18) rfl rfl (us := uvs (blkN h l (n / 64))) rfl Hsz.out Hsz3.out (uvs_all _) ?_; intro w9 k9 hg9))
      refine bodyPost_ret (k9.sized2 rfl _ rfl Try.underlying127 Hsz.out) rfl ⟨A1, c1, by rw [hM]; rfl, ?_, f1.grown hg9 f1.size (by simp)⟩
      rw [hM]
      refine r1.keep (fun p hp => ?_)
      have := hg9.block p.block (Nat.lt_of_lt_of_le hp f1.size) (by simp; omega)
      exact World.cell?_of_block this
end Go.Proofs.Ytgefbgjgcjiceaa
namespace Go.Proofs.Ytgefbgjgcjiceaa
open Go.RowKit
set_option linter.unusedVariables false
attribute [local irreducible] blkN comp outN
theorem refSha_eq (l : List UInt8) : outN (blkN H0 (l ++ endB l.length) ((l.length + (zeros l.length + 9)) / 64)) 32 = shaB l := by unfold shaB sumB; rfl
set_option maxRecDepth 100000 in
set_option maxHeartbeats 2000000 in
theorem refOf_any (A : Option Addr) (n c : Nat) (l : List UInt8) (w : World) (hl : RdB w w.heap.size A n l) (hn : n ≤ 70368744177664) :
    Calls Try.prog 79 #[.slice A n c] w fun e w' => e = .returned (.agg (bvs (shaB l)).toArray) ∧ Below w.heap.size w w' := by
  have hln := hl.1
  have hi32 : (Try.prog.info? 29).map (·.size) = some 32 := by kernel_rfl
  have hi8 : (Try.prog.info? 127).map (·.size) = some 8 := by kernel_rfl
  have Hi32 := Lib.hid hi32
  have Hi8 := Lib.hid hi8
  have Hln := Lib.hid hln
  clear hi32 hi8 hln
  have hzl := zeros_lt n
  go_enter Try.func79, Try.ntmps79
  go_wp2_with fail
  refine absC (fun w1 => Blk w1 w.heap.size 29 (bvs (List.replicate 32 0)) ∧ Below w.heap.size w w1) ⟨Blk.newAt rfl _ _, (Below.refl _ w).alloc (Nat.le_refl _) _⟩ ?_
  rintro w1 ⟨kz, f1⟩
  refine (refBegin_any w1).mono ?_
  rintro e w2 ⟨rfl, g2⟩
  have lz := kz.lt
  replace kz := kz.below g2 lz
  replace f1 := f1.trans (g2.mono f1.size)
  clear g2
  have hl2 := ((hl.below f1).below ((Below.refl _ w2).alloc f1.size (.cells #[] 5)))
  have hs2 := f1.size
  have lz2 := kz.lt
  have kz2 := kz
  have f12 := f1
  go_wp2_with (at_builtin; go_must (refine appendR T23 rfl rfl rfl (OwnB.of_blk (l := []) (Blk.of_new w2 _ _) (Nat.le_refl _) rfl (by simp [maxLen])) rfl hl2 (by omega) ((Below.refl _ w2).alloc (Nat.le_refl _) _) (Nat.le_refl _) ?_); intro A3 c3 w3 o3 f3 _)
  rw [Nat.zero_add, List.nil_append] at o3
  replace kz := kz.below f3 lz2
  have f13 := f1.trans (f3.mono hs2)
  have hs3 := f3.size
  have lz3 := kz.lt
  clear f1 hl2
  refine (refEnd_any n (by omega) w3).mono ?_
  rintro e w4 ⟨g4, rfl, o4, f4⟩
  have o3' := o3.below (Nat.le_refl _) f4
  replace kz := kz.below f4 lz3
  have f14 := f13.trans (f4.mono f13.size)
  have hs4 := f4.size
  have lz4 := kz.lt
  have F4 : Below w2.heap.size w2 w4 := f3.trans (f4.mono hs3)
  clear f13 f4 f3 o3
  go_wp2_with (at_builtin; go_must (refine appendR T23 rfl rfl rfl o3' rfl o4.rd (by omega) F4 (Nat.le_refl _) ?_); intro A5 c5 w5 o5 f5 _)
  have kz5 := kz2.below f5 lz2
  have f15 := f12.trans (f5.mono hs2)
  have hs5 := f15.size
  have lz5 := kz5.lt
  clear kz kz2 f12 f14 o3' o4 f5 F4
  refine (refBlocks_any H0 A5 (n + (zeros n + 9)) c5 (l ++ endB n) w5 rfl o5.rd o5.cap (by omega)).mono ?_
  rintro e w6 ⟨A6, c6, rfl, r6, f6⟩
  replace kz5 := kz5.below f6 lz5
  have f16 := f15.trans (f6.mono hs5)
  have lz6 := kz5.lt
  have hbl := blkN_length H0 (l ++ endB n) ((n + (zeros n + 9)) / 64) rfl
  have hres : outN (blkN H0 (l ++ endB n) ((n + (zeros n + 9)) / 64)) 32 = shaB l := by
    have := refSha_eq l
    rw [Hln.out] at this
    exact this
  have HR := Lib.hid hres
  clear hres r6 f6 f15 o5
  generalize blkN H0 (l ++ endB n) ((n + (zeros n + 9)) / 64) = V at *
  have HV := Lib.hid hbl
  clear hbl
  have hsz : (Try.prog.info? 127).map (·.size) = some (uvs V).length := by rw [uvs_length, HV.out]; exact Hi8.out
  have Hsz := Lib.hid hsz
  have hsz2 : (uvs (List.replicate 8 0)).length = (uvs V).length := by rw [uvs_length, uvs_length, HV.out]; rfl
  have Hsz2 := Lib.hid hsz2
  clear hsz hsz2
  generalize n - 64 * ((n + (zeros n + 9)) / 64) = nn at *
  go_wp2_with (first | (refine store_blk (us := uvs V) (Blk.of_new w6 127 (uvs (List.replicate 8 0))) rfl 127 (.tmp 3) (.tmp 16) rfl rfl rfl Hsz.out Hsz2.out (uvs_all _) ?_; intro w7 k7 hg7) | (refine load_blk k7 rfl 127 (.tmp 3) rfl rfl Try.underlying127 Hsz.out ?_))
  have f7 : Below w6.heap.size w6 w7 := ((Below.refl _ w6).alloc (Nat.le_refl _) _).grown hg7 (by simp) (by simp)
  replace kz5 := kz5.below f7 lz6
  have f17 := f16.trans (f7.mono f16.size)
  have lz7 := kz5.lt
  clear f7 hg7 f16 k7
  refine (refOut_any V HV.out w7).mono ?_
  rintro e w8 ⟨rfl, f8⟩
  rw [HR.out]
  replace kz5 := kz5.below f8 lz7
  have f18 := f17.trans (f8.mono f17.size)
  have hS := shaB_length l
  have HS := Lib.hid hS
  clear hS f17 f8
  generalize hSe : shaB l = S at *
  have HSe := Lib.hid hSe
  clear hSe
  have hz : (Try.prog.info? 29).map (·.size) = some (bvs S).length := by rw [bvs_length, HS.out]; exact Hi32.out
  have Hz := Lib.hid hz
  have hz2 : (bvs (List.replicate 32 0)).length = (bvs S).length := by rw [bvs_length, bvs_length, HS.out]; rfl
  have Hz2 := Lib.hid hz2
  clear hz hz2
  go_wp2_with (first | (refine store_blk kz5 rfl 29 (.tmp 2) (.tmp 19) rfl rfl (us := bvs S) rfl Hz.out Hz2.out (bvs_all _) ?_; intro w9 k9 hg9))
  exact bodyPost_ret (k9.sized rfl _ rfl Try.underlying29 Hz.out) rfl ⟨by rw [HSe.out], f18.grown hg9 f18.size (by simp)⟩
end Go.Proofs.Ytgefbgjgcjiceaa
namespace Go.Proofs.Ytgefbgjgcjiceaa
open Go.RowKit
set_option linter.unusedVariables false
def xorM (x : UInt8) (l : List UInt8) : List UInt8 := l.map fun b => xor8 b x
theorem xorL_part (x : UInt8) (l : List UInt8) (k : Nat) (hk : k ≤ l.length) : xorL x l k = xorM x (l.take k) ++ l.drop k := by
  induction k with
  | zero => rw [xorL_zero]; rfl
  | succ k ih =>
    have h1 := ih (by omega)
    have hl : (xorM x (l.take k)).length = k := by simp [xorM]; omega
    rw [xorL_succ, h1]
    have ha : at8 (xorM x (l.take k) ++ l.drop k) k = at8 l k := by
      unfold at8
      rw [List.getD_eq_getElem?_getD, List.getElem?_append_right (by omega), hl, Nat.sub_self, List.getElem?_drop, List.getD_eq_getElem?_getD]
      rfl
    rw [ha, List.set_append_right _ _ (by omega), hl, Nat.sub_self, List.drop_eq_getElem_cons (by omega), List.set_cons_zero, List.take_succ_eq_append_getElem (by omega)]
    unfold xorM
    rw [List.map_append, List.append_assoc]
    congr 1
    simp [at8, List.getD, show k < l.length by omega]
theorem xorL_all (x : UInt8) (l : List UInt8) (k : Nat) (hk : l.length = k) : xorL x l k = xorM x l := by
  rw [xorL_part x l k (by omega), List.take_of_length_le (by omega), List.drop_of_length_le (by omega), List.append_nil]
theorem xorM_snoc (x : UInt8) (l : List UInt8) (k : Nat) (hk : k < l.length) : xorM x (l.take (k + 1)) = xorM x (l.take k) ++ [xor8 (at8 l k) x] := by
  unfold xorM
  rw [List.take_succ_eq_append_getElem hk, List.map_append]
  congr 1
  simp [at8, List.getD, hk]
theorem padB_of (l : List UInt8) (k : Nat) (hk : l.length + k = 64) : l ++ List.replicate k 0 = padB l := by
  unfold padB
  rw [List.drop_replicate, show 64 - l.length = k from by omega]
theorem macIn_of (key : List UInt8) : xorM 0x36 (padB (keyB key)) = macIn key := by
  unfold macIn
  rw [xorL_all _ _ _ (padB_length _ (keyB_length key))]
theorem macOut_of (key : List UInt8) : xorM 0x5c (padB (keyB key)) = macOut key := by
  unfold macOut
  rw [xorL_all _ _ _ (padB_length _ (keyB_length key))]
theorem keyB_big {l : List UInt8} (h : 64 < l.length) : keyB l = shaB l := by unfold keyB; rw [if_pos h]
theorem keyB_small {l : List UInt8} (h : ¬ 64 < l.length) : keyB l = l := by unfold keyB; rw [if_neg h]
theorem OwnB.addr2 {w : World} {base e : Nat} {A : Option Addr} {n c : Nat} {l : List UInt8} (h : OwnB w base e (.slice A n c) l) (hn : 0 < n) : ∃ g, A = some ⟨g, 0, none⟩ ∧ base ≤ g ∧ g < w.heap.size := by
  rcases h.2 with ⟨h1, h2⟩ | ⟨g, cap, cur, h1, h2, h3, _⟩
  · injection h1 with _ h3 _
    omega
  · injection h1 with h4 _ _
    exact ⟨g, h4, h2, (Array.getElem?_eq_some_iff.1 h3).1⟩
theorem Off.below2 {X : Nat → Prop} {a b : World} (h : Off X a b) {B : Nat} (hB : B ≤ a.heap.size) (hX : ∀ k, X k → B ≤ k) : Below B a b := h.below hB hX
set_option maxRecDepth 100000 in
set_option maxHeartbeats 4000000 in
theorem refMac_any (A : Option Addr) (n c : Nat) (key : List UInt8) (A2 : Option Addr) (m c2 : Nat) (l : List UInt8) (w : World) (hk : RdB w w.heap.size A n key) (hl : RdB w w.heap.size A2 m l) (hn : n ≤ 35184372088832) (hm : m ≤ 35184372088832) :
    Calls Try.prog 53 #[.slice A n c, .slice A2 m c2] w fun e w' => e = .returned (.agg (bvs (macB key l)).toArray) ∧ Below w.heap.size w w' := by
  have hln := hk.1
  have Hln := Lib.hid hln
  clear hln
  have hi32 : (Try.prog.info? 29).map (·.size) = some 32 := by kernel_rfl
  have Hi32 := Lib.hid hi32
  clear hi32
  go_enter Try.func53, Try.ntmps53
  go_upto_region 1 with fail
  refine abs (fun w1 => Blk w1 w.heap.size 29 (bvs (List.replicate 32 0)) ∧ Below w.heap.size w w1 ∧ w.heap.size + 1 ≤ w1.heap.size) ⟨Blk.newAt rfl _ _, (Below.refl _ w).alloc (Nat.le_refl _) _, by simp⟩ ?_
  rintro w1 ⟨kz, f1, hs1⟩
  have hk1 := (hk.below f1).below ((Below.refl _ w1).alloc f1.size (.cells #[] 5))
  have lz1 := kz.lt
  go_upto_if 16 with (at_builtin; go_must (refine appendR T23 rfl rfl rfl (OwnB.of_blk (l := []) (Blk.of_new w1 _ _) (Nat.le_refl _) rfl (by simp [maxLen])) rfl hk1 (by omega) ((Below.refl _ w1).alloc (Nat.le_refl _) _) (Nat.le_refl _) ?_); intro A3 c3 w3 o3 f3 _)
  rw [Nat.zero_add, List.nil_append] at o3
  replace kz := kz.below f3 lz1
  have F3 := f1.trans (f3.mono f1.size)
  have hs3 := f3.size
  clear hk1 f1 f3
  go_cut [5] (fun s5 wx => ∃ (A4 : Option Addr) (c4 : Nat), s5 = .slice A4 (keyB key).length c4 ∧ OwnB wx (w.heap.size + 1) 5 (.slice A4 (keyB key).length c4) (keyB key) ∧ Blk wx w.heap.size 29 (bvs (List.replicate 32 0)) ∧ Below w.heap.size w wx ∧ w.heap.size + 1 ≤ wx.heap.size)
  case first =>
    by_cases h64 : 64 < n
    · have d1 : decide ((64 : Int) < (n : Int)) = true := by simp; omega
      have hkb := Lib.hid (keyB_big (l := key) (by rw [Hln.out]; exact h64))
      have lz3 := kz.lt
      go_wp2_with fail
      refine (refOf_any A3 n c3 key w3 o3.rd (by omega)).mono ?_
      rintro e w4 ⟨rfl, f4⟩
      replace kz := kz.below f4 lz3
      have F4 := F3.trans (f4.mono F3.size)
      have hs4 := F4.size
      have hSl := shaB_length key
      have HSl := Lib.hid hSl
      clear hSl
      generalize hSe : shaB key = S at *
      have HSe := Lib.hid hSe
      clear hSe
      have hz : (Try.prog.info? 29).map (·.size) = some (bvs S).length := by rw [bvs_length, HSl.out]; exact Hi32.out
      have Hz := Lib.hid hz
      have hz2 : (bvs (List.replicate 32 0)).length = (bvs S).length := by rw [bvs_length, bvs_length, HSl.out]; rfl
      have Hz2 := Lib.hid hz2
      clear hz hz2 o3 F3
      have lz4 := kz.lt
      go_upto_region 4 with (first | (refine store_blk (us := bvs S) (Blk.of_new w4 29 (bvs (List.replicate 32 0))) rfl 29 (.tmp 6) (.tmp 18) rfl rfl rfl Hz.out Hz2.out (bvs_all _) ?_; intro w5 k5 hg5))
      have f5 : Below w4.heap.size w4 w5 := ((Below.refl _ w4).alloc (Nat.le_refl _) _).grown hg5 (by simp) (by simp)
      replace kz := kz.below f5 lz4
      have F5 := F4.trans (f5.mono F4.size)
      have rS : RdB w5 w5.heap.size (some ⟨w4.heap.size, 0, none⟩) 32 S := (OwnB.of_blk k5 (Nat.zero_le _) HSl.out (by simp [maxLen])).rd
      have rS2 := rS.below ((Below.refl _ w5).alloc (Nat.le_refl _) (.cells #[] 5))
      have lz5 := kz.lt
      clear hg5 f5 F4 k5 rS
      go_wp2_with (at_builtin; go_must (refine appendR T23 rfl rfl rfl (OwnB.of_blk (l := []) (Blk.of_new w5 _ _) (Nat.le_refl _) rfl (by simp [maxLen])) rfl rS2 (by omega) ((Below.refl _ w5).alloc (Nat.le_refl _) _) (Nat.le_refl _) ?_); intro A6 c6 w6 o6 f6 _)
      rw [Nat.zero_add, List.nil_append] at o6
      go_meet
      rw [hkb.out, HSl.out]
      have F6 := F5.trans (f6.mono F5.size)
      exact ⟨A6, c6, rfl, o6.base_le (by omega), kz.below f6 lz5, F6, by have := f6.size; omega⟩
    · have d1 : decide ((64 : Int) < (n : Int)) = false := by simp; omega
      have hkb := Lib.hid (keyB_small (l := key) (by rw [Hln.out]; exact h64))
      go_wp2_with fail
      go_meet
      rw [hkb.out, Hln.out]
      exact ⟨A3, c3, rfl, o3.base_le hs1, kz, F3, by omega⟩
  case rest =>
    obtain ⟨A4, c4, rfl, o4, kz, f4, hs4⟩ := hcut
    clear F3 o3
    have hkl := keyB_length key
    have hpad := fun k hk => padB_of (keyB key) k hk
    have hpl := padB_length (keyB key) hkl
    have hin := macIn_of key
    have hout := macOut_of key
    generalize keyB key = Kb at *
    have Hpad := Lib.hid hpad
    have Hpl := Lib.hid hpl
    have Hin := Lib.hid hin
    have Hout := Lib.hid hout
    clear hpad hpl hin hout
    go_wp2_with fail
    go_loopw [5] (fun s wr => ∃ (k : Nat) (A' : Option Addr) (c' : Nat), Kb.length + k ≤ 64 ∧ s = .slice A' (Kb.length + k) c' ∧ OwnB wr (w.heap.size + 1) 5 (.slice A' (Kb.length + k) c') (Kb ++ List.replicate k 0) ∧ Blk wr w.heap.size 29 (bvs (List.replicate 32 0)) ∧ Below w.heap.size w wr ∧ w.heap.size + 1 ≤ wr.heap.size) (fun s _ => 64 - lenOf s)
    case atStart => exact ⟨0, A4, c4, by omega, rfl, by simpa using o4, kz, f4, hs4⟩
    case round =>
      clear o4 kz f4 hs4
      obtain ⟨k, A', c', hk64, rfl, o4, kz, f4, hs4⟩ := hrel
      by_cases hlt : Kb.length + k < 64
      · have d1 : decide (((Kb.length + k : Nat) : Int) < 64) = true := by simp; omega
        have lz := kz.lt
        have hne := fun h => (o4.not_row kz (by decide) h)
        generalize hM : Kb.length + k = M at *
        have HM := Lib.hid hM
        clear hM
        go_wp2_with (at_builtin; go_must (refine append1 T23 (w0 := wr) rfl rfl 0 rfl rfl rfl o4 (by omega) (Below.refl _ _) hs4 ?_); intro g' c5 w5 o5 f5 hg5)
        go_roundw
        case rel => exact ⟨k + 1, _, c5, by have := HM.out; omega, by rw [← Nat.add_assoc, HM.out], by rw [← Nat.add_assoc, HM.out]; exact o5.of_eq (by rw [List.append_assoc, List.replicate_succ']), kz.below f5 (by omega), f4.trans (f5.mono (by omega)), by have := f5.size; omega⟩
        case measure => simp [lenOf]; omega
      · have hM : Kb.length + k = 64 := by omega
        have hP := Hpad.out k hM
        rw [hP] at o4
        rw [hM] at o4 ⊢
        have d1 : decide ((64 : Int) < 64) = false := rfl
        generalize padB Kb = P at *
        have HM := Lib.hid hM
        clear hM hP
        obtain ⟨gP, rfl, hgP, hzP⟩ := o4.addr2 (by omega)
        clear hzP
        go_wp2_with fail
        go_loopw [9, 7, 8] (fun i s7 s8 wr => ∃ (k : Nat) (A1 : Option Addr) (c1 : Nat) (A3 : Option Addr) (c3 : Nat), k ≤ 64 ∧ i = .int .i64 k ∧ s7 = .slice A1 k c1 ∧ s8 = .slice A3 k c3 ∧ OwnB wr (w.heap.size + 1) 5 (.slice A1 k c1) (xorM 54 (P.take k)) ∧ OwnB wr (w.heap.size + 1) 5 (.slice A3 k c3) (xorM 92 (P.take k)) ∧ (∀ j, isB A1 j → ¬ isB A3 j ∧ j ≠ gP) ∧ (∀ j, isB A3 j → j ≠ gP) ∧ OwnB wr (w.heap.size + 1) 5 (.slice (some ⟨gP, 0, none⟩) 64 c') P ∧ Blk wr w.heap.size 29 (bvs (List.replicate 32 0)) ∧ Below w.heap.size w wr ∧ w.heap.size + 1 ≤ wr.heap.size) (fun i _ _ _ => 64 - (intOf i).toNat)
        case atStart => exact ⟨0, none, 0, none, 0, by omega, rfl, rfl, rfl, OwnB.nil_ _ _ _, OwnB.nil_ _ _ _, (fun j hj => by obtain ⟨x, hx, _⟩ := hj; cases hx), (fun j hj => by obtain ⟨x, hx, _⟩ := hj; cases hx), o4, kz, f4, hs4⟩
        case round =>
          clear o4 kz f4 hs4
          obtain ⟨k, A1, c1, A3, c3, hk64, rfl, rfl, rfl, o1, o3, ap1, ap3, o4, kz, f4, hs4⟩ := hrel
          by_cases hlt : k < 64
          · have d1 : decide ((k : Int) < 64) = true := by simp; omega
            have b1 : (0 : Int) ≤ (k : Int) := by omega
            have hPl := Hpl.out
            have cP := o4.cell (j := k) (by omega)
            have eP : P[k] = at8 P k := by simp [at8, List.getD, show k < P.length by omega]
            rw [eP] at cP
            unfold bv at cP
            have x1 : bits BinOp.xor IntKind.u8 ((at8 P k).toNat : Int) 54 = ((xor8 (at8 P k) 54).toNat : Int) := u8_xor' (at8 P k) 54
            have x2 : bits BinOp.xor IntKind.u8 ((at8 P k).toNat : Int) 92 = ((xor8 (at8 P k) 92).toNat : Int) := u8_xor' (at8 P k) 92
            have s1 := Lib.hid (xorM_snoc 54 P k (by omega))
            have s2 := Lib.hid (xorM_snoc 92 P k (by omega))
            have lt1 : ∀ j, isB A1 j → j < wr.heap.size := fun j hj => (o1.isB_lt hj).2
            have lt3 : ∀ j, isB A3 j → j < wr.heap.size := fun j hj => (o3.isB_lt hj).2
            have gPlt : gP < wr.heap.size := (o4.isB_lt ⟨_, rfl, rfl⟩).2
            clear hPl eP
            go_upto_region 12 with (at_builtin; go_must (refine appendG T23 (l2 := [xor8 (at8 P k) 54]) (B := wr.heap.size + 1) rfl rfl rfl (o1.alloc _) rfl (RdB.mark wr 5 [xor8 (at8 P k) 54] (0, 0) wr.heap.size rfl _ (Nat.lt_succ_self _)) (by omega) (by simp; omega) ?_); intro A5 c5 w5 o5 f5 ho5)
            have oA : Off (isB A1) wr w5 := ((Off.refl _ wr).alloc _).trans f5 (fun _ _ h => h)
            have hsA := oA.size
            have ho5' : A5 = A1 ∨ ∃ y, A5 = some ⟨y, 0, none⟩ ∧ wr.heap.size ≤ y := by
              rcases ho5 with h | h
              · exact .inl h
              · exact .inr ⟨_, h, by simp⟩
            have o3' := o3.off oA (fun j hj h => (ap1 j h).1 hj)
            have o4' := o4.off oA (fun j hj h => (ap1 j h).2 (by obtain ⟨y, hy, rfl⟩ := hj; injection hy with hy; rw [← hy]))
            have kz' := kz.off oA (fun h => by have := (o1.isB_lt h).1; omega)
            have F5 := f4.trans (oA.below (B := w.heap.size) (by omega) (fun j hj => by have := (o1.isB_lt hj).1; omega))
            have ap5 : ∀ j, isB A5 j → ¬ isB A3 j ∧ j ≠ gP := fun j hj => by
              rcases ho5' with rfl | ⟨y, rfl, hy⟩
              · exact ap1 j hj
              · obtain ⟨z, hz, rfl⟩ := hj
                injection hz with hz
                subst hz
                exact ⟨fun h => by have := lt3 _ h; simp only at this; omega, by simp only; omega⟩
            have gPlt5 : gP < w5.heap.size := by omega
            have lt5 : ∀ j, isB A5 j → j < w5.heap.size := fun j hj => (o5.isB_lt hj).2
            have cP5 := o4'.cell (j := k) (by have := Hpl.out; omega)
            have eP : P[k]'(by have := Hpl.out; omega) = at8 P k := by simp [at8, List.getD, show k < P.length by have := Hpl.out; omega]
            rw [eP] at cP5
            unfold bv at cP5
            clear eP oA f5 ho5 ho5' o1 o3 o4 kz f4 ap1 cP lt1 gPlt
            go_wp2_with (at_builtin; go_must (refine appendG T23 (l2 := [xor8 (at8 P k) 92]) (B := w5.heap.size + 1) rfl rfl rfl (o3'.alloc _) rfl (RdB.mark w5 5 [xor8 (at8 P k) 92] (0, 0) w5.heap.size rfl _ (Nat.lt_succ_self _)) (by omega) (by simp; omega) ?_); intro A6 c6 w6 o6 f6 ho6)
            have oB : Off (isB A3) w5 w6 := ((Off.refl _ w5).alloc _).trans f6 (fun _ _ h => h)
            have hsB := oB.size
            have ho6' : A6 = A3 ∨ ∃ y, A6 = some ⟨y, 0, none⟩ ∧ w5.heap.size ≤ y := by
              rcases ho6 with h | h
              · exact .inl h
              · exact .inr ⟨_, h, by simp⟩
            have o5' := o5.off oB (fun j hj h => (ap5 j hj).1 h)
            have o4'' := o4'.off oB (fun j hj h => ap3 j h (by obtain ⟨y, hy, rfl⟩ := hj; injection hy with hy; rw [← hy]))
            have kz'' := kz'.off oB (fun h => by have := (o3'.isB_lt h).1; omega)
            have F6 := F5.trans (oB.below (B := w.heap.size) (by omega) (fun j hj => by have := (o3'.isB_lt hj).1; omega))
            have ap6 : ∀ j, isB A5 j → ¬ isB A6 j ∧ j ≠ gP := fun j hj => by
              refine ⟨fun h => ?_, (ap5 j hj).2⟩
              rcases ho6' with rfl | ⟨y, rfl, hy⟩
              · exact (ap5 j hj).1 h
              · obtain ⟨z, hz, rfl⟩ := h
                injection hz with hz
                subst hz
                have := lt5 _ hj
                simp only at this
                omega
            have ap7 : ∀ j, isB A6 j → j ≠ gP := fun j hj => by
              rcases ho6' with rfl | ⟨y, rfl, hy⟩
              · exact ap3 j hj
              · obtain ⟨z, hz, rfl⟩ := hj
                injection hz with hz
                subst hz
                simp only
                omega
            clear oB f6 ho6 ho6' o5 o3' o4' kz' F5 ap5 ap3 cP5 lt3 lt5
            go_roundw
            case rel => exact ⟨k + 1, A5, c5, A6, c6, by omega, by go_num, rfl, rfl, by rw [s1.out]; exact o5', by rw [s2.out]; exact o6, ap6, ap7, o4'', kz'', F6, by omega⟩
            case measure => simp [intOf]; omega
          · obtain rfl : k = 64 := by omega
            have d1 : decide (((64 : Nat) : Int) < 64) = false := rfl
            rw [List.take_of_length_le (by have := Hpl.out; omega), Hin.out] at o1
            rw [List.take_of_length_le (by have := Hpl.out; omega), Hout.out] at o3
            have lt3 : ∀ j, isB A3 j → j < wr.heap.size := fun j hj => (o3.isB_lt hj).2
            have hl1 := hl.below f4
            have hlm := hl.1
            clear o4 ap3
            go_upto_region 14 with (first | (at_builtin; go_must (refine appendG T23 rfl rfl rfl o1 rfl hl1 (by omega) hs4 ?_); intro A5 c5 w5 o5 f5 ho5))
            have o3' := o3.off f5 (fun j hj h => (ap1 j h).1 hj)
            have kz' := kz.off f5 (fun h => by have := (o1.isB_lt h).1; omega)
            have F5 := f4.trans (f5.below (B := w.heap.size) (by omega) (fun j hj => by have := (o1.isB_lt hj).1; omega))
            have hs5 := f5.size
            clear o1 o3 kz f4 f5 ho5 ap1 lt3 hl1
            refine (refOf_any A5 (64 + m) c5 (macIn key ++ l) w5 o5.rd (by omega)).mono ?_
            rintro e w6 ⟨rfl, f6⟩
            have lz5 := kz'.lt
            replace kz' := kz'.below f6 lz5
            replace o3' := o3'.below (Nat.le_refl _) f6
            have F6 := F5.trans (f6.mono (by omega))
            have hs6 := f6.size
            have hSl := shaB_length (macIn key ++ l)
            have HSl := Lib.hid hSl
            clear hSl o5 F5 f6
            generalize hSe : shaB (macIn key ++ l) = S at *
            have HSe := Lib.hid hSe
            clear hSe
            have hz : (Try.prog.info? 29).map (·.size) = some (bvs S).length := by rw [bvs_length, HSl.out]; exact Hi32.out
            have Hz := Lib.hid hz
            have hz2 : (bvs (List.replicate 32 0)).length = (bvs S).length := by rw [bvs_length, bvs_length, HSl.out]; rfl
            have Hz2 := Lib.hid hz2
            clear hz hz2
            have lz6 := kz'.lt
            go_upto_region 14 with (first | (refine store_blk (us := bvs S) (Blk.of_new w6 29 (bvs (List.replicate 32 0))) rfl 29 (.tmp 10) (.tmp 51) rfl rfl rfl Hz.out Hz2.out (bvs_all _) ?_; intro w7 k7 hg7))
            have f7 : Below w6.heap.size w6 w7 := ((Below.refl _ w6).alloc (Nat.le_refl _) _).grown hg7 (by simp) (by simp)
            replace kz' := kz'.below f7 lz6
            replace o3' := o3'.below (Nat.le_refl _) f7
            have F7 := F6.trans (f7.mono F6.size)
            have hs7 := f7.size
            have rS : RdB w7 w7.heap.size (some ⟨w6.heap.size, 0, none⟩) 32 S := (OwnB.of_blk k7 (Nat.zero_le _) HSl.out (by simp [maxLen])).rd
            have lz7 := kz'.lt
            clear hg7 f7 F6 k7
            go_wp2_with (first | (at_builtin; go_must (refine appendG T23 rfl rfl rfl o3' rfl rS (by omega) (by omega) ?_); intro A8 c8 w8 o8 f8 ho8))
            have kz8 := kz'.off f8 (fun h => by have := (o3'.isB_lt h).1; omega)
            have F8 := F7.trans (f8.below (B := w.heap.size) (by omega) (fun j hj => by have := (o3'.isB_lt hj).1; omega))
            have hs8 := f8.size
            have lz8 := kz8.lt
            clear kz' F7 f8 ho8 o3' rS
            refine (refOf_any A8 (64 + 32) c8 (macOut key ++ S) w8 o8.rd (by omega)).mono ?_
            rintro e w9 ⟨rfl, f9⟩
            replace kz8 := kz8.below f9 lz8
            have F9 := F8.trans (f9.mono F8.size)
            have hmac : shaB (macOut key ++ S) = macB key l := by rw [← HSe.out]; unfold macB; rfl
            rw [hmac]
            have hml := macB_length key l
            have HML := Lib.hid hml
            clear hml hmac o8 f9 F8
            generalize hRe : macB key l = R at *
            have HRe := Lib.hid hRe
            clear hRe
            have hz : (Try.prog.info? 29).map (·.size) = some (bvs R).length := by rw [bvs_length, HML.out]; exact Hi32.out
            have HzR := Lib.hid hz
            have hz2 : (bvs (List.replicate 32 0)).length = (bvs R).length := by rw [bvs_length, bvs_length, HML.out]; rfl
            have HzR2 := Lib.hid hz2
            clear hz hz2
            go_wp2_with (first | (refine store_blk kz8 rfl 29 (.tmp 4) (.tmp 55) rfl rfl (us := bvs R) rfl HzR.out HzR2.out (bvs_all _) ?_; intro w10 k10 hg10))
            exact bodyPost_ret (k10.sized rfl _ rfl Try.underlying29 HzR.out) rfl ⟨by rw [HRe.out], F9.grown hg10 F9.size (by simp)⟩
end Go.Proofs.Ytgefbgjgcjiceaa
