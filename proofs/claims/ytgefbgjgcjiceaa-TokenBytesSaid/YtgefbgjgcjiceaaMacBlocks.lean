/- mac.blocks: the inner and the outer block of a key. Condition: the key is at most 2^46 bytes. -/
import Derived.Test.YtgefbgjgcjiceaaShaOf
import Derived.Laws.CopyOwn
namespace Go.Proofs.Ytgefbgjgcjiceaa
open Go.RowKit
theorem run_make_bytes {P : Program} {t e : TypeId} (T : ByteTy P t e) (n : Nat) (hn : n ≤ 140737488355328) (w : World) :
    (Instr.makeSlice t (.int .i64 (n : Int)) (.int .i64 (n : Int))).run P w = .ok (.slice (some ⟨w.heap.size, 0, none⟩) n n) (w.alloc (.cells (bvs (List.replicate n 0)).toArray e)) := by
  obtain ⟨i, hi, hz0, hz1, hz2⟩ := info_parts T.info
  have h := run_make (P := P) w t e i (.int .u8 0) T.sl hi hz0 .i64 .i64 n n (by omega) (by omega) (by rw [hz2]; omega) (by omega)
  simp only [Int.toNat_natCast, hz1, Nat.mul_one] at h
  rw [h]
  congr 3
  simp only [madeCells, bvs, List.map_replicate]
  apply Array.ext
  · simp [Value.cells]
  · intro j h1 h2
    simp [Value.cells, bv, Nat.mod_one]
/-- 'copy(d, s)', d a block's whole row, s no longer than it. -/
theorem copyB {P : Program} {t e : TypeId} (T : ByteTy P t e) {ops : Array Oper} {rest : List Oper} {o : Oper} {a : Act} {Q : Exit → Act → World → Prop} {w0 w : World}
    (hgd : o.guard = none) {d s : Operand} (ho : o.op = .call { callee := .builtin .copy, args := #[d, s], argTypes := #[t, t] })
    {g m c0 : Nat} (hd : a.eval d = .slice (some ⟨g, 0, none⟩) m c0) {te : Nat} {cur : List UInt8} (hg : Blk w g te (bvs cur)) (hm : cur.length = m)
    {B : Nat} {A : Option Addr} {n c : Nat} {l : List UInt8} (hs : a.eval s = .slice A n c) (hr : RdB w B A n l) (hn : n ≤ m) {B0 : Nat} (hB : Below B0 w0 w) (hBg : B0 ≤ g)
    (h : ∀ w', Blk w' g te (bvs (l ++ cur.drop n)) → Below B0 w0 w' → wpList P ops Q rest (a.put o.dst (.int .i64 (n : Int))) w') : wpList P ops Q (o :: rest) a w := by
  obtain ⟨i, hi, hz0, hz1, hz2⟩ := info_parts T.info
  have hl := hr.1
  have hmin : (bvs l).length = Nat.min n m := by rw [bvs_length, hl]; exact (Nat.min_eq_left hn).symm
  refine wpList_copy_splice hgd d s t t ho e T.sl (by rw [hi]; simp [hz1]) _ A m c0 n c hd hs g 0 (bvs cur) te hg (bvs l) hmin (fun hp => ⟨rfl, ?_⟩) (by rw [bvs_length, bvs_length]; omega) (bvs_one l) B0 w0 hB hBg ?_
  · rw [bvs_length] at hp
    obtain ⟨b, off, rfl, _, hc⟩ := hr.2 (by omega)
    refine ⟨_, rfl, fun j v hv => ?_⟩
    obtain ⟨hj, hv⟩ := List.getElem?_eq_some_iff.1 hv
    rw [bvs_length] at hj
    rw [show (⟨b, off, none⟩ : Addr).add j = ⟨b, off + j, none⟩ from by unfold Addr.add; split <;> simp_all, hc j hj, ← hv]
    simp [bvs]
  · intro w' hh hB'
    rw [bvs_length, hl]
    refine h w' ?_ hB'
    have := hh.out
    unfold splice at this
    unfold Blk
    rw [this]
    congr 2
    simp [bvs, hl]
def xorL (x : UInt8) (l : List UInt8) (k : Nat) : List UInt8 := (List.range k).foldl (fun l i => l.set i (xor8 (at8 l i) x)) l
theorem xorL_succ (x : UInt8) (l : List UInt8) (k : Nat) : xorL x l (k + 1) = (xorL x l k).set k (xor8 (at8 (xorL x l k) k) x) := by
  unfold xorL
  rw [List.range_succ, List.foldl_append]
  rfl
theorem xorL_zero (x : UInt8) (l : List UInt8) : xorL x l 0 = l := by simp [xorL]
theorem xorL_length (x : UInt8) (l : List UInt8) (k : Nat) : (xorL x l k).length = l.length := by
  induction k with
  | zero => rw [xorL_zero]
  | succ k ih => rw [xorL_succ, List.length_set, ih]
/-- A key of a block. -/
def padB (l : List UInt8) : List UInt8 := l ++ (List.replicate 64 0).drop l.length
theorem padB_length (l : List UInt8) (h : l.length ≤ 64) : (padB l).length = 64 := by simp [padB]; omega
set_option maxRecDepth 100000 in
set_option maxHeartbeats 1000000 in
theorem turned_any (x : UInt8) (kb : Nat) (A : Option Addr) (n c : Nat) (l : List UInt8) (w : World) (hk : w.cell? ⟨kb, 0, none⟩ = some (.slice A n c)) (hl : RdB w w.heap.size A n l) (hn : n ≤ 64) :
    Calls Try.prog 82 #[.int .u8 x.toNat, .pointer (some ⟨kb, 0, none⟩)] w fun e w' => ∃ g, e = .returned (.slice (some ⟨g, 0, none⟩) 64 64) ∧ OwnB w' w.heap.size 5 (.slice (some ⟨g, 0, none⟩) 64 64) (xorL x (padB l) 64) ∧ Below w.heap.size w w' := by
  have hmk := run_make_bytes T23 64 (by omega)
  rw [show ((64 : Nat) : Int) = 64 from rfl] at hmk
  have klt := World.block_lt_of_cell? w _ hk
  have hne : kb ≠ w.heap.size := by simp at klt; omega
  have hln := hl.1
  have hk2 : ∀ o, (w.alloc o).cell? ⟨kb, 0, none⟩ = some (.slice A n c) := fun o => by rw [World.cell?_alloc_lt w o _ klt]; exact hk
  have Hln := Lib.hid hln; clear hln
  go_enter Try.func82, Try.ntmps82
  go_wp2_with (refine copyB T23 rfl (d := .tmp 7) (s := .tmp 8) rfl rfl (Blk.of_new w _ _) rfl rfl (hl.keep (fun p hp => World.cell?_alloc_lt w _ p hp)) hn ((Below.refl _ w).alloc (Nat.le_refl _) _) (Nat.le_refl _) ?_; intro w1 k1 f1)
  replace k1 : Blk w1 w.heap.size 5 (bvs (xorL x (padB l) 0)) := by
    rw [xorL_zero]; unfold padB; rw [Hln.out]; exact k1
  have hp := padB_length l (by rw [Hln.out]; exact hn)
  generalize hpe : padB l = p at *
  have Hpe := Lib.hid hpe; clear hpe
  have Hp := Lib.hid hp; clear hp
  try go_frame
  go_loopw [12, 5] (fun i _ wr => ∃ k : Nat, k ≤ 64 ∧ i = .int .i64 k ∧ Blk wr w.heap.size 5 (bvs (xorL x p k)) ∧ Below w.heap.size w wr) (fun i _ _ => 64 - (intOf i).toNat)
  case atStart => exact ⟨0, by omega, rfl, k1, f1⟩
  case round =>
    clear k1 f1
    obtain ⟨k, hk, rfl, k1, f1⟩ := hrel
    by_cases hlt : k < 64
    · have d1 : decide ((k : Int) < 64) = true := by simp; omega
      have c1 := k1.byteAt (i := k) (by rw [xorL_length, Hp.out]; exact hlt)
      have z1 := k1.frozen k
      go_wp2_with fail
      go_roundw
      case rel => exact ⟨k + 1, by omega, by go_num, by rw [xorL_succ]; exact k1.setByte k _, f1.setCell (Nat.le_refl _) _⟩
      case measure => simp [intOf]; omega
    · obtain rfl : k = 64 := by omega
      have d1 : decide (((64 : Nat) : Int) < 64) = false := rfl
      go_wp2_with fail
      go_ret
      rw [Hpe.out]
      exact ⟨_, rfl, OwnB.of_blk k1 (Nat.le_refl _) (by rw [xorL_length, Hp.out]) (by simp [maxLen]), f1⟩

/-- A key, or its sum. -/
def keyB (l : List UInt8) : List UInt8 := if 64 < l.length then shaB l else l
theorem keyB_length (l : List UInt8) : (keyB l).length ≤ 64 := by
  unfold keyB
  split
  · rw [shaB_length]; omega
  · omega
def macIn (l : List UInt8) : List UInt8 := xorL 0x36 (padB (keyB l)) 64
def macOut (l : List UInt8) : List UInt8 := xorL 0x5c (padB (keyB l)) 64
theorem macIn_length (l : List UInt8) : (macIn l).length = 64 := by unfold macIn; rw [xorL_length, padB_length _ (keyB_length l)]
theorem macOut_length (l : List UInt8) : (macOut l).length = 64 := by unfold macOut; rw [xorL_length, padB_length _ (keyB_length l)]
theorem RdL.of_blk {w : World} {g t : Nat} {ps : List Part} (h : Blk w g t (ps.map Part.v)) (hp : ∀ p ∈ ps, RdB w w.heap.size p.A p.n p.l) : RdL w w.heap.size (some ⟨g, 0, none⟩) ps.length ps :=
  ⟨rfl, fun _ => ⟨g, 0, rfl, h.lt, fun j hj => by rw [Nat.zero_add, h.cell]; simp [hj]⟩, hp⟩
/-- The rest of mac.blocks, the key in its box. -/
def BlocksPost (w : World) (l : List UInt8) (e : Ending) (w' : World) : Prop :=
  ∃ g1 g2, e = .returned (.tuple #[.slice (some ⟨g1, 0, none⟩) 64 64, .slice (some ⟨g2, 0, none⟩) 64 64]) ∧ OwnB w' w.heap.size 5 (.slice (some ⟨g1, 0, none⟩) 64 64) (macIn l) ∧ OwnB w' w.heap.size 5 (.slice (some ⟨g2, 0, none⟩) 64 64) (macOut l) ∧ Below w.heap.size w w'
set_option maxRecDepth 100000 in
set_option maxHeartbeats 1000000 in
theorem blocks_any (A : Option Addr) (n c : Nat) (l : List UInt8) (w : World) (hl : RdB w w.heap.size A n l) (hn : n ≤ 70368744177664) :
    Calls Try.prog 77 #[.slice A n c] w (BlocksPost w l) := by
  have hs2 : (Try.prog.info? 29).map (·.size) = some 32 := by kernel_rfl
  have Hs2 := Lib.hid hs2; clear hs2
  have hln := hl.1
  have Hln := Lib.hid hln; clear hln
  by_cases h64 : 64 < n
  · have d1 : decide (64 < (n : Int)) = true := by simp; omega
    go_enter Try.func77, Try.ntmps77
    go_wp2_with fail
    refine absC (fun w1 => Blk w1 w.heap.size 22 [.slice A n c] ∧ Blk w1 (w.heap.size + 1) 22 ([⟨A, n, c, l⟩].map Part.v) ∧ Below w.heap.size w w1) ⟨(Blk.newAt rfl _ _).alloc _, Blk.newAt (by simp) _ _, ((Below.refl _ w).alloc (Nat.le_refl _) _).alloc (by simp) _⟩ ?_
    rintro w1 ⟨kb, k1, f1⟩
    have hcat : catB [(⟨A, n, c, l⟩ : Part)] = l := by simp [catB]
    refine (of_any (some ⟨w.heap.size + 1, 0, none⟩) 1 1 [⟨A, n, c, l⟩] w1 (RdL.of_blk k1 (fun p hp => by obtain rfl := List.mem_singleton.1 hp; exact (hl.below f1).more f1.size)) (by rw [hcat, Hln.out]; exact hn) (by omega)).mono ?_
    rintro e w2 ⟨rfl, g2⟩
    rw [hcat]
    clear hcat
    replace kb := kb.below g2 kb.lt
    replace f1 := f1.trans (g2.mono f1.size)
    clear g2 k1 w1
    have hz : (Try.prog.info? 29).map (·.size) = some (bvs (shaB l)).length := by rw [bvs_length, shaB_length]; exact Hs2.out
    have Hz := Lib.hid hz; clear hz
    have hz2 : (bvs (List.replicate 32 0)).length = (bvs (shaB l)).length := by rw [bvs_length, bvs_length, shaB_length]; rfl
    have Hz2 := Lib.hid hz2; clear hz2
    go_wp2_with (first | (refine store_blk (Blk.newAt (cs := (bvs (List.replicate 32 0)).toArray) rfl 29) rfl 29 (.tmp 4) (.tmp 11) rfl rfl (us := bvs (shaB l)) rfl Hz.out Hz2.out (bvs_all _) ?_; intro w3 k3 hg; have kb3 := (kb.alloc _).grown hg (by have := kb.lt; simp; omega); have cb3 : w3.cell? ⟨w.heap.size, 0, none⟩ = some (.slice A n c) := (by rw [kb3.cell]; rfl); have zb3 := kb3.frozen 0))
    clear cb3 zb3
    have hkey : keyB l = shaB l := by unfold keyB; rw [if_pos (by rw [Hln.out]; exact h64)]
    refine absC (fun w1 => w1.cell? ⟨w.heap.size, 0, none⟩ = some (.slice (some ⟨w2.heap.size, 0, none⟩) 32 32) ∧ RdB w1 w1.heap.size (some ⟨w2.heap.size, 0, none⟩) 32 (keyB l) ∧ Below w.heap.size w w1) ⟨by rw [(kb3.set 0 _).cell]; rfl, by rw [hkey]; exact (OwnB.of_blk (k3.far (by have := kb.lt; simp; omega) _) (Nat.zero_le _) (shaB_length l) (by simp [maxLen])).rd, (f1.trans (((Below.refl _ w2).alloc (Nat.le_refl _) _).grown hg (by simp) (by simp) |>.mono f1.size)).setCell (Nat.le_refl _) _⟩ ?_
    rintro w1 ⟨c1', r1, f1⟩
    refine (turned_any 54 w.heap.size (some ⟨w2.heap.size, 0, none⟩) 32 32 (keyB l) w1 c1' r1 (by omega)).mono ?_
    rintro e w4 ⟨g1, rfl, o1, g2⟩
    have l1 := World.block_lt_of_cell? w1 _ c1'
    replace c1' := (g2.cell (p := ⟨w.heap.size, 0, none⟩) l1).trans c1'
    replace r1 := (r1.below g2).more g2.size
    have hs1 := f1.size
    replace f1 := f1.trans (g2.mono f1.size)
    replace o1 := o1.base_le hs1
    clear g2 l1 hs1
    go_wp2_with fail
    refine (turned_any 92 w.heap.size (some ⟨w2.heap.size, 0, none⟩) 32 32 (keyB l) w4 c1' r1 (by omega)).mono ?_
    rintro e w5 ⟨g3, rfl, o3, g4⟩
    replace o1 := o1.below (Nat.le_refl _) g4
    have hs1 := f1.size
    replace f1 := f1.trans (g4.mono f1.size)
    replace o3 := o3.base_le hs1
    clear g4 hs1 c1' r1
    go_wp2_with fail
    go_ret2
    exact ⟨g1, g3, rfl, o1, o3, f1⟩
  · have d1 : decide (64 < (n : Int)) = false := by simp; omega
    have hkey : keyB l = l := by unfold keyB; rw [if_neg (by rw [Hln.out]; exact h64)]
    have HN : n ≤ 64 := by omega
    go_enter Try.func77, Try.ntmps77
    go_wp2_with fail
    refine absC (fun w1 => w1.cell? ⟨w.heap.size, 0, none⟩ = some (.slice A n c) ∧ RdB w1 w1.heap.size A n (keyB l) ∧ Below w.heap.size w w1) ⟨by rw [(Blk.newAt rfl _ _).cell]; rfl, by rw [hkey]; exact (hl.alloc (Nat.le_refl _) _).more (by simp), (Below.refl _ w).alloc (Nat.le_refl _) _⟩ ?_
    rintro w1 ⟨c1', r1, f1⟩
    refine (turned_any 54 w.heap.size A n c (keyB l) w1 c1' r1 HN).mono ?_
    rintro e w2 ⟨g1, rfl, o1, g2⟩
    have l1 := World.block_lt_of_cell? w1 _ c1'
    replace c1' := (g2.cell (p := ⟨w.heap.size, 0, none⟩) l1).trans c1'
    replace r1 := (r1.below g2).more g2.size
    have hs1 := f1.size
    replace f1 := f1.trans (g2.mono f1.size)
    replace o1 := o1.base_le hs1
    clear g2 l1 hs1
    go_wp2_with fail
    refine (turned_any 92 w.heap.size A n c (keyB l) w2 c1' r1 HN).mono ?_
    rintro e w3 ⟨g3, rfl, o3, g4⟩
    replace o1 := o1.below (Nat.le_refl _) g4
    have hs1 := f1.size
    replace f1 := f1.trans (g4.mono f1.size)
    replace o3 := o3.base_le hs1
    clear g4 hs1 c1' r1
    go_wp2_with fail
    go_ret2
    exact ⟨g1, g3, rfl, o1, o3, f1⟩
attribute [irreducible] xorL padB keyB macIn macOut
end Go.Proofs.Ytgefbgjgcjiceaa
