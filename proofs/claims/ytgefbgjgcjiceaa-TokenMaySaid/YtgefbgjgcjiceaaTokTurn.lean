/- token.turned at its two closures, token.Rotate, token.Retire: what they return. Condition: the root of 2^47 bytes at most; numbers of 64 bits. -/
import Derived.Test.YtgefbgjgcjiceaaTokIssue
import Derived.Test.YtgefbgjgcjiceaaShaNew
import Derived.Test.YtgefbgjgcjiceaaRefOf
namespace Go.Proofs.Ytgefbgjgcjiceaa
open Go.RowKit
set_option linter.unusedVariables false
set_option linter.unusedSimpArgs false
def rgC (A : Option Addr) (n c o m : Nat) : List Value := [.slice A n c, .int .u64 (o : Int), .int .u64 (m : Int)]
theorem rgC_v (A : Option Addr) (n c o m : Nat) : Value.agg (rgC A n c o m).toArray = rgV A n c o m := rfl
theorem rgC_info (A : Option Addr) (n c o m : Nat) : (Try.prog.info? 25).map (·.size) = some (rgC A n c o m).length := by kernel_rfl
theorem rgC_all (A : Option Addr) (n c o m : Nat) : (rgC A n c o m).all (·.oneCell') = true := rfl

set_option maxRecDepth 100000 in
set_option maxHeartbeats 1000000 in
theorem newest1_any (g : Nat) (A : Option Addr) (n c o m : Nat) (w : World) (base : Nat) (k : Blk w g 25 (rgC A n c o m)) (hb : base ≤ g) (h1 : m < 9223372036854775807) :
    Calls Try.prog 35 #[.pointer (some ⟨g, 0, none⟩)] w fun e w' => e = .returned (.tuple #[]) ∧ Blk w' g 25 (rgC A n c o (m + 1)) ∧ w.grownBy w' (some g) := by
  have q : w.cell? ⟨g, 2, none⟩ = some (.int .u64 (m : Int)) := k.cell 2
  have z := k.frozen 2
  have hw : IntKind.u64.wrap ((m : Int) + 1) = ((m + 1 : Nat) : Int) := by rw [IntWalk.u64_in _ (by omega)]; push_cast; rfl
  have kk : Blk (w.setCell ⟨g, 2, none⟩ (.int .u64 ((m + 1 : Nat) : Int))) g 25 (rgC A n c o (m + 1)) := k.set 2 _
  have gg : w.grownBy (w.setCell ⟨g, 2, none⟩ (.int .u64 ((m + 1 : Nat) : Int))) (some g) := grownBy_setCells g [.int .u64 ((m + 1 : Nat) : Int)] 2 w
  clear k
  go_enter Try.func35, Try.ntmps35
  go_wp2_with fail
  first | go_end0 | skip
  exact ⟨rfl, kk, gg⟩
set_option maxRecDepth 100000 in
set_option maxHeartbeats 2000000 in
theorem newestT_any (A : Option Addr) (n c o m : Nat) (root : List UInt8) (room : Bool) (w : World) (hr : RdB w w.heap.size A n root) (hn : n ≤ 1099511627776) (er : Nat) (her : er = if rgOk n o m then (if room then 0 else 3) else 1) :
    Calls Try.prog 34 #[rgV A n c o m, .bool room, .func (.func 35) #[] #[]] w fun e w' => ∃ A' n' c' o' m' root', e = .returned (.tuple #[rgV A' n' c' o' m', .int .i64 (er : Int)]) ∧
      (er ≠ 0 → A' = none ∧ n' = 0 ∧ c' = 0 ∧ o' = 0 ∧ m' = 0 ∧ root' = []) ∧ (er = 0 → n' = n ∧ o' = o ∧ m' = (m + 1) ∧ root' = root) ∧ OwnB w' w.heap.size 5 (.slice A' n' c') root' ∧ Below w.heap.size w w' := by
  have Hir := Lib.hid (rgC_info)
  have HE := Lib.hid her; clear her
  have hrv : rgV A n c o m = .agg (rgC A n c o m).toArray := rfl
  rw [hrv]
  go_enter Try.func34, Try.ntmps34
  go_upto_region 1 with fail
  refine abs (fun w1 => Blk w1 w.heap.size 25 (rgC A n c o m) ∧ Blk w1 (w.heap.size + 1) 25 (rgC none 0 0 0 0) ∧ Below w.heap.size w w1) ⟨(Blk.of_new w _ _).alloc _, Blk.newAt (by simp) _ _, ((Below.refl _ w).alloc (Nat.le_refl _) _).alloc (by simp) _⟩ ?_
  rintro w1 ⟨kr, kz, f1⟩
  go_wp2_with (first | (refine load_blk kr rfl 25 (.tmp 3) rfl rfl Try.underlying25 (Hir.out _ _ _ _ _) ?_))
  refine (mayRing_any A n c o m w1).mono ?_
  rintro e w3 ⟨rfl, f3⟩
  replace kr := kr.below f3 kr.lt
  replace kz := kz.below f3 kz.lt
  replace f1 := f1.trans (f3.mono f1.size)
  clear f3 w1
  cases hrg : rgOk n o m
  · have er1 : er = 1 := by rw [HE.out, hrg]; rfl
    have ER := Lib.hid er1; clear er1
    go_wp2_with (first | (refine store_blk kz rfl 25 (.tmp 6) (.tmp 12) rfl rfl (us := rgC none 0 0 0 0) rfl (Hir.out _ _ _ _ _) rfl (rgC_all _ _ _ _ _) ?_; intro w9 k9 hg9))
    exact bodyPost_ret (k9.sized2 rfl _ rfl Try.underlying25 (Hir.out _ _ _ _ _)) rfl ⟨none, 0, 0, 0, 0, [], by rw [ER.out]; rfl, fun _ => ⟨rfl, rfl, rfl, rfl, rfl, rfl⟩, fun h => by have := ER.out; omega, OwnB.nil_ _ _ _, f1.grown hg9 f1.size (by simp)⟩
  cases room
  · have er1 : er = 3 := by rw [HE.out, hrg]; rfl
    have ER := Lib.hid er1; clear er1
    go_wp2_with (first | (refine store_blk kz rfl 25 (.tmp 6) (.tmp 16) rfl rfl (us := rgC none 0 0 0 0) rfl (Hir.out _ _ _ _ _) rfl (rgC_all _ _ _ _ _) ?_; intro w9 k9 hg9))
    exact bodyPost_ret (k9.sized2 rfl _ rfl Try.underlying25 (Hir.out _ _ _ _ _)) rfl ⟨none, 0, 0, 0, 0, [], by rw [ER.out]; rfl, fun _ => ⟨rfl, rfl, rfl, rfl, rfl, rfl⟩, fun h => by have := ER.out; omega, OwnB.nil_ _ _ _, f1.grown hg9 f1.size (by simp)⟩
  have hm : m < 9223372036854775807 := by simp only [rgOk, Bool.and_eq_true, decide_eq_true_eq] at hrg; omega
  have er1 : er = 0 := by rw [HE.out, hrg]; rfl
  have ER := Lib.hid er1; clear er1
  have q0 : w3.cell? ⟨w.heap.size, 0, none⟩ = some (.slice A n c) := kr.cell 0
  go_wp2_with fail
  refine (clone_any A n c root w3 ((hr.below f1).more f1.size) (by omega)).mono ?_
  rintro e w4 ⟨A4, c4, rfl, ow, f3⟩
  have lr := kr.lt
  have lz := kz.lt
  have z4 := f3.size
  replace kr := kr.below f3 lr
  replace kz := kz.below f3 lz
  have hb1 := f1.size
  replace f1 := f1.trans (f3.mono hb1)
  clear f3 q0
  have z0 := kr.frozen 0
  have q0 : w4.cell? ⟨w.heap.size, 0, none⟩ = some (.slice A n c) := kr.cell 0
  have kr5 : Blk (w4.setCell ⟨w.heap.size, 0, none⟩ (.slice A4 n c4)) w.heap.size 25 (rgC A4 n c4 o m) := kr.set 0 _
  have g5 : w4.grownBy (w4.setCell ⟨w.heap.size, 0, none⟩ (.slice A4 n c4)) (some w.heap.size) := grownBy_setCells w.heap.size [.slice A4 n c4] 0 w4
  have ow5 : OwnB (w4.setCell ⟨w.heap.size, 0, none⟩ (.slice A4 n c4)) w.heap.size 5 (.slice A4 n c4) root := (ow.base_le hb1).grown g5 (Or.inr (Ne.symm (ow.not_row kr (by decide))))
  have kz5 := kz.grown g5 (by simp)
  have f5 := f1.grown g5 f1.size (by simp)
  go_upto_region 6 with fail
  refine abs (fun w1 => Blk w1 w.heap.size 25 (rgC A4 n c4 o m) ∧ Blk w1 (w.heap.size + 1) 25 (rgC none 0 0 0 0) ∧ OwnB w1 w.heap.size 5 (.slice A4 n c4) root ∧ Below w.heap.size w w1) ⟨kr5, kz5, ow5, f5⟩ ?_
  clear kr kz f1 z0 q0 kr5 g5 ow5 kz5 f5 ow
  rintro w1 ⟨kr, kz, ow, f1⟩
  go_wp2_with fail
  refine (newest1_any w.heap.size A4 n c4 o m w1 w.heap.size kr (Nat.le_refl _) hm).mono ?_
  rintro e w5 ⟨rfl, kr', gr⟩
  have kz' := kz.grown gr (by simp)
  have ow' := ow.grown gr (Or.inr (Ne.symm (ow.not_row kr (by decide))))
  have f' := f1.grown gr f1.size (by simp)
  go_wp2_with (first | (refine load_blk kr' rfl 25 (.tmp 3) rfl rfl Try.underlying25 (Hir.out _ _ _ _ _) ?_) | (refine store_blk kz' rfl 25 (.tmp 6) (.tmp 23) rfl rfl (us := rgC A4 n c4 o (m + 1)) rfl (Hir.out _ _ _ _ _) rfl (rgC_all _ _ _ _ _) ?_; intro w9 k9 hg9))
  exact bodyPost_ret (k9.sized2 rfl _ rfl Try.underlying25 (Hir.out _ _ _ _ _)) rfl ⟨A4, n, c4, o, (m + 1), root, by rw [ER.out]; rfl, fun h => absurd ER.out h, fun _ => ⟨rfl, rfl, rfl, rfl⟩, ow'.grown hg9 (Or.inr (Ne.symm (ow'.not_row kz' (by decide)))), f'.grown hg9 f'.size (by simp)⟩

set_option maxRecDepth 100000 in
set_option maxHeartbeats 1000000 in
theorem oldest1_any (g : Nat) (A : Option Addr) (n c o m : Nat) (w : World) (base : Nat) (k : Blk w g 25 (rgC A n c o m)) (hb : base ≤ g) (h1 : o < 9223372036854775807) :
    Calls Try.prog 36 #[.pointer (some ⟨g, 0, none⟩)] w fun e w' => e = .returned (.tuple #[]) ∧ Blk w' g 25 (rgC A n c (o + 1) m) ∧ w.grownBy w' (some g) := by
  have q : w.cell? ⟨g, 1, none⟩ = some (.int .u64 (o : Int)) := k.cell 1
  have z := k.frozen 1
  have hw : IntKind.u64.wrap ((o : Int) + 1) = ((o + 1 : Nat) : Int) := by rw [IntWalk.u64_in _ (by omega)]; push_cast; rfl
  have kk : Blk (w.setCell ⟨g, 1, none⟩ (.int .u64 ((o + 1 : Nat) : Int))) g 25 (rgC A n c (o + 1) m) := k.set 1 _
  have gg : w.grownBy (w.setCell ⟨g, 1, none⟩ (.int .u64 ((o + 1 : Nat) : Int))) (some g) := grownBy_setCells g [.int .u64 ((o + 1 : Nat) : Int)] 1 w
  clear k
  go_enter Try.func36, Try.ntmps36
  go_wp2_with fail
  first | go_end0 | skip
  exact ⟨rfl, kk, gg⟩
set_option maxRecDepth 100000 in
set_option maxHeartbeats 2000000 in
theorem oldestT_any (A : Option Addr) (n c o m : Nat) (root : List UInt8) (room : Bool) (w : World) (hr : RdB w w.heap.size A n root) (hn : n ≤ 1099511627776) (er : Nat) (her : er = if rgOk n o m then (if room then 0 else 3) else 1) :
    Calls Try.prog 34 #[rgV A n c o m, .bool room, .func (.func 36) #[] #[]] w fun e w' => ∃ A' n' c' o' m' root', e = .returned (.tuple #[rgV A' n' c' o' m', .int .i64 (er : Int)]) ∧
      (er ≠ 0 → A' = none ∧ n' = 0 ∧ c' = 0 ∧ o' = 0 ∧ m' = 0 ∧ root' = []) ∧ (er = 0 → n' = n ∧ o' = (o + 1) ∧ m' = m ∧ root' = root) ∧ OwnB w' w.heap.size 5 (.slice A' n' c') root' ∧ Below w.heap.size w w' := by
  have Hir := Lib.hid (rgC_info)
  have HE := Lib.hid her; clear her
  have hrv : rgV A n c o m = .agg (rgC A n c o m).toArray := rfl
  rw [hrv]
  go_enter Try.func34, Try.ntmps34
  go_upto_region 1 with fail
  refine abs (fun w1 => Blk w1 w.heap.size 25 (rgC A n c o m) ∧ Blk w1 (w.heap.size + 1) 25 (rgC none 0 0 0 0) ∧ Below w.heap.size w w1) ⟨(Blk.of_new w _ _).alloc _, Blk.newAt (by simp) _ _, ((Below.refl _ w).alloc (Nat.le_refl _) _).alloc (by simp) _⟩ ?_
  rintro w1 ⟨kr, kz, f1⟩
  go_wp2_with (first | (refine load_blk kr rfl 25 (.tmp 3) rfl rfl Try.underlying25 (Hir.out _ _ _ _ _) ?_))
  refine (mayRing_any A n c o m w1).mono ?_
  rintro e w3 ⟨rfl, f3⟩
  replace kr := kr.below f3 kr.lt
  replace kz := kz.below f3 kz.lt
  replace f1 := f1.trans (f3.mono f1.size)
  clear f3 w1
  cases hrg : rgOk n o m
  · have er1 : er = 1 := by rw [HE.out, hrg]; rfl
    have ER := Lib.hid er1; clear er1
    go_wp2_with (first | (refine store_blk kz rfl 25 (.tmp 6) (.tmp 12) rfl rfl (us := rgC none 0 0 0 0) rfl (Hir.out _ _ _ _ _) rfl (rgC_all _ _ _ _ _) ?_; intro w9 k9 hg9))
    exact bodyPost_ret (k9.sized2 rfl _ rfl Try.underlying25 (Hir.out _ _ _ _ _)) rfl ⟨none, 0, 0, 0, 0, [], by rw [ER.out]; rfl, fun _ => ⟨rfl, rfl, rfl, rfl, rfl, rfl⟩, fun h => by have := ER.out; omega, OwnB.nil_ _ _ _, f1.grown hg9 f1.size (by simp)⟩
  cases room
  · have er1 : er = 3 := by rw [HE.out, hrg]; rfl
    have ER := Lib.hid er1; clear er1
    go_wp2_with (first | (refine store_blk kz rfl 25 (.tmp 6) (.tmp 16) rfl rfl (us := rgC none 0 0 0 0) rfl (Hir.out _ _ _ _ _) rfl (rgC_all _ _ _ _ _) ?_; intro w9 k9 hg9))
    exact bodyPost_ret (k9.sized2 rfl _ rfl Try.underlying25 (Hir.out _ _ _ _ _)) rfl ⟨none, 0, 0, 0, 0, [], by rw [ER.out]; rfl, fun _ => ⟨rfl, rfl, rfl, rfl, rfl, rfl⟩, fun h => by have := ER.out; omega, OwnB.nil_ _ _ _, f1.grown hg9 f1.size (by simp)⟩
  have hm : o < 9223372036854775807 := by simp only [rgOk, Bool.and_eq_true, decide_eq_true_eq] at hrg; omega
  have er1 : er = 0 := by rw [HE.out, hrg]; rfl
  have ER := Lib.hid er1; clear er1
  have q0 : w3.cell? ⟨w.heap.size, 0, none⟩ = some (.slice A n c) := kr.cell 0
  go_wp2_with fail
  refine (clone_any A n c root w3 ((hr.below f1).more f1.size) (by omega)).mono ?_
  rintro e w4 ⟨A4, c4, rfl, ow, f3⟩
  have lr := kr.lt
  have lz := kz.lt
  have z4 := f3.size
  replace kr := kr.below f3 lr
  replace kz := kz.below f3 lz
  have hb1 := f1.size
  replace f1 := f1.trans (f3.mono hb1)
  clear f3 q0
  have z0 := kr.frozen 0
  have q0 : w4.cell? ⟨w.heap.size, 0, none⟩ = some (.slice A n c) := kr.cell 0
  have kr5 : Blk (w4.setCell ⟨w.heap.size, 0, none⟩ (.slice A4 n c4)) w.heap.size 25 (rgC A4 n c4 o m) := kr.set 0 _
  have g5 : w4.grownBy (w4.setCell ⟨w.heap.size, 0, none⟩ (.slice A4 n c4)) (some w.heap.size) := grownBy_setCells w.heap.size [.slice A4 n c4] 0 w4
  have ow5 : OwnB (w4.setCell ⟨w.heap.size, 0, none⟩ (.slice A4 n c4)) w.heap.size 5 (.slice A4 n c4) root := (ow.base_le hb1).grown g5 (Or.inr (Ne.symm (ow.not_row kr (by decide))))
  have kz5 := kz.grown g5 (by simp)
  have f5 := f1.grown g5 f1.size (by simp)
  go_upto_region 6 with fail
  refine abs (fun w1 => Blk w1 w.heap.size 25 (rgC A4 n c4 o m) ∧ Blk w1 (w.heap.size + 1) 25 (rgC none 0 0 0 0) ∧ OwnB w1 w.heap.size 5 (.slice A4 n c4) root ∧ Below w.heap.size w w1) ⟨kr5, kz5, ow5, f5⟩ ?_
  clear kr kz f1 z0 q0 kr5 g5 ow5 kz5 f5 ow
  rintro w1 ⟨kr, kz, ow, f1⟩
  go_wp2_with fail
  refine (oldest1_any w.heap.size A4 n c4 o m w1 w.heap.size kr (Nat.le_refl _) hm).mono ?_
  rintro e w5 ⟨rfl, kr', gr⟩
  have kz' := kz.grown gr (by simp)
  have ow' := ow.grown gr (Or.inr (Ne.symm (ow.not_row kr (by decide))))
  have f' := f1.grown gr f1.size (by simp)
  go_wp2_with (first | (refine load_blk kr' rfl 25 (.tmp 3) rfl rfl Try.underlying25 (Hir.out _ _ _ _ _) ?_) | (refine store_blk kz' rfl 25 (.tmp 6) (.tmp 23) rfl rfl (us := rgC A4 n c4 (o + 1) m) rfl (Hir.out _ _ _ _ _) rfl (rgC_all _ _ _ _ _) ?_; intro w9 k9 hg9))
  exact bodyPost_ret (k9.sized2 rfl _ rfl Try.underlying25 (Hir.out _ _ _ _ _)) rfl ⟨A4, n, c4, (o + 1), m, root, by rw [ER.out]; rfl, fun h => absurd ER.out h, fun _ => ⟨rfl, rfl, rfl, rfl⟩, ow'.grown hg9 (Or.inr (Ne.symm (ow'.not_row kz' (by decide)))), f'.grown hg9 f'.size (by simp)⟩

def rotateE (n o m : Nat) : Nat := if rgOk n o m then (if decide (m < 4611686018427387903) then 0 else 3) else 1
set_option maxRecDepth 100000 in
set_option maxHeartbeats 2000000 in
theorem rotate_any (A : Option Addr) (n c o m : Nat) (root : List UInt8) (w : World) (hr : RdB w w.heap.size A n root) (hn : n ≤ 1099511627776) :
    Calls Try.prog 22 #[rgV A n c o m] w fun e w' => ∃ A' n' c' o' m' root', e = .returned (.tuple #[rgV A' n' c' o' m', .int .i64 (rotateE n o m : Int)]) ∧
      (rotateE n o m ≠ 0 → A' = none ∧ n' = 0 ∧ c' = 0 ∧ o' = 0 ∧ m' = 0 ∧ root' = []) ∧ (rotateE n o m = 0 → n' = n ∧ o' = o ∧ m' = (m + 1) ∧ root' = root) ∧ OwnB w' w.heap.size 5 (.slice A' n' c') root' ∧ Below w.heap.size w w' := by
  generalize hE : rotateE n o m = er
  have HE := Lib.hid hE; clear hE
  have Hir := Lib.hid (rgC_info)
  have hrv : rgV A n c o m = .agg (rgC A n c o m).toArray := rfl
  rw [hrv]
  have d1 : decide ((m : Int) < 4611686018427387903) = decide (m < 4611686018427387903) := decide_eq_decide.2 (by omega)
  go_enter Try.func22, Try.ntmps22
  go_upto_region 1 with fail
  refine abs (fun w1 => Blk w1 w.heap.size 25 (rgC A n c o m) ∧ Blk w1 (w.heap.size + 1) 25 (rgC none 0 0 0 0) ∧ Below w.heap.size w w1) ⟨(Blk.of_new w _ _).alloc _, Blk.newAt (by simp) _ _, ((Below.refl _ w).alloc (Nat.le_refl _) _).alloc (by simp) _⟩ ?_
  rintro w1 ⟨kr, kz, f1⟩
  have q2 : w1.cell? ⟨w.heap.size, 2, none⟩ = some (.int .u64 (m : Int)) := kr.cell 2
  go_wp2_with (first | (refine load_blk kr rfl 25 (.tmp 1) rfl rfl Try.underlying25 (Hir.out _ _ _ _ _) ?_))
  refine (newestT_any A n c o m root (decide (m < 4611686018427387903)) w1 ((hr.below f1).more f1.size) hn er HE.out.symm).mono ?_
  rintro e w3 ⟨A', n', c', o', m', root', rfl, e1, e2, ow, f3⟩
  replace kz := kz.below f3 kz.lt
  have hb1 := f1.size
  replace f1 := f1.trans (f3.mono hb1)
  have hv : rgV A' n' c' o' m' = .agg (rgC A' n' c' o' m').toArray := rfl
  rw [hv]
  clear hv
  have E1 := Lib.hid e1; clear e1
  have E2 := Lib.hid e2; clear e2
  go_wp2_with (first | (refine store_blk kz rfl 25 (.tmp 2) (.tmp 9) rfl rfl (us := rgC A' n' c' o' m') rfl (Hir.out _ _ _ _ _) rfl (rgC_all _ _ _ _ _) ?_; intro w9 k9 hg9))
  exact bodyPost_ret (k9.sized2 rfl _ rfl Try.underlying25 (Hir.out _ _ _ _ _)) rfl ⟨A', n', c', o', m', root', rfl, E1.out, E2.out, (ow.base_le hb1).grown hg9 (Or.inr (Ne.symm ((ow.base_le hb1).not_row kz (by decide)))), f1.grown hg9 f1.size (by simp)⟩

def retireE (n o m : Nat) : Nat := if rgOk n o m then (if decide (o < m) then 0 else 3) else 1
set_option maxRecDepth 100000 in
set_option maxHeartbeats 2000000 in
theorem retire_any (A : Option Addr) (n c o m : Nat) (root : List UInt8) (w : World) (hr : RdB w w.heap.size A n root) (hn : n ≤ 1099511627776) :
    Calls Try.prog 23 #[rgV A n c o m] w fun e w' => ∃ A' n' c' o' m' root', e = .returned (.tuple #[rgV A' n' c' o' m', .int .i64 (retireE n o m : Int)]) ∧
      (retireE n o m ≠ 0 → A' = none ∧ n' = 0 ∧ c' = 0 ∧ o' = 0 ∧ m' = 0 ∧ root' = []) ∧ (retireE n o m = 0 → n' = n ∧ o' = (o + 1) ∧ m' = m ∧ root' = root) ∧ OwnB w' w.heap.size 5 (.slice A' n' c') root' ∧ Below w.heap.size w w' := by
  generalize hE : retireE n o m = er
  have HE := Lib.hid hE; clear hE
  have Hir := Lib.hid (rgC_info)
  have hrv : rgV A n c o m = .agg (rgC A n c o m).toArray := rfl
  rw [hrv]
  have d1 : decide ((o : Int) < (m : Int)) = decide (o < m) := decide_eq_decide.2 (by omega)
  go_enter Try.func23, Try.ntmps23
  go_upto_region 1 with fail
  refine abs (fun w1 => Blk w1 w.heap.size 25 (rgC A n c o m) ∧ Blk w1 (w.heap.size + 1) 25 (rgC none 0 0 0 0) ∧ Below w.heap.size w w1) ⟨(Blk.of_new w _ _).alloc _, Blk.newAt (by simp) _ _, ((Below.refl _ w).alloc (Nat.le_refl _) _).alloc (by simp) _⟩ ?_
  rintro w1 ⟨kr, kz, f1⟩
  have q2 : w1.cell? ⟨w.heap.size, 2, none⟩ = some (.int .u64 (m : Int)) := kr.cell 2
  have q1 : w1.cell? ⟨w.heap.size, 1, none⟩ = some (.int .u64 (o : Int)) := kr.cell 1
  go_wp2_with (first | (refine load_blk kr rfl 25 (.tmp 1) rfl rfl Try.underlying25 (Hir.out _ _ _ _ _) ?_))
  refine (oldestT_any A n c o m root (decide (o < m)) w1 ((hr.below f1).more f1.size) hn er HE.out.symm).mono ?_
  rintro e w3 ⟨A', n', c', o', m', root', rfl, e1, e2, ow, f3⟩
  replace kz := kz.below f3 kz.lt
  have hb1 := f1.size
  replace f1 := f1.trans (f3.mono hb1)
  have hv : rgV A' n' c' o' m' = .agg (rgC A' n' c' o' m').toArray := rfl
  rw [hv]
  clear hv
  have E1 := Lib.hid e1; clear e1
  have E2 := Lib.hid e2; clear e2
  go_wp2_with (first | (refine store_blk kz rfl 25 (.tmp 2) (.tmp 11) rfl rfl (us := rgC A' n' c' o' m') rfl (Hir.out _ _ _ _ _) rfl (rgC_all _ _ _ _ _) ?_; intro w9 k9 hg9))
  exact bodyPost_ret (k9.sized2 rfl _ rfl Try.underlying25 (Hir.out _ _ _ _ _)) rfl ⟨A', n', c', o', m', root', rfl, E1.out, E2.out, (ow.base_le hb1).grown hg9 (Or.inr (Ne.symm ((ow.base_le hb1).not_row kz (by decide)))), f1.grown hg9 f1.size (by simp)⟩
end Go.Proofs.Ytgefbgjgcjiceaa
