/- token.Issue. Condition: labels of 1000 bytes at most; the root of 2^40 bytes at most. -/
import Derived.Test.YtgefbgjgcjiceaaTokSs
import Derived.Test.YtgefbgjgcjiceaaTokMay
namespace Go.Proofs.Ytgefbgjgcjiceaa
open Go.RowKit
set_option linter.unusedVariables false
set_option linter.unusedSimpArgs false
def tkNew (ns sa : List UInt8) (uid : Nat) (host : Int) (addr now key : Nat) : Tk := ⟨ns, sa, uid, host, addr, now, (now + 200) % 18446744073709551616, key, List.replicate 32 0⟩
def tkZero : Tk := ⟨[], [], 0, 0, 0, 0, 0, 0, List.replicate 32 0⟩
def Tk.sign (t : Tk) (s : List UInt8) : Tk := { t with mac := s }
theorem tkOk_host {t : Tk} (h : tkOk t = true) : 1 ≤ t.host ∧ t.host ≤ 9 := by
  simp only [tkOk, Bool.and_eq_true, decide_eq_true_eq] at h
  exact ⟨h.1.1.1.1.2, h.1.1.1.2⟩
theorem Tk.sign_cells (t : Tk) (s : List UInt8) (ht : t.mac.length = 32) (hs : s.length = 32) : t.cells.take 8 ++ bvs s ++ t.cells.drop (8 + (bvs s).length) = (t.sign s).cells := by
  rw [List.drop_eq_nil_of_le (by rw [t.len ht, bvs_length, hs]; exact Nat.le_refl _), List.append_nil]
  rfl
/-- What Issue answers. -/
def issV (root : List UInt8) (n o m : Nat) (t : Tk) : Value := .tuple (if rgOk n o m && tkOk t then #[(t.sign (sigB root t)).v, .int .i64 0] else #[tkZero.v, .int .i64 1])
theorem issV_yes {root : List UInt8} {n o m : Nat} {t : Tk} (h1 : rgOk n o m = true) (h2 : tkOk t = true) : issV root n o m t = .tuple #[(t.sign (sigB root t)).v, .int .i64 0] := by unfold issV; rw [h1, h2]; rfl
theorem issV_no1 {root : List UInt8} {n o m : Nat} {t : Tk} (h1 : rgOk n o m = false) : issV root n o m t = .tuple #[tkZero.v, .int .i64 1] := by unfold issV; rw [h1]; rfl
theorem issV_no2 {root : List UInt8} {n o m : Nat} {t : Tk} (h2 : tkOk t = false) : issV root n o m t = .tuple #[tkZero.v, .int .i64 1] := by unfold issV; rw [h2, Bool.and_false]; rfl
attribute [local irreducible] sigB tkOk issV
set_option maxRecDepth 100000 in
set_option maxHeartbeats 2000000 in
theorem issue_any (A : Option Addr) (n c o m : Nat) (root ns sa : List UInt8) (uid : Nat) (host : Int) (addr now : Nat) (t : Tk) (h0 : t = tkNew ns sa uid host addr now m) (ht : t.ok) (h1 : t.ns.length ≤ 1000) (h2 : t.sa.length ≤ 1000) (w : World) (hr : RdB w w.heap.size A n root) (hn : n ≤ 1099511627776) :
    Calls Try.prog 13 #[rgV A n c o m, nmV ns sa, .int .u64 uid, .int .i64 host, .int .u32 addr, .int .u64 now] w fun e w' =>
      e = .returned (issV root n o m t) ∧ Below w.heap.size w w' := by
  have hit : (Try.prog.info? 31).map (·.size) = some t.cells.length := by rw [t.len ht.mac]; kernel_rfl
  have Hit := Lib.hid hit; clear hit
  have hir : (Try.prog.info? 25).map (·.size) = some ([.slice A n c, .int .u64 (o : Int), .int .u64 (m : Int)] : List Value).length := by kernel_rfl
  have Hir := Lib.hid hir; clear hir
  have hin : (Try.prog.info? 27).map (·.size) = some ([.string (strB ns), .string (strB sa)] : List Value).length := by kernel_rfl
  have Hin := Lib.hid hin; clear hin
  have hw : IntKind.u64.wrap ((now : Int) + 200) = (((now + 200) % 18446744073709551616 : Nat) : Int) := by rw [show (now : Int) + 200 = (now : Int) + ((200 : Nat) : Int) from rfl, sha_wrap]
  have hlen : (tkZero.cells).length = t.cells.length := by rw [t.len ht.mac]; rfl
  have Hlen := Lib.hid hlen; clear hlen
  have HT0 := Lib.hid h0; clear h0
  unfold rgV nmV
  go_enter Try.func13, Try.ntmps13
  go_upto_region 1 with fail
  refine abs (fun w1 => Blk w1 w.heap.size 25 [.slice A n c, .int .u64 (o : Int), .int .u64 (m : Int)] ∧ Blk w1 (w.heap.size + 1) 27 [.string (strB ns), .string (strB sa)] ∧ Blk w1 (w.heap.size + 2) 31 tkZero.cells ∧ Below w.heap.size w w1) ⟨((Blk.of_new w _ _).alloc _).alloc _, (Blk.newAt (by simp) _ _).alloc _, Blk.newAt (by simp) _ _, (((Below.refl _ w).alloc (Nat.le_refl _) _).alloc (by simp) _).alloc (by simp; omega) _⟩ ?_
  rintro w1 ⟨kr, kn, kz, f1⟩
  have q2 : w1.cell? ⟨w.heap.size, 2, none⟩ = some (.int .u64 (m : Int)) := kr.cell 2
  have lr := kr.lt
  have ln := kn.lt
  have lz := kz.lt
  go_upto_region 2 with (first | (refine load_blk kn rfl 27 (.tmp 7) rfl rfl Try.underlying27 Hin.out ?_) | (refine store_blk (cs := tkZero.cells) (Blk.newAt (w := w1) rfl 31 _) rfl 31 (.tmp 14) (.tmp 24) rfl rfl (us := t.cells) (by rw [HT0.out]; rfl) Hit.out Hlen.out t.all ?_; intro w2 kt hg; have f2 : Below w1.heap.size w1 w2 := ((Below.refl _ w1).alloc (Nat.le_refl _) _).grown hg (by simp) (by simp)))
  replace kr := kr.below f2 lr
  replace kz := kz.below f2 lz
  have hs1 := f1.size
  replace f1 := f1.trans (f2.mono hs1)
  clear hg f2 q2 kn ln hw
  generalize w1.heap.size = g at *
  have hzz : (Try.prog.info? 31).map (·.size) = some tkZero.cells.length := by rw [Hlen.out]; exact Hit.out
  have Hzz := Lib.hid hzz; clear hzz
  go_wp2_with (first | (refine load_blk kr rfl 25 (.tmp 6) rfl rfl Try.underlying25 Hir.out ?_))
  refine (mayRing_any A n c o m w2).mono ?_
  rintro e w3 ⟨rfl, f3⟩
  replace kr := kr.below f3 kr.lt
  replace kz := kz.below f3 kz.lt
  replace kt := kt.below f3 kt.lt
  replace f1 := f1.trans (f3.mono f1.size)
  clear f3 w2 w1
  cases hrg : rgOk n o m
  · go_wp2_with (first | (refine store_blk kz rfl 31 (.tmp 12) (.tmp 33) rfl rfl (us := tkZero.cells) rfl Hzz.out rfl tkZero.all ?_; intro w9 k9 hg9))
    exact bodyPost_ret (k9.sized2 rfl _ rfl Try.underlying31 Hzz.out) rfl ⟨by rw [issV_no1 hrg]; rfl, f1.grown hg9 f1.size (by simp)⟩
  · go_wp2_with (first | (refine load_blk_if kt rfl 31 (.tmp 14) rfl rfl Try.underlying31 Hit.out ?_))
    refine (tokMay_any t ht w3).mono ?_
    rintro e w4 ⟨rfl, f3⟩
    replace kr := kr.below f3 kr.lt
    replace kz := kz.below f3 kz.lt
    replace kt := kt.below f3 kt.lt
    replace f1 := f1.trans (f3.mono f1.size)
    clear f3 w3
    cases htk : tkOk t
    · go_wp2_with (first | (refine store_blk kz rfl 31 (.tmp 12) (.tmp 33) rfl rfl (us := tkZero.cells) rfl Hzz.out rfl tkZero.all ?_; intro w9 k9 hg9))
      exact bodyPost_ret (k9.sized2 rfl _ rfl Try.underlying31 Hzz.out) rfl ⟨by rw [issV_no2 htk]; rfl, f1.grown hg9 f1.size (by simp)⟩
    · have hho := tkOk_host htk
      have hsl := sigB_length root t
      have hs32 : (Try.prog.info? 29).map (·.size) = some (bvs (sigB root t)).length := by rw [bvs_length, hsl]; kernel_rfl
      have Hs32 := Lib.hid hs32; clear hs32
      have hsc := t.sign_cells (sigB root t) ht.mac hsl
      have hle : 8 + (bvs (sigB root t)).length ≤ t.cells.length := by rw [bvs_length, hsl, t.len ht.mac]; omega
      have HLE := Lib.hid hle; clear hle
      have hit2 : (Try.prog.info? 31).map (·.size) = some (t.sign (sigB root t)).cells.length := by rw [Tk.len _ hsl, ← t.len ht.mac]; exact Hit.out
      have Hit2 := Lib.hid hit2; clear hit2
      have hlz : tkZero.cells.length = (t.sign (sigB root t)).cells.length := by rw [Tk.len (t.sign (sigB root t)) hsl]; rfl
      have Hlz := Lib.hid hlz; clear hlz
      go_wp2_with (first | (refine load_blk kr rfl 25 (.tmp 6) rfl rfl Try.underlying25 Hir.out ?_) | (refine load_blk kt rfl 31 (.tmp 14) rfl rfl Try.underlying31 Hit.out ?_))
      refine (sum2_any A n c o m root t ht h1 h2 (by omega) w4 ((hr.below f1).more f1.size) hn).mono ?_
      rintro e w5 ⟨rfl, f3⟩
      replace kz := kz.below f3 kz.lt
      replace kt := kt.below f3 kt.lt
      replace f1 := f1.trans (f3.mono f1.size)
      clear f3 kr w4
      have his := issV_yes (root := root) hrg htk
      have HIS := Lib.hid his; clear his
      generalize sigB root t = S at *
      have hgl : w.heap.size ≤ g := by omega
      go_upto_region 5 with (first | (refine store_part kt rfl 29 (.tmp 37) (.tmp 36) rfl rfl (us := bvs S) rfl Hs32.out HLE.out (bvs_all _) ?_; intro w6 k6 hg6; rw [hsc] at k6))
      replace kz := kz.grown hg6 (by simp; omega)
      replace f1 := f1.grown hg6 f1.size (by simp; omega)
      clear hg6 kt
      go_wp2_with (first | (refine load_blk k6 rfl 31 (.tmp 14) rfl rfl Try.underlying31 Hit2.out ?_) | (refine store_blk kz rfl 31 (.tmp 12) (.tmp 38) rfl rfl (us := (t.sign S).cells) rfl Hit2.out Hlz.out (Tk.all _) ?_; intro w9 k9 hg9))
      exact bodyPost_ret (k9.sized2 rfl _ rfl Try.underlying31 Hit2.out) rfl ⟨by rw [HIS.out]; rfl, f1.grown hg9 f1.size (by simp)⟩
end Go.Proofs.Ytgefbgjgcjiceaa
