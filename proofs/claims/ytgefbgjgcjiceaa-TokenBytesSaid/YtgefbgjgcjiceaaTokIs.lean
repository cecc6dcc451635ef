/- The law TokenIssue, walked. No condition. What an issued token is. No condition. -/
import Derived.Test.YtgefbgjgcjiceaaTokAw
import Derived.Test.YtgefbgjgcjiceaaRefTok
import Derived.Test.YtgefbgjgcjiceaaTokEqs
namespace Go.Proofs.Ytgefbgjgcjiceaa
open Go.RowKit
set_option linter.unusedSimpArgs false
set_option linter.unusedVariables false
theorem longB_no {n : Nat} {t : Tk} (h : longB n t = false) : n ≤ 300 ∧ t.ns.length ≤ 300 ∧ t.sa.length ≤ 300 := by
  simp only [longB, Bool.or_eq_false_iff, decide_eq_false_iff_not] at h
  omega
/-- What Issue answers, in two parts. -/
theorem issV_form (root : List UInt8) (n o m : Nat) (t : Tk) : ∃ (x : Tk) (e : Nat), issV root n o m t = .tuple #[x.v, .int .i64 (e : Int)] ∧ x.mac.length = 32 ∧ (e = 0 → x = t.sign (sigB root t) ∧ rgOk n o m = true ∧ tkOk t = true) ∧ (e = 0 ∨ e = 1) := by
  cases h1 : rgOk n o m
  · exact ⟨tkZero, 1, by rw [issV_no1 h1]; rfl, rfl, fun h => absurd h (by omega), .inr rfl⟩
  · cases h2 : tkOk t
    · exact ⟨tkZero, 1, by rw [issV_no2 h2]; rfl, rfl, fun h => absurd h (by omega), .inr rfl⟩
    · exact ⟨t.sign (sigB root t), 0, by rw [issV_yes h1 h2]; rfl, sigB_length _ _, fun _ => ⟨rfl, rfl, rfl⟩, .inl rfl⟩
theorem tkNew_ok {t : Tk} (ht : t.ok) {now m : Nat} (hn : now < 18446744073709551616) (hm : m < 18446744073709551616) : (tkNew t.ns t.sa t.uid t.host t.addr now m).ok :=
  ⟨ht.ns, ht.sa, ht.uid, ht.host, ht.addr, hn, by show (now + 200) % 18446744073709551616 < _; omega, hm, rfl⟩
attribute [local irreducible] issV sigB tkOk rgOk longB tkNew
set_option maxRecDepth 100000 in
set_option maxHeartbeats 4000000 in
theorem tokenIssue_walk (w : World) (A : Option Addr) (n c o m : Nat) (root : List UInt8) (rl : RdB w w.heap.size A n root) (_ : n ≤ c) (_ : c ≤ maxLen) (ho : o < 18446744073709551616) (hm : m < 18446744073709551616) (t : Tk) (ht : t.ok) (now : Nat) (hnow : now < 18446744073709551616) :
    Calls Try.prog 3 #[rgV A n c o m, t.v, .int .u64 now] w fun e w' => e = .returned (.bool true) ∧ Below w.heap.size w w' := by
  have hit : (Try.prog.info? 31).map (·.size) = some t.cells.length := by rw [t.len ht.mac]; kernel_rfl
  have Hit := Lib.hid hit; clear hit
  have hir : (Try.prog.info? 25).map (·.size) = some ([.slice A n c, .int .u64 (o : Int), .int .u64 (m : Int)] : List Value).length := by kernel_rfl
  have Hir := Lib.hid hir; clear hir
  have hin : (Try.prog.info? 27).map (·.size) = some ([.string (strB t.ns), .string (strB t.sa)] : List Value).length := by kernel_rfl
  have Hin := Lib.hid hin; clear hin
  have hto := tkNew_ok ht hnow hm
  have hns : (tkNew t.ns t.sa t.uid t.host t.addr now m).ns = t.ns := by with_unfolding_all rfl
  have hsa : (tkNew t.ns t.sa t.uid t.host t.addr now m).sa = t.sa := by with_unfolding_all rfl
  have htv : t.v = .agg t.cells.toArray := rfl
  rw [htv]
  unfold rgV
  go_enter Try.func3, Try.ntmps3
  go_upto_region 1 with fail
  refine abs (fun w1 => Blk w1 w.heap.size 25 [.slice A n c, .int .u64 (o : Int), .int .u64 (m : Int)] ∧ Blk w1 (w.heap.size + 1) 31 t.cells ∧ Below w.heap.size w w1) ⟨(Blk.of_new w _ _).alloc _, Blk.newAt (by simp) _ _, ((Below.refl _ w).alloc (Nat.le_refl _) _).alloc (by simp) _⟩ ?_
  rintro w1 ⟨kr, kt, f1⟩
  go_wp2_with (first | (refine load_blk kr rfl 25 (.tmp 3) rfl rfl Try.underlying25 Hir.out ?_) | (refine load_blk kt rfl 31 (.tmp 4) rfl rfl Try.underlying31 Hit.out ?_))
  refine (long_any A n c o m t w1).mono ?_
  rintro e w2 ⟨rfl, f2⟩
  replace kr := kr.below f2 kr.lt
  replace kt := kt.below f2 kt.lt
  replace f1 := f1.trans (f2.mono f1.size)
  clear f2
  cases hlg : longB n t
  case true =>
    go_wp2_with fail
    refine (awake6_any w2).mono ?_
    rintro e w3 ⟨rfl, f2⟩
    go_wp2_with fail
    go_ret
    exact ⟨rfl, f1.trans (f2.mono f1.size)⟩
  obtain ⟨hl1, hl2, hl3⟩ := longB_no hlg
  have q2 : w2.cell? ⟨w.heap.size + 1, 2, none⟩ = some (.int .u64 (t.uid : Int)) := kt.cell 2
  have q3 : w2.cell? ⟨w.heap.size + 1, 3, none⟩ = some (.int .i64 t.host) := kt.cell 3
  have q4 : w2.cell? ⟨w.heap.size + 1, 4, none⟩ = some (.int .u32 (t.addr : Int)) := kt.cell 4
  have kn := kt.range 0 2
  rw [t.name] at kn
  go_wp2_with (first | (refine load_blk kr rfl 25 (.tmp 3) rfl rfl Try.underlying25 Hir.out ?_) | (refine load_part (cs := [.string (strB t.ns), .string (strB t.sa)]) (b := w.heap.size + 1) (off := 0) kn rfl 27 (.tmp 17) rfl rfl Try.underlying27 Hin.out ?_))
  refine (issue_any A n c o m root t.ns t.sa t.uid t.host t.addr now (tkNew t.ns t.sa t.uid t.host t.addr now m) rfl hto (by rw [hns]; omega) (by rw [hsa]; omega) w2 ((rl.below f1).more f1.size) (by omega)).mono ?_
  rintro e w3 ⟨rfl, f2⟩
  obtain ⟨x, ev, hx, hxm, -, -⟩ := issV_form root n o m (tkNew t.ns t.sa t.uid t.host t.addr now m)
  rw [hx, show x.v = .agg x.cells.toArray from rfl]
  have lr := kr.lt
  have lt := kt.lt
  replace kr := kr.below f2 lr
  replace kt := kt.below f2 lt
  replace f1 := f1.trans (f2.mono f1.size)
  clear f2 q2 q3 q4 kn
  have hix : (Try.prog.info? 31).map (·.size) = some x.cells.length := by rw [x.len hxm]; kernel_rfl
  have Hix := Lib.hid hix; clear hix
  have hlz : tkZero.cells.length = x.cells.length := by rw [x.len hxm]; rfl
  have Hlz := Lib.hid hlz; clear hlz
  go_upto_region 4 with (first | (refine store_blk (cs := tkZero.cells) (Blk.newAt rfl 31 _) rfl 31 (.tmp 7) (.tmp 27) rfl rfl (us := x.cells) rfl Hix.out Hlz.out x.all ?_; intro w4 kx hg; have f3 : Below w3.heap.size w3 w4 := ((Below.refl _ w3).alloc (Nat.le_refl _) _).grown hg (by simp) (by simp)))
  have lr := kr.lt
  have lt := kt.lt
  replace kr := kr.below f3 lr
  replace kt := kt.below f3 lt
  replace f1 := f1.trans (f3.mono f1.size)
  clear hg f3
  generalize w3.heap.size = g7 at *
  have q2 : w4.cell? ⟨w.heap.size + 1, 2, none⟩ = some (.int .u64 (t.uid : Int)) := kt.cell 2
  have q3 : w4.cell? ⟨w.heap.size + 1, 3, none⟩ = some (.int .i64 t.host) := kt.cell 3
  have q4 : w4.cell? ⟨w.heap.size + 1, 4, none⟩ = some (.int .u32 (t.addr : Int)) := kt.cell 4
  have kn := kt.range 0 2
  rw [t.name] at kn
  go_wp2_with (first | (refine load_blk kr rfl 25 (.tmp 3) rfl rfl Try.underlying25 Hir.out ?_) | (refine load_part (cs := [.string (strB t.ns), .string (strB t.sa)]) (b := w.heap.size + 1) (off := 0) kn rfl 27 (.tmp 31) rfl rfl Try.underlying27 Hin.out ?_))
  refine (refIssue_any A n c o m root t.ns t.sa t.uid t.host t.addr now (tkNew t.ns t.sa t.uid t.host t.addr now m) rfl hto (by rw [hns]; omega) (by rw [hsa]; omega) w4 ((rl.below f1).more f1.size) (by omega)).mono ?_
  rintro e w5 ⟨rfl, f2⟩
  rw [hx, show x.v = .agg x.cells.toArray from rfl]
  have lx := kx.lt
  replace kx := kx.below f2 lx
  replace f1 := f1.trans (f2.mono f1.size)
  clear f2 q2 q3 q4 kn kr kt hx
  go_upto_region 5 with (first | (refine store_blk (cs := tkZero.cells) (Blk.newAt rfl 31 _) rfl 31 (.tmp 9) (.tmp 41) rfl rfl (us := x.cells) rfl Hix.out Hlz.out x.all ?_; intro w6 ky hg; have f3 : Below w5.heap.size w5 w6 := ((Below.refl _ w5).alloc (Nat.le_refl _) _).grown hg (by simp) (by simp)))
  have lx := kx.lt
  replace kx := kx.below f3 lx
  replace f1 := f1.trans (f3.mono f1.size)
  clear hg f3
  have ke := fun w : World => run_tok_eq x x hxm hxm w
  rw [tkEq_self] at ke
  go_wp2_with (first | (refine load_blk kx rfl 31 (.tmp 7) rfl rfl Try.underlying31 Hix.out ?_) | (refine load_blk ky rfl 31 (.tmp 9) rfl rfl Try.underlying31 Hix.out ?_))
  refine (awake6_any _).mono ?_
  rintro e w7 ⟨rfl, f2⟩
  go_wp2_with fail
  go_ret
  exact ⟨rfl, f1.trans (f2.mono f1.size)⟩
end Go.Proofs.Ytgefbgjgcjiceaa
namespace Go.Proofs.Ytgefbgjgcjiceaa
open Go.RowKit
/-- An issued token: fresh to its ring, signed. -/
theorem issued_ok {root : List UInt8} {t : Tk} (ht : t.ok) : (t.sign (sigB root t)).ok := ⟨ht.ns, ht.sa, ht.uid, ht.host, ht.addr, ht.born, ht.till, ht.key, sigB_length _ _⟩
theorem sig_sign (root : List UInt8) (t : Tk) (s : List UInt8) : sigB root (t.sign s) = sigB root t := rfl
theorem tkOk_sign (t : Tk) (s : List UInt8) : tkOk (t.sign s) = tkOk t := rfl
theorem tkOk_times {t : Tk} (h : tkOk t = true) : t.born < t.till ∧ t.till ≤ 4611686018427387903 := by
  simp only [tkOk, Bool.and_eq_true, decide_eq_true_eq] at h
  exact ⟨h.1.1.2, h.1.2⟩
theorem rgOk_parts {n o m : Nat} (h : rgOk n o m = true) : 1 ≤ n ∧ n ≤ 64 ∧ 1 ≤ o ∧ o ≤ m ∧ m ≤ 4611686018427387903 := by
  simp only [rgOk, Bool.and_eq_true, decide_eq_true_eq] at h
  omega
/-- How a token that was issued verifies. -/
theorem ver_issued (root : List UInt8) (n o m : Nat) (t : Tk) (now : Nat) (h1 : rgOk n o m = true) (h2 : tkOk t = true) : verN root n o m (t.sign (sigB root t)) now = (if t.key < o ∨ m < t.key then 7 else if now < t.born ∨ t.till ≤ now then 9 else 0) := by
  unfold verN
  rw [h1, tkOk_sign, h2, sig_sign]
  show verN2 true true (decide (t.key < o)) (decide (m < t.key)) (decide (sigB root t = sigB root t)) (decide (now < t.born)) (decide (t.till ≤ now)) = _
  rw [decide_eq_true rfl]
  unfold verN2
  by_cases ha : t.key < o <;> by_cases hb : m < t.key <;> by_cases hc : now < t.born <;> by_cases hd : t.till ≤ now <;> simp [ha, hb, hc, hd]
/-- How a token with another mac verifies. -/
theorem ver_turned (root : List UInt8) (n o m : Nat) (t : Tk) (s : List UInt8) (now : Nat) (h1 : rgOk n o m = true) (h2 : tkOk t = true) (hs : s ≠ sigB root t) : verN root n o m (t.sign s) now = 7 := by
  unfold verN
  rw [h1, tkOk_sign, h2, sig_sign]
  show verN2 true true (decide (t.key < o)) (decide (m < t.key)) (decide (s = sigB root t)) (decide (now < t.born)) (decide (t.till ≤ now)) = _
  rw [decide_eq_false hs]
  unfold verN2
  cases decide (t.key < o) <;> cases decide (m < t.key) <;> simp
end Go.Proofs.Ytgefbgjgcjiceaa
