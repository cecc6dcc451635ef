/- The law TokenBytes, walked. No condition. -/
import Derived.Test.YtgefbgjgcjiceaaTokIs
import Derived.Test.YtgefbgjgcjiceaaTokBk
import Derived.Test.YtgefbgjgcjiceaaRefTokRead
import Derived.Test.YtgefbgjgcjiceaaFacts
import Derived.Deep.DeepCutAuto
namespace Go.Proofs.Ytgefbgjgcjiceaa
open Go.RowKit
set_option linter.unusedSimpArgs false
set_option linter.unusedVariables false
theorem tokB_le2 (t : Tk) (ht : t.ok) (h1 : t.ns.length ≤ 1000) (h2 : t.sa.length ≤ 1000) (h : 0 ≤ t.host ∧ t.host ≤ 9) : (tokB t).length ≤ 100000 := by
  have h3 := saidB_le t ht h1 h2 h
  have h4 := ht.mac
  unfold tokB
  rw [List.length_append]
  omega
theorem readV_two (l : List UInt8) : ∃ (x : Tk) (e : Nat), readV l = (x, e) ∧ x.mac.length = 32 ∧ (e = 0 ∨ e = 2) := by
  rcases readV_form l with h | ⟨h, _⟩
  · exact ⟨tkZero, 2, h, rfl, .inr rfl⟩
  · exact ⟨readT l, 0, h, (readT_ok l).1.mac, .inl rfl⟩
attribute [local irreducible] issV sigB tkOk rgOk longB tkNew verN freshB readV tokB tkEq
set_option maxRecDepth 100000 in
set_option maxHeartbeats 4000000 in
theorem tokenBytes_walk (w : World) (t : Tk) (ht : t.ok) (A : Option Addr) (n c : Nat) (b : List UInt8) (rm : RdB w w.heap.size A n b) (hnc : n ≤ c) (hcm : c ≤ maxLen) :
    Calls Try.prog 9 #[t.v, .slice A n c] w fun e w' => e = .returned (.bool true) ∧ Below w.heap.size w w' := by
  have hit : (Try.prog.info? 31).map (·.size) = some t.cells.length := by rw [t.len ht.mac]; kernel_rfl
  have Hit := Lib.hid hit; clear hit
  have hml := rm.1
  have htv : t.v = .agg t.cells.toArray := rfl
  obtain ⟨x, ex, hrx, hxm, hex⟩ := readV_two b
  have HRX := Lib.hid hrx; clear hrx
  have HEX := Lib.hid hex; clear hex
  have hix : (Try.prog.info? 31).map (·.size) = some x.cells.length := by rw [x.len hxm]; kernel_rfl
  have Hix := Lib.hid hix; clear hix
  have hlx : tkZero.cells.length = x.cells.length := by rw [x.len hxm]; rfl
  have Hlx := Lib.hid hlx; clear hlx
  have hxv : x.v = .agg x.cells.toArray := rfl
  rw [htv]
  go_enter Try.func9, Try.ntmps9
  go_upto_region 1 with fail
  refine abs (fun w1 => Blk w1 w.heap.size 31 t.cells ∧ Below w.heap.size w w1) ⟨Blk.of_new w _ _, (Below.refl _ w).alloc (Nat.le_refl _) _⟩ ?_
  rintro w1 ⟨kt, f1⟩
  go_wp2_with (first | (refine load_blk kt rfl 31 (.tmp 2) rfl rfl Try.underlying31 Hit.out ?_))
  refine (long_any none 0 0 0 0 t w1).mono ?_
  rintro e w2 ⟨rfl, f2⟩
  have lkt := kt.lt
  replace kt := kt.below f2 lkt
  replace f1 := f1.trans (f2.mono f1.size)
  clear f2
  cases hlg : longB 0 t
  case true =>
    go_wp2_with fail
    refine (awake6_any w2).mono ?_
    rintro e w9 ⟨rfl, f9⟩
    go_wp2_with fail
    go_ret
    exact ⟨rfl, f1.trans (f9.mono f1.size)⟩
  obtain ⟨-, ht1, ht2⟩ := longB_no hlg
  by_cases hn : 1000 < n
  · have d1 : decide ((1000 : Int) < (n : Int)) = true := by simp; omega
    go_wp2_with fail
    refine (awake6_any w2).mono ?_
    rintro e w9 ⟨rfl, f9⟩
    go_wp2_with fail
    go_ret
    exact ⟨rfl, f1.trans (f9.mono f1.size)⟩
  have d1 : decide ((1000 : Int) < (n : Int)) = false := by simp; omega
  go_wp2_with (first | (refine load_blk kt rfl 31 (.tmp 2) rfl rfl Try.underlying31 Hit.out ?_))
  rw [← htv]
  cases hkt : tkOk t
  · skip
    refine (tokBytes_no t ht hkt w2).mono ?_
    rintro e w3 ⟨rfl, f2⟩
    have lk2 := kt.lt
    replace kt := kt.below f2 lk2
    replace f1 := f1.trans (f2.mono f1.size)
    clear f2
    go_wp2_with (first | (refine load_blk kt rfl 31 (.tmp 2) rfl rfl Try.underlying31 Hit.out ?_))
    rw [← htv]
    refine (refTokMay_any t ht w3).mono ?_
    rintro e w4 ⟨rfl, f2⟩
    rw [hkt]
    replace f1 := f1.trans (f2.mono f1.size)
    clear f2
    go_wp2_with fail
    have r4 := (rm.below f1).more f1.size
    refine (read_any A n c b w4 r4 (by omega)).mono ?_
    rintro e wc ⟨rfl, f2⟩
    rw [HRX.out]
    rw [hxv]
    replace f1 := f1.trans (f2.mono f1.size)
    clear f2 r4
    go_upto_region 10 with (first | (refine store_blk (cs := tkZero.cells) (Blk.newAt rfl 31 _) rfl 31 (.tmp 7) (.tmp 48) rfl rfl (us := x.cells) rfl Hix.out Hlx.out x.all ?_; intro wd kx hg; have f3 : Below wc.heap.size wc wd := ((Below.refl _ wc).alloc (Nat.le_refl _) _).grown hg (by simp) (by simp)))
    replace f1 := f1.trans (f3.mono f1.size)
    clear hg f3
    generalize wc.heap.size = gx at *
    have r4 := (rm.below f1).more f1.size
    go_wp2_with fail
    refine (refRead6_any A n c b wd r4 (by omega) hnc).mono ?_
    rintro e we ⟨rfl, f2⟩
    rw [HRX.out]
    rw [hxv]
    have lx := kx.lt
    replace kx := kx.below f2 lx
    replace f1 := f1.trans (f2.mono f1.size)
    clear f2 r4
    go_upto_region 11 with (first | (refine store_blk (cs := tkZero.cells) (Blk.newAt rfl 31 _) rfl 31 (.tmp 9) (.tmp 53) rfl rfl (us := x.cells) rfl Hix.out Hlx.out x.all ?_; intro wf ky hg; have f3 : Below we.heap.size we wf := ((Below.refl _ we).alloc (Nat.le_refl _) _).grown hg (by simp) (by simp)))
    have lx2 := kx.lt
    replace kx := kx.below f3 lx2
    replace f1 := f1.trans (f3.mono f1.size)
    clear hg f3
    generalize we.heap.size = gy at *
    have ke := fun w : World => run_tok_eq x x hxm hxm w
    rw [tkEq_self] at ke
    rcases HEX.out with rfl | rfl
    · go_wp2_with (first | (refine load_blk kx rfl 31 (.tmp 7) rfl rfl Try.underlying31 Hix.out ?_) | (refine load_blk ky rfl 31 (.tmp 9) rfl rfl Try.underlying31 Hix.out ?_))
      refine (awake6_any _).mono ?_
      rintro e w9 ⟨rfl, f9⟩
      go_wp2_with fail
      go_ret
      exact ⟨rfl, f1.trans (f9.mono f1.size)⟩
    · go_wp2_with (first | (refine load_blk kx rfl 31 (.tmp 7) rfl rfl Try.underlying31 Hix.out ?_) | (refine load_blk ky rfl 31 (.tmp 9) rfl rfl Try.underlying31 Hix.out ?_))
      refine (awake6_any _).mono ?_
      rintro e w9 ⟨rfl, f9⟩
      go_wp2_with fail
      go_ret
      exact ⟨rfl, f1.trans (f9.mono f1.size)⟩
  · skip
    have hho := tkOk_host hkt
    have hL1 := tokB_le2 t ht (by omega) (by omega) (by omega)
    refine (tokBytes_yes t ht (by omega) (by omega) hkt w2).mono ?_
    rintro e w3 ⟨A1, c1, rfl, ow, f2⟩
    have lk2 := kt.lt
    replace kt := kt.below f2 lk2
    replace f1 := f1.trans (f2.mono f1.size)
    clear f2
    go_wp2_with (first | (refine load_blk kt rfl 31 (.tmp 2) rfl rfl Try.underlying31 Hit.out ?_))
    rw [← htv]
    refine (refTokMay_any t ht w3).mono ?_
    rintro e w4 ⟨rfl, f2⟩
    rw [hkt]
    have lk3 := kt.lt
    replace kt := kt.below f2 lk3
    replace ow := ow.below (Nat.le_refl _) f2
    replace f1 := f1.trans (f2.mono f1.size)
    have rb := ow.rd
    clear f2 ow
    go_upto_region 7 with fail
    obtain ⟨wq, ewq⟩ : ∃ wq : World, wq = w4 := ⟨_, rfl⟩
    subst ewq
    refine wp_region_facts (fun u => Below wq.heap.size wq u) [
        fun v _ => v = .int .i64 0,
        fun v _ => v = .bool false,
        fun v _ => v = .bool false,
        fun v _ => v = .slice A1 (tokB t).length c1,
        fun v _ => v = .string (strB (tokB t)),
        fun v _ => v = .agg t.cells.toArray,
        fun v u => ∃ A' c', v = .slice A' (tokB t).length c' ∧ RdB u u.heap.size A' (tokB t).length (tokB t),
        fun v _ => v = .string (strB (tokB t)),
        fun v _ => v = .bool false,
        fun v _ => v = .bool false] (fun u u' => Below u.heap.size u u')
        [[], [0], [1], [2], [2, 3], [2], [2, 5], [2, 6], [2, 4, 7], [2, 8]] []
        (by kernel_rfl) (by kernel_rfl) ?_ (fun _ _ _ _ _ h => h) ((Below.refl _ _).drew) ?_ ?_
    · refine hE_of (fun u u' h f => f.trans (h.mono f.size)) ?_
      repeat' (first | exact mono_nil | refine mono_cons (fun v u u' h => ?_) ?_)
      all_goals first | exact _root_.id | (rintro ⟨A', c', e, o⟩; exact ⟨A', c', e, (o.below h).more h.size⟩)
    ·
      refine owed_cons (fun vs u hS hD N => ?_) ?_
      · clear hD
        intro hN
        simp only [fact, layAt, depOn, dstOf, List.map_cons, List.map_nil, List.foldl_cons, List.foldl_nil, List.getD_cons_zero, List.getD_cons_succ, List.getElem?_cons_zero, List.getElem?_cons_succ, Option.bind_some] at hN ⊢
        go_simp
        have hh := hN _ _ rfl (.inl (Below.refl _ _))
        revert hh
        go_simp
      refine owed_cons (fun vs u hS hD N => ?_) ?_
      · have d0 := hD 0 (by decide)
        simp only [fact, layAt, depOn, dstOf, List.map_cons, List.map_nil, List.foldl_cons, List.foldl_nil, List.getD_cons_zero, List.getD_cons_succ, List.getElem?_cons_zero, List.getElem?_cons_succ, Option.bind_some] at d0
        clear hD
        intro hN
        simp only [fact, layAt, depOn, dstOf, List.map_cons, List.map_nil, List.foldl_cons, List.foldl_nil, List.getD_cons_zero, List.getD_cons_succ, List.getElem?_cons_zero, List.getElem?_cons_succ, Option.bind_some, d0] at hN ⊢
        go_simp
        have hh := hN _ _ rfl (.inl (Below.refl _ _))
        revert hh
        go_simp
      refine owed_cons (fun vs u hS hD N => ?_) ?_
      · have d1 := hD 1 (by decide)
        simp only [fact, layAt, depOn, dstOf, List.map_cons, List.map_nil, List.foldl_cons, List.foldl_nil, List.getD_cons_zero, List.getD_cons_succ, List.getElem?_cons_zero, List.getElem?_cons_succ, Option.bind_some] at d1
        clear hD
        intro hN
        simp only [fact, layAt, depOn, dstOf, List.map_cons, List.map_nil, List.foldl_cons, List.foldl_nil, List.getD_cons_zero, List.getD_cons_succ, List.getElem?_cons_zero, List.getElem?_cons_succ, Option.bind_some, d1] at hN ⊢
        go_simp
        have hh := hN _ _ rfl (.inl (Below.refl _ _))
        revert hh
        go_simp
      refine owed_cons (fun vs u hS hD N => ?_) ?_
      · have d2 := hD 2 (by decide)
        simp only [fact, layAt, depOn, dstOf, List.map_cons, List.map_nil, List.foldl_cons, List.foldl_nil, List.getD_cons_zero, List.getD_cons_succ, List.getElem?_cons_zero, List.getElem?_cons_succ, Option.bind_some] at d2
        clear hD
        intro hN
        simp only [fact, layAt, depOn, dstOf, List.map_cons, List.map_nil, List.foldl_cons, List.foldl_nil, List.getD_cons_zero, List.getD_cons_succ, List.getElem?_cons_zero, List.getElem?_cons_succ, Option.bind_some, d2] at hN ⊢
        go_simp
        have hh := hN _ _ rfl (.inl (Below.refl _ _))
        revert hh
        go_simp
      refine owed_cons (fun vs u hS hD N => ?_) ?_
      · have d2 := hD 2 (by decide)
        simp only [fact, layAt, depOn, dstOf, List.map_cons, List.map_nil, List.foldl_cons, List.foldl_nil, List.getD_cons_zero, List.getD_cons_succ, List.getElem?_cons_zero, List.getElem?_cons_succ, Option.bind_some] at d2
        have d3 := hD 3 (by decide)
        simp only [fact, layAt, depOn, dstOf, List.map_cons, List.map_nil, List.foldl_cons, List.foldl_nil, List.getD_cons_zero, List.getD_cons_succ, List.getElem?_cons_zero, List.getElem?_cons_succ, Option.bind_some] at d3
        clear hD
        intro hN
        simp only [fact, layAt, depOn, dstOf, List.map_cons, List.map_nil, List.foldl_cons, List.foldl_nil, List.getD_cons_zero, List.getD_cons_succ, List.getElem?_cons_zero, List.getElem?_cons_succ, Option.bind_some, d2, d3] at hN ⊢
        rw [if_pos (by rfl)]
        have q := run_str T23 (rb.below hS) c1 9 Try.underlying9
        go_simp
        have hh := hN _ _ rfl (.inl (Below.refl _ _))
        revert hh
        go_simp
      refine owed_cons (fun vs u hS hD N => ?_) ?_
      · have d2 := hD 2 (by decide)
        simp only [fact, layAt, depOn, dstOf, List.map_cons, List.map_nil, List.foldl_cons, List.foldl_nil, List.getD_cons_zero, List.getD_cons_succ, List.getElem?_cons_zero, List.getElem?_cons_succ, Option.bind_some] at d2
        clear hD
        intro hN
        simp only [fact, layAt, depOn, dstOf, List.map_cons, List.map_nil, List.foldl_cons, List.foldl_nil, List.getD_cons_zero, List.getD_cons_succ, List.getElem?_cons_zero, List.getElem?_cons_succ, Option.bind_some, d2] at hN ⊢
        rw [if_pos (by rfl)]
        refine wp_load_blk (kt.below hS kt.lt) 31 (.tmp 2) rfl rfl Try.underlying31 Hit.out ?_
        exact hN _ _ rfl (.inl (Below.refl _ _))
      refine owed_cons (fun vs u hS hD N => ?_) ?_
      · have d2 := hD 2 (by decide)
        simp only [fact, layAt, depOn, dstOf, List.map_cons, List.map_nil, List.foldl_cons, List.foldl_nil, List.getD_cons_zero, List.getD_cons_succ, List.getElem?_cons_zero, List.getElem?_cons_succ, Option.bind_some] at d2
        have d5 := hD 5 (by decide)
        simp only [fact, layAt, depOn, dstOf, List.map_cons, List.map_nil, List.foldl_cons, List.foldl_nil, List.getD_cons_zero, List.getD_cons_succ, List.getElem?_cons_zero, List.getElem?_cons_succ, Option.bind_some] at d5
        clear hD
        intro hN
        simp only [fact, layAt, depOn, dstOf, List.map_cons, List.map_nil, List.foldl_cons, List.foldl_nil, List.getD_cons_zero, List.getD_cons_succ, List.getElem?_cons_zero, List.getElem?_cons_succ, Option.bind_some, d2, d5] at hN ⊢
        go_simp
        rw [← htv]
        refine (refTokBytes_any t ht (by omega) (by omega) hkt u).mono ?_
        rintro e u' ⟨A', c', rfl, o, f⟩
        have o2 := o.rd
        have hh := hN _ _ ⟨A', c', rfl, o2⟩ (.inl f)
        revert hh
        go_simp
      refine owed_cons (fun vs u hS hD N => ?_) ?_
      · have d2 := hD 2 (by decide)
        simp only [fact, layAt, depOn, dstOf, List.map_cons, List.map_nil, List.foldl_cons, List.foldl_nil, List.getD_cons_zero, List.getD_cons_succ, List.getElem?_cons_zero, List.getElem?_cons_succ, Option.bind_some] at d2
        have d6 := hD 6 (by decide)
        simp only [fact, layAt, depOn, dstOf, List.map_cons, List.map_nil, List.foldl_cons, List.foldl_nil, List.getD_cons_zero, List.getD_cons_succ, List.getElem?_cons_zero, List.getElem?_cons_succ, Option.bind_some] at d6
        obtain ⟨A', c', e6, o⟩ := d6
        clear hD
        intro hN
        simp only [fact, layAt, depOn, dstOf, List.map_cons, List.map_nil, List.foldl_cons, List.foldl_nil, List.getD_cons_zero, List.getD_cons_succ, List.getElem?_cons_zero, List.getElem?_cons_succ, Option.bind_some, d2, e6] at hN ⊢
        rw [if_pos (by rfl)]
        have q := run_str T23 o c' 9 Try.underlying9
        go_simp
        have hh := hN _ _ rfl (.inl (Below.refl _ _))
        revert hh
        go_simp
      refine owed_cons (fun vs u hS hD N => ?_) ?_
      · have d2 := hD 2 (by decide)
        simp only [fact, layAt, depOn, dstOf, List.map_cons, List.map_nil, List.foldl_cons, List.foldl_nil, List.getD_cons_zero, List.getD_cons_succ, List.getElem?_cons_zero, List.getElem?_cons_succ, Option.bind_some] at d2
        have d4 := hD 4 (by decide)
        simp only [fact, layAt, depOn, dstOf, List.map_cons, List.map_nil, List.foldl_cons, List.foldl_nil, List.getD_cons_zero, List.getD_cons_succ, List.getElem?_cons_zero, List.getElem?_cons_succ, Option.bind_some] at d4
        have d7 := hD 7 (by decide)
        simp only [fact, layAt, depOn, dstOf, List.map_cons, List.map_nil, List.foldl_cons, List.foldl_nil, List.getD_cons_zero, List.getD_cons_succ, List.getElem?_cons_zero, List.getElem?_cons_succ, Option.bind_some] at d7
        clear hD
        intro hN
        simp only [fact, layAt, depOn, dstOf, List.map_cons, List.map_nil, List.foldl_cons, List.foldl_nil, List.getD_cons_zero, List.getD_cons_succ, List.getElem?_cons_zero, List.getElem?_cons_succ, Option.bind_some, d2, d4, d7] at hN ⊢
        rw [if_pos (by rfl)]
        go_simp
        have hh := hN _ _ rfl (.inl (Below.refl _ _))
        revert hh
        go_simp
      refine owed_cons (fun vs u hS hD N => ?_) ?_
      · have d2 := hD 2 (by decide)
        simp only [fact, layAt, depOn, dstOf, List.map_cons, List.map_nil, List.foldl_cons, List.foldl_nil, List.getD_cons_zero, List.getD_cons_succ, List.getElem?_cons_zero, List.getElem?_cons_succ, Option.bind_some] at d2
        have d8 := hD 8 (by decide)
        simp only [fact, layAt, depOn, dstOf, List.map_cons, List.map_nil, List.foldl_cons, List.foldl_nil, List.getD_cons_zero, List.getD_cons_succ, List.getElem?_cons_zero, List.getElem?_cons_succ, Option.bind_some] at d8
        clear hD
        intro hN
        simp only [fact, layAt, depOn, dstOf, List.map_cons, List.map_nil, List.foldl_cons, List.foldl_nil, List.getD_cons_zero, List.getD_cons_succ, List.getElem?_cons_zero, List.getElem?_cons_succ, Option.bind_some, d2, d8] at hN ⊢
        go_simp
        have hh := hN _ _ rfl (.inl (Below.refl _ _))
        revert hh
        go_simp
      exact owed_nil
    ·
      intro vs u hS hF
      have d9 := hF 9 (by decide) (by decide)
      simp only [fact, layAt, depOn, dstOf, List.map_cons, List.map_nil, List.foldl_cons, List.foldl_nil, List.getD_cons_zero, List.getD_cons_succ, List.getElem?_cons_zero, List.getElem?_cons_succ, Option.bind_some] at d9
      clear hF
      simp only [List.length_cons, List.length_nil, Nat.reduceAdd, List.range, List.range.loop, fact, layAt, depOn, dstOf, List.map_cons, List.map_nil, List.foldl_cons, List.foldl_nil, List.getD_cons_zero, List.getD_cons_succ, List.getElem?_cons_zero, List.getElem?_cons_succ, Option.bind_some, d9]
      go_simp
      replace f1 := f1.trans (hS.mono f1.size)
      clear hS kt rb
      go_wp2_with fail
      have r4 := (rm.below f1).more f1.size
      refine (read_any A n c b u r4 (by omega)).mono ?_
      rintro e wc ⟨rfl, f2⟩
      rw [HRX.out]
      rw [hxv]
      replace f1 := f1.trans (f2.mono f1.size)
      clear f2 r4
      go_upto_region 10 with (first | (refine store_blk (cs := tkZero.cells) (Blk.newAt rfl 31 _) rfl 31 (.tmp 7) (.tmp 48) rfl rfl (us := x.cells) rfl Hix.out Hlx.out x.all ?_; intro wd kx hg; have f3 : Below wc.heap.size wc wd := ((Below.refl _ wc).alloc (Nat.le_refl _) _).grown hg (by simp) (by simp)))
      replace f1 := f1.trans (f3.mono f1.size)
      clear hg f3
      generalize wc.heap.size = gx at *
      have r4 := (rm.below f1).more f1.size
      go_wp2_with fail
      refine (refRead6_any A n c b wd r4 (by omega) hnc).mono ?_
      rintro e we ⟨rfl, f2⟩
      rw [HRX.out]
      rw [hxv]
      have lx := kx.lt
      replace kx := kx.below f2 lx
      replace f1 := f1.trans (f2.mono f1.size)
      clear f2 r4
      go_upto_region 11 with (first | (refine store_blk (cs := tkZero.cells) (Blk.newAt rfl 31 _) rfl 31 (.tmp 9) (.tmp 53) rfl rfl (us := x.cells) rfl Hix.out Hlx.out x.all ?_; intro wf ky hg; have f3 : Below we.heap.size we wf := ((Below.refl _ we).alloc (Nat.le_refl _) _).grown hg (by simp) (by simp)))
      have lx2 := kx.lt
      replace kx := kx.below f3 lx2
      replace f1 := f1.trans (f3.mono f1.size)
      clear hg f3
      generalize we.heap.size = gy at *
      have ke := fun w : World => run_tok_eq x x hxm hxm w
      rw [tkEq_self] at ke
      rcases HEX.out with rfl | rfl
      · go_wp2_with (first | (refine load_blk kx rfl 31 (.tmp 7) rfl rfl Try.underlying31 Hix.out ?_) | (refine load_blk ky rfl 31 (.tmp 9) rfl rfl Try.underlying31 Hix.out ?_))
        refine (awake6_any _).mono ?_
        rintro e w9 ⟨rfl, f9⟩
        go_wp2_with fail
        go_ret
        exact ⟨rfl, f1.trans (f9.mono f1.size)⟩
      · go_wp2_with (first | (refine load_blk kx rfl 31 (.tmp 7) rfl rfl Try.underlying31 Hix.out ?_) | (refine load_blk ky rfl 31 (.tmp 9) rfl rfl Try.underlying31 Hix.out ?_))
        refine (awake6_any _).mono ?_
        rintro e w9 ⟨rfl, f9⟩
        go_wp2_with fail
        go_ret
        exact ⟨rfl, f1.trans (f9.mono f1.size)⟩
end Go.Proofs.Ytgefbgjgcjiceaa
