/- The law TokenBack, walked. No condition. -/
import Derived.Test.YtgefbgjgcjiceaaTokIs
import Derived.Test.YtgefbgjgcjiceaaTokBk
import Derived.Test.YtgefbgjgcjiceaaFacts
import Derived.Deep.DeepCutAuto
namespace Go.Proofs.Ytgefbgjgcjiceaa
open Go.RowKit
set_option linter.unusedSimpArgs false
set_option linter.unusedVariables false
theorem rem_nat (a : Int) (L : Nat) (hL : 0 < L) : ∃ k : Nat, (max 0 a).tmod (L : Int) = (k : Int) ∧ k < L := by
  refine ⟨(max 0 a).toNat % L, ?_, Nat.mod_lt _ hL⟩
  rw [Int.tmod_eq_emod_of_nonneg (by omega), Int.natCast_emod, Int.toNat_of_nonneg (by omega)]
theorem tokB_le (t : Tk) (ht : t.ok) (h1 : t.ns.length ≤ 1000) (h2 : t.sa.length ≤ 1000) (h : 0 ≤ t.host ∧ t.host ≤ 9) : (tokB t).length ≤ 100000 ∧ 0 < (tokB t).length := by
  have h3 := saidB_le t ht h1 h2 h
  have h4 := ht.mac
  unfold tokB
  rw [List.length_append]
  omega
theorem readV_app (t : Tk) (ht : t.ok) (hk : tkOk t = true) (r : List UInt8) (n : Nat) (hn : r.length = n) : ∃ (x : Tk) (e : Nat), readV (tokB t ++ r) = (x, e) ∧ x.mac.length = 32 ∧ (((e : Int) == 0) = ((n : Int) == 0)) := by
  by_cases h : r = []
  · subst h
    subst hn
    exact ⟨t, 0, by rw [List.append_nil]; exact readV_own t ht hk, ht.mac, rfl⟩
  · refine ⟨tkZero, 2, readV_more t ht hk r h, rfl, ?_⟩
    have : n ≠ 0 := fun e => h (List.eq_nil_of_length_eq_zero (by omega))
    have h2 : ((n : Int) == 0) = false := by simp; omega
    rw [h2]
    rfl
theorem same_bytes (s t : Tk) (hs : s.ok) (ht : t.ok) (ks : tkOk s = true) (kt : tkOk t = true) : (tokB t == tokB s) = tkEq s t := by
  rw [Bool.eq_iff_iff, beq_iff_eq, tkEq_iff]
  exact ⟨fun h => tokB_inj hs ht ks kt h.symm, fun h => by rw [h]⟩
theorem RdB.take {w : World} {B : Nat} {A : Option Addr} {n : Nat} {l : List UInt8} (h : RdB w B A n l) {k : Nat} (hk : k ≤ n) : RdB w B A k (l.take k) :=
  ⟨by rw [List.length_take, h.1]; omega, fun hp => by
    obtain ⟨b, off, rfl, hb, hj⟩ := h.2 (by omega)
    refine ⟨b, off, rfl, hb, fun j hj' => ?_⟩
    rw [List.length_take] at hj'
    rw [hj j (by omega), List.getElem_take]⟩
attribute [local irreducible] issV sigB tkOk rgOk longB tkNew verN freshB readV tokB tkEq
set_option maxRecDepth 100000 in
set_option maxHeartbeats 4000000 in
theorem tokenBack_walk (w : World) (s : Tk) (hs : s.ok) (t : Tk) (ht : t.ok) (a : Int) (ha1 : -9223372036854775808 ≤ a) (ha2 : a ≤ 9223372036854775807) (A : Option Addr) (n c : Nat) (more : List UInt8) (rm : RdB w w.heap.size A n more) (hnc : n ≤ c) (hcm : c ≤ maxLen) :
    Calls Try.prog 10 #[s.v, t.v, .int .i64 a, .slice A n c] w fun e w' => e = .returned (.bool true) ∧ Below w.heap.size w w' := by
  have hit : (Try.prog.info? 31).map (·.size) = some t.cells.length := by rw [t.len ht.mac]; kernel_rfl
  have Hit := Lib.hid hit; clear hit
  have his : (Try.prog.info? 31).map (·.size) = some s.cells.length := by rw [s.len hs.mac]; kernel_rfl
  have His := Lib.hid his; clear his
  have hlt : tkZero.cells.length = t.cells.length := by rw [t.len ht.mac]; rfl
  have Hlt := Lib.hid hlt; clear hlt
  have hzi : (Try.prog.info? 31).map (·.size) = some tkZero.cells.length := by kernel_rfl
  have Hzi := Lib.hid hzi; clear hzi
  have hml := rm.1
  have htv : t.v = .agg t.cells.toArray := rfl
  have hsv : s.v = .agg s.cells.toArray := rfl
  rw [htv, hsv]
  go_enter Try.func10, Try.ntmps10
  go_upto_region 1 with fail
  refine abs (fun w1 => Blk w1 w.heap.size 31 s.cells ∧ Blk w1 (w.heap.size + 1) 31 t.cells ∧ Below w.heap.size w w1) ⟨(Blk.of_new w _ _).alloc _, Blk.newAt (by simp) _ _, ((Below.refl _ w).alloc (Nat.le_refl _) _).alloc (by simp) _⟩ ?_
  rintro w1 ⟨ks, kt, f1⟩
  go_wp2_with (first | (refine load_blk ks rfl 31 (.tmp 4) rfl rfl Try.underlying31 His.out ?_))
  refine (long_any none 0 0 0 0 s w1).mono ?_
  rintro e w2 ⟨rfl, f2⟩
  have lks := ks.lt
  have lkt := kt.lt
  replace ks := ks.below f2 lks
  replace kt := kt.below f2 lkt
  replace f1 := f1.trans (f2.mono f1.size)
  clear f2
  cases hlg : longB 0 s
  case true =>
    go_wp2_with fail
    refine (awake6_any w2).mono ?_
    rintro e w9 ⟨rfl, f9⟩
    go_wp2_with fail
    go_ret
    exact ⟨rfl, f1.trans (f9.mono f1.size)⟩
  obtain ⟨-, hs1, hs2⟩ := longB_no hlg
  go_wp2_with (first | (refine load_blk_if kt rfl 31 (.tmp 5) rfl rfl Try.underlying31 Hit.out ?_))
  refine (long_any none 0 0 0 0 t w2).mono ?_
  rintro e w3 ⟨rfl, f2⟩
  have lks := ks.lt
  have lkt := kt.lt
  replace ks := ks.below f2 lks
  replace kt := kt.below f2 lkt
  replace f1 := f1.trans (f2.mono f1.size)
  clear f2
  cases hlg2 : longB 0 t
  case true =>
    go_wp2_with fail
    refine (awake6_any w3).mono ?_
    rintro e w9 ⟨rfl, f9⟩
    go_wp2_with fail
    go_ret
    exact ⟨rfl, f1.trans (f9.mono f1.size)⟩
  obtain ⟨-, ht1, ht2⟩ := longB_no hlg2
  by_cases hn : 100 < n
  · have d1 : decide ((100 : Int) < (n : Int)) = true := by simp; omega
    go_wp2_with fail
    refine (awake6_any w3).mono ?_
    rintro e w9 ⟨rfl, f9⟩
    go_wp2_with fail
    go_ret
    exact ⟨rfl, f1.trans (f9.mono f1.size)⟩
  have d1 : decide ((100 : Int) < (n : Int)) = false := by simp; omega
  go_wp2_with (first | (refine load_blk kt rfl 31 (.tmp 5) rfl rfl Try.underlying31 Hit.out ?_))
  rw [← htv]
  cases hkt : tkOk t
  case false =>
    refine (tokBytes_no t ht hkt w3).mono ?_
    rintro e w4 ⟨rfl, f2⟩
    replace f1 := f1.trans (f2.mono f1.size)
    go_wp2_with fail
    refine (awake6_any w4).mono ?_
    rintro e w9 ⟨rfl, f9⟩
    go_wp2_with fail
    go_ret
    exact ⟨rfl, f1.trans (f9.mono f1.size)⟩
  refine (tokBytes_yes t ht (by omega) (by omega) hkt w3).mono ?_
  rintro e w4 ⟨A1, c1, rfl, ow, f2⟩
  have lks := ks.lt
  have lkt := kt.lt
  replace ks := ks.below f2 lks
  replace kt := kt.below f2 lkt
  replace f1 := f1.trans (f2.mono f1.size)
  have s3 : w.heap.size + 1 < w3.heap.size := lkt
  clear f2
  obtain ⟨hL1, hL0⟩ := tokB_le t ht (by omega) (by omega) (by have := tkOk_host hkt; omega)
  have hcap := ow.cap
  have hwl := ow.len
  have hRO := readV_own t ht hkt
  have HRO := Lib.hid hRO; clear hRO
  have hRC := readV_cut t ht hkt
  have HRC := Lib.hid hRC; clear hRC
  have hRA := readV_app t ht hkt more n hml
  have HRA := Lib.hid hRA; clear hRA
  have hSB := fun ks => same_bytes s t hs ht ks hkt
  have HSB := Lib.hid hSB; clear hSB
  generalize tokB t = TB at *
  generalize hL : TB.length = L at *
  have d4 : ((L : Int) == 0) = false := by simp; omega
  go_wp2_with fail
  refine (read_any A1 L c1 TB w4 ow.rd (by omega)).mono ?_
  rintro e w5 ⟨rfl, f2⟩
  rw [HRO.out]
  rw [htv]
  have lks := ks.lt
  have lkt := kt.lt
  replace ks := ks.below f2 lks
  replace kt := kt.below f2 lkt
  replace ow := ow.below (Nat.le_refl _) f2
  replace f1 := f1.trans (f2.mono f1.size)
  clear f2
  go_upto_region 7 with (first | (refine store_blk (cs := tkZero.cells) (Blk.newAt rfl 31 _) rfl 31 (.tmp 11) (.tmp 53) rfl rfl (us := t.cells) rfl Hit.out Hlt.out t.all ?_; intro w6 kx hg; have f3 : Below w5.heap.size w5 w6 := ((Below.refl _ w5).alloc (Nat.le_refl _) _).grown hg (by simp) (by simp)))
  have lks := ks.lt
  have lkt := kt.lt
  replace ks := ks.below f3 lks
  replace kt := kt.below f3 lkt
  replace ow := ow.below (Nat.le_refl _) f3
  replace f1 := f1.trans (f3.mono f1.size)
  clear hg f3
  generalize w5.heap.size = gx at *
  obtain ⟨k, hk, hkL⟩ := rem_nat a L hL0
  have b1 : (0 : Int) ≤ (k : Int) := by omega
  have b2 : (k : Int) ≤ (c1 : Int) := by omega
  have r2 := ow.rd.take (k := k) (by omega)
  have hne : ((L : Int) == 0) = false := d4
  go_wp2_with fail
  refine (read_any A1 k c1 (TB.take k) w6 r2 (by omega)).mono ?_
  rintro e w7 ⟨rfl, f2⟩
  rw [HRC.out k hkL]
  have hzv : tkZero.v = .agg tkZero.cells.toArray := rfl
  rw [hzv]
  clear r2 hk b1 b2
  have lks := ks.lt
  have lkt := kt.lt
  have lkx := kx.lt
  replace ks := ks.below f2 lks
  replace kt := kt.below f2 lkt
  replace kx := kx.below f2 lkx
  replace ow := ow.below (Nat.le_refl _) f2
  replace f1 := f1.trans (f2.mono f1.size)
  clear f2
  go_upto_region 8 with (first | (refine store_blk (cs := tkZero.cells) (Blk.newAt rfl 31 _) rfl 31 (.tmp 13) (.tmp 64) rfl rfl (us := tkZero.cells) rfl Hzi.out rfl tkZero.all ?_; intro w8 ky hg; have f3 : Below w7.heap.size w7 w8 := ((Below.refl _ w7).alloc (Nat.le_refl _) _).grown hg (by simp) (by simp)))
  have lks := ks.lt
  have lkt := kt.lt
  have lkx := kx.lt
  replace ks := ks.below f3 lks
  replace kt := kt.below f3 lkt
  replace kx := kx.below f3 lkx
  replace ow := ow.below (Nat.le_refl _) f3
  replace f1 := f1.trans (f3.mono f1.size)
  clear hg f3 ky
  generalize w7.heap.size = gy at *
  obtain ⟨x, ex, hrx, hxm, hxe⟩ := HRA.out
  have hix : (Try.prog.info? 31).map (·.size) = some x.cells.length := by rw [x.len hxm]; kernel_rfl
  have Hix := Lib.hid hix; clear hix
  have hlx : tkZero.cells.length = x.cells.length := by rw [x.len hxm]; rfl
  have Hlx := Lib.hid hlx; clear hlx
  have HRX := Lib.hid hrx; clear hrx HRA
  have s8 := f1.size
  have r8 := ow.rd
  have m8 := (rm.below f1).more s8
  go_wp2_with (first
    | (at_builtin; refine appendR T23 rfl rfl rfl o5 rfl (m8.below f5) (by omega) f5 (Nat.le_refl _) ?_; intro A6 c6 wb o6 f6 _)
    | (at_builtin; go_must (refine appendR T23 rfl rfl rfl (OwnB.of_blk (l := []) (Blk.of_new w8 _ _) (Nat.le_refl _) rfl (by simp [maxLen])) rfl (r8.below ((Below.refl _ w8).alloc (Nat.le_refl _) _)) (by omega) ((Below.refl _ w8).alloc (Nat.le_refl _) _) (Nat.le_refl _) ?_); intro A5 c5 wa o5 f5 _; rw [Nat.zero_add, List.nil_append] at o5; try rw [Nat.zero_add]))
  refine (read_any A6 (L + n) c6 (TB ++ more) wb o6.rd (by omega)).mono ?_
  rintro e wc ⟨rfl, f7⟩
  rw [HRX.out]
  have hxv : x.v = .agg x.cells.toArray := rfl
  rw [hxv]
  clear o5 f5 o6
  replace f7 := f6.trans (f7.mono f6.size)
  have lks := ks.lt
  have lkt := kt.lt
  have lkx := kx.lt
  replace ks := ks.below f7 lks
  replace kt := kt.below f7 lkt
  replace kx := kx.below f7 lkx
  replace ow := ow.below (Nat.le_refl _) f7
  replace f1 := f1.trans (f7.mono f1.size)
  clear f7 f6 r8 m8
  go_upto_region 9 with (first | (refine store_blk (cs := tkZero.cells) (Blk.newAt rfl 31 _) rfl 31 (.tmp 15) (.tmp 73) rfl rfl (us := x.cells) rfl Hix.out Hlx.out x.all ?_; intro wd ky hg; have f3 : Below wc.heap.size wc wd := ((Below.refl _ wc).alloc (Nat.le_refl _) _).grown hg (by simp) (by simp)))
  have lks := ks.lt
  have lkt := kt.lt
  have lkx := kx.lt
  replace ks := ks.below f3 lks
  replace kt := kt.below f3 lkt
  replace kx := kx.below f3 lkx
  replace ow := ow.below (Nat.le_refl _) f3
  replace f1 := f1.trans (f3.mono f1.size)
  clear hg f3 ky HRX Hix Hlx
  generalize wc.heap.size = gz at *
  obtain ⟨hq, hxq⟩ : ∃ q : Bool, ((n : Int) == 0) = q := ⟨_, rfl⟩
  clear Hlt Hzi HRO HRC d4 hne
  cases hks : tkOk s
  · skip
    go_wp2_with (first | (refine load_blk ks rfl 31 (.tmp 4) rfl rfl Try.underlying31 His.out ?_))
    rw [← hsv]
    refine (tokBytes_no s hs hks wd).mono ?_
    rintro e we ⟨rfl, f2⟩
    have hq2 : ((n : Int) == 0) = hq := hxq
    rw [hq2] at hxe
    clear hxq
    have lks := ks.lt
    have lkt := kt.lt
    have lkx := kx.lt
    replace ks := ks.below f2 lks
    replace kt := kt.below f2 lkt
    replace kx := kx.below f2 lkx
    replace ow := ow.below (Nat.le_refl _) f2
    replace f1 := f1.trans (f2.mono f1.size)
    have rb := ow.rd
    clear f2 HSB ow 
    go_upto_region 10 with fail
    obtain ⟨wq, ewq⟩ : ∃ wq : World, wq = we := ⟨_, rfl⟩
    subst ewq
    refine wp_region_facts (fun u => Below wq.heap.size wq u) [
        fun v _ => v = .int .i64 0,
        fun v _ => v = .bool true,
        fun v _ => v = .bool true,
        fun v _ => v = .agg t.cells.toArray,
        fun v _ => v = .agg t.cells.toArray,
        fun v _ => v = .bool true,
        fun v _ => v = .bool true,
        fun v _ => v = .bool true,
        fun v _ => v = .int .i64 2,
        fun v _ => v = .bool true,
        fun v _ => v = .bool true,
        fun v _ => v = .bool true,
        fun v _ => v = .int .i64 (ex : Int),
        fun v _ => v = .bool hq,
        fun v _ => v = .slice A n c,
        fun v _ => v = .int .i64 (n : Int),
        fun v _ => v = .bool hq,
        fun v _ => v = .bool true,
        fun v _ => v = .bool true,
        fun v _ => v = .bool true,
        fun v _ => v = .int .i64 1,
        fun v _ => v = .bool true,
        fun v _ => v = .bool true,
        fun v _ => v = undef,
        fun v _ => v = undef,
        fun v _ => v = undef,
        fun v _ => v = undef,
        fun v _ => v = undef,
        fun v _ => v = undef,
        fun v _ => v = undef,
        fun v _ => v = undef,
        fun v _ => v = undef,
        fun v _ => v = .bool true,
        fun v _ => v = .bool true,
        fun v _ => v = .bool true,
        fun v _ => v = .bool true,
        fun v _ => v = .bool true,
        fun v _ => v = .bool true] (fun u u' => Below u.heap.size u u')
        [[], [0], [1], [2], [2], [2, 3, 4], [2, 5], [6], [7], [7, 8], [7, 9], [10], [11], [11, 12], [11], [11, 14], [11, 15], [11, 13, 16], [11, 17], [18], [19], [19, 20], [19, 21], [22], [22, 23], [22], [22, 25], [22, 24, 26], [22], [22], [22, 28, 29], [22, 27, 30], [19, 22, 31], [19, 32], [33], [34], [34, 35], [36]] []
        (by kernel_rfl) (by kernel_rfl) ?_ (fun _ _ _ _ _ h => h) ((Below.refl _ _).drew) ?_ ?_
    · refine hE_of (fun u u' h f => f.trans (h.mono f.size)) ?_
      repeat' (first | exact mono_nil | refine mono_cons (fun v u u' h => ?_) ?_)
      all_goals exact _root_.id
    ·
      refine owed_cons (fun vs u hS hD N => ?_) ?_
      · clear hD
        intro hN
        simp only [fact, layAt, depOn, dstOf, List.map_cons, List.map_nil, List.foldl_cons, List.foldl_nil, List.getD_cons_zero, List.getD_cons_succ, List.getElem?_cons_zero, List.getElem?_cons_succ, Option.bind_some] at hN ⊢
        go_simp
        have hh := hN _ _ rfl (.inl (Below.refl _ _))
        revert hh
        go_simp
      refine owed_cons (fun vs u hS hD N => ?_) ?_
      · have d0 := hD 0 (by decide)
        simp only [fact, layAt, depOn, dstOf, List.map_cons, List.map_nil, List.foldl_cons, List.foldl_nil, List.getD_cons_zero, List.getD_cons_succ, List.getElem?_cons_zero, List.getElem?_cons_succ, Option.bind_some] at d0
        clear hD
        intro hN
        simp only [fact, layAt, depOn, dstOf, List.map_cons, List.map_nil, List.foldl_cons, List.foldl_nil, List.getD_cons_zero, List.getD_cons_succ, List.getElem?_cons_zero, List.getElem?_cons_succ, Option.bind_some, d0] at hN ⊢
        go_simp
        have hh := hN _ _ rfl (.inl (Below.refl _ _))
        revert hh
        go_simp
      refine owed_cons (fun vs u hS hD N => ?_) ?_
      · have d1 := hD 1 (by decide)
        simp only [fact, layAt, depOn, dstOf, List.map_cons, List.map_nil, List.foldl_cons, List.foldl_nil, List.getD_cons_zero, List.getD_cons_succ, List.getElem?_cons_zero, List.getElem?_cons_succ, Option.bind_some] at d1
        clear hD
        intro hN
        simp only [fact, layAt, depOn, dstOf, List.map_cons, List.map_nil, List.foldl_cons, List.foldl_nil, List.getD_cons_zero, List.getD_cons_succ, List.getElem?_cons_zero, List.getElem?_cons_succ, Option.bind_some, d1] at hN ⊢
        go_simp
        have hh := hN _ _ rfl (.inl (Below.refl _ _))
        revert hh
        go_simp
      refine owed_cons (fun vs u hS hD N => ?_) ?_
      · have d2 := hD 2 (by decide)
        simp only [fact, layAt, depOn, dstOf, List.map_cons, List.map_nil, List.foldl_cons, List.foldl_nil, List.getD_cons_zero, List.getD_cons_succ, List.getElem?_cons_zero, List.getElem?_cons_succ, Option.bind_some] at d2
        clear hD
        intro hN
        simp only [fact, layAt, depOn, dstOf, List.map_cons, List.map_nil, List.foldl_cons, List.foldl_nil, List.getD_cons_zero, List.getD_cons_succ, List.getElem?_cons_zero, List.getElem?_cons_succ, Option.bind_some, d2] at hN ⊢
        rw [if_pos (by rfl)]
        refine wp_load_blk (kx.below hS kx.lt) 31 (.tmp 11) rfl rfl Try.underlying31 Hit.out ?_
        exact hN _ _ rfl (.inl (Below.refl _ _))
      refine owed_cons (fun vs u hS hD N => ?_) ?_
      · have d2 := hD 2 (by decide)
        simp only [fact, layAt, depOn, dstOf, List.map_cons, List.map_nil, List.foldl_cons, List.foldl_nil, List.getD_cons_zero, List.getD_cons_succ, List.getElem?_cons_zero, List.getElem?_cons_succ, Option.bind_some] at d2
        clear hD
        intro hN
        simp only [fact, layAt, depOn, dstOf, List.map_cons, List.map_nil, List.foldl_cons, List.foldl_nil, List.getD_cons_zero, List.getD_cons_succ, List.getElem?_cons_zero, List.getElem?_cons_succ, Option.bind_some, d2] at hN ⊢
        rw [if_pos (by rfl)]
        refine wp_load_blk (kt.below hS kt.lt) 31 (.tmp 5) rfl rfl Try.underlying31 Hit.out ?_
        exact hN _ _ rfl (.inl (Below.refl _ _))
      refine owed_cons (fun vs u hS hD N => ?_) ?_
      · have d2 := hD 2 (by decide)
        simp only [fact, layAt, depOn, dstOf, List.map_cons, List.map_nil, List.foldl_cons, List.foldl_nil, List.getD_cons_zero, List.getD_cons_succ, List.getElem?_cons_zero, List.getElem?_cons_succ, Option.bind_some] at d2
        have d3 := hD 3 (by decide)
        simp only [fact, layAt, depOn, dstOf, List.map_cons, List.map_nil, List.foldl_cons, List.foldl_nil, List.getD_cons_zero, List.getD_cons_succ, List.getElem?_cons_zero, List.getElem?_cons_succ, Option.bind_some] at d3
        have d4 := hD 4 (by decide)
        simp only [fact, layAt, depOn, dstOf, List.map_cons, List.map_nil, List.foldl_cons, List.foldl_nil, List.getD_cons_zero, List.getD_cons_succ, List.getElem?_cons_zero, List.getElem?_cons_succ, Option.bind_some] at d4
        clear hD
        intro hN
        simp only [fact, layAt, depOn, dstOf, List.map_cons, List.map_nil, List.foldl_cons, List.foldl_nil, List.getD_cons_zero, List.getD_cons_succ, List.getElem?_cons_zero, List.getElem?_cons_succ, Option.bind_some, d2, d3, d4] at hN ⊢
        rw [if_pos (by rfl)]
        have q := fun w : World => run_tok_eq t t ht.mac ht.mac w
        rw [tkEq_self] at q
        go_simp
        have hh := hN _ _ rfl (.inl (Below.refl _ _))
        revert hh
        go_simp
      refine owed_cons (fun vs u hS hD N => ?_) ?_
      · have d2 := hD 2 (by decide)
        simp only [fact, layAt, depOn, dstOf, List.map_cons, List.map_nil, List.foldl_cons, List.foldl_nil, List.getD_cons_zero, List.getD_cons_succ, List.getElem?_cons_zero, List.getElem?_cons_succ, Option.bind_some] at d2
        have d5 := hD 5 (by decide)
        simp only [fact, layAt, depOn, dstOf, List.map_cons, List.map_nil, List.foldl_cons, List.foldl_nil, List.getD_cons_zero, List.getD_cons_succ, List.getElem?_cons_zero, List.getElem?_cons_succ, Option.bind_some] at d5
        clear hD
        intro hN
        simp only [fact, layAt, depOn, dstOf, List.map_cons, List.map_nil, List.foldl_cons, List.foldl_nil, List.getD_cons_zero, List.getD_cons_succ, List.getElem?_cons_zero, List.getElem?_cons_succ, Option.bind_some, d2, d5] at hN ⊢
        go_simp
        have hh := hN _ _ rfl (.inl (Below.refl _ _))
        revert hh
        go_simp
      refine owed_cons (fun vs u hS hD N => ?_) ?_
      · have d6 := hD 6 (by decide)
        simp only [fact, layAt, depOn, dstOf, List.map_cons, List.map_nil, List.foldl_cons, List.foldl_nil, List.getD_cons_zero, List.getD_cons_succ, List.getElem?_cons_zero, List.getElem?_cons_succ, Option.bind_some] at d6
        clear hD
        intro hN
        simp only [fact, layAt, depOn, dstOf, List.map_cons, List.map_nil, List.foldl_cons, List.foldl_nil, List.getD_cons_zero, List.getD_cons_succ, List.getElem?_cons_zero, List.getElem?_cons_succ, Option.bind_some, d6] at hN ⊢
        go_simp
        have hh := hN _ _ rfl (.inl (Below.refl _ _))
        revert hh
        go_simp
      refine owed_cons (fun vs u hS hD N => ?_) ?_
      · have d7 := hD 7 (by decide)
        simp only [fact, layAt, depOn, dstOf, List.map_cons, List.map_nil, List.foldl_cons, List.foldl_nil, List.getD_cons_zero, List.getD_cons_succ, List.getElem?_cons_zero, List.getElem?_cons_succ, Option.bind_some] at d7
        clear hD
        intro hN
        simp only [fact, layAt, depOn, dstOf, List.map_cons, List.map_nil, List.foldl_cons, List.foldl_nil, List.getD_cons_zero, List.getD_cons_succ, List.getElem?_cons_zero, List.getElem?_cons_succ, Option.bind_some, d7] at hN ⊢
        go_simp
        have hh := hN _ _ rfl (.inl (Below.refl _ _))
        revert hh
        go_simp
      refine owed_cons (fun vs u hS hD N => ?_) ?_
      · have d7 := hD 7 (by decide)
        simp only [fact, layAt, depOn, dstOf, List.map_cons, List.map_nil, List.foldl_cons, List.foldl_nil, List.getD_cons_zero, List.getD_cons_succ, List.getElem?_cons_zero, List.getElem?_cons_succ, Option.bind_some] at d7
        have d8 := hD 8 (by decide)
        simp only [fact, layAt, depOn, dstOf, List.map_cons, List.map_nil, List.foldl_cons, List.foldl_nil, List.getD_cons_zero, List.getD_cons_succ, List.getElem?_cons_zero, List.getElem?_cons_succ, Option.bind_some] at d8
        clear hD
        intro hN
        simp only [fact, layAt, depOn, dstOf, List.map_cons, List.map_nil, List.foldl_cons, List.foldl_nil, List.getD_cons_zero, List.getD_cons_succ, List.getElem?_cons_zero, List.getElem?_cons_succ, Option.bind_some, d7, d8] at hN ⊢
        go_simp
        have hh := hN _ _ rfl (.inl (Below.refl _ _))
        revert hh
        go_simp
      refine owed_cons (fun vs u hS hD N => ?_) ?_
      · have d7 := hD 7 (by decide)
        simp only [fact, layAt, depOn, dstOf, List.map_cons, List.map_nil, List.foldl_cons, List.foldl_nil, List.getD_cons_zero, List.getD_cons_succ, List.getElem?_cons_zero, List.getElem?_cons_succ, Option.bind_some] at d7
        have d9 := hD 9 (by decide)
        simp only [fact, layAt, depOn, dstOf, List.map_cons, List.map_nil, List.foldl_cons, List.foldl_nil, List.getD_cons_zero, List.getD_cons_succ, List.getElem?_cons_zero, List.getElem?_cons_succ, Option.bind_some] at d9
        clear hD
        intro hN
        simp only [fact, layAt, depOn, dstOf, List.map_cons, List.map_nil, List.foldl_cons, List.foldl_nil, List.getD_cons_zero, List.getD_cons_succ, List.getElem?_cons_zero, List.getElem?_cons_succ, Option.bind_some, d7, d9] at hN ⊢
        go_simp
        have hh := hN _ _ rfl (.inl (Below.refl _ _))
        revert hh
        go_simp
      refine owed_cons (fun vs u hS hD N => ?_) ?_
      · have d10 := hD 10 (by decide)
        simp only [fact, layAt, depOn, dstOf, List.map_cons, List.map_nil, List.foldl_cons, List.foldl_nil, List.getD_cons_zero, List.getD_cons_succ, List.getElem?_cons_zero, List.getElem?_cons_succ, Option.bind_some] at d10
        clear hD
        intro hN
        simp only [fact, layAt, depOn, dstOf, List.map_cons, List.map_nil, List.foldl_cons, List.foldl_nil, List.getD_cons_zero, List.getD_cons_succ, List.getElem?_cons_zero, List.getElem?_cons_succ, Option.bind_some, d10] at hN ⊢
        go_simp
        have hh := hN _ _ rfl (.inl (Below.refl _ _))
        revert hh
        go_simp
      refine owed_cons (fun vs u hS hD N => ?_) ?_
      · have d11 := hD 11 (by decide)
        simp only [fact, layAt, depOn, dstOf, List.map_cons, List.map_nil, List.foldl_cons, List.foldl_nil, List.getD_cons_zero, List.getD_cons_succ, List.getElem?_cons_zero, List.getElem?_cons_succ, Option.bind_some] at d11
        clear hD
        intro hN
        simp only [fact, layAt, depOn, dstOf, List.map_cons, List.map_nil, List.foldl_cons, List.foldl_nil, List.getD_cons_zero, List.getD_cons_succ, List.getElem?_cons_zero, List.getElem?_cons_succ, Option.bind_some, d11] at hN ⊢
        go_simp
        have hh := hN _ _ rfl (.inl (Below.refl _ _))
        revert hh
        go_simp
      refine owed_cons (fun vs u hS hD N => ?_) ?_
      · have d11 := hD 11 (by decide)
        simp only [fact, layAt, depOn, dstOf, List.map_cons, List.map_nil, List.foldl_cons, List.foldl_nil, List.getD_cons_zero, List.getD_cons_succ, List.getElem?_cons_zero, List.getElem?_cons_succ, Option.bind_some] at d11
        have d12 := hD 12 (by decide)
        simp only [fact, layAt, depOn, dstOf, List.map_cons, List.map_nil, List.foldl_cons, List.foldl_nil, List.getD_cons_zero, List.getD_cons_succ, List.getElem?_cons_zero, List.getElem?_cons_succ, Option.bind_some] at d12
        clear hD
        intro hN
        simp only [fact, layAt, depOn, dstOf, List.map_cons, List.map_nil, List.foldl_cons, List.foldl_nil, List.getD_cons_zero, List.getD_cons_succ, List.getElem?_cons_zero, List.getElem?_cons_succ, Option.bind_some, d11, d12] at hN ⊢
        go_simp
        have hh := hN _ _ rfl (.inl (Below.refl _ _))
        revert hh
        go_simp
      refine owed_cons (fun vs u hS hD N => ?_) ?_
      · have d11 := hD 11 (by decide)
        simp only [fact, layAt, depOn, dstOf, List.map_cons, List.map_nil, List.foldl_cons, List.foldl_nil, List.getD_cons_zero, List.getD_cons_succ, List.getElem?_cons_zero, List.getElem?_cons_succ, Option.bind_some] at d11
        clear hD
        intro hN
        simp only [fact, layAt, depOn, dstOf, List.map_cons, List.map_nil, List.foldl_cons, List.foldl_nil, List.getD_cons_zero, List.getD_cons_succ, List.getElem?_cons_zero, List.getElem?_cons_succ, Option.bind_some, d11] at hN ⊢
        go_simp
        have hh := hN _ _ rfl (.inl (Below.refl _ _))
        revert hh
        go_simp
      refine owed_cons (fun vs u hS hD N => ?_) ?_
      · have d11 := hD 11 (by decide)
        simp only [fact, layAt, depOn, dstOf, List.map_cons, List.map_nil, List.foldl_cons, List.foldl_nil, List.getD_cons_zero, List.getD_cons_succ, List.getElem?_cons_zero, List.getElem?_cons_succ, Option.bind_some] at d11
        have d14 := hD 14 (by decide)
        simp only [fact, layAt, depOn, dstOf, List.map_cons, List.map_nil, List.foldl_cons, List.foldl_nil, List.getD_cons_zero, List.getD_cons_succ, List.getElem?_cons_zero, List.getElem?_cons_succ, Option.bind_some] at d14
        clear hD
        intro hN
        simp only [fact, layAt, depOn, dstOf, List.map_cons, List.map_nil, List.foldl_cons, List.foldl_nil, List.getD_cons_zero, List.getD_cons_succ, List.getElem?_cons_zero, List.getElem?_cons_succ, Option.bind_some, d11, d14] at hN ⊢
        go_simp
        have hh := hN _ _ rfl (.inl (Below.refl _ _))
        revert hh
        go_simp
      refine owed_cons (fun vs u hS hD N => ?_) ?_
      · have d11 := hD 11 (by decide)
        simp only [fact, layAt, depOn, dstOf, List.map_cons, List.map_nil, List.foldl_cons, List.foldl_nil, List.getD_cons_zero, List.getD_cons_succ, List.getElem?_cons_zero, List.getElem?_cons_succ, Option.bind_some] at d11
        have d15 := hD 15 (by decide)
        simp only [fact, layAt, depOn, dstOf, List.map_cons, List.map_nil, List.foldl_cons, List.foldl_nil, List.getD_cons_zero, List.getD_cons_succ, List.getElem?_cons_zero, List.getElem?_cons_succ, Option.bind_some] at d15
        clear hD
        intro hN
        simp only [fact, layAt, depOn, dstOf, List.map_cons, List.map_nil, List.foldl_cons, List.foldl_nil, List.getD_cons_zero, List.getD_cons_succ, List.getElem?_cons_zero, List.getElem?_cons_succ, Option.bind_some, d11, d15] at hN ⊢
        go_simp
        have hh := hN _ _ rfl (.inl (Below.refl _ _))
        revert hh
        go_simp
      refine owed_cons (fun vs u hS hD N => ?_) ?_
      · have d11 := hD 11 (by decide)
        simp only [fact, layAt, depOn, dstOf, List.map_cons, List.map_nil, List.foldl_cons, List.foldl_nil, List.getD_cons_zero, List.getD_cons_succ, List.getElem?_cons_zero, List.getElem?_cons_succ, Option.bind_some] at d11
        have d13 := hD 13 (by decide)
        simp only [fact, layAt, depOn, dstOf, List.map_cons, List.map_nil, List.foldl_cons, List.foldl_nil, List.getD_cons_zero, List.getD_cons_succ, List.getElem?_cons_zero, List.getElem?_cons_succ, Option.bind_some] at d13
        have d16 := hD 16 (by decide)
        simp only [fact, layAt, depOn, dstOf, List.map_cons, List.map_nil, List.foldl_cons, List.foldl_nil, List.getD_cons_zero, List.getD_cons_succ, List.getElem?_cons_zero, List.getElem?_cons_succ, Option.bind_some] at d16
        clear hD
        intro hN
        simp only [fact, layAt, depOn, dstOf, List.map_cons, List.map_nil, List.foldl_cons, List.foldl_nil, List.getD_cons_zero, List.getD_cons_succ, List.getElem?_cons_zero, List.getElem?_cons_succ, Option.bind_some, d11, d13, d16] at hN ⊢
        go_simp
        first | exact hN _ _ rfl (.inl (Below.refl _ _)) | (go_simp; exact hN _ _ rfl (.inl (Below.refl _ _))) | (simp; exact hN _ _ rfl (.inl (Below.refl _ _)))
      refine owed_cons (fun vs u hS hD N => ?_) ?_
      · have d11 := hD 11 (by decide)
        simp only [fact, layAt, depOn, dstOf, List.map_cons, List.map_nil, List.foldl_cons, List.foldl_nil, List.getD_cons_zero, List.getD_cons_succ, List.getElem?_cons_zero, List.getElem?_cons_succ, Option.bind_some] at d11
        have d17 := hD 17 (by decide)
        simp only [fact, layAt, depOn, dstOf, List.map_cons, List.map_nil, List.foldl_cons, List.foldl_nil, List.getD_cons_zero, List.getD_cons_succ, List.getElem?_cons_zero, List.getElem?_cons_succ, Option.bind_some] at d17
        clear hD
        intro hN
        simp only [fact, layAt, depOn, dstOf, List.map_cons, List.map_nil, List.foldl_cons, List.foldl_nil, List.getD_cons_zero, List.getD_cons_succ, List.getElem?_cons_zero, List.getElem?_cons_succ, Option.bind_some, d11, d17] at hN ⊢
        go_simp
        have hh := hN _ _ rfl (.inl (Below.refl _ _))
        revert hh
        go_simp
      refine owed_cons (fun vs u hS hD N => ?_) ?_
      · have d18 := hD 18 (by decide)
        simp only [fact, layAt, depOn, dstOf, List.map_cons, List.map_nil, List.foldl_cons, List.foldl_nil, List.getD_cons_zero, List.getD_cons_succ, List.getElem?_cons_zero, List.getElem?_cons_succ, Option.bind_some] at d18
        clear hD
        intro hN
        simp only [fact, layAt, depOn, dstOf, List.map_cons, List.map_nil, List.foldl_cons, List.foldl_nil, List.getD_cons_zero, List.getD_cons_succ, List.getElem?_cons_zero, List.getElem?_cons_succ, Option.bind_some, d18] at hN ⊢
        go_simp
        have hh := hN _ _ rfl (.inl (Below.refl _ _))
        revert hh
        go_simp
      refine owed_cons (fun vs u hS hD N => ?_) ?_
      · have d19 := hD 19 (by decide)
        simp only [fact, layAt, depOn, dstOf, List.map_cons, List.map_nil, List.foldl_cons, List.foldl_nil, List.getD_cons_zero, List.getD_cons_succ, List.getElem?_cons_zero, List.getElem?_cons_succ, Option.bind_some] at d19
        clear hD
        intro hN
        simp only [fact, layAt, depOn, dstOf, List.map_cons, List.map_nil, List.foldl_cons, List.foldl_nil, List.getD_cons_zero, List.getD_cons_succ, List.getElem?_cons_zero, List.getElem?_cons_succ, Option.bind_some, d19] at hN ⊢
        go_simp
        have hh := hN _ _ rfl (.inl (Below.refl _ _))
        revert hh
        go_simp
      refine owed_cons (fun vs u hS hD N => ?_) ?_
      · have d19 := hD 19 (by decide)
        simp only [fact, layAt, depOn, dstOf, List.map_cons, List.map_nil, List.foldl_cons, List.foldl_nil, List.getD_cons_zero, List.getD_cons_succ, List.getElem?_cons_zero, List.getElem?_cons_succ, Option.bind_some] at d19
        have d20 := hD 20 (by decide)
        simp only [fact, layAt, depOn, dstOf, List.map_cons, List.map_nil, List.foldl_cons, List.foldl_nil, List.getD_cons_zero, List.getD_cons_succ, List.getElem?_cons_zero, List.getElem?_cons_succ, Option.bind_some] at d20
        clear hD
        intro hN
        simp only [fact, layAt, depOn, dstOf, List.map_cons, List.map_nil, List.foldl_cons, List.foldl_nil, List.getD_cons_zero, List.getD_cons_succ, List.getElem?_cons_zero, List.getElem?_cons_succ, Option.bind_some, d19, d20] at hN ⊢
        go_simp
        have hh := hN _ _ rfl (.inl (Below.refl _ _))
        revert hh
        go_simp
      refine owed_cons (fun vs u hS hD N => ?_) ?_
      · have d19 := hD 19 (by decide)
        simp only [fact, layAt, depOn, dstOf, List.map_cons, List.map_nil, List.foldl_cons, List.foldl_nil, List.getD_cons_zero, List.getD_cons_succ, List.getElem?_cons_zero, List.getElem?_cons_succ, Option.bind_some] at d19
        have d21 := hD 21 (by decide)
        simp only [fact, layAt, depOn, dstOf, List.map_cons, List.map_nil, List.foldl_cons, List.foldl_nil, List.getD_cons_zero, List.getD_cons_succ, List.getElem?_cons_zero, List.getElem?_cons_succ, Option.bind_some] at d21
        clear hD
        intro hN
        simp only [fact, layAt, depOn, dstOf, List.map_cons, List.map_nil, List.foldl_cons, List.foldl_nil, List.getD_cons_zero, List.getD_cons_succ, List.getElem?_cons_zero, List.getElem?_cons_succ, Option.bind_some, d19, d21] at hN ⊢
        go_simp
        have hh := hN _ _ rfl (.inl (Below.refl _ _))
        revert hh
        go_simp
      refine owed_cons (fun vs u hS hD N => ?_) ?_
      · have d22 := hD 22 (by decide)
        simp only [fact, layAt, depOn, dstOf, List.map_cons, List.map_nil, List.foldl_cons, List.foldl_nil, List.getD_cons_zero, List.getD_cons_succ, List.getElem?_cons_zero, List.getElem?_cons_succ, Option.bind_some] at d22
        clear hD
        intro hN
        simp only [fact, layAt, depOn, dstOf, List.map_cons, List.map_nil, List.foldl_cons, List.foldl_nil, List.getD_cons_zero, List.getD_cons_succ, List.getElem?_cons_zero, List.getElem?_cons_succ, Option.bind_some, d22] at hN ⊢
        go_simp
        have hh := hN _ _ rfl (.inl (Below.refl _ _))
        revert hh
        go_simp
      refine owed_cons (fun vs u hS hD N => ?_) ?_
      · have d22 := hD 22 (by decide)
        simp only [fact, layAt, depOn, dstOf, List.map_cons, List.map_nil, List.foldl_cons, List.foldl_nil, List.getD_cons_zero, List.getD_cons_succ, List.getElem?_cons_zero, List.getElem?_cons_succ, Option.bind_some] at d22
        have d23 := hD 23 (by decide)
        simp only [fact, layAt, depOn, dstOf, List.map_cons, List.map_nil, List.foldl_cons, List.foldl_nil, List.getD_cons_zero, List.getD_cons_succ, List.getElem?_cons_zero, List.getElem?_cons_succ, Option.bind_some] at d23
        clear hD
        intro hN
        simp only [fact, layAt, depOn, dstOf, List.map_cons, List.map_nil, List.foldl_cons, List.foldl_nil, List.getD_cons_zero, List.getD_cons_succ, List.getElem?_cons_zero, List.getElem?_cons_succ, Option.bind_some, d22, d23] at hN ⊢
        go_simp
        have hh := hN _ _ rfl (.inl (Below.refl _ _))
        revert hh
        go_simp
      refine owed_cons (fun vs u hS hD N => ?_) ?_
      · have d22 := hD 22 (by decide)
        simp only [fact, layAt, depOn, dstOf, List.map_cons, List.map_nil, List.foldl_cons, List.foldl_nil, List.getD_cons_zero, List.getD_cons_succ, List.getElem?_cons_zero, List.getElem?_cons_succ, Option.bind_some] at d22
        clear hD
        intro hN
        simp only [fact, layAt, depOn, dstOf, List.map_cons, List.map_nil, List.foldl_cons, List.foldl_nil, List.getD_cons_zero, List.getD_cons_succ, List.getElem?_cons_zero, List.getElem?_cons_succ, Option.bind_some, d22] at hN ⊢
        go_simp
        have hh := hN _ _ rfl (.inl (Below.refl _ _))
        revert hh
        go_simp
      refine owed_cons (fun vs u hS hD N => ?_) ?_
      · have d22 := hD 22 (by decide)
        simp only [fact, layAt, depOn, dstOf, List.map_cons, List.map_nil, List.foldl_cons, List.foldl_nil, List.getD_cons_zero, List.getD_cons_succ, List.getElem?_cons_zero, List.getElem?_cons_succ, Option.bind_some] at d22
        have d25 := hD 25 (by decide)
        simp only [fact, layAt, depOn, dstOf, List.map_cons, List.map_nil, List.foldl_cons, List.foldl_nil, List.getD_cons_zero, List.getD_cons_succ, List.getElem?_cons_zero, List.getElem?_cons_succ, Option.bind_some] at d25
        clear hD
        intro hN
        simp only [fact, layAt, depOn, dstOf, List.map_cons, List.map_nil, List.foldl_cons, List.foldl_nil, List.getD_cons_zero, List.getD_cons_succ, List.getElem?_cons_zero, List.getElem?_cons_succ, Option.bind_some, d22, d25] at hN ⊢
        go_simp
        have hh := hN _ _ rfl (.inl (Below.refl _ _))
        revert hh
        go_simp
      refine owed_cons (fun vs u hS hD N => ?_) ?_
      · have d22 := hD 22 (by decide)
        simp only [fact, layAt, depOn, dstOf, List.map_cons, List.map_nil, List.foldl_cons, List.foldl_nil, List.getD_cons_zero, List.getD_cons_succ, List.getElem?_cons_zero, List.getElem?_cons_succ, Option.bind_some] at d22
        have d24 := hD 24 (by decide)
        simp only [fact, layAt, depOn, dstOf, List.map_cons, List.map_nil, List.foldl_cons, List.foldl_nil, List.getD_cons_zero, List.getD_cons_succ, List.getElem?_cons_zero, List.getElem?_cons_succ, Option.bind_some] at d24
        have d26 := hD 26 (by decide)
        simp only [fact, layAt, depOn, dstOf, List.map_cons, List.map_nil, List.foldl_cons, List.foldl_nil, List.getD_cons_zero, List.getD_cons_succ, List.getElem?_cons_zero, List.getElem?_cons_succ, Option.bind_some] at d26
        clear hD
        intro hN
        simp only [fact, layAt, depOn, dstOf, List.map_cons, List.map_nil, List.foldl_cons, List.foldl_nil, List.getD_cons_zero, List.getD_cons_succ, List.getElem?_cons_zero, List.getElem?_cons_succ, Option.bind_some, d22, d24, d26] at hN ⊢
        go_simp
        have hh := hN _ _ rfl (.inl (Below.refl _ _))
        revert hh
        go_simp
      refine owed_cons (fun vs u hS hD N => ?_) ?_
      · have d22 := hD 22 (by decide)
        simp only [fact, layAt, depOn, dstOf, List.map_cons, List.map_nil, List.foldl_cons, List.foldl_nil, List.getD_cons_zero, List.getD_cons_succ, List.getElem?_cons_zero, List.getElem?_cons_succ, Option.bind_some] at d22
        clear hD
        intro hN
        simp only [fact, layAt, depOn, dstOf, List.map_cons, List.map_nil, List.foldl_cons, List.foldl_nil, List.getD_cons_zero, List.getD_cons_succ, List.getElem?_cons_zero, List.getElem?_cons_succ, Option.bind_some, d22] at hN ⊢
        go_simp
        have hh := hN _ _ rfl (.inl (Below.refl _ _))
        revert hh
        go_simp
      refine owed_cons (fun vs u hS hD N => ?_) ?_
      · have d22 := hD 22 (by decide)
        simp only [fact, layAt, depOn, dstOf, List.map_cons, List.map_nil, List.foldl_cons, List.foldl_nil, List.getD_cons_zero, List.getD_cons_succ, List.getElem?_cons_zero, List.getElem?_cons_succ, Option.bind_some] at d22
        clear hD
        intro hN
        simp only [fact, layAt, depOn, dstOf, List.map_cons, List.map_nil, List.foldl_cons, List.foldl_nil, List.getD_cons_zero, List.getD_cons_succ, List.getElem?_cons_zero, List.getElem?_cons_succ, Option.bind_some, d22] at hN ⊢
        go_simp
        have hh := hN _ _ rfl (.inl (Below.refl _ _))
        revert hh
        go_simp
      refine owed_cons (fun vs u hS hD N => ?_) ?_
      · have d22 := hD 22 (by decide)
        simp only [fact, layAt, depOn, dstOf, List.map_cons, List.map_nil, List.foldl_cons, List.foldl_nil, List.getD_cons_zero, List.getD_cons_succ, List.getElem?_cons_zero, List.getElem?_cons_succ, Option.bind_some] at d22
        have d28 := hD 28 (by decide)
        simp only [fact, layAt, depOn, dstOf, List.map_cons, List.map_nil, List.foldl_cons, List.foldl_nil, List.getD_cons_zero, List.getD_cons_succ, List.getElem?_cons_zero, List.getElem?_cons_succ, Option.bind_some] at d28
        have d29 := hD 29 (by decide)
        simp only [fact, layAt, depOn, dstOf, List.map_cons, List.map_nil, List.foldl_cons, List.foldl_nil, List.getD_cons_zero, List.getD_cons_succ, List.getElem?_cons_zero, List.getElem?_cons_succ, Option.bind_some] at d29
        clear hD
        intro hN
        simp only [fact, layAt, depOn, dstOf, List.map_cons, List.map_nil, List.foldl_cons, List.foldl_nil, List.getD_cons_zero, List.getD_cons_succ, List.getElem?_cons_zero, List.getElem?_cons_succ, Option.bind_some, d22, d28, d29] at hN ⊢
        go_simp
        have hh := hN _ _ rfl (.inl (Below.refl _ _))
        revert hh
        go_simp
      refine owed_cons (fun vs u hS hD N => ?_) ?_
      · have d22 := hD 22 (by decide)
        simp only [fact, layAt, depOn, dstOf, List.map_cons, List.map_nil, List.foldl_cons, List.foldl_nil, List.getD_cons_zero, List.getD_cons_succ, List.getElem?_cons_zero, List.getElem?_cons_succ, Option.bind_some] at d22
        have d27 := hD 27 (by decide)
        simp only [fact, layAt, depOn, dstOf, List.map_cons, List.map_nil, List.foldl_cons, List.foldl_nil, List.getD_cons_zero, List.getD_cons_succ, List.getElem?_cons_zero, List.getElem?_cons_succ, Option.bind_some] at d27
        have d30 := hD 30 (by decide)
        simp only [fact, layAt, depOn, dstOf, List.map_cons, List.map_nil, List.foldl_cons, List.foldl_nil, List.getD_cons_zero, List.getD_cons_succ, List.getElem?_cons_zero, List.getElem?_cons_succ, Option.bind_some] at d30
        clear hD
        intro hN
        simp only [fact, layAt, depOn, dstOf, List.map_cons, List.map_nil, List.foldl_cons, List.foldl_nil, List.getD_cons_zero, List.getD_cons_succ, List.getElem?_cons_zero, List.getElem?_cons_succ, Option.bind_some, d22, d27, d30] at hN ⊢
        go_simp
        have hh := hN _ _ rfl (.inl (Below.refl _ _))
        revert hh
        go_simp
      refine owed_cons (fun vs u hS hD N => ?_) ?_
      · have d19 := hD 19 (by decide)
        simp only [fact, layAt, depOn, dstOf, List.map_cons, List.map_nil, List.foldl_cons, List.foldl_nil, List.getD_cons_zero, List.getD_cons_succ, List.getElem?_cons_zero, List.getElem?_cons_succ, Option.bind_some] at d19
        have d22 := hD 22 (by decide)
        simp only [fact, layAt, depOn, dstOf, List.map_cons, List.map_nil, List.foldl_cons, List.foldl_nil, List.getD_cons_zero, List.getD_cons_succ, List.getElem?_cons_zero, List.getElem?_cons_succ, Option.bind_some] at d22
        have d31 := hD 31 (by decide)
        simp only [fact, layAt, depOn, dstOf, List.map_cons, List.map_nil, List.foldl_cons, List.foldl_nil, List.getD_cons_zero, List.getD_cons_succ, List.getElem?_cons_zero, List.getElem?_cons_succ, Option.bind_some] at d31
        clear hD
        intro hN
        simp only [fact, layAt, depOn, dstOf, List.map_cons, List.map_nil, List.foldl_cons, List.foldl_nil, List.getD_cons_zero, List.getD_cons_succ, List.getElem?_cons_zero, List.getElem?_cons_succ, Option.bind_some, d19, d22, d31] at hN ⊢
        go_simp
        have hh := hN _ _ rfl (.inl (Below.refl _ _))
        revert hh
        go_simp
      refine owed_cons (fun vs u hS hD N => ?_) ?_
      · have d19 := hD 19 (by decide)
        simp only [fact, layAt, depOn, dstOf, List.map_cons, List.map_nil, List.foldl_cons, List.foldl_nil, List.getD_cons_zero, List.getD_cons_succ, List.getElem?_cons_zero, List.getElem?_cons_succ, Option.bind_some] at d19
        have d32 := hD 32 (by decide)
        simp only [fact, layAt, depOn, dstOf, List.map_cons, List.map_nil, List.foldl_cons, List.foldl_nil, List.getD_cons_zero, List.getD_cons_succ, List.getElem?_cons_zero, List.getElem?_cons_succ, Option.bind_some] at d32
        clear hD
        intro hN
        simp only [fact, layAt, depOn, dstOf, List.map_cons, List.map_nil, List.foldl_cons, List.foldl_nil, List.getD_cons_zero, List.getD_cons_succ, List.getElem?_cons_zero, List.getElem?_cons_succ, Option.bind_some, d19, d32] at hN ⊢
        go_simp
        have hh := hN _ _ rfl (.inl (Below.refl _ _))
        revert hh
        go_simp
      refine owed_cons (fun vs u hS hD N => ?_) ?_
      · have d33 := hD 33 (by decide)
        simp only [fact, layAt, depOn, dstOf, List.map_cons, List.map_nil, List.foldl_cons, List.foldl_nil, List.getD_cons_zero, List.getD_cons_succ, List.getElem?_cons_zero, List.getElem?_cons_succ, Option.bind_some] at d33
        clear hD
        intro hN
        simp only [fact, layAt, depOn, dstOf, List.map_cons, List.map_nil, List.foldl_cons, List.foldl_nil, List.getD_cons_zero, List.getD_cons_succ, List.getElem?_cons_zero, List.getElem?_cons_succ, Option.bind_some, d33] at hN ⊢
        go_simp
        have hh := hN _ _ rfl (.inl (Below.refl _ _))
        revert hh
        go_simp
      refine owed_cons (fun vs u hS hD N => ?_) ?_
      · have d34 := hD 34 (by decide)
        simp only [fact, layAt, depOn, dstOf, List.map_cons, List.map_nil, List.foldl_cons, List.foldl_nil, List.getD_cons_zero, List.getD_cons_succ, List.getElem?_cons_zero, List.getElem?_cons_succ, Option.bind_some] at d34
        clear hD
        intro hN
        simp only [fact, layAt, depOn, dstOf, List.map_cons, List.map_nil, List.foldl_cons, List.foldl_nil, List.getD_cons_zero, List.getD_cons_succ, List.getElem?_cons_zero, List.getElem?_cons_succ, Option.bind_some, d34] at hN ⊢
        go_simp
        refine (awake6_any u).mono ?_
        rintro e u' ⟨rfl, f⟩
        have hh := hN _ _ rfl (.inl f)
        revert hh
        go_simp
      refine owed_cons (fun vs u hS hD N => ?_) ?_
      · have d34 := hD 34 (by decide)
        simp only [fact, layAt, depOn, dstOf, List.map_cons, List.map_nil, List.foldl_cons, List.foldl_nil, List.getD_cons_zero, List.getD_cons_succ, List.getElem?_cons_zero, List.getElem?_cons_succ, Option.bind_some] at d34
        have d35 := hD 35 (by decide)
        simp only [fact, layAt, depOn, dstOf, List.map_cons, List.map_nil, List.foldl_cons, List.foldl_nil, List.getD_cons_zero, List.getD_cons_succ, List.getElem?_cons_zero, List.getElem?_cons_succ, Option.bind_some] at d35
        clear hD
        intro hN
        simp only [fact, layAt, depOn, dstOf, List.map_cons, List.map_nil, List.foldl_cons, List.foldl_nil, List.getD_cons_zero, List.getD_cons_succ, List.getElem?_cons_zero, List.getElem?_cons_succ, Option.bind_some, d34, d35] at hN ⊢
        go_simp
        have hh := hN _ _ rfl (.inl (Below.refl _ _))
        revert hh
        go_simp
      refine owed_cons (fun vs u hS hD N => ?_) ?_
      · have d36 := hD 36 (by decide)
        simp only [fact, layAt, depOn, dstOf, List.map_cons, List.map_nil, List.foldl_cons, List.foldl_nil, List.getD_cons_zero, List.getD_cons_succ, List.getElem?_cons_zero, List.getElem?_cons_succ, Option.bind_some] at d36
        clear hD
        intro hN
        simp only [fact, layAt, depOn, dstOf, List.map_cons, List.map_nil, List.foldl_cons, List.foldl_nil, List.getD_cons_zero, List.getD_cons_succ, List.getElem?_cons_zero, List.getElem?_cons_succ, Option.bind_some, d36] at hN ⊢
        go_simp
        have hh := hN _ _ rfl (.inl (Below.refl _ _))
        revert hh
        go_simp
      exact owed_nil
    ·
      intro vs u hS hF
      have d37 := hF 37 (by decide) (by decide)
      simp only [fact, layAt, depOn, dstOf, List.map_cons, List.map_nil, List.foldl_cons, List.foldl_nil, List.getD_cons_zero, List.getD_cons_succ, List.getElem?_cons_zero, List.getElem?_cons_succ, Option.bind_some] at d37
      clear hF
      simp only [List.length_cons, List.length_nil, Nat.reduceAdd, List.range, List.range.loop, fact, layAt, depOn, dstOf, List.map_cons, List.map_nil, List.foldl_cons, List.foldl_nil, List.getD_cons_zero, List.getD_cons_succ, List.getElem?_cons_zero, List.getElem?_cons_succ, Option.bind_some, d37]
      go_simp
      go_wp2_with fail
      go_ret
      exact ⟨rfl, f1.trans (hS.mono f1.size)⟩
  · skip
    go_wp2_with (first | (refine load_blk ks rfl 31 (.tmp 4) rfl rfl Try.underlying31 His.out ?_))
    rw [← hsv]
    refine (tokBytes_yes s hs (by omega) (by omega) hks wd).mono ?_
    rintro e we ⟨A8, c8, rfl, ox, f2⟩
    have hsb := HSB.out hks
    generalize tokB s = TS at *
    generalize hLS : TS.length = LS at *
    have HSQ := Lib.hid hsb; clear hsb
    have rs := ox.rd
    have hq2 : ((n : Int) == 0) = hq := hxq
    rw [hq2] at hxe
    clear hxq
    have lks := ks.lt
    have lkt := kt.lt
    have lkx := kx.lt
    replace ks := ks.below f2 lks
    replace kt := kt.below f2 lkt
    replace kx := kx.below f2 lkx
    replace ow := ow.below (Nat.le_refl _) f2
    replace f1 := f1.trans (f2.mono f1.size)
    have rb := ow.rd
    clear f2 HSB ow ox
    go_upto_region 10 with fail
    obtain ⟨wq, ewq⟩ : ∃ wq : World, wq = we := ⟨_, rfl⟩
    subst ewq
    refine wp_region_facts (fun u => Below wq.heap.size wq u) [
        fun v _ => v = .int .i64 0,
        fun v _ => v = .bool true,
        fun v _ => v = .bool true,
        fun v _ => v = .agg t.cells.toArray,
        fun v _ => v = .agg t.cells.toArray,
        fun v _ => v = .bool true,
        fun v _ => v = .bool true,
        fun v _ => v = .bool true,
        fun v _ => v = .int .i64 2,
        fun v _ => v = .bool true,
        fun v _ => v = .bool true,
        fun v _ => v = .bool true,
        fun v _ => v = .int .i64 (ex : Int),
        fun v _ => v = .bool hq,
        fun v _ => v = .slice A n c,
        fun v _ => v = .int .i64 (n : Int),
        fun v _ => v = .bool hq,
        fun v _ => v = .bool true,
        fun v _ => v = .bool true,
        fun v _ => v = .bool true,
        fun v _ => v = .int .i64 0,
        fun v _ => v = .bool false,
        fun v _ => v = .bool false,
        fun v _ => v = .slice A1 L c1,
        fun v _ => v = .string (strB TB),
        fun v _ => v = .slice A8 LS c8,
        fun v _ => v = .string (strB TS),
        fun v _ => v = .bool (TB == TS),
        fun v _ => v = .agg s.cells.toArray,
        fun v _ => v = .agg t.cells.toArray,
        fun v _ => v = .bool (tkEq s t),
        fun v _ => v = .bool true,
        fun v _ => v = .bool true,
        fun v _ => v = .bool true,
        fun v _ => v = .bool true,
        fun v _ => v = .bool true,
        fun v _ => v = .bool true,
        fun v _ => v = .bool true] (fun u u' => Below u.heap.size u u')
        [[], [0], [1], [2], [2], [2, 3, 4], [2, 5], [6], [7], [7, 8], [7, 9], [10], [11], [11, 12], [11], [11, 14], [11, 15], [11, 13, 16], [11, 17], [18], [19], [19, 20], [19, 21], [22], [22, 23], [22], [22, 25], [22, 24, 26], [22], [22], [22, 28, 29], [22, 27, 30], [19, 22, 31], [19, 32], [33], [34], [34, 35], [36]] []
        (by kernel_rfl) (by kernel_rfl) ?_ (fun _ _ _ _ _ h => h) ((Below.refl _ _).drew) ?_ ?_
    · refine hE_of (fun u u' h f => f.trans (h.mono f.size)) ?_
      repeat' (first | exact mono_nil | refine mono_cons (fun v u u' h => ?_) ?_)
      all_goals exact _root_.id
    ·
      refine owed_cons (fun vs u hS hD N => ?_) ?_
      · clear hD
        intro hN
        simp only [fact, layAt, depOn, dstOf, List.map_cons, List.map_nil, List.foldl_cons, List.foldl_nil, List.getD_cons_zero, List.getD_cons_succ, List.getElem?_cons_zero, List.getElem?_cons_succ, Option.bind_some] at hN ⊢
        go_simp
        have hh := hN _ _ rfl (.inl (Below.refl _ _))
        revert hh
        go_simp
      refine owed_cons (fun vs u hS hD N => ?_) ?_
      · have d0 := hD 0 (by decide)
        simp only [fact, layAt, depOn, dstOf, List.map_cons, List.map_nil, List.foldl_cons, List.foldl_nil, List.getD_cons_zero, List.getD_cons_succ, List.getElem?_cons_zero, List.getElem?_cons_succ, Option.bind_some] at d0
        clear hD
        intro hN
        simp only [fact, layAt, depOn, dstOf, List.map_cons, List.map_nil, List.foldl_cons, List.foldl_nil, List.getD_cons_zero, List.getD_cons_succ, List.getElem?_cons_zero, List.getElem?_cons_succ, Option.bind_some, d0] at hN ⊢
        go_simp
        have hh := hN _ _ rfl (.inl (Below.refl _ _))
        revert hh
        go_simp
      refine owed_cons (fun vs u hS hD N => ?_) ?_
      · have d1 := hD 1 (by decide)
        simp only [fact, layAt, depOn, dstOf, List.map_cons, List.map_nil, List.foldl_cons, List.foldl_nil, List.getD_cons_zero, List.getD_cons_succ, List.getElem?_cons_zero, List.getElem?_cons_succ, Option.bind_some] at d1
        clear hD
        intro hN
        simp only [fact, layAt, depOn, dstOf, List.map_cons, List.map_nil, List.foldl_cons, List.foldl_nil, List.getD_cons_zero, List.getD_cons_succ, List.getElem?_cons_zero, List.getElem?_cons_succ, Option.bind_some, d1] at hN ⊢
        go_simp
        have hh := hN _ _ rfl (.inl (Below.refl _ _))
        revert hh
        go_simp
      refine owed_cons (fun vs u hS hD N => ?_) ?_
      · have d2 := hD 2 (by decide)
        simp only [fact, layAt, depOn, dstOf, List.map_cons, List.map_nil, List.foldl_cons, List.foldl_nil, List.getD_cons_zero, List.getD_cons_succ, List.getElem?_cons_zero, List.getElem?_cons_succ, Option.bind_some] at d2
        clear hD
        intro hN
        simp only [fact, layAt, depOn, dstOf, List.map_cons, List.map_nil, List.foldl_cons, List.foldl_nil, List.getD_cons_zero, List.getD_cons_succ, List.getElem?_cons_zero, List.getElem?_cons_succ, Option.bind_some, d2] at hN ⊢
        rw [if_pos (by rfl)]
        refine wp_load_blk (kx.below hS kx.lt) 31 (.tmp 11) rfl rfl Try.underlying31 Hit.out ?_
        exact hN _ _ rfl (.inl (Below.refl _ _))
      refine owed_cons (fun vs u hS hD N => ?_) ?_
      · have d2 := hD 2 (by decide)
        simp only [fact, layAt, depOn, dstOf, List.map_cons, List.map_nil, List.foldl_cons, List.foldl_nil, List.getD_cons_zero, List.getD_cons_succ, List.getElem?_cons_zero, List.getElem?_cons_succ, Option.bind_some] at d2
        clear hD
        intro hN
        simp only [fact, layAt, depOn, dstOf, List.map_cons, List.map_nil, List.foldl_cons, List.foldl_nil, List.getD_cons_zero, List.getD_cons_succ, List.getElem?_cons_zero, List.getElem?_cons_succ, Option.bind_some, d2] at hN ⊢
        rw [if_pos (by rfl)]
        refine wp_load_blk (kt.below hS kt.lt) 31 (.tmp 5) rfl rfl Try.underlying31 Hit.out ?_
        exact hN _ _ rfl (.inl (Below.refl _ _))
      refine owed_cons (fun vs u hS hD N => ?_) ?_
      · have d2 := hD 2 (by decide)
        simp only [fact, layAt, depOn, dstOf, List.map_cons, List.map_nil, List.foldl_cons, List.foldl_nil, List.getD_cons_zero, List.getD_cons_succ, List.getElem?_cons_zero, List.getElem?_cons_succ, Option.bind_some] at d2
        have d3 := hD 3 (by decide)
        simp only [fact, layAt, depOn, dstOf, List.map_cons, List.map_nil, List.foldl_cons, List.foldl_nil, List.getD_cons_zero, List.getD_cons_succ, List.getElem?_cons_zero, List.getElem?_cons_succ, Option.bind_some] at d3
        have d4 := hD 4 (by decide)
        simp only [fact, layAt, depOn, dstOf, List.map_cons, List.map_nil, List.foldl_cons, List.foldl_nil, List.getD_cons_zero, List.getD_cons_succ, List.getElem?_cons_zero, List.getElem?_cons_succ, Option.bind_some] at d4
        clear hD
        intro hN
        simp only [fact, layAt, depOn, dstOf, List.map_cons, List.map_nil, List.foldl_cons, List.foldl_nil, List.getD_cons_zero, List.getD_cons_succ, List.getElem?_cons_zero, List.getElem?_cons_succ, Option.bind_some, d2, d3, d4] at hN ⊢
        rw [if_pos (by rfl)]
        have q := fun w : World => run_tok_eq t t ht.mac ht.mac w
        rw [tkEq_self] at q
        go_simp
        have hh := hN _ _ rfl (.inl (Below.refl _ _))
        revert hh
        go_simp
      refine owed_cons (fun vs u hS hD N => ?_) ?_
      · have d2 := hD 2 (by decide)
        simp only [fact, layAt, depOn, dstOf, List.map_cons, List.map_nil, List.foldl_cons, List.foldl_nil, List.getD_cons_zero, List.getD_cons_succ, List.getElem?_cons_zero, List.getElem?_cons_succ, Option.bind_some] at d2
        have d5 := hD 5 (by decide)
        simp only [fact, layAt, depOn, dstOf, List.map_cons, List.map_nil, List.foldl_cons, List.foldl_nil, List.getD_cons_zero, List.getD_cons_succ, List.getElem?_cons_zero, List.getElem?_cons_succ, Option.bind_some] at d5
        clear hD
        intro hN
        simp only [fact, layAt, depOn, dstOf, List.map_cons, List.map_nil, List.foldl_cons, List.foldl_nil, List.getD_cons_zero, List.getD_cons_succ, List.getElem?_cons_zero, List.getElem?_cons_succ, Option.bind_some, d2, d5] at hN ⊢
        go_simp
        have hh := hN _ _ rfl (.inl (Below.refl _ _))
        revert hh
        go_simp
      refine owed_cons (fun vs u hS hD N => ?_) ?_
      · have d6 := hD 6 (by decide)
        simp only [fact, layAt, depOn, dstOf, List.map_cons, List.map_nil, List.foldl_cons, List.foldl_nil, List.getD_cons_zero, List.getD_cons_succ, List.getElem?_cons_zero, List.getElem?_cons_succ, Option.bind_some] at d6
        clear hD
        intro hN
        simp only [fact, layAt, depOn, dstOf, List.map_cons, List.map_nil, List.foldl_cons, List.foldl_nil, List.getD_cons_zero, List.getD_cons_succ, List.getElem?_cons_zero, List.getElem?_cons_succ, Option.bind_some, d6] at hN ⊢
        go_simp
        have hh := hN _ _ rfl (.inl (Below.refl _ _))
        revert hh
        go_simp
      refine owed_cons (fun vs u hS hD N => ?_) ?_
      · have d7 := hD 7 (by decide)
        simp only [fact, layAt, depOn, dstOf, List.map_cons, List.map_nil, List.foldl_cons, List.foldl_nil, List.getD_cons_zero, List.getD_cons_succ, List.getElem?_cons_zero, List.getElem?_cons_succ, Option.bind_some] at d7
        clear hD
        intro hN
        simp only [fact, layAt, depOn, dstOf, List.map_cons, List.map_nil, List.foldl_cons, List.foldl_nil, List.getD_cons_zero, List.getD_cons_succ, List.getElem?_cons_zero, List.getElem?_cons_succ, Option.bind_some, d7] at hN ⊢
        go_simp
        have hh := hN _ _ rfl (.inl (Below.refl _ _))
        revert hh
        go_simp
      refine owed_cons (fun vs u hS hD N => ?_) ?_
      · have d7 := hD 7 (by decide)
        simp only [fact, layAt, depOn, dstOf, List.map_cons, List.map_nil, List.foldl_cons, List.foldl_nil, List.getD_cons_zero, List.getD_cons_succ, List.getElem?_cons_zero, List.getElem?_cons_succ, Option.bind_some] at d7
        have d8 := hD 8 (by decide)
        simp only [fact, layAt, depOn, dstOf, List.map_cons, List.map_nil, List.foldl_cons, List.foldl_nil, List.getD_cons_zero, List.getD_cons_succ, List.getElem?_cons_zero, List.getElem?_cons_succ, Option.bind_some] at d8
        clear hD
        intro hN
        simp only [fact, layAt, depOn, dstOf, List.map_cons, List.map_nil, List.foldl_cons, List.foldl_nil, List.getD_cons_zero, List.getD_cons_succ, List.getElem?_cons_zero, List.getElem?_cons_succ, Option.bind_some, d7, d8] at hN ⊢
        go_simp
        have hh := hN _ _ rfl (.inl (Below.refl _ _))
        revert hh
        go_simp
      refine owed_cons (fun vs u hS hD N => ?_) ?_
      · have d7 := hD 7 (by decide)
        simp only [fact, layAt, depOn, dstOf, List.map_cons, List.map_nil, List.foldl_cons, List.foldl_nil, List.getD_cons_zero, List.getD_cons_succ, List.getElem?_cons_zero, List.getElem?_cons_succ, Option.bind_some] at d7
        have d9 := hD 9 (by decide)
        simp only [fact, layAt, depOn, dstOf, List.map_cons, List.map_nil, List.foldl_cons, List.foldl_nil, List.getD_cons_zero, List.getD_cons_succ, List.getElem?_cons_zero, List.getElem?_cons_succ, Option.bind_some] at d9
        clear hD
        intro hN
        simp only [fact, layAt, depOn, dstOf, List.map_cons, List.map_nil, List.foldl_cons, List.foldl_nil, List.getD_cons_zero, List.getD_cons_succ, List.getElem?_cons_zero, List.getElem?_cons_succ, Option.bind_some, d7, d9] at hN ⊢
        go_simp
        have hh := hN _ _ rfl (.inl (Below.refl _ _))
        revert hh
        go_simp
      refine owed_cons (fun vs u hS hD N => ?_) ?_
      · have d10 := hD 10 (by decide)
        simp only [fact, layAt, depOn, dstOf, List.map_cons, List.map_nil, List.foldl_cons, List.foldl_nil, List.getD_cons_zero, List.getD_cons_succ, List.getElem?_cons_zero, List.getElem?_cons_succ, Option.bind_some] at d10
        clear hD
        intro hN
        simp only [fact, layAt, depOn, dstOf, List.map_cons, List.map_nil, List.foldl_cons, List.foldl_nil, List.getD_cons_zero, List.getD_cons_succ, List.getElem?_cons_zero, List.getElem?_cons_succ, Option.bind_some, d10] at hN ⊢
        go_simp
        have hh := hN _ _ rfl (.inl (Below.refl _ _))
        revert hh
        go_simp
      refine owed_cons (fun vs u hS hD N => ?_) ?_
      · have d11 := hD 11 (by decide)
        simp only [fact, layAt, depOn, dstOf, List.map_cons, List.map_nil, List.foldl_cons, List.foldl_nil, List.getD_cons_zero, List.getD_cons_succ, List.getElem?_cons_zero, List.getElem?_cons_succ, Option.bind_some] at d11
        clear hD
        intro hN
        simp only [fact, layAt, depOn, dstOf, List.map_cons, List.map_nil, List.foldl_cons, List.foldl_nil, List.getD_cons_zero, List.getD_cons_succ, List.getElem?_cons_zero, List.getElem?_cons_succ, Option.bind_some, d11] at hN ⊢
        go_simp
        have hh := hN _ _ rfl (.inl (Below.refl _ _))
        revert hh
        go_simp
      refine owed_cons (fun vs u hS hD N => ?_) ?_
      · have d11 := hD 11 (by decide)
        simp only [fact, layAt, depOn, dstOf, List.map_cons, List.map_nil, List.foldl_cons, List.foldl_nil, List.getD_cons_zero, List.getD_cons_succ, List.getElem?_cons_zero, List.getElem?_cons_succ, Option.bind_some] at d11
        have d12 := hD 12 (by decide)
        simp only [fact, layAt, depOn, dstOf, List.map_cons, List.map_nil, List.foldl_cons, List.foldl_nil, List.getD_cons_zero, List.getD_cons_succ, List.getElem?_cons_zero, List.getElem?_cons_succ, Option.bind_some] at d12
        clear hD
        intro hN
        simp only [fact, layAt, depOn, dstOf, List.map_cons, List.map_nil, List.foldl_cons, List.foldl_nil, List.getD_cons_zero, List.getD_cons_succ, List.getElem?_cons_zero, List.getElem?_cons_succ, Option.bind_some, d11, d12] at hN ⊢
        go_simp
        have hh := hN _ _ rfl (.inl (Below.refl _ _))
        revert hh
        go_simp
      refine owed_cons (fun vs u hS hD N => ?_) ?_
      · have d11 := hD 11 (by decide)
        simp only [fact, layAt, depOn, dstOf, List.map_cons, List.map_nil, List.foldl_cons, List.foldl_nil, List.getD_cons_zero, List.getD_cons_succ, List.getElem?_cons_zero, List.getElem?_cons_succ, Option.bind_some] at d11
        clear hD
        intro hN
        simp only [fact, layAt, depOn, dstOf, List.map_cons, List.map_nil, List.foldl_cons, List.foldl_nil, List.getD_cons_zero, List.getD_cons_succ, List.getElem?_cons_zero, List.getElem?_cons_succ, Option.bind_some, d11] at hN ⊢
        go_simp
        have hh := hN _ _ rfl (.inl (Below.refl _ _))
        revert hh
        go_simp
      refine owed_cons (fun vs u hS hD N => ?_) ?_
      · have d11 := hD 11 (by decide)
        simp only [fact, layAt, depOn, dstOf, List.map_cons, List.map_nil, List.foldl_cons, List.foldl_nil, List.getD_cons_zero, List.getD_cons_succ, List.getElem?_cons_zero, List.getElem?_cons_succ, Option.bind_some] at d11
        have d14 := hD 14 (by decide)
        simp only [fact, layAt, depOn, dstOf, List.map_cons, List.map_nil, List.foldl_cons, List.foldl_nil, List.getD_cons_zero, List.getD_cons_succ, List.getElem?_cons_zero, List.getElem?_cons_succ, Option.bind_some] at d14
        clear hD
        intro hN
        simp only [fact, layAt, depOn, dstOf, List.map_cons, List.map_nil, List.foldl_cons, List.foldl_nil, List.getD_cons_zero, List.getD_cons_succ, List.getElem?_cons_zero, List.getElem?_cons_succ, Option.bind_some, d11, d14] at hN ⊢
        go_simp
        have hh := hN _ _ rfl (.inl (Below.refl _ _))
        revert hh
        go_simp
      refine owed_cons (fun vs u hS hD N => ?_) ?_
      · have d11 := hD 11 (by decide)
        simp only [fact, layAt, depOn, dstOf, List.map_cons, List.map_nil, List.foldl_cons, List.foldl_nil, List.getD_cons_zero, List.getD_cons_succ, List.getElem?_cons_zero, List.getElem?_cons_succ, Option.bind_some] at d11
        have d15 := hD 15 (by decide)
        simp only [fact, layAt, depOn, dstOf, List.map_cons, List.map_nil, List.foldl_cons, List.foldl_nil, List.getD_cons_zero, List.getD_cons_succ, List.getElem?_cons_zero, List.getElem?_cons_succ, Option.bind_some] at d15
        clear hD
        intro hN
        simp only [fact, layAt, depOn, dstOf, List.map_cons, List.map_nil, List.foldl_cons, List.foldl_nil, List.getD_cons_zero, List.getD_cons_succ, List.getElem?_cons_zero, List.getElem?_cons_succ, Option.bind_some, d11, d15] at hN ⊢
        go_simp
        have hh := hN _ _ rfl (.inl (Below.refl _ _))
        revert hh
        go_simp
      refine owed_cons (fun vs u hS hD N => ?_) ?_
      · have d11 := hD 11 (by decide)
        simp only [fact, layAt, depOn, dstOf, List.map_cons, List.map_nil, List.foldl_cons, List.foldl_nil, List.getD_cons_zero, List.getD_cons_succ, List.getElem?_cons_zero, List.getElem?_cons_succ, Option.bind_some] at d11
        have d13 := hD 13 (by decide)
        simp only [fact, layAt, depOn, dstOf, List.map_cons, List.map_nil, List.foldl_cons, List.foldl_nil, List.getD_cons_zero, List.getD_cons_succ, List.getElem?_cons_zero, List.getElem?_cons_succ, Option.bind_some] at d13
        have d16 := hD 16 (by decide)
        simp only [fact, layAt, depOn, dstOf, List.map_cons, List.map_nil, List.foldl_cons, List.foldl_nil, List.getD_cons_zero, List.getD_cons_succ, List.getElem?_cons_zero, List.getElem?_cons_succ, Option.bind_some] at d16
        clear hD
        intro hN
        simp only [fact, layAt, depOn, dstOf, List.map_cons, List.map_nil, List.foldl_cons, List.foldl_nil, List.getD_cons_zero, List.getD_cons_succ, List.getElem?_cons_zero, List.getElem?_cons_succ, Option.bind_some, d11, d13, d16] at hN ⊢
        go_simp
        first | exact hN _ _ rfl (.inl (Below.refl _ _)) | (go_simp; exact hN _ _ rfl (.inl (Below.refl _ _))) | (simp; exact hN _ _ rfl (.inl (Below.refl _ _)))
      refine owed_cons (fun vs u hS hD N => ?_) ?_
      · have d11 := hD 11 (by decide)
        simp only [fact, layAt, depOn, dstOf, List.map_cons, List.map_nil, List.foldl_cons, List.foldl_nil, List.getD_cons_zero, List.getD_cons_succ, List.getElem?_cons_zero, List.getElem?_cons_succ, Option.bind_some] at d11
        have d17 := hD 17 (by decide)
        simp only [fact, layAt, depOn, dstOf, List.map_cons, List.map_nil, List.foldl_cons, List.foldl_nil, List.getD_cons_zero, List.getD_cons_succ, List.getElem?_cons_zero, List.getElem?_cons_succ, Option.bind_some] at d17
        clear hD
        intro hN
        simp only [fact, layAt, depOn, dstOf, List.map_cons, List.map_nil, List.foldl_cons, List.foldl_nil, List.getD_cons_zero, List.getD_cons_succ, List.getElem?_cons_zero, List.getElem?_cons_succ, Option.bind_some, d11, d17] at hN ⊢
        go_simp
        have hh := hN _ _ rfl (.inl (Below.refl _ _))
        revert hh
        go_simp
      refine owed_cons (fun vs u hS hD N => ?_) ?_
      · have d18 := hD 18 (by decide)
        simp only [fact, layAt, depOn, dstOf, List.map_cons, List.map_nil, List.foldl_cons, List.foldl_nil, List.getD_cons_zero, List.getD_cons_succ, List.getElem?_cons_zero, List.getElem?_cons_succ, Option.bind_some] at d18
        clear hD
        intro hN
        simp only [fact, layAt, depOn, dstOf, List.map_cons, List.map_nil, List.foldl_cons, List.foldl_nil, List.getD_cons_zero, List.getD_cons_succ, List.getElem?_cons_zero, List.getElem?_cons_succ, Option.bind_some, d18] at hN ⊢
        go_simp
        have hh := hN _ _ rfl (.inl (Below.refl _ _))
        revert hh
        go_simp
      refine owed_cons (fun vs u hS hD N => ?_) ?_
      · have d19 := hD 19 (by decide)
        simp only [fact, layAt, depOn, dstOf, List.map_cons, List.map_nil, List.foldl_cons, List.foldl_nil, List.getD_cons_zero, List.getD_cons_succ, List.getElem?_cons_zero, List.getElem?_cons_succ, Option.bind_some] at d19
        clear hD
        intro hN
        simp only [fact, layAt, depOn, dstOf, List.map_cons, List.map_nil, List.foldl_cons, List.foldl_nil, List.getD_cons_zero, List.getD_cons_succ, List.getElem?_cons_zero, List.getElem?_cons_succ, Option.bind_some, d19] at hN ⊢
        go_simp
        have hh := hN _ _ rfl (.inl (Below.refl _ _))
        revert hh
        go_simp
      refine owed_cons (fun vs u hS hD N => ?_) ?_
      · have d19 := hD 19 (by decide)
        simp only [fact, layAt, depOn, dstOf, List.map_cons, List.map_nil, List.foldl_cons, List.foldl_nil, List.getD_cons_zero, List.getD_cons_succ, List.getElem?_cons_zero, List.getElem?_cons_succ, Option.bind_some] at d19
        have d20 := hD 20 (by decide)
        simp only [fact, layAt, depOn, dstOf, List.map_cons, List.map_nil, List.foldl_cons, List.foldl_nil, List.getD_cons_zero, List.getD_cons_succ, List.getElem?_cons_zero, List.getElem?_cons_succ, Option.bind_some] at d20
        clear hD
        intro hN
        simp only [fact, layAt, depOn, dstOf, List.map_cons, List.map_nil, List.foldl_cons, List.foldl_nil, List.getD_cons_zero, List.getD_cons_succ, List.getElem?_cons_zero, List.getElem?_cons_succ, Option.bind_some, d19, d20] at hN ⊢
        go_simp
        have hh := hN _ _ rfl (.inl (Below.refl _ _))
        revert hh
        go_simp
      refine owed_cons (fun vs u hS hD N => ?_) ?_
      · have d19 := hD 19 (by decide)
        simp only [fact, layAt, depOn, dstOf, List.map_cons, List.map_nil, List.foldl_cons, List.foldl_nil, List.getD_cons_zero, List.getD_cons_succ, List.getElem?_cons_zero, List.getElem?_cons_succ, Option.bind_some] at d19
        have d21 := hD 21 (by decide)
        simp only [fact, layAt, depOn, dstOf, List.map_cons, List.map_nil, List.foldl_cons, List.foldl_nil, List.getD_cons_zero, List.getD_cons_succ, List.getElem?_cons_zero, List.getElem?_cons_succ, Option.bind_some] at d21
        clear hD
        intro hN
        simp only [fact, layAt, depOn, dstOf, List.map_cons, List.map_nil, List.foldl_cons, List.foldl_nil, List.getD_cons_zero, List.getD_cons_succ, List.getElem?_cons_zero, List.getElem?_cons_succ, Option.bind_some, d19, d21] at hN ⊢
        go_simp
        have hh := hN _ _ rfl (.inl (Below.refl _ _))
        revert hh
        go_simp
      refine owed_cons (fun vs u hS hD N => ?_) ?_
      · have d22 := hD 22 (by decide)
        simp only [fact, layAt, depOn, dstOf, List.map_cons, List.map_nil, List.foldl_cons, List.foldl_nil, List.getD_cons_zero, List.getD_cons_succ, List.getElem?_cons_zero, List.getElem?_cons_succ, Option.bind_some] at d22
        clear hD
        intro hN
        simp only [fact, layAt, depOn, dstOf, List.map_cons, List.map_nil, List.foldl_cons, List.foldl_nil, List.getD_cons_zero, List.getD_cons_succ, List.getElem?_cons_zero, List.getElem?_cons_succ, Option.bind_some, d22] at hN ⊢
        go_simp
        have hh := hN _ _ rfl (.inl (Below.refl _ _))
        revert hh
        go_simp
      refine owed_cons (fun vs u hS hD N => ?_) ?_
      · have d22 := hD 22 (by decide)
        simp only [fact, layAt, depOn, dstOf, List.map_cons, List.map_nil, List.foldl_cons, List.foldl_nil, List.getD_cons_zero, List.getD_cons_succ, List.getElem?_cons_zero, List.getElem?_cons_succ, Option.bind_some] at d22
        have d23 := hD 23 (by decide)
        simp only [fact, layAt, depOn, dstOf, List.map_cons, List.map_nil, List.foldl_cons, List.foldl_nil, List.getD_cons_zero, List.getD_cons_succ, List.getElem?_cons_zero, List.getElem?_cons_succ, Option.bind_some] at d23
        clear hD
        intro hN
        simp only [fact, layAt, depOn, dstOf, List.map_cons, List.map_nil, List.foldl_cons, List.foldl_nil, List.getD_cons_zero, List.getD_cons_succ, List.getElem?_cons_zero, List.getElem?_cons_succ, Option.bind_some, d22, d23] at hN ⊢
        rw [if_pos (by rfl)]
        have q := run_str T23 (rb.below hS) c1 9 Try.underlying9
        go_simp
        have hh := hN _ _ rfl (.inl (Below.refl _ _))
        revert hh
        go_simp
      refine owed_cons (fun vs u hS hD N => ?_) ?_
      · have d22 := hD 22 (by decide)
        simp only [fact, layAt, depOn, dstOf, List.map_cons, List.map_nil, List.foldl_cons, List.foldl_nil, List.getD_cons_zero, List.getD_cons_succ, List.getElem?_cons_zero, List.getElem?_cons_succ, Option.bind_some] at d22
        clear hD
        intro hN
        simp only [fact, layAt, depOn, dstOf, List.map_cons, List.map_nil, List.foldl_cons, List.foldl_nil, List.getD_cons_zero, List.getD_cons_succ, List.getElem?_cons_zero, List.getElem?_cons_succ, Option.bind_some, d22] at hN ⊢
        go_simp
        have hh := hN _ _ rfl (.inl (Below.refl _ _))
        revert hh
        go_simp
      refine owed_cons (fun vs u hS hD N => ?_) ?_
      · have d22 := hD 22 (by decide)
        simp only [fact, layAt, depOn, dstOf, List.map_cons, List.map_nil, List.foldl_cons, List.foldl_nil, List.getD_cons_zero, List.getD_cons_succ, List.getElem?_cons_zero, List.getElem?_cons_succ, Option.bind_some] at d22
        have d25 := hD 25 (by decide)
        simp only [fact, layAt, depOn, dstOf, List.map_cons, List.map_nil, List.foldl_cons, List.foldl_nil, List.getD_cons_zero, List.getD_cons_succ, List.getElem?_cons_zero, List.getElem?_cons_succ, Option.bind_some] at d25
        clear hD
        intro hN
        simp only [fact, layAt, depOn, dstOf, List.map_cons, List.map_nil, List.foldl_cons, List.foldl_nil, List.getD_cons_zero, List.getD_cons_succ, List.getElem?_cons_zero, List.getElem?_cons_succ, Option.bind_some, d22, d25] at hN ⊢
        rw [if_pos (by rfl)]
        have q := run_str T23 (rs.below hS) c8 9 Try.underlying9
        go_simp
        have hh := hN _ _ rfl (.inl (Below.refl _ _))
        revert hh
        go_simp
      refine owed_cons (fun vs u hS hD N => ?_) ?_
      · have d22 := hD 22 (by decide)
        simp only [fact, layAt, depOn, dstOf, List.map_cons, List.map_nil, List.foldl_cons, List.foldl_nil, List.getD_cons_zero, List.getD_cons_succ, List.getElem?_cons_zero, List.getElem?_cons_succ, Option.bind_some] at d22
        have d24 := hD 24 (by decide)
        simp only [fact, layAt, depOn, dstOf, List.map_cons, List.map_nil, List.foldl_cons, List.foldl_nil, List.getD_cons_zero, List.getD_cons_succ, List.getElem?_cons_zero, List.getElem?_cons_succ, Option.bind_some] at d24
        have d26 := hD 26 (by decide)
        simp only [fact, layAt, depOn, dstOf, List.map_cons, List.map_nil, List.foldl_cons, List.foldl_nil, List.getD_cons_zero, List.getD_cons_succ, List.getElem?_cons_zero, List.getElem?_cons_succ, Option.bind_some] at d26
        clear hD
        intro hN
        simp only [fact, layAt, depOn, dstOf, List.map_cons, List.map_nil, List.foldl_cons, List.foldl_nil, List.getD_cons_zero, List.getD_cons_succ, List.getElem?_cons_zero, List.getElem?_cons_succ, Option.bind_some, d22, d24, d26] at hN ⊢
        rw [if_pos (by rfl)]
        go_simp
        have hh := hN _ _ rfl (.inl (Below.refl _ _))
        revert hh
        go_simp
      refine owed_cons (fun vs u hS hD N => ?_) ?_
      · have d22 := hD 22 (by decide)
        simp only [fact, layAt, depOn, dstOf, List.map_cons, List.map_nil, List.foldl_cons, List.foldl_nil, List.getD_cons_zero, List.getD_cons_succ, List.getElem?_cons_zero, List.getElem?_cons_succ, Option.bind_some] at d22
        clear hD
        intro hN
        simp only [fact, layAt, depOn, dstOf, List.map_cons, List.map_nil, List.foldl_cons, List.foldl_nil, List.getD_cons_zero, List.getD_cons_succ, List.getElem?_cons_zero, List.getElem?_cons_succ, Option.bind_some, d22] at hN ⊢
        rw [if_pos (by rfl)]
        refine wp_load_blk (ks.below hS ks.lt) 31 (.tmp 4) rfl rfl Try.underlying31 His.out ?_
        exact hN _ _ rfl (.inl (Below.refl _ _))
      refine owed_cons (fun vs u hS hD N => ?_) ?_
      · have d22 := hD 22 (by decide)
        simp only [fact, layAt, depOn, dstOf, List.map_cons, List.map_nil, List.foldl_cons, List.foldl_nil, List.getD_cons_zero, List.getD_cons_succ, List.getElem?_cons_zero, List.getElem?_cons_succ, Option.bind_some] at d22
        clear hD
        intro hN
        simp only [fact, layAt, depOn, dstOf, List.map_cons, List.map_nil, List.foldl_cons, List.foldl_nil, List.getD_cons_zero, List.getD_cons_succ, List.getElem?_cons_zero, List.getElem?_cons_succ, Option.bind_some, d22] at hN ⊢
        rw [if_pos (by rfl)]
        refine wp_load_blk (kt.below hS kt.lt) 31 (.tmp 5) rfl rfl Try.underlying31 Hit.out ?_
        exact hN _ _ rfl (.inl (Below.refl _ _))
      refine owed_cons (fun vs u hS hD N => ?_) ?_
      · have d22 := hD 22 (by decide)
        simp only [fact, layAt, depOn, dstOf, List.map_cons, List.map_nil, List.foldl_cons, List.foldl_nil, List.getD_cons_zero, List.getD_cons_succ, List.getElem?_cons_zero, List.getElem?_cons_succ, Option.bind_some] at d22
        have d28 := hD 28 (by decide)
        simp only [fact, layAt, depOn, dstOf, List.map_cons, List.map_nil, List.foldl_cons, List.foldl_nil, List.getD_cons_zero, List.getD_cons_succ, List.getElem?_cons_zero, List.getElem?_cons_succ, Option.bind_some] at d28
        have d29 := hD 29 (by decide)
        simp only [fact, layAt, depOn, dstOf, List.map_cons, List.map_nil, List.foldl_cons, List.foldl_nil, List.getD_cons_zero, List.getD_cons_succ, List.getElem?_cons_zero, List.getElem?_cons_succ, Option.bind_some] at d29
        clear hD
        intro hN
        simp only [fact, layAt, depOn, dstOf, List.map_cons, List.map_nil, List.foldl_cons, List.foldl_nil, List.getD_cons_zero, List.getD_cons_succ, List.getElem?_cons_zero, List.getElem?_cons_succ, Option.bind_some, d22, d28, d29] at hN ⊢
        rw [if_pos (by rfl)]
        have q := fun w : World => run_tok_eq s t hs.mac ht.mac w
        go_simp
        have hh := hN _ _ rfl (.inl (Below.refl _ _))
        revert hh
        go_simp
      refine owed_cons (fun vs u hS hD N => ?_) ?_
      · have d22 := hD 22 (by decide)
        simp only [fact, layAt, depOn, dstOf, List.map_cons, List.map_nil, List.foldl_cons, List.foldl_nil, List.getD_cons_zero, List.getD_cons_succ, List.getElem?_cons_zero, List.getElem?_cons_succ, Option.bind_some] at d22
        have d27 := hD 27 (by decide)
        simp only [fact, layAt, depOn, dstOf, List.map_cons, List.map_nil, List.foldl_cons, List.foldl_nil, List.getD_cons_zero, List.getD_cons_succ, List.getElem?_cons_zero, List.getElem?_cons_succ, Option.bind_some] at d27
        have d30 := hD 30 (by decide)
        simp only [fact, layAt, depOn, dstOf, List.map_cons, List.map_nil, List.foldl_cons, List.foldl_nil, List.getD_cons_zero, List.getD_cons_succ, List.getElem?_cons_zero, List.getElem?_cons_succ, Option.bind_some] at d30
        clear hD
        intro hN
        simp only [fact, layAt, depOn, dstOf, List.map_cons, List.map_nil, List.foldl_cons, List.foldl_nil, List.getD_cons_zero, List.getD_cons_succ, List.getElem?_cons_zero, List.getElem?_cons_succ, Option.bind_some, d22, d27, d30] at hN ⊢
        rw [if_pos (by rfl)]
        rw [HSQ.out] at hN ⊢
        go_simp
        have hh := hN _ _ rfl (.inl (Below.refl _ _))
        revert hh
        go_simp
      refine owed_cons (fun vs u hS hD N => ?_) ?_
      · have d19 := hD 19 (by decide)
        simp only [fact, layAt, depOn, dstOf, List.map_cons, List.map_nil, List.foldl_cons, List.foldl_nil, List.getD_cons_zero, List.getD_cons_succ, List.getElem?_cons_zero, List.getElem?_cons_succ, Option.bind_some] at d19
        have d22 := hD 22 (by decide)
        simp only [fact, layAt, depOn, dstOf, List.map_cons, List.map_nil, List.foldl_cons, List.foldl_nil, List.getD_cons_zero, List.getD_cons_succ, List.getElem?_cons_zero, List.getElem?_cons_succ, Option.bind_some] at d22
        have d31 := hD 31 (by decide)
        simp only [fact, layAt, depOn, dstOf, List.map_cons, List.map_nil, List.foldl_cons, List.foldl_nil, List.getD_cons_zero, List.getD_cons_succ, List.getElem?_cons_zero, List.getElem?_cons_succ, Option.bind_some] at d31
        clear hD
        intro hN
        simp only [fact, layAt, depOn, dstOf, List.map_cons, List.map_nil, List.foldl_cons, List.foldl_nil, List.getD_cons_zero, List.getD_cons_succ, List.getElem?_cons_zero, List.getElem?_cons_succ, Option.bind_some, d19, d22, d31] at hN ⊢
        go_simp
        have hh := hN _ _ rfl (.inl (Below.refl _ _))
        revert hh
        go_simp
      refine owed_cons (fun vs u hS hD N => ?_) ?_
      · have d19 := hD 19 (by decide)
        simp only [fact, layAt, depOn, dstOf, List.map_cons, List.map_nil, List.foldl_cons, List.foldl_nil, List.getD_cons_zero, List.getD_cons_succ, List.getElem?_cons_zero, List.getElem?_cons_succ, Option.bind_some] at d19
        have d32 := hD 32 (by decide)
        simp only [fact, layAt, depOn, dstOf, List.map_cons, List.map_nil, List.foldl_cons, List.foldl_nil, List.getD_cons_zero, List.getD_cons_succ, List.getElem?_cons_zero, List.getElem?_cons_succ, Option.bind_some] at d32
        clear hD
        intro hN
        simp only [fact, layAt, depOn, dstOf, List.map_cons, List.map_nil, List.foldl_cons, List.foldl_nil, List.getD_cons_zero, List.getD_cons_succ, List.getElem?_cons_zero, List.getElem?_cons_succ, Option.bind_some, d19, d32] at hN ⊢
        go_simp
        have hh := hN _ _ rfl (.inl (Below.refl _ _))
        revert hh
        go_simp
      refine owed_cons (fun vs u hS hD N => ?_) ?_
      · have d33 := hD 33 (by decide)
        simp only [fact, layAt, depOn, dstOf, List.map_cons, List.map_nil, List.foldl_cons, List.foldl_nil, List.getD_cons_zero, List.getD_cons_succ, List.getElem?_cons_zero, List.getElem?_cons_succ, Option.bind_some] at d33
        clear hD
        intro hN
        simp only [fact, layAt, depOn, dstOf, List.map_cons, List.map_nil, List.foldl_cons, List.foldl_nil, List.getD_cons_zero, List.getD_cons_succ, List.getElem?_cons_zero, List.getElem?_cons_succ, Option.bind_some, d33] at hN ⊢
        go_simp
        have hh := hN _ _ rfl (.inl (Below.refl _ _))
        revert hh
        go_simp
      refine owed_cons (fun vs u hS hD N => ?_) ?_
      · have d34 := hD 34 (by decide)
        simp only [fact, layAt, depOn, dstOf, List.map_cons, List.map_nil, List.foldl_cons, List.foldl_nil, List.getD_cons_zero, List.getD_cons_succ, List.getElem?_cons_zero, List.getElem?_cons_succ, Option.bind_some] at d34
        clear hD
        intro hN
        simp only [fact, layAt, depOn, dstOf, List.map_cons, List.map_nil, List.foldl_cons, List.foldl_nil, List.getD_cons_zero, List.getD_cons_succ, List.getElem?_cons_zero, List.getElem?_cons_succ, Option.bind_some, d34] at hN ⊢
        go_simp
        refine (awake6_any u).mono ?_
        rintro e u' ⟨rfl, f⟩
        have hh := hN _ _ rfl (.inl f)
        revert hh
        go_simp
      refine owed_cons (fun vs u hS hD N => ?_) ?_
      · have d34 := hD 34 (by decide)
        simp only [fact, layAt, depOn, dstOf, List.map_cons, List.map_nil, List.foldl_cons, List.foldl_nil, List.getD_cons_zero, List.getD_cons_succ, List.getElem?_cons_zero, List.getElem?_cons_succ, Option.bind_some] at d34
        have d35 := hD 35 (by decide)
        simp only [fact, layAt, depOn, dstOf, List.map_cons, List.map_nil, List.foldl_cons, List.foldl_nil, List.getD_cons_zero, List.getD_cons_succ, List.getElem?_cons_zero, List.getElem?_cons_succ, Option.bind_some] at d35
        clear hD
        intro hN
        simp only [fact, layAt, depOn, dstOf, List.map_cons, List.map_nil, List.foldl_cons, List.foldl_nil, List.getD_cons_zero, List.getD_cons_succ, List.getElem?_cons_zero, List.getElem?_cons_succ, Option.bind_some, d34, d35] at hN ⊢
        go_simp
        have hh := hN _ _ rfl (.inl (Below.refl _ _))
        revert hh
        go_simp
      refine owed_cons (fun vs u hS hD N => ?_) ?_
      · have d36 := hD 36 (by decide)
        simp only [fact, layAt, depOn, dstOf, List.map_cons, List.map_nil, List.foldl_cons, List.foldl_nil, List.getD_cons_zero, List.getD_cons_succ, List.getElem?_cons_zero, List.getElem?_cons_succ, Option.bind_some] at d36
        clear hD
        intro hN
        simp only [fact, layAt, depOn, dstOf, List.map_cons, List.map_nil, List.foldl_cons, List.foldl_nil, List.getD_cons_zero, List.getD_cons_succ, List.getElem?_cons_zero, List.getElem?_cons_succ, Option.bind_some, d36] at hN ⊢
        go_simp
        have hh := hN _ _ rfl (.inl (Below.refl _ _))
        revert hh
        go_simp
      exact owed_nil
    ·
      intro vs u hS hF
      have d37 := hF 37 (by decide) (by decide)
      simp only [fact, layAt, depOn, dstOf, List.map_cons, List.map_nil, List.foldl_cons, List.foldl_nil, List.getD_cons_zero, List.getD_cons_succ, List.getElem?_cons_zero, List.getElem?_cons_succ, Option.bind_some] at d37
      clear hF
      simp only [List.length_cons, List.length_nil, Nat.reduceAdd, List.range, List.range.loop, fact, layAt, depOn, dstOf, List.map_cons, List.map_nil, List.foldl_cons, List.foldl_nil, List.getD_cons_zero, List.getD_cons_succ, List.getElem?_cons_zero, List.getElem?_cons_succ, Option.bind_some, d37]
      go_simp
      go_wp2_with fail
      go_ret
      exact ⟨rfl, f1.trans (hS.mono f1.size)⟩
end Go.Proofs.Ytgefbgjgcjiceaa
