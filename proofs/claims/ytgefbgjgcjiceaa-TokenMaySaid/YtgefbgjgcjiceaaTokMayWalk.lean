/- The law TokenMay, walked. No condition. -/
import Derived.Test.YtgefbgjgcjiceaaTokRingsLaw
import Derived.Test.YtgefbgjgcjiceaaTokTurn
import Derived.Test.YtgefbgjgcjiceaaFacts
import Derived.Deep.DeepCutAuto
namespace Go.Proofs.Ytgefbgjgcjiceaa
open Go.RowKit
set_option linter.unusedSimpArgs false
set_option linter.unusedVariables false
theorem OwnB.addr {w : World} {base e : Nat} {A : Option Addr} {n c : Nat} {l : List UInt8} (h : OwnB w base e (.slice A n c) l) (hn : 0 < n) : ∃ g, A = some ⟨g, 0, none⟩ ∧ base ≤ g ∧ ∀ j, w.frozen? ⟨g, j, none⟩ = false := by
  rcases h.2 with ⟨h1, h2⟩ | ⟨g, cap, cur, h1, h2, h3, _⟩
  · injection h1 with _ h3 _
    omega
  · injection h1 with h4 _ _
    have hb : Blk w g e cur.toList := by unfold Blk; rw [Array.toArray_toList]; exact h3
    exact ⟨g, h4, h2, hb.frozen⟩
theorem byte_inc (b : UInt8) : ((b.toNat : Int) + 1) % 256 = ((b + 1).toNat : Int) := by
  simp
theorem OwnB.setByte {w : World} {base e : Nat} {g n c : Nat} {l : List UInt8} (h : OwnB w base e (.slice (some ⟨g, 0, none⟩) n c) l) {j : Nat} (hj : j < n) (x : UInt8) : OwnB (w.setCell ⟨g, j, none⟩ (bv x)) base e (.slice (some ⟨g, 0, none⟩) n c) (l.set j x) := by
  have hl := h.len
  rcases h.2 with ⟨h1, _⟩ | ⟨g', cap, cur, h1, h2, h3, h4, h5, h6, h7⟩
  · cases h1
  · injection h1 with h8 h9 h10
    injection h8 with h8
    injection h8 with h8 _ _
    subst h8 h10
    have hb : Blk w g e cur.toList := by unfold Blk; rw [Array.toArray_toList]; exact h3
    have hb2 := hb.set j (bv x)
    refine ⟨by simp [bvs], .inr ⟨g, c, (cur.toList.set j (bv x)).toArray, by rw [List.length_set, ← h9], h2, hb2, by rw [List.length_set]; omega, h5, by simpa using h6, ?_⟩⟩
    rw [Nat.mul_one] at h7 ⊢
    rw [List.length_set]
    simp only
    rw [List.take_set, h7]
    simp [bvs]
theorem rotateE_bad {n o m : Nat} (h : rgOk n o m = false) : rotateE n o m = 1 := by unfold rotateE; rw [h]; rfl
theorem retireE_bad {n o m : Nat} (h : rgOk n o m = false) : retireE n o m = 1 := by unfold retireE; rw [h]; rfl
theorem rotateE_yes {n o m : Nat} (h : rgOk n o m = true) (h2 : m < 4611686018427387903) : rotateE n o m = 0 := by unfold rotateE; rw [h]; simp [h2]
theorem rotateE_full {n o m : Nat} (h : rgOk n o m = true) (h2 : ¬ m < 4611686018427387903) : rotateE n o m = 3 := by unfold rotateE; rw [h]; simp [h2]
theorem retireE_yes {n o m : Nat} (h : rgOk n o m = true) (h2 : o < m) : retireE n o m = 0 := by unfold retireE; rw [h]; simp [h2]
theorem retireE_full {n o m : Nat} (h : rgOk n o m = true) (h2 : ¬ o < m) : retireE n o m = 3 := by unfold retireE; rw [h]; simp [h2]
attribute [local irreducible] issV sigB tkOk rgOk longB tkNew verN freshB rotateE retireE
set_option maxRecDepth 100000 in
set_option maxHeartbeats 4000000 in
theorem tokenMay_walk (w : World) (A : Option Addr) (n c o m : Nat) (root : List UInt8) (rl : RdB w w.heap.size A n root) (_ : n ≤ c) (_ : c ≤ maxLen) (ho : o < 18446744073709551616) (hm : m < 18446744073709551616) (t : Tk) (ht : t.ok) (now : Nat) (hnow : now < 18446744073709551616) :
    Calls Try.prog 7 #[rgV A n c o m, t.v, .int .u64 now] w fun e w' => e = .returned (.bool true) ∧ Below w.heap.size w w' := by
  have hit : (Try.prog.info? 31).map (·.size) = some t.cells.length := by rw [t.len ht.mac]; kernel_rfl
  have Hit := Lib.hid hit; clear hit
  have hir : ∀ (A : Option Addr) (n c o m : Nat), (Try.prog.info? 25).map (·.size) = some ([.slice A n c, .int .u64 (o : Int), .int .u64 (m : Int)] : List Value).length := fun _ _ _ _ _ => by kernel_rfl
  have Hir := Lib.hid hir; clear hir
  have htv : t.v = .agg t.cells.toArray := rfl
  rw [htv]
  unfold rgV
  go_enter Try.func7, Try.ntmps7
  go_upto_region 1 with fail
  refine abs (fun w1 => Blk w1 w.heap.size 25 [.slice A n c, .int .u64 (o : Int), .int .u64 (m : Int)] ∧ Blk w1 (w.heap.size + 1) 31 t.cells ∧ Below w.heap.size w w1) ⟨(Blk.of_new w _ _).alloc _, Blk.newAt (by simp) _ _, ((Below.refl _ w).alloc (Nat.le_refl _) _).alloc (by simp) _⟩ ?_
  rintro w1 ⟨kr, kt, f1⟩
  go_wp2_with (first | (refine load_blk kr rfl 25 (.tmp 3) rfl rfl Try.underlying25 (Hir.out _ _ _ _ _) ?_) | (refine load_blk kt rfl 31 (.tmp 4) rfl rfl Try.underlying31 Hit.out ?_))
  refine (long_any A n c o m t w1).mono ?_
  rintro e w2 ⟨rfl, f2⟩
  replace kr := kr.below f2 kr.lt
  replace kt := kt.below f2 kt.lt
  replace f1 := f1.trans (f2.mono f1.size)
  clear f2
  cases hlg : longB n t
  case true =>
    go_wp2_with fail
    refine (awake6_any w2).mono ?_
    rintro e w3 ⟨rfl, f2⟩
    go_wp2_with fail
    go_ret
    exact ⟨rfl, f1.trans (f2.mono f1.size)⟩
  obtain ⟨hl1, hl2, hl3⟩ := longB_no hlg
  have r2 := (rl.below f1).more f1.size
  have hbn := ht.born
  have hfr : freshB t now = (decide (t.born ≤ now) && decide (now - t.born < 100)) := by with_unfolding_all rfl
  have HFR := Lib.hid hfr; clear hfr
  go_upto_region 3 with fail
  go_cut [45] (fun v wx => v = .bool false ∧ Below w2.heap.size w2 wx)
  case first =>
    rename_i J0 K0 hj0 hk0
    by_cases hb : t.born ≤ now
    · have d1 : decide ((t.born : Int) ≤ (now : Int)) = true := by simp; omega
      have hw := IntWalk.u64_in ((now : Int) - (t.born : Int)) (by omega)
      by_cases hb2 : now - t.born < 100
      · have d2 : decide ((now : Int) - (t.born : Int) < 100) = true := by simp; omega
        have hfe : freshB t now = true := by rw [HFR.out]; simp [hb, hb2]
        refine wp_region_facts (fun u => Below w2.heap.size w2 u) [
            fun v _ => v = .agg [.slice A n c, .int .u64 (o : Int), .int .u64 (m : Int)].toArray,
            fun v _ => v = .bool (rgOk n o m),
            fun v _ => v = .agg [.slice A n c, .int .u64 (o : Int), .int .u64 (m : Int)].toArray,
            fun v _ => v = .bool (rgOk n o m),
            fun v _ => v = .bool false,
            fun v _ => v = .bool false,
            fun v _ => v = .agg t.cells.toArray,
            fun v _ => v = .bool (tkOk t),
            fun v _ => v = .agg t.cells.toArray,
            fun v _ => v = .bool (tkOk t),
            fun v _ => v = .bool false,
            fun v _ => v = .bool false,
            fun v _ => v = .bool false,
            fun v _ => v = .agg t.cells.toArray,
            fun v _ => v = .int .u64 (now : Int),
            fun v _ => v = .bool true,
            fun v _ => v = .int .u64 (now : Int),
            fun v _ => v = .pointer (some ⟨w.heap.size + 1, 5, none⟩),
            fun v _ => v = .int .u64 (t.born : Int),
            fun v _ => v = .bool true,
            fun v _ => v = .bool true,
            fun v _ => v = .int .u64 (now : Int),
            fun v _ => v = .pointer (some ⟨w.heap.size + 1, 5, none⟩),
            fun v _ => v = .int .u64 (t.born : Int),
            fun v _ => v = .int .u64 ((now : Int) - (t.born : Int)),
            fun v _ => v = .bool true,
            fun v _ => v = .bool true,
            fun v _ => v = .bool false,
            fun v _ => v = .bool false] (fun u u' => Below u.heap.size u u')
            [[], [0], [], [2], [1, 3], [4], [5], [5, 6], [5], [5, 8], [5, 7, 9], [5, 10], [11], [12], [12], [12, 13, 14], [12], [12], [12, 17], [12, 16, 18], [12, 19], [20], [20], [20, 22], [20, 21, 23], [20, 24], [12, 20, 25], [12, 15, 26], [12, 27]] []
            (by kernel_rfl) (by kernel_rfl) ?_ (fun _ _ _ _ _ h => h) ((Below.refl _ _).drew) ?_ ?_
        · refine hE_of (fun u u' h f => f.trans (h.mono f.size)) ?_
          repeat' (first | exact mono_nil | refine mono_cons (fun v u u' h => ?_) ?_)
          all_goals exact _root_.id
        ·
          refine owed_cons (fun vs u hS hD N => ?_) ?_
          · clear hD
            intro hN
            simp only [fact, layAt, depOn, dstOf, List.map_cons, List.map_nil, List.foldl_cons, List.foldl_nil, List.getD_cons_zero, List.getD_cons_succ, List.getElem?_cons_zero, List.getElem?_cons_succ, Option.bind_some] at hN ⊢
            rw [if_pos (by rfl)]
            refine wp_load_blk (kr.below hS kr.lt) 25 (.tmp 3) rfl rfl Try.underlying25 (Hir.out _ _ _ _ _) ?_
            exact hN _ _ rfl (.inl (Below.refl _ _))
          refine owed_cons (fun vs u hS hD N => ?_) ?_
          · have d0 := hD 0 (by decide)
            simp only [fact, layAt, depOn, dstOf, List.map_cons, List.map_nil, List.foldl_cons, List.foldl_nil, List.getD_cons_zero, List.getD_cons_succ, List.getElem?_cons_zero, List.getElem?_cons_succ, Option.bind_some] at d0
            clear hD
            intro hN
            simp only [fact, layAt, depOn, dstOf, List.map_cons, List.map_nil, List.foldl_cons, List.foldl_nil, List.getD_cons_zero, List.getD_cons_succ, List.getElem?_cons_zero, List.getElem?_cons_succ, Option.bind_some, d0] at hN ⊢
            go_simp
            refine (mayRing_any A n c o m u).mono ?_
            rintro e u' ⟨rfl, f⟩
            have hh := hN _ _ rfl (.inl f)
            revert hh
            go_simp
          refine owed_cons (fun vs u hS hD N => ?_) ?_
          · clear hD
            intro hN
            simp only [fact, layAt, depOn, dstOf, List.map_cons, List.map_nil, List.foldl_cons, List.foldl_nil, List.getD_cons_zero, List.getD_cons_succ, List.getElem?_cons_zero, List.getElem?_cons_succ, Option.bind_some] at hN ⊢
            rw [if_pos (by rfl)]
            refine wp_load_blk (kr.below hS kr.lt) 25 (.tmp 3) rfl rfl Try.underlying25 (Hir.out _ _ _ _ _) ?_
            exact hN _ _ rfl (.inl (Below.refl _ _))
          refine owed_cons (fun vs u hS hD N => ?_) ?_
          · have d2 := hD 2 (by decide)
            simp only [fact, layAt, depOn, dstOf, List.map_cons, List.map_nil, List.foldl_cons, List.foldl_nil, List.getD_cons_zero, List.getD_cons_succ, List.getElem?_cons_zero, List.getElem?_cons_succ, Option.bind_some] at d2
            clear hD
            intro hN
            simp only [fact, layAt, depOn, dstOf, List.map_cons, List.map_nil, List.foldl_cons, List.foldl_nil, List.getD_cons_zero, List.getD_cons_succ, List.getElem?_cons_zero, List.getElem?_cons_succ, Option.bind_some, d2] at hN ⊢
            go_simp
            refine (refMayRing_any A n c o m u).mono ?_
            rintro e u' ⟨rfl, f⟩
            have hh := hN _ _ rfl (.inl f)
            revert hh
            go_simp
          refine owed_cons (fun vs u hS hD N => ?_) ?_
          · have d1 := hD 1 (by decide)
            simp only [fact, layAt, depOn, dstOf, List.map_cons, List.map_nil, List.foldl_cons, List.foldl_nil, List.getD_cons_zero, List.getD_cons_succ, List.getElem?_cons_zero, List.getElem?_cons_succ, Option.bind_some] at d1
            have d3 := hD 3 (by decide)
            simp only [fact, layAt, depOn, dstOf, List.map_cons, List.map_nil, List.foldl_cons, List.foldl_nil, List.getD_cons_zero, List.getD_cons_succ, List.getElem?_cons_zero, List.getElem?_cons_succ, Option.bind_some] at d3
            clear hD
            intro hN
            simp only [fact, layAt, depOn, dstOf, List.map_cons, List.map_nil, List.foldl_cons, List.foldl_nil, List.getD_cons_zero, List.getD_cons_succ, List.getElem?_cons_zero, List.getElem?_cons_succ, Option.bind_some, d1, d3] at hN ⊢
            go_simp
            have hh := hN _ _ rfl (.inl (Below.refl _ _))
            revert hh
            go_simp
          refine owed_cons (fun vs u hS hD N => ?_) ?_
          · have d4 := hD 4 (by decide)
            simp only [fact, layAt, depOn, dstOf, List.map_cons, List.map_nil, List.foldl_cons, List.foldl_nil, List.getD_cons_zero, List.getD_cons_succ, List.getElem?_cons_zero, List.getElem?_cons_succ, Option.bind_some] at d4
            clear hD
            intro hN
            simp only [fact, layAt, depOn, dstOf, List.map_cons, List.map_nil, List.foldl_cons, List.foldl_nil, List.getD_cons_zero, List.getD_cons_succ, List.getElem?_cons_zero, List.getElem?_cons_succ, Option.bind_some, d4] at hN ⊢
            go_simp
            have hh := hN _ _ rfl (.inl (Below.refl _ _))
            revert hh
            go_simp
          refine owed_cons (fun vs u hS hD N => ?_) ?_
          · have d5 := hD 5 (by decide)
            simp only [fact, layAt, depOn, dstOf, List.map_cons, List.map_nil, List.foldl_cons, List.foldl_nil, List.getD_cons_zero, List.getD_cons_succ, List.getElem?_cons_zero, List.getElem?_cons_succ, Option.bind_some] at d5
            clear hD
            intro hN
            simp only [fact, layAt, depOn, dstOf, List.map_cons, List.map_nil, List.foldl_cons, List.foldl_nil, List.getD_cons_zero, List.getD_cons_succ, List.getElem?_cons_zero, List.getElem?_cons_succ, Option.bind_some, d5] at hN ⊢
            rw [if_pos (by rfl)]
            refine wp_load_blk (kt.below hS kt.lt) 31 (.tmp 4) rfl rfl Try.underlying31 Hit.out ?_
            exact hN _ _ rfl (.inl (Below.refl _ _))
          refine owed_cons (fun vs u hS hD N => ?_) ?_
          · have d5 := hD 5 (by decide)
            simp only [fact, layAt, depOn, dstOf, List.map_cons, List.map_nil, List.foldl_cons, List.foldl_nil, List.getD_cons_zero, List.getD_cons_succ, List.getElem?_cons_zero, List.getElem?_cons_succ, Option.bind_some] at d5
            have d6 := hD 6 (by decide)
            simp only [fact, layAt, depOn, dstOf, List.map_cons, List.map_nil, List.foldl_cons, List.foldl_nil, List.getD_cons_zero, List.getD_cons_succ, List.getElem?_cons_zero, List.getElem?_cons_succ, Option.bind_some] at d6
            clear hD
            intro hN
            simp only [fact, layAt, depOn, dstOf, List.map_cons, List.map_nil, List.foldl_cons, List.foldl_nil, List.getD_cons_zero, List.getD_cons_succ, List.getElem?_cons_zero, List.getElem?_cons_succ, Option.bind_some, d5, d6] at hN ⊢
            go_simp
            refine (tokMay_any t ht u).mono ?_
            rintro e u' ⟨rfl, f⟩
            have hh := hN _ _ rfl (.inl f)
            revert hh
            go_simp
          refine owed_cons (fun vs u hS hD N => ?_) ?_
          · have d5 := hD 5 (by decide)
            simp only [fact, layAt, depOn, dstOf, List.map_cons, List.map_nil, List.foldl_cons, List.foldl_nil, List.getD_cons_zero, List.getD_cons_succ, List.getElem?_cons_zero, List.getElem?_cons_succ, Option.bind_some] at d5
            clear hD
            intro hN
            simp only [fact, layAt, depOn, dstOf, List.map_cons, List.map_nil, List.foldl_cons, List.foldl_nil, List.getD_cons_zero, List.getD_cons_succ, List.getElem?_cons_zero, List.getElem?_cons_succ, Option.bind_some, d5] at hN ⊢
            rw [if_pos (by rfl)]
            refine wp_load_blk (kt.below hS kt.lt) 31 (.tmp 4) rfl rfl Try.underlying31 Hit.out ?_
            exact hN _ _ rfl (.inl (Below.refl _ _))
          refine owed_cons (fun vs u hS hD N => ?_) ?_
          · have d5 := hD 5 (by decide)
            simp only [fact, layAt, depOn, dstOf, List.map_cons, List.map_nil, List.foldl_cons, List.foldl_nil, List.getD_cons_zero, List.getD_cons_succ, List.getElem?_cons_zero, List.getElem?_cons_succ, Option.bind_some] at d5
            have d8 := hD 8 (by decide)
            simp only [fact, layAt, depOn, dstOf, List.map_cons, List.map_nil, List.foldl_cons, List.foldl_nil, List.getD_cons_zero, List.getD_cons_succ, List.getElem?_cons_zero, List.getElem?_cons_succ, Option.bind_some] at d8
            clear hD
            intro hN
            simp only [fact, layAt, depOn, dstOf, List.map_cons, List.map_nil, List.foldl_cons, List.foldl_nil, List.getD_cons_zero, List.getD_cons_succ, List.getElem?_cons_zero, List.getElem?_cons_succ, Option.bind_some, d5, d8] at hN ⊢
            go_simp
            refine (refTokMay_any t ht u).mono ?_
            rintro e u' ⟨rfl, f⟩
            have hh := hN _ _ rfl (.inl f)
            revert hh
            go_simp
          refine owed_cons (fun vs u hS hD N => ?_) ?_
          · have d5 := hD 5 (by decide)
            simp only [fact, layAt, depOn, dstOf, List.map_cons, List.map_nil, List.foldl_cons, List.foldl_nil, List.getD_cons_zero, List.getD_cons_succ, List.getElem?_cons_zero, List.getElem?_cons_succ, Option.bind_some] at d5
            have d7 := hD 7 (by decide)
            simp only [fact, layAt, depOn, dstOf, List.map_cons, List.map_nil, List.foldl_cons, List.foldl_nil, List.getD_cons_zero, List.getD_cons_succ, List.getElem?_cons_zero, List.getElem?_cons_succ, Option.bind_some] at d7
            have d9 := hD 9 (by decide)
            simp only [fact, layAt, depOn, dstOf, List.map_cons, List.map_nil, List.foldl_cons, List.foldl_nil, List.getD_cons_zero, List.getD_cons_succ, List.getElem?_cons_zero, List.getElem?_cons_succ, Option.bind_some] at d9
            clear hD
            intro hN
            simp only [fact, layAt, depOn, dstOf, List.map_cons, List.map_nil, List.foldl_cons, List.foldl_nil, List.getD_cons_zero, List.getD_cons_succ, List.getElem?_cons_zero, List.getElem?_cons_succ, Option.bind_some, d5, d7, d9] at hN ⊢
            go_simp
            have hh := hN _ _ rfl (.inl (Below.refl _ _))
            revert hh
            go_simp
          refine owed_cons (fun vs u hS hD N => ?_) ?_
          · have d5 := hD 5 (by decide)
            simp only [fact, layAt, depOn, dstOf, List.map_cons, List.map_nil, List.foldl_cons, List.foldl_nil, List.getD_cons_zero, List.getD_cons_succ, List.getElem?_cons_zero, List.getElem?_cons_succ, Option.bind_some] at d5
            have d10 := hD 10 (by decide)
            simp only [fact, layAt, depOn, dstOf, List.map_cons, List.map_nil, List.foldl_cons, List.foldl_nil, List.getD_cons_zero, List.getD_cons_succ, List.getElem?_cons_zero, List.getElem?_cons_succ, Option.bind_some] at d10
            clear hD
            intro hN
            simp only [fact, layAt, depOn, dstOf, List.map_cons, List.map_nil, List.foldl_cons, List.foldl_nil, List.getD_cons_zero, List.getD_cons_succ, List.getElem?_cons_zero, List.getElem?_cons_succ, Option.bind_some, d5, d10] at hN ⊢
            go_simp
            have hh := hN _ _ rfl (.inl (Below.refl _ _))
            revert hh
            go_simp
          refine owed_cons (fun vs u hS hD N => ?_) ?_
          · have d11 := hD 11 (by decide)
            simp only [fact, layAt, depOn, dstOf, List.map_cons, List.map_nil, List.foldl_cons, List.foldl_nil, List.getD_cons_zero, List.getD_cons_succ, List.getElem?_cons_zero, List.getElem?_cons_succ, Option.bind_some] at d11
            clear hD
            intro hN
            simp only [fact, layAt, depOn, dstOf, List.map_cons, List.map_nil, List.foldl_cons, List.foldl_nil, List.getD_cons_zero, List.getD_cons_succ, List.getElem?_cons_zero, List.getElem?_cons_succ, Option.bind_some, d11] at hN ⊢
            go_simp
            have hh := hN _ _ rfl (.inl (Below.refl _ _))
            revert hh
            go_simp
          refine owed_cons (fun vs u hS hD N => ?_) ?_
          · have d12 := hD 12 (by decide)
            simp only [fact, layAt, depOn, dstOf, List.map_cons, List.map_nil, List.foldl_cons, List.foldl_nil, List.getD_cons_zero, List.getD_cons_succ, List.getElem?_cons_zero, List.getElem?_cons_succ, Option.bind_some] at d12
            clear hD
            intro hN
            simp only [fact, layAt, depOn, dstOf, List.map_cons, List.map_nil, List.foldl_cons, List.foldl_nil, List.getD_cons_zero, List.getD_cons_succ, List.getElem?_cons_zero, List.getElem?_cons_succ, Option.bind_some, d12] at hN ⊢
            rw [if_pos (by rfl)]
            refine wp_load_blk (kt.below hS kt.lt) 31 (.tmp 4) rfl rfl Try.underlying31 Hit.out ?_
            exact hN _ _ rfl (.inl (Below.refl _ _))
          refine owed_cons (fun vs u hS hD N => ?_) ?_
          · have d12 := hD 12 (by decide)
            simp only [fact, layAt, depOn, dstOf, List.map_cons, List.map_nil, List.foldl_cons, List.foldl_nil, List.getD_cons_zero, List.getD_cons_succ, List.getElem?_cons_zero, List.getElem?_cons_succ, Option.bind_some] at d12
            clear hD
            intro hN
            simp only [fact, layAt, depOn, dstOf, List.map_cons, List.map_nil, List.foldl_cons, List.foldl_nil, List.getD_cons_zero, List.getD_cons_succ, List.getElem?_cons_zero, List.getElem?_cons_succ, Option.bind_some, d12] at hN ⊢
            go_simp
            have hh := hN _ _ rfl (.inl (Below.refl _ _))
            revert hh
            go_simp
          refine owed_cons (fun vs u hS hD N => ?_) ?_
          · have d12 := hD 12 (by decide)
            simp only [fact, layAt, depOn, dstOf, List.map_cons, List.map_nil, List.foldl_cons, List.foldl_nil, List.getD_cons_zero, List.getD_cons_succ, List.getElem?_cons_zero, List.getElem?_cons_succ, Option.bind_some] at d12
            have d13 := hD 13 (by decide)
            simp only [fact, layAt, depOn, dstOf, List.map_cons, List.map_nil, List.foldl_cons, List.foldl_nil, List.getD_cons_zero, List.getD_cons_succ, List.getElem?_cons_zero, List.getElem?_cons_succ, Option.bind_some] at d13
            have d14 := hD 14 (by decide)
            simp only [fact, layAt, depOn, dstOf, List.map_cons, List.map_nil, List.foldl_cons, List.foldl_nil, List.getD_cons_zero, List.getD_cons_succ, List.getElem?_cons_zero, List.getElem?_cons_succ, Option.bind_some] at d14
            clear hD
            intro hN
            simp only [fact, layAt, depOn, dstOf, List.map_cons, List.map_nil, List.foldl_cons, List.foldl_nil, List.getD_cons_zero, List.getD_cons_succ, List.getElem?_cons_zero, List.getElem?_cons_succ, Option.bind_some, d12, d13, d14] at hN ⊢
            go_simp
            refine (fresh_any t ht now hnow u).mono ?_
            rintro e u' ⟨rfl, f⟩
            have hh := hN _ _ rfl (.inl f)
            revert hh
            go_simp
          refine owed_cons (fun vs u hS hD N => ?_) ?_
          · have d12 := hD 12 (by decide)
            simp only [fact, layAt, depOn, dstOf, List.map_cons, List.map_nil, List.foldl_cons, List.foldl_nil, List.getD_cons_zero, List.getD_cons_succ, List.getElem?_cons_zero, List.getElem?_cons_succ, Option.bind_some] at d12
            clear hD
            intro hN
            simp only [fact, layAt, depOn, dstOf, List.map_cons, List.map_nil, List.foldl_cons, List.foldl_nil, List.getD_cons_zero, List.getD_cons_succ, List.getElem?_cons_zero, List.getElem?_cons_succ, Option.bind_some, d12] at hN ⊢
            go_simp
            have hh := hN _ _ rfl (.inl (Below.refl _ _))
            revert hh
            go_simp
          refine owed_cons (fun vs u hS hD N => ?_) ?_
          · have d12 := hD 12 (by decide)
            simp only [fact, layAt, depOn, dstOf, List.map_cons, List.map_nil, List.foldl_cons, List.foldl_nil, List.getD_cons_zero, List.getD_cons_succ, List.getElem?_cons_zero, List.getElem?_cons_succ, Option.bind_some] at d12
            clear hD
            intro hN
            simp only [fact, layAt, depOn, dstOf, List.map_cons, List.map_nil, List.foldl_cons, List.foldl_nil, List.getD_cons_zero, List.getD_cons_succ, List.getElem?_cons_zero, List.getElem?_cons_succ, Option.bind_some, d12] at hN ⊢
            go_simp
            have hh := hN _ _ rfl (.inl (Below.refl _ _))
            revert hh
            go_simp
          have q5 : ∀ u : World, Below w2.heap.size w2 u → u.cell? ⟨w.heap.size + 1, 5, none⟩ = some (.int .u64 (t.born : Int)) := fun u hu => (kt.below hu kt.lt).cell 5
          refine owed_cons (fun vs u hS hD N => ?_) ?_
          · have d12 := hD 12 (by decide)
            simp only [fact, layAt, depOn, dstOf, List.map_cons, List.map_nil, List.foldl_cons, List.foldl_nil, List.getD_cons_zero, List.getD_cons_succ, List.getElem?_cons_zero, List.getElem?_cons_succ, Option.bind_some] at d12
            have d17 := hD 17 (by decide)
            simp only [fact, layAt, depOn, dstOf, List.map_cons, List.map_nil, List.foldl_cons, List.foldl_nil, List.getD_cons_zero, List.getD_cons_succ, List.getElem?_cons_zero, List.getElem?_cons_succ, Option.bind_some] at d17
            clear hD
            intro hN
            simp only [fact, layAt, depOn, dstOf, List.map_cons, List.map_nil, List.foldl_cons, List.foldl_nil, List.getD_cons_zero, List.getD_cons_succ, List.getElem?_cons_zero, List.getElem?_cons_succ, Option.bind_some, d12, d17] at hN ⊢
            go_simp
            have q := q5 _ hS
            go_simp
            have hh := hN _ _ rfl (.inl (Below.refl _ _))
            revert hh
            go_simp
          refine owed_cons (fun vs u hS hD N => ?_) ?_
          · have d12 := hD 12 (by decide)
            simp only [fact, layAt, depOn, dstOf, List.map_cons, List.map_nil, List.foldl_cons, List.foldl_nil, List.getD_cons_zero, List.getD_cons_succ, List.getElem?_cons_zero, List.getElem?_cons_succ, Option.bind_some] at d12
            have d16 := hD 16 (by decide)
            simp only [fact, layAt, depOn, dstOf, List.map_cons, List.map_nil, List.foldl_cons, List.foldl_nil, List.getD_cons_zero, List.getD_cons_succ, List.getElem?_cons_zero, List.getElem?_cons_succ, Option.bind_some] at d16
            have d18 := hD 18 (by decide)
            simp only [fact, layAt, depOn, dstOf, List.map_cons, List.map_nil, List.foldl_cons, List.foldl_nil, List.getD_cons_zero, List.getD_cons_succ, List.getElem?_cons_zero, List.getElem?_cons_succ, Option.bind_some] at d18
            clear hD
            intro hN
            simp only [fact, layAt, depOn, dstOf, List.map_cons, List.map_nil, List.foldl_cons, List.foldl_nil, List.getD_cons_zero, List.getD_cons_succ, List.getElem?_cons_zero, List.getElem?_cons_succ, Option.bind_some, d12, d16, d18] at hN ⊢
            go_simp
            have hh := hN _ _ rfl (.inl (Below.refl _ _))
            revert hh
            go_simp
          refine owed_cons (fun vs u hS hD N => ?_) ?_
          · have d12 := hD 12 (by decide)
            simp only [fact, layAt, depOn, dstOf, List.map_cons, List.map_nil, List.foldl_cons, List.foldl_nil, List.getD_cons_zero, List.getD_cons_succ, List.getElem?_cons_zero, List.getElem?_cons_succ, Option.bind_some] at d12
            have d19 := hD 19 (by decide)
            simp only [fact, layAt, depOn, dstOf, List.map_cons, List.map_nil, List.foldl_cons, List.foldl_nil, List.getD_cons_zero, List.getD_cons_succ, List.getElem?_cons_zero, List.getElem?_cons_succ, Option.bind_some] at d19
            clear hD
            intro hN
            simp only [fact, layAt, depOn, dstOf, List.map_cons, List.map_nil, List.foldl_cons, List.foldl_nil, List.getD_cons_zero, List.getD_cons_succ, List.getElem?_cons_zero, List.getElem?_cons_succ, Option.bind_some, d12, d19] at hN ⊢
            go_simp
            have hh := hN _ _ rfl (.inl (Below.refl _ _))
            revert hh
            go_simp
          refine owed_cons (fun vs u hS hD N => ?_) ?_
          · have d20 := hD 20 (by decide)
            simp only [fact, layAt, depOn, dstOf, List.map_cons, List.map_nil, List.foldl_cons, List.foldl_nil, List.getD_cons_zero, List.getD_cons_succ, List.getElem?_cons_zero, List.getElem?_cons_succ, Option.bind_some] at d20
            clear hD
            intro hN
            simp only [fact, layAt, depOn, dstOf, List.map_cons, List.map_nil, List.foldl_cons, List.foldl_nil, List.getD_cons_zero, List.getD_cons_succ, List.getElem?_cons_zero, List.getElem?_cons_succ, Option.bind_some, d20] at hN ⊢
            go_simp
            have hh := hN _ _ rfl (.inl (Below.refl _ _))
            revert hh
            go_simp
          refine owed_cons (fun vs u hS hD N => ?_) ?_
          · have d20 := hD 20 (by decide)
            simp only [fact, layAt, depOn, dstOf, List.map_cons, List.map_nil, List.foldl_cons, List.foldl_nil, List.getD_cons_zero, List.getD_cons_succ, List.getElem?_cons_zero, List.getElem?_cons_succ, Option.bind_some] at d20
            clear hD
            intro hN
            simp only [fact, layAt, depOn, dstOf, List.map_cons, List.map_nil, List.foldl_cons, List.foldl_nil, List.getD_cons_zero, List.getD_cons_succ, List.getElem?_cons_zero, List.getElem?_cons_succ, Option.bind_some, d20] at hN ⊢
            go_simp
            have hh := hN _ _ rfl (.inl (Below.refl _ _))
            revert hh
            go_simp
          refine owed_cons (fun vs u hS hD N => ?_) ?_
          · have d20 := hD 20 (by decide)
            simp only [fact, layAt, depOn, dstOf, List.map_cons, List.map_nil, List.foldl_cons, List.foldl_nil, List.getD_cons_zero, List.getD_cons_succ, List.getElem?_cons_zero, List.getElem?_cons_succ, Option.bind_some] at d20
            have d22 := hD 22 (by decide)
            simp only [fact, layAt, depOn, dstOf, List.map_cons, List.map_nil, List.foldl_cons, List.foldl_nil, List.getD_cons_zero, List.getD_cons_succ, List.getElem?_cons_zero, List.getElem?_cons_succ, Option.bind_some] at d22
            clear hD
            intro hN
            simp only [fact, layAt, depOn, dstOf, List.map_cons, List.map_nil, List.foldl_cons, List.foldl_nil, List.getD_cons_zero, List.getD_cons_succ, List.getElem?_cons_zero, List.getElem?_cons_succ, Option.bind_some, d20, d22] at hN ⊢
            go_simp
            have q := q5 _ hS
            go_simp
            have hh := hN _ _ rfl (.inl (Below.refl _ _))
            revert hh
            go_simp
          refine owed_cons (fun vs u hS hD N => ?_) ?_
          · have d20 := hD 20 (by decide)
            simp only [fact, layAt, depOn, dstOf, List.map_cons, List.map_nil, List.foldl_cons, List.foldl_nil, List.getD_cons_zero, List.getD_cons_succ, List.getElem?_cons_zero, List.getElem?_cons_succ, Option.bind_some] at d20
            have d21 := hD 21 (by decide)
            simp only [fact, layAt, depOn, dstOf, List.map_cons, List.map_nil, List.foldl_cons, List.foldl_nil, List.getD_cons_zero, List.getD_cons_succ, List.getElem?_cons_zero, List.getElem?_cons_succ, Option.bind_some] at d21
            have d23 := hD 23 (by decide)
            simp only [fact, layAt, depOn, dstOf, List.map_cons, List.map_nil, List.foldl_cons, List.foldl_nil, List.getD_cons_zero, List.getD_cons_succ, List.getElem?_cons_zero, List.getElem?_cons_succ, Option.bind_some] at d23
            clear hD
            intro hN
            simp only [fact, layAt, depOn, dstOf, List.map_cons, List.map_nil, List.foldl_cons, List.foldl_nil, List.getD_cons_zero, List.getD_cons_succ, List.getElem?_cons_zero, List.getElem?_cons_succ, Option.bind_some, d20, d21, d23] at hN ⊢
            go_simp
            have hh := hN _ _ rfl (.inl (Below.refl _ _))
            revert hh
            go_simp
          refine owed_cons (fun vs u hS hD N => ?_) ?_
          · have d20 := hD 20 (by decide)
            simp only [fact, layAt, depOn, dstOf, List.map_cons, List.map_nil, List.foldl_cons, List.foldl_nil, List.getD_cons_zero, List.getD_cons_succ, List.getElem?_cons_zero, List.getElem?_cons_succ, Option.bind_some] at d20
            have d24 := hD 24 (by decide)
            simp only [fact, layAt, depOn, dstOf, List.map_cons, List.map_nil, List.foldl_cons, List.foldl_nil, List.getD_cons_zero, List.getD_cons_succ, List.getElem?_cons_zero, List.getElem?_cons_succ, Option.bind_some] at d24
            clear hD
            intro hN
            simp only [fact, layAt, depOn, dstOf, List.map_cons, List.map_nil, List.foldl_cons, List.foldl_nil, List.getD_cons_zero, List.getD_cons_succ, List.getElem?_cons_zero, List.getElem?_cons_succ, Option.bind_some, d20, d24] at hN ⊢
            go_simp
            have hh := hN _ _ rfl (.inl (Below.refl _ _))
            revert hh
            go_simp
          refine owed_cons (fun vs u hS hD N => ?_) ?_
          · have d12 := hD 12 (by decide)
            simp only [fact, layAt, depOn, dstOf, List.map_cons, List.map_nil, List.foldl_cons, List.foldl_nil, List.getD_cons_zero, List.getD_cons_succ, List.getElem?_cons_zero, List.getElem?_cons_succ, Option.bind_some] at d12
            have d20 := hD 20 (by decide)
            simp only [fact, layAt, depOn, dstOf, List.map_cons, List.map_nil, List.foldl_cons, List.foldl_nil, List.getD_cons_zero, List.getD_cons_succ, List.getElem?_cons_zero, List.getElem?_cons_succ, Option.bind_some] at d20
            have d25 := hD 25 (by decide)
            simp only [fact, layAt, depOn, dstOf, List.map_cons, List.map_nil, List.foldl_cons, List.foldl_nil, List.getD_cons_zero, List.getD_cons_succ, List.getElem?_cons_zero, List.getElem?_cons_succ, Option.bind_some] at d25
            clear hD
            intro hN
            simp only [fact, layAt, depOn, dstOf, List.map_cons, List.map_nil, List.foldl_cons, List.foldl_nil, List.getD_cons_zero, List.getD_cons_succ, List.getElem?_cons_zero, List.getElem?_cons_succ, Option.bind_some, d12, d20, d25] at hN ⊢
            go_simp
            have hh := hN _ _ rfl (.inl (Below.refl _ _))
            revert hh
            go_simp
          refine owed_cons (fun vs u hS hD N => ?_) ?_
          · have d12 := hD 12 (by decide)
            simp only [fact, layAt, depOn, dstOf, List.map_cons, List.map_nil, List.foldl_cons, List.foldl_nil, List.getD_cons_zero, List.getD_cons_succ, List.getElem?_cons_zero, List.getElem?_cons_succ, Option.bind_some] at d12
            have d15 := hD 15 (by decide)
            simp only [fact, layAt, depOn, dstOf, List.map_cons, List.map_nil, List.foldl_cons, List.foldl_nil, List.getD_cons_zero, List.getD_cons_succ, List.getElem?_cons_zero, List.getElem?_cons_succ, Option.bind_some] at d15
            have d26 := hD 26 (by decide)
            simp only [fact, layAt, depOn, dstOf, List.map_cons, List.map_nil, List.foldl_cons, List.foldl_nil, List.getD_cons_zero, List.getD_cons_succ, List.getElem?_cons_zero, List.getElem?_cons_succ, Option.bind_some] at d26
            clear hD
            intro hN
            simp only [fact, layAt, depOn, dstOf, List.map_cons, List.map_nil, List.foldl_cons, List.foldl_nil, List.getD_cons_zero, List.getD_cons_succ, List.getElem?_cons_zero, List.getElem?_cons_succ, Option.bind_some, d12, d15, d26] at hN ⊢
            go_simp
            have hh := hN _ _ rfl (.inl (Below.refl _ _))
            revert hh
            go_simp
          refine owed_cons (fun vs u hS hD N => ?_) ?_
          · have d12 := hD 12 (by decide)
            simp only [fact, layAt, depOn, dstOf, List.map_cons, List.map_nil, List.foldl_cons, List.foldl_nil, List.getD_cons_zero, List.getD_cons_succ, List.getElem?_cons_zero, List.getElem?_cons_succ, Option.bind_some] at d12
            have d27 := hD 27 (by decide)
            simp only [fact, layAt, depOn, dstOf, List.map_cons, List.map_nil, List.foldl_cons, List.foldl_nil, List.getD_cons_zero, List.getD_cons_succ, List.getElem?_cons_zero, List.getElem?_cons_succ, Option.bind_some] at d27
            clear hD
            intro hN
            simp only [fact, layAt, depOn, dstOf, List.map_cons, List.map_nil, List.foldl_cons, List.foldl_nil, List.getD_cons_zero, List.getD_cons_succ, List.getElem?_cons_zero, List.getElem?_cons_succ, Option.bind_some, d12, d27] at hN ⊢
            go_simp
            have hh := hN _ _ rfl (.inl (Below.refl _ _))
            revert hh
            go_simp
          exact owed_nil
        ·
          intro vs u hS hF
          have d28 := hF 28 (by decide) (by decide)
          simp only [fact, layAt, depOn, dstOf, List.map_cons, List.map_nil, List.foldl_cons, List.foldl_nil, List.getD_cons_zero, List.getD_cons_succ, List.getElem?_cons_zero, List.getElem?_cons_succ, Option.bind_some] at d28
          clear hF
          simp only [List.length_cons, List.length_nil, Nat.reduceAdd, List.range, List.range.loop, fact, layAt, depOn, dstOf, List.map_cons, List.map_nil, List.foldl_cons, List.foldl_nil, List.getD_cons_zero, List.getD_cons_succ, List.getElem?_cons_zero, List.getElem?_cons_succ, Option.bind_some, d28]
          go_simp
          first | refine hk0 _ _ (Met.intro (hj0 _ _ ?_)) | refine Met.intro (hj0 _ _ ?_) | refine hj0 _ _ ?_
          (repeat apply Exists.intro)
          exact ⟨⟨rfl, hS⟩, rfl⟩
      · have d2 : decide ((now : Int) - (t.born : Int) < 100) = false := by simp; omega
        have hfe : freshB t now = false := by rw [HFR.out]; simp [hb, hb2]
        refine wp_region_facts (fun u => Below w2.heap.size w2 u) [
            fun v _ => v = .agg [.slice A n c, .int .u64 (o : Int), .int .u64 (m : Int)].toArray,
            fun v _ => v = .bool (rgOk n o m),
            fun v _ => v = .agg [.slice A n c, .int .u64 (o : Int), .int .u64 (m : Int)].toArray,
            fun v _ => v = .bool (rgOk n o m),
            fun v _ => v = .bool false,
            fun v _ => v = .bool false,
            fun v _ => v = .agg t.cells.toArray,
            fun v _ => v = .bool (tkOk t),
            fun v _ => v = .agg t.cells.toArray,
            fun v _ => v = .bool (tkOk t),
            fun v _ => v = .bool false,
            fun v _ => v = .bool false,
            fun v _ => v = .bool false,
            fun v _ => v = .agg t.cells.toArray,
            fun v _ => v = .int .u64 (now : Int),
            fun v _ => v = .bool false,
            fun v _ => v = .int .u64 (now : Int),
            fun v _ => v = .pointer (some ⟨w.heap.size + 1, 5, none⟩),
            fun v _ => v = .int .u64 (t.born : Int),
            fun v _ => v = .bool true,
            fun v _ => v = .bool true,
            fun v _ => v = .int .u64 (now : Int),
            fun v _ => v = .pointer (some ⟨w.heap.size + 1, 5, none⟩),
            fun v _ => v = .int .u64 (t.born : Int),
            fun v _ => v = .int .u64 ((now : Int) - (t.born : Int)),
            fun v _ => v = .bool false,
            fun v _ => v = .bool false,
            fun v _ => v = .bool false,
            fun v _ => v = .bool false] (fun u u' => Below u.heap.size u u')
            [[], [0], [], [2], [1, 3], [4], [5], [5, 6], [5], [5, 8], [5, 7, 9], [5, 10], [11], [12], [12], [12, 13, 14], [12], [12], [12, 17], [12, 16, 18], [12, 19], [20], [20], [20, 22], [20, 21, 23], [20, 24], [12, 20, 25], [12, 15, 26], [12, 27]] []
            (by kernel_rfl) (by kernel_rfl) ?_ (fun _ _ _ _ _ h => h) ((Below.refl _ _).drew) ?_ ?_
        · refine hE_of (fun u u' h f => f.trans (h.mono f.size)) ?_
          repeat' (first | exact mono_nil | refine mono_cons (fun v u u' h => ?_) ?_)
          all_goals exact _root_.id
        ·
          refine owed_cons (fun vs u hS hD N => ?_) ?_
          · clear hD
            intro hN
            simp only [fact, layAt, depOn, dstOf, List.map_cons, List.map_nil, List.foldl_cons, List.foldl_nil, List.getD_cons_zero, List.getD_cons_succ, List.getElem?_cons_zero, List.getElem?_cons_succ, Option.bind_some] at hN ⊢
            rw [if_pos (by rfl)]
            refine wp_load_blk (kr.below hS kr.lt) 25 (.tmp 3) rfl rfl Try.underlying25 (Hir.out _ _ _ _ _) ?_
            exact hN _ _ rfl (.inl (Below.refl _ _))
          refine owed_cons (fun vs u hS hD N => ?_) ?_
          · have d0 := hD 0 (by decide)
            simp only [fact, layAt, depOn, dstOf, List.map_cons, List.map_nil, List.foldl_cons, List.foldl_nil, List.getD_cons_zero, List.getD_cons_succ, List.getElem?_cons_zero, List.getElem?_cons_succ, Option.bind_some] at d0
            clear hD
            intro hN
            simp only [fact, layAt, depOn, dstOf, List.map_cons, List.map_nil, List.foldl_cons, List.foldl_nil, List.getD_cons_zero, List.getD_cons_succ, List.getElem?_cons_zero, List.getElem?_cons_succ, Option.bind_some, d0] at hN ⊢
            go_simp
            refine (mayRing_any A n c o m u).mono ?_
            rintro e u' ⟨rfl, f⟩
            have hh := hN _ _ rfl (.inl f)
            revert hh
            go_simp
          refine owed_cons (fun vs u hS hD N => ?_) ?_
          · clear hD
            intro hN
            simp only [fact, layAt, depOn, dstOf, List.map_cons, List.map_nil, List.foldl_cons, List.foldl_nil, List.getD_cons_zero, List.getD_cons_succ, List.getElem?_cons_zero, List.getElem?_cons_succ, Option.bind_some] at hN ⊢
            rw [if_pos (by rfl)]
            refine wp_load_blk (kr.below hS kr.lt) 25 (.tmp 3) rfl rfl Try.underlying25 (Hir.out _ _ _ _ _) ?_
            exact hN _ _ rfl (.inl (Below.refl _ _))
          refine owed_cons (fun vs u hS hD N => ?_) ?_
          · have d2 := hD 2 (by decide)
            simp only [fact, layAt, depOn, dstOf, List.map_cons, List.map_nil, List.foldl_cons, List.foldl_nil, List.getD_cons_zero, List.getD_cons_succ, List.getElem?_cons_zero, List.getElem?_cons_succ, Option.bind_some] at d2
            clear hD
            intro hN
            simp only [fact, layAt, depOn, dstOf, List.map_cons, List.map_nil, List.foldl_cons, List.foldl_nil, List.getD_cons_zero, List.getD_cons_succ, List.getElem?_cons_zero, List.getElem?_cons_succ, Option.bind_some, d2] at hN ⊢
            go_simp
            refine (refMayRing_any A n c o m u).mono ?_
            rintro e u' ⟨rfl, f⟩
            have hh := hN _ _ rfl (.inl f)
            revert hh
            go_simp
          refine owed_cons (fun vs u hS hD N => ?_) ?_
          · have d1 := hD 1 (by decide)
            simp only [fact, layAt, depOn, dstOf, List.map_cons, List.map_nil, List.foldl_cons, List.foldl_nil, List.getD_cons_zero, List.getD_cons_succ, List.getElem?_cons_zero, List.getElem?_cons_succ, Option.bind_some] at d1
            have d3 := hD 3 (by decide)
            simp only [fact, layAt, depOn, dstOf, List.map_cons, List.map_nil, List.foldl_cons, List.foldl_nil, List.getD_cons_zero, List.getD_cons_succ, List.getElem?_cons_zero, List.getElem?_cons_succ, Option.bind_some] at d3
            clear hD
            intro hN
            simp only [fact, layAt, depOn, dstOf, List.map_cons, List.map_nil, List.foldl_cons, List.foldl_nil, List.getD_cons_zero, List.getD_cons_succ, List.getElem?_cons_zero, List.getElem?_cons_succ, Option.bind_some, d1, d3] at hN ⊢
            go_simp
            have hh := hN _ _ rfl (.inl (Below.refl _ _))
            revert hh
            go_simp
          refine owed_cons (fun vs u hS hD N => ?_) ?_
          · have d4 := hD 4 (by decide)
            simp only [fact, layAt, depOn, dstOf, List.map_cons, List.map_nil, List.foldl_cons, List.foldl_nil, List.getD_cons_zero, List.getD_cons_succ, List.getElem?_cons_zero, List.getElem?_cons_succ, Option.bind_some] at d4
            clear hD
            intro hN
            simp only [fact, layAt, depOn, dstOf, List.map_cons, List.map_nil, List.foldl_cons, List.foldl_nil, List.getD_cons_zero, List.getD_cons_succ, List.getElem?_cons_zero, List.getElem?_cons_succ, Option.bind_some, d4] at hN ⊢
            go_simp
            have hh := hN _ _ rfl (.inl (Below.refl _ _))
            revert hh
            go_simp
          refine owed_cons (fun vs u hS hD N => ?_) ?_
          · have d5 := hD 5 (by decide)
            simp only [fact, layAt, depOn, dstOf, List.map_cons, List.map_nil, List.foldl_cons, List.foldl_nil, List.getD_cons_zero, List.getD_cons_succ, List.getElem?_cons_zero, List.getElem?_cons_succ, Option.bind_some] at d5
            clear hD
            intro hN
            simp only [fact, layAt, depOn, dstOf, List.map_cons, List.map_nil, List.foldl_cons, List.foldl_nil, List.getD_cons_zero, List.getD_cons_succ, List.getElem?_cons_zero, List.getElem?_cons_succ, Option.bind_some, d5] at hN ⊢
            rw [if_pos (by rfl)]
            refine wp_load_blk (kt.below hS kt.lt) 31 (.tmp 4) rfl rfl Try.underlying31 Hit.out ?_
            exact hN _ _ rfl (.inl (Below.refl _ _))
          refine owed_cons (fun vs u hS hD N => ?_) ?_
          · have d5 := hD 5 (by decide)
            simp only [fact, layAt, depOn, dstOf, List.map_cons, List.map_nil, List.foldl_cons, List.foldl_nil, List.getD_cons_zero, List.getD_cons_succ, List.getElem?_cons_zero, List.getElem?_cons_succ, Option.bind_some] at d5
            have d6 := hD 6 (by decide)
            simp only [fact, layAt, depOn, dstOf, List.map_cons, List.map_nil, List.foldl_cons, List.foldl_nil, List.getD_cons_zero, List.getD_cons_succ, List.getElem?_cons_zero, List.getElem?_cons_succ, Option.bind_some] at d6
            clear hD
            intro hN
            simp only [fact, layAt, depOn, dstOf, List.map_cons, List.map_nil, List.foldl_cons, List.foldl_nil, List.getD_cons_zero, List.getD_cons_succ, List.getElem?_cons_zero, List.getElem?_cons_succ, Option.bind_some, d5, d6] at hN ⊢
            go_simp
            refine (tokMay_any t ht u).mono ?_
            rintro e u' ⟨rfl, f⟩
            have hh := hN _ _ rfl (.inl f)
            revert hh
            go_simp
          refine owed_cons (fun vs u hS hD N => ?_) ?_
          · have d5 := hD 5 (by decide)
            simp only [fact, layAt, depOn, dstOf, List.map_cons, List.map_nil, List.foldl_cons, List.foldl_nil, List.getD_cons_zero, List.getD_cons_succ, List.getElem?_cons_zero, List.getElem?_cons_succ, Option.bind_some] at d5
            clear hD
            intro hN
            simp only [fact, layAt, depOn, dstOf, List.map_cons, List.map_nil, List.foldl_cons, List.foldl_nil, List.getD_cons_zero, List.getD_cons_succ, List.getElem?_cons_zero, List.getElem?_cons_succ, Option.bind_some, d5] at hN ⊢
            rw [if_pos (by rfl)]
            refine wp_load_blk (kt.below hS kt.lt) 31 (.tmp 4) rfl rfl Try.underlying31 Hit.out ?_
            exact hN _ _ rfl (.inl (Below.refl _ _))
          refine owed_cons (fun vs u hS hD N => ?_) ?_
          · have d5 := hD 5 (by decide)
            simp only [fact, layAt, depOn, dstOf, List.map_cons, List.map_nil, List.foldl_cons, List.foldl_nil, List.getD_cons_zero, List.getD_cons_succ, List.getElem?_cons_zero, List.getElem?_cons_succ, Option.bind_some] at d5
            have d8 := hD 8 (by decide)
            simp only [fact, layAt, depOn, dstOf, List.map_cons, List.map_nil, List.foldl_cons, List.foldl_nil, List.getD_cons_zero, List.getD_cons_succ, List.getElem?_cons_zero, List.getElem?_cons_succ, Option.bind_some] at d8
            clear hD
            intro hN
            simp only [fact, layAt, depOn, dstOf, List.map_cons, List.map_nil, List.foldl_cons, List.foldl_nil, List.getD_cons_zero, List.getD_cons_succ, List.getElem?_cons_zero, List.getElem?_cons_succ, Option.bind_some, d5, d8] at hN ⊢
            go_simp
            refine (refTokMay_any t ht u).mono ?_
            rintro e u' ⟨rfl, f⟩
            have hh := hN _ _ rfl (.inl f)
            revert hh
            go_simp
          refine owed_cons (fun vs u hS hD N => ?_) ?_
          · have d5 := hD 5 (by decide)
            simp only [fact, layAt, depOn, dstOf, List.map_cons, List.map_nil, List.foldl_cons, List.foldl_nil, List.getD_cons_zero, List.getD_cons_succ, List.getElem?_cons_zero, List.getElem?_cons_succ, Option.bind_some] at d5
            have d7 := hD 7 (by decide)
            simp only [fact, layAt, depOn, dstOf, List.map_cons, List.map_nil, List.foldl_cons, List.foldl_nil, List.getD_cons_zero, List.getD_cons_succ, List.getElem?_cons_zero, List.getElem?_cons_succ, Option.bind_some] at d7
            have d9 := hD 9 (by decide)
            simp only [fact, layAt, depOn, dstOf, List.map_cons, List.map_nil, List.foldl_cons, List.foldl_nil, List.getD_cons_zero, List.getD_cons_succ, List.getElem?_cons_zero, List.getElem?_cons_succ, Option.bind_some] at d9
            clear hD
            intro hN
            simp only [fact, layAt, depOn, dstOf, List.map_cons, List.map_nil, List.foldl_cons, List.foldl_nil, List.getD_cons_zero, List.getD_cons_succ, List.getElem?_cons_zero, List.getElem?_cons_succ, Option.bind_some, d5, d7, d9] at hN ⊢
            go_simp
            have hh := hN _ _ rfl (.inl (Below.refl _ _))
            revert hh
            go_simp
          refine owed_cons (fun vs u hS hD N => ?_) ?_
          · have d5 := hD 5 (by decide)
            simp only [fact, layAt, depOn, dstOf, List.map_cons, List.map_nil, List.foldl_cons, List.foldl_nil, List.getD_cons_zero, List.getD_cons_succ, List.getElem?_cons_zero, List.getElem?_cons_succ, Option.bind_some] at d5
            have d10 := hD 10 (by decide)
            simp only [fact, layAt, depOn, dstOf, List.map_cons, List.map_nil, List.foldl_cons, List.foldl_nil, List.getD_cons_zero, List.getD_cons_succ, List.getElem?_cons_zero, List.getElem?_cons_succ, Option.bind_some] at d10
            clear hD
            intro hN
            simp only [fact, layAt, depOn, dstOf, List.map_cons, List.map_nil, List.foldl_cons, List.foldl_nil, List.getD_cons_zero, List.getD_cons_succ, List.getElem?_cons_zero, List.getElem?_cons_succ, Option.bind_some, d5, d10] at hN ⊢
            go_simp
            have hh := hN _ _ rfl (.inl (Below.refl _ _))
            revert hh
            go_simp
          refine owed_cons (fun vs u hS hD N => ?_) ?_
          · have d11 := hD 11 (by decide)
            simp only [fact, layAt, depOn, dstOf, List.map_cons, List.map_nil, List.foldl_cons, List.foldl_nil, List.getD_cons_zero, List.getD_cons_succ, List.getElem?_cons_zero, List.getElem?_cons_succ, Option.bind_some] at d11
            clear hD
            intro hN
            simp only [fact, layAt, depOn, dstOf, List.map_cons, List.map_nil, List.foldl_cons, List.foldl_nil, List.getD_cons_zero, List.getD_cons_succ, List.getElem?_cons_zero, List.getElem?_cons_succ, Option.bind_some, d11] at hN ⊢
            go_simp
            have hh := hN _ _ rfl (.inl (Below.refl _ _))
            revert hh
            go_simp
          refine owed_cons (fun vs u hS hD N => ?_) ?_
          · have d12 := hD 12 (by decide)
            simp only [fact, layAt, depOn, dstOf, List.map_cons, List.map_nil, List.foldl_cons, List.foldl_nil, List.getD_cons_zero, List.getD_cons_succ, List.getElem?_cons_zero, List.getElem?_cons_succ, Option.bind_some] at d12
            clear hD
            intro hN
            simp only [fact, layAt, depOn, dstOf, List.map_cons, List.map_nil, List.foldl_cons, List.foldl_nil, List.getD_cons_zero, List.getD_cons_succ, List.getElem?_cons_zero, List.getElem?_cons_succ, Option.bind_some, d12] at hN ⊢
            rw [if_pos (by rfl)]
            refine wp_load_blk (kt.below hS kt.lt) 31 (.tmp 4) rfl rfl Try.underlying31 Hit.out ?_
            exact hN _ _ rfl (.inl (Below.refl _ _))
          refine owed_cons (fun vs u hS hD N => ?_) ?_
          · have d12 := hD 12 (by decide)
            simp only [fact, layAt, depOn, dstOf, List.map_cons, List.map_nil, List.foldl_cons, List.foldl_nil, List.getD_cons_zero, List.getD_cons_succ, List.getElem?_cons_zero, List.getElem?_cons_succ, Option.bind_some] at d12
            clear hD
            intro hN
            simp only [fact, layAt, depOn, dstOf, List.map_cons, List.map_nil, List.foldl_cons, List.foldl_nil, List.getD_cons_zero, List.getD_cons_succ, List.getElem?_cons_zero, List.getElem?_cons_succ, Option.bind_some, d12] at hN ⊢
            go_simp
            have hh := hN _ _ rfl (.inl (Below.refl _ _))
            revert hh
            go_simp
          refine owed_cons (fun vs u hS hD N => ?_) ?_
          · have d12 := hD 12 (by decide)
            simp only [fact, layAt, depOn, dstOf, List.map_cons, List.map_nil, List.foldl_cons, List.foldl_nil, List.getD_cons_zero, List.getD_cons_succ, List.getElem?_cons_zero, List.getElem?_cons_succ, Option.bind_some] at d12
            have d13 := hD 13 (by decide)
            simp only [fact, layAt, depOn, dstOf, List.map_cons, List.map_nil, List.foldl_cons, List.foldl_nil, List.getD_cons_zero, List.getD_cons_succ, List.getElem?_cons_zero, List.getElem?_cons_succ, Option.bind_some] at d13
            have d14 := hD 14 (by decide)
            simp only [fact, layAt, depOn, dstOf, List.map_cons, List.map_nil, List.foldl_cons, List.foldl_nil, List.getD_cons_zero, List.getD_cons_succ, List.getElem?_cons_zero, List.getElem?_cons_succ, Option.bind_some] at d14
            clear hD
            intro hN
            simp only [fact, layAt, depOn, dstOf, List.map_cons, List.map_nil, List.foldl_cons, List.foldl_nil, List.getD_cons_zero, List.getD_cons_succ, List.getElem?_cons_zero, List.getElem?_cons_succ, Option.bind_some, d12, d13, d14] at hN ⊢
            go_simp
            refine (fresh_any t ht now hnow u).mono ?_
            rintro e u' ⟨rfl, f⟩
            have hh := hN _ _ rfl (.inl f)
            revert hh
            go_simp
          refine owed_cons (fun vs u hS hD N => ?_) ?_
          · have d12 := hD 12 (by decide)
            simp only [fact, layAt, depOn, dstOf, List.map_cons, List.map_nil, List.foldl_cons, List.foldl_nil, List.getD_cons_zero, List.getD_cons_succ, List.getElem?_cons_zero, List.getElem?_cons_succ, Option.bind_some] at d12
            clear hD
            intro hN
            simp only [fact, layAt, depOn, dstOf, List.map_cons, List.map_nil, List.foldl_cons, List.foldl_nil, List.getD_cons_zero, List.getD_cons_succ, List.getElem?_cons_zero, List.getElem?_cons_succ, Option.bind_some, d12] at hN ⊢
            go_simp
            have hh := hN _ _ rfl (.inl (Below.refl _ _))
            revert hh
            go_simp
          refine owed_cons (fun vs u hS hD N => ?_) ?_
          · have d12 := hD 12 (by decide)
            simp only [fact, layAt, depOn, dstOf, List.map_cons, List.map_nil, List.foldl_cons, List.foldl_nil, List.getD_cons_zero, List.getD_cons_succ, List.getElem?_cons_zero, List.getElem?_cons_succ, Option.bind_some] at d12
            clear hD
            intro hN
            simp only [fact, layAt, depOn, dstOf, List.map_cons, List.map_nil, List.foldl_cons, List.foldl_nil, List.getD_cons_zero, List.getD_cons_succ, List.getElem?_cons_zero, List.getElem?_cons_succ, Option.bind_some, d12] at hN ⊢
            go_simp
            have hh := hN _ _ rfl (.inl (Below.refl _ _))
            revert hh
            go_simp
          have q5 : ∀ u : World, Below w2.heap.size w2 u → u.cell? ⟨w.heap.size + 1, 5, none⟩ = some (.int .u64 (t.born : Int)) := fun u hu => (kt.below hu kt.lt).cell 5
          refine owed_cons (fun vs u hS hD N => ?_) ?_
          · have d12 := hD 12 (by decide)
            simp only [fact, layAt, depOn, dstOf, List.map_cons, List.map_nil, List.foldl_cons, List.foldl_nil, List.getD_cons_zero, List.getD_cons_succ, List.getElem?_cons_zero, List.getElem?_cons_succ, Option.bind_some] at d12
            have d17 := hD 17 (by decide)
            simp only [fact, layAt, depOn, dstOf, List.map_cons, List.map_nil, List.foldl_cons, List.foldl_nil, List.getD_cons_zero, List.getD_cons_succ, List.getElem?_cons_zero, List.getElem?_cons_succ, Option.bind_some] at d17
            clear hD
            intro hN
            simp only [fact, layAt, depOn, dstOf, List.map_cons, List.map_nil, List.foldl_cons, List.foldl_nil, List.getD_cons_zero, List.getD_cons_succ, List.getElem?_cons_zero, List.getElem?_cons_succ, Option.bind_some, d12, d17] at hN ⊢
            go_simp
            have q := q5 _ hS
            go_simp
            have hh := hN _ _ rfl (.inl (Below.refl _ _))
            revert hh
            go_simp
          refine owed_cons (fun vs u hS hD N => ?_) ?_
          · have d12 := hD 12 (by decide)
            simp only [fact, layAt, depOn, dstOf, List.map_cons, List.map_nil, List.foldl_cons, List.foldl_nil, List.getD_cons_zero, List.getD_cons_succ, List.getElem?_cons_zero, List.getElem?_cons_succ, Option.bind_some] at d12
            have d16 := hD 16 (by decide)
            simp only [fact, layAt, depOn, dstOf, List.map_cons, List.map_nil, List.foldl_cons, List.foldl_nil, List.getD_cons_zero, List.getD_cons_succ, List.getElem?_cons_zero, List.getElem?_cons_succ, Option.bind_some] at d16
            have d18 := hD 18 (by decide)
            simp only [fact, layAt, depOn, dstOf, List.map_cons, List.map_nil, List.foldl_cons, List.foldl_nil, List.getD_cons_zero, List.getD_cons_succ, List.getElem?_cons_zero, List.getElem?_cons_succ, Option.bind_some] at d18
            clear hD
            intro hN
            simp only [fact, layAt, depOn, dstOf, List.map_cons, List.map_nil, List.foldl_cons, List.foldl_nil, List.getD_cons_zero, List.getD_cons_succ, List.getElem?_cons_zero, List.getElem?_cons_succ, Option.bind_some, d12, d16, d18] at hN ⊢
            go_simp
            have hh := hN _ _ rfl (.inl (Below.refl _ _))
            revert hh
            go_simp
          refine owed_cons (fun vs u hS hD N => ?_) ?_
          · have d12 := hD 12 (by decide)
            simp only [fact, layAt, depOn, dstOf, List.map_cons, List.map_nil, List.foldl_cons, List.foldl_nil, List.getD_cons_zero, List.getD_cons_succ, List.getElem?_cons_zero, List.getElem?_cons_succ, Option.bind_some] at d12
            have d19 := hD 19 (by decide)
            simp only [fact, layAt, depOn, dstOf, List.map_cons, List.map_nil, List.foldl_cons, List.foldl_nil, List.getD_cons_zero, List.getD_cons_succ, List.getElem?_cons_zero, List.getElem?_cons_succ, Option.bind_some] at d19
            clear hD
            intro hN
            simp only [fact, layAt, depOn, dstOf, List.map_cons, List.map_nil, List.foldl_cons, List.foldl_nil, List.getD_cons_zero, List.getD_cons_succ, List.getElem?_cons_zero, List.getElem?_cons_succ, Option.bind_some, d12, d19] at hN ⊢
            go_simp
            have hh := hN _ _ rfl (.inl (Below.refl _ _))
            revert hh
            go_simp
          refine owed_cons (fun vs u hS hD N => ?_) ?_
          · have d20 := hD 20 (by decide)
            simp only [fact, layAt, depOn, dstOf, List.map_cons, List.map_nil, List.foldl_cons, List.foldl_nil, List.getD_cons_zero, List.getD_cons_succ, List.getElem?_cons_zero, List.getElem?_cons_succ, Option.bind_some] at d20
            clear hD
            intro hN
            simp only [fact, layAt, depOn, dstOf, List.map_cons, List.map_nil, List.foldl_cons, List.foldl_nil, List.getD_cons_zero, List.getD_cons_succ, List.getElem?_cons_zero, List.getElem?_cons_succ, Option.bind_some, d20] at hN ⊢
            go_simp
            have hh := hN _ _ rfl (.inl (Below.refl _ _))
            revert hh
            go_simp
          refine owed_cons (fun vs u hS hD N => ?_) ?_
          · have d20 := hD 20 (by decide)
            simp only [fact, layAt, depOn, dstOf, List.map_cons, List.map_nil, List.foldl_cons, List.foldl_nil, List.getD_cons_zero, List.getD_cons_succ, List.getElem?_cons_zero, List.getElem?_cons_succ, Option.bind_some] at d20
            clear hD
            intro hN
            simp only [fact, layAt, depOn, dstOf, List.map_cons, List.map_nil, List.foldl_cons, List.foldl_nil, List.getD_cons_zero, List.getD_cons_succ, List.getElem?_cons_zero, List.getElem?_cons_succ, Option.bind_some, d20] at hN ⊢
            go_simp
            have hh := hN _ _ rfl (.inl (Below.refl _ _))
            revert hh
            go_simp
          refine owed_cons (fun vs u hS hD N => ?_) ?_
          · have d20 := hD 20 (by decide)
            simp only [fact, layAt, depOn, dstOf, List.map_cons, List.map_nil, List.foldl_cons, List.foldl_nil, List.getD_cons_zero, List.getD_cons_succ, List.getElem?_cons_zero, List.getElem?_cons_succ, Option.bind_some] at d20
            have d22 := hD 22 (by decide)
            simp only [fact, layAt, depOn, dstOf, List.map_cons, List.map_nil, List.foldl_cons, List.foldl_nil, List.getD_cons_zero, List.getD_cons_succ, List.getElem?_cons_zero, List.getElem?_cons_succ, Option.bind_some] at d22
            clear hD
            intro hN
            simp only [fact, layAt, depOn, dstOf, List.map_cons, List.map_nil, List.foldl_cons, List.foldl_nil, List.getD_cons_zero, List.getD_cons_succ, List.getElem?_cons_zero, List.getElem?_cons_succ, Option.bind_some, d20, d22] at hN ⊢
            go_simp
            have q := q5 _ hS
            go_simp
            have hh := hN _ _ rfl (.inl (Below.refl _ _))
            revert hh
            go_simp
          refine owed_cons (fun vs u hS hD N => ?_) ?_
          · have d20 := hD 20 (by decide)
            simp only [fact, layAt, depOn, dstOf, List.map_cons, List.map_nil, List.foldl_cons, List.foldl_nil, List.getD_cons_zero, List.getD_cons_succ, List.getElem?_cons_zero, List.getElem?_cons_succ, Option.bind_some] at d20
            have d21 := hD 21 (by decide)
            simp only [fact, layAt, depOn, dstOf, List.map_cons, List.map_nil, List.foldl_cons, List.foldl_nil, List.getD_cons_zero, List.getD_cons_succ, List.getElem?_cons_zero, List.getElem?_cons_succ, Option.bind_some] at d21
            have d23 := hD 23 (by decide)
            simp only [fact, layAt, depOn, dstOf, List.map_cons, List.map_nil, List.foldl_cons, List.foldl_nil, List.getD_cons_zero, List.getD_cons_succ, List.getElem?_cons_zero, List.getElem?_cons_succ, Option.bind_some] at d23
            clear hD
            intro hN
            simp only [fact, layAt, depOn, dstOf, List.map_cons, List.map_nil, List.foldl_cons, List.foldl_nil, List.getD_cons_zero, List.getD_cons_succ, List.getElem?_cons_zero, List.getElem?_cons_succ, Option.bind_some, d20, d21, d23] at hN ⊢
            go_simp
            have hh := hN _ _ rfl (.inl (Below.refl _ _))
            revert hh
            go_simp
          refine owed_cons (fun vs u hS hD N => ?_) ?_
          · have d20 := hD 20 (by decide)
            simp only [fact, layAt, depOn, dstOf, List.map_cons, List.map_nil, List.foldl_cons, List.foldl_nil, List.getD_cons_zero, List.getD_cons_succ, List.getElem?_cons_zero, List.getElem?_cons_succ, Option.bind_some] at d20
            have d24 := hD 24 (by decide)
            simp only [fact, layAt, depOn, dstOf, List.map_cons, List.map_nil, List.foldl_cons, List.foldl_nil, List.getD_cons_zero, List.getD_cons_succ, List.getElem?_cons_zero, List.getElem?_cons_succ, Option.bind_some] at d24
            clear hD
            intro hN
            simp only [fact, layAt, depOn, dstOf, List.map_cons, List.map_nil, List.foldl_cons, List.foldl_nil, List.getD_cons_zero, List.getD_cons_succ, List.getElem?_cons_zero, List.getElem?_cons_succ, Option.bind_some, d20, d24] at hN ⊢
            go_simp
            have hh := hN _ _ rfl (.inl (Below.refl _ _))
            revert hh
            go_simp
          refine owed_cons (fun vs u hS hD N => ?_) ?_
          · have d12 := hD 12 (by decide)
            simp only [fact, layAt, depOn, dstOf, List.map_cons, List.map_nil, List.foldl_cons, List.foldl_nil, List.getD_cons_zero, List.getD_cons_succ, List.getElem?_cons_zero, List.getElem?_cons_succ, Option.bind_some] at d12
            have d20 := hD 20 (by decide)
            simp only [fact, layAt, depOn, dstOf, List.map_cons, List.map_nil, List.foldl_cons, List.foldl_nil, List.getD_cons_zero, List.getD_cons_succ, List.getElem?_cons_zero, List.getElem?_cons_succ, Option.bind_some] at d20
            have d25 := hD 25 (by decide)
            simp only [fact, layAt, depOn, dstOf, List.map_cons, List.map_nil, List.foldl_cons, List.foldl_nil, List.getD_cons_zero, List.getD_cons_succ, List.getElem?_cons_zero, List.getElem?_cons_succ, Option.bind_some] at d25
            clear hD
            intro hN
            simp only [fact, layAt, depOn, dstOf, List.map_cons, List.map_nil, List.foldl_cons, List.foldl_nil, List.getD_cons_zero, List.getD_cons_succ, List.getElem?_cons_zero, List.getElem?_cons_succ, Option.bind_some, d12, d20, d25] at hN ⊢
            go_simp
            have hh := hN _ _ rfl (.inl (Below.refl _ _))
            revert hh
            go_simp
          refine owed_cons (fun vs u hS hD N => ?_) ?_
          · have d12 := hD 12 (by decide)
            simp only [fact, layAt, depOn, dstOf, List.map_cons, List.map_nil, List.foldl_cons, List.foldl_nil, List.getD_cons_zero, List.getD_cons_succ, List.getElem?_cons_zero, List.getElem?_cons_succ, Option.bind_some] at d12
            have d15 := hD 15 (by decide)
            simp only [fact, layAt, depOn, dstOf, List.map_cons, List.map_nil, List.foldl_cons, List.foldl_nil, List.getD_cons_zero, List.getD_cons_succ, List.getElem?_cons_zero, List.getElem?_cons_succ, Option.bind_some] at d15
            have d26 := hD 26 (by decide)
            simp only [fact, layAt, depOn, dstOf, List.map_cons, List.map_nil, List.foldl_cons, List.foldl_nil, List.getD_cons_zero, List.getD_cons_succ, List.getElem?_cons_zero, List.getElem?_cons_succ, Option.bind_some] at d26
            clear hD
            intro hN
            simp only [fact, layAt, depOn, dstOf, List.map_cons, List.map_nil, List.foldl_cons, List.foldl_nil, List.getD_cons_zero, List.getD_cons_succ, List.getElem?_cons_zero, List.getElem?_cons_succ, Option.bind_some, d12, d15, d26] at hN ⊢
            go_simp
            have hh := hN _ _ rfl (.inl (Below.refl _ _))
            revert hh
            go_simp
          refine owed_cons (fun vs u hS hD N => ?_) ?_
          · have d12 := hD 12 (by decide)
            simp only [fact, layAt, depOn, dstOf, List.map_cons, List.map_nil, List.foldl_cons, List.foldl_nil, List.getD_cons_zero, List.getD_cons_succ, List.getElem?_cons_zero, List.getElem?_cons_succ, Option.bind_some] at d12
            have d27 := hD 27 (by decide)
            simp only [fact, layAt, depOn, dstOf, List.map_cons, List.map_nil, List.foldl_cons, List.foldl_nil, List.getD_cons_zero, List.getD_cons_succ, List.getElem?_cons_zero, List.getElem?_cons_succ, Option.bind_some] at d27
            clear hD
            intro hN
            simp only [fact, layAt, depOn, dstOf, List.map_cons, List.map_nil, List.foldl_cons, List.foldl_nil, List.getD_cons_zero, List.getD_cons_succ, List.getElem?_cons_zero, List.getElem?_cons_succ, Option.bind_some, d12, d27] at hN ⊢
            go_simp
            have hh := hN _ _ rfl (.inl (Below.refl _ _))
            revert hh
            go_simp
          exact owed_nil
        ·
          intro vs u hS hF
          have d28 := hF 28 (by decide) (by decide)
          simp only [fact, layAt, depOn, dstOf, List.map_cons, List.map_nil, List.foldl_cons, List.foldl_nil, List.getD_cons_zero, List.getD_cons_succ, List.getElem?_cons_zero, List.getElem?_cons_succ, Option.bind_some] at d28
          clear hF
          simp only [List.length_cons, List.length_nil, Nat.reduceAdd, List.range, List.range.loop, fact, layAt, depOn, dstOf, List.map_cons, List.map_nil, List.foldl_cons, List.foldl_nil, List.getD_cons_zero, List.getD_cons_succ, List.getElem?_cons_zero, List.getElem?_cons_succ, Option.bind_some, d28]
          go_simp
          first | refine hk0 _ _ (Met.intro (hj0 _ _ ?_)) | refine Met.intro (hj0 _ _ ?_) | refine hj0 _ _ ?_
          (repeat apply Exists.intro)
          exact ⟨⟨rfl, hS⟩, rfl⟩
    · have d1 : decide ((t.born : Int) ≤ (now : Int)) = false := by simp; omega
      have hfe : freshB t now = false := by rw [HFR.out]; simp [hb]
      refine wp_region_facts (fun u => Below w2.heap.size w2 u) [
          fun v _ => v = .agg [.slice A n c, .int .u64 (o : Int), .int .u64 (m : Int)].toArray,
          fun v _ => v = .bool (rgOk n o m),
          fun v _ => v = .agg [.slice A n c, .int .u64 (o : Int), .int .u64 (m : Int)].toArray,
          fun v _ => v = .bool (rgOk n o m),
          fun v _ => v = .bool false,
          fun v _ => v = .bool false,
          fun v _ => v = .agg t.cells.toArray,
          fun v _ => v = .bool (tkOk t),
          fun v _ => v = .agg t.cells.toArray,
          fun v _ => v = .bool (tkOk t),
          fun v _ => v = .bool false,
          fun v _ => v = .bool false,
          fun v _ => v = .bool false,
          fun v _ => v = .agg t.cells.toArray,
          fun v _ => v = .int .u64 (now : Int),
          fun v _ => v = .bool false,
          fun v _ => v = .int .u64 (now : Int),
          fun v _ => v = .pointer (some ⟨w.heap.size + 1, 5, none⟩),
          fun v _ => v = .int .u64 (t.born : Int),
          fun v _ => v = .bool false,
          fun v _ => v = .bool false,
          fun v _ => v = undef,
          fun v _ => v = undef,
          fun v _ => v = undef,
          fun v _ => v = undef,
          fun v _ => v = undef,
          fun v _ => v = .bool false,
          fun v _ => v = .bool false,
          fun v _ => v = .bool false] (fun u u' => Below u.heap.size u u')
          [[], [0], [], [2], [1, 3], [4], [5], [5, 6], [5], [5, 8], [5, 7, 9], [5, 10], [11], [12], [12], [12, 13, 14], [12], [12], [12, 17], [12, 16, 18], [12, 19], [20], [20], [20, 22], [20, 21, 23], [20, 24], [12, 20, 25], [12, 15, 26], [12, 27]] []
          (by kernel_rfl) (by kernel_rfl) ?_ (fun _ _ _ _ _ h => h) ((Below.refl _ _).drew) ?_ ?_
      · refine hE_of (fun u u' h f => f.trans (h.mono f.size)) ?_
        repeat' (first | exact mono_nil | refine mono_cons (fun v u u' h => ?_) ?_)
        all_goals exact _root_.id
      ·
        refine owed_cons (fun vs u hS hD N => ?_) ?_
        · clear hD
          intro hN
          simp only [fact, layAt, depOn, dstOf, List.map_cons, List.map_nil, List.foldl_cons, List.foldl_nil, List.getD_cons_zero, List.getD_cons_succ, List.getElem?_cons_zero, List.getElem?_cons_succ, Option.bind_some] at hN ⊢
          rw [if_pos (by rfl)]
          refine wp_load_blk (kr.below hS kr.lt) 25 (.tmp 3) rfl rfl Try.underlying25 (Hir.out _ _ _ _ _) ?_
          exact hN _ _ rfl (.inl (Below.refl _ _))
        refine owed_cons (fun vs u hS hD N => ?_) ?_
        · have d0 := hD 0 (by decide)
          simp only [fact, layAt, depOn, dstOf, List.map_cons, List.map_nil, List.foldl_cons, List.foldl_nil, List.getD_cons_zero, List.getD_cons_succ, List.getElem?_cons_zero, List.getElem?_cons_succ, Option.bind_some] at d0
          clear hD
          intro hN
          simp only [fact, layAt, depOn, dstOf, List.map_cons, List.map_nil, List.foldl_cons, List.foldl_nil, List.getD_cons_zero, List.getD_cons_succ, List.getElem?_cons_zero, List.getElem?_cons_succ, Option.bind_some, d0] at hN ⊢
          go_simp
          refine (mayRing_any A n c o m u).mono ?_
          rintro e u' ⟨rfl, f⟩
          have hh := hN _ _ rfl (.inl f)
          revert hh
          go_simp
        refine owed_cons (fun vs u hS hD N => ?_) ?_
        · clear hD
          intro hN
          simp only [fact, layAt, depOn, dstOf, List.map_cons, List.map_nil, List.foldl_cons, List.foldl_nil, List.getD_cons_zero, List.getD_cons_succ, List.getElem?_cons_zero, List.getElem?_cons_succ, Option.bind_some] at hN ⊢
          rw [if_pos (by rfl)]
          refine wp_load_blk (kr.below hS kr.lt) 25 (.tmp 3) rfl rfl Try.underlying25 (Hir.out _ _ _ _ _) ?_
          exact hN _ _ rfl (.inl (Below.refl _ _))
        refine owed_cons (fun vs u hS hD N => ?_) ?_
        · have d2 := hD 2 (by decide)
          simp only [fact, layAt, depOn, dstOf, List.map_cons, List.map_nil, List.foldl_cons, List.foldl_nil, List.getD_cons_zero, List.getD_cons_succ, List.getElem?_cons_zero, List.getElem?_cons_succ, Option.bind_some] at d2
          clear hD
          intro hN
          simp only [fact, layAt, depOn, dstOf, List.map_cons, List.map_nil, List.foldl_cons, List.foldl_nil, List.getD_cons_zero, List.getD_cons_succ, List.getElem?_cons_zero, List.getElem?_cons_succ, Option.bind_some, d2] at hN ⊢
          go_simp
          refine (refMayRing_any A n c o m u).mono ?_
          rintro e u' ⟨rfl, f⟩
          have hh := hN _ _ rfl (.inl f)
          revert hh
          go_simp
        refine owed_cons (fun vs u hS hD N => ?_) ?_
        · have d1 := hD 1 (by decide)
          simp only [fact, layAt, depOn, dstOf, List.map_cons, List.map_nil, List.foldl_cons, List.foldl_nil, List.getD_cons_zero, List.getD_cons_succ, List.getElem?_cons_zero, List.getElem?_cons_succ, Option.bind_some] at d1
          have d3 := hD 3 (by decide)
          simp only [fact, layAt, depOn, dstOf, List.map_cons, List.map_nil, List.foldl_cons, List.foldl_nil, List.getD_cons_zero, List.getD_cons_succ, List.getElem?_cons_zero, List.getElem?_cons_succ, Option.bind_some] at d3
          clear hD
          intro hN
          simp only [fact, layAt, depOn, dstOf, List.map_cons, List.map_nil, List.foldl_cons, List.foldl_nil, List.getD_cons_zero, List.getD_cons_succ, List.getElem?_cons_zero, List.getElem?_cons_succ, Option.bind_some, d1, d3] at hN ⊢
          go_simp
          have hh := hN _ _ rfl (.inl (Below.refl _ _))
          revert hh
          go_simp
        refine owed_cons (fun vs u hS hD N => ?_) ?_
        · have d4 := hD 4 (by decide)
          simp only [fact, layAt, depOn, dstOf, List.map_cons, List.map_nil, List.foldl_cons, List.foldl_nil, List.getD_cons_zero, List.getD_cons_succ, List.getElem?_cons_zero, List.getElem?_cons_succ, Option.bind_some] at d4
          clear hD
          intro hN
          simp only [fact, layAt, depOn, dstOf, List.map_cons, List.map_nil, List.foldl_cons, List.foldl_nil, List.getD_cons_zero, List.getD_cons_succ, List.getElem?_cons_zero, List.getElem?_cons_succ, Option.bind_some, d4] at hN ⊢
          go_simp
          have hh := hN _ _ rfl (.inl (Below.refl _ _))
          revert hh
          go_simp
        refine owed_cons (fun vs u hS hD N => ?_) ?_
        · have d5 := hD 5 (by decide)
          simp only [fact, layAt, depOn, dstOf, List.map_cons, List.map_nil, List.foldl_cons, List.foldl_nil, List.getD_cons_zero, List.getD_cons_succ, List.getElem?_cons_zero, List.getElem?_cons_succ, Option.bind_some] at d5
          clear hD
          intro hN
          simp only [fact, layAt, depOn, dstOf, List.map_cons, List.map_nil, List.foldl_cons, List.foldl_nil, List.getD_cons_zero, List.getD_cons_succ, List.getElem?_cons_zero, List.getElem?_cons_succ, Option.bind_some, d5] at hN ⊢
          rw [if_pos (by rfl)]
          refine wp_load_blk (kt.below hS kt.lt) 31 (.tmp 4) rfl rfl Try.underlying31 Hit.out ?_
          exact hN _ _ rfl (.inl (Below.refl _ _))
        refine owed_cons (fun vs u hS hD N => ?_) ?_
        · have d5 := hD 5 (by decide)
          simp only [fact, layAt, depOn, dstOf, List.map_cons, List.map_nil, List.foldl_cons, List.foldl_nil, List.getD_cons_zero, List.getD_cons_succ, List.getElem?_cons_zero, List.getElem?_cons_succ, Option.bind_some] at d5
          have d6 := hD 6 (by decide)
          simp only [fact, layAt, depOn, dstOf, List.map_cons, List.map_nil, List.foldl_cons, List.foldl_nil, List.getD_cons_zero, List.getD_cons_succ, List.getElem?_cons_zero, List.getElem?_cons_succ, Option.bind_some] at d6
          clear hD
          intro hN
          simp only [fact, layAt, depOn, dstOf, List.map_cons, List.map_nil, List.foldl_cons, List.foldl_nil, List.getD_cons_zero, List.getD_cons_succ, List.getElem?_cons_zero, List.getElem?_cons_succ, Option.bind_some, d5, d6] at hN ⊢
          go_simp
          refine (tokMay_any t ht u).mono ?_
          rintro e u' ⟨rfl, f⟩
          have hh := hN _ _ rfl (.inl f)
          revert hh
          go_simp
        refine owed_cons (fun vs u hS hD N => ?_) ?_
        · have d5 := hD 5 (by decide)
          simp only [fact, layAt, depOn, dstOf, List.map_cons, List.map_nil, List.foldl_cons, List.foldl_nil, List.getD_cons_zero, List.getD_cons_succ, List.getElem?_cons_zero, List.getElem?_cons_succ, Option.bind_some] at d5
          clear hD
          intro hN
          simp only [fact, layAt, depOn, dstOf, List.map_cons, List.map_nil, List.foldl_cons, List.foldl_nil, List.getD_cons_zero, List.getD_cons_succ, List.getElem?_cons_zero, List.getElem?_cons_succ, Option.bind_some, d5] at hN ⊢
          rw [if_pos (by rfl)]
          refine wp_load_blk (kt.below hS kt.lt) 31 (.tmp 4) rfl rfl Try.underlying31 Hit.out ?_
          exact hN _ _ rfl (.inl (Below.refl _ _))
        refine owed_cons (fun vs u hS hD N => ?_) ?_
        · have d5 := hD 5 (by decide)
          simp only [fact, layAt, depOn, dstOf, List.map_cons, List.map_nil, List.foldl_cons, List.foldl_nil, List.getD_cons_zero, List.getD_cons_succ, List.getElem?_cons_zero, List.getElem?_cons_succ, Option.bind_some] at d5
          have d8 := hD 8 (by decide)
          simp only [fact, layAt, depOn, dstOf, List.map_cons, List.map_nil, List.foldl_cons, List.foldl_nil, List.getD_cons_zero, List.getD_cons_succ, List.getElem?_cons_zero, List.getElem?_cons_succ, Option.bind_some] at d8
          clear hD
          intro hN
          simp only [fact, layAt, depOn, dstOf, List.map_cons, List.map_nil, List.foldl_cons, List.foldl_nil, List.getD_cons_zero, List.getD_cons_succ, List.getElem?_cons_zero, List.getElem?_cons_succ, Option.bind_some, d5, d8] at hN ⊢
          go_simp
          refine (refTokMay_any t ht u).mono ?_
          rintro e u' ⟨rfl, f⟩
          have hh := hN _ _ rfl (.inl f)
          revert hh
          go_simp
        refine owed_cons (fun vs u hS hD N => ?_) ?_
        · have d5 := hD 5 (by decide)
          simp only [fact, layAt, depOn, dstOf, List.map_cons, List.map_nil, List.foldl_cons, List.foldl_nil, List.getD_cons_zero, List.getD_cons_succ, List.getElem?_cons_zero, List.getElem?_cons_succ, Option.bind_some] at d5
          have d7 := hD 7 (by decide)
          simp only [fact, layAt, depOn, dstOf, List.map_cons, List.map_nil, List.foldl_cons, List.foldl_nil, List.getD_cons_zero, List.getD_cons_succ, List.getElem?_cons_zero, List.getElem?_cons_succ, Option.bind_some] at d7
          have d9 := hD 9 (by decide)
          simp only [fact, layAt, depOn, dstOf, List.map_cons, List.map_nil, List.foldl_cons, List.foldl_nil, List.getD_cons_zero, List.getD_cons_succ, List.getElem?_cons_zero, List.getElem?_cons_succ, Option.bind_some] at d9
          clear hD
          intro hN
          simp only [fact, layAt, depOn, dstOf, List.map_cons, List.map_nil, List.foldl_cons, List.foldl_nil, List.getD_cons_zero, List.getD_cons_succ, List.getElem?_cons_zero, List.getElem?_cons_succ, Option.bind_some, d5, d7, d9] at hN ⊢
          go_simp
          have hh := hN _ _ rfl (.inl (Below.refl _ _))
          revert hh
          go_simp
        refine owed_cons (fun vs u hS hD N => ?_) ?_
        · have d5 := hD 5 (by decide)
          simp only [fact, layAt, depOn, dstOf, List.map_cons, List.map_nil, List.foldl_cons, List.foldl_nil, List.getD_cons_zero, List.getD_cons_succ, List.getElem?_cons_zero, List.getElem?_cons_succ, Option.bind_some] at d5
          have d10 := hD 10 (by decide)
          simp only [fact, layAt, depOn, dstOf, List.map_cons, List.map_nil, List.foldl_cons, List.foldl_nil, List.getD_cons_zero, List.getD_cons_succ, List.getElem?_cons_zero, List.getElem?_cons_succ, Option.bind_some] at d10
          clear hD
          intro hN
          simp only [fact, layAt, depOn, dstOf, List.map_cons, List.map_nil, List.foldl_cons, List.foldl_nil, List.getD_cons_zero, List.getD_cons_succ, List.getElem?_cons_zero, List.getElem?_cons_succ, Option.bind_some, d5, d10] at hN ⊢
          go_simp
          have hh := hN _ _ rfl (.inl (Below.refl _ _))
          revert hh
          go_simp
        refine owed_cons (fun vs u hS hD N => ?_) ?_
        · have d11 := hD 11 (by decide)
          simp only [fact, layAt, depOn, dstOf, List.map_cons, List.map_nil, List.foldl_cons, List.foldl_nil, List.getD_cons_zero, List.getD_cons_succ, List.getElem?_cons_zero, List.getElem?_cons_succ, Option.bind_some] at d11
          clear hD
          intro hN
          simp only [fact, layAt, depOn, dstOf, List.map_cons, List.map_nil, List.foldl_cons, List.foldl_nil, List.getD_cons_zero, List.getD_cons_succ, List.getElem?_cons_zero, List.getElem?_cons_succ, Option.bind_some, d11] at hN ⊢
          go_simp
          have hh := hN _ _ rfl (.inl (Below.refl _ _))
          revert hh
          go_simp
        refine owed_cons (fun vs u hS hD N => ?_) ?_
        · have d12 := hD 12 (by decide)
          simp only [fact, layAt, depOn, dstOf, List.map_cons, List.map_nil, List.foldl_cons, List.foldl_nil, List.getD_cons_zero, List.getD_cons_succ, List.getElem?_cons_zero, List.getElem?_cons_succ, Option.bind_some] at d12
          clear hD
          intro hN
          simp only [fact, layAt, depOn, dstOf, List.map_cons, List.map_nil, List.foldl_cons, List.foldl_nil, List.getD_cons_zero, List.getD_cons_succ, List.getElem?_cons_zero, List.getElem?_cons_succ, Option.bind_some, d12] at hN ⊢
          rw [if_pos (by rfl)]
          refine wp_load_blk (kt.below hS kt.lt) 31 (.tmp 4) rfl rfl Try.underlying31 Hit.out ?_
          exact hN _ _ rfl (.inl (Below.refl _ _))
        refine owed_cons (fun vs u hS hD N => ?_) ?_
        · have d12 := hD 12 (by decide)
          simp only [fact, layAt, depOn, dstOf, List.map_cons, List.map_nil, List.foldl_cons, List.foldl_nil, List.getD_cons_zero, List.getD_cons_succ, List.getElem?_cons_zero, List.getElem?_cons_succ, Option.bind_some] at d12
          clear hD
          intro hN
          simp only [fact, layAt, depOn, dstOf, List.map_cons, List.map_nil, List.foldl_cons, List.foldl_nil, List.getD_cons_zero, List.getD_cons_succ, List.getElem?_cons_zero, List.getElem?_cons_succ, Option.bind_some, d12] at hN ⊢
          go_simp
          have hh := hN _ _ rfl (.inl (Below.refl _ _))
          revert hh
          go_simp
        refine owed_cons (fun vs u hS hD N => ?_) ?_
        · have d12 := hD 12 (by decide)
          simp only [fact, layAt, depOn, dstOf, List.map_cons, List.map_nil, List.foldl_cons, List.foldl_nil, List.getD_cons_zero, List.getD_cons_succ, List.getElem?_cons_zero, List.getElem?_cons_succ, Option.bind_some] at d12
          have d13 := hD 13 (by decide)
          simp only [fact, layAt, depOn, dstOf, List.map_cons, List.map_nil, List.foldl_cons, List.foldl_nil, List.getD_cons_zero, List.getD_cons_succ, List.getElem?_cons_zero, List.getElem?_cons_succ, Option.bind_some] at d13
          have d14 := hD 14 (by decide)
          simp only [fact, layAt, depOn, dstOf, List.map_cons, List.map_nil, List.foldl_cons, List.foldl_nil, List.getD_cons_zero, List.getD_cons_succ, List.getElem?_cons_zero, List.getElem?_cons_succ, Option.bind_some] at d14
          clear hD
          intro hN
          simp only [fact, layAt, depOn, dstOf, List.map_cons, List.map_nil, List.foldl_cons, List.foldl_nil, List.getD_cons_zero, List.getD_cons_succ, List.getElem?_cons_zero, List.getElem?_cons_succ, Option.bind_some, d12, d13, d14] at hN ⊢
          go_simp
          refine (fresh_any t ht now hnow u).mono ?_
          rintro e u' ⟨rfl, f⟩
          have hh := hN _ _ rfl (.inl f)
          revert hh
          go_simp
        refine owed_cons (fun vs u hS hD N => ?_) ?_
        · have d12 := hD 12 (by decide)
          simp only [fact, layAt, depOn, dstOf, List.map_cons, List.map_nil, List.foldl_cons, List.foldl_nil, List.getD_cons_zero, List.getD_cons_succ, List.getElem?_cons_zero, List.getElem?_cons_succ, Option.bind_some] at d12
          clear hD
          intro hN
          simp only [fact, layAt, depOn, dstOf, List.map_cons, List.map_nil, List.foldl_cons, List.foldl_nil, List.getD_cons_zero, List.getD_cons_succ, List.getElem?_cons_zero, List.getElem?_cons_succ, Option.bind_some, d12] at hN ⊢
          go_simp
          have hh := hN _ _ rfl (.inl (Below.refl _ _))
          revert hh
          go_simp
        refine owed_cons (fun vs u hS hD N => ?_) ?_
        · have d12 := hD 12 (by decide)
          simp only [fact, layAt, depOn, dstOf, List.map_cons, List.map_nil, List.foldl_cons, List.foldl_nil, List.getD_cons_zero, List.getD_cons_succ, List.getElem?_cons_zero, List.getElem?_cons_succ, Option.bind_some] at d12
          clear hD
          intro hN
          simp only [fact, layAt, depOn, dstOf, List.map_cons, List.map_nil, List.foldl_cons, List.foldl_nil, List.getD_cons_zero, List.getD_cons_succ, List.getElem?_cons_zero, List.getElem?_cons_succ, Option.bind_some, d12] at hN ⊢
          go_simp
          have hh := hN _ _ rfl (.inl (Below.refl _ _))
          revert hh
          go_simp
        have q5 : ∀ u : World, Below w2.heap.size w2 u → u.cell? ⟨w.heap.size + 1, 5, none⟩ = some (.int .u64 (t.born : Int)) := fun u hu => (kt.below hu kt.lt).cell 5
        refine owed_cons (fun vs u hS hD N => ?_) ?_
        · have d12 := hD 12 (by decide)
          simp only [fact, layAt, depOn, dstOf, List.map_cons, List.map_nil, List.foldl_cons, List.foldl_nil, List.getD_cons_zero, List.getD_cons_succ, List.getElem?_cons_zero, List.getElem?_cons_succ, Option.bind_some] at d12
          have d17 := hD 17 (by decide)
          simp only [fact, layAt, depOn, dstOf, List.map_cons, List.map_nil, List.foldl_cons, List.foldl_nil, List.getD_cons_zero, List.getD_cons_succ, List.getElem?_cons_zero, List.getElem?_cons_succ, Option.bind_some] at d17
          clear hD
          intro hN
          simp only [fact, layAt, depOn, dstOf, List.map_cons, List.map_nil, List.foldl_cons, List.foldl_nil, List.getD_cons_zero, List.getD_cons_succ, List.getElem?_cons_zero, List.getElem?_cons_succ, Option.bind_some, d12, d17] at hN ⊢
          go_simp
          have q := q5 _ hS
          go_simp
          have hh := hN _ _ rfl (.inl (Below.refl _ _))
          revert hh
          go_simp
        refine owed_cons (fun vs u hS hD N => ?_) ?_
        · have d12 := hD 12 (by decide)
          simp only [fact, layAt, depOn, dstOf, List.map_cons, List.map_nil, List.foldl_cons, List.foldl_nil, List.getD_cons_zero, List.getD_cons_succ, List.getElem?_cons_zero, List.getElem?_cons_succ, Option.bind_some] at d12
          have d16 := hD 16 (by decide)
          simp only [fact, layAt, depOn, dstOf, List.map_cons, List.map_nil, List.foldl_cons, List.foldl_nil, List.getD_cons_zero, List.getD_cons_succ, List.getElem?_cons_zero, List.getElem?_cons_succ, Option.bind_some] at d16
          have d18 := hD 18 (by decide)
          simp only [fact, layAt, depOn, dstOf, List.map_cons, List.map_nil, List.foldl_cons, List.foldl_nil, List.getD_cons_zero, List.getD_cons_succ, List.getElem?_cons_zero, List.getElem?_cons_succ, Option.bind_some] at d18
          clear hD
          intro hN
          simp only [fact, layAt, depOn, dstOf, List.map_cons, List.map_nil, List.foldl_cons, List.foldl_nil, List.getD_cons_zero, List.getD_cons_succ, List.getElem?_cons_zero, List.getElem?_cons_succ, Option.bind_some, d12, d16, d18] at hN ⊢
          go_simp
          have hh := hN _ _ rfl (.inl (Below.refl _ _))
          revert hh
          go_simp
        refine owed_cons (fun vs u hS hD N => ?_) ?_
        · have d12 := hD 12 (by decide)
          simp only [fact, layAt, depOn, dstOf, List.map_cons, List.map_nil, List.foldl_cons, List.foldl_nil, List.getD_cons_zero, List.getD_cons_succ, List.getElem?_cons_zero, List.getElem?_cons_succ, Option.bind_some] at d12
          have d19 := hD 19 (by decide)
          simp only [fact, layAt, depOn, dstOf, List.map_cons, List.map_nil, List.foldl_cons, List.foldl_nil, List.getD_cons_zero, List.getD_cons_succ, List.getElem?_cons_zero, List.getElem?_cons_succ, Option.bind_some] at d19
          clear hD
          intro hN
          simp only [fact, layAt, depOn, dstOf, List.map_cons, List.map_nil, List.foldl_cons, List.foldl_nil, List.getD_cons_zero, List.getD_cons_succ, List.getElem?_cons_zero, List.getElem?_cons_succ, Option.bind_some, d12, d19] at hN ⊢
          go_simp
          have hh := hN _ _ rfl (.inl (Below.refl _ _))
          revert hh
          go_simp
        refine owed_cons (fun vs u hS hD N => ?_) ?_
        · have d20 := hD 20 (by decide)
          simp only [fact, layAt, depOn, dstOf, List.map_cons, List.map_nil, List.foldl_cons, List.foldl_nil, List.getD_cons_zero, List.getD_cons_succ, List.getElem?_cons_zero, List.getElem?_cons_succ, Option.bind_some] at d20
          clear hD
          intro hN
          simp only [fact, layAt, depOn, dstOf, List.map_cons, List.map_nil, List.foldl_cons, List.foldl_nil, List.getD_cons_zero, List.getD_cons_succ, List.getElem?_cons_zero, List.getElem?_cons_succ, Option.bind_some, d20] at hN ⊢
          go_simp
          have hh := hN _ _ rfl (.inl (Below.refl _ _))
          revert hh
          go_simp
        refine owed_cons (fun vs u hS hD N => ?_) ?_
        · have d20 := hD 20 (by decide)
          simp only [fact, layAt, depOn, dstOf, List.map_cons, List.map_nil, List.foldl_cons, List.foldl_nil, List.getD_cons_zero, List.getD_cons_succ, List.getElem?_cons_zero, List.getElem?_cons_succ, Option.bind_some] at d20
          clear hD
          intro hN
          simp only [fact, layAt, depOn, dstOf, List.map_cons, List.map_nil, List.foldl_cons, List.foldl_nil, List.getD_cons_zero, List.getD_cons_succ, List.getElem?_cons_zero, List.getElem?_cons_succ, Option.bind_some, d20] at hN ⊢
          go_simp
          have hh := hN _ _ rfl (.inl (Below.refl _ _))
          revert hh
          go_simp
        refine owed_cons (fun vs u hS hD N => ?_) ?_
        · have d20 := hD 20 (by decide)
          simp only [fact, layAt, depOn, dstOf, List.map_cons, List.map_nil, List.foldl_cons, List.foldl_nil, List.getD_cons_zero, List.getD_cons_succ, List.getElem?_cons_zero, List.getElem?_cons_succ, Option.bind_some] at d20
          have d22 := hD 22 (by decide)
          simp only [fact, layAt, depOn, dstOf, List.map_cons, List.map_nil, List.foldl_cons, List.foldl_nil, List.getD_cons_zero, List.getD_cons_succ, List.getElem?_cons_zero, List.getElem?_cons_succ, Option.bind_some] at d22
          clear hD
          intro hN
          simp only [fact, layAt, depOn, dstOf, List.map_cons, List.map_nil, List.foldl_cons, List.foldl_nil, List.getD_cons_zero, List.getD_cons_succ, List.getElem?_cons_zero, List.getElem?_cons_succ, Option.bind_some, d20, d22] at hN ⊢
          go_simp
          have hh := hN _ _ rfl (.inl (Below.refl _ _))
          revert hh
          go_simp
        refine owed_cons (fun vs u hS hD N => ?_) ?_
        · have d20 := hD 20 (by decide)
          simp only [fact, layAt, depOn, dstOf, List.map_cons, List.map_nil, List.foldl_cons, List.foldl_nil, List.getD_cons_zero, List.getD_cons_succ, List.getElem?_cons_zero, List.getElem?_cons_succ, Option.bind_some] at d20
          have d21 := hD 21 (by decide)
          simp only [fact, layAt, depOn, dstOf, List.map_cons, List.map_nil, List.foldl_cons, List.foldl_nil, List.getD_cons_zero, List.getD_cons_succ, List.getElem?_cons_zero, List.getElem?_cons_succ, Option.bind_some] at d21
          have d23 := hD 23 (by decide)
          simp only [fact, layAt, depOn, dstOf, List.map_cons, List.map_nil, List.foldl_cons, List.foldl_nil, List.getD_cons_zero, List.getD_cons_succ, List.getElem?_cons_zero, List.getElem?_cons_succ, Option.bind_some] at d23
          clear hD
          intro hN
          simp only [fact, layAt, depOn, dstOf, List.map_cons, List.map_nil, List.foldl_cons, List.foldl_nil, List.getD_cons_zero, List.getD_cons_succ, List.getElem?_cons_zero, List.getElem?_cons_succ, Option.bind_some, d20, d21, d23] at hN ⊢
          go_simp
          have hh := hN _ _ rfl (.inl (Below.refl _ _))
          revert hh
          go_simp
        refine owed_cons (fun vs u hS hD N => ?_) ?_
        · have d20 := hD 20 (by decide)
          simp only [fact, layAt, depOn, dstOf, List.map_cons, List.map_nil, List.foldl_cons, List.foldl_nil, List.getD_cons_zero, List.getD_cons_succ, List.getElem?_cons_zero, List.getElem?_cons_succ, Option.bind_some] at d20
          have d24 := hD 24 (by decide)
          simp only [fact, layAt, depOn, dstOf, List.map_cons, List.map_nil, List.foldl_cons, List.foldl_nil, List.getD_cons_zero, List.getD_cons_succ, List.getElem?_cons_zero, List.getElem?_cons_succ, Option.bind_some] at d24
          clear hD
          intro hN
          simp only [fact, layAt, depOn, dstOf, List.map_cons, List.map_nil, List.foldl_cons, List.foldl_nil, List.getD_cons_zero, List.getD_cons_succ, List.getElem?_cons_zero, List.getElem?_cons_succ, Option.bind_some, d20, d24] at hN ⊢
          go_simp
          have hh := hN _ _ rfl (.inl (Below.refl _ _))
          revert hh
          go_simp
        refine owed_cons (fun vs u hS hD N => ?_) ?_
        · have d12 := hD 12 (by decide)
          simp only [fact, layAt, depOn, dstOf, List.map_cons, List.map_nil, List.foldl_cons, List.foldl_nil, List.getD_cons_zero, List.getD_cons_succ, List.getElem?_cons_zero, List.getElem?_cons_succ, Option.bind_some] at d12
          have d20 := hD 20 (by decide)
          simp only [fact, layAt, depOn, dstOf, List.map_cons, List.map_nil, List.foldl_cons, List.foldl_nil, List.getD_cons_zero, List.getD_cons_succ, List.getElem?_cons_zero, List.getElem?_cons_succ, Option.bind_some] at d20
          have d25 := hD 25 (by decide)
          simp only [fact, layAt, depOn, dstOf, List.map_cons, List.map_nil, List.foldl_cons, List.foldl_nil, List.getD_cons_zero, List.getD_cons_succ, List.getElem?_cons_zero, List.getElem?_cons_succ, Option.bind_some] at d25
          clear hD
          intro hN
          simp only [fact, layAt, depOn, dstOf, List.map_cons, List.map_nil, List.foldl_cons, List.foldl_nil, List.getD_cons_zero, List.getD_cons_succ, List.getElem?_cons_zero, List.getElem?_cons_succ, Option.bind_some, d12, d20, d25] at hN ⊢
          go_simp
          have hh := hN _ _ rfl (.inl (Below.refl _ _))
          revert hh
          go_simp
        refine owed_cons (fun vs u hS hD N => ?_) ?_
        · have d12 := hD 12 (by decide)
          simp only [fact, layAt, depOn, dstOf, List.map_cons, List.map_nil, List.foldl_cons, List.foldl_nil, List.getD_cons_zero, List.getD_cons_succ, List.getElem?_cons_zero, List.getElem?_cons_succ, Option.bind_some] at d12
          have d15 := hD 15 (by decide)
          simp only [fact, layAt, depOn, dstOf, List.map_cons, List.map_nil, List.foldl_cons, List.foldl_nil, List.getD_cons_zero, List.getD_cons_succ, List.getElem?_cons_zero, List.getElem?_cons_succ, Option.bind_some] at d15
          have d26 := hD 26 (by decide)
          simp only [fact, layAt, depOn, dstOf, List.map_cons, List.map_nil, List.foldl_cons, List.foldl_nil, List.getD_cons_zero, List.getD_cons_succ, List.getElem?_cons_zero, List.getElem?_cons_succ, Option.bind_some] at d26
          clear hD
          intro hN
          simp only [fact, layAt, depOn, dstOf, List.map_cons, List.map_nil, List.foldl_cons, List.foldl_nil, List.getD_cons_zero, List.getD_cons_succ, List.getElem?_cons_zero, List.getElem?_cons_succ, Option.bind_some, d12, d15, d26] at hN ⊢
          go_simp
          have hh := hN _ _ rfl (.inl (Below.refl _ _))
          revert hh
          go_simp
        refine owed_cons (fun vs u hS hD N => ?_) ?_
        · have d12 := hD 12 (by decide)
          simp only [fact, layAt, depOn, dstOf, List.map_cons, List.map_nil, List.foldl_cons, List.foldl_nil, List.getD_cons_zero, List.getD_cons_succ, List.getElem?_cons_zero, List.getElem?_cons_succ, Option.bind_some] at d12
          have d27 := hD 27 (by decide)
          simp only [fact, layAt, depOn, dstOf, List.map_cons, List.map_nil, List.foldl_cons, List.foldl_nil, List.getD_cons_zero, List.getD_cons_succ, List.getElem?_cons_zero, List.getElem?_cons_succ, Option.bind_some] at d27
          clear hD
          intro hN
          simp only [fact, layAt, depOn, dstOf, List.map_cons, List.map_nil, List.foldl_cons, List.foldl_nil, List.getD_cons_zero, List.getD_cons_succ, List.getElem?_cons_zero, List.getElem?_cons_succ, Option.bind_some, d12, d27] at hN ⊢
          go_simp
          have hh := hN _ _ rfl (.inl (Below.refl _ _))
          revert hh
          go_simp
        exact owed_nil
      ·
        intro vs u hS hF
        have d28 := hF 28 (by decide) (by decide)
        simp only [fact, layAt, depOn, dstOf, List.map_cons, List.map_nil, List.foldl_cons, List.foldl_nil, List.getD_cons_zero, List.getD_cons_succ, List.getElem?_cons_zero, List.getElem?_cons_succ, Option.bind_some] at d28
        clear hF
        simp only [List.length_cons, List.length_nil, Nat.reduceAdd, List.range, List.range.loop, fact, layAt, depOn, dstOf, List.map_cons, List.map_nil, List.foldl_cons, List.foldl_nil, List.getD_cons_zero, List.getD_cons_succ, List.getElem?_cons_zero, List.getElem?_cons_succ, Option.bind_some, d28]
        go_simp
        first | refine hk0 _ _ (Met.intro (hj0 _ _ ?_)) | refine Met.intro (hj0 _ _ ?_) | refine hj0 _ _ ?_
        (repeat apply Exists.intro)
        exact ⟨⟨rfl, hS⟩, rfl⟩
  case rest =>
  obtain ⟨rfl, hS⟩ := hcut
  obtain ⟨w3, ew3⟩ : ∃ w3 : World, w3 = wc := ⟨_, rfl⟩
  subst ew3
  clear HFR r2
  have lt3 : w.heap.size + 1 < w3.heap.size := Nat.lt_of_lt_of_le kt.lt hS.size
  replace kr := kr.below hS kr.lt
  replace f1 := f1.trans (hS.mono f1.size)
  clear hS kt
  have hsl : w.heap.size + 1 < w3.heap.size := lt3
  go_wp2_with (first | (refine load_blk kr rfl 25 (.tmp 3) rfl rfl Try.underlying25 (Hir.out _ _ _ _ _) ?_))
  refine (rotate_any A n c o m root w3 ((rl.below f1).more f1.size) (by omega)).mono ?_
  rintro e wa ⟨A2, n2, c2, o2, m2, root2, rfl, hz2, hr2, ow, fa⟩
  have hv : rgV A2 n2 c2 o2 m2 = .agg (rgC A2 n2 c2 o2 m2).toArray := rfl
  rw [hv]
  clear hv
  obtain ⟨er2, her2⟩ : ∃ er2, rotateE n o m = er2 := ⟨_, rfl⟩
  rw [her2] at hz2 hr2 ⊢
  have lr := kr.lt
  replace kr := kr.below fa lr
  replace f1 := f1.trans (fa.mono f1.size)
  have sa := fa.size
  have HZ2 := Lib.hid hz2; clear hz2
  have HR2 := Lib.hid hr2; clear hr2
  have HE2 := Lib.hid her2; clear her2
  clear fa lr
  go_upto_region 6 with (first | (refine store_blk (cs := rgC none 0 0 0 0) (Blk.newAt rfl 25 _) rfl 25 (.tmp 7) (.tmp 49) rfl rfl (us := rgC A2 n2 c2 o2 m2) rfl (Hir.out _ _ _ _ _) rfl (rgC_all _ _ _ _ _) ?_; intro wb ka hgb; have fb : Below wa.heap.size wa wb := ((Below.refl _ wa).alloc (Nat.le_refl _) _).grown hgb (by simp) (by simp)))
  replace kr := kr.below fb kr.lt
  replace f1 := f1.trans (fb.mono f1.size)
  replace ow := ow.below (Nat.le_refl _) fb
  have sb := fb.size
  clear hgb fb
  generalize wa.heap.size = ga at *
  go_wp2_with (first | (refine load_blk kr rfl 25 (.tmp 3) rfl rfl Try.underlying25 (Hir.out _ _ _ _ _) ?_))
  refine (retire_any A n c o m root wb ((rl.below f1).more f1.size) (by omega)).mono ?_
  rintro e wd ⟨A3, n3, c3, o3, m3, root3, rfl, hz3, hr3, ow3, fa⟩
  have hv : rgV A3 n3 c3 o3 m3 = .agg (rgC A3 n3 c3 o3 m3).toArray := rfl
  rw [hv]
  clear hv
  obtain ⟨er3, her3⟩ : ∃ er3, retireE n o m = er3 := ⟨_, rfl⟩
  rw [her3] at hz3 hr3 ⊢
  have lr := kr.lt
  have la := ka.lt
  replace kr := kr.below fa lr
  replace ka := ka.below fa la
  replace ow := ow.below (Nat.le_refl _) fa
  replace f1 := f1.trans (fa.mono f1.size)
  have HZ3 := Lib.hid hz3; clear hz3
  have HR3 := Lib.hid hr3; clear hr3
  have HE3 := Lib.hid her3; clear her3
  have sd := fa.size
  clear fa lr
  go_upto_region 7 with (first | (refine store_blk (cs := rgC none 0 0 0 0) (Blk.newAt rfl 25 _) rfl 25 (.tmp 9) (.tmp 54) rfl rfl (us := rgC A3 n3 c3 o3 m3) rfl (Hir.out _ _ _ _ _) rfl (rgC_all _ _ _ _ _) ?_; intro wf kb hgb; have fb : Below wd.heap.size wd wf := ((Below.refl _ wd).alloc (Nat.le_refl _) _).grown hgb (by simp) (by simp)))
  replace kr := kr.below fb kr.lt
  replace ka := ka.below fb ka.lt
  replace f1 := f1.trans (fb.mono f1.size)
  replace ow := ow.below (Nat.le_refl _) fb
  replace ow3 := (ow3.below (Nat.le_refl _) fb).base_le (show w3.heap.size ≤ wb.heap.size by omega)
  clear hgb fb
  generalize wd.heap.size = gb at *
  have HSA := Lib.hid sa; clear sa sb sd la
  go_wp2_with (first | (refine load_blk kr rfl 25 (.tmp 3) rfl rfl Try.underlying25 (Hir.out _ _ _ _ _) ?_))
  refine (refMayRing_any A n c o m wf).mono ?_
  rintro e wg ⟨rfl, fa⟩
  replace kr := kr.below fa kr.lt
  replace ka := ka.below fa ka.lt
  replace kb := kb.below fa kb.lt
  replace ow := ow.below (Nat.le_refl _) fa
  replace ow3 := ow3.below (Nat.le_refl _) fa
  replace f1 := f1.trans (fa.mono f1.size)
  clear fa
  cases hrg : rgOk n o m
  case false =>
    obtain rfl : er2 = 1 := HE2.out.symm.trans (rotateE_bad hrg)
    obtain rfl : er3 = 1 := HE3.out.symm.trans (retireE_bad hrg)
    obtain ⟨rfl, rfl, rfl, rfl, rfl, rfl⟩ := HZ2.out (by decide)
    obtain ⟨rfl, rfl, rfl, rfl, rfl, rfl⟩ := HZ3.out (by decide)
    have q7 : wg.cell? ⟨ga, 0, none⟩ = some (.slice none 0 0) := ka.cell 0
    have q9 : wg.cell? ⟨gb, 2, none⟩ = some (.int .u64 0) := kb.cell 2
    clear HE2 HE3 HZ2 HZ3 HR2 HR3
    go_wp2_with fail
    refine (awake6_any wg).mono ?_
    rintro e w9 ⟨rfl, f9⟩
    go_wp2_with fail
    go_ret
    exact ⟨rfl, f1.trans (f9.mono f1.size)⟩
  case true =>
  have hp := rgOk_parts hrg
  have a2 : wg.cell? ⟨ga, 2, none⟩ = some (.int .u64 (m2 : Int)) := ka.cell 2
  have a1 : wg.cell? ⟨ga, 1, none⟩ = some (.int .u64 (o2 : Int)) := ka.cell 1
  have a0 : wg.cell? ⟨ga, 0, none⟩ = some (.slice A2 n2 c2) := ka.cell 0
  have p2 : wg.cell? ⟨gb, 2, none⟩ = some (.int .u64 (m3 : Int)) := kb.cell 2
  have p1 : wg.cell? ⟨gb, 1, none⟩ = some (.int .u64 (o3 : Int)) := kb.cell 1
  have p0 : wg.cell? ⟨gb, 0, none⟩ = some (.slice A3 n3 c3) := kb.cell 0
  have r2 : wg.cell? ⟨w.heap.size, 2, none⟩ = some (.int .u64 (m : Int)) := kr.cell 2
  have r1 : wg.cell? ⟨w.heap.size, 1, none⟩ = some (.int .u64 (o : Int)) := kr.cell 1
  have r0 : wg.cell? ⟨w.heap.size, 0, none⟩ = some (.slice A n c) := kr.cell 0
  have v1 := run_str T23 ow.rd c2 9 Try.underlying9
  have v2 := run_str T23 ow3.rd c3 9 Try.underlying9
  have v3 := run_str T23 (rl.below f1) c 9 Try.underlying9
  have hwm : IntKind.u64.wrap ((m : Int) + 1) = (m : Int) + 1 := IntWalk.u64_in _ (by omega)
  have hwo : IntKind.u64.wrap ((o : Int) + 1) = (o : Int) + 1 := IntWalk.u64_in _ (by omega)
  go_upto_region 9 with fail
  go_cut [125] (fun v wx => v = .bool false ∧ wx = wg)
  case first =>
    clear p2 p1 p0 v2 HR3 HZ3 HE3
    by_cases hmc : m < 4611686018427387903
    · have d1 : decide ((m : Int) < 4611686018427387903) = true := by simp; omega
      obtain rfl : er2 = 0 := HE2.out.symm.trans (rotateE_yes hrg hmc)
      obtain ⟨e1, e2, e3, e4⟩ := HR2.out rfl
      subst e2 e3 e4
      subst n2
      go_wp2_with fail
      go_meet
      exact ⟨rfl, rfl⟩
    · have d1 : decide ((m : Int) < 4611686018427387903) = false := by simp; omega
      obtain rfl : er2 = 3 := HE2.out.symm.trans (rotateE_full hrg hmc)
      obtain ⟨rfl, rfl, rfl, rfl, rfl, rfl⟩ := HZ2.out (by decide)
      go_wp2_with fail
      go_meet
      exact ⟨rfl, rfl⟩
  case rest =>
  obtain ⟨rfl, rfl⟩ := hcut
  clear a2 a1 v1
  go_upto_region 11 with fail
  go_cut [174] (fun v wx => v = .bool false ∧ wx = wc)
  case first =>
    clear a0 HR2 HZ2 HE2
    by_cases hmc : o < m
    · have d1 : decide ((o : Int) < (m : Int)) = true := by simp; omega
      obtain rfl : er3 = 0 := HE3.out.symm.trans (retireE_yes hrg hmc)
      obtain ⟨e1, e2, e3, e4⟩ := HR3.out rfl
      subst e2 e3 e4
      subst n3
      go_wp2_with fail
      go_meet
      exact ⟨rfl, rfl⟩
    · have d1 : decide ((o : Int) < (m : Int)) = false := by simp; omega
      obtain rfl : er3 = 3 := HE3.out.symm.trans (retireE_full hrg hmc)
      obtain ⟨rfl, rfl, rfl, rfl, rfl, rfl⟩ := HZ3.out (by decide)
      go_wp2_with fail
      go_meet
      exact ⟨rfl, rfl⟩
  case rest =>
  obtain ⟨rfl, rfl⟩ := hcut
  have hn2 : n2 ≤ 300 := by
    by_cases h : er2 = 0
    · have := (HR2.out h).1; omega
    · have := (HZ2.out h).2.1; omega
  clear p2 p1 p0 v2 kb ow3 HR3 HZ3 HE3 HR2 HZ2 HE2 a0 r2 r1
  go_wp2_with fail
  have hcap := ow.cap
  go_loopw [12] (fun i wr => ∃ (q : Nat) (L' : List UInt8), i = .int .i64 q ∧ q ≤ n2 ∧ OwnB wr w3.heap.size 5 (.slice A2 n2 c2) L' ∧ Blk wr ga 25 (rgC A2 n2 c2 o2 m2) ∧ Blk wr w.heap.size 25 (rgC A n c o m) ∧ Below w.heap.size w wr) (fun i _ => n2 - (intOf i).toNat)
  case atStart => exact ⟨0, root2, rfl, Nat.zero_le _, ow, ka, kr, f1⟩
  case round =>
    clear ow ka kr f1 v3 r0
    obtain ⟨q, L', rfl, hq, ow, ka, kr, f1⟩ := hrel
    have a0 : wr.cell? ⟨ga, 0, none⟩ = some (.slice A2 n2 c2) := ka.cell 0
    by_cases hlt : q < n2
    · have d2 : decide ((q : Int) < (n2 : Int)) = true := by simp; omega
      have b3 : (0 : Int) ≤ (q : Int) := by omega
      have b4 : (q : Int) < (n2 : Int) := by omega
      obtain ⟨g, rfl, hg, hz⟩ := ow.addr (by omega)
      have hLl := ow.len
      have c1 := ow.cell (j := q) (by omega)
      have z1 := hz q
      have ob2 := ow.setByte hlt (L'[q] + 1)
      unfold bv at c1 ob2
      rw [← byte_inc] at ob2
      have hne : ga ≠ g := fun e => ow.not_row ka (by decide) (by rw [e]; rfl)
      have ka2 := ka.far (p := ⟨g, q, none⟩) hne (.int .u8 (((L'[q].toNat : Int) + 1) % 256))
      have kr2 := kr.far (p := ⟨g, q, none⟩) (by show w.heap.size ≠ g; omega) (.int .u8 (((L'[q].toNat : Int) + 1) % 256))
      have f2 := f1.setCell (p := ⟨g, q, none⟩) (by show w.heap.size ≤ g; omega) (.int .u8 (((L'[q].toNat : Int) + 1) % 256))
      have H2 := Lib.hid ob2
      clear ob2 ow hz ka kr f1
      generalize L'[q].toNat = C at *
      go_wp2_with fail
      go_roundw
      case rel => first | exact ⟨q + 1, _, by go_num, by omega, H2.out, ka2, kr2, f2⟩ | ((repeat apply Exists.intro); exact ⟨⟨q + 1, _, by go_num, by omega, H2.out, ka2, kr2, f2⟩, rfl⟩)
      case measure => simp [intOf]; omega
    · have d2 : decide ((q : Int) < (n2 : Int)) = false := by simp; omega
      clear ow
      have r0 : wr.cell? ⟨w.heap.size, 0, none⟩ = some (.slice A n c) := kr.cell 0
      have v3 := run_str T23 (rl.below f1) c 9 Try.underlying9
      go_wp2_with fail
      refine (awake6_any wr).mono ?_
      rintro e w9 ⟨rfl, f9⟩
      go_wp2_with fail
      go_ret
      exact ⟨rfl, f1.trans (f9.mono f1.size)⟩
end Go.Proofs.Ytgefbgjgcjiceaa
