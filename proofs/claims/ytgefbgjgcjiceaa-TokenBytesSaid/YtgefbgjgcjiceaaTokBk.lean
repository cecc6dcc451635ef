/- token.Bytes, the document's Bytes: what they answer. Condition: labels of 1000 bytes at most. What is found is what was written, and the other way round; a token's bytes and what is read of them: plain. Conditions: sizes. -/
import Derived.Test.YtgefbgjgcjiceaaTokMay
import Derived.Test.YtgefbgjgcjiceaaRefTok
import Derived.Test.YtgefbgjgcjiceaaTokIssue
import Derived.Test.YtgefbgjgcjiceaaFacts
import Derived.Test.YtgefbgjgcjiceaaTokRd
namespace Go.Proofs.Ytgefbgjgcjiceaa
open Go.RowKit
set_option linter.unusedVariables false
set_option linter.unusedSimpArgs false
/-- A token's bytes. -/
def tokB (t : Tk) : List UInt8 := saidB t ++ t.mac
/-- The mac of a token that lies in a block, as bytes that are read. -/
theorem Blk.macR {w : World} {g : Nat} {t : Tk} (k : Blk w g 31 t.cells) (h : t.mac.length = 32) : RdB w w.heap.size (some ⟨g, 8, none⟩) 32 t.mac := by
  refine ⟨h, fun _ => ⟨g, 8, rfl, k.lt, fun j hj => ?_⟩⟩
  rw [k.cell]
  unfold Tk.cells
  rw [List.getElem?_append_right (by simp)]
  simp [bvs, hj]
attribute [local irreducible] saidB tkOk
set_option maxRecDepth 100000 in
set_option maxHeartbeats 2000000 in
theorem tokBytes_no (t : Tk) (ht : t.ok) (hk : tkOk t = false) (w : World) :
    Calls Try.prog 24 #[t.v] w fun e w' => e = .returned (.tuple #[.slice none 0 0, .int .i64 1]) ∧ Below w.heap.size w w' := by
  have hit : (Try.prog.info? 31).map (·.size) = some t.cells.length := by rw [t.len ht.mac]; kernel_rfl
  have Hit := Lib.hid hit; clear hit
  have htv : t.v = .agg t.cells.toArray := rfl
  rw [htv]
  go_enter Try.func24, Try.ntmps24
  go_upto_region 1 with fail
  refine abs (fun w1 => Blk w1 w.heap.size 31 t.cells ∧ Below w.heap.size w w1) ⟨Blk.of_new w _ _, (Below.refl _ w).alloc (Nat.le_refl _) _⟩ ?_
  rintro w1 ⟨kt, f1⟩
  go_wp2_with (first | (refine load_blk kt rfl 31 (.tmp 1) rfl rfl Try.underlying31 Hit.out ?_))
  refine (tokMay_any t ht w1).mono ?_
  rintro e w2 ⟨rfl, f2⟩
  replace f1 := f1.trans (f2.mono f1.size)
  go_wp2_with fail
  go_ret2
  exact ⟨rfl, f1⟩
set_option maxRecDepth 100000 in
set_option maxHeartbeats 2000000 in
theorem tokBytes_yes (t : Tk) (ht : t.ok) (h1 : t.ns.length ≤ 1000) (h2 : t.sa.length ≤ 1000) (hk : tkOk t = true) (w : World) :
    Calls Try.prog 24 #[t.v] w fun e w' => ∃ A c, e = .returned (.tuple #[.slice A (tokB t).length c, .int .i64 0]) ∧ OwnB w' w.heap.size 5 (.slice A (tokB t).length c) (tokB t) ∧ Below w.heap.size w w' := by
  have hho := tkOk_host hk
  have hsl := saidB_le t ht h1 h2 (by omega)
  have hml := ht.mac
  have hit : (Try.prog.info? 31).map (·.size) = some t.cells.length := by rw [t.len ht.mac]; kernel_rfl
  have Hit := Lib.hid hit; clear hit
  have htv : t.v = .agg t.cells.toArray := rfl
  rw [htv]
  go_enter Try.func24, Try.ntmps24
  go_upto_region 1 with fail
  refine abs (fun w1 => Blk w1 w.heap.size 31 t.cells ∧ Below w.heap.size w w1) ⟨Blk.of_new w _ _, (Below.refl _ w).alloc (Nat.le_refl _) _⟩ ?_
  rintro w1 ⟨kt, f1⟩
  go_wp2_with (first | (refine load_blk kt rfl 31 (.tmp 1) rfl rfl Try.underlying31 Hit.out ?_))
  refine (tokMay_any t ht w1).mono ?_
  rintro e w2 ⟨rfl, f2⟩
  replace kt := kt.below f2 kt.lt
  replace f1 := f1.trans (f2.mono f1.size)
  clear f2
  go_wp2_with fail
  refine (newWriter_any w2).mono ?_
  rintro e w3 ⟨rfl, wr, f3⟩
  have lt := kt.lt
  replace kt := kt.below f3 lt
  have hs2 := f1.size
  replace f1 := f1.trans (f3.mono hs2)
  have hs3 := f3.size
  clear f3
  generalize w2.heap.size = p at *
  go_wp2_with (first | (refine load_blk kt rfl 31 (.tmp 1) rfl rfl Try.underlying31 Hit.out ?_))
  rw [← htv]
  refine (said_any p t ht h1 h2 (by omega) w3 wr).mono ?_
  rintro e w4 ⟨rfl, A3, c3, wr3, d3⟩
  have f4 : Below p w3 w4 := d3.2.below (Nat.le_of_lt wr.lt) (by
    rintro k (hk | ⟨x, hx, _⟩)
    · omega
    · cases hx)
  have hA3 : ∀ k, isB A3 k → p ≤ k := by
    rintro k ⟨x, hx, rfl⟩
    rcases d3.1 with h0 | ⟨g, h0, hg⟩
    · rw [h0] at hx; cases hx
    · rw [h0] at hx
      injection hx with hx
      subst hx
      exact Nat.le_trans hs3 hg
  replace kt := kt.below f4 lt
  replace f1 := f1.trans (f4.mono hs2)
  have hs4 := f4.size
  clear f4 d3 wr
  have rm := kt.macR hml
  go_wp2_with fail
  refine (wRaw_any p A3 _ c3 _ (some ⟨w.heap.size, 8, none⟩) 32 32 t.mac w4 wr3 rm (by omega)).mono ?_
  rintro e w5 ⟨rfl, A5, c5, wr5, d5⟩
  have hp4 := wr3.lt
  have f5 : Below p w4 w5 := d5.2.below (Nat.le_of_lt hp4) (by
    rintro k (hk | hk)
    · omega
    · exact hA3 k hk)
  replace f1 := f1.trans (f5.mono hs2)
  clear f5 d5 wr3 rm
  go_wp2_with fail
  refine (bytes_any p A5 _ c5 _ w5 wr5 (by rw [List.length_append]; omega)).mono ?_
  rintro e w6 ⟨A6, c6, rfl, o6, f6⟩
  replace o6 := o6.base_le f1.size
  replace f1 := f1.trans (f6.mono f1.size)
  clear f6
  go_wp2_with fail
  go_ret2
  have hLen : (saidB t ++ t.mac).length = (saidB t).length + 32 := by rw [List.length_append, hml]
  have hLen2 : (tokB t).length = (saidB t).length + 32 := hLen
  rw [hLen] at o6
  rw [hLen2]
  exact ⟨A6, c6, rfl, o6, f1⟩
set_option maxRecDepth 100000 in
set_option maxHeartbeats 2000000 in
theorem refTokBytes_any (t : Tk) (ht : t.ok) (h1 : t.ns.length ≤ 1000) (h2 : t.sa.length ≤ 1000) (hk : tkOk t = true) (w : World) :
    Calls Try.prog 25 #[t.v] w fun e w' => ∃ A c, e = .returned (.slice A (tokB t).length c) ∧ OwnB w' w.heap.size 5 (.slice A (tokB t).length c) (tokB t) ∧ Below w.heap.size w w' := by
  have hho := tkOk_host hk
  have hsl := saidB_le t ht h1 h2 (by omega)
  have hml := ht.mac
  have hit : (Try.prog.info? 31).map (·.size) = some t.cells.length := by rw [t.len ht.mac]; kernel_rfl
  have Hit := Lib.hid hit; clear hit
  have htv : t.v = .agg t.cells.toArray := rfl
  rw [htv]
  go_enter Try.func25, Try.ntmps25
  go_upto_region 1 with fail
  refine abs (fun w1 => Blk w1 w.heap.size 31 t.cells ∧ Below w.heap.size w w1) ⟨Blk.of_new w _ _, (Below.refl _ w).alloc (Nat.le_refl _) _⟩ ?_
  rintro w1 ⟨kt, f1⟩
  have hLen : (tokB t).length = (saidB t).length + 32 := by unfold tokB; rw [List.length_append, hml]
  refine wp_region_facts (fun u => Below w1.heap.size w1 u) [
    fun v _ => v = .agg t.cells.toArray,
    fun v u => ∃ A' c', v = .slice A' (saidB t).length c' ∧ OwnB u w1.heap.size 5 (.slice A' (saidB t).length c') (saidB t),
    fun v _ => v = .pointer (some ⟨w.heap.size, 8, none⟩),
    fun v _ => v = .slice (some ⟨w.heap.size, 8, none⟩) 32 32,
    fun v u => ∃ A' c', v = .slice A' ((saidB t).length + 32) c' ∧ OwnB u w1.heap.size 5 (.slice A' ((saidB t).length + 32) c') (saidB t ++ t.mac),
    fun v u => ∃ A' c', v = .slice A' ((saidB t).length + 32) c' ∧ OwnB u w1.heap.size 5 (.slice A' ((saidB t).length + 32) c') (saidB t ++ t.mac)] (fun u u' => Below u.heap.size u u') [[], [0], [], [2], [1, 3], [4]]
    [[], [], [], [], [1], []] (by kernel_rfl) (by kernel_rfl) ?_ (fun _ _ _ _ _ h => h) ((Below.refl _ _).drew) ?_ ?_
  · refine hE_of (fun u u' h f => f.trans (h.mono f.size)) ?_
    repeat' (first | exact mono_nil | refine mono_cons (fun v u u' h => ?_) ?_)
    all_goals first | exact id | (rintro ⟨A', c', e, o⟩; exact ⟨A', c', e, o.below (Nat.le_refl _) h⟩)
  ·
    refine owed_cons (fun vs u hS hD N => ?_) ?_
    · clear hD
      intro hN
      simp only [fact, layAt, depOn, dstOf, List.map_cons, List.map_nil, List.foldl_cons, List.foldl_nil, List.getD_cons_zero, List.getD_cons_succ, List.getElem?_cons_zero, List.getElem?_cons_succ, Option.bind_some] at hN ⊢
      rw [if_pos (by rfl)]
      refine wp_load_blk (kt.below hS kt.lt) 31 (.tmp 1) rfl rfl Try.underlying31 Hit.out ?_
      exact hN _ _ rfl (.inl (Below.refl _ _))
    refine owed_cons (fun vs u hS hD N => ?_) ?_
    · have d0 := hD 0 (by decide)
      simp only [fact, layAt, depOn, dstOf, List.map_cons, List.map_nil, List.foldl_cons, List.foldl_nil, List.getD_cons_zero, List.getD_cons_succ, List.getElem?_cons_zero, List.getElem?_cons_succ, Option.bind_some] at d0
      clear hD
      intro hN
      simp only [fact, layAt, depOn, dstOf, List.map_cons, List.map_nil, List.foldl_cons, List.foldl_nil, List.getD_cons_zero, List.getD_cons_succ, List.getElem?_cons_zero, List.getElem?_cons_succ, Option.bind_some, d0] at hN ⊢
      go_simp
      rw [← htv]
      refine (refSaid_any t ht h1 h2 (by omega) u).mono ?_
      rintro e u' ⟨A', c', rfl, o, f⟩
      have o2 := o.base_le hS.size
      have hh := hN _ _ ⟨A', c', rfl, o2⟩ (.inl f)
      revert hh
      go_simp
    refine owed_cons (fun vs u hS hD N => ?_) ?_
    · clear hD
      intro hN
      simp only [fact, layAt, depOn, dstOf, List.map_cons, List.map_nil, List.foldl_cons, List.foldl_nil, List.getD_cons_zero, List.getD_cons_succ, List.getElem?_cons_zero, List.getElem?_cons_succ, Option.bind_some] at hN ⊢
      go_simp
      have hh := hN _ _ rfl (.inl (Below.refl _ _))
      revert hh
      go_simp
    refine owed_cons (fun vs u hS hD N => ?_) ?_
    · have d2 := hD 2 (by decide)
      simp only [fact, layAt, depOn, dstOf, List.map_cons, List.map_nil, List.foldl_cons, List.foldl_nil, List.getD_cons_zero, List.getD_cons_succ, List.getElem?_cons_zero, List.getElem?_cons_succ, Option.bind_some] at d2
      clear hD
      intro hN
      simp only [fact, layAt, depOn, dstOf, List.map_cons, List.map_nil, List.foldl_cons, List.foldl_nil, List.getD_cons_zero, List.getD_cons_succ, List.getElem?_cons_zero, List.getElem?_cons_succ, Option.bind_some, d2] at hN ⊢
      go_simp
      have hh := hN _ _ rfl (.inl (Below.refl _ _))
      revert hh
      go_simp
    refine owed_cons (fun vs u hS hD N => ?_) ?_
    · have d1 := hD 1 (by decide)
      simp only [fact, layAt, depOn, dstOf, List.map_cons, List.map_nil, List.foldl_cons, List.foldl_nil, List.getD_cons_zero, List.getD_cons_succ, List.getElem?_cons_zero, List.getElem?_cons_succ, Option.bind_some] at d1
      obtain ⟨A', c', e1, o⟩ := d1
      have d3 := hD 3 (by decide)
      simp only [fact, layAt, depOn, dstOf, List.map_cons, List.map_nil, List.foldl_cons, List.foldl_nil, List.getD_cons_zero, List.getD_cons_succ, List.getElem?_cons_zero, List.getElem?_cons_succ, Option.bind_some] at d3
      clear hD
      intro hN
      simp only [fact, layAt, depOn, dstOf, List.map_cons, List.map_nil, List.foldl_cons, List.foldl_nil, List.getD_cons_zero, List.getD_cons_succ, List.getElem?_cons_zero, List.getElem?_cons_succ, Option.bind_some, e1, d3] at hN ⊢
      rw [if_pos (by rfl)]
      refine wp_appendR T23 rfl (A := A') (n := (saidB t).length) (c := c') rfl o (A2 := some ⟨w.heap.size, 8, none⟩) (m := 32) (c2 := 32) rfl ((kt.below hS kt.lt).macR hml) (by omega) hS (Nat.le_refl _) ?_
      intro A2' c2' w' o' b' g'
      refine hN _ _ ⟨A2', c2', rfl, o'⟩ (.inr ⟨b', fun j v h1 h2 h3 => ?_⟩)
      match j with
      | 0 | 2 | 3 => exact id
      | 1 => exact absurd (by decide) h2
      | 4 => exact absurd rfl h1
      | 5 => exact absurd (show true = false from h3) (by decide)
      | _ + 6 => exact id
    refine owed_cons (fun vs u hS hD N => ?_) ?_
    · have d4 := hD 4 (by decide)
      simp only [fact, layAt, depOn, dstOf, List.map_cons, List.map_nil, List.foldl_cons, List.foldl_nil, List.getD_cons_zero, List.getD_cons_succ, List.getElem?_cons_zero, List.getElem?_cons_succ, Option.bind_some] at d4
      obtain ⟨A', c', e4, o⟩ := d4
      clear hD
      intro hN
      simp only [fact, layAt, depOn, dstOf, List.map_cons, List.map_nil, List.foldl_cons, List.foldl_nil, List.getD_cons_zero, List.getD_cons_succ, List.getElem?_cons_zero, List.getElem?_cons_succ, Option.bind_some, e4] at hN ⊢
      go_simp
      have hh := hN _ _ ⟨A', c', rfl, o⟩ (.inl (Below.refl _ _))
      revert hh
      go_simp
    exact owed_nil
  ·
    intro vs u hS hF
    obtain ⟨A', c', e5, o5⟩ : ∃ A' c', vs 5 = .slice A' ((saidB t).length + 32) c' ∧ OwnB u w1.heap.size 5 (.slice A' ((saidB t).length + 32) c') (saidB t ++ t.mac) := hF 5 (by decide) (by decide)
    clear hF
    simp only [List.length_cons, List.length_nil, Nat.reduceAdd, List.range, List.range.loop, layAt, dstOf, List.foldl_cons, List.foldl_nil, List.getElem?_cons_zero, List.getElem?_cons_succ, Option.bind_some, e5]
    go_simp
    go_wp2_with fail
    go_ret
    rw [hLen]
    exact ⟨A', c', rfl, o5.base_le f1.size, f1.trans (hS.mono f1.size)⟩
end Go.Proofs.Ytgefbgjgcjiceaa
namespace Go.Proofs.Ytgefbgjgcjiceaa
open Go.RowKit
set_option linter.unusedVariables false
theorem grp_mono : ∀ (x y : Nat), x ≤ y → y < 2 ^ 64 → grp x ≤ grp y := by
  intro x
  induction x using Nat.strongRecOn with
  | ind x ih =>
    intro y hxy hy
    by_cases hx : x < 128
    · rw [grp_small hx]
      exact grp_pos y hy
    · rw [grp_step (by omega) (by omega), grp_step (by omega) hy]
      have := ih (x / 128) (by omega) (y / 128) (by omega) (by omega)
      omega
theorem ofNat_inj {a b : Nat} (ha : a < 256) (hb : b < 256) (h : UInt8.ofNat a = UInt8.ofNat b) : a = b := by
  have := congrArg UInt8.toNat h
  simp at this
  omega
theorem leb_free : ∀ (x y : Nat) (r s : List UInt8), x < 2 ^ 64 → y < 2 ^ 64 → leb x ++ r = leb y ++ s → x = y ∧ r = s := by
  intro x
  induction x using Nat.strongRecOn with
  | ind x ih =>
    intro y r s hx hy h
    by_cases h1 : x < 128 <;> by_cases h2 : y < 128
    · rw [leb_small h1, leb_small h2] at h
      injection h with h3 h4
      exact ⟨ofNat_inj (by omega) (by omega) h3, h4⟩
    · rw [leb_small h1, leb_step (by omega) hy] at h
      injection h with h3 h4
      have := ofNat_inj (by omega) (by omega) h3
      omega
    · rw [leb_small h2, leb_step (by omega) hx] at h
      injection h with h3 h4
      have := ofNat_inj (by omega) (by omega) h3
      omega
    · rw [leb_step (by omega) hx, leb_step (by omega) hy] at h
      injection h with h3 h4
      have h5 := ofNat_inj (by omega) (by omega) h3
      obtain ⟨h6, h7⟩ := ih (x / 128) (by omega) (y / 128) r s (by omega) (by omega) h4
      exact ⟨by omega, h7⟩
theorem leb_take (x y : Nat) (hx : x < 2 ^ 64) (hy : y < 2 ^ 64) (hxy : x ≤ y) : (leb y).take (leb x).length = leb x ↔ x = y := by
  constructor
  · intro h
    have h1 : leb x ++ (leb y).drop (leb x).length = leb y ++ [] := by
      rw [List.append_nil]
      conv => rhs; rw [← List.take_append_drop (leb x).length (leb y), h]
    exact (leb_free x y _ _ hx hy h1).1
  · rintro rfl
    exact List.take_of_length_le (Nat.le_refl _)
theorem leb_one (y : Nat) (hy : y < 2 ^ 64) : (leb y).length = 1 ↔ y < 128 := by
  rw [leb_length y hy]
  constructor
  · intro h
    refine Decidable.byContradiction fun h1 => ?_
    rw [grp_step (by omega) hy] at h
    have := grp_pos (y / 128) (by omega)
    omega
  · exact grp_small

theorem shortGo_leb : ∀ (y i x0 : Nat) (r : List UInt8), x0 + y * 2 ^ (7 * i) < 18446744073709551616 → i ≤ 9 → grp (x0 + y * 2 ^ (7 * i)) = i + grp y → shortGo i x0 (leb y ++ r) = some (x0 + y * 2 ^ (7 * i), i + grp y) := by
  intro y
  induction y using Nat.strongRecOn with
  | ind y ih =>
    intro i x0 r hX hi hg
    have h9 : i = 9 → y ≤ 1 := by
      rintro rfl
      refine Decidable.byContradiction fun h => ?_
      have : 2 * 2 ^ (7 * 9) ≤ y * 2 ^ (7 * 9) := Nat.mul_le_mul_right _ (by omega)
      have h2 : 2 * 2 ^ (7 * 9) = 18446744073709551616 := by decide
      omega
    have hy64 : y < 2 ^ 64 := by
      have : y * 1 ≤ y * 2 ^ (7 * i) := Nat.mul_le_mul_left _ (Nat.two_pow_pos _)
      omega
    by_cases hy : y < 128
    · have e1 : (UInt8.ofNat y).toNat = y := by simp; omega
      rw [leb_small hy, List.singleton_append, shortGo, e1, if_neg (by omega), if_pos hy, Nat.mod_eq_of_lt hy, if_pos (by rw [hg, grp_small hy]), grp_small hy]
    · have e1 : (UInt8.ofNat (y % 128 + 128)).toNat = y % 128 + 128 := by simp; omega
      have i9 : i ≤ 8 := by
        refine Decidable.byContradiction fun h => ?_
        have := h9 (by omega)
        omega
      have e2 : x0 + (y % 128 + 128) % 128 * 2 ^ (7 * i) + y / 128 * 2 ^ (7 * (i + 1)) = x0 + y * 2 ^ (7 * i) := by
        have h1 : 2 ^ (7 * (i + 1)) = 128 * 2 ^ (7 * i) := by rw [Nat.mul_succ, Nat.pow_add, Nat.mul_comm]
        rw [h1, Nat.add_assoc, ← Nat.mul_assoc, ← Nat.add_mul]
        congr 2
        omega
      rw [leb_step (by omega) hy64, List.cons_append, shortGo, e1, if_neg (by omega), if_neg (by omega), ih (y / 128) (by omega) (i + 1) _ r (by rw [e2]; exact hX) (by omega) (by rw [e2, hg, grp_step (by omega) hy64]; omega), e2, grp_step (by omega) hy64]
      congr 2
      omega
theorem findShort_leb (y : Nat) (r : List UInt8) (hy : y < 18446744073709551616) : findShort (leb y ++ r) = some (y, (leb y).length) := by
  have := shortGo_leb y 0 0 r (by simpa using hy) (by omega) (by simp)
  rw [leb_length y hy]
  simpa [findShort] using this
/-- Of a strict beginning of a number's bytes nothing is found. -/
theorem shortGo_cut : ∀ (y i x0 k : Nat), x0 + y * 2 ^ (7 * i) < 18446744073709551616 → i ≤ 9 → k < (leb y).length → shortGo i x0 ((leb y).take k) = none := by
  intro y
  induction y using Nat.strongRecOn with
  | ind y ih =>
    intro i x0 k hX hi hk
    have h9 : i = 9 → y ≤ 1 := by
      rintro rfl
      refine Decidable.byContradiction fun h => ?_
      have : 2 * 2 ^ (7 * 9) ≤ y * 2 ^ (7 * 9) := Nat.mul_le_mul_right _ (by omega)
      have h2 : 2 * 2 ^ (7 * 9) = 18446744073709551616 := by decide
      omega
    have hy64 : y < 2 ^ 64 := by
      have : y * 1 ≤ y * 2 ^ (7 * i) := Nat.mul_le_mul_left _ (Nat.two_pow_pos _)
      omega
    rcases k with _ | k
    · rfl
    by_cases hy : y < 128
    · rw [leb_small hy] at hk
      simp at hk
    · have e1 : (UInt8.ofNat (y % 128 + 128)).toNat = y % 128 + 128 := by simp; omega
      have i9 : i ≤ 8 := by
        refine Decidable.byContradiction fun h => ?_
        have := h9 (by omega)
        omega
      have e2 : x0 + (y % 128 + 128) % 128 * 2 ^ (7 * i) + y / 128 * 2 ^ (7 * (i + 1)) = x0 + y * 2 ^ (7 * i) := by
        have h1 : 2 ^ (7 * (i + 1)) = 128 * 2 ^ (7 * i) := by rw [Nat.mul_succ, Nat.pow_add, Nat.mul_comm]
        rw [h1, Nat.add_assoc, ← Nat.mul_assoc, ← Nat.add_mul]
        congr 2
        omega
      rw [leb_step (by omega) hy64] at hk ⊢
      rw [List.length_cons] at hk
      rw [List.take_succ_cons, shortGo, e1, if_neg (by omega), if_neg (by omega)]
      exact ih (y / 128) (by omega) (i + 1) _ k (by rw [e2]; exact hX) (by omega) (by omega)
theorem findShort_cut (y k : Nat) (hy : y < 18446744073709551616) (hk : k < (leb y).length) : findShort ((leb y).take k) = none :=
  shortGo_cut y 0 0 k (by simpa using hy) (by omega) hk
theorem findText_own (m : Int) (s r : List UInt8) (hs : s.length < 18446744073709551616) : findText m (leb s.length ++ s ++ r) = if m < 0 ∨ m < (s.length : Int) then none else some (s, (leb s.length ++ s).length) := by
  have h1 : findShort (leb s.length ++ s ++ r) = some (s.length, (leb s.length).length) := by
    rw [List.append_assoc]
    exact findShort_leb s.length (s ++ r) hs
  rw [findText, h1]
  simp only [List.length_append]
  by_cases h : m < 0 ∨ m < (s.length : Int)
  · rw [if_pos h, if_pos (by omega)]
  · rw [if_neg h, if_neg (by omega)]
    simp [List.append_assoc]
theorem ofNat_mod (n : Nat) : (UInt8.ofNat n).toNat = n % 256 := by simp
theorem findU32_le32 (n : Nat) (r : List UInt8) : findU32 (le32 n ++ r) = some (n % 4294967296, 4) := by
  simp only [le32, List.cons_append, List.nil_append, findU32, ofNat_mod]
  congr 2
  omega
theorem takeS_some {α : Type} {g : List UInt8 → Option (α × Nat)} {z x : α} {l : List UInt8} {k : Nat} (h : g l = some (x, k)) : takeS g z ⟨l, false⟩ = (x, ⟨l.drop k, false⟩) := by
  rw [takeS]
  simp only [Bool.false_eq_true, if_false]
  rw [h]
theorem ofNat_self (c : UInt8) : UInt8.ofNat c.toNat = c := by simp
theorem shortGo_inv : ∀ (l : List UInt8) (i x0 y k : Nat), x0 < 2 ^ (7 * i) → i ≤ 9 → shortGo i x0 l = some (y, k) → ∃ z j, k = i + j + 1 ∧ y = x0 + z * 2 ^ (7 * i) ∧ lebN j z = l.take (j + 1) ∧ grp y = k
  | [], _, _, _, _, _, _, h => by cases h
  | c :: r, i, x0, y, k, hx, hi, h => by
    have hc := c.toNat_lt
    rw [shortGo] at h
    split at h
    · cases h
    · rename_i h9
      split at h
      · rename_i hc1
        split at h
        · rename_i hg
          injection h with h
          injection h with h1 h2
          subst h1 h2
          refine ⟨c.toNat, 0, by omega, by rw [Nat.mod_eq_of_lt hc1], ?_, hg⟩
          rw [lebN, ofNat_self]
          rfl
        · cases h
      · rename_i hc1
        have hi8 : i + 1 ≤ 9 := by omega
        have hx2 : x0 + c.toNat % 128 * 2 ^ (7 * i) < 2 ^ (7 * (i + 1)) := by
          have h4 : c.toNat % 128 + 1 ≤ 128 := by omega
          have h5 : (c.toNat % 128 + 1) * 2 ^ (7 * i) ≤ 128 * 2 ^ (7 * i) := Nat.mul_le_mul_right _ h4
          rw [Nat.succ_mul] at h5
          rw [Nat.mul_succ, Nat.pow_add]
          omega
        obtain ⟨z, j, h1, h2, h3, h4⟩ := shortGo_inv r (i + 1) _ y k hx2 hi8 h
        refine ⟨c.toNat % 128 + 128 * z, j + 1, by omega, ?_, ?_, h4⟩
        · have e : 2 ^ (7 * (i + 1)) = 128 * 2 ^ (7 * i) := by rw [Nat.mul_succ, Nat.pow_add, Nat.mul_comm]
          rw [h2, e, Nat.add_mul, Nat.add_assoc, Nat.mul_assoc, ← Nat.mul_assoc z, Nat.mul_comm z 128, Nat.mul_assoc 128 z]
        · rw [lebN, List.take_succ_cons, show (c.toNat % 128 + 128 * z) % 128 + 128 = c.toNat from by omega, ofNat_self, show (c.toNat % 128 + 128 * z) / 128 = z from by omega, h3]
theorem findShort_inv {l : List UInt8} {y k : Nat} (h : findShort l = some (y, k)) : leb y = l.take k := by
  obtain ⟨z, j, h1, h2, h3, h4⟩ := shortGo_inv l 0 0 y k (by simp) (by omega) h
  simp only [Nat.mul_zero, Nat.pow_zero, Nat.mul_one, Nat.zero_add] at h1 h2
  subst h2
  rw [leb, h4, h1, Nat.add_sub_cancel, h3]
theorem findU8_inv {l : List UInt8} {x k : Nat} (h : findU8 l = some (x, k)) : [UInt8.ofNat x] = l.take k ∧ k = 1 ∧ 1 ≤ l.length ∧ x < 256 := by
  cases l with
  | nil => cases h
  | cons c r =>
    simp only [findU8, Option.some.injEq, Prod.mk.injEq] at h
    obtain ⟨rfl, rfl⟩ := h
    exact ⟨by rw [ofNat_self]; rfl, rfl, by simp, c.toNat_lt⟩
theorem findU32_inv {l : List UInt8} {x k : Nat} (h : findU32 l = some (x, k)) : le32 x = l.take k ∧ k = 4 ∧ 4 ≤ l.length ∧ x < 4294967296 := by
  rcases l with _ | ⟨a, _ | ⟨b, _ | ⟨c, _ | ⟨d, r⟩⟩⟩⟩
  any_goals cases h
  have ha := a.toNat_lt
  have hb := b.toNat_lt
  have hc := c.toNat_lt
  have hd := d.toNat_lt
  refine ⟨?_, rfl, by simp, by omega⟩
  have q : ∀ (z : UInt8) (n : Nat), n % 256 = z.toNat → UInt8.ofNat n = z := fun z n h => by
    apply UInt8.toNat_inj.1
    simpa using h
  simp only [le32]
  rw [q a _ (by omega), q b _ (by omega), q c _ (by omega), q d _ (by omega)]
  rfl
theorem findText_inv {m : Int} {l s : List UInt8} {k : Nat} (h : findText m l = some (s, k)) : leb s.length ++ s = l.take k ∧ k ≤ l.length := by
  unfold findText at h
  cases hf : findShort l with
  | none => rw [hf] at h; cases h
  | some yk =>
    obtain ⟨y, i⟩ := yk
    rw [hf] at h
    simp only at h
    split at h
    · cases h
    · rename_i hn
      simp only [Option.some.injEq, Prod.mk.injEq] at h
      obtain ⟨rfl, rfl⟩ := h
      have h1 := findShort_inv hf
      have h2 := findShort_le hf
      have h3 : ((l.drop i).take y).length = y := by rw [List.length_take, List.length_drop]; omega
      refine ⟨?_, by omega⟩
      rw [h3, h1, List.take_add]
theorem findRaw_inv {m : Int} {l s : List UInt8} {k : Nat} (h : findRaw m l = some (s, k)) : s = l.take k ∧ k ≤ l.length := by
  unfold findRaw at h
  split at h
  · cases h
  · simp only [Option.some.injEq, Prod.mk.injEq] at h
    obtain ⟨rfl, rfl⟩ := h
    exact ⟨rfl, by omega⟩
theorem takeS_hit {α : Type} {g : List UInt8 → Option (α × Nat)} {z x : α} (pre r : List UInt8) {k : Nat} (h : g (pre ++ r) = some (x, k)) (hk : k = pre.length) : takeS g z ⟨pre ++ r, false⟩ = (x, ⟨r, false⟩) := by
  rw [takeS_some h, hk, List.drop_left]
theorem tkOk_labs {t : Tk} (h : tkOk t = true) : t.ns.length ≤ 20 ∧ t.sa.length ≤ 20 ∧ 1 ≤ t.host ∧ t.host ≤ 9 := by
  have h9 := tkOk_host h
  simp only [tkOk, mayN, labB, Bool.and_eq_true, decide_eq_true_eq] at h
  exact ⟨h.1.1.1.1.1.1.1.2, h.1.1.1.1.1.1.2.2, h9⟩
/-- What is read of a token's bytes, whatever stands behind them. -/
theorem read_fwd (t : Tk) (ht : t.ok) (hk : tkOk t = true) (r : List UInt8) : (rA0 (tokB t ++ r)).1 = 1 ∧ readT (tokB t ++ r) = t ∧ (rA9 (tokB t ++ r)).2 = ⟨r, false⟩ := by
  obtain ⟨hn1, hn2, hh1, hh2⟩ := tkOk_labs hk
  have hm := ht.mac
  have hu := ht.uid
  have hb := ht.born
  have hti := ht.till
  have hke := ht.key
  have had := ht.addr
  have e : tokB t ++ r = [1] ++ ((leb t.ns.length ++ t.ns) ++ ((leb t.sa.length ++ t.sa) ++ (leb t.uid ++ (leb t.host.toNat ++ (le32 t.addr ++ (leb t.born ++ (leb t.till ++ (leb t.key ++ (t.mac ++ r))))))))) := by
    simp [tokB, saidB, lebs, List.append_assoc]
  generalize tokB t ++ r = L at *
  have a0 : rA0 L = (1, ⟨(leb t.ns.length ++ t.ns) ++ ((leb t.sa.length ++ t.sa) ++ (leb t.uid ++ (leb t.host.toNat ++ (le32 t.addr ++ (leb t.born ++ (leb t.till ++ (leb t.key ++ (t.mac ++ r)))))))), false⟩) := by
    unfold rA0
    rw [e]
    exact takeS_hit [1] _ rfl rfl
  have a1 : rA1 L = (t.ns, ⟨(leb t.sa.length ++ t.sa) ++ (leb t.uid ++ (leb t.host.toNat ++ (le32 t.addr ++ (leb t.born ++ (leb t.till ++ (leb t.key ++ (t.mac ++ r))))))), false⟩) := by
    unfold rA1
    rw [a0]
    refine takeS_hit _ _ (k := (leb t.ns.length ++ t.ns).length) ?_ rfl
    rw [findText_own _ _ _ (by omega), if_neg (by omega)]
  have a2 : rA2 L = (t.sa, ⟨leb t.uid ++ (leb t.host.toNat ++ (le32 t.addr ++ (leb t.born ++ (leb t.till ++ (leb t.key ++ (t.mac ++ r)))))), false⟩) := by
    unfold rA2
    rw [a1]
    refine takeS_hit _ _ (k := (leb t.sa.length ++ t.sa).length) ?_ rfl
    rw [findText_own _ _ _ (by omega), if_neg (by omega)]
  have a3 : rA3 L = (t.uid, ⟨leb t.host.toNat ++ (le32 t.addr ++ (leb t.born ++ (leb t.till ++ (leb t.key ++ (t.mac ++ r))))), false⟩) := by
    unfold rA3
    rw [a2]
    exact takeS_hit _ _ (findShort_leb _ _ hu) rfl
  have a4 : rA4 L = (t.host.toNat, ⟨le32 t.addr ++ (leb t.born ++ (leb t.till ++ (leb t.key ++ (t.mac ++ r)))), false⟩) := by
    unfold rA4
    rw [a3]
    have h := takeS_hit (z := 0) _ (le32 t.addr ++ (leb t.born ++ (leb t.till ++ (leb t.key ++ (t.mac ++ r))))) (findShort_leb t.host.toNat _ (by omega)) rfl
    unfold smallS
    rw [h, if_neg (by show ¬ 9 < t.host.toNat; omega)]
  have a5 : rA5 L = (t.addr, ⟨leb t.born ++ (leb t.till ++ (leb t.key ++ (t.mac ++ r))), false⟩) := by
    unfold rA5
    rw [a4]
    refine takeS_hit _ _ (k := 4) ?_ rfl
    rw [findU32_le32, Nat.mod_eq_of_lt had]
  have a6 : rA6 L = (t.born, ⟨leb t.till ++ (leb t.key ++ (t.mac ++ r)), false⟩) := by
    unfold rA6
    rw [a5]
    exact takeS_hit _ _ (findShort_leb _ _ hb) rfl
  have a7 : rA7 L = (t.till, ⟨leb t.key ++ (t.mac ++ r), false⟩) := by
    unfold rA7
    rw [a6]
    exact takeS_hit _ _ (findShort_leb _ _ hti) rfl
  have a8 : rA8 L = (t.key, ⟨t.mac ++ r, false⟩) := by
    unfold rA8
    rw [a7]
    exact takeS_hit _ _ (findShort_leb _ _ hke) rfl
  have a9 : rA9 L = (t.mac, ⟨r, false⟩) := by
    unfold rA9
    rw [a8]
    refine takeS_hit _ _ (k := 32) ?_ hm.symm
    unfold findRaw
    rw [if_neg (by rw [List.length_append, hm]; omega)]
    simp [hm]
  have hne : t.mac ≠ [] := by intro h; rw [h] at hm; cases hm
  refine ⟨by rw [a0], ?_, by rw [a9]⟩
  unfold readT
  rw [a1, a2, a3, a4, a5, a6, a7, a8, a9, if_neg hne]
  have hh : ((t.host.toNat : Nat) : Int) = t.host := by omega
  simp only
  rw [hh]
theorem takeS_inv {α : Type} {g : List UInt8 → Option (α × Nat)} {z : α} {s : RS} (h : (takeS g z s).2.st = false) : ∃ k, g s.l = some ((takeS g z s).1, k) ∧ s.st = false ∧ (takeS g z s).2.l = s.l.drop k := by
  obtain ⟨l, st⟩ := s
  unfold takeS at h ⊢
  cases st with
  | true => simp at h
  | false =>
    simp only [Bool.false_eq_true, if_false] at h ⊢
    cases hg : g l with
    | none => rw [hg] at h; cases h
    | some q =>
      obtain ⟨x, k⟩ := q
      exact ⟨k, rfl, trivial, rfl⟩
theorem smallS_inv {s : RS} (h : (smallS s).2.st = false) : ∃ k, findShort s.l = some ((smallS s).1, k) ∧ s.st = false ∧ (smallS s).2.l = s.l.drop k := by
  unfold smallS at h ⊢
  split at h
  · cases h
  · rename_i h9
    rw [if_neg h9]
    exact takeS_inv h
theorem cut_at {l pre : List UInt8} {k : Nat} (h : pre = l.take k) : l = pre ++ l.drop k := by rw [h, List.take_append_drop]
/-- What is read whole was a token's bytes. -/
theorem read_inv (l : List UInt8) (h0 : (rA0 l).1 = 1) (hE : readE l = false) : l = tokB (readT l) := by
  have hE2 : (rA9 l).2.st = false ∧ (rA9 l).2.l = [] := by
    unfold readE at hE
    simp only [Bool.or_eq_false_iff, Bool.not_eq_false', List.isEmpty_iff] at hE
    exact hE
  obtain ⟨h9, hl9⟩ := hE2
  obtain ⟨k9, f9, h8, d9⟩ := takeS_inv (g := findRaw 32) (z := []) (s := (rA8 l).2) h9
  obtain ⟨k8, f8, h7, d8⟩ := takeS_inv (g := findShort) (z := 0) (s := (rA7 l).2) h8
  obtain ⟨k7, f7, h6, d7⟩ := takeS_inv (g := findShort) (z := 0) (s := (rA6 l).2) h7
  obtain ⟨k6, f6, h5, d6⟩ := takeS_inv (g := findShort) (z := 0) (s := (rA5 l).2) h6
  obtain ⟨k5, f5, h4, d5⟩ := takeS_inv (g := findU32) (z := 0) (s := (rA4 l).2) h5
  obtain ⟨k4, f4, h3, d4⟩ := smallS_inv (s := (rA3 l).2) h4
  obtain ⟨k3, f3, h2, d3⟩ := takeS_inv (g := findShort) (z := 0) (s := (rA2 l).2) h3
  obtain ⟨k2, f2, h1, d2⟩ := takeS_inv (g := findText 20) (z := []) (s := (rA1 l).2) h2
  obtain ⟨k1, f1, h00, d1⟩ := takeS_inv (g := findText 20) (z := []) (s := (rA0 l).2) h1
  obtain ⟨k0, f0, _, d0⟩ := takeS_inv (g := findU8) (z := 0) (s := ⟨l, false⟩) h00
  have r9 := takeS_raw (rA8 l).2
  change (rA9 l).2.l = _ at d9
  change (rA8 l).2.l = _ at d8
  change (rA7 l).2.l = _ at d7
  change (rA6 l).2.l = _ at d6
  change (rA5 l).2.l = _ at d5
  change (rA4 l).2.l = _ at d4
  change (rA3 l).2.l = _ at d3
  change (rA2 l).2.l = _ at d2
  change (rA1 l).2.l = _ at d1
  change (rA0 l).2.l = _ at d0
  change findRaw 32 _ = some ((rA9 l).1, _) at f9
  change findShort _ = some ((rA8 l).1, _) at f8
  change findShort _ = some ((rA7 l).1, _) at f7
  change findShort _ = some ((rA6 l).1, _) at f6
  change findU32 _ = some ((rA5 l).1, _) at f5
  change findShort _ = some ((rA4 l).1, _) at f4
  change findShort _ = some ((rA3 l).1, _) at f3
  change findText 20 _ = some ((rA2 l).1, _) at f2
  change findText 20 _ = some ((rA1 l).1, _) at f1
  change findU8 l = some ((rA0 l).1, _) at f0
  change (rA9 l).1.length = 0 ∨ (rA9 l).1.length = 32 at r9
  have c9 := cut_at (findRaw_inv f9).1
  have c8 := cut_at (findShort_inv f8)
  have c7 := cut_at (findShort_inv f7)
  have c6 := cut_at (findShort_inv f6)
  have c5 := cut_at (findU32_inv f5).1
  have c4 := cut_at (findShort_inv f4)
  have c3 := cut_at (findShort_inv f3)
  have c2 := cut_at (findText_inv f2).1
  have c1 := cut_at (findText_inv f1).1
  have c0 := cut_at (findU8_inv f0).1
  rw [← d9, hl9, List.append_nil] at c9
  rw [← d8] at c8
  rw [← d7] at c7
  rw [← d6] at c6
  rw [← d5] at c5
  rw [← d4] at c4
  rw [← d3] at c3
  rw [← d2] at c2
  rw [← d1] at c1
  rw [← d0, h0] at c0
  have n9 : (rA9 l).1 ≠ [] := by
    intro h
    unfold findRaw at f9
    split at f9
    · cases f9
    · rename_i hx
      injection f9 with f9
      have := congrArg Prod.fst f9
      simp only at this
      rw [h] at this
      have h2 := congrArg List.length this
      rw [List.length_take] at h2
      simp only [List.length_nil] at h2
      omega
  have em : (readT l).mac = (rA9 l).1 := by
    show (if (rA9 l).1 = [] then List.replicate 32 0 else (rA9 l).1) = _
    rw [if_neg n9]
  have eh : (readT l).host.toNat = (rA4 l).1 := by
    show (((rA4 l).1 : Nat) : Int).toNat = _
    simp
  have et : tokB (readT l) = [1] ++ ((leb (rA1 l).1.length ++ (rA1 l).1) ++ ((leb (rA2 l).1.length ++ (rA2 l).1) ++ (leb (rA3 l).1 ++ (leb (rA4 l).1 ++ (le32 (rA5 l).1 ++ (leb (rA6 l).1 ++ (leb (rA7 l).1 ++ (leb (rA8 l).1 ++ (rA9 l).1)))))))) := by
    rw [tokB, em, saidB, eh]
    show (_ ++ _ ++ leb (rA1 l).1.length ++ (rA1 l).1 ++ leb (rA2 l).1.length ++ (rA2 l).1 ++ lebs [(rA3 l).1, (rA4 l).1] ++ le32 (rA5 l).1 ++ lebs [(rA6 l).1, (rA7 l).1, (rA8 l).1]) ++ _ = _
    simp [lebs, List.append_assoc]
  rw [et]
  have key : l = [UInt8.ofNat 1] ++ (rA0 l).2.l := c0
  rw [c1, c2, c3, c4, c5, c6, c7, c8, c9] at key
  exact key
theorem readV_own (t : Tk) (ht : t.ok) (hk : tkOk t = true) : readV (tokB t) = (t, 0) := by
  obtain ⟨h0, h1, h2⟩ := read_fwd t ht hk []
  rw [List.append_nil] at h0 h1 h2
  have hE : readE (tokB t) = false := by unfold readE; rw [h2]; rfl
  unfold readV
  rw [if_neg (by omega), hE, h1, hk]
  rfl
theorem readV_more (t : Tk) (ht : t.ok) (hk : tkOk t = true) (r : List UInt8) (hr : r ≠ []) : readV (tokB t ++ r) = (tkZero, 2) := by
  obtain ⟨h0, h1, h2⟩ := read_fwd t ht hk r
  have hE : readE (tokB t ++ r) = true := by
    unfold readE
    rw [h2]
    cases r with
    | nil => exact absurd rfl hr
    | cons => rfl
  unfold readV
  rw [if_neg (by omega), hE]
  rfl
theorem readV_yes {l : List UInt8} (h0 : (rA0 l).1 = 1) (hE : readE l = false) (hk : tkOk (readT l) = true) : readV l = (readT l, 0) := by
  unfold readV
  rw [if_neg (by omega), hE, hk]
  rfl
/-- Bytes are a token's, or nothing is read of them. -/
theorem readV_form (l : List UInt8) : readV l = (tkZero, 2) ∨ (readV l = (readT l, 0) ∧ l = tokB (readT l) ∧ tkOk (readT l) = true) := by
  by_cases h0 : (rA0 l).1 = 1
  · cases hE : readE l
    · cases hk : tkOk (readT l)
      · left
        unfold readV
        rw [if_neg (by omega), hE, hk]
        rfl
      · exact .inr ⟨readV_yes h0 hE hk, read_inv l h0 hE, rfl⟩
    · left
      unfold readV
      rw [if_neg (by omega), hE]
      rfl
  · left
    unfold readV
    rw [if_pos h0]
theorem tokB_free {s t : Tk} (hs : s.ok) (ht : t.ok) (ks : tkOk s = true) (kt : tkOk t = true) (q r : List UInt8) (h : tokB s ++ q = tokB t ++ r) : s = t ∧ q = r := by
  obtain ⟨_, h1, h2⟩ := read_fwd s hs ks q
  obtain ⟨_, h3, h4⟩ := read_fwd t ht kt r
  rw [h] at h1 h2
  refine ⟨h1.symm.trans h3, ?_⟩
  have e := h2.symm.trans h4
  injection e
theorem readV_cut (t : Tk) (ht : t.ok) (hk : tkOk t = true) (k : Nat) (h : k < (tokB t).length) : readV ((tokB t).take k) = (tkZero, 2) := by
  rcases readV_form ((tokB t).take k) with h1 | ⟨_, h2, h3⟩
  · exact h1
  · exfalso
    have h4 := tokB_free (readT_ok _).1 ht h3 hk ((tokB t).drop k) [] (by rw [← h2, List.take_append_drop, List.append_nil])
    have h5 := congrArg List.length h4.2
    rw [List.length_drop] at h5
    simp only [List.length_nil] at h5
    omega
theorem tokB_inj {s t : Tk} (hs : s.ok) (ht : t.ok) (ks : tkOk s = true) (kt : tkOk t = true) (h : tokB s = tokB t) : s = t :=
  (tokB_free hs ht ks kt [] [] (by rw [h])).1
end Go.Proofs.Ytgefbgjgcjiceaa
