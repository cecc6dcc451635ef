/- gatepostref12.CopyRule: a rule in memory of its own. Condition: sizes. Printed by gen_pcopy.py. -/
import Derived.Test.YtdbjihpdfiipcaaGreatOwnApp
import Derived.Test.YtdbjihpdfiipcaaGreatFacts4
import Derived.Test.YtdbjihpdfiipcaaGreatPolTRS
import Derived.BigQuiet
namespace Go.Proofs.YtdbjihpdfiipcaaGreat
open Go.RowKit Go.Sort
set_option linter.unusedVariables false
set_option linter.unusedSimpArgs false
theorem TTm : RowTy Tryz.prog 31 78 2 24 (.agg #[.int .i64 0, .string ByteArray.empty]) := ⟨Tryz.underlying31, by kernel_rfl, rfl, by omega⟩
theorem TNt : RowTy Tryz.prog 43 48 2 16 (.agg #[.int .u32 0, .int .i64 0]) := ⟨Tryz.underlying43, by kernel_rfl, rfl, by omega⟩
theorem TIn : RowTy Tryz.prog 30 3 1 8 (.int .i64 0) := ⟨Tryz.underlying30, by kernel_rfl, rfl, by omega⟩
theorem TSr : RowTy Tryz.prog 22 45 3 72 (.agg #[.slice none 0 0, .slice none 0 0, .slice none 0 0]) := ⟨Tryz.underlying22, by kernel_rfl, rfl, by omega⟩
theorem TTg : RowTy Tryz.prog 23 33 4 96 (.agg #[.slice none 0 0, .slice none 0 0, .slice none 0 0, .slice none 0 0]) := ⟨Tryz.underlying23, by kernel_rfl, rfl, by omega⟩
theorem TWn : RowTy Tryz.prog 24 50 2 40 (.agg #[.string ByteArray.empty, .slice none 0 0]) := ⟨Tryz.underlying24, by kernel_rfl, rfl, by omega⟩
theorem TRu : RowTy Tryz.prog 36 26 3 72 (.agg #[.slice none 0 0, .slice none 0 0, .slice none 0 0]) := ⟨Tryz.underlying36, by kernel_rfl, rfl, by omega⟩
/-- CopyRule's own boxes: the rule, the result, the copy so far. -/
def CpB (w u : World) (cs : List Value) (v1 v2 v3 : Value) : Prop := Blk u w.heap.size 26 cs ∧ Blk u (w.heap.size + 1) 26 [.slice none 0 0, .slice none 0 0, .slice none 0 0] ∧ Blk u (w.heap.size + 1 + 1) 26 [v1, v2, v3] ∧ Below w.heap.size w u
theorem isB_own {A : Option Addr} {n c : Nat} {b : Nat} (h : (Value.slice A n c).ownBlock = some b) : isB A b := by
  cases A with
  | none => cases h
  | some ad => exact ⟨ad, rfl, by simpa [Value.ownBlock] using h⟩
theorem own_isB {A : Option Addr} {n c : Nat} {b : Nat} (h : isB A b) : (Value.slice A n c).ownBlock = some b := by
  obtain ⟨x, rfl, rfl⟩ := h
  rfl
set_option maxRecDepth 100000 in
set_option maxHeartbeats 4000000 in
theorem copyRule_any (r : Ru) (cs : List Value) (w : World) (h : RuP w w.heap.size cs r) (hok : okRu r) :
    Calls Tryz.prog 9 #[.agg cs.toArray] w fun e w' => Below w.heap.size w w' ∧ ∃ v1 v2 v3 h1, e = .returned (.agg #[v1, v2, v3]) ∧ w.heap.size ≤ h1 ∧ h1 ≤ w'.heap.size ∧
      RvG 3 SrP (mineW w.heap.size none w') h1 v1 r.froms ∧ OwnG 4 TgP w' h1 33 v2 r.tos ∧ OwnG 2 WnP w' h1 50 v3 r.whens := by
  obtain ⟨A1, n1, c1, A2, n2, c2, A3, n3, c3, rfl, h1, h2, h3⟩ := vals_ru h
  have l1 := h1.1
  have l2 := h2.1
  have l3 := h3.1
  have H1 := Lib.hid h1; have H2 := Lib.hid h2; have H3 := Lib.hid h3
  have L1 := Lib.hid l1; have L2 := Lib.hid l2; have L3 := Lib.hid l3
  have OK := Lib.hid hok
  have i26 : (Tryz.prog.info? 26).map (·.size) = some 3 := by kernel_rfl
  have I26 := Lib.hid i26; clear i26
  show Calls Tryz.prog 9 #[.agg #[.slice A1 n1 c1, .slice A2 n2 c2, .slice A3 n3 c3]] w _
  clear h h1 h2 h3 l1 l2 l3 hok
  go_enter Tryz.func9, Tryz.ntmps9
  go_wp2_with fail
  refine abs (fun u => CpB w u [.slice A1 n1 c1, .slice A2 n2 c2, .slice A3 n3 c3] (.slice none 0 0) (.slice none 0 0) (.slice none 0 0)) ?_ ?_
  · exact ⟨((Blk.newAt rfl _ #[.slice A1 n1 c1, .slice A2 n2 c2, .slice A3 n3 c3]).alloc _).alloc _, (Blk.newAt (by simp) _ #[.slice none 0 0, .slice none 0 0, .slice none 0 0]).alloc _, Blk.newAt (by simp) _ #[.slice none 0 0, .slice none 0 0, .slice none 0 0], (((Below.refl _ w).alloc (Nat.le_refl _) _).alloc (by simp) _).alloc (by simp; omega) _⟩
  intro w1 b1
  go_loopw [4] (fun vi wr => ∃ (k : Nat) (A : Option Addr) (c : Nat), vi = .int .i64 k ∧ k ≤ n1 ∧ CpB w wr [.slice A1 n1 c1, .slice A2 n2 c2, .slice A3 n3 c3] (.slice A k c) (.slice none 0 0) (.slice none 0 0) ∧ OwnG 3 SrP wr (w.heap.size + 1 + 1 + 1) 45 (.slice A k c) (r.froms.take k)) (fun vi _ => n1 - (intOf vi).toNat)
  case atStart => exact ⟨0, none, 0, rfl, Nat.zero_le _, b1, OwnG.nil⟩
  case round =>
    obtain ⟨k, A, c, rfl, hk, b2, o2⟩ := hrel
    by_cases hlt : k < n1
    · have d1 : decide ((k : Int) < (n1 : Int)) = true := by simp; omega
      have z1 : (0 : Int) ≤ (k : Int) := by omega
      have z2 : (k : Int) < (n1 : Int) := by omega
      have hkR : k < r.froms.length := by rw [L1.out]; exact hlt
      obtain ⟨k0, k1, k2, f2⟩ := b2
      obtain ⟨b, off, cs, rfl, p2, p3, p4, p5⟩ := (H1.out.mono (Nat.le_refl _) f2 (fun _ _ h => SrP.mono h (Nat.le_refl _) f2)).at_ hlt
      obtain ⟨x, hx⟩ : ∃ x, r.froms[k] = x := ⟨_, rfl⟩
      have e0 : wr.cell? ⟨w.heap.size, 0, none⟩ = some (.slice (some ⟨b, off, none⟩) n1 c1) := k0.cell 0
      obtain ⟨B1, m1, y1, B2, m2, y2, B3, m3, y3, rfl, q1, q2, q3⟩ := vals_sr p4
      have g0 : wr.cell? ⟨b, off + k * 3, none⟩ = some (.slice B1 m1 y1) := p5 0 _ rfl
      have g1 : wr.cell? ⟨b, off + k * 3 + 1, none⟩ = some (.slice B2 m2 y2) := p5 1 _ rfl
      have g2 : wr.cell? ⟨b, off + k * 3 + 2, none⟩ = some (.slice B3 m3 y3) := p5 2 _ rfl
      clear p5 p4
      go_upto_region 6 with fail
      have hne : ∀ b, isB A b → (w.heap.size + 1 + 1 + 1) ≤ b ∧ b < wr.heap.size := fun b hb => o2.lt _ (own_isB hb)
      refine abs (fun u => Blk u wr.heap.size 45 [.slice B1 m1 y1, .slice B2 m2 y2, .slice B3 m3 y3] ∧ Blk u (w.heap.size + 1 + 1) 26 [.slice A k c, .slice none 0 0, .slice none 0 0] ∧ OwnG 3 SrP u (w.heap.size + 1 + 1 + 1) 45 (.slice A k c) (r.froms.take k) ∧ Off (fun _ => False) wr u) ⟨Blk.newAt rfl _ #[.slice B1 m1 y1, .slice B2 m2 y2, .slice B3 m3 y3], k2.alloc _, o2.below SrP.mn ((Below.refl _ _).alloc (Nat.le_refl _) _), (Off.refl _ _).alloc _⟩ ?_
      rintro w2 ⟨kY, kX, o3, f3⟩
      have hYs := kY.lt
      have Q1 := q1.below (f3.all.mono f2.size)
      have Q2 := q2.below (f3.all.mono f2.size)
      have Q3 := q3.below (f3.all.mono f2.size)
      have hXs := kX.lt
      have hk2l := k2.lt
      have hbs : w.heap.size + 1 + 1 + 1 ≤ (w.heap.size + 1 + 1 + 1) ∧ (w.heap.size + 1 + 1 + 1) ≤ wr.heap.size := ⟨by omega, by omega⟩
      have hxY : ∀ b, (isB A b ∨ b = w.heap.size + 1 + 1) → b ≠ wr.heap.size ∧ w.heap.size ≤ b ∧ b < w2.heap.size := fun b hb => by
        rcases hb with hb | rfl
        · have := hne b hb
          exact ⟨by omega, by omega, by omega⟩
        · exact ⟨by omega, by omega, by omega⟩
      have YB : ∀ u, Off (fun b => isB A b ∨ b = w.heap.size + 1 + 1) w2 u → Blk u wr.heap.size 45 [.slice B1 m1 y1, .slice B2 m2 y2, .slice B3 m3 y3] := fun u hu => kY.off hu fun h => (hxY _ h).1 rfl
      have FB : ∀ u, Off (fun b => isB A b ∨ b = w.heap.size + 1 + 1) w2 u → Below w.heap.size w2 u := fun u hu => hu.below (by omega) fun b hb => (hxY b hb).2.1
      have Y1 : ∀ u, Off (fun b => isB A b ∨ b = w.heap.size + 1 + 1) w2 u → u.cell? ⟨wr.heap.size, 0, none⟩ = some (.slice B1 m1 y1) := fun u hu => (YB u hu).cell 0
      have Y2 : ∀ u, Off (fun b => isB A b ∨ b = w.heap.size + 1 + 1) w2 u → u.cell? ⟨wr.heap.size, 1, none⟩ = some (.slice B2 m2 y2) := fun u hu => (YB u hu).cell 1
      have Y3 : ∀ u, Off (fun b => isB A b ∨ b = w.heap.size + 1 + 1) w2 u → u.cell? ⟨wr.heap.size, 2, none⟩ = some (.slice B3 m3 y3) := fun u hu => (YB u hu).cell 2
      have okx := OK.out.1.2 _ (List.getElem_mem hkR)
      rw [hx] at Q1 Q2 Q3 okx
      have M1 : m1 ≤ 1000000 := by rw [← Q1.1]; exact okx.1.1
      have M2 : m2 ≤ 1000000 := by rw [← Q2.1]; exact okx.2.1.1
      have M3 : m3 ≤ 1000000 := by rw [← Q3.1]; exact okx.2.2.1
      have MK : k ≤ 1000000 := by have := OK.out.1.1; omega
      have RD1 : ∀ u, Off (fun b => isB A b ∨ b = w.heap.size + 1 + 1) w2 u → RdR tmC 2 u w.heap.size B1 m1 x.names := fun u hu => Q1.below (FB u hu)
      have RD2 : ∀ u, Off (fun b => isB A b ∨ b = w.heap.size + 1 + 1) w2 u → RdR tmC 2 u w.heap.size B2 m2 x.spaces := fun u hu => Q2.below (FB u hu)
      have RD3 : ∀ u, Off (fun b => isB A b ∨ b = w.heap.size + 1 + 1) w2 u → RdR ntC 2 u w.heap.size B3 m3 x.nets := fun u hu => Q3.below (FB u hu)
      have hAb : ∀ b, (Value.slice A k c).ownBlock = some b → (w.heap.size + 1 + 1 + 1) ≤ b ∧ b < w2.heap.size := fun b hb => o3.lt b hb
      have HMX : Hid (r.froms.take k ++ [x] = r.froms.take (k + 1)) := Lib.hid (by rw [List.take_succ_eq_append_getElem hkR, hx])
      have HFR := Lib.hid (show ∀ u, Off (fun b => isB A b ∨ b = w.heap.size + 1 + 1) w2 u → Off (fun b => isB A b ∨ b = w.heap.size + 1 + 1) wr u from fun u hu => (f3.mono fun _ _ h => h.elim).trans hu fun _ _ h => h)
      have HK0 := Lib.hid k0; have HK1 := Lib.hid k1; have HX := Lib.hid hx; have HNE := Lib.hid hne
      clear k0 k1 hx okx q1 Q1 q2 Q2 q3 Q3 g0 g1 g2 e0 o2 k2 p2 p3
      generalize hyb : wr.heap.size = yb at *
      refine F4.wp_region_facts (fun u => Off (fun b => isB A b ∨ b = w.heap.size + 1 + 1) w2 u) [
          fun _ v _ => v = .pointer (some ⟨w.heap.size + 1 + 1, 0, none⟩),
          fun _ v _ => v = .slice A k c,
          fun _ v u => ∃ g, v = .slice (some ⟨g, 0, none⟩) 0 0 ∧ w2.heap.size ≤ g ∧ Blk u g 78 [],
          fun _ v _ => v = .pointer (some ⟨yb, 0, none⟩),
          fun _ v _ => v = .slice B1 m1 y1,
          fun _ v u => ∃ A' c', v = .slice A' m1 c' ∧ OwnR tmC 2 u w2.heap.size 78 (.slice A' m1 c') x.names,
          fun _ v u => ∃ g, v = .slice (some ⟨g, 0, none⟩) 0 0 ∧ w2.heap.size ≤ g ∧ Blk u g 78 [],
          fun _ v _ => v = .pointer (some ⟨yb, 1, none⟩),
          fun _ v _ => v = .slice B2 m2 y2,
          fun _ v u => ∃ A' c', v = .slice A' m2 c' ∧ OwnR tmC 2 u w2.heap.size 78 (.slice A' m2 c') x.spaces,
          fun _ v u => ∃ g, v = .slice (some ⟨g, 0, none⟩) 0 0 ∧ w2.heap.size ≤ g ∧ Blk u g 48 [],
          fun _ v _ => v = .pointer (some ⟨yb, 2, none⟩),
          fun _ v _ => v = .slice B3 m3 y3,
          fun _ v u => ∃ A' c', v = .slice A' m3 c' ∧ OwnR ntC 2 u w2.heap.size 48 (.slice A' m3 c') x.nets,
          fun _ v u => ∃ E1 z1 E2 z2 E3 z3, v = .agg #[.slice E1 m1 z1, .slice E2 m2 z2, .slice E3 m3 z3] ∧ OwnR tmC 2 u w2.heap.size 78 (.slice E1 m1 z1) x.names ∧ OwnR tmC 2 u w2.heap.size 78 (.slice E2 m2 z2) x.spaces ∧ OwnR ntC 2 u w2.heap.size 48 (.slice E3 m3 z3) x.nets,
          fun _ v u => ∃ g E1 z1 E2 z2 E3 z3, v = .slice (some ⟨g, 0, none⟩) 1 1 ∧ w2.heap.size ≤ g ∧ Blk u g 45 [.slice E1 m1 z1, .slice E2 m2 z2, .slice E3 m3 z3] ∧ OwnR tmC 2 u w2.heap.size 78 (.slice E1 m1 z1) x.names ∧ OwnR tmC 2 u w2.heap.size 78 (.slice E2 m2 z2) x.spaces ∧ OwnR ntC 2 u w2.heap.size 48 (.slice E3 m3 z3) x.nets,
          fun _ v u => ∃ A' c', v = .slice A' (k + 1) c' ∧ OwnG 3 SrP u (w.heap.size + 1 + 1 + 1) 45 (.slice A' (k + 1) c') (r.froms.take (k + 1)),
          fun _ v _ => v = .pointer (some ⟨w.heap.size + 1 + 1, 0, none⟩),
          fun _ _ u => ∃ A' c', Blk u (w.heap.size + 1 + 1) 26 [.slice A' (k + 1) c', .slice none 0 0, .slice none 0 0] ∧ OwnG 3 SrP u (w.heap.size + 1 + 1 + 1) 45 (.slice A' (k + 1) c') (r.froms.take (k + 1))] (fun u u' => Below u.heap.size u u')
          [[], [0], [], [], [3], [2, 4], [], [], [7], [6, 8], [], [], [11], [10, 12], [5, 9, 13], [14], [1, 15], [], [16, 17]] [[], [], [], [], [], [], [], [], [], [], [], [], [], [], [], [], [15], [], [2, 5, 6, 9, 10, 13, 14, 15, 16]] [[], [], [], [], [], [], [], [], [], [], [], [], [], [], [], [], [17, 18], [], []] [
          fun u => u.cell? ⟨w.heap.size + 1 + 1, 0, none⟩ = some (.slice A k c),
          fun u => OwnG 3 SrP u (w.heap.size + 1 + 1 + 1) 45 (.slice A k c) (r.froms.take k),
          fun u => Blk u (w.heap.size + 1 + 1) 26 [.slice A k c, .slice none 0 0, .slice none 0 0]] [[], [0], [], [], [], [], [], [], [], [], [], [], [], [], [], [], [1], [], [2]] [[], [], [], [], [], [], [], [], [], [], [], [], [], [], [], [], [1], [], [0, 2]]
          (by kernel_rfl) (by kernel_rfl) ?_ (fun _ _ _ _ _ h => h) (Off.refl _ _).drew ⟨kX.cell 0, o3, kX, trivial⟩ ?_ ?_
      · refine F4.hE_of (fun u u' h f => f.trans (Off.of_all h) (fun _ _ h => h.elim)) ?_ ?_
        · repeat' (first | exact F4.mono_nil | refine F4.mono_cons (fun xs v u u' h => ?_) ?_)
          all_goals first | exact _root_.id | (rintro ⟨g, e, hg, kg⟩; exact ⟨g, e, hg, kg.below h kg.lt⟩) | (rintro ⟨A', c', e, o⟩; exact ⟨A', c', e, o.below (Nat.le_refl _) h⟩) | (rintro ⟨E1, z1, E2, z2, E3, z3, e, p1, p2, p3⟩; exact ⟨E1, z1, E2, z2, E3, z3, e, p1.below (Nat.le_refl _) h, p2.below (Nat.le_refl _) h, p3.below (Nat.le_refl _) h⟩) | (rintro ⟨g, E1, z1, E2, z2, E3, z3, e, hg, kg, p1, p2, p3⟩; exact ⟨g, E1, z1, E2, z2, E3, z3, e, hg, kg.below h kg.lt, p1.below (Nat.le_refl _) h, p2.below (Nat.le_refl _) h, p3.below (Nat.le_refl _) h⟩) | (rintro ⟨A', c', e, o⟩; exact ⟨A', c', e, o.below SrP.mn h⟩) | (rintro ⟨A', c', kx, o⟩; exact ⟨A', c', kx.below h kx.lt, o.below SrP.mn h⟩)
        · repeat' (first | exact F4.monoI_nil | refine F4.monoI_cons (fun u u' h => ?_) ?_)
          all_goals first | exact _root_.id | (exact fun hc => (h.cell (World.block_lt_of_cell? u _ hc)).trans hc) | (exact fun o => o.below SrP.mn h) | (exact fun kx => kx.below h kx.lt)
      ·
        refine F4.owed_cons (fun vs u hS hD hJ N => ?_) ?_
        · clear hD hJ
          intro hN
          simp only [F4.fact, F4.layAt, F4.depOn, F4.dstOf, List.map_cons, List.map_nil, List.foldl_cons, List.foldl_nil, List.getD_cons_zero, List.getD_cons_succ, List.getElem?_cons_zero, List.getElem?_cons_succ, Option.bind_some] at hN ⊢
          go_simp
          have hh := hN _ _ rfl (.inl (Below.refl _ _))
          revert hh
          go_simp
        refine F4.owed_cons (fun vs u hS hD hJ N => ?_) ?_
        · have d0 := hD 0 (by decide)
          simp only [F4.fact, F4.layAt, F4.depOn, F4.dstOf, List.map_cons, List.map_nil, List.foldl_cons, List.foldl_nil, List.getD_cons_zero, List.getD_cons_succ, List.getElem?_cons_zero, List.getElem?_cons_succ, Option.bind_some] at d0
          have i0 := hJ 0 (by decide)
          simp only [F4.initAt, List.getD_cons_zero, List.getD_cons_succ] at i0
          clear hD hJ
          intro hN
          simp only [F4.fact, F4.layAt, F4.depOn, F4.dstOf, List.map_cons, List.map_nil, List.foldl_cons, List.foldl_nil, List.getD_cons_zero, List.getD_cons_succ, List.getElem?_cons_zero, List.getElem?_cons_succ, Option.bind_some, d0] at hN ⊢
          go_simp
          have hh := hN _ _ rfl (.inl (Below.refl _ _))
          revert hh
          go_simp
        refine F4.owed_cons (fun vs u hS hD hJ N => ?_) ?_
        · clear hD hJ
          intro hN
          simp only [F4.fact, F4.layAt, F4.depOn, F4.dstOf, List.map_cons, List.map_nil, List.foldl_cons, List.foldl_nil, List.getD_cons_zero, List.getD_cons_succ, List.getElem?_cons_zero, List.getElem?_cons_succ, Option.bind_some] at hN ⊢
          go_simp
          have hh := hN _ _ ⟨u.heap.size, rfl, hS.size, Blk.newAt rfl 78 #[]⟩ (.inl ((Below.refl _ u).alloc (Nat.le_refl _) _))
          revert hh
          go_simp
        refine F4.owed_cons (fun vs u hS hD hJ N => ?_) ?_
        · clear hD hJ
          intro hN
          simp only [F4.fact, F4.layAt, F4.depOn, F4.dstOf, List.map_cons, List.map_nil, List.foldl_cons, List.foldl_nil, List.getD_cons_zero, List.getD_cons_succ, List.getElem?_cons_zero, List.getElem?_cons_succ, Option.bind_some] at hN ⊢
          go_simp
          have hh := hN _ _ rfl (.inl (Below.refl _ _))
          revert hh
          go_simp
        refine F4.owed_cons (fun vs u hS hD hJ N => ?_) ?_
        · have d3 := hD 3 (by decide)
          simp only [F4.fact, F4.layAt, F4.depOn, F4.dstOf, List.map_cons, List.map_nil, List.foldl_cons, List.foldl_nil, List.getD_cons_zero, List.getD_cons_succ, List.getElem?_cons_zero, List.getElem?_cons_succ, Option.bind_some] at d3
          clear hD hJ
          intro hN
          simp only [F4.fact, F4.layAt, F4.depOn, F4.dstOf, List.map_cons, List.map_nil, List.foldl_cons, List.foldl_nil, List.getD_cons_zero, List.getD_cons_succ, List.getElem?_cons_zero, List.getElem?_cons_succ, Option.bind_some, d3] at hN ⊢
          go_simp
          have y := Y1 _ hS
          go_simp
          have hh := hN _ _ rfl (.inl (Below.refl _ _))
          revert hh
          go_simp
        refine F4.owed_cons (fun vs u hS hD hJ N => ?_) ?_
        · have d2 := hD 2 (by decide)
          simp only [F4.fact, F4.layAt, F4.depOn, F4.dstOf, List.map_cons, List.map_nil, List.foldl_cons, List.foldl_nil, List.getD_cons_zero, List.getD_cons_succ, List.getElem?_cons_zero, List.getElem?_cons_succ, Option.bind_some] at d2
          obtain ⟨g, e2, hg, kg⟩ := d2
          have d4 := hD 4 (by decide)
          simp only [F4.fact, F4.layAt, F4.depOn, F4.dstOf, List.map_cons, List.map_nil, List.foldl_cons, List.foldl_nil, List.getD_cons_zero, List.getD_cons_succ, List.getElem?_cons_zero, List.getElem?_cons_succ, Option.bind_some] at d4
          clear hD hJ
          intro hN
          simp only [F4.fact, F4.layAt, F4.depOn, F4.dstOf, List.map_cons, List.map_nil, List.foldl_cons, List.foldl_nil, List.getD_cons_zero, List.getD_cons_succ, List.getElem?_cons_zero, List.getElem?_cons_succ, Option.bind_some, e2, d4] at hN ⊢
          rw [if_pos (by rfl)]
          refine wp_append0 TTm tmC_len tmC_one rfl rfl kg hg rfl (RD1 u hS) (by omega) (by simp only [maxLen]; omega) ?_
          intro A' c' u' o f
          exact hN _ _ ⟨A', c', rfl, o⟩ (.inl f)
        refine F4.owed_cons (fun vs u hS hD hJ N => ?_) ?_
        · clear hD hJ
          intro hN
          simp only [F4.fact, F4.layAt, F4.depOn, F4.dstOf, List.map_cons, List.map_nil, List.foldl_cons, List.foldl_nil, List.getD_cons_zero, List.getD_cons_succ, List.getElem?_cons_zero, List.getElem?_cons_succ, Option.bind_some] at hN ⊢
          go_simp
          have hh := hN _ _ ⟨u.heap.size, rfl, hS.size, Blk.newAt rfl 78 #[]⟩ (.inl ((Below.refl _ u).alloc (Nat.le_refl _) _))
          revert hh
          go_simp
        refine F4.owed_cons (fun vs u hS hD hJ N => ?_) ?_
        · clear hD hJ
          intro hN
          simp only [F4.fact, F4.layAt, F4.depOn, F4.dstOf, List.map_cons, List.map_nil, List.foldl_cons, List.foldl_nil, List.getD_cons_zero, List.getD_cons_succ, List.getElem?_cons_zero, List.getElem?_cons_succ, Option.bind_some] at hN ⊢
          go_simp
          have hh := hN _ _ rfl (.inl (Below.refl _ _))
          revert hh
          go_simp
        refine F4.owed_cons (fun vs u hS hD hJ N => ?_) ?_
        · have d7 := hD 7 (by decide)
          simp only [F4.fact, F4.layAt, F4.depOn, F4.dstOf, List.map_cons, List.map_nil, List.foldl_cons, List.foldl_nil, List.getD_cons_zero, List.getD_cons_succ, List.getElem?_cons_zero, List.getElem?_cons_succ, Option.bind_some] at d7
          clear hD hJ
          intro hN
          simp only [F4.fact, F4.layAt, F4.depOn, F4.dstOf, List.map_cons, List.map_nil, List.foldl_cons, List.foldl_nil, List.getD_cons_zero, List.getD_cons_succ, List.getElem?_cons_zero, List.getElem?_cons_succ, Option.bind_some, d7] at hN ⊢
          go_simp
          have y := Y2 _ hS
          go_simp
          have hh := hN _ _ rfl (.inl (Below.refl _ _))
          revert hh
          go_simp
        refine F4.owed_cons (fun vs u hS hD hJ N => ?_) ?_
        · have d6 := hD 6 (by decide)
          simp only [F4.fact, F4.layAt, F4.depOn, F4.dstOf, List.map_cons, List.map_nil, List.foldl_cons, List.foldl_nil, List.getD_cons_zero, List.getD_cons_succ, List.getElem?_cons_zero, List.getElem?_cons_succ, Option.bind_some] at d6
          obtain ⟨g, e6, hg, kg⟩ := d6
          have d8 := hD 8 (by decide)
          simp only [F4.fact, F4.layAt, F4.depOn, F4.dstOf, List.map_cons, List.map_nil, List.foldl_cons, List.foldl_nil, List.getD_cons_zero, List.getD_cons_succ, List.getElem?_cons_zero, List.getElem?_cons_succ, Option.bind_some] at d8
          clear hD hJ
          intro hN
          simp only [F4.fact, F4.layAt, F4.depOn, F4.dstOf, List.map_cons, List.map_nil, List.foldl_cons, List.foldl_nil, List.getD_cons_zero, List.getD_cons_succ, List.getElem?_cons_zero, List.getElem?_cons_succ, Option.bind_some, e6, d8] at hN ⊢
          rw [if_pos (by rfl)]
          refine wp_append0 TTm tmC_len tmC_one rfl rfl kg hg rfl (RD2 u hS) (by omega) (by simp only [maxLen]; omega) ?_
          intro A' c' u' o f
          exact hN _ _ ⟨A', c', rfl, o⟩ (.inl f)
        refine F4.owed_cons (fun vs u hS hD hJ N => ?_) ?_
        · clear hD hJ
          intro hN
          simp only [F4.fact, F4.layAt, F4.depOn, F4.dstOf, List.map_cons, List.map_nil, List.foldl_cons, List.foldl_nil, List.getD_cons_zero, List.getD_cons_succ, List.getElem?_cons_zero, List.getElem?_cons_succ, Option.bind_some] at hN ⊢
          go_simp
          have hh := hN _ _ ⟨u.heap.size, rfl, hS.size, Blk.newAt rfl 48 #[]⟩ (.inl ((Below.refl _ u).alloc (Nat.le_refl _) _))
          revert hh
          go_simp
        refine F4.owed_cons (fun vs u hS hD hJ N => ?_) ?_
        · clear hD hJ
          intro hN
          simp only [F4.fact, F4.layAt, F4.depOn, F4.dstOf, List.map_cons, List.map_nil, List.foldl_cons, List.foldl_nil, List.getD_cons_zero, List.getD_cons_succ, List.getElem?_cons_zero, List.getElem?_cons_succ, Option.bind_some] at hN ⊢
          go_simp
          have hh := hN _ _ rfl (.inl (Below.refl _ _))
          revert hh
          go_simp
        refine F4.owed_cons (fun vs u hS hD hJ N => ?_) ?_
        · have d11 := hD 11 (by decide)
          simp only [F4.fact, F4.layAt, F4.depOn, F4.dstOf, List.map_cons, List.map_nil, List.foldl_cons, List.foldl_nil, List.getD_cons_zero, List.getD_cons_succ, List.getElem?_cons_zero, List.getElem?_cons_succ, Option.bind_some] at d11
          clear hD hJ
          intro hN
          simp only [F4.fact, F4.layAt, F4.depOn, F4.dstOf, List.map_cons, List.map_nil, List.foldl_cons, List.foldl_nil, List.getD_cons_zero, List.getD_cons_succ, List.getElem?_cons_zero, List.getElem?_cons_succ, Option.bind_some, d11] at hN ⊢
          go_simp
          have y := Y3 _ hS
          go_simp
          have hh := hN _ _ rfl (.inl (Below.refl _ _))
          revert hh
          go_simp
        refine F4.owed_cons (fun vs u hS hD hJ N => ?_) ?_
        · have d10 := hD 10 (by decide)
          simp only [F4.fact, F4.layAt, F4.depOn, F4.dstOf, List.map_cons, List.map_nil, List.foldl_cons, List.foldl_nil, List.getD_cons_zero, List.getD_cons_succ, List.getElem?_cons_zero, List.getElem?_cons_succ, Option.bind_some] at d10
          obtain ⟨g, e10, hg, kg⟩ := d10
          have d12 := hD 12 (by decide)
          simp only [F4.fact, F4.layAt, F4.depOn, F4.dstOf, List.map_cons, List.map_nil, List.foldl_cons, List.foldl_nil, List.getD_cons_zero, List.getD_cons_succ, List.getElem?_cons_zero, List.getElem?_cons_succ, Option.bind_some] at d12
          clear hD hJ
          intro hN
          simp only [F4.fact, F4.layAt, F4.depOn, F4.dstOf, List.map_cons, List.map_nil, List.foldl_cons, List.foldl_nil, List.getD_cons_zero, List.getD_cons_succ, List.getElem?_cons_zero, List.getElem?_cons_succ, Option.bind_some, e10, d12] at hN ⊢
          rw [if_pos (by rfl)]
          refine wp_append0 TNt ntC_len ntC_one rfl rfl kg hg rfl (RD3 u hS) (by omega) (by simp only [maxLen]; omega) ?_
          intro A' c' u' o f
          exact hN _ _ ⟨A', c', rfl, o⟩ (.inl f)
        refine F4.owed_cons (fun vs u hS hD hJ N => ?_) ?_
        · have d5 := hD 5 (by decide)
          simp only [F4.fact, F4.layAt, F4.depOn, F4.dstOf, List.map_cons, List.map_nil, List.foldl_cons, List.foldl_nil, List.getD_cons_zero, List.getD_cons_succ, List.getElem?_cons_zero, List.getElem?_cons_succ, Option.bind_some] at d5
          obtain ⟨E1, z1, e5, o5⟩ := d5
          have d9 := hD 9 (by decide)
          simp only [F4.fact, F4.layAt, F4.depOn, F4.dstOf, List.map_cons, List.map_nil, List.foldl_cons, List.foldl_nil, List.getD_cons_zero, List.getD_cons_succ, List.getElem?_cons_zero, List.getElem?_cons_succ, Option.bind_some] at d9
          obtain ⟨E2, z2, e9, o9⟩ := d9
          have d13 := hD 13 (by decide)
          simp only [F4.fact, F4.layAt, F4.depOn, F4.dstOf, List.map_cons, List.map_nil, List.foldl_cons, List.foldl_nil, List.getD_cons_zero, List.getD_cons_succ, List.getElem?_cons_zero, List.getElem?_cons_succ, Option.bind_some] at d13
          obtain ⟨E3, z3, e13, o13⟩ := d13
          clear hD hJ
          intro hN
          simp only [F4.fact, F4.layAt, F4.depOn, F4.dstOf, List.map_cons, List.map_nil, List.foldl_cons, List.foldl_nil, List.getD_cons_zero, List.getD_cons_succ, List.getElem?_cons_zero, List.getElem?_cons_succ, Option.bind_some, e5, e9, e13] at hN ⊢
          go_simp
          have hh := hN _ _ ⟨E1, z1, E2, z2, E3, z3, rfl, o5, o9, o13⟩ (.inl (Below.refl _ _))
          revert hh
          go_simp
        refine F4.owed_cons (fun vs u hS hD hJ N => ?_) ?_
        · have d14 := hD 14 (by decide)
          simp only [F4.fact, F4.layAt, F4.depOn, F4.dstOf, List.map_cons, List.map_nil, List.foldl_cons, List.foldl_nil, List.getD_cons_zero, List.getD_cons_succ, List.getElem?_cons_zero, List.getElem?_cons_succ, Option.bind_some] at d14
          obtain ⟨E1, z1, E2, z2, E3, z3, e14, p1, p2, p3⟩ := d14
          clear hD hJ
          intro hN
          simp only [F4.fact, F4.layAt, F4.depOn, F4.dstOf, List.map_cons, List.map_nil, List.foldl_cons, List.foldl_nil, List.getD_cons_zero, List.getD_cons_succ, List.getElem?_cons_zero, List.getElem?_cons_succ, Option.bind_some, e14] at hN ⊢
          go_simp
          have fa : Below u.heap.size u (u.alloc (.cells #[.slice E1 m1 z1, .slice E2 m2 z2, .slice E3 m3 z3] 45)) := (Below.refl _ u).alloc (Nat.le_refl _) _
          have hh := hN _ _ ⟨u.heap.size, E1, z1, E2, z2, E3, z3, rfl, hS.size, Blk.newAt rfl _ _, p1.below (Nat.le_refl _) fa, p2.below (Nat.le_refl _) fa, p3.below (Nat.le_refl _) fa⟩ (.inl fa)
          revert hh
          go_simp
        refine F4.owed_cons (fun vs u hS hD hJ N => ?_) ?_
        · have d1 := hD 1 (by decide)
          simp only [F4.fact, F4.layAt, F4.depOn, F4.dstOf, List.map_cons, List.map_nil, List.foldl_cons, List.foldl_nil, List.getD_cons_zero, List.getD_cons_succ, List.getElem?_cons_zero, List.getElem?_cons_succ, Option.bind_some] at d1
          have d15 := hD 15 (by decide)
          simp only [F4.fact, F4.layAt, F4.depOn, F4.dstOf, List.map_cons, List.map_nil, List.foldl_cons, List.foldl_nil, List.getD_cons_zero, List.getD_cons_succ, List.getElem?_cons_zero, List.getElem?_cons_succ, Option.bind_some] at d15
          obtain ⟨g, E1, z1, E2, z2, E3, z3, e15, hg, kg, p1, p2, p3⟩ := d15
          have i1 := hJ 1 (by decide)
          simp only [F4.initAt, List.getD_cons_zero, List.getD_cons_succ] at i1
          clear hD hJ
          intro hN
          simp only [F4.fact, F4.layAt, F4.depOn, F4.dstOf, List.map_cons, List.map_nil, List.foldl_cons, List.foldl_nil, List.getD_cons_zero, List.getD_cons_succ, List.getElem?_cons_zero, List.getElem?_cons_succ, Option.bind_some, d1, e15] at hN ⊢
          rw [if_pos (by rfl)]
          refine wp_appendOwn1 TSr SrP.mn rfl rfl i1 rfl (cs := [.slice E1 m1 z1, .slice E2 m2 z2, .slice E3 m3 z3]) (y := x) rfl (by intro v hv; simp only [List.mem_cons, List.mem_nil_iff, or_false] at hv; rcases hv with rfl | rfl | rfl <;> rfl) (fun j v hv => by rw [show (⟨g, 0, none⟩ : Addr).add j = ⟨g, j, none⟩ from by unfold Addr.add; split <;> simp_all, kg.cell]; exact hv) ?_ (by omega) (by simp only [maxLen]; omega) (by have := hS.size; omega) ?_
          · exact SrP.mn _ _ _ _ _ _ (Nat.le_refl _) (Sub.fresh (lo := w2.heap.size) (by omega) fun b hb => (hAb b hb).2) ⟨_, _, _, rfl, p1.rvm tmC_len, p2.rvm tmC_len, p3.rvm ntC_len⟩
          intro A' c' u' o f
          rw [HMX.out] at o
          have hrow : ∀ b, (Value.slice A k c).ownBlock = some b → b < w2.heap.size := fun b hb => (hAb b hb).2
          refine hN _ _ ⟨A', c', rfl, o⟩ (.inr ⟨hS.grown f fun b hb _ => .inl (isB_own hb), fun j xs v h1 h2 h3 => ?_, fun j h1 => ?_⟩)
          · match j with
            | 15 => exact absurd (by decide) h2
            | 16 => exact absurd rfl h1
            | 17 | 18 => exact absurd (by decide) h3
            | 2 | 6 | 10 => rintro ⟨g, e, hg, kg⟩; exact ⟨g, e, hg, kg.grown f fun e => by have := hrow g e.symm; omega⟩
            | 5 | 9 | 13 => rintro ⟨A', c', e, o⟩; exact ⟨A', c', e, o.grownG f hrow⟩
            | 14 => rintro ⟨E1, z1, E2, z2, E3, z3, e, p1, p2, p3⟩; exact ⟨E1, z1, E2, z2, E3, z3, e, p1.grownG f hrow, p2.grownG f hrow, p3.grownG f hrow⟩
            | 0 | 1 | 3 | 4 | 7 | 8 | 11 | 12 | _ + 19 => exact _root_.id
          · match j with
            | 0 => exact fun hc => f.cell hc fun e => by have := hAb _ e.symm; simp only at this; omega
            | 1 => exact absurd (by decide) h1
            | 2 => exact fun kx => kx.grown f fun e => by have := hAb _ e.symm; omega
            | _ + 3 => exact _root_.id
        refine F4.owed_cons (fun vs u hS hD hJ N => ?_) ?_
        · clear hD hJ
          intro hN
          simp only [F4.fact, F4.layAt, F4.depOn, F4.dstOf, List.map_cons, List.map_nil, List.foldl_cons, List.foldl_nil, List.getD_cons_zero, List.getD_cons_succ, List.getElem?_cons_zero, List.getElem?_cons_succ, Option.bind_some] at hN ⊢
          go_simp
          have hh := hN _ _ rfl (.inl (Below.refl _ _))
          revert hh
          go_simp
        refine F4.owed_cons (fun vs u hS hD hJ N => ?_) ?_
        · have d16 := hD 16 (by decide)
          simp only [F4.fact, F4.layAt, F4.depOn, F4.dstOf, List.map_cons, List.map_nil, List.foldl_cons, List.foldl_nil, List.getD_cons_zero, List.getD_cons_succ, List.getElem?_cons_zero, List.getElem?_cons_succ, Option.bind_some] at d16
          obtain ⟨A', c', e16, o⟩ := d16
          have d17 := hD 17 (by decide)
          simp only [F4.fact, F4.layAt, F4.depOn, F4.dstOf, List.map_cons, List.map_nil, List.foldl_cons, List.foldl_nil, List.getD_cons_zero, List.getD_cons_succ, List.getElem?_cons_zero, List.getElem?_cons_succ, Option.bind_some] at d17
          have i2 := hJ 2 (by decide)
          simp only [F4.initAt, List.getD_cons_zero, List.getD_cons_succ] at i2
          clear hD hJ
          have fz := i2.frozen 0
          have cz := i2.cell 0
          intro hN
          simp only [F4.fact, F4.layAt, F4.depOn, F4.dstOf, List.map_cons, List.map_nil, List.foldl_cons, List.foldl_nil, List.getD_cons_zero, List.getD_cons_succ, List.getElem?_cons_zero, List.getElem?_cons_succ, Option.bind_some, e16, d17] at hN ⊢
          go_simp
          have ow : Off (fun b => b = w.heap.size + 1 + 1) u (u.setCell ⟨w.heap.size + 1 + 1, 0, none⟩ (.slice A' (k + 1) c')) := (Off.refl (fun b => b = w.heap.size + 1 + 1) u).setCell (p := ⟨w.heap.size + 1 + 1, 0, none⟩) (fun _ => rfl) _
          have hh := hN undef _ ⟨A', c', i2.set 0 _, o.off SrP.mn ow fun b hb => .inl (by omega)⟩ (.inr ⟨hS.trans ow fun b _ hb => .inr hb, fun j xs v h1 h2 h3 => ?_, fun j h1 => ?_⟩)
          · revert hh
            go_simp
          · match j with
            | 2 | 5 | 6 | 9 | 10 | 13 | 14 | 15 | 16 => exact absurd (by decide) h2
            | 18 => exact absurd rfl h1
            | 0 | 1 | 3 | 4 | 7 | 8 | 11 | 12 | 17 | _ + 19 => exact _root_.id
          · match j with
            | 0 | 2 => exact absurd (by decide) h1
            | 1 => exact fun o => o.off SrP.mn ow fun b hb => .inl (by omega)
            | _ + 3 => exact _root_.id
        exact F4.owed_nil
      · intro vs u hS hF hJ
        have d18 := hF 18 (by decide) (by decide)
        simp only [F4.fact, F4.layAt, F4.depOn, F4.dstOf, List.map_cons, List.map_nil, List.foldl_cons, List.foldl_nil, List.getD_cons_zero, List.getD_cons_succ, List.getElem?_cons_zero, List.getElem?_cons_succ, Option.bind_some] at d18
        obtain ⟨A', c', kx, o⟩ := d18
        clear hF hJ
        simp only [List.length_cons, List.length_nil, Nat.reduceAdd, List.range, List.range.loop, F4.fact, F4.layAt, F4.depOn, F4.dstOf, List.map_cons, List.map_nil, List.foldl_cons, List.foldl_nil, List.getD_cons_zero, List.getD_cons_succ, List.getElem?_cons_zero, List.getElem?_cons_succ, Option.bind_some]
        go_simp
        have hZ := HFR.out u hS
        subst hyb
        go_wp2_with fail
        go_roundw
        case rel => exact ⟨k + 1, A', c', by go_num, by omega, ⟨HK0.out.off hZ (fun h => h.elim (fun h => by have := HNE.out _ h; omega) (fun h => by omega)), HK1.out.off hZ (fun h => h.elim (fun h => by have := HNE.out _ h; omega) (fun h => by omega)), kx, f2.trans (hZ.below f2.size fun b hb => hb.elim (fun h => by have := HNE.out _ h; omega) (fun h => by omega))⟩, o⟩
        case measure => simp [intOf]; omega
    · have d1 : decide ((k : Int) < (n1 : Int)) = false := by simp; omega
      obtain rfl : n1 = k := by omega
      obtain ⟨k0, k1, k2, f2⟩ := b2
      have e0 : wr.cell? ⟨w.heap.size, 0, none⟩ = some (.slice A1 n1 c1) := k0.cell 0
      rw [List.take_of_length_le (by rw [L1.out]; exact Nat.le_refl _)] at o2
      go_wp2_with fail
      have O1 := Lib.hid o2; clear o2
      generalize hv1 : Value.slice A n1 c = v1 at *
      clear hv1 e0 d1
      obtain ⟨wm, rfl⟩ : ∃ u, u = wr := ⟨_, rfl⟩
      have hwm := k2.lt
      go_loopw [6] (fun vi wr => ∃ (k : Nat) (A : Option Addr) (c : Nat), vi = .int .i64 k ∧ k ≤ n2 ∧ CpB w wr [.slice A1 n1 c1, .slice A2 n2 c2, .slice A3 n3 c3] (v1) (.slice A k c) (.slice none 0 0) ∧ OwnG 4 TgP wr wm.heap.size 33 (.slice A k c) (r.tos.take k) ∧ Off (fun b => b = w.heap.size + 1 + 1 ∨ wm.heap.size ≤ b) wm wr) (fun vi _ => n2 - (intOf vi).toNat)
      case atStart => exact ⟨0, none, 0, rfl, Nat.zero_le _, ⟨k0, k1, k2, f2⟩, OwnG.nil, Off.refl _ _⟩
      case round =>
        obtain ⟨k, A, c, rfl, hk, b2, o2, fm⟩ := hrel
        by_cases hlt : k < n2
        · have d1 : decide ((k : Int) < (n2 : Int)) = true := by simp; omega
          have z1 : (0 : Int) ≤ (k : Int) := by omega
          have z2 : (k : Int) < (n2 : Int) := by omega
          have hkR : k < r.tos.length := by rw [L2.out]; exact hlt
          obtain ⟨k0, k1, k2, f2⟩ := b2
          obtain ⟨b, off, cs, rfl, p2, p3, p4, p5⟩ := (H2.out.mono (Nat.le_refl _) f2 (fun _ _ h => TgP.mono h (Nat.le_refl _) f2)).at_ hlt
          obtain ⟨x, hx⟩ : ∃ x, r.tos[k] = x := ⟨_, rfl⟩
          have e1 : wr.cell? ⟨w.heap.size, 1, none⟩ = some (.slice (some ⟨b, off, none⟩) n2 c2) := k0.cell 1
          obtain ⟨B1, m1, y1, B2, m2, y2, B3, m3, y3, B4, m4, y4, rfl, q1, q2, q3, q4⟩ := vals_tg p4
          have g0 : wr.cell? ⟨b, off + k * 4, none⟩ = some (.slice B1 m1 y1) := p5 0 _ rfl
          have g1 : wr.cell? ⟨b, off + k * 4 + 1, none⟩ = some (.slice B2 m2 y2) := p5 1 _ rfl
          have g2 : wr.cell? ⟨b, off + k * 4 + 2, none⟩ = some (.slice B3 m3 y3) := p5 2 _ rfl
          have g3 : wr.cell? ⟨b, off + k * 4 + 3, none⟩ = some (.slice B4 m4 y4) := p5 3 _ rfl
          clear p5 p4
          go_upto_region 11 with fail
          have hne : ∀ b, isB A b → wm.heap.size ≤ b ∧ b < wr.heap.size := fun b hb => o2.lt _ (own_isB hb)
          refine abs (fun u => Blk u wr.heap.size 33 [.slice B1 m1 y1, .slice B2 m2 y2, .slice B3 m3 y3, .slice B4 m4 y4] ∧ Blk u (w.heap.size + 1 + 1) 26 [v1, .slice A k c, .slice none 0 0] ∧ OwnG 4 TgP u wm.heap.size 33 (.slice A k c) (r.tos.take k) ∧ Off (fun _ => False) wr u) ⟨Blk.newAt rfl _ #[.slice B1 m1 y1, .slice B2 m2 y2, .slice B3 m3 y3, .slice B4 m4 y4], k2.alloc _, o2.below TgP.mn ((Below.refl _ _).alloc (Nat.le_refl _) _), (Off.refl _ _).alloc _⟩ ?_
          rintro w2 ⟨kY, kX, o3, f3⟩
          have hYs := kY.lt
          have Q1 := q1.below (f3.all.mono f2.size)
          have Q2 := q2.below (f3.all.mono f2.size)
          have Q3 := q3.below (f3.all.mono f2.size)
          have Q4 := q4.below (f3.all.mono f2.size)
          have hXs := kX.lt
          have hk2l := k2.lt
          have hws2 := fm.size
          have hbs : w.heap.size + 1 + 1 + 1 ≤ wm.heap.size ∧ wm.heap.size ≤ wr.heap.size := ⟨by omega, by omega⟩
          have hxY : ∀ b, (isB A b ∨ b = w.heap.size + 1 + 1) → b ≠ wr.heap.size ∧ w.heap.size ≤ b ∧ b < w2.heap.size := fun b hb => by
            rcases hb with hb | rfl
            · have := hne b hb
              exact ⟨by omega, by omega, by omega⟩
            · exact ⟨by omega, by omega, by omega⟩
          have YB : ∀ u, Off (fun b => isB A b ∨ b = w.heap.size + 1 + 1) w2 u → Blk u wr.heap.size 33 [.slice B1 m1 y1, .slice B2 m2 y2, .slice B3 m3 y3, .slice B4 m4 y4] := fun u hu => kY.off hu fun h => (hxY _ h).1 rfl
          have FB : ∀ u, Off (fun b => isB A b ∨ b = w.heap.size + 1 + 1) w2 u → Below w.heap.size w2 u := fun u hu => hu.below (by omega) fun b hb => (hxY b hb).2.1
          have Y1 : ∀ u, Off (fun b => isB A b ∨ b = w.heap.size + 1 + 1) w2 u → u.cell? ⟨wr.heap.size, 0, none⟩ = some (.slice B1 m1 y1) := fun u hu => (YB u hu).cell 0
          have Y2 : ∀ u, Off (fun b => isB A b ∨ b = w.heap.size + 1 + 1) w2 u → u.cell? ⟨wr.heap.size, 1, none⟩ = some (.slice B2 m2 y2) := fun u hu => (YB u hu).cell 1
          have Y3 : ∀ u, Off (fun b => isB A b ∨ b = w.heap.size + 1 + 1) w2 u → u.cell? ⟨wr.heap.size, 2, none⟩ = some (.slice B3 m3 y3) := fun u hu => (YB u hu).cell 2
          have Y4 : ∀ u, Off (fun b => isB A b ∨ b = w.heap.size + 1 + 1) w2 u → u.cell? ⟨wr.heap.size, 3, none⟩ = some (.slice B4 m4 y4) := fun u hu => (YB u hu).cell 3
          have okx := OK.out.2.1.2 _ (List.getElem_mem hkR)
          rw [hx] at Q1 Q2 Q3 Q4 okx
          have M1 : m1 ≤ 1000000 := by rw [← Q1.1]; exact okx.1.1
          have M2 : m2 ≤ 1000000 := by rw [← Q2.1]; exact okx.2.1.1
          have M3 : m3 ≤ 1000000 := by rw [← Q3.1]; exact okx.2.2.1.1
          have M4 : m4 ≤ 1000000 := by rw [← Q4.1]; exact okx.2.2.2.1
          have MK : k ≤ 1000000 := by have := OK.out.2.1.1; omega
          have RD1 : ∀ u, Off (fun b => isB A b ∨ b = w.heap.size + 1 + 1) w2 u → RdR inC 1 u w.heap.size B1 m1 x.ports := fun u hu => Q1.below (FB u hu)
          have RD2 : ∀ u, Off (fun b => isB A b ∨ b = w.heap.size + 1 + 1) w2 u → RdR tmC 2 u w.heap.size B2 m2 x.methods := fun u hu => Q2.below (FB u hu)
          have RD3 : ∀ u, Off (fun b => isB A b ∨ b = w.heap.size + 1 + 1) w2 u → RdR tmC 2 u w.heap.size B3 m3 x.paths := fun u hu => Q3.below (FB u hu)
          have RD4 : ∀ u, Off (fun b => isB A b ∨ b = w.heap.size + 1 + 1) w2 u → RdR tmC 2 u w.heap.size B4 m4 x.hosts := fun u hu => Q4.below (FB u hu)
          have hAb : ∀ b, (Value.slice A k c).ownBlock = some b → wm.heap.size ≤ b ∧ b < w2.heap.size := fun b hb => o3.lt b hb
          have HMX : Hid (r.tos.take k ++ [x] = r.tos.take (k + 1)) := Lib.hid (by rw [List.take_succ_eq_append_getElem hkR, hx])
          have HFR := Lib.hid (show ∀ u, Off (fun b => isB A b ∨ b = w.heap.size + 1 + 1) w2 u → Off (fun b => isB A b ∨ b = w.heap.size + 1 + 1) wr u from fun u hu => (f3.mono fun _ _ h => h.elim).trans hu fun _ _ h => h)
          have HK0 := Lib.hid k0; have HK1 := Lib.hid k1; have HX := Lib.hid hx; have HNE := Lib.hid hne
          clear k0 k1 hx okx q1 Q1 q2 Q2 q3 Q3 q4 Q4 g0 g1 g2 g3 e1 o2 k2 p2 p3
          generalize hyb : wr.heap.size = yb at *
          refine F4.wp_region_facts (fun u => Off (fun b => isB A b ∨ b = w.heap.size + 1 + 1) w2 u) [
              fun _ v _ => v = .pointer (some ⟨w.heap.size + 1 + 1, 1, none⟩),
              fun _ v _ => v = .slice A k c,
              fun _ v u => ∃ g, v = .slice (some ⟨g, 0, none⟩) 0 0 ∧ w2.heap.size ≤ g ∧ Blk u g 3 [],
              fun _ v _ => v = .pointer (some ⟨yb, 0, none⟩),
              fun _ v _ => v = .slice B1 m1 y1,
              fun _ v u => ∃ A' c', v = .slice A' m1 c' ∧ OwnR inC 1 u w2.heap.size 3 (.slice A' m1 c') x.ports,
              fun _ v u => ∃ g, v = .slice (some ⟨g, 0, none⟩) 0 0 ∧ w2.heap.size ≤ g ∧ Blk u g 78 [],
              fun _ v _ => v = .pointer (some ⟨yb, 1, none⟩),
              fun _ v _ => v = .slice B2 m2 y2,
              fun _ v u => ∃ A' c', v = .slice A' m2 c' ∧ OwnR tmC 2 u w2.heap.size 78 (.slice A' m2 c') x.methods,
              fun _ v u => ∃ g, v = .slice (some ⟨g, 0, none⟩) 0 0 ∧ w2.heap.size ≤ g ∧ Blk u g 78 [],
              fun _ v _ => v = .pointer (some ⟨yb, 2, none⟩),
              fun _ v _ => v = .slice B3 m3 y3,
              fun _ v u => ∃ A' c', v = .slice A' m3 c' ∧ OwnR tmC 2 u w2.heap.size 78 (.slice A' m3 c') x.paths,
              fun _ v u => ∃ g, v = .slice (some ⟨g, 0, none⟩) 0 0 ∧ w2.heap.size ≤ g ∧ Blk u g 78 [],
              fun _ v _ => v = .pointer (some ⟨yb, 3, none⟩),
              fun _ v _ => v = .slice B4 m4 y4,
              fun _ v u => ∃ A' c', v = .slice A' m4 c' ∧ OwnR tmC 2 u w2.heap.size 78 (.slice A' m4 c') x.hosts,
              fun _ v u => ∃ E1 z1 E2 z2 E3 z3 E4 z4, v = .agg #[.slice E1 m1 z1, .slice E2 m2 z2, .slice E3 m3 z3, .slice E4 m4 z4] ∧ OwnR inC 1 u w2.heap.size 3 (.slice E1 m1 z1) x.ports ∧ OwnR tmC 2 u w2.heap.size 78 (.slice E2 m2 z2) x.methods ∧ OwnR tmC 2 u w2.heap.size 78 (.slice E3 m3 z3) x.paths ∧ OwnR tmC 2 u w2.heap.size 78 (.slice E4 m4 z4) x.hosts,
              fun _ v u => ∃ g E1 z1 E2 z2 E3 z3 E4 z4, v = .slice (some ⟨g, 0, none⟩) 1 1 ∧ w2.heap.size ≤ g ∧ Blk u g 33 [.slice E1 m1 z1, .slice E2 m2 z2, .slice E3 m3 z3, .slice E4 m4 z4] ∧ OwnR inC 1 u w2.heap.size 3 (.slice E1 m1 z1) x.ports ∧ OwnR tmC 2 u w2.heap.size 78 (.slice E2 m2 z2) x.methods ∧ OwnR tmC 2 u w2.heap.size 78 (.slice E3 m3 z3) x.paths ∧ OwnR tmC 2 u w2.heap.size 78 (.slice E4 m4 z4) x.hosts,
              fun _ v u => ∃ A' c', v = .slice A' (k + 1) c' ∧ OwnG 4 TgP u wm.heap.size 33 (.slice A' (k + 1) c') (r.tos.take (k + 1)),
              fun _ v _ => v = .pointer (some ⟨w.heap.size + 1 + 1, 1, none⟩),
              fun _ _ u => ∃ A' c', Blk u (w.heap.size + 1 + 1) 26 [v1, .slice A' (k + 1) c', .slice none 0 0] ∧ OwnG 4 TgP u wm.heap.size 33 (.slice A' (k + 1) c') (r.tos.take (k + 1))] (fun u u' => Below u.heap.size u u')
              [[], [0], [], [], [3], [2, 4], [], [], [7], [6, 8], [], [], [11], [10, 12], [], [], [15], [14, 16], [5, 9, 13, 17], [18], [1, 19], [], [20, 21]] [[], [], [], [], [], [], [], [], [], [], [], [], [], [], [], [], [], [], [], [], [19], [], [2, 5, 6, 9, 10, 13, 14, 17, 18, 19, 20]] [[], [], [], [], [], [], [], [], [], [], [], [], [], [], [], [], [], [], [], [], [21, 22], [], []] [
              fun u => u.cell? ⟨w.heap.size + 1 + 1, 1, none⟩ = some (.slice A k c),
              fun u => OwnG 4 TgP u wm.heap.size 33 (.slice A k c) (r.tos.take k),
              fun u => Blk u (w.heap.size + 1 + 1) 26 [v1, .slice A k c, .slice none 0 0]] [[], [0], [], [], [], [], [], [], [], [], [], [], [], [], [], [], [], [], [], [], [1], [], [2]] [[], [], [], [], [], [], [], [], [], [], [], [], [], [], [], [], [], [], [], [], [1], [], [0, 2]]
              (by kernel_rfl) (by kernel_rfl) ?_ (fun _ _ _ _ _ h => h) (Off.refl _ _).drew ⟨kX.cell 1, o3, kX, trivial⟩ ?_ ?_
          · refine F4.hE_of (fun u u' h f => f.trans (Off.of_all h) (fun _ _ h => h.elim)) ?_ ?_
            · repeat' (first | exact F4.mono_nil | refine F4.mono_cons (fun xs v u u' h => ?_) ?_)
              all_goals first | exact _root_.id | (rintro ⟨g, e, hg, kg⟩; exact ⟨g, e, hg, kg.below h kg.lt⟩) | (rintro ⟨A', c', e, o⟩; exact ⟨A', c', e, o.below (Nat.le_refl _) h⟩) | (rintro ⟨E1, z1, E2, z2, E3, z3, E4, z4, e, p1, p2, p3, p4⟩; exact ⟨E1, z1, E2, z2, E3, z3, E4, z4, e, p1.below (Nat.le_refl _) h, p2.below (Nat.le_refl _) h, p3.below (Nat.le_refl _) h, p4.below (Nat.le_refl _) h⟩) | (rintro ⟨g, E1, z1, E2, z2, E3, z3, E4, z4, e, hg, kg, p1, p2, p3, p4⟩; exact ⟨g, E1, z1, E2, z2, E3, z3, E4, z4, e, hg, kg.below h kg.lt, p1.below (Nat.le_refl _) h, p2.below (Nat.le_refl _) h, p3.below (Nat.le_refl _) h, p4.below (Nat.le_refl _) h⟩) | (rintro ⟨A', c', e, o⟩; exact ⟨A', c', e, o.below TgP.mn h⟩) | (rintro ⟨A', c', kx, o⟩; exact ⟨A', c', kx.below h kx.lt, o.below TgP.mn h⟩)
            · repeat' (first | exact F4.monoI_nil | refine F4.monoI_cons (fun u u' h => ?_) ?_)
              all_goals first | exact _root_.id | (exact fun hc => (h.cell (World.block_lt_of_cell? u _ hc)).trans hc) | (exact fun o => o.below TgP.mn h) | (exact fun kx => kx.below h kx.lt)
          ·
            refine F4.owed_cons (fun vs u hS hD hJ N => ?_) ?_
            · clear hD hJ
              intro hN
              simp only [F4.fact, F4.layAt, F4.depOn, F4.dstOf, List.map_cons, List.map_nil, List.foldl_cons, List.foldl_nil, List.getD_cons_zero, List.getD_cons_succ, List.getElem?_cons_zero, List.getElem?_cons_succ, Option.bind_some] at hN ⊢
              go_simp
              have hh := hN _ _ rfl (.inl (Below.refl _ _))
              revert hh
              go_simp
            refine F4.owed_cons (fun vs u hS hD hJ N => ?_) ?_
            · have d0 := hD 0 (by decide)
              simp only [F4.fact, F4.layAt, F4.depOn, F4.dstOf, List.map_cons, List.map_nil, List.foldl_cons, List.foldl_nil, List.getD_cons_zero, List.getD_cons_succ, List.getElem?_cons_zero, List.getElem?_cons_succ, Option.bind_some] at d0
              have i0 := hJ 0 (by decide)
              simp only [F4.initAt, List.getD_cons_zero, List.getD_cons_succ] at i0
              clear hD hJ
              intro hN
              simp only [F4.fact, F4.layAt, F4.depOn, F4.dstOf, List.map_cons, List.map_nil, List.foldl_cons, List.foldl_nil, List.getD_cons_zero, List.getD_cons_succ, List.getElem?_cons_zero, List.getElem?_cons_succ, Option.bind_some, d0] at hN ⊢
              go_simp
              have hh := hN _ _ rfl (.inl (Below.refl _ _))
              revert hh
              go_simp
            refine F4.owed_cons (fun vs u hS hD hJ N => ?_) ?_
            · clear hD hJ
              intro hN
              simp only [F4.fact, F4.layAt, F4.depOn, F4.dstOf, List.map_cons, List.map_nil, List.foldl_cons, List.foldl_nil, List.getD_cons_zero, List.getD_cons_succ, List.getElem?_cons_zero, List.getElem?_cons_succ, Option.bind_some] at hN ⊢
              go_simp
              have hh := hN _ _ ⟨u.heap.size, rfl, hS.size, Blk.newAt rfl 3 #[]⟩ (.inl ((Below.refl _ u).alloc (Nat.le_refl _) _))
              revert hh
              go_simp
            refine F4.owed_cons (fun vs u hS hD hJ N => ?_) ?_
            · clear hD hJ
              intro hN
              simp only [F4.fact, F4.layAt, F4.depOn, F4.dstOf, List.map_cons, List.map_nil, List.foldl_cons, List.foldl_nil, List.getD_cons_zero, List.getD_cons_succ, List.getElem?_cons_zero, List.getElem?_cons_succ, Option.bind_some] at hN ⊢
              go_simp
              have hh := hN _ _ rfl (.inl (Below.refl _ _))
              revert hh
              go_simp
            refine F4.owed_cons (fun vs u hS hD hJ N => ?_) ?_
            · have d3 := hD 3 (by decide)
              simp only [F4.fact, F4.layAt, F4.depOn, F4.dstOf, List.map_cons, List.map_nil, List.foldl_cons, List.foldl_nil, List.getD_cons_zero, List.getD_cons_succ, List.getElem?_cons_zero, List.getElem?_cons_succ, Option.bind_some] at d3
              clear hD hJ
              intro hN
              simp only [F4.fact, F4.layAt, F4.depOn, F4.dstOf, List.map_cons, List.map_nil, List.foldl_cons, List.foldl_nil, List.getD_cons_zero, List.getD_cons_succ, List.getElem?_cons_zero, List.getElem?_cons_succ, Option.bind_some, d3] at hN ⊢
              go_simp
              have y := Y1 _ hS
              go_simp
              have hh := hN _ _ rfl (.inl (Below.refl _ _))
              revert hh
              go_simp
            refine F4.owed_cons (fun vs u hS hD hJ N => ?_) ?_
            · have d2 := hD 2 (by decide)
              simp only [F4.fact, F4.layAt, F4.depOn, F4.dstOf, List.map_cons, List.map_nil, List.foldl_cons, List.foldl_nil, List.getD_cons_zero, List.getD_cons_succ, List.getElem?_cons_zero, List.getElem?_cons_succ, Option.bind_some] at d2
              obtain ⟨g, e2, hg, kg⟩ := d2
              have d4 := hD 4 (by decide)
              simp only [F4.fact, F4.layAt, F4.depOn, F4.dstOf, List.map_cons, List.map_nil, List.foldl_cons, List.foldl_nil, List.getD_cons_zero, List.getD_cons_succ, List.getElem?_cons_zero, List.getElem?_cons_succ, Option.bind_some] at d4
              clear hD hJ
              intro hN
              simp only [F4.fact, F4.layAt, F4.depOn, F4.dstOf, List.map_cons, List.map_nil, List.foldl_cons, List.foldl_nil, List.getD_cons_zero, List.getD_cons_succ, List.getElem?_cons_zero, List.getElem?_cons_succ, Option.bind_some, e2, d4] at hN ⊢
              rw [if_pos (by rfl)]
              refine wp_append0 TIn inC_len inC_one rfl rfl kg hg rfl (RD1 u hS) (by omega) (by simp only [maxLen]; omega) ?_
              intro A' c' u' o f
              exact hN _ _ ⟨A', c', rfl, o⟩ (.inl f)
            refine F4.owed_cons (fun vs u hS hD hJ N => ?_) ?_
            · clear hD hJ
              intro hN
              simp only [F4.fact, F4.layAt, F4.depOn, F4.dstOf, List.map_cons, List.map_nil, List.foldl_cons, List.foldl_nil, List.getD_cons_zero, List.getD_cons_succ, List.getElem?_cons_zero, List.getElem?_cons_succ, Option.bind_some] at hN ⊢
              go_simp
              have hh := hN _ _ ⟨u.heap.size, rfl, hS.size, Blk.newAt rfl 78 #[]⟩ (.inl ((Below.refl _ u).alloc (Nat.le_refl _) _))
              revert hh
              go_simp
            refine F4.owed_cons (fun vs u hS hD hJ N => ?_) ?_
            · clear hD hJ
              intro hN
              simp only [F4.fact, F4.layAt, F4.depOn, F4.dstOf, List.map_cons, List.map_nil, List.foldl_cons, List.foldl_nil, List.getD_cons_zero, List.getD_cons_succ, List.getElem?_cons_zero, List.getElem?_cons_succ, Option.bind_some] at hN ⊢
              go_simp
              have hh := hN _ _ rfl (.inl (Below.refl _ _))
              revert hh
              go_simp
            refine F4.owed_cons (fun vs u hS hD hJ N => ?_) ?_
            · have d7 := hD 7 (by decide)
              simp only [F4.fact, F4.layAt, F4.depOn, F4.dstOf, List.map_cons, List.map_nil, List.foldl_cons, List.foldl_nil, List.getD_cons_zero, List.getD_cons_succ, List.getElem?_cons_zero, List.getElem?_cons_succ, Option.bind_some] at d7
              clear hD hJ
              intro hN
              simp only [F4.fact, F4.layAt, F4.depOn, F4.dstOf, List.map_cons, List.map_nil, List.foldl_cons, List.foldl_nil, List.getD_cons_zero, List.getD_cons_succ, List.getElem?_cons_zero, List.getElem?_cons_succ, Option.bind_some, d7] at hN ⊢
              go_simp
              have y := Y2 _ hS
              go_simp
              have hh := hN _ _ rfl (.inl (Below.refl _ _))
              revert hh
              go_simp
            refine F4.owed_cons (fun vs u hS hD hJ N => ?_) ?_
            · have d6 := hD 6 (by decide)
              simp only [F4.fact, F4.layAt, F4.depOn, F4.dstOf, List.map_cons, List.map_nil, List.foldl_cons, List.foldl_nil, List.getD_cons_zero, List.getD_cons_succ, List.getElem?_cons_zero, List.getElem?_cons_succ, Option.bind_some] at d6
              obtain ⟨g, e6, hg, kg⟩ := d6
              have d8 := hD 8 (by decide)
              simp only [F4.fact, F4.layAt, F4.depOn, F4.dstOf, List.map_cons, List.map_nil, List.foldl_cons, List.foldl_nil, List.getD_cons_zero, List.getD_cons_succ, List.getElem?_cons_zero, List.getElem?_cons_succ, Option.bind_some] at d8
              clear hD hJ
              intro hN
              simp only [F4.fact, F4.layAt, F4.depOn, F4.dstOf, List.map_cons, List.map_nil, List.foldl_cons, List.foldl_nil, List.getD_cons_zero, List.getD_cons_succ, List.getElem?_cons_zero, List.getElem?_cons_succ, Option.bind_some, e6, d8] at hN ⊢
              rw [if_pos (by rfl)]
              refine wp_append0 TTm tmC_len tmC_one rfl rfl kg hg rfl (RD2 u hS) (by omega) (by simp only [maxLen]; omega) ?_
              intro A' c' u' o f
              exact hN _ _ ⟨A', c', rfl, o⟩ (.inl f)
            refine F4.owed_cons (fun vs u hS hD hJ N => ?_) ?_
            · clear hD hJ
              intro hN
              simp only [F4.fact, F4.layAt, F4.depOn, F4.dstOf, List.map_cons, List.map_nil, List.foldl_cons, List.foldl_nil, List.getD_cons_zero, List.getD_cons_succ, List.getElem?_cons_zero, List.getElem?_cons_succ, Option.bind_some] at hN ⊢
              go_simp
              have hh := hN _ _ ⟨u.heap.size, rfl, hS.size, Blk.newAt rfl 78 #[]⟩ (.inl ((Below.refl _ u).alloc (Nat.le_refl _) _))
              revert hh
              go_simp
            refine F4.owed_cons (fun vs u hS hD hJ N => ?_) ?_
            · clear hD hJ
              intro hN
              simp only [F4.fact, F4.layAt, F4.depOn, F4.dstOf, List.map_cons, List.map_nil, List.foldl_cons, List.foldl_nil, List.getD_cons_zero, List.getD_cons_succ, List.getElem?_cons_zero, List.getElem?_cons_succ, Option.bind_some] at hN ⊢
              go_simp
              have hh := hN _ _ rfl (.inl (Below.refl _ _))
              revert hh
              go_simp
            refine F4.owed_cons (fun vs u hS hD hJ N => ?_) ?_
            · have d11 := hD 11 (by decide)
              simp only [F4.fact, F4.layAt, F4.depOn, F4.dstOf, List.map_cons, List.map_nil, List.foldl_cons, List.foldl_nil, List.getD_cons_zero, List.getD_cons_succ, List.getElem?_cons_zero, List.getElem?_cons_succ, Option.bind_some] at d11
              clear hD hJ
              intro hN
              simp only [F4.fact, F4.layAt, F4.depOn, F4.dstOf, List.map_cons, List.map_nil, List.foldl_cons, List.foldl_nil, List.getD_cons_zero, List.getD_cons_succ, List.getElem?_cons_zero, List.getElem?_cons_succ, Option.bind_some, d11] at hN ⊢
              go_simp
              have y := Y3 _ hS
              go_simp
              have hh := hN _ _ rfl (.inl (Below.refl _ _))
              revert hh
              go_simp
            refine F4.owed_cons (fun vs u hS hD hJ N => ?_) ?_
            · have d10 := hD 10 (by decide)
              simp only [F4.fact, F4.layAt, F4.depOn, F4.dstOf, List.map_cons, List.map_nil, List.foldl_cons, List.foldl_nil, List.getD_cons_zero, List.getD_cons_succ, List.getElem?_cons_zero, List.getElem?_cons_succ, Option.bind_some] at d10
              obtain ⟨g, e10, hg, kg⟩ := d10
              have d12 := hD 12 (by decide)
              simp only [F4.fact, F4.layAt, F4.depOn, F4.dstOf, List.map_cons, List.map_nil, List.foldl_cons, List.foldl_nil, List.getD_cons_zero, List.getD_cons_succ, List.getElem?_cons_zero, List.getElem?_cons_succ, Option.bind_some] at d12
              clear hD hJ
              intro hN
              simp only [F4.fact, F4.layAt, F4.depOn, F4.dstOf, List.map_cons, List.map_nil, List.foldl_cons, List.foldl_nil, List.getD_cons_zero, List.getD_cons_succ, List.getElem?_cons_zero, List.getElem?_cons_succ, Option.bind_some, e10, d12] at hN ⊢
              rw [if_pos (by rfl)]
              refine wp_append0 TTm tmC_len tmC_one rfl rfl kg hg rfl (RD3 u hS) (by omega) (by simp only [maxLen]; omega) ?_
              intro A' c' u' o f
              exact hN _ _ ⟨A', c', rfl, o⟩ (.inl f)
            refine F4.owed_cons (fun vs u hS hD hJ N => ?_) ?_
            · clear hD hJ
              intro hN
              simp only [F4.fact, F4.layAt, F4.depOn, F4.dstOf, List.map_cons, List.map_nil, List.foldl_cons, List.foldl_nil, List.getD_cons_zero, List.getD_cons_succ, List.getElem?_cons_zero, List.getElem?_cons_succ, Option.bind_some] at hN ⊢
              go_simp
              have hh := hN _ _ ⟨u.heap.size, rfl, hS.size, Blk.newAt rfl 78 #[]⟩ (.inl ((Below.refl _ u).alloc (Nat.le_refl _) _))
              revert hh
              go_simp
            refine F4.owed_cons (fun vs u hS hD hJ N => ?_) ?_
            · clear hD hJ
              intro hN
              simp only [F4.fact, F4.layAt, F4.depOn, F4.dstOf, List.map_cons, List.map_nil, List.foldl_cons, List.foldl_nil, List.getD_cons_zero, List.getD_cons_succ, List.getElem?_cons_zero, List.getElem?_cons_succ, Option.bind_some] at hN ⊢
              go_simp
              have hh := hN _ _ rfl (.inl (Below.refl _ _))
              revert hh
              go_simp
            refine F4.owed_cons (fun vs u hS hD hJ N => ?_) ?_
            · have d15 := hD 15 (by decide)
              simp only [F4.fact, F4.layAt, F4.depOn, F4.dstOf, List.map_cons, List.map_nil, List.foldl_cons, List.foldl_nil, List.getD_cons_zero, List.getD_cons_succ, List.getElem?_cons_zero, List.getElem?_cons_succ, Option.bind_some] at d15
              clear hD hJ
              intro hN
              simp only [F4.fact, F4.layAt, F4.depOn, F4.dstOf, List.map_cons, List.map_nil, List.foldl_cons, List.foldl_nil, List.getD_cons_zero, List.getD_cons_succ, List.getElem?_cons_zero, List.getElem?_cons_succ, Option.bind_some, d15] at hN ⊢
              go_simp
              have y := Y4 _ hS
              go_simp
              have hh := hN _ _ rfl (.inl (Below.refl _ _))
              revert hh
              go_simp
            refine F4.owed_cons (fun vs u hS hD hJ N => ?_) ?_
            · have d14 := hD 14 (by decide)
              simp only [F4.fact, F4.layAt, F4.depOn, F4.dstOf, List.map_cons, List.map_nil, List.foldl_cons, List.foldl_nil, List.getD_cons_zero, List.getD_cons_succ, List.getElem?_cons_zero, List.getElem?_cons_succ, Option.bind_some] at d14
              obtain ⟨g, e14, hg, kg⟩ := d14
              have d16 := hD 16 (by decide)
              simp only [F4.fact, F4.layAt, F4.depOn, F4.dstOf, List.map_cons, List.map_nil, List.foldl_cons, List.foldl_nil, List.getD_cons_zero, List.getD_cons_succ, List.getElem?_cons_zero, List.getElem?_cons_succ, Option.bind_some] at d16
              clear hD hJ
              intro hN
              simp only [F4.fact, F4.layAt, F4.depOn, F4.dstOf, List.map_cons, List.map_nil, List.foldl_cons, List.foldl_nil, List.getD_cons_zero, List.getD_cons_succ, List.getElem?_cons_zero, List.getElem?_cons_succ, Option.bind_some, e14, d16] at hN ⊢
              rw [if_pos (by rfl)]
              refine wp_append0 TTm tmC_len tmC_one rfl rfl kg hg rfl (RD4 u hS) (by omega) (by simp only [maxLen]; omega) ?_
              intro A' c' u' o f
              exact hN _ _ ⟨A', c', rfl, o⟩ (.inl f)
            refine F4.owed_cons (fun vs u hS hD hJ N => ?_) ?_
            · have d5 := hD 5 (by decide)
              simp only [F4.fact, F4.layAt, F4.depOn, F4.dstOf, List.map_cons, List.map_nil, List.foldl_cons, List.foldl_nil, List.getD_cons_zero, List.getD_cons_succ, List.getElem?_cons_zero, List.getElem?_cons_succ, Option.bind_some] at d5
              obtain ⟨E1, z1, e5, o5⟩ := d5
              have d9 := hD 9 (by decide)
              simp only [F4.fact, F4.layAt, F4.depOn, F4.dstOf, List.map_cons, List.map_nil, List.foldl_cons, List.foldl_nil, List.getD_cons_zero, List.getD_cons_succ, List.getElem?_cons_zero, List.getElem?_cons_succ, Option.bind_some] at d9
              obtain ⟨E2, z2, e9, o9⟩ := d9
              have d13 := hD 13 (by decide)
              simp only [F4.fact, F4.layAt, F4.depOn, F4.dstOf, List.map_cons, List.map_nil, List.foldl_cons, List.foldl_nil, List.getD_cons_zero, List.getD_cons_succ, List.getElem?_cons_zero, List.getElem?_cons_succ, Option.bind_some] at d13
              obtain ⟨E3, z3, e13, o13⟩ := d13
              have d17 := hD 17 (by decide)
              simp only [F4.fact, F4.layAt, F4.depOn, F4.dstOf, List.map_cons, List.map_nil, List.foldl_cons, List.foldl_nil, List.getD_cons_zero, List.getD_cons_succ, List.getElem?_cons_zero, List.getElem?_cons_succ, Option.bind_some] at d17
              obtain ⟨E4, z4, e17, o17⟩ := d17
              clear hD hJ
              intro hN
              simp only [F4.fact, F4.layAt, F4.depOn, F4.dstOf, List.map_cons, List.map_nil, List.foldl_cons, List.foldl_nil, List.getD_cons_zero, List.getD_cons_succ, List.getElem?_cons_zero, List.getElem?_cons_succ, Option.bind_some, e5, e9, e13, e17] at hN ⊢
              go_simp
              have hh := hN _ _ ⟨E1, z1, E2, z2, E3, z3, E4, z4, rfl, o5, o9, o13, o17⟩ (.inl (Below.refl _ _))
              revert hh
              go_simp
            refine F4.owed_cons (fun vs u hS hD hJ N => ?_) ?_
            · have d18 := hD 18 (by decide)
              simp only [F4.fact, F4.layAt, F4.depOn, F4.dstOf, List.map_cons, List.map_nil, List.foldl_cons, List.foldl_nil, List.getD_cons_zero, List.getD_cons_succ, List.getElem?_cons_zero, List.getElem?_cons_succ, Option.bind_some] at d18
              obtain ⟨E1, z1, E2, z2, E3, z3, E4, z4, e18, p1, p2, p3, p4⟩ := d18
              clear hD hJ
              intro hN
              simp only [F4.fact, F4.layAt, F4.depOn, F4.dstOf, List.map_cons, List.map_nil, List.foldl_cons, List.foldl_nil, List.getD_cons_zero, List.getD_cons_succ, List.getElem?_cons_zero, List.getElem?_cons_succ, Option.bind_some, e18] at hN ⊢
              go_simp
              have fa : Below u.heap.size u (u.alloc (.cells #[.slice E1 m1 z1, .slice E2 m2 z2, .slice E3 m3 z3, .slice E4 m4 z4] 33)) := (Below.refl _ u).alloc (Nat.le_refl _) _
              have hh := hN _ _ ⟨u.heap.size, E1, z1, E2, z2, E3, z3, E4, z4, rfl, hS.size, Blk.newAt rfl _ _, p1.below (Nat.le_refl _) fa, p2.below (Nat.le_refl _) fa, p3.below (Nat.le_refl _) fa, p4.below (Nat.le_refl _) fa⟩ (.inl fa)
              revert hh
              go_simp
            refine F4.owed_cons (fun vs u hS hD hJ N => ?_) ?_
            · have d1 := hD 1 (by decide)
              simp only [F4.fact, F4.layAt, F4.depOn, F4.dstOf, List.map_cons, List.map_nil, List.foldl_cons, List.foldl_nil, List.getD_cons_zero, List.getD_cons_succ, List.getElem?_cons_zero, List.getElem?_cons_succ, Option.bind_some] at d1
              have d19 := hD 19 (by decide)
              simp only [F4.fact, F4.layAt, F4.depOn, F4.dstOf, List.map_cons, List.map_nil, List.foldl_cons, List.foldl_nil, List.getD_cons_zero, List.getD_cons_succ, List.getElem?_cons_zero, List.getElem?_cons_succ, Option.bind_some] at d19
              obtain ⟨g, E1, z1, E2, z2, E3, z3, E4, z4, e19, hg, kg, p1, p2, p3, p4⟩ := d19
              have i1 := hJ 1 (by decide)
              simp only [F4.initAt, List.getD_cons_zero, List.getD_cons_succ] at i1
              clear hD hJ
              intro hN
              simp only [F4.fact, F4.layAt, F4.depOn, F4.dstOf, List.map_cons, List.map_nil, List.foldl_cons, List.foldl_nil, List.getD_cons_zero, List.getD_cons_succ, List.getElem?_cons_zero, List.getElem?_cons_succ, Option.bind_some, d1, e19] at hN ⊢
              rw [if_pos (by rfl)]
              refine wp_appendOwn1 TTg TgP.mn rfl rfl i1 rfl (cs := [.slice E1 m1 z1, .slice E2 m2 z2, .slice E3 m3 z3, .slice E4 m4 z4]) (y := x) rfl (by intro v hv; simp only [List.mem_cons, List.mem_nil_iff, or_false] at hv; rcases hv with rfl | rfl | rfl | rfl <;> rfl) (fun j v hv => by rw [show (⟨g, 0, none⟩ : Addr).add j = ⟨g, j, none⟩ from by unfold Addr.add; split <;> simp_all, kg.cell]; exact hv) ?_ (by omega) (by simp only [maxLen]; omega) (by have := hS.size; omega) ?_
              · exact TgP.mn _ _ _ _ _ _ (Nat.le_refl _) (Sub.fresh (lo := w2.heap.size) (by omega) fun b hb => (hAb b hb).2) ⟨_, _, _, _, rfl, p1.rvm inC_len, p2.rvm tmC_len, p3.rvm tmC_len, p4.rvm tmC_len⟩
              intro A' c' u' o f
              rw [HMX.out] at o
              have hrow : ∀ b, (Value.slice A k c).ownBlock = some b → b < w2.heap.size := fun b hb => (hAb b hb).2
              refine hN _ _ ⟨A', c', rfl, o⟩ (.inr ⟨hS.grown f fun b hb _ => .inl (isB_own hb), fun j xs v h1 h2 h3 => ?_, fun j h1 => ?_⟩)
              · match j with
                | 19 => exact absurd (by decide) h2
                | 20 => exact absurd rfl h1
                | 21 | 22 => exact absurd (by decide) h3
                | 2 | 6 | 10 | 14 => rintro ⟨g, e, hg, kg⟩; exact ⟨g, e, hg, kg.grown f fun e => by have := hrow g e.symm; omega⟩
                | 5 | 9 | 13 | 17 => rintro ⟨A', c', e, o⟩; exact ⟨A', c', e, o.grownG f hrow⟩
                | 18 => rintro ⟨E1, z1, E2, z2, E3, z3, E4, z4, e, p1, p2, p3, p4⟩; exact ⟨E1, z1, E2, z2, E3, z3, E4, z4, e, p1.grownG f hrow, p2.grownG f hrow, p3.grownG f hrow, p4.grownG f hrow⟩
                | 0 | 1 | 3 | 4 | 7 | 8 | 11 | 12 | 15 | 16 | _ + 23 => exact _root_.id
              · match j with
                | 0 => exact fun hc => f.cell hc fun e => by have := hAb _ e.symm; simp only at this; omega
                | 1 => exact absurd (by decide) h1
                | 2 => exact fun kx => kx.grown f fun e => by have := hAb _ e.symm; omega
                | _ + 3 => exact _root_.id
            refine F4.owed_cons (fun vs u hS hD hJ N => ?_) ?_
            · clear hD hJ
              intro hN
              simp only [F4.fact, F4.layAt, F4.depOn, F4.dstOf, List.map_cons, List.map_nil, List.foldl_cons, List.foldl_nil, List.getD_cons_zero, List.getD_cons_succ, List.getElem?_cons_zero, List.getElem?_cons_succ, Option.bind_some] at hN ⊢
              go_simp
              have hh := hN _ _ rfl (.inl (Below.refl _ _))
              revert hh
              go_simp
            refine F4.owed_cons (fun vs u hS hD hJ N => ?_) ?_
            · have d20 := hD 20 (by decide)
              simp only [F4.fact, F4.layAt, F4.depOn, F4.dstOf, List.map_cons, List.map_nil, List.foldl_cons, List.foldl_nil, List.getD_cons_zero, List.getD_cons_succ, List.getElem?_cons_zero, List.getElem?_cons_succ, Option.bind_some] at d20
              obtain ⟨A', c', e20, o⟩ := d20
              have d21 := hD 21 (by decide)
              simp only [F4.fact, F4.layAt, F4.depOn, F4.dstOf, List.map_cons, List.map_nil, List.foldl_cons, List.foldl_nil, List.getD_cons_zero, List.getD_cons_succ, List.getElem?_cons_zero, List.getElem?_cons_succ, Option.bind_some] at d21
              have i2 := hJ 2 (by decide)
              simp only [F4.initAt, List.getD_cons_zero, List.getD_cons_succ] at i2
              clear hD hJ
              have fz := i2.frozen 1
              have cz := i2.cell 1
              intro hN
              simp only [F4.fact, F4.layAt, F4.depOn, F4.dstOf, List.map_cons, List.map_nil, List.foldl_cons, List.foldl_nil, List.getD_cons_zero, List.getD_cons_succ, List.getElem?_cons_zero, List.getElem?_cons_succ, Option.bind_some, e20, d21] at hN ⊢
              go_simp
              have ow : Off (fun b => b = w.heap.size + 1 + 1) u (u.setCell ⟨w.heap.size + 1 + 1, 1, none⟩ (.slice A' (k + 1) c')) := (Off.refl (fun b => b = w.heap.size + 1 + 1) u).setCell (p := ⟨w.heap.size + 1 + 1, 1, none⟩) (fun _ => rfl) _
              have hh := hN undef _ ⟨A', c', i2.set 1 _, o.off TgP.mn ow fun b hb => .inl (by omega)⟩ (.inr ⟨hS.trans ow fun b _ hb => .inr hb, fun j xs v h1 h2 h3 => ?_, fun j h1 => ?_⟩)
              · revert hh
                go_simp
              · match j with
                | 2 | 5 | 6 | 9 | 10 | 13 | 14 | 17 | 18 | 19 | 20 => exact absurd (by decide) h2
                | 22 => exact absurd rfl h1
                | 0 | 1 | 3 | 4 | 7 | 8 | 11 | 12 | 15 | 16 | 21 | _ + 23 => exact _root_.id
              · match j with
                | 0 | 2 => exact absurd (by decide) h1
                | 1 => exact fun o => o.off TgP.mn ow fun b hb => .inl (by omega)
                | _ + 3 => exact _root_.id
            exact F4.owed_nil
          · intro vs u hS hF hJ
            have d22 := hF 22 (by decide) (by decide)
            simp only [F4.fact, F4.layAt, F4.depOn, F4.dstOf, List.map_cons, List.map_nil, List.foldl_cons, List.foldl_nil, List.getD_cons_zero, List.getD_cons_succ, List.getElem?_cons_zero, List.getElem?_cons_succ, Option.bind_some] at d22
            obtain ⟨A', c', kx, o⟩ := d22
            clear hF hJ
            simp only [List.length_cons, List.length_nil, Nat.reduceAdd, List.range, List.range.loop, F4.fact, F4.layAt, F4.depOn, F4.dstOf, List.map_cons, List.map_nil, List.foldl_cons, List.foldl_nil, List.getD_cons_zero, List.getD_cons_succ, List.getElem?_cons_zero, List.getElem?_cons_succ, Option.bind_some]
            go_simp
            have hZ := HFR.out u hS
            subst hyb
            go_wp2_with fail
            go_roundw
            case rel => exact ⟨k + 1, A', c', by go_num, by omega, ⟨HK0.out.off hZ (fun h => h.elim (fun h => by have := HNE.out _ h; omega) (fun h => by omega)), HK1.out.off hZ (fun h => h.elim (fun h => by have := HNE.out _ h; omega) (fun h => by omega)), kx, f2.trans (hZ.below f2.size fun b hb => hb.elim (fun h => by have := HNE.out _ h; omega) (fun h => by omega))⟩, o, fm.trans hZ fun b _ hb => hb.elim (fun h => .inr (HNE.out b h).1) (fun h => .inl h)⟩
            case measure => simp [intOf]; omega
        · have d1 : decide ((k : Int) < (n2 : Int)) = false := by simp; omega
          obtain rfl : n2 = k := by omega
          obtain ⟨k0, k1, k2, f2⟩ := b2
          have e1 : wr.cell? ⟨w.heap.size, 1, none⟩ = some (.slice A2 n2 c2) := k0.cell 1
          rw [List.take_of_length_le (by rw [L2.out]; exact Nat.le_refl _)] at o2
          go_wp2_with fail
          have O2 := Lib.hid o2; clear o2
          generalize hv2 : Value.slice A n2 c = v2 at *
          have FM := Lib.hid fm
          have hws := fm.size
          clear e1 d1 fm hv2
          obtain ⟨wm1, rfl⟩ : ∃ u, u = wm := ⟨_, rfl⟩
          obtain ⟨wm, rfl⟩ : ∃ u, u = wr := ⟨_, rfl⟩
          have hwmm := k2.lt
          go_loopw [8] (fun vi wr => ∃ (k : Nat) (A : Option Addr) (c : Nat), vi = .int .i64 k ∧ k ≤ n3 ∧ CpB w wr [.slice A1 n1 c1, .slice A2 n2 c2, .slice A3 n3 c3] (v1) (v2) (.slice A k c) ∧ OwnG 2 WnP wr wm.heap.size 50 (.slice A k c) (r.whens.take k) ∧ Off (fun b => b = w.heap.size + 1 + 1 ∨ wm.heap.size ≤ b) wm wr) (fun vi _ => n3 - (intOf vi).toNat)
          case atStart => exact ⟨0, none, 0, rfl, Nat.zero_le _, ⟨k0, k1, k2, f2⟩, OwnG.nil, Off.refl _ _⟩
          case round =>
            obtain ⟨k, A, c, rfl, hk, b2, o2, fm⟩ := hrel
            by_cases hlt : k < n3
            · have d1 : decide ((k : Int) < (n3 : Int)) = true := by simp; omega
              have z1 : (0 : Int) ≤ (k : Int) := by omega
              have z2 : (k : Int) < (n3 : Int) := by omega
              have hkR : k < r.whens.length := by rw [L3.out]; exact hlt
              obtain ⟨k0, k1, k2, f2⟩ := b2
              obtain ⟨b, off, cs, rfl, p2, p3, p4, p5⟩ := (H3.out.mono (Nat.le_refl _) f2 (fun _ _ h => WnP.mono h (Nat.le_refl _) f2)).at_ hlt
              obtain ⟨x, hx⟩ : ∃ x, r.whens[k] = x := ⟨_, rfl⟩
              have e2 : wr.cell? ⟨w.heap.size, 2, none⟩ = some (.slice (some ⟨b, off, none⟩) n3 c3) := k0.cell 2
              obtain ⟨B1, m1, y1, rfl, q1⟩ := vals_wn p4
              obtain ⟨s, hs⟩ : ∃ s, strB x.head = s := ⟨_, rfl⟩
              have g0 : wr.cell? ⟨b, off + k * 2, none⟩ = some (.string s) := by rw [← hs, ← hx]; exact p5 0 _ rfl
              have g1 : wr.cell? ⟨b, off + k * 2 + 1, none⟩ = some (.slice B1 m1 y1) := p5 1 _ rfl
              have HS := Lib.hid hs; clear hs
              clear p5 p4
              go_upto_region 15 with fail
              have hne : ∀ b, isB A b → wm.heap.size ≤ b ∧ b < wr.heap.size := fun b hb => o2.lt _ (own_isB hb)
              refine abs (fun u => Blk u (w.heap.size + 1 + 1) 26 [v1, v2, .slice A k c] ∧ OwnG 2 WnP u wm.heap.size 50 (.slice A k c) (r.whens.take k) ∧ Off (fun _ => False) wr u) ⟨k2, o2, (Off.refl _ _)⟩ ?_
              rintro w2 ⟨kX, o3, f3⟩
              have Q1 := q1.below (f3.all.mono f2.size)
              have hXs := kX.lt
              have hk2l := k2.lt
              have hws2 := fm.size
              have hbs : w.heap.size + 1 + 1 + 1 ≤ wm.heap.size ∧ wm.heap.size ≤ wr.heap.size := ⟨by omega, by omega⟩
              have hw2s := f3.size
              have hxY : ∀ b, (isB A b ∨ b = w.heap.size + 1 + 1) → w.heap.size + 1 ≤ b ∧ b < w2.heap.size := fun b hb => by
                rcases hb with hb | rfl
                · have := hne b hb
                  exact ⟨by omega, by omega⟩
                · exact ⟨by omega, by omega⟩
              have FB : ∀ u, Off (fun b => isB A b ∨ b = w.heap.size + 1 + 1) w2 u → Below (w.heap.size + 1) w2 u := fun u hu => hu.below (by omega) fun b hb => (hxY b hb).1
              have kB2 : Blk w2 w.heap.size 26 [.slice A1 n1 c1, .slice A2 n2 c2, .slice (some ⟨b, off, none⟩) n3 c3] := k0.off f3 id
              have Y0 : ∀ u, Off (fun b => isB A b ∨ b = w.heap.size + 1 + 1) w2 u → u.cell? ⟨w.heap.size, 2, none⟩ = some (.slice (some ⟨b, off, none⟩) n3 c3) := fun u hu => (kB2.below (FB u hu) (Nat.lt_succ_self _)).cell 2
              have G0 : ∀ u, Off (fun b => isB A b ∨ b = w.heap.size + 1 + 1) w2 u → u.cell? ⟨b, off + k * 2, none⟩ = some (.string s) := fun u hu => ((FB u hu).cell (p := ⟨b, off + k * 2, none⟩) (Nat.lt_succ_of_lt p2)).trans ((f3.cell (p := ⟨b, off + k * 2, none⟩) (World.block_lt_of_cell? wr _ g0) id).trans g0)
              have G1 : ∀ u, Off (fun b => isB A b ∨ b = w.heap.size + 1 + 1) w2 u → u.cell? ⟨b, off + k * 2 + 1, none⟩ = some (.slice B1 m1 y1) := fun u hu => ((FB u hu).cell (p := ⟨b, off + k * 2 + 1, none⟩) (Nat.lt_succ_of_lt p2)).trans ((f3.cell (p := ⟨b, off + k * 2 + 1, none⟩) (World.block_lt_of_cell? wr _ g1) id).trans g1)
              have okx := OK.out.2.2.2 _ (List.getElem_mem hkR)
              rw [hx] at Q1 okx
              have M1 : m1 ≤ 1000000 := by rw [← Q1.1]; exact okx.2.1
              have MK : k ≤ 1000000 := by have := OK.out.2.2.1; omega
              have RD1 : ∀ u, Off (fun b => isB A b ∨ b = w.heap.size + 1 + 1) w2 u → RdR tmC 2 u w.heap.size B1 m1 x.terms := fun u hu => Q1.below ((FB u hu).mono (by omega))
              have hAb : ∀ b, (Value.slice A k c).ownBlock = some b → wm.heap.size ≤ b ∧ b < w2.heap.size := fun b hb => o3.lt b hb
              have HMX : Hid (r.whens.take k ++ [x] = r.whens.take (k + 1)) := Lib.hid (by rw [List.take_succ_eq_append_getElem hkR, hx])
              have HFR := Lib.hid (show ∀ u, Off (fun b => isB A b ∨ b = w.heap.size + 1 + 1) w2 u → Off (fun b => isB A b ∨ b = w.heap.size + 1 + 1) wr u from fun u hu => (f3.mono fun _ _ h => h.elim).trans hu fun _ _ h => h)
              have HK0 := Lib.hid k0; have HK1 := Lib.hid k1; have HX := Lib.hid hx; have HNE := Lib.hid hne
              clear k0 k1 hx okx q1 Q1 g0 g1 o2 k2 p2 p3
              clear e2 kB2
              refine F4.wp_region_facts (fun u => Off (fun b => isB A b ∨ b = w.heap.size + 1 + 1) w2 u) [
                  fun _ v _ => v = .pointer (some ⟨w.heap.size + 1 + 1, 2, none⟩),
                  fun _ v _ => v = .slice A k c,
                  fun _ v _ => v = .pointer (some ⟨w.heap.size, 2, none⟩),
                  fun _ v _ => v = .slice (some ⟨b, off, none⟩) n3 c3,
                  fun _ v _ => v = .int .i64 (k : Int),
                  fun _ v _ => v = .pointer (some ⟨b, off + k * 2, none⟩),
                  fun _ v _ => v = .pointer (some ⟨b, off + k * 2, none⟩),
                  fun _ v _ => v = .string s,
                  fun _ v u => ∃ g, v = .slice (some ⟨g, 0, none⟩) 0 0 ∧ w2.heap.size ≤ g ∧ Blk u g 78 [],
                  fun _ v _ => v = .pointer (some ⟨w.heap.size, 2, none⟩),
                  fun _ v _ => v = .slice (some ⟨b, off, none⟩) n3 c3,
                  fun _ v _ => v = .int .i64 (k : Int),
                  fun _ v _ => v = .pointer (some ⟨b, off + k * 2, none⟩),
                  fun _ v _ => v = .pointer (some ⟨b, off + k * 2 + 1, none⟩),
                  fun _ v _ => v = .slice B1 m1 y1,
                  fun _ v u => ∃ A' c', v = .slice A' m1 c' ∧ OwnR tmC 2 u w2.heap.size 78 (.slice A' m1 c') x.terms,
                  fun _ v u => ∃ E1 z1, v = .agg #[.string s, .slice E1 m1 z1] ∧ OwnR tmC 2 u w2.heap.size 78 (.slice E1 m1 z1) x.terms,
                  fun _ v u => ∃ g E1 z1, v = .slice (some ⟨g, 0, none⟩) 1 1 ∧ w2.heap.size ≤ g ∧ Blk u g 50 [.string s, .slice E1 m1 z1] ∧ OwnR tmC 2 u w2.heap.size 78 (.slice E1 m1 z1) x.terms,
                  fun _ v u => ∃ A' c', v = .slice A' (k + 1) c' ∧ OwnG 2 WnP u wm.heap.size 50 (.slice A' (k + 1) c') (r.whens.take (k + 1)),
                  fun _ v _ => v = .pointer (some ⟨w.heap.size + 1 + 1, 2, none⟩),
                  fun _ _ u => ∃ A' c', Blk u (w.heap.size + 1 + 1) 26 [v1, v2, .slice A' (k + 1) c'] ∧ OwnG 2 WnP u wm.heap.size 50 (.slice A' (k + 1) c') (r.whens.take (k + 1))] (fun u u' => Below u.heap.size u u')
                  [[], [0], [], [2], [], [3, 4], [5], [6], [], [], [9], [], [10, 11], [12], [13], [8, 14], [7, 15], [16], [1, 17], [], [18, 19]] [[], [], [], [], [], [], [], [], [], [], [], [], [], [], [], [], [], [], [17], [], [8, 15, 16, 17, 18]] [[], [], [], [], [], [], [], [], [], [], [], [], [], [], [], [], [], [], [19, 20], [], []] [
                  fun u => u.cell? ⟨w.heap.size + 1 + 1, 2, none⟩ = some (.slice A k c),
                  fun u => OwnG 2 WnP u wm.heap.size 50 (.slice A k c) (r.whens.take k),
                  fun u => Blk u (w.heap.size + 1 + 1) 26 [v1, v2, .slice A k c]] [[], [0], [], [], [], [], [], [], [], [], [], [], [], [], [], [], [], [], [1], [], [2]] [[], [], [], [], [], [], [], [], [], [], [], [], [], [], [], [], [], [], [1], [], [0, 2]]
                  (by kernel_rfl) (by kernel_rfl) ?_ (fun _ _ _ _ _ h => h) (Off.refl _ _).drew ⟨kX.cell 2, o3, kX, trivial⟩ ?_ ?_
              · refine F4.hE_of (fun u u' h f => f.trans (Off.of_all h) (fun _ _ h => h.elim)) ?_ ?_
                · repeat' (first | exact F4.mono_nil | refine F4.mono_cons (fun xs v u u' h => ?_) ?_)
                  all_goals first | exact _root_.id | (rintro ⟨g, e, hg, kg⟩; exact ⟨g, e, hg, kg.below h kg.lt⟩) | (rintro ⟨A', c', e, o⟩; exact ⟨A', c', e, o.below (Nat.le_refl _) h⟩) | (rintro ⟨E1, z1, e, p1⟩; exact ⟨E1, z1, e, p1.below (Nat.le_refl _) h⟩) | (rintro ⟨g, E1, z1, e, hg, kg, p1⟩; exact ⟨g, E1, z1, e, hg, kg.below h kg.lt, p1.below (Nat.le_refl _) h⟩) | (rintro ⟨A', c', e, o⟩; exact ⟨A', c', e, o.below WnP.mn h⟩) | (rintro ⟨A', c', kx, o⟩; exact ⟨A', c', kx.below h kx.lt, o.below WnP.mn h⟩)
                · repeat' (first | exact F4.monoI_nil | refine F4.monoI_cons (fun u u' h => ?_) ?_)
                  all_goals first | exact _root_.id | (exact fun hc => (h.cell (World.block_lt_of_cell? u _ hc)).trans hc) | (exact fun o => o.below WnP.mn h) | (exact fun kx => kx.below h kx.lt)
              ·
                refine F4.owed_cons (fun vs u hS hD hJ N => ?_) ?_
                · clear hD hJ
                  intro hN
                  simp only [F4.fact, F4.layAt, F4.depOn, F4.dstOf, List.map_cons, List.map_nil, List.foldl_cons, List.foldl_nil, List.getD_cons_zero, List.getD_cons_succ, List.getElem?_cons_zero, List.getElem?_cons_succ, Option.bind_some] at hN ⊢
                  go_simp
                  have hh := hN _ _ rfl (.inl (Below.refl _ _))
                  revert hh
                  go_simp
                refine F4.owed_cons (fun vs u hS hD hJ N => ?_) ?_
                · have d0 := hD 0 (by decide)
                  simp only [F4.fact, F4.layAt, F4.depOn, F4.dstOf, List.map_cons, List.map_nil, List.foldl_cons, List.foldl_nil, List.getD_cons_zero, List.getD_cons_succ, List.getElem?_cons_zero, List.getElem?_cons_succ, Option.bind_some] at d0
                  have i0 := hJ 0 (by decide)
                  simp only [F4.initAt, List.getD_cons_zero, List.getD_cons_succ] at i0
                  clear hD hJ
                  intro hN
                  simp only [F4.fact, F4.layAt, F4.depOn, F4.dstOf, List.map_cons, List.map_nil, List.foldl_cons, List.foldl_nil, List.getD_cons_zero, List.getD_cons_succ, List.getElem?_cons_zero, List.getElem?_cons_succ, Option.bind_some, d0] at hN ⊢
                  go_simp
                  have hh := hN _ _ rfl (.inl (Below.refl _ _))
                  revert hh
                  go_simp
                refine F4.owed_cons (fun vs u hS hD hJ N => ?_) ?_
                · clear hD hJ
                  intro hN
                  simp only [F4.fact, F4.layAt, F4.depOn, F4.dstOf, List.map_cons, List.map_nil, List.foldl_cons, List.foldl_nil, List.getD_cons_zero, List.getD_cons_succ, List.getElem?_cons_zero, List.getElem?_cons_succ, Option.bind_some] at hN ⊢
                  go_simp
                  have hh := hN _ _ rfl (.inl (Below.refl _ _))
                  revert hh
                  go_simp
                refine F4.owed_cons (fun vs u hS hD hJ N => ?_) ?_
                · have d2 := hD 2 (by decide)
                  simp only [F4.fact, F4.layAt, F4.depOn, F4.dstOf, List.map_cons, List.map_nil, List.foldl_cons, List.foldl_nil, List.getD_cons_zero, List.getD_cons_succ, List.getElem?_cons_zero, List.getElem?_cons_succ, Option.bind_some] at d2
                  clear hD hJ
                  intro hN
                  simp only [F4.fact, F4.layAt, F4.depOn, F4.dstOf, List.map_cons, List.map_nil, List.foldl_cons, List.foldl_nil, List.getD_cons_zero, List.getD_cons_succ, List.getElem?_cons_zero, List.getElem?_cons_succ, Option.bind_some, d2] at hN ⊢
                  go_simp
                  have y := Y0 _ hS
                  go_simp
                  have hh := hN _ _ rfl (.inl (Below.refl _ _))
                  revert hh
                  go_simp
                refine F4.owed_cons (fun vs u hS hD hJ N => ?_) ?_
                · clear hD hJ
                  intro hN
                  simp only [F4.fact, F4.layAt, F4.depOn, F4.dstOf, List.map_cons, List.map_nil, List.foldl_cons, List.foldl_nil, List.getD_cons_zero, List.getD_cons_succ, List.getElem?_cons_zero, List.getElem?_cons_succ, Option.bind_some] at hN ⊢
                  go_simp
                  have hh := hN _ _ rfl (.inl (Below.refl _ _))
                  revert hh
                  go_simp
                refine F4.owed_cons (fun vs u hS hD hJ N => ?_) ?_
                · have d3 := hD 3 (by decide)
                  simp only [F4.fact, F4.layAt, F4.depOn, F4.dstOf, List.map_cons, List.map_nil, List.foldl_cons, List.foldl_nil, List.getD_cons_zero, List.getD_cons_succ, List.getElem?_cons_zero, List.getElem?_cons_succ, Option.bind_some] at d3
                  have d4 := hD 4 (by decide)
                  simp only [F4.fact, F4.layAt, F4.depOn, F4.dstOf, List.map_cons, List.map_nil, List.foldl_cons, List.foldl_nil, List.getD_cons_zero, List.getD_cons_succ, List.getElem?_cons_zero, List.getElem?_cons_succ, Option.bind_some] at d4
                  clear hD hJ
                  intro hN
                  simp only [F4.fact, F4.layAt, F4.depOn, F4.dstOf, List.map_cons, List.map_nil, List.foldl_cons, List.foldl_nil, List.getD_cons_zero, List.getD_cons_succ, List.getElem?_cons_zero, List.getElem?_cons_succ, Option.bind_some, d3, d4] at hN ⊢
                  go_simp
                  have hh := hN _ _ rfl (.inl (Below.refl _ _))
                  revert hh
                  go_simp
                refine F4.owed_cons (fun vs u hS hD hJ N => ?_) ?_
                · have d5 := hD 5 (by decide)
                  simp only [F4.fact, F4.layAt, F4.depOn, F4.dstOf, List.map_cons, List.map_nil, List.foldl_cons, List.foldl_nil, List.getD_cons_zero, List.getD_cons_succ, List.getElem?_cons_zero, List.getElem?_cons_succ, Option.bind_some] at d5
                  clear hD hJ
                  intro hN
                  simp only [F4.fact, F4.layAt, F4.depOn, F4.dstOf, List.map_cons, List.map_nil, List.foldl_cons, List.foldl_nil, List.getD_cons_zero, List.getD_cons_succ, List.getElem?_cons_zero, List.getElem?_cons_succ, Option.bind_some, d5] at hN ⊢
                  go_simp
                  have hh := hN _ _ rfl (.inl (Below.refl _ _))
                  revert hh
                  go_simp
                refine F4.owed_cons (fun vs u hS hD hJ N => ?_) ?_
                · have d6 := hD 6 (by decide)
                  simp only [F4.fact, F4.layAt, F4.depOn, F4.dstOf, List.map_cons, List.map_nil, List.foldl_cons, List.foldl_nil, List.getD_cons_zero, List.getD_cons_succ, List.getElem?_cons_zero, List.getElem?_cons_succ, Option.bind_some] at d6
                  clear hD hJ
                  intro hN
                  simp only [F4.fact, F4.layAt, F4.depOn, F4.dstOf, List.map_cons, List.map_nil, List.foldl_cons, List.foldl_nil, List.getD_cons_zero, List.getD_cons_succ, List.getElem?_cons_zero, List.getElem?_cons_succ, Option.bind_some, d6] at hN ⊢
                  go_simp
                  have y := G0 _ hS
                  go_simp
                  have hh := hN _ _ rfl (.inl (Below.refl _ _))
                  revert hh
                  go_simp
                refine F4.owed_cons (fun vs u hS hD hJ N => ?_) ?_
                · clear hD hJ
                  intro hN
                  simp only [F4.fact, F4.layAt, F4.depOn, F4.dstOf, List.map_cons, List.map_nil, List.foldl_cons, List.foldl_nil, List.getD_cons_zero, List.getD_cons_succ, List.getElem?_cons_zero, List.getElem?_cons_succ, Option.bind_some] at hN ⊢
                  go_simp
                  have hh := hN _ _ ⟨u.heap.size, rfl, hS.size, Blk.newAt rfl 78 #[]⟩ (.inl ((Below.refl _ u).alloc (Nat.le_refl _) _))
                  revert hh
                  go_simp
                refine F4.owed_cons (fun vs u hS hD hJ N => ?_) ?_
                · clear hD hJ
                  intro hN
                  simp only [F4.fact, F4.layAt, F4.depOn, F4.dstOf, List.map_cons, List.map_nil, List.foldl_cons, List.foldl_nil, List.getD_cons_zero, List.getD_cons_succ, List.getElem?_cons_zero, List.getElem?_cons_succ, Option.bind_some] at hN ⊢
                  go_simp
                  have hh := hN _ _ rfl (.inl (Below.refl _ _))
                  revert hh
                  go_simp
                refine F4.owed_cons (fun vs u hS hD hJ N => ?_) ?_
                · have d9 := hD 9 (by decide)
                  simp only [F4.fact, F4.layAt, F4.depOn, F4.dstOf, List.map_cons, List.map_nil, List.foldl_cons, List.foldl_nil, List.getD_cons_zero, List.getD_cons_succ, List.getElem?_cons_zero, List.getElem?_cons_succ, Option.bind_some] at d9
                  clear hD hJ
                  intro hN
                  simp only [F4.fact, F4.layAt, F4.depOn, F4.dstOf, List.map_cons, List.map_nil, List.foldl_cons, List.foldl_nil, List.getD_cons_zero, List.getD_cons_succ, List.getElem?_cons_zero, List.getElem?_cons_succ, Option.bind_some, d9] at hN ⊢
                  go_simp
                  have y := Y0 _ hS
                  go_simp
                  have hh := hN _ _ rfl (.inl (Below.refl _ _))
                  revert hh
                  go_simp
                refine F4.owed_cons (fun vs u hS hD hJ N => ?_) ?_
                · clear hD hJ
                  intro hN
                  simp only [F4.fact, F4.layAt, F4.depOn, F4.dstOf, List.map_cons, List.map_nil, List.foldl_cons, List.foldl_nil, List.getD_cons_zero, List.getD_cons_succ, List.getElem?_cons_zero, List.getElem?_cons_succ, Option.bind_some] at hN ⊢
                  go_simp
                  have hh := hN _ _ rfl (.inl (Below.refl _ _))
                  revert hh
                  go_simp
                refine F4.owed_cons (fun vs u hS hD hJ N => ?_) ?_
                · have d10 := hD 10 (by decide)
                  simp only [F4.fact, F4.layAt, F4.depOn, F4.dstOf, List.map_cons, List.map_nil, List.foldl_cons, List.foldl_nil, List.getD_cons_zero, List.getD_cons_succ, List.getElem?_cons_zero, List.getElem?_cons_succ, Option.bind_some] at d10
                  have d11 := hD 11 (by decide)
                  simp only [F4.fact, F4.layAt, F4.depOn, F4.dstOf, List.map_cons, List.map_nil, List.foldl_cons, List.foldl_nil, List.getD_cons_zero, List.getD_cons_succ, List.getElem?_cons_zero, List.getElem?_cons_succ, Option.bind_some] at d11
                  clear hD hJ
                  intro hN
                  simp only [F4.fact, F4.layAt, F4.depOn, F4.dstOf, List.map_cons, List.map_nil, List.foldl_cons, List.foldl_nil, List.getD_cons_zero, List.getD_cons_succ, List.getElem?_cons_zero, List.getElem?_cons_succ, Option.bind_some, d10, d11] at hN ⊢
                  go_simp
                  have hh := hN _ _ rfl (.inl (Below.refl _ _))
                  revert hh
                  go_simp
                refine F4.owed_cons (fun vs u hS hD hJ N => ?_) ?_
                · have d12 := hD 12 (by decide)
                  simp only [F4.fact, F4.layAt, F4.depOn, F4.dstOf, List.map_cons, List.map_nil, List.foldl_cons, List.foldl_nil, List.getD_cons_zero, List.getD_cons_succ, List.getElem?_cons_zero, List.getElem?_cons_succ, Option.bind_some] at d12
                  clear hD hJ
                  intro hN
                  simp only [F4.fact, F4.layAt, F4.depOn, F4.dstOf, List.map_cons, List.map_nil, List.foldl_cons, List.foldl_nil, List.getD_cons_zero, List.getD_cons_succ, List.getElem?_cons_zero, List.getElem?_cons_succ, Option.bind_some, d12] at hN ⊢
                  go_simp
                  have hh := hN _ _ rfl (.inl (Below.refl _ _))
                  revert hh
                  go_simp
                refine F4.owed_cons (fun vs u hS hD hJ N => ?_) ?_
                · have d13 := hD 13 (by decide)
                  simp only [F4.fact, F4.layAt, F4.depOn, F4.dstOf, List.map_cons, List.map_nil, List.foldl_cons, List.foldl_nil, List.getD_cons_zero, List.getD_cons_succ, List.getElem?_cons_zero, List.getElem?_cons_succ, Option.bind_some] at d13
                  clear hD hJ
                  intro hN
                  simp only [F4.fact, F4.layAt, F4.depOn, F4.dstOf, List.map_cons, List.map_nil, List.foldl_cons, List.foldl_nil, List.getD_cons_zero, List.getD_cons_succ, List.getElem?_cons_zero, List.getElem?_cons_succ, Option.bind_some, d13] at hN ⊢
                  go_simp
                  have y := G1 _ hS
                  go_simp
                  have hh := hN _ _ rfl (.inl (Below.refl _ _))
                  revert hh
                  go_simp
                refine F4.owed_cons (fun vs u hS hD hJ N => ?_) ?_
                · have d8 := hD 8 (by decide)
                  simp only [F4.fact, F4.layAt, F4.depOn, F4.dstOf, List.map_cons, List.map_nil, List.foldl_cons, List.foldl_nil, List.getD_cons_zero, List.getD_cons_succ, List.getElem?_cons_zero, List.getElem?_cons_succ, Option.bind_some] at d8
                  obtain ⟨g, e8, hg, kg⟩ := d8
                  have d14 := hD 14 (by decide)
                  simp only [F4.fact, F4.layAt, F4.depOn, F4.dstOf, List.map_cons, List.map_nil, List.foldl_cons, List.foldl_nil, List.getD_cons_zero, List.getD_cons_succ, List.getElem?_cons_zero, List.getElem?_cons_succ, Option.bind_some] at d14
                  clear hD hJ
                  intro hN
                  simp only [F4.fact, F4.layAt, F4.depOn, F4.dstOf, List.map_cons, List.map_nil, List.foldl_cons, List.foldl_nil, List.getD_cons_zero, List.getD_cons_succ, List.getElem?_cons_zero, List.getElem?_cons_succ, Option.bind_some, e8, d14] at hN ⊢
                  rw [if_pos (by rfl)]
                  refine wp_append0 TTm tmC_len tmC_one rfl rfl kg hg rfl (RD1 u hS) (by omega) (by simp only [maxLen]; omega) ?_
                  intro A' c' u' o f
                  exact hN _ _ ⟨A', c', rfl, o⟩ (.inl f)
                refine F4.owed_cons (fun vs u hS hD hJ N => ?_) ?_
                · have d7 := hD 7 (by decide)
                  simp only [F4.fact, F4.layAt, F4.depOn, F4.dstOf, List.map_cons, List.map_nil, List.foldl_cons, List.foldl_nil, List.getD_cons_zero, List.getD_cons_succ, List.getElem?_cons_zero, List.getElem?_cons_succ, Option.bind_some] at d7
                  have d15 := hD 15 (by decide)
                  simp only [F4.fact, F4.layAt, F4.depOn, F4.dstOf, List.map_cons, List.map_nil, List.foldl_cons, List.foldl_nil, List.getD_cons_zero, List.getD_cons_succ, List.getElem?_cons_zero, List.getElem?_cons_succ, Option.bind_some] at d15
                  obtain ⟨E1, z1, e15, o15⟩ := d15
                  clear hD hJ
                  intro hN
                  simp only [F4.fact, F4.layAt, F4.depOn, F4.dstOf, List.map_cons, List.map_nil, List.foldl_cons, List.foldl_nil, List.getD_cons_zero, List.getD_cons_succ, List.getElem?_cons_zero, List.getElem?_cons_succ, Option.bind_some, d7, e15] at hN ⊢
                  go_simp
                  have hh := hN _ _ ⟨E1, z1, rfl, o15⟩ (.inl (Below.refl _ _))
                  revert hh
                  go_simp
                refine F4.owed_cons (fun vs u hS hD hJ N => ?_) ?_
                · have d16 := hD 16 (by decide)
                  simp only [F4.fact, F4.layAt, F4.depOn, F4.dstOf, List.map_cons, List.map_nil, List.foldl_cons, List.foldl_nil, List.getD_cons_zero, List.getD_cons_succ, List.getElem?_cons_zero, List.getElem?_cons_succ, Option.bind_some] at d16
                  obtain ⟨E1, z1, e16, p1⟩ := d16
                  clear hD hJ
                  intro hN
                  simp only [F4.fact, F4.layAt, F4.depOn, F4.dstOf, List.map_cons, List.map_nil, List.foldl_cons, List.foldl_nil, List.getD_cons_zero, List.getD_cons_succ, List.getElem?_cons_zero, List.getElem?_cons_succ, Option.bind_some, e16] at hN ⊢
                  go_simp
                  have fa : Below u.heap.size u (u.alloc (.cells #[.string s, .slice E1 m1 z1] 50)) := (Below.refl _ u).alloc (Nat.le_refl _) _
                  have hh := hN _ _ ⟨u.heap.size, E1, z1, rfl, hS.size, Blk.newAt rfl _ _, p1.below (Nat.le_refl _) fa⟩ (.inl fa)
                  revert hh
                  go_simp
                refine F4.owed_cons (fun vs u hS hD hJ N => ?_) ?_
                · have d1 := hD 1 (by decide)
                  simp only [F4.fact, F4.layAt, F4.depOn, F4.dstOf, List.map_cons, List.map_nil, List.foldl_cons, List.foldl_nil, List.getD_cons_zero, List.getD_cons_succ, List.getElem?_cons_zero, List.getElem?_cons_succ, Option.bind_some] at d1
                  have d17 := hD 17 (by decide)
                  simp only [F4.fact, F4.layAt, F4.depOn, F4.dstOf, List.map_cons, List.map_nil, List.foldl_cons, List.foldl_nil, List.getD_cons_zero, List.getD_cons_succ, List.getElem?_cons_zero, List.getElem?_cons_succ, Option.bind_some] at d17
                  obtain ⟨g, E1, z1, e17, hg, kg, p1⟩ := d17
                  have i1 := hJ 1 (by decide)
                  simp only [F4.initAt, List.getD_cons_zero, List.getD_cons_succ] at i1
                  clear hD hJ
                  intro hN
                  simp only [F4.fact, F4.layAt, F4.depOn, F4.dstOf, List.map_cons, List.map_nil, List.foldl_cons, List.foldl_nil, List.getD_cons_zero, List.getD_cons_succ, List.getElem?_cons_zero, List.getElem?_cons_succ, Option.bind_some, d1, e17] at hN ⊢
                  rw [if_pos (by rfl)]
                  refine wp_appendOwn1 TWn WnP.mn rfl rfl i1 rfl (cs := [.string s, .slice E1 m1 z1]) (y := x) rfl (by intro v hv; simp only [List.mem_cons, List.mem_nil_iff, or_false] at hv; rcases hv with rfl | rfl <;> rfl) (fun j v hv => by rw [show (⟨g, 0, none⟩ : Addr).add j = ⟨g, j, none⟩ from by unfold Addr.add; split <;> simp_all, kg.cell]; exact hv) ?_ (by omega) (by simp only [maxLen]; omega) (by have := hS.size; omega) ?_
                  · exact WnP.mn _ _ _ _ _ _ (Nat.le_refl _) (Sub.fresh (lo := w2.heap.size) (by omega) fun b hb => (hAb b hb).2) ⟨_, by rw [← HS.out], p1.rvm tmC_len⟩
                  intro A' c' u' o f
                  rw [HMX.out] at o
                  have hrow : ∀ b, (Value.slice A k c).ownBlock = some b → b < w2.heap.size := fun b hb => (hAb b hb).2
                  refine hN _ _ ⟨A', c', rfl, o⟩ (.inr ⟨hS.grown f fun b hb _ => .inl (isB_own hb), fun j xs v h1 h2 h3 => ?_, fun j h1 => ?_⟩)
                  · match j with
                    | 17 => exact absurd (by decide) h2
                    | 18 => exact absurd rfl h1
                    | 19 | 20 => exact absurd (by decide) h3
                    | 8 => rintro ⟨g, e, hg, kg⟩; exact ⟨g, e, hg, kg.grown f fun e => by have := hrow g e.symm; omega⟩
                    | 15 => rintro ⟨A', c', e, o⟩; exact ⟨A', c', e, o.grownG f hrow⟩
                    | 16 => rintro ⟨E1, z1, e, p1⟩; exact ⟨E1, z1, e, p1.grownG f hrow⟩
                    | 0 | 1 | 2 | 3 | 4 | 5 | 6 | 7 | 9 | 10 | 11 | 12 | 13 | 14 | _ + 21 => exact _root_.id
                  · match j with
                    | 0 => exact fun hc => f.cell hc fun e => by have := hAb _ e.symm; simp only at this; omega
                    | 1 => exact absurd (by decide) h1
                    | 2 => exact fun kx => kx.grown f fun e => by have := hAb _ e.symm; omega
                    | _ + 3 => exact _root_.id
                refine F4.owed_cons (fun vs u hS hD hJ N => ?_) ?_
                · clear hD hJ
                  intro hN
                  simp only [F4.fact, F4.layAt, F4.depOn, F4.dstOf, List.map_cons, List.map_nil, List.foldl_cons, List.foldl_nil, List.getD_cons_zero, List.getD_cons_succ, List.getElem?_cons_zero, List.getElem?_cons_succ, Option.bind_some] at hN ⊢
                  go_simp
                  have hh := hN _ _ rfl (.inl (Below.refl _ _))
                  revert hh
                  go_simp
                refine F4.owed_cons (fun vs u hS hD hJ N => ?_) ?_
                · have d18 := hD 18 (by decide)
                  simp only [F4.fact, F4.layAt, F4.depOn, F4.dstOf, List.map_cons, List.map_nil, List.foldl_cons, List.foldl_nil, List.getD_cons_zero, List.getD_cons_succ, List.getElem?_cons_zero, List.getElem?_cons_succ, Option.bind_some] at d18
                  obtain ⟨A', c', e18, o⟩ := d18
                  have d19 := hD 19 (by decide)
                  simp only [F4.fact, F4.layAt, F4.depOn, F4.dstOf, List.map_cons, List.map_nil, List.foldl_cons, List.foldl_nil, List.getD_cons_zero, List.getD_cons_succ, List.getElem?_cons_zero, List.getElem?_cons_succ, Option.bind_some] at d19
                  have i2 := hJ 2 (by decide)
                  simp only [F4.initAt, List.getD_cons_zero, List.getD_cons_succ] at i2
                  clear hD hJ
                  have fz := i2.frozen 2
                  have cz := i2.cell 2
                  intro hN
                  simp only [F4.fact, F4.layAt, F4.depOn, F4.dstOf, List.map_cons, List.map_nil, List.foldl_cons, List.foldl_nil, List.getD_cons_zero, List.getD_cons_succ, List.getElem?_cons_zero, List.getElem?_cons_succ, Option.bind_some, e18, d19] at hN ⊢
                  go_simp
                  have ow : Off (fun b => b = w.heap.size + 1 + 1) u (u.setCell ⟨w.heap.size + 1 + 1, 2, none⟩ (.slice A' (k + 1) c')) := (Off.refl (fun b => b = w.heap.size + 1 + 1) u).setCell (p := ⟨w.heap.size + 1 + 1, 2, none⟩) (fun _ => rfl) _
                  have hh := hN undef _ ⟨A', c', i2.set 2 _, o.off WnP.mn ow fun b hb => .inl (by omega)⟩ (.inr ⟨hS.trans ow fun b _ hb => .inr hb, fun j xs v h1 h2 h3 => ?_, fun j h1 => ?_⟩)
                  · revert hh
                    go_simp
                  · match j with
                    | 8 | 15 | 16 | 17 | 18 => exact absurd (by decide) h2
                    | 20 => exact absurd rfl h1
                    | 0 | 1 | 2 | 3 | 4 | 5 | 6 | 7 | 9 | 10 | 11 | 12 | 13 | 14 | 19 | _ + 21 => exact _root_.id
                  · match j with
                    | 0 | 2 => exact absurd (by decide) h1
                    | 1 => exact fun o => o.off WnP.mn ow fun b hb => .inl (by omega)
                    | _ + 3 => exact _root_.id
                exact F4.owed_nil
              · intro vs u hS hF hJ
                have d20 := hF 20 (by decide) (by decide)
                simp only [F4.fact, F4.layAt, F4.depOn, F4.dstOf, List.map_cons, List.map_nil, List.foldl_cons, List.foldl_nil, List.getD_cons_zero, List.getD_cons_succ, List.getElem?_cons_zero, List.getElem?_cons_succ, Option.bind_some] at d20
                obtain ⟨A', c', kx, o⟩ := d20
                clear hF hJ
                simp only [List.length_cons, List.length_nil, Nat.reduceAdd, List.range, List.range.loop, F4.fact, F4.layAt, F4.depOn, F4.dstOf, List.map_cons, List.map_nil, List.foldl_cons, List.foldl_nil, List.getD_cons_zero, List.getD_cons_succ, List.getElem?_cons_zero, List.getElem?_cons_succ, Option.bind_some]
                go_simp
                have hZ := HFR.out u hS
                go_wp2_with fail
                go_roundw
                case rel => exact ⟨k + 1, A', c', by go_num, by omega, ⟨HK0.out.off hZ (fun h => h.elim (fun h => by have := HNE.out _ h; omega) (fun h => by omega)), HK1.out.off hZ (fun h => h.elim (fun h => by have := HNE.out _ h; omega) (fun h => by omega)), kx, f2.trans (hZ.below f2.size fun b hb => hb.elim (fun h => by have := HNE.out _ h; omega) (fun h => by omega))⟩, o, fm.trans hZ fun b _ hb => hb.elim (fun h => .inr (HNE.out b h).1) (fun h => .inl h)⟩
                case measure => simp [intOf]; omega
            · have d1 : decide ((k : Int) < (n3 : Int)) = false := by simp; omega
              obtain rfl : n3 = k := by omega
              obtain ⟨k0, k1, k2, f2⟩ := b2
              have e2 : wr.cell? ⟨w.heap.size, 2, none⟩ = some (.slice A3 n3 c3) := k0.cell 2
              rw [List.take_of_length_le (by rw [L3.out]; exact Nat.le_refl _)] at o2
              have c0 := k2.cell 0
              have c1 := k2.cell 1
              have c2 := k2.cell 2
              generalize hv3 : Value.slice A n3 c = v3 at *
              have V1 : v1.oneCell' = true := by obtain ⟨_, _, e, _⟩ := O1.out.form; rw [e]; rfl
              have V2 : v2.oneCell' = true := by obtain ⟨_, _, e, _⟩ := O2.out.form; rw [e]; rfl
              have V3 : v3.oneCell' = true := by rw [← hv3]; rfl
              have hwr := fm.size
              clear hv3
              go_wp2_with (first | (refine store_blk k1 rfl 26 (.tmp 2) (.tmp 100) rfl rfl (us := [v1, v2, v3]) rfl I26.out rfl (by simp [V1, V2, V3]) ?_; intro w3 kt hg))
              have hs3 := hg.size
              have og : Off (fun b => b = w.heap.size + 1) wr w3 := (Off.refl _ _).grown hg fun b hb _ => by injection hb with hb; exact hb.symm
              have o13 : Off (fun b => b = w.heap.size + 1 + 1 ∨ b = w.heap.size + 1 ∨ wm1.heap.size ≤ b) wm1 w3 := (((FM.out.mono fun b _ h => h.elim .inl fun h => .inr (.inr h)).trans fm fun b _ h => h.elim .inl fun h => .inr (.inr (by omega))).trans og fun b _ h => .inr (.inl h))
              have o23 : Off (fun b => b = w.heap.size + 1 + 1 ∨ b = w.heap.size + 1 ∨ wm.heap.size ≤ b) wm w3 := ((fm.mono fun b _ h => h.elim .inl fun h => .inr (.inr h)).trans og fun b _ h => .inr (.inl h))
              have hsub : Sub wm1.heap.size (mineW (w.heap.size + 1 + 1 + 1) none wm1) (mineW w.heap.size none w3) := Sub.off o13 (Nat.le_refl _) (by omega) (fun b h1 _ h2 (h3 : b = w.heap.size + 1 + 1 ∨ b = w.heap.size + 1 ∨ wm1.heap.size ≤ b) => by omega) (fun _ h => by cases h)
              refine bodyPost_ret (kt.sized rfl _ rfl Tryz.underlying26 I26.out) rfl ⟨f2.trans (og.below f2.size fun b (hb : b = w.heap.size + 1) => by omega), v1, v2, v3, wm1.heap.size, rfl, by omega, by omega, (O1.out.rvm SrP.mn).mn SrP.mn (Nat.le_refl _) hsub, O2.out.off TgP.mn o23 (fun b (h : b = w.heap.size + 1 + 1 ∨ b = w.heap.size + 1 ∨ wm.heap.size ≤ b) => by omega), (o2.base_le WnP.mn (by omega)).off WnP.mn og fun b (h : b = w.heap.size + 1) => .inl (by omega)⟩
end Go.Proofs.YtdbjihpdfiipcaaGreat
