/- The law PolicySeventh, walked: true. Condition: none beyond what is opened. Printed by gen_pseventh.py. -/
import Derived.Test.YtdbjihpdfiipcaaGreatPolCopy
import Derived.Test.YtdbjihpdfiipcaaGreatPolSameR
import Derived.Test.YtdbjihpdfiipcaaGreatPolAwake
import Derived.Test.YtdbjihpdfiipcaaGreatOpenG
import Derived.Test.YtdbjihpdfiipcaaGreatFacts
import Derived.Test.YtdbjihpdfiipcaaGreatFacts4
namespace Go.Proofs.YtdbjihpdfiipcaaGreat
open Go.RowKit Go.Sort
set_option linter.unusedVariables false
set_option linter.unusedSimpArgs false
/-- The row of targets, of which k are bare. -/
def BareK (k : Nat) (cur0 cur : List Value) : Prop := cur.length = cur0.length ∧ ∀ o, cur[o]? = if o < k * 4 ∧ o % 4 ≠ 0 ∧ o < cur0.length then some (.slice none 0 0) else cur0[o]?
theorem BareK.zero (cur : List Value) : BareK 0 cur cur := ⟨rfl, fun o => by rw [if_neg (by omega)]⟩
/-- .. and of the next one no more than its last three cells are other ones. -/
def BareM (k : Nat) (cur0 cur : List Value) : Prop := cur.length = cur0.length ∧ ∀ o, o ≠ k * 4 + 1 → o ≠ k * 4 + 2 → o ≠ k * 4 + 3 → cur[o]? = if o < k * 4 ∧ o % 4 ≠ 0 ∧ o < cur0.length then some (.slice none 0 0) else cur0[o]?
theorem BareK.m {k : Nat} {cur0 cur : List Value} (h : BareK k cur0 cur) : BareM k cur0 cur := ⟨h.1, fun o _ _ _ => h.2 o⟩
theorem BareM.set {k : Nat} {cur0 cur : List Value} (h : BareM k cur0 cur) {o : Nat} (ho : o = k * 4 + 1 ∨ o = k * 4 + 2 ∨ o = k * 4 + 3) (v : Value) : BareM k cur0 (cur.set o v) :=
  ⟨by rw [List.length_set]; exact h.1, fun q h1 h2 h3 => by rw [List.getElem?_set_ne (by omega)]; exact h.2 q h1 h2 h3⟩
theorem BareM.next {k : Nat} {cur0 cur : List Value} (h : BareM k cur0 cur) (hk : k * 4 + 4 ≤ cur0.length) (h1 : cur[k * 4 + 1]? = some (.slice none 0 0)) (h2 : cur[k * 4 + 2]? = some (.slice none 0 0)) (h3 : cur[k * 4 + 3]? = some (.slice none 0 0)) : BareK (k + 1) cur0 cur := by
  refine ⟨h.1, fun o => ?_⟩
  by_cases e1 : o = k * 4 + 1
  · subst e1; rw [h1, if_pos (by omega)]
  by_cases e2 : o = k * 4 + 2
  · subst e2; rw [h2, if_pos (by omega)]
  by_cases e3 : o = k * 4 + 3
  · subst e3; rw [h3, if_pos (by omega)]
  rw [h.2 o e1 e2 e3]
  by_cases hh : o < k * 4 ∧ o % 4 ≠ 0 ∧ o < cur0.length
  · rw [if_pos hh, if_pos (by omega)]
  · rw [if_neg hh, if_neg (by omega)]
/-- What is known in round k, between its stores. -/
def MidK (g k : Nat) (cur0 : List Value) (u : World) : Prop := ∃ cur, Blk u g 33 cur ∧ BareM k cur0 cur
theorem MidK.below {g k : Nat} {cur0 : List Value} {u v : World} (h : MidK g k cur0 u) (hb : Below u.heap.size u v) : MidK g k cur0 v := by
  obtain ⟨cur, h1, h2⟩ := h
  exact ⟨cur, h1.below hb h1.lt, h2⟩
theorem MidK.set {g k : Nat} {cur0 : List Value} {u : World} (h : MidK g k cur0 u) {o : Nat} (ho : o = k * 4 + 1 ∨ o = k * 4 + 2 ∨ o = k * 4 + 3) (v : Value) : MidK g k cur0 (u.setCell ⟨g, o, none⟩ v) := by
  obtain ⟨cur, h1, h2⟩ := h
  exact ⟨_, h1.set o v, h2.set ho v⟩
theorem MidK.at_ {g k : Nat} {cur0 : List Value} {u : World} (h : MidK g k cur0 u) {o : Nat} (ho : o < cur0.length) : (∃ v, u.cell? ⟨g, o, none⟩ = some v) ∧ u.frozen? ⟨g, o, none⟩ = false := by
  obtain ⟨cur, h1, h2⟩ := h
  refine ⟨?_, h1.frozen o⟩
  rw [h1.cell]
  exact ⟨_, List.getElem?_eq_getElem (by rw [h2.1]; exact ho)⟩
theorem MidK.put {g k : Nat} {cur0 : List Value} {u : World} (h : MidK g k cur0 u) {o : Nat} (ho : o < cur0.length) (v : Value) : (u.setCell ⟨g, o, none⟩ v).cell? ⟨g, o, none⟩ = some v := by
  obtain ⟨cur, h1, h2⟩ := h
  rw [(h1.set o v).cell, List.getElem?_set_self (by rw [h2.1]; exact ho)]
theorem cell_set_ne (u : World) (g o q : Nat) (v : Value) (h : o ≠ q) {c : List Value} {t : Nat} (hb : Blk u g t c) : (u.setCell ⟨g, o, none⟩ v).cell? ⟨g, q, none⟩ = u.cell? ⟨g, q, none⟩ := by
  rw [(hb.set o v).cell, hb.cell, List.getElem?_set_ne h]
theorem Sub.offOut {lo g : Nat} {w w' : World} (hb : Off (fun b => b = g) w w') : Sub w.heap.size (mineW lo (some g) w) w' := fun p hp v h => by
  obtain ⟨h1, h2, h3, _⟩ := mineW_in h
  exact (World.cell?_of_block (hb.block p.block hp fun e => h3 (by rw [e]))).trans h1
theorem bare_rd {w3 wz : World} {g n c lo : Nat} {cur0 cur : List Value} {css : List (List Value)} {tos : List Tg} (hn : tos.length = n) (hnc : n ≤ c) (hcm : c ≤ maxLen) (hb : Off (fun b => b = g) w3 wz) (kg : Blk wz g 33 cur) (hk : BareK n cur0 cur) (hl : n * 4 ≤ cur0.length) (hcl : css.length = tos.length) (hc4 : ∀ cs ∈ css, cs.length = 4) (hcc : ∀ j (hj : j < css.length) i, i < 4 → cur0[j * 4 + i]? = css[j][i]?) (hP : ∀ j (hj : j < tos.length) (hj2 : j < css.length), TgP (mineW lo (some g) w3) w3.heap.size css[j] tos[j]) :
    RvTg wz wz.heap.size (.slice (some ⟨g, 0, none⟩) n c) (tos.map bareT) := by
  refine ⟨_, n, c, rfl, hnc, hcm, by rw [List.length_map, hn], fun hn0 => ⟨g, 0, rfl, kg.lt, fun j hj => ?_⟩⟩
  rw [List.length_map] at hj
  have hj2 : j < css.length := by omega
  obtain ⟨v1, v2, v3, v4, e, r1, _, _, _⟩ := hP j hj hj2
  refine ⟨[v1, .slice none 0 0, .slice none 0 0, .slice none 0 0], rfl, ?_, fun i v hv => ?_⟩
  · rw [List.getElem_map]
    exact ⟨_, _, _, _, rfl, r1.sub hb.size (Sub.offOut hb), nilR, nilR, nilR⟩
  · have hi : i < 4 := (List.getElem?_eq_some_iff.1 hv).1
    rw [Nat.zero_add, kg.cell, hk.2]
    by_cases h0 : i = 0
    · subst h0
      rw [if_neg (by omega), hcc j hj2 0 hi, e]
      exact hv
    · rw [if_pos (by omega), ← hv]
      rcases (show i = 1 ∨ i = 2 ∨ i = 3 by omega) with rfl | rfl | rfl <;> rfl
set_option maxRecDepth 100000 in
set_option maxHeartbeats 4000000 in
theorem policySeventh_walk (w : World) (cs : List Value) (r : Ru) (h : RuP w w.heap.size cs r) (hok : oqRu r) :
    Calls Tryz.prog 3 #[.agg cs.toArray] w fun e w' => e = .returned (.bool true) ∧ Below w.heap.size w w' := by
  have hlong := fun (u : World) (hu : Below w.heap.size w u) => longRule_any r cs u (RuP.mono h hu.size hu) hok.mx
  obtain ⟨A1, n1, c1, A2, n2, c2, A3, n3, c3, rfl, _, h2, _⟩ := vals_ru h
  have l2 := h2.1
  clear h2
  have L2 := Lib.hid l2; clear l2
  have H := Lib.hid h; clear h
  obtain ⟨wb, hwb⟩ : ∃ wb, w.alloc (.cells #[.slice A1 n1 c1, .slice A2 n2 c2, .slice A3 n3 c3] 26) = wb := ⟨_, rfl⟩
  have fa : Below w.heap.size w wb := by rw [← hwb]; exact (Below.refl _ _).alloc (Nat.le_refl _) _
  have kb : Blk wb w.heap.size 26 [.slice A1 n1 c1, .slice A2 n2 c2, .slice A3 n3 c3] := by rw [← hwb]; exact Blk.newAt rfl _ #[.slice A1 n1 c1, .slice A2 n2 c2, .slice A3 n3 c3]
  have hl1 := hlong wb fa
  obtain ⟨lg, hlg⟩ : ∃ b, ruLong r = b := ⟨_, rfl⟩
  rw [hlg] at hl1
  have e0 := kb.cell 0
  have e1 := kb.cell 1
  have e2 := kb.cell 2
  have HLG := Lib.hid hlg; clear hlg hlong
  have i26 : (Tryz.prog.info? 26).map (·.size) = some 3 := by kernel_rfl
  have I26 := Lib.hid i26; clear i26
  show Calls Tryz.prog 3 #[.agg #[.slice A1 n1 c1, .slice A2 n2 c2, .slice A3 n3 c3]] w _
  cases lg
  rotate_left
  · go_enter Tryz.func3, Tryz.ntmps3
    go_wp2_with fail
    refine hl1.mono ?_
    rintro e w1 ⟨rfl, f1⟩
    go_wp2_with fail
    refine (awake12_any w1).mono ?_
    rintro e w2 ⟨rfl, f2⟩
    go_wp2_with fail
    go_ret
    exact ⟨rfl, (fa.trans (f1.mono fa.size)).trans (f2.mono (fa.trans (f1.mono fa.size)).size)⟩
  have hro := hok.ok HLG.out
  have HRO := Lib.hid hro; clear hro hok
  go_enter Tryz.func3, Tryz.ntmps3
  go_wp2_with fail
  refine hl1.mono ?_
  rintro e w1 ⟨rfl, f1⟩
  have F1 := fa.trans (f1.mono fa.size)
  have k1 := kb.below f1 kb.lt
  clear hl1 e0 e1 e2 kb
  have e0 := k1.cell 0
  have e1 := k1.cell 1
  have e2 := k1.cell 2
  have hcopy := copyRule_any r [.slice A1 n1 c1, .slice A2 n2 c2, .slice A3 n3 c3] w1 (RuP.mono H.out F1.size F1) HRO.out
  go_wp2_with fail
  refine hcopy.mono ?_
  rintro e w2 ⟨f2, v1, v2, v3, h1, rfl, hh1, hh2, g1, g2, g3⟩
  have F2 := F1.trans (f2.mono F1.size)
  have k2 := k1.below f2 k1.lt
  obtain ⟨A1', n1', c1', rfl, g1a, g1b, g1c⟩ := g1
  obtain ⟨A2', c2', rfl, g2a, g2b⟩ := g2.form
  obtain ⟨A3', c3', rfl, g3a, g3b⟩ := g3.form
  rw [L2.out] at g2 g2a ⊢
  have hg1 : RvG 3 SrP (mineW w1.heap.size none w2) h1 (.slice A1' n1' c1') r.froms := ⟨A1', n1', c1', rfl, g1a, g1b, g1c⟩
  have G1 := Lib.hid hg1
  have G2 := Lib.hid g2
  clear hcopy e0 e1 e2 g1c hg1 g2 g3
  go_upto_region 5 with fail
  refine abs (fun u => Blk u w2.heap.size 26 [.slice A1' n1' c1', .slice A2' n2 c2', .slice none 0 0] ∧ Below w2.heap.size w2 u) ⟨Blk.newAt rfl _ #[.slice A1' n1' c1', .slice A2' n2 c2', .slice none 0 0], (Below.refl _ _).alloc (Nat.le_refl _) _⟩ ?_
  rintro w3 ⟨kx, f3⟩
  have hs3 := kx.lt
  have k3 := k2.below f3 k2.lt
  have hk2 := k2.lt
  have G3 := G2.out.below TgP.mn f3
  have hG : ∃ (g : Nat) (cur0 : List Value) (css : List (List Value)), 0 < n2 → A2' = some ⟨g, 0, none⟩ ∧ h1 ≤ g ∧ g < w2.heap.size ∧ Blk w3 g 33 cur0 ∧ n2 * 4 ≤ cur0.length ∧ css.length = r.tos.length ∧ (∀ cs ∈ css, cs.length = 4) ∧ (∀ j (hj : j < css.length) i, i < 4 → cur0[j * 4 + i]? = css[j][i]?) ∧ ∀ j (hj : j < r.tos.length) (hj2 : j < css.length), TgP (mineW h1 (some g) w3) w3.heap.size css[j] r.tos[j] := by
    by_cases hn : 0 < n2
    · obtain ⟨g, cur0, css, q1, q2, q3, q4, q5, q6, q7, q8⟩ := G3.blk hn
      obtain ⟨_, q9⟩ := G2.out.lt g (by rw [q1]; rfl)
      exact ⟨g, cur0, css, fun _ => ⟨q1, q2, q9, q3, q4, q5, q6, q7, q8⟩⟩
    · exact ⟨0, [], [], fun h => absurd h hn⟩
  obtain ⟨g, cur0, css, hG⟩ := hG
  have HG := Lib.hid hG; clear hG G3
  have hbw : w1.heap.size ≤ w2.heap.size := f2.size
  generalize hbx : w2.heap.size = bx at *
  have hbx2 : w.heap.size < bx := by omega
  have hn2b : n2 ≤ 1000000 := by rw [← L2.out]; exact HRO.out.2.1.1
  go_wp2_with fail
  go_loopw [4] (fun v4 wr => ∃ k : Nat, v4 = .int .i64 k ∧ k ≤ n2 ∧ Off (fun b => b = g ∧ 0 < n2) w3 wr ∧ (0 < n2 → ∃ cur, Blk wr g 33 cur ∧ BareK k cur0 cur)) (fun v4 _ => n2 - (intOf v4).toNat)
  case atStart => exact ⟨0, rfl, Nat.zero_le _, Off.refl _ _, fun h => ⟨cur0, (HG.out h).2.2.2.1, BareK.zero _⟩⟩
  case round =>
    obtain ⟨k, rfl, hk, o3, hcur⟩ := hrel
    have HCUR := Lib.hid hcur; clear hcur
    by_cases hlt : k < n2
    · have d1 : decide ((k : Int) < (n2 : Int)) = true := by simp; omega
      have z1 : (0 : Int) ≤ (k : Int) := by omega
      have z2 : (k : Int) < (n2 : Int) := by omega
      have hn0 : 0 < n2 := by omega
      obtain ⟨cur, kg, hbk⟩ := HCUR.out hn0
      obtain ⟨rfl, hg1, hg2, _, hgl, _⟩ := HG.out hn0
      have hgx : g ≠ bx := by omega
      have kx4 := kx.off o3 (fun h => hgx h.1.symm)
      have e1 := kx4.cell 1
      have hc1 : k * 4 + 1 < cur0.length := by omega
      have hc2 : k * 4 + 2 < cur0.length := by omega
      have hc3 : k * 4 + 3 < cur0.length := by omega
      have hgw : g < wr.heap.size := kg.lt
      have hmid : MidK g k cur0 wr := ⟨cur, kg, hbk.m⟩
      have HX : ∀ u, Off (fun b => b = g) wr u → u.cell? ⟨bx, 1, none⟩ = some (.slice (some ⟨g, 0, none⟩) n2 c2') := fun u hu => (kx4.off hu (fun h => hgx h.symm)).cell 1
      clear kg hbk kx4
      go_upto_region 8 with fail
      clear e1
      refine F4.wp_region_facts (fun u => Off (fun b => b = g) wr u ∧ MidK g k cur0 u) [
          fun _ v _ => v = .pointer (some ⟨bx, 1, none⟩),
          fun _ v _ => v = .slice (some ⟨g, 0, none⟩) n2 c2',
          fun _ v _ => v = .int .i64 (k : Int),
          fun _ v _ => v = .pointer (some ⟨bx, 1, none⟩),
          fun _ v _ => v = .slice (some ⟨g, 0, none⟩) n2 c2',
          fun _ v _ => v = .int .i64 (k : Int),
          fun _ v _ => v = .pointer (some ⟨bx, 1, none⟩),
          fun _ v _ => v = .slice (some ⟨g, 0, none⟩) n2 c2',
          fun _ v _ => v = .int .i64 (k : Int),
          fun _ v _ => v = .pointer (some ⟨g, k * 4, none⟩),
          fun _ v _ => v = .pointer (some ⟨g, k * 4 + 1, none⟩),
          fun _ _ u => u.cell? ⟨g, k * 4 + 1, none⟩ = some (.slice none 0 0),
          fun _ v _ => v = .pointer (some ⟨g, k * 4, none⟩),
          fun _ v _ => v = .pointer (some ⟨g, k * 4 + 2, none⟩),
          fun _ _ u => u.cell? ⟨g, k * 4 + 2, none⟩ = some (.slice none 0 0),
          fun _ v _ => v = .pointer (some ⟨g, k * 4, none⟩),
          fun _ v _ => v = .pointer (some ⟨g, k * 4 + 3, none⟩),
          fun _ _ u => u.cell? ⟨g, k * 4 + 3, none⟩ = some (.slice none 0 0)] (fun u u' => Below u.heap.size u u')
          [[], [0], [], [], [3], [], [], [6], [], [1, 2], [9], [10], [4, 5], [12], [13], [7, 8], [15], [16]] [[], [], [], [], [], [], [], [], [], [], [], [], [], [], [], [], [], []] [[], [], [], [], [], [], [], [], [], [], [], [], [], [], [], [], [], []] [
      ] [[], [], [], [], [], [], [], [], [], [], [], [], [], [], [], [], [], []] [[], [], [], [], [], [], [], [], [], [], [], [], [], [], [], [], [], []]
          (by kernel_rfl) (by kernel_rfl) ?_ (fun _ _ _ _ _ h => h) ⟨(Off.refl _ _).drew, hmid⟩ trivial ?_ ?_
      · refine F4.hE_of (fun u u' h f => ⟨f.1.trans (Off.of_all h) (fun _ _ h => h.elim), f.2.below h⟩) ?_ ?_
        · repeat' (first | exact F4.mono_nil | refine F4.mono_cons (fun xs v u u' h => ?_) ?_)
          all_goals first | exact _root_.id | (exact fun hc => (h.cell (World.block_lt_of_cell? u _ hc)).trans hc)
        · repeat' (first | exact F4.monoI_nil | refine F4.monoI_cons (fun u u' h => ?_) ?_)
          all_goals first | exact _root_.id
      ·
        refine F4.owed_cons (fun vs u hS hD hJ N => ?_) ?_
        · clear hD hJ
          intro hN
          simp only [F4.fact, F4.layAt, F4.depOn, F4.dstOf, List.map_cons, List.map_nil, List.foldl_cons, List.foldl_nil, List.getD_cons_zero, List.getD_cons_succ, List.getElem?_cons_zero, List.getElem?_cons_succ, Option.bind_some] at hN ⊢
          go_simp
          have hh := hN _ _ rfl (.inl (Below.refl _ _))
          revert hh
          go_simp
        refine F4.owed_cons (fun vs u hS hD hJ N => ?_) ?_
        · have d0 := hD 0 (by decide)
          simp only [F4.fact, F4.layAt, F4.depOn, F4.dstOf, List.map_cons, List.map_nil, List.foldl_cons, List.foldl_nil, List.getD_cons_zero, List.getD_cons_succ, List.getElem?_cons_zero, List.getElem?_cons_succ, Option.bind_some] at d0
          clear hD hJ
          intro hN
          simp only [F4.fact, F4.layAt, F4.depOn, F4.dstOf, List.map_cons, List.map_nil, List.foldl_cons, List.foldl_nil, List.getD_cons_zero, List.getD_cons_succ, List.getElem?_cons_zero, List.getElem?_cons_succ, Option.bind_some, d0] at hN ⊢
          go_simp
          have y := HX _ hS.1
          go_simp
          have hh := hN _ _ rfl (.inl (Below.refl _ _))
          revert hh
          go_simp
        refine F4.owed_cons (fun vs u hS hD hJ N => ?_) ?_
        · clear hD hJ
          intro hN
          simp only [F4.fact, F4.layAt, F4.depOn, F4.dstOf, List.map_cons, List.map_nil, List.foldl_cons, List.foldl_nil, List.getD_cons_zero, List.getD_cons_succ, List.getElem?_cons_zero, List.getElem?_cons_succ, Option.bind_some] at hN ⊢
          go_simp
          have hh := hN _ _ rfl (.inl (Below.refl _ _))
          revert hh
          go_simp
        refine F4.owed_cons (fun vs u hS hD hJ N => ?_) ?_
        · clear hD hJ
          intro hN
          simp only [F4.fact, F4.layAt, F4.depOn, F4.dstOf, List.map_cons, List.map_nil, List.foldl_cons, List.foldl_nil, List.getD_cons_zero, List.getD_cons_succ, List.getElem?_cons_zero, List.getElem?_cons_succ, Option.bind_some] at hN ⊢
          go_simp
          have hh := hN _ _ rfl (.inl (Below.refl _ _))
          revert hh
          go_simp
        refine F4.owed_cons (fun vs u hS hD hJ N => ?_) ?_
        · have d3 := hD 3 (by decide)
          simp only [F4.fact, F4.layAt, F4.depOn, F4.dstOf, List.map_cons, List.map_nil, List.foldl_cons, List.foldl_nil, List.getD_cons_zero, List.getD_cons_succ, List.getElem?_cons_zero, List.getElem?_cons_succ, Option.bind_some] at d3
          clear hD hJ
          intro hN
          simp only [F4.fact, F4.layAt, F4.depOn, F4.dstOf, List.map_cons, List.map_nil, List.foldl_cons, List.foldl_nil, List.getD_cons_zero, List.getD_cons_succ, List.getElem?_cons_zero, List.getElem?_cons_succ, Option.bind_some, d3] at hN ⊢
          go_simp
          have y := HX _ hS.1
          go_simp
          have hh := hN _ _ rfl (.inl (Below.refl _ _))
          revert hh
          go_simp
        refine F4.owed_cons (fun vs u hS hD hJ N => ?_) ?_
        · clear hD hJ
          intro hN
          simp only [F4.fact, F4.layAt, F4.depOn, F4.dstOf, List.map_cons, List.map_nil, List.foldl_cons, List.foldl_nil, List.getD_cons_zero, List.getD_cons_succ, List.getElem?_cons_zero, List.getElem?_cons_succ, Option.bind_some] at hN ⊢
          go_simp
          have hh := hN _ _ rfl (.inl (Below.refl _ _))
          revert hh
          go_simp
        refine F4.owed_cons (fun vs u hS hD hJ N => ?_) ?_
        · clear hD hJ
          intro hN
          simp only [F4.fact, F4.layAt, F4.depOn, F4.dstOf, List.map_cons, List.map_nil, List.foldl_cons, List.foldl_nil, List.getD_cons_zero, List.getD_cons_succ, List.getElem?_cons_zero, List.getElem?_cons_succ, Option.bind_some] at hN ⊢
          go_simp
          have hh := hN _ _ rfl (.inl (Below.refl _ _))
          revert hh
          go_simp
        refine F4.owed_cons (fun vs u hS hD hJ N => ?_) ?_
        · have d6 := hD 6 (by decide)
          simp only [F4.fact, F4.layAt, F4.depOn, F4.dstOf, List.map_cons, List.map_nil, List.foldl_cons, List.foldl_nil, List.getD_cons_zero, List.getD_cons_succ, List.getElem?_cons_zero, List.getElem?_cons_succ, Option.bind_some] at d6
          clear hD hJ
          intro hN
          simp only [F4.fact, F4.layAt, F4.depOn, F4.dstOf, List.map_cons, List.map_nil, List.foldl_cons, List.foldl_nil, List.getD_cons_zero, List.getD_cons_succ, List.getElem?_cons_zero, List.getElem?_cons_succ, Option.bind_some, d6] at hN ⊢
          go_simp
          have y := HX _ hS.1
          go_simp
          have hh := hN _ _ rfl (.inl (Below.refl _ _))
          revert hh
          go_simp
        refine F4.owed_cons (fun vs u hS hD hJ N => ?_) ?_
        · clear hD hJ
          intro hN
          simp only [F4.fact, F4.layAt, F4.depOn, F4.dstOf, List.map_cons, List.map_nil, List.foldl_cons, List.foldl_nil, List.getD_cons_zero, List.getD_cons_succ, List.getElem?_cons_zero, List.getElem?_cons_succ, Option.bind_some] at hN ⊢
          go_simp
          have hh := hN _ _ rfl (.inl (Below.refl _ _))
          revert hh
          go_simp
        refine F4.owed_cons (fun vs u hS hD hJ N => ?_) ?_
        · have d1 := hD 1 (by decide)
          simp only [F4.fact, F4.layAt, F4.depOn, F4.dstOf, List.map_cons, List.map_nil, List.foldl_cons, List.foldl_nil, List.getD_cons_zero, List.getD_cons_succ, List.getElem?_cons_zero, List.getElem?_cons_succ, Option.bind_some] at d1
          have d2 := hD 2 (by decide)
          simp only [F4.fact, F4.layAt, F4.depOn, F4.dstOf, List.map_cons, List.map_nil, List.foldl_cons, List.foldl_nil, List.getD_cons_zero, List.getD_cons_succ, List.getElem?_cons_zero, List.getElem?_cons_succ, Option.bind_some] at d2
          clear hD hJ
          intro hN
          simp only [F4.fact, F4.layAt, F4.depOn, F4.dstOf, List.map_cons, List.map_nil, List.foldl_cons, List.foldl_nil, List.getD_cons_zero, List.getD_cons_succ, List.getElem?_cons_zero, List.getElem?_cons_succ, Option.bind_some, d1, d2] at hN ⊢
          go_simp
          have hh := hN _ _ rfl (.inl (Below.refl _ _))
          revert hh
          go_simp
        refine F4.owed_cons (fun vs u hS hD hJ N => ?_) ?_
        · have d9 := hD 9 (by decide)
          simp only [F4.fact, F4.layAt, F4.depOn, F4.dstOf, List.map_cons, List.map_nil, List.foldl_cons, List.foldl_nil, List.getD_cons_zero, List.getD_cons_succ, List.getElem?_cons_zero, List.getElem?_cons_succ, Option.bind_some] at d9
          clear hD hJ
          intro hN
          simp only [F4.fact, F4.layAt, F4.depOn, F4.dstOf, List.map_cons, List.map_nil, List.foldl_cons, List.foldl_nil, List.getD_cons_zero, List.getD_cons_succ, List.getElem?_cons_zero, List.getElem?_cons_succ, Option.bind_some, d9] at hN ⊢
          go_simp
          have hh := hN _ _ rfl (.inl (Below.refl _ _))
          revert hh
          go_simp
        refine F4.owed_cons (fun vs u hS hD hJ N => ?_) ?_
        · have d10 := hD 10 (by decide)
          simp only [F4.fact, F4.layAt, F4.depOn, F4.dstOf, List.map_cons, List.map_nil, List.foldl_cons, List.foldl_nil, List.getD_cons_zero, List.getD_cons_succ, List.getElem?_cons_zero, List.getElem?_cons_succ, Option.bind_some] at d10
          clear hD hJ
          obtain ⟨⟨vv, cv⟩, fv⟩ := hS.2.at_ hc1
          intro hN
          simp only [F4.fact, F4.layAt, F4.depOn, F4.dstOf, List.map_cons, List.map_nil, List.foldl_cons, List.foldl_nil, List.getD_cons_zero, List.getD_cons_succ, List.getElem?_cons_zero, List.getElem?_cons_succ, Option.bind_some, d10] at hN ⊢
          go_simp
          have ow : Off (fun b => b = g) u (u.setCell ⟨g, k * 4 + 1, none⟩ (.slice none 0 0)) := (Off.refl (fun b => b = g) u).setCell (p := ⟨g, k * 4 + 1, none⟩) (fun _ => rfl) _
          have hh := hN undef _ (hS.2.put hc1 _) (.inr ⟨⟨hS.1.trans ow fun b _ hb => hb, hS.2.set (by omega) _⟩, fun j xs v h1 h2 h3 => ?_, fun j h1 => _root_.id⟩)
          · revert hh
            go_simp
          · obtain ⟨curx, kgx, _⟩ := hS.2
            match j with
            | 11 => exact absurd rfl h1
            | 14 => exact fun hc => (cell_set_ne u g (k * 4 + 1) (k * 4 + 2) _ (by omega) kgx).trans hc
            | 17 => exact fun hc => (cell_set_ne u g (k * 4 + 1) (k * 4 + 3) _ (by omega) kgx).trans hc
            | 0 | 1 | 2 | 3 | 4 | 5 | 6 | 7 | 8 | 9 | 10 | 12 | 13 | 15 | 16 | _ + 18 => exact _root_.id
        refine F4.owed_cons (fun vs u hS hD hJ N => ?_) ?_
        · have d4 := hD 4 (by decide)
          simp only [F4.fact, F4.layAt, F4.depOn, F4.dstOf, List.map_cons, List.map_nil, List.foldl_cons, List.foldl_nil, List.getD_cons_zero, List.getD_cons_succ, List.getElem?_cons_zero, List.getElem?_cons_succ, Option.bind_some] at d4
          have d5 := hD 5 (by decide)
          simp only [F4.fact, F4.layAt, F4.depOn, F4.dstOf, List.map_cons, List.map_nil, List.foldl_cons, List.foldl_nil, List.getD_cons_zero, List.getD_cons_succ, List.getElem?_cons_zero, List.getElem?_cons_succ, Option.bind_some] at d5
          clear hD hJ
          intro hN
          simp only [F4.fact, F4.layAt, F4.depOn, F4.dstOf, List.map_cons, List.map_nil, List.foldl_cons, List.foldl_nil, List.getD_cons_zero, List.getD_cons_succ, List.getElem?_cons_zero, List.getElem?_cons_succ, Option.bind_some, d4, d5] at hN ⊢
          go_simp
          have hh := hN _ _ rfl (.inl (Below.refl _ _))
          revert hh
          go_simp
        refine F4.owed_cons (fun vs u hS hD hJ N => ?_) ?_
        · have d12 := hD 12 (by decide)
          simp only [F4.fact, F4.layAt, F4.depOn, F4.dstOf, List.map_cons, List.map_nil, List.foldl_cons, List.foldl_nil, List.getD_cons_zero, List.getD_cons_succ, List.getElem?_cons_zero, List.getElem?_cons_succ, Option.bind_some] at d12
          clear hD hJ
          intro hN
          simp only [F4.fact, F4.layAt, F4.depOn, F4.dstOf, List.map_cons, List.map_nil, List.foldl_cons, List.foldl_nil, List.getD_cons_zero, List.getD_cons_succ, List.getElem?_cons_zero, List.getElem?_cons_succ, Option.bind_some, d12] at hN ⊢
          go_simp
          have hh := hN _ _ rfl (.inl (Below.refl _ _))
          revert hh
          go_simp
        refine F4.owed_cons (fun vs u hS hD hJ N => ?_) ?_
        · have d13 := hD 13 (by decide)
          simp only [F4.fact, F4.layAt, F4.depOn, F4.dstOf, List.map_cons, List.map_nil, List.foldl_cons, List.foldl_nil, List.getD_cons_zero, List.getD_cons_succ, List.getElem?_cons_zero, List.getElem?_cons_succ, Option.bind_some] at d13
          clear hD hJ
          obtain ⟨⟨vv, cv⟩, fv⟩ := hS.2.at_ hc2
          intro hN
          simp only [F4.fact, F4.layAt, F4.depOn, F4.dstOf, List.map_cons, List.map_nil, List.foldl_cons, List.foldl_nil, List.getD_cons_zero, List.getD_cons_succ, List.getElem?_cons_zero, List.getElem?_cons_succ, Option.bind_some, d13] at hN ⊢
          go_simp
          have ow : Off (fun b => b = g) u (u.setCell ⟨g, k * 4 + 2, none⟩ (.slice none 0 0)) := (Off.refl (fun b => b = g) u).setCell (p := ⟨g, k * 4 + 2, none⟩) (fun _ => rfl) _
          have hh := hN undef _ (hS.2.put hc2 _) (.inr ⟨⟨hS.1.trans ow fun b _ hb => hb, hS.2.set (by omega) _⟩, fun j xs v h1 h2 h3 => ?_, fun j h1 => _root_.id⟩)
          · revert hh
            go_simp
          · obtain ⟨curx, kgx, _⟩ := hS.2
            match j with
            | 11 => exact fun hc => (cell_set_ne u g (k * 4 + 2) (k * 4 + 1) _ (by omega) kgx).trans hc
            | 14 => exact absurd rfl h1
            | 17 => exact fun hc => (cell_set_ne u g (k * 4 + 2) (k * 4 + 3) _ (by omega) kgx).trans hc
            | 0 | 1 | 2 | 3 | 4 | 5 | 6 | 7 | 8 | 9 | 10 | 12 | 13 | 15 | 16 | _ + 18 => exact _root_.id
        refine F4.owed_cons (fun vs u hS hD hJ N => ?_) ?_
        · have d7 := hD 7 (by decide)
          simp only [F4.fact, F4.layAt, F4.depOn, F4.dstOf, List.map_cons, List.map_nil, List.foldl_cons, List.foldl_nil, List.getD_cons_zero, List.getD_cons_succ, List.getElem?_cons_zero, List.getElem?_cons_succ, Option.bind_some] at d7
          have d8 := hD 8 (by decide)
          simp only [F4.fact, F4.layAt, F4.depOn, F4.dstOf, List.map_cons, List.map_nil, List.foldl_cons, List.foldl_nil, List.getD_cons_zero, List.getD_cons_succ, List.getElem?_cons_zero, List.getElem?_cons_succ, Option.bind_some] at d8
          clear hD hJ
          intro hN
          simp only [F4.fact, F4.layAt, F4.depOn, F4.dstOf, List.map_cons, List.map_nil, List.foldl_cons, List.foldl_nil, List.getD_cons_zero, List.getD_cons_succ, List.getElem?_cons_zero, List.getElem?_cons_succ, Option.bind_some, d7, d8] at hN ⊢
          go_simp
          have hh := hN _ _ rfl (.inl (Below.refl _ _))
          revert hh
          go_simp
        refine F4.owed_cons (fun vs u hS hD hJ N => ?_) ?_
        · have d15 := hD 15 (by decide)
          simp only [F4.fact, F4.layAt, F4.depOn, F4.dstOf, List.map_cons, List.map_nil, List.foldl_cons, List.foldl_nil, List.getD_cons_zero, List.getD_cons_succ, List.getElem?_cons_zero, List.getElem?_cons_succ, Option.bind_some] at d15
          clear hD hJ
          intro hN
          simp only [F4.fact, F4.layAt, F4.depOn, F4.dstOf, List.map_cons, List.map_nil, List.foldl_cons, List.foldl_nil, List.getD_cons_zero, List.getD_cons_succ, List.getElem?_cons_zero, List.getElem?_cons_succ, Option.bind_some, d15] at hN ⊢
          go_simp
          have hh := hN _ _ rfl (.inl (Below.refl _ _))
          revert hh
          go_simp
        refine F4.owed_cons (fun vs u hS hD hJ N => ?_) ?_
        · have d16 := hD 16 (by decide)
          simp only [F4.fact, F4.layAt, F4.depOn, F4.dstOf, List.map_cons, List.map_nil, List.foldl_cons, List.foldl_nil, List.getD_cons_zero, List.getD_cons_succ, List.getElem?_cons_zero, List.getElem?_cons_succ, Option.bind_some] at d16
          clear hD hJ
          obtain ⟨⟨vv, cv⟩, fv⟩ := hS.2.at_ hc3
          intro hN
          simp only [F4.fact, F4.layAt, F4.depOn, F4.dstOf, List.map_cons, List.map_nil, List.foldl_cons, List.foldl_nil, List.getD_cons_zero, List.getD_cons_succ, List.getElem?_cons_zero, List.getElem?_cons_succ, Option.bind_some, d16] at hN ⊢
          go_simp
          have ow : Off (fun b => b = g) u (u.setCell ⟨g, k * 4 + 3, none⟩ (.slice none 0 0)) := (Off.refl (fun b => b = g) u).setCell (p := ⟨g, k * 4 + 3, none⟩) (fun _ => rfl) _
          have hh := hN undef _ (hS.2.put hc3 _) (.inr ⟨⟨hS.1.trans ow fun b _ hb => hb, hS.2.set (by omega) _⟩, fun j xs v h1 h2 h3 => ?_, fun j h1 => _root_.id⟩)
          · revert hh
            go_simp
          · obtain ⟨curx, kgx, _⟩ := hS.2
            match j with
            | 11 => exact fun hc => (cell_set_ne u g (k * 4 + 3) (k * 4 + 1) _ (by omega) kgx).trans hc
            | 14 => exact fun hc => (cell_set_ne u g (k * 4 + 3) (k * 4 + 2) _ (by omega) kgx).trans hc
            | 17 => exact absurd rfl h1
            | 0 | 1 | 2 | 3 | 4 | 5 | 6 | 7 | 8 | 9 | 10 | 12 | 13 | 15 | 16 | _ + 18 => exact _root_.id
        exact F4.owed_nil
      · intro vs u hS hF hJ
        have d11 := hF 11 (by decide) (by decide)
        simp only [F4.fact, F4.layAt, F4.depOn, F4.dstOf, List.map_cons, List.map_nil, List.foldl_cons, List.foldl_nil, List.getD_cons_zero, List.getD_cons_succ, List.getElem?_cons_zero, List.getElem?_cons_succ, Option.bind_some] at d11
        have d14 := hF 14 (by decide) (by decide)
        simp only [F4.fact, F4.layAt, F4.depOn, F4.dstOf, List.map_cons, List.map_nil, List.foldl_cons, List.foldl_nil, List.getD_cons_zero, List.getD_cons_succ, List.getElem?_cons_zero, List.getElem?_cons_succ, Option.bind_some] at d14
        have d17 := hF 17 (by decide) (by decide)
        simp only [F4.fact, F4.layAt, F4.depOn, F4.dstOf, List.map_cons, List.map_nil, List.foldl_cons, List.foldl_nil, List.getD_cons_zero, List.getD_cons_succ, List.getElem?_cons_zero, List.getElem?_cons_succ, Option.bind_some] at d17
        clear hF hJ
        simp only [List.length_cons, List.length_nil, Nat.reduceAdd, List.range, List.range.loop, F4.fact, F4.layAt, F4.depOn, F4.dstOf, List.map_cons, List.map_nil, List.foldl_cons, List.foldl_nil, List.getD_cons_zero, List.getD_cons_succ, List.getElem?_cons_zero, List.getElem?_cons_succ, Option.bind_some]
        go_simp
        obtain ⟨curx, kgx, hbx3⟩ := hS.2
        rw [kgx.cell] at d11 d14 d17
        go_wp2_with fail
        go_roundw
        case rel => exact ⟨k + 1, by go_num, by omega, o3.trans hS.1 fun b _ hb => ⟨hb, hn0⟩, fun _ => ⟨curx, kgx, hbx3.next (by omega) d11 d14 d17⟩⟩
        case measure => simp [intOf]; omega
    · have d1 : decide ((k : Int) < (n2 : Int)) = false := by simp; omega
      obtain rfl : n2 = k := by omega
      have hbe : bx ≠ g ∨ ¬ 0 < n2 := by
        by_cases hn : 0 < n2
        · exact .inl (by have := (HG.out hn).2.2.1; omega)
        · exact .inr hn
      have kx4 := kx.off o3 (fun h => hbe.elim (fun e => e h.1) (fun e => e h.2))
      have hwg : ¬ (w.heap.size = g ∧ 0 < n2) := fun h => by
        have := (HG.out h.2).2.1
        have := f1.size
        have := kx.lt
        have := k1.lt
        omega
      have k4 := k3.off o3 hwg
      have e1 := kx4.cell 1
      go_wp2_with fail
      have fb1 : Below h1 w2 wr := (f3.mono hh2).trans (o3.below (B := h1) (by omega) (fun b hb => by have := (HG.out hb.2).2.1; have := hb.1; omega))
      have FZ : Below w.heap.size w wr := F2.trans (fb1.mono (by have := F1.size; omega))
      have hRr : RuP wr wr.heap.size [.slice A1 n1 c1, .slice A2 n2 c2, .slice A3 n3 c3] r := RuP.mono H.out FZ.size FZ
      have hTg : RvTg wr wr.heap.size (.slice A2' n2 c2') (r.tos.map bareT) := by
        by_cases hn : 0 < n2
        · obtain ⟨q1, q2, q3, q4, q5, q6, q7, q8, q9⟩ := HG.out hn
          obtain ⟨curz, kz, hbz⟩ := HCUR.out hn
          subst q1
          exact bare_rd L2.out g2a g2b (o3.mono fun b _ h => h.1) kz hbz q5 q6 q7 q8 q9
        · obtain rfl : n2 = 0 := by omega
          have : r.tos = [] := List.eq_nil_of_length_eq_zero L2.out
          rw [this]
          exact ⟨A2', 0, c2', rfl, g2a, g2b, RdG.nil⟩
      have hSr : RvS wr wr.heap.size (.slice A1' n1' c1') r.froms := RvG.mn SrP.mn G1.out (by have := fb1.size; omega) ((Sub.out _ _ _ _).trans (Sub.of_below fb1))
      have hRx : RuP wr wr.heap.size [.slice A1' n1' c1', .slice A2' n2 c2', .slice none 0 0] (bareR r) := ⟨_, _, _, rfl, hSr, hTg, nilG⟩
      have hrx : okRu (bareR r) := ⟨HRO.out.1, ⟨by unfold bareR; rw [List.length_map]; exact HRO.out.2.1.1, fun t ht => by
        unfold bareR at ht
        obtain ⟨u, hu, rfl⟩ := List.mem_map.1 ht
        exact ⟨(HRO.out.2.1.2 u hu).1, ⟨by simp [bareT], fun _ h => by cases h⟩, ⟨by simp [bareT], fun _ h => by cases h⟩, ⟨by simp [bareT], fun _ h => by cases h⟩⟩⟩, ⟨by simp [bareR], fun _ h => by cases h⟩⟩
      obtain ⟨sv, hsv⟩ : ∃ b, seventhR r = b := ⟨_, rfl⟩
      obtain ⟨m, hm⟩ : ∃ b, ruMay r = b := ⟨_, rfl⟩
      have hsame : decide (bareR r = r) = !sv := by rw [← hsv, seventh_bare, Bool.not_not]
      have C1 := fun (u : World) (hu : Below wr.heap.size wr u) => seventh_any r [.slice A1 n1 c1, .slice A2 n2 c2, .slice A3 n3 c3] u (RuP.mono hRr hu.size hu) HRO.out
      have C2 := fun (u : World) (hu : Below wr.heap.size wr u) => sameRule_any (bareR r) r [.slice A1' n1' c1', .slice A2' n2 c2', .slice none 0 0] [.slice A1 n1 c1, .slice A2 n2 c2, .slice A3 n3 c3] u (RuP.mono hRx hu.size hu) (RuP.mono hRr hu.size hu) hrx HRO.out
      have C3 := fun (u : World) (hu : Below wr.heap.size wr u) => seventh_any (bareR r) [.slice A1' n1' c1', .slice A2' n2 c2', .slice none 0 0] u (RuP.mono hRx hu.size hu) hrx
      have C4 := fun (u : World) (hu : Below wr.heap.size wr u) => mayRule_any r [.slice A1 n1 c1, .slice A2 n2 c2, .slice A3 n3 c3] u (RuP.mono hRr hu.size hu) HRO.out
      have C5 := fun (u : World) (hu : Below wr.heap.size wr u) => mayRule_any (bareR r) [.slice A1' n1' c1', .slice A2' n2 c2', .slice none 0 0] u (RuP.mono hRx hu.size hu) hrx
      rw [hsv] at C1
      rw [hsame] at C2
      rw [seventh_no] at C3
      rw [hm] at C4
      have hm5 : m = true → ruMay (bareR r) = true := fun h => bare_may (by rw [hm, h])
      have EE : ∀ u, Below wr.heap.size wr u → CsS [(⟨w.heap.size, 0, none⟩, .slice A1 n1 c1), (⟨w.heap.size, 1, none⟩, .slice A2 n2 c2), (⟨w.heap.size, 2, none⟩, .slice A3 n3 c3), (⟨bx, 0, none⟩, .slice A1' n1' c1'), (⟨bx, 1, none⟩, .slice A2' n2 c2'), (⟨bx, 2, none⟩, .slice none 0 0)] u := fun u hu => CsS.below (u := wr) ⟨k4.cell 0, k4.cell 1, k4.cell 2, kx4.cell 0, kx4.cell 1, kx4.cell 2, trivial⟩ hu
      clear hRr hTg hSr hRx hrx hsv hm hsame k4 kx4 e1
      cases sv <;> cases m
      · refine wp_region_facts (fun u => Below wr.heap.size wr u) [
            fun v _ => v = .agg #[.slice A1 n1 c1, .slice A2 n2 c2, .slice A3 n3 c3],
            fun v _ => v = .bool false,
            fun v _ => v = .agg #[.slice A1' n1' c1', .slice A2' n2 c2', .slice none 0 0],
            fun v _ => v = .agg #[.slice A1 n1 c1, .slice A2 n2 c2, .slice A3 n3 c3],
            fun v _ => v = .bool true,
            fun v _ => v = .bool false,
            fun v _ => v = .bool true,
            fun v _ => v = .bool true,
            fun v _ => v = .agg #[.slice A1' n1' c1', .slice A2' n2 c2', .slice none 0 0],
            fun v _ => v = .bool false,
            fun v _ => v = .bool true,
            fun v _ => v = .bool true,
            fun v _ => v = .bool true,
            fun v _ => v = .agg #[.slice A1 n1 c1, .slice A2 n2 c2, .slice A3 n3 c3],
            fun v _ => v = .bool false,
            fun v _ => v = .bool true,
            fun v _ => v = .bool true,
            fun v _ => v = undef,
            fun v _ => v = undef,
            fun v _ => v = .bool true,
            fun v _ => v = .bool true,
            fun v _ => v = .bool true,
            fun v _ => v = .bool true,
            fun v _ => v = .bool true,
            fun v _ => v = .bool true] (fun u u' => Below u.heap.size u u')
            [[], [0], [], [], [2, 3], [4], [1, 5], [6], [7], [7, 8], [7, 9], [7, 10], [11], [12], [12, 13], [12, 14], [12, 15], [16], [16, 17], [12, 16, 18], [12, 19], [20], [21], [21, 22], [23]] []
            (by kernel_rfl) (by kernel_rfl) ?_ (fun _ _ _ _ _ h => h) ((Below.refl _ _).drew) ?_ ?_
        · refine hE_of (fun u u' h f => f.trans (h.mono f.size)) ?_
          repeat' (first | exact mono_nil | refine mono_cons (fun v u u' h => ?_) ?_)
          all_goals first | exact _root_.id
        ·
          refine owed_cons (fun vs u hS hD N => ?_) ?_
          · clear hD
            intro hN
            simp only [fact, layAt, depOn, dstOf, List.map_cons, List.map_nil, List.foldl_cons, List.foldl_nil, List.getD_cons_zero, List.getD_cons_succ, List.getElem?_cons_zero, List.getElem?_cons_succ, Option.bind_some] at hN ⊢
            go_simp
            obtain ⟨e0, e1, e2, x0, x1, x2, _⟩ := EE _ hS
            go_simp
            have hh := hN _ _ rfl (.inl (Below.refl _ _))
            revert hh
            go_simp
          refine owed_cons (fun vs u hS hD N => ?_) ?_
          · have d0 := hD 0 (by decide)
            simp only [fact, layAt, depOn, dstOf, List.map_cons, List.map_nil, List.foldl_cons, List.foldl_nil, List.getD_cons_zero, List.getD_cons_succ, List.getElem?_cons_zero, List.getElem?_cons_succ, Option.bind_some] at d0
            clear hD
            intro hN
            simp only [fact, layAt, depOn, dstOf, List.map_cons, List.map_nil, List.foldl_cons, List.foldl_nil, List.getD_cons_zero, List.getD_cons_succ, List.getElem?_cons_zero, List.getElem?_cons_succ, Option.bind_some, d0] at hN ⊢
            go_simp
            refine (C1 u hS).mono ?_
            rintro e u1 ⟨rfl, f⟩
            have hh := hN _ _ rfl (.inl f)
            revert hh
            go_simp
          refine owed_cons (fun vs u hS hD N => ?_) ?_
          · clear hD
            intro hN
            simp only [fact, layAt, depOn, dstOf, List.map_cons, List.map_nil, List.foldl_cons, List.foldl_nil, List.getD_cons_zero, List.getD_cons_succ, List.getElem?_cons_zero, List.getElem?_cons_succ, Option.bind_some] at hN ⊢
            go_simp
            obtain ⟨e0, e1, e2, x0, x1, x2, _⟩ := EE _ hS
            go_simp
            have hh := hN _ _ rfl (.inl (Below.refl _ _))
            revert hh
            go_simp
          refine owed_cons (fun vs u hS hD N => ?_) ?_
          · clear hD
            intro hN
            simp only [fact, layAt, depOn, dstOf, List.map_cons, List.map_nil, List.foldl_cons, List.foldl_nil, List.getD_cons_zero, List.getD_cons_succ, List.getElem?_cons_zero, List.getElem?_cons_succ, Option.bind_some] at hN ⊢
            go_simp
            obtain ⟨e0, e1, e2, x0, x1, x2, _⟩ := EE _ hS
            go_simp
            have hh := hN _ _ rfl (.inl (Below.refl _ _))
            revert hh
            go_simp
          refine owed_cons (fun vs u hS hD N => ?_) ?_
          · have d2 := hD 2 (by decide)
            simp only [fact, layAt, depOn, dstOf, List.map_cons, List.map_nil, List.foldl_cons, List.foldl_nil, List.getD_cons_zero, List.getD_cons_succ, List.getElem?_cons_zero, List.getElem?_cons_succ, Option.bind_some] at d2
            have d3 := hD 3 (by decide)
            simp only [fact, layAt, depOn, dstOf, List.map_cons, List.map_nil, List.foldl_cons, List.foldl_nil, List.getD_cons_zero, List.getD_cons_succ, List.getElem?_cons_zero, List.getElem?_cons_succ, Option.bind_some] at d3
            clear hD
            intro hN
            simp only [fact, layAt, depOn, dstOf, List.map_cons, List.map_nil, List.foldl_cons, List.foldl_nil, List.getD_cons_zero, List.getD_cons_succ, List.getElem?_cons_zero, List.getElem?_cons_succ, Option.bind_some, d2, d3] at hN ⊢
            go_simp
            refine (C2 u hS).mono ?_
            rintro e u1 ⟨rfl, f⟩
            have hh := hN _ _ rfl (.inl f)
            revert hh
            go_simp
          refine owed_cons (fun vs u hS hD N => ?_) ?_
          · have d4 := hD 4 (by decide)
            simp only [fact, layAt, depOn, dstOf, List.map_cons, List.map_nil, List.foldl_cons, List.foldl_nil, List.getD_cons_zero, List.getD_cons_succ, List.getElem?_cons_zero, List.getElem?_cons_succ, Option.bind_some] at d4
            clear hD
            intro hN
            simp only [fact, layAt, depOn, dstOf, List.map_cons, List.map_nil, List.foldl_cons, List.foldl_nil, List.getD_cons_zero, List.getD_cons_succ, List.getElem?_cons_zero, List.getElem?_cons_succ, Option.bind_some, d4] at hN ⊢
            go_simp
            have hh := hN _ _ rfl (.inl (Below.refl _ _))
            revert hh
            go_simp
          refine owed_cons (fun vs u hS hD N => ?_) ?_
          · have d1 := hD 1 (by decide)
            simp only [fact, layAt, depOn, dstOf, List.map_cons, List.map_nil, List.foldl_cons, List.foldl_nil, List.getD_cons_zero, List.getD_cons_succ, List.getElem?_cons_zero, List.getElem?_cons_succ, Option.bind_some] at d1
            have d5 := hD 5 (by decide)
            simp only [fact, layAt, depOn, dstOf, List.map_cons, List.map_nil, List.foldl_cons, List.foldl_nil, List.getD_cons_zero, List.getD_cons_succ, List.getElem?_cons_zero, List.getElem?_cons_succ, Option.bind_some] at d5
            clear hD
            intro hN
            simp only [fact, layAt, depOn, dstOf, List.map_cons, List.map_nil, List.foldl_cons, List.foldl_nil, List.getD_cons_zero, List.getD_cons_succ, List.getElem?_cons_zero, List.getElem?_cons_succ, Option.bind_some, d1, d5] at hN ⊢
            go_simp
            have hh := hN _ _ rfl (.inl (Below.refl _ _))
            revert hh
            go_simp
          refine owed_cons (fun vs u hS hD N => ?_) ?_
          · have d6 := hD 6 (by decide)
            simp only [fact, layAt, depOn, dstOf, List.map_cons, List.map_nil, List.foldl_cons, List.foldl_nil, List.getD_cons_zero, List.getD_cons_succ, List.getElem?_cons_zero, List.getElem?_cons_succ, Option.bind_some] at d6
            clear hD
            intro hN
            simp only [fact, layAt, depOn, dstOf, List.map_cons, List.map_nil, List.foldl_cons, List.foldl_nil, List.getD_cons_zero, List.getD_cons_succ, List.getElem?_cons_zero, List.getElem?_cons_succ, Option.bind_some, d6] at hN ⊢
            go_simp
            have hh := hN _ _ rfl (.inl (Below.refl _ _))
            revert hh
            go_simp
          refine owed_cons (fun vs u hS hD N => ?_) ?_
          · have d7 := hD 7 (by decide)
            simp only [fact, layAt, depOn, dstOf, List.map_cons, List.map_nil, List.foldl_cons, List.foldl_nil, List.getD_cons_zero, List.getD_cons_succ, List.getElem?_cons_zero, List.getElem?_cons_succ, Option.bind_some] at d7
            clear hD
            intro hN
            simp only [fact, layAt, depOn, dstOf, List.map_cons, List.map_nil, List.foldl_cons, List.foldl_nil, List.getD_cons_zero, List.getD_cons_succ, List.getElem?_cons_zero, List.getElem?_cons_succ, Option.bind_some, d7] at hN ⊢
            go_simp
            obtain ⟨e0, e1, e2, x0, x1, x2, _⟩ := EE _ hS
            go_simp
            have hh := hN _ _ rfl (.inl (Below.refl _ _))
            revert hh
            go_simp
          refine owed_cons (fun vs u hS hD N => ?_) ?_
          · have d7 := hD 7 (by decide)
            simp only [fact, layAt, depOn, dstOf, List.map_cons, List.map_nil, List.foldl_cons, List.foldl_nil, List.getD_cons_zero, List.getD_cons_succ, List.getElem?_cons_zero, List.getElem?_cons_succ, Option.bind_some] at d7
            have d8 := hD 8 (by decide)
            simp only [fact, layAt, depOn, dstOf, List.map_cons, List.map_nil, List.foldl_cons, List.foldl_nil, List.getD_cons_zero, List.getD_cons_succ, List.getElem?_cons_zero, List.getElem?_cons_succ, Option.bind_some] at d8
            clear hD
            intro hN
            simp only [fact, layAt, depOn, dstOf, List.map_cons, List.map_nil, List.foldl_cons, List.foldl_nil, List.getD_cons_zero, List.getD_cons_succ, List.getElem?_cons_zero, List.getElem?_cons_succ, Option.bind_some, d7, d8] at hN ⊢
            go_simp
            refine (C3 u hS).mono ?_
            rintro e u1 ⟨rfl, f⟩
            have hh := hN _ _ rfl (.inl f)
            revert hh
            go_simp
          refine owed_cons (fun vs u hS hD N => ?_) ?_
          · have d7 := hD 7 (by decide)
            simp only [fact, layAt, depOn, dstOf, List.map_cons, List.map_nil, List.foldl_cons, List.foldl_nil, List.getD_cons_zero, List.getD_cons_succ, List.getElem?_cons_zero, List.getElem?_cons_succ, Option.bind_some] at d7
            have d9 := hD 9 (by decide)
            simp only [fact, layAt, depOn, dstOf, List.map_cons, List.map_nil, List.foldl_cons, List.foldl_nil, List.getD_cons_zero, List.getD_cons_succ, List.getElem?_cons_zero, List.getElem?_cons_succ, Option.bind_some] at d9
            clear hD
            intro hN
            simp only [fact, layAt, depOn, dstOf, List.map_cons, List.map_nil, List.foldl_cons, List.foldl_nil, List.getD_cons_zero, List.getD_cons_succ, List.getElem?_cons_zero, List.getElem?_cons_succ, Option.bind_some, d7, d9] at hN ⊢
            go_simp
            have hh := hN _ _ rfl (.inl (Below.refl _ _))
            revert hh
            go_simp
          refine owed_cons (fun vs u hS hD N => ?_) ?_
          · have d7 := hD 7 (by decide)
            simp only [fact, layAt, depOn, dstOf, List.map_cons, List.map_nil, List.foldl_cons, List.foldl_nil, List.getD_cons_zero, List.getD_cons_succ, List.getElem?_cons_zero, List.getElem?_cons_succ, Option.bind_some] at d7
            have d10 := hD 10 (by decide)
            simp only [fact, layAt, depOn, dstOf, List.map_cons, List.map_nil, List.foldl_cons, List.foldl_nil, List.getD_cons_zero, List.getD_cons_succ, List.getElem?_cons_zero, List.getElem?_cons_succ, Option.bind_some] at d10
            clear hD
            intro hN
            simp only [fact, layAt, depOn, dstOf, List.map_cons, List.map_nil, List.foldl_cons, List.foldl_nil, List.getD_cons_zero, List.getD_cons_succ, List.getElem?_cons_zero, List.getElem?_cons_succ, Option.bind_some, d7, d10] at hN ⊢
            go_simp
            have hh := hN _ _ rfl (.inl (Below.refl _ _))
            revert hh
            go_simp
          refine owed_cons (fun vs u hS hD N => ?_) ?_
          · have d11 := hD 11 (by decide)
            simp only [fact, layAt, depOn, dstOf, List.map_cons, List.map_nil, List.foldl_cons, List.foldl_nil, List.getD_cons_zero, List.getD_cons_succ, List.getElem?_cons_zero, List.getElem?_cons_succ, Option.bind_some] at d11
            clear hD
            intro hN
            simp only [fact, layAt, depOn, dstOf, List.map_cons, List.map_nil, List.foldl_cons, List.foldl_nil, List.getD_cons_zero, List.getD_cons_succ, List.getElem?_cons_zero, List.getElem?_cons_succ, Option.bind_some, d11] at hN ⊢
            go_simp
            have hh := hN _ _ rfl (.inl (Below.refl _ _))
            revert hh
            go_simp
          refine owed_cons (fun vs u hS hD N => ?_) ?_
          · have d12 := hD 12 (by decide)
            simp only [fact, layAt, depOn, dstOf, List.map_cons, List.map_nil, List.foldl_cons, List.foldl_nil, List.getD_cons_zero, List.getD_cons_succ, List.getElem?_cons_zero, List.getElem?_cons_succ, Option.bind_some] at d12
            clear hD
            intro hN
            simp only [fact, layAt, depOn, dstOf, List.map_cons, List.map_nil, List.foldl_cons, List.foldl_nil, List.getD_cons_zero, List.getD_cons_succ, List.getElem?_cons_zero, List.getElem?_cons_succ, Option.bind_some, d12] at hN ⊢
            go_simp
            obtain ⟨e0, e1, e2, x0, x1, x2, _⟩ := EE _ hS
            go_simp
            have hh := hN _ _ rfl (.inl (Below.refl _ _))
            revert hh
            go_simp
          refine owed_cons (fun vs u hS hD N => ?_) ?_
          · have d12 := hD 12 (by decide)
            simp only [fact, layAt, depOn, dstOf, List.map_cons, List.map_nil, List.foldl_cons, List.foldl_nil, List.getD_cons_zero, List.getD_cons_succ, List.getElem?_cons_zero, List.getElem?_cons_succ, Option.bind_some] at d12
            have d13 := hD 13 (by decide)
            simp only [fact, layAt, depOn, dstOf, List.map_cons, List.map_nil, List.foldl_cons, List.foldl_nil, List.getD_cons_zero, List.getD_cons_succ, List.getElem?_cons_zero, List.getElem?_cons_succ, Option.bind_some] at d13
            clear hD
            intro hN
            simp only [fact, layAt, depOn, dstOf, List.map_cons, List.map_nil, List.foldl_cons, List.foldl_nil, List.getD_cons_zero, List.getD_cons_succ, List.getElem?_cons_zero, List.getElem?_cons_succ, Option.bind_some, d12, d13] at hN ⊢
            go_simp
            refine (C4 u hS).mono ?_
            rintro e u1 ⟨rfl, f⟩
            have hh := hN _ _ rfl (.inl f)
            revert hh
            go_simp
          refine owed_cons (fun vs u hS hD N => ?_) ?_
          · have d12 := hD 12 (by decide)
            simp only [fact, layAt, depOn, dstOf, List.map_cons, List.map_nil, List.foldl_cons, List.foldl_nil, List.getD_cons_zero, List.getD_cons_succ, List.getElem?_cons_zero, List.getElem?_cons_succ, Option.bind_some] at d12
            have d14 := hD 14 (by decide)
            simp only [fact, layAt, depOn, dstOf, List.map_cons, List.map_nil, List.foldl_cons, List.foldl_nil, List.getD_cons_zero, List.getD_cons_succ, List.getElem?_cons_zero, List.getElem?_cons_succ, Option.bind_some] at d14
            clear hD
            intro hN
            simp only [fact, layAt, depOn, dstOf, List.map_cons, List.map_nil, List.foldl_cons, List.foldl_nil, List.getD_cons_zero, List.getD_cons_succ, List.getElem?_cons_zero, List.getElem?_cons_succ, Option.bind_some, d12, d14] at hN ⊢
            go_simp
            have hh := hN _ _ rfl (.inl (Below.refl _ _))
            revert hh
            go_simp
          refine owed_cons (fun vs u hS hD N => ?_) ?_
          · have d12 := hD 12 (by decide)
            simp only [fact, layAt, depOn, dstOf, List.map_cons, List.map_nil, List.foldl_cons, List.foldl_nil, List.getD_cons_zero, List.getD_cons_succ, List.getElem?_cons_zero, List.getElem?_cons_succ, Option.bind_some] at d12
            have d15 := hD 15 (by decide)
            simp only [fact, layAt, depOn, dstOf, List.map_cons, List.map_nil, List.foldl_cons, List.foldl_nil, List.getD_cons_zero, List.getD_cons_succ, List.getElem?_cons_zero, List.getElem?_cons_succ, Option.bind_some] at d15
            clear hD
            intro hN
            simp only [fact, layAt, depOn, dstOf, List.map_cons, List.map_nil, List.foldl_cons, List.foldl_nil, List.getD_cons_zero, List.getD_cons_succ, List.getElem?_cons_zero, List.getElem?_cons_succ, Option.bind_some, d12, d15] at hN ⊢
            go_simp
            have hh := hN _ _ rfl (.inl (Below.refl _ _))
            revert hh
            go_simp
          refine owed_cons (fun vs u hS hD N => ?_) ?_
          · have d16 := hD 16 (by decide)
            simp only [fact, layAt, depOn, dstOf, List.map_cons, List.map_nil, List.foldl_cons, List.foldl_nil, List.getD_cons_zero, List.getD_cons_succ, List.getElem?_cons_zero, List.getElem?_cons_succ, Option.bind_some] at d16
            clear hD
            intro hN
            simp only [fact, layAt, depOn, dstOf, List.map_cons, List.map_nil, List.foldl_cons, List.foldl_nil, List.getD_cons_zero, List.getD_cons_succ, List.getElem?_cons_zero, List.getElem?_cons_succ, Option.bind_some, d16] at hN ⊢
            go_simp
            have hh := hN _ _ rfl (.inl (Below.refl _ _))
            revert hh
            go_simp
          refine owed_cons (fun vs u hS hD N => ?_) ?_
          · have d16 := hD 16 (by decide)
            simp only [fact, layAt, depOn, dstOf, List.map_cons, List.map_nil, List.foldl_cons, List.foldl_nil, List.getD_cons_zero, List.getD_cons_succ, List.getElem?_cons_zero, List.getElem?_cons_succ, Option.bind_some] at d16
            have d17 := hD 17 (by decide)
            simp only [fact, layAt, depOn, dstOf, List.map_cons, List.map_nil, List.foldl_cons, List.foldl_nil, List.getD_cons_zero, List.getD_cons_succ, List.getElem?_cons_zero, List.getElem?_cons_succ, Option.bind_some] at d17
            clear hD
            intro hN
            simp only [fact, layAt, depOn, dstOf, List.map_cons, List.map_nil, List.foldl_cons, List.foldl_nil, List.getD_cons_zero, List.getD_cons_succ, List.getElem?_cons_zero, List.getElem?_cons_succ, Option.bind_some, d16, d17] at hN ⊢
            go_simp
            have hh := hN _ _ rfl (.inl (Below.refl _ _))
            revert hh
            go_simp
          refine owed_cons (fun vs u hS hD N => ?_) ?_
          · have d12 := hD 12 (by decide)
            simp only [fact, layAt, depOn, dstOf, List.map_cons, List.map_nil, List.foldl_cons, List.foldl_nil, List.getD_cons_zero, List.getD_cons_succ, List.getElem?_cons_zero, List.getElem?_cons_succ, Option.bind_some] at d12
            have d16 := hD 16 (by decide)
            simp only [fact, layAt, depOn, dstOf, List.map_cons, List.map_nil, List.foldl_cons, List.foldl_nil, List.getD_cons_zero, List.getD_cons_succ, List.getElem?_cons_zero, List.getElem?_cons_succ, Option.bind_some] at d16
            have d18 := hD 18 (by decide)
            simp only [fact, layAt, depOn, dstOf, List.map_cons, List.map_nil, List.foldl_cons, List.foldl_nil, List.getD_cons_zero, List.getD_cons_succ, List.getElem?_cons_zero, List.getElem?_cons_succ, Option.bind_some] at d18
            clear hD
            intro hN
            simp only [fact, layAt, depOn, dstOf, List.map_cons, List.map_nil, List.foldl_cons, List.foldl_nil, List.getD_cons_zero, List.getD_cons_succ, List.getElem?_cons_zero, List.getElem?_cons_succ, Option.bind_some, d12, d16, d18] at hN ⊢
            go_simp
            have hh := hN _ _ rfl (.inl (Below.refl _ _))
            revert hh
            go_simp
          refine owed_cons (fun vs u hS hD N => ?_) ?_
          · have d12 := hD 12 (by decide)
            simp only [fact, layAt, depOn, dstOf, List.map_cons, List.map_nil, List.foldl_cons, List.foldl_nil, List.getD_cons_zero, List.getD_cons_succ, List.getElem?_cons_zero, List.getElem?_cons_succ, Option.bind_some] at d12
            have d19 := hD 19 (by decide)
            simp only [fact, layAt, depOn, dstOf, List.map_cons, List.map_nil, List.foldl_cons, List.foldl_nil, List.getD_cons_zero, List.getD_cons_succ, List.getElem?_cons_zero, List.getElem?_cons_succ, Option.bind_some] at d19
            clear hD
            intro hN
            simp only [fact, layAt, depOn, dstOf, List.map_cons, List.map_nil, List.foldl_cons, List.foldl_nil, List.getD_cons_zero, List.getD_cons_succ, List.getElem?_cons_zero, List.getElem?_cons_succ, Option.bind_some, d12, d19] at hN ⊢
            go_simp
            have hh := hN _ _ rfl (.inl (Below.refl _ _))
            revert hh
            go_simp
          refine owed_cons (fun vs u hS hD N => ?_) ?_
          · have d20 := hD 20 (by decide)
            simp only [fact, layAt, depOn, dstOf, List.map_cons, List.map_nil, List.foldl_cons, List.foldl_nil, List.getD_cons_zero, List.getD_cons_succ, List.getElem?_cons_zero, List.getElem?_cons_succ, Option.bind_some] at d20
            clear hD
            intro hN
            simp only [fact, layAt, depOn, dstOf, List.map_cons, List.map_nil, List.foldl_cons, List.foldl_nil, List.getD_cons_zero, List.getD_cons_succ, List.getElem?_cons_zero, List.getElem?_cons_succ, Option.bind_some, d20] at hN ⊢
            go_simp
            have hh := hN _ _ rfl (.inl (Below.refl _ _))
            revert hh
            go_simp
          refine owed_cons (fun vs u hS hD N => ?_) ?_
          · have d21 := hD 21 (by decide)
            simp only [fact, layAt, depOn, dstOf, List.map_cons, List.map_nil, List.foldl_cons, List.foldl_nil, List.getD_cons_zero, List.getD_cons_succ, List.getElem?_cons_zero, List.getElem?_cons_succ, Option.bind_some] at d21
            clear hD
            intro hN
            simp only [fact, layAt, depOn, dstOf, List.map_cons, List.map_nil, List.foldl_cons, List.foldl_nil, List.getD_cons_zero, List.getD_cons_succ, List.getElem?_cons_zero, List.getElem?_cons_succ, Option.bind_some, d21] at hN ⊢
            go_simp
            refine (awake12_any u).mono ?_
            rintro e u1 ⟨rfl, f⟩
            have hh := hN _ _ rfl (.inl f)
            revert hh
            go_simp
          refine owed_cons (fun vs u hS hD N => ?_) ?_
          · have d21 := hD 21 (by decide)
            simp only [fact, layAt, depOn, dstOf, List.map_cons, List.map_nil, List.foldl_cons, List.foldl_nil, List.getD_cons_zero, List.getD_cons_succ, List.getElem?_cons_zero, List.getElem?_cons_succ, Option.bind_some] at d21
            have d22 := hD 22 (by decide)
            simp only [fact, layAt, depOn, dstOf, List.map_cons, List.map_nil, List.foldl_cons, List.foldl_nil, List.getD_cons_zero, List.getD_cons_succ, List.getElem?_cons_zero, List.getElem?_cons_succ, Option.bind_some] at d22
            clear hD
            intro hN
            simp only [fact, layAt, depOn, dstOf, List.map_cons, List.map_nil, List.foldl_cons, List.foldl_nil, List.getD_cons_zero, List.getD_cons_succ, List.getElem?_cons_zero, List.getElem?_cons_succ, Option.bind_some, d21, d22] at hN ⊢
            go_simp
            have hh := hN _ _ rfl (.inl (Below.refl _ _))
            revert hh
            go_simp
          refine owed_cons (fun vs u hS hD N => ?_) ?_
          · have d23 := hD 23 (by decide)
            simp only [fact, layAt, depOn, dstOf, List.map_cons, List.map_nil, List.foldl_cons, List.foldl_nil, List.getD_cons_zero, List.getD_cons_succ, List.getElem?_cons_zero, List.getElem?_cons_succ, Option.bind_some] at d23
            clear hD
            intro hN
            simp only [fact, layAt, depOn, dstOf, List.map_cons, List.map_nil, List.foldl_cons, List.foldl_nil, List.getD_cons_zero, List.getD_cons_succ, List.getElem?_cons_zero, List.getElem?_cons_succ, Option.bind_some, d23] at hN ⊢
            go_simp
            have hh := hN _ _ rfl (.inl (Below.refl _ _))
            revert hh
            go_simp
          exact owed_nil
        ·
          intro vs u hS hF
          have d24 := hF 24 (by decide) (by decide)
          simp only [fact, layAt, depOn, dstOf, List.map_cons, List.map_nil, List.foldl_cons, List.foldl_nil, List.getD_cons_zero, List.getD_cons_succ, List.getElem?_cons_zero, List.getElem?_cons_succ, Option.bind_some] at d24
          clear hF
          simp only [List.length_cons, List.length_nil, Nat.reduceAdd, List.range, List.range.loop, fact, layAt, depOn, dstOf, List.map_cons, List.map_nil, List.foldl_cons, List.foldl_nil, List.getD_cons_zero, List.getD_cons_succ, List.getElem?_cons_zero, List.getElem?_cons_succ, Option.bind_some, d24]
          go_simp
          go_wp2_with fail
          go_ret
          exact ⟨rfl, FZ.trans (hS.mono FZ.size)⟩
      · rw [hm5 rfl] at C5
        refine wp_region_facts (fun u => Below wr.heap.size wr u) [
            fun v _ => v = .agg #[.slice A1 n1 c1, .slice A2 n2 c2, .slice A3 n3 c3],
            fun v _ => v = .bool false,
            fun v _ => v = .agg #[.slice A1' n1' c1', .slice A2' n2 c2', .slice none 0 0],
            fun v _ => v = .agg #[.slice A1 n1 c1, .slice A2 n2 c2, .slice A3 n3 c3],
            fun v _ => v = .bool true,
            fun v _ => v = .bool false,
            fun v _ => v = .bool true,
            fun v _ => v = .bool true,
            fun v _ => v = .agg #[.slice A1' n1' c1', .slice A2' n2 c2', .slice none 0 0],
            fun v _ => v = .bool false,
            fun v _ => v = .bool true,
            fun v _ => v = .bool true,
            fun v _ => v = .bool true,
            fun v _ => v = .agg #[.slice A1 n1 c1, .slice A2 n2 c2, .slice A3 n3 c3],
            fun v _ => v = .bool true,
            fun v _ => v = .bool false,
            fun v _ => v = .bool false,
            fun v _ => v = .agg #[.slice A1' n1' c1', .slice A2' n2 c2', .slice none 0 0],
            fun v _ => v = .bool true,
            fun v _ => v = .bool true,
            fun v _ => v = .bool true,
            fun v _ => v = .bool true,
            fun v _ => v = .bool true,
            fun v _ => v = .bool true,
            fun v _ => v = .bool true] (fun u u' => Below u.heap.size u u')
            [[], [0], [], [], [2, 3], [4], [1, 5], [6], [7], [7, 8], [7, 9], [7, 10], [11], [12], [12, 13], [12, 14], [12, 15], [16], [16, 17], [12, 16, 18], [12, 19], [20], [21], [21, 22], [23]] []
            (by kernel_rfl) (by kernel_rfl) ?_ (fun _ _ _ _ _ h => h) ((Below.refl _ _).drew) ?_ ?_
        · refine hE_of (fun u u' h f => f.trans (h.mono f.size)) ?_
          repeat' (first | exact mono_nil | refine mono_cons (fun v u u' h => ?_) ?_)
          all_goals first | exact _root_.id
        ·
          refine owed_cons (fun vs u hS hD N => ?_) ?_
          · clear hD
            intro hN
            simp only [fact, layAt, depOn, dstOf, List.map_cons, List.map_nil, List.foldl_cons, List.foldl_nil, List.getD_cons_zero, List.getD_cons_succ, List.getElem?_cons_zero, List.getElem?_cons_succ, Option.bind_some] at hN ⊢
            go_simp
            obtain ⟨e0, e1, e2, x0, x1, x2, _⟩ := EE _ hS
            go_simp
            have hh := hN _ _ rfl (.inl (Below.refl _ _))
            revert hh
            go_simp
          refine owed_cons (fun vs u hS hD N => ?_) ?_
          · have d0 := hD 0 (by decide)
            simp only [fact, layAt, depOn, dstOf, List.map_cons, List.map_nil, List.foldl_cons, List.foldl_nil, List.getD_cons_zero, List.getD_cons_succ, List.getElem?_cons_zero, List.getElem?_cons_succ, Option.bind_some] at d0
            clear hD
            intro hN
            simp only [fact, layAt, depOn, dstOf, List.map_cons, List.map_nil, List.foldl_cons, List.foldl_nil, List.getD_cons_zero, List.getD_cons_succ, List.getElem?_cons_zero, List.getElem?_cons_succ, Option.bind_some, d0] at hN ⊢
            go_simp
            refine (C1 u hS).mono ?_
            rintro e u1 ⟨rfl, f⟩
            have hh := hN _ _ rfl (.inl f)
            revert hh
            go_simp
          refine owed_cons (fun vs u hS hD N => ?_) ?_
          · clear hD
            intro hN
            simp only [fact, layAt, depOn, dstOf, List.map_cons, List.map_nil, List.foldl_cons, List.foldl_nil, List.getD_cons_zero, List.getD_cons_succ, List.getElem?_cons_zero, List.getElem?_cons_succ, Option.bind_some] at hN ⊢
            go_simp
            obtain ⟨e0, e1, e2, x0, x1, x2, _⟩ := EE _ hS
            go_simp
            have hh := hN _ _ rfl (.inl (Below.refl _ _))
            revert hh
            go_simp
          refine owed_cons (fun vs u hS hD N => ?_) ?_
          · clear hD
            intro hN
            simp only [fact, layAt, depOn, dstOf, List.map_cons, List.map_nil, List.foldl_cons, List.foldl_nil, List.getD_cons_zero, List.getD_cons_succ, List.getElem?_cons_zero, List.getElem?_cons_succ, Option.bind_some] at hN ⊢
            go_simp
            obtain ⟨e0, e1, e2, x0, x1, x2, _⟩ := EE _ hS
            go_simp
            have hh := hN _ _ rfl (.inl (Below.refl _ _))
            revert hh
            go_simp
          refine owed_cons (fun vs u hS hD N => ?_) ?_
          · have d2 := hD 2 (by decide)
            simp only [fact, layAt, depOn, dstOf, List.map_cons, List.map_nil, List.foldl_cons, List.foldl_nil, List.getD_cons_zero, List.getD_cons_succ, List.getElem?_cons_zero, List.getElem?_cons_succ, Option.bind_some] at d2
            have d3 := hD 3 (by decide)
            simp only [fact, layAt, depOn, dstOf, List.map_cons, List.map_nil, List.foldl_cons, List.foldl_nil, List.getD_cons_zero, List.getD_cons_succ, List.getElem?_cons_zero, List.getElem?_cons_succ, Option.bind_some] at d3
            clear hD
            intro hN
            simp only [fact, layAt, depOn, dstOf, List.map_cons, List.map_nil, List.foldl_cons, List.foldl_nil, List.getD_cons_zero, List.getD_cons_succ, List.getElem?_cons_zero, List.getElem?_cons_succ, Option.bind_some, d2, d3] at hN ⊢
            go_simp
            refine (C2 u hS).mono ?_
            rintro e u1 ⟨rfl, f⟩
            have hh := hN _ _ rfl (.inl f)
            revert hh
            go_simp
          refine owed_cons (fun vs u hS hD N => ?_) ?_
          · have d4 := hD 4 (by decide)
            simp only [fact, layAt, depOn, dstOf, List.map_cons, List.map_nil, List.foldl_cons, List.foldl_nil, List.getD_cons_zero, List.getD_cons_succ, List.getElem?_cons_zero, List.getElem?_cons_succ, Option.bind_some] at d4
            clear hD
            intro hN
            simp only [fact, layAt, depOn, dstOf, List.map_cons, List.map_nil, List.foldl_cons, List.foldl_nil, List.getD_cons_zero, List.getD_cons_succ, List.getElem?_cons_zero, List.getElem?_cons_succ, Option.bind_some, d4] at hN ⊢
            go_simp
            have hh := hN _ _ rfl (.inl (Below.refl _ _))
            revert hh
            go_simp
          refine owed_cons (fun vs u hS hD N => ?_) ?_
          · have d1 := hD 1 (by decide)
            simp only [fact, layAt, depOn, dstOf, List.map_cons, List.map_nil, List.foldl_cons, List.foldl_nil, List.getD_cons_zero, List.getD_cons_succ, List.getElem?_cons_zero, List.getElem?_cons_succ, Option.bind_some] at d1
            have d5 := hD 5 (by decide)
            simp only [fact, layAt, depOn, dstOf, List.map_cons, List.map_nil, List.foldl_cons, List.foldl_nil, List.getD_cons_zero, List.getD_cons_succ, List.getElem?_cons_zero, List.getElem?_cons_succ, Option.bind_some] at d5
            clear hD
            intro hN
            simp only [fact, layAt, depOn, dstOf, List.map_cons, List.map_nil, List.foldl_cons, List.foldl_nil, List.getD_cons_zero, List.getD_cons_succ, List.getElem?_cons_zero, List.getElem?_cons_succ, Option.bind_some, d1, d5] at hN ⊢
            go_simp
            have hh := hN _ _ rfl (.inl (Below.refl _ _))
            revert hh
            go_simp
          refine owed_cons (fun vs u hS hD N => ?_) ?_
          · have d6 := hD 6 (by decide)
            simp only [fact, layAt, depOn, dstOf, List.map_cons, List.map_nil, List.foldl_cons, List.foldl_nil, List.getD_cons_zero, List.getD_cons_succ, List.getElem?_cons_zero, List.getElem?_cons_succ, Option.bind_some] at d6
            clear hD
            intro hN
            simp only [fact, layAt, depOn, dstOf, List.map_cons, List.map_nil, List.foldl_cons, List.foldl_nil, List.getD_cons_zero, List.getD_cons_succ, List.getElem?_cons_zero, List.getElem?_cons_succ, Option.bind_some, d6] at hN ⊢
            go_simp
            have hh := hN _ _ rfl (.inl (Below.refl _ _))
            revert hh
            go_simp
          refine owed_cons (fun vs u hS hD N => ?_) ?_
          · have d7 := hD 7 (by decide)
            simp only [fact, layAt, depOn, dstOf, List.map_cons, List.map_nil, List.foldl_cons, List.foldl_nil, List.getD_cons_zero, List.getD_cons_succ, List.getElem?_cons_zero, List.getElem?_cons_succ, Option.bind_some] at d7
            clear hD
            intro hN
            simp only [fact, layAt, depOn, dstOf, List.map_cons, List.map_nil, List.foldl_cons, List.foldl_nil, List.getD_cons_zero, List.getD_cons_succ, List.getElem?_cons_zero, List.getElem?_cons_succ, Option.bind_some, d7] at hN ⊢
            go_simp
            obtain ⟨e0, e1, e2, x0, x1, x2, _⟩ := EE _ hS
            go_simp
            have hh := hN _ _ rfl (.inl (Below.refl _ _))
            revert hh
            go_simp
          refine owed_cons (fun vs u hS hD N => ?_) ?_
          · have d7 := hD 7 (by decide)
            simp only [fact, layAt, depOn, dstOf, List.map_cons, List.map_nil, List.foldl_cons, List.foldl_nil, List.getD_cons_zero, List.getD_cons_succ, List.getElem?_cons_zero, List.getElem?_cons_succ, Option.bind_some] at d7
            have d8 := hD 8 (by decide)
            simp only [fact, layAt, depOn, dstOf, List.map_cons, List.map_nil, List.foldl_cons, List.foldl_nil, List.getD_cons_zero, List.getD_cons_succ, List.getElem?_cons_zero, List.getElem?_cons_succ, Option.bind_some] at d8
            clear hD
            intro hN
            simp only [fact, layAt, depOn, dstOf, List.map_cons, List.map_nil, List.foldl_cons, List.foldl_nil, List.getD_cons_zero, List.getD_cons_succ, List.getElem?_cons_zero, List.getElem?_cons_succ, Option.bind_some, d7, d8] at hN ⊢
            go_simp
            refine (C3 u hS).mono ?_
            rintro e u1 ⟨rfl, f⟩
            have hh := hN _ _ rfl (.inl f)
            revert hh
            go_simp
          refine owed_cons (fun vs u hS hD N => ?_) ?_
          · have d7 := hD 7 (by decide)
            simp only [fact, layAt, depOn, dstOf, List.map_cons, List.map_nil, List.foldl_cons, List.foldl_nil, List.getD_cons_zero, List.getD_cons_succ, List.getElem?_cons_zero, List.getElem?_cons_succ, Option.bind_some] at d7
            have d9 := hD 9 (by decide)
            simp only [fact, layAt, depOn, dstOf, List.map_cons, List.map_nil, List.foldl_cons, List.foldl_nil, List.getD_cons_zero, List.getD_cons_succ, List.getElem?_cons_zero, List.getElem?_cons_succ, Option.bind_some] at d9
            clear hD
            intro hN
            simp only [fact, layAt, depOn, dstOf, List.map_cons, List.map_nil, List.foldl_cons, List.foldl_nil, List.getD_cons_zero, List.getD_cons_succ, List.getElem?_cons_zero, List.getElem?_cons_succ, Option.bind_some, d7, d9] at hN ⊢
            go_simp
            have hh := hN _ _ rfl (.inl (Below.refl _ _))
            revert hh
            go_simp
          refine owed_cons (fun vs u hS hD N => ?_) ?_
          · have d7 := hD 7 (by decide)
            simp only [fact, layAt, depOn, dstOf, List.map_cons, List.map_nil, List.foldl_cons, List.foldl_nil, List.getD_cons_zero, List.getD_cons_succ, List.getElem?_cons_zero, List.getElem?_cons_succ, Option.bind_some] at d7
            have d10 := hD 10 (by decide)
            simp only [fact, layAt, depOn, dstOf, List.map_cons, List.map_nil, List.foldl_cons, List.foldl_nil, List.getD_cons_zero, List.getD_cons_succ, List.getElem?_cons_zero, List.getElem?_cons_succ, Option.bind_some] at d10
            clear hD
            intro hN
            simp only [fact, layAt, depOn, dstOf, List.map_cons, List.map_nil, List.foldl_cons, List.foldl_nil, List.getD_cons_zero, List.getD_cons_succ, List.getElem?_cons_zero, List.getElem?_cons_succ, Option.bind_some, d7, d10] at hN ⊢
            go_simp
            have hh := hN _ _ rfl (.inl (Below.refl _ _))
            revert hh
            go_simp
          refine owed_cons (fun vs u hS hD N => ?_) ?_
          · have d11 := hD 11 (by decide)
            simp only [fact, layAt, depOn, dstOf, List.map_cons, List.map_nil, List.foldl_cons, List.foldl_nil, List.getD_cons_zero, List.getD_cons_succ, List.getElem?_cons_zero, List.getElem?_cons_succ, Option.bind_some] at d11
            clear hD
            intro hN
            simp only [fact, layAt, depOn, dstOf, List.map_cons, List.map_nil, List.foldl_cons, List.foldl_nil, List.getD_cons_zero, List.getD_cons_succ, List.getElem?_cons_zero, List.getElem?_cons_succ, Option.bind_some, d11] at hN ⊢
            go_simp
            have hh := hN _ _ rfl (.inl (Below.refl _ _))
            revert hh
            go_simp
          refine owed_cons (fun vs u hS hD N => ?_) ?_
          · have d12 := hD 12 (by decide)
            simp only [fact, layAt, depOn, dstOf, List.map_cons, List.map_nil, List.foldl_cons, List.foldl_nil, List.getD_cons_zero, List.getD_cons_succ, List.getElem?_cons_zero, List.getElem?_cons_succ, Option.bind_some] at d12
            clear hD
            intro hN
            simp only [fact, layAt, depOn, dstOf, List.map_cons, List.map_nil, List.foldl_cons, List.foldl_nil, List.getD_cons_zero, List.getD_cons_succ, List.getElem?_cons_zero, List.getElem?_cons_succ, Option.bind_some, d12] at hN ⊢
            go_simp
            obtain ⟨e0, e1, e2, x0, x1, x2, _⟩ := EE _ hS
            go_simp
            have hh := hN _ _ rfl (.inl (Below.refl _ _))
            revert hh
            go_simp
          refine owed_cons (fun vs u hS hD N => ?_) ?_
          · have d12 := hD 12 (by decide)
            simp only [fact, layAt, depOn, dstOf, List.map_cons, List.map_nil, List.foldl_cons, List.foldl_nil, List.getD_cons_zero, List.getD_cons_succ, List.getElem?_cons_zero, List.getElem?_cons_succ, Option.bind_some] at d12
            have d13 := hD 13 (by decide)
            simp only [fact, layAt, depOn, dstOf, List.map_cons, List.map_nil, List.foldl_cons, List.foldl_nil, List.getD_cons_zero, List.getD_cons_succ, List.getElem?_cons_zero, List.getElem?_cons_succ, Option.bind_some] at d13
            clear hD
            intro hN
            simp only [fact, layAt, depOn, dstOf, List.map_cons, List.map_nil, List.foldl_cons, List.foldl_nil, List.getD_cons_zero, List.getD_cons_succ, List.getElem?_cons_zero, List.getElem?_cons_succ, Option.bind_some, d12, d13] at hN ⊢
            go_simp
            refine (C4 u hS).mono ?_
            rintro e u1 ⟨rfl, f⟩
            have hh := hN _ _ rfl (.inl f)
            revert hh
            go_simp
          refine owed_cons (fun vs u hS hD N => ?_) ?_
          · have d12 := hD 12 (by decide)
            simp only [fact, layAt, depOn, dstOf, List.map_cons, List.map_nil, List.foldl_cons, List.foldl_nil, List.getD_cons_zero, List.getD_cons_succ, List.getElem?_cons_zero, List.getElem?_cons_succ, Option.bind_some] at d12
            have d14 := hD 14 (by decide)
            simp only [fact, layAt, depOn, dstOf, List.map_cons, List.map_nil, List.foldl_cons, List.foldl_nil, List.getD_cons_zero, List.getD_cons_succ, List.getElem?_cons_zero, List.getElem?_cons_succ, Option.bind_some] at d14
            clear hD
            intro hN
            simp only [fact, layAt, depOn, dstOf, List.map_cons, List.map_nil, List.foldl_cons, List.foldl_nil, List.getD_cons_zero, List.getD_cons_succ, List.getElem?_cons_zero, List.getElem?_cons_succ, Option.bind_some, d12, d14] at hN ⊢
            go_simp
            have hh := hN _ _ rfl (.inl (Below.refl _ _))
            revert hh
            go_simp
          refine owed_cons (fun vs u hS hD N => ?_) ?_
          · have d12 := hD 12 (by decide)
            simp only [fact, layAt, depOn, dstOf, List.map_cons, List.map_nil, List.foldl_cons, List.foldl_nil, List.getD_cons_zero, List.getD_cons_succ, List.getElem?_cons_zero, List.getElem?_cons_succ, Option.bind_some] at d12
            have d15 := hD 15 (by decide)
            simp only [fact, layAt, depOn, dstOf, List.map_cons, List.map_nil, List.foldl_cons, List.foldl_nil, List.getD_cons_zero, List.getD_cons_succ, List.getElem?_cons_zero, List.getElem?_cons_succ, Option.bind_some] at d15
            clear hD
            intro hN
            simp only [fact, layAt, depOn, dstOf, List.map_cons, List.map_nil, List.foldl_cons, List.foldl_nil, List.getD_cons_zero, List.getD_cons_succ, List.getElem?_cons_zero, List.getElem?_cons_succ, Option.bind_some, d12, d15] at hN ⊢
            go_simp
            have hh := hN _ _ rfl (.inl (Below.refl _ _))
            revert hh
            go_simp
          refine owed_cons (fun vs u hS hD N => ?_) ?_
          · have d16 := hD 16 (by decide)
            simp only [fact, layAt, depOn, dstOf, List.map_cons, List.map_nil, List.foldl_cons, List.foldl_nil, List.getD_cons_zero, List.getD_cons_succ, List.getElem?_cons_zero, List.getElem?_cons_succ, Option.bind_some] at d16
            clear hD
            intro hN
            simp only [fact, layAt, depOn, dstOf, List.map_cons, List.map_nil, List.foldl_cons, List.foldl_nil, List.getD_cons_zero, List.getD_cons_succ, List.getElem?_cons_zero, List.getElem?_cons_succ, Option.bind_some, d16] at hN ⊢
            go_simp
            obtain ⟨e0, e1, e2, x0, x1, x2, _⟩ := EE _ hS
            go_simp
            have hh := hN _ _ rfl (.inl (Below.refl _ _))
            revert hh
            go_simp
          refine owed_cons (fun vs u hS hD N => ?_) ?_
          · have d16 := hD 16 (by decide)
            simp only [fact, layAt, depOn, dstOf, List.map_cons, List.map_nil, List.foldl_cons, List.foldl_nil, List.getD_cons_zero, List.getD_cons_succ, List.getElem?_cons_zero, List.getElem?_cons_succ, Option.bind_some] at d16
            have d17 := hD 17 (by decide)
            simp only [fact, layAt, depOn, dstOf, List.map_cons, List.map_nil, List.foldl_cons, List.foldl_nil, List.getD_cons_zero, List.getD_cons_succ, List.getElem?_cons_zero, List.getElem?_cons_succ, Option.bind_some] at d17
            clear hD
            intro hN
            simp only [fact, layAt, depOn, dstOf, List.map_cons, List.map_nil, List.foldl_cons, List.foldl_nil, List.getD_cons_zero, List.getD_cons_succ, List.getElem?_cons_zero, List.getElem?_cons_succ, Option.bind_some, d16, d17] at hN ⊢
            go_simp
            refine (C5 u hS).mono ?_
            rintro e u1 ⟨rfl, f⟩
            have hh := hN _ _ rfl (.inl f)
            revert hh
            go_simp
          refine owed_cons (fun vs u hS hD N => ?_) ?_
          · have d12 := hD 12 (by decide)
            simp only [fact, layAt, depOn, dstOf, List.map_cons, List.map_nil, List.foldl_cons, List.foldl_nil, List.getD_cons_zero, List.getD_cons_succ, List.getElem?_cons_zero, List.getElem?_cons_succ, Option.bind_some] at d12
            have d16 := hD 16 (by decide)
            simp only [fact, layAt, depOn, dstOf, List.map_cons, List.map_nil, List.foldl_cons, List.foldl_nil, List.getD_cons_zero, List.getD_cons_succ, List.getElem?_cons_zero, List.getElem?_cons_succ, Option.bind_some] at d16
            have d18 := hD 18 (by decide)
            simp only [fact, layAt, depOn, dstOf, List.map_cons, List.map_nil, List.foldl_cons, List.foldl_nil, List.getD_cons_zero, List.getD_cons_succ, List.getElem?_cons_zero, List.getElem?_cons_succ, Option.bind_some] at d18
            clear hD
            intro hN
            simp only [fact, layAt, depOn, dstOf, List.map_cons, List.map_nil, List.foldl_cons, List.foldl_nil, List.getD_cons_zero, List.getD_cons_succ, List.getElem?_cons_zero, List.getElem?_cons_succ, Option.bind_some, d12, d16, d18] at hN ⊢
            go_simp
            have hh := hN _ _ rfl (.inl (Below.refl _ _))
            revert hh
            go_simp
          refine owed_cons (fun vs u hS hD N => ?_) ?_
          · have d12 := hD 12 (by decide)
            simp only [fact, layAt, depOn, dstOf, List.map_cons, List.map_nil, List.foldl_cons, List.foldl_nil, List.getD_cons_zero, List.getD_cons_succ, List.getElem?_cons_zero, List.getElem?_cons_succ, Option.bind_some] at d12
            have d19 := hD 19 (by decide)
            simp only [fact, layAt, depOn, dstOf, List.map_cons, List.map_nil, List.foldl_cons, List.foldl_nil, List.getD_cons_zero, List.getD_cons_succ, List.getElem?_cons_zero, List.getElem?_cons_succ, Option.bind_some] at d19
            clear hD
            intro hN
            simp only [fact, layAt, depOn, dstOf, List.map_cons, List.map_nil, List.foldl_cons, List.foldl_nil, List.getD_cons_zero, List.getD_cons_succ, List.getElem?_cons_zero, List.getElem?_cons_succ, Option.bind_some, d12, d19] at hN ⊢
            go_simp
            have hh := hN _ _ rfl (.inl (Below.refl _ _))
            revert hh
            go_simp
          refine owed_cons (fun vs u hS hD N => ?_) ?_
          · have d20 := hD 20 (by decide)
            simp only [fact, layAt, depOn, dstOf, List.map_cons, List.map_nil, List.foldl_cons, List.foldl_nil, List.getD_cons_zero, List.getD_cons_succ, List.getElem?_cons_zero, List.getElem?_cons_succ, Option.bind_some] at d20
            clear hD
            intro hN
            simp only [fact, layAt, depOn, dstOf, List.map_cons, List.map_nil, List.foldl_cons, List.foldl_nil, List.getD_cons_zero, List.getD_cons_succ, List.getElem?_cons_zero, List.getElem?_cons_succ, Option.bind_some, d20] at hN ⊢
            go_simp
            have hh := hN _ _ rfl (.inl (Below.refl _ _))
            revert hh
            go_simp
          refine owed_cons (fun vs u hS hD N => ?_) ?_
          · have d21 := hD 21 (by decide)
            simp only [fact, layAt, depOn, dstOf, List.map_cons, List.map_nil, List.foldl_cons, List.foldl_nil, List.getD_cons_zero, List.getD_cons_succ, List.getElem?_cons_zero, List.getElem?_cons_succ, Option.bind_some] at d21
            clear hD
            intro hN
            simp only [fact, layAt, depOn, dstOf, List.map_cons, List.map_nil, List.foldl_cons, List.foldl_nil, List.getD_cons_zero, List.getD_cons_succ, List.getElem?_cons_zero, List.getElem?_cons_succ, Option.bind_some, d21] at hN ⊢
            go_simp
            refine (awake12_any u).mono ?_
            rintro e u1 ⟨rfl, f⟩
            have hh := hN _ _ rfl (.inl f)
            revert hh
            go_simp
          refine owed_cons (fun vs u hS hD N => ?_) ?_
          · have d21 := hD 21 (by decide)
            simp only [fact, layAt, depOn, dstOf, List.map_cons, List.map_nil, List.foldl_cons, List.foldl_nil, List.getD_cons_zero, List.getD_cons_succ, List.getElem?_cons_zero, List.getElem?_cons_succ, Option.bind_some] at d21
            have d22 := hD 22 (by decide)
            simp only [fact, layAt, depOn, dstOf, List.map_cons, List.map_nil, List.foldl_cons, List.foldl_nil, List.getD_cons_zero, List.getD_cons_succ, List.getElem?_cons_zero, List.getElem?_cons_succ, Option.bind_some] at d22
            clear hD
            intro hN
            simp only [fact, layAt, depOn, dstOf, List.map_cons, List.map_nil, List.foldl_cons, List.foldl_nil, List.getD_cons_zero, List.getD_cons_succ, List.getElem?_cons_zero, List.getElem?_cons_succ, Option.bind_some, d21, d22] at hN ⊢
            go_simp
            have hh := hN _ _ rfl (.inl (Below.refl _ _))
            revert hh
            go_simp
          refine owed_cons (fun vs u hS hD N => ?_) ?_
          · have d23 := hD 23 (by decide)
            simp only [fact, layAt, depOn, dstOf, List.map_cons, List.map_nil, List.foldl_cons, List.foldl_nil, List.getD_cons_zero, List.getD_cons_succ, List.getElem?_cons_zero, List.getElem?_cons_succ, Option.bind_some] at d23
            clear hD
            intro hN
            simp only [fact, layAt, depOn, dstOf, List.map_cons, List.map_nil, List.foldl_cons, List.foldl_nil, List.getD_cons_zero, List.getD_cons_succ, List.getElem?_cons_zero, List.getElem?_cons_succ, Option.bind_some, d23] at hN ⊢
            go_simp
            have hh := hN _ _ rfl (.inl (Below.refl _ _))
            revert hh
            go_simp
          exact owed_nil
        ·
          intro vs u hS hF
          have d24 := hF 24 (by decide) (by decide)
          simp only [fact, layAt, depOn, dstOf, List.map_cons, List.map_nil, List.foldl_cons, List.foldl_nil, List.getD_cons_zero, List.getD_cons_succ, List.getElem?_cons_zero, List.getElem?_cons_succ, Option.bind_some] at d24
          clear hF
          simp only [List.length_cons, List.length_nil, Nat.reduceAdd, List.range, List.range.loop, fact, layAt, depOn, dstOf, List.map_cons, List.map_nil, List.foldl_cons, List.foldl_nil, List.getD_cons_zero, List.getD_cons_succ, List.getElem?_cons_zero, List.getElem?_cons_succ, Option.bind_some, d24]
          go_simp
          go_wp2_with fail
          go_ret
          exact ⟨rfl, FZ.trans (hS.mono FZ.size)⟩
      · refine wp_region_facts (fun u => Below wr.heap.size wr u) [
            fun v _ => v = .agg #[.slice A1 n1 c1, .slice A2 n2 c2, .slice A3 n3 c3],
            fun v _ => v = .bool true,
            fun v _ => v = .agg #[.slice A1' n1' c1', .slice A2' n2 c2', .slice none 0 0],
            fun v _ => v = .agg #[.slice A1 n1 c1, .slice A2 n2 c2, .slice A3 n3 c3],
            fun v _ => v = .bool false,
            fun v _ => v = .bool true,
            fun v _ => v = .bool true,
            fun v _ => v = .bool true,
            fun v _ => v = .agg #[.slice A1' n1' c1', .slice A2' n2 c2', .slice none 0 0],
            fun v _ => v = .bool false,
            fun v _ => v = .bool true,
            fun v _ => v = .bool true,
            fun v _ => v = .bool true,
            fun v _ => v = .agg #[.slice A1 n1 c1, .slice A2 n2 c2, .slice A3 n3 c3],
            fun v _ => v = .bool false,
            fun v _ => v = .bool true,
            fun v _ => v = .bool true,
            fun v _ => v = undef,
            fun v _ => v = undef,
            fun v _ => v = .bool true,
            fun v _ => v = .bool true,
            fun v _ => v = .bool true,
            fun v _ => v = .bool true,
            fun v _ => v = .bool true,
            fun v _ => v = .bool true] (fun u u' => Below u.heap.size u u')
            [[], [0], [], [], [2, 3], [4], [1, 5], [6], [7], [7, 8], [7, 9], [7, 10], [11], [12], [12, 13], [12, 14], [12, 15], [16], [16, 17], [12, 16, 18], [12, 19], [20], [21], [21, 22], [23]] []
            (by kernel_rfl) (by kernel_rfl) ?_ (fun _ _ _ _ _ h => h) ((Below.refl _ _).drew) ?_ ?_
        · refine hE_of (fun u u' h f => f.trans (h.mono f.size)) ?_
          repeat' (first | exact mono_nil | refine mono_cons (fun v u u' h => ?_) ?_)
          all_goals first | exact _root_.id
        ·
          refine owed_cons (fun vs u hS hD N => ?_) ?_
          · clear hD
            intro hN
            simp only [fact, layAt, depOn, dstOf, List.map_cons, List.map_nil, List.foldl_cons, List.foldl_nil, List.getD_cons_zero, List.getD_cons_succ, List.getElem?_cons_zero, List.getElem?_cons_succ, Option.bind_some] at hN ⊢
            go_simp
            obtain ⟨e0, e1, e2, x0, x1, x2, _⟩ := EE _ hS
            go_simp
            have hh := hN _ _ rfl (.inl (Below.refl _ _))
            revert hh
            go_simp
          refine owed_cons (fun vs u hS hD N => ?_) ?_
          · have d0 := hD 0 (by decide)
            simp only [fact, layAt, depOn, dstOf, List.map_cons, List.map_nil, List.foldl_cons, List.foldl_nil, List.getD_cons_zero, List.getD_cons_succ, List.getElem?_cons_zero, List.getElem?_cons_succ, Option.bind_some] at d0
            clear hD
            intro hN
            simp only [fact, layAt, depOn, dstOf, List.map_cons, List.map_nil, List.foldl_cons, List.foldl_nil, List.getD_cons_zero, List.getD_cons_succ, List.getElem?_cons_zero, List.getElem?_cons_succ, Option.bind_some, d0] at hN ⊢
            go_simp
            refine (C1 u hS).mono ?_
            rintro e u1 ⟨rfl, f⟩
            have hh := hN _ _ rfl (.inl f)
            revert hh
            go_simp
          refine owed_cons (fun vs u hS hD N => ?_) ?_
          · clear hD
            intro hN
            simp only [fact, layAt, depOn, dstOf, List.map_cons, List.map_nil, List.foldl_cons, List.foldl_nil, List.getD_cons_zero, List.getD_cons_succ, List.getElem?_cons_zero, List.getElem?_cons_succ, Option.bind_some] at hN ⊢
            go_simp
            obtain ⟨e0, e1, e2, x0, x1, x2, _⟩ := EE _ hS
            go_simp
            have hh := hN _ _ rfl (.inl (Below.refl _ _))
            revert hh
            go_simp
          refine owed_cons (fun vs u hS hD N => ?_) ?_
          · clear hD
            intro hN
            simp only [fact, layAt, depOn, dstOf, List.map_cons, List.map_nil, List.foldl_cons, List.foldl_nil, List.getD_cons_zero, List.getD_cons_succ, List.getElem?_cons_zero, List.getElem?_cons_succ, Option.bind_some] at hN ⊢
            go_simp
            obtain ⟨e0, e1, e2, x0, x1, x2, _⟩ := EE _ hS
            go_simp
            have hh := hN _ _ rfl (.inl (Below.refl _ _))
            revert hh
            go_simp
          refine owed_cons (fun vs u hS hD N => ?_) ?_
          · have d2 := hD 2 (by decide)
            simp only [fact, layAt, depOn, dstOf, List.map_cons, List.map_nil, List.foldl_cons, List.foldl_nil, List.getD_cons_zero, List.getD_cons_succ, List.getElem?_cons_zero, List.getElem?_cons_succ, Option.bind_some] at d2
            have d3 := hD 3 (by decide)
            simp only [fact, layAt, depOn, dstOf, List.map_cons, List.map_nil, List.foldl_cons, List.foldl_nil, List.getD_cons_zero, List.getD_cons_succ, List.getElem?_cons_zero, List.getElem?_cons_succ, Option.bind_some] at d3
            clear hD
            intro hN
            simp only [fact, layAt, depOn, dstOf, List.map_cons, List.map_nil, List.foldl_cons, List.foldl_nil, List.getD_cons_zero, List.getD_cons_succ, List.getElem?_cons_zero, List.getElem?_cons_succ, Option.bind_some, d2, d3] at hN ⊢
            go_simp
            refine (C2 u hS).mono ?_
            rintro e u1 ⟨rfl, f⟩
            have hh := hN _ _ rfl (.inl f)
            revert hh
            go_simp
          refine owed_cons (fun vs u hS hD N => ?_) ?_
          · have d4 := hD 4 (by decide)
            simp only [fact, layAt, depOn, dstOf, List.map_cons, List.map_nil, List.foldl_cons, List.foldl_nil, List.getD_cons_zero, List.getD_cons_succ, List.getElem?_cons_zero, List.getElem?_cons_succ, Option.bind_some] at d4
            clear hD
            intro hN
            simp only [fact, layAt, depOn, dstOf, List.map_cons, List.map_nil, List.foldl_cons, List.foldl_nil, List.getD_cons_zero, List.getD_cons_succ, List.getElem?_cons_zero, List.getElem?_cons_succ, Option.bind_some, d4] at hN ⊢
            go_simp
            have hh := hN _ _ rfl (.inl (Below.refl _ _))
            revert hh
            go_simp
          refine owed_cons (fun vs u hS hD N => ?_) ?_
          · have d1 := hD 1 (by decide)
            simp only [fact, layAt, depOn, dstOf, List.map_cons, List.map_nil, List.foldl_cons, List.foldl_nil, List.getD_cons_zero, List.getD_cons_succ, List.getElem?_cons_zero, List.getElem?_cons_succ, Option.bind_some] at d1
            have d5 := hD 5 (by decide)
            simp only [fact, layAt, depOn, dstOf, List.map_cons, List.map_nil, List.foldl_cons, List.foldl_nil, List.getD_cons_zero, List.getD_cons_succ, List.getElem?_cons_zero, List.getElem?_cons_succ, Option.bind_some] at d5
            clear hD
            intro hN
            simp only [fact, layAt, depOn, dstOf, List.map_cons, List.map_nil, List.foldl_cons, List.foldl_nil, List.getD_cons_zero, List.getD_cons_succ, List.getElem?_cons_zero, List.getElem?_cons_succ, Option.bind_some, d1, d5] at hN ⊢
            go_simp
            have hh := hN _ _ rfl (.inl (Below.refl _ _))
            revert hh
            go_simp
          refine owed_cons (fun vs u hS hD N => ?_) ?_
          · have d6 := hD 6 (by decide)
            simp only [fact, layAt, depOn, dstOf, List.map_cons, List.map_nil, List.foldl_cons, List.foldl_nil, List.getD_cons_zero, List.getD_cons_succ, List.getElem?_cons_zero, List.getElem?_cons_succ, Option.bind_some] at d6
            clear hD
            intro hN
            simp only [fact, layAt, depOn, dstOf, List.map_cons, List.map_nil, List.foldl_cons, List.foldl_nil, List.getD_cons_zero, List.getD_cons_succ, List.getElem?_cons_zero, List.getElem?_cons_succ, Option.bind_some, d6] at hN ⊢
            go_simp
            have hh := hN _ _ rfl (.inl (Below.refl _ _))
            revert hh
            go_simp
          refine owed_cons (fun vs u hS hD N => ?_) ?_
          · have d7 := hD 7 (by decide)
            simp only [fact, layAt, depOn, dstOf, List.map_cons, List.map_nil, List.foldl_cons, List.foldl_nil, List.getD_cons_zero, List.getD_cons_succ, List.getElem?_cons_zero, List.getElem?_cons_succ, Option.bind_some] at d7
            clear hD
            intro hN
            simp only [fact, layAt, depOn, dstOf, List.map_cons, List.map_nil, List.foldl_cons, List.foldl_nil, List.getD_cons_zero, List.getD_cons_succ, List.getElem?_cons_zero, List.getElem?_cons_succ, Option.bind_some, d7] at hN ⊢
            go_simp
            obtain ⟨e0, e1, e2, x0, x1, x2, _⟩ := EE _ hS
            go_simp
            have hh := hN _ _ rfl (.inl (Below.refl _ _))
            revert hh
            go_simp
          refine owed_cons (fun vs u hS hD N => ?_) ?_
          · have d7 := hD 7 (by decide)
            simp only [fact, layAt, depOn, dstOf, List.map_cons, List.map_nil, List.foldl_cons, List.foldl_nil, List.getD_cons_zero, List.getD_cons_succ, List.getElem?_cons_zero, List.getElem?_cons_succ, Option.bind_some] at d7
            have d8 := hD 8 (by decide)
            simp only [fact, layAt, depOn, dstOf, List.map_cons, List.map_nil, List.foldl_cons, List.foldl_nil, List.getD_cons_zero, List.getD_cons_succ, List.getElem?_cons_zero, List.getElem?_cons_succ, Option.bind_some] at d8
            clear hD
            intro hN
            simp only [fact, layAt, depOn, dstOf, List.map_cons, List.map_nil, List.foldl_cons, List.foldl_nil, List.getD_cons_zero, List.getD_cons_succ, List.getElem?_cons_zero, List.getElem?_cons_succ, Option.bind_some, d7, d8] at hN ⊢
            go_simp
            refine (C3 u hS).mono ?_
            rintro e u1 ⟨rfl, f⟩
            have hh := hN _ _ rfl (.inl f)
            revert hh
            go_simp
          refine owed_cons (fun vs u hS hD N => ?_) ?_
          · have d7 := hD 7 (by decide)
            simp only [fact, layAt, depOn, dstOf, List.map_cons, List.map_nil, List.foldl_cons, List.foldl_nil, List.getD_cons_zero, List.getD_cons_succ, List.getElem?_cons_zero, List.getElem?_cons_succ, Option.bind_some] at d7
            have d9 := hD 9 (by decide)
            simp only [fact, layAt, depOn, dstOf, List.map_cons, List.map_nil, List.foldl_cons, List.foldl_nil, List.getD_cons_zero, List.getD_cons_succ, List.getElem?_cons_zero, List.getElem?_cons_succ, Option.bind_some] at d9
            clear hD
            intro hN
            simp only [fact, layAt, depOn, dstOf, List.map_cons, List.map_nil, List.foldl_cons, List.foldl_nil, List.getD_cons_zero, List.getD_cons_succ, List.getElem?_cons_zero, List.getElem?_cons_succ, Option.bind_some, d7, d9] at hN ⊢
            go_simp
            have hh := hN _ _ rfl (.inl (Below.refl _ _))
            revert hh
            go_simp
          refine owed_cons (fun vs u hS hD N => ?_) ?_
          · have d7 := hD 7 (by decide)
            simp only [fact, layAt, depOn, dstOf, List.map_cons, List.map_nil, List.foldl_cons, List.foldl_nil, List.getD_cons_zero, List.getD_cons_succ, List.getElem?_cons_zero, List.getElem?_cons_succ, Option.bind_some] at d7
            have d10 := hD 10 (by decide)
            simp only [fact, layAt, depOn, dstOf, List.map_cons, List.map_nil, List.foldl_cons, List.foldl_nil, List.getD_cons_zero, List.getD_cons_succ, List.getElem?_cons_zero, List.getElem?_cons_succ, Option.bind_some] at d10
            clear hD
            intro hN
            simp only [fact, layAt, depOn, dstOf, List.map_cons, List.map_nil, List.foldl_cons, List.foldl_nil, List.getD_cons_zero, List.getD_cons_succ, List.getElem?_cons_zero, List.getElem?_cons_succ, Option.bind_some, d7, d10] at hN ⊢
            go_simp
            have hh := hN _ _ rfl (.inl (Below.refl _ _))
            revert hh
            go_simp
          refine owed_cons (fun vs u hS hD N => ?_) ?_
          · have d11 := hD 11 (by decide)
            simp only [fact, layAt, depOn, dstOf, List.map_cons, List.map_nil, List.foldl_cons, List.foldl_nil, List.getD_cons_zero, List.getD_cons_succ, List.getElem?_cons_zero, List.getElem?_cons_succ, Option.bind_some] at d11
            clear hD
            intro hN
            simp only [fact, layAt, depOn, dstOf, List.map_cons, List.map_nil, List.foldl_cons, List.foldl_nil, List.getD_cons_zero, List.getD_cons_succ, List.getElem?_cons_zero, List.getElem?_cons_succ, Option.bind_some, d11] at hN ⊢
            go_simp
            have hh := hN _ _ rfl (.inl (Below.refl _ _))
            revert hh
            go_simp
          refine owed_cons (fun vs u hS hD N => ?_) ?_
          · have d12 := hD 12 (by decide)
            simp only [fact, layAt, depOn, dstOf, List.map_cons, List.map_nil, List.foldl_cons, List.foldl_nil, List.getD_cons_zero, List.getD_cons_succ, List.getElem?_cons_zero, List.getElem?_cons_succ, Option.bind_some] at d12
            clear hD
            intro hN
            simp only [fact, layAt, depOn, dstOf, List.map_cons, List.map_nil, List.foldl_cons, List.foldl_nil, List.getD_cons_zero, List.getD_cons_succ, List.getElem?_cons_zero, List.getElem?_cons_succ, Option.bind_some, d12] at hN ⊢
            go_simp
            obtain ⟨e0, e1, e2, x0, x1, x2, _⟩ := EE _ hS
            go_simp
            have hh := hN _ _ rfl (.inl (Below.refl _ _))
            revert hh
            go_simp
          refine owed_cons (fun vs u hS hD N => ?_) ?_
          · have d12 := hD 12 (by decide)
            simp only [fact, layAt, depOn, dstOf, List.map_cons, List.map_nil, List.foldl_cons, List.foldl_nil, List.getD_cons_zero, List.getD_cons_succ, List.getElem?_cons_zero, List.getElem?_cons_succ, Option.bind_some] at d12
            have d13 := hD 13 (by decide)
            simp only [fact, layAt, depOn, dstOf, List.map_cons, List.map_nil, List.foldl_cons, List.foldl_nil, List.getD_cons_zero, List.getD_cons_succ, List.getElem?_cons_zero, List.getElem?_cons_succ, Option.bind_some] at d13
            clear hD
            intro hN
            simp only [fact, layAt, depOn, dstOf, List.map_cons, List.map_nil, List.foldl_cons, List.foldl_nil, List.getD_cons_zero, List.getD_cons_succ, List.getElem?_cons_zero, List.getElem?_cons_succ, Option.bind_some, d12, d13] at hN ⊢
            go_simp
            refine (C4 u hS).mono ?_
            rintro e u1 ⟨rfl, f⟩
            have hh := hN _ _ rfl (.inl f)
            revert hh
            go_simp
          refine owed_cons (fun vs u hS hD N => ?_) ?_
          · have d12 := hD 12 (by decide)
            simp only [fact, layAt, depOn, dstOf, List.map_cons, List.map_nil, List.foldl_cons, List.foldl_nil, List.getD_cons_zero, List.getD_cons_succ, List.getElem?_cons_zero, List.getElem?_cons_succ, Option.bind_some] at d12
            have d14 := hD 14 (by decide)
            simp only [fact, layAt, depOn, dstOf, List.map_cons, List.map_nil, List.foldl_cons, List.foldl_nil, List.getD_cons_zero, List.getD_cons_succ, List.getElem?_cons_zero, List.getElem?_cons_succ, Option.bind_some] at d14
            clear hD
            intro hN
            simp only [fact, layAt, depOn, dstOf, List.map_cons, List.map_nil, List.foldl_cons, List.foldl_nil, List.getD_cons_zero, List.getD_cons_succ, List.getElem?_cons_zero, List.getElem?_cons_succ, Option.bind_some, d12, d14] at hN ⊢
            go_simp
            have hh := hN _ _ rfl (.inl (Below.refl _ _))
            revert hh
            go_simp
          refine owed_cons (fun vs u hS hD N => ?_) ?_
          · have d12 := hD 12 (by decide)
            simp only [fact, layAt, depOn, dstOf, List.map_cons, List.map_nil, List.foldl_cons, List.foldl_nil, List.getD_cons_zero, List.getD_cons_succ, List.getElem?_cons_zero, List.getElem?_cons_succ, Option.bind_some] at d12
            have d15 := hD 15 (by decide)
            simp only [fact, layAt, depOn, dstOf, List.map_cons, List.map_nil, List.foldl_cons, List.foldl_nil, List.getD_cons_zero, List.getD_cons_succ, List.getElem?_cons_zero, List.getElem?_cons_succ, Option.bind_some] at d15
            clear hD
            intro hN
            simp only [fact, layAt, depOn, dstOf, List.map_cons, List.map_nil, List.foldl_cons, List.foldl_nil, List.getD_cons_zero, List.getD_cons_succ, List.getElem?_cons_zero, List.getElem?_cons_succ, Option.bind_some, d12, d15] at hN ⊢
            go_simp
            have hh := hN _ _ rfl (.inl (Below.refl _ _))
            revert hh
            go_simp
          refine owed_cons (fun vs u hS hD N => ?_) ?_
          · have d16 := hD 16 (by decide)
            simp only [fact, layAt, depOn, dstOf, List.map_cons, List.map_nil, List.foldl_cons, List.foldl_nil, List.getD_cons_zero, List.getD_cons_succ, List.getElem?_cons_zero, List.getElem?_cons_succ, Option.bind_some] at d16
            clear hD
            intro hN
            simp only [fact, layAt, depOn, dstOf, List.map_cons, List.map_nil, List.foldl_cons, List.foldl_nil, List.getD_cons_zero, List.getD_cons_succ, List.getElem?_cons_zero, List.getElem?_cons_succ, Option.bind_some, d16] at hN ⊢
            go_simp
            have hh := hN _ _ rfl (.inl (Below.refl _ _))
            revert hh
            go_simp
          refine owed_cons (fun vs u hS hD N => ?_) ?_
          · have d16 := hD 16 (by decide)
            simp only [fact, layAt, depOn, dstOf, List.map_cons, List.map_nil, List.foldl_cons, List.foldl_nil, List.getD_cons_zero, List.getD_cons_succ, List.getElem?_cons_zero, List.getElem?_cons_succ, Option.bind_some] at d16
            have d17 := hD 17 (by decide)
            simp only [fact, layAt, depOn, dstOf, List.map_cons, List.map_nil, List.foldl_cons, List.foldl_nil, List.getD_cons_zero, List.getD_cons_succ, List.getElem?_cons_zero, List.getElem?_cons_succ, Option.bind_some] at d17
            clear hD
            intro hN
            simp only [fact, layAt, depOn, dstOf, List.map_cons, List.map_nil, List.foldl_cons, List.foldl_nil, List.getD_cons_zero, List.getD_cons_succ, List.getElem?_cons_zero, List.getElem?_cons_succ, Option.bind_some, d16, d17] at hN ⊢
            go_simp
            have hh := hN _ _ rfl (.inl (Below.refl _ _))
            revert hh
            go_simp
          refine owed_cons (fun vs u hS hD N => ?_) ?_
          · have d12 := hD 12 (by decide)
            simp only [fact, layAt, depOn, dstOf, List.map_cons, List.map_nil, List.foldl_cons, List.foldl_nil, List.getD_cons_zero, List.getD_cons_succ, List.getElem?_cons_zero, List.getElem?_cons_succ, Option.bind_some] at d12
            have d16 := hD 16 (by decide)
            simp only [fact, layAt, depOn, dstOf, List.map_cons, List.map_nil, List.foldl_cons, List.foldl_nil, List.getD_cons_zero, List.getD_cons_succ, List.getElem?_cons_zero, List.getElem?_cons_succ, Option.bind_some] at d16
            have d18 := hD 18 (by decide)
            simp only [fact, layAt, depOn, dstOf, List.map_cons, List.map_nil, List.foldl_cons, List.foldl_nil, List.getD_cons_zero, List.getD_cons_succ, List.getElem?_cons_zero, List.getElem?_cons_succ, Option.bind_some] at d18
            clear hD
            intro hN
            simp only [fact, layAt, depOn, dstOf, List.map_cons, List.map_nil, List.foldl_cons, List.foldl_nil, List.getD_cons_zero, List.getD_cons_succ, List.getElem?_cons_zero, List.getElem?_cons_succ, Option.bind_some, d12, d16, d18] at hN ⊢
            go_simp
            have hh := hN _ _ rfl (.inl (Below.refl _ _))
            revert hh
            go_simp
          refine owed_cons (fun vs u hS hD N => ?_) ?_
          · have d12 := hD 12 (by decide)
            simp only [fact, layAt, depOn, dstOf, List.map_cons, List.map_nil, List.foldl_cons, List.foldl_nil, List.getD_cons_zero, List.getD_cons_succ, List.getElem?_cons_zero, List.getElem?_cons_succ, Option.bind_some] at d12
            have d19 := hD 19 (by decide)
            simp only [fact, layAt, depOn, dstOf, List.map_cons, List.map_nil, List.foldl_cons, List.foldl_nil, List.getD_cons_zero, List.getD_cons_succ, List.getElem?_cons_zero, List.getElem?_cons_succ, Option.bind_some] at d19
            clear hD
            intro hN
            simp only [fact, layAt, depOn, dstOf, List.map_cons, List.map_nil, List.foldl_cons, List.foldl_nil, List.getD_cons_zero, List.getD_cons_succ, List.getElem?_cons_zero, List.getElem?_cons_succ, Option.bind_some, d12, d19] at hN ⊢
            go_simp
            have hh := hN _ _ rfl (.inl (Below.refl _ _))
            revert hh
            go_simp
          refine owed_cons (fun vs u hS hD N => ?_) ?_
          · have d20 := hD 20 (by decide)
            simp only [fact, layAt, depOn, dstOf, List.map_cons, List.map_nil, List.foldl_cons, List.foldl_nil, List.getD_cons_zero, List.getD_cons_succ, List.getElem?_cons_zero, List.getElem?_cons_succ, Option.bind_some] at d20
            clear hD
            intro hN
            simp only [fact, layAt, depOn, dstOf, List.map_cons, List.map_nil, List.foldl_cons, List.foldl_nil, List.getD_cons_zero, List.getD_cons_succ, List.getElem?_cons_zero, List.getElem?_cons_succ, Option.bind_some, d20] at hN ⊢
            go_simp
            have hh := hN _ _ rfl (.inl (Below.refl _ _))
            revert hh
            go_simp
          refine owed_cons (fun vs u hS hD N => ?_) ?_
          · have d21 := hD 21 (by decide)
            simp only [fact, layAt, depOn, dstOf, List.map_cons, List.map_nil, List.foldl_cons, List.foldl_nil, List.getD_cons_zero, List.getD_cons_succ, List.getElem?_cons_zero, List.getElem?_cons_succ, Option.bind_some] at d21
            clear hD
            intro hN
            simp only [fact, layAt, depOn, dstOf, List.map_cons, List.map_nil, List.foldl_cons, List.foldl_nil, List.getD_cons_zero, List.getD_cons_succ, List.getElem?_cons_zero, List.getElem?_cons_succ, Option.bind_some, d21] at hN ⊢
            go_simp
            refine (awake12_any u).mono ?_
            rintro e u1 ⟨rfl, f⟩
            have hh := hN _ _ rfl (.inl f)
            revert hh
            go_simp
          refine owed_cons (fun vs u hS hD N => ?_) ?_
          · have d21 := hD 21 (by decide)
            simp only [fact, layAt, depOn, dstOf, List.map_cons, List.map_nil, List.foldl_cons, List.foldl_nil, List.getD_cons_zero, List.getD_cons_succ, List.getElem?_cons_zero, List.getElem?_cons_succ, Option.bind_some] at d21
            have d22 := hD 22 (by decide)
            simp only [fact, layAt, depOn, dstOf, List.map_cons, List.map_nil, List.foldl_cons, List.foldl_nil, List.getD_cons_zero, List.getD_cons_succ, List.getElem?_cons_zero, List.getElem?_cons_succ, Option.bind_some] at d22
            clear hD
            intro hN
            simp only [fact, layAt, depOn, dstOf, List.map_cons, List.map_nil, List.foldl_cons, List.foldl_nil, List.getD_cons_zero, List.getD_cons_succ, List.getElem?_cons_zero, List.getElem?_cons_succ, Option.bind_some, d21, d22] at hN ⊢
            go_simp
            have hh := hN _ _ rfl (.inl (Below.refl _ _))
            revert hh
            go_simp
          refine owed_cons (fun vs u hS hD N => ?_) ?_
          · have d23 := hD 23 (by decide)
            simp only [fact, layAt, depOn, dstOf, List.map_cons, List.map_nil, List.foldl_cons, List.foldl_nil, List.getD_cons_zero, List.getD_cons_succ, List.getElem?_cons_zero, List.getElem?_cons_succ, Option.bind_some] at d23
            clear hD
            intro hN
            simp only [fact, layAt, depOn, dstOf, List.map_cons, List.map_nil, List.foldl_cons, List.foldl_nil, List.getD_cons_zero, List.getD_cons_succ, List.getElem?_cons_zero, List.getElem?_cons_succ, Option.bind_some, d23] at hN ⊢
            go_simp
            have hh := hN _ _ rfl (.inl (Below.refl _ _))
            revert hh
            go_simp
          exact owed_nil
        ·
          intro vs u hS hF
          have d24 := hF 24 (by decide) (by decide)
          simp only [fact, layAt, depOn, dstOf, List.map_cons, List.map_nil, List.foldl_cons, List.foldl_nil, List.getD_cons_zero, List.getD_cons_succ, List.getElem?_cons_zero, List.getElem?_cons_succ, Option.bind_some] at d24
          clear hF
          simp only [List.length_cons, List.length_nil, Nat.reduceAdd, List.range, List.range.loop, fact, layAt, depOn, dstOf, List.map_cons, List.map_nil, List.foldl_cons, List.foldl_nil, List.getD_cons_zero, List.getD_cons_succ, List.getElem?_cons_zero, List.getElem?_cons_succ, Option.bind_some, d24]
          go_simp
          go_wp2_with fail
          go_ret
          exact ⟨rfl, FZ.trans (hS.mono FZ.size)⟩
      · rw [hm5 rfl] at C5
        refine wp_region_facts (fun u => Below wr.heap.size wr u) [
            fun v _ => v = .agg #[.slice A1 n1 c1, .slice A2 n2 c2, .slice A3 n3 c3],
            fun v _ => v = .bool true,
            fun v _ => v = .agg #[.slice A1' n1' c1', .slice A2' n2 c2', .slice none 0 0],
            fun v _ => v = .agg #[.slice A1 n1 c1, .slice A2 n2 c2, .slice A3 n3 c3],
            fun v _ => v = .bool false,
            fun v _ => v = .bool true,
            fun v _ => v = .bool true,
            fun v _ => v = .bool true,
            fun v _ => v = .agg #[.slice A1' n1' c1', .slice A2' n2 c2', .slice none 0 0],
            fun v _ => v = .bool false,
            fun v _ => v = .bool true,
            fun v _ => v = .bool true,
            fun v _ => v = .bool true,
            fun v _ => v = .agg #[.slice A1 n1 c1, .slice A2 n2 c2, .slice A3 n3 c3],
            fun v _ => v = .bool true,
            fun v _ => v = .bool false,
            fun v _ => v = .bool false,
            fun v _ => v = .agg #[.slice A1' n1' c1', .slice A2' n2 c2', .slice none 0 0],
            fun v _ => v = .bool true,
            fun v _ => v = .bool true,
            fun v _ => v = .bool true,
            fun v _ => v = .bool true,
            fun v _ => v = .bool true,
            fun v _ => v = .bool true,
            fun v _ => v = .bool true] (fun u u' => Below u.heap.size u u')
            [[], [0], [], [], [2, 3], [4], [1, 5], [6], [7], [7, 8], [7, 9], [7, 10], [11], [12], [12, 13], [12, 14], [12, 15], [16], [16, 17], [12, 16, 18], [12, 19], [20], [21], [21, 22], [23]] []
            (by kernel_rfl) (by kernel_rfl) ?_ (fun _ _ _ _ _ h => h) ((Below.refl _ _).drew) ?_ ?_
        · refine hE_of (fun u u' h f => f.trans (h.mono f.size)) ?_
          repeat' (first | exact mono_nil | refine mono_cons (fun v u u' h => ?_) ?_)
          all_goals first | exact _root_.id
        ·
          refine owed_cons (fun vs u hS hD N => ?_) ?_
          · clear hD
            intro hN
            simp only [fact, layAt, depOn, dstOf, List.map_cons, List.map_nil, List.foldl_cons, List.foldl_nil, List.getD_cons_zero, List.getD_cons_succ, List.getElem?_cons_zero, List.getElem?_cons_succ, Option.bind_some] at hN ⊢
            go_simp
            obtain ⟨e0, e1, e2, x0, x1, x2, _⟩ := EE _ hS
            go_simp
            have hh := hN _ _ rfl (.inl (Below.refl _ _))
            revert hh
            go_simp
          refine owed_cons (fun vs u hS hD N => ?_) ?_
          · have d0 := hD 0 (by decide)
            simp only [fact, layAt, depOn, dstOf, List.map_cons, List.map_nil, List.foldl_cons, List.foldl_nil, List.getD_cons_zero, List.getD_cons_succ, List.getElem?_cons_zero, List.getElem?_cons_succ, Option.bind_some] at d0
            clear hD
            intro hN
            simp only [fact, layAt, depOn, dstOf, List.map_cons, List.map_nil, List.foldl_cons, List.foldl_nil, List.getD_cons_zero, List.getD_cons_succ, List.getElem?_cons_zero, List.getElem?_cons_succ, Option.bind_some, d0] at hN ⊢
            go_simp
            refine (C1 u hS).mono ?_
            rintro e u1 ⟨rfl, f⟩
            have hh := hN _ _ rfl (.inl f)
            revert hh
            go_simp
          refine owed_cons (fun vs u hS hD N => ?_) ?_
          · clear hD
            intro hN
            simp only [fact, layAt, depOn, dstOf, List.map_cons, List.map_nil, List.foldl_cons, List.foldl_nil, List.getD_cons_zero, List.getD_cons_succ, List.getElem?_cons_zero, List.getElem?_cons_succ, Option.bind_some] at hN ⊢
            go_simp
            obtain ⟨e0, e1, e2, x0, x1, x2, _⟩ := EE _ hS
            go_simp
            have hh := hN _ _ rfl (.inl (Below.refl _ _))
            revert hh
            go_simp
          refine owed_cons (fun vs u hS hD N => ?_) ?_
          · clear hD
            intro hN
            simp only [fact, layAt, depOn, dstOf, List.map_cons, List.map_nil, List.foldl_cons, List.foldl_nil, List.getD_cons_zero, List.getD_cons_succ, List.getElem?_cons_zero, List.getElem?_cons_succ, Option.bind_some] at hN ⊢
            go_simp
            obtain ⟨e0, e1, e2, x0, x1, x2, _⟩ := EE _ hS
            go_simp
            have hh := hN _ _ rfl (.inl (Below.refl _ _))
            revert hh
            go_simp
          refine owed_cons (fun vs u hS hD N => ?_) ?_
          · have d2 := hD 2 (by decide)
            simp only [fact, layAt, depOn, dstOf, List.map_cons, List.map_nil, List.foldl_cons, List.foldl_nil, List.getD_cons_zero, List.getD_cons_succ, List.getElem?_cons_zero, List.getElem?_cons_succ, Option.bind_some] at d2
            have d3 := hD 3 (by decide)
            simp only [fact, layAt, depOn, dstOf, List.map_cons, List.map_nil, List.foldl_cons, List.foldl_nil, List.getD_cons_zero, List.getD_cons_succ, List.getElem?_cons_zero, List.getElem?_cons_succ, Option.bind_some] at d3
            clear hD
            intro hN
            simp only [fact, layAt, depOn, dstOf, List.map_cons, List.map_nil, List.foldl_cons, List.foldl_nil, List.getD_cons_zero, List.getD_cons_succ, List.getElem?_cons_zero, List.getElem?_cons_succ, Option.bind_some, d2, d3] at hN ⊢
            go_simp
            refine (C2 u hS).mono ?_
            rintro e u1 ⟨rfl, f⟩
            have hh := hN _ _ rfl (.inl f)
            revert hh
            go_simp
          refine owed_cons (fun vs u hS hD N => ?_) ?_
          · have d4 := hD 4 (by decide)
            simp only [fact, layAt, depOn, dstOf, List.map_cons, List.map_nil, List.foldl_cons, List.foldl_nil, List.getD_cons_zero, List.getD_cons_succ, List.getElem?_cons_zero, List.getElem?_cons_succ, Option.bind_some] at d4
            clear hD
            intro hN
            simp only [fact, layAt, depOn, dstOf, List.map_cons, List.map_nil, List.foldl_cons, List.foldl_nil, List.getD_cons_zero, List.getD_cons_succ, List.getElem?_cons_zero, List.getElem?_cons_succ, Option.bind_some, d4] at hN ⊢
            go_simp
            have hh := hN _ _ rfl (.inl (Below.refl _ _))
            revert hh
            go_simp
          refine owed_cons (fun vs u hS hD N => ?_) ?_
          · have d1 := hD 1 (by decide)
            simp only [fact, layAt, depOn, dstOf, List.map_cons, List.map_nil, List.foldl_cons, List.foldl_nil, List.getD_cons_zero, List.getD_cons_succ, List.getElem?_cons_zero, List.getElem?_cons_succ, Option.bind_some] at d1
            have d5 := hD 5 (by decide)
            simp only [fact, layAt, depOn, dstOf, List.map_cons, List.map_nil, List.foldl_cons, List.foldl_nil, List.getD_cons_zero, List.getD_cons_succ, List.getElem?_cons_zero, List.getElem?_cons_succ, Option.bind_some] at d5
            clear hD
            intro hN
            simp only [fact, layAt, depOn, dstOf, List.map_cons, List.map_nil, List.foldl_cons, List.foldl_nil, List.getD_cons_zero, List.getD_cons_succ, List.getElem?_cons_zero, List.getElem?_cons_succ, Option.bind_some, d1, d5] at hN ⊢
            go_simp
            have hh := hN _ _ rfl (.inl (Below.refl _ _))
            revert hh
            go_simp
          refine owed_cons (fun vs u hS hD N => ?_) ?_
          · have d6 := hD 6 (by decide)
            simp only [fact, layAt, depOn, dstOf, List.map_cons, List.map_nil, List.foldl_cons, List.foldl_nil, List.getD_cons_zero, List.getD_cons_succ, List.getElem?_cons_zero, List.getElem?_cons_succ, Option.bind_some] at d6
            clear hD
            intro hN
            simp only [fact, layAt, depOn, dstOf, List.map_cons, List.map_nil, List.foldl_cons, List.foldl_nil, List.getD_cons_zero, List.getD_cons_succ, List.getElem?_cons_zero, List.getElem?_cons_succ, Option.bind_some, d6] at hN ⊢
            go_simp
            have hh := hN _ _ rfl (.inl (Below.refl _ _))
            revert hh
            go_simp
          refine owed_cons (fun vs u hS hD N => ?_) ?_
          · have d7 := hD 7 (by decide)
            simp only [fact, layAt, depOn, dstOf, List.map_cons, List.map_nil, List.foldl_cons, List.foldl_nil, List.getD_cons_zero, List.getD_cons_succ, List.getElem?_cons_zero, List.getElem?_cons_succ, Option.bind_some] at d7
            clear hD
            intro hN
            simp only [fact, layAt, depOn, dstOf, List.map_cons, List.map_nil, List.foldl_cons, List.foldl_nil, List.getD_cons_zero, List.getD_cons_succ, List.getElem?_cons_zero, List.getElem?_cons_succ, Option.bind_some, d7] at hN ⊢
            go_simp
            obtain ⟨e0, e1, e2, x0, x1, x2, _⟩ := EE _ hS
            go_simp
            have hh := hN _ _ rfl (.inl (Below.refl _ _))
            revert hh
            go_simp
          refine owed_cons (fun vs u hS hD N => ?_) ?_
          · have d7 := hD 7 (by decide)
            simp only [fact, layAt, depOn, dstOf, List.map_cons, List.map_nil, List.foldl_cons, List.foldl_nil, List.getD_cons_zero, List.getD_cons_succ, List.getElem?_cons_zero, List.getElem?_cons_succ, Option.bind_some] at d7
            have d8 := hD 8 (by decide)
            simp only [fact, layAt, depOn, dstOf, List.map_cons, List.map_nil, List.foldl_cons, List.foldl_nil, List.getD_cons_zero, List.getD_cons_succ, List.getElem?_cons_zero, List.getElem?_cons_succ, Option.bind_some] at d8
            clear hD
            intro hN
            simp only [fact, layAt, depOn, dstOf, List.map_cons, List.map_nil, List.foldl_cons, List.foldl_nil, List.getD_cons_zero, List.getD_cons_succ, List.getElem?_cons_zero, List.getElem?_cons_succ, Option.bind_some, d7, d8] at hN ⊢
            go_simp
            refine (C3 u hS).mono ?_
            rintro e u1 ⟨rfl, f⟩
            have hh := hN _ _ rfl (.inl f)
            revert hh
            go_simp
          refine owed_cons (fun vs u hS hD N => ?_) ?_
          · have d7 := hD 7 (by decide)
            simp only [fact, layAt, depOn, dstOf, List.map_cons, List.map_nil, List.foldl_cons, List.foldl_nil, List.getD_cons_zero, List.getD_cons_succ, List.getElem?_cons_zero, List.getElem?_cons_succ, Option.bind_some] at d7
            have d9 := hD 9 (by decide)
            simp only [fact, layAt, depOn, dstOf, List.map_cons, List.map_nil, List.foldl_cons, List.foldl_nil, List.getD_cons_zero, List.getD_cons_succ, List.getElem?_cons_zero, List.getElem?_cons_succ, Option.bind_some] at d9
            clear hD
            intro hN
            simp only [fact, layAt, depOn, dstOf, List.map_cons, List.map_nil, List.foldl_cons, List.foldl_nil, List.getD_cons_zero, List.getD_cons_succ, List.getElem?_cons_zero, List.getElem?_cons_succ, Option.bind_some, d7, d9] at hN ⊢
            go_simp
            have hh := hN _ _ rfl (.inl (Below.refl _ _))
            revert hh
            go_simp
          refine owed_cons (fun vs u hS hD N => ?_) ?_
          · have d7 := hD 7 (by decide)
            simp only [fact, layAt, depOn, dstOf, List.map_cons, List.map_nil, List.foldl_cons, List.foldl_nil, List.getD_cons_zero, List.getD_cons_succ, List.getElem?_cons_zero, List.getElem?_cons_succ, Option.bind_some] at d7
            have d10 := hD 10 (by decide)
            simp only [fact, layAt, depOn, dstOf, List.map_cons, List.map_nil, List.foldl_cons, List.foldl_nil, List.getD_cons_zero, List.getD_cons_succ, List.getElem?_cons_zero, List.getElem?_cons_succ, Option.bind_some] at d10
            clear hD
            intro hN
            simp only [fact, layAt, depOn, dstOf, List.map_cons, List.map_nil, List.foldl_cons, List.foldl_nil, List.getD_cons_zero, List.getD_cons_succ, List.getElem?_cons_zero, List.getElem?_cons_succ, Option.bind_some, d7, d10] at hN ⊢
            go_simp
            have hh := hN _ _ rfl (.inl (Below.refl _ _))
            revert hh
            go_simp
          refine owed_cons (fun vs u hS hD N => ?_) ?_
          · have d11 := hD 11 (by decide)
            simp only [fact, layAt, depOn, dstOf, List.map_cons, List.map_nil, List.foldl_cons, List.foldl_nil, List.getD_cons_zero, List.getD_cons_succ, List.getElem?_cons_zero, List.getElem?_cons_succ, Option.bind_some] at d11
            clear hD
            intro hN
            simp only [fact, layAt, depOn, dstOf, List.map_cons, List.map_nil, List.foldl_cons, List.foldl_nil, List.getD_cons_zero, List.getD_cons_succ, List.getElem?_cons_zero, List.getElem?_cons_succ, Option.bind_some, d11] at hN ⊢
            go_simp
            have hh := hN _ _ rfl (.inl (Below.refl _ _))
            revert hh
            go_simp
          refine owed_cons (fun vs u hS hD N => ?_) ?_
          · have d12 := hD 12 (by decide)
            simp only [fact, layAt, depOn, dstOf, List.map_cons, List.map_nil, List.foldl_cons, List.foldl_nil, List.getD_cons_zero, List.getD_cons_succ, List.getElem?_cons_zero, List.getElem?_cons_succ, Option.bind_some] at d12
            clear hD
            intro hN
            simp only [fact, layAt, depOn, dstOf, List.map_cons, List.map_nil, List.foldl_cons, List.foldl_nil, List.getD_cons_zero, List.getD_cons_succ, List.getElem?_cons_zero, List.getElem?_cons_succ, Option.bind_some, d12] at hN ⊢
            go_simp
            obtain ⟨e0, e1, e2, x0, x1, x2, _⟩ := EE _ hS
            go_simp
            have hh := hN _ _ rfl (.inl (Below.refl _ _))
            revert hh
            go_simp
          refine owed_cons (fun vs u hS hD N => ?_) ?_
          · have d12 := hD 12 (by decide)
            simp only [fact, layAt, depOn, dstOf, List.map_cons, List.map_nil, List.foldl_cons, List.foldl_nil, List.getD_cons_zero, List.getD_cons_succ, List.getElem?_cons_zero, List.getElem?_cons_succ, Option.bind_some] at d12
            have d13 := hD 13 (by decide)
            simp only [fact, layAt, depOn, dstOf, List.map_cons, List.map_nil, List.foldl_cons, List.foldl_nil, List.getD_cons_zero, List.getD_cons_succ, List.getElem?_cons_zero, List.getElem?_cons_succ, Option.bind_some] at d13
            clear hD
            intro hN
            simp only [fact, layAt, depOn, dstOf, List.map_cons, List.map_nil, List.foldl_cons, List.foldl_nil, List.getD_cons_zero, List.getD_cons_succ, List.getElem?_cons_zero, List.getElem?_cons_succ, Option.bind_some, d12, d13] at hN ⊢
            go_simp
            refine (C4 u hS).mono ?_
            rintro e u1 ⟨rfl, f⟩
            have hh := hN _ _ rfl (.inl f)
            revert hh
            go_simp
          refine owed_cons (fun vs u hS hD N => ?_) ?_
          · have d12 := hD 12 (by decide)
            simp only [fact, layAt, depOn, dstOf, List.map_cons, List.map_nil, List.foldl_cons, List.foldl_nil, List.getD_cons_zero, List.getD_cons_succ, List.getElem?_cons_zero, List.getElem?_cons_succ, Option.bind_some] at d12
            have d14 := hD 14 (by decide)
            simp only [fact, layAt, depOn, dstOf, List.map_cons, List.map_nil, List.foldl_cons, List.foldl_nil, List.getD_cons_zero, List.getD_cons_succ, List.getElem?_cons_zero, List.getElem?_cons_succ, Option.bind_some] at d14
            clear hD
            intro hN
            simp only [fact, layAt, depOn, dstOf, List.map_cons, List.map_nil, List.foldl_cons, List.foldl_nil, List.getD_cons_zero, List.getD_cons_succ, List.getElem?_cons_zero, List.getElem?_cons_succ, Option.bind_some, d12, d14] at hN ⊢
            go_simp
            have hh := hN _ _ rfl (.inl (Below.refl _ _))
            revert hh
            go_simp
          refine owed_cons (fun vs u hS hD N => ?_) ?_
          · have d12 := hD 12 (by decide)
            simp only [fact, layAt, depOn, dstOf, List.map_cons, List.map_nil, List.foldl_cons, List.foldl_nil, List.getD_cons_zero, List.getD_cons_succ, List.getElem?_cons_zero, List.getElem?_cons_succ, Option.bind_some] at d12
            have d15 := hD 15 (by decide)
            simp only [fact, layAt, depOn, dstOf, List.map_cons, List.map_nil, List.foldl_cons, List.foldl_nil, List.getD_cons_zero, List.getD_cons_succ, List.getElem?_cons_zero, List.getElem?_cons_succ, Option.bind_some] at d15
            clear hD
            intro hN
            simp only [fact, layAt, depOn, dstOf, List.map_cons, List.map_nil, List.foldl_cons, List.foldl_nil, List.getD_cons_zero, List.getD_cons_succ, List.getElem?_cons_zero, List.getElem?_cons_succ, Option.bind_some, d12, d15] at hN ⊢
            go_simp
            have hh := hN _ _ rfl (.inl (Below.refl _ _))
            revert hh
            go_simp
          refine owed_cons (fun vs u hS hD N => ?_) ?_
          · have d16 := hD 16 (by decide)
            simp only [fact, layAt, depOn, dstOf, List.map_cons, List.map_nil, List.foldl_cons, List.foldl_nil, List.getD_cons_zero, List.getD_cons_succ, List.getElem?_cons_zero, List.getElem?_cons_succ, Option.bind_some] at d16
            clear hD
            intro hN
            simp only [fact, layAt, depOn, dstOf, List.map_cons, List.map_nil, List.foldl_cons, List.foldl_nil, List.getD_cons_zero, List.getD_cons_succ, List.getElem?_cons_zero, List.getElem?_cons_succ, Option.bind_some, d16] at hN ⊢
            go_simp
            obtain ⟨e0, e1, e2, x0, x1, x2, _⟩ := EE _ hS
            go_simp
            have hh := hN _ _ rfl (.inl (Below.refl _ _))
            revert hh
            go_simp
          refine owed_cons (fun vs u hS hD N => ?_) ?_
          · have d16 := hD 16 (by decide)
            simp only [fact, layAt, depOn, dstOf, List.map_cons, List.map_nil, List.foldl_cons, List.foldl_nil, List.getD_cons_zero, List.getD_cons_succ, List.getElem?_cons_zero, List.getElem?_cons_succ, Option.bind_some] at d16
            have d17 := hD 17 (by decide)
            simp only [fact, layAt, depOn, dstOf, List.map_cons, List.map_nil, List.foldl_cons, List.foldl_nil, List.getD_cons_zero, List.getD_cons_succ, List.getElem?_cons_zero, List.getElem?_cons_succ, Option.bind_some] at d17
            clear hD
            intro hN
            simp only [fact, layAt, depOn, dstOf, List.map_cons, List.map_nil, List.foldl_cons, List.foldl_nil, List.getD_cons_zero, List.getD_cons_succ, List.getElem?_cons_zero, List.getElem?_cons_succ, Option.bind_some, d16, d17] at hN ⊢
            go_simp
            refine (C5 u hS).mono ?_
            rintro e u1 ⟨rfl, f⟩
            have hh := hN _ _ rfl (.inl f)
            revert hh
            go_simp
          refine owed_cons (fun vs u hS hD N => ?_) ?_
          · have d12 := hD 12 (by decide)
            simp only [fact, layAt, depOn, dstOf, List.map_cons, List.map_nil, List.foldl_cons, List.foldl_nil, List.getD_cons_zero, List.getD_cons_succ, List.getElem?_cons_zero, List.getElem?_cons_succ, Option.bind_some] at d12
            have d16 := hD 16 (by decide)
            simp only [fact, layAt, depOn, dstOf, List.map_cons, List.map_nil, List.foldl_cons, List.foldl_nil, List.getD_cons_zero, List.getD_cons_succ, List.getElem?_cons_zero, List.getElem?_cons_succ, Option.bind_some] at d16
            have d18 := hD 18 (by decide)
            simp only [fact, layAt, depOn, dstOf, List.map_cons, List.map_nil, List.foldl_cons, List.foldl_nil, List.getD_cons_zero, List.getD_cons_succ, List.getElem?_cons_zero, List.getElem?_cons_succ, Option.bind_some] at d18
            clear hD
            intro hN
            simp only [fact, layAt, depOn, dstOf, List.map_cons, List.map_nil, List.foldl_cons, List.foldl_nil, List.getD_cons_zero, List.getD_cons_succ, List.getElem?_cons_zero, List.getElem?_cons_succ, Option.bind_some, d12, d16, d18] at hN ⊢
            go_simp
            have hh := hN _ _ rfl (.inl (Below.refl _ _))
            revert hh
            go_simp
          refine owed_cons (fun vs u hS hD N => ?_) ?_
          · have d12 := hD 12 (by decide)
            simp only [fact, layAt, depOn, dstOf, List.map_cons, List.map_nil, List.foldl_cons, List.foldl_nil, List.getD_cons_zero, List.getD_cons_succ, List.getElem?_cons_zero, List.getElem?_cons_succ, Option.bind_some] at d12
            have d19 := hD 19 (by decide)
            simp only [fact, layAt, depOn, dstOf, List.map_cons, List.map_nil, List.foldl_cons, List.foldl_nil, List.getD_cons_zero, List.getD_cons_succ, List.getElem?_cons_zero, List.getElem?_cons_succ, Option.bind_some] at d19
            clear hD
            intro hN
            simp only [fact, layAt, depOn, dstOf, List.map_cons, List.map_nil, List.foldl_cons, List.foldl_nil, List.getD_cons_zero, List.getD_cons_succ, List.getElem?_cons_zero, List.getElem?_cons_succ, Option.bind_some, d12, d19] at hN ⊢
            go_simp
            have hh := hN _ _ rfl (.inl (Below.refl _ _))
            revert hh
            go_simp
          refine owed_cons (fun vs u hS hD N => ?_) ?_
          · have d20 := hD 20 (by decide)
            simp only [fact, layAt, depOn, dstOf, List.map_cons, List.map_nil, List.foldl_cons, List.foldl_nil, List.getD_cons_zero, List.getD_cons_succ, List.getElem?_cons_zero, List.getElem?_cons_succ, Option.bind_some] at d20
            clear hD
            intro hN
            simp only [fact, layAt, depOn, dstOf, List.map_cons, List.map_nil, List.foldl_cons, List.foldl_nil, List.getD_cons_zero, List.getD_cons_succ, List.getElem?_cons_zero, List.getElem?_cons_succ, Option.bind_some, d20] at hN ⊢
            go_simp
            have hh := hN _ _ rfl (.inl (Below.refl _ _))
            revert hh
            go_simp
          refine owed_cons (fun vs u hS hD N => ?_) ?_
          · have d21 := hD 21 (by decide)
            simp only [fact, layAt, depOn, dstOf, List.map_cons, List.map_nil, List.foldl_cons, List.foldl_nil, List.getD_cons_zero, List.getD_cons_succ, List.getElem?_cons_zero, List.getElem?_cons_succ, Option.bind_some] at d21
            clear hD
            intro hN
            simp only [fact, layAt, depOn, dstOf, List.map_cons, List.map_nil, List.foldl_cons, List.foldl_nil, List.getD_cons_zero, List.getD_cons_succ, List.getElem?_cons_zero, List.getElem?_cons_succ, Option.bind_some, d21] at hN ⊢
            go_simp
            refine (awake12_any u).mono ?_
            rintro e u1 ⟨rfl, f⟩
            have hh := hN _ _ rfl (.inl f)
            revert hh
            go_simp
          refine owed_cons (fun vs u hS hD N => ?_) ?_
          · have d21 := hD 21 (by decide)
            simp only [fact, layAt, depOn, dstOf, List.map_cons, List.map_nil, List.foldl_cons, List.foldl_nil, List.getD_cons_zero, List.getD_cons_succ, List.getElem?_cons_zero, List.getElem?_cons_succ, Option.bind_some] at d21
            have d22 := hD 22 (by decide)
            simp only [fact, layAt, depOn, dstOf, List.map_cons, List.map_nil, List.foldl_cons, List.foldl_nil, List.getD_cons_zero, List.getD_cons_succ, List.getElem?_cons_zero, List.getElem?_cons_succ, Option.bind_some] at d22
            clear hD
            intro hN
            simp only [fact, layAt, depOn, dstOf, List.map_cons, List.map_nil, List.foldl_cons, List.foldl_nil, List.getD_cons_zero, List.getD_cons_succ, List.getElem?_cons_zero, List.getElem?_cons_succ, Option.bind_some, d21, d22] at hN ⊢
            go_simp
            have hh := hN _ _ rfl (.inl (Below.refl _ _))
            revert hh
            go_simp
          refine owed_cons (fun vs u hS hD N => ?_) ?_
          · have d23 := hD 23 (by decide)
            simp only [fact, layAt, depOn, dstOf, List.map_cons, List.map_nil, List.foldl_cons, List.foldl_nil, List.getD_cons_zero, List.getD_cons_succ, List.getElem?_cons_zero, List.getElem?_cons_succ, Option.bind_some] at d23
            clear hD
            intro hN
            simp only [fact, layAt, depOn, dstOf, List.map_cons, List.map_nil, List.foldl_cons, List.foldl_nil, List.getD_cons_zero, List.getD_cons_succ, List.getElem?_cons_zero, List.getElem?_cons_succ, Option.bind_some, d23] at hN ⊢
            go_simp
            have hh := hN _ _ rfl (.inl (Below.refl _ _))
            revert hh
            go_simp
          exact owed_nil
        ·
          intro vs u hS hF
          have d24 := hF 24 (by decide) (by decide)
          simp only [fact, layAt, depOn, dstOf, List.map_cons, List.map_nil, List.foldl_cons, List.foldl_nil, List.getD_cons_zero, List.getD_cons_succ, List.getElem?_cons_zero, List.getElem?_cons_succ, Option.bind_some] at d24
          clear hF
          simp only [List.length_cons, List.length_nil, Nat.reduceAdd, List.range, List.range.loop, fact, layAt, depOn, dstOf, List.map_cons, List.map_nil, List.foldl_cons, List.foldl_nil, List.getD_cons_zero, List.getD_cons_succ, List.getElem?_cons_zero, List.getElem?_cons_succ, Option.bind_some, d24]
          go_simp
          go_wp2_with fail
          go_ret
          exact ⟨rfl, FZ.trans (hS.mono FZ.size)⟩
end Go.Proofs.YtdbjihpdfiipcaaGreat
