/- Rows of a policy's parts put; policy.Encode. Conditions: sizes. Printed by gen_pput3.py. -/
import Derived.Test.YtdbjihpdfiipcaaGreatPolEnc
namespace Go.Proofs.YtdbjihpdfiipcaaGreat
open Go.RowKit Go.Sort
set_option linter.unusedVariables false
set_option linter.unusedSimpArgs false
theorem ruB_eq (r : Ru) : ruB r = rowB srB r.froms ++ (rowB tgB r.tos ++ rowB wnB r.whens) := rfl
section
variable {Z : Nat → Prop} {p : Nat} {l : List UInt8} {w : World} {B : Nat}
set_option maxRecDepth 100000 in
set_option maxHeartbeats 2000000 in
theorem putSources_any (hZ : ∀ k, Z k → B ≤ k) (hB : B ≤ w.heap.size) (A : Option Addr) (n c : Nat) (L : List Sr) (h : WrZ Z w p l) (hR : RdG 3 SrP w B A n L) (hok : ∀ s ∈ L, okSr s) (hn : n ≤ 1000000) (hl : l.length + (rowB srB L).length + 20 ≤ 140737488355328) :
    Calls Tryz.prog 103 #[.pointer (some ⟨p, 0, none⟩), .slice A n c, .func (.func 104) #[] #[]] w fun e w' => e = .returned (.tuple #[]) ∧ WrZ Z w' p (l ++ rowB srB L) ∧ Off Z w w' := by
  have hl0 := hR.1
  have hl2 : l.length + (leb n ++ (L.map srB).flatten).length + 20 ≤ 140737488355328 := by rw [← hl0]; exact hl
  have := put_Source A n c (L.map srB) h hn (by rw [List.length_map, hl0]) hl2 (fun w' hw j hj => by
    rw [List.length_map] at hj
    obtain ⟨b, off, cs, h1, h2, _, hP, h3⟩ := hR.at_ (j := j) (by omega)
    have hbw := hw.below hB hZ
    obtain ⟨A1, m1, d1, A2, m2, d2, A3, m3, d3, rfl, _⟩ := vals_sr hP
    refine ⟨b, off, _, _, _, _, _, _, _, _, _, h1, (hbw.cell (p := ⟨b, off + j * 3, none⟩) h2).trans (h3 0 _ rfl), (hbw.cell (p := ⟨b, off + j * 3 + 1, none⟩) h2).trans (h3 1 _ rfl), (hbw.cell (p := ⟨b, off + j * 3 + 2, none⟩) h2).trans (h3 2 _ rfl), fun w'' l' hz hw2 hl' => ?_⟩
    simp only [List.getElem_map] at hl' ⊢
    exact putSource_any _ hz (fun u hu => SrP.mono hP (by have := hw2.size; have := hu.size; omega) ((hw2.tr hu).below hB hZ)) (hok _ (List.getElem_mem hj)) hl')
  unfold rowB
  rw [hl0]
  exact this
set_option maxRecDepth 100000 in
set_option maxHeartbeats 2000000 in
theorem putTargets_any (hZ : ∀ k, Z k → B ≤ k) (hB : B ≤ w.heap.size) (A : Option Addr) (n c : Nat) (L : List Tg) (h : WrZ Z w p l) (hR : RdG 4 TgP w B A n L) (hok : ∀ s ∈ L, okTg s) (hn : n ≤ 1000000) (hl : l.length + (rowB tgB L).length + 20 ≤ 140737488355328) :
    Calls Tryz.prog 105 #[.pointer (some ⟨p, 0, none⟩), .slice A n c, .func (.func 106) #[] #[]] w fun e w' => e = .returned (.tuple #[]) ∧ WrZ Z w' p (l ++ rowB tgB L) ∧ Off Z w w' := by
  have hl0 := hR.1
  have hl2 : l.length + (leb n ++ (L.map tgB).flatten).length + 20 ≤ 140737488355328 := by rw [← hl0]; exact hl
  have := put_Target A n c (L.map tgB) h hn (by rw [List.length_map, hl0]) hl2 (fun w' hw j hj => by
    rw [List.length_map] at hj
    obtain ⟨b, off, cs, h1, h2, _, hP, h3⟩ := hR.at_ (j := j) (by omega)
    have hbw := hw.below hB hZ
    obtain ⟨A1, m1, d1, A2, m2, d2, A3, m3, d3, A4, m4, d4, rfl, _⟩ := vals_tg hP
    refine ⟨b, off, _, _, _, _, _, _, _, _, _, _, _, _, h1, (hbw.cell (p := ⟨b, off + j * 4, none⟩) h2).trans (h3 0 _ rfl), (hbw.cell (p := ⟨b, off + j * 4 + 1, none⟩) h2).trans (h3 1 _ rfl), (hbw.cell (p := ⟨b, off + j * 4 + 2, none⟩) h2).trans (h3 2 _ rfl), (hbw.cell (p := ⟨b, off + j * 4 + 3, none⟩) h2).trans (h3 3 _ rfl), fun w'' l' hz hw2 hl' => ?_⟩
    simp only [List.getElem_map] at hl' ⊢
    exact putTarget_any _ hz (fun u hu => TgP.mono hP (by have := hw2.size; have := hu.size; omega) ((hw2.tr hu).below hB hZ)) (hok _ (List.getElem_mem hj)) hl')
  unfold rowB
  rw [hl0]
  exact this
set_option maxRecDepth 100000 in
set_option maxHeartbeats 2000000 in
theorem putWhens_any (hZ : ∀ k, Z k → B ≤ k) (hB : B ≤ w.heap.size) (A : Option Addr) (n c : Nat) (L : List Wn) (h : WrZ Z w p l) (hR : RdG 2 WnP w B A n L) (hok : ∀ s ∈ L, okWn s) (hn : n ≤ 1000000) (hl : l.length + (rowB wnB L).length + 20 ≤ 140737488355328) :
    Calls Tryz.prog 107 #[.pointer (some ⟨p, 0, none⟩), .slice A n c, .func (.func 108) #[] #[]] w fun e w' => e = .returned (.tuple #[]) ∧ WrZ Z w' p (l ++ rowB wnB L) ∧ Off Z w w' := by
  have hl0 := hR.1
  have hl2 : l.length + (leb n ++ (L.map wnB).flatten).length + 20 ≤ 140737488355328 := by rw [← hl0]; exact hl
  have := put_When A n c (L.map wnB) h hn (by rw [List.length_map, hl0]) hl2 (fun w' hw j hj => by
    rw [List.length_map] at hj
    obtain ⟨b, off, cs, h1, h2, _, hP, h3⟩ := hR.at_ (j := j) (by omega)
    have hbw := hw.below hB hZ
    obtain ⟨A1, m1, d1, rfl, _⟩ := vals_wn hP
    refine ⟨b, off, _, _, _, _, h1, (hbw.cell (p := ⟨b, off + j * 2, none⟩) h2).trans (h3 0 _ rfl), (hbw.cell (p := ⟨b, off + j * 2 + 1, none⟩) h2).trans (h3 1 _ rfl), fun w'' l' hz hw2 hl' => ?_⟩
    simp only [List.getElem_map] at hl' ⊢
    exact putWhen_any _ hz (fun u hu => WnP.mono hP (by have := hw2.size; have := hu.size; omega) ((hw2.tr hu).below hB hZ)) (hok _ (List.getElem_mem hj)) hl')
  unfold rowB
  rw [hl0]
  exact this
set_option maxRecDepth 100000 in
set_option maxHeartbeats 2000000 in
theorem putRule_any (hZ : ∀ k, Z k → B ≤ k) (hB : B ≤ w.heap.size) {A1 : Option Addr} {n1 c1 : Nat} {A2 : Option Addr} {n2 c2 : Nat} {A3 : Option Addr} {n3 c3 : Nat} (r : Ru) (h : WrZ Z w p l) (hr : RuP w B [.slice A1 n1 c1, .slice A2 n2 c2, .slice A3 n3 c3] r) (hok : okRu r) (hl : l.length + (ruB r).length + 20 ≤ 140737488355328) :
    Calls Tryz.prog 55 #[.pointer (some ⟨p, 0, none⟩), .agg #[.slice A1 n1 c1, .slice A2 n2 c2, .slice A3 n3 c3]] w fun e w' => e = .returned (.tuple #[]) ∧ WrZ Z w' p (l ++ ruB r) ∧ Off Z w w' := by
  obtain ⟨wb, hwb⟩ : ∃ wb, w.alloc (.cells #[.slice A1 n1 c1, .slice A2 n2 c2, .slice A3 n3 c3] 26) = wb := ⟨_, rfl⟩
  have fa : Below w.heap.size w wb := by rw [← hwb]; exact (Below.refl _ _).alloc (Nat.le_refl _) _
  have hbs : wb.heap.size = w.heap.size + 1 := by rw [← hwb]; simp
  have kb : Blk wb w.heap.size 26 [.slice A1 n1 c1, .slice A2 n2 c2, .slice A3 n3 c3] := by rw [← hwb]; exact Blk.newAt rfl _ #[.slice A1 n1 c1, .slice A2 n2 c2, .slice A3 n3 c3]
  have hz := h.less fa
  have up := h.up
  have hno : ¬ lessZ Z w.heap.size wb.heap.size w.heap.size := fun hh => by have := hh.2; omega
  have fz : ∀ u, Off (lessZ Z w.heap.size wb.heap.size) wb u → Off Z w u := fun u hu => ((Off.of_all fa).mono fun _ _ h => h.elim).tr hu.ofLess
  have hZ2 : ∀ k, lessZ Z w.heap.size wb.heap.size k → B ≤ k := fun k hk => hZ k hk.1
  have hl2 : (ruB r).length = (rowB srB r.froms).length + ((rowB tgB r.tos).length + (rowB wnB r.whens).length) := by unfold ruB; rw [List.length_append, List.length_append]
  have fb : ∀ u, Off (lessZ Z w.heap.size wb.heap.size) wb u → Below B w u := fun u hu => (fz u hu).below hB hZ
  obtain ⟨g1, g2, g3⟩ := hr.get
  have r1 := g1.get
  have r2 := g2.get
  have r3 := g3.get
  have hn1 : n1 ≤ 1000000 := by rw [← r1.1]; exact hok.1.1
  have hn2 : n2 ≤ 1000000 := by rw [← r2.1]; exact hok.2.1.1
  have hn3 : n3 ≤ 1000000 := by rw [← r3.1]; exact hok.2.2.1
  have hP1 := putSources_any hZ2 (by omega) A1 n1 c1 r.froms hz (r1.mono (Nat.le_refl _) (fb _ (Off.id _ _)) fun _ _ h => SrP.mono h (Nat.le_refl _) (fb _ (Off.id _ _))) hok.1.2 hn1 (by omega)
  have e0 := kb.cell 0
  have HK2 := Lib.hid hok.2.1.2; have HK3 := Lib.hid hok.2.2.2
  have R2 := Lib.hid r2; have R3 := Lib.hid r3
  clear hbs hok g1 g2 g3 r1 r2 r3 hr
  go_enter Tryz.func55, Tryz.ntmps55
  go_wp2_with fail
  refine hP1.mono ?_
  rintro e w1 ⟨rfl, h1, f1⟩
  have e1 := (kb.off f1 hno).cell 1
  have hP2 := putTargets_any hZ2 (by have := f1.size; have := fa.size; omega) A2 n2 c2 r.tos h1 (R2.out.mono (Nat.le_refl _) (fb _ f1) fun _ _ h => TgP.mono h (Nat.le_refl _) (fb _ f1)) HK2.out hn2 (by rw [List.length_append]; omega)
  clear hP1 e0
  go_wp2_with fail
  refine hP2.mono ?_
  rintro e w2 ⟨rfl, h2, f2⟩
  have e2 := (kb.off (f1.tr f2) hno).cell 2
  have hP3 := putWhens_any hZ2 (by have := f1.size; have := f2.size; have := fa.size; omega) A3 n3 c3 r.whens h2 (R3.out.mono (Nat.le_refl _) (fb _ (f1.tr f2)) fun _ _ h => WnP.mono h (Nat.le_refl _) (fb _ (f1.tr f2))) HK3.out hn3 (by rw [List.length_append, List.length_append]; omega)
  clear hP2 e1
  go_wp2_with fail
  refine hP3.mono ?_
  rintro e w3 ⟨rfl, h3, f3⟩
  go_wp2_with fail
  go_end0
  exact ⟨rfl, (h3.kept up (by have := f1.size; have := f2.size; have := f3.size; have := fa.size; omega)).eq (by rw [ruB_eq]; simp only [List.append_assoc]), fz _ ((f1.tr f2).tr f3)⟩
set_option maxRecDepth 100000 in
set_option maxHeartbeats 2000000 in
theorem putRules_any (hZ : ∀ k, Z k → B ≤ k) (hB : B ≤ w.heap.size) (A : Option Addr) (n c : Nat) (L : List Ru) (h : WrZ Z w p l) (hR : RdG 3 RuP w B A n L) (hok : ∀ s ∈ L, okRu s) (hn : n ≤ 1000000) (hl : l.length + (rowB ruB L).length + 20 ≤ 140737488355328) :
    Calls Tryz.prog 54 #[.pointer (some ⟨p, 0, none⟩), .slice A n c, .func (.func 55) #[] #[]] w fun e w' => e = .returned (.tuple #[]) ∧ WrZ Z w' p (l ++ rowB ruB L) ∧ Off Z w w' := by
  have hl0 := hR.1
  have hl2 : l.length + (leb n ++ (L.map ruB).flatten).length + 20 ≤ 140737488355328 := by rw [← hl0]; exact hl
  have := put_Rule A n c (L.map ruB) h hn (by rw [List.length_map, hl0]) hl2 (fun w' hw j hj => by
    rw [List.length_map] at hj
    obtain ⟨b, off, cs, h1, h2, _, hP, h3⟩ := hR.at_ (j := j) (by omega)
    have hbw := hw.below hB hZ
    obtain ⟨A1, m1, d1, A2, m2, d2, A3, m3, d3, rfl, _⟩ := vals_ru hP
    refine ⟨b, off, _, _, _, _, _, _, _, _, _, h1, (hbw.cell (p := ⟨b, off + j * 3, none⟩) h2).trans (h3 0 _ rfl), (hbw.cell (p := ⟨b, off + j * 3 + 1, none⟩) h2).trans (h3 1 _ rfl), (hbw.cell (p := ⟨b, off + j * 3 + 2, none⟩) h2).trans (h3 2 _ rfl), fun w'' l' hz hw2 hl' => ?_⟩
    simp only [List.getElem_map] at hl' ⊢
    exact putRule_any hZ (by have := hw2.size; omega) _ hz (RuP.mono hP (Nat.le_refl _) (hw2.below hB hZ)) (hok _ (List.getElem_mem hj)) hl')
  unfold rowB
  rw [hl0]
  exact this
end
end Go.Proofs.YtdbjihpdfiipcaaGreat
