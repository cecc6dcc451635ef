/- policy.Own: a policy of its own. Condition: a million at most. Printed by gen_pown.py. -/
import Derived.Test.YtdbjihpdfiipcaaGreatPolCopy
import Derived.Test.YtdbjihpdfiipcaaGreatPolEq
import Derived.Test.YtdbjihpdfiipcaaGreatOrderP
import Derived.Test.YtdbjihpdfiipcaaGreatOwnApp
import Derived.Test.YtdbjihpdfiipcaaGreatPolDecs
import Derived.Lib.BufferMore
namespace Go.Proofs.YtdbjihpdfiipcaaGreat
open Go.RowKit Go.Sort
set_option linter.unusedVariables false
set_option linter.unusedSimpArgs false
theorem append0 {Pr : Program} {α : Type} {enc : α → List Value} {k : Nat} {t e : TypeId} {bytes : Nat} {z : Value} (T : RowTy Pr t e k bytes z) (hk : ∀ x, (enc x).length = k) (h1 : ∀ x, ∀ v ∈ enc x, v.oneCell' = true) {ops : Array Oper} {rest : List Oper} {o : Oper} {a : Act} {Q : Exit → Act → World → Prop} {w : World} (hgd : o.guard = none)
    {s x : Operand} (ho : o.op = .call { callee := .builtin .append, args := #[s, x], argTypes := #[t, t] }) {g base : Nat} (hs : a.eval s = .slice (some ⟨g, 0, none⟩) 0 0) (hb : Blk w g e []) (hg : base ≤ g)
    {B : Nat} {A2 : Option Addr} {m c2 : Nat} {L2 : List α} (hx : a.eval x = .slice A2 m c2) (hr : RdR enc k w B A2 m L2) (hlen : m * bytes ≤ 140737488355328) (hmax : m ≤ maxLen)
    (h : ∀ A' c' w', OwnR enc k w' base e (.slice A' m c') L2 → Below w.heap.size w w' → wpList Pr ops Q rest (a.put o.dst (.slice A' m c')) w') : wpList Pr ops Q (o :: rest) a w :=
  wpList_plain hgd fun _ hK => wp_append0 T hk h1 ho hs hb hg hx hr hlen hmax fun A' c' w' h2 h3 => hK _ _ (h A' c' w' h2 h3)
theorem ntC_len' (c : Nt) : (ntC c).length = 2 := rfl
set_option maxRecDepth 100000 in
set_option maxHeartbeats 4000000 in
theorem cloneT_any (A : Option Addr) (n c : Nat) (L : List Tm) (w : World) (h : RdR tmC 2 w w.heap.size A n L) (hn : n ≤ 1000000) :
    Calls Tryz.prog 145 #[.slice A n c] w fun e w' => ∃ A' c', e = .returned (.slice A' n c') ∧ RvR tmC 2 (mineW w.heap.size none w') w'.heap.size (.slice A' n c') L ∧ Below w.heap.size w w' := by
  rcases A with _ | ad
  · have h0 : n = 0 := by
      rcases Nat.eq_zero_or_pos n with h0 | h0
      · exact h0
      · obtain ⟨b, off, h1, _⟩ := h.2 h0
        cases h1
    subst h0
    have hL : L = [] := List.eq_nil_of_length_eq_zero h.1
    subst hL
    have q := Go.Lib.run_eql_slice_nil_nil (P := Tryz.prog) w 0 c Tryz.underlying31
    go_enter Tryz.func145, Tryz.ntmps145
    go_wp2_with fail
    go_ret
    exact ⟨none, 0, rfl, ⟨none, 0, 0, rfl, Nat.le_refl _, Nat.zero_le _, RdR.nil⟩, Below.refl _ _⟩
  · have q := Go.Lib.run_eql_slice_some_nil (P := Tryz.prog) w ad n c Tryz.underlying31
    go_enter Tryz.func145, Tryz.ntmps145
    have h1 : RdR tmC 2 (w.alloc (.cells #[] 78)) w.heap.size (some ad) n L := h.below ((Below.refl _ _).alloc (Nat.le_refl _) _)
    go_wp2_with (at_builtin; go_must (refine append0 TTm tmC_len tmC_one rfl rfl rfl (Blk.of_new w _ []) (Nat.le_refl _) rfl h1 (by omega) (by simp only [maxLen]; omega) ?_); intro A' c' w1 o1 f1)
    go_ret
    exact ⟨A', c', rfl, o1.rvm tmC_len, (((Below.refl _ _).alloc (Nat.le_refl _) _).trans (f1.mono (by simp)))⟩
set_option maxRecDepth 100000 in
set_option maxHeartbeats 4000000 in
theorem cloneN_any (A : Option Addr) (n c : Nat) (L : List Nt) (w : World) (h : RdR ntC 2 w w.heap.size A n L) (hn : n ≤ 1000000) :
    Calls Tryz.prog 146 #[.slice A n c] w fun e w' => ∃ A' c', e = .returned (.slice A' n c') ∧ RvR ntC 2 (mineW w.heap.size none w') w'.heap.size (.slice A' n c') L ∧ Below w.heap.size w w' := by
  rcases A with _ | ad
  · have h0 : n = 0 := by
      rcases Nat.eq_zero_or_pos n with h0 | h0
      · exact h0
      · obtain ⟨b, off, h1, _⟩ := h.2 h0
        cases h1
    subst h0
    have hL : L = [] := List.eq_nil_of_length_eq_zero h.1
    subst hL
    have q := Go.Lib.run_eql_slice_nil_nil (P := Tryz.prog) w 0 c Tryz.underlying43
    go_enter Tryz.func146, Tryz.ntmps146
    go_wp2_with fail
    go_ret
    exact ⟨none, 0, rfl, ⟨none, 0, 0, rfl, Nat.le_refl _, Nat.zero_le _, RdR.nil⟩, Below.refl _ _⟩
  · have q := Go.Lib.run_eql_slice_some_nil (P := Tryz.prog) w ad n c Tryz.underlying43
    go_enter Tryz.func146, Tryz.ntmps146
    have h1 : RdR ntC 2 (w.alloc (.cells #[] 48)) w.heap.size (some ad) n L := h.below ((Below.refl _ _).alloc (Nat.le_refl _) _)
    go_wp2_with (at_builtin; go_must (refine append0 TNt ntC_len ntC_one rfl rfl rfl (Blk.of_new w _ []) (Nat.le_refl _) rfl h1 (by omega) (by simp only [maxLen]; omega) ?_); intro A' c' w1 o1 f1)
    go_ret
    exact ⟨A', c', rfl, o1.rvm ntC_len, (((Below.refl _ _).alloc (Nat.le_refl _) _).trans (f1.mono (by simp)))⟩
set_option maxRecDepth 100000 in
set_option maxHeartbeats 4000000 in
theorem cloneI_any (A : Option Addr) (n c : Nat) (L : List Int) (w : World) (h : RdR inC 1 w w.heap.size A n L) (hn : n ≤ 1000000) :
    Calls Tryz.prog 77 #[.slice A n c] w fun e w' => ∃ A' c', e = .returned (.slice A' n c') ∧ RvR inC 1 (mineW w.heap.size none w') w'.heap.size (.slice A' n c') L ∧ Below w.heap.size w w' := by
  rcases A with _ | ad
  · have h0 : n = 0 := by
      rcases Nat.eq_zero_or_pos n with h0 | h0
      · exact h0
      · obtain ⟨b, off, h1, _⟩ := h.2 h0
        cases h1
    subst h0
    have hL : L = [] := List.eq_nil_of_length_eq_zero h.1
    subst hL
    have q := Go.Lib.run_eql_slice_nil_nil (P := Tryz.prog) w 0 c Tryz.underlying30
    go_enter Tryz.func77, Tryz.ntmps77
    go_wp2_with fail
    go_ret
    exact ⟨none, 0, rfl, ⟨none, 0, 0, rfl, Nat.le_refl _, Nat.zero_le _, RdR.nil⟩, Below.refl _ _⟩
  · have q := Go.Lib.run_eql_slice_some_nil (P := Tryz.prog) w ad n c Tryz.underlying30
    go_enter Tryz.func77, Tryz.ntmps77
    have h1 : RdR inC 1 (w.alloc (.cells #[] 3)) w.heap.size (some ad) n L := h.below ((Below.refl _ _).alloc (Nat.le_refl _) _)
    go_wp2_with (at_builtin; go_must (refine append0 TIn inC_len inC_one rfl rfl rfl (Blk.of_new w _ []) (Nat.le_refl _) rfl h1 (by omega) (by simp only [maxLen]; omega) ?_); intro A' c' w1 o1 f1)
    go_ret
    exact ⟨A', c', rfl, o1.rvm inC_len, (((Below.refl _ _).alloc (Nat.le_refl _) _).trans (f1.mono (by simp)))⟩
theorem absF {P : Program} {ops : Array Oper} {Q : Exit → Act → World → Prop} {S : World → Prop} {r : List (Oper × Nat)} {a : Act} {W : World} (F : World → Prop) (hF : F W) (h : ∀ w1, F w1 → OP.wpF P ops Q S r a w1) : OP.wpF P ops Q S r a W := h W hF
set_option maxRecDepth 100000 in
set_option maxHeartbeats 4000000 in
theorem ownSource_any (s : Sr) (cs : List Value) (w : World) (h : SrP w w.heap.size cs s) (hok : okSr s) :
    Calls Tryz.prog 96 #[.agg cs.toArray] w fun e w' => ∃ (E1 : Option Addr) (m1 e1 : Nat) (E2 : Option Addr) (m2 e2 : Nat) (E3 : Option Addr) (m3 e3 : Nat), e = .returned (.agg #[.slice E1 m1 e1, .slice E2 m2 e2, .slice E3 m3 e3]) ∧ SrP (mineW w.heap.size none w') w'.heap.size [.slice E1 m1 e1, .slice E2 m2 e2, .slice E3 m3 e3] s ∧ Below w.heap.size w w' := by
  obtain ⟨A1, n1, c1, A2, n2, c2, A3, n3, c3, rfl, h1, h2, h3⟩ := vals_sr h
  have hi : (Tryz.prog.info? 45).map (·.size) = some 3 := by kernel_rfl
  have HI := Lib.hid hi; clear hi h
  have hn1 : n1 ≤ 1000000 := by rw [← h1.1]; exact hok.1.1
  have hn2 : n2 ≤ 1000000 := by rw [← h2.1]; exact hok.2.1.1
  have hn3 : n3 ≤ 1000000 := by rw [← h3.1]; exact hok.2.2.1
  have H1 := Lib.hid h1; clear h1
  have H2 := Lib.hid h2; clear h2
  have H3 := Lib.hid h3; clear h3
  have OK := Lib.hid hok; clear hok
  show Calls Tryz.prog 96 #[.agg #[.slice A1 n1 c1, .slice A2 n2 c2, .slice A3 n3 c3]] w _
  go_enter Tryz.func96, Tryz.ntmps96
  go_upto_region 1 with fail
  refine abs (fun x => Blk x w.heap.size 45 [.slice A1 n1 c1, .slice A2 n2 c2, .slice A3 n3 c3] ∧ Blk x (w.heap.size + 1) 45 [.slice none 0 0, .slice none 0 0, .slice none 0 0] ∧ Below w.heap.size w x) ⟨(Blk.newAt rfl _ #[.slice A1 n1 c1, .slice A2 n2 c2, .slice A3 n3 c3]).alloc _, Blk.newAt (by simp) _ #[.slice none 0 0, .slice none 0 0, .slice none 0 0], ((Below.refl _ _).alloc (Nat.le_refl _) _).alloc (by simp) _⟩ ?_
  rintro u0 ⟨ka, kz, f0⟩
  have w0 : w.heap.size < u0.heap.size := ka.lt
  have hwg : w.heap.size < w.heap.size + 1 := by omega
  generalize hg2 : w.heap.size + 1 = g2 at *
  clear hg2
  obtain ⟨g1, hg1⟩ : ∃ x, w.heap.size = x := ⟨_, rfl⟩
  rw [hg1] at ka hwg
  have mkS : ∀ u, Blk u g1 45 [.slice A1 n1 c1, .slice A2 n2 c2, .slice A3 n3 c3] → u.cell? ⟨g1, 0, none⟩ = some (.slice A1 n1 c1) ∧ u.cell? ⟨g1, 1, none⟩ = some (.slice A2 n2 c2) ∧ u.cell? ⟨g1, 2, none⟩ = some (.slice A3 n3 c3) := fun u hk => ⟨hk.cell 0, hk.cell 1, hk.cell 2⟩
  refine OP.wp_region_order (fun u => u.cell? ⟨g1, 0, none⟩ = some (.slice A1 n1 c1) ∧ u.cell? ⟨g1, 1, none⟩ = some (.slice A2 n2 c2) ∧ u.cell? ⟨g1, 2, none⟩ = some (.slice A3 n3 c3)) 10 [(0,0), (1,0), (3,0), (4,0), (6,0), (7,0), (2,1), (9,0), (5,1), (8,1), (10,2), (11,2), (12,2), (13,2), (14,2)] (by kernel_rfl) (by kernel_rfl) ?_
  simp only [OP.pick, List.filterMap_cons, List.filterMap_nil, List.getElem?_cons_zero, List.getElem?_cons_succ, Option.map_some]
  refine absF (fun x => Blk x g1 45 [.slice A1 n1 c1, .slice A2 n2 c2, .slice A3 n3 c3] ∧ Blk x g2 45 [.slice none 0 0, .slice none 0 0, .slice none 0 0] ∧ Below w.heap.size w x ∧ w.heap.size < x.heap.size) ⟨ka.drew, kz.drew, f0.drew, w0⟩ ?_
  clear ka kz f0 w0 u0
  rintro u0 ⟨ka, kz, f0, w0⟩
  have hS := mkS _ ka
  refine OP.wpF_take (v := ?_) hS rfl ?_ (fun _ _ _ h => h) ?_
  rotate_left
  · intro w' hS'
    obtain ⟨e1, e2, e3⟩ := hS'
    go_simp <;> rfl
  go_simp
  refine OP.wpF_take (v := ?_) hS rfl ?_ (fun _ _ _ h => h) ?_
  rotate_left
  · intro w' hS'
    obtain ⟨e1, e2, e3⟩ := hS'
    go_simp <;> rfl
  go_simp
  refine OP.wpF_take (v := ?_) hS rfl ?_ (fun _ _ _ h => h) ?_
  rotate_left
  · intro w' hS'
    obtain ⟨e1, e2, e3⟩ := hS'
    go_simp <;> rfl
  go_simp
  refine OP.wpF_take (v := ?_) hS rfl ?_ (fun _ _ _ h => h) ?_
  rotate_left
  · intro w' hS'
    obtain ⟨e1, e2, e3⟩ := hS'
    go_simp <;> rfl
  go_simp
  refine OP.wpF_take (v := ?_) hS rfl ?_ (fun _ _ _ h => h) ?_
  rotate_left
  · intro w' hS'
    obtain ⟨e1, e2, e3⟩ := hS'
    go_simp <;> rfl
  go_simp
  refine OP.wpF_take (v := ?_) hS rfl ?_ (fun _ _ _ h => h) ?_
  rotate_left
  · intro w' hS'
    obtain ⟨e1, e2, e3⟩ := hS'
    go_simp <;> rfl
  go_simp
  refine OP.wpF_only rfl (fun K hK => ?_)
  go_wp2_with fail
  refine (cloneT_any A1 n1 c1 _ u0 ((H1.out.below f0).more f0.size) hn1).mono ?_
  rintro e u1 ⟨E1, e1, rfl, r1, f1⟩
  have lka := ka.lt; have lkz := kz.lt
  have b1 : g2 < u0.heap.size := lkz
  replace ka := ka.below f1 lka
  replace kz := kz.below f1 lkz
  have z1 : Off (fun q => q < u0.heap.size ∨ u1.heap.size ≤ q) u1 u1 := Off.refl _ _
  have ff1 : Below u0.heap.size u0 u1 := f1
  have ss1 := f1.size
  clear f1 lka lkz
  replace hS := mkS _ ka
  go_wp2_with fail
  first | refine ⟨fun _ => hS, ?_⟩ | refine ⟨hS, ?_⟩
  go_simp
  refine OP.wpF_take (v := ?_) hS rfl ?_ (fun _ _ _ h => h) ?_
  rotate_left
  · intro w' hS'
    obtain ⟨e1, e2, e3⟩ := hS'
    go_simp <;> rfl
  go_simp
  refine OP.wpF_only rfl (fun K hK => ?_)
  go_wp2_with fail
  refine (cloneT_any A2 n2 c2 _ u1 ((H2.out.below (f0.trans (ff1.mono (by omega)))).more (f0.trans (ff1.mono (by omega))).size) hn2).mono ?_
  rintro e u2 ⟨E2, e2, rfl, r2, f1⟩
  have lka := ka.lt; have lkz := kz.lt
  have b2 : g2 < u1.heap.size := lkz
  replace ka := ka.below f1 lka
  replace kz := kz.below f1 lkz
  have z2 : Off (fun q => q < u1.heap.size ∨ u2.heap.size ≤ q) u2 u2 := Off.refl _ _
  replace z1 := z1.trans (Off.of_all f1) fun _ _ h => h.elim
  have ff2 : Below u1.heap.size u1 u2 := f1
  have ss2 := f1.size
  clear f1 lka lkz
  replace hS := mkS _ ka
  go_wp2_with fail
  first | refine ⟨fun _ => hS, ?_⟩ | refine ⟨hS, ?_⟩
  go_simp
  refine OP.wpF_only rfl (fun K hK => ?_)
  go_wp2_with fail
  refine (cloneN_any A3 n3 c3 _ u2 ((H3.out.below ((f0.trans (ff1.mono (by omega))).trans (ff2.mono (by omega)))).more ((f0.trans (ff1.mono (by omega))).trans (ff2.mono (by omega))).size) hn3).mono ?_
  rintro e u3 ⟨E3, e3, rfl, r3, f1⟩
  have lka := ka.lt; have lkz := kz.lt
  have b3 : g2 < u2.heap.size := lkz
  replace ka := ka.below f1 lka
  replace kz := kz.below f1 lkz
  have z3 : Off (fun q => q < u2.heap.size ∨ u3.heap.size ≤ q) u3 u3 := Off.refl _ _
  replace z1 := z1.trans (Off.of_all f1) fun _ _ h => h.elim
  replace z2 := z2.trans (Off.of_all f1) fun _ _ h => h.elim
  have ff3 : Below u2.heap.size u2 u3 := f1
  have ss3 := f1.size
  clear f1 lka lkz
  replace hS := mkS _ ka
  go_wp2_with fail
  first | refine ⟨fun _ => hS, ?_⟩ | refine ⟨hS, ?_⟩
  go_simp
  refine OP.wpF_only rfl (fun K hK => ?_)
  have zl : Off (fun q => q = g1 ∨ q = g2) u3 u3 := Off.refl _ _
  have cc := ka.cell 0
  have cf := ka.frozen 0
  go_wp2_with fail
  refine ⟨fun h => absurd h (by omega), ?_⟩
  go_simp
  clear cc cf
  have o1 : Off (fun q => q = g1) u3 (u3.setCell ⟨g1, 0, none⟩ (.slice E1 n1 e1)) := (Off.refl (fun k => k = g1) _).setCell (p := ⟨g1, 0, none⟩) (fun _ => rfl) _
  have ka2 := ka.set 0 (.slice E1 n1 e1)
  replace kz := kz.off o1 (by omega)
  clear ka
  have ka : Blk _ g1 45 [.slice E1 n1 e1, .slice A2 n2 c2, .slice A3 n3 c3] := ka2
  clear ka2
  replace z1 := z1.trans o1 fun q _ (hq : q = g1) => .inl (by omega)
  replace z2 := z2.trans o1 fun q _ (hq : q = g1) => .inl (by omega)
  replace z3 := z3.trans o1 fun q _ (hq : q = g1) => .inl (by omega)
  replace zl := zl.trans o1 fun q _ (hq : q = g1) => .inl hq
  clear o1
  refine OP.wpF_only rfl (fun K hK => ?_)
  go_wp2_with fail
  refine ⟨fun h => absurd h (by omega), ?_⟩
  go_simp
  refine OP.wpF_only rfl (fun K hK => ?_)
  have cc := ka.cell 1
  have cf := ka.frozen 1
  go_wp2_with fail
  refine ⟨fun h => absurd h (by omega), ?_⟩
  go_simp
  clear cc cf
  have o1 : Off (fun q => q = g1) (u3.setCell ⟨g1, 0, none⟩ (.slice E1 n1 e1)) ((u3.setCell ⟨g1, 0, none⟩ (.slice E1 n1 e1)).setCell ⟨g1, 1, none⟩ (.slice E2 n2 e2)) := (Off.refl (fun k => k = g1) _).setCell (p := ⟨g1, 1, none⟩) (fun _ => rfl) _
  have ka2 := ka.set 1 (.slice E2 n2 e2)
  replace kz := kz.off o1 (by omega)
  clear ka
  have ka : Blk _ g1 45 [.slice E1 n1 e1, .slice E2 n2 e2, .slice A3 n3 c3] := ka2
  clear ka2
  replace z1 := z1.trans o1 fun q _ (hq : q = g1) => .inl (by omega)
  replace z2 := z2.trans o1 fun q _ (hq : q = g1) => .inl (by omega)
  replace z3 := z3.trans o1 fun q _ (hq : q = g1) => .inl (by omega)
  replace zl := zl.trans o1 fun q _ (hq : q = g1) => .inl hq
  clear o1
  refine OP.wpF_only rfl (fun K hK => ?_)
  go_wp2_with fail
  refine ⟨fun h => absurd h (by omega), ?_⟩
  go_simp
  refine OP.wpF_only rfl (fun K hK => ?_)
  have cc := ka.cell 2
  have cf := ka.frozen 2
  go_wp2_with fail
  refine ⟨fun h => absurd h (by omega), ?_⟩
  go_simp
  clear cc cf
  have o1 : Off (fun q => q = g1) ((u3.setCell ⟨g1, 0, none⟩ (.slice E1 n1 e1)).setCell ⟨g1, 1, none⟩ (.slice E2 n2 e2)) (((u3.setCell ⟨g1, 0, none⟩ (.slice E1 n1 e1)).setCell ⟨g1, 1, none⟩ (.slice E2 n2 e2)).setCell ⟨g1, 2, none⟩ (.slice E3 n3 e3)) := (Off.refl (fun k => k = g1) _).setCell (p := ⟨g1, 2, none⟩) (fun _ => rfl) _
  have ka2 := ka.set 2 (.slice E3 n3 e3)
  replace kz := kz.off o1 (by omega)
  clear ka
  have ka : Blk _ g1 45 [.slice E1 n1 e1, .slice E2 n2 e2, .slice E3 n3 e3] := ka2
  clear ka2
  replace z1 := z1.trans o1 fun q _ (hq : q = g1) => .inl (by omega)
  replace z2 := z2.trans o1 fun q _ (hq : q = g1) => .inl (by omega)
  replace z3 := z3.trans o1 fun q _ (hq : q = g1) => .inl (by omega)
  replace zl := zl.trans o1 fun q _ (hq : q = g1) => .inl hq
  clear o1
  refine OP.wpF_nil ?_
  clear hS mkS
  have cx0 := ka.cell 0
  have cx1 := ka.cell 1
  have cx2 := ka.cell 2
  go_wp2_with (first | (refine store_blk kz rfl 45 (.tmp 2) (.tmp 15) rfl rfl (us := [.slice E1 n1 e1, .slice E2 n2 e2, .slice E3 n3 e3]) rfl HI.out rfl rfl ?_; intro w9 k9 g9))
  have o9 : Off (fun q => q = g2) (((u3.setCell ⟨g1, 0, none⟩ (.slice E1 n1 e1)).setCell ⟨g1, 1, none⟩ (.slice E2 n2 e2)).setCell ⟨g1, 2, none⟩ (.slice E3 n3 e3)) w9 := (Off.refl _ _).grown g9 fun q hq _ => by injection hq with hq; exact hq.symm
  replace z1 := z1.trans o9 fun q _ (hq : q = g2) => .inl (by omega)
  replace z2 := z2.trans o9 fun q _ (hq : q = g2) => .inl (by omega)
  replace z3 := z3.trans o9 fun q _ (hq : q = g2) => .inl (by omega)
  replace zl := zl.trans o9 fun q _ (hq : q = g2) => .inr hq
  have hb : Below w.heap.size w w9 := by
    have q0 := f0
    replace q0 := q0.trans (ff1.mono (by omega))
    replace q0 := q0.trans (ff2.mono (by omega))
    replace q0 := q0.trans (ff3.mono (by omega))
    exact q0.trans (zl.below q0.size (fun q hq => by omega))
  exact bodyPost_ret (k9.sized rfl _ rfl Tryz.underlying45 HI.out) rfl ⟨_, _, _, _, _, _, _, _, _, rfl, ⟨_, _, _, rfl, r1.fin z1 (by omega), r2.fin z2 (by omega), r3.fin z3 (by omega)⟩, hb⟩
set_option maxRecDepth 100000 in
set_option maxHeartbeats 4000000 in
theorem ownTarget_any (s : Tg) (cs : List Value) (w : World) (h : TgP w w.heap.size cs s) (hok : okTg s) :
    Calls Tryz.prog 98 #[.agg cs.toArray] w fun e w' => ∃ (E1 : Option Addr) (m1 e1 : Nat) (E2 : Option Addr) (m2 e2 : Nat) (E3 : Option Addr) (m3 e3 : Nat) (E4 : Option Addr) (m4 e4 : Nat), e = .returned (.agg #[.slice E1 m1 e1, .slice E2 m2 e2, .slice E3 m3 e3, .slice E4 m4 e4]) ∧ TgP (mineW w.heap.size none w') w'.heap.size [.slice E1 m1 e1, .slice E2 m2 e2, .slice E3 m3 e3, .slice E4 m4 e4] s ∧ Below w.heap.size w w' := by
  obtain ⟨A1, n1, c1, A2, n2, c2, A3, n3, c3, A4, n4, c4, rfl, h1, h2, h3, h4⟩ := vals_tg h
  have hi : (Tryz.prog.info? 33).map (·.size) = some 4 := by kernel_rfl
  have HI := Lib.hid hi; clear hi h
  have hn1 : n1 ≤ 1000000 := by rw [← h1.1]; exact hok.1.1
  have hn2 : n2 ≤ 1000000 := by rw [← h2.1]; exact hok.2.1.1
  have hn3 : n3 ≤ 1000000 := by rw [← h3.1]; exact hok.2.2.1.1
  have hn4 : n4 ≤ 1000000 := by rw [← h4.1]; exact hok.2.2.2.1
  have H1 := Lib.hid h1; clear h1
  have H2 := Lib.hid h2; clear h2
  have H3 := Lib.hid h3; clear h3
  have H4 := Lib.hid h4; clear h4
  have OK := Lib.hid hok; clear hok
  show Calls Tryz.prog 98 #[.agg #[.slice A1 n1 c1, .slice A2 n2 c2, .slice A3 n3 c3, .slice A4 n4 c4]] w _
  go_enter Tryz.func98, Tryz.ntmps98
  go_upto_region 1 with fail
  refine abs (fun x => Blk x w.heap.size 33 [.slice A1 n1 c1, .slice A2 n2 c2, .slice A3 n3 c3, .slice A4 n4 c4] ∧ Blk x (w.heap.size + 1) 33 [.slice none 0 0, .slice none 0 0, .slice none 0 0, .slice none 0 0] ∧ Below w.heap.size w x) ⟨(Blk.newAt rfl _ #[.slice A1 n1 c1, .slice A2 n2 c2, .slice A3 n3 c3, .slice A4 n4 c4]).alloc _, Blk.newAt (by simp) _ #[.slice none 0 0, .slice none 0 0, .slice none 0 0, .slice none 0 0], ((Below.refl _ _).alloc (Nat.le_refl _) _).alloc (by simp) _⟩ ?_
  rintro u0 ⟨ka, kz, f0⟩
  have w0 : w.heap.size < u0.heap.size := ka.lt
  have hwg : w.heap.size < w.heap.size + 1 := by omega
  generalize hg2 : w.heap.size + 1 = g2 at *
  clear hg2
  obtain ⟨g1, hg1⟩ : ∃ x, w.heap.size = x := ⟨_, rfl⟩
  rw [hg1] at ka hwg
  have mkS : ∀ u, Blk u g1 33 [.slice A1 n1 c1, .slice A2 n2 c2, .slice A3 n3 c3, .slice A4 n4 c4] → u.cell? ⟨g1, 0, none⟩ = some (.slice A1 n1 c1) ∧ u.cell? ⟨g1, 1, none⟩ = some (.slice A2 n2 c2) ∧ u.cell? ⟨g1, 2, none⟩ = some (.slice A3 n3 c3) ∧ u.cell? ⟨g1, 3, none⟩ = some (.slice A4 n4 c4) := fun u hk => ⟨hk.cell 0, hk.cell 1, hk.cell 2, hk.cell 3⟩
  refine OP.wp_region_order (fun u => u.cell? ⟨g1, 0, none⟩ = some (.slice A1 n1 c1) ∧ u.cell? ⟨g1, 1, none⟩ = some (.slice A2 n2 c2) ∧ u.cell? ⟨g1, 2, none⟩ = some (.slice A3 n3 c3) ∧ u.cell? ⟨g1, 3, none⟩ = some (.slice A4 n4 c4)) 13 [(0,0), (1,0), (3,0), (4,0), (6,0), (7,0), (9,0), (10,0), (2,1), (12,0), (5,1), (8,1), (11,1), (13,2), (14,2), (15,2), (16,2), (17,2), (18,2), (19,2)] (by kernel_rfl) (by kernel_rfl) ?_
  simp only [OP.pick, List.filterMap_cons, List.filterMap_nil, List.getElem?_cons_zero, List.getElem?_cons_succ, Option.map_some]
  refine absF (fun x => Blk x g1 33 [.slice A1 n1 c1, .slice A2 n2 c2, .slice A3 n3 c3, .slice A4 n4 c4] ∧ Blk x g2 33 [.slice none 0 0, .slice none 0 0, .slice none 0 0, .slice none 0 0] ∧ Below w.heap.size w x ∧ w.heap.size < x.heap.size) ⟨ka.drew, kz.drew, f0.drew, w0⟩ ?_
  clear ka kz f0 w0 u0
  rintro u0 ⟨ka, kz, f0, w0⟩
  have hS := mkS _ ka
  refine OP.wpF_take (v := ?_) hS rfl ?_ (fun _ _ _ h => h) ?_
  rotate_left
  · intro w' hS'
    obtain ⟨e1, e2, e3, e4⟩ := hS'
    go_simp <;> rfl
  go_simp
  refine OP.wpF_take (v := ?_) hS rfl ?_ (fun _ _ _ h => h) ?_
  rotate_left
  · intro w' hS'
    obtain ⟨e1, e2, e3, e4⟩ := hS'
    go_simp <;> rfl
  go_simp
  refine OP.wpF_take (v := ?_) hS rfl ?_ (fun _ _ _ h => h) ?_
  rotate_left
  · intro w' hS'
    obtain ⟨e1, e2, e3, e4⟩ := hS'
    go_simp <;> rfl
  go_simp
  refine OP.wpF_take (v := ?_) hS rfl ?_ (fun _ _ _ h => h) ?_
  rotate_left
  · intro w' hS'
    obtain ⟨e1, e2, e3, e4⟩ := hS'
    go_simp <;> rfl
  go_simp
  refine OP.wpF_take (v := ?_) hS rfl ?_ (fun _ _ _ h => h) ?_
  rotate_left
  · intro w' hS'
    obtain ⟨e1, e2, e3, e4⟩ := hS'
    go_simp <;> rfl
  go_simp
  refine OP.wpF_take (v := ?_) hS rfl ?_ (fun _ _ _ h => h) ?_
  rotate_left
  · intro w' hS'
    obtain ⟨e1, e2, e3, e4⟩ := hS'
    go_simp <;> rfl
  go_simp
  refine OP.wpF_take (v := ?_) hS rfl ?_ (fun _ _ _ h => h) ?_
  rotate_left
  · intro w' hS'
    obtain ⟨e1, e2, e3, e4⟩ := hS'
    go_simp <;> rfl
  go_simp
  refine OP.wpF_take (v := ?_) hS rfl ?_ (fun _ _ _ h => h) ?_
  rotate_left
  · intro w' hS'
    obtain ⟨e1, e2, e3, e4⟩ := hS'
    go_simp <;> rfl
  go_simp
  refine OP.wpF_only rfl (fun K hK => ?_)
  go_wp2_with fail
  refine (cloneI_any A1 n1 c1 _ u0 ((H1.out.below f0).more f0.size) hn1).mono ?_
  rintro e u1 ⟨E1, e1, rfl, r1, f1⟩
  have lka := ka.lt; have lkz := kz.lt
  have b1 : g2 < u0.heap.size := lkz
  replace ka := ka.below f1 lka
  replace kz := kz.below f1 lkz
  have z1 : Off (fun q => q < u0.heap.size ∨ u1.heap.size ≤ q) u1 u1 := Off.refl _ _
  have ff1 : Below u0.heap.size u0 u1 := f1
  have ss1 := f1.size
  clear f1 lka lkz
  replace hS := mkS _ ka
  go_wp2_with fail
  first | refine ⟨fun _ => hS, ?_⟩ | refine ⟨hS, ?_⟩
  go_simp
  refine OP.wpF_take (v := ?_) hS rfl ?_ (fun _ _ _ h => h) ?_
  rotate_left
  · intro w' hS'
    obtain ⟨e1, e2, e3, e4⟩ := hS'
    go_simp <;> rfl
  go_simp
  refine OP.wpF_only rfl (fun K hK => ?_)
  go_wp2_with fail
  refine (cloneT_any A2 n2 c2 _ u1 ((H2.out.below (f0.trans (ff1.mono (by omega)))).more (f0.trans (ff1.mono (by omega))).size) hn2).mono ?_
  rintro e u2 ⟨E2, e2, rfl, r2, f1⟩
  have lka := ka.lt; have lkz := kz.lt
  have b2 : g2 < u1.heap.size := lkz
  replace ka := ka.below f1 lka
  replace kz := kz.below f1 lkz
  have z2 : Off (fun q => q < u1.heap.size ∨ u2.heap.size ≤ q) u2 u2 := Off.refl _ _
  replace z1 := z1.trans (Off.of_all f1) fun _ _ h => h.elim
  have ff2 : Below u1.heap.size u1 u2 := f1
  have ss2 := f1.size
  clear f1 lka lkz
  replace hS := mkS _ ka
  go_wp2_with fail
  first | refine ⟨fun _ => hS, ?_⟩ | refine ⟨hS, ?_⟩
  go_simp
  refine OP.wpF_only rfl (fun K hK => ?_)
  go_wp2_with fail
  refine (cloneT_any A3 n3 c3 _ u2 ((H3.out.below ((f0.trans (ff1.mono (by omega))).trans (ff2.mono (by omega)))).more ((f0.trans (ff1.mono (by omega))).trans (ff2.mono (by omega))).size) hn3).mono ?_
  rintro e u3 ⟨E3, e3, rfl, r3, f1⟩
  have lka := ka.lt; have lkz := kz.lt
  have b3 : g2 < u2.heap.size := lkz
  replace ka := ka.below f1 lka
  replace kz := kz.below f1 lkz
  have z3 : Off (fun q => q < u2.heap.size ∨ u3.heap.size ≤ q) u3 u3 := Off.refl _ _
  replace z1 := z1.trans (Off.of_all f1) fun _ _ h => h.elim
  replace z2 := z2.trans (Off.of_all f1) fun _ _ h => h.elim
  have ff3 : Below u2.heap.size u2 u3 := f1
  have ss3 := f1.size
  clear f1 lka lkz
  replace hS := mkS _ ka
  go_wp2_with fail
  first | refine ⟨fun _ => hS, ?_⟩ | refine ⟨hS, ?_⟩
  go_simp
  refine OP.wpF_only rfl (fun K hK => ?_)
  go_wp2_with fail
  refine (cloneT_any A4 n4 c4 _ u3 ((H4.out.below (((f0.trans (ff1.mono (by omega))).trans (ff2.mono (by omega))).trans (ff3.mono (by omega)))).more (((f0.trans (ff1.mono (by omega))).trans (ff2.mono (by omega))).trans (ff3.mono (by omega))).size) hn4).mono ?_
  rintro e u4 ⟨E4, e4, rfl, r4, f1⟩
  have lka := ka.lt; have lkz := kz.lt
  have b4 : g2 < u3.heap.size := lkz
  replace ka := ka.below f1 lka
  replace kz := kz.below f1 lkz
  have z4 : Off (fun q => q < u3.heap.size ∨ u4.heap.size ≤ q) u4 u4 := Off.refl _ _
  replace z1 := z1.trans (Off.of_all f1) fun _ _ h => h.elim
  replace z2 := z2.trans (Off.of_all f1) fun _ _ h => h.elim
  replace z3 := z3.trans (Off.of_all f1) fun _ _ h => h.elim
  have ff4 : Below u3.heap.size u3 u4 := f1
  have ss4 := f1.size
  clear f1 lka lkz
  replace hS := mkS _ ka
  go_wp2_with fail
  first | refine ⟨fun _ => hS, ?_⟩ | refine ⟨hS, ?_⟩
  go_simp
  refine OP.wpF_only rfl (fun K hK => ?_)
  have zl : Off (fun q => q = g1 ∨ q = g2) u4 u4 := Off.refl _ _
  have cc := ka.cell 0
  have cf := ka.frozen 0
  go_wp2_with fail
  refine ⟨fun h => absurd h (by omega), ?_⟩
  go_simp
  clear cc cf
  have o1 : Off (fun q => q = g1) u4 (u4.setCell ⟨g1, 0, none⟩ (.slice E1 n1 e1)) := (Off.refl (fun k => k = g1) _).setCell (p := ⟨g1, 0, none⟩) (fun _ => rfl) _
  have ka2 := ka.set 0 (.slice E1 n1 e1)
  replace kz := kz.off o1 (by omega)
  clear ka
  have ka : Blk _ g1 33 [.slice E1 n1 e1, .slice A2 n2 c2, .slice A3 n3 c3, .slice A4 n4 c4] := ka2
  clear ka2
  replace z1 := z1.trans o1 fun q _ (hq : q = g1) => .inl (by omega)
  replace z2 := z2.trans o1 fun q _ (hq : q = g1) => .inl (by omega)
  replace z3 := z3.trans o1 fun q _ (hq : q = g1) => .inl (by omega)
  replace z4 := z4.trans o1 fun q _ (hq : q = g1) => .inl (by omega)
  replace zl := zl.trans o1 fun q _ (hq : q = g1) => .inl hq
  clear o1
  refine OP.wpF_only rfl (fun K hK => ?_)
  go_wp2_with fail
  refine ⟨fun h => absurd h (by omega), ?_⟩
  go_simp
  refine OP.wpF_only rfl (fun K hK => ?_)
  have cc := ka.cell 1
  have cf := ka.frozen 1
  go_wp2_with fail
  refine ⟨fun h => absurd h (by omega), ?_⟩
  go_simp
  clear cc cf
  have o1 : Off (fun q => q = g1) (u4.setCell ⟨g1, 0, none⟩ (.slice E1 n1 e1)) ((u4.setCell ⟨g1, 0, none⟩ (.slice E1 n1 e1)).setCell ⟨g1, 1, none⟩ (.slice E2 n2 e2)) := (Off.refl (fun k => k = g1) _).setCell (p := ⟨g1, 1, none⟩) (fun _ => rfl) _
  have ka2 := ka.set 1 (.slice E2 n2 e2)
  replace kz := kz.off o1 (by omega)
  clear ka
  have ka : Blk _ g1 33 [.slice E1 n1 e1, .slice E2 n2 e2, .slice A3 n3 c3, .slice A4 n4 c4] := ka2
  clear ka2
  replace z1 := z1.trans o1 fun q _ (hq : q = g1) => .inl (by omega)
  replace z2 := z2.trans o1 fun q _ (hq : q = g1) => .inl (by omega)
  replace z3 := z3.trans o1 fun q _ (hq : q = g1) => .inl (by omega)
  replace z4 := z4.trans o1 fun q _ (hq : q = g1) => .inl (by omega)
  replace zl := zl.trans o1 fun q _ (hq : q = g1) => .inl hq
  clear o1
  refine OP.wpF_only rfl (fun K hK => ?_)
  go_wp2_with fail
  refine ⟨fun h => absurd h (by omega), ?_⟩
  go_simp
  refine OP.wpF_only rfl (fun K hK => ?_)
  have cc := ka.cell 2
  have cf := ka.frozen 2
  go_wp2_with fail
  refine ⟨fun h => absurd h (by omega), ?_⟩
  go_simp
  clear cc cf
  have o1 : Off (fun q => q = g1) ((u4.setCell ⟨g1, 0, none⟩ (.slice E1 n1 e1)).setCell ⟨g1, 1, none⟩ (.slice E2 n2 e2)) (((u4.setCell ⟨g1, 0, none⟩ (.slice E1 n1 e1)).setCell ⟨g1, 1, none⟩ (.slice E2 n2 e2)).setCell ⟨g1, 2, none⟩ (.slice E3 n3 e3)) := (Off.refl (fun k => k = g1) _).setCell (p := ⟨g1, 2, none⟩) (fun _ => rfl) _
  have ka2 := ka.set 2 (.slice E3 n3 e3)
  replace kz := kz.off o1 (by omega)
  clear ka
  have ka : Blk _ g1 33 [.slice E1 n1 e1, .slice E2 n2 e2, .slice E3 n3 e3, .slice A4 n4 c4] := ka2
  clear ka2
  replace z1 := z1.trans o1 fun q _ (hq : q = g1) => .inl (by omega)
  replace z2 := z2.trans o1 fun q _ (hq : q = g1) => .inl (by omega)
  replace z3 := z3.trans o1 fun q _ (hq : q = g1) => .inl (by omega)
  replace z4 := z4.trans o1 fun q _ (hq : q = g1) => .inl (by omega)
  replace zl := zl.trans o1 fun q _ (hq : q = g1) => .inl hq
  clear o1
  refine OP.wpF_only rfl (fun K hK => ?_)
  go_wp2_with fail
  refine ⟨fun h => absurd h (by omega), ?_⟩
  go_simp
  refine OP.wpF_only rfl (fun K hK => ?_)
  have cc := ka.cell 3
  have cf := ka.frozen 3
  go_wp2_with fail
  refine ⟨fun h => absurd h (by omega), ?_⟩
  go_simp
  clear cc cf
  have o1 : Off (fun q => q = g1) (((u4.setCell ⟨g1, 0, none⟩ (.slice E1 n1 e1)).setCell ⟨g1, 1, none⟩ (.slice E2 n2 e2)).setCell ⟨g1, 2, none⟩ (.slice E3 n3 e3)) ((((u4.setCell ⟨g1, 0, none⟩ (.slice E1 n1 e1)).setCell ⟨g1, 1, none⟩ (.slice E2 n2 e2)).setCell ⟨g1, 2, none⟩ (.slice E3 n3 e3)).setCell ⟨g1, 3, none⟩ (.slice E4 n4 e4)) := (Off.refl (fun k => k = g1) _).setCell (p := ⟨g1, 3, none⟩) (fun _ => rfl) _
  have ka2 := ka.set 3 (.slice E4 n4 e4)
  replace kz := kz.off o1 (by omega)
  clear ka
  have ka : Blk _ g1 33 [.slice E1 n1 e1, .slice E2 n2 e2, .slice E3 n3 e3, .slice E4 n4 e4] := ka2
  clear ka2
  replace z1 := z1.trans o1 fun q _ (hq : q = g1) => .inl (by omega)
  replace z2 := z2.trans o1 fun q _ (hq : q = g1) => .inl (by omega)
  replace z3 := z3.trans o1 fun q _ (hq : q = g1) => .inl (by omega)
  replace z4 := z4.trans o1 fun q _ (hq : q = g1) => .inl (by omega)
  replace zl := zl.trans o1 fun q _ (hq : q = g1) => .inl hq
  clear o1
  refine OP.wpF_nil ?_
  clear hS mkS
  have cx0 := ka.cell 0
  have cx1 := ka.cell 1
  have cx2 := ka.cell 2
  have cx3 := ka.cell 3
  go_wp2_with (first | (refine store_blk kz rfl 33 (.tmp 2) (.tmp 19) rfl rfl (us := [.slice E1 n1 e1, .slice E2 n2 e2, .slice E3 n3 e3, .slice E4 n4 e4]) rfl HI.out rfl rfl ?_; intro w9 k9 g9))
  have o9 : Off (fun q => q = g2) ((((u4.setCell ⟨g1, 0, none⟩ (.slice E1 n1 e1)).setCell ⟨g1, 1, none⟩ (.slice E2 n2 e2)).setCell ⟨g1, 2, none⟩ (.slice E3 n3 e3)).setCell ⟨g1, 3, none⟩ (.slice E4 n4 e4)) w9 := (Off.refl _ _).grown g9 fun q hq _ => by injection hq with hq; exact hq.symm
  replace z1 := z1.trans o9 fun q _ (hq : q = g2) => .inl (by omega)
  replace z2 := z2.trans o9 fun q _ (hq : q = g2) => .inl (by omega)
  replace z3 := z3.trans o9 fun q _ (hq : q = g2) => .inl (by omega)
  replace z4 := z4.trans o9 fun q _ (hq : q = g2) => .inl (by omega)
  replace zl := zl.trans o9 fun q _ (hq : q = g2) => .inr hq
  have hb : Below w.heap.size w w9 := by
    have q0 := f0
    replace q0 := q0.trans (ff1.mono (by omega))
    replace q0 := q0.trans (ff2.mono (by omega))
    replace q0 := q0.trans (ff3.mono (by omega))
    replace q0 := q0.trans (ff4.mono (by omega))
    exact q0.trans (zl.below q0.size (fun q hq => by omega))
  exact bodyPost_ret (k9.sized rfl _ rfl Tryz.underlying33 HI.out) rfl ⟨_, _, _, _, _, _, _, _, _, _, _, _, rfl, ⟨_, _, _, _, rfl, r1.fin z1 (by omega), r2.fin z2 (by omega), r3.fin z3 (by omega), r4.fin z4 (by omega)⟩, hb⟩
set_option maxRecDepth 100000 in
set_option maxHeartbeats 4000000 in
theorem ownWhen_any (s : Wn) (cs : List Value) (w : World) (h : WnP w w.heap.size cs s) (hok : okWn s) :
    Calls Tryz.prog 100 #[.agg cs.toArray] w fun e w' => ∃ (E1 : Option Addr) (m1 e1 : Nat), e = .returned (.agg #[.string (strB s.head), .slice E1 m1 e1]) ∧ WnP (mineW w.heap.size none w') w'.heap.size [.string (strB s.head), .slice E1 m1 e1] s ∧ Below w.heap.size w w' := by
  obtain ⟨A1, n1, c1, rfl, h1⟩ := vals_wn h
  have hi : (Tryz.prog.info? 50).map (·.size) = some 2 := by kernel_rfl
  have HI := Lib.hid hi; clear hi h
  have hn1 : n1 ≤ 1000000 := by rw [← h1.1]; exact hok.2.1
  have H1 := Lib.hid h1; clear h1
  have OK := Lib.hid hok; clear hok
  show Calls Tryz.prog 100 #[.agg #[.string (strB s.head), .slice A1 n1 c1]] w _
  go_enter Tryz.func100, Tryz.ntmps100
  go_upto_region 1 with fail
  refine abs (fun x => Blk x w.heap.size 50 [.string (strB s.head), .slice A1 n1 c1] ∧ Blk x (w.heap.size + 1) 50 [.string ⟨#[]⟩, .slice none 0 0] ∧ Below w.heap.size w x) ⟨(Blk.newAt rfl _ #[.string (strB s.head), .slice A1 n1 c1]).alloc _, Blk.newAt (by simp) _ #[.string ⟨#[]⟩, .slice none 0 0], ((Below.refl _ _).alloc (Nat.le_refl _) _).alloc (by simp) _⟩ ?_
  rintro u0 ⟨ka, kz, f0⟩
  have w0 : w.heap.size < u0.heap.size := ka.lt
  have hwg : w.heap.size < w.heap.size + 1 := by omega
  generalize hg2 : w.heap.size + 1 = g2 at *
  clear hg2
  obtain ⟨g1, hg1⟩ : ∃ x, w.heap.size = x := ⟨_, rfl⟩
  rw [hg1] at ka hwg
  have cr := ka.cell 1
  go_wp2_with fail
  refine (cloneT_any A1 n1 c1 _ u0 ((H1.out.below f0).more f0.size) hn1).mono ?_
  rintro e u1 ⟨E1, e1, rfl, r1, f1⟩
  have lka := ka.lt; have lkz := kz.lt
  have b1 : g2 < u0.heap.size := lkz
  replace ka := ka.below f1 lka
  replace kz := kz.below f1 lkz
  have z1 : Off (fun q => q < u0.heap.size ∨ u1.heap.size ≤ q) u1 u1 := Off.refl _ _
  have ff1 : Below u0.heap.size u0 u1 := f1
  have ss1 := f1.size
  clear f1 lka lkz
  clear cr
  have zl : Off (fun q => q = g1 ∨ q = g2) u1 u1 := Off.refl _ _
  have cc := ka.cell 1
  have cf := ka.frozen 1
  go_upto_region 2 with fail
  clear cc cf
  have o1 : Off (fun q => q = g1) u1 (u1.setCell ⟨g1, 1, none⟩ (.slice E1 n1 e1)) := (Off.refl (fun k => k = g1) _).setCell (p := ⟨g1, 1, none⟩) (fun _ => rfl) _
  have ka2 := ka.set 1 (.slice E1 n1 e1)
  replace kz := kz.off o1 (by omega)
  clear ka
  have ka : Blk _ g1 50 [.string (strB s.head), .slice E1 n1 e1] := ka2
  clear ka2
  replace z1 := z1.trans o1 fun q _ (hq : q = g1) => .inl (by omega)
  replace zl := zl.trans o1 fun q _ (hq : q = g1) => .inl hq
  clear o1
  have cx0 := ka.cell 0
  have cx1 := ka.cell 1
  go_wp2_with (first | (refine store_blk kz rfl 50 (.tmp 2) (.tmp 7) rfl rfl (us := [.string (strB s.head), .slice E1 n1 e1]) rfl HI.out rfl rfl ?_; intro w9 k9 g9))
  have o9 : Off (fun q => q = g2) (u1.setCell ⟨g1, 1, none⟩ (.slice E1 n1 e1)) w9 := (Off.refl _ _).grown g9 fun q hq _ => by injection hq with hq; exact hq.symm
  replace z1 := z1.trans o9 fun q _ (hq : q = g2) => .inl (by omega)
  replace zl := zl.trans o9 fun q _ (hq : q = g2) => .inr hq
  have hb : Below w.heap.size w w9 := by
    have q0 := f0
    replace q0 := q0.trans (ff1.mono (by omega))
    exact q0.trans (zl.below q0.size (fun q hq => by omega))
  exact bodyPost_ret (k9.sized rfl _ rfl Tryz.underlying50 HI.out) rfl ⟨_, _, _, rfl, ⟨_, rfl, r1.fin z1 (by omega)⟩, hb⟩
set_option maxRecDepth 100000 in
set_option maxHeartbeats 4000000 in
theorem mappedS_any (A : Option Addr) (n c : Nat) (L : List Sr) (w : World) (h : RdG 3 SrP w w.heap.size A n L) (hn : n ≤ 1000000) (okL : ∀ x ∈ L, okSr x) :
    Calls Tryz.prog 95 #[.slice A n c, .func (.func 96) #[] #[]] w fun e w' => ∃ A' m' c', e = .returned (.slice A' m' c') ∧ RvG 3 SrP (mineW w.heap.size none w') w'.heap.size (.slice A' m' c') L ∧ Below w.heap.size w w' := by
  have hl := h.1
  have HH := Lib.hid h; have HL := Lib.hid hl; have OKL := Lib.hid okL; clear h hl okL
  go_enter Tryz.func95, Tryz.ntmps95
  go_wp2_with fail
  go_loopw [5, 10] (fun v i wr => ∃ (k : Nat) (A' : Option Addr) (c' : Nat), i = .int .i64 k ∧ v = .slice A' k c' ∧ k ≤ n ∧ OwnG 3 SrP wr w.heap.size 45 (.slice A' k c') (L.take k) ∧ Below w.heap.size w wr) (fun _ i _ => n - (intOf i).toNat)
  case atStart => exact ⟨0, none, 0, rfl, rfl, Nat.zero_le _, OwnG.nil, Below.refl _ _⟩
  case round =>
    obtain ⟨k, B, d, rfl, rfl, hkn, og, f1⟩ := hrel
    by_cases hlt : k < n
    · have d2 : decide ((k : Int) < (n : Int)) = true := by simp; omega
      have b1 : (0 : Int) ≤ (k : Int) := by omega
      have b2 : (k : Int) < (n : Int) := by omega
      have hkL : k < L.length := by rw [HL.out]; exact hlt
      obtain ⟨ba, oa, ca, rfl, p2, p3, p4, p5⟩ := HH.out.at_ hlt
      have okx := OKL.out _ (List.getElem_mem hkL)
      have htk : L.take (k + 1) = L.take k ++ [L[k]] := List.take_succ_eq_append_getElem hkL
      have HTK := Lib.hid htk; clear htk
      obtain ⟨x, hx⟩ : ∃ x, L[k]'hkL = x := ⟨_, rfl⟩
      rw [hx] at p4 okx HTK
      clear hx p3
      have PX := Lib.hid p4
      obtain ⟨A1, n1, c1, A2, n2, c2, A3, n3, c3, rfl, _, _, _⟩ := vals_sr p4
      clear p4
      have a0 := (f1.cell (p := ⟨ba, oa + k * 3, none⟩) (by simp only; omega)).trans (p5 0 _ rfl)
      have a1 := (f1.cell (p := ⟨ba, oa + k * 3 + 1, none⟩) (by simp only; omega)).trans (p5 1 _ rfl)
      have a2 := (f1.cell (p := ⟨ba, oa + k * 3 + 2, none⟩) (by simp only; omega)).trans (p5 2 _ rfl)
      have gs1 := f1.size
      obtain ⟨g8, hg8⟩ : ∃ x, wr.heap.size = x := ⟨_, rfl⟩
      go_upto_region 5 with fail
      refine abs (fun xw => Blk xw g8 45 [.slice A1 n1 c1, .slice A2 n2 c2, .slice A3 n3 c3] ∧ Below wr.heap.size wr xw) ⟨Blk.newAt hg8 _ #[.slice A1 n1 c1, .slice A2 n2 c2, .slice A3 n3 c3], (Below.refl _ _).alloc (Nat.le_refl _) _⟩ ?_
      rintro v1 ⟨ka, f2⟩
      clear a0 a1 a2 p5
      have og1 := og.below SrP.mn f2
      have f3 := f1.trans (f2.mono gs1)
      have hAb := fun q hq => (og.lt q hq).2
      have hz := f2.size
      have y0 := ka.cell 0
      have y1 := ka.cell 1
      have y2 := ka.cell 2
      have hC := ownSource_any x _ v1 (PX.out.mono f3.size f3) okx
      clear og f2 hg8 gs1
      go_wp2_with fail
      refine hC.mono ?_
      rintro e v2 ⟨E1, m1, e1, E2, m2, e2, E3, m3, e3, rfl, hPx, f4⟩
      clear y0 y1 y2 hC
      have og2 := og1.below SrP.mn f4
      have f5 := f3.trans (f4.mono f3.size)
      have hs5 := f5.size
      have hs4 := f4.size
      have fal : Below v2.heap.size v2 (v2.alloc (.cells #[.slice E1 m1 e1, .slice E2 m2 e2, .slice E3 m3 e3] 45)) := (Below.refl _ _).alloc (Nat.le_refl _) _
      have hPy := SrP.mn _ _ _ _ _ _ (Nat.le_succ _) (Sub.own1 (w := v2) (base := w.heap.size) (lo := v1.heap.size) (B := v2.heap.size) (g := (Value.slice B k d).ownBlock) (.cells #[.slice E1 m1 e1, .slice E2 m2 e2, .slice E3 m3 e3] 45) f3.size (fun q hq => Nat.lt_of_lt_of_le (hAb q hq) hz) (Nat.le_refl _)) hPx
      have HCE := Lib.hid (new_cells v2 [.slice E1 m1 e1, .slice E2 m2 e2, .slice E3 m3 e3] 45)
      have HPY := Lib.hid hPy
      clear hPy hPx
      go_wp2_with (at_builtin; go_must (refine appendOwn1 TSr SrP.mn rfl rfl rfl (og2.below SrP.mn fal) rfl rfl (by intro v hv; simp only [List.mem_cons, List.mem_nil_iff, or_false] at hv; rcases hv with rfl | rfl | rfl <;> rfl) HCE.out (by rw [show (v2.alloc (.cells #[.slice E1 m1 e1, .slice E2 m2 e2, .slice E3 m3 e3] 45)).heap.size = v2.heap.size + 1 by simp]; exact HPY.out) (by omega) (by simp only [maxLen]; omega) (by simp; omega) ?_); intro A'' c'' w4 og4 g4)
      have f6 : Below w.heap.size w w4 := (f5.alloc hs5 _).grown g4 (by simp; omega) (fun q hq => (og2.lt q hq).1)
      go_roundw
      case rel => exact ⟨k + 1, A'', c'', by go_num, rfl, by omega, by rw [HTK.out]; exact og4, f6⟩
      case measure => simp [intOf]; omega
    · have d2 : decide ((k : Int) < (n : Int)) = false := by simp; omega
      obtain rfl : k = n := by omega
      rw [List.take_of_length_le (by rw [HL.out]; exact Nat.le_refl _)] at og
      go_wp2_with fail
      go_ret
      exact ⟨B, k, d, rfl, og.rvm SrP.mn, f1⟩
set_option maxRecDepth 100000 in
set_option maxHeartbeats 4000000 in
theorem mappedT_any (A : Option Addr) (n c : Nat) (L : List Tg) (w : World) (h : RdG 4 TgP w w.heap.size A n L) (hn : n ≤ 1000000) (okL : ∀ x ∈ L, okTg x) :
    Calls Tryz.prog 97 #[.slice A n c, .func (.func 98) #[] #[]] w fun e w' => ∃ A' m' c', e = .returned (.slice A' m' c') ∧ RvG 4 TgP (mineW w.heap.size none w') w'.heap.size (.slice A' m' c') L ∧ Below w.heap.size w w' := by
  have hl := h.1
  have HH := Lib.hid h; have HL := Lib.hid hl; have OKL := Lib.hid okL; clear h hl okL
  go_enter Tryz.func97, Tryz.ntmps97
  go_wp2_with fail
  go_loopw [5, 10] (fun v i wr => ∃ (k : Nat) (A' : Option Addr) (c' : Nat), i = .int .i64 k ∧ v = .slice A' k c' ∧ k ≤ n ∧ OwnG 4 TgP wr w.heap.size 33 (.slice A' k c') (L.take k) ∧ Below w.heap.size w wr) (fun _ i _ => n - (intOf i).toNat)
  case atStart => exact ⟨0, none, 0, rfl, rfl, Nat.zero_le _, OwnG.nil, Below.refl _ _⟩
  case round =>
    obtain ⟨k, B, d, rfl, rfl, hkn, og, f1⟩ := hrel
    by_cases hlt : k < n
    · have d2 : decide ((k : Int) < (n : Int)) = true := by simp; omega
      have b1 : (0 : Int) ≤ (k : Int) := by omega
      have b2 : (k : Int) < (n : Int) := by omega
      have hkL : k < L.length := by rw [HL.out]; exact hlt
      obtain ⟨ba, oa, ca, rfl, p2, p3, p4, p5⟩ := HH.out.at_ hlt
      have okx := OKL.out _ (List.getElem_mem hkL)
      have htk : L.take (k + 1) = L.take k ++ [L[k]] := List.take_succ_eq_append_getElem hkL
      have HTK := Lib.hid htk; clear htk
      obtain ⟨x, hx⟩ : ∃ x, L[k]'hkL = x := ⟨_, rfl⟩
      rw [hx] at p4 okx HTK
      clear hx p3
      have PX := Lib.hid p4
      obtain ⟨A1, n1, c1, A2, n2, c2, A3, n3, c3, A4, n4, c4, rfl, _, _, _, _⟩ := vals_tg p4
      clear p4
      have a0 := (f1.cell (p := ⟨ba, oa + k * 4, none⟩) (by simp only; omega)).trans (p5 0 _ rfl)
      have a1 := (f1.cell (p := ⟨ba, oa + k * 4 + 1, none⟩) (by simp only; omega)).trans (p5 1 _ rfl)
      have a2 := (f1.cell (p := ⟨ba, oa + k * 4 + 2, none⟩) (by simp only; omega)).trans (p5 2 _ rfl)
      have a3 := (f1.cell (p := ⟨ba, oa + k * 4 + 3, none⟩) (by simp only; omega)).trans (p5 3 _ rfl)
      have gs1 := f1.size
      obtain ⟨g8, hg8⟩ : ∃ x, wr.heap.size = x := ⟨_, rfl⟩
      go_upto_region 5 with fail
      refine abs (fun xw => Blk xw g8 33 [.slice A1 n1 c1, .slice A2 n2 c2, .slice A3 n3 c3, .slice A4 n4 c4] ∧ Below wr.heap.size wr xw) ⟨Blk.newAt hg8 _ #[.slice A1 n1 c1, .slice A2 n2 c2, .slice A3 n3 c3, .slice A4 n4 c4], (Below.refl _ _).alloc (Nat.le_refl _) _⟩ ?_
      rintro v1 ⟨ka, f2⟩
      clear a0 a1 a2 a3 p5
      have og1 := og.below TgP.mn f2
      have f3 := f1.trans (f2.mono gs1)
      have hAb := fun q hq => (og.lt q hq).2
      have hz := f2.size
      have y0 := ka.cell 0
      have y1 := ka.cell 1
      have y2 := ka.cell 2
      have y3 := ka.cell 3
      have hC := ownTarget_any x _ v1 (PX.out.mono f3.size f3) okx
      clear og f2 hg8 gs1
      go_wp2_with fail
      refine hC.mono ?_
      rintro e v2 ⟨E1, m1, e1, E2, m2, e2, E3, m3, e3, E4, m4, e4, rfl, hPx, f4⟩
      clear y0 y1 y2 y3 hC
      have og2 := og1.below TgP.mn f4
      have f5 := f3.trans (f4.mono f3.size)
      have hs5 := f5.size
      have hs4 := f4.size
      have fal : Below v2.heap.size v2 (v2.alloc (.cells #[.slice E1 m1 e1, .slice E2 m2 e2, .slice E3 m3 e3, .slice E4 m4 e4] 33)) := (Below.refl _ _).alloc (Nat.le_refl _) _
      have hPy := TgP.mn _ _ _ _ _ _ (Nat.le_succ _) (Sub.own1 (w := v2) (base := w.heap.size) (lo := v1.heap.size) (B := v2.heap.size) (g := (Value.slice B k d).ownBlock) (.cells #[.slice E1 m1 e1, .slice E2 m2 e2, .slice E3 m3 e3, .slice E4 m4 e4] 33) f3.size (fun q hq => Nat.lt_of_lt_of_le (hAb q hq) hz) (Nat.le_refl _)) hPx
      have HCE := Lib.hid (new_cells v2 [.slice E1 m1 e1, .slice E2 m2 e2, .slice E3 m3 e3, .slice E4 m4 e4] 33)
      have HPY := Lib.hid hPy
      clear hPy hPx
      go_wp2_with (at_builtin; go_must (refine appendOwn1 TTg TgP.mn rfl rfl rfl (og2.below TgP.mn fal) rfl rfl (by intro v hv; simp only [List.mem_cons, List.mem_nil_iff, or_false] at hv; rcases hv with rfl | rfl | rfl | rfl <;> rfl) HCE.out (by rw [show (v2.alloc (.cells #[.slice E1 m1 e1, .slice E2 m2 e2, .slice E3 m3 e3, .slice E4 m4 e4] 33)).heap.size = v2.heap.size + 1 by simp]; exact HPY.out) (by omega) (by simp only [maxLen]; omega) (by simp; omega) ?_); intro A'' c'' w4 og4 g4)
      have f6 : Below w.heap.size w w4 := (f5.alloc hs5 _).grown g4 (by simp; omega) (fun q hq => (og2.lt q hq).1)
      go_roundw
      case rel => exact ⟨k + 1, A'', c'', by go_num, rfl, by omega, by rw [HTK.out]; exact og4, f6⟩
      case measure => simp [intOf]; omega
    · have d2 : decide ((k : Int) < (n : Int)) = false := by simp; omega
      obtain rfl : k = n := by omega
      rw [List.take_of_length_le (by rw [HL.out]; exact Nat.le_refl _)] at og
      go_wp2_with fail
      go_ret
      exact ⟨B, k, d, rfl, og.rvm TgP.mn, f1⟩
set_option maxRecDepth 100000 in
set_option maxHeartbeats 4000000 in
theorem mappedW_any (A : Option Addr) (n c : Nat) (L : List Wn) (w : World) (h : RdG 2 WnP w w.heap.size A n L) (hn : n ≤ 1000000) (okL : ∀ x ∈ L, okWn x) :
    Calls Tryz.prog 99 #[.slice A n c, .func (.func 100) #[] #[]] w fun e w' => ∃ A' m' c', e = .returned (.slice A' m' c') ∧ RvG 2 WnP (mineW w.heap.size none w') w'.heap.size (.slice A' m' c') L ∧ Below w.heap.size w w' := by
  have hl := h.1
  have HH := Lib.hid h; have HL := Lib.hid hl; have OKL := Lib.hid okL; clear h hl okL
  go_enter Tryz.func99, Tryz.ntmps99
  go_wp2_with fail
  go_loopw [5, 10] (fun v i wr => ∃ (k : Nat) (A' : Option Addr) (c' : Nat), i = .int .i64 k ∧ v = .slice A' k c' ∧ k ≤ n ∧ OwnG 2 WnP wr w.heap.size 50 (.slice A' k c') (L.take k) ∧ Below w.heap.size w wr) (fun _ i _ => n - (intOf i).toNat)
  case atStart => exact ⟨0, none, 0, rfl, rfl, Nat.zero_le _, OwnG.nil, Below.refl _ _⟩
  case round =>
    obtain ⟨k, B, d, rfl, rfl, hkn, og, f1⟩ := hrel
    by_cases hlt : k < n
    · have d2 : decide ((k : Int) < (n : Int)) = true := by simp; omega
      have b1 : (0 : Int) ≤ (k : Int) := by omega
      have b2 : (k : Int) < (n : Int) := by omega
      have hkL : k < L.length := by rw [HL.out]; exact hlt
      obtain ⟨ba, oa, ca, rfl, p2, p3, p4, p5⟩ := HH.out.at_ hlt
      have okx := OKL.out _ (List.getElem_mem hkL)
      have htk : L.take (k + 1) = L.take k ++ [L[k]] := List.take_succ_eq_append_getElem hkL
      have HTK := Lib.hid htk; clear htk
      obtain ⟨x, hx⟩ : ∃ x, L[k]'hkL = x := ⟨_, rfl⟩
      rw [hx] at p4 okx HTK
      clear hx p3
      have PX := Lib.hid p4
      obtain ⟨A1, n1, c1, rfl, _⟩ := vals_wn p4
      clear p4
      have a0 := (f1.cell (p := ⟨ba, oa + k * 2, none⟩) (by simp only; omega)).trans (p5 0 _ rfl)
      have a1 := (f1.cell (p := ⟨ba, oa + k * 2 + 1, none⟩) (by simp only; omega)).trans (p5 1 _ rfl)
      have gs1 := f1.size
      obtain ⟨g8, hg8⟩ : ∃ x, wr.heap.size = x := ⟨_, rfl⟩
      go_upto_region 5 with fail
      refine abs (fun xw => Blk xw g8 50 [.string (strB x.head), .slice A1 n1 c1] ∧ Below wr.heap.size wr xw) ⟨Blk.newAt hg8 _ #[.string (strB x.head), .slice A1 n1 c1], (Below.refl _ _).alloc (Nat.le_refl _) _⟩ ?_
      rintro v1 ⟨ka, f2⟩
      clear a0 a1 p5
      have og1 := og.below WnP.mn f2
      have f3 := f1.trans (f2.mono gs1)
      have hAb := fun q hq => (og.lt q hq).2
      have hz := f2.size
      have y0 := ka.cell 0
      have y1 := ka.cell 1
      have hC := ownWhen_any x _ v1 (PX.out.mono f3.size f3) okx
      clear og f2 hg8 gs1
      go_wp2_with fail
      refine hC.mono ?_
      rintro e v2 ⟨E1, m1, e1, rfl, hPx, f4⟩
      clear y0 y1 hC
      have og2 := og1.below WnP.mn f4
      have f5 := f3.trans (f4.mono f3.size)
      have hs5 := f5.size
      have hs4 := f4.size
      have fal : Below v2.heap.size v2 (v2.alloc (.cells #[.string (strB x.head), .slice E1 m1 e1] 50)) := (Below.refl _ _).alloc (Nat.le_refl _) _
      have hPy := WnP.mn _ _ _ _ _ _ (Nat.le_succ _) (Sub.own1 (w := v2) (base := w.heap.size) (lo := v1.heap.size) (B := v2.heap.size) (g := (Value.slice B k d).ownBlock) (.cells #[.string (strB x.head), .slice E1 m1 e1] 50) f3.size (fun q hq => Nat.lt_of_lt_of_le (hAb q hq) hz) (Nat.le_refl _)) hPx
      have HCE := Lib.hid (new_cells v2 [.string (strB x.head), .slice E1 m1 e1] 50)
      have HPY := Lib.hid hPy
      clear hPy hPx
      go_wp2_with (at_builtin; go_must (refine appendOwn1 TWn WnP.mn rfl rfl rfl (og2.below WnP.mn fal) rfl rfl (by intro v hv; simp only [List.mem_cons, List.mem_nil_iff, or_false] at hv; rcases hv with rfl | rfl <;> rfl) HCE.out (by rw [show (v2.alloc (.cells #[.string (strB x.head), .slice E1 m1 e1] 50)).heap.size = v2.heap.size + 1 by simp]; exact HPY.out) (by omega) (by simp only [maxLen]; omega) (by simp; omega) ?_); intro A'' c'' w4 og4 g4)
      have f6 : Below w.heap.size w w4 := (f5.alloc hs5 _).grown g4 (by simp; omega) (fun q hq => (og2.lt q hq).1)
      go_roundw
      case rel => exact ⟨k + 1, A'', c'', by go_num, rfl, by omega, by rw [HTK.out]; exact og4, f6⟩
      case measure => simp [intOf]; omega
    · have d2 : decide ((k : Int) < (n : Int)) = false := by simp; omega
      obtain rfl : k = n := by omega
      rw [List.take_of_length_le (by rw [HL.out]; exact Nat.le_refl _)] at og
      go_wp2_with fail
      go_ret
      exact ⟨B, k, d, rfl, og.rvm WnP.mn, f1⟩
set_option maxRecDepth 100000 in
set_option maxHeartbeats 4000000 in
theorem ownRule_any (s : Ru) (cs : List Value) (w : World) (h : RuP w w.heap.size cs s) (hok : okRu s) :
    Calls Tryz.prog 49 #[.agg cs.toArray] w fun e w' => ∃ (E1 : Option Addr) (m1 e1 : Nat) (E2 : Option Addr) (m2 e2 : Nat) (E3 : Option Addr) (m3 e3 : Nat), e = .returned (.agg #[.slice E1 m1 e1, .slice E2 m2 e2, .slice E3 m3 e3]) ∧ RuP (mineW w.heap.size none w') w'.heap.size [.slice E1 m1 e1, .slice E2 m2 e2, .slice E3 m3 e3] s ∧ Below w.heap.size w w' := by
  obtain ⟨A1, n1, c1, A2, n2, c2, A3, n3, c3, rfl, h1, h2, h3⟩ := vals_ru h
  have hi : (Tryz.prog.info? 26).map (·.size) = some 3 := by kernel_rfl
  have HI := Lib.hid hi; clear hi h
  have hn1 : n1 ≤ 1000000 := by rw [← h1.1]; exact hok.1.1
  have hn2 : n2 ≤ 1000000 := by rw [← h2.1]; exact hok.2.1.1
  have hn3 : n3 ≤ 1000000 := by rw [← h3.1]; exact hok.2.2.1
  have H1 := Lib.hid h1; clear h1
  have H2 := Lib.hid h2; clear h2
  have H3 := Lib.hid h3; clear h3
  have OK := Lib.hid hok; clear hok
  show Calls Tryz.prog 49 #[.agg #[.slice A1 n1 c1, .slice A2 n2 c2, .slice A3 n3 c3]] w _
  go_enter Tryz.func49, Tryz.ntmps49
  go_upto_region 1 with fail
  refine abs (fun x => Blk x w.heap.size 26 [.slice A1 n1 c1, .slice A2 n2 c2, .slice A3 n3 c3] ∧ Blk x (w.heap.size + 1) 26 [.slice none 0 0, .slice none 0 0, .slice none 0 0] ∧ Below w.heap.size w x) ⟨(Blk.newAt rfl _ #[.slice A1 n1 c1, .slice A2 n2 c2, .slice A3 n3 c3]).alloc _, Blk.newAt (by simp) _ #[.slice none 0 0, .slice none 0 0, .slice none 0 0], ((Below.refl _ _).alloc (Nat.le_refl _) _).alloc (by simp) _⟩ ?_
  rintro u0 ⟨ka, kz, f0⟩
  have w0 : w.heap.size < u0.heap.size := ka.lt
  have hwg : w.heap.size < w.heap.size + 1 := by omega
  generalize hg2 : w.heap.size + 1 = g2 at *
  clear hg2
  obtain ⟨g1, hg1⟩ : ∃ x, w.heap.size = x := ⟨_, rfl⟩
  rw [hg1] at ka hwg
  have mkS : ∀ u, Blk u g1 26 [.slice A1 n1 c1, .slice A2 n2 c2, .slice A3 n3 c3] → u.cell? ⟨g1, 0, none⟩ = some (.slice A1 n1 c1) ∧ u.cell? ⟨g1, 1, none⟩ = some (.slice A2 n2 c2) ∧ u.cell? ⟨g1, 2, none⟩ = some (.slice A3 n3 c3) := fun u hk => ⟨hk.cell 0, hk.cell 1, hk.cell 2⟩
  refine OP.wp_region_order (fun u => u.cell? ⟨g1, 0, none⟩ = some (.slice A1 n1 c1) ∧ u.cell? ⟨g1, 1, none⟩ = some (.slice A2 n2 c2) ∧ u.cell? ⟨g1, 2, none⟩ = some (.slice A3 n3 c3)) 10 [(0,0), (1,0), (3,0), (4,0), (6,0), (7,0), (2,1), (9,0), (5,1), (8,1), (10,2), (11,2), (12,2), (13,2), (14,2)] (by kernel_rfl) (by kernel_rfl) ?_
  simp only [OP.pick, List.filterMap_cons, List.filterMap_nil, List.getElem?_cons_zero, List.getElem?_cons_succ, Option.map_some]
  refine absF (fun x => Blk x g1 26 [.slice A1 n1 c1, .slice A2 n2 c2, .slice A3 n3 c3] ∧ Blk x g2 26 [.slice none 0 0, .slice none 0 0, .slice none 0 0] ∧ Below w.heap.size w x ∧ w.heap.size < x.heap.size) ⟨ka.drew, kz.drew, f0.drew, w0⟩ ?_
  clear ka kz f0 w0 u0
  rintro u0 ⟨ka, kz, f0, w0⟩
  have hS := mkS _ ka
  refine OP.wpF_take (v := ?_) hS rfl ?_ (fun _ _ _ h => h) ?_
  rotate_left
  · intro w' hS'
    obtain ⟨e1, e2, e3⟩ := hS'
    go_simp <;> rfl
  go_simp
  refine OP.wpF_take (v := ?_) hS rfl ?_ (fun _ _ _ h => h) ?_
  rotate_left
  · intro w' hS'
    obtain ⟨e1, e2, e3⟩ := hS'
    go_simp <;> rfl
  go_simp
  refine OP.wpF_take (v := ?_) hS rfl ?_ (fun _ _ _ h => h) ?_
  rotate_left
  · intro w' hS'
    obtain ⟨e1, e2, e3⟩ := hS'
    go_simp <;> rfl
  go_simp
  refine OP.wpF_take (v := ?_) hS rfl ?_ (fun _ _ _ h => h) ?_
  rotate_left
  · intro w' hS'
    obtain ⟨e1, e2, e3⟩ := hS'
    go_simp <;> rfl
  go_simp
  refine OP.wpF_take (v := ?_) hS rfl ?_ (fun _ _ _ h => h) ?_
  rotate_left
  · intro w' hS'
    obtain ⟨e1, e2, e3⟩ := hS'
    go_simp <;> rfl
  go_simp
  refine OP.wpF_take (v := ?_) hS rfl ?_ (fun _ _ _ h => h) ?_
  rotate_left
  · intro w' hS'
    obtain ⟨e1, e2, e3⟩ := hS'
    go_simp <;> rfl
  go_simp
  refine OP.wpF_only rfl (fun K hK => ?_)
  go_wp2_with fail
  refine (mappedS_any A1 n1 c1 _ u0 (H1.out.mono f0.size f0 (fun _ _ h => h.mono f0.size f0)) hn1 OK.out.1.2).mono ?_
  rintro e u1 ⟨E1, m1, e1, rfl, r1, f1⟩
  have lka := ka.lt; have lkz := kz.lt
  have b1 : g2 < u0.heap.size := lkz
  replace ka := ka.below f1 lka
  replace kz := kz.below f1 lkz
  have z1 : Off (fun q => q < u0.heap.size ∨ u1.heap.size ≤ q) u1 u1 := Off.refl _ _
  have ff1 : Below u0.heap.size u0 u1 := f1
  have ss1 := f1.size
  clear f1 lka lkz
  replace hS := mkS _ ka
  go_wp2_with fail
  first | refine ⟨fun _ => hS, ?_⟩ | refine ⟨hS, ?_⟩
  go_simp
  refine OP.wpF_take (v := ?_) hS rfl ?_ (fun _ _ _ h => h) ?_
  rotate_left
  · intro w' hS'
    obtain ⟨e1, e2, e3⟩ := hS'
    go_simp <;> rfl
  go_simp
  refine OP.wpF_only rfl (fun K hK => ?_)
  go_wp2_with fail
  refine (mappedT_any A2 n2 c2 _ u1 (H2.out.mono (f0.trans (ff1.mono (by omega))).size (f0.trans (ff1.mono (by omega))) (fun _ _ h => h.mono (f0.trans (ff1.mono (by omega))).size (f0.trans (ff1.mono (by omega))))) hn2 OK.out.2.1.2).mono ?_
  rintro e u2 ⟨E2, m2, e2, rfl, r2, f1⟩
  have lka := ka.lt; have lkz := kz.lt
  have b2 : g2 < u1.heap.size := lkz
  replace ka := ka.below f1 lka
  replace kz := kz.below f1 lkz
  have z2 : Off (fun q => q < u1.heap.size ∨ u2.heap.size ≤ q) u2 u2 := Off.refl _ _
  replace z1 := z1.trans (Off.of_all f1) fun _ _ h => h.elim
  have ff2 : Below u1.heap.size u1 u2 := f1
  have ss2 := f1.size
  clear f1 lka lkz
  replace hS := mkS _ ka
  go_wp2_with fail
  first | refine ⟨fun _ => hS, ?_⟩ | refine ⟨hS, ?_⟩
  go_simp
  refine OP.wpF_only rfl (fun K hK => ?_)
  go_wp2_with fail
  refine (mappedW_any A3 n3 c3 _ u2 (H3.out.mono ((f0.trans (ff1.mono (by omega))).trans (ff2.mono (by omega))).size ((f0.trans (ff1.mono (by omega))).trans (ff2.mono (by omega))) (fun _ _ h => h.mono ((f0.trans (ff1.mono (by omega))).trans (ff2.mono (by omega))).size ((f0.trans (ff1.mono (by omega))).trans (ff2.mono (by omega))))) hn3 OK.out.2.2.2).mono ?_
  rintro e u3 ⟨E3, m3, e3, rfl, r3, f1⟩
  have lka := ka.lt; have lkz := kz.lt
  have b3 : g2 < u2.heap.size := lkz
  replace ka := ka.below f1 lka
  replace kz := kz.below f1 lkz
  have z3 : Off (fun q => q < u2.heap.size ∨ u3.heap.size ≤ q) u3 u3 := Off.refl _ _
  replace z1 := z1.trans (Off.of_all f1) fun _ _ h => h.elim
  replace z2 := z2.trans (Off.of_all f1) fun _ _ h => h.elim
  have ff3 : Below u2.heap.size u2 u3 := f1
  have ss3 := f1.size
  clear f1 lka lkz
  replace hS := mkS _ ka
  go_wp2_with fail
  first | refine ⟨fun _ => hS, ?_⟩ | refine ⟨hS, ?_⟩
  go_simp
  refine OP.wpF_only rfl (fun K hK => ?_)
  have zl : Off (fun q => q = g1 ∨ q = g2) u3 u3 := Off.refl _ _
  have cc := ka.cell 0
  have cf := ka.frozen 0
  go_wp2_with fail
  refine ⟨fun h => absurd h (by omega), ?_⟩
  go_simp
  clear cc cf
  have o1 : Off (fun q => q = g1) u3 (u3.setCell ⟨g1, 0, none⟩ (.slice E1 m1 e1)) := (Off.refl (fun k => k = g1) _).setCell (p := ⟨g1, 0, none⟩) (fun _ => rfl) _
  have ka2 := ka.set 0 (.slice E1 m1 e1)
  replace kz := kz.off o1 (by omega)
  clear ka
  have ka : Blk _ g1 26 [.slice E1 m1 e1, .slice A2 n2 c2, .slice A3 n3 c3] := ka2
  clear ka2
  replace z1 := z1.trans o1 fun q _ (hq : q = g1) => .inl (by omega)
  replace z2 := z2.trans o1 fun q _ (hq : q = g1) => .inl (by omega)
  replace z3 := z3.trans o1 fun q _ (hq : q = g1) => .inl (by omega)
  replace zl := zl.trans o1 fun q _ (hq : q = g1) => .inl hq
  clear o1
  refine OP.wpF_only rfl (fun K hK => ?_)
  go_wp2_with fail
  refine ⟨fun h => absurd h (by omega), ?_⟩
  go_simp
  refine OP.wpF_only rfl (fun K hK => ?_)
  have cc := ka.cell 1
  have cf := ka.frozen 1
  go_wp2_with fail
  refine ⟨fun h => absurd h (by omega), ?_⟩
  go_simp
  clear cc cf
  have o1 : Off (fun q => q = g1) (u3.setCell ⟨g1, 0, none⟩ (.slice E1 m1 e1)) ((u3.setCell ⟨g1, 0, none⟩ (.slice E1 m1 e1)).setCell ⟨g1, 1, none⟩ (.slice E2 m2 e2)) := (Off.refl (fun k => k = g1) _).setCell (p := ⟨g1, 1, none⟩) (fun _ => rfl) _
  have ka2 := ka.set 1 (.slice E2 m2 e2)
  replace kz := kz.off o1 (by omega)
  clear ka
  have ka : Blk _ g1 26 [.slice E1 m1 e1, .slice E2 m2 e2, .slice A3 n3 c3] := ka2
  clear ka2
  replace z1 := z1.trans o1 fun q _ (hq : q = g1) => .inl (by omega)
  replace z2 := z2.trans o1 fun q _ (hq : q = g1) => .inl (by omega)
  replace z3 := z3.trans o1 fun q _ (hq : q = g1) => .inl (by omega)
  replace zl := zl.trans o1 fun q _ (hq : q = g1) => .inl hq
  clear o1
  refine OP.wpF_only rfl (fun K hK => ?_)
  go_wp2_with fail
  refine ⟨fun h => absurd h (by omega), ?_⟩
  go_simp
  refine OP.wpF_only rfl (fun K hK => ?_)
  have cc := ka.cell 2
  have cf := ka.frozen 2
  go_wp2_with fail
  refine ⟨fun h => absurd h (by omega), ?_⟩
  go_simp
  clear cc cf
  have o1 : Off (fun q => q = g1) ((u3.setCell ⟨g1, 0, none⟩ (.slice E1 m1 e1)).setCell ⟨g1, 1, none⟩ (.slice E2 m2 e2)) (((u3.setCell ⟨g1, 0, none⟩ (.slice E1 m1 e1)).setCell ⟨g1, 1, none⟩ (.slice E2 m2 e2)).setCell ⟨g1, 2, none⟩ (.slice E3 m3 e3)) := (Off.refl (fun k => k = g1) _).setCell (p := ⟨g1, 2, none⟩) (fun _ => rfl) _
  have ka2 := ka.set 2 (.slice E3 m3 e3)
  replace kz := kz.off o1 (by omega)
  clear ka
  have ka : Blk _ g1 26 [.slice E1 m1 e1, .slice E2 m2 e2, .slice E3 m3 e3] := ka2
  clear ka2
  replace z1 := z1.trans o1 fun q _ (hq : q = g1) => .inl (by omega)
  replace z2 := z2.trans o1 fun q _ (hq : q = g1) => .inl (by omega)
  replace z3 := z3.trans o1 fun q _ (hq : q = g1) => .inl (by omega)
  replace zl := zl.trans o1 fun q _ (hq : q = g1) => .inl hq
  clear o1
  refine OP.wpF_nil ?_
  clear hS mkS
  have cx0 := ka.cell 0
  have cx1 := ka.cell 1
  have cx2 := ka.cell 2
  go_wp2_with (first | (refine store_blk kz rfl 26 (.tmp 2) (.tmp 15) rfl rfl (us := [.slice E1 m1 e1, .slice E2 m2 e2, .slice E3 m3 e3]) rfl HI.out rfl rfl ?_; intro w9 k9 g9))
  have o9 : Off (fun q => q = g2) (((u3.setCell ⟨g1, 0, none⟩ (.slice E1 m1 e1)).setCell ⟨g1, 1, none⟩ (.slice E2 m2 e2)).setCell ⟨g1, 2, none⟩ (.slice E3 m3 e3)) w9 := (Off.refl _ _).grown g9 fun q hq _ => by injection hq with hq; exact hq.symm
  replace z1 := z1.trans o9 fun q _ (hq : q = g2) => .inl (by omega)
  replace z2 := z2.trans o9 fun q _ (hq : q = g2) => .inl (by omega)
  replace z3 := z3.trans o9 fun q _ (hq : q = g2) => .inl (by omega)
  replace zl := zl.trans o9 fun q _ (hq : q = g2) => .inr hq
  have hb : Below w.heap.size w w9 := by
    have q0 := f0
    replace q0 := q0.trans (ff1.mono (by omega))
    replace q0 := q0.trans (ff2.mono (by omega))
    replace q0 := q0.trans (ff3.mono (by omega))
    exact q0.trans (zl.below q0.size (fun q hq => by omega))
  exact bodyPost_ret (k9.sized rfl _ rfl Tryz.underlying26 HI.out) rfl ⟨_, _, _, _, _, _, _, _, _, rfl, ⟨_, _, _, rfl, r1.fin SrP.mn z1 (by omega), r2.fin TgP.mn z2 (by omega), r3.fin WnP.mn z3 (by omega)⟩, hb⟩
set_option maxRecDepth 100000 in
set_option maxHeartbeats 4000000 in
theorem mappedR_any (A : Option Addr) (n c : Nat) (L : List Ru) (w : World) (h : RdG 3 RuP w w.heap.size A n L) (hn : n ≤ 1000000) (okL : ∀ x ∈ L, okRu x) :
    Calls Tryz.prog 48 #[.slice A n c, .func (.func 49) #[] #[]] w fun e w' => ∃ A' m' c', e = .returned (.slice A' m' c') ∧ RvG 3 RuP (mineW w.heap.size none w') w'.heap.size (.slice A' m' c') L ∧ Below w.heap.size w w' := by
  have hl := h.1
  have HH := Lib.hid h; have HL := Lib.hid hl; have OKL := Lib.hid okL; clear h hl okL
  go_enter Tryz.func48, Tryz.ntmps48
  go_wp2_with fail
  go_loopw [5, 10] (fun v i wr => ∃ (k : Nat) (A' : Option Addr) (c' : Nat), i = .int .i64 k ∧ v = .slice A' k c' ∧ k ≤ n ∧ OwnG 3 RuP wr w.heap.size 26 (.slice A' k c') (L.take k) ∧ Below w.heap.size w wr) (fun _ i _ => n - (intOf i).toNat)
  case atStart => exact ⟨0, none, 0, rfl, rfl, Nat.zero_le _, OwnG.nil, Below.refl _ _⟩
  case round =>
    obtain ⟨k, B, d, rfl, rfl, hkn, og, f1⟩ := hrel
    by_cases hlt : k < n
    · have d2 : decide ((k : Int) < (n : Int)) = true := by simp; omega
      have b1 : (0 : Int) ≤ (k : Int) := by omega
      have b2 : (k : Int) < (n : Int) := by omega
      have hkL : k < L.length := by rw [HL.out]; exact hlt
      obtain ⟨ba, oa, ca, rfl, p2, p3, p4, p5⟩ := HH.out.at_ hlt
      have okx := OKL.out _ (List.getElem_mem hkL)
      have htk : L.take (k + 1) = L.take k ++ [L[k]] := List.take_succ_eq_append_getElem hkL
      have HTK := Lib.hid htk; clear htk
      obtain ⟨x, hx⟩ : ∃ x, L[k]'hkL = x := ⟨_, rfl⟩
      rw [hx] at p4 okx HTK
      clear hx p3
      have PX := Lib.hid p4
      obtain ⟨A1, n1, c1, A2, n2, c2, A3, n3, c3, rfl, _, _, _⟩ := vals_ru p4
      clear p4
      have a0 := (f1.cell (p := ⟨ba, oa + k * 3, none⟩) (by simp only; omega)).trans (p5 0 _ rfl)
      have a1 := (f1.cell (p := ⟨ba, oa + k * 3 + 1, none⟩) (by simp only; omega)).trans (p5 1 _ rfl)
      have a2 := (f1.cell (p := ⟨ba, oa + k * 3 + 2, none⟩) (by simp only; omega)).trans (p5 2 _ rfl)
      have gs1 := f1.size
      obtain ⟨g8, hg8⟩ : ∃ x, wr.heap.size = x := ⟨_, rfl⟩
      go_upto_region 5 with fail
      refine abs (fun xw => Blk xw g8 26 [.slice A1 n1 c1, .slice A2 n2 c2, .slice A3 n3 c3] ∧ Below wr.heap.size wr xw) ⟨Blk.newAt hg8 _ #[.slice A1 n1 c1, .slice A2 n2 c2, .slice A3 n3 c3], (Below.refl _ _).alloc (Nat.le_refl _) _⟩ ?_
      rintro v1 ⟨ka, f2⟩
      clear a0 a1 a2 p5
      have og1 := og.below RuP.mn f2
      have f3 := f1.trans (f2.mono gs1)
      have hAb := fun q hq => (og.lt q hq).2
      have hz := f2.size
      have y0 := ka.cell 0
      have y1 := ka.cell 1
      have y2 := ka.cell 2
      have hC := ownRule_any x _ v1 (PX.out.mono f3.size f3) okx
      clear og f2 hg8 gs1
      go_wp2_with fail
      refine hC.mono ?_
      rintro e v2 ⟨E1, m1, e1, E2, m2, e2, E3, m3, e3, rfl, hPx, f4⟩
      clear y0 y1 y2 hC
      have og2 := og1.below RuP.mn f4
      have f5 := f3.trans (f4.mono f3.size)
      have hs5 := f5.size
      have hs4 := f4.size
      have fal : Below v2.heap.size v2 (v2.alloc (.cells #[.slice E1 m1 e1, .slice E2 m2 e2, .slice E3 m3 e3] 26)) := (Below.refl _ _).alloc (Nat.le_refl _) _
      have hPy := RuP.mn _ _ _ _ _ _ (Nat.le_succ _) (Sub.own1 (w := v2) (base := w.heap.size) (lo := v1.heap.size) (B := v2.heap.size) (g := (Value.slice B k d).ownBlock) (.cells #[.slice E1 m1 e1, .slice E2 m2 e2, .slice E3 m3 e3] 26) f3.size (fun q hq => Nat.lt_of_lt_of_le (hAb q hq) hz) (Nat.le_refl _)) hPx
      have HCE := Lib.hid (new_cells v2 [.slice E1 m1 e1, .slice E2 m2 e2, .slice E3 m3 e3] 26)
      have HPY := Lib.hid hPy
      clear hPy hPx
      go_wp2_with (at_builtin; go_must (refine appendOwn1 TRu RuP.mn rfl rfl rfl (og2.below RuP.mn fal) rfl rfl (by intro v hv; simp only [List.mem_cons, List.mem_nil_iff, or_false] at hv; rcases hv with rfl | rfl | rfl <;> rfl) HCE.out (by rw [show (v2.alloc (.cells #[.slice E1 m1 e1, .slice E2 m2 e2, .slice E3 m3 e3] 26)).heap.size = v2.heap.size + 1 by simp]; exact HPY.out) (by omega) (by simp only [maxLen]; omega) (by simp; omega) ?_); intro A'' c'' w4 og4 g4)
      have f6 : Below w.heap.size w w4 := (f5.alloc hs5 _).grown g4 (by simp; omega) (fun q hq => (og2.lt q hq).1)
      go_roundw
      case rel => exact ⟨k + 1, A'', c'', by go_num, rfl, by omega, by rw [HTK.out]; exact og4, f6⟩
      case measure => simp [intOf]; omega
    · have d2 : decide ((k : Int) < (n : Int)) = false := by simp; omega
      obtain rfl : k = n := by omega
      rw [List.take_of_length_le (by rw [HL.out]; exact Nat.le_refl _)] at og
      go_wp2_with fail
      go_ret
      exact ⟨B, k, d, rfl, og.rvm RuP.mn, f1⟩
set_option maxRecDepth 100000 in
set_option maxHeartbeats 4000000 in
theorem own12_any (s : Po) (cs : List Value) (w : World) (h : PoP w w.heap.size cs s) (hok : okPo s) :
    Calls Tryz.prog 21 #[.agg cs.toArray] w fun e w' => ∃ (E1 : Option Addr) (m1 e1 : Nat), e = .returned (.agg #[.int .u64 (s.id : Int), .string (strB s.ns), .int .u64 (s.service : Int), .int .i64 s.deny, .slice E1 m1 e1]) ∧ PoP (mineW w.heap.size none w') w'.heap.size [.int .u64 (s.id : Int), .string (strB s.ns), .int .u64 (s.service : Int), .int .i64 s.deny, .slice E1 m1 e1] s ∧ Below w.heap.size w w' := by
  obtain ⟨A1, n1, c1, rfl, h1⟩ := vals_po h
  have hi : (Tryz.prog.info? 38).map (·.size) = some 5 := by kernel_rfl
  have HI := Lib.hid hi; clear hi h
  have hn1 : n1 ≤ 1000000 := by rw [← h1.1]; exact hok.2.2.2.2.1
  have H1 := Lib.hid h1; clear h1
  have OK := Lib.hid hok; clear hok
  show Calls Tryz.prog 21 #[.agg #[.int .u64 (s.id : Int), .string (strB s.ns), .int .u64 (s.service : Int), .int .i64 s.deny, .slice A1 n1 c1]] w _
  go_enter Tryz.func21, Tryz.ntmps21
  go_upto_region 1 with fail
  refine abs (fun x => Blk x w.heap.size 38 [.int .u64 (s.id : Int), .string (strB s.ns), .int .u64 (s.service : Int), .int .i64 s.deny, .slice A1 n1 c1] ∧ Blk x (w.heap.size + 1) 38 [.int .u64 0, .string ⟨#[]⟩, .int .u64 0, .int .i64 0, .slice none 0 0] ∧ Below w.heap.size w x) ⟨(Blk.newAt rfl _ #[.int .u64 (s.id : Int), .string (strB s.ns), .int .u64 (s.service : Int), .int .i64 s.deny, .slice A1 n1 c1]).alloc _, Blk.newAt (by simp) _ #[.int .u64 0, .string ⟨#[]⟩, .int .u64 0, .int .i64 0, .slice none 0 0], ((Below.refl _ _).alloc (Nat.le_refl _) _).alloc (by simp) _⟩ ?_
  rintro u0 ⟨ka, kz, f0⟩
  have w0 : w.heap.size < u0.heap.size := ka.lt
  have hwg : w.heap.size < w.heap.size + 1 := by omega
  generalize hg2 : w.heap.size + 1 = g2 at *
  clear hg2
  obtain ⟨g1, hg1⟩ : ∃ x, w.heap.size = x := ⟨_, rfl⟩
  rw [hg1] at ka hwg
  have cr := ka.cell 4
  go_wp2_with fail
  refine (mappedR_any A1 n1 c1 _ u0 (H1.out.mono f0.size f0 (fun _ _ h => h.mono f0.size f0)) hn1 OK.out.2.2.2.2.2).mono ?_
  rintro e u1 ⟨E1, m1, e1, rfl, r1, f1⟩
  have lka := ka.lt; have lkz := kz.lt
  have b1 : g2 < u0.heap.size := lkz
  replace ka := ka.below f1 lka
  replace kz := kz.below f1 lkz
  have z1 : Off (fun q => q < u0.heap.size ∨ u1.heap.size ≤ q) u1 u1 := Off.refl _ _
  have ff1 : Below u0.heap.size u0 u1 := f1
  have ss1 := f1.size
  clear f1 lka lkz
  clear cr
  have zl : Off (fun q => q = g1 ∨ q = g2) u1 u1 := Off.refl _ _
  have cc := ka.cell 4
  have cf := ka.frozen 4
  go_upto_region 2 with fail
  clear cc cf
  have o1 : Off (fun q => q = g1) u1 (u1.setCell ⟨g1, 4, none⟩ (.slice E1 m1 e1)) := (Off.refl (fun k => k = g1) _).setCell (p := ⟨g1, 4, none⟩) (fun _ => rfl) _
  have ka2 := ka.set 4 (.slice E1 m1 e1)
  replace kz := kz.off o1 (by omega)
  clear ka
  have ka : Blk _ g1 38 [.int .u64 (s.id : Int), .string (strB s.ns), .int .u64 (s.service : Int), .int .i64 s.deny, .slice E1 m1 e1] := ka2
  clear ka2
  replace z1 := z1.trans o1 fun q _ (hq : q = g1) => .inl (by omega)
  replace zl := zl.trans o1 fun q _ (hq : q = g1) => .inl hq
  clear o1
  have cx0 := ka.cell 0
  have cx1 := ka.cell 1
  have cx2 := ka.cell 2
  have cx3 := ka.cell 3
  have cx4 := ka.cell 4
  go_wp2_with (first | (refine store_blk kz rfl 38 (.tmp 2) (.tmp 7) rfl rfl (us := [.int .u64 (s.id : Int), .string (strB s.ns), .int .u64 (s.service : Int), .int .i64 s.deny, .slice E1 m1 e1]) rfl HI.out rfl rfl ?_; intro w9 k9 g9))
  have o9 : Off (fun q => q = g2) (u1.setCell ⟨g1, 4, none⟩ (.slice E1 m1 e1)) w9 := (Off.refl _ _).grown g9 fun q hq _ => by injection hq with hq; exact hq.symm
  replace z1 := z1.trans o9 fun q _ (hq : q = g2) => .inl (by omega)
  replace zl := zl.trans o9 fun q _ (hq : q = g2) => .inr hq
  have hb : Below w.heap.size w w9 := by
    have q0 := f0
    replace q0 := q0.trans (ff1.mono (by omega))
    exact q0.trans (zl.below q0.size (fun q hq => by omega))
  exact bodyPost_ret (k9.sized rfl _ rfl Tryz.underlying38 HI.out) rfl ⟨_, _, _, rfl, ⟨_, rfl, r1.fin RuP.mn z1 (by omega)⟩, hb⟩
end Go.Proofs.YtdbjihpdfiipcaaGreat
