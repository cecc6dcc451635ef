/- gatepostref12.Bytes: a policy's bytes, of one that may be. Conditions: sizes. Printed by gen_rbytes.py. -/
import Derived.Test.YtdbjihpdfiipcaaGreatRefPutA
import Derived.Test.YtdbjihpdfiipcaaGreatRdPolL
import Derived.Test.YtdbjihpdfiipcaaGreatPolSameR
namespace Go.Proofs.YtdbjihpdfiipcaaGreat
open Go.RowKit Go.Sort
set_option linter.unusedVariables false
set_option linter.unusedSimpArgs false
theorem ruB_cut (r : Ru) (R0 : List UInt8) : ruB r ++ R0 = leb r.froms.length ++ ((r.froms.map srB).flatten ++ (leb r.tos.length ++ ((r.tos.map tgB).flatten ++ (leb r.whens.length ++ ((r.whens.map wnB).flatten ++ R0))))) := by
  unfold ruB rowB
  simp only [List.append_assoc]
theorem srB_cut (s : Sr) (R0 : List UInt8) : srB s ++ R0 = rowB tmB s.names ++ (rowB tmB s.spaces ++ (leb s.nets.length ++ ((s.nets.map ntB).flatten ++ R0))) := by
  unfold srB
  rw [rowsB2, List.append_assoc, List.append_assoc]
  congr 2
  unfold rowB
  rw [List.append_assoc]
theorem tgB_cut (t : Tg) (R0 : List UInt8) : tgB t ++ R0 = leb t.ports.length ++ ((t.ports.map inB).flatten ++ (rowB tmB t.methods ++ (rowB tmB t.paths ++ (rowB tmB t.hosts ++ R0)))) := by
  unfold tgB
  rw [rowsB3, List.append_assoc, List.append_assoc, List.append_assoc]
  conv => lhs; unfold rowB
  rw [List.append_assoc]
  rfl
theorem wnB_cut (x : Wn) (R0 : List UInt8) : wnB x ++ R0 = txB x.head ++ (rowB tmB x.terms ++ R0) := by
  unfold wnB
  rw [rowsB1, List.append_assoc]
theorem poB_cut (p : Po) : poB p = leb p.id ++ (txB p.ns ++ (leb p.service ++ (leb (n64 p.deny) ++ (leb p.rules.length ++ ((p.rules.map ruB).flatten ++ []))))) := by
  unfold poB
  rw [lebs2, List.append_nil, List.append_assoc]
  rfl
theorem drop_cut {α : Type} {L : List α} (f : α → List UInt8) {k : Nat} (hk : k < L.length) (R : List UInt8) : ((L.drop k).map f).flatten ++ R = f L[k] ++ (((L.drop (k + 1)).map f).flatten ++ R) := by
  rw [List.drop_eq_getElem_cons hk, List.map_cons, List.flatten_cons, List.append_assoc]
theorem drop_end {α : Type} {L : List α} (f : α → List UInt8) {k : Nat} (hk : L.length ≤ k) (R : List UInt8) : ((L.drop k).map f).flatten ++ R = R := by
  rw [List.drop_of_length_le hk]
  rfl
theorem wrap_n64 (x : Int) : IntKind.u64.wrap x = (n64 x : Int) := by rw [← n64_eq]; simp [IntKind.wrap, IntKind.bits, IntKind.signed]
theorem lenU {n : Nat} (h : n ≤ 100) : ((n : Nat) : Int) % 256 = ((UInt8.ofNat n).toNat : Int) := by
  rw [UInt8.toNat_ofNat']
  omega
theorem lenV {n : Nat} (h : n ≤ 100) : ((n : Nat) : Int) = ((UInt8.ofNat n).toNat : Int) := by
  rw [UInt8.toNat_ofNat']
  omega
theorem nextD {TOT dn x r : List UInt8} (h : Hid (dn ++ (x ++ r) = TOT)) : Hid ((dn ++ x) ++ r = TOT) := Lib.hid (by rw [List.append_assoc]; exact h.out)
theorem rdB_two (w : World) {u v : Int} {a b : UInt8} (hu : u = (a.toNat : Int)) (hv : v = (b.toNat : Int)) : RdB (w.alloc (.cells #[.int .u8 u, .int .u8 v] 5)) (w.alloc (.cells #[.int .u8 u, .int .u8 v] 5)).heap.size (some ⟨w.heap.size, 0, none⟩) 2 [a, b] := by
  subst hu hv
  have k : Blk (w.alloc (.cells #[.int .u8 (a.toNat : Int), .int .u8 (b.toNat : Int)] 5)) w.heap.size 5 (bvs [a, b]) := Blk.newAt rfl _ _
  exact k.rdB rfl
/-- Bytes that are made, the policy's and the rule's boxes. -/
structure BP (w : World) (cs1 : List Value) (x : World) (A : Option Addr) (m c : Nat) (dn : List UInt8) : Prop where
  o : OwnB x (w.heap.size + 1) 5 (.slice A m c) dn
  k1 : Blk x w.heap.size 38 cs1
  f : Below w.heap.size w x
theorem BP.base {w x : World} {cs1 : List Value} {A : Option Addr} {m c : Nat} {dn : List UInt8} (h : BP w cs1 x A m c dn) : w.heap.size + 1 ≤ x.heap.size := h.k1.lt
theorem BP.len {w x : World} {cs1 : List Value} {A : Option Addr} {m c : Nat} {dn r TOT : List UInt8} (h : BP w cs1 x A m c dn) (hd : Hid (dn ++ r = TOT)) (hT : Hid (TOT.length ≤ 1000000)) : m + r.length ≤ 1000000 := by
  have h1 := hT.out
  rw [← hd.out, List.length_append, h.o.len] at h1
  exact h1
theorem OwnB.nb {w : World} {base e g t : Nat} {A : Option Addr} {n c : Nat} {l : List UInt8} {cs : List Value} (o : OwnB w base e (.slice A n c) l) (k : Blk w g t cs) (hne : t ≠ e) : ¬ isB A g := by
  rintro ⟨x, rfl, rfl⟩
  exact o.not_row k hne rfl
theorem BP.step {w x x' : World} {cs1 : List Value} {A A' : Option Addr} {m c m' c' : Nat} {dn dn' : List UInt8} (h : BP w cs1 x A m c dn) (g : Gr A x A' x') (o' : OwnB x' (w.heap.size + 1) 5 (.slice A' m' c') dn') : BP w cs1 x' A' m' c' dn' :=
  ⟨o', h.k1.off g.1 (h.o.nb h.k1 (by decide)), h.f.trans ((g.under h.o h.base).mono (Nat.le_succ _))⟩
structure BR (w : World) (cs1 : List Value) (g5 : Nat) (cs5 : List Value) (x : World) (A : Option Addr) (m c : Nat) (dn : List UInt8) : Prop where
  p : BP w cs1 x A m c dn
  k5 : Blk x g5 26 cs5
theorem BR.step {w x x' : World} {cs1 cs5 : List Value} {g5 : Nat} {A A' : Option Addr} {m c m' c' : Nat} {dn dn' : List UInt8} (h : BR w cs1 g5 cs5 x A m c dn) (g : Gr A x A' x') (o' : OwnB x' (w.heap.size + 1) 5 (.slice A' m' c') dn') : BR w cs1 g5 cs5 x' A' m' c' dn' :=
  ⟨h.p.step g o', h.k5.off g.1 (h.p.o.nb h.k5 (by decide))⟩
theorem BR.drew {w x : World} {cs1 cs5 : List Value} {g5 : Nat} {A : Option Addr} {m c : Nat} {dn : List UInt8} (h : BR w cs1 g5 cs5 x A m c dn) : BR w cs1 g5 cs5 x.drew A m c dn := ⟨⟨h.p.o, h.p.k1, h.p.f.drew⟩, h.k5⟩
theorem srMay_n {s : Sr} (h : srMay s = true) : s.nets.length ≤ 6 := by
  unfold srMay at h
  simp only [Bool.and_eq_true, decide_eq_true_eq] at h
  exact h.2.1
theorem tgMay_n {t : Tg} (h : tgMay t = true) : t.ports.length ≤ 6 := by
  unfold tgMay at h
  simp only [Bool.and_eq_true, decide_eq_true_eq] at h
  exact h.2.1.1
theorem ruMay_n {r : Ru} (h : ruMay r = true) : (r.froms.length ≤ 3 ∧ ∀ s ∈ r.froms, srMay s = true) ∧ (r.tos.length ≤ 3 ∧ ∀ t ∈ r.tos, tgMay t = true) ∧ r.whens.length ≤ 3 := by
  unfold ruMay at h
  simp only [Bool.and_eq_true, decide_eq_true_eq, List.all_eq_true] at h
  exact ⟨h.1, h.2.1, h.2.2.1⟩
theorem poMay_n {p : Po} (h : poMay p = true) : (0 ≤ p.deny ∧ p.deny ≤ 1) ∧ (p.rules.length ≤ 6 ∧ ∀ r ∈ p.rules, ruMay r = true) := by
  unfold poMay at h
  simp only [Bool.and_eq_true, decide_eq_true_eq, List.all_eq_true, Bool.or_eq_true] at h
  exact ⟨by omega, h.2.2.2.2.2⟩
theorem poB_le1 {p : Po} (h : poMay p = true) (hok : okPo p) (hns : p.ns.length ≤ 20) : (poB p).length ≤ 1000000 := by
  obtain ⟨k1, _, k3, _⟩ := hok
  obtain ⟨⟨d0, d1⟩, hr, hall⟩ := poMay_n h
  have h1 := leb_le10 (x := p.id) k1
  have h2 := txB_le (s := p.ns) (by omega)
  have h3 := leb_le10 (x := p.service) k3
  have h4 := leb_le10 (x := n64 p.deny) (n64_lt _)
  have h5 : (rowB ruB p.rules).length ≤ 10 + 6 * 10000 := row_bound hr (by omega) fun x hx => ruB_le (hall x hx)
  unfold poB
  rw [lebs2]
  simp only [List.length_append]
  omega
attribute [local irreducible] leb txB ruB srB tgB wnB rowB tmB
set_option maxRecDepth 100000 in
set_option maxHeartbeats 100000000 in
theorem rbytes_any (p : Po) (cs : List Value) (w : World) (h : PoP w w.heap.size cs p) (hok : okPo p) (hm : poMay p = true) :
    Calls Tryz.prog 24 #[.agg cs.toArray] w fun e w' => ∃ A c, e = .returned (.slice A (poB p).length c) ∧ OwnB w' w.heap.size 5 (.slice A (poB p).length c) (poB p) ∧ Below w.heap.size w w' := by
  obtain ⟨v, rfl, Ar, nr, cr, rfl, _, _, h1⟩ := h
  have hTl := poB_le1 hm hok (may_ns hm)
  obtain ⟨⟨d0, d1⟩, hrl, hall⟩ := poMay_n hm
  obtain ⟨k1, k2, k3, k4, k5, k6⟩ := hok
  have l1 := h1.1
  have hns := may_ns hm
  have hcut := poB_cut p
  obtain ⟨TOT, hT⟩ : ∃ x, poB p = x := ⟨_, rfl⟩
  rw [hT] at hTl hcut ⊢
  have HT := Lib.hid hTl; have HC := Lib.hid hcut.symm; have H1 := Lib.hid h1; have L1 := Lib.hid l1; have K6 := Lib.hid k6; have M6 := Lib.hid hall
  rw [l1] at hrl
  clear hT hTl hcut h1 l1 k6 hall hm k5
  obtain ⟨dn, hdn⟩ : ∃ d : Nat, p.deny = (d : Int) := ⟨p.deny.toNat, by omega⟩
  have hdn1 : dn ≤ 1 := by omega
  have hn64 : n64 p.deny = dn := by rw [hdn, n64_nat (by omega)]
  rw [hn64, leb_small (x := dn) (by omega), L1.out, leb_small (x := nr) (by omega)] at HC
  obtain ⟨CS, hCS⟩ : ∃ x : List Value, [.int .u64 (p.id : Int), .string (strB p.ns), .int .u64 (p.service : Int), .int .i64 p.deny, .slice Ar nr cr] = x := ⟨_, rfl⟩
  show Calls Tryz.prog 24 #[.agg #[.int .u64 (p.id : Int), .string (strB p.ns), .int .u64 (p.service : Int), .int .i64 p.deny, .slice Ar nr cr]] w _
  obtain ⟨wb, hwb⟩ : ∃ wb, w.alloc (.cells #[.int .u64 (p.id : Int), .string (strB p.ns), .int .u64 (p.service : Int), .int .i64 p.deny, .slice Ar nr cr] 38) = wb := ⟨_, rfl⟩
  have f0 : Below w.heap.size w wb := by rw [← hwb]; exact (Below.refl _ _).alloc (Nat.le_refl _) _
  have kb : Blk wb w.heap.size 38 CS := by rw [← hwb, ← hCS]; exact Blk.newAt rfl _ #[.int .u64 (p.id : Int), .string (strB p.ns), .int .u64 (p.service : Int), .int .i64 p.deny, .slice Ar nr cr]
  have hbs : wb.heap.size = w.heap.size + 1 := by rw [← hwb]; simp
  have hc0 : CS[0]? = some (.int .u64 (p.id : Int)) := by rw [← hCS]; rfl
  have hc1 : CS[1]? = some (.string (strB p.ns)) := by rw [← hCS]; rfl
  have hc2 : CS[2]? = some (.int .u64 (p.service : Int)) := by rw [← hCS]; rfl
  have hc3 : CS[3]? = some (.int .i64 (dn : Int)) := by rw [← hCS, hdn]; rfl
  have hc4 : CS[4]? = some (.slice Ar nr cr) := by rw [← hCS]; rfl
  have HCS := Lib.hid hCS; have HBS := Lib.hid hbs
  clear hCS hbs hdn hn64 d0 d1 k4
  have hTx := fun u => refText_any p.ns (by omega) u
  have htx : leb p.ns.length ++ p.ns = txB p.ns := by unfold txB; rfl
  rw [htx] at hTx
  clear htx
  go_enter Tryz.func24, Tryz.ntmps24
  go_upto_region 1 with fail
  refine wp_region_order (fun u => Blk u w.heap.size 38 CS) 100 [(0,0), (1,0), (3,0), (4,0), (2,1), (5,1), (6,1), (7,0)] (by kernel_rfl) (by kernel_rfl) ?_
  simp only [pick, List.filterMap_cons, List.filterMap_nil, List.getElem?_cons_zero, List.getElem?_cons_succ, Option.map_some]
  have hS : Blk wb.drew w.heap.size 38 CS := kb.drew
  refine wpF_take (v := ?_) hS rfl ?_ (fun _ _ _ h => h) ?_
  rotate_left
  · intro w' hS'
    obtain _ := hS'
    go_simp <;> rfl
  go_simp
  refine wpF_take (v := .int .u64 (p.id : Int)) hS rfl (fun u hu => by have q0 : u.cell? ⟨w.heap.size, 0, none⟩ = some (.int .u64 (p.id : Int)) := (hu.cell 0).trans hc0; go_simp <;> rfl) (fun _ _ _ h => h) ?_
  go_simp
  refine wpF_take (v := ?_) hS rfl ?_ (fun _ _ _ h => h) ?_
  rotate_left
  · intro w' hS'
    obtain _ := hS'
    go_simp <;> rfl
  go_simp
  refine wpF_take (v := .string (strB p.ns)) hS rfl (fun u hu => by have q0 : u.cell? ⟨w.heap.size, 1, none⟩ = some (.string (strB p.ns)) := (hu.cell 1).trans hc1; go_simp <;> rfl) (fun _ _ _ h => h) ?_
  go_simp
  refine wpF_only rfl (fun K hK => ?_)
  go_wp2_with fail
  refine (refShort_any p.id k1 _).mono ?_
  rintro e w1 ⟨A1, c1, rfl, o1, f1⟩
  replace hS := hS.below f1 hS.lt
  have hp1 : BP w CS w1 A1 (leb p.id).length c1 (leb p.id) := ⟨o1.base_le (by have := HBS.out; show w.heap.size + 1 ≤ wb.heap.size; omega), hS, f0.trans (Below.mono (show Below wb.heap.size wb w1 from (Below.refl _ wb).drew.trans f1) f0.size)⟩
  go_wp2_with fail
  first | refine ⟨fun _ => hS, ?_⟩ | refine ⟨hS, ?_⟩
  go_simp
  refine wpF_only rfl (fun K hK => ?_)
  go_wp2_with fail
  refine (hTx _).mono ?_
  rintro e w2 ⟨A2, c2, rfl, o2, f2⟩
  replace hS := hS.below f2 hS.lt
  replace hp1 := hp1.step ((Gr.refl _ _).below f2) (hp1.o.below (Nat.le_refl _) f2)
  have HD : Hid (leb p.id ++ (txB p.ns ++ (leb p.service ++ ([UInt8.ofNat dn] ++ ([UInt8.ofNat nr] ++ ((p.rules.map ruB).flatten ++ []))))) = TOT) := HC
  have hlm := hp1.len HD HT
  simp only [List.length_append] at hlm
  go_wp2_with fail
  first | refine ⟨fun _ => hS, ?_⟩ | refine ⟨hS, ?_⟩
  go_simp
  refine wpF_only rfl (fun K hK => ?_)
  refine wp_appendG T23 rfl rfl hp1.o rfl o2.rd (by omega) (by have := hp1.base; omega) ?_
  intro A' c' w' o' g' e'
  have gr := (Gr.refl _ _).step g' e'
  have h := hp1.step gr o'
  replace hS := h.k1
  replace HD := nextD HD
  clear hp1 gr o' g' e' o1 o2 f1 f2 hTx
  refine hK _ _ ⟨fun _ => hS, ?_⟩
  go_simp
  clear hK
  refine wpF_take (v := ?_) hS rfl ?_ (fun _ _ _ h => h) ?_
  rotate_left
  · intro w' hS'
    obtain _ := hS'
    go_simp <;> rfl
  go_simp
  refine wpF_nil ?_
  have hlm := h.len HD HT
  generalize hmm : (leb p.id).length + (txB p.ns).length = m at *
  clear hmm
  have e2 := (h.k1.cell 2).trans hc2
  go_wp2_with fail
  refine (refShort_any p.service k3 _).mono ?_
  rintro e w1 ⟨A1, c1, rfl, o1, f1⟩
  replace h := h.step ((Gr.refl _ _).below f1) (h.o.below (Nat.le_refl _) f1)
  simp only [List.length_append] at hlm
  have e3 := (h.k1.cell 3).trans hc3
  have e4 := (h.k1.cell 4).trans hc4
  clear e2
  go_upto_region 3 with (at_builtin; go_must (refine appendG T23 rfl rfl rfl h.o rfl o1.rd (by omega) h.base ?_); intro A' c' w' o' g' e'; have gr := (Gr.refl _ _).step g' e')
  replace h := h.step gr o'
  replace HD := nextD HD
  have hlm := h.len HD HT
  simp only [List.length_append, List.length_cons, List.length_nil] at hlm
  clear gr o' g' e' o1 f1 e3 e4
  have e3 := (h.k1.cell 3).trans hc3
  have e4 := (h.k1.cell 4).trans hc4
  go_wp2_with (at_builtin; go_must (refine appendG T23 rfl rfl rfl (h.o.alloc _) rfl (rdB_two w' (a := UInt8.ofNat dn) (b := UInt8.ofNat nr) (by first | exact lenV (by omega) | exact lenU (by omega)) (by first | exact lenV (by omega) | exact lenU (by omega))) (by omega) (by have := h.base; simp; omega) ?_); intro A' c' w' o' g' e'; have gr := ((Gr.refl _ _).below ((Below.refl _ _).alloc (Nat.le_refl _) _)).step g' e')
  replace h := h.step gr o'
  replace HD : Hid ((((leb p.id ++ txB p.ns) ++ leb p.service) ++ [UInt8.ofNat dn, UInt8.ofNat nr]) ++ ((p.rules.map ruB).flatten ++ []) = TOT) := Lib.hid (by have := HD.out; simpa using this)
  clear gr o' g' e' e3 e4 hlm
  go_loopw [3, 4] (fun sv iv wr => ∃ (k : Nat) (A : Option Addr) (m c : Nat) (dn : List UInt8), sv = .slice A m c ∧ iv = .int .i64 k ∧ k ≤ nr ∧ BP w CS wr A m c dn ∧ dn ++ (((p.rules.drop k).map ruB).flatten ++ []) = TOT) (fun _ iv _ => nr - (intOf iv).toNat)
  case atStart => exact ⟨0, _, _, _, _, rfl, rfl, Nat.zero_le _, h, HD.out⟩
  case round =>
    clear h HD
    obtain ⟨k, A, m, c, dn, rfl, rfl, hkk, h, hd⟩ := hrel
    have HD := Lib.hid hd
    clear hd
    have e4 := (h.k1.cell 4).trans hc4
    by_cases hltk : k < nr
    · have hkL : k < p.rules.length := by rw [L1.out]; exact hltk
      have dltk : decide ((k : Int) < (nr : Int)) = true := by simp; omega
      have b1k : (0 : Int) ≤ (k : Int) := by omega
      have b2k : (k : Int) < (nr : Int) := by omega
      replace HD : Hid (dn ++ (ruB (p.rules[k]) ++ (((p.rules.drop (k + 1)).map ruB).flatten ++ [])) = TOT) := Lib.hid (by rw [← drop_cut ruB hkL]; exact HD.out)
      obtain ⟨Xk, hX⟩ : ∃ x, ((p.rules.drop (k + 1)).map ruB).flatten ++ [] = x := ⟨_, rfl⟩
      rw [hX] at HD
      have HXk := Lib.hid hX
      clear hX
      obtain ⟨br, offr, csr, p1, p2r, p3, p4, p5⟩ := H1.out.at_ hltk
      have hokr := K6.out _ (List.getElem_mem hkL)
      have hmr := M6.out _ (List.getElem_mem hkL)
      clear p3
      obtain ⟨r, hr⟩ : ∃ x, p.rules[k]'hkL = x := ⟨_, rfl⟩
      rw [hr] at hokr p4 HD hmr
      clear hr
      obtain ⟨A1, n1, c1, A2, n2, c2, A3, n3, c3, rfl, h1, h2, h3⟩ := vals_ru p4
      have qr0 : w.cell? ⟨br, offr + k * 3, none⟩ = _ := p5 0 _ rfl
      have qr1 : w.cell? ⟨br, offr + k * 3 + 1, none⟩ = _ := p5 1 _ rfl
      have qr2 : w.cell? ⟨br, offr + k * 3 + 2, none⟩ = _ := p5 2 _ rfl
      clear p5 p4
      subst p1
      obtain ⟨⟨hn1, m1⟩, ⟨hn2, m2⟩, hn3⟩ := ruMay_n hmr
      have l1 := h1.1; have l2 := h2.1; have l3 := h3.1
      replace HD : Hid (dn ++ (leb r.froms.length ++ ((r.froms.map srB).flatten ++ (leb r.tos.length ++ ((r.tos.map tgB).flatten ++ (leb r.whens.length ++ ((r.whens.map wnB).flatten ++ Xk)))))) = TOT) := Lib.hid (by rw [← ruB_cut]; exact HD.out)
      rw [l1] at hn1; rw [l2] at hn2; rw [l3] at hn3; rw [l1, l2, l3] at HD
      obtain ⟨R1, hR1⟩ : ∃ x, leb n2 ++ ((r.tos.map tgB).flatten ++ (leb n3 ++ ((r.whens.map wnB).flatten ++ Xk))) = x := ⟨_, rfl⟩
      rw [hR1] at HD
      have HR1 := Lib.hid hR1
      clear hR1
      have H1 := Lib.hid h1; have H2 := Lib.hid h2; have H3 := Lib.hid h3; have L1r := Lib.hid l1; have L2 := Lib.hid l2; have L3 := Lib.hid l3
      have K1 := Lib.hid hokr.1.2; have K2 := Lib.hid hokr.2.1.2; have K3 := Lib.hid hokr.2.2.2; have M1 := Lib.hid m1; have M2 := Lib.hid m2
      clear h1 h2 h3 l1 l2 l3 hokr hmr m1 m2
      have zr0 := (h.f.cell (p := ⟨br, offr + k * 3, none⟩) (by simp only; omega)).trans qr0
      have zr1 := (h.f.cell (p := ⟨br, offr + k * 3 + 1, none⟩) (by simp only; omega)).trans qr1
      have zr2 := (h.f.cell (p := ⟨br, offr + k * 3 + 2, none⟩) (by simp only; omega)).trans qr2
      obtain ⟨g5, hg5⟩ : ∃ x, wr.heap.size = x := ⟨_, rfl⟩
      obtain ⟨C5, hC5⟩ : ∃ x : List Value, [.slice A1 n1 c1, .slice A2 n2 c2, .slice A3 n3 c3] = x := ⟨_, rfl⟩
      have hC0 : C5[0]? = some (.slice A1 n1 c1) := by rw [← hC5]; rfl
      have hC1 : C5[1]? = some (.slice A2 n2 c2) := by rw [← hC5]; rfl
      have hC2 : C5[2]? = some (.slice A3 n3 c3) := by rw [← hC5]; rfl
      have HC5 := Lib.hid hC5
      clear hC5
      go_upto_region 8 with fail
      refine abs (fun x => BR w CS g5 C5 x A m c dn) ⟨⟨h.o.alloc _, h.k1.alloc _, h.f.alloc h.f.size _⟩, by rw [← HC5.out]; exact Blk.newAt hg5 _ #[.slice A1 n1 c1, .slice A2 n2 c2, .slice A3 n3 c3]⟩ ?_
      rintro w2 h2
      clear h zr0 zr1 zr2 qr0 qr1 qr2 hg5 e4 HC5
      have h := h2
      clear h2
      rw [leb_small (x := n1) (by omega)] at HD
      have hlm := h.p.len HD HT
      simp only [List.length_append, List.length_cons, List.length_nil] at hlm
      have e0 := (h.k5.cell 0).trans hC0
      go_wp2_with (at_builtin; go_must (refine appendG T23 rfl rfl rfl (h.p.o.alloc _) rfl (rdB_one _ (b := UInt8.ofNat n1) (by first | exact lenV (by omega) | exact lenU (by omega))) (by omega) (by have := h.p.base; simp; omega) ?_); intro A' c' w' o' g' e'; have gr := ((Gr.refl _ _).below ((Below.refl _ _).alloc (Nat.le_refl _) _)).step g' e')
      replace h := h.step gr o'
      replace HD := nextD HD
      clear gr o' g' e'
      clear hlm
      clear e0
      go_loopw [3, 6] (fun sv iv wr => ∃ (kf : Nat) (A : Option Addr) (m c : Nat) (dn : List UInt8), sv = .slice A m c ∧ iv = .int .i64 kf ∧ kf ≤ n1 ∧ BR w CS g5 C5 wr A m c dn ∧ dn ++ (((r.froms.drop kf).map srB).flatten ++ R1) = TOT) (fun _ iv _ => n1 - (intOf iv).toNat)
      case atStart => exact ⟨0, _, _, _, _, rfl, rfl, Nat.zero_le _, h, HD.out⟩
      case round =>
        clear h HD
        obtain ⟨kf, A, m, c, dn, rfl, rfl, hkkf, h, hd⟩ := hrel
        have HD := Lib.hid hd
        clear hd
        have e0 := (h.k5.cell 0).trans hC0
        by_cases hltkf : kf < n1
        · have hkL : kf < r.froms.length := by rw [L1r.out]; exact hltkf
          have dltkf : decide ((kf : Int) < (n1 : Int)) = true := by simp; omega
          have b1kf : (0 : Int) ≤ (kf : Int) := by omega
          have b2kf : (kf : Int) < (n1 : Int) := by omega
          replace HD : Hid (dn ++ (srB (r.froms[kf]) ++ (((r.froms.drop (kf + 1)).map srB).flatten ++ R1)) = TOT) := Lib.hid (by rw [← drop_cut srB hkL]; exact HD.out)
          obtain ⟨Xkf, hX⟩ : ∃ x, ((r.froms.drop (kf + 1)).map srB).flatten ++ R1 = x := ⟨_, rfl⟩
          rw [hX] at HD
          have HXkf := Lib.hid hX
          clear hX
          obtain ⟨bs, offs, css, p1, p2s, p3, p4, p5⟩ := H1.out.at_ hltkf
          have hoks := K1.out _ (List.getElem_mem hkL)
          have hms := M1.out _ (List.getElem_mem hkL)
          clear p3
          obtain ⟨s, hs⟩ : ∃ x, r.froms[kf]'hkL = x := ⟨_, rfl⟩
          rw [hs] at hoks p4 HD hms
          clear hs
          obtain ⟨A4, n4, c4, A5, n5, c5, A6, n6, c6, rfl, h4, h5, h6⟩ := vals_sr p4
          have qs0 : w.cell? ⟨bs, offs + kf * 3, none⟩ = _ := p5 0 _ rfl
          have qs1 : w.cell? ⟨bs, offs + kf * 3 + 1, none⟩ = _ := p5 1 _ rfl
          have qs2 : w.cell? ⟨bs, offs + kf * 3 + 2, none⟩ = _ := p5 2 _ rfl
          clear p5 p4
          subst p1
          have l6 := h6.1
          have hn6 := srMay_n hms
          rw [l6] at hn6
          have H4 := Lib.hid h4; have H5 := Lib.hid h5; have H6 := Lib.hid h6; have L6 := Lib.hid l6; have K6n := Lib.hid hoks.2.2.2
          have okn := Lib.hid hoks.1; have oksp := Lib.hid hoks.2.1
          clear h4 h5 h6 l6 hms hoks
          replace HD : Hid (dn ++ (rowB tmB s.names ++ (rowB tmB s.spaces ++ (leb s.nets.length ++ ((s.nets.map ntB).flatten ++ Xkf)))) = TOT) := Lib.hid (by rw [← srB_cut]; exact HD.out)
          rw [L6.out] at HD
          have hlm := h.p.len HD HT
          simp only [List.length_append, List.length_cons, List.length_nil] at hlm
          have e0 := (h.k5.cell 0).trans hC0
          go_upto_region 12 with fail
          clear e0
          have mkS : ∀ u, Blk u g5 26 C5 → Below w.heap.size w u → u.cell? ⟨g5, 0, none⟩ = some (.slice (some ⟨bs, offs, none⟩) n1 c1) ∧ u.cell? ⟨bs, offs + kf * 3, none⟩ = some (.slice A4 n4 c4) ∧ u.cell? ⟨bs, offs + kf * 3 + 1, none⟩ = some (.slice A5 n5 c5) := fun u hk hf => ⟨(hk.cell 0).trans hC0, (hf.cell (p := ⟨bs, offs + kf * 3, none⟩) (by simp only; omega)).trans qs0, (hf.cell (p := ⟨bs, offs + kf * 3 + 1, none⟩) (by simp only; omega)).trans qs1⟩
          refine wp_region_order (fun u => u.cell? ⟨g5, 0, none⟩ = some (.slice (some ⟨bs, offs, none⟩) n1 c1) ∧ u.cell? ⟨bs, offs + kf * 3, none⟩ = some (.slice A4 n4 c4) ∧ u.cell? ⟨bs, offs + kf * 3 + 1, none⟩ = some (.slice A5 n5 c5)) 100 [(0,0), (1,0), (2,0), (3,0), (4,0), (5,0), (6,0), (8,0), (9,0), (10,0), (11,0), (12,0), (13,0), (7,1), (14,1), (15,0)] (by kernel_rfl) (by kernel_rfl) ?_
          simp only [pick, List.filterMap_cons, List.filterMap_nil, List.getElem?_cons_zero, List.getElem?_cons_succ, Option.map_some]
          replace h := h.drew
          have hS := mkS _ h.k5 h.p.f
          refine wpF_take (v := ?_) hS rfl ?_ (fun _ _ _ h => h) ?_
          rotate_left
          · intro w' hS'
            obtain ⟨e0, e1, e2⟩ := hS'
            go_simp <;> rfl
          go_simp
          refine wpF_take (v := ?_) hS rfl ?_ (fun _ _ _ h => h) ?_
          rotate_left
          · intro w' hS'
            obtain ⟨e0, e1, e2⟩ := hS'
            go_simp <;> rfl
          go_simp
          refine wpF_take (v := ?_) hS rfl ?_ (fun _ _ _ h => h) ?_
          rotate_left
          · intro w' hS'
            obtain ⟨e0, e1, e2⟩ := hS'
            go_simp <;> rfl
          go_simp
          refine wpF_take (v := ?_) hS rfl ?_ (fun _ _ _ h => h) ?_
          rotate_left
          · intro w' hS'
            obtain ⟨e0, e1, e2⟩ := hS'
            go_simp <;> rfl
          go_simp
          refine wpF_take (v := ?_) hS rfl ?_ (fun _ _ _ h => h) ?_
          rotate_left
          · intro w' hS'
            obtain ⟨e0, e1, e2⟩ := hS'
            go_simp <;> rfl
          go_simp
          refine wpF_take (v := ?_) hS rfl ?_ (fun _ _ _ h => h) ?_
          rotate_left
          · intro w' hS'
            obtain ⟨e0, e1, e2⟩ := hS'
            go_simp <;> rfl
          go_simp
          refine wpF_take (v := ?_) hS rfl ?_ (fun _ _ _ h => h) ?_
          rotate_left
          · intro w' hS'
            obtain ⟨e0, e1, e2⟩ := hS'
            go_simp <;> rfl
          go_simp
          refine wpF_take (v := ?_) hS rfl ?_ (fun _ _ _ h => h) ?_
          rotate_left
          · intro w' hS'
            obtain ⟨e0, e1, e2⟩ := hS'
            go_simp <;> rfl
          go_simp
          refine wpF_take (v := ?_) hS rfl ?_ (fun _ _ _ h => h) ?_
          rotate_left
          · intro w' hS'
            obtain ⟨e0, e1, e2⟩ := hS'
            go_simp <;> rfl
          go_simp
          refine wpF_take (v := ?_) hS rfl ?_ (fun _ _ _ h => h) ?_
          rotate_left
          · intro w' hS'
            obtain ⟨e0, e1, e2⟩ := hS'
            go_simp <;> rfl
          go_simp
          refine wpF_take (v := ?_) hS rfl ?_ (fun _ _ _ h => h) ?_
          rotate_left
          · intro w' hS'
            obtain ⟨e0, e1, e2⟩ := hS'
            go_simp <;> rfl
          go_simp
          refine wpF_take (v := ?_) hS rfl ?_ (fun _ _ _ h => h) ?_
          rotate_left
          · intro w' hS'
            obtain ⟨e0, e1, e2⟩ := hS'
            go_simp <;> rfl
          go_simp
          refine wpF_take (v := ?_) hS rfl ?_ (fun _ _ _ h => h) ?_
          rotate_left
          · intro w' hS'
            obtain ⟨e0, e1, e2⟩ := hS'
            go_simp <;> rfl
          go_simp
          refine wpF_only rfl (fun K hK => ?_)
          go_wp2_with fail
          refine (rput_any _ _ _ _ _ _ _ _ _ w.heap.size _ h.p.o (H4.out.below h.p.f) (Nat.le_succ _) h.p.base okn.out (by omega)).mono ?_
          rintro e w' ⟨A', c', rfl, o', gr⟩
          replace h := h.step gr o'
          replace HD := nextD HD
          clear gr o'
          replace hS := mkS _ h.k5 h.p.f
          go_wp2_with fail
          first | refine ⟨fun _ => hS, ?_⟩ | refine ⟨hS, ?_⟩
          go_simp
          refine wpF_only rfl (fun K hK => ?_)
          go_wp2_with fail
          refine (rput_any _ _ _ _ _ _ _ _ _ w.heap.size _ h.p.o (H5.out.below h.p.f) (Nat.le_succ _) h.p.base oksp.out (by omega)).mono ?_
          rintro e w' ⟨A', c', rfl, o', gr⟩
          replace h := h.step gr o'
          replace HD := nextD HD
          clear gr o'
          replace hS := mkS _ h.k5 h.p.f
          go_wp2_with fail
          first | refine ⟨fun _ => hS, ?_⟩ | refine ⟨hS, ?_⟩
          go_simp
          refine wpF_take (v := ?_) hS rfl ?_ (fun _ _ _ h => h) ?_
          rotate_left
          · intro w' hS'
            obtain ⟨e0, e1, e2⟩ := hS'
            go_simp <;> rfl
          go_simp
          refine wpF_nil ?_
          clear mkS hS hlm
          rw [leb_small (x := n6) (by omega)] at HD
          have hlm := h.p.len HD HT
          simp only [List.length_append, List.length_cons, List.length_nil] at hlm
          have e0 := (h.k5.cell 0).trans hC0
          have zs2 := (h.p.f.cell (p := ⟨bs, offs + kf * 3 + 2, none⟩) (by simp only; omega)).trans qs2
          go_wp2_with (at_builtin; go_must (refine appendG T23 rfl rfl rfl (h.p.o.alloc _) rfl (rdB_one _ (b := UInt8.ofNat n6) (by first | exact lenV (by omega) | exact lenU (by omega))) (by omega) (by have := h.p.base; simp; omega) ?_); intro A' c' w' o' g' e'; have gr := ((Gr.refl _ _).below ((Below.refl _ _).alloc (Nat.le_refl _) _)).step g' e')
          replace h := h.step gr o'
          replace HD := nextD HD
          clear gr o' g' e'
          clear hlm
          clear e0 zs2
          go_loopw [3, 7] (fun sv iv wr => ∃ (kn : Nat) (A : Option Addr) (m c : Nat) (dn : List UInt8), sv = .slice A m c ∧ iv = .int .i64 kn ∧ kn ≤ n6 ∧ BR w CS g5 C5 wr A m c dn ∧ dn ++ (((s.nets.drop kn).map ntB).flatten ++ Xkf) = TOT) (fun _ iv _ => n6 - (intOf iv).toNat)
          case atStart => exact ⟨0, _, _, _, _, rfl, rfl, Nat.zero_le _, h, HD.out⟩
          case round =>
            clear h HD
            obtain ⟨kn, A, m, c, dn, rfl, rfl, hkkn, h, hd⟩ := hrel
            have HD := Lib.hid hd
            clear hd
            have e0 := (h.k5.cell 0).trans hC0
            have zs2 := (h.p.f.cell (p := ⟨bs, offs + kf * 3 + 2, none⟩) (by simp only; omega)).trans qs2
            by_cases hltkn : kn < n6
            · have hkL : kn < s.nets.length := by rw [L6.out]; exact hltkn
              have dltkn : decide ((kn : Int) < (n6 : Int)) = true := by simp; omega
              have b1kn : (0 : Int) ≤ (kn : Int) := by omega
              have b2kn : (kn : Int) < (n6 : Int) := by omega
              replace HD : Hid (dn ++ (ntB (s.nets[kn]) ++ (((s.nets.drop (kn + 1)).map ntB).flatten ++ Xkf)) = TOT) := Lib.hid (by rw [← drop_cut ntB hkL]; exact HD.out)
              obtain ⟨Xkn, hX⟩ : ∃ x, ((s.nets.drop (kn + 1)).map ntB).flatten ++ Xkf = x := ⟨_, rfl⟩
              rw [hX] at HD
              have HXkn := Lib.hid hX
              clear hX
              obtain ⟨b6, off6, p1, p26, p3⟩ := H6.out.2 (by omega)
              have q60 : w.cell? ⟨b6, off6 + kn * 2, none⟩ = _ := p3 kn hkL 0 _ rfl
              have q61 : w.cell? ⟨b6, off6 + kn * 2 + 1, none⟩ = _ := p3 kn hkL 1 _ rfl
              clear p3
              have hokn := K6n.out _ (List.getElem_mem hkL)
              obtain ⟨⟨ad, bi⟩, hx⟩ : ∃ x, s.nets[kn]'hkL = x := ⟨_, rfl⟩
              rw [hx] at HD hokn q60 q61
              clear hx
              subst p1
              replace HD : Hid (dn ++ (le32 ad ++ ([kB bi] ++ Xkn)) = TOT) := Lib.hid (by have := HD.out; unfold ntB at this; rw [List.append_assoc] at this; exact this)
              have h32 : (le32 ad).length = 4 := rfl
              have hlm := h.p.len HD HT
              simp only [List.length_append, List.length_cons, List.length_nil] at hlm
              rw [h32] at hlm
              have hadl : ad < 4294967296 := hokn.1
              have hw := IntWalk.u64_in (ad : Int) (by omega)
              have hkb := kB_eq bi
              have z60 := (h.p.f.cell (p := ⟨b6, off6 + kn * 2, none⟩) (by simp only; omega)).trans q60
              go_wp2_with fail
              refine (refWide4_any ad (by omega) _).mono ?_
              rintro e w1 ⟨A4, rfl, o1, f1⟩
              replace h := h.step ((Gr.refl _ _).below f1) (h.p.o.below (Nat.le_refl _) f1)
              clear e0 zs2 z60
              have e0 := (h.k5.cell 0).trans hC0
              have zs2 := (h.p.f.cell (p := ⟨bs, offs + kf * 3 + 2, none⟩) (by simp only; omega)).trans qs2
              have z61 := (h.p.f.cell (p := ⟨b6, off6 + kn * 2 + 1, none⟩) (by simp only; omega)).trans q61
              go_upto_region 18 with (at_builtin; go_must (refine appendG T23 rfl rfl rfl h.p.o rfl o1 (by omega) h.p.base ?_); intro A' c' w' o' g' e'; have gr := (Gr.refl _ _).step g' e')
              clear o1 f1
              replace h := h.step gr o'
              replace HD := nextD HD
              clear gr o' g' e'
              clear e0 zs2 z61
              have e0 := (h.k5.cell 0).trans hC0
              have zs2 := (h.p.f.cell (p := ⟨bs, offs + kf * 3 + 2, none⟩) (by simp only; omega)).trans qs2
              have z61 := (h.p.f.cell (p := ⟨b6, off6 + kn * 2 + 1, none⟩) (by simp only; omega)).trans q61
              go_wp2_with (at_builtin; go_must (refine appendG T23 rfl rfl rfl (h.p.o.alloc _) rfl (rdB_one _ (b := kB bi) (by first | exact hkb | rfl)) (by omega) (by have := h.p.base; simp; omega) ?_); intro A' c' w' o' g' e'; have gr := ((Gr.refl _ _).below ((Below.refl _ _).alloc (Nat.le_refl _) _)).step g' e')
              replace h := h.step gr o'
              replace HD := nextD HD
              clear gr o' g' e'
              go_roundw
              case rel => exact ⟨kn + 1, _, _, _, _, rfl, by go_num, by omega, h, by rw [HXkn.out]; exact HD.out⟩
              case measure => simp [intOf]; omega
            · have dltkn : decide ((kn : Int) < (n6 : Int)) = false := by simp; omega
              replace HD : Hid (dn ++ Xkf = TOT) := Lib.hid (by rw [← drop_end ntB (L := s.nets) (k := kn) (by have := L6.out; omega) Xkf]; exact HD.out)
              go_wp2_with fail
              go_roundw
              case rel => exact ⟨kf + 1, _, _, _, _, rfl, by go_num, by omega, h, by rw [HXkf.out]; exact HD.out⟩
              case measure => simp [intOf]; omega
        · have dltkf : decide ((kf : Int) < (n1 : Int)) = false := by simp; omega
          replace HD : Hid (dn ++ R1 = TOT) := Lib.hid (by rw [← drop_end srB (L := r.froms) (k := kf) (by have := L1r.out; omega) R1]; exact HD.out)
          rw [← HR1.out] at HD
          clear HR1
          obtain ⟨R1, hR1⟩ : ∃ x, leb n3 ++ ((r.whens.map wnB).flatten ++ Xk) = x := ⟨_, rfl⟩
          rw [hR1] at HD
          have HR1 := Lib.hid hR1
          clear hR1
          rw [leb_small (x := n2) (by omega)] at HD
          have hlm := h.p.len HD HT
          simp only [List.length_append, List.length_cons, List.length_nil] at hlm
          have e1 := (h.k5.cell 1).trans hC1
          go_wp2_with (at_builtin; go_must (refine appendG T23 rfl rfl rfl (h.p.o.alloc _) rfl (rdB_one _ (b := UInt8.ofNat n2) (by first | exact lenV (by omega) | exact lenU (by omega))) (by omega) (by have := h.p.base; simp; omega) ?_); intro A' c' w' o' g' e'; have gr := ((Gr.refl _ _).below ((Below.refl _ _).alloc (Nat.le_refl _) _)).step g' e')
          replace h := h.step gr o'
          replace HD := nextD HD
          clear gr o' g' e'
          clear hlm
          clear e1
          go_loopw [3, 8] (fun sv iv wr => ∃ (kt : Nat) (A : Option Addr) (m c : Nat) (dn : List UInt8), sv = .slice A m c ∧ iv = .int .i64 kt ∧ kt ≤ n2 ∧ BR w CS g5 C5 wr A m c dn ∧ dn ++ (((r.tos.drop kt).map tgB).flatten ++ R1) = TOT) (fun _ iv _ => n2 - (intOf iv).toNat)
          case atStart => exact ⟨0, _, _, _, _, rfl, rfl, Nat.zero_le _, h, HD.out⟩
          case round =>
            clear h HD
            obtain ⟨kt, A, m, c, dn, rfl, rfl, hkkt, h, hd⟩ := hrel
            have HD := Lib.hid hd
            clear hd
            have e1 := (h.k5.cell 1).trans hC1
            by_cases hltkt : kt < n2
            · have hkL : kt < r.tos.length := by rw [L2.out]; exact hltkt
              have dltkt : decide ((kt : Int) < (n2 : Int)) = true := by simp; omega
              have b1kt : (0 : Int) ≤ (kt : Int) := by omega
              have b2kt : (kt : Int) < (n2 : Int) := by omega
              replace HD : Hid (dn ++ (tgB (r.tos[kt]) ++ (((r.tos.drop (kt + 1)).map tgB).flatten ++ R1)) = TOT) := Lib.hid (by rw [← drop_cut tgB hkL]; exact HD.out)
              obtain ⟨Xkt, hX⟩ : ∃ x, ((r.tos.drop (kt + 1)).map tgB).flatten ++ R1 = x := ⟨_, rfl⟩
              rw [hX] at HD
              have HXkt := Lib.hid hX
              clear hX
              obtain ⟨bt, offt, cst, p1, p2t, p3, p4, p5⟩ := H2.out.at_ hltkt
              have hokt := K2.out _ (List.getElem_mem hkL)
              have hmt := M2.out _ (List.getElem_mem hkL)
              clear p3
              obtain ⟨t, ht⟩ : ∃ x, r.tos[kt]'hkL = x := ⟨_, rfl⟩
              rw [ht] at hokt p4 HD hmt
              clear ht
              obtain ⟨A4, n4, c4, A5, n5, c5, A6, n6, c6, A7, n7, c7, rfl, h4, h5, h6, h7⟩ := vals_tg p4
              have qt0 : w.cell? ⟨bt, offt + kt * 4, none⟩ = _ := p5 0 _ rfl
              have qt1 : w.cell? ⟨bt, offt + kt * 4 + 1, none⟩ = _ := p5 1 _ rfl
              have qt2 : w.cell? ⟨bt, offt + kt * 4 + 2, none⟩ = _ := p5 2 _ rfl
              have qt3 : w.cell? ⟨bt, offt + kt * 4 + 3, none⟩ = _ := p5 3 _ rfl
              clear p5 p4
              subst p1
              have l4 := h4.1
              have hn4 := tgMay_n hmt
              rw [l4] at hn4
              have H4 := Lib.hid h4; have H5 := Lib.hid h5; have H6 := Lib.hid h6; have H7 := Lib.hid h7; have L4 := Lib.hid l4
              have ok5 := Lib.hid hokt.2.1; have ok6 := Lib.hid hokt.2.2.1; have ok7 := Lib.hid hokt.2.2.2
              clear h4 h5 h6 h7 l4 hmt hokt
              obtain ⟨R2, hR2⟩ : ∃ x, rowB tmB t.methods ++ (rowB tmB t.paths ++ (rowB tmB t.hosts ++ Xkt)) = x := ⟨_, rfl⟩
              replace HD : Hid (dn ++ (leb t.ports.length ++ ((t.ports.map inB).flatten ++ R2)) = TOT) := Lib.hid (by rw [← hR2, ← tgB_cut]; exact HD.out)
              have HR2 := Lib.hid hR2
              clear hR2
              rw [L4.out] at HD
              rw [leb_small (x := n4) (by omega)] at HD
              have hlm := h.p.len HD HT
              simp only [List.length_append, List.length_cons, List.length_nil] at hlm
              have e1 := (h.k5.cell 1).trans hC1
              have zt0 := (h.p.f.cell (p := ⟨bt, offt + kt * 4, none⟩) (by simp only; omega)).trans qt0
              go_wp2_with (at_builtin; go_must (refine appendG T23 rfl rfl rfl (h.p.o.alloc _) rfl (rdB_one _ (b := UInt8.ofNat n4) (by first | exact lenV (by omega) | exact lenU (by omega))) (by omega) (by have := h.p.base; simp; omega) ?_); intro A' c' w' o' g' e'; have gr := ((Gr.refl _ _).below ((Below.refl _ _).alloc (Nat.le_refl _) _)).step g' e')
              replace h := h.step gr o'
              replace HD := nextD HD
              clear gr o' g' e'
              clear hlm
              clear e1 zt0
              go_loopw [3, 9] (fun sv iv wr => ∃ (kp : Nat) (A : Option Addr) (m c : Nat) (dn : List UInt8), sv = .slice A m c ∧ iv = .int .i64 kp ∧ kp ≤ n4 ∧ BR w CS g5 C5 wr A m c dn ∧ dn ++ (((t.ports.drop kp).map inB).flatten ++ R2) = TOT) (fun _ iv _ => n4 - (intOf iv).toNat)
              case atStart => exact ⟨0, _, _, _, _, rfl, rfl, Nat.zero_le _, h, HD.out⟩
              case round =>
                clear h HD
                obtain ⟨kp, A, m, c, dn, rfl, rfl, hkkp, h, hd⟩ := hrel
                have HD := Lib.hid hd
                clear hd
                have e1 := (h.k5.cell 1).trans hC1
                have zt0 := (h.p.f.cell (p := ⟨bt, offt + kt * 4, none⟩) (by simp only; omega)).trans qt0
                by_cases hltkp : kp < n4
                · have hkL : kp < t.ports.length := by rw [L4.out]; exact hltkp
                  have dltkp : decide ((kp : Int) < (n4 : Int)) = true := by simp; omega
                  have b1kp : (0 : Int) ≤ (kp : Int) := by omega
                  have b2kp : (kp : Int) < (n4 : Int) := by omega
                  replace HD : Hid (dn ++ (inB (t.ports[kp]) ++ (((t.ports.drop (kp + 1)).map inB).flatten ++ R2)) = TOT) := Lib.hid (by rw [← drop_cut inB hkL]; exact HD.out)
                  obtain ⟨Xkp, hX⟩ : ∃ x, ((t.ports.drop (kp + 1)).map inB).flatten ++ R2 = x := ⟨_, rfl⟩
                  rw [hX] at HD
                  have HXkp := Lib.hid hX
                  clear hX
                  obtain ⟨b6, off6, p1, p26, p3⟩ := H4.out.2 (by omega)
                  have q60 : w.cell? ⟨b6, off6 + kp * 1, none⟩ = _ := p3 kp hkL 0 _ rfl
                  rw [Nat.mul_one] at q60
                  clear p3
                  obtain ⟨x, hx⟩ : ∃ x, t.ports[kp]'hkL = x := ⟨_, rfl⟩
                  rw [hx] at HD q60
                  clear hx
                  subst p1
                  replace HD : Hid (dn ++ (leb (n64 x) ++ Xkp) = TOT) := HD
                  have hlm := h.p.len HD HT
                  simp only [List.length_append, List.length_cons, List.length_nil] at hlm
                  have h6v := wrap_n64 x
                  have h6l := n64_lt x
                  have z60 := (h.p.f.cell (p := ⟨b6, off6 + kp, none⟩) (by simp only; omega)).trans q60
                  go_wp2_with fail
                  try rw [wrap_n64]
                  refine (refShort_any (n64 x) h6l _).mono ?_
                  rintro e w1 ⟨A8, c8, rfl, o1, f1⟩
                  replace h := h.step ((Gr.refl _ _).below f1) (h.p.o.below (Nat.le_refl _) f1)
                  go_wp2_with (at_builtin; go_must (refine appendG T23 rfl rfl rfl h.p.o rfl o1.rd (by omega) h.p.base ?_); intro A' c' w' o' g' e'; have gr := (Gr.refl _ _).step g' e')
                  clear o1 f1
                  replace h := h.step gr o'
                  replace HD := nextD HD
                  clear gr o' g' e'
                  go_roundw
                  case rel => exact ⟨kp + 1, _, _, _, _, rfl, by go_num, by omega, h, by rw [HXkp.out]; exact HD.out⟩
                  case measure => simp [intOf]; omega
                · have dltkp : decide ((kp : Int) < (n4 : Int)) = false := by simp; omega
                  replace HD : Hid (dn ++ R2 = TOT) := Lib.hid (by rw [← drop_end inB (L := t.ports) (k := kp) (by have := L4.out; omega) R2]; exact HD.out)
                  rw [← HR2.out] at HD
                  go_upto_region 28 with fail
                  clear e1 zt0
                  have hlm := h.p.len HD HT
                  simp only [List.length_append, List.length_cons, List.length_nil] at hlm
                  have mkS : ∀ u, Blk u g5 26 C5 → Below w.heap.size w u → u.cell? ⟨g5, 1, none⟩ = some (.slice (some ⟨bt, offt, none⟩) n2 c2) ∧ u.cell? ⟨bt, offt + kt * 4 + 1, none⟩ = some (.slice A5 n5 c5) ∧ u.cell? ⟨bt, offt + kt * 4 + 2, none⟩ = some (.slice A6 n6 c6) ∧ u.cell? ⟨bt, offt + kt * 4 + 3, none⟩ = some (.slice A7 n7 c7) := fun u hk hf => ⟨(hk.cell 1).trans hC1, (hf.cell (p := ⟨bt, offt + kt * 4 + 1, none⟩) (by simp only; omega)).trans qt1, (hf.cell (p := ⟨bt, offt + kt * 4 + 2, none⟩) (by simp only; omega)).trans qt2, (hf.cell (p := ⟨bt, offt + kt * 4 + 3, none⟩) (by simp only; omega)).trans qt3⟩
                  refine wp_region_order (fun u => u.cell? ⟨g5, 1, none⟩ = some (.slice (some ⟨bt, offt, none⟩) n2 c2) ∧ u.cell? ⟨bt, offt + kt * 4 + 1, none⟩ = some (.slice A5 n5 c5) ∧ u.cell? ⟨bt, offt + kt * 4 + 2, none⟩ = some (.slice A6 n6 c6) ∧ u.cell? ⟨bt, offt + kt * 4 + 3, none⟩ = some (.slice A7 n7 c7)) 100 [(0,0), (1,0), (2,0), (3,0), (4,0), (5,0), (6,0), (8,0), (9,0), (10,0), (11,0), (12,0), (13,0), (15,0), (16,0), (17,0), (18,0), (19,0), (20,0), (7,1), (14,1), (21,1), (22,0)] (by kernel_rfl) (by kernel_rfl) ?_
                  simp only [pick, List.filterMap_cons, List.filterMap_nil, List.getElem?_cons_zero, List.getElem?_cons_succ, Option.map_some]
                  replace h := h.drew
                  have hS := mkS _ h.k5 h.p.f
                  refine wpF_take (v := ?_) hS rfl ?_ (fun _ _ _ h => h) ?_
                  rotate_left
                  · intro w' hS'
                    obtain ⟨e0, e1, e2, e3⟩ := hS'
                    go_simp <;> rfl
                  go_simp
                  refine wpF_take (v := ?_) hS rfl ?_ (fun _ _ _ h => h) ?_
                  rotate_left
                  · intro w' hS'
                    obtain ⟨e0, e1, e2, e3⟩ := hS'
                    go_simp <;> rfl
                  go_simp
                  refine wpF_take (v := ?_) hS rfl ?_ (fun _ _ _ h => h) ?_
                  rotate_left
                  · intro w' hS'
                    obtain ⟨e0, e1, e2, e3⟩ := hS'
                    go_simp <;> rfl
                  go_simp
                  refine wpF_take (v := ?_) hS rfl ?_ (fun _ _ _ h => h) ?_
                  rotate_left
                  · intro w' hS'
                    obtain ⟨e0, e1, e2, e3⟩ := hS'
                    go_simp <;> rfl
                  go_simp
                  refine wpF_take (v := ?_) hS rfl ?_ (fun _ _ _ h => h) ?_
                  rotate_left
                  · intro w' hS'
                    obtain ⟨e0, e1, e2, e3⟩ := hS'
                    go_simp <;> rfl
                  go_simp
                  refine wpF_take (v := ?_) hS rfl ?_ (fun _ _ _ h => h) ?_
                  rotate_left
                  · intro w' hS'
                    obtain ⟨e0, e1, e2, e3⟩ := hS'
                    go_simp <;> rfl
                  go_simp
                  refine wpF_take (v := ?_) hS rfl ?_ (fun _ _ _ h => h) ?_
                  rotate_left
                  · intro w' hS'
                    obtain ⟨e0, e1, e2, e3⟩ := hS'
                    go_simp <;> rfl
                  go_simp
                  refine wpF_take (v := ?_) hS rfl ?_ (fun _ _ _ h => h) ?_
                  rotate_left
                  · intro w' hS'
                    obtain ⟨e0, e1, e2, e3⟩ := hS'
                    go_simp <;> rfl
                  go_simp
                  refine wpF_take (v := ?_) hS rfl ?_ (fun _ _ _ h => h) ?_
                  rotate_left
                  · intro w' hS'
                    obtain ⟨e0, e1, e2, e3⟩ := hS'
                    go_simp <;> rfl
                  go_simp
                  refine wpF_take (v := ?_) hS rfl ?_ (fun _ _ _ h => h) ?_
                  rotate_left
                  · intro w' hS'
                    obtain ⟨e0, e1, e2, e3⟩ := hS'
                    go_simp <;> rfl
                  go_simp
                  refine wpF_take (v := ?_) hS rfl ?_ (fun _ _ _ h => h) ?_
                  rotate_left
                  · intro w' hS'
                    obtain ⟨e0, e1, e2, e3⟩ := hS'
                    go_simp <;> rfl
                  go_simp
                  refine wpF_take (v := ?_) hS rfl ?_ (fun _ _ _ h => h) ?_
                  rotate_left
                  · intro w' hS'
                    obtain ⟨e0, e1, e2, e3⟩ := hS'
                    go_simp <;> rfl
                  go_simp
                  refine wpF_take (v := ?_) hS rfl ?_ (fun _ _ _ h => h) ?_
                  rotate_left
                  · intro w' hS'
                    obtain ⟨e0, e1, e2, e3⟩ := hS'
                    go_simp <;> rfl
                  go_simp
                  refine wpF_take (v := ?_) hS rfl ?_ (fun _ _ _ h => h) ?_
                  rotate_left
                  · intro w' hS'
                    obtain ⟨e0, e1, e2, e3⟩ := hS'
                    go_simp <;> rfl
                  go_simp
                  refine wpF_take (v := ?_) hS rfl ?_ (fun _ _ _ h => h) ?_
                  rotate_left
                  · intro w' hS'
                    obtain ⟨e0, e1, e2, e3⟩ := hS'
                    go_simp <;> rfl
                  go_simp
                  refine wpF_take (v := ?_) hS rfl ?_ (fun _ _ _ h => h) ?_
                  rotate_left
                  · intro w' hS'
                    obtain ⟨e0, e1, e2, e3⟩ := hS'
                    go_simp <;> rfl
                  go_simp
                  refine wpF_take (v := ?_) hS rfl ?_ (fun _ _ _ h => h) ?_
                  rotate_left
                  · intro w' hS'
                    obtain ⟨e0, e1, e2, e3⟩ := hS'
                    go_simp <;> rfl
                  go_simp
                  refine wpF_take (v := ?_) hS rfl ?_ (fun _ _ _ h => h) ?_
                  rotate_left
                  · intro w' hS'
                    obtain ⟨e0, e1, e2, e3⟩ := hS'
                    go_simp <;> rfl
                  go_simp
                  refine wpF_take (v := ?_) hS rfl ?_ (fun _ _ _ h => h) ?_
                  rotate_left
                  · intro w' hS'
                    obtain ⟨e0, e1, e2, e3⟩ := hS'
                    go_simp <;> rfl
                  go_simp
                  refine wpF_only rfl (fun K hK => ?_)
                  go_wp2_with fail
                  refine (rput_any _ _ _ _ _ _ _ _ _ w.heap.size _ h.p.o (H5.out.below h.p.f) (Nat.le_succ _) h.p.base ok5.out (by omega)).mono ?_
                  rintro e w' ⟨A', c', rfl, o', gr⟩
                  replace h := h.step gr o'
                  replace HD := nextD HD
                  clear gr o'
                  replace hS := mkS _ h.k5 h.p.f
                  go_wp2_with fail
                  first | refine ⟨fun _ => hS, ?_⟩ | refine ⟨hS, ?_⟩
                  go_simp
                  refine wpF_only rfl (fun K hK => ?_)
                  go_wp2_with fail
                  refine (rput_any _ _ _ _ _ _ _ _ _ w.heap.size _ h.p.o (H6.out.below h.p.f) (Nat.le_succ _) h.p.base ok6.out (by omega)).mono ?_
                  rintro e w' ⟨A', c', rfl, o', gr⟩
                  replace h := h.step gr o'
                  replace HD := nextD HD
                  clear gr o'
                  replace hS := mkS _ h.k5 h.p.f
                  go_wp2_with fail
                  first | refine ⟨fun _ => hS, ?_⟩ | refine ⟨hS, ?_⟩
                  go_simp
                  refine wpF_only rfl (fun K hK => ?_)
                  go_wp2_with fail
                  refine (rput_any _ _ _ _ _ _ _ _ _ w.heap.size _ h.p.o (H7.out.below h.p.f) (Nat.le_succ _) h.p.base ok7.out (by omega)).mono ?_
                  rintro e w' ⟨A', c', rfl, o', gr⟩
                  replace h := h.step gr o'
                  replace HD := nextD HD
                  clear gr o'
                  replace hS := mkS _ h.k5 h.p.f
                  go_wp2_with fail
                  first | refine ⟨fun _ => hS, ?_⟩ | refine ⟨hS, ?_⟩
                  go_simp
                  refine wpF_take (v := ?_) hS rfl ?_ (fun _ _ _ h => h) ?_
                  rotate_left
                  · intro w' hS'
                    obtain ⟨e0, e1, e2, e3⟩ := hS'
                    go_simp <;> rfl
                  go_simp
                  refine wpF_nil ?_
                  clear mkS hS hlm
                  go_wp2_with fail
                  go_roundw
                  case rel => exact ⟨kt + 1, _, _, _, _, rfl, by go_num, by omega, h, by rw [HXkt.out]; exact HD.out⟩
                  case measure => simp [intOf]; omega
            · have dltkt : decide ((kt : Int) < (n2 : Int)) = false := by simp; omega
              replace HD : Hid (dn ++ R1 = TOT) := Lib.hid (by rw [← drop_end tgB (L := r.tos) (k := kt) (by have := L2.out; omega) R1]; exact HD.out)
              rw [← HR1.out] at HD
              clear HR1
              obtain ⟨R1, hR1⟩ : ∃ x, Xk = x := ⟨_, rfl⟩
              rw [hR1] at HD
              have HR1 := Lib.hid hR1
              clear hR1
              rw [leb_small (x := n3) (by omega)] at HD
              have hlm := h.p.len HD HT
              simp only [List.length_append, List.length_cons, List.length_nil] at hlm
              have e2 := (h.k5.cell 2).trans hC2
              go_wp2_with (at_builtin; go_must (refine appendG T23 rfl rfl rfl (h.p.o.alloc _) rfl (rdB_one _ (b := UInt8.ofNat n3) (by first | exact lenV (by omega) | exact lenU (by omega))) (by omega) (by have := h.p.base; simp; omega) ?_); intro A' c' w' o' g' e'; have gr := ((Gr.refl _ _).below ((Below.refl _ _).alloc (Nat.le_refl _) _)).step g' e')
              replace h := h.step gr o'
              replace HD := nextD HD
              clear gr o' g' e'
              clear hlm
              clear e2
              go_loopw [3, 10] (fun sv iv wr => ∃ (kw : Nat) (A : Option Addr) (m c : Nat) (dn : List UInt8), sv = .slice A m c ∧ iv = .int .i64 kw ∧ kw ≤ n3 ∧ BR w CS g5 C5 wr A m c dn ∧ dn ++ (((r.whens.drop kw).map wnB).flatten ++ R1) = TOT) (fun _ iv _ => n3 - (intOf iv).toNat)
              case atStart => exact ⟨0, _, _, _, _, rfl, rfl, Nat.zero_le _, h, HD.out⟩
              case round =>
                clear h HD
                obtain ⟨kw, A, m, c, dn, rfl, rfl, hkkw, h, hd⟩ := hrel
                have HD := Lib.hid hd
                clear hd
                have e2 := (h.k5.cell 2).trans hC2
                by_cases hltkw : kw < n3
                · have hkL : kw < r.whens.length := by rw [L3.out]; exact hltkw
                  have dltkw : decide ((kw : Int) < (n3 : Int)) = true := by simp; omega
                  have b1kw : (0 : Int) ≤ (kw : Int) := by omega
                  have b2kw : (kw : Int) < (n3 : Int) := by omega
                  replace HD : Hid (dn ++ (wnB (r.whens[kw]) ++ (((r.whens.drop (kw + 1)).map wnB).flatten ++ R1)) = TOT) := Lib.hid (by rw [← drop_cut wnB hkL]; exact HD.out)
                  obtain ⟨Xkw, hX⟩ : ∃ x, ((r.whens.drop (kw + 1)).map wnB).flatten ++ R1 = x := ⟨_, rfl⟩
                  rw [hX] at HD
                  have HXkw := Lib.hid hX
                  clear hX
                  obtain ⟨bx, offx, csx, p1, p2x, p3, p4, p5⟩ := H3.out.at_ hltkw
                  have hokx := K3.out _ (List.getElem_mem hkL)
                  clear p3
                  obtain ⟨x, hx⟩ : ∃ x, r.whens[kw]'hkL = x := ⟨_, rfl⟩
                  rw [hx] at hokx p4 HD
                  clear hx
                  obtain ⟨A4, n4, c4, rfl, h4⟩ := vals_wn p4
                  have qx0 : w.cell? ⟨bx, offx + kw * 2, none⟩ = _ := p5 0 _ rfl
                  have qx1 : w.cell? ⟨bx, offx + kw * 2 + 1, none⟩ = _ := p5 1 _ rfl
                  clear p5 p4
                  subst p1
                  have H4 := Lib.hid h4
                  have ok1 : x.head.length ≤ 1000000 := hokx.1
                  have ok2 := Lib.hid hokx.2
                  clear h4 hokx
                  replace HD : Hid (dn ++ (txB x.head ++ (rowB tmB x.terms ++ Xkw)) = TOT) := Lib.hid (by rw [← wnB_cut]; exact HD.out)
                  have hlm := h.p.len HD HT
                  simp only [List.length_append, List.length_cons, List.length_nil] at hlm
                  have hTx := fun u => refText_any x.head (by omega) u
                  have htx : leb x.head.length ++ x.head = txB x.head := by unfold txB; rfl
                  rw [htx] at hTx
                  clear htx
                  go_upto_region 33 with fail
                  clear e2
                  have mkS : ∀ u, Blk u g5 26 C5 → Below w.heap.size w u → u.cell? ⟨g5, 2, none⟩ = some (.slice (some ⟨bx, offx, none⟩) n3 c3) ∧ u.cell? ⟨bx, offx + kw * 2, none⟩ = some (.string (strB x.head)) ∧ u.cell? ⟨bx, offx + kw * 2 + 1, none⟩ = some (.slice A4 n4 c4) := fun u hk hf => ⟨(hk.cell 2).trans hC2, (hf.cell (p := ⟨bx, offx + kw * 2, none⟩) (by simp only; omega)).trans qx0, (hf.cell (p := ⟨bx, offx + kw * 2 + 1, none⟩) (by simp only; omega)).trans qx1⟩
                  refine wp_region_order (fun u => u.cell? ⟨g5, 2, none⟩ = some (.slice (some ⟨bx, offx, none⟩) n3 c3) ∧ u.cell? ⟨bx, offx + kw * 2, none⟩ = some (.string (strB x.head)) ∧ u.cell? ⟨bx, offx + kw * 2 + 1, none⟩ = some (.slice A4 n4 c4)) 100 [(0,0), (1,0), (2,0), (3,0), (4,0), (5,0), (6,0), (9,0), (10,0), (11,0), (12,0), (13,0), (14,0), (7,1), (8,1), (15,1), (16,0)] (by kernel_rfl) (by kernel_rfl) ?_
                  simp only [pick, List.filterMap_cons, List.filterMap_nil, List.getElem?_cons_zero, List.getElem?_cons_succ, Option.map_some]
                  replace h := h.drew
                  have hS := mkS _ h.k5 h.p.f
                  refine wpF_take (v := ?_) hS rfl ?_ (fun _ _ _ h => h) ?_
                  rotate_left
                  · intro w' hS'
                    obtain ⟨e0, e1, e2⟩ := hS'
                    go_simp <;> rfl
                  go_simp
                  refine wpF_take (v := ?_) hS rfl ?_ (fun _ _ _ h => h) ?_
                  rotate_left
                  · intro w' hS'
                    obtain ⟨e0, e1, e2⟩ := hS'
                    go_simp <;> rfl
                  go_simp
                  refine wpF_take (v := ?_) hS rfl ?_ (fun _ _ _ h => h) ?_
                  rotate_left
                  · intro w' hS'
                    obtain ⟨e0, e1, e2⟩ := hS'
                    go_simp <;> rfl
                  go_simp
                  refine wpF_take (v := ?_) hS rfl ?_ (fun _ _ _ h => h) ?_
                  rotate_left
                  · intro w' hS'
                    obtain ⟨e0, e1, e2⟩ := hS'
                    go_simp <;> rfl
                  go_simp
                  refine wpF_take (v := ?_) hS rfl ?_ (fun _ _ _ h => h) ?_
                  rotate_left
                  · intro w' hS'
                    obtain ⟨e0, e1, e2⟩ := hS'
                    go_simp <;> rfl
                  go_simp
                  refine wpF_take (v := ?_) hS rfl ?_ (fun _ _ _ h => h) ?_
                  rotate_left
                  · intro w' hS'
                    obtain ⟨e0, e1, e2⟩ := hS'
                    go_simp <;> rfl
                  go_simp
                  refine wpF_take (v := ?_) hS rfl ?_ (fun _ _ _ h => h) ?_
                  rotate_left
                  · intro w' hS'
                    obtain ⟨e0, e1, e2⟩ := hS'
                    go_simp <;> rfl
                  go_simp
                  refine wpF_take (v := ?_) hS rfl ?_ (fun _ _ _ h => h) ?_
                  rotate_left
                  · intro w' hS'
                    obtain ⟨e0, e1, e2⟩ := hS'
                    go_simp <;> rfl
                  go_simp
                  refine wpF_take (v := ?_) hS rfl ?_ (fun _ _ _ h => h) ?_
                  rotate_left
                  · intro w' hS'
                    obtain ⟨e0, e1, e2⟩ := hS'
                    go_simp <;> rfl
                  go_simp
                  refine wpF_take (v := ?_) hS rfl ?_ (fun _ _ _ h => h) ?_
                  rotate_left
                  · intro w' hS'
                    obtain ⟨e0, e1, e2⟩ := hS'
                    go_simp <;> rfl
                  go_simp
                  refine wpF_take (v := ?_) hS rfl ?_ (fun _ _ _ h => h) ?_
                  rotate_left
                  · intro w' hS'
                    obtain ⟨e0, e1, e2⟩ := hS'
                    go_simp <;> rfl
                  go_simp
                  refine wpF_take (v := ?_) hS rfl ?_ (fun _ _ _ h => h) ?_
                  rotate_left
                  · intro w' hS'
                    obtain ⟨e0, e1, e2⟩ := hS'
                    go_simp <;> rfl
                  go_simp
                  refine wpF_take (v := ?_) hS rfl ?_ (fun _ _ _ h => h) ?_
                  rotate_left
                  · intro w' hS'
                    obtain ⟨e0, e1, e2⟩ := hS'
                    go_simp <;> rfl
                  go_simp
                  refine wpF_only rfl (fun K hK => ?_)
                  go_wp2_with fail
                  refine (hTx _).mono ?_
                  rintro e w1 ⟨A8, c8, rfl, o1, f1⟩
                  replace h := h.step ((Gr.refl _ _).below f1) (h.p.o.below (Nat.le_refl _) f1)
                  replace hS := mkS _ h.k5 h.p.f
                  go_wp2_with fail
                  first | refine ⟨fun _ => hS, ?_⟩ | refine ⟨hS, ?_⟩
                  go_simp
                  refine wpF_only rfl (fun K hK => ?_)
                  refine wp_appendG T23 rfl rfl h.p.o rfl o1.rd (by omega) h.p.base ?_
                  intro A' c' w' o' g' e'
                  have gr := (Gr.refl _ _).step g' e'
                  clear o1 f1
                  replace h := h.step gr o'
                  replace HD := nextD HD
                  clear gr o' g' e'
                  replace hS := mkS _ h.k5 h.p.f
                  refine hK _ _ ⟨fun _ => hS, ?_⟩
                  go_simp
                  clear hK
                  refine wpF_only rfl (fun K hK => ?_)
                  go_wp2_with fail
                  refine (rput_any _ _ _ _ _ _ _ _ _ w.heap.size _ h.p.o (H4.out.below h.p.f) (Nat.le_succ _) h.p.base ok2.out (by omega)).mono ?_
                  rintro e w' ⟨A', c', rfl, o', gr⟩
                  replace h := h.step gr o'
                  replace HD := nextD HD
                  clear gr o'
                  replace hS := mkS _ h.k5 h.p.f
                  go_wp2_with fail
                  first | refine ⟨fun _ => hS, ?_⟩ | refine ⟨hS, ?_⟩
                  go_simp
                  refine wpF_take (v := ?_) hS rfl ?_ (fun _ _ _ h => h) ?_
                  rotate_left
                  · intro w' hS'
                    obtain ⟨e0, e1, e2⟩ := hS'
                    go_simp <;> rfl
                  go_simp
                  refine wpF_nil ?_
                  clear mkS hS hlm hTx
                  go_wp2_with fail
                  go_roundw
                  case rel => exact ⟨kw + 1, _, _, _, _, rfl, by go_num, by omega, h, by rw [HXkw.out]; exact HD.out⟩
                  case measure => simp [intOf]; omega
                · have dltkw : decide ((kw : Int) < (n3 : Int)) = false := by simp; omega
                  replace HD : Hid (dn ++ R1 = TOT) := Lib.hid (by rw [← drop_end wnB (L := r.whens) (k := kw) (by have := L3.out; omega) R1]; exact HD.out)
                  rw [← HR1.out] at HD
                  go_wp2_with fail
                  go_roundw
                  case rel => exact ⟨k + 1, _, _, _, _, rfl, by go_num, by omega, h.p, by rw [HXk.out]; exact HD.out⟩
                  case measure => simp [intOf]; omega
    · have dltk : decide ((k : Int) < (nr : Int)) = false := by simp; omega
      replace HD : Hid (dn ++ [] = TOT) := Lib.hid (by rw [← drop_end ruB (L := p.rules) (k := k) (by have := L1.out; omega) []]; exact HD.out)
      rw [List.append_nil] at HD
      have hE : dn = TOT := HD.out
      have hll : TOT.length = m := by rw [← hE]; exact h.o.len
      have ho : OwnB wr (w.heap.size + 1) 5 (.slice A m c) TOT := by rw [← hE]; exact h.o
      clear hE
      have HLL := Lib.hid hll
      clear hll
      go_wp2_with fail
      go_ret
      rw [HLL.out]
      exact ⟨A, c, rfl, ho.base_le (Nat.le_succ _), h.f⟩
end Go.Proofs.YtdbjihpdfiipcaaGreat
