/- The law PolicyMay, walked: true. Condition: none beyond what is opened. Printed by gen_pmayw.py. -/
import Derived.Test.YtdbjihpdfiipcaaGreatPolOwn
import Derived.Test.YtdbjihpdfiipcaaGreatPolKd
import Derived.Test.YtdbjihpdfiipcaaGreatPolCopy2
import Derived.Test.YtdbjihpdfiipcaaGreatRefPoA
import Derived.Test.YtdbjihpdfiipcaaGreatPolSameP
import Derived.Test.YtdbjihpdfiipcaaGreatPolAwake
import Derived.Test.YtdbjihpdfiipcaaGreatFacts
namespace Go.Proofs.YtdbjihpdfiipcaaGreat
open Go.RowKit Go.Sort
set_option linter.unusedVariables false
set_option linter.unusedSimpArgs false
theorem PoP.form' {w : World} {B : Nat} {cs : List Value} {p : Po} (h : PoP w B cs p) : ∃ (a0 : Int) (a1 : ByteArray) (a2 a3 : Int) (A : Option Addr) (n c : Nat), cs = [.int .u64 a0, .string a1, .int .u64 a2, .int .i64 a3, .slice A n c] := by
  obtain ⟨v, rfl, A, n, c, rfl, _⟩ := h
  exact ⟨_, _, _, _, _, _, _, rfl⟩
theorem RuP.form' {w : World} {B : Nat} {cs : List Value} {p : Ru} (h : RuP w B cs p) : ∃ A1 n1 c1 A2 n2 c2 A3 n3 c3, cs = [.slice A1 n1 c1, .slice A2 n2 c2, .slice A3 n3 c3] := by
  obtain ⟨A1, n1, c1, A2, n2, c2, A3, n3, c3, rfl, _⟩ := vals_ru h
  exact ⟨_, _, _, _, _, _, _, _, _, rfl⟩
theorem Kd.trans0 {lo m : Nat} {a b c : World} (h : Kd lo m a b) (k : Kd lo 0 b c) : Kd lo m a c := h.trans k
theorem Kd.drew {lo m : Nat} {a b : World} (h : Kd lo m a b) : Kd lo m a b.drew := ⟨h.below.drew, h.size, h.cell, h.free⟩
theorem grow_x (s : ByteArray) : (s ++ (⟨#[120]⟩ : ByteArray)).size ≤ s.size + 1 := by
  rw [ByteArray.size_append]
  exact Nat.le_refl _
theorem ERu.kd {lo : Nat} {w w' : World} (hk : Kd lo 0 w w') {b o : Nat} (h : ERu lo w b o) : ERu lo w' b o := by
  obtain ⟨v1, v2, v3, h1, h2, h3, s1, s2, s3⟩ := h
  have e1 := s1; have e2 := s2; have e3 := s3
  obtain ⟨A1, n1, c1, rfl, _⟩ := e1
  obtain ⟨A2, n2, c2, rfl, _⟩ := e2
  obtain ⟨A3, n3, c3, rfl, _⟩ := e3
  refine ⟨_, _, _, hk.slice h1, hk.slice h2, hk.slice h3, s1.kd hk fun b o h => ?_, s2.kd hk fun b o h => ?_, s3.kd hk fun b o h => ?_⟩
  · obtain ⟨v1, v2, v3, h1, h2, h3, s1, s2, s3⟩ := h
    have e1 := s1; have e2 := s2; have e3 := s3
    obtain ⟨A1, n1, c1, rfl, _⟩ := e1
    obtain ⟨A2, n2, c2, rfl, _⟩ := e2
    obtain ⟨A3, n3, c3, rfl, _⟩ := e3
    exact ⟨_, _, _, hk.slice h1, hk.slice h2, hk.slice h3, s1.kd hk fun b o h => h.kd hk, s2.kd hk fun b o h => h.kd hk, s3.kd hk fun b o h => h.kd hk⟩
  · obtain ⟨v1, v2, v3, v4, h1, h2, h3, h4, s1, s2, s3, s4⟩ := h
    have e1 := s1; have e2 := s2; have e3 := s3; have e4 := s4
    obtain ⟨A1, n1, c1, rfl, _⟩ := e1
    obtain ⟨A2, n2, c2, rfl, _⟩ := e2
    obtain ⟨A3, n3, c3, rfl, _⟩ := e3
    obtain ⟨A4, n4, c4, rfl, _⟩ := e4
    exact ⟨_, _, _, _, hk.slice h1, hk.slice h2, hk.slice h3, hk.slice h4, s1.kd hk fun b o h => h.kd hk, s2.kd hk fun b o h => h.kd hk, s3.kd hk fun b o h => h.kd hk, s4.kd hk fun b o h => h.kd hk⟩
  · obtain ⟨s, v2, h1, hz, h2, s2⟩ := h
    have e2 := s2
    obtain ⟨A2, n2, c2, rfl, _⟩ := e2
    obtain ⟨t, ht, hts⟩ := hk.str h1
    exact ⟨t, _, ht, by omega, hk.slice h2, s2.kd hk fun b o h => h.kd hk⟩
attribute [local irreducible] poMay ruMay seventhR poLong ruLong
set_option maxRecDepth 100000 in
set_option maxHeartbeats 16000000 in
theorem policyMay_walk (w : World) (cs : List Value) (p : Po) (hp : PoP w w.heap.size cs p) (kp : oqPo p) (ds : List Value) (q : Po) (hq : PoP w w.heap.size ds q) (kq : oqPo q) (es : List Value) (r : Ru) (hr : RuP w w.heap.size es r) (kr : oqRu r) :
    Calls Tryz.prog 4 #[.agg cs.toArray, .agg ds.toArray, .agg es.toArray] w fun e w' => e = .returned (.bool true) ∧ Below w.heap.size w w' := by
  have hP := fun (u : World) (hu : Below w.heap.size w u) => PoP.mono hp hu.size hu
  have hQ := fun (u : World) (hu : Below w.heap.size w u) => PoP.mono hq hu.size hu
  have hR := fun (u : World) (hu : Below w.heap.size w u) => RuP.mono hr hu.size hu
  obtain ⟨p0, p1, p2, p3, p4, p5, p6, rfl⟩ := hp.form'
  obtain ⟨q0, q1, q2, q3, q4, q5, q6, rfl⟩ := hq.form'
  obtain ⟨r1, r2, r3, r4, r5, r6, r7, r8, r9, rfl⟩ := hr.form'
  have HP := Lib.hid hP; have HQ := Lib.hid hQ; have HR := Lib.hid hR
  clear hP hQ hR hp hq hr
  have hi : (Tryz.prog.info? 38).map (·.size) = some 5 := by kernel_rfl
  have HI := Lib.hid hi; clear hi
  show Calls Tryz.prog 4 #[.agg #[.int .u64 p0, .string p1, .int .u64 p2, .int .i64 p3, .slice p4 p5 p6], .agg #[.int .u64 q0, .string q1, .int .u64 q2, .int .i64 q3, .slice q4 q5 q6], .agg #[.slice r1 r2 r3, .slice r4 r5 r6, .slice r7 r8 r9]] w _
  go_enter Tryz.func4, Tryz.ntmps4
  go_upto_region 1 with fail
  refine abs (fun w1 => Blk w1 w.heap.size 38 [.int .u64 p0, .string p1, .int .u64 p2, .int .i64 p3, .slice p4 p5 p6] ∧ Blk w1 (w.heap.size + 1) 38 [.int .u64 q0, .string q1, .int .u64 q2, .int .i64 q3, .slice q4 q5 q6] ∧ Blk w1 (w.heap.size + 1 + 1) 26 [.slice r1 r2 r3, .slice r4 r5 r6, .slice r7 r8 r9] ∧ Below w.heap.size w w1) ⟨((Blk.newAt rfl _ #[.int .u64 p0, .string p1, .int .u64 p2, .int .i64 p3, .slice p4 p5 p6]).alloc _).alloc _, (Blk.newAt (by simp) _ #[.int .u64 q0, .string q1, .int .u64 q2, .int .i64 q3, .slice q4 q5 q6]).alloc _, Blk.newAt (by simp) _ #[.slice r1 r2 r3, .slice r4 r5 r6, .slice r7 r8 r9], (((Below.refl _ w).alloc (Nat.le_refl _) _).alloc (by simp) _).alloc (by simp; omega) _⟩ ?_
  rintro w1 ⟨ka, kb, kc, f1⟩
  have a0 := ka.cell 0; have a1 := ka.cell 1; have a2 := ka.cell 2; have a3 := ka.cell 3; have a4 := ka.cell 4
  go_wp2_with fail
  refine (long12_any p _ w1 (HP.out w1 f1) kp).mono ?_
  rintro e w2 ⟨rfl, f2⟩
  clear a0 a1 a2 a3 a4
  have lka := ka.lt
  have lkb := kb.lt
  have lkc := kc.lt
  replace ka := ka.below f2 lka
  replace kb := kb.below f2 lkb
  replace kc := kc.below f2 lkc
  clear lka lkb lkc
  replace f1 := f1.trans (f2.mono f1.size)
  clear f2
  cases hlp : poLong p
  rotate_left
  · go_wp2_with fail
    refine (awake12_any w2).mono ?_
    rintro e w9 ⟨rfl, f9⟩
    go_wp2_with fail
    go_ret
    exact ⟨rfl, f1.trans (f9.mono f1.size)⟩
  have okp := kp.ok hlp
  have b0 := kb.cell 0; have b1 := kb.cell 1; have b2 := kb.cell 2; have b3 := kb.cell 3; have b4 := kb.cell 4
  go_wp2_with fail
  refine (long12_any q _ w2 (HQ.out w2 f1) kq).mono ?_
  rintro e w3 ⟨rfl, f2⟩
  clear b0 b1 b2 b3 b4
  have lka := ka.lt
  have lkb := kb.lt
  have lkc := kc.lt
  replace ka := ka.below f2 lka
  replace kb := kb.below f2 lkb
  replace kc := kc.below f2 lkc
  clear lka lkb lkc
  replace f1 := f1.trans (f2.mono f1.size)
  clear f2
  cases hlq : poLong q
  rotate_left
  · go_wp2_with fail
    refine (awake12_any w3).mono ?_
    rintro e w9 ⟨rfl, f9⟩
    go_wp2_with fail
    go_ret
    exact ⟨rfl, f1.trans (f9.mono f1.size)⟩
  have okq := kq.ok hlq
  have c0 := kc.cell 0; have c1 := kc.cell 1; have c2 := kc.cell 2
  go_wp2_with fail
  refine (longRule_any r _ w3 (HR.out w3 f1) kr.mx).mono ?_
  rintro e w4 ⟨rfl, f2⟩
  clear c0 c1 c2
  have lka := ka.lt
  have lkb := kb.lt
  have lkc := kc.lt
  replace ka := ka.below f2 lka
  replace kb := kb.below f2 lkb
  replace kc := kc.below f2 lkc
  clear lka lkb lkc
  replace f1 := f1.trans (f2.mono f1.size)
  clear f2
  cases hlr : ruLong r
  rotate_left
  · go_wp2_with fail
    refine (awake12_any w4).mono ?_
    rintro e w9 ⟨rfl, f9⟩
    go_wp2_with fail
    go_ret
    exact ⟨rfl, f1.trans (f9.mono f1.size)⟩
  have okr := kr.ok hlr
  obtain ⟨vm, hvm⟩ : ∃ x, poMay p = x := ⟨_, rfl⟩
  obtain ⟨vr, hvr⟩ : ∃ x, ruMay r = x := ⟨_, rfl⟩
  obtain ⟨vs7, hvs⟩ : ∃ x, seventhR r = x := ⟨_, rfl⟩
  obtain ⟨ve, hve⟩ : ∃ x, decide (p = q) = x := ⟨_, rfl⟩
  have C1 := fun (u : World) (hu : Below w4.heap.size w4 u) => may12_any p _ u (HP.out u (f1.trans (hu.mono f1.size))) okp
  have C2 := fun (u : World) (hu : Below w4.heap.size w4 u) => rmay12_any p _ u (HP.out u (f1.trans (hu.mono f1.size))) okp
  have C3 := fun (u : World) (hu : Below w4.heap.size w4 u) => mayRule_any r _ u (HR.out u (f1.trans (hu.mono f1.size))) okr
  have C4 := fun (u : World) (hu : Below w4.heap.size w4 u) => rmayRule_any r _ u (HR.out u (f1.trans (hu.mono f1.size))) okr
  have C5 := fun (u : World) (hu : Below w4.heap.size w4 u) => seventh_any r _ u (HR.out u (f1.trans (hu.mono f1.size))) okr
  have C6 := fun (u : World) (hu : Below w4.heap.size w4 u) => rseventh_any r _ u (HR.out u (f1.trans (hu.mono f1.size))) okr
  have C7 := fun (u : World) (hu : Below w4.heap.size w4 u) => psame12_any p q _ _ u (HP.out u (f1.trans (hu.mono f1.size))) (HQ.out u (f1.trans (hu.mono f1.size))) okp okq
  have C8 := fun (u : World) (hu : Below w4.heap.size w4 u) => same12_any p q _ _ u (HP.out u (f1.trans (hu.mono f1.size))) (HQ.out u (f1.trans (hu.mono f1.size))) okp okq
  rw [hvm] at C1 C2
  rw [hvr] at C3 C4
  rw [hvs] at C5 C6
  rw [hve] at C7 C8
  have nm : (vm != vm) = false := by cases vm <;> rfl
  have nr : (vr != vr) = false := by cases vr <;> rfl
  have ns : (vs7 != vs7) = false := by cases vs7 <;> rfl
  have ne : (ve != ve) = false := by cases ve <;> rfl
  clear hvm hvr hvs hve
  have EE : ∀ u, Below w4.heap.size w4 u → CsS [(⟨w.heap.size, 0, none⟩, .int .u64 p0), (⟨w.heap.size, 1, none⟩, .string p1), (⟨w.heap.size, 2, none⟩, .int .u64 p2), (⟨w.heap.size, 3, none⟩, .int .i64 p3), (⟨w.heap.size, 4, none⟩, .slice p4 p5 p6), (⟨(w.heap.size + 1), 0, none⟩, .int .u64 q0), (⟨(w.heap.size + 1), 1, none⟩, .string q1), (⟨(w.heap.size + 1), 2, none⟩, .int .u64 q2), (⟨(w.heap.size + 1), 3, none⟩, .int .i64 q3), (⟨(w.heap.size + 1), 4, none⟩, .slice q4 q5 q6), (⟨(w.heap.size + 1 + 1), 0, none⟩, .slice r1 r2 r3), (⟨(w.heap.size + 1 + 1), 1, none⟩, .slice r4 r5 r6), (⟨(w.heap.size + 1 + 1), 2, none⟩, .slice r7 r8 r9)] u := fun u hu => CsS.below (u := w4) ⟨ka.cell 0, ka.cell 1, ka.cell 2, ka.cell 3, ka.cell 4, kb.cell 0, kb.cell 1, kb.cell 2, kb.cell 3, kb.cell 4, kc.cell 0, kc.cell 1, kc.cell 2, trivial⟩ hu
  go_upto_region 3 with fail
  refine wp_region_facts (fun u => Below w4.heap.size w4 u) [
      fun v _ => v = .agg #[.int .u64 p0, .string p1, .int .u64 p2, .int .i64 p3, .slice p4 p5 p6],
      fun v _ => v = .bool vm,
      fun v _ => v = .agg #[.int .u64 p0, .string p1, .int .u64 p2, .int .i64 p3, .slice p4 p5 p6],
      fun v _ => v = .bool vm,
      fun v _ => v = .bool false,
      fun v _ => v = .bool false,
      fun v _ => v = .agg #[.slice r1 r2 r3, .slice r4 r5 r6, .slice r7 r8 r9],
      fun v _ => v = .bool vr,
      fun v _ => v = .agg #[.slice r1 r2 r3, .slice r4 r5 r6, .slice r7 r8 r9],
      fun v _ => v = .bool vr,
      fun v _ => v = .bool false,
      fun v _ => v = .bool false,
      fun v _ => v = .bool false,
      fun v _ => v = .agg #[.slice r1 r2 r3, .slice r4 r5 r6, .slice r7 r8 r9],
      fun v _ => v = .bool vs7,
      fun v _ => v = .agg #[.slice r1 r2 r3, .slice r4 r5 r6, .slice r7 r8 r9],
      fun v _ => v = .bool vs7,
      fun v _ => v = .bool false,
      fun v _ => v = .bool false,
      fun v _ => v = .bool false,
      fun v _ => v = .agg #[.int .u64 p0, .string p1, .int .u64 p2, .int .i64 p3, .slice p4 p5 p6],
      fun v _ => v = .agg #[.int .u64 q0, .string q1, .int .u64 q2, .int .i64 q3, .slice q4 q5 q6],
      fun v _ => v = .bool ve,
      fun v _ => v = .agg #[.int .u64 p0, .string p1, .int .u64 p2, .int .i64 p3, .slice p4 p5 p6],
      fun v _ => v = .agg #[.int .u64 q0, .string q1, .int .u64 q2, .int .i64 q3, .slice q4 q5 q6],
      fun v _ => v = .bool ve,
      fun v _ => v = .bool false,
      fun v _ => v = .bool false] (fun u u' => Below u.heap.size u u')
      [[], [0], [], [2], [1, 3], [4], [5], [5, 6], [5], [5, 8], [5, 7, 9], [5, 10], [11], [12], [12, 13], [12], [12, 15], [12, 14, 16], [12, 17], [18], [19], [19], [19, 20, 21], [19], [19], [19, 23, 24], [19, 22, 25], [19, 26]] []
      (by kernel_rfl) (by kernel_rfl) ?_ (fun _ _ _ _ _ h => h) ((Below.refl _ _).drew) ?_ ?_
  · refine hE_of (fun u u' h f => f.trans (h.mono f.size)) ?_
    repeat' (first | exact mono_nil | refine mono_cons (fun v u u' h => ?_) ?_)
    all_goals first | exact _root_.id
  ·
    refine owed_cons (fun vs u hS hD N => ?_) ?_
    · clear hD
      intro hN
      simp only [fact, layAt, depOn, dstOf, List.map_cons, List.map_nil, List.foldl_cons, List.foldl_nil, List.getD_cons_zero, List.getD_cons_succ, List.getElem?_cons_zero, List.getElem?_cons_succ, Option.bind_some] at hN ⊢
      go_simp
      obtain ⟨a0, a1, a2, a3, a4, b0, b1, b2, b3, b4, c0, c1, c2, _⟩ := EE _ hS
      go_simp
      have hh := hN _ _ rfl (.inl (Below.refl _ _))
      revert hh
      go_simp
    refine owed_cons (fun vs u hS hD N => ?_) ?_
    · have d0 := hD 0 (by decide)
      simp only [fact, layAt, depOn, dstOf, List.map_cons, List.map_nil, List.foldl_cons, List.foldl_nil, List.getD_cons_zero, List.getD_cons_succ, List.getElem?_cons_zero, List.getElem?_cons_succ, Option.bind_some] at d0
      clear hD
      intro hN
      simp only [fact, layAt, depOn, dstOf, List.map_cons, List.map_nil, List.foldl_cons, List.foldl_nil, List.getD_cons_zero, List.getD_cons_succ, List.getElem?_cons_zero, List.getElem?_cons_succ, Option.bind_some, d0] at hN ⊢
      go_simp
      refine (C1 u hS).mono ?_
      rintro e u1 ⟨rfl, f⟩
      have hh := hN _ _ rfl (.inl f)
      revert hh
      go_simp
    refine owed_cons (fun vs u hS hD N => ?_) ?_
    · clear hD
      intro hN
      simp only [fact, layAt, depOn, dstOf, List.map_cons, List.map_nil, List.foldl_cons, List.foldl_nil, List.getD_cons_zero, List.getD_cons_succ, List.getElem?_cons_zero, List.getElem?_cons_succ, Option.bind_some] at hN ⊢
      go_simp
      obtain ⟨a0, a1, a2, a3, a4, b0, b1, b2, b3, b4, c0, c1, c2, _⟩ := EE _ hS
      go_simp
      have hh := hN _ _ rfl (.inl (Below.refl _ _))
      revert hh
      go_simp
    refine owed_cons (fun vs u hS hD N => ?_) ?_
    · have d2 := hD 2 (by decide)
      simp only [fact, layAt, depOn, dstOf, List.map_cons, List.map_nil, List.foldl_cons, List.foldl_nil, List.getD_cons_zero, List.getD_cons_succ, List.getElem?_cons_zero, List.getElem?_cons_succ, Option.bind_some] at d2
      clear hD
      intro hN
      simp only [fact, layAt, depOn, dstOf, List.map_cons, List.map_nil, List.foldl_cons, List.foldl_nil, List.getD_cons_zero, List.getD_cons_succ, List.getElem?_cons_zero, List.getElem?_cons_succ, Option.bind_some, d2] at hN ⊢
      go_simp
      refine (C2 u hS).mono ?_
      rintro e u1 ⟨rfl, f⟩
      have hh := hN _ _ rfl (.inl f)
      revert hh
      go_simp
    refine owed_cons (fun vs u hS hD N => ?_) ?_
    · have d1 := hD 1 (by decide)
      simp only [fact, layAt, depOn, dstOf, List.map_cons, List.map_nil, List.foldl_cons, List.foldl_nil, List.getD_cons_zero, List.getD_cons_succ, List.getElem?_cons_zero, List.getElem?_cons_succ, Option.bind_some] at d1
      have d3 := hD 3 (by decide)
      simp only [fact, layAt, depOn, dstOf, List.map_cons, List.map_nil, List.foldl_cons, List.foldl_nil, List.getD_cons_zero, List.getD_cons_succ, List.getElem?_cons_zero, List.getElem?_cons_succ, Option.bind_some] at d3
      clear hD
      intro hN
      simp only [fact, layAt, depOn, dstOf, List.map_cons, List.map_nil, List.foldl_cons, List.foldl_nil, List.getD_cons_zero, List.getD_cons_succ, List.getElem?_cons_zero, List.getElem?_cons_succ, Option.bind_some, d1, d3] at hN ⊢
      go_simp
      have hh := hN _ _ rfl (.inl (Below.refl _ _))
      revert hh
      go_simp
    refine owed_cons (fun vs u hS hD N => ?_) ?_
    · have d4 := hD 4 (by decide)
      simp only [fact, layAt, depOn, dstOf, List.map_cons, List.map_nil, List.foldl_cons, List.foldl_nil, List.getD_cons_zero, List.getD_cons_succ, List.getElem?_cons_zero, List.getElem?_cons_succ, Option.bind_some] at d4
      clear hD
      intro hN
      simp only [fact, layAt, depOn, dstOf, List.map_cons, List.map_nil, List.foldl_cons, List.foldl_nil, List.getD_cons_zero, List.getD_cons_succ, List.getElem?_cons_zero, List.getElem?_cons_succ, Option.bind_some, d4] at hN ⊢
      go_simp
      have hh := hN _ _ rfl (.inl (Below.refl _ _))
      revert hh
      go_simp
    refine owed_cons (fun vs u hS hD N => ?_) ?_
    · have d5 := hD 5 (by decide)
      simp only [fact, layAt, depOn, dstOf, List.map_cons, List.map_nil, List.foldl_cons, List.foldl_nil, List.getD_cons_zero, List.getD_cons_succ, List.getElem?_cons_zero, List.getElem?_cons_succ, Option.bind_some] at d5
      clear hD
      intro hN
      simp only [fact, layAt, depOn, dstOf, List.map_cons, List.map_nil, List.foldl_cons, List.foldl_nil, List.getD_cons_zero, List.getD_cons_succ, List.getElem?_cons_zero, List.getElem?_cons_succ, Option.bind_some, d5] at hN ⊢
      go_simp
      obtain ⟨a0, a1, a2, a3, a4, b0, b1, b2, b3, b4, c0, c1, c2, _⟩ := EE _ hS
      go_simp
      have hh := hN _ _ rfl (.inl (Below.refl _ _))
      revert hh
      go_simp
    refine owed_cons (fun vs u hS hD N => ?_) ?_
    · have d5 := hD 5 (by decide)
      simp only [fact, layAt, depOn, dstOf, List.map_cons, List.map_nil, List.foldl_cons, List.foldl_nil, List.getD_cons_zero, List.getD_cons_succ, List.getElem?_cons_zero, List.getElem?_cons_succ, Option.bind_some] at d5
      have d6 := hD 6 (by decide)
      simp only [fact, layAt, depOn, dstOf, List.map_cons, List.map_nil, List.foldl_cons, List.foldl_nil, List.getD_cons_zero, List.getD_cons_succ, List.getElem?_cons_zero, List.getElem?_cons_succ, Option.bind_some] at d6
      clear hD
      intro hN
      simp only [fact, layAt, depOn, dstOf, List.map_cons, List.map_nil, List.foldl_cons, List.foldl_nil, List.getD_cons_zero, List.getD_cons_succ, List.getElem?_cons_zero, List.getElem?_cons_succ, Option.bind_some, d5, d6] at hN ⊢
      go_simp
      refine (C3 u hS).mono ?_
      rintro e u1 ⟨rfl, f⟩
      have hh := hN _ _ rfl (.inl f)
      revert hh
      go_simp
    refine owed_cons (fun vs u hS hD N => ?_) ?_
    · have d5 := hD 5 (by decide)
      simp only [fact, layAt, depOn, dstOf, List.map_cons, List.map_nil, List.foldl_cons, List.foldl_nil, List.getD_cons_zero, List.getD_cons_succ, List.getElem?_cons_zero, List.getElem?_cons_succ, Option.bind_some] at d5
      clear hD
      intro hN
      simp only [fact, layAt, depOn, dstOf, List.map_cons, List.map_nil, List.foldl_cons, List.foldl_nil, List.getD_cons_zero, List.getD_cons_succ, List.getElem?_cons_zero, List.getElem?_cons_succ, Option.bind_some, d5] at hN ⊢
      go_simp
      obtain ⟨a0, a1, a2, a3, a4, b0, b1, b2, b3, b4, c0, c1, c2, _⟩ := EE _ hS
      go_simp
      have hh := hN _ _ rfl (.inl (Below.refl _ _))
      revert hh
      go_simp
    refine owed_cons (fun vs u hS hD N => ?_) ?_
    · have d5 := hD 5 (by decide)
      simp only [fact, layAt, depOn, dstOf, List.map_cons, List.map_nil, List.foldl_cons, List.foldl_nil, List.getD_cons_zero, List.getD_cons_succ, List.getElem?_cons_zero, List.getElem?_cons_succ, Option.bind_some] at d5
      have d8 := hD 8 (by decide)
      simp only [fact, layAt, depOn, dstOf, List.map_cons, List.map_nil, List.foldl_cons, List.foldl_nil, List.getD_cons_zero, List.getD_cons_succ, List.getElem?_cons_zero, List.getElem?_cons_succ, Option.bind_some] at d8
      clear hD
      intro hN
      simp only [fact, layAt, depOn, dstOf, List.map_cons, List.map_nil, List.foldl_cons, List.foldl_nil, List.getD_cons_zero, List.getD_cons_succ, List.getElem?_cons_zero, List.getElem?_cons_succ, Option.bind_some, d5, d8] at hN ⊢
      go_simp
      refine (C4 u hS).mono ?_
      rintro e u1 ⟨rfl, f⟩
      have hh := hN _ _ rfl (.inl f)
      revert hh
      go_simp
    refine owed_cons (fun vs u hS hD N => ?_) ?_
    · have d5 := hD 5 (by decide)
      simp only [fact, layAt, depOn, dstOf, List.map_cons, List.map_nil, List.foldl_cons, List.foldl_nil, List.getD_cons_zero, List.getD_cons_succ, List.getElem?_cons_zero, List.getElem?_cons_succ, Option.bind_some] at d5
      have d7 := hD 7 (by decide)
      simp only [fact, layAt, depOn, dstOf, List.map_cons, List.map_nil, List.foldl_cons, List.foldl_nil, List.getD_cons_zero, List.getD_cons_succ, List.getElem?_cons_zero, List.getElem?_cons_succ, Option.bind_some] at d7
      have d9 := hD 9 (by decide)
      simp only [fact, layAt, depOn, dstOf, List.map_cons, List.map_nil, List.foldl_cons, List.foldl_nil, List.getD_cons_zero, List.getD_cons_succ, List.getElem?_cons_zero, List.getElem?_cons_succ, Option.bind_some] at d9
      clear hD
      intro hN
      simp only [fact, layAt, depOn, dstOf, List.map_cons, List.map_nil, List.foldl_cons, List.foldl_nil, List.getD_cons_zero, List.getD_cons_succ, List.getElem?_cons_zero, List.getElem?_cons_succ, Option.bind_some, d5, d7, d9] at hN ⊢
      go_simp
      have hh := hN _ _ rfl (.inl (Below.refl _ _))
      revert hh
      go_simp
    refine owed_cons (fun vs u hS hD N => ?_) ?_
    · have d5 := hD 5 (by decide)
      simp only [fact, layAt, depOn, dstOf, List.map_cons, List.map_nil, List.foldl_cons, List.foldl_nil, List.getD_cons_zero, List.getD_cons_succ, List.getElem?_cons_zero, List.getElem?_cons_succ, Option.bind_some] at d5
      have d10 := hD 10 (by decide)
      simp only [fact, layAt, depOn, dstOf, List.map_cons, List.map_nil, List.foldl_cons, List.foldl_nil, List.getD_cons_zero, List.getD_cons_succ, List.getElem?_cons_zero, List.getElem?_cons_succ, Option.bind_some] at d10
      clear hD
      intro hN
      simp only [fact, layAt, depOn, dstOf, List.map_cons, List.map_nil, List.foldl_cons, List.foldl_nil, List.getD_cons_zero, List.getD_cons_succ, List.getElem?_cons_zero, List.getElem?_cons_succ, Option.bind_some, d5, d10] at hN ⊢
      go_simp
      have hh := hN _ _ rfl (.inl (Below.refl _ _))
      revert hh
      go_simp
    refine owed_cons (fun vs u hS hD N => ?_) ?_
    · have d11 := hD 11 (by decide)
      simp only [fact, layAt, depOn, dstOf, List.map_cons, List.map_nil, List.foldl_cons, List.foldl_nil, List.getD_cons_zero, List.getD_cons_succ, List.getElem?_cons_zero, List.getElem?_cons_succ, Option.bind_some] at d11
      clear hD
      intro hN
      simp only [fact, layAt, depOn, dstOf, List.map_cons, List.map_nil, List.foldl_cons, List.foldl_nil, List.getD_cons_zero, List.getD_cons_succ, List.getElem?_cons_zero, List.getElem?_cons_succ, Option.bind_some, d11] at hN ⊢
      go_simp
      have hh := hN _ _ rfl (.inl (Below.refl _ _))
      revert hh
      go_simp
    refine owed_cons (fun vs u hS hD N => ?_) ?_
    · have d12 := hD 12 (by decide)
      simp only [fact, layAt, depOn, dstOf, List.map_cons, List.map_nil, List.foldl_cons, List.foldl_nil, List.getD_cons_zero, List.getD_cons_succ, List.getElem?_cons_zero, List.getElem?_cons_succ, Option.bind_some] at d12
      clear hD
      intro hN
      simp only [fact, layAt, depOn, dstOf, List.map_cons, List.map_nil, List.foldl_cons, List.foldl_nil, List.getD_cons_zero, List.getD_cons_succ, List.getElem?_cons_zero, List.getElem?_cons_succ, Option.bind_some, d12] at hN ⊢
      go_simp
      obtain ⟨a0, a1, a2, a3, a4, b0, b1, b2, b3, b4, c0, c1, c2, _⟩ := EE _ hS
      go_simp
      have hh := hN _ _ rfl (.inl (Below.refl _ _))
      revert hh
      go_simp
    refine owed_cons (fun vs u hS hD N => ?_) ?_
    · have d12 := hD 12 (by decide)
      simp only [fact, layAt, depOn, dstOf, List.map_cons, List.map_nil, List.foldl_cons, List.foldl_nil, List.getD_cons_zero, List.getD_cons_succ, List.getElem?_cons_zero, List.getElem?_cons_succ, Option.bind_some] at d12
      have d13 := hD 13 (by decide)
      simp only [fact, layAt, depOn, dstOf, List.map_cons, List.map_nil, List.foldl_cons, List.foldl_nil, List.getD_cons_zero, List.getD_cons_succ, List.getElem?_cons_zero, List.getElem?_cons_succ, Option.bind_some] at d13
      clear hD
      intro hN
      simp only [fact, layAt, depOn, dstOf, List.map_cons, List.map_nil, List.foldl_cons, List.foldl_nil, List.getD_cons_zero, List.getD_cons_succ, List.getElem?_cons_zero, List.getElem?_cons_succ, Option.bind_some, d12, d13] at hN ⊢
      go_simp
      refine (C5 u hS).mono ?_
      rintro e u1 ⟨rfl, f⟩
      have hh := hN _ _ rfl (.inl f)
      revert hh
      go_simp
    refine owed_cons (fun vs u hS hD N => ?_) ?_
    · have d12 := hD 12 (by decide)
      simp only [fact, layAt, depOn, dstOf, List.map_cons, List.map_nil, List.foldl_cons, List.foldl_nil, List.getD_cons_zero, List.getD_cons_succ, List.getElem?_cons_zero, List.getElem?_cons_succ, Option.bind_some] at d12
      clear hD
      intro hN
      simp only [fact, layAt, depOn, dstOf, List.map_cons, List.map_nil, List.foldl_cons, List.foldl_nil, List.getD_cons_zero, List.getD_cons_succ, List.getElem?_cons_zero, List.getElem?_cons_succ, Option.bind_some, d12] at hN ⊢
      go_simp
      obtain ⟨a0, a1, a2, a3, a4, b0, b1, b2, b3, b4, c0, c1, c2, _⟩ := EE _ hS
      go_simp
      have hh := hN _ _ rfl (.inl (Below.refl _ _))
      revert hh
      go_simp
    refine owed_cons (fun vs u hS hD N => ?_) ?_
    · have d12 := hD 12 (by decide)
      simp only [fact, layAt, depOn, dstOf, List.map_cons, List.map_nil, List.foldl_cons, List.foldl_nil, List.getD_cons_zero, List.getD_cons_succ, List.getElem?_cons_zero, List.getElem?_cons_succ, Option.bind_some] at d12
      have d15 := hD 15 (by decide)
      simp only [fact, layAt, depOn, dstOf, List.map_cons, List.map_nil, List.foldl_cons, List.foldl_nil, List.getD_cons_zero, List.getD_cons_succ, List.getElem?_cons_zero, List.getElem?_cons_succ, Option.bind_some] at d15
      clear hD
      intro hN
      simp only [fact, layAt, depOn, dstOf, List.map_cons, List.map_nil, List.foldl_cons, List.foldl_nil, List.getD_cons_zero, List.getD_cons_succ, List.getElem?_cons_zero, List.getElem?_cons_succ, Option.bind_some, d12, d15] at hN ⊢
      go_simp
      refine (C6 u hS).mono ?_
      rintro e u1 ⟨rfl, f⟩
      have hh := hN _ _ rfl (.inl f)
      revert hh
      go_simp
    refine owed_cons (fun vs u hS hD N => ?_) ?_
    · have d12 := hD 12 (by decide)
      simp only [fact, layAt, depOn, dstOf, List.map_cons, List.map_nil, List.foldl_cons, List.foldl_nil, List.getD_cons_zero, List.getD_cons_succ, List.getElem?_cons_zero, List.getElem?_cons_succ, Option.bind_some] at d12
      have d14 := hD 14 (by decide)
      simp only [fact, layAt, depOn, dstOf, List.map_cons, List.map_nil, List.foldl_cons, List.foldl_nil, List.getD_cons_zero, List.getD_cons_succ, List.getElem?_cons_zero, List.getElem?_cons_succ, Option.bind_some] at d14
      have d16 := hD 16 (by decide)
      simp only [fact, layAt, depOn, dstOf, List.map_cons, List.map_nil, List.foldl_cons, List.foldl_nil, List.getD_cons_zero, List.getD_cons_succ, List.getElem?_cons_zero, List.getElem?_cons_succ, Option.bind_some] at d16
      clear hD
      intro hN
      simp only [fact, layAt, depOn, dstOf, List.map_cons, List.map_nil, List.foldl_cons, List.foldl_nil, List.getD_cons_zero, List.getD_cons_succ, List.getElem?_cons_zero, List.getElem?_cons_succ, Option.bind_some, d12, d14, d16] at hN ⊢
      go_simp
      have hh := hN _ _ rfl (.inl (Below.refl _ _))
      revert hh
      go_simp
    refine owed_cons (fun vs u hS hD N => ?_) ?_
    · have d12 := hD 12 (by decide)
      simp only [fact, layAt, depOn, dstOf, List.map_cons, List.map_nil, List.foldl_cons, List.foldl_nil, List.getD_cons_zero, List.getD_cons_succ, List.getElem?_cons_zero, List.getElem?_cons_succ, Option.bind_some] at d12
      have d17 := hD 17 (by decide)
      simp only [fact, layAt, depOn, dstOf, List.map_cons, List.map_nil, List.foldl_cons, List.foldl_nil, List.getD_cons_zero, List.getD_cons_succ, List.getElem?_cons_zero, List.getElem?_cons_succ, Option.bind_some] at d17
      clear hD
      intro hN
      simp only [fact, layAt, depOn, dstOf, List.map_cons, List.map_nil, List.foldl_cons, List.foldl_nil, List.getD_cons_zero, List.getD_cons_succ, List.getElem?_cons_zero, List.getElem?_cons_succ, Option.bind_some, d12, d17] at hN ⊢
      go_simp
      have hh := hN _ _ rfl (.inl (Below.refl _ _))
      revert hh
      go_simp
    refine owed_cons (fun vs u hS hD N => ?_) ?_
    · have d18 := hD 18 (by decide)
      simp only [fact, layAt, depOn, dstOf, List.map_cons, List.map_nil, List.foldl_cons, List.foldl_nil, List.getD_cons_zero, List.getD_cons_succ, List.getElem?_cons_zero, List.getElem?_cons_succ, Option.bind_some] at d18
      clear hD
      intro hN
      simp only [fact, layAt, depOn, dstOf, List.map_cons, List.map_nil, List.foldl_cons, List.foldl_nil, List.getD_cons_zero, List.getD_cons_succ, List.getElem?_cons_zero, List.getElem?_cons_succ, Option.bind_some, d18] at hN ⊢
      go_simp
      have hh := hN _ _ rfl (.inl (Below.refl _ _))
      revert hh
      go_simp
    refine owed_cons (fun vs u hS hD N => ?_) ?_
    · have d19 := hD 19 (by decide)
      simp only [fact, layAt, depOn, dstOf, List.map_cons, List.map_nil, List.foldl_cons, List.foldl_nil, List.getD_cons_zero, List.getD_cons_succ, List.getElem?_cons_zero, List.getElem?_cons_succ, Option.bind_some] at d19
      clear hD
      intro hN
      simp only [fact, layAt, depOn, dstOf, List.map_cons, List.map_nil, List.foldl_cons, List.foldl_nil, List.getD_cons_zero, List.getD_cons_succ, List.getElem?_cons_zero, List.getElem?_cons_succ, Option.bind_some, d19] at hN ⊢
      go_simp
      obtain ⟨a0, a1, a2, a3, a4, b0, b1, b2, b3, b4, c0, c1, c2, _⟩ := EE _ hS
      go_simp
      have hh := hN _ _ rfl (.inl (Below.refl _ _))
      revert hh
      go_simp
    refine owed_cons (fun vs u hS hD N => ?_) ?_
    · have d19 := hD 19 (by decide)
      simp only [fact, layAt, depOn, dstOf, List.map_cons, List.map_nil, List.foldl_cons, List.foldl_nil, List.getD_cons_zero, List.getD_cons_succ, List.getElem?_cons_zero, List.getElem?_cons_succ, Option.bind_some] at d19
      clear hD
      intro hN
      simp only [fact, layAt, depOn, dstOf, List.map_cons, List.map_nil, List.foldl_cons, List.foldl_nil, List.getD_cons_zero, List.getD_cons_succ, List.getElem?_cons_zero, List.getElem?_cons_succ, Option.bind_some, d19] at hN ⊢
      go_simp
      obtain ⟨a0, a1, a2, a3, a4, b0, b1, b2, b3, b4, c0, c1, c2, _⟩ := EE _ hS
      go_simp
      have hh := hN _ _ rfl (.inl (Below.refl _ _))
      revert hh
      go_simp
    refine owed_cons (fun vs u hS hD N => ?_) ?_
    · have d19 := hD 19 (by decide)
      simp only [fact, layAt, depOn, dstOf, List.map_cons, List.map_nil, List.foldl_cons, List.foldl_nil, List.getD_cons_zero, List.getD_cons_succ, List.getElem?_cons_zero, List.getElem?_cons_succ, Option.bind_some] at d19
      have d20 := hD 20 (by decide)
      simp only [fact, layAt, depOn, dstOf, List.map_cons, List.map_nil, List.foldl_cons, List.foldl_nil, List.getD_cons_zero, List.getD_cons_succ, List.getElem?_cons_zero, List.getElem?_cons_succ, Option.bind_some] at d20
      have d21 := hD 21 (by decide)
      simp only [fact, layAt, depOn, dstOf, List.map_cons, List.map_nil, List.foldl_cons, List.foldl_nil, List.getD_cons_zero, List.getD_cons_succ, List.getElem?_cons_zero, List.getElem?_cons_succ, Option.bind_some] at d21
      clear hD
      intro hN
      simp only [fact, layAt, depOn, dstOf, List.map_cons, List.map_nil, List.foldl_cons, List.foldl_nil, List.getD_cons_zero, List.getD_cons_succ, List.getElem?_cons_zero, List.getElem?_cons_succ, Option.bind_some, d19, d20, d21] at hN ⊢
      go_simp
      refine (C7 u hS).mono ?_
      rintro e u1 ⟨rfl, f⟩
      have hh := hN _ _ rfl (.inl f)
      revert hh
      go_simp
    refine owed_cons (fun vs u hS hD N => ?_) ?_
    · have d19 := hD 19 (by decide)
      simp only [fact, layAt, depOn, dstOf, List.map_cons, List.map_nil, List.foldl_cons, List.foldl_nil, List.getD_cons_zero, List.getD_cons_succ, List.getElem?_cons_zero, List.getElem?_cons_succ, Option.bind_some] at d19
      clear hD
      intro hN
      simp only [fact, layAt, depOn, dstOf, List.map_cons, List.map_nil, List.foldl_cons, List.foldl_nil, List.getD_cons_zero, List.getD_cons_succ, List.getElem?_cons_zero, List.getElem?_cons_succ, Option.bind_some, d19] at hN ⊢
      go_simp
      obtain ⟨a0, a1, a2, a3, a4, b0, b1, b2, b3, b4, c0, c1, c2, _⟩ := EE _ hS
      go_simp
      have hh := hN _ _ rfl (.inl (Below.refl _ _))
      revert hh
      go_simp
    refine owed_cons (fun vs u hS hD N => ?_) ?_
    · have d19 := hD 19 (by decide)
      simp only [fact, layAt, depOn, dstOf, List.map_cons, List.map_nil, List.foldl_cons, List.foldl_nil, List.getD_cons_zero, List.getD_cons_succ, List.getElem?_cons_zero, List.getElem?_cons_succ, Option.bind_some] at d19
      clear hD
      intro hN
      simp only [fact, layAt, depOn, dstOf, List.map_cons, List.map_nil, List.foldl_cons, List.foldl_nil, List.getD_cons_zero, List.getD_cons_succ, List.getElem?_cons_zero, List.getElem?_cons_succ, Option.bind_some, d19] at hN ⊢
      go_simp
      obtain ⟨a0, a1, a2, a3, a4, b0, b1, b2, b3, b4, c0, c1, c2, _⟩ := EE _ hS
      go_simp
      have hh := hN _ _ rfl (.inl (Below.refl _ _))
      revert hh
      go_simp
    refine owed_cons (fun vs u hS hD N => ?_) ?_
    · have d19 := hD 19 (by decide)
      simp only [fact, layAt, depOn, dstOf, List.map_cons, List.map_nil, List.foldl_cons, List.foldl_nil, List.getD_cons_zero, List.getD_cons_succ, List.getElem?_cons_zero, List.getElem?_cons_succ, Option.bind_some] at d19
      have d23 := hD 23 (by decide)
      simp only [fact, layAt, depOn, dstOf, List.map_cons, List.map_nil, List.foldl_cons, List.foldl_nil, List.getD_cons_zero, List.getD_cons_succ, List.getElem?_cons_zero, List.getElem?_cons_succ, Option.bind_some] at d23
      have d24 := hD 24 (by decide)
      simp only [fact, layAt, depOn, dstOf, List.map_cons, List.map_nil, List.foldl_cons, List.foldl_nil, List.getD_cons_zero, List.getD_cons_succ, List.getElem?_cons_zero, List.getElem?_cons_succ, Option.bind_some] at d24
      clear hD
      intro hN
      simp only [fact, layAt, depOn, dstOf, List.map_cons, List.map_nil, List.foldl_cons, List.foldl_nil, List.getD_cons_zero, List.getD_cons_succ, List.getElem?_cons_zero, List.getElem?_cons_succ, Option.bind_some, d19, d23, d24] at hN ⊢
      go_simp
      refine (C8 u hS).mono ?_
      rintro e u1 ⟨rfl, f⟩
      have hh := hN _ _ rfl (.inl f)
      revert hh
      go_simp
    refine owed_cons (fun vs u hS hD N => ?_) ?_
    · have d19 := hD 19 (by decide)
      simp only [fact, layAt, depOn, dstOf, List.map_cons, List.map_nil, List.foldl_cons, List.foldl_nil, List.getD_cons_zero, List.getD_cons_succ, List.getElem?_cons_zero, List.getElem?_cons_succ, Option.bind_some] at d19
      have d22 := hD 22 (by decide)
      simp only [fact, layAt, depOn, dstOf, List.map_cons, List.map_nil, List.foldl_cons, List.foldl_nil, List.getD_cons_zero, List.getD_cons_succ, List.getElem?_cons_zero, List.getElem?_cons_succ, Option.bind_some] at d22
      have d25 := hD 25 (by decide)
      simp only [fact, layAt, depOn, dstOf, List.map_cons, List.map_nil, List.foldl_cons, List.foldl_nil, List.getD_cons_zero, List.getD_cons_succ, List.getElem?_cons_zero, List.getElem?_cons_succ, Option.bind_some] at d25
      clear hD
      intro hN
      simp only [fact, layAt, depOn, dstOf, List.map_cons, List.map_nil, List.foldl_cons, List.foldl_nil, List.getD_cons_zero, List.getD_cons_succ, List.getElem?_cons_zero, List.getElem?_cons_succ, Option.bind_some, d19, d22, d25] at hN ⊢
      go_simp
      have hh := hN _ _ rfl (.inl (Below.refl _ _))
      revert hh
      go_simp
    refine owed_cons (fun vs u hS hD N => ?_) ?_
    · have d19 := hD 19 (by decide)
      simp only [fact, layAt, depOn, dstOf, List.map_cons, List.map_nil, List.foldl_cons, List.foldl_nil, List.getD_cons_zero, List.getD_cons_succ, List.getElem?_cons_zero, List.getElem?_cons_succ, Option.bind_some] at d19
      have d26 := hD 26 (by decide)
      simp only [fact, layAt, depOn, dstOf, List.map_cons, List.map_nil, List.foldl_cons, List.foldl_nil, List.getD_cons_zero, List.getD_cons_succ, List.getElem?_cons_zero, List.getElem?_cons_succ, Option.bind_some] at d26
      clear hD
      intro hN
      simp only [fact, layAt, depOn, dstOf, List.map_cons, List.map_nil, List.foldl_cons, List.foldl_nil, List.getD_cons_zero, List.getD_cons_succ, List.getElem?_cons_zero, List.getElem?_cons_succ, Option.bind_some, d19, d26] at hN ⊢
      go_simp
      have hh := hN _ _ rfl (.inl (Below.refl _ _))
      revert hh
      go_simp
    exact owed_nil
  ·
    intro vs u hS hF
    have d27 := hF 27 (by decide) (by decide)
    simp only [fact, layAt, depOn, dstOf, List.map_cons, List.map_nil, List.foldl_cons, List.foldl_nil, List.getD_cons_zero, List.getD_cons_succ, List.getElem?_cons_zero, List.getElem?_cons_succ, Option.bind_some] at d27
    clear hF
    simp only [List.length_cons, List.length_nil, Nat.reduceAdd, List.range, List.range.loop, fact, layAt, depOn, dstOf, List.map_cons, List.map_nil, List.foldl_cons, List.foldl_nil, List.getD_cons_zero, List.getD_cons_succ, List.getElem?_cons_zero, List.getElem?_cons_succ, Option.bind_some, d27]
    go_simp
    replace f1 := f1.trans (hS.mono f1.size)
    replace ka := ka.below hS ka.lt
    clear hS C1 C2 C3 C4 C5 C6 C7 C8 EE kb kc nm nr ns ne HQ HR
    have a0 := ka.cell 0; have a1 := ka.cell 1; have a2 := ka.cell 2; have a3 := ka.cell 3; have a4 := ka.cell 4
    go_wp2_with fail
    refine (copy12_any p _ u (HP.out u f1) okp).mono ?_
    rintro e w5 ⟨cs5, rfl, hd, f2⟩
    have hw5 : PoP w5 w5.heap.size cs5 p := PoP.mn _ _ _ _ _ _ (Nat.le_refl _) (Sub.out _ _ _ _) hd
    clear hd
    obtain ⟨x0, x1, x2, x3, x4, x5, x6, rfl⟩ := hw5.form'
    clear a0 a1 a2 a3 a4
    have lka := ka.lt
    replace ka := ka.below f2 lka
    clear lka
    replace f1 := f1.trans (f2.mono f1.size)
    clear f2
    go_upto_region 6 with (first | (refine store_blk (cs := [.int .u64 0, .string ⟨#[]⟩, .int .u64 0, .int .i64 0, .slice none 0 0]) (Blk.newAt rfl 38 #[.int .u64 0, .string ⟨#[]⟩, .int .u64 0, .int .i64 0, .slice none 0 0]) rfl 38 (.tmp 7) (.tmp 55) rfl rfl (us := [.int .u64 x0, .string x1, .int .u64 x2, .int .i64 x3, .slice x4 x5 x6]) rfl HI.out rfl rfl ?_; intro w6 kw hg; have f3 : Below w5.heap.size w5 w6 := ((Below.refl _ w5).alloc (Nat.le_refl _) _).grown hg (by simp) (by simp)))
    have lka := ka.lt
    replace ka := ka.below f3 lka
    clear lka
    replace hw5 := hw5.mono f3.size f3
    replace f1 := f1.trans (f3.mono f1.size)
    clear hg f3
    generalize w5.heap.size = gw at *
    have a0 := ka.cell 0; have a1 := ka.cell 1; have a2 := ka.cell 2; have a3 := ka.cell 3; have a4 := ka.cell 4
    go_wp2_with fail
    refine (own12_any p _ w6 (HP.out w6 f1) okp).mono ?_
    rintro e w7 ⟨E1, m1, e1, rfl, hO, f2⟩
    have hsh : ShR 3 (ERu w6.heap.size) w7 w6.heap.size (.slice E1 m1 e1) := by
      obtain ⟨v, hv, hv2⟩ := hO
      injection hv with _ hv
      injection hv with _ hv
      injection hv with _ hv
      injection hv with _ hv
      injection hv with hv _
      rw [hv]
      exact ShR.rules hv2 okp.2.2.2.2.1 okp.2.2.2.2.2
    have hO7 : PoP w7 w7.heap.size [.int .u64 (p.id : Int), .string (strB p.ns), .int .u64 (p.service : Int), .int .i64 p.deny, .slice E1 m1 e1] p := PoP.mn _ _ _ _ _ _ (Nat.le_refl _) (Sub.out _ _ _ _) hO
    clear hO
    have FW := f2
    have lka := ka.lt
    have lkw := kw.lt
    clear a0 a1 a2 a3 a4
    have ka7 := ka.below f2 lka
    have kw7 := kw.below f2 lkw
    have f17 := f1.trans (f2.mono f1.size)
    go_upto_region 7 with (first | (refine store_blk (cs := [.int .u64 0, .string ⟨#[]⟩, .int .u64 0, .int .i64 0, .slice none 0 0]) (Blk.newAt rfl 38 #[.int .u64 0, .string ⟨#[]⟩, .int .u64 0, .int .i64 0, .slice none 0 0]) rfl 38 (.tmp 8) (.tmp 57) rfl rfl (us := [.int .u64 (p.id : Int), .string (strB p.ns), .int .u64 (p.service : Int), .int .i64 p.deny, .slice E1 m1 e1]) rfl HI.out rfl rfl ?_; intro w8 ko hg; have f3 : Below w7.heap.size w7 w8 := ((Below.refl _ w7).alloc (Nat.le_refl _) _).grown hg (by simp) (by simp)))
    have FW8 : Below w6.heap.size w6 w8 := FW.trans (f3.mono FW.size)
    have hO8 := hO7.mono f3.size f3
    have f18 := f17.trans (f3.mono f17.size)
    have hsh8 : ShR 3 (ERu w6.heap.size) w8 w6.heap.size (.slice E1 m1 e1) := by
      have kd7 := Kd.of_below (lo := w6.heap.size) f3 FW.size
      refine hsh.kd kd7 fun b o h => ?_
      exact ERu.kd kd7 h
    have lgo : w6.heap.size ≤ w7.heap.size := FW.size
    clear hg f3 hO7 hsh FW f17 ka7 kw7 f2
    generalize w7.heap.size = go at *
    have ka8 := ka.below FW8 lka
    have B1 := same12_any p p _ _ w8 hO8 (HP.out w8 f18) okp okp
    have B2 := fun (u : World) (hu : Below w8.heap.size w8 u) => psame12_any p p _ _ u (hO8.mono hu.size hu) (HP.out u (f18.trans (hu.mono f18.size))) okp okp
    rw [decide_eq_true (rfl : p = p)] at B1 B2
    have a0 := ka8.cell 0; have a1 := ka8.cell 1; have a2 := ka8.cell 2; have a3 := ka8.cell 3; have a4 := ka8.cell 4
    have o0 := ko.cell 0; have o1 := ko.cell 1; have o2 := ko.cell 2; have o3 := ko.cell 3; have o4 := ko.cell 4
    go_wp2_with fail
    refine B1.mono ?_
    rintro e w9 ⟨rfl, f2⟩
    clear a0 a1 a2 a3 a4 o0 o1 o2 o3 o4
    have lko := ko.lt
    have lka8 := ka8.lt
    have ka9 := ka8.below f2 lka8
    have ko9 := ko.below f2 lko
    have a0 := ka9.cell 0; have a1 := ka9.cell 1; have a2 := ka9.cell 2; have a3 := ka9.cell 3; have a4 := ka9.cell 4
    have o0 := ko9.cell 0; have o1 := ko9.cell 1; have o2 := ko9.cell 2; have o3 := ko9.cell 3; have o4 := ko9.cell 4
    go_wp2_with fail
    refine (B2 w9 f2).mono ?_
    rintro e w10 ⟨rfl, f3⟩
    have f4 := f2.trans (f3.mono f2.size)
    clear a0 a1 a2 a3 a4 o0 o1 o2 o3 o4
    have FWx : Below w6.heap.size w6 w10 := FW8.trans (f4.mono FW8.size)
    have kdx := Kd.of_below (lo := w6.heap.size) f4 FW8.size
    have hsx : ShR 3 (ERu w6.heap.size) w10 w6.heap.size (.slice E1 m1 e1) := hsh8.kd kdx fun b o h => ERu.kd kdx h
    have c8 : w10.cell? ⟨go, 4, none⟩ = some (.slice E1 m1 e1) := (ko.below f4 lko).cell 4
    have HW := Lib.hid (fun (u : World) (hu : Below w6.heap.size w10 u) => (hw5.mono (Nat.le_trans (Nat.le_refl _) (FWx.trans hu).size) (FWx.trans hu) : PoP u u.heap.size [.int .u64 x0, .string x1, .int .u64 x2, .int .i64 x3, .slice x4 x5 x6] p))
    have HA := Lib.hid (fun (u : World) (hu : Below w6.heap.size w10 u) => (ka.below (FWx.trans hu) lka))
    have HB := Lib.hid (fun (u : World) (hu : Below w6.heap.size w10 u) => (kw.below (FWx.trans hu) lkw))
    have hF := fun (u : World) (hu : Below w6.heap.size w10 u) => f1.trans ((FWx.trans hu).mono f1.size)
    have HF := Lib.hid hF
    generalize w6.heap.size = lo at *
    clear hF hw5 ka kw f1 f18 FW8 hO8 hsh8 ka8 B1 B2 ko lko lka8 ka9 ko9 f2 f3 f4 FWx kdx lka lkw okq lgo
    obtain ⟨_, _, _, hEe, hm1, hEl⟩ := hsx
    injection hEe with hE1 hE2 hE3
    subst hE1 hE2 hE3
    have HEL := Lib.hid hEl
    clear hEl
    go_wp2_with fail
    go_loopw [9] (fun vi wr => ∃ i : Nat, vi = .int .i64 i ∧ i ≤ m1 ∧ Kd lo (i * 1000001) w10 wr) (fun vi _ => m1 - (intOf vi).toNat)
    case atStart => exact ⟨0, rfl, Nat.zero_le _, (Kd.refl _ _).le (Nat.zero_le _)⟩
    case round =>
      obtain ⟨i, rfl, hki, kd⟩ := hrel
      have e8 := kd.slice c8
      by_cases hlti : i < m1
      · have dlti : decide ((i : Int) < (m1 : Int)) = true := by simp; omega
        have b1i : (0 : Int) ≤ (i : Int) := by omega
        have b2i : (i : Int) < (m1 : Int) := by omega
        obtain ⟨b1, off1, hA1, hl1, hs1, hz1, he1⟩ := HEL.out (by omega)
        obtain ⟨v1, v2, v3, g1, g2, g3, s1, s2, s3⟩ := he1 i hlti
        obtain ⟨A1, n1, c1, rfl, hn1, k2⟩ := s1
        obtain ⟨A2, n2, c2, rfl, hn2, k3⟩ := s2
        obtain ⟨A3, n3, c3, rfl, hn3, k4⟩ := s3
        have H2 := Lib.hid k2; have H3 := Lib.hid k3; have H4w := Lib.hid k4
        subst hA1
        clear k2 k3 k4 e8
        obtain ⟨MI, hMI⟩ : ∃ x, i * 1000001 = x := ⟨_, rfl⟩
        rw [hMI] at kd
        have HMI := Lib.hid hMI
        clear hMI
        have e8 := kd.slice c8
        go_wp2_with fail
        clear e8
        go_loopw [10] (fun vi wr => ∃ k : Nat, vi = .int .i64 k ∧ k ≤ n1 ∧ Kd lo (MI) w10 wr) (fun vi _ => n1 - (intOf vi).toNat)
        case atStart => exact ⟨0, rfl, Nat.zero_le _, kd⟩
        case round =>
          clear kd
          obtain ⟨k, rfl, hkk, kd⟩ := hrel
          have e8 := kd.slice c8
          have yg1 := kd.slice g1
          by_cases hltk : k < n1
          · have dltk : decide ((k : Int) < (n1 : Int)) = true := by simp; omega
            have b1k : (0 : Int) ≤ (k : Int) := by omega
            have b2k : (k : Int) < (n1 : Int) := by omega
            obtain ⟨b2, off2, hA2, hl2, hs2, hz2, he2⟩ := H2.out (by omega)
            obtain ⟨v1, v2, v3, h1, h2, h3, s1, s2, s3⟩ := he2 k hltk
            obtain ⟨A4, n4, c4, rfl, hn4, h4⟩ := s1
            obtain ⟨A5, n5, c5, rfl, hn5, h5⟩ := s2
            obtain ⟨A6, n6, c6, rfl, hn6, h6⟩ := s3
            have S4 : ShR 2 ETm w10 lo (.slice A4 n4 c4) := ⟨_, _, _, rfl, hn4, h4⟩
            have S5 : ShR 2 ETm w10 lo (.slice A5 n5 c5) := ⟨_, _, _, rfl, hn5, h5⟩
            have HS4 := Lib.hid S4; have HS5 := Lib.hid S5; have H6 := Lib.hid h6
            subst hA2
            clear h4 h5 h6 S4 S5 e8 yg1
            have e8 := kd.slice c8
            have yg1 := kd.slice g1
            have yh1 := kd.slice h1
            go_wp2_with fail
            refine (turn_any A4 n4 c4 lo _ (ShR.kd HS4.out kd fun b o h => ETm.kd kd h)).mono ?_
            rintro e v1 ⟨rfl, kt⟩
            replace kd : Kd lo (MI) w10 v1 := kd.trans0 kt
            clear kt e8 yg1 yh1
            have e8 := kd.slice c8
            have yg1 := kd.slice g1
            have yh2 := kd.slice h2
            go_wp2_with fail
            refine (turn_any A5 n5 c5 lo _ (ShR.kd HS5.out kd fun b o h => ETm.kd kd h)).mono ?_
            rintro e v2 ⟨rfl, kt⟩
            replace kd : Kd lo (MI) w10 v2 := kd.trans0 kt
            clear kt e8 yg1 yh2
            go_wp2_with fail
            go_loopw [11] (fun vi wr => ∃ j : Nat, vi = .int .i64 j ∧ j ≤ n6 ∧ Kd lo (MI) w10 wr) (fun vi _ => n6 - (intOf vi).toNat)
            case atStart => exact ⟨0, rfl, Nat.zero_le _, kd⟩
            case round =>
              clear kd
              obtain ⟨j, rfl, hkj, kd⟩ := hrel
              have e8 := kd.slice c8
              have yg1 := kd.slice g1
              have yh3 := kd.slice h3
              by_cases hltj : j < n6
              · have dltj : decide ((j : Int) < (n6 : Int)) = true := by simp; omega
                have b1j : (0 : Int) ≤ (j : Int) := by omega
                have b2j : (j : Int) < (n6 : Int) := by omega
                obtain ⟨b6, off6, rfl, hl6, hs6, hz6, he6⟩ := H6.out (by omega)
                obtain ⟨ia, ib, i0, i1⟩ := ENt.kd kd (he6 j hltj)
                have z0 := kd.free b6 hs6 hz6 (off6 + j * 2 + 1)
                obtain ⟨iy, hiy⟩ : ∃ y, wrap64 (ib + 1) = y := ⟨_, rfl⟩
                have kd2 : Kd lo (MI) w10 (wr.setCell ⟨b6, off6 + j * 2 + 1, none⟩ (.int .i64 iy)) := kd.trans0 (Kd.set i1 (.inr (.inl ⟨ib, iy, rfl, rfl⟩) : SameK 0 _ _) hl6)
                have HIY := Lib.hid hiy
                clear hiy
                go_wp2_with fail
                go_roundw
                case rel =>
                  refine ⟨j + 1, by go_num, by omega, ?_⟩
                  have h9 := HIY.out
                  simp only [wrap64] at h9
                  first | exact kd2 | (rw [HIY.out]; exact kd2) | (simp only [wrap64, h9]; exact kd2)
                case measure => simp [intOf]; omega
              · have dltj : decide ((j : Int) < (n6 : Int)) = false := by simp; omega
                obtain rfl : j = n6 := by omega
                go_wp2_with fail
                go_roundw
                case rel => exact ⟨k + 1, by go_num, by omega, kd⟩
                case measure => simp [intOf]; omega
          · have dltk : decide ((k : Int) < (n1 : Int)) = false := by simp; omega
            obtain rfl : k = n1 := by omega
            go_wp2_with fail
            clear e8 yg1
            go_loopw [12] (fun vi wr => ∃ k : Nat, vi = .int .i64 k ∧ k ≤ n2 ∧ Kd lo (MI) w10 wr) (fun vi _ => n2 - (intOf vi).toNat)
            case atStart => exact ⟨0, rfl, Nat.zero_le _, kd⟩
            case round =>
              clear kd
              obtain ⟨k, rfl, hkk, kd⟩ := hrel
              have e8 := kd.slice c8
              have yg2 := kd.slice g2
              by_cases hltk : k < n2
              · have dltk : decide ((k : Int) < (n2 : Int)) = true := by simp; omega
                have b1k : (0 : Int) ≤ (k : Int) := by omega
                have b2k : (k : Int) < (n2 : Int) := by omega
                obtain ⟨b2, off2, hA2, hl2, hs2, hz2, he2⟩ := H3.out (by omega)
                obtain ⟨v1, v2, v3, v4, h1, h2, h3, h4, s1, s2, s3, s4⟩ := he2 k hltk
                obtain ⟨A4, n4, c4, rfl, hn4, h4s⟩ := s1
                obtain ⟨A5, n5, c5, rfl, hn5, h5s⟩ := s2
                obtain ⟨A6, n6, c6, rfl, hn6, h6s⟩ := s3
                obtain ⟨A7, n7, c7, rfl, hn7, h7s⟩ := s4
                have S5 : ShR 2 ETm w10 lo (.slice A5 n5 c5) := ⟨_, _, _, rfl, hn5, h5s⟩
                have S6 : ShR 2 ETm w10 lo (.slice A6 n6 c6) := ⟨_, _, _, rfl, hn6, h6s⟩
                have S7 : ShR 2 ETm w10 lo (.slice A7 n7 c7) := ⟨_, _, _, rfl, hn7, h7s⟩
                have HS5 := Lib.hid S5; have HS6 := Lib.hid S6; have HS7 := Lib.hid S7; have H4 := Lib.hid h4s
                subst hA2
                clear h4s h5s h6s h7s S5 S6 S7 e8 yg2
                have e8 := kd.slice c8
                have yg2 := kd.slice g2
                have yh2 := kd.slice h2
                go_wp2_with fail
                refine (turn_any A5 n5 c5 lo _ (ShR.kd HS5.out kd fun b o h => ETm.kd kd h)).mono ?_
                rintro e v1 ⟨rfl, kt⟩
                replace kd : Kd lo (MI) w10 v1 := kd.trans0 kt
                clear kt e8 yg2 yh2
                have e8 := kd.slice c8
                have yg2 := kd.slice g2
                have yh3 := kd.slice h3
                go_wp2_with fail
                refine (turn_any A6 n6 c6 lo _ (ShR.kd HS6.out kd fun b o h => ETm.kd kd h)).mono ?_
                rintro e v2 ⟨rfl, kt⟩
                replace kd : Kd lo (MI) w10 v2 := kd.trans0 kt
                clear kt e8 yg2 yh3
                have e8 := kd.slice c8
                have yg2 := kd.slice g2
                have yh4 := kd.slice h4
                go_wp2_with fail
                refine (turn_any A7 n7 c7 lo _ (ShR.kd HS7.out kd fun b o h => ETm.kd kd h)).mono ?_
                rintro e v3 ⟨rfl, kt⟩
                replace kd : Kd lo (MI) w10 v3 := kd.trans0 kt
                clear kt e8 yg2 yh4
                go_wp2_with fail
                go_loopw [13] (fun vi wr => ∃ j : Nat, vi = .int .i64 j ∧ j ≤ n4 ∧ Kd lo (MI) w10 wr) (fun vi _ => n4 - (intOf vi).toNat)
                case atStart => exact ⟨0, rfl, Nat.zero_le _, kd⟩
                case round =>
                  clear kd
                  obtain ⟨j, rfl, hkj, kd⟩ := hrel
                  have e8 := kd.slice c8
                  have yg2 := kd.slice g2
                  have yh1 := kd.slice h1
                  by_cases hltj : j < n4
                  · have dltj : decide ((j : Int) < (n4 : Int)) = true := by simp; omega
                    have b1j : (0 : Int) ≤ (j : Int) := by omega
                    have b2j : (j : Int) < (n4 : Int) := by omega
                    obtain ⟨b6, off6, rfl, hl6, hs6, hz6, he6⟩ := H4.out (by omega)
                    have hin := EIn.kd kd (he6 j hltj)
                    rw [Nat.mul_one] at hin
                    obtain ⟨ib, i1⟩ := hin
                    have z0 := kd.free b6 hs6 hz6 (off6 + j)
                    obtain ⟨iy, hiy⟩ : ∃ y, wrap64 (ib + 1) = y := ⟨_, rfl⟩
                    have kd2 : Kd lo (MI) w10 (wr.setCell ⟨b6, off6 + j, none⟩ (.int .i64 iy)) := kd.trans0 (Kd.set i1 (.inr (.inl ⟨ib, iy, rfl, rfl⟩) : SameK 0 _ _) hl6)
                    have HIY := Lib.hid hiy
                    clear hiy
                    go_wp2_with fail
                    go_roundw
                    case rel =>
                      refine ⟨j + 1, by go_num, by omega, ?_⟩
                      have h9 := HIY.out
                      simp only [wrap64] at h9
                      first | exact kd2 | (rw [HIY.out]; exact kd2) | (simp only [wrap64, h9]; exact kd2)
                    case measure => simp [intOf]; omega
                  · have dltj : decide ((j : Int) < (n4 : Int)) = false := by simp; omega
                    obtain rfl : j = n4 := by omega
                    go_wp2_with fail
                    go_roundw
                    case rel => exact ⟨k + 1, by go_num, by omega, kd⟩
                    case measure => simp [intOf]; omega
              · have dltk : decide ((k : Int) < (n2 : Int)) = false := by simp; omega
                obtain rfl : k = n2 := by omega
                go_wp2_with fail
                clear e8 yg2
                go_loopw [14] (fun vi wr => ∃ k : Nat, vi = .int .i64 k ∧ k ≤ n3 ∧ Kd lo (MI + k) w10 wr) (fun vi _ => n3 - (intOf vi).toNat)
                case atStart => exact ⟨0, rfl, Nat.zero_le _, kd⟩
                case round =>
                  clear kd
                  obtain ⟨k, rfl, hkk, kd⟩ := hrel
                  have e8 := kd.slice c8
                  have yg3 := kd.slice g3
                  by_cases hltk : k < n3
                  · have dltk : decide ((k : Int) < (n3 : Int)) = true := by simp; omega
                    have b1k : (0 : Int) ≤ (k : Int) := by omega
                    have b2k : (k : Int) < (n3 : Int) := by omega
                    obtain ⟨b2, off2, hA2, hl2, hs2, hz2, he2⟩ := H4w.out (by omega)
                    obtain ⟨sh0, v2, h1, hz0, h2, s2⟩ := he2 k hltk
                    obtain ⟨A5, n5, c5, rfl, hn5, h5s⟩ := s2
                    have S5 : ShR 2 ETm w10 lo (.slice A5 n5 c5) := ⟨_, _, _, rfl, hn5, h5s⟩
                    have HS5 := Lib.hid S5
                    subst hA2
                    clear h5s S5 e8 yg3
                    have e8 := kd.slice c8
                    have yg3 := kd.slice g3
                    have yh2 := kd.slice h2
                    go_wp2_with fail
                    refine (turn_any A5 n5 c5 lo _ (ShR.kd HS5.out kd fun b o h => ETm.kd kd h)).mono ?_
                    rintro e v1 ⟨rfl, kt⟩
                    replace kd : Kd lo (MI + k) w10 v1 := kd.trans0 kt
                    clear kt e8 yg3 yh2
                    have e8 := kd.slice c8
                    have yg3 := kd.slice g3
                    obtain ⟨sh, ysh, hzs⟩ := kd.str h1
                    have zsh := kd.free b2 hs2 hz2 (off2 + k * 2)
                    have hns : ¬ (9223372036854775807 < sh.size + 1) := by
                      have h7 : i * 1000001 ≤ 1000000 * 1000001 := Nat.mul_le_mul_right _ (by omega)
                      have h8 := HMI.out
                      omega
                    have kd2 : Kd lo (MI + k + 1) w10 (v1.setCell ⟨b2, off2 + k * 2, none⟩ (.string (sh ++ ⟨#[120]⟩))) := kd.trans (Kd.set ysh (.inr (.inr ⟨sh, _, rfl, rfl, grow_x sh⟩) : SameK 1 _ _) hl2)
                    go_upto_region 35 with fail
                    refine wp_region_order (fun u => u.cell? ⟨go, 4, none⟩ = some (.slice (some ⟨b1, off1, none⟩) m1 e1) ∧ u.cell? ⟨b1, off1 + i * 3 + 2, none⟩ = some (.slice (some ⟨b2, off2, none⟩) n3 c3) ∧ u.cell? ⟨b2, off2 + k * 2, none⟩ = some (.string sh)) 20 [(0,0), (1,0), (2,0), (3,0), (4,0), (5,0), (6,0), (7,0), (8,0), (9,0), (10,0), (11,0), (12,0), (13,0), (14,0), (15,0), (16,0), (17,0), (18,1), (19,0), (20,2)] (by kernel_rfl) (by kernel_rfl) ?_
                    simp only [pick, List.filterMap_cons, List.filterMap_nil, List.getElem?_cons_zero, List.getElem?_cons_succ, Option.map_some]
                    have hS : v1.drew.cell? ⟨go, 4, none⟩ = some (.slice (some ⟨b1, off1, none⟩) m1 e1) ∧ v1.drew.cell? ⟨b1, off1 + i * 3 + 2, none⟩ = some (.slice (some ⟨b2, off2, none⟩) n3 c3) ∧ v1.drew.cell? ⟨b2, off2 + k * 2, none⟩ = some (.string sh) := ⟨e8, yg3, ysh⟩
                    refine wpF_take (v := ?_) hS rfl ?_ (fun _ _ _ h => h) ?_
                    rotate_left
                    · intro w' hS'
                      obtain ⟨e8, yg3, ysh⟩ := hS'
                      go_simp <;> rfl
                    go_simp
                    refine wpF_take (v := ?_) hS rfl ?_ (fun _ _ _ h => h) ?_
                    rotate_left
                    · intro w' hS'
                      obtain ⟨e8, yg3, ysh⟩ := hS'
                      go_simp <;> rfl
                    go_simp
                    refine wpF_take (v := ?_) hS rfl ?_ (fun _ _ _ h => h) ?_
                    rotate_left
                    · intro w' hS'
                      obtain ⟨e8, yg3, ysh⟩ := hS'
                      go_simp <;> rfl
                    go_simp
                    refine wpF_take (v := ?_) hS rfl ?_ (fun _ _ _ h => h) ?_
                    rotate_left
                    · intro w' hS'
                      obtain ⟨e8, yg3, ysh⟩ := hS'
                      go_simp <;> rfl
                    go_simp
                    refine wpF_take (v := ?_) hS rfl ?_ (fun _ _ _ h => h) ?_
                    rotate_left
                    · intro w' hS'
                      obtain ⟨e8, yg3, ysh⟩ := hS'
                      go_simp <;> rfl
                    go_simp
                    refine wpF_take (v := ?_) hS rfl ?_ (fun _ _ _ h => h) ?_
                    rotate_left
                    · intro w' hS'
                      obtain ⟨e8, yg3, ysh⟩ := hS'
                      go_simp <;> rfl
                    go_simp
                    refine wpF_take (v := ?_) hS rfl ?_ (fun _ _ _ h => h) ?_
                    rotate_left
                    · intro w' hS'
                      obtain ⟨e8, yg3, ysh⟩ := hS'
                      go_simp <;> rfl
                    go_simp
                    refine wpF_take (v := ?_) hS rfl ?_ (fun _ _ _ h => h) ?_
                    rotate_left
                    · intro w' hS'
                      obtain ⟨e8, yg3, ysh⟩ := hS'
                      go_simp <;> rfl
                    go_simp
                    refine wpF_take (v := ?_) hS rfl ?_ (fun _ _ _ h => h) ?_
                    rotate_left
                    · intro w' hS'
                      obtain ⟨e8, yg3, ysh⟩ := hS'
                      go_simp <;> rfl
                    go_simp
                    refine wpF_take (v := ?_) hS rfl ?_ (fun _ _ _ h => h) ?_
                    rotate_left
                    · intro w' hS'
                      obtain ⟨e8, yg3, ysh⟩ := hS'
                      go_simp <;> rfl
                    go_simp
                    refine wpF_take (v := ?_) hS rfl ?_ (fun _ _ _ h => h) ?_
                    rotate_left
                    · intro w' hS'
                      obtain ⟨e8, yg3, ysh⟩ := hS'
                      go_simp <;> rfl
                    go_simp
                    refine wpF_take (v := ?_) hS rfl ?_ (fun _ _ _ h => h) ?_
                    rotate_left
                    · intro w' hS'
                      obtain ⟨e8, yg3, ysh⟩ := hS'
                      go_simp <;> rfl
                    go_simp
                    refine wpF_take (v := ?_) hS rfl ?_ (fun _ _ _ h => h) ?_
                    rotate_left
                    · intro w' hS'
                      obtain ⟨e8, yg3, ysh⟩ := hS'
                      go_simp <;> rfl
                    go_simp
                    refine wpF_take (v := ?_) hS rfl ?_ (fun _ _ _ h => h) ?_
                    rotate_left
                    · intro w' hS'
                      obtain ⟨e8, yg3, ysh⟩ := hS'
                      go_simp <;> rfl
                    go_simp
                    refine wpF_take (v := ?_) hS rfl ?_ (fun _ _ _ h => h) ?_
                    rotate_left
                    · intro w' hS'
                      obtain ⟨e8, yg3, ysh⟩ := hS'
                      go_simp <;> rfl
                    go_simp
                    refine wpF_take (v := ?_) hS rfl ?_ (fun _ _ _ h => h) ?_
                    rotate_left
                    · intro w' hS'
                      obtain ⟨e8, yg3, ysh⟩ := hS'
                      go_simp <;> rfl
                    go_simp
                    refine wpF_take (v := ?_) hS rfl ?_ (fun _ _ _ h => h) ?_
                    rotate_left
                    · intro w' hS'
                      obtain ⟨e8, yg3, ysh⟩ := hS'
                      go_simp <;> rfl
                    go_simp
                    refine wpF_take (v := ?_) hS rfl ?_ (fun _ _ _ h => h) ?_
                    rotate_left
                    · intro w' hS'
                      obtain ⟨e8, yg3, ysh⟩ := hS'
                      go_simp <;> rfl
                    go_simp
                    refine wpF_only rfl (fun K hK => ?_)
                    go_wp2_with fail
                    first | refine ⟨fun _ => hS, ?_⟩ | refine ⟨hS, ?_⟩ | skip
                    go_simp
                    refine wpF_take (v := ?_) hS rfl ?_ (fun _ _ _ h => h) ?_
                    rotate_left
                    · intro w' hS'
                      obtain ⟨e8, yg3, ysh⟩ := hS'
                      go_simp <;> rfl
                    go_simp
                    refine wpF_only rfl (fun K hK => ?_)
                    go_wp2_with fail
                    refine ⟨fun h => absurd h (by omega), wpF_nil ?_⟩
                    go_wp2_with fail
                    go_roundw
                    case rel => exact ⟨k + 1, by go_num, by omega, kd2.drew⟩
                    case measure => simp [intOf]; omega
                  · have dltk : decide ((k : Int) < (n3 : Int)) = false := by simp; omega
                    obtain rfl : k = n3 := by omega
                    go_wp2_with fail
                    go_roundw
                    case rel => exact ⟨i + 1, by go_num, by omega, kd.le (by have := HMI.out; omega)⟩
                    case measure => simp [intOf]; omega
      · have dlti : decide ((i : Int) < (m1 : Int)) = false := by simp; omega
        obtain rfl : i = m1 := by omega
        have ka := HA.out wr kd.below
        have kw := HB.out wr kd.below
        have f1 := HF.out wr kd.below
        have B1 := same12_any p p _ _ wr (HW.out wr kd.below) (HP.out wr f1) okp okp
        rw [decide_eq_true (rfl : p = p)] at B1
        clear HW HA HB HF HEL kd c8
        have a0 := ka.cell 0; have a1 := ka.cell 1; have a2 := ka.cell 2; have a3 := ka.cell 3; have a4 := ka.cell 4
        have x_0 := kw.cell 0; have x_1 := kw.cell 1; have x_2 := kw.cell 2; have x_3 := kw.cell 3; have x_4 := kw.cell 4
        go_wp2_with fail
        refine B1.mono ?_
        rintro e w11 ⟨rfl, f2⟩
        clear a0 a1 a2 a3 a4 x_0 x_1 x_2 x_3 x_4
        clear B1 ka kw e8
        replace f1 := f1.trans (f2.mono f1.size)
        clear f2
        go_wp2_with fail
        refine (awake12_any w11).mono ?_
        rintro e w9 ⟨rfl, f9⟩
        go_wp2_with fail
        go_ret
        exact ⟨rfl, f1.trans (f9.mono f1.size)⟩
end Go.Proofs.YtdbjihpdfiipcaaGreat
