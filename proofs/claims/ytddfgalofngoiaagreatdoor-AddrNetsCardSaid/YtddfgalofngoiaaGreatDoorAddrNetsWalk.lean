/- The law AddrNets, walked. Condition: the library's variables hold what they should. -/
import Derived.Test.YtddfgalofngoiaaGreatDoorAddrAwake
import Derived.Test.YtddfgalofngoiaaGreatDoorAddrH
import Derived.Test.YtddfgalofngoiaaGreatDoorAddrF
import Derived.Test.YtddfgalofngoiaaGreatDoorAddrRefB
import Derived.Test.YtddfgalofngoiaaGreatDoorNetOpen
namespace Go.Proofs.YtddfgalofngoiaaGreatDoor
open Go.RowKit Go.Sort
set_option linter.unusedVariables false
set_option linter.unusedSimpArgs false
def BxN (s a : Nat) (b : Int) (c : Nat) (d : Int) (u : World) : Prop := BxS s a b u ∧ BxS (s + 1) c d u
theorem BxN.below {s a c : Nat} {b d : Int} {u v : World} (h : BxN s a b c d u) (hb : Below u.heap.size u v) : BxN s a b c d v := ⟨h.1.below hb, h.2.below hb⟩
def HvN (g : Nat) (p q : Nt) (u : World) : Prop := u.cell? ⟨g, 0, none⟩ = some (.int .u32 (p.1 : Int)) ∧ u.cell? ⟨g, 1, none⟩ = some (.int .i64 p.2) ∧ u.cell? ⟨g, 2, none⟩ = some (.int .u32 (q.1 : Int)) ∧ u.cell? ⟨g, 3, none⟩ = some (.int .i64 q.2)
theorem HvN.of {g : Nat} {p q : Nt} {u : World} (h : Blk u g 29 (flatR ntC [p, q])) : HvN g p q u := ⟨h.cell 0, h.cell 1, h.cell 2, h.cell 3⟩
theorem HvN.below {g : Nat} {p q : Nt} {u v : World} (h : HvN g p q u) (hb : Below u.heap.size u v) : HvN g p q v :=
  ⟨(hb.cell (p := ⟨g, 0, none⟩) (World.block_lt_of_cell? u _ h.1)).trans h.1, (hb.cell (p := ⟨g, 1, none⟩) (World.block_lt_of_cell? u _ h.2.1)).trans h.2.1, (hb.cell (p := ⟨g, 2, none⟩) (World.block_lt_of_cell? u _ h.2.2.1)).trans h.2.2.1, (hb.cell (p := ⟨g, 3, none⟩) (World.block_lt_of_cell? u _ h.2.2.2)).trans h.2.2.2⟩
/-- All that the law's last test looks at. -/
def NtS (s a : Nat) (b : Int) (c : Nat) (d : Int) (g : Nat) (p q : Nt) (gl : Nat) (u : World) : Prop := BxN s a b c d u ∧ HvN g p q u ∧ BxS gl p.1 p.2 u
theorem NtS.below {s a c g gl : Nat} {b d : Int} {p q : Nt} {u v : World} (h : NtS s a b c d g p q gl u) (hb : Below u.heap.size u v) : NtS s a b c d g p q gl v := ⟨h.1.below hb, h.2.1.below hb, h.2.2.below hb⟩
set_option maxRecDepth 100000 in
set_option maxHeartbeats 8000000 in
theorem addrNets_no (w : World) (hW : LdW w) (bits : Int) (hb0 : -9223372036854775808 ≤ bits) (hb1 : bits ≤ 9223372036854775807) (a : Nat) (b : Int) (hc : okN (a, b)) (c : Nat) (d : Int) (hd : okN (c, d)) (x : Nat) (hx : x < 4294967296) (hm : nMay (a, b) = false) :
    Calls Tryz.prog 5 #[.int .i64 bits, ntV a b, ntV c d, .int .u32 (x : Int)] w fun e w' => e = .returned (.bool true) ∧ Below w.heap.size w w' := by
  have hhv := fun w => halves_no a b w hc (.inl hm)
  have hlt := hW.lt
  have hfi := fun w => first_any a b w hc
  have hla := fun w => last_any a b w hc
  have hrm := fun w => refMay_any a b w hc
  have hm1 := fun w => mask_any bits w hb0 hb1
  have hm2 := fun w => refMask_any bits w hb0 hb1
  have hma := fun w => may_any a b w hc
  have hin := fun w => in_any a b x w hc hx
  have hri := fun w => refIn_any a b x w hc hx
  have hcv := fun w => cov_any a b c d w hc hd
  have hrc := fun w => refCov_any a b c d w hc hd
  rw [hm] at hfi hla hrm hma
  simp only [Bool.false_eq_true, if_false, if_true] at hfi hla
  generalize nIn (a, b) x = i1 at *
  generalize nCov (a, b) (c, d) = k1 at *
  generalize (nMask bits : Int) = mk at *
  have vi : (i1 == i1) = true := by cases i1 <;> rfl
  have vk : (k1 == k1) = true := by cases k1 <;> rfl
  have vm : (mk == mk) = true := by simp
  clear hm
  unfold ntV at *
  go_enter Tryz.func5, Tryz.ntmps5
  go_upto_region 1 with fail
  refine abs (fun w1 => BxN w.heap.size a b c d w1 ∧ Below w.heap.size w w1) ⟨box_two w a b c d, ((Below.refl _ w).alloc (Nat.le_refl _) _).alloc (by simp) _⟩ ?_
  rintro w1 ⟨hS1, f1⟩
  have hS2 := hS1
  obtain ⟨⟨e0, e1⟩, e2, e3⟩ := hS2
  go_wp2_with fail
  refine (hfi _).mono ?_
  rintro _ w2 ⟨rfl, f9⟩
  replace hS1 := hS1.below f9.below
  replace f1 := f1.trans (f9.below.mono f1.size)
  clear e0 e1 e2 e3 f9
  have hS2 := hS1
  obtain ⟨⟨e0, e1⟩, e2, e3⟩ := hS2
  go_wp2_with fail
  refine (hla _).mono ?_
  rintro _ w3 ⟨rfl, f9⟩
  replace hS1 := hS1.below f9.below
  replace f1 := f1.trans (f9.below.mono f1.size)
  clear e0 e1 e2 e3 f9
  have hS2 := hS1
  obtain ⟨⟨e0, e1⟩, e2, e3⟩ := hS2
  go_wp2_with fail
  refine (hhv _).mono ?_
  rintro _ w4 ⟨rfl, f9⟩
  replace hS1 := hS1.below f9
  replace f1 := f1.trans (f9.mono f1.size)
  clear e0 e1 e2 e3 f9
  have hS2 := hS1
  obtain ⟨⟨e0, e1⟩, e2, e3⟩ := hS2
  go_wp2_with fail
  refine (hrm _).mono ?_
  rintro _ w5 ⟨rfl, f9⟩
  replace hS1 := hS1.below f9.below
  replace f1 := f1.trans (f9.below.mono f1.size)
  clear e0 e1 e2 e3 f9
  have hS2 := hS1
  obtain ⟨⟨e0, e1⟩, e2, e3⟩ := hS2
  go_upto_region 5 with fail
  refine wp_region_order (BxN w.heap.size a b c d) 99 [(0,0), (2,0), (1,1), (3,1), (4,0), (5,0), (6,0), (8,0), (7,1), (9,0), (10,0), (11,0), (12,0), (13,0), (15,0), (16,0), (14,1), (17,1), (18,0), (19,0), (20,0), (21,0), (22,0), (24,0), (25,0), (23,1), (26,1), (27,0), (28,0), (29,0), (30,0), (31,0), (32,0), (33,0), (34,0), (35,0), (36,0), (37,0), (38,0), (39,0), (40,0), (41,0), (42,0), (43,0), (44,0), (45,0), (46,0), (47,0), (48,0)] (by kernel_rfl) (by kernel_rfl) ?_
  simp only [pick, List.filterMap_cons, List.filterMap_nil, List.getElem?_cons_zero, List.getElem?_cons_succ, Option.map_some]
  have hS : BxN w.heap.size a b c d w5.drew := hS1
  have F1 : Below w.heap.size w w5.drew := f1.drew
  clear f1 hS1 e0 e1 e2 e3
  generalize w5.drew = wd at *
  refine wpF_take (v := ?_) hS rfl ?_ (fun _ _ _ h => h) ?_
  rotate_left
  · intro w' hS'
    obtain ⟨⟨e0, e1⟩, e2, e3⟩ := hS'
    go_simp <;> rfl
  go_simp
  refine wpF_take (v := ?_) hS rfl ?_ (fun _ _ _ h => h) ?_
  rotate_left
  · intro w' hS'
    obtain ⟨⟨e0, e1⟩, e2, e3⟩ := hS'
    go_simp <;> rfl
  go_simp
  refine wpF_only rfl (fun K hK => ?_)
  go_wp2_with fail
  refine (hm1 _).mono ?_
  rintro _ w9 ⟨rfl, rfl⟩
  go_wp2_with fail
  first | refine ⟨fun _ => hS, ?_⟩ | refine ⟨hS, ?_⟩ | skip
  go_simp
  refine wpF_only rfl (fun K hK => ?_)
  go_wp2_with fail
  refine (hm2 _).mono ?_
  rintro _ w9 ⟨rfl, rfl⟩
  go_wp2_with fail
  first | refine ⟨fun _ => hS, ?_⟩ | refine ⟨hS, ?_⟩ | skip
  go_simp
  refine wpF_take (v := ?_) hS rfl ?_ (fun _ _ _ h => h) ?_
  rotate_left
  · intro w' hS'
    obtain ⟨⟨e0, e1⟩, e2, e3⟩ := hS'
    go_simp <;> rfl
  go_simp
  refine wpF_take (v := ?_) hS rfl ?_ (fun _ _ _ h => h) ?_
  rotate_left
  · intro w' hS'
    obtain ⟨⟨e0, e1⟩, e2, e3⟩ := hS'
    go_simp <;> rfl
  go_simp
  refine wpF_take (v := ?_) hS rfl ?_ (fun _ _ _ h => h) ?_
  rotate_left
  · intro w' hS'
    obtain ⟨⟨e0, e1⟩, e2, e3⟩ := hS'
    go_simp <;> rfl
  go_simp
  refine wpF_take (v := ?_) hS rfl ?_ (fun _ _ _ h => h) ?_
  rotate_left
  · intro w' hS'
    obtain ⟨⟨e0, e1⟩, e2, e3⟩ := hS'
    go_simp <;> rfl
  go_simp
  refine wpF_only rfl (fun K hK => ?_)
  go_wp2_with fail
  refine (hma _).mono ?_
  rintro _ w9 ⟨rfl, f9⟩
  replace F1 := F1.trans (f9.below.mono F1.size)
  replace hS := hS.below f9.below
  clear f9
  go_wp2_with fail
  first | refine ⟨fun _ => hS, ?_⟩ | refine ⟨hS, ?_⟩ | skip
  go_simp
  refine wpF_take (v := ?_) hS rfl ?_ (fun _ _ _ h => h) ?_
  rotate_left
  · intro w' hS'
    obtain ⟨⟨e0, e1⟩, e2, e3⟩ := hS'
    go_simp <;> rfl
  go_simp
  refine wpF_take (v := ?_) hS rfl ?_ (fun _ _ _ h => h) ?_
  rotate_left
  · intro w' hS'
    obtain ⟨⟨e0, e1⟩, e2, e3⟩ := hS'
    go_simp <;> rfl
  go_simp
  refine wpF_take (v := ?_) hS rfl ?_ (fun _ _ _ h => h) ?_
  rotate_left
  · intro w' hS'
    obtain ⟨⟨e0, e1⟩, e2, e3⟩ := hS'
    go_simp <;> rfl
  go_simp
  refine wpF_take (v := ?_) hS rfl ?_ (fun _ _ _ h => h) ?_
  rotate_left
  · intro w' hS'
    obtain ⟨⟨e0, e1⟩, e2, e3⟩ := hS'
    go_simp <;> rfl
  go_simp
  refine wpF_take (v := ?_) hS rfl ?_ (fun _ _ _ h => h) ?_
  rotate_left
  · intro w' hS'
    obtain ⟨⟨e0, e1⟩, e2, e3⟩ := hS'
    go_simp <;> rfl
  go_simp
  refine wpF_take (v := ?_) hS rfl ?_ (fun _ _ _ h => h) ?_
  rotate_left
  · intro w' hS'
    obtain ⟨⟨e0, e1⟩, e2, e3⟩ := hS'
    go_simp <;> rfl
  go_simp
  refine wpF_take (v := ?_) hS rfl ?_ (fun _ _ _ h => h) ?_
  rotate_left
  · intro w' hS'
    obtain ⟨⟨e0, e1⟩, e2, e3⟩ := hS'
    go_simp <;> rfl
  go_simp
  refine wpF_only rfl (fun K hK => ?_)
  go_wp2_with fail
  refine (hin _).mono ?_
  rintro _ w9 ⟨rfl, f9⟩
  replace F1 := F1.trans (f9.below.mono F1.size)
  replace hS := hS.below f9.below
  clear f9
  go_wp2_with fail
  first | refine ⟨fun _ => hS, ?_⟩ | refine ⟨hS, ?_⟩ | skip
  go_simp
  refine wpF_only rfl (fun K hK => ?_)
  go_wp2_with fail
  refine (hri _).mono ?_
  rintro _ w9 ⟨rfl, f9⟩
  replace F1 := F1.trans (f9.below.mono F1.size)
  replace hS := hS.below f9.below
  clear f9
  go_wp2_with fail
  first | refine ⟨fun _ => hS, ?_⟩ | refine ⟨hS, ?_⟩ | skip
  go_simp
  refine wpF_take (v := ?_) hS rfl ?_ (fun _ _ _ h => h) ?_
  rotate_left
  · intro w' hS'
    obtain ⟨⟨e0, e1⟩, e2, e3⟩ := hS'
    go_simp <;> rfl
  go_simp
  refine wpF_take (v := ?_) hS rfl ?_ (fun _ _ _ h => h) ?_
  rotate_left
  · intro w' hS'
    obtain ⟨⟨e0, e1⟩, e2, e3⟩ := hS'
    go_simp <;> rfl
  go_simp
  refine wpF_take (v := ?_) hS rfl ?_ (fun _ _ _ h => h) ?_
  rotate_left
  · intro w' hS'
    obtain ⟨⟨e0, e1⟩, e2, e3⟩ := hS'
    go_simp <;> rfl
  go_simp
  refine wpF_take (v := ?_) hS rfl ?_ (fun _ _ _ h => h) ?_
  rotate_left
  · intro w' hS'
    obtain ⟨⟨e0, e1⟩, e2, e3⟩ := hS'
    go_simp <;> rfl
  go_simp
  refine wpF_take (v := ?_) hS rfl ?_ (fun _ _ _ h => h) ?_
  rotate_left
  · intro w' hS'
    obtain ⟨⟨e0, e1⟩, e2, e3⟩ := hS'
    go_simp <;> rfl
  go_simp
  refine wpF_take (v := ?_) hS rfl ?_ (fun _ _ _ h => h) ?_
  rotate_left
  · intro w' hS'
    obtain ⟨⟨e0, e1⟩, e2, e3⟩ := hS'
    go_simp <;> rfl
  go_simp
  refine wpF_take (v := ?_) hS rfl ?_ (fun _ _ _ h => h) ?_
  rotate_left
  · intro w' hS'
    obtain ⟨⟨e0, e1⟩, e2, e3⟩ := hS'
    go_simp <;> rfl
  go_simp
  refine wpF_only rfl (fun K hK => ?_)
  go_wp2_with fail
  refine (hcv _).mono ?_
  rintro _ w9 ⟨rfl, f9⟩
  replace F1 := F1.trans (f9.below.mono F1.size)
  replace hS := hS.below f9.below
  clear f9
  go_wp2_with fail
  first | refine ⟨fun _ => hS, ?_⟩ | refine ⟨hS, ?_⟩ | skip
  go_simp
  refine wpF_only rfl (fun K hK => ?_)
  go_wp2_with fail
  refine (hrc _).mono ?_
  rintro _ w9 ⟨rfl, f9⟩
  replace F1 := F1.trans (f9.below.mono F1.size)
  replace hS := hS.below f9.below
  clear f9
  go_wp2_with fail
  first | refine ⟨fun _ => hS, ?_⟩ | refine ⟨hS, ?_⟩ | skip
  go_simp
  refine wpF_take (v := ?_) hS rfl ?_ (fun _ _ _ h => h) ?_
  rotate_left
  · intro w' hS'
    obtain ⟨⟨e0, e1⟩, e2, e3⟩ := hS'
    go_simp <;> rfl
  go_simp
  refine wpF_take (v := ?_) hS rfl ?_ (fun _ _ _ h => h) ?_
  rotate_left
  · intro w' hS'
    obtain ⟨⟨e0, e1⟩, e2, e3⟩ := hS'
    go_simp <;> rfl
  go_simp
  refine wpF_take (v := ?_) hS rfl ?_ (fun _ _ _ h => h) ?_
  rotate_left
  · intro w' hS'
    obtain ⟨⟨e0, e1⟩, e2, e3⟩ := hS'
    go_simp <;> rfl
  go_simp
  refine wpF_take (v := ?_) hS rfl ?_ (fun _ _ _ h => h) ?_
  rotate_left
  · intro w' hS'
    obtain ⟨⟨e0, e1⟩, e2, e3⟩ := hS'
    go_simp <;> rfl
  go_simp
  refine wpF_take (v := ?_) hS rfl ?_ (fun _ _ _ h => h) ?_
  rotate_left
  · intro w' hS'
    obtain ⟨⟨e0, e1⟩, e2, e3⟩ := hS'
    go_simp <;> rfl
  go_simp
  refine wpF_take (v := ?_) hS rfl ?_ (fun _ _ _ h => h) ?_
  rotate_left
  · intro w' hS'
    obtain ⟨⟨e0, e1⟩, e2, e3⟩ := hS'
    go_simp <;> rfl
  go_simp
  refine wpF_take (v := ?_) hS rfl ?_ (fun _ _ _ h => h) ?_
  rotate_left
  · intro w' hS'
    obtain ⟨⟨e0, e1⟩, e2, e3⟩ := hS'
    go_simp <;> rfl
  go_simp
  refine wpF_take (v := ?_) hS rfl ?_ (fun _ _ _ h => h) ?_
  rotate_left
  · intro w' hS'
    obtain ⟨⟨e0, e1⟩, e2, e3⟩ := hS'
    go_simp <;> rfl
  go_simp
  refine wpF_take (v := ?_) hS rfl ?_ (fun _ _ _ h => h) ?_
  rotate_left
  · intro w' hS'
    obtain ⟨⟨e0, e1⟩, e2, e3⟩ := hS'
    go_simp <;> rfl
  go_simp
  refine wpF_take (v := ?_) hS rfl ?_ (fun _ _ _ h => h) ?_
  rotate_left
  · intro w' hS'
    obtain ⟨⟨e0, e1⟩, e2, e3⟩ := hS'
    go_simp <;> rfl
  go_simp
  refine wpF_take (v := ?_) hS rfl ?_ (fun _ _ _ h => h) ?_
  rotate_left
  · intro w' hS'
    obtain ⟨⟨e0, e1⟩, e2, e3⟩ := hS'
    go_simp <;> rfl
  go_simp
  refine wpF_take (v := ?_) hS rfl ?_ (fun _ _ _ h => h) ?_
  rotate_left
  · intro w' hS'
    obtain ⟨⟨e0, e1⟩, e2, e3⟩ := hS'
    go_simp <;> rfl
  go_simp
  refine wpF_take (v := ?_) hS rfl ?_ (fun _ _ _ h => h) ?_
  rotate_left
  · intro w' hS'
    obtain ⟨⟨e0, e1⟩, e2, e3⟩ := hS'
    go_simp <;> rfl
  go_simp
  refine wpF_take (v := ?_) hS rfl ?_ (fun _ _ _ h => h) ?_
  rotate_left
  · intro w' hS'
    obtain ⟨⟨e0, e1⟩, e2, e3⟩ := hS'
    go_simp <;> rfl
  go_simp
  refine wpF_take (v := ?_) hS rfl ?_ (fun _ _ _ h => h) ?_
  rotate_left
  · intro w' hS'
    obtain ⟨⟨e0, e1⟩, e2, e3⟩ := hS'
    go_simp <;> rfl
  go_simp
  refine wpF_take (v := ?_) hS rfl ?_ (fun _ _ _ h => h) ?_
  rotate_left
  · intro w' hS'
    obtain ⟨⟨e0, e1⟩, e2, e3⟩ := hS'
    go_simp <;> rfl
  go_simp
  refine wpF_skip hS rfl (fun _ _ _ h => h) ?_
  go_simp
  refine wpF_skip hS rfl (fun _ _ _ h => h) ?_
  go_simp
  refine wpF_skip hS rfl (fun _ _ _ h => h) ?_
  go_simp
  refine wpF_take (v := ?_) hS rfl ?_ (fun _ _ _ h => h) ?_
  rotate_left
  · intro w' hS'
    obtain ⟨⟨e0, e1⟩, e2, e3⟩ := hS'
    go_simp <;> rfl
  go_simp
  refine wpF_take (v := ?_) hS rfl ?_ (fun _ _ _ h => h) ?_
  rotate_left
  · intro w' hS'
    obtain ⟨⟨e0, e1⟩, e2, e3⟩ := hS'
    go_simp <;> rfl
  go_simp
  refine wpF_take (v := ?_) hS rfl ?_ (fun _ _ _ h => h) ?_
  rotate_left
  · intro w' hS'
    obtain ⟨⟨e0, e1⟩, e2, e3⟩ := hS'
    go_simp <;> rfl
  go_simp
  refine wpF_nil ?_
  have hS1 := hS
  have f1 := F1
  clear hS F1
  have hS2 := hS1
  obtain ⟨⟨e0, e1⟩, e2, e3⟩ := hS2
  go_wp2_with fail
  refine (awake4_any _ (hW.below hlt f1)).mono ?_
  rintro e9 w9 ⟨rfl, f9⟩
  go_wp2_with fail
  go_ret
  exact ⟨rfl, f1.trans (f9.mono f1.size)⟩
set_option maxRecDepth 100000 in
set_option maxHeartbeats 8000000 in
theorem addrNets_one (w : World) (hW : LdW w) (bits : Int) (hb0 : -9223372036854775808 ≤ bits) (hb1 : bits ≤ 9223372036854775807) (a : Nat) (b : Int) (hc : okN (a, b)) (c : Nat) (d : Int) (hd : okN (c, d)) (x : Nat) (hx : x < 4294967296) (hm : nMay (a, b) = true) (h32 : b = 32) :
    Calls Tryz.prog 5 #[.int .i64 bits, ntV a b, ntV c d, .int .u32 (x : Int)] w fun e w' => e = .returned (.bool true) ∧ Below w.heap.size w w' := by
  have hhv := fun w => halves_no a b w hc (.inr h32)
  have hrl := fun w => refLast_any a b w hc hm
  have d32 : decide (b < 32) = false := by simp; omega
  have d33 : (b == 32) = true := by simp; exact h32
  have hlt := hW.lt
  have hfi := fun w => first_any a b w hc
  have hla := fun w => last_any a b w hc
  have hrm := fun w => refMay_any a b w hc
  have hm1 := fun w => mask_any bits w hb0 hb1
  have hm2 := fun w => refMask_any bits w hb0 hb1
  have hma := fun w => may_any a b w hc
  have hin := fun w => in_any a b x w hc hx
  have hri := fun w => refIn_any a b x w hc hx
  have hcv := fun w => cov_any a b c d w hc hd
  have hrc := fun w => refCov_any a b c d w hc hd
  rw [hm] at hfi hla hrm hma
  simp only [Bool.false_eq_true, if_false, if_true] at hfi hla
  generalize nIn (a, b) x = i1 at *
  generalize nCov (a, b) (c, d) = k1 at *
  generalize (nMask bits : Int) = mk at *
  have vi : (i1 == i1) = true := by cases i1 <;> rfl
  have vk : (k1 == k1) = true := by cases k1 <;> rfl
  have vm : (mk == mk) = true := by simp
  clear hm
  generalize nhi (a, b) - 1 = y at *
  have H32 := Lib.hid h32; clear h32
  unfold ntV at *
  go_enter Tryz.func5, Tryz.ntmps5
  go_upto_region 1 with fail
  refine abs (fun w1 => BxN w.heap.size a b c d w1 ∧ Below w.heap.size w w1) ⟨box_two w a b c d, ((Below.refl _ w).alloc (Nat.le_refl _) _).alloc (by simp) _⟩ ?_
  rintro w1 ⟨hS1, f1⟩
  have hS2 := hS1
  obtain ⟨⟨e0, e1⟩, e2, e3⟩ := hS2
  go_wp2_with fail
  refine (hfi _).mono ?_
  rintro _ w2 ⟨rfl, f9⟩
  replace hS1 := hS1.below f9.below
  replace f1 := f1.trans (f9.below.mono f1.size)
  clear e0 e1 e2 e3 f9
  have hS2 := hS1
  obtain ⟨⟨e0, e1⟩, e2, e3⟩ := hS2
  go_wp2_with fail
  refine (hla _).mono ?_
  rintro _ w3 ⟨rfl, f9⟩
  replace hS1 := hS1.below f9.below
  replace f1 := f1.trans (f9.below.mono f1.size)
  clear e0 e1 e2 e3 f9
  have hS2 := hS1
  obtain ⟨⟨e0, e1⟩, e2, e3⟩ := hS2
  go_wp2_with fail
  refine (hhv _).mono ?_
  rintro _ w4 ⟨rfl, f9⟩
  replace hS1 := hS1.below f9
  replace f1 := f1.trans (f9.mono f1.size)
  clear e0 e1 e2 e3 f9
  have hS2 := hS1
  obtain ⟨⟨e0, e1⟩, e2, e3⟩ := hS2
  go_wp2_with fail
  refine (hrm _).mono ?_
  rintro _ w5 ⟨rfl, f9⟩
  replace hS1 := hS1.below f9.below
  replace f1 := f1.trans (f9.below.mono f1.size)
  clear e0 e1 e2 e3 f9
  have hS2 := hS1
  obtain ⟨⟨e0, e1⟩, e2, e3⟩ := hS2
  go_upto_region 5 with fail
  refine wp_region_order (BxN w.heap.size a b c d) 99 [(0,0), (2,0), (1,1), (3,1), (4,0), (5,0), (6,0), (8,0), (7,1), (9,0), (10,0), (11,0), (12,0), (13,0), (15,0), (16,0), (14,1), (17,1), (18,0), (19,0), (20,0), (21,0), (22,0), (24,0), (25,0), (23,1), (26,1), (27,0), (28,0), (29,0), (30,0), (31,0), (32,0), (33,0), (34,0), (35,0), (36,0), (37,0), (38,0), (39,0), (40,0), (41,0), (42,0), (43,0), (44,0), (45,0), (46,0), (47,0), (48,0)] (by kernel_rfl) (by kernel_rfl) ?_
  simp only [pick, List.filterMap_cons, List.filterMap_nil, List.getElem?_cons_zero, List.getElem?_cons_succ, Option.map_some]
  have hS : BxN w.heap.size a b c d w5.drew := hS1
  have F1 : Below w.heap.size w w5.drew := f1.drew
  clear f1 hS1 e0 e1 e2 e3
  generalize w5.drew = wd at *
  refine wpF_take (v := ?_) hS rfl ?_ (fun _ _ _ h => h) ?_
  rotate_left
  · intro w' hS'
    obtain ⟨⟨e0, e1⟩, e2, e3⟩ := hS'
    go_simp <;> rfl
  go_simp
  refine wpF_take (v := ?_) hS rfl ?_ (fun _ _ _ h => h) ?_
  rotate_left
  · intro w' hS'
    obtain ⟨⟨e0, e1⟩, e2, e3⟩ := hS'
    go_simp <;> rfl
  go_simp
  refine wpF_only rfl (fun K hK => ?_)
  go_wp2_with fail
  refine (hm1 _).mono ?_
  rintro _ w9 ⟨rfl, rfl⟩
  go_wp2_with fail
  first | refine ⟨fun _ => hS, ?_⟩ | refine ⟨hS, ?_⟩ | skip
  go_simp
  refine wpF_only rfl (fun K hK => ?_)
  go_wp2_with fail
  refine (hm2 _).mono ?_
  rintro _ w9 ⟨rfl, rfl⟩
  go_wp2_with fail
  first | refine ⟨fun _ => hS, ?_⟩ | refine ⟨hS, ?_⟩ | skip
  go_simp
  refine wpF_take (v := ?_) hS rfl ?_ (fun _ _ _ h => h) ?_
  rotate_left
  · intro w' hS'
    obtain ⟨⟨e0, e1⟩, e2, e3⟩ := hS'
    go_simp <;> rfl
  go_simp
  refine wpF_take (v := ?_) hS rfl ?_ (fun _ _ _ h => h) ?_
  rotate_left
  · intro w' hS'
    obtain ⟨⟨e0, e1⟩, e2, e3⟩ := hS'
    go_simp <;> rfl
  go_simp
  refine wpF_take (v := ?_) hS rfl ?_ (fun _ _ _ h => h) ?_
  rotate_left
  · intro w' hS'
    obtain ⟨⟨e0, e1⟩, e2, e3⟩ := hS'
    go_simp <;> rfl
  go_simp
  refine wpF_take (v := ?_) hS rfl ?_ (fun _ _ _ h => h) ?_
  rotate_left
  · intro w' hS'
    obtain ⟨⟨e0, e1⟩, e2, e3⟩ := hS'
    go_simp <;> rfl
  go_simp
  refine wpF_only rfl (fun K hK => ?_)
  go_wp2_with fail
  refine (hma _).mono ?_
  rintro _ w9 ⟨rfl, f9⟩
  replace F1 := F1.trans (f9.below.mono F1.size)
  replace hS := hS.below f9.below
  clear f9
  go_wp2_with fail
  first | refine ⟨fun _ => hS, ?_⟩ | refine ⟨hS, ?_⟩ | skip
  go_simp
  refine wpF_take (v := ?_) hS rfl ?_ (fun _ _ _ h => h) ?_
  rotate_left
  · intro w' hS'
    obtain ⟨⟨e0, e1⟩, e2, e3⟩ := hS'
    go_simp <;> rfl
  go_simp
  refine wpF_take (v := ?_) hS rfl ?_ (fun _ _ _ h => h) ?_
  rotate_left
  · intro w' hS'
    obtain ⟨⟨e0, e1⟩, e2, e3⟩ := hS'
    go_simp <;> rfl
  go_simp
  refine wpF_take (v := ?_) hS rfl ?_ (fun _ _ _ h => h) ?_
  rotate_left
  · intro w' hS'
    obtain ⟨⟨e0, e1⟩, e2, e3⟩ := hS'
    go_simp <;> rfl
  go_simp
  refine wpF_take (v := ?_) hS rfl ?_ (fun _ _ _ h => h) ?_
  rotate_left
  · intro w' hS'
    obtain ⟨⟨e0, e1⟩, e2, e3⟩ := hS'
    go_simp <;> rfl
  go_simp
  refine wpF_take (v := ?_) hS rfl ?_ (fun _ _ _ h => h) ?_
  rotate_left
  · intro w' hS'
    obtain ⟨⟨e0, e1⟩, e2, e3⟩ := hS'
    go_simp <;> rfl
  go_simp
  refine wpF_take (v := ?_) hS rfl ?_ (fun _ _ _ h => h) ?_
  rotate_left
  · intro w' hS'
    obtain ⟨⟨e0, e1⟩, e2, e3⟩ := hS'
    go_simp <;> rfl
  go_simp
  refine wpF_take (v := ?_) hS rfl ?_ (fun _ _ _ h => h) ?_
  rotate_left
  · intro w' hS'
    obtain ⟨⟨e0, e1⟩, e2, e3⟩ := hS'
    go_simp <;> rfl
  go_simp
  refine wpF_only rfl (fun K hK => ?_)
  go_wp2_with fail
  refine (hin _).mono ?_
  rintro _ w9 ⟨rfl, f9⟩
  replace F1 := F1.trans (f9.below.mono F1.size)
  replace hS := hS.below f9.below
  clear f9
  go_wp2_with fail
  first | refine ⟨fun _ => hS, ?_⟩ | refine ⟨hS, ?_⟩ | skip
  go_simp
  refine wpF_only rfl (fun K hK => ?_)
  go_wp2_with fail
  refine (hri _).mono ?_
  rintro _ w9 ⟨rfl, f9⟩
  replace F1 := F1.trans (f9.below.mono F1.size)
  replace hS := hS.below f9.below
  clear f9
  go_wp2_with fail
  first | refine ⟨fun _ => hS, ?_⟩ | refine ⟨hS, ?_⟩ | skip
  go_simp
  refine wpF_take (v := ?_) hS rfl ?_ (fun _ _ _ h => h) ?_
  rotate_left
  · intro w' hS'
    obtain ⟨⟨e0, e1⟩, e2, e3⟩ := hS'
    go_simp <;> rfl
  go_simp
  refine wpF_take (v := ?_) hS rfl ?_ (fun _ _ _ h => h) ?_
  rotate_left
  · intro w' hS'
    obtain ⟨⟨e0, e1⟩, e2, e3⟩ := hS'
    go_simp <;> rfl
  go_simp
  refine wpF_take (v := ?_) hS rfl ?_ (fun _ _ _ h => h) ?_
  rotate_left
  · intro w' hS'
    obtain ⟨⟨e0, e1⟩, e2, e3⟩ := hS'
    go_simp <;> rfl
  go_simp
  refine wpF_take (v := ?_) hS rfl ?_ (fun _ _ _ h => h) ?_
  rotate_left
  · intro w' hS'
    obtain ⟨⟨e0, e1⟩, e2, e3⟩ := hS'
    go_simp <;> rfl
  go_simp
  refine wpF_take (v := ?_) hS rfl ?_ (fun _ _ _ h => h) ?_
  rotate_left
  · intro w' hS'
    obtain ⟨⟨e0, e1⟩, e2, e3⟩ := hS'
    go_simp <;> rfl
  go_simp
  refine wpF_take (v := ?_) hS rfl ?_ (fun _ _ _ h => h) ?_
  rotate_left
  · intro w' hS'
    obtain ⟨⟨e0, e1⟩, e2, e3⟩ := hS'
    go_simp <;> rfl
  go_simp
  refine wpF_take (v := ?_) hS rfl ?_ (fun _ _ _ h => h) ?_
  rotate_left
  · intro w' hS'
    obtain ⟨⟨e0, e1⟩, e2, e3⟩ := hS'
    go_simp <;> rfl
  go_simp
  refine wpF_only rfl (fun K hK => ?_)
  go_wp2_with fail
  refine (hcv _).mono ?_
  rintro _ w9 ⟨rfl, f9⟩
  replace F1 := F1.trans (f9.below.mono F1.size)
  replace hS := hS.below f9.below
  clear f9
  go_wp2_with fail
  first | refine ⟨fun _ => hS, ?_⟩ | refine ⟨hS, ?_⟩ | skip
  go_simp
  refine wpF_only rfl (fun K hK => ?_)
  go_wp2_with fail
  refine (hrc _).mono ?_
  rintro _ w9 ⟨rfl, f9⟩
  replace F1 := F1.trans (f9.below.mono F1.size)
  replace hS := hS.below f9.below
  clear f9
  go_wp2_with fail
  first | refine ⟨fun _ => hS, ?_⟩ | refine ⟨hS, ?_⟩ | skip
  go_simp
  refine wpF_take (v := ?_) hS rfl ?_ (fun _ _ _ h => h) ?_
  rotate_left
  · intro w' hS'
    obtain ⟨⟨e0, e1⟩, e2, e3⟩ := hS'
    go_simp <;> rfl
  go_simp
  refine wpF_take (v := ?_) hS rfl ?_ (fun _ _ _ h => h) ?_
  rotate_left
  · intro w' hS'
    obtain ⟨⟨e0, e1⟩, e2, e3⟩ := hS'
    go_simp <;> rfl
  go_simp
  refine wpF_take (v := ?_) hS rfl ?_ (fun _ _ _ h => h) ?_
  rotate_left
  · intro w' hS'
    obtain ⟨⟨e0, e1⟩, e2, e3⟩ := hS'
    go_simp <;> rfl
  go_simp
  refine wpF_take (v := ?_) hS rfl ?_ (fun _ _ _ h => h) ?_
  rotate_left
  · intro w' hS'
    obtain ⟨⟨e0, e1⟩, e2, e3⟩ := hS'
    go_simp <;> rfl
  go_simp
  refine wpF_take (v := ?_) hS rfl ?_ (fun _ _ _ h => h) ?_
  rotate_left
  · intro w' hS'
    obtain ⟨⟨e0, e1⟩, e2, e3⟩ := hS'
    go_simp <;> rfl
  go_simp
  refine wpF_take (v := ?_) hS rfl ?_ (fun _ _ _ h => h) ?_
  rotate_left
  · intro w' hS'
    obtain ⟨⟨e0, e1⟩, e2, e3⟩ := hS'
    go_simp <;> rfl
  go_simp
  refine wpF_take (v := ?_) hS rfl ?_ (fun _ _ _ h => h) ?_
  rotate_left
  · intro w' hS'
    obtain ⟨⟨e0, e1⟩, e2, e3⟩ := hS'
    go_simp <;> rfl
  go_simp
  refine wpF_take (v := ?_) hS rfl ?_ (fun _ _ _ h => h) ?_
  rotate_left
  · intro w' hS'
    obtain ⟨⟨e0, e1⟩, e2, e3⟩ := hS'
    go_simp <;> rfl
  go_simp
  refine wpF_take (v := ?_) hS rfl ?_ (fun _ _ _ h => h) ?_
  rotate_left
  · intro w' hS'
    obtain ⟨⟨e0, e1⟩, e2, e3⟩ := hS'
    go_simp <;> rfl
  go_simp
  refine wpF_take (v := ?_) hS rfl ?_ (fun _ _ _ h => h) ?_
  rotate_left
  · intro w' hS'
    obtain ⟨⟨e0, e1⟩, e2, e3⟩ := hS'
    go_simp <;> rfl
  go_simp
  refine wpF_take (v := ?_) hS rfl ?_ (fun _ _ _ h => h) ?_
  rotate_left
  · intro w' hS'
    obtain ⟨⟨e0, e1⟩, e2, e3⟩ := hS'
    go_simp <;> rfl
  go_simp
  refine wpF_take (v := ?_) hS rfl ?_ (fun _ _ _ h => h) ?_
  rotate_left
  · intro w' hS'
    obtain ⟨⟨e0, e1⟩, e2, e3⟩ := hS'
    go_simp <;> rfl
  go_simp
  refine wpF_take (v := ?_) hS rfl ?_ (fun _ _ _ h => h) ?_
  rotate_left
  · intro w' hS'
    obtain ⟨⟨e0, e1⟩, e2, e3⟩ := hS'
    go_simp <;> rfl
  go_simp
  refine wpF_take (v := ?_) hS rfl ?_ (fun _ _ _ h => h) ?_
  rotate_left
  · intro w' hS'
    obtain ⟨⟨e0, e1⟩, e2, e3⟩ := hS'
    go_simp <;> rfl
  go_simp
  refine wpF_take (v := ?_) hS rfl ?_ (fun _ _ _ h => h) ?_
  rotate_left
  · intro w' hS'
    obtain ⟨⟨e0, e1⟩, e2, e3⟩ := hS'
    go_simp <;> rfl
  go_simp
  refine wpF_take (v := ?_) hS rfl ?_ (fun _ _ _ h => h) ?_
  rotate_left
  · intro w' hS'
    obtain ⟨⟨e0, e1⟩, e2, e3⟩ := hS'
    go_simp <;> rfl
  go_simp
  refine wpF_take (v := ?_) hS rfl ?_ (fun _ _ _ h => h) ?_
  rotate_left
  · intro w' hS'
    obtain ⟨⟨e0, e1⟩, e2, e3⟩ := hS'
    go_simp <;> rfl
  go_simp
  refine wpF_take (v := ?_) hS rfl ?_ (fun _ _ _ h => h) ?_
  rotate_left
  · intro w' hS'
    obtain ⟨⟨e0, e1⟩, e2, e3⟩ := hS'
    go_simp <;> rfl
  go_simp
  refine wpF_take (v := ?_) hS rfl ?_ (fun _ _ _ h => h) ?_
  rotate_left
  · intro w' hS'
    obtain ⟨⟨e0, e1⟩, e2, e3⟩ := hS'
    go_simp <;> rfl
  go_simp
  refine wpF_take (v := ?_) hS rfl ?_ (fun _ _ _ h => h) ?_
  rotate_left
  · intro w' hS'
    obtain ⟨⟨e0, e1⟩, e2, e3⟩ := hS'
    go_simp <;> rfl
  go_simp
  refine wpF_take (v := ?_) hS rfl ?_ (fun _ _ _ h => h) ?_
  rotate_left
  · intro w' hS'
    obtain ⟨⟨e0, e1⟩, e2, e3⟩ := hS'
    go_simp <;> rfl
  go_simp
  refine wpF_take (v := ?_) hS rfl ?_ (fun _ _ _ h => h) ?_
  rotate_left
  · intro w' hS'
    obtain ⟨⟨e0, e1⟩, e2, e3⟩ := hS'
    go_simp <;> rfl
  go_simp
  refine wpF_nil ?_
  have hS1 := hS
  have f1 := F1
  clear hS F1
  have hS2 := hS1
  obtain ⟨⟨e0, e1⟩, e2, e3⟩ := hS2
  go_wp2_with fail
  refine (hrl _).mono ?_
  rintro _ w6 ⟨rfl, f9⟩
  replace hS1 := hS1.below f9.below
  replace f1 := f1.trans (f9.below.mono f1.size)
  clear e0 e1 e2 e3 f9
  have hS2 := hS1
  obtain ⟨⟨e0, e1⟩, e2, e3⟩ := hS2
  go_wp2_with fail
  refine (awake4_any _ (hW.below hlt f1)).mono ?_
  rintro e9 w9 ⟨rfl, f9⟩
  go_wp2_with fail
  go_ret
  exact ⟨rfl, f1.trans (f9.mono f1.size)⟩
set_option maxRecDepth 100000 in
set_option maxHeartbeats 8000000 in
theorem addrNets_two (w : World) (hW : LdW w) (bits : Int) (hb0 : -9223372036854775808 ≤ bits) (hb1 : bits ≤ 9223372036854775807) (a : Nat) (b : Int) (hc : okN (a, b)) (c : Nat) (d : Int) (hd : okN (c, d)) (x : Nat) (hx : x < 4294967296) (hm : nMay (a, b) = true) (h32 : b < 32) :
    Calls Tryz.prog 5 #[.int .i64 bits, ntV a b, ntV c d, .int .u32 (x : Int)] w fun e w' => e = .returned (.bool true) ∧ Below w.heap.size w w' := by
  have hhv := fun w => halves_yes a b w hc hm h32
  have hrl := fun w => refLast_any a b w hc hm
  have d32 : decide (b < 32) = true := by simp; omega
  have d33 : (b == 32) = false := by simp; omega
  obtain ⟨k, hk⟩ : ∃ k, nk (a, b) = k + 1 := by have := nk_bits hm; simp only at this; exact ⟨nk (a, b) - 1, by omega⟩
  have H := halved hm hk
  have hpos := Nat.pow_pos (n := k) (show 0 < 2 by omega)
  have hhi := hi_le hm hc.1
  have hgap := H.gap
  have hlo := H.hlow
  have h0 := ((nMay_iff (a, b)).1 hm).1
  have okl : okN (a, b + 1) := ⟨hc.1, by show _ ≤ b + 1; have := hc.2.1; simp only at this; omega, by show b + 1 ≤ _; omega⟩
  have hrl2 := fun w => refLast_any a (b + 1) w okl H.mlow
  have hq : nHigh (a, b) = (nhi (nLow (a, b)), b + 1) := rfl
  have hp : nLow (a, b) = (a, b + 1) := rfl
  rw [hq, hp] at hhv
  rw [hp] at hlo
  simp only at hlo h0
  obtain ⟨h, hh⟩ : ∃ h, nhi (a, b + 1) = h := ⟨_, rfl⟩
  rw [hh] at hhv hrl2 hlo
  have vh : IntKind.u32.wrap (((h - 1 : Nat) : Int) + 1) = (h : Int) := by rw [IntWalk.u32_in _ (by omega)]; omega
  have v1 : IntKind.i64.wrap (b + 1) = b + 1 := IntWalk.i64_in _ (by omega)
  have b1 : b + 1 ≤ 9223372036854775807 := by omega
  generalize h - 1 = z at *
  have qe1 := fun w => run_nt_eq a (b + 1) a (b + 1) w
  have qe2 := fun w => run_nt_eq h (b + 1) h (b + 1) w
  rw [decide_eq_true rfl] at qe1 qe2
  clear H hpos hhi hgap hlo hh hq hp hk okl
  have hlt := hW.lt
  have hfi := fun w => first_any a b w hc
  have hla := fun w => last_any a b w hc
  have hrm := fun w => refMay_any a b w hc
  have hm1 := fun w => mask_any bits w hb0 hb1
  have hm2 := fun w => refMask_any bits w hb0 hb1
  have hma := fun w => may_any a b w hc
  have hin := fun w => in_any a b x w hc hx
  have hri := fun w => refIn_any a b x w hc hx
  have hcv := fun w => cov_any a b c d w hc hd
  have hrc := fun w => refCov_any a b c d w hc hd
  rw [hm] at hfi hla hrm hma
  simp only [Bool.false_eq_true, if_false, if_true] at hfi hla
  generalize nIn (a, b) x = i1 at *
  generalize nCov (a, b) (c, d) = k1 at *
  generalize (nMask bits : Int) = mk at *
  have vi : (i1 == i1) = true := by cases i1 <;> rfl
  have vk : (k1 == k1) = true := by cases k1 <;> rfl
  have vm : (mk == mk) = true := by simp
  clear hm
  generalize nhi (a, b) - 1 = y at *
  unfold ntV at *
  go_enter Tryz.func5, Tryz.ntmps5
  go_upto_region 1 with fail
  refine abs (fun w1 => BxN w.heap.size a b c d w1 ∧ Below w.heap.size w w1) ⟨box_two w a b c d, ((Below.refl _ w).alloc (Nat.le_refl _) _).alloc (by simp) _⟩ ?_
  rintro w1 ⟨hS1, f1⟩
  have hS2 := hS1
  obtain ⟨⟨e0, e1⟩, e2, e3⟩ := hS2
  go_wp2_with fail
  refine (hfi _).mono ?_
  rintro _ w2 ⟨rfl, f9⟩
  replace hS1 := hS1.below f9.below
  replace f1 := f1.trans (f9.below.mono f1.size)
  clear e0 e1 e2 e3 f9
  have hS2 := hS1
  obtain ⟨⟨e0, e1⟩, e2, e3⟩ := hS2
  go_wp2_with fail
  refine (hla _).mono ?_
  rintro _ w3 ⟨rfl, f9⟩
  replace hS1 := hS1.below f9.below
  replace f1 := f1.trans (f9.below.mono f1.size)
  clear e0 e1 e2 e3 f9
  have hS2 := hS1
  obtain ⟨⟨e0, e1⟩, e2, e3⟩ := hS2
  go_wp2_with fail
  refine (hhv _).mono ?_
  rintro _ w4 ⟨g, rfl, hg, kg, f9⟩
  have hv := HvN.of kg
  have lg := kg.lt
  replace hS1 := hS1.below f9
  replace f1 := f1.trans (f9.mono f1.size)
  clear e0 e1 e2 e3 f9 hg kg
  have hS2 := hS1
  obtain ⟨⟨e0, e1⟩, e2, e3⟩ := hS2
  go_wp2_with fail
  refine (hrm _).mono ?_
  rintro _ w5 ⟨rfl, f9⟩
  replace hv := hv.below f9.below
  replace hS1 := hS1.below f9.below
  replace f1 := f1.trans (f9.below.mono f1.size)
  clear e0 e1 e2 e3 f9
  have hS2 := hS1
  obtain ⟨⟨e0, e1⟩, e2, e3⟩ := hS2
  go_upto_region 5 with fail
  refine wp_region_order (BxN w.heap.size a b c d) 99 [(0,0), (2,0), (1,1), (3,1), (4,0), (5,0), (6,0), (8,0), (7,1), (9,0), (10,0), (11,0), (12,0), (13,0), (15,0), (16,0), (14,1), (17,1), (18,0), (19,0), (20,0), (21,0), (22,0), (24,0), (25,0), (23,1), (26,1), (27,0), (28,0), (29,0), (30,0), (31,0), (32,0), (33,0), (34,0), (35,0), (36,0), (37,0), (38,0), (39,0), (40,0), (41,0), (42,0), (43,0), (44,0), (45,0), (46,0), (47,0), (48,0)] (by kernel_rfl) (by kernel_rfl) ?_
  simp only [pick, List.filterMap_cons, List.filterMap_nil, List.getElem?_cons_zero, List.getElem?_cons_succ, Option.map_some]
  have hS : BxN w.heap.size a b c d w5.drew := hS1
  have F1 : Below w.heap.size w w5.drew := f1.drew
  have HV : HvN g (a, b + 1) (h, b + 1) w5.drew := hv
  clear hv
  clear f1 hS1 e0 e1 e2 e3
  generalize w5.drew = wd at *
  refine wpF_take (v := ?_) hS rfl ?_ (fun _ _ _ h => h) ?_
  rotate_left
  · intro w' hS'
    obtain ⟨⟨e0, e1⟩, e2, e3⟩ := hS'
    go_simp <;> rfl
  go_simp
  refine wpF_take (v := ?_) hS rfl ?_ (fun _ _ _ h => h) ?_
  rotate_left
  · intro w' hS'
    obtain ⟨⟨e0, e1⟩, e2, e3⟩ := hS'
    go_simp <;> rfl
  go_simp
  refine wpF_only rfl (fun K hK => ?_)
  go_wp2_with fail
  refine (hm1 _).mono ?_
  rintro _ w9 ⟨rfl, rfl⟩
  go_wp2_with fail
  first | refine ⟨fun _ => hS, ?_⟩ | refine ⟨hS, ?_⟩ | skip
  go_simp
  refine wpF_only rfl (fun K hK => ?_)
  go_wp2_with fail
  refine (hm2 _).mono ?_
  rintro _ w9 ⟨rfl, rfl⟩
  go_wp2_with fail
  first | refine ⟨fun _ => hS, ?_⟩ | refine ⟨hS, ?_⟩ | skip
  go_simp
  refine wpF_take (v := ?_) hS rfl ?_ (fun _ _ _ h => h) ?_
  rotate_left
  · intro w' hS'
    obtain ⟨⟨e0, e1⟩, e2, e3⟩ := hS'
    go_simp <;> rfl
  go_simp
  refine wpF_take (v := ?_) hS rfl ?_ (fun _ _ _ h => h) ?_
  rotate_left
  · intro w' hS'
    obtain ⟨⟨e0, e1⟩, e2, e3⟩ := hS'
    go_simp <;> rfl
  go_simp
  refine wpF_take (v := ?_) hS rfl ?_ (fun _ _ _ h => h) ?_
  rotate_left
  · intro w' hS'
    obtain ⟨⟨e0, e1⟩, e2, e3⟩ := hS'
    go_simp <;> rfl
  go_simp
  refine wpF_take (v := ?_) hS rfl ?_ (fun _ _ _ h => h) ?_
  rotate_left
  · intro w' hS'
    obtain ⟨⟨e0, e1⟩, e2, e3⟩ := hS'
    go_simp <;> rfl
  go_simp
  refine wpF_only rfl (fun K hK => ?_)
  go_wp2_with fail
  refine (hma _).mono ?_
  rintro _ w9 ⟨rfl, f9⟩
  replace F1 := F1.trans (f9.below.mono F1.size)
  replace hS := hS.below f9.below
  replace HV := HV.below f9.below
  clear f9
  go_wp2_with fail
  first | refine ⟨fun _ => hS, ?_⟩ | refine ⟨hS, ?_⟩ | skip
  go_simp
  refine wpF_take (v := ?_) hS rfl ?_ (fun _ _ _ h => h) ?_
  rotate_left
  · intro w' hS'
    obtain ⟨⟨e0, e1⟩, e2, e3⟩ := hS'
    go_simp <;> rfl
  go_simp
  refine wpF_take (v := ?_) hS rfl ?_ (fun _ _ _ h => h) ?_
  rotate_left
  · intro w' hS'
    obtain ⟨⟨e0, e1⟩, e2, e3⟩ := hS'
    go_simp <;> rfl
  go_simp
  refine wpF_take (v := ?_) hS rfl ?_ (fun _ _ _ h => h) ?_
  rotate_left
  · intro w' hS'
    obtain ⟨⟨e0, e1⟩, e2, e3⟩ := hS'
    go_simp <;> rfl
  go_simp
  refine wpF_take (v := ?_) hS rfl ?_ (fun _ _ _ h => h) ?_
  rotate_left
  · intro w' hS'
    obtain ⟨⟨e0, e1⟩, e2, e3⟩ := hS'
    go_simp <;> rfl
  go_simp
  refine wpF_take (v := ?_) hS rfl ?_ (fun _ _ _ h => h) ?_
  rotate_left
  · intro w' hS'
    obtain ⟨⟨e0, e1⟩, e2, e3⟩ := hS'
    go_simp <;> rfl
  go_simp
  refine wpF_take (v := ?_) hS rfl ?_ (fun _ _ _ h => h) ?_
  rotate_left
  · intro w' hS'
    obtain ⟨⟨e0, e1⟩, e2, e3⟩ := hS'
    go_simp <;> rfl
  go_simp
  refine wpF_take (v := ?_) hS rfl ?_ (fun _ _ _ h => h) ?_
  rotate_left
  · intro w' hS'
    obtain ⟨⟨e0, e1⟩, e2, e3⟩ := hS'
    go_simp <;> rfl
  go_simp
  refine wpF_only rfl (fun K hK => ?_)
  go_wp2_with fail
  refine (hin _).mono ?_
  rintro _ w9 ⟨rfl, f9⟩
  replace F1 := F1.trans (f9.below.mono F1.size)
  replace hS := hS.below f9.below
  replace HV := HV.below f9.below
  clear f9
  go_wp2_with fail
  first | refine ⟨fun _ => hS, ?_⟩ | refine ⟨hS, ?_⟩ | skip
  go_simp
  refine wpF_only rfl (fun K hK => ?_)
  go_wp2_with fail
  refine (hri _).mono ?_
  rintro _ w9 ⟨rfl, f9⟩
  replace F1 := F1.trans (f9.below.mono F1.size)
  replace hS := hS.below f9.below
  replace HV := HV.below f9.below
  clear f9
  go_wp2_with fail
  first | refine ⟨fun _ => hS, ?_⟩ | refine ⟨hS, ?_⟩ | skip
  go_simp
  refine wpF_take (v := ?_) hS rfl ?_ (fun _ _ _ h => h) ?_
  rotate_left
  · intro w' hS'
    obtain ⟨⟨e0, e1⟩, e2, e3⟩ := hS'
    go_simp <;> rfl
  go_simp
  refine wpF_take (v := ?_) hS rfl ?_ (fun _ _ _ h => h) ?_
  rotate_left
  · intro w' hS'
    obtain ⟨⟨e0, e1⟩, e2, e3⟩ := hS'
    go_simp <;> rfl
  go_simp
  refine wpF_take (v := ?_) hS rfl ?_ (fun _ _ _ h => h) ?_
  rotate_left
  · intro w' hS'
    obtain ⟨⟨e0, e1⟩, e2, e3⟩ := hS'
    go_simp <;> rfl
  go_simp
  refine wpF_take (v := ?_) hS rfl ?_ (fun _ _ _ h => h) ?_
  rotate_left
  · intro w' hS'
    obtain ⟨⟨e0, e1⟩, e2, e3⟩ := hS'
    go_simp <;> rfl
  go_simp
  refine wpF_take (v := ?_) hS rfl ?_ (fun _ _ _ h => h) ?_
  rotate_left
  · intro w' hS'
    obtain ⟨⟨e0, e1⟩, e2, e3⟩ := hS'
    go_simp <;> rfl
  go_simp
  refine wpF_take (v := ?_) hS rfl ?_ (fun _ _ _ h => h) ?_
  rotate_left
  · intro w' hS'
    obtain ⟨⟨e0, e1⟩, e2, e3⟩ := hS'
    go_simp <;> rfl
  go_simp
  refine wpF_take (v := ?_) hS rfl ?_ (fun _ _ _ h => h) ?_
  rotate_left
  · intro w' hS'
    obtain ⟨⟨e0, e1⟩, e2, e3⟩ := hS'
    go_simp <;> rfl
  go_simp
  refine wpF_only rfl (fun K hK => ?_)
  go_wp2_with fail
  refine (hcv _).mono ?_
  rintro _ w9 ⟨rfl, f9⟩
  replace F1 := F1.trans (f9.below.mono F1.size)
  replace hS := hS.below f9.below
  replace HV := HV.below f9.below
  clear f9
  go_wp2_with fail
  first | refine ⟨fun _ => hS, ?_⟩ | refine ⟨hS, ?_⟩ | skip
  go_simp
  refine wpF_only rfl (fun K hK => ?_)
  go_wp2_with fail
  refine (hrc _).mono ?_
  rintro _ w9 ⟨rfl, f9⟩
  replace F1 := F1.trans (f9.below.mono F1.size)
  replace hS := hS.below f9.below
  replace HV := HV.below f9.below
  clear f9
  go_wp2_with fail
  first | refine ⟨fun _ => hS, ?_⟩ | refine ⟨hS, ?_⟩ | skip
  go_simp
  refine wpF_take (v := ?_) hS rfl ?_ (fun _ _ _ h => h) ?_
  rotate_left
  · intro w' hS'
    obtain ⟨⟨e0, e1⟩, e2, e3⟩ := hS'
    go_simp <;> rfl
  go_simp
  refine wpF_take (v := ?_) hS rfl ?_ (fun _ _ _ h => h) ?_
  rotate_left
  · intro w' hS'
    obtain ⟨⟨e0, e1⟩, e2, e3⟩ := hS'
    go_simp <;> rfl
  go_simp
  refine wpF_take (v := ?_) hS rfl ?_ (fun _ _ _ h => h) ?_
  rotate_left
  · intro w' hS'
    obtain ⟨⟨e0, e1⟩, e2, e3⟩ := hS'
    go_simp <;> rfl
  go_simp
  refine wpF_take (v := ?_) hS rfl ?_ (fun _ _ _ h => h) ?_
  rotate_left
  · intro w' hS'
    obtain ⟨⟨e0, e1⟩, e2, e3⟩ := hS'
    go_simp <;> rfl
  go_simp
  refine wpF_take (v := ?_) hS rfl ?_ (fun _ _ _ h => h) ?_
  rotate_left
  · intro w' hS'
    obtain ⟨⟨e0, e1⟩, e2, e3⟩ := hS'
    go_simp <;> rfl
  go_simp
  refine wpF_take (v := ?_) hS rfl ?_ (fun _ _ _ h => h) ?_
  rotate_left
  · intro w' hS'
    obtain ⟨⟨e0, e1⟩, e2, e3⟩ := hS'
    go_simp <;> rfl
  go_simp
  refine wpF_take (v := ?_) hS rfl ?_ (fun _ _ _ h => h) ?_
  rotate_left
  · intro w' hS'
    obtain ⟨⟨e0, e1⟩, e2, e3⟩ := hS'
    go_simp <;> rfl
  go_simp
  refine wpF_take (v := ?_) hS rfl ?_ (fun _ _ _ h => h) ?_
  rotate_left
  · intro w' hS'
    obtain ⟨⟨e0, e1⟩, e2, e3⟩ := hS'
    go_simp <;> rfl
  go_simp
  refine wpF_take (v := ?_) hS rfl ?_ (fun _ _ _ h => h) ?_
  rotate_left
  · intro w' hS'
    obtain ⟨⟨e0, e1⟩, e2, e3⟩ := hS'
    go_simp <;> rfl
  go_simp
  refine wpF_take (v := ?_) hS rfl ?_ (fun _ _ _ h => h) ?_
  rotate_left
  · intro w' hS'
    obtain ⟨⟨e0, e1⟩, e2, e3⟩ := hS'
    go_simp <;> rfl
  go_simp
  refine wpF_take (v := ?_) hS rfl ?_ (fun _ _ _ h => h) ?_
  rotate_left
  · intro w' hS'
    obtain ⟨⟨e0, e1⟩, e2, e3⟩ := hS'
    go_simp <;> rfl
  go_simp
  refine wpF_take (v := ?_) hS rfl ?_ (fun _ _ _ h => h) ?_
  rotate_left
  · intro w' hS'
    obtain ⟨⟨e0, e1⟩, e2, e3⟩ := hS'
    go_simp <;> rfl
  go_simp
  refine wpF_take (v := ?_) hS rfl ?_ (fun _ _ _ h => h) ?_
  rotate_left
  · intro w' hS'
    obtain ⟨⟨e0, e1⟩, e2, e3⟩ := hS'
    go_simp <;> rfl
  go_simp
  refine wpF_take (v := ?_) hS rfl ?_ (fun _ _ _ h => h) ?_
  rotate_left
  · intro w' hS'
    obtain ⟨⟨e0, e1⟩, e2, e3⟩ := hS'
    go_simp <;> rfl
  go_simp
  refine wpF_take (v := ?_) hS rfl ?_ (fun _ _ _ h => h) ?_
  rotate_left
  · intro w' hS'
    obtain ⟨⟨e0, e1⟩, e2, e3⟩ := hS'
    go_simp <;> rfl
  go_simp
  refine wpF_take (v := ?_) hS rfl ?_ (fun _ _ _ h => h) ?_
  rotate_left
  · intro w' hS'
    obtain ⟨⟨e0, e1⟩, e2, e3⟩ := hS'
    go_simp <;> rfl
  go_simp
  refine wpF_take (v := ?_) hS rfl ?_ (fun _ _ _ h => h) ?_
  rotate_left
  · intro w' hS'
    obtain ⟨⟨e0, e1⟩, e2, e3⟩ := hS'
    go_simp <;> rfl
  go_simp
  refine wpF_take (v := ?_) hS rfl ?_ (fun _ _ _ h => h) ?_
  rotate_left
  · intro w' hS'
    obtain ⟨⟨e0, e1⟩, e2, e3⟩ := hS'
    go_simp <;> rfl
  go_simp
  refine wpF_take (v := ?_) hS rfl ?_ (fun _ _ _ h => h) ?_
  rotate_left
  · intro w' hS'
    obtain ⟨⟨e0, e1⟩, e2, e3⟩ := hS'
    go_simp <;> rfl
  go_simp
  refine wpF_take (v := ?_) hS rfl ?_ (fun _ _ _ h => h) ?_
  rotate_left
  · intro w' hS'
    obtain ⟨⟨e0, e1⟩, e2, e3⟩ := hS'
    go_simp <;> rfl
  go_simp
  refine wpF_take (v := ?_) hS rfl ?_ (fun _ _ _ h => h) ?_
  rotate_left
  · intro w' hS'
    obtain ⟨⟨e0, e1⟩, e2, e3⟩ := hS'
    go_simp <;> rfl
  go_simp
  refine wpF_take (v := ?_) hS rfl ?_ (fun _ _ _ h => h) ?_
  rotate_left
  · intro w' hS'
    obtain ⟨⟨e0, e1⟩, e2, e3⟩ := hS'
    go_simp <;> rfl
  go_simp
  refine wpF_nil ?_
  have hS1 := hS
  have f1 := F1
  clear hS F1
  have hS2 := hS1
  obtain ⟨⟨e0, e1⟩, e2, e3⟩ := hS2
  go_wp2_with fail
  refine (hrl _).mono ?_
  rintro _ w6 ⟨rfl, f9⟩
  replace hS1 := hS1.below f9.below
  replace HV := HV.below f9.below
  replace f1 := f1.trans (f9.below.mono f1.size)
  clear e0 e1 e2 e3 f9
  have hS2 := hS1
  obtain ⟨⟨e0, e1⟩, e2, e3⟩ := hS2
  go_upto_region 14 with fail
  refine abs (fun wx => NtS w.heap.size a b c d g (a, b + 1) (h, b + 1) w6.heap.size wx ∧ Below w.heap.size w wx) ⟨⟨hS1.below ((Below.refl _ w6).alloc (Nat.le_refl _) _), HV.below ((Below.refl _ w6).alloc (Nat.le_refl _) _), box_cells w6 a (b + 1)⟩, f1.alloc f1.size _⟩ ?_
  clear hS1 HV f1 e0 e1 e2 e3
  rintro w8 ⟨hT, f1⟩
  generalize w6.heap.size = gl at *
  refine wp_region_order (NtS w.heap.size a b c d g (a, b + 1) (h, b + 1) gl) 99 [(0,0), (1,0), (2,0), (3,0), (4,0), (5,0), (6,0), (7,0), (8,0), (9,0), (10,0), (11,0), (12,0), (13,0), (14,0), (17,0), (18,0), (19,0), (15,1), (16,0), (20,0), (21,0), (22,0), (23,0), (24,1), (25,0), (26,0)] (by kernel_rfl) (by kernel_rfl) ?_
  simp only [pick, List.filterMap_cons, List.filterMap_nil, List.getElem?_cons_zero, List.getElem?_cons_succ, Option.map_some]
  have hS : NtS w.heap.size a b c d g (a, b + 1) (h, b + 1) gl w8.drew := hT
  have F1 : Below w.heap.size w w8.drew := f1.drew
  clear f1 hT
  generalize w8.drew = wd at *
  refine wpF_take (v := ?_) hS rfl ?_ (fun _ _ _ h => h) ?_
  rotate_left
  · intro w' hS'
    obtain ⟨⟨⟨e0, e1⟩, e2, e3⟩, ⟨g0, g1, g2, g3⟩, l0, l1⟩ := hS'
    go_simp <;> rfl
  go_simp
  refine wpF_take (v := ?_) hS rfl ?_ (fun _ _ _ h => h) ?_
  rotate_left
  · intro w' hS'
    obtain ⟨⟨⟨e0, e1⟩, e2, e3⟩, ⟨g0, g1, g2, g3⟩, l0, l1⟩ := hS'
    go_simp <;> rfl
  go_simp
  refine wpF_take (v := ?_) hS rfl ?_ (fun _ _ _ h => h) ?_
  rotate_left
  · intro w' hS'
    obtain ⟨⟨⟨e0, e1⟩, e2, e3⟩, ⟨g0, g1, g2, g3⟩, l0, l1⟩ := hS'
    go_simp <;> rfl
  go_simp
  refine wpF_take (v := ?_) hS rfl ?_ (fun _ _ _ h => h) ?_
  rotate_left
  · intro w' hS'
    obtain ⟨⟨⟨e0, e1⟩, e2, e3⟩, ⟨g0, g1, g2, g3⟩, l0, l1⟩ := hS'
    go_simp <;> rfl
  go_simp
  refine wpF_take (v := ?_) hS rfl ?_ (fun _ _ _ h => h) ?_
  rotate_left
  · intro w' hS'
    obtain ⟨⟨⟨e0, e1⟩, e2, e3⟩, ⟨g0, g1, g2, g3⟩, l0, l1⟩ := hS'
    go_simp <;> rfl
  go_simp
  refine wpF_take (v := ?_) hS rfl ?_ (fun _ _ _ h => h) ?_
  rotate_left
  · intro w' hS'
    obtain ⟨⟨⟨e0, e1⟩, e2, e3⟩, ⟨g0, g1, g2, g3⟩, l0, l1⟩ := hS'
    go_simp <;> rfl
  go_simp
  refine wpF_take (v := ?_) hS rfl ?_ (fun _ _ _ h => h) ?_
  rotate_left
  · intro w' hS'
    obtain ⟨⟨⟨e0, e1⟩, e2, e3⟩, ⟨g0, g1, g2, g3⟩, l0, l1⟩ := hS'
    go_simp <;> rfl
  go_simp
  refine wpF_take (v := ?_) hS rfl ?_ (fun _ _ _ h => h) ?_
  rotate_left
  · intro w' hS'
    obtain ⟨⟨⟨e0, e1⟩, e2, e3⟩, ⟨g0, g1, g2, g3⟩, l0, l1⟩ := hS'
    go_simp <;> rfl
  go_simp
  refine wpF_take (v := ?_) hS rfl ?_ (fun _ _ _ h => h) ?_
  rotate_left
  · intro w' hS'
    obtain ⟨⟨⟨e0, e1⟩, e2, e3⟩, ⟨g0, g1, g2, g3⟩, l0, l1⟩ := hS'
    go_simp <;> rfl
  go_simp
  refine wpF_take (v := ?_) hS rfl ?_ (fun _ _ _ h => h) ?_
  rotate_left
  · intro w' hS'
    obtain ⟨⟨⟨e0, e1⟩, e2, e3⟩, ⟨g0, g1, g2, g3⟩, l0, l1⟩ := hS'
    go_simp <;> rfl
  go_simp
  refine wpF_take (v := ?_) hS rfl ?_ (fun _ _ _ h => h) ?_
  rotate_left
  · intro w' hS'
    obtain ⟨⟨⟨e0, e1⟩, e2, e3⟩, ⟨g0, g1, g2, g3⟩, l0, l1⟩ := hS'
    go_simp <;> rfl
  go_simp
  refine wpF_take (v := ?_) hS rfl ?_ (fun _ _ _ h => h) ?_
  rotate_left
  · intro w' hS'
    obtain ⟨⟨⟨e0, e1⟩, e2, e3⟩, ⟨g0, g1, g2, g3⟩, l0, l1⟩ := hS'
    go_simp <;> rfl
  go_simp
  refine wpF_take (v := ?_) hS rfl ?_ (fun _ _ _ h => h) ?_
  rotate_left
  · intro w' hS'
    obtain ⟨⟨⟨e0, e1⟩, e2, e3⟩, ⟨g0, g1, g2, g3⟩, l0, l1⟩ := hS'
    go_simp <;> rfl
  go_simp
  refine wpF_take (v := ?_) hS rfl ?_ (fun _ _ _ h => h) ?_
  rotate_left
  · intro w' hS'
    obtain ⟨⟨⟨e0, e1⟩, e2, e3⟩, ⟨g0, g1, g2, g3⟩, l0, l1⟩ := hS'
    go_simp <;> rfl
  go_simp
  refine wpF_take (v := ?_) hS rfl ?_ (fun _ _ _ h => h) ?_
  rotate_left
  · intro w' hS'
    obtain ⟨⟨⟨e0, e1⟩, e2, e3⟩, ⟨g0, g1, g2, g3⟩, l0, l1⟩ := hS'
    go_simp <;> rfl
  go_simp
  refine wpF_take (v := ?_) hS rfl ?_ (fun _ _ _ h => h) ?_
  rotate_left
  · intro w' hS'
    obtain ⟨⟨⟨e0, e1⟩, e2, e3⟩, ⟨g0, g1, g2, g3⟩, l0, l1⟩ := hS'
    go_simp <;> rfl
  go_simp
  refine wpF_take (v := ?_) hS rfl ?_ (fun _ _ _ h => h) ?_
  rotate_left
  · intro w' hS'
    obtain ⟨⟨⟨e0, e1⟩, e2, e3⟩, ⟨g0, g1, g2, g3⟩, l0, l1⟩ := hS'
    go_simp <;> rfl
  go_simp
  refine wpF_take (v := ?_) hS rfl ?_ (fun _ _ _ h => h) ?_
  rotate_left
  · intro w' hS'
    obtain ⟨⟨⟨e0, e1⟩, e2, e3⟩, ⟨g0, g1, g2, g3⟩, l0, l1⟩ := hS'
    go_simp <;> rfl
  go_simp
  refine wpF_only rfl (fun K hK => ?_)
  go_wp2_with fail
  refine (hrl2 _).mono ?_
  rintro _ w9 ⟨rfl, f9⟩
  replace F1 := F1.trans (f9.below.mono F1.size)
  replace hS := hS.below f9.below
  clear f9
  go_wp2_with fail
  first | refine ⟨fun _ => hS, ?_⟩ | refine ⟨hS, ?_⟩ | skip
  go_simp
  refine wpF_take (v := ?_) hS rfl ?_ (fun _ _ _ h => h) ?_
  rotate_left
  · intro w' hS'
    obtain ⟨⟨⟨e0, e1⟩, e2, e3⟩, ⟨g0, g1, g2, g3⟩, l0, l1⟩ := hS'
    go_simp <;> rfl
  go_simp
  refine wpF_take (v := ?_) hS rfl ?_ (fun _ _ _ h => h) ?_
  rotate_left
  · intro w' hS'
    obtain ⟨⟨⟨e0, e1⟩, e2, e3⟩, ⟨g0, g1, g2, g3⟩, l0, l1⟩ := hS'
    go_simp <;> rfl
  go_simp
  refine wpF_take (v := ?_) hS rfl ?_ (fun _ _ _ h => h) ?_
  rotate_left
  · intro w' hS'
    obtain ⟨⟨⟨e0, e1⟩, e2, e3⟩, ⟨g0, g1, g2, g3⟩, l0, l1⟩ := hS'
    go_simp <;> rfl
  go_simp
  refine wpF_take (v := ?_) hS rfl ?_ (fun _ _ _ h => h) ?_
  rotate_left
  · intro w' hS'
    obtain ⟨⟨⟨e0, e1⟩, e2, e3⟩, ⟨g0, g1, g2, g3⟩, l0, l1⟩ := hS'
    go_simp <;> rfl
  go_simp
  refine wpF_take (v := ?_) hS rfl ?_ (fun _ _ _ h => h) ?_
  rotate_left
  · intro w' hS'
    obtain ⟨⟨⟨e0, e1⟩, e2, e3⟩, ⟨g0, g1, g2, g3⟩, l0, l1⟩ := hS'
    go_simp <;> rfl
  go_simp
  refine wpF_only rfl (fun K hK => ?_)
  go_wp2_with fail
  refine (awake4_any _ (hW.below hlt F1)).mono ?_
  rintro _ w9 ⟨rfl, f9⟩
  replace F1 := F1.trans (f9.mono F1.size)
  replace hS := hS.below f9
  clear f9
  go_wp2_with fail
  first | refine ⟨fun _ => hS, ?_⟩ | refine ⟨hS, ?_⟩ | skip
  go_simp
  refine wpF_take (v := ?_) hS rfl ?_ (fun _ _ _ h => h) ?_
  rotate_left
  · intro w' hS'
    obtain ⟨⟨⟨e0, e1⟩, e2, e3⟩, ⟨g0, g1, g2, g3⟩, l0, l1⟩ := hS'
    go_simp <;> rfl
  go_simp
  refine wpF_take (v := ?_) hS rfl ?_ (fun _ _ _ h => h) ?_
  rotate_left
  · intro w' hS'
    obtain ⟨⟨⟨e0, e1⟩, e2, e3⟩, ⟨g0, g1, g2, g3⟩, l0, l1⟩ := hS'
    go_simp <;> rfl
  go_simp
  refine wpF_nil ?_
  go_wp2_with fail
  go_ret
  exact ⟨rfl, F1⟩
theorem addrNets_walk (w : World) (hW : LdW w) (bits : Int) (hb0 : -9223372036854775808 ≤ bits) (hb1 : bits ≤ 9223372036854775807) (a : Nat) (b : Int) (hc : okN (a, b)) (c : Nat) (d : Int) (hd : okN (c, d)) (x : Nat) (hx : x < 4294967296) :
    Calls Tryz.prog 5 #[.int .i64 bits, ntV a b, ntV c d, .int .u32 (x : Int)] w fun e w' => e = .returned (.bool true) ∧ Below w.heap.size w w' := by
  rcases hm : nMay (a, b) with _ | _
  · exact addrNets_no w hW bits hb0 hb1 a b hc c d hd x hx hm
  · by_cases h32 : b < 32
    · exact addrNets_two w hW bits hb0 hb1 a b hc c d hd x hx hm h32
    · have h2 := ((nMay_iff (a, b)).1 hm).2.1
      simp only at h2
      exact addrNets_one w hW bits hb0 hb1 a b hc c d hd x hx hm (by omega)
end Go.Proofs.YtddfgalofngoiaaGreatDoor
