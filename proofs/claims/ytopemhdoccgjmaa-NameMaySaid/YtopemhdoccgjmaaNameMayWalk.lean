/- The law NameMay, walked. No condition beyond the world's shape. -/
import Derived.Test.YtopemhdoccgjmaaNameAwake
import Derived.Test.YtopemhdoccgjmaaNameOpen
import Derived.Test.YtopemhdoccgjmaaCmp2
namespace Go.Proofs.Ytopemhdoccgjmaa
open Go.RowKit
set_option linter.unusedVariables false
def NmS (g : Nat) (a b c d : List UInt8) (u : World) : Prop := u.cell? ⟨g, 0, none⟩ = some (.string (strB a)) ∧ u.cell? ⟨g, 1, none⟩ = some (.string (strB b)) ∧ u.cell? ⟨g + 1, 0, none⟩ = some (.string (strB c)) ∧ u.cell? ⟨g + 1, 1, none⟩ = some (.string (strB d))
theorem NmS.below {g : Nat} {a b c d : List UInt8} {u v : World} (h : NmS g a b c d u) (hb : Below u.heap.size u v) : NmS g a b c d v := by
  obtain ⟨e0, e1, e2, e3⟩ := h
  have l0 := World.block_lt_of_cell? u _ e0
  have l1 := World.block_lt_of_cell? u _ e1
  have l2 := World.block_lt_of_cell? u _ e2
  have l3 := World.block_lt_of_cell? u _ e3
  exact ⟨(hb.cell (p := ⟨g, 0, none⟩) l0).trans e0, (hb.cell (p := ⟨g, 1, none⟩) l1).trans e1, (hb.cell (p := ⟨g + 1, 0, none⟩) l2).trans e2, (hb.cell (p := ⟨g + 1, 1, none⟩) l3).trans e3⟩
set_option maxRecDepth 100000 in
set_option maxHeartbeats 8000000 in
theorem nameMay_walk (w : World) (hL : LibW w) (l : List UInt8) (hlb : l.length ≤ maxLen) (an as_ : List UInt8) (h1 : an.length ≤ maxLen) (h2 : as_.length ≤ maxLen) (bn bs : List UInt8) (h3 : bn.length ≤ maxLen) (h4 : bs.length ≤ maxLen) :
    Calls Try.prog 5 #[.string (strB l), nmV an as_, nmV bn bs] w fun e w' => e = .returned (.bool true) ∧ Below w.heap.size w w' := by
  have a0 : l.length ≤ 9223372036854775807 := by simp only [maxLen] at hlb; omega
  have a1 : an.length ≤ 9223372036854775807 := by simp only [maxLen] at h1; omega
  have a2 : as_.length ≤ 9223372036854775807 := by simp only [maxLen] at h2; omega
  have a3 : bn.length ≤ 9223372036854775807 := by simp only [maxLen] at h3; omega
  have a4 : bs.length ≤ 9223372036854775807 := by simp only [maxLen] at h4; omega
  clear h1 h2 h3 h4 hlb
  have h0 := hL.lt
  have z0 := strB_size l
  have z1 := strB_size an
  have z2 := strB_size as_
  have z3 := strB_size bn
  have z4 := strB_size bs
  have hpa := fun w => print_any an as_ a1 a2 w
  have hma := fun w => may_any an as_ a1 a2 w
  have hra := fun w => refMay_any an as_ a1 a2 w
  have hcm := fun w => cmp_any an as_ bn bs w
  unfold nmV at hpa hma hra hcm ⊢
  go_enter Try.func5, Try.ntmps5
  go_upto_region 1 with fail
  refine abs (fun w1 => NmS w.heap.size an as_ bn bs w1 ∧ Below w.heap.size w w1) ⟨⟨?_, ?_, ?_, ?_⟩, ((Below.refl _ w).alloc (Nat.le_refl _) _).alloc (by simp) _⟩ ?_
  · exact ((Blk.newAt rfl 24 #[.string (strB an), .string (strB as_)]).alloc _).cell 0
  · exact ((Blk.newAt rfl 24 #[.string (strB an), .string (strB as_)]).alloc _).cell 1
  · exact (Blk.newAt (by simp) 24 #[.string (strB bn), .string (strB bs)]).cell 0
  · exact (Blk.newAt (by simp) 24 #[.string (strB bn), .string (strB bs)]).cell 1
  rintro w1 ⟨hc, f1⟩
  have hS0 := hc
  obtain ⟨e0, e1, e2, e3⟩ := hc
  by_cases q0 : 1000 < l.length
  · have d0 : decide ((1000 : Int) < (l.length : Int)) = true := by simp; omega
    go_wp2_with fail
    refine (awake5_any w1 (hL.below h0 f1)).mono ?_
    rintro e w2 ⟨rfl, f2⟩
    go_wp2_with fail
    go_ret
    exact ⟨rfl, f1.trans (f2.mono f1.size)⟩
  have d0 : decide ((1000 : Int) < (l.length : Int)) = false := by simp; omega
  by_cases q1 : 1000 < an.length
  · have d1 : decide ((1000 : Int) < (an.length : Int)) = true := by simp; omega
    go_wp2_with fail
    refine (awake5_any w1 (hL.below h0 f1)).mono ?_
    rintro e w2 ⟨rfl, f2⟩
    go_wp2_with fail
    go_ret
    exact ⟨rfl, f1.trans (f2.mono f1.size)⟩
  have d1 : decide ((1000 : Int) < (an.length : Int)) = false := by simp; omega
  by_cases q2 : 1000 < as_.length
  · have d2 : decide ((1000 : Int) < (as_.length : Int)) = true := by simp; omega
    go_wp2_with fail
    refine (awake5_any w1 (hL.below h0 f1)).mono ?_
    rintro e w2 ⟨rfl, f2⟩
    go_wp2_with fail
    go_ret
    exact ⟨rfl, f1.trans (f2.mono f1.size)⟩
  have d2 : decide ((1000 : Int) < (as_.length : Int)) = false := by simp; omega
  by_cases q3 : 1000 < bn.length
  · have d3 : decide ((1000 : Int) < (bn.length : Int)) = true := by simp; omega
    go_wp2_with fail
    refine (awake5_any w1 (hL.below h0 f1)).mono ?_
    rintro e w2 ⟨rfl, f2⟩
    go_wp2_with fail
    go_ret
    exact ⟨rfl, f1.trans (f2.mono f1.size)⟩
  have d3 : decide ((1000 : Int) < (bn.length : Int)) = false := by simp; omega
  by_cases q4 : 1000 < bs.length
  · have d4 : decide ((1000 : Int) < (bs.length : Int)) = true := by simp; omega
    go_wp2_with fail
    refine (awake5_any w1 (hL.below h0 f1)).mono ?_
    rintro e w2 ⟨rfl, f2⟩
    go_wp2_with fail
    go_ret
    exact ⟨rfl, f1.trans (f2.mono f1.size)⟩
  have d4 : decide ((1000 : Int) < (bs.length : Int)) = false := by simp; omega
  have hrc := fun w => refCmp_any an as_ bn bs (by omega) (by omega) (by omega) (by omega) w
  have hrp := fun w => refPrint_any an as_ (by omega) (by omega) w
  unfold nmV at hrc hrp
  go_wp2_with fail
  refine wp_region_order (NmS w.heap.size an as_ bn bs) 99 [(0,0), (2,0), (1,1), (3,1), (4,0), (5,0), (6,0), (8,0), (7,1), (9,1), (10,0), (11,0), (12,0), (13,0), (14,0), (16,0), (17,0), (15,1), (18,1), (19,0), (20,0)] (by kernel_rfl) (by kernel_rfl) ?_
  simp only [pick, List.filterMap_cons, List.filterMap_nil, List.getElem?_cons_zero, List.getElem?_cons_succ, Option.map_some]
  have hS : NmS w.heap.size an as_ bn bs w1.drew := hS0
  have F : Below w.heap.size w w1.drew := f1.drew
  clear hS0 f1 e0 e1 e2 e3
  generalize w1.drew = wd at *
  refine wpF_take (v := ?_) hS rfl ?_ (fun _ _ _ h => h) ?_
  rotate_left
  · intro w' hS'
    obtain ⟨e0, e1, e2, e3⟩ := hS'
    go_simp <;> rfl
  go_simp
  refine wpF_take (v := ?_) hS rfl ?_ (fun _ _ _ h => h) ?_
  rotate_left
  · intro w' hS'
    obtain ⟨e0, e1, e2, e3⟩ := hS'
    go_simp <;> rfl
  go_simp
  refine wpF_only rfl (fun K hK => ?_)
  go_wp2_with fail
  refine (mayLabel_any l a0 _).mono ?_
  rintro e wq ⟨rfl, fq⟩
  replace hS := hS.below fq
  replace F := F.trans (fq.mono F.size)
  clear fq
  go_wp2_with fail
  first | refine ⟨fun _ => hS, ?_⟩ | refine ⟨hS, ?_⟩ | skip
  go_simp
  refine wpF_only rfl (fun K hK => ?_)
  go_wp2_with fail
  refine (refLabel_any l a0 _).mono ?_
  rintro e wq ⟨rfl, rfl⟩
  go_wp2_with fail
  first | refine ⟨fun _ => hS, ?_⟩ | refine ⟨hS, ?_⟩ | skip
  go_simp
  refine wpF_take (v := ?_) hS rfl ?_ (fun _ _ _ h => h) ?_
  rotate_left
  · intro w' hS'
    obtain ⟨e0, e1, e2, e3⟩ := hS'
    go_simp <;> rfl
  go_simp
  refine wpF_take (v := ?_) hS rfl ?_ (fun _ _ _ h => h) ?_
  rotate_left
  · intro w' hS'
    obtain ⟨e0, e1, e2, e3⟩ := hS'
    go_simp <;> rfl
  go_simp
  refine wpF_take (v := ?_) hS rfl ?_ (fun _ _ _ h => h) ?_
  rotate_left
  · intro w' hS'
    obtain ⟨e0, e1, e2, e3⟩ := hS'
    go_simp <;> rfl
  go_simp
  refine wpF_take (v := ?_) hS rfl ?_ (fun _ _ _ h => h) ?_
  rotate_left
  · intro w' hS'
    obtain ⟨e0, e1, e2, e3⟩ := hS'
    go_simp <;> rfl
  go_simp
  refine wpF_only rfl (fun K hK => ?_)
  go_wp2_with fail
  refine (hma _).mono ?_
  rintro e wq ⟨rfl, fq⟩
  replace hS := hS.below fq
  replace F := F.trans (fq.mono F.size)
  clear fq
  go_wp2_with fail
  first | refine ⟨fun _ => hS, ?_⟩ | refine ⟨hS, ?_⟩ | skip
  go_simp
  refine wpF_only rfl (fun K hK => ?_)
  go_wp2_with fail
  refine (hra _).mono ?_
  rintro e wq ⟨rfl, fq⟩
  replace hS := hS.below fq
  replace F := F.trans (fq.mono F.size)
  clear fq
  go_wp2_with fail
  first | refine ⟨fun _ => hS, ?_⟩ | refine ⟨hS, ?_⟩ | skip
  go_simp
  refine wpF_take (v := ?_) hS rfl ?_ (fun _ _ _ h => h) ?_
  rotate_left
  · intro w' hS'
    obtain ⟨e0, e1, e2, e3⟩ := hS'
    go_simp <;> rfl
  go_simp
  refine wpF_take (v := ?_) hS rfl ?_ (fun _ _ _ h => h) ?_
  rotate_left
  · intro w' hS'
    obtain ⟨e0, e1, e2, e3⟩ := hS'
    go_simp <;> rfl
  go_simp
  refine wpF_take (v := ?_) hS rfl ?_ (fun _ _ _ h => h) ?_
  rotate_left
  · intro w' hS'
    obtain ⟨e0, e1, e2, e3⟩ := hS'
    go_simp <;> rfl
  go_simp
  refine wpF_take (v := ?_) hS rfl ?_ (fun _ _ _ h => h) ?_
  rotate_left
  · intro w' hS'
    obtain ⟨e0, e1, e2, e3⟩ := hS'
    go_simp <;> rfl
  go_simp
  refine wpF_take (v := ?_) hS rfl ?_ (fun _ _ _ h => h) ?_
  rotate_left
  · intro w' hS'
    obtain ⟨e0, e1, e2, e3⟩ := hS'
    go_simp <;> rfl
  go_simp
  refine wpF_take (v := ?_) hS rfl ?_ (fun _ _ _ h => h) ?_
  rotate_left
  · intro w' hS'
    obtain ⟨e0, e1, e2, e3⟩ := hS'
    go_simp <;> rfl
  go_simp
  refine wpF_take (v := ?_) hS rfl ?_ (fun _ _ _ h => h) ?_
  rotate_left
  · intro w' hS'
    obtain ⟨e0, e1, e2, e3⟩ := hS'
    go_simp <;> rfl
  go_simp
  refine wpF_only rfl (fun K hK => ?_)
  go_wp2_with fail
  refine (hcm _).mono ?_
  rintro e wq ⟨rfl, fq⟩
  replace hS := hS.below fq
  replace F := F.trans (fq.mono F.size)
  clear fq
  go_wp2_with fail
  first | refine ⟨fun _ => hS, ?_⟩ | refine ⟨hS, ?_⟩ | skip
  go_simp
  refine wpF_only rfl (fun K hK => ?_)
  go_wp2_with fail
  refine (hrc _).mono ?_
  rintro e wq ⟨rfl, fq⟩
  replace hS := hS.below fq
  replace F := F.trans (fq.mono F.size)
  clear fq
  go_wp2_with fail
  first | refine ⟨fun _ => hS, ?_⟩ | refine ⟨hS, ?_⟩ | skip
  go_simp
  refine wpF_take (v := ?_) hS rfl ?_ (fun _ _ _ h => h) ?_
  rotate_left
  · intro w' hS'
    obtain ⟨e0, e1, e2, e3⟩ := hS'
    go_simp <;> rfl
  go_simp
  refine wpF_take (v := ?_) hS rfl ?_ (fun _ _ _ h => h) ?_
  rotate_left
  · intro w' hS'
    obtain ⟨e0, e1, e2, e3⟩ := hS'
    go_simp <;> rfl
  go_simp
  refine wpF_nil ?_
  obtain ⟨e0, e1, e2, e3⟩ := hS
  go_wp2_with fail
  refine (hpa _).mono ?_
  rintro e w3 ⟨rfl, f3⟩
  have l0 := World.block_lt_of_cell? _ _ e0
  have l1 := World.block_lt_of_cell? _ _ e1
  replace e0 := (f3.cell (p := ⟨w.heap.size, 0, none⟩) l0).trans e0
  replace e1 := (f3.cell (p := ⟨w.heap.size, 1, none⟩) l1).trans e1
  have F3 := F.trans (f3.mono F.size)
  clear e2 e3 f3 F
  cases hb : mayN an as_
  · have Hb := Lib.hid hb
    clear hb
    rw [prV_no Hb.out]
    go_wp2_with fail
    refine (hra _).mono ?_
    rintro e w4 ⟨rfl, f4⟩
    rw [Hb.out]
    have F4 := F3.trans (f4.mono F3.size)
    clear e0 e1 f4 F3
    go_wp2_with fail
    refine (awake5_any _ (hL.below h0 F4)).mono ?_
    rintro e w5 ⟨rfl, f5⟩
    go_wp2_with fail
    go_ret
    exact ⟨rfl, F4.trans (f5.mono F4.size)⟩
  · have Hb := Lib.hid hb
    clear hb
    rw [prV_yes Hb.out]
    go_wp2_with fail
    refine (hra _).mono ?_
    rintro e w4 ⟨rfl, f4⟩
    rw [Hb.out]
    have l0 := World.block_lt_of_cell? _ _ e0
    have l1 := World.block_lt_of_cell? _ _ e1
    replace e0 := (f4.cell (p := ⟨w.heap.size, 0, none⟩) l0).trans e0
    replace e1 := (f4.cell (p := ⟨w.heap.size, 1, none⟩) l1).trans e1
    have F4 := F3.trans (f4.mono F3.size)
    clear f4 F3
    go_wp2_with fail
    refine (hrp _).mono ?_
    rintro e w5 ⟨rfl, f5⟩
    have F5 := F4.trans (f5.mono F4.size)
    clear e0 e1 f5 F4
    go_wp2_with fail
    refine (awake5_any _ (hL.below h0 F5)).mono ?_
    rintro e w6 ⟨rfl, f6⟩
    go_wp2_with fail
    go_ret
    exact ⟨rfl, F5.trans (f6.mono F5.size)⟩
end Go.Proofs.Ytopemhdoccgjmaa
