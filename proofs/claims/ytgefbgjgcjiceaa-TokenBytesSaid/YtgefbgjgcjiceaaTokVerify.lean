/- token.Verify. Condition: labels of 1000 bytes at most; the root of 2^40 bytes at most. -/
import Derived.Test.YtgefbgjgcjiceaaTokIssue
import Derived.Test.YtgefbgjgcjiceaaMacEqual
import Derived.Test.YtgefbgjgcjiceaaOrder
namespace Go.Proofs.Ytgefbgjgcjiceaa
open Go.RowKit
set_option linter.unusedVariables false
set_option linter.unusedSimpArgs false
/-- What Verify answers, by what it asks. -/
def verN2 (rg tk low high mac early late : Bool) : Nat := if rg = false then 1 else if tk = false then 1 else if low then 7 else if high then 7 else if mac = false then 7 else if early then 9 else if late then 9 else 0
def verN (root : List UInt8) (n o m : Nat) (t : Tk) (now : Nat) : Nat := verN2 (rgOk n o m) (tkOk t) (decide (t.key < o)) (decide (m < t.key)) (decide (t.mac = sigB root t)) (decide (now < t.born)) (decide (t.till ≤ now))
attribute [local irreducible] sigB tkOk rgOk
set_option maxRecDepth 100000 in
set_option maxHeartbeats 4000000 in
theorem verify_any (A : Option Addr) (n c o m : Nat) (root : List UInt8) (t : Tk) (now : Nat) (ht : t.ok) (h1 : t.ns.length ≤ 1000) (h2 : t.sa.length ≤ 1000) (w : World) (hr : RdB w w.heap.size A n root) (hn : n ≤ 1099511627776) :
    Calls Try.prog 15 #[rgV A n c o m, t.v, .int .u64 now] w fun e w' => e = .returned (.int .i64 (verN root n o m t now : Nat)) ∧ Below w.heap.size w w' := by
  have hit : (Try.prog.info? 31).map (·.size) = some t.cells.length := by rw [t.len ht.mac]; kernel_rfl
  have Hit := Lib.hid hit; clear hit
  have hir : (Try.prog.info? 25).map (·.size) = some ([.slice A n c, .int .u64 (o : Int), .int .u64 (m : Int)] : List Value).length := by kernel_rfl
  have Hir := Lib.hid hir; clear hir
  have hsl := sigB_length root t
  have him : (Try.prog.info? 29).map (·.size) = some (bvs t.mac).length := by rw [bvs_length, ht.mac]; kernel_rfl
  have Him := Lib.hid him; clear him
  have hmac := ht.mac
  have hv : verN root n o m t now = verN2 (rgOk n o m) (tkOk t) (decide (t.key < o)) (decide (m < t.key)) (decide (t.mac = sigB root t)) (decide (now < t.born)) (decide (t.till ≤ now)) := rfl
  have HV := Lib.hid hv; clear hv
  have htv : t.v = .agg t.cells.toArray := rfl
  rw [htv]
  unfold rgV
  go_enter Try.func15, Try.ntmps15
  go_upto_region 1 with fail
  refine abs (fun w1 => (Blk w1 w.heap.size 25 [.slice A n c, .int .u64 (o : Int), .int .u64 (m : Int)] ∧ Blk w1 (w.heap.size + 1) 31 t.cells) ∧ Below w.heap.size w w1) ⟨⟨(Blk.of_new w _ _).alloc _, Blk.newAt (by simp) _ _⟩, ((Below.refl _ w).alloc (Nat.le_refl _) _).alloc (by simp) _⟩ ?_
  rintro w1 ⟨⟨kr, kt⟩, f1⟩
  go_wp2_with (first | (refine load_blk kr rfl 25 (.tmp 3) rfl rfl Try.underlying25 Hir.out ?_))
  refine (mayRing_any A n c o m w1).mono ?_
  rintro e w2 ⟨rfl, f2⟩
  replace kr := kr.below f2 kr.lt
  replace kt := kt.below f2 kt.lt
  replace f1 := f1.trans (f2.mono f1.size)
  clear f2
  cases hrg : rgOk n o m
  · go_wp2_with fail
    go_ret
    exact ⟨by rw [HV.out, hrg]; rfl, f1⟩
  go_wp2_with (first | (refine load_blk_if kt rfl 31 (.tmp 4) rfl rfl Try.underlying31 Hit.out ?_))
  refine (tokMay_any t ht w2).mono ?_
  rintro e w3 ⟨rfl, f2⟩
  replace kr := kr.below f2 kr.lt
  replace kt := kt.below f2 kt.lt
  replace f1 := f1.trans (f2.mono f1.size)
  clear f2
  cases htk : tkOk t
  · go_wp2_with fail
    go_ret
    exact ⟨by rw [HV.out, hrg, htk]; rfl, f1⟩
  have hho := tkOk_host htk
  go_upto_region 3 with fail
  have hv2 : verN root n o m t now = verN2 true true (decide (t.key < o)) (decide (m < t.key)) (decide (t.mac = sigB root t)) (decide (now < t.born)) (decide (t.till ≤ now)) := by rw [HV.out, hrg, htk]
  clear HV hrg htk
  have HV := Lib.hid hv2; clear hv2
  by_cases hA : t.key < o
  · have d1 : decide ((t.key : Int) < (o : Int)) = true := by simp; omega
    have e1 : decide (t.key < o) = true := by simp; omega
    refine wp_region_order (fun u => u.cell? ⟨w.heap.size + 1, 7, none⟩ = some (.int .u64 (t.key : Int)) ∧ u.cell? ⟨w.heap.size, 1, none⟩ = some (.int .u64 (o : Int)) ∧ u.cell? ⟨w.heap.size, 2, none⟩ = some (.int .u64 (m : Int)) ∧ Blk u w.heap.size 25 [.slice A n c, .int .u64 (o : Int), .int .u64 (m : Int)] ∧ Blk u (w.heap.size + 1) 31 t.cells) 100 [(0,0), (1,0), (2,0), (3,0), (4,0), (5,0), (6,0), (7,0), (8,0), (9,0), (10,0), (11,0), (12,0), (13,0), (14,0), (15,0), (16,0), (17,1), (18,1), (19,0), (20,0), (21,0)] (by kernel_rfl) (by kernel_rfl) ?_
    simp only [pick, List.filterMap_cons, List.filterMap_nil, List.getElem?_cons_zero, List.getElem?_cons_succ, Option.map_some]
    have kr' := kr.drew
    have kt' := kt.drew
    have hS : (fun u => u.cell? ⟨w.heap.size + 1, 7, none⟩ = some (.int .u64 (t.key : Int)) ∧ u.cell? ⟨w.heap.size, 1, none⟩ = some (.int .u64 (o : Int)) ∧ u.cell? ⟨w.heap.size, 2, none⟩ = some (.int .u64 (m : Int)) ∧ Blk u w.heap.size 25 [.slice A n c, .int .u64 (o : Int), .int .u64 (m : Int)] ∧ Blk u (w.heap.size + 1) 31 t.cells) w3.drew := ⟨kt'.cell 7, kr'.cell 1, kr'.cell 2, kr', kt'⟩
    clear kr' kt'
    refine wpF_take (v := ?_) hS rfl ?_ (fun _ _ _ h => h) ?_
    rotate_left
    · intro w' hS'
      obtain ⟨a1, a2, a3, a4, a5⟩ := hS'
      go_simp <;> rfl
    go_simp
    refine wpF_take (v := ?_) hS rfl ?_ (fun _ _ _ h => h) ?_
    rotate_left
    · intro w' hS'
      obtain ⟨a1, a2, a3, a4, a5⟩ := hS'
      go_simp <;> rfl
    go_simp
    refine wpF_take (v := ?_) hS rfl ?_ (fun _ _ _ h => h) ?_
    rotate_left
    · intro w' hS'
      obtain ⟨a1, a2, a3, a4, a5⟩ := hS'
      go_simp <;> rfl
    go_simp
    refine wpF_take (v := ?_) hS rfl ?_ (fun _ _ _ h => h) ?_
    rotate_left
    · intro w' hS'
      obtain ⟨a1, a2, a3, a4, a5⟩ := hS'
      go_simp <;> rfl
    go_simp
    refine wpF_take (v := ?_) hS rfl ?_ (fun _ _ _ h => h) ?_
    rotate_left
    · intro w' hS'
      obtain ⟨a1, a2, a3, a4, a5⟩ := hS'
      go_simp <;> rfl
    go_simp
    refine wpF_take (v := ?_) hS rfl ?_ (fun _ _ _ h => h) ?_
    rotate_left
    · intro w' hS'
      obtain ⟨a1, a2, a3, a4, a5⟩ := hS'
      go_simp <;> rfl
    go_simp
    refine wpF_skip hS rfl (fun _ _ _ h => h) ?_
    go_simp
    refine wpF_skip hS rfl (fun _ _ _ h => h) ?_
    go_simp
    refine wpF_skip hS rfl (fun _ _ _ h => h) ?_
    go_simp
    refine wpF_skip hS rfl (fun _ _ _ h => h) ?_
    go_simp
    refine wpF_skip hS rfl (fun _ _ _ h => h) ?_
    go_simp
    refine wpF_take (v := ?_) hS rfl ?_ (fun _ _ _ h => h) ?_
    rotate_left
    · intro w' hS'
      obtain ⟨a1, a2, a3, a4, a5⟩ := hS'
      go_simp <;> rfl
    go_simp
    refine wpF_take (v := ?_) hS rfl ?_ (fun _ _ _ h => h) ?_
    rotate_left
    · intro w' hS'
      obtain ⟨a1, a2, a3, a4, a5⟩ := hS'
      go_simp <;> rfl
    go_simp
    refine wpF_skip hS rfl (fun _ _ _ h => h) ?_
    go_simp
    refine wpF_skip hS rfl (fun _ _ _ h => h) ?_
    go_simp
    refine wpF_skip hS rfl (fun _ _ _ h => h) ?_
    go_simp
    refine wpF_skip hS rfl (fun _ _ _ h => h) ?_
    go_simp
    refine wpF_pass rfl (fun _ => hS) ?_
    go_simp
    refine wpF_pass rfl (fun _ => hS) ?_
    go_simp
    refine wpF_skip hS rfl (fun _ _ _ h => h) ?_
    go_simp
    refine wpF_take (v := ?_) hS rfl ?_ (fun _ _ _ h => h) ?_
    rotate_left
    · intro w' hS'
      obtain ⟨a1, a2, a3, a4, a5⟩ := hS'
      go_simp <;> rfl
    go_simp
    refine wpF_take (v := ?_) hS rfl ?_ (fun _ _ _ h => h) ?_
    rotate_left
    · intro w' hS'
      obtain ⟨a1, a2, a3, a4, a5⟩ := hS'
      go_simp <;> rfl
    go_simp
    refine wpF_nil ?_
    go_wp2_with fail
    go_ret
    exact ⟨by rw [HV.out, e1]; rfl, f1.drew⟩
  have d1 : decide ((t.key : Int) < (o : Int)) = false := by simp; omega
  have e1 : decide (t.key < o) = false := by simp; omega
  by_cases hB : m < t.key
  · have d2 : decide ((m : Int) < (t.key : Int)) = true := by simp; omega
    have e2 : decide (m < t.key) = true := by simp; omega
    refine wp_region_order (fun u => u.cell? ⟨w.heap.size + 1, 7, none⟩ = some (.int .u64 (t.key : Int)) ∧ u.cell? ⟨w.heap.size, 1, none⟩ = some (.int .u64 (o : Int)) ∧ u.cell? ⟨w.heap.size, 2, none⟩ = some (.int .u64 (m : Int)) ∧ Blk u w.heap.size 25 [.slice A n c, .int .u64 (o : Int), .int .u64 (m : Int)] ∧ Blk u (w.heap.size + 1) 31 t.cells) 100 [(0,0), (1,0), (2,0), (3,0), (4,0), (5,0), (6,0), (7,0), (8,0), (9,0), (10,0), (11,0), (12,0), (13,0), (14,0), (15,0), (16,0), (17,1), (18,1), (19,0), (20,0), (21,0)] (by kernel_rfl) (by kernel_rfl) ?_
    simp only [pick, List.filterMap_cons, List.filterMap_nil, List.getElem?_cons_zero, List.getElem?_cons_succ, Option.map_some]
    have kr' := kr.drew
    have kt' := kt.drew
    have hS : (fun u => u.cell? ⟨w.heap.size + 1, 7, none⟩ = some (.int .u64 (t.key : Int)) ∧ u.cell? ⟨w.heap.size, 1, none⟩ = some (.int .u64 (o : Int)) ∧ u.cell? ⟨w.heap.size, 2, none⟩ = some (.int .u64 (m : Int)) ∧ Blk u w.heap.size 25 [.slice A n c, .int .u64 (o : Int), .int .u64 (m : Int)] ∧ Blk u (w.heap.size + 1) 31 t.cells) w3.drew := ⟨kt'.cell 7, kr'.cell 1, kr'.cell 2, kr', kt'⟩
    clear kr' kt'
    refine wpF_take (v := ?_) hS rfl ?_ (fun _ _ _ h => h) ?_
    rotate_left
    · intro w' hS'
      obtain ⟨a1, a2, a3, a4, a5⟩ := hS'
      go_simp <;> rfl
    go_simp
    refine wpF_take (v := ?_) hS rfl ?_ (fun _ _ _ h => h) ?_
    rotate_left
    · intro w' hS'
      obtain ⟨a1, a2, a3, a4, a5⟩ := hS'
      go_simp <;> rfl
    go_simp
    refine wpF_take (v := ?_) hS rfl ?_ (fun _ _ _ h => h) ?_
    rotate_left
    · intro w' hS'
      obtain ⟨a1, a2, a3, a4, a5⟩ := hS'
      go_simp <;> rfl
    go_simp
    refine wpF_take (v := ?_) hS rfl ?_ (fun _ _ _ h => h) ?_
    rotate_left
    · intro w' hS'
      obtain ⟨a1, a2, a3, a4, a5⟩ := hS'
      go_simp <;> rfl
    go_simp
    refine wpF_take (v := ?_) hS rfl ?_ (fun _ _ _ h => h) ?_
    rotate_left
    · intro w' hS'
      obtain ⟨a1, a2, a3, a4, a5⟩ := hS'
      go_simp <;> rfl
    go_simp
    refine wpF_take (v := ?_) hS rfl ?_ (fun _ _ _ h => h) ?_
    rotate_left
    · intro w' hS'
      obtain ⟨a1, a2, a3, a4, a5⟩ := hS'
      go_simp <;> rfl
    go_simp
    refine wpF_take (v := ?_) hS rfl ?_ (fun _ _ _ h => h) ?_
    rotate_left
    · intro w' hS'
      obtain ⟨a1, a2, a3, a4, a5⟩ := hS'
      go_simp <;> rfl
    go_simp
    refine wpF_take (v := ?_) hS rfl ?_ (fun _ _ _ h => h) ?_
    rotate_left
    · intro w' hS'
      obtain ⟨a1, a2, a3, a4, a5⟩ := hS'
      go_simp <;> rfl
    go_simp
    refine wpF_take (v := ?_) hS rfl ?_ (fun _ _ _ h => h) ?_
    rotate_left
    · intro w' hS'
      obtain ⟨a1, a2, a3, a4, a5⟩ := hS'
      go_simp <;> rfl
    go_simp
    refine wpF_take (v := ?_) hS rfl ?_ (fun _ _ _ h => h) ?_
    rotate_left
    · intro w' hS'
      obtain ⟨a1, a2, a3, a4, a5⟩ := hS'
      go_simp <;> rfl
    go_simp
    refine wpF_take (v := ?_) hS rfl ?_ (fun _ _ _ h => h) ?_
    rotate_left
    · intro w' hS'
      obtain ⟨a1, a2, a3, a4, a5⟩ := hS'
      go_simp <;> rfl
    go_simp
    refine wpF_take (v := ?_) hS rfl ?_ (fun _ _ _ h => h) ?_
    rotate_left
    · intro w' hS'
      obtain ⟨a1, a2, a3, a4, a5⟩ := hS'
      go_simp <;> rfl
    go_simp
    refine wpF_take (v := ?_) hS rfl ?_ (fun _ _ _ h => h) ?_
    rotate_left
    · intro w' hS'
      obtain ⟨a1, a2, a3, a4, a5⟩ := hS'
      go_simp <;> rfl
    go_simp
    refine wpF_skip hS rfl (fun _ _ _ h => h) ?_
    go_simp
    refine wpF_skip hS rfl (fun _ _ _ h => h) ?_
    go_simp
    refine wpF_skip hS rfl (fun _ _ _ h => h) ?_
    go_simp
    refine wpF_skip hS rfl (fun _ _ _ h => h) ?_
    go_simp
    refine wpF_pass rfl (fun _ => hS) ?_
    go_simp
    refine wpF_pass rfl (fun _ => hS) ?_
    go_simp
    refine wpF_skip hS rfl (fun _ _ _ h => h) ?_
    go_simp
    refine wpF_take (v := ?_) hS rfl ?_ (fun _ _ _ h => h) ?_
    rotate_left
    · intro w' hS'
      obtain ⟨a1, a2, a3, a4, a5⟩ := hS'
      go_simp <;> rfl
    go_simp
    refine wpF_take (v := ?_) hS rfl ?_ (fun _ _ _ h => h) ?_
    rotate_left
    · intro w' hS'
      obtain ⟨a1, a2, a3, a4, a5⟩ := hS'
      go_simp <;> rfl
    go_simp
    refine wpF_nil ?_
    go_wp2_with fail
    go_ret
    exact ⟨by rw [HV.out, e1, e2]; rfl, f1.drew⟩
  have d2 : decide ((m : Int) < (t.key : Int)) = false := by simp; omega
  have e2 : decide (m < t.key) = false := by simp; omega
  refine wp_region_order (fun u => u.cell? ⟨w.heap.size + 1, 7, none⟩ = some (.int .u64 (t.key : Int)) ∧ u.cell? ⟨w.heap.size, 1, none⟩ = some (.int .u64 (o : Int)) ∧ u.cell? ⟨w.heap.size, 2, none⟩ = some (.int .u64 (m : Int)) ∧ Blk u w.heap.size 25 [.slice A n c, .int .u64 (o : Int), .int .u64 (m : Int)] ∧ Blk u (w.heap.size + 1) 31 t.cells) 100 [(0,0), (1,0), (2,0), (3,0), (4,0), (5,0), (6,0), (7,0), (8,0), (9,0), (10,0), (11,0), (12,0), (13,0), (14,0), (15,0), (16,0), (17,1), (18,1), (19,0), (20,0), (21,0)] (by kernel_rfl) (by kernel_rfl) ?_
  simp only [pick, List.filterMap_cons, List.filterMap_nil, List.getElem?_cons_zero, List.getElem?_cons_succ, Option.map_some]
  have kr' := kr.drew
  have kt' := kt.drew
  have hS : (fun u => u.cell? ⟨w.heap.size + 1, 7, none⟩ = some (.int .u64 (t.key : Int)) ∧ u.cell? ⟨w.heap.size, 1, none⟩ = some (.int .u64 (o : Int)) ∧ u.cell? ⟨w.heap.size, 2, none⟩ = some (.int .u64 (m : Int)) ∧ Blk u w.heap.size 25 [.slice A n c, .int .u64 (o : Int), .int .u64 (m : Int)] ∧ Blk u (w.heap.size + 1) 31 t.cells) w3.drew := ⟨kt'.cell 7, kr'.cell 1, kr'.cell 2, kr', kt'⟩
  clear kr' kt'
  refine wpF_take (v := ?_) hS rfl ?_ (fun _ _ _ h => h) ?_
  rotate_left
  · intro w' hS'
    obtain ⟨a1, a2, a3, a4, a5⟩ := hS'
    go_simp <;> rfl
  go_simp
  refine wpF_take (v := ?_) hS rfl ?_ (fun _ _ _ h => h) ?_
  rotate_left
  · intro w' hS'
    obtain ⟨a1, a2, a3, a4, a5⟩ := hS'
    go_simp <;> rfl
  go_simp
  refine wpF_take (v := ?_) hS rfl ?_ (fun _ _ _ h => h) ?_
  rotate_left
  · intro w' hS'
    obtain ⟨a1, a2, a3, a4, a5⟩ := hS'
    go_simp <;> rfl
  go_simp
  refine wpF_take (v := ?_) hS rfl ?_ (fun _ _ _ h => h) ?_
  rotate_left
  · intro w' hS'
    obtain ⟨a1, a2, a3, a4, a5⟩ := hS'
    go_simp <;> rfl
  go_simp
  refine wpF_take (v := ?_) hS rfl ?_ (fun _ _ _ h => h) ?_
  rotate_left
  · intro w' hS'
    obtain ⟨a1, a2, a3, a4, a5⟩ := hS'
    go_simp <;> rfl
  go_simp
  refine wpF_take (v := ?_) hS rfl ?_ (fun _ _ _ h => h) ?_
  rotate_left
  · intro w' hS'
    obtain ⟨a1, a2, a3, a4, a5⟩ := hS'
    go_simp <;> rfl
  go_simp
  refine wpF_take (v := ?_) hS rfl ?_ (fun _ _ _ h => h) ?_
  rotate_left
  · intro w' hS'
    obtain ⟨a1, a2, a3, a4, a5⟩ := hS'
    go_simp <;> rfl
  go_simp
  refine wpF_take (v := ?_) hS rfl ?_ (fun _ _ _ h => h) ?_
  rotate_left
  · intro w' hS'
    obtain ⟨a1, a2, a3, a4, a5⟩ := hS'
    go_simp <;> rfl
  go_simp
  refine wpF_take (v := ?_) hS rfl ?_ (fun _ _ _ h => h) ?_
  rotate_left
  · intro w' hS'
    obtain ⟨a1, a2, a3, a4, a5⟩ := hS'
    go_simp <;> rfl
  go_simp
  refine wpF_take (v := ?_) hS rfl ?_ (fun _ _ _ h => h) ?_
  rotate_left
  · intro w' hS'
    obtain ⟨a1, a2, a3, a4, a5⟩ := hS'
    go_simp <;> rfl
  go_simp
  refine wpF_take (v := ?_) hS rfl ?_ (fun _ _ _ h => h) ?_
  rotate_left
  · intro w' hS'
    obtain ⟨a1, a2, a3, a4, a5⟩ := hS'
    go_simp <;> rfl
  go_simp
  refine wpF_take (v := ?_) hS rfl ?_ (fun _ _ _ h => h) ?_
  rotate_left
  · intro w' hS'
    obtain ⟨a1, a2, a3, a4, a5⟩ := hS'
    go_simp <;> rfl
  go_simp
  refine wpF_take (v := ?_) hS rfl ?_ (fun _ _ _ h => h) ?_
  rotate_left
  · intro w' hS'
    obtain ⟨a1, a2, a3, a4, a5⟩ := hS'
    go_simp <;> rfl
  go_simp
  refine wpF_take (v := ?_) hS rfl ?_ (fun _ _ _ h => h) ?_
  rotate_left
  · intro w' hS'
    obtain ⟨a1, a2, a3, a4, a5⟩ := hS'
    go_simp <;> rfl
  go_simp
  refine wpF_load (cs := bvs t.mac) (off := 8) hS rfl 29 (.tmp 30) rfl rfl (fun _ h => by rw [← t.macs hmac]; exact h.2.2.2.2.range 8 32) Try.underlying29 Him.out (fun _ _ _ h => h) ?_
  go_simp
  refine wpF_load hS rfl 25 (.tmp 3) rfl rfl (fun _ h => h.2.2.2.1.whole) Try.underlying25 Hir.out (fun _ _ _ h => h) ?_
  go_simp
  refine wpF_load hS rfl 31 (.tmp 4) rfl rfl (fun _ h => h.2.2.2.2.whole) Try.underlying31 Hit.out (fun _ _ _ h => h) ?_
  go_simp
  refine wpF_only rfl (fun K hK => ?_)
  go_wp2_with fail
  rw [← htv]
  refine (sum2_any A n c o m root t ht h1 h2 (by omega) w3.drew ((hr.below f1.drew).more f1.drew.size) hn).mono ?_
  rintro e w4 ⟨rfl, f4⟩
  have kr4 : Blk w4 w.heap.size 25 [.slice A n c, .int .u64 (o : Int), .int .u64 (m : Int)] := kr.drew.below f4 kr.lt
  have kt4 : Blk w4 (w.heap.size + 1) 31 t.cells := kt.drew.below f4 kt.lt
  replace hS : (fun u => u.cell? ⟨w.heap.size + 1, 7, none⟩ = some (.int .u64 (t.key : Int)) ∧ u.cell? ⟨w.heap.size, 1, none⟩ = some (.int .u64 (o : Int)) ∧ u.cell? ⟨w.heap.size, 2, none⟩ = some (.int .u64 (m : Int)) ∧ Blk u w.heap.size 25 [.slice A n c, .int .u64 (o : Int), .int .u64 (m : Int)] ∧ Blk u (w.heap.size + 1) 31 t.cells) w4 := ⟨kt4.cell 7, kr4.cell 1, kr4.cell 2, kr4, kt4⟩
  have f14 := f1.drew.trans (f4.mono f1.size)
  clear kr kt f1 f4
  generalize sigB root t = sg at *
  go_wp2_with fail
  refine ⟨fun _ => hS, ?_⟩
  go_simp
  refine wpF_only rfl (fun K hK => ?_)
  go_wp2_with fail
  refine (equal_any t.mac sg w4 hmac hsl).mono ?_
  rintro e w5 ⟨rfl, f5⟩
  have kr5 := kr4.below f5 kr4.lt
  have kt5 := kt4.below f5 kt4.lt
  replace hS : (fun u => u.cell? ⟨w.heap.size + 1, 7, none⟩ = some (.int .u64 (t.key : Int)) ∧ u.cell? ⟨w.heap.size, 1, none⟩ = some (.int .u64 (o : Int)) ∧ u.cell? ⟨w.heap.size, 2, none⟩ = some (.int .u64 (m : Int)) ∧ Blk u w.heap.size 25 [.slice A n c, .int .u64 (o : Int), .int .u64 (m : Int)] ∧ Blk u (w.heap.size + 1) 31 t.cells) w5 := ⟨kt5.cell 7, kr5.cell 1, kr5.cell 2, kr5, kt5⟩
  have f15 := f14.trans (f5.mono f14.size)
  clear kr4 kt4 f14 f5
  go_wp2_with fail
  refine ⟨fun _ => hS, ?_⟩
  go_simp
  refine wpF_take (v := ?_) hS rfl ?_ (fun _ _ _ h => h) ?_
  rotate_left
  · intro w' hS'
    obtain ⟨a1, a2, a3, a4, a5⟩ := hS'
    go_simp <;> rfl
  go_simp
  refine wpF_take (v := ?_) hS rfl ?_ (fun _ _ _ h => h) ?_
  rotate_left
  · intro w' hS'
    obtain ⟨a1, a2, a3, a4, a5⟩ := hS'
    go_simp <;> rfl
  go_simp
  refine wpF_take (v := ?_) hS rfl ?_ (fun _ _ _ h => h) ?_
  rotate_left
  · intro w' hS'
    obtain ⟨a1, a2, a3, a4, a5⟩ := hS'
    go_simp <;> rfl
  go_simp
  refine wpF_nil ?_
  cases hm : decide (t.mac = sg)
  · go_wp2_with fail
    go_ret
    exact ⟨by rw [HV.out, e1, e2, hm]; rfl, f15⟩
  have qb : w5.cell? ⟨w.heap.size + 1, 5, none⟩ = some (.int .u64 (t.born : Int)) := kt5.cell 5
  have qt : w5.cell? ⟨w.heap.size + 1, 6, none⟩ = some (.int .u64 (t.till : Int)) := kt5.cell 6
  by_cases hb : now < t.born
  · have d3 : decide ((now : Int) < (t.born : Int)) = true := by simp; omega
    have e3 : decide (now < t.born) = true := by simp; omega
    go_wp2_with fail
    go_ret
    exact ⟨by rw [HV.out, e1, e2, hm, e3]; rfl, f15⟩
  have d3 : decide ((now : Int) < (t.born : Int)) = false := by simp; omega
  have e3 : decide (now < t.born) = false := by simp; omega
  by_cases hl : t.till ≤ now
  · have d4 : decide ((t.till : Int) ≤ (now : Int)) = true := by simp; omega
    have e4 : decide (t.till ≤ now) = true := by simp; omega
    go_wp2_with fail
    go_ret
    exact ⟨by rw [HV.out, e1, e2, hm, e3, e4]; rfl, f15⟩
  have d4 : decide ((t.till : Int) ≤ (now : Int)) = false := by simp; omega
  have e4 : decide (t.till ≤ now) = false := by simp; omega
  go_wp2_with fail
  go_ret
  exact ⟨by rw [HV.out, e1, e2, hm, e3, e4]; rfl, f15⟩
end Go.Proofs.Ytgefbgjgcjiceaa
