/- hex (law 01): what it answers. No condition. -/
import Derived.Test.YthjaomkjjlgjeaaShaAwake
import Derived.Test.YthjaomkjjlgjeaaFacts
import Derived.Test.YthjaomkjjlgjeaaOrder
namespace Go.Proofs.Ythjaomkjjlgjeaa
open Go.RowKit
set_option linter.unusedSimpArgs false
set_option linter.unusedVariables false
def digits : List UInt8 := [48, 49, 50, 51, 52, 53, 54, 55, 56, 57, 97, 98, 99, 100, 101, 102]
def hexB (l : List UInt8) : List UInt8 := l.flatMap fun b => [at8 digits (b.toNat / 16), at8 digits (b.toNat % 16)]
theorem hexB_length (l : List UInt8) : (hexB l).length = 2 * l.length := by
  induction l with
  | nil => rfl
  | cons b l ih => simp only [hexB, List.flatMap_cons, List.length_append, List.length_cons, List.length_nil] at *; omega
theorem strB_append (l m : List UInt8) : strB l ++ strB m = strB (l ++ m) := by
  apply ByteArray.ext
  simp [strB]
theorem hexB_succ (l : List UInt8) (k : Nat) (h : k < l.length) : hexB (l.take (k + 1)) = (hexB (l.take k) ++ [at8 digits ((at8 l k).toNat / 16)]) ++ [at8 digits ((at8 l k).toNat % 16)] := by
  rw [List.take_succ_eq_append_getElem h]
  unfold hexB
  rw [List.flatMap_append]
  simp [at8, h]
theorem run_dig {P : Program} {t : TypeId} (ht : P.underlying t = some .string) (w : World) (X : Nat) (hX : X < 16) :
    (Instr.sliceAt t (.string { data := #[48, 49, 50, 51, 52, 53, 54, 55, 56, 57, 97, 98, 99, 100, 101, 102] }) (some (.int .u8 (X : Int))) (some (.int .u8 ((X : Int) + 1))) none).run P w = .ok (.string (strB [at8 digits X])) w := by
  rw [run_sliceAt_string _ _ _ _ _ _ ht]
  have h1 : (0 : Int) ≤ (X : Int) := by omega
  have h2 : (X : Int) + 1 ≤ 16 := by omega
  have h3 : (X : Int) ≤ (X : Int) + 1 := by omega
  have h4 : (0 : Int) ≤ (X : Int) + 1 := by omega
  have h5 : ((X : Int) + 1).toNat = X + 1 := by omega
  simp only [Instr.slice, Sem.run_bind, run_underlying ht, Result.andThen_ok]
  simp [Instr.sliceBounds, run_sliceBound, ByteArray.size, h1, h2, h3, h4, h5]
  have : ∀ X : Fin 16, ByteArray.extract { data := #[48, 49, 50, 51, 52, 53, 54, 55, 56, 57, 97, 98, 99, 100, 101, 102] } X.val (X.val + 1) = strB [at8 digits X.val] := by decide +kernel
  first | exact this ⟨X, hX⟩ | simpa using this ⟨X, hX⟩
theorem bits_15 (X : Nat) (h : X < 256) : bits BinOp.and IntKind.u8 (X : Int) 15 = ((X % 16 : Nat) : Int) := by
  have : ∀ X : Fin 256, bits BinOp.and IntKind.u8 (X.val : Int) 15 = ((X.val % 16 : Nat) : Int) := by decide +kernel
  exact this ⟨X, h⟩
theorem exec_dig {P : Program} {t : TypeId} (ht : P.underlying t = some .string) {o : Oper} {a : Act} {y z : Operand} (w : World)
    (ho : o.op = .slice t (.const (.string { data := #[48, 49, 50, 51, 52, 53, 54, 55, 56, 57, 97, 98, 99, 100, 101, 102] })) (some y) (some z) none) {v u : Int} (hy : a.eval y = .int .u8 v) (hz : a.eval z = .int .u8 u)
    (X : Nat) (hX : X < 16) (hv : v = (X : Int)) (hu : u = (X : Int) + 1) : (execOp a.eval o).run P w = .ok (.value (.string (strB [at8 digits X]))) w := by
  subst hv hu
  have hr := run_dig (P := P) ht w X hX
  have he : a.eval (.const (.string { data := #[48, 49, 50, 51, 52, 53, 54, 55, 56, 57, 97, 98, 99, 100, 101, 102] })) = .string { data := #[48, 49, 50, 51, 52, 53, 54, 55, 56, 57, 97, 98, 99, 100, 101, 102] } := rfl
  unfold execOp
  simp only [ho, hy, hz, he, Option.map_some, Option.map_none, Sem.run_bind, hr, Result.andThen_ok, Sem.run_pure]
set_option maxRecDepth 100000 in
set_option maxHeartbeats 1000000 in
theorem hex_any (w : World) (a : List UInt8) (ha : a.length = 32) :
    Calls Try.prog 33 #[.agg (bvs a).toArray] w fun e w' => e = .returned (.string (strB (hexB a))) ∧ Below w.heap.size w w' := by
  have Ha := Lib.hid ha; clear ha
  go_enter Try.func33, Try.ntmps33
  go_wp2_with fail
  refine abs (fun w1 => Blk w1 w.heap.size 26 (bvs a) ∧ Below w.heap.size w w1) ⟨(Blk.of_new w _ _), ((Below.refl _ w).alloc (Nat.le_refl _) _)⟩ ?_
  rintro w1 ⟨k1, f1⟩
  go_loopw [4, 3] (fun i o wr => ∃ k : Nat, k ≤ 32 ∧ i = .int .i64 k ∧ o = .string (strB (hexB (a.take k))) ∧ Blk wr w.heap.size 26 (bvs a) ∧ Below w.heap.size w wr) (fun i _ _ => 32 - (intOf i).toNat)
  case atStart => exact ⟨0, by omega, rfl, rfl, k1, f1⟩
  case round =>
    clear k1 f1
    obtain ⟨k, hk, rfl, rfl, k1, f1⟩ := hrel
    by_cases hlt : k < 32
    · have d1 : decide ((k : Int) < 32) = true := by simp; omega
      have c1 := k1.byteAt (i := k) (by rw [Ha.out]; exact hlt)
      have b1 : (0 : Int) ≤ (k : Int) := by omega
      have b2 : (k : Int) < 32 := by omega
      have bx := (at8 a k).toNat_lt
      generalize hx : at8 a k = x at *
      generalize hX : x.toNat = X at *
      have h1 : IntKind.u8.wrap ((X : Int) / 16 + 1) = (X : Int) / 16 + 1 := by simp [IntKind.wrap, IntKind.bits, IntKind.signed]; omega
      have h2 : (0 : Int) ≤ (X : Int) / 16 := by omega
      have h4 : (X : Int) / 16 + 1 ≤ 16 := by omega
      have h5 : (0 : Int) ≤ (X : Int) / 16 + 1 := by omega
      have h6 : (X : Int) / 16 ≤ 16 := by omega
      have hlen : (hexB (a.take k)).length = 2 * k := by rw [hexB_length, List.length_take, Ha.out]; omega
      have z1 : ¬ 9223372036854775807 < (strB (hexB (a.take k))).size + (strB [at8 digits (X / 16)]).size := by rw [strB_size, strB_size, hlen]; simp; omega
      have z2 : ¬ 9223372036854775807 < (strB (hexB (a.take k))).size + (strB [at8 digits (X / 16)]).size + (strB [at8 digits (X % 16)]).size := by rw [strB_size, strB_size, strB_size, hlen]; simp; omega
      go_wp2_with fail
      refine wp_region_order (fun w' => Blk w' w.heap.size 26 (bvs a) ∧ w'.cell? ⟨w.heap.size, k, none⟩ = some (.int .u8 (X : Int))) 23 [(0,0), (1,0), (2,0), (3,0), (4,0), (5,0), (6,0), (7,0), (8,0), (9,0), (10,0), (11,0), (12,0), (13,0), (14,0), (15,0), (16,0), (17,0), (18,0), (19,0), (20,0), (21,0), (22,0), (23,2)] (by kernel_rfl) (by kernel_rfl) ?_
      simp only [pick, List.filterMap_cons, List.filterMap_nil, List.getElem?_cons_zero, List.getElem?_cons_succ, Option.map_some]
      have hS : Blk wr.drew w.heap.size 26 (bvs a) ∧ wr.drew.cell? ⟨w.heap.size, k, none⟩ = some (.int .u8 (X : Int)) := ⟨k1.drew, c1⟩
      refine wpF_take (v := ?_) hS rfl ?_ (fun _ _ _ h => h) ?_
      rotate_left
      · intro w' hS'
        obtain ⟨_, hc⟩ := hS'
        go_simp <;> rfl
      go_simp
      refine wpF_take (v := ?_) hS rfl ?_ (fun _ _ _ h => h) ?_
      rotate_left
      · intro w' hS'
        obtain ⟨_, hc⟩ := hS'
        go_simp <;> rfl
      go_simp
      refine wpF_take (v := ?_) hS rfl ?_ (fun _ _ _ h => h) ?_
      rotate_left
      · intro w' hS'
        obtain ⟨_, hc⟩ := hS'
        go_simp <;> rfl
      go_simp
      refine wpF_take (v := ?_) hS rfl ?_ (fun _ _ _ h => h) ?_
      rotate_left
      · intro w' hS'
        obtain ⟨_, hc⟩ := hS'
        go_simp <;> rfl
      go_simp
      refine wpF_take (v := ?_) hS rfl ?_ (fun _ _ _ h => h) ?_
      rotate_left
      · intro w' hS'
        obtain ⟨_, hc⟩ := hS'
        go_simp <;> rfl
      go_simp
      refine wpF_take (v := ?_) hS rfl ?_ (fun _ _ _ h => h) ?_
      rotate_left
      · intro w' hS'
        obtain ⟨_, hc⟩ := hS'
        go_simp <;> rfl
      go_simp
      refine wpF_take (v := ?_) hS rfl ?_ (fun _ _ _ h => h) ?_
      rotate_left
      · intro w' hS'
        obtain ⟨_, hc⟩ := hS'
        go_simp <;> rfl
      go_simp
      refine wpF_take (v := ?_) hS rfl ?_ (fun _ _ _ h => h) ?_
      rotate_left
      · intro w' hS'
        obtain ⟨_, hc⟩ := hS'
        go_simp <;> rfl
      go_simp
      refine wpF_take (v := ?_) hS rfl ?_ (fun _ _ _ h => h) ?_
      rotate_left
      · intro w' hS'
        obtain ⟨_, hc⟩ := hS'
        go_simp <;> rfl
      go_simp
      refine wpF_take (v := ?_) hS rfl ?_ (fun _ _ _ h => h) ?_
      rotate_left
      · intro w' hS'
        obtain ⟨_, hc⟩ := hS'
        go_simp <;> rfl
      go_simp
      refine wpF_take (v := .string (strB [at8 digits (X / 16)])) hS rfl (fun w' _ => exec_dig Try.underlying9 w' rfl rfl rfl (X / 16) (by omega) (by omega) (by omega)) (fun _ _ _ h => h) ?_
      go_simp
      refine wpF_take (v := ?_) hS rfl ?_ (fun _ _ _ h => h) ?_
      rotate_left
      · intro w' hS'
        obtain ⟨_, hc⟩ := hS'
        go_simp <;> rfl
      go_simp
      refine wpF_take (v := ?_) hS rfl ?_ (fun _ _ _ h => h) ?_
      rotate_left
      · intro w' hS'
        obtain ⟨_, hc⟩ := hS'
        go_simp <;> rfl
      go_simp
      refine wpF_take (v := ?_) hS rfl ?_ (fun _ _ _ h => h) ?_
      rotate_left
      · intro w' hS'
        obtain ⟨_, hc⟩ := hS'
        go_simp <;> rfl
      go_simp
      refine wpF_take (v := ?_) hS rfl ?_ (fun _ _ _ h => h) ?_
      rotate_left
      · intro w' hS'
        obtain ⟨_, hc⟩ := hS'
        go_simp <;> rfl
      go_simp
      refine wpF_take (v := ?_) hS rfl ?_ (fun _ _ _ h => h) ?_
      rotate_left
      · intro w' hS'
        obtain ⟨_, hc⟩ := hS'
        go_simp <;> rfl
      go_simp
      refine wpF_take (v := ?_) hS rfl ?_ (fun _ _ _ h => h) ?_
      rotate_left
      · intro w' hS'
        obtain ⟨_, hc⟩ := hS'
        go_simp <;> rfl
      go_simp
      refine wpF_take (v := ?_) hS rfl ?_ (fun _ _ _ h => h) ?_
      rotate_left
      · intro w' hS'
        obtain ⟨_, hc⟩ := hS'
        go_simp <;> rfl
      go_simp
      refine wpF_take (v := ?_) hS rfl ?_ (fun _ _ _ h => h) ?_
      rotate_left
      · intro w' hS'
        obtain ⟨_, hc⟩ := hS'
        go_simp <;> rfl
      go_simp
      refine wpF_take (v := ?_) hS rfl ?_ (fun _ _ _ h => h) ?_
      rotate_left
      · intro w' hS'
        obtain ⟨_, hc⟩ := hS'
        go_simp <;> rfl
      go_simp
      refine wpF_take (v := ?_) hS rfl ?_ (fun _ _ _ h => h) ?_
      rotate_left
      · intro w' hS'
        obtain ⟨_, hc⟩ := hS'
        go_simp <;> rfl
      go_simp
      refine wpF_take (v := .string (strB [at8 digits (X % 16)])) hS rfl (fun w' _ => exec_dig Try.underlying9 w' rfl rfl rfl (X % 16) (by omega) (bits_15 X bx) (by rw [bits_15 X bx]; simp [IntKind.wrap, IntKind.bits, IntKind.signed]; omega)) (fun _ _ _ h => h) ?_
      go_simp
      refine wpF_take (v := ?_) hS rfl ?_ (fun _ _ _ h => h) ?_
      rotate_left
      · intro w' hS'
        obtain ⟨_, hc⟩ := hS'
        go_simp <;> rfl
      go_simp
      refine wpF_only rfl (fun K hK => ?_)
      go_wp2_with fail
      refine ⟨fun h => absurd h (by omega), wpF_nil ?_⟩
      go_wp2_with fail
      go_roundw
      case rel => exact ⟨k + 1, by omega, by go_num, by rw [hexB_succ _ _ (by rw [Ha.out]; exact hlt), hx, hX, strB_append, strB_append], hS.1, f1.drew⟩
      case measure => simp [intOf]; omega
    · obtain rfl : k = 32 := by omega
      have d1 : decide (((32 : Nat) : Int) < 32) = false := rfl
      rw [List.take_of_length_le (by rw [Ha.out]; omega)]
      go_wp2_with fail
      go_ret
      exact ⟨rfl, f1⟩
end Go.Proofs.Ythjaomkjjlgjeaa
