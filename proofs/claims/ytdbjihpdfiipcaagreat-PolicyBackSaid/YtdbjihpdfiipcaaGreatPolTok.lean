/- A header's name's letters as a table. No condition. -/
import Derived.Test.YtdbjihpdfiipcaaGreatPolData
import Derived.Laws.RangeAny
import Derived.Laws.RangeString
namespace Go.Proofs.YtdbjihpdfiipcaaGreat
open Go.RowKit
set_option linter.unusedVariables false
def tokL : List Nat := [97, 98, 99, 100, 101, 102, 103, 104, 105, 106, 107, 108, 109, 110, 111, 112, 113, 114, 115, 116, 117, 118, 119, 120, 121, 122, 48, 49, 50, 51, 52, 53, 54, 55, 56, 57, 33, 35, 36, 37, 38, 39, 42, 43, 45, 46, 94, 95, 96, 124, 126]
def tokS : ByteArray := ⟨#[97, 98, 99, 100, 101, 102, 103, 104, 105, 106, 107, 108, 109, 110, 111, 112, 113, 114, 115, 116, 117, 118, 119, 120, 121, 122, 48, 49, 50, 51, 52, 53, 54, 55, 56, 57, 33, 35, 36, 37, 38, 39, 42, 43, 45, 46, 94, 95, 96, 124, 126]⟩
def tokI (n : Nat) : List Int := (List.range 256).map fun c => if (tokL.take n).contains c then 1 else 0
def tokC (n : Nat) : List Value := (tokI n).map (Value.int .i64)
theorem tokC_len (n : Nat) : (tokC n).length = 256 := by simp [tokC, tokI]
theorem tok_succ : ∀ n : Fin 51, (tokI n.val).set (tokL.getD n.val 0) 1 = tokI (n.val + 1) := by decide +kernel
theorem tokC_succ {n : Nat} (h : n < 51) : (tokC n).set (tokL.getD n 0) (.int .i64 1) = tokC (n + 1) := by
  unfold tokC
  rw [← tok_succ ⟨n, h⟩, List.map_set]
theorem tokS_size : tokS.size = 51 := rfl
theorem tokS_at : ∀ n : Fin 51, tokS.data.toList.getD n.val 0 = UInt8.ofNat (tokL.getD n.val 0) ∧ tokL.getD n.val 0 < 128 := by decide +kernel
theorem tokS_get {n : Nat} (h : n < 51) : (tokS[n]'(by rw [tokS_size]; exact h)).toNat = tokL.getD n 0 := by
  have := tokS_at ⟨n, h⟩
  obtain ⟨h1, h2⟩ := this
  have e : tokS.data.toList.getD n 0 = tokS[n]'(by rw [tokS_size]; exact h) := by
    have : n < tokS.data.toList.length := h
    rw [List.getD_eq_getElem?_getD, List.getElem?_eq_getElem this]
    rfl
  rw [← e]
  simp only at h1 h2
  rw [h1, UInt8.toNat_ofNat']
  omega
theorem tok_end : ∀ c : Fin 256, (tokI 51)[c.val]? = some (if hdOk (UInt8.ofNat c.val) then 1 else 0) := by decide +kernel
theorem tokC_at (c : UInt8) : (tokC 51)[c.toNat]? = some (.int .i64 (if hdOk c then 1 else 0)) := by
  have h := tok_end ⟨c.toNat, c.toNat_lt⟩
  unfold tokC
  rw [List.getElem?_map]
  simp only at h
  rw [h, UInt8.ofNat_toNat]
  rfl
theorem modify_push2 (a : Array Obj) (x y : Obj) (f : Obj → Obj) : ((a.push x).push y).modify a.size f = (a.push (f x)).push y := by
  apply Array.ext
  · simp
  · intro i h1 h2
    rw [Array.getElem_modify]
    simp only [Array.size_modify, Array.size_push] at h1
    rcases Nat.lt_trichotomy i a.size with h | h | h
    · rw [if_neg (by omega)]
      simp [Array.getElem_push, h, show i < a.size + 1 by omega]
    · subst h
      rw [if_pos rfl]
      simp [Array.getElem_push]
    · rw [if_neg (by omega)]
      simp [Array.getElem_push, show ¬ i < a.size + 1 by omega]
theorem iter_setC (w : World) (cs : List Value) (C : Nat) (v : Value) (ty : Nat) (s : ByteArray) (p : Nat) : ((w.alloc (.cells cs.toArray ty)).iter s p).setCell ⟨w.heap.size, C, none⟩ v = (w.alloc (.cells (cs.set C v).toArray ty)).iter s p := by
  unfold World.setCell World.iter World.alloc
  simp only [modify_push2]
  congr 3
  simp
end Go.Proofs.YtdbjihpdfiipcaaGreat
