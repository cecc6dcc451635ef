/- Write and Sum of what has been written since New: in words of all the bytes. No condition but sizes. -/
import Derived.Test.YthjaomkjjlgjeaaShaOf
namespace Go.Proofs.Ythjaomkjjlgjeaa
open Go.RowKit
attribute [local irreducible] blkN comp outN sumB
theorem shaB_eq (L : List UInt8) : sumB H0 L L.length = shaB L := by unfold shaB; rfl
/-- The cells of a Sha to which L has been written. -/
def shaL (L : List UInt8) (A : Option Addr) (c : Nat) : List Value := shaC (blkN H0 L (L.length / 64)) A (L.length % 64) c L.length
/-- What of L is in no block yet, read from A. -/
def RdT (w : World) (L : List UInt8) (A : Option Addr) : Prop := RdB w w.heap.size A (L.length % 64) (L.drop (64 * (L.length / 64)))
theorem shaL_length (L : List UInt8) (A : Option Addr) (c : Nat) : (shaL L A c).length = 10 := shaC_length (blkN_length H0 L _ rfl) _ _ _ _
theorem shaL_all (L : List UInt8) (A : Option Addr) (c : Nat) : (shaL L A c).all (·.oneCell') = true := shaC_all _ _ _ _ _
theorem RdT.below {w w' : World} {L : List UInt8} {A : Option Addr} (h : RdT w L A) (hb : Below w.heap.size w w') : RdT w' L A := (RdB.below h hb).more hb.size
theorem shaL_nil : shaL [] none 0 = shaC H0 none 0 0 0 := by unfold shaL; rw [List.length_nil, Nat.zero_div, Nat.zero_mod, blkN_zero]
theorem RdT.nil {w : World} : RdT w [] none := RdB.nil
/-- Likewise, and it is the call's own. -/
def FrT (w : World) (base : Nat) (L : List UInt8) (A : Option Addr) : Prop := FrB w base 5 A (L.length % 64) (L.drop (64 * (L.length / 64)))
theorem FrT.rd {w : World} {base : Nat} {L : List UInt8} {A : Option Addr} (h : FrT w base L A) : RdT w L A := FrB.rd h
theorem FrT.grown {w w' : World} {base : Nat} {L : List UInt8} {A : Option Addr} (h : FrT w base L A) {row : Nat} (hg : w.grownBy w' (some row)) (hr : row < base) : FrT w' base L A := FrB.grown h hg hr
theorem write_of (L : List UInt8) (A : Option Addr) (c : Nat) (A2 : Option Addr) (m c2 : Nat) (b : List UInt8) (w : World) (hl : RdT w L A) (hb : RdB w w.heap.size A2 m b) (hn : L.length + m ≤ 70368744177664) :
    Calls Try.prog 27 #[.agg (shaL L A c).toArray, .slice A2 m c2] w fun e w' => ∃ A' c', e = .returned (.agg (shaL (L ++ b) A' c').toArray) ∧ FrT w' w.heap.size (L ++ b) A' ∧ Below w.heap.size w w' := by
  have hm := hb.1
  refine (write_any (blkN H0 L (L.length / 64)) A (L.length % 64) c L.length _ A2 m c2 b w (blkN_length H0 L _ rfl) hl hb (by omega) (by omega)).mono ?_
  rintro e w4 ⟨A', c', rfl, fr, hB4⟩
  have e1 := write_rest H0 L b
  have e2 := drop_rest L b
  have e3 : (L.length % 64 + m) % 64 = (L ++ b).length % 64 := by rw [List.length_append, hm]; omega
  have e4 : (L.length + m) % 18446744073709551616 = (L ++ b).length := by rw [List.length_append]; omega
  rw [hm] at e1 e2
  rw [e2, e3] at fr
  rw [e1, e3, e4]
  exact ⟨A', c', rfl, fr, hB4⟩
theorem sum_of (L : List UInt8) (A : Option Addr) (c : Nat) (w : World) (hl : RdT w L A) :
    Calls Try.prog 30 #[.agg (shaL L A c).toArray] w fun e w' => e = .returned (.agg (bvs (shaB L)).toArray) ∧ Below w.heap.size w w' := by
  refine (sum_any (blkN H0 L (L.length / 64)) A (L.length % 64) c L.length _ w (blkN_length H0 L _ rfl) hl (by omega)).mono ?_
  rintro e w4 ⟨rfl, hB4⟩
  rw [sumB_rest, shaB_eq]
  exact ⟨rfl, hB4⟩
theorem new_of (w : World) : Calls Try.prog 29 #[] w fun e w' => e = .returned (.agg (shaL [] none 0).toArray) ∧ Below w.heap.size w w' := by
  rw [shaL_nil]
  exact new_any w
theorem parts_next (l : List UInt8) (a q : Nat) : l.take (a + q) = l.take a ++ (l.take (a + q)).drop a := by
  have e : l.take a = (l.take (a + q)).take a := by rw [List.take_take, Nat.min_eq_left (by omega)]
  conv => rhs; rw [e]
  rw [List.take_append_drop]
attribute [irreducible] shaL
end Go.Proofs.Ythjaomkjjlgjeaa
