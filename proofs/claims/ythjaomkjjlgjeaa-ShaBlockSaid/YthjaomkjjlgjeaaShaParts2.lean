/- The cells of a Sha to which bytes have been written. No condition. -/
import Derived.Test.YthjaomkjjlgjeaaShaPartsLaw
namespace Go.Proofs.Ythjaomkjjlgjeaa
open Go.RowKit
theorem shaL_H (L : List UInt8) (A : Option Addr) (c : Nat) : ((shaL L A c).drop 0).take 8 = uvs (blkN H0 L (L.length / 64)) := by unfold shaL; exact shaC_H (blkN_length H0 L _ rfl) _ _ _ _
theorem shaL_8 (L : List UInt8) (A : Option Addr) (c : Nat) : (shaL L A c)[8]? = some (.slice A (L.length % 64) c) := by unfold shaL; exact shaC_8 (blkN_length H0 L _ rfl) _ _ _ _
theorem shaL_9 (L : List UInt8) (A : Option Addr) (c : Nat) : (shaL L A c)[9]? = some (.int .u64 ((L.length : Nat) : Int)) := by unfold shaL; exact shaC_9 (blkN_length H0 L _ rfl) _ _ _ _
theorem blkN_take (l : List UInt8) (k : Nat) (h : 64 * k ≤ l.length) : blkN H0 (l.take (64 * k)) k = blkN H0 l k := by
  conv => rhs; rw [← List.take_append_drop (64 * k) l]
  rw [blkN_front _ _ _ _ (by rw [List.length_take]; omega)]
end Go.Proofs.Ythjaomkjjlgjeaa
