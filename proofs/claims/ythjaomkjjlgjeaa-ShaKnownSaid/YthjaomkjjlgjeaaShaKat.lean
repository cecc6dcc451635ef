/- The standard's own sums, reckoned. No condition. -/
import Derived.Test.YthjaomkjjlgjeaaShaMilRun
import Derived.Test.YthjaomkjjlgjeaaRefOf2
import Derived.Test.YthjaomkjjlgjeaaShaHex
namespace Go.Proofs.Ythjaomkjjlgjeaa
open Go.RowKit
def hs0 : List UInt8 := [101, 51, 98, 48, 99, 52, 52, 50, 57, 56, 102, 99, 49, 99, 49, 52, 57, 97, 102, 98, 102, 52, 99, 56, 57, 57, 54, 102, 98, 57, 50, 52, 50, 55, 97, 101, 52, 49, 101, 52, 54, 52, 57, 98, 57, 51, 52, 99, 97, 52, 57, 53, 57, 57, 49, 98, 55, 56, 53, 50, 98, 56, 53, 53]
theorem kat0 : hexB (shaB []) = hs0 := by decide +kernel
def hs1 : List UInt8 := [98, 97, 55, 56, 49, 54, 98, 102, 56, 102, 48, 49, 99, 102, 101, 97, 52, 49, 52, 49, 52, 48, 100, 101, 53, 100, 97, 101, 50, 50, 50, 51, 98, 48, 48, 51, 54, 49, 97, 51, 57, 54, 49, 55, 55, 97, 57, 99, 98, 52, 49, 48, 102, 102, 54, 49, 102, 50, 48, 48, 49, 53, 97, 100]
theorem kat1 : hexB (shaB [97, 98, 99]) = hs1 := by decide +kernel
def m56 : List UInt8 := [97, 98, 99, 100, 98, 99, 100, 101, 99, 100, 101, 102, 100, 101, 102, 103, 101, 102, 103, 104, 102, 103, 104, 105, 103, 104, 105, 106, 104, 105, 106, 107, 105, 106, 107, 108, 106, 107, 108, 109, 107, 108, 109, 110, 108, 109, 110, 111, 109, 110, 111, 112, 110, 111, 112, 113]
def hs2 : List UInt8 := [50, 52, 56, 100, 54, 97, 54, 49, 100, 50, 48, 54, 51, 56, 98, 56, 101, 53, 99, 48, 50, 54, 57, 51, 48, 99, 51, 101, 54, 48, 51, 57, 97, 51, 51, 99, 101, 52, 53, 57, 54, 52, 102, 102, 50, 49, 54, 55, 102, 54, 101, 99, 101, 100, 100, 52, 49, 57, 100, 98, 48, 54, 99, 49]
theorem kat2 : hexB (shaB m56) = hs2 := by decide +kernel
def hs3 : List UInt8 := [99, 100, 99, 55, 54, 101, 53, 99, 57, 57, 49, 52, 102, 98, 57, 50, 56, 49, 97, 49, 99, 55, 101, 50, 56, 52, 100, 55, 51, 101, 54, 55, 102, 49, 56, 48, 57, 97, 52, 56, 97, 52, 57, 55, 50, 48, 48, 101, 48, 52, 54, 100, 51, 57, 99, 99, 99, 55, 49, 49, 50, 99, 100, 48]
theorem kat3_last : hexB (outN (comp KEYS (unp mil8) (endB 1000000)) 32) = hs3 := by decide +kernel
def aMil : List UInt8 := List.replicate 1000000 97
theorem rep_part (n k m : Nat) (h : k + m ≤ n) : ((List.replicate n (97 : UInt8)).drop k).take m = List.replicate m 97 := by
  rw [List.drop_replicate, List.take_replicate, Nat.min_eq_left (by omega)]
theorem aMil_length : aMil.length = 1000000 := List.length_replicate
theorem aMil_blocks : blkN H0 aMil 15625 = unp mil8 := by
  rw [blkN_again H0 aMil aBlk 15625 (fun i hi => rep_part 1000000 (64 * i) 64 (by omega)), mil_all]
theorem kat3 : hexB (shaB aMil) = hs3 := by
  have hd : aMil.drop (64 * 15625) = [] := List.drop_eq_nil_of_le (by rw [aMil_length]; decide)
  rw [← refSha_eq, aMil_length, zeros_mil, show (1000000 + (55 + 9)) / 64 = 15625 + 1 from rfl, blkN_add H0 aMil (endB 1000000) 15625 1 (by rw [aMil_length]; decide), aMil_blocks, blkN_succ, blkN_zero,
    hd, List.nil_append, Nat.mul_zero, List.drop_zero, List.take_of_length_le (by rw [endB_len, zeros_mil]; decide)]
  exact kat3_last
end Go.Proofs.Ythjaomkjjlgjeaa
