/- The roots' words, reckoned by the kernel. No condition. -/
import Derived.Test.YthjaomkjjlgjeaaCube
import Derived.Test.YthjaomkjjlgjeaaFillNext
import Derived.Test.YthjaomkjjlgjeaaShaNew
namespace Go.Proofs.Ythjaomkjjlgjeaa
open Go.RowKit
theorem roots2 : (List.range 8).map (fun k => grt (h2 (prAt k)) % 4294967296) = H0.map UInt32.toNat := by decide +kernel
theorem roots3 : (List.range 64).map (fun k => grt (h3 (prAt k)) % 4294967296) = KEYS.map UInt32.toNat := by decide +kernel
theorem filled_of (rt : Nat → Nat) (n : Nat) (L : List UInt32) (h : (List.range n).map (fun k => rt (prAt k) % 4294967296) = L.map UInt32.toNat) : filled rt n n = uvs L := by
  unfold filled
  rw [Nat.sub_self, List.replicate_zero, List.append_nil, show rootW rt = (fun m : Nat => (.int .u32 (m : Int) : Value)) ∘ (fun k => rt (prAt k) % 4294967296) from rfl, ← List.map_map, h, List.map_map]
  rfl
theorem filled2 : filled (fun p => grt (h2 p)) 8 8 = uvs H0 := filled_of _ 8 _ roots2
theorem filled3 : filled (fun p => grt (h3 p)) 64 64 = uvs KEYS := filled_of _ 64 _ roots3
end Go.Proofs.Ythjaomkjjlgjeaa
