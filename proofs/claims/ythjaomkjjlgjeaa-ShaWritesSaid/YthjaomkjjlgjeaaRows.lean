/-
  No cell of these rows narrows 'for every input' (looked for: loops, veiled, ifaces, maps, wideKeys, modest, calm, conditions, laid).
  DERIVED. THE GIVEN ROWS OF THIS SEAT. 12 by the template 'for every input the law returns true; each argument reads behind the call as it read before'; 0 by the template 'total and deterministic' (their statements: YthjaomkjjlgjeaaTotals.lean).
  GIVEN WITH THE SEED: the statements are not yours to turn. If you find one false, say at which input.
  Laid BY PROGRAM, IN A SANDBOX (cutbox-rows.mjs): the forced cells as the released guide's own fill.sh prints them over the translation 05c221420b82e028… (all of the seat's roots in one cut). By AI agents, Wed Nov 11 2026. No macro, syntax, notation, axiom, sorry.
-/
import Derived.Test.YthjaomkjjlgjeaaChecked
import GoSem.Claim
import GoSem.ClaimJoined
import GoSem.ClaimMapViews
import Derived.JoinedTies
import Derived.KernelRfl
namespace Go.Proofs.Ythjaomkjjlgjeaa
/- THE CELL 'sum', in the pinned program and in every row, IS THE sha256 OF THE DUMP (.gsa) THAT YthjaomkjjlgjeaaProg.lean LOADS. Nothing in Lean hashes anything: it is a label: what it is worth is what the hold of that sum in a sandbox is worth. -/
noncomputable def Try.pinned : Pinned := { name := "ythjaomkjjlgjeaa", sum := "05c221420b82e0283098ed56fea6888b01f31c937d53e74c7ab3f2eab976239f", checked := Try.checked }
namespace Rows
def none {H : Type} : Left H := { results := [], args := [] }

/-- 'gatepostlaw01.ShaEnds': WHATEVER THE INPUT: true; the input reads as it did. -/
def shaEndsSpec : ChangeSpec := { name := "shaEnds", fn := fun _ => fun
  | [d1, d2] => { results := [.lit (.bool true)], args := [d1, d2] }
  | _ => none }
def shaEndsRow : OpenClaim := { program := "ythjaomkjjlgjeaa", sum := "05c221420b82e0283098ed56fea6888b01f31c937d53e74c7ab3f2eab976239f", func := "gatepost/gatepostlaw01.ShaEnds", spec := "shaEnds", apart := false }
def ShaEndsSaid : Prop := shaEndsRow.holds Try.pinned (OpenSpec.ofChange shaEndsSpec)

/-- ITS FALSE NEIGHBOUR: 'it returns false'. Refute it at one input. -/
def shaEndsWrong : ChangeSpec := { name := "shaEnds", fn := fun _ => fun
  | [d1, d2] => { results := [.lit (.bool false)], args := [d1, d2] }
  | _ => none }
def ShaEndsWrongFalsely : Prop := shaEndsRow.holds Try.pinned (OpenSpec.ofChange shaEndsWrong)

/-- 'gatepostlaw02.MacEqual': WHATEVER THE INPUT: true; the input reads as it did. -/
def macEqualSpec : ChangeSpec := { name := "macEqual", fn := fun _ => fun
  | [d1, d2] => { results := [.lit (.bool true)], args := [d1, d2] }
  | _ => none }
def macEqualRow : OpenClaim := { program := "ythjaomkjjlgjeaa", sum := "05c221420b82e0283098ed56fea6888b01f31c937d53e74c7ab3f2eab976239f", func := "gatepost/gatepostlaw02.MacEqual", spec := "macEqual", unfollowed := true, recurses := true, apart := false }
def MacEqualSaid : Prop := macEqualRow.holds Try.pinned (OpenSpec.ofChange macEqualSpec)

/-- ITS FALSE NEIGHBOUR: 'it returns false'. Refute it at one input. -/
def macEqualWrong : ChangeSpec := { name := "macEqual", fn := fun _ => fun
  | [d1, d2] => { results := [.lit (.bool false)], args := [d1, d2] }
  | _ => none }
def MacEqualWrongFalsely : Prop := macEqualRow.holds Try.pinned (OpenSpec.ofChange macEqualWrong)

/-- 'gatepostlaw02.MacKeys': WHATEVER THE INPUT: true; the input reads as it did. -/
def macKeysSpec : ChangeSpec := { name := "macKeys", fn := fun _ => fun
  | [d1, d2] => { results := [.lit (.bool true)], args := [d1, d2] }
  | _ => none }
def macKeysRow : OpenClaim := { program := "ythjaomkjjlgjeaa", sum := "05c221420b82e0283098ed56fea6888b01f31c937d53e74c7ab3f2eab976239f", func := "gatepost/gatepostlaw02.MacKeys", spec := "macKeys", unfollowed := true, recurses := true, apart := false }
def MacKeysSaid : Prop := macKeysRow.holds Try.pinned (OpenSpec.ofChange macKeysSpec)

/-- ITS FALSE NEIGHBOUR: 'it returns false'. Refute it at one input. -/
def macKeysWrong : ChangeSpec := { name := "macKeys", fn := fun _ => fun
  | [d1, d2] => { results := [.lit (.bool false)], args := [d1, d2] }
  | _ => none }
def MacKeysWrongFalsely : Prop := macKeysRow.holds Try.pinned (OpenSpec.ofChange macKeysWrong)

/-- 'gatepostlaw02.MacParts': WHATEVER THE INPUT: true; the input reads as it did. -/
def macPartsSpec : ChangeSpec := { name := "macParts", fn := fun _ => fun
  | [d1, d2, d3, d4] => { results := [.lit (.bool true)], args := [d1, d2, d3, d4] }
  | _ => none }
def macPartsRow : OpenClaim := { program := "ythjaomkjjlgjeaa", sum := "05c221420b82e0283098ed56fea6888b01f31c937d53e74c7ab3f2eab976239f", func := "gatepost/gatepostlaw02.MacParts", spec := "macParts", unfollowed := true, recurses := true, apart := false }
def MacPartsSaid : Prop := macPartsRow.holds Try.pinned (OpenSpec.ofChange macPartsSpec)

/-- ITS FALSE NEIGHBOUR: 'it returns false'. Refute it at one input. -/
def macPartsWrong : ChangeSpec := { name := "macParts", fn := fun _ => fun
  | [d1, d2, d3, d4] => { results := [.lit (.bool false)], args := [d1, d2, d3, d4] }
  | _ => none }
def MacPartsWrongFalsely : Prop := macPartsRow.holds Try.pinned (OpenSpec.ofChange macPartsWrong)

/-- 'gatepostlaw02.MacKnown': WHATEVER THE INPUT: true; the input reads as it did. -/
def macKnownSpec : ChangeSpec := { name := "macKnown", fn := fun _ => fun
  | [] => { results := [.lit (.bool true)], args := [] }
  | _ => none }
def macKnownRow : OpenClaim := { program := "ythjaomkjjlgjeaa", sum := "05c221420b82e0283098ed56fea6888b01f31c937d53e74c7ab3f2eab976239f", func := "gatepost/gatepostlaw02.MacKnown", spec := "macKnown", unfollowed := true, recurses := true, apart := false }
def MacKnownSaid : Prop := macKnownRow.holds Try.pinned (OpenSpec.ofChange macKnownSpec)

/-- ITS FALSE NEIGHBOUR: 'it returns false'. Refute it at one input. -/
def macKnownWrong : ChangeSpec := { name := "macKnown", fn := fun _ => fun
  | [] => { results := [.lit (.bool false)], args := [] }
  | _ => none }
def MacKnownWrongFalsely : Prop := macKnownRow.holds Try.pinned (OpenSpec.ofChange macKnownWrong)

/-- 'gatepostlaw02.MacOf': WHATEVER THE INPUT: true; the input reads as it did. -/
def macOfSpec : ChangeSpec := { name := "macOf", fn := fun _ => fun
  | [d1, d2, d3, d4] => { results := [.lit (.bool true)], args := [d1, d2, d3, d4] }
  | _ => none }
def macOfRow : OpenClaim := { program := "ythjaomkjjlgjeaa", sum := "05c221420b82e0283098ed56fea6888b01f31c937d53e74c7ab3f2eab976239f", func := "gatepost/gatepostlaw02.MacOf", spec := "macOf", unfollowed := true, recurses := true, apart := false }
def MacOfSaid : Prop := macOfRow.holds Try.pinned (OpenSpec.ofChange macOfSpec)

/-- ITS FALSE NEIGHBOUR: 'it returns false'. Refute it at one input. -/
def macOfWrong : ChangeSpec := { name := "macOf", fn := fun _ => fun
  | [d1, d2, d3, d4] => { results := [.lit (.bool false)], args := [d1, d2, d3, d4] }
  | _ => none }
def MacOfWrongFalsely : Prop := macOfRow.holds Try.pinned (OpenSpec.ofChange macOfWrong)

/-- 'gatepostlaw01.ShaOf': WHATEVER THE INPUT: true; the input reads as it did. -/
def shaOfSpec : ChangeSpec := { name := "shaOf", fn := fun _ => fun
  | [d] => { results := [.lit (.bool true)], args := [d] }
  | _ => none }
def shaOfRow : OpenClaim := { program := "ythjaomkjjlgjeaa", sum := "05c221420b82e0283098ed56fea6888b01f31c937d53e74c7ab3f2eab976239f", func := "gatepost/gatepostlaw01.ShaOf", spec := "shaOf", inPlace := ["math/bits.Add64"], unfollowed := true, recurses := true, apart := false }
def ShaOfSaid : Prop := shaOfRow.holds Try.pinned (OpenSpec.ofChange shaOfSpec)

/-- ITS FALSE NEIGHBOUR: 'it returns false'. Refute it at one input. -/
def shaOfWrong : ChangeSpec := { name := "shaOf", fn := fun _ => fun
  | [d] => { results := [.lit (.bool false)], args := [d] }
  | _ => none }
def ShaOfWrongFalsely : Prop := shaOfRow.holds Try.pinned (OpenSpec.ofChange shaOfWrong)

/-- 'gatepostlaw01.ShaWrites': WHATEVER THE INPUT: true; the input reads as it did. -/
def shaWritesSpec : ChangeSpec := { name := "shaWrites", fn := fun _ => fun
  | [d1, d2] => { results := [.lit (.bool true)], args := [d1, d2] }
  | _ => none }
def shaWritesRow : OpenClaim := { program := "ythjaomkjjlgjeaa", sum := "05c221420b82e0283098ed56fea6888b01f31c937d53e74c7ab3f2eab976239f", func := "gatepost/gatepostlaw01.ShaWrites", spec := "shaWrites", inPlace := ["math/bits.Add64"], unfollowed := true, recurses := true, apart := false }
def ShaWritesSaid : Prop := shaWritesRow.holds Try.pinned (OpenSpec.ofChange shaWritesSpec)

/-- ITS FALSE NEIGHBOUR: 'it returns false'. Refute it at one input. -/
def shaWritesWrong : ChangeSpec := { name := "shaWrites", fn := fun _ => fun
  | [d1, d2] => { results := [.lit (.bool false)], args := [d1, d2] }
  | _ => none }
def ShaWritesWrongFalsely : Prop := shaWritesRow.holds Try.pinned (OpenSpec.ofChange shaWritesWrong)

/-- 'gatepostlaw01.ShaParts': WHATEVER THE INPUT: true; the input reads as it did. -/
def shaPartsSpec : ChangeSpec := { name := "shaParts", fn := fun _ => fun
  | [d1, d2] => { results := [.lit (.bool true)], args := [d1, d2] }
  | _ => none }
def shaPartsRow : OpenClaim := { program := "ythjaomkjjlgjeaa", sum := "05c221420b82e0283098ed56fea6888b01f31c937d53e74c7ab3f2eab976239f", func := "gatepost/gatepostlaw01.ShaParts", spec := "shaParts", inPlace := ["math/bits.Add64"], unfollowed := true, recurses := true, apart := false }
def ShaPartsSaid : Prop := shaPartsRow.holds Try.pinned (OpenSpec.ofChange shaPartsSpec)

/-- ITS FALSE NEIGHBOUR: 'it returns false'. Refute it at one input. -/
def shaPartsWrong : ChangeSpec := { name := "shaParts", fn := fun _ => fun
  | [d1, d2] => { results := [.lit (.bool false)], args := [d1, d2] }
  | _ => none }
def ShaPartsWrongFalsely : Prop := shaPartsRow.holds Try.pinned (OpenSpec.ofChange shaPartsWrong)

/-- 'gatepostlaw01.ShaKnown': WHATEVER THE INPUT: true; the input reads as it did. -/
def shaKnownSpec : ChangeSpec := { name := "shaKnown", fn := fun _ => fun
  | [] => { results := [.lit (.bool true)], args := [] }
  | _ => none }
def shaKnownRow : OpenClaim := { program := "ythjaomkjjlgjeaa", sum := "05c221420b82e0283098ed56fea6888b01f31c937d53e74c7ab3f2eab976239f", func := "gatepost/gatepostlaw01.ShaKnown", spec := "shaKnown", inPlace := ["math/bits.Add64"], unfollowed := true, recurses := true, apart := false }
def ShaKnownSaid : Prop := shaKnownRow.holds Try.pinned (OpenSpec.ofChange shaKnownSpec)

/-- ITS FALSE NEIGHBOUR: 'it returns false'. Refute it at one input. -/
def shaKnownWrong : ChangeSpec := { name := "shaKnown", fn := fun _ => fun
  | [] => { results := [.lit (.bool false)], args := [] }
  | _ => none }
def ShaKnownWrongFalsely : Prop := shaKnownRow.holds Try.pinned (OpenSpec.ofChange shaKnownWrong)

/-- 'gatepostlaw01.ShaBlock': WHATEVER THE INPUT: true; the input reads as it did. -/
def shaBlockSpec : ChangeSpec := { name := "shaBlock", fn := fun _ => fun
  | [d1, d2, d3] => { results := [.lit (.bool true)], args := [d1, d2, d3] }
  | _ => none }
def shaBlockRow : OpenClaim := { program := "ythjaomkjjlgjeaa", sum := "05c221420b82e0283098ed56fea6888b01f31c937d53e74c7ab3f2eab976239f", func := "gatepost/gatepostlaw01.ShaBlock", spec := "shaBlock", inPlace := ["math/bits.Add64"], unfollowed := true, recurses := true, apart := false }
def ShaBlockSaid : Prop := shaBlockRow.holds Try.pinned (OpenSpec.ofChange shaBlockSpec)

/-- ITS FALSE NEIGHBOUR: 'it returns false'. Refute it at one input. -/
def shaBlockWrong : ChangeSpec := { name := "shaBlock", fn := fun _ => fun
  | [d1, d2, d3] => { results := [.lit (.bool false)], args := [d1, d2, d3] }
  | _ => none }
def ShaBlockWrongFalsely : Prop := shaBlockRow.holds Try.pinned (OpenSpec.ofChange shaBlockWrong)

/-- 'gatepostlaw01.ShaBlocks': WHATEVER THE INPUT: true; the input reads as it did. -/
def shaBlocksSpec : ChangeSpec := { name := "shaBlocks", fn := fun _ => fun
  | [d] => { results := [.lit (.bool true)], args := [d] }
  | _ => none }
def shaBlocksRow : OpenClaim := { program := "ythjaomkjjlgjeaa", sum := "05c221420b82e0283098ed56fea6888b01f31c937d53e74c7ab3f2eab976239f", func := "gatepost/gatepostlaw01.ShaBlocks", spec := "shaBlocks", inPlace := ["math/bits.Add64"], unfollowed := true, recurses := true, apart := false }
def ShaBlocksSaid : Prop := shaBlocksRow.holds Try.pinned (OpenSpec.ofChange shaBlocksSpec)

/-- ITS FALSE NEIGHBOUR: 'it returns false'. Refute it at one input. -/
def shaBlocksWrong : ChangeSpec := { name := "shaBlocks", fn := fun _ => fun
  | [d] => { results := [.lit (.bool false)], args := [d] }
  | _ => none }
def ShaBlocksWrongFalsely : Prop := shaBlocksRow.holds Try.pinned (OpenSpec.ofChange shaBlocksWrong)

/- THE SECOND FORM. 'bulk': how many values and letters a reading holds, each counted each time it is reached (what is shared counts as often as it is met; a slice's spare places count too). A statement '..UptoSaid' is the law's where the arguments, and the package variables that the reading takes, are together of bulk at most 1048576: NARROWER than '..Said'. Prove '..Said' where nothing that the law and all that it calls make is longer than what came in: it says more and counts as full. Else prove '..UptoSaid'. A law counts once. -/
mutual
def uptoBulk {H : Type} : DataW H → Nat
  | .lit (.string bytes) => bytes.length + 1
  | .lit _ => 1
  | .nil => 1
  | .ptr d => uptoBulk d + 1
  | .slice elems spare => uptoBulkAll elems + uptoBulkAll spare + 1
  | .agg parts => uptoBulkAll parts + 1
  | .iface _ d => uptoBulk d + 1
  | .map entries => uptoBulkEntries entries + 1
  | .held _ => 1
def uptoBulkAll {H : Type} : List (DataW H) → Nat
  | [] => 0
  | d :: r => uptoBulk d + uptoBulkAll r
def uptoBulkEntries {H : Type} : List (Lit × DataW H) → Nat
  | [] => 0
  | x :: r => uptoBulkEntry x + uptoBulkEntries r
def uptoBulkEntry {H : Type} : Lit × DataW H → Nat
  | (.string bytes, d) => bytes.length + uptoBulk d + 1
  | (_, d) => uptoBulk d + 1
 end
def uptoSmall : (H : Type) → List (DataW H) → Bool := fun _ ds => decide (uptoBulkAll ds ≤ 1048576)
def OpenSpec.upto (s : _root_.Go.ChangeSpec) : _root_.Go.OpenSpec := { _root_.Go.OpenSpec.ofChange s with cond := some uptoSmall }

/-- 'gatepostlaw01.ShaEnds', WHERE WHAT IT READS IS OF BULK AT MOST 1048576: true; the input reads as it did. -/
def shaEndsUptoRow : OpenClaim := { program := "ythjaomkjjlgjeaa", sum := "05c221420b82e0283098ed56fea6888b01f31c937d53e74c7ab3f2eab976239f", func := "gatepost/gatepostlaw01.ShaEnds", spec := "shaEnds", apart := false, narrowed := true }
def ShaEndsUptoSaid : Prop := shaEndsUptoRow.holds Try.pinned (OpenSpec.upto shaEndsSpec)

/-- 'gatepostlaw02.MacEqual', WHERE WHAT IT READS IS OF BULK AT MOST 1048576: true; the input reads as it did. -/
def macEqualUptoRow : OpenClaim := { program := "ythjaomkjjlgjeaa", sum := "05c221420b82e0283098ed56fea6888b01f31c937d53e74c7ab3f2eab976239f", func := "gatepost/gatepostlaw02.MacEqual", spec := "macEqual", unfollowed := true, recurses := true, apart := false, narrowed := true }
def MacEqualUptoSaid : Prop := macEqualUptoRow.holds Try.pinned (OpenSpec.upto macEqualSpec)

/-- 'gatepostlaw02.MacKeys', WHERE WHAT IT READS IS OF BULK AT MOST 1048576: true; the input reads as it did. -/
def macKeysUptoRow : OpenClaim := { program := "ythjaomkjjlgjeaa", sum := "05c221420b82e0283098ed56fea6888b01f31c937d53e74c7ab3f2eab976239f", func := "gatepost/gatepostlaw02.MacKeys", spec := "macKeys", unfollowed := true, recurses := true, apart := false, narrowed := true }
def MacKeysUptoSaid : Prop := macKeysUptoRow.holds Try.pinned (OpenSpec.upto macKeysSpec)

/-- 'gatepostlaw02.MacParts', WHERE WHAT IT READS IS OF BULK AT MOST 1048576: true; the input reads as it did. -/
def macPartsUptoRow : OpenClaim := { program := "ythjaomkjjlgjeaa", sum := "05c221420b82e0283098ed56fea6888b01f31c937d53e74c7ab3f2eab976239f", func := "gatepost/gatepostlaw02.MacParts", spec := "macParts", unfollowed := true, recurses := true, apart := false, narrowed := true }
def MacPartsUptoSaid : Prop := macPartsUptoRow.holds Try.pinned (OpenSpec.upto macPartsSpec)

/-- 'gatepostlaw02.MacKnown', WHERE WHAT IT READS IS OF BULK AT MOST 1048576: true; the input reads as it did. -/
def macKnownUptoRow : OpenClaim := { program := "ythjaomkjjlgjeaa", sum := "05c221420b82e0283098ed56fea6888b01f31c937d53e74c7ab3f2eab976239f", func := "gatepost/gatepostlaw02.MacKnown", spec := "macKnown", unfollowed := true, recurses := true, apart := false, narrowed := true }
def MacKnownUptoSaid : Prop := macKnownUptoRow.holds Try.pinned (OpenSpec.upto macKnownSpec)

/-- 'gatepostlaw02.MacOf', WHERE WHAT IT READS IS OF BULK AT MOST 1048576: true; the input reads as it did. -/
def macOfUptoRow : OpenClaim := { program := "ythjaomkjjlgjeaa", sum := "05c221420b82e0283098ed56fea6888b01f31c937d53e74c7ab3f2eab976239f", func := "gatepost/gatepostlaw02.MacOf", spec := "macOf", unfollowed := true, recurses := true, apart := false, narrowed := true }
def MacOfUptoSaid : Prop := macOfUptoRow.holds Try.pinned (OpenSpec.upto macOfSpec)

/-- 'gatepostlaw01.ShaOf', WHERE WHAT IT READS IS OF BULK AT MOST 1048576: true; the input reads as it did. -/
def shaOfUptoRow : OpenClaim := { program := "ythjaomkjjlgjeaa", sum := "05c221420b82e0283098ed56fea6888b01f31c937d53e74c7ab3f2eab976239f", func := "gatepost/gatepostlaw01.ShaOf", spec := "shaOf", inPlace := ["math/bits.Add64"], unfollowed := true, recurses := true, apart := false, narrowed := true }
def ShaOfUptoSaid : Prop := shaOfUptoRow.holds Try.pinned (OpenSpec.upto shaOfSpec)

/-- 'gatepostlaw01.ShaWrites', WHERE WHAT IT READS IS OF BULK AT MOST 1048576: true; the input reads as it did. -/
def shaWritesUptoRow : OpenClaim := { program := "ythjaomkjjlgjeaa", sum := "05c221420b82e0283098ed56fea6888b01f31c937d53e74c7ab3f2eab976239f", func := "gatepost/gatepostlaw01.ShaWrites", spec := "shaWrites", inPlace := ["math/bits.Add64"], unfollowed := true, recurses := true, apart := false, narrowed := true }
def ShaWritesUptoSaid : Prop := shaWritesUptoRow.holds Try.pinned (OpenSpec.upto shaWritesSpec)

/-- 'gatepostlaw01.ShaParts', WHERE WHAT IT READS IS OF BULK AT MOST 1048576: true; the input reads as it did. -/
def shaPartsUptoRow : OpenClaim := { program := "ythjaomkjjlgjeaa", sum := "05c221420b82e0283098ed56fea6888b01f31c937d53e74c7ab3f2eab976239f", func := "gatepost/gatepostlaw01.ShaParts", spec := "shaParts", inPlace := ["math/bits.Add64"], unfollowed := true, recurses := true, apart := false, narrowed := true }
def ShaPartsUptoSaid : Prop := shaPartsUptoRow.holds Try.pinned (OpenSpec.upto shaPartsSpec)

/-- 'gatepostlaw01.ShaKnown', WHERE WHAT IT READS IS OF BULK AT MOST 1048576: true; the input reads as it did. -/
def shaKnownUptoRow : OpenClaim := { program := "ythjaomkjjlgjeaa", sum := "05c221420b82e0283098ed56fea6888b01f31c937d53e74c7ab3f2eab976239f", func := "gatepost/gatepostlaw01.ShaKnown", spec := "shaKnown", inPlace := ["math/bits.Add64"], unfollowed := true, recurses := true, apart := false, narrowed := true }
def ShaKnownUptoSaid : Prop := shaKnownUptoRow.holds Try.pinned (OpenSpec.upto shaKnownSpec)

/-- 'gatepostlaw01.ShaBlock', WHERE WHAT IT READS IS OF BULK AT MOST 1048576: true; the input reads as it did. -/
def shaBlockUptoRow : OpenClaim := { program := "ythjaomkjjlgjeaa", sum := "05c221420b82e0283098ed56fea6888b01f31c937d53e74c7ab3f2eab976239f", func := "gatepost/gatepostlaw01.ShaBlock", spec := "shaBlock", inPlace := ["math/bits.Add64"], unfollowed := true, recurses := true, apart := false, narrowed := true }
def ShaBlockUptoSaid : Prop := shaBlockUptoRow.holds Try.pinned (OpenSpec.upto shaBlockSpec)

/-- 'gatepostlaw01.ShaBlocks', WHERE WHAT IT READS IS OF BULK AT MOST 1048576: true; the input reads as it did. -/
def shaBlocksUptoRow : OpenClaim := { program := "ythjaomkjjlgjeaa", sum := "05c221420b82e0283098ed56fea6888b01f31c937d53e74c7ab3f2eab976239f", func := "gatepost/gatepostlaw01.ShaBlocks", spec := "shaBlocks", inPlace := ["math/bits.Add64"], unfollowed := true, recurses := true, apart := false, narrowed := true }
def ShaBlocksUptoSaid : Prop := shaBlocksUptoRow.holds Try.pinned (OpenSpec.upto shaBlocksSpec)

end Rows
end Go.Proofs.Ythjaomkjjlgjeaa
