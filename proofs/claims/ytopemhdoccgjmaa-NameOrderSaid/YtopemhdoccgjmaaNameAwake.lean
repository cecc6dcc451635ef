/- awake of law 05 walked. Condition: the library's variable MaxLen holds some number. -/
import Derived.Test.YtopemhdoccgjmaaParseRef
namespace Go.Proofs.Ytopemhdoccgjmaa
open Go.RowKit
set_option linter.unusedVariables false
def SHOP : List UInt8 := [115, 104, 111, 112]
def WEB1 : List UInt8 := [119, 101, 98, 45, 49]
def TXT1 : List UInt8 := PRE ++ SHOP ++ BET
def TXT2 : List UInt8 := PRE ++ SHOP ++ BET ++ [87, 101, 98]
set_option maxRecDepth 100000 in
set_option maxHeartbeats 1000000 in
theorem awake5_any (w : World) (hL : LibW w) :
    Calls Try.prog 8 #[] w fun e w' => e = .returned (.bool true) ∧ Below w.heap.size w w' := by
  have h0 := hL.lt
  have hi : (Try.prog.info? 24).map (·.size) = some 2 := by kernel_rfl
  have Hi := Lib.hid hi
  clear hi
  go_enter Try.func8, Try.ntmps8
  go_wp2_with fail
  refine (print_any SHOP WEB1 (by decide) (by decide) w).mono ?_
  rintro e w1 ⟨rfl, f1⟩
  rw [prV_yes (by decide +kernel), show strB (prN SHOP WEB1) = ⟨#[115, 112, 105, 102, 102, 101, 58, 47, 47, 109, 101, 115, 104, 47, 110, 115, 47, 115, 104, 111, 112, 47, 115, 97, 47, 119, 101, 98, 45, 49]⟩ from rfl]
  have L1 := hL.below h0 f1
  go_wp2_with fail
  refine (parse_any TXT1 (by decide) w1 L1).mono ?_
  rintro e w2 ⟨rfl, f2⟩
  rw [show parseP TXT1 = none from by decide +kernel]
  have F2 := f1.trans (f2.mono f1.size)
  clear L1 f1 f2
  unfold psV nmV
  go_wp2_with fail
  have F3 : Below w.heap.size w (w2.alloc (.cells #[.string (strB []), .string (strB [])] 24)) := F2.alloc F2.size _
  refine (parse_any TXT2 (by decide) _ (hL.below h0 F3)).mono ?_
  rintro e w4 ⟨rfl, f4⟩
  rw [show parseP TXT2 = none from by decide +kernel]
  have F4 := F3.trans (f4.mono F3.size)
  clear f4 F3 F2
  unfold psV nmV
  go_wp2_with fail
  go_ret
  exact ⟨rfl, F4.alloc F4.size _⟩
end Go.Proofs.Ytopemhdoccgjmaa
