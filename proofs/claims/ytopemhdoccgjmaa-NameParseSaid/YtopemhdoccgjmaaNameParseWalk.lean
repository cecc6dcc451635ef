/- The law NameParse, walked. No condition beyond the world's shape. -/
import Derived.Test.YtopemhdoccgjmaaNameAwake
namespace Go.Proofs.Ytopemhdoccgjmaa
open Go.RowKit
set_option linter.unusedVariables false
set_option maxRecDepth 100000 in
set_option maxHeartbeats 2000000 in
theorem nameParse_walk (w : World) (hL : LibW w) (l : List UInt8) (hlb : l.length ≤ maxLen) :
    Calls Try.prog 3 #[.string (strB l)] w fun e w' => e = .returned (.bool true) ∧ Below w.heap.size w w' := by
  have hlb2 : l.length ≤ 9223372036854775807 := by simp only [maxLen] at hlb; omega
  have h0 := hL.lt
  have hsz := strB_size l
  have hi : (Try.prog.info? 24).map (·.size) = some 2 := by kernel_rfl
  have Hi := Lib.hid hi
  clear hi
  go_enter Try.func3, Try.ntmps3
  by_cases hbig : 1000 < l.length
  · have d1 : decide ((1000 : Int) < (l.length : Int)) = true := by simp; omega
    go_wp2_with fail
    refine (awake5_any w hL).mono ?_
    rintro e w1 ⟨rfl, f1⟩
    go_wp2_with fail
    go_ret
    exact ⟨rfl, f1⟩
  have d1 : decide ((1000 : Int) < (l.length : Int)) = false := by simp; omega
  go_wp2_with fail
  refine (parse_any l (by omega) w hL).mono ?_
  rintro e w1 ⟨rfl, f1⟩
  cases hp : parseP l with
  | none =>
    have Hp := Lib.hid hp
    clear hp
    unfold psV nmV
    go_wp2_with fail
    have k1 := Blk.of_new w1 24 [.string (strB []), .string (strB [])]
    have F1 : Below w.heap.size w (w1.alloc (.cells #[.string (strB []), .string (strB [])] 24)) := f1.alloc f1.size _
    refine (refParse_any l (by omega) _).mono ?_
    rintro e w2 ⟨rfl, f2⟩
    rw [Hp.out]
    have k2 := k1.below f2 k1.lt
    have l2 := k2.lt
    have F2 := F1.trans (f2.mono F1.size)
    have c0 := k2.cell 0
    have c1 := k2.cell 1
    have F3 : Below w.heap.size w (w2.alloc (.cells #[.string (strB []), .string (strB [])] 24)) := F2.alloc F2.size _
    clear k1 F1 f1 f2
    unfold rsV nmV
    go_wp2_with fail
    refine (awake5_any _ (hL.below h0 F3)).mono ?_
    rintro e w4 ⟨rfl, f4⟩
    have F4 := F3.trans (f4.mono F3.size)
    go_wp2_with fail
    go_ret
    exact ⟨rfl, F4⟩
  | some q =>
    obtain ⟨ns, sa⟩ := q
    have Hp := Lib.hid hp
    clear hp
    unfold psV nmV
    go_wp2_with fail
    have k1 := Blk.of_new w1 24 [.string (strB ns), .string (strB sa)]
    have F1 : Below w.heap.size w (w1.alloc (.cells #[.string (strB ns), .string (strB sa)] 24)) := f1.alloc f1.size _
    refine (refParse_any l (by omega) _).mono ?_
    rintro e w2 ⟨rfl, f2⟩
    rw [Hp.out]
    have k2 := k1.below f2 k1.lt
    have l2 := k2.lt
    have F2 := F1.trans (f2.mono F1.size)
    have c0 := k2.cell 0
    have c1 := k2.cell 1
    have F3 : Below w.heap.size w (w2.alloc (.cells #[.string (strB ns), .string (strB sa)] 24)) := F2.alloc F2.size _
    clear k1 F1 f1 f2
    unfold rsV nmV
    go_wp2_with fail
    refine (awake5_any _ (hL.below h0 F3)).mono ?_
    rintro e w4 ⟨rfl, f4⟩
    have F4 := F3.trans (f4.mono F3.size)
    go_wp2_with fail
    go_ret
    exact ⟨rfl, F4⟩
end Go.Proofs.Ytopemhdoccgjmaa
