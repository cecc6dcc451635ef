/- 'copy' within a row of the call's own, elements of k cells; an element put in. No condition. -/
import Derived.Test.YtpcdmbajfmnoiaaGreatDoorRowRG
import Derived.Laws.CopyRow
namespace Go.Proofs.YtpcdmbajfmnoiaaGreatDoor
set_option linter.unusedVariables false
set_option linter.unusedSimpArgs false
open Go.RowKit
section
variable {α:Type} {enc:α→List Value} {k:Nat}
theorem flatR_take(hk:∀x,(enc x).length=k)(L:List α)(i:Nat):(flatR enc L).take (i*k)=flatR enc (L.take i):=by
 by_cases h:i≤L.length
 ·have e:=flatR_append (enc:=enc) (L.take i) (L.drop i)
  rw[List.take_append_drop] at e
  rw[e,List.take_left' (by rw[flatR_length hk,List.length_take,Nat.min_eq_left h])]
 rw[List.take_of_length_le (by rw[flatR_length hk];exact Nat.mul_le_mul_right k (by omega)),List.take_of_length_le (by omega)]
theorem flatR_drop(hk:∀x,(enc x).length=k)(L:List α)(i:Nat):(flatR enc L).drop (i*k)=flatR enc (L.drop i):=by
 by_cases h:i≤L.length
 ·have e:=flatR_append (enc:=enc) (L.take i) (L.drop i)
  rw[List.take_append_drop] at e
  rw[e,List.drop_left' (by rw[flatR_length hk,List.length_take,Nat.min_eq_left h])]
 rw[List.drop_eq_nil_of_le (by rw[flatR_length hk];exact Nat.mul_le_mul_right k (by omega)),List.drop_eq_nil_of_le (by omega)]
 rfl
end
end Go.Proofs.YtpcdmbajfmnoiaaGreatDoor
