/- A region whose order is open, gone through in orders that the prover names as a tree: where two operations may come up, both ways are gone. No condition. -/
import Derived.Test.YtpcdmbajfmnoiaaGreatDoorOrder
namespace Go.Proofs.YtpcdmbajfmnoiaaGreatDoor
inductive OT where
 | fin
 | take (i : Nat) (t : OT)
 | only (i : Nat) (t : OT)
 | both (i j : Nat) (ti tj : OT)
section
variable {P : Program} {l : List Oper} {Q : Exit → Act → World → Prop} {S : World → Prop}
end
end Go.Proofs.YtpcdmbajfmnoiaaGreatDoor
