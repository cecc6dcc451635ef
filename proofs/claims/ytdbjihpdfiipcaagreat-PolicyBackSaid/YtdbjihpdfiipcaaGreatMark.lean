/- Constants as bytes: what '[]byte' of a constant text leaves. No condition. -/
import Derived.Test.YtdbjihpdfiipcaaGreatSeat
namespace Go.Proofs.YtdbjihpdfiipcaaGreat
open Go.RowKit
theorem run_conv_constM {P : Program} {t e : TypeId} (T : ByteTy P t e) (w : World) (g : Nat) (hg : w.heap.size = g) (C : Array Value) (n c : Nat) :
    (convert t t (.slice (some ⟨g, 0, none⟩) n c)).run P (w.alloc (.cells C e)) = .ok (.slice (some ⟨g, 0, none⟩) n c) (w.alloc (.cells C e (C.size, C.size + 1))) := by
  subst hg
  exact Lib.run_convert_bytes_const w t e C n c T.sl T.el
end Go.Proofs.YtdbjihpdfiipcaaGreat
