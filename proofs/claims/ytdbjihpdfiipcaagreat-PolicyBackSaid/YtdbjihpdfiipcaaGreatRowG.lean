/- Rows whose elements hold rows: read as a relation between an element's cells and what it is. No condition. -/
import Derived.Test.YtdbjihpdfiipcaaGreatRowR
namespace Go.Proofs.YtdbjihpdfiipcaaGreat
open Go.RowKit
set_option linter.unusedVariables false
section
variable {α : Type} {k : Nat} {P : World → Nat → List Value → α → Prop}
/-- A row of elements of k cells each, read: element j's cells stand in a relation with the j-th thing. -/
def RdG (k : Nat) (P : World → Nat → List Value → α → Prop) (w : World) (B : Nat) (A : Option Addr) (n : Nat) (L : List α) : Prop :=
  L.length = n ∧ (0 < n → ∃ b off, A = some ⟨b, off, none⟩ ∧ b < B ∧ ∀ j (hj : j < L.length), ∃ cs : List Value, cs.length = k ∧ P w B cs L[j] ∧ ∀ i v, cs[i]? = some v → w.cell? ⟨b, off + j * k + i, none⟩ = some v)
theorem RdG.nil {w : World} {B : Nat} {A : Option Addr} : RdG k P w B A 0 [] := ⟨rfl, fun h => absurd h (by omega)⟩
theorem RdG.mono {w w' : World} {B B' n : Nat} {A : Option Addr} {L : List α} (h : RdG k P w B A n L) (hB : B ≤ B') (hb : Below B w w') (hP : ∀ cs x, P w B cs x → P w' B' cs x) : RdG k P w' B' A n L :=
  ⟨h.1, fun hn => by
    obtain ⟨b, off, h1, h2, h3⟩ := h.2 hn
    refine ⟨b, off, h1, by omega, fun j hj => ?_⟩
    obtain ⟨cs, h4, h5, h6⟩ := h3 j hj
    exact ⟨cs, h4, hP _ _ h5, fun i v hv => (hb.cell (p := ⟨b, off + j * k + i, none⟩) h2).trans (h6 i v hv)⟩⟩
/-- One element: its cells, where they lie. -/
theorem RdG.at_ {w : World} {B n j : Nat} {A : Option Addr} {L : List α} (h : RdG k P w B A n L) (hj : j < n) : ∃ b off cs, A = some ⟨b, off, none⟩ ∧ b < B ∧ cs.length = k ∧ P w B cs (L[j]'(by rw [h.1]; exact hj)) ∧ ∀ i v, cs[i]? = some v → w.cell? ⟨b, off + j * k + i, none⟩ = some v := by
  obtain ⟨b, off, h1, h2, h3⟩ := h.2 (by omega)
  obtain ⟨cs, h4, h5, h6⟩ := h3 j (by rw [h.1]; exact hj)
  exact ⟨b, off, cs, h1, h2, h4, h5, h6⟩
/-- A row that is known cell by cell is one in this sense too. -/
theorem RdR.g {enc : α → List Value} {w : World} {B n : Nat} {A : Option Addr} {L : List α} (hk : ∀ x, (enc x).length = k) (h : RdR enc k w B A n L) : RdG k (fun _ _ cs x => cs = enc x) w B A n L :=
  ⟨h.1, fun hn => by
    obtain ⟨b, off, h1, h2, h3⟩ := h.2 hn
    exact ⟨b, off, h1, h2, fun j hj => ⟨enc L[j], hk _, rfl, fun i v hv => h3 j hj i v hv⟩⟩⟩
theorem RdG.r {enc : α → List Value} {w : World} {B n : Nat} {A : Option Addr} {L : List α} (h : RdG k (fun _ _ cs x => cs = enc x) w B A n L) : RdR enc k w B A n L :=
  ⟨h.1, fun hn => by
    obtain ⟨b, off, h1, h2, h3⟩ := h.2 hn
    refine ⟨b, off, h1, h2, fun j hj i v hv => ?_⟩
    obtain ⟨cs, _, rfl, h6⟩ := h3 j hj
    exact h6 i v hv⟩
end
end Go.Proofs.YtdbjihpdfiipcaaGreat
