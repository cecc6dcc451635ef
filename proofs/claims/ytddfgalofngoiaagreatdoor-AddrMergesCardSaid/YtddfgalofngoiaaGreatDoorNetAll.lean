/- addr.Merge of any nets. Condition: a million nets at most. -/
import Derived.Test.YtddfgalofngoiaaGreatDoorNetZero
import Derived.Test.YtddfgalofngoiaaGreatDoorNetMerge
namespace Go.Proofs.YtddfgalofngoiaaGreatDoor
open Go.RowKit Go.Sort
set_option linter.unusedVariables false
theorem nice_nil : Nice [] := ⟨fun c hc => absurd hc (by simp), List.Pairwise.nil, fun c hc => absurd hc (by simp)⟩
theorem merge_all (A : Option Addr) (n c : Nat) (L : List Nt) (w : World) (h : RdR ntC 2 w w.heap.size A n L) (hok : ∀ x ∈ L, okN x) (hn : n ≤ 1000000) :
    Calls Tryz.prog 9 #[.slice A n c] w (MgPost n L w) := by
  by_cases h0 : n = 0
  · subst h0
    have hl : L = [] := List.eq_nil_of_length_eq_zero h.1
    subst hl
    refine (merge_zero A c w).mono ?_
    rintro e w' ⟨⟨A', c', rfl⟩, hb⟩
    exact ⟨A', 0, c', [], rfl, ⟨rfl, .inl rfl⟩, nice_nil, fun _ => Iff.rfl, fun z hz => absurd hz (by simp), Nat.le_refl _, hb⟩
  · exact merge_any A n c L w h hok hn (by omega)
theorem OutS.rd {w : World} {base m c : Nat} {A : Option Addr} {Y : List Nt} (h : OutS w base A m c Y) : RdR ntC 2 w w.heap.size A m Y := by
  obtain ⟨h1, h2⟩ := h
  subst h1
  refine ⟨rfl, fun hn => ?_⟩
  rcases h2 with h2 | ⟨g, rfl, _, hr⟩
  · omega
  · refine ⟨g, 0, rfl, hr.lt, fun j hj i v hv => ?_⟩
    have hi : i < 2 := by have := (List.getElem?_eq_some_iff.1 hv).1; rwa [ntC_len] at this
    obtain ⟨c0, c1⟩ := hr.at_ hj
    rw [Nat.zero_add]
    rcases (show i = 0 ∨ i = 1 by omega) with rfl | rfl
    · rw [Nat.add_zero, c0]; exact hv
    · rw [c1]; exact hv
theorem one_net (w : World) (a : Nat) (b : Int) (B : Nat) (hB : w.heap.size < B) : RdR ntC 2 (w.alloc (.cells #[.int .u32 (a : Int), .int .i64 b] 29)) B (some ⟨w.heap.size, 0, none⟩) 1 [(a, b)] := by
  have k := Blk.newAt (w := w) rfl 29 #[.int .u32 (a : Int), .int .i64 b]
  refine ⟨rfl, fun _ => ⟨w.heap.size, 0, rfl, hB, fun j hj i v hv => ?_⟩⟩
  have hj0 : j = 0 := by simp at hj; omega
  subst hj0
  have hi : i < 2 := by have := (List.getElem?_eq_some_iff.1 hv).1; rwa [ntC_len] at this
  rw [k.cell]
  rcases (show i = 0 ∨ i = 1 by omega) with rfl | rfl <;> exact hv
theorem may_ok {c : Nt} (h : nMay c = true) (hc : c.1 < 4294967296) : okN c := by
  obtain ⟨h0, h1, _⟩ := (nMay_iff c).1 h
  exact ⟨hc, by omega, by omega⟩
end Go.Proofs.YtddfgalofngoiaaGreatDoor
