/- A writer and the blocks that it may be in; its methods in these words. Condition: all bytes together below 2^47. -/
import Derived.Test.YtdbjihpdfiipcaaGreatPut6
namespace Go.Proofs.YtdbjihpdfiipcaaGreat
open Go.RowKit
set_option linter.unusedVariables false
/-- A writer at p with the bytes l, which are in blocks that meet Z alone; new blocks meet Z. -/
def WrZ (Z : Nat → Prop) (w : World) (p : Nat) (l : List UInt8) : Prop := Z p ∧ (∀ k, w.heap.size ≤ k → Z k) ∧ ∃ A c, Wr w p A l.length c l ∧ ∀ k, isB A k → Z k
section
variable {Z : Nat → Prop} {w w' : World} {p : Nat} {l l' : List UInt8}
theorem WrZ.of {A : Option Addr} (h : Z p) (hz : ∀ k, w.heap.size ≤ k → Z k) (hA : ∀ k, isB A k → Z k) (k : WrP w p A l' w') : WrZ Z w' p l' ∧ Off Z w w' := by
  obtain ⟨A', c', h1, h2, h3⟩ := k
  refine ⟨⟨h, fun k hk => hz k (Nat.le_trans h3.size hk), A', c', h1, fun k hk => ?_⟩, h3.mono fun i _ hi => ?_⟩
  · rcases h2 with rfl | ⟨g, rfl, hg⟩
    · exact hA k hk
    · obtain ⟨x, hx, rfl⟩ := hk
      injection hx with hx
      subst hx
      exact hz _ hg
  · rcases hi with rfl | hi
    · exact h
    · exact hA _ hi
/-- New blocks that the writer has not are kept from it. -/
def lessZ (Z : Nat → Prop) (a b : Nat) (k : Nat) : Prop := Z k ∧ (k < a ∨ b ≤ k)
theorem WrZ.less (h : WrZ Z w p l) (hb : Below w.heap.size w w') : WrZ (lessZ Z w.heap.size w'.heap.size) w' p l := by
  obtain ⟨h1, h2, A, c, h3, h4⟩ := h
  have hlt : ∀ k, isB A k → k < w.heap.size := fun k hk => (h3.2.isB_lt hk).2
  exact ⟨⟨h1, .inl h3.1.lt⟩, fun k hk => ⟨h2 k (Nat.le_trans hb.size hk), .inr hk⟩, A, c, h3.off (Off.of_all hb) id (fun _ _ => id), fun k hk => ⟨h4 k hk, .inl (hlt k hk)⟩⟩
theorem WrZ.back {a b : Nat} (h : WrZ (lessZ Z a b) w p l) (hz : ∀ k, w.heap.size ≤ k → Z k) : WrZ Z w p l := by
  obtain ⟨h1, h2, A, c, h3, h4⟩ := h
  exact ⟨h1.1, hz, A, c, h3, fun k hk => (h4 k hk).1⟩
theorem WrZ.up (h : WrZ Z w p l) : ∀ k, w.heap.size ≤ k → Z k := h.2.1
theorem WrZ.below (h : WrZ Z w p l) (hb : Below w.heap.size w w') : WrZ Z w' p l := (h.less hb).back fun k hk => h.up k (Nat.le_trans hb.size hk)
theorem WrZ.eq (h : WrZ Z w p l) (e : l = l') : WrZ Z w p l' := e ▸ h
theorem WrZ.lt (h : WrZ Z w p l) : p < w.heap.size := by
  obtain ⟨h1, h2, A, c, h3, h4⟩ := h
  exact h3.1.lt
end
variable {Z : Nat → Prop} {w : World} {p : Nat} {l : List UInt8}
theorem wU8_z (b : UInt8) (h : WrZ Z w p l) (hl : l.length + 10 ≤ 140737488355328) :
    Calls Tryz.prog 152 #[.pointer (some ⟨p, 0, none⟩), .int .u8 (b.toNat : Int)] w fun e w' => e = .returned (.tuple #[]) ∧ WrZ Z w' p (l ++ [b]) ∧ Off Z w w' := by
  obtain ⟨h1, h2, A, c, h3, h4⟩ := h
  refine (wU8_any p A _ c l b w h3 (by omega)).mono ?_
  rintro e w' ⟨rfl, hp⟩
  exact ⟨rfl, WrZ.of h1 h2 h4 hp⟩
theorem wUint_z (x : Nat) (hx : x < 18446744073709551616) (h : WrZ Z w p l) (hl : l.length + 10 ≤ 140737488355328) :
    Calls Tryz.prog 51 #[.pointer (some ⟨p, 0, none⟩), .int .u64 x] w fun e w' => e = .returned (.tuple #[]) ∧ WrZ Z w' p (l ++ leb x) ∧ Off Z w w' := by
  obtain ⟨h1, h2, A, c, h3, h4⟩ := h
  refine (wUint_any p A _ c l x w hx h3 hl).mono ?_
  rintro e w' ⟨rfl, hp⟩
  exact ⟨rfl, WrZ.of h1 h2 h4 hp⟩
theorem wU32_z (x : Nat) (hx : x < 4294967296) (h : WrZ Z w p l) (hl : l.length + 10 ≤ 140737488355328) :
    Calls Tryz.prog 151 #[.pointer (some ⟨p, 0, none⟩), .int .u32 x] w fun e w' => e = .returned (.tuple #[]) ∧ WrZ Z w' p (l ++ le32 x) ∧ Off Z w w' := by
  obtain ⟨h1, h2, A, c, h3, h4⟩ := h
  refine (wU32_any p A _ c l x w hx h3 (by omega)).mono ?_
  rintro e w' ⟨rfl, hp⟩
  exact ⟨rfl, WrZ.of h1 h2 h4 hp⟩
/-- A text's bytes. -/
def txB (s : List UInt8) : List UInt8 := leb s.length ++ s
theorem wText_z (s : List UInt8) (h : WrZ Z w p l) (hl : l.length + s.length + 10 ≤ 140737488355328) :
    Calls Tryz.prog 52 #[.pointer (some ⟨p, 0, none⟩), .string (strB s)] w fun e w' => e = .returned (.tuple #[]) ∧ WrZ Z w' p (l ++ txB s) ∧ Off Z w w' := by
  obtain ⟨h1, h2, A, c, h3, h4⟩ := h
  refine (wText_any p A _ c l s w h3 (by omega)).mono ?_
  rintro e w' ⟨rfl, hp⟩
  rw [List.append_assoc] at hp
  exact ⟨rfl, WrZ.of h1 h2 h4 hp⟩
/-- Put of a row that the writer has not. -/
theorem wPut_z (A2 : Option Addr) (m c2 : Nat) (xs : List Nat) (h : WrZ Z w p l) (hx : RdU w w.heap.size A2 m xs) (hap : ∀ k, isB A2 k → ¬ Z k) (hxs : ∀ x ∈ xs, x < 18446744073709551616) (hl : l.length + 10 * m ≤ 140737488355328) :
    Calls Tryz.prog 53 #[.pointer (some ⟨p, 0, none⟩), .slice A2 m c2] w fun e w' => e = .returned (.tuple #[]) ∧ WrZ Z w' p (l ++ lebs xs) ∧ Off Z w w' := by
  obtain ⟨h1, h2, A, c, h3, h4⟩ := h
  refine (put_any p A _ c l A2 m c2 xs w h3 hx (fun k hk => ⟨fun e => hap k hk (e ▸ h1), fun hi => hap k hk (h4 k hi)⟩) hxs hl).mono ?_
  rintro e w' ⟨rfl, hp⟩
  exact ⟨rfl, WrZ.of h1 h2 h4 hp⟩
theorem newWriter_z (w : World) : Calls Tryz.prog 50 #[] w fun e w' => e = .returned (.pointer (some ⟨w.heap.size, 0, none⟩)) ∧ WrZ (fun k => w.heap.size ≤ k) w' w.heap.size [] ∧ Below w.heap.size w w' := by
  refine (newWriter_any w).mono ?_
  rintro e w' ⟨rfl, h, f⟩
  exact ⟨rfl, ⟨Nat.le_refl _, fun k hk => Nat.le_trans f.size hk, none, 0, h, fun k hk => by obtain ⟨x, hx, _⟩ := hk; cases hx⟩, f⟩
theorem bytes_z (h : WrZ Z w p l) (hl : l.length ≤ 140737488355328) :
    Calls Tryz.prog 56 #[.pointer (some ⟨p, 0, none⟩)] w fun e w' => ∃ A' c', e = .returned (.slice A' l.length c') ∧ OwnB w' w.heap.size 5 (.slice A' l.length c') l ∧ Below w.heap.size w w' := by
  obtain ⟨h1, h2, A, c, h3, h4⟩ := h
  exact bytes_any p A _ c l w h3 hl
end Go.Proofs.YtdbjihpdfiipcaaGreat
