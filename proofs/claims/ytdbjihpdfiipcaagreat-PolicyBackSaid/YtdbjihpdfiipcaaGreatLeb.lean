/- Numbers as bytes, plain: LEB128, four bytes; a writer as a thing of the world. No condition. -/
import Derived.Test.YtdbjihpdfiipcaaGreatLen64
import Derived.Test.YtdbjihpdfiipcaaGreatOff
namespace Go.Proofs.YtdbjihpdfiipcaaGreat
open Go.RowKit
def lebN : Nat → Nat → List UInt8
  | 0, x => [UInt8.ofNat x]
  | k + 1, x => UInt8.ofNat (x % 128 + 128) :: lebN k (x / 128)
def leb (x : Nat) : List UInt8 := lebN (grp x - 1) x
def le32 (x : Nat) : List UInt8 := [UInt8.ofNat x, UInt8.ofNat (x / 256), UInt8.ofNat (x / 65536), UInt8.ofNat (x / 16777216)]
theorem lebN_length (k x : Nat) : (lebN k x).length = k + 1 := by
  induction k generalizing x with
  | zero => rfl
  | succ k ih => rw [lebN, List.length_cons, ih]
theorem leb_length (x : Nat) (h : x < 2 ^ 64) : (leb x).length = grp x := by
  rw [leb, lebN_length]
  have := grp_pos x h
  omega
theorem leb_small {x : Nat} (h : x < 128) : leb x = [UInt8.ofNat x] := by rw [leb, grp_small h]; rfl
theorem leb_step {x : Nat} (h : 128 ≤ x) (h2 : x < 2 ^ 64) : leb x = UInt8.ofNat (x % 128 + 128) :: leb (x / 128) := by
  have h3 := grp_pos (x / 128) (by omega)
  rw [leb, grp_step h h2, leb, Nat.add_sub_cancel]
  obtain ⟨k, hk⟩ := Nat.exists_eq_add_of_le h3
  rw [hk, Nat.add_comm 1 k, lebN, Nat.add_sub_cancel]
theorem bits_or128 (X : Nat) (h : X < 256) : bits BinOp.or IntKind.u8 (X : Int) 128 = ((X % 128 + 128 : Nat) : Int) := by
  have : ∀ X : Fin 256, bits BinOp.or IntKind.u8 (X.val : Int) 128 = ((X.val % 128 + 128 : Nat) : Int) := by decide +kernel
  exact this ⟨X, h⟩
/-- A writer at p: its bytes l. -/
def Wr (w : World) (p : Nat) (A : Option Addr) (n c : Nat) (l : List UInt8) : Prop := Blk w p 130 [.slice A n c] ∧ OwnB w 0 5 (.slice A n c) l
theorem Wr.len {w : World} {p : Nat} {A : Option Addr} {n c : Nat} {l : List UInt8} (h : Wr w p A n c l) : l.length = n := h.2.len
theorem Wr.off {X : Nat → Prop} {w w' : World} {p : Nat} {A : Option Addr} {n c : Nat} {l : List UInt8} (h : Wr w p A n c l) (hb : Off X w w') (h1 : ¬ X p) (h2 : ∀ k, isB A k → ¬ X k) : Wr w' p A n c l := ⟨h.1.off hb h1, h.2.off hb h2⟩
theorem Wr.notOwn {w : World} {p : Nat} {A : Option Addr} {n c : Nat} {l : List UInt8} (h : Wr w p A n c l) : ¬ isB A p := by
  rintro ⟨x, rfl, rfl⟩
  exact h.2.not_row h.1 (by decide) rfl
/-- What is written: the slice is the old one or a new one; all else stays. -/
def Wrote (w w' : World) (p : Nat) (A A' : Option Addr) : Prop := (A' = A ∨ ∃ g, A' = some ⟨g, 0, none⟩ ∧ w.heap.size ≤ g) ∧ Off (fun k => k = p ∨ isB A k) w w'
theorem Wrote.refl (w : World) (p : Nat) (A : Option Addr) : Wrote w w p A A := ⟨.inl rfl, Off.refl _ _⟩
theorem Wrote.trans {a b c : World} {p : Nat} {A B C : Option Addr} (h : Wrote a b p A B) (k : Wrote b c p B C) : Wrote a c p A C := by
  refine ⟨?_, h.2.trans k.2 fun i hi hy => ?_⟩
  · rcases k.1 with rfl | ⟨g, rfl, hg⟩
    · exact h.1
    · exact .inr ⟨g, rfl, Nat.le_trans h.2.size hg⟩
  · rcases hy with rfl | ⟨x, rfl, rfl⟩
    · exact .inl rfl
    · rcases h.1 with h1 | ⟨g, h1, hg⟩
      · exact .inr ⟨x, h1.symm, rfl⟩
      · injection h1 with h1
        subst h1
        exact absurd hi (Nat.not_lt.2 hg)
/-- What a writer's method leaves: its bytes are l. -/
def WrP (w : World) (p : Nat) (A : Option Addr) (l : List UInt8) (w' : World) : Prop := ∃ A' c', Wr w' p A' l.length c' l ∧ Wrote w w' p A A'
theorem WrP.to {w w1 w2 : World} {p : Nat} {A B : Option Addr} {l : List UInt8} (h : Wrote w w1 p A B) (k : WrP w1 p B l w2) : WrP w p A l w2 := by
  obtain ⟨C, c, h1, h2⟩ := k
  exact ⟨C, c, h1, h.trans h2⟩
set_option maxRecDepth 100000 in
set_option maxHeartbeats 1000000 in
theorem more_any (p : Nat) (A : Option Addr) (n c : Nat) (l : List UInt8) (A2 : Option Addr) (m c2 : Nat) (l2 : List UInt8) (w : World) (h : Wr w p A n c l) (hr : RdB w w.heap.size A2 m l2) (hlen : n + m ≤ 140737488355328) :
    Calls Tryz.prog 102 #[.pointer (some ⟨p, 0, none⟩), .slice A2 m c2] w fun e w' => e = .returned (.tuple #[]) ∧ WrP w p A (l ++ l2) w' := by
  have c1 := h.1.cell 0
  have z1 := h.1.frozen 0
  have hl := h.2.len
  have hl2 := hr.1
  go_enter Tryz.func102, Tryz.ntmps102
  go_wp2_with (at_builtin; go_must (refine appendG T23 rfl rfl rfl h.2 rfl hr hlen (Nat.zero_le _) ?_); intro A' c' w' o1 f1 ho; have k1 := h.1.off f1 h.notOwn; have c2 := k1.cell 0; have z2 := k1.frozen 0)
  refine bodyPost_end (results_none rfl _ _ _) rfl ⟨rfl, A', c', ⟨?_, ?_⟩, ?_, ?_⟩
  · rw [List.length_append, hl, hl2]
    exact k1.set 0 _
  · rw [List.length_append, hl, hl2]
    exact o1.off ((Off.refl (fun k => k = p) w').setCell (fun _ => rfl) _) (fun k hk hx => by
      subst hx
      rcases ho with rfl | rfl
      · exact h.notOwn hk
      · obtain ⟨x, hx, rfl⟩ := hk
        injection hx with hx
        subst hx
        exact Nat.lt_irrefl _ h.1.lt)
  · rcases ho with ho | ho
    · exact .inl ho
    · exact .inr ⟨_, ho, Nat.le_refl _⟩
  · exact (f1.mono fun _ _ hk => .inr hk).setCell (fun _ => .inl rfl) _
theorem more_nil (A2 : Option Addr) (m c2 : Nat) (w : World) :
    Calls Tryz.prog 102 #[.pointer none, .slice A2 m c2] w fun e w' => e = .returned (.tuple #[]) ∧ w' = w := by
  go_enter Tryz.func102, Tryz.ntmps102
  go_wp2_with fail
  exact bodyPost_end (results_none rfl _ _ _) rfl ⟨rfl, rfl⟩
end Go.Proofs.YtdbjihpdfiipcaaGreat
