/- The document's reader as a thing of the world: drop, Raw. Condition: the bytes are at most 2^47. -/
import Derived.Test.YtdblgjecbmebjaaFrontLaw
import Derived.Test.YtdblgjecbmebjaaRefShort
import Derived.Test.YtdblgjecbmebjaaCutLaw
namespace Go.Proofs.Ytdblgjecbmebjaa
open Go.RowKit
set_option linter.unusedVariables false
def Rm (w : World) (p : Nat) (A : Option Addr) (n c : Nat) (s : RS) : Prop := Blk w p 50 [.slice A n c, .bool s.st] ∧ OwnB w 0 5 (.slice A n c) s.l
theorem Rm.len {w : World} {p : Nat} {A : Option Addr} {n c : Nat} {s : RS} (h : Rm w p A n c s) : s.l.length = n := h.2.len
theorem Rm.off {X : Nat → Prop} {w w' : World} {p : Nat} {A : Option Addr} {n c : Nat} {s : RS} (h : Rm w p A n c s) (hb : Off X w w') (h1 : ¬ X p) (h2 : ∀ k, isB A k → ¬ X k) : Rm w' p A n c s := ⟨h.1.off hb h1, h.2.off hb h2⟩
theorem Rm.notOwn {w : World} {p : Nat} {A : Option Addr} {n c : Nat} {s : RS} (h : Rm w p A n c s) : ¬ isB A p := by
  rintro ⟨x, rfl, rfl⟩
  exact h.2.not_row h.1 (by decide) rfl
theorem Rm.below {w w' : World} (hb : Below w.heap.size w w') {p : Nat} {A : Option Addr} {n c : Nat} {s : RS} (h : Rm w p A n c s) : Rm w' p A n c s := h.off (Off.of_all hb) id (fun _ _ => id)
def RmP (w : World) (p : Nat) (A : Option Addr) (s : RS) (w' : World) : Prop := ∃ A' c', Rm w' p A' s.l.length c' s ∧ Wrote w w' p A A'
theorem RmP.to {w w1 w2 : World} {p : Nat} {A B : Option Addr} {s : RS} (h : Wrote w w1 p A B) (k : RmP w1 p B s w2) : RmP w p A s w2 := by
  obtain ⟨C, c, h1, h2⟩ := k
  exact ⟨C, c, h1, h.trans h2⟩
theorem Wrote.of_below {w w' : World} (h : Below w.heap.size w w') (p : Nat) (A : Option Addr) : Wrote w w' p A A := ⟨.inl rfl, (Off.of_all h).mono fun _ _ h => h.elim⟩
/-- The reader is stopped. -/
theorem Rm.stop {w : World} {p : Nat} {A : Option Addr} {n c : Nat} {s : RS} (h : Rm w p A n c s) : RmP w p A ⟨s.l, true⟩ (w.setCell ⟨p, 1, none⟩ (.bool true)) := by
  have o : Off (fun k => k = p) w (w.setCell ⟨p, 1, none⟩ (.bool true)) := (Off.refl (fun k => k = p) w).setCell (p := ⟨p, 1, none⟩) (fun _ => rfl) _
  refine ⟨A, c, ⟨?_, ?_⟩, .inl rfl, o.mono fun _ _ h => .inl h⟩
  · rw [h.len]
    exact h.1.set 1 _
  · rw [h.len]
    exact h.2.off o (fun k hk e => h.notOwn (by have e' : k = p := e; rwa [e'] at hk))
theorem Rm.put {X : Nat → Prop} {w w' : World} {p : Nat} {A A' : Option Addr} {n c m c' : Nat} {l' : List UInt8} {st : Bool} (k1 : Blk w' p 50 [.slice A n c, .bool st]) (o1 : OwnB w' 0 5 (.slice A' m c') l') (fa : Off X w w') (hX : ∀ k, X k → w.heap.size ≤ k)
    (hA : ∃ g, A' = some ⟨g, 0, none⟩ ∧ w.heap.size ≤ g) (hp : p < w.heap.size) : RmP w p A ⟨l', st⟩ (w'.setCell ⟨p, 0, none⟩ (.slice A' m c')) := by
  have o : Off (fun k => k = p) w' (w'.setCell ⟨p, 0, none⟩ (.slice A' m c')) := (Off.refl (fun k => k = p) w').setCell (p := ⟨p, 0, none⟩) (fun _ => rfl) _
  have hl := o1.len
  refine ⟨A', c', ⟨?_, ?_⟩, .inr hA, ?_⟩
  · rw [hl]
    exact k1.set 0 _
  · rw [hl]
    refine o1.off o (fun k hk e => ?_)
    obtain ⟨g, rfl, hg⟩ := hA
    obtain ⟨x, hx, rfl⟩ := hk
    injection hx with hx
    subst hx
    have e' : g = p := e
    omega
  · have h2 : Off (fun k => k = p ∨ isB A k) w w' := fa.mono fun k hk hx => by have := hX k hx; omega
    exact h2.trans o fun k hk e => .inl e
set_option maxRecDepth 100000 in
set_option maxHeartbeats 1000000 in
theorem drop_any (p : Nat) (A : Option Addr) (n c : Nat) (l : List UInt8) (st : Bool) (k : Nat) (w : World) (h : Rm w p A n c ⟨l, st⟩) (hk : k ≤ n) (hn : n ≤ 140737488355328) :
    Calls Try.prog 56 #[.pointer (some ⟨p, 0, none⟩), .int .i64 k] w fun e w' => e = .returned (.tuple #[]) ∧ RmP w p A ⟨l.drop k, st⟩ w' := by
  have hnc := h.2.cap
  have hl := h.2.len
  simp only at hl
  have hpl := h.1.lt
  have c0 := h.1.cell 0
  have b1 : (0 : Int) ≤ (k : Int) := by omega
  have b2 : (k : Int) ≤ (n : Int) := by omega
  have b3 : (k : Int) ≤ (c : Int) := by omega
  have ra : RdB (w.alloc (.cells #[] 5)) w.heap.size (if c = k then A else A.map fun x => x.add k) (n - k) (l.drop k) := by
    obtain ⟨A1, e1, r1⟩ := h.2.rd.sliced (i := k) (k := n) (c := c) hk (Nat.le_refl n) hnc
    rw [List.take_of_length_le (by rw [hl]; exact Nat.le_refl n)] at r1
    simp only [sliced, Nat.mul_one] at e1
    injection e1 with e1 _ _
    rw [e1]
    exact r1.below ((Below.refl _ w).alloc (Nat.le_refl _) _)
  go_enter Try.func56, Try.ntmps56
  by_cases hci : c = k
  · rw [if_pos hci] at ra
    go_wp2_with (at_builtin; go_must (refine appendG T23 rfl rfl rfl (OwnB.of_blk (l := []) (Blk.of_new w _ _) (Nat.zero_le _) rfl (by simp [maxLen])) rfl ra (by omega) (Nat.zero_le _) ?_); intro A' c' w' o1 f1 ho; have h1 := h.off ((Off.refl (fun _ => False) w).alloc (.cells #[] 5)) id (fun _ _ => id); have fa : Off (isB (some ⟨w.heap.size, 0, none⟩)) w w' := ((Off.refl _ w).alloc (.cells #[] 5)).trans f1 (fun _ _ h => h); have k1 := h.1.off fa (fun hk => by obtain ⟨x, hx, hxp⟩ := hk; injection hx with hx; subst hx; exact absurd hxp (by simp only; omega)); have c9 := k1.cell 0; have z9 := k1.frozen 0)
    go_end0
    refine ⟨rfl, Rm.put k1 (by simpa using o1) fa (fun k hk => by obtain ⟨x, hx, rfl⟩ := hk; injection hx with hx; subst hx; exact Nat.le_refl _) ?_ hpl⟩
    rcases ho with rfl | rfl
    · exact ⟨_, rfl, Nat.le_refl _⟩
    · exact ⟨_, rfl, by simp⟩
  · rw [if_neg hci] at ra
    go_wp2_with (at_builtin; go_must (refine appendG T23 rfl rfl rfl (OwnB.of_blk (l := []) (Blk.of_new w _ _) (Nat.zero_le _) rfl (by simp [maxLen])) rfl ra (by omega) (Nat.zero_le _) ?_); intro A' c' w' o1 f1 ho; have h1 := h.off ((Off.refl (fun _ => False) w).alloc (.cells #[] 5)) id (fun _ _ => id); have fa : Off (isB (some ⟨w.heap.size, 0, none⟩)) w w' := ((Off.refl _ w).alloc (.cells #[] 5)).trans f1 (fun _ _ h => h); have k1 := h.1.off fa (fun hk => by obtain ⟨x, hx, hxp⟩ := hk; injection hx with hx; subst hx; exact absurd hxp (by simp only; omega)); have c9 := k1.cell 0; have z9 := k1.frozen 0)
    go_end0
    refine ⟨rfl, Rm.put k1 (by simpa using o1) fa (fun k hk => by obtain ⟨x, hx, rfl⟩ := hk; injection hx with hx; subst hx; exact Nat.le_refl _) ?_ hpl⟩
    rcases ho with rfl | rfl
    · exact ⟨_, rfl, Nat.le_refl _⟩
    · exact ⟨_, rfl, by simp⟩
set_option maxRecDepth 100000 in
set_option maxHeartbeats 2000000 in
theorem refRaw_any (p : Nat) (A : Option Addr) (n c : Nat) (s : RS) (m : Int) (w : World) (h : Rm w p A n c s) (hn : n ≤ 140737488355328) :
    Calls Try.prog 32 #[.pointer (some ⟨p, 0, none⟩), .int .i64 m] w fun e w' => ∃ Ar nr cr, e = .returned (.slice Ar nr cr) ∧ OwnB w' w.heap.size 5 (.slice Ar nr cr) (takeS (findRaw m) [] s).1 ∧ RmP w p A (takeS (findRaw m) [] s).2 w' := by
  have hnc := h.2.cap
  have hl := h.2.len
  have hpl := h.1.lt
  have c0 := h.1.cell 0
  have c1 := h.1.cell 1
  have z1 := h.1.frozen 1
  have hst := h.stop
  obtain ⟨l, st⟩ := s
  simp only at hl
  go_enter Try.func32, Try.ntmps32
  cases st
  · by_cases hm : m < 0 ∨ (n : Int) < m
    · have hf : findRaw m l = none := by rw [findRaw, if_pos (by rw [hl]; exact hm)]
      by_cases hm0 : m < 0
      · have d1 : decide (m < 0) = true := by simp [hm0]
        go_wp2_with fail
        go_ret
        rw [takeS, hf]
        exact ⟨none, 0, 0, rfl, OwnB.nil_ _ _ _, hst⟩
      · have d1 : decide (m < 0) = false := by simp; omega
        have d2 : decide ((n : Int) < m) = true := by simp; omega
        go_wp2_with fail
        go_ret
        rw [takeS, hf]
        exact ⟨none, 0, 0, rfl, OwnB.nil_ _ _ _, hst⟩
    · obtain ⟨i, rfl⟩ : ∃ i : Nat, m = (i : Int) := ⟨m.toNat, by omega⟩
      have hf : findRaw (i : Int) l = some (l.take i, i) := by rw [findRaw, if_neg (by rw [hl]; exact hm)]; rfl
      have d1 : decide ((i : Int) < 0) = false := by simp
      have d2 : decide ((n : Int) < (i : Int)) = false := by simp; omega
      have hi : i ≤ n := by omega
      have b1 : (0 : Int) ≤ (i : Int) := by omega
      have b2 : (i : Int) ≤ (c : Int) := by omega
      have hic : i ≤ c := by omega
      have ra := (h.2.rd.take hi).below ((Below.refl _ w).alloc (Nat.le_refl _) (.cells #[] 5))
      have hAlt : ∀ k, isB A k → k < w.heap.size := fun k hk => (h.2.isB_lt hk).2
      clear hm hst
      go_wp2_with (at_builtin; go_must (refine appendR T23 rfl rfl rfl (OwnB.of_blk (l := []) (Blk.of_new w _ _) (Nat.le_refl _) rfl (by simp [maxLen])) rfl ra (by omega) ((Below.refl _ w).alloc (Nat.le_refl _) _) (Nat.le_refl _) ?_); intro A' c' w' o1 f1 _)
      have h2 := h.below f1
      refine (drop_any p A n c l false i w' h2 hi hn).mono ?_
      rintro e w3 ⟨rfl, hp⟩
      rw [Nat.zero_add, List.nil_append] at o1
      have hp2 : RmP w p A ⟨l.drop i, false⟩ w3 := hp.to (Wrote.of_below f1 p A)
      obtain ⟨A3, c3, _, d3⟩ := hp
      have o3 := o1.off d3.2 (fun k hk h => by
        have h1 := (o1.isB_lt hk).1
        rcases h with h | h
        · omega
        · have h4 := hAlt k h
          omega)
      go_wp2_with fail
      go_ret
      rw [takeS_some hf]
      exact ⟨A', i, c', rfl, o3, hp2⟩
  · go_wp2_with fail
    go_ret
    exact ⟨none, 0, 0, rfl, OwnB.nil_ _ _ _, hst⟩
end Go.Proofs.Ytdblgjecbmebjaa
