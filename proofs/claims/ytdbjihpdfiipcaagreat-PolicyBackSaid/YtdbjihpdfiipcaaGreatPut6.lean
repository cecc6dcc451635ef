/- A writer's Put. Condition: all bytes together below 2^47. -/
import Derived.Test.YtdbjihpdfiipcaaGreatWriter2
namespace Go.Proofs.YtdbjihpdfiipcaaGreat
open Go.RowKit
def RdU (w : World) (B : Nat) (A : Option Addr) (n : Nat) (l : List Nat) : Prop :=
  l.length = n ∧ (0 < n → ∃ b off, A = some ⟨b, off, none⟩ ∧ b < B ∧ ∀ j (hj : j < l.length), w.cell? ⟨b, off + j, none⟩ = some (.int .u64 (l[j] : Nat)))
theorem RdU.below {w w' : World} {B : Nat} {A : Option Addr} {n : Nat} {l : List Nat} (h : RdU w B A n l) (hb : Below B w w') : RdU w' B A n l :=
  ⟨h.1, fun hn => by
    obtain ⟨b, off, h1, h2, h3⟩ := h.2 hn
    exact ⟨b, off, h1, h2, fun j hj => (hb.cell (p := ⟨b, off + j, none⟩) h2).trans (h3 j hj)⟩⟩
theorem RdU.more {w : World} {B B' : Nat} {A : Option Addr} {n : Nat} {l : List Nat} (h : RdU w B A n l) (hB : B ≤ B') : RdU w B' A n l :=
  ⟨h.1, fun hn => by
    obtain ⟨b, off, h1, h2, h3⟩ := h.2 hn
    exact ⟨b, off, h1, by omega, h3⟩⟩
theorem RdU.off {X : Nat → Prop} {w w' : World} {B : Nat} {A : Option Addr} {n : Nat} {l : List Nat} (h : RdU w B A n l) (hB : B ≤ w.heap.size) (hb : Off X w w') (hX : ∀ k, isB A k → ¬ X k) : RdU w' B A n l :=
  ⟨h.1, fun hn => by
    obtain ⟨b, off, h1, h2, h3⟩ := h.2 hn
    subst h1
    exact ⟨b, off, rfl, h2, fun j hj => (hb.cell (p := ⟨b, off + j, none⟩) (Nat.lt_of_lt_of_le h2 hB) (hX b ⟨_, rfl, rfl⟩)).trans (h3 j hj)⟩⟩
theorem RdU.at_ {w : World} {B : Nat} {A : Option Addr} {n : Nat} {l : List Nat} (h : RdU w B A n l) {k : Nat} (hk : k < n) : ∃ b off x, A = some ⟨b, off, none⟩ ∧ b < B ∧ l[k]? = some x ∧ w.cell? ⟨b, off + k, none⟩ = some (.int .u64 (x : Nat)) := by
  obtain ⟨b, off, h1, h2, h3⟩ := h.2 (by omega)
  have hl := h.1
  have hk' : k < l.length := by omega
  exact ⟨b, off, l[k], h1, h2, by simp [hk'], h3 k hk'⟩
def lebs (l : List Nat) : List UInt8 := l.flatMap leb
theorem lebs_take {l : List Nat} {k : Nat} {x : Nat} (h : l[k]? = some x) : lebs (l.take (k + 1)) = lebs (l.take k) ++ leb x := by
  obtain ⟨hk, rfl⟩ := List.getElem?_eq_some_iff.1 h
  rw [List.take_succ_eq_append_getElem hk]
  simp only [lebs, List.flatMap_append, List.flatMap_cons, List.flatMap_nil, List.append_nil]
theorem lebs_le (l : List Nat) (h : ∀ x ∈ l, x < 18446744073709551616) : (lebs l).length ≤ 10 * l.length := by
  induction l with
  | nil => simp [lebs]
  | cons x l ih =>
    have h1 := ih fun g hg => h g (List.mem_cons_of_mem _ hg)
    have h2 := h x List.mem_cons_self
    have h3 := leb_length x h2
    have h4 := grp_le x h2
    simp only [lebs, List.flatMap_cons, List.length_append, List.length_cons] at *
    omega
set_option maxRecDepth 100000 in
set_option maxHeartbeats 1000000 in
theorem put_any (p : Nat) (A : Option Addr) (n c : Nat) (l : List UInt8) (A2 : Option Addr) (m c2 : Nat) (xs : List Nat) (w : World) (h : Wr w p A n c l) (hx : RdU w w.heap.size A2 m xs) (hap : ∀ k, isB A2 k → k ≠ p ∧ ¬ isB A k) (hxs : ∀ x ∈ xs, x < 18446744073709551616)
    (hlen : n + 10 * m ≤ 140737488355328) :
    Calls Tryz.prog 53 #[.pointer (some ⟨p, 0, none⟩), .slice A2 m c2] w fun e w' => e = .returned (.tuple #[]) ∧ WrP w p A (l ++ lebs xs) w' := by
  have hl := hx.1
  have hln := h.len
  go_enter Tryz.func53, Tryz.ntmps53
  go_wp2_with fail
  go_loopw [8] (fun i wr => ∃ k : Nat, i = .int .i64 k ∧ k ≤ m ∧ WrP w p A (l ++ lebs (xs.take k)) wr) (fun i _ => m - (intOf i).toNat)
  case atStart => exact ⟨0, rfl, Nat.zero_le _, A, c, by simpa [lebs, hln] using h, Wrote.refl _ _ _⟩
  case round =>
    obtain ⟨k, rfl, hk, hp⟩ := hrel
    by_cases hlt : k < m
    · have d1 : decide ((k : Int) < (m : Int)) = true := by simp; omega
      have b1 : (0 : Int) ≤ (k : Int) := by omega
      have b2 : (k : Int) < (m : Int) := by omega
      obtain ⟨A1, c1, h2, d2⟩ := hp
      have hr := hx.off (Nat.le_refl _) d2.2 (fun k hk hx => by
        rcases hx with hx | hx
        · exact (hap k hk).1 hx
        · exact (hap k hk).2 hx)
      obtain ⟨b, off, x, rfl, hb, hf, e0⟩ := hr.at_ hlt
      have hst := lebs_take hf
      have hff := hxs x (List.mem_of_getElem? hf)
      have ht3 := lebs_le (xs.take k) (fun g hg => hxs g (List.mem_of_mem_take hg))
      rw [List.length_take] at ht3
      have ht4 : (l ++ lebs (xs.take k)).length + 10 ≤ 140737488355328 := by rw [List.length_append]; omega
      go_wp2_with fail
      refine (wUint_any p A1 _ c1 _ x wr hff h2 ht4).mono ?_
      rintro e w3 ⟨rfl, hp⟩
      go_wp2_with fail
      go_roundw
      case rel => exact ⟨k + 1, by go_num, by omega, by rw [hst, ← List.append_assoc]; exact hp.to d2⟩
      case measure => simp [intOf]; omega
    · obtain rfl : k = m := by omega
      have d1 : decide ((k : Int) < (k : Int)) = false := by simp
      rw [List.take_of_length_le (by omega)] at hp
      go_wp2_with fail
      go_end0
      exact ⟨rfl, hp⟩
end Go.Proofs.YtdbjihpdfiipcaaGreat
