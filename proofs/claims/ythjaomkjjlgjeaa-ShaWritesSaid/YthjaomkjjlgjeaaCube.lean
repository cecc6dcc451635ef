/- sha.cube: by greatest at its closure. Condition: p below 2^32. -/
import Derived.Test.YthjaomkjjlgjeaaCubes
namespace Go.Proofs.Ythjaomkjjlgjeaa
open Go.RowKit
set_option maxRecDepth 100000 in
set_option maxHeartbeats 1000000 in
theorem greatest3_any (p b : Nat) (hp : p < 4294967296) (w : World) (hb : w.cell? ⟨b, 0, none⟩ = some (.int .u64 (p : Int))) :
    Calls Try.prog 58 #[.func (.func 61) #[] #[.pointer (some ⟨b, 0, none⟩)]] w fun e w' => e = .returned (.int .u64 (grt (h3 p) : Nat)) ∧ w' = w := by
  have c := fun x hx => cube1_any p x hp hx b w hb
  generalize h3 p = h at c ⊢
  go_enter Try.func58, Try.ntmps58
  go_wp2_with fail
  go_loopw [3, 4] (fun l m wr => ∃ j s q : Nat, q = 2 ^ j ∧ l = .int .u64 s ∧ m = .int .u64 (s + q : Nat) ∧ s + q ≤ 1099511627776 ∧ bs h j s = grt h ∧ wr = w) (fun l m _ => (intOf m).toNat - (intOf l).toNat)
  case atStart => exact ⟨40, 0, 1099511627776, rfl, rfl, rfl, by omega, rfl, rfl⟩
  case round =>
    obtain ⟨j, s, q, hq, rfl, rfl, hs, hbs, rfl⟩ := hrel
    cases j with
    | zero =>
      obtain rfl : q = 1 := hq
      go_wp2_with fail
      go_ret
      rw [← hbs, bs]
      exact ⟨rfl, rfl⟩
    | succ j =>
      obtain ⟨r, hr⟩ : ∃ r, r = 2 ^ j := ⟨_, rfl⟩
      obtain rfl : q = r + r := by rw [hq, Nat.pow_succ]; omega
      have pos : 0 < r := by rw [hr]; exact Nat.two_pow_pos j
      have HH := Lib.hid hr
      have g1 : decide ((1 : Int) < (r : Int) + (r : Int)) = true := by simp only [decide_eq_true_eq]; omega
      have c1 := c (s + r) (by omega)
      rw [bs, ← hr] at hbs
      clear hr hq
      go_wp2_with fail
      rw [show ((s : Int) + ((s : Int) + ((r : Int) + (r : Int)))) / 2 = ((s + r : Nat) : Int) from by omega]
      refine c1.mono ?_
      rintro e w' ⟨rfl, rfl⟩
      cases hv : h (s + r)
      · rw [hv] at hbs
        go_wp2
        exact ⟨⟨j, s, r, HH.out, rfl, by push_cast; rfl, by omega, by simpa using hbs, trivial⟩, by simp only [intOf]; omega⟩
      · rw [hv] at hbs
        go_wp2
        exact ⟨⟨j, s + r, r, HH.out, by push_cast; rfl, by rw [Nat.add_assoc]; push_cast; rfl, by omega, by simpa using hbs, trivial⟩, by simp only [intOf]; omega⟩
set_option maxRecDepth 100000 in
set_option maxHeartbeats 1000000 in
theorem cube_any (p : Nat) (hp : p < 4294967296) (w : World) :
    Calls Try.prog 53 #[.int .u64 p] w fun e w' => e = .returned (.int .u64 (grt (h3 p) : Nat)) ∧ Below w.heap.size w w' := by
  have c := fun (w : World) (b : Nat) (hb : w.cell? ⟨b, 0, none⟩ = some (.int .u64 (p : Int))) => greatest3_any p b hp w hb
  go_enter Try.func53, Try.ntmps53
  go_wp2_with fail
  refine (c _ _ ?_).mono ?_
  · exact (Boxed.new w 22 _).cell
  clear c
  rintro e w' ⟨rfl, rfl⟩
  go_wp2
  go_ret
  exact ⟨rfl, (Below.refl _ w).alloc (Nat.le_refl _) _⟩
end Go.Proofs.Ythjaomkjjlgjeaa
