/- sha.fill at square: the roots of the first primes, one word each. Condition: 64 words at most. -/
import Derived.Test.YthjaomkjjlgjeaaPrimes
import Derived.Test.YthjaomkjjlgjeaaWords
import Derived.Test.YthjaomkjjlgjeaaRoots
import Derived.Test.YthjaomkjjlgjeaaFillNext
import Derived.RangeFuncBox
import Derived.Shelf.RegionOpen
namespace Go.Proofs.Ythjaomkjjlgjeaa
open Go.RowKit
attribute [local go_sem] Oper.semAt_some
theorem primes_any (w : World) : Calls Try.prog 57 #[] w fun e w' => e = .returned (.func (.func 67) #[] #[]) ∧ w' = w := by
  go_enter Try.func57, Try.ntmps57
  go_wp2
  go_ret
  exact ⟨rfl, rfl⟩
attribute [local irreducible] prAt grt h2 filled rootW
set_option maxRecDepth 100000 in
set_option maxHeartbeats 8000000 in
theorem fillSq_any (b n tt : Nat) (hn : n ≤ 64) (w : World) (hb : Blk w b tt (List.replicate n (.int .u32 0))) :
    Calls Try.prog 50 #[.slice (some ⟨b, 0, none⟩) n n, .func (.func 51) #[] #[]] w fun e w' => e = .returned (.tuple #[]) ∧ Below b w w' ∧ Blk w' b tt (filled (fun p => grt (h2 p)) n n) := by
  refine (callsIn_wide (n := 9)).1 ?_
  refine callsIn_of_wp_marks Try.func50 rfl trivial ?_ rfl
  simp only [Try.ntmps50, List.size_toArray, List.length_cons, List.length_nil, Nat.reduceAdd, Nat.reduceSub, Array.replicate_succ, Array.replicate_zero, List.push_toArray, List.append_toArray, List.nil_append, List.cons_append]
  gi_wp2_with (refine ⟨trivial, ?_⟩; gi_at_call 57; refine (callsIn_wide.2 (primes_any _)).mono ?_; rintro e w' ⟨rfl, rfl⟩)
  have ba := hb.lt
  obtain ⟨s, hs⟩ : ∃ s, s = w.heap.size := ⟨_, rfl⟩
  obtain ⟨W0, hW0⟩ : ∃ W0, ((w.alloc (.cells #[.slice (some ⟨b, 0, none⟩) n n] 69)).alloc (.cells #[.func (.func 51) #[] #[]] 73)).alloc (.cells #[.int .i64 0] 3) = W0 := ⟨_, rfl⟩
  have q2 : Boxed W0 s 69 (.slice (some ⟨b, 0, none⟩) n n) := by rw [← hW0, hs]; exact ((Boxed.new w _ _).alloc _).alloc _
  have q3 : Boxed W0 (s + 1) 73 (.func (.func 51) #[] #[]) := by rw [← hW0, hs]; have := (Boxed.new (w.alloc (.cells #[.slice (some ⟨b, 0, none⟩) n n] 69)) 73 (.func (.func 51) #[] #[])).alloc (.cells #[.int .i64 0] 3); rwa [World.size_alloc] at this
  have q4 : Boxed W0 (s + 2) 3 (.int .i64 0) := by rw [← hW0, hs]; have := Boxed.new ((w.alloc (.cells #[.slice (some ⟨b, 0, none⟩) n n] 69)).alloc (.cells #[.func (.func 51) #[] #[]] 73)) 3 (.int .i64 0); rwa [World.size_alloc, World.size_alloc] at this
  have qb : Blk W0 b tt (List.replicate n (.int .u32 0)) := by rw [← hW0]; exact ((hb.alloc _).alloc _).alloc _
  have qB : Below b w W0 := by rw [← hW0]; exact (((Below.refl b w).alloc (by omega) _).alloc (by simp; omega) _).alloc (by simp; omega) _
  have hsz : W0.heap.size = s + 3 := by rw [← hW0, hs]; simp
  rw [hW0]
  try rw [show w.heap.size = s from hs.symm]
  have hbs : b < s := by omega
  have Hs := Lib.hid hs
  clear hs hW0
  refine wpIn_count (hro := rfl) (h1 := by omega) (gf := 67) (lb := #[]) rfl trivial (enters_of Try.func67 (by kernel_rfl) rfl)
    (primes_counts _ _ trivial rfl (by omega) W0) (fun _ => rfl)
    (FillI (fun p => grt (h2 p)) (.func (.func 51) #[] #[]) b n tt s W0.heap.size w)
    (fun _ W => Blk W b tt (filled (fun p => grt (h2 p)) n n) ∧ Below b w W) ?own ?ownx ?start (fun k W h => by have := h.1; omega)
    (fun k => { tmps := #[.slice (some ⟨b, 0, none⟩) n n, .func (.func 51) #[] #[], .pointer (some ⟨s, 0, none⟩), .pointer (some ⟨s + 1, 0, none⟩), .pointer (some ⟨s + 2, 0, none⟩), .int .u64 (prAt k), .func (.func 67) #[] #[], .int .u64 (prAt k), undef, undef, undef, undef, undef, undef, undef, undef, undef, undef, undef, undef, undef], defers := [] }) ?assign ?body ?stop
  case own => 
    intro k A B row h hg hr
    have ne : ∀ j, j < s + 3 → some j ≠ row := fun j hj e => by have := (hr j e.symm).1; omega
    exact ⟨h.1, h.2.1.kept hg (ne _ (by omega)), h.2.2.1.kept hg (ne _ (by omega)), h.2.2.2.1.kept hg (ne _ (by omega)), (hg.block b h.2.2.2.2.1.lt (ne _ (by omega))).trans h.2.2.2.2.1, h.2.2.2.2.2.1.grown hg (Nat.le_trans (Nat.le_of_lt ba) h.2.2.2.2.2.1.size) (fun j e => by have := (hr j e).1; omega), Nat.le_trans h.2.2.2.2.2.2 hg.size⟩
  case ownx =>
    intro k A B row h hg hr
    have ne : ∀ j, j < s + 3 → some j ≠ row := fun j hj e => by have := (hr j e.symm).1; omega
    exact ⟨(hg.block b h.1.lt (ne _ (by omega))).trans h.1, h.2.grown hg (Nat.le_trans (Nat.le_of_lt ba) h.2.size) (fun j e => by have := (hr j e).1; omega)⟩
  case start => exact ⟨by omega, q2, q3, q4, by rw [filled_zero]; exact qb, qB, Nat.le_refl _⟩
  case assign =>
    intro l k W K hK
    gi_wp2
    exact hK
  case body =>
    intro l k W hI
    obtain ⟨hk, k2, k3, k4, kb, kB, kz⟩ := id hI
    have HI := Lib.hid hI
    clear hI
    have c2 := k2.cell
    have c3 := k3.cell
    have c4 := k4.cell
    by_cases hkn : k = n
    · subst hkn
      clear qb q2 q3 q4 qB hb
      gi_wp2
      exact ⟨KeepsFrom.refl _ _, .inr ⟨rfl, kb, kB⟩⟩
    · have hlt : k < n := by omega
      clear qb q2 q3 q4 qB hb
      have g1 : decide ((k : Int) = (n : Int)) = false := by simp only [decide_eq_false_iff_not]; omega
      gi_wp2
      have hmx : Try.prog.follows .mixedOrders = true := by kernel_rfl
      have hki : (k : Int) < (n : Int) := by omega
      have z2 : s < W.heap.size := by omega
      have z3 : s + 1 < W.heap.size := by omega
      have z4 : s + 2 < W.heap.size := by omega
      have zb : b < W.heap.size := by omega
      have h51 : Fence.wide.fn 51 := trivial
      have hd : 1 ≤ 9 - 1 - 1 := by omega
      gi_region_with_o (gi_at_call 51; refine (CallsIn.inRound l (callsIn_wide.2 (square_any _ _))).mono ?_; rintro e w' ⟨rfl, f⟩; have d2 := (f.cell (p := ⟨s, 0, none⟩) z2).trans c2; have d3 := (f.cell (p := ⟨s + 1, 0, none⟩) z3).trans c3; have d4 := (f.cell (p := ⟨s + 2, 0, none⟩) z4).trans c4; have db := kb.drew.below f zb; have dc := db.cell k; rw [filled_at _ n k hlt] at dc; have df := db.frozen k)
      all_goals (
        have hI := HI.out
        have er : Value.int .u32 (IntKind.u32.wrap ((grt (h2 (prAt k)) : Nat) : Int)) = rootW (fun p => grt (h2 p)) k := rootW_wrap (fun p => grt (h2 p)) k
        rw [er]
        have hw4 := hI.word (w' := w') hbs f
        have nx := hI.next hlt hbs (by omega) (by omega) f
        clear er dc df db d2 d3 d4 c2 c3 c4 k2 k3 k4 kb hI
        obtain ⟨W2, hW2⟩ : ∃ W2, w'.setCell ⟨b, k, none⟩ (rootW (fun p => grt (h2 p)) k) = W2 := ⟨_, rfl⟩
        rw [hW2] at hw4 nx ⊢
        have c5 := hw4.cell
        have f5 := hw4.frozen
        gi_wp2
        exact ⟨nx.1, .inl ⟨rfl, nx.2⟩⟩)
  case stop =>
    rintro D k W hD ⟨kb, kB⟩ hK
    gi_wp2
    refine ⟨by simp, .inl ⟨_, _, rfl, run_takeDeferred hK, ?_⟩⟩
    have bD : b < D := by omega
    exact ⟨_, results_none rfl _ _ _, rfl, kB.grown (grownBy_putObj' W D _) (Nat.le_trans (Nat.le_of_lt ba) kB.size) (fun j e => by cases e; omega), ((grownBy_putObj' W D (.deferred none)).block b kb.lt (by simp; omega)).trans kb⟩
end Go.Proofs.Ythjaomkjjlgjeaa
