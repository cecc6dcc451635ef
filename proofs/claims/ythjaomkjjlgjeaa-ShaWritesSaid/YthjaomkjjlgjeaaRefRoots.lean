/- The document's roots of the first primes; First; Keys. Condition: 64 primes at most. -/
import Derived.Test.YthjaomkjjlgjeaaRefRoot
import Derived.Test.YthjaomkjjlgjeaaPrimes
import Derived.Test.YthjaomkjjlgjeaaShaNew
namespace Go.Proofs.Ythjaomkjjlgjeaa
open Go.RowKit
set_option linter.unusedVariables false
set_option linter.unusedSimpArgs false
theorem nvs_append (l m : List Nat) : nvs (l ++ m) = nvs l ++ nvs m := by simp [nvs]
/-- v owns these numbers in a row from block base on. -/
def OwnN (w : World) (base : Nat) (e : TypeId) (v : Value) (l : List Nat) : Prop := w.ownsRow base e 1 v l.length (nvs l)
theorem OwnN.alloc {w : World} {base e : Nat} {v : Value} {l : List Nat} (h : OwnN w base e v l) (o : Obj) : OwnN (w.alloc o) base e v l := World.ownsRow.alloc h o
theorem OwnN.len {w : World} {base e : Nat} {A : Option Addr} {n c : Nat} {l : List Nat} (h : OwnN w base e (.slice A n c) l) : l.length = n := by
  rcases h.2 with ⟨h1, h2⟩ | ⟨g, cap, cur, h1, _⟩
  · injection h1 with _ h3 _; omega
  · injection h1 with _ h3 _; exact h3.symm
theorem OwnN.below {w w' : World} {base e : Nat} {v : Value} {l : List Nat} (h : OwnN w base e v l) {B : Nat} (hB : w.heap.size ≤ B) (hb : Below B w w') : OwnN w' base e v l := by
  refine ⟨h.1, ?_⟩
  rcases h.2 with hn | ⟨g, cap, cur, h1, h2, h3, h4⟩
  · exact .inl hn
  · refine .inr ⟨g, cap, cur, h1, h2, ?_, h4⟩
    rw [hb.block g (by have := (Array.getElem?_eq_some_iff.1 h3).1; omega)]
    exact h3
theorem OwnN.nil_ {w : World} {base e : Nat} : OwnN w base e (.slice none 0 0) [] := ⟨rfl, .inl ⟨rfl, rfl⟩⟩
theorem OwnN.cell {w : World} {base e : Nat} {g n c : Nat} {l : List Nat} (h : OwnN w base e (.slice (some ⟨g, 0, none⟩) n c) l) {j : Nat} (hj : j < l.length) : w.cell? ⟨g, j, none⟩ = some (.int .u32 ((atN l j : Nat) : Int)) := by
  have h1 := World.ownsRow.cells h (g := g) rfl j (nv (atN l j)) (by simp [nvs, atN, hj])
  rwa [show (⟨g, 0, none⟩ : Addr).add j = ⟨g, j, none⟩ from by unfold Addr.add; split <;> simp_all] at h1
theorem OwnN.lt {w : World} {base e : Nat} {g n c : Nat} {l : List Nat} (h : OwnN w base e (.slice (some ⟨g, 0, none⟩) n c) l) : g < w.heap.size := (World.ownsRow.lt h g rfl).2
structure NumTy (P : Program) (t e : TypeId) : Prop where
  sl : P.underlying t = some (.slice e)
  info : (P.info? e).map (fun i => (i.zero, i.size, i.bytes)) = some (some (.int .u32 0), 1, 4)
theorem append1N {P : Program} {t e : TypeId} (T : NumTy P t e) {ops : Array Oper} {rest : List Oper} {o : Oper} {a : Act} {Q : Exit → Act → World → Prop} {w0 w : World}
    (hgd : o.guard = none) {s x : Operand} (ho : o.op = .call { callee := .builtin .append, args := #[s, x], argTypes := #[t, t] })
    {base : Nat} {A : Option Addr} {n c : Nat} {y : Value} {l : List Nat} (b : Nat) (hy : y = nv b) (hs : a.eval s = .slice A n c) (hx : a.eval x = .slice (some ⟨w.heap.size, 0, none⟩) 1 1) (hown : OwnN w base e (.slice A n c) l)
    (hlen : n < 1000000) (hB : Below base w0 w) (hbase : base ≤ w0.heap.size)
    (h : ∀ g' c' w', OwnN w' base e (.slice (some ⟨g', 0, none⟩) (n + 1) c') (l ++ [b]) → Below base w0 w' → wpList P ops Q rest (a.put o.dst (.slice (some ⟨g', 0, none⟩) (n + 1) c')) w') :
    wpList P ops Q (o :: rest) a (w.alloc (.cells #[y] e)) := by
  subst hy
  have hl := hown.len
  subst hl
  have hbw : base ≤ w.heap.size := Nat.le_trans hbase hB.size
  obtain ⟨i, hi, hz0, hz1, hz2⟩ := info_parts T.info
  refine wpList_append_own _ hgd s x t ho base e i (.int .u32 0) 1 4 T.sl hi hz0 hz1 hz2 rfl (by decide) _ l.length (nvs l) hs (hown.alloc _) ⟨w.heap.size, 0, none⟩ 1 1 [nv b] hx rfl (cell_one_new _ _ _) (by simp [nv]; rfl)
    (by simp only [maxLen]; omega) (by omega) (by simp; omega) ?_
  intro v' w' h1 h2 h3
  have h4 : OwnN w' base e v' (l ++ [b]) := by
    unfold OwnN; rw [nvs_append, List.length_append]; exact h1
  rcases h1.2 with ⟨_, h5⟩ | ⟨g, cap, _, h5, _⟩
  · omega
  · subst h5
    exact h g cap w' h4 ((hB.alloc hbw _).grown h2 (by simp; omega) (fun k hk => (World.ownsRow.lt hown k hk).1))
theorem T69 : NumTy Try.prog 69 40 := ⟨Try.underlying69, by kernel_rfl⟩
/-- The words of the first k roots. -/
def rtsN (power k : Nat) : List Nat := (List.range k).map fun j => rootR power (prAt j) % 4294967296
theorem rtsN_succ (power k : Nat) : rtsN power (k + 1) = rtsN power k ++ [rootR power (prAt k) % 4294967296] := by simp [rtsN, List.range_succ]
theorem rtsN_length (power k : Nat) : (rtsN power k).length = k := by simp [rtsN]
theorem noDiv_isP : ∀ p, p < 314 → 2 ≤ p → noDiv p p = isP p := by decide +kernel
theorem and_word (v : Nat) (h : v < 18446744073709551616) : bits .and .u64 (v : Int) 4294967295 = ((v % 4294967296 : Nat) : Int) := by
  have := u64_and_nat v 4294967295 h (by omega)
  rw [show (4294967295 : Nat) = 2 ^ 32 - 1 from rfl, Nat.and_two_pow_sub_one_eq_mod] at this
  exact this
theorem rootR_lt (power p : Nat) : rootR power p < 18446744073709551616 := by have := grt_lt (under p power); unfold rootR; omega
theorem cntP_313 (p : Nat) (hp : p ≤ 313) (h : cntP p < 64) : p < 313 := by
  rcases Nat.lt_or_eq_of_le hp with h1 | h1
  · exact h1
  · subst h1; rw [cnt_313] at h; omega
attribute [local irreducible] rootR rtsN prAt isP noDiv cntP
set_option maxRecDepth 100000 in
set_option maxHeartbeats 2000000 in
theorem roots_any (n power : Nat) (hn : n ≤ 64) (hpw : 1 ≤ power ∧ power ≤ 3) (w : World) :
    Calls Try.prog 48 #[.int .i64 n, .int .i64 power] w fun e w' => ∃ A c, e = .returned (.slice A n c) ∧ OwnN w' w.heap.size 40 (.slice A n c) (rtsN power n) ∧ Below w.heap.size w w' := by
  go_enter Try.func48, Try.ntmps48
  go_wp2_with fail
  go_loopw [5, 6] (fun s5 s6 wr => ∃ (p k : Nat) (A : Option Addr) (c : Nat), 2 ≤ p ∧ p ≤ 313 ∧ k = cntP p ∧ k ≤ n ∧ s6 = .int .u64 p ∧ s5 = .slice A k c ∧ OwnN wr w.heap.size 40 (.slice A k c) (rtsN power k) ∧ Below w.heap.size w wr) (fun _ s6 _ => 314 - (intOf s6).toNat)
  case atStart => exact ⟨2, 0, none, 0, by omega, by omega, by rw [cnt_two], by omega, rfl, rfl, by rw [show rtsN power 0 = [] from by unfold rtsN; rfl]; exact OwnN.nil_, Below.refl _ w⟩
  case round =>
    obtain ⟨p, k, A, c, hp2, hp3, hk, hkn, rfl, rfl, ow, f1⟩ := hrel
    by_cases hlt : k < n
    · have d1 : decide ((k : Int) < (n : Int)) = true := by simp; omega
      have hp4 := cntP_313 p hp3 (by omega)
      have Hk := Lib.hid hk; clear hk
      go_wp2_with fail
      go_loopw [7, 8] (fun s7 s8 wi => ∃ d : Nat, 2 ≤ d ∧ d ≤ p ∧ s8 = .int .u64 d ∧ s7 = .bool (noDiv p d) ∧ wi = wr) (fun _ s8 _ => p - (intOf s8).toNat)
      case atStart => exact ⟨2, by omega, hp2, rfl, by rw [noDiv_two], rfl⟩
      case round =>
        obtain ⟨d, hd2, hdp, rfl, rfl, rfl⟩ := hrel
        by_cases hdl : d < p
        · have d2 : decide ((d : Int) < (p : Int)) = true := by simp; omega
          have hns := noDiv_succ p d hd2
          have b0 : ((d : Int) == 0) = false := by simp; omega
          have b1 : ¬ (d : Int) = 0 := by omega
          cases hm : (p % d != 0)
          · have d3 : ((p : Int) % (d : Int) == 0) = true := by
              have : p % d = 0 := by simpa using hm
              simp; omega
            rw [hm, Bool.and_false] at hns
            go_wp2_with fail
            go_roundw
            case rel => exact ⟨d + 1, by omega, by omega, by go_num, by rw [hns], by trivial⟩
            case measure => simp only [intOf]; omega
          · have d3 : ((p : Int) % (d : Int) == 0) = false := by
              have : p % d ≠ 0 := by simpa using hm
              simp; omega
            rw [hm, Bool.and_true] at hns
            go_wp2_with fail
            go_roundw
            case rel => exact ⟨d + 1, by omega, by omega, by go_num, by rw [hns], by trivial⟩
            case measure => simp only [intOf]; omega
        · obtain rfl : d = p := by omega
          have d2 : decide ((d : Int) < (d : Int)) = false := by simp
          rw [noDiv_isP d (by omega) hd2]
          cases hpr : isP d
          · have hc := cntP_no d hpr
            go_wp2_with fail
            go_roundw
            case rel => exact ⟨d + 1, k, A, c, by omega, by omega, by rw [hc, Hk.out], hkn, by go_num, rfl, ow, f1⟩
            case measure => simp only [intOf]; omega
          · have hc := cntP_yes d hd2 hpr
            have hpa := prAt_cnt d (by omega) hd2 hpr
            rw [← Hk.out] at hpa
            go_wp2_with fail
            refine (root_any d power (by omega) hpw _).mono ?_
            rintro e w3 ⟨rfl, f3⟩
            replace ow := ow.below (Nat.le_refl _) f3
            replace f1 := f1.trans (f3.mono f1.size)
            have ha := and_word (rootR power d) (rootR_lt power d)
            have hw : (((rootR power d % 4294967296 : Nat) : Int)) % 4294967296 = ((rootR power d % 4294967296 : Nat) : Int) := by omega
            have hsn := rtsN_succ power k
            rw [hpa] at hsn
            generalize rootR power d = R at *
            generalize R % 4294967296 = M at *
            have HSN := Lib.hid hsn; clear hsn f3
            go_wp2_with (at_builtin; go_must (refine append1N T69 rfl rfl M rfl rfl rfl ow (by omega) f1 (Nat.le_refl _) ?_); intro g' c' w4 ow4 f4)
            go_roundw
            case rel => exact ⟨d + 1, k + 1, _, c', by omega, by omega, by rw [hc, Hk.out], by omega, by go_num, rfl, by rw [HSN.out]; exact ow4, f4⟩
            case measure => simp only [intOf]; omega
    · obtain rfl : k = n := by omega
      have d1 : decide ((k : Int) < (k : Int)) = false := by simp
      go_wp2_with fail
      go_ret
      exact ⟨A, c, rfl, ow, f1⟩
end Go.Proofs.Ythjaomkjjlgjeaa
