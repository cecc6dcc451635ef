/- law15's long and same: rows of policies. Condition: sizes. Printed by gen_synsame.py. -/
import Derived.Test.YtpcdmbajfmnoiaaGreatDoorPolSameP
import Derived.Test.YtpcdmbajfmnoiaaGreatDoorSynPrAll
namespace Go.Proofs.YtpcdmbajfmnoiaaGreatDoor
open Go.RowKit Go.Sort
set_option linter.unusedVariables false
set_option linter.unusedSimpArgs false
def psLong (L : List Po) : Bool := decide (20 < L.length) || L.any poLong
theorem psLong_ok {L : List Po} (hok : ∀ p ∈ L, oqPo p) (h : psLong L = false) : L.length ≤ 20 ∧ ∀ p ∈ L, okPo p := by
 unfold psLong at h
 simp only [Bool.or_eq_false_iff, decide_eq_false_iff_not] at h
 exact ⟨by omega, fun p hp => (hok p hp).ok (any_no h.2 p hp)⟩
set_option maxRecDepth 100000 in
set_option maxHeartbeats 4000000 in
theorem long15_any (A : Option Addr) (n c : Nat) (L : List Po) (w : World) (h : RdG 5 PoP w w.heap.size A n L) (hok : ∀ p ∈ L, oqPo p) :
  Calls Tryz.prog 8 #[.slice A n c] w fun e w' => e = .returned (.bool (psLong L)) ∧ Below w.heap.size w w' := by
 have hl := h.1
 obtain ⟨v, hv⟩ : ∃ v, psLong L = v := ⟨_, rfl⟩
 rw [hv]
 by_cases h20 : 20 < n
 ·have d1 : decide ((20 : Int) < (n : Int)) = true := by simp; omega
  obtain rfl : v = true := by rw [← hv]; unfold psLong; rw [hl, decide_eq_true h20]; rfl
  go_enter Tryz.func8, Tryz.ntmps8
  go_wp2_with fail
  go_ret
  exact ⟨rfl, Below.refl _ _⟩
 ·have d1 : decide ((20 : Int) < (n : Int)) = false := by simp; omega
  have hv1 : ∀ p ∈ L, poLong p = true → v = true := fun p hp h => by rw [← hv]; unfold psLong; rw [Bool.or_eq_true]; exact .inr (List.any_eq_true.2 ⟨p, hp, h⟩)
  have hv2 : (∀ p ∈ L.take n, poLong p = false) → v = false := fun h => by
   rw [← hv]; unfold psLong
   rw [hl, decide_eq_false h20, Bool.false_or, List.any_eq_false]
   rw [← hl, List.take_length] at h
   exact fun x hx => by rw [h x hx]; exact Bool.false_ne_true
  have HV1 := Lib.hid hv1; have HV2 := Lib.hid hv2; have HOK := Lib.hid hok; have H := Lib.hid h
  clear hv hv1 hv2 hok h
  go_enter Tryz.func8, Tryz.ntmps8
  go_wp2_with fail
  go_loopw [3] (fun v3 wr => ∃ k : Nat, v3 = .int .i64 k ∧ k ≤ n ∧ Below w.heap.size w wr ∧ (∀ p ∈ L.take k, poLong p = false)) (fun v3 _ => n - (intOf v3).toNat)
  case atStart => exact ⟨0, rfl, by omega, Below.refl _ _, by simp⟩
  case round =>
   obtain ⟨k, rfl, hk, f1, hall⟩ := hrel
   by_cases hlt2 : k < n
   ·have d5 : decide ((k : Int) < (n : Int)) = true := by simp; omega
    have b1 : (0 : Int) ≤ (k : Int) := by omega
    have b2 : (k : Int) < (n : Int) := by omega
    have hkl : k < L.length := by omega
    have hmem := List.getElem_mem hkl
    have hokp := HOK.out _ hmem
    have htk := (List.take_append_getElem hkl).symm
    obtain ⟨b, off, cs, p1, p2, p3, p4, p5⟩ := (H.out.mono f1.size f1 fun _ _ h => PoP.mono h f1.size f1).at_ hlt2
    obtain ⟨p, hp⟩ : ∃ p, L[k] = p := ⟨_, rfl⟩
    rw [hp] at hokp p4 hmem htk
    clear hp
    have hcl := long12_any p cs wr p4 hokp
    obtain ⟨v5, rfl, A5, n5, c5, rfl, _, _, hr⟩ := p4
    have g0 : wr.cell? ⟨b, off + k * 5, none⟩ = some (.int .u64 (p.id : Int)) := p5 0 _ rfl
    have g1 : wr.cell? ⟨b, off + k * 5 + 1, none⟩ = some (.string (strB p.ns)) := p5 1 _ rfl
    have g2 : wr.cell? ⟨b, off + k * 5 + 2, none⟩ = some (.int .u64 (p.service : Int)) := p5 2 _ rfl
    have g3 : wr.cell? ⟨b, off + k * 5 + 3, none⟩ = some (.int .i64 p.deny) := p5 3 _ rfl
    have g4 : wr.cell? ⟨b, off + k * 5 + 4, none⟩ = some (.slice A5 n5 c5) := p5 4 _ rfl
    clear p3 p5 hr
    subst p1
    go_wp2_with fail
    refine hcl.mono ?_
    rintro e w2 ⟨rfl, f2⟩
    rcases hm : poLong p with _ | _
    ·go_wp2_with fail
     go_roundw
     case rel =>
      refine ⟨k + 1, by go_num, by omega, f1.trans (f2.mono f1.size), ?_⟩
      rw [htk]
      intro x hx
      rcases List.mem_append.1 hx with hx | hx
      ·exact hall x hx
      ·rw [List.mem_singleton.1 hx]; exact hm
     case measure => simp [intOf]; omega
    ·go_wp2_with fail
     go_ret
     exact ⟨by rw [HV1.out p hmem hm]; rfl, f1.trans (f2.mono f1.size)⟩
   ·have d5 : decide ((k : Int) < (n : Int)) = false := by simp; omega
    have hkn : k = n := by omega
    rw [hkn] at hall
    go_wp2_with fail
    go_ret
    exact ⟨by rw [HV2.out hall]; rfl, f1⟩
def C5 (b o : Nat) (v0 v1 v2 v3 v4 : Value) (u : World) : Prop := u.cell? ⟨b, o, none⟩ = some v0 ∧ u.cell? ⟨b, o + 1, none⟩ = some v1 ∧ u.cell? ⟨b, o + 2, none⟩ = some v2 ∧ u.cell? ⟨b, o + 3, none⟩ = some v3 ∧ u.cell? ⟨b, o + 4, none⟩ = some v4
theorem C5.below {b o : Nat} {v0 v1 v2 v3 v4 : Value} {u u' : World} (h : C5 b o v0 v1 v2 v3 v4 u) (hb : Below u.heap.size u u') : C5 b o v0 v1 v2 v3 v4 u' := by
 obtain ⟨h0, h1, h2, h3, h4⟩ := h
 have hl := World.block_lt_of_cell? u _ h0
 exact ⟨(hb.cell (p := ⟨b, o, none⟩) hl).trans h0, (hb.cell (p := ⟨b, o + 1, none⟩) hl).trans h1, (hb.cell (p := ⟨b, o + 2, none⟩) hl).trans h2, (hb.cell (p := ⟨b, o + 3, none⟩) hl).trans h3, (hb.cell (p := ⟨b, o + 4, none⟩) hl).trans h4⟩
end Go.Proofs.YtpcdmbajfmnoiaaGreatDoor
