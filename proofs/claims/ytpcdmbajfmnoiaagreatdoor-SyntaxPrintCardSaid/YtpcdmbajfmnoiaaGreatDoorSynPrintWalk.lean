/- The law SyntaxPrint: true. Conditions: the library's variables hold what they should. -/
import Derived.Test.YtpcdmbajfmnoiaaGreatDoorSynAwake
import Derived.Test.YtpcdmbajfmnoiaaGreatDoorSynSame
import Derived.Test.YtpcdmbajfmnoiaaGreatDoorRsPrAll
import Derived.Test.YtpcdmbajfmnoiaaGreatDoorRefPoA
namespace Go.Proofs.YtpcdmbajfmnoiaaGreatDoor
open Go.RowKit Go.Sort
set_option linter.unusedVariables false
set_option linter.unusedSimpArgs false
theorem rdP_c {w u : World} {A : Option Addr} {n : Nat} {L : List Po} (h : RdG 5 PoP w w.heap.size A n L) (hu : Below w.heap.size w u) : RdG 5 PoP u u.heap.size A n L :=
 h.mn PoP.mn hu.size fun p hp v hv => (World.cell?_of_block (hu.block p.block hp)).trans hv
set_option maxRecDepth 100000 in
set_option maxHeartbeats 4000000 in
theorem may15_any (A : Option Addr) (n c : Nat) (L : List Po) (w : World) (h : RdG 5 PoP w w.heap.size A n L) (hn : n ≤ 1000000) (hok : ∀ p ∈ L, okPo p) :
  Calls Tryz.prog 11 #[.slice A n c] w fun e w' => e = .returned (.bool (L.all poMay)) ∧ Below w.heap.size w w' := by
 have hl := h.1
 obtain ⟨v, hv⟩ : ∃ v, L.all poMay = v := ⟨_, rfl⟩
 rw [hv]
 have hv1 : ∀ p ∈ L, poMay p = false → v = false := fun p hp h => by rw [← hv, List.all_eq_false]; exact ⟨p, hp, by rw [h]; exact Bool.false_ne_true⟩
 have hv2 : (∀ p ∈ L.take n, poMay p = true) → v = true := fun h => by
  rw [← hl, List.take_length] at h
  rw [← hv, List.all_eq_true]
  exact h
 have HV1 := Lib.hid hv1; have HV2 := Lib.hid hv2; have HOK := Lib.hid hok; have H := Lib.hid h
 clear hv hv1 hv2 hok h
 go_enter Tryz.func11, Tryz.ntmps11
 go_wp2_with fail
 go_loopw [3] (fun v3 wr => ∃ k : Nat, v3 = .int .i64 (k : Int) ∧ k ≤ n ∧ Below w.heap.size w wr ∧ (∀ p ∈ L.take k, poMay p = true)) (fun v3 _ => n - (intOf v3).toNat)
 case atStart => exact ⟨0, rfl, by omega, Below.refl _ _, by simp⟩
 case round =>
  obtain ⟨k, rfl, hk, f1, hall⟩ := hrel
  by_cases hlt2 : k < n
  ·have d5 : decide ((k : Int) < (n : Int)) = true := by simp; omega
   have b1 : (0 : Int) ≤ (k : Int) := by omega
   have b2 : (k : Int) < (n : Int) := by omega
   have hkl : k < L.length := by omega
   have hmem := List.getElem_mem hkl
   have hokp := HOK.out _ hmem
   have htk := (List.take_append_getElem hkl).symm
   obtain ⟨b, off, cs, p1, p2, p3, p4, p5⟩ := (H.out.mono f1.size f1 fun _ _ h => PoP.mono h f1.size f1).at_ hlt2
   obtain ⟨p, hp⟩ : ∃ p, L[k] = p := ⟨_, rfl⟩
   rw [hp] at hokp p4 hmem htk
   clear hp
   have hcl := rmay12_any p cs wr p4 hokp
   obtain ⟨v5, rfl, A5, n5, c5, rfl, _, _, hr⟩ := p4
   have g0 : wr.cell? ⟨b, off + k * 5, none⟩ = some (.int .u64 (p.id : Int)) := p5 0 _ rfl
   have g1 : wr.cell? ⟨b, off + k * 5 + 1, none⟩ = some (.string (strB p.ns)) := p5 1 _ rfl
   have g2 : wr.cell? ⟨b, off + k * 5 + 2, none⟩ = some (.int .u64 (p.service : Int)) := p5 2 _ rfl
   have g3 : wr.cell? ⟨b, off + k * 5 + 3, none⟩ = some (.int .i64 p.deny) := p5 3 _ rfl
   have g4 : wr.cell? ⟨b, off + k * 5 + 4, none⟩ = some (.slice A5 n5 c5) := p5 4 _ rfl
   clear p3 p5 hr
   subst p1
   generalize strB p.ns = sn at *
   go_wp2_with fail
   refine hcl.mono ?_
   rintro e w2 ⟨rfl, f2⟩
   rcases hm : poMay p with _ | _
   ·go_wp2_with fail
    go_ret
    exact ⟨by rw [HV1.out p hmem hm]; rfl, f1.trans (f2.mono f1.size)⟩
   ·go_wp2_with fail
    go_roundw
    case rel =>
     refine ⟨k + 1, by go_num, by omega, f1.trans (f2.mono f1.size), ?_⟩
     rw [htk]
     intro x hx
     rcases List.mem_append.1 hx with hx | hx
     ·exact hall x hx
     ·rw [List.mem_singleton.1 hx]; exact hm
    case measure => simp [intOf]; omega
  ·have d5 : decide ((k : Int) < (n : Int)) = false := by simp; omega
   have hkn : k = n := by omega
   rw [hkn] at hall
   go_wp2_with fail
   go_ret
   exact ⟨by rw [HV2.out hall]; rfl, f1⟩
set_option maxRecDepth 100000 in
set_option maxHeartbeats 8000000 in
theorem syntaxPrint_walk (w : World) (hW : LdW w) (A : Option Addr) (n c : Nat) (L : List Po) (h : RdG 5 PoP w w.heap.size A n L) (hc : n ≤ c) (hcm : c ≤ maxLen) (hok : ∀ p ∈ L, oqPo p) :
  Calls Tryz.prog 3 #[.slice A n c] w fun e w' => e = .returned (.bool true) ∧ Below w.heap.size w w' := by
 have hlo := hW.lt
 have hL := long15_any A n c L w h hok
 have hA := fun (u : World) (hu : Below w.heap.size w u) => awake15_any u (hW.below hlo hu)
 rcases hl : psLong L with _ | _
 ·rw [hl] at hL
  obtain ⟨n20, ok1⟩ := psLong_ok hok hl
  have hn := h.1
  have hP := fun (u : World) (hu : Below w.heap.size w u) => print15_any A n c L u (hW.below hlo hu) (rdP_c h hu) (by omega) ok1 fun p hp hm => bP_of hm (ok1 p hp)
  have hY := fun (u : World) (hu : Below w.heap.size w u) => may15_any A n c L u (rdP_c h hu) (by omega) ok1
  have hZ := fun (hm : L.all poMay = true) (u : World) (hu : Below w.heap.size w u) => rPrint_any A n c L u (rdP_c h hu) (by omega) ok1 (List.all_eq_true.1 hm)
  rcases h1 : L.all poMay with _ | _
  ·rw [h1] at hP hY
   have he0 : strB [] = ⟨#[]⟩ := rfl
   rw [he0] at hP
   simp only [Bool.false_eq_true, if_false] at hP
   clear hZ h1 hl n20 ok1 hn he0
   go_enter Tryz.func3, Tryz.ntmps3
   go_wp2_with fail
   refine hL.mono ?_
   rintro e w1 ⟨rfl, f1⟩
   have hP1 := hP w1 f1
   clear hL hP
   go_wp2_with fail
   refine hP1.mono ?_
   rintro e w2 ⟨rfl, f2⟩
   have F2 := f1.trans (f2.mono f1.size)
   have hY2 := hY w2 F2
   clear hP1 f1 f2 hY
   go_wp2_with fail
   refine hY2.mono ?_
   rintro e w3 ⟨rfl, f3⟩
   have F3 := F2.trans (f3.mono F2.size)
   have hA3 := hA w3 F3
   clear hY2 F2 f3 hA
   go_wp2_with fail
   refine hA3.mono ?_
   rintro e w4 ⟨rfl, f4⟩
   go_wp2_with fail
   go_ret
   exact ⟨rfl, F3.trans (f4.mono F3.size)⟩
  ·replace hZ := hZ h1
   rw [h1] at hP hY
   simp only [if_true] at hP
   generalize strB (L.flatMap polS) = ts at *
   clear h1 hl n20 ok1 hn
   go_enter Tryz.func3, Tryz.ntmps3
   go_wp2_with fail
   refine hL.mono ?_
   rintro e w1 ⟨rfl, f1⟩
   have hP1 := hP w1 f1
   clear hL hP
   go_wp2_with fail
   refine hP1.mono ?_
   rintro e w2 ⟨rfl, f2⟩
   have F2 := f1.trans (f2.mono f1.size)
   have hY2 := hY w2 F2
   clear hP1 f1 f2 hY
   go_wp2_with fail
   refine hY2.mono ?_
   rintro e w3 ⟨rfl, f3⟩
   have F3 := F2.trans (f3.mono F2.size)
   have hZ3 := hZ w3 F3
   clear hY2 F2 f3 hZ
   go_wp2_with fail
   refine hZ3.mono ?_
   rintro e w4 ⟨rfl, f4⟩
   have F4 := F3.trans (f4.mono F3.size)
   have hA4 := hA w4 F4
   clear hZ3 F3 f4 hA
   go_wp2_with fail
   refine hA4.mono ?_
   rintro e w5 ⟨rfl, f5⟩
   go_wp2_with fail
   go_ret
   exact ⟨rfl, F4.trans (f5.mono F4.size)⟩
 ·rw [hl] at hL
  go_enter Tryz.func3, Tryz.ntmps3
  go_wp2_with fail
  refine hL.mono ?_
  rintro e w1 ⟨rfl, f1⟩
  have hA1 := hA w1 f1
  clear hL hA
  go_wp2_with fail
  refine hA1.mono ?_
  rintro e w2 ⟨rfl, f2⟩
  go_wp2_with fail
  go_ret
  exact ⟨rfl, f1.trans (f2.mono f1.size)⟩
end Go.Proofs.YtpcdmbajfmnoiaaGreatDoor
