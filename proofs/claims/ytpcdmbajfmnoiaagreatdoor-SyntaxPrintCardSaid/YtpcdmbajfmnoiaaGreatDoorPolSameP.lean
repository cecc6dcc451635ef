/- law12's Long; gatepostref12.Same: whether two policies are the same. Condition: sizes. Printed by gen_psamep.py. -/
import Derived.Test.YtpcdmbajfmnoiaaGreatDoorPolSameR
import Derived.Test.YtpcdmbajfmnoiaaGreatDoorPolLongR
import Derived.Test.YtpcdmbajfmnoiaaGreatDoorOpenA
import Derived.Test.YtpcdmbajfmnoiaaGreatDoorFacts
namespace Go.Proofs.YtpcdmbajfmnoiaaGreatDoor
open Go.RowKit Go.Sort
set_option linter.unusedVariables false
set_option linter.unusedSimpArgs false
def poLong (p : Po) : Bool := (decide (20 < p.rules.length) || decide (300 < p.ns.length)) || p.rules.any ruLong
theorem oqPo.ok {p : Po} (h : oqPo p) (hl : poLong p = false) : okPo p := by
 unfold poLong at hl
 simp only [Bool.or_eq_false_iff, decide_eq_false_iff_not] at hl
 obtain ⟨⟨l1, l2⟩, l3⟩ := hl
 exact ⟨h.1, by show p.ns.length ≤ 1000000; omega, h.2.2.1, h.2.2.2.1, by omega, fun r hr => (h.2.2.2.2.2 r hr).ok (any_no l3 r hr)⟩
set_option maxRecDepth 100000 in
set_option maxHeartbeats 4000000 in
theorem long12_any (p : Po) (cs : List Value) (w : World) (h : PoP w w.heap.size cs p) (hok : oqPo p) :
  Calls Tryz.prog 16 #[.agg cs.toArray] w fun e w' => e = .returned (.bool (poLong p)) ∧ Below w.heap.size w w' := by
 obtain ⟨v, rfl, A, n, c, rfl, hnc, hcm, h1⟩ := h
 have hl := h1.1
 obtain ⟨v, hv⟩ : ∃ v, poLong p = v := ⟨_, rfl⟩
 rw [hv]
 have hsz := strB_size p.ns
 have hns : p.ns.length ≤ 9223372036854775807 := hok.2.1
 have HOK := Lib.hid hok.2.2.2.2.2
 have H1 := Lib.hid h1; have HL := Lib.hid hl
 have hv1 : 20 < n → v = true := fun h => by rw [← hv]; unfold poLong; rw [hl, decide_eq_true h]; simp
 have hv2 : 300 < p.ns.length → v = true := fun h => by rw [← hv]; unfold poLong; rw [decide_eq_true h]; simp
 have hv3 : p.rules.any ruLong = true → v = true := fun h => by rw [← hv]; unfold poLong; rw [h]; simp
 have hv4 : ¬ 20 < n → ¬ 300 < p.ns.length → p.rules.any ruLong = false → v = false := fun h1 h2 h3 => by rw [← hv]; unfold poLong; rw [hl, decide_eq_false h1, decide_eq_false h2, h3]; rfl
 have HV3 := Lib.hid hv3; have HV4 := Lib.hid hv4
 clear hl hv hok h1 hv3 hv4
 show Calls Tryz.prog 16 #[.agg #[.int .u64 (p.id : Int), .string (strB p.ns), .int .u64 (p.service : Int), .int .i64 p.deny, .slice A n c]] w _
 generalize strB p.ns = sn at *
 obtain ⟨y, hy⟩ : ∃ y, p.ns.length = y := ⟨_, rfl⟩
 rw [hy] at hsz hns hv2 HV4
 clear hy
 obtain ⟨wb, hwb⟩ : ∃ wb, w.alloc (.cells #[.int .u64 (p.id : Int), .string sn, .int .u64 (p.service : Int), .int .i64 p.deny, .slice A n c] 39) = wb := ⟨_, rfl⟩
 have fa : Below w.heap.size w wb := by rw [← hwb]; exact (Below.refl _ _).alloc (Nat.le_refl _) _
 have kb : Blk wb w.heap.size 39 [.int .u64 (p.id : Int), .string sn, .int .u64 (p.service : Int), .int .i64 p.deny, .slice A n c] := by rw [← hwb]; exact Blk.newAt rfl _ #[.int .u64 (p.id : Int), .string sn, .int .u64 (p.service : Int), .int .i64 p.deny, .slice A n c]
 have e1 := kb.cell 1
 have e4 := kb.cell 4
 by_cases m1 : 20 < n
 ·have d1 : decide ((20 : Int) < (n : Int)) = true := by simp; omega
  obtain rfl := hv1 m1
  clear hv1 hv2
  go_enter Tryz.func16, Tryz.ntmps16
  go_wp2_with fail
  go_ret
  exact ⟨rfl, fa⟩
 have d1 : decide ((20 : Int) < (n : Int)) = false := by simp; omega
 by_cases m2 : 300 < y
 ·have d2 : decide ((300 : Int) < (y : Int)) = true := by simp; omega
  obtain rfl := hv2 m2
  clear hv1 hv2
  go_enter Tryz.func16, Tryz.ntmps16
  go_wp2_with fail
  go_ret
  exact ⟨rfl, fa⟩
 have d2 : decide ((300 : Int) < (y : Int)) = false := by simp; omega
 have HV5 := Lib.hid (HV4.out m1 m2)
 clear hv1 hv2
 go_enter Tryz.func16, Tryz.ntmps16
 go_wp2_with fail
 clear e1 e4 d1 d2 hwb hsz
 go_loopw [3] (fun v3 wr => ∃ k : Nat, v3 = .int .i64 k ∧ k ≤ n ∧ Below w.heap.size w wr ∧ Blk wr w.heap.size 39 [.int .u64 (p.id : Int), .string sn, .int .u64 (p.service : Int), .int .i64 p.deny, .slice A n c] ∧ ∀ i (hi : i < p.rules.length), i < k → ruLong p.rules[i] = false) (fun v3 _ => n - (intOf v3).toNat)
 case atStart => exact ⟨0, rfl, Nat.zero_le _, fa, kb, fun i _ hi => absurd hi (by omega)⟩
 case round =>
  clear kb fa
  obtain ⟨k, rfl, hk, f1, kb, hall⟩ := hrel
  have HALL := Lib.hid hall; clear hall
  have e4 := kb.cell 4
  by_cases hlt : k < n
  ·have d1 : decide ((k : Int) < (n : Int)) = true := by simp; omega
   have b1 : (0 : Int) ≤ (k : Int) := by omega
   have b2 : (k : Int) < (n : Int) := by omega
   have hkR : k < p.rules.length := by rw [HL.out]; exact hlt
   obtain ⟨b, off, cs, rfl, p2, p3, p4, p5⟩ := (H1.out.mono f1.size f1 (fun _ _ h => RuP.mono h f1.size f1)).at_ hlt
   have hLR := longRule_any p.rules[k] cs wr p4 (HOK.out _ (List.getElem_mem hkR)).mx
   obtain ⟨A1, n1, c1, A2, n2, c2, A3, n3, c3, rfl, _⟩ := vals_ru p4
   have g0 : wr.cell? ⟨b, off + k * 3, none⟩ = some (.slice A1 n1 c1) := p5 0 _ rfl
   have g1 : wr.cell? ⟨b, off + k * 3 + 1, none⟩ = some (.slice A2 n2 c2) := p5 1 _ rfl
   have g2 : wr.cell? ⟨b, off + k * 3 + 2, none⟩ = some (.slice A3 n3 c3) := p5 2 _ rfl
   obtain ⟨q, hq⟩ : ∃ q, ruLong p.rules[k] = q := ⟨_, rfl⟩
   rw [hq] at hLR
   have HQ := Lib.hid hq
   clear p5 p4 p3 hq
   go_wp2_with fail
   refine hLR.mono ?_
   rintro e w3 ⟨rfl, f3⟩
   have f4 := f1.trans (f3.mono f1.size)
   have kb3 := kb.below f3 kb.lt
   cases q
   ·go_wp2_with fail
    go_roundw
    case rel =>
     refine ⟨k + 1, by go_num, by omega, f4, kb3, fun i hi hik => ?_⟩
     by_cases e : i = k
     ·subst e; exact HQ.out
     ·exact HALL.out i hi (by omega)
    case measure => simp [intOf]; omega
   ·obtain rfl := HV3.out (any_long hkR HQ.out)
    go_wp2_with fail
    go_ret
    exact ⟨rfl, f4⟩
  ·have d1 : decide ((k : Int) < (n : Int)) = false := by simp; omega
   obtain rfl : n = k := by omega
   obtain rfl := HV5.out (any_short fun j hj => HALL.out j hj (by rw [HL.out] at hj; exact hj))
   go_wp2_with fail
   go_ret
   exact ⟨rfl, f1⟩
end Go.Proofs.YtpcdmbajfmnoiaaGreatDoor
