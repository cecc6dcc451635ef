/- The law SyntaxOne: true. Conditions: the library's variables hold what they should. Printed by gen_synone.py. -/
import Derived.Test.YtpcdmbajfmnoiaaGreatDoorSynAwake
import Derived.Test.YtpcdmbajfmnoiaaGreatDoorSynSame
namespace Go.Proofs.YtpcdmbajfmnoiaaGreatDoor
open Go.RowKit Go.Sort
set_option linter.unusedVariables false
set_option linter.unusedSimpArgs false
/-- What Print answers. -/
def prV (L : List Po) : Value := if L.all poMay then .tuple #[.string (strB (L.flatMap polS)), .int .i64 0] else .tuple #[.string (strB []), .int .i64 1]
theorem printL_any (A : Option Addr) (n c : Nat) (L : List Po) (w : World) (hW : LdW w) (h : RdG 5 PoP w w.heap.size A n L) (hn : n ≤ 100000) (hok : ∀ p ∈ L, okPo p) :
  Calls Tryz.prog 10 #[.slice A n c] w fun e w' => e = .returned (prV L) ∧ Below w.heap.size w w' :=
 print15_any A n c L w hW h hn hok fun p hp hm => bP_of hm (hok p hp)
theorem texts_eq {L M : List Po} (hL : ∀ p ∈ L, okPo p) (hM : ∀ p ∈ M, okPo p) (h1 : L.all poMay = true) (h2 : M.all poMay = true) : (L.flatMap polS = M.flatMap polS) ↔ L = M := by
 have o1 : ∀ p ∈ L, okP p := fun p hp => po_okP (List.all_eq_true.1 h1 p hp) (hL p hp)
 have o2 : ∀ p ∈ M, okP p := fun p hp => po_okP (List.all_eq_true.1 h2 p hp) (hM p hp)
 rw [text_eq o1, text_eq o2]
 exact ⟨text_inj o1 o2, fun h => by rw [h]⟩
theorem rdP_b {w u : World} {A : Option Addr} {n : Nat} {L : List Po} (h : RdG 5 PoP w w.heap.size A n L) (hu : Below w.heap.size w u) : RdG 5 PoP u u.heap.size A n L :=
 h.mn PoP.mn hu.size fun p hp v hv => (World.cell?_of_block (hu.block p.block hp)).trans hv
set_option maxRecDepth 100000 in
set_option maxHeartbeats 4000000 in
theorem one_a (w : World) (hW : LdW w) (A : Option Addr) (n c : Nat) (L : List Po) (D : Option Addr) (m d : Nat) (M : List Po) (h : RdG 5 PoP w w.heap.size A n L) (h' : RdG 5 PoP w w.heap.size D m M) (hok : ∀ p ∈ L, oqPo p) (hok' : ∀ p ∈ M, oqPo p) (hl : psLong L = true) :
  Calls Tryz.prog 7 #[.slice A n c, .slice D m d] w fun e w' => e = .returned (.bool true) ∧ Below w.heap.size w w' := by
 have hlo := hW.lt
 have hL := long15_any A n c L w h hok
 have hM := fun (u : World) (hu : Below w.heap.size w u) => long15_any D m d M u (rdP_b h' hu) hok'
 have hA := fun (u : World) (hu : Below w.heap.size w u) => awake15_any u (hW.below hlo hu)
 rw [hl] at hL
 go_enter Tryz.func7, Tryz.ntmps7
 go_wp2_with fail
 refine hL.mono ?_
 rintro e w1 ⟨rfl, f1⟩
 have hM1 := hM w1 f1
 have hA1 := hA w1 f1
 clear hL hM hA hM1
 go_wp2_with fail
 refine hA1.mono ?_
 rintro e w2 ⟨rfl, f2⟩
 go_wp2_with fail
 go_ret
 exact ⟨rfl, f1.trans (f2.mono f1.size)⟩
set_option maxRecDepth 100000 in
set_option maxHeartbeats 4000000 in
theorem one_b (w : World) (hW : LdW w) (A : Option Addr) (n c : Nat) (L : List Po) (D : Option Addr) (m d : Nat) (M : List Po) (h : RdG 5 PoP w w.heap.size A n L) (h' : RdG 5 PoP w w.heap.size D m M) (hok : ∀ p ∈ L, oqPo p) (hok' : ∀ p ∈ M, oqPo p) (hl : psLong L = false) (hm : psLong M = true) :
  Calls Tryz.prog 7 #[.slice A n c, .slice D m d] w fun e w' => e = .returned (.bool true) ∧ Below w.heap.size w w' := by
 have hlo := hW.lt
 have hL := long15_any A n c L w h hok
 have hM := fun (u : World) (hu : Below w.heap.size w u) => long15_any D m d M u (rdP_b h' hu) hok'
 have hA := fun (u : World) (hu : Below w.heap.size w u) => awake15_any u (hW.below hlo hu)
 rw [hl] at hL
 rw [hm] at hM
 go_enter Tryz.func7, Tryz.ntmps7
 go_wp2_with fail
 refine hL.mono ?_
 rintro e w1 ⟨rfl, f1⟩
 have hM1 := hM w1 f1
 clear hL hM
 go_wp2_with fail
 refine hM1.mono ?_
 rintro e w2 ⟨rfl, f2⟩
 have F2 := f1.trans (f2.mono f1.size)
 have hA2 := hA w2 F2
 clear hM1 f1 f2 hA
 go_wp2_with fail
 refine hA2.mono ?_
 rintro e w3 ⟨rfl, f3⟩
 go_wp2_with fail
 go_ret
 exact ⟨rfl, F2.trans (f3.mono F2.size)⟩
set_option maxRecDepth 100000 in
set_option maxHeartbeats 4000000 in
theorem one_c (w : World) (hW : LdW w) (A : Option Addr) (n c : Nat) (L : List Po) (D : Option Addr) (m d : Nat) (M : List Po) (h : RdG 5 PoP w w.heap.size A n L) (h' : RdG 5 PoP w w.heap.size D m M) (hok : ∀ p ∈ L, oqPo p) (hok' : ∀ p ∈ M, oqPo p) (hl : psLong L = false) (hm : psLong M = false) (h1 : L.all poMay = true) (h2 : M.all poMay = true) :
  Calls Tryz.prog 7 #[.slice A n c, .slice D m d] w fun e w' => e = .returned (.bool true) ∧ Below w.heap.size w w' := by
 have hlo := hW.lt
 have hL := long15_any A n c L w h hok
 have hM := fun (u : World) (hu : Below w.heap.size w u) => long15_any D m d M u (rdP_b h' hu) hok'
 obtain ⟨n20, ok1⟩ := psLong_ok hok hl
 obtain ⟨m20, ok2⟩ := psLong_ok hok' hm
 have hn := h.1
 have hmn := h'.1
 have hA := fun (u : World) (hu : Below w.heap.size w u) => awake15_any u (hW.below hlo hu)
 have hP := fun (u : World) (hu : Below w.heap.size w u) => printL_any A n c L u (hW.below hlo hu) (rdP_b h hu) (by omega) ok1
 have hQ := fun (u : World) (hu : Below w.heap.size w u) => printL_any D m d M u (hW.below hlo hu) (rdP_b h' hu) (by omega) ok2
 have hS := fun (u : World) (hu : Below w.heap.size w u) => same15_any A n c L D m d M u (rdP_b h hu) (rdP_b h' hu) ok1 ok2 (by omega)
 have hte : ((strB (L.flatMap polS)).toList == (strB (M.flatMap polS)).toList) = decide (L.flatMap polS = M.flatMap polS) := strB_beq _ _
 rw [hl] at hL
 rw [hm] at hM
 unfold prV at hP hQ
 rw [h1] at hP
 rw [h2] at hQ
 replace hte : ((strB (L.flatMap polS)).toList == (strB (M.flatMap polS)).toList) = decide (L = M) := hte.trans (decide_eq_decide.2 (texts_eq ok1 ok2 h1 h2))
 obtain ⟨sx, hsx⟩ : ∃ y, strB (L.flatMap polS) = y := ⟨_, rfl⟩
 obtain ⟨sy, hsy⟩ : ∃ y, strB (M.flatMap polS) = y := ⟨_, rfl⟩
 rw [hsx] at hP hte
 rw [hsy] at hQ hte
 obtain ⟨dd, hdd⟩ : ∃ y, decide (L = M) = y := ⟨_, rfl⟩
 rw [hdd] at hS
 rw [hdd] at hte
 have he0 : strB [] = ⟨#[]⟩ := rfl
 rw [he0] at hP hQ
 simp only [if_true, Bool.false_eq_true, if_false] at hP hQ
 clear hsx hsy hdd h1 h2 hl hm n20 m20 ok1 ok2 he0
 go_enter Tryz.func7, Tryz.ntmps7
 go_wp2_with fail
 refine hL.mono ?_
 rintro e w1 ⟨rfl, f1⟩
 have hM1 := hM w1 f1
 clear hL hM
 go_wp2_with fail
 refine hM1.mono ?_
 rintro e w2 ⟨rfl, f2⟩
 have F2 := f1.trans (f2.mono f1.size)
 have hP2 := hP w2 F2
 clear hM1 f1 f2 hP
 go_wp2_with fail
 refine hP2.mono ?_
 rintro e w3 ⟨rfl, f3⟩
 have F3 := F2.trans (f3.mono F2.size)
 have hQ3 := hQ w3 F3
 clear hP2 F2 f3 hQ
 go_wp2_with fail
 refine hQ3.mono ?_
 rintro e w4 ⟨rfl, f4⟩
 have F4 := F3.trans (f4.mono F3.size)
 have hS4 := hS w4 F4
 clear hQ3 F3 f4 hS
 rcases dd with _ | _
 ·go_wp2_with fail
  refine hS4.mono ?_
  rintro e w5 ⟨rfl, f5⟩
  have F5 := F4.trans (f5.mono F4.size)
  have hA5 := hA w5 F5
  clear hS4 F4 f5 hA
  go_wp2_with fail
  refine hA5.mono ?_
  rintro e w6 ⟨rfl, f6⟩
  go_wp2_with fail
  go_ret
  exact ⟨rfl, F5.trans (f6.mono F5.size)⟩
 ·go_wp2_with fail
  refine hS4.mono ?_
  rintro e w5 ⟨rfl, f5⟩
  have F5 := F4.trans (f5.mono F4.size)
  have hA5 := hA w5 F5
  clear hS4 F4 f5 hA
  go_wp2_with fail
  refine hA5.mono ?_
  rintro e w6 ⟨rfl, f6⟩
  go_wp2_with fail
  go_ret
  exact ⟨rfl, F5.trans (f6.mono F5.size)⟩
set_option maxRecDepth 100000 in
set_option maxHeartbeats 4000000 in
theorem one_d (w : World) (hW : LdW w) (A : Option Addr) (n c : Nat) (L : List Po) (D : Option Addr) (m d : Nat) (M : List Po) (h : RdG 5 PoP w w.heap.size A n L) (h' : RdG 5 PoP w w.heap.size D m M) (hok : ∀ p ∈ L, oqPo p) (hok' : ∀ p ∈ M, oqPo p) (hl : psLong L = false) (hm : psLong M = false) (h1 : L.all poMay = true) (h2 : M.all poMay = false) :
  Calls Tryz.prog 7 #[.slice A n c, .slice D m d] w fun e w' => e = .returned (.bool true) ∧ Below w.heap.size w w' := by
 have hlo := hW.lt
 have hL := long15_any A n c L w h hok
 have hM := fun (u : World) (hu : Below w.heap.size w u) => long15_any D m d M u (rdP_b h' hu) hok'
 obtain ⟨n20, ok1⟩ := psLong_ok hok hl
 obtain ⟨m20, ok2⟩ := psLong_ok hok' hm
 have hn := h.1
 have hmn := h'.1
 have hA := fun (u : World) (hu : Below w.heap.size w u) => awake15_any u (hW.below hlo hu)
 have hP := fun (u : World) (hu : Below w.heap.size w u) => printL_any A n c L u (hW.below hlo hu) (rdP_b h hu) (by omega) ok1
 have hQ := fun (u : World) (hu : Below w.heap.size w u) => printL_any D m d M u (hW.below hlo hu) (rdP_b h' hu) (by omega) ok2
 have hS := fun (u : World) (hu : Below w.heap.size w u) => same15_any A n c L D m d M u (rdP_b h hu) (rdP_b h' hu) ok1 ok2 (by omega)
 have hte : ((strB (L.flatMap polS)).toList == (strB (M.flatMap polS)).toList) = decide (L.flatMap polS = M.flatMap polS) := strB_beq _ _
 rw [hl] at hL
 rw [hm] at hM
 unfold prV at hP hQ
 rw [h1] at hP
 rw [h2] at hQ
 obtain ⟨sx, hsx⟩ : ∃ y, strB (L.flatMap polS) = y := ⟨_, rfl⟩
 obtain ⟨sy, hsy⟩ : ∃ y, strB (M.flatMap polS) = y := ⟨_, rfl⟩
 rw [hsx] at hP hte
 rw [hsy] at hQ hte
 obtain ⟨dd, hdd⟩ : ∃ y, decide (L = M) = y := ⟨_, rfl⟩
 rw [hdd] at hS
 clear hte
 have he0 : strB [] = ⟨#[]⟩ := rfl
 rw [he0] at hP hQ
 simp only [if_true, Bool.false_eq_true, if_false] at hP hQ
 clear hsx hsy hdd h1 h2 hl hm n20 m20 ok1 ok2 he0
 go_enter Tryz.func7, Tryz.ntmps7
 go_wp2_with fail
 refine hL.mono ?_
 rintro e w1 ⟨rfl, f1⟩
 have hM1 := hM w1 f1
 clear hL hM
 go_wp2_with fail
 refine hM1.mono ?_
 rintro e w2 ⟨rfl, f2⟩
 have F2 := f1.trans (f2.mono f1.size)
 have hP2 := hP w2 F2
 clear hM1 f1 f2 hP
 go_wp2_with fail
 refine hP2.mono ?_
 rintro e w3 ⟨rfl, f3⟩
 have F3 := F2.trans (f3.mono F2.size)
 have hQ3 := hQ w3 F3
 clear hP2 F2 f3 hQ
 go_wp2_with fail
 refine hQ3.mono ?_
 rintro e w4 ⟨rfl, f4⟩
 have F4 := F3.trans (f4.mono F3.size)
 have hA4 := hA w4 F4
 clear hQ3 F3 f4 hS hA
 go_wp2_with fail
 refine hA4.mono ?_
 rintro e w5 ⟨rfl, f5⟩
 go_wp2_with fail
 go_ret
 exact ⟨rfl, F4.trans (f5.mono F4.size)⟩
set_option maxRecDepth 100000 in
set_option maxHeartbeats 4000000 in
theorem one_e (w : World) (hW : LdW w) (A : Option Addr) (n c : Nat) (L : List Po) (D : Option Addr) (m d : Nat) (M : List Po) (h : RdG 5 PoP w w.heap.size A n L) (h' : RdG 5 PoP w w.heap.size D m M) (hok : ∀ p ∈ L, oqPo p) (hok' : ∀ p ∈ M, oqPo p) (hl : psLong L = false) (hm : psLong M = false) (h1 : L.all poMay = false) (h2 : M.all poMay = true) :
  Calls Tryz.prog 7 #[.slice A n c, .slice D m d] w fun e w' => e = .returned (.bool true) ∧ Below w.heap.size w w' := by
 have hlo := hW.lt
 have hL := long15_any A n c L w h hok
 have hM := fun (u : World) (hu : Below w.heap.size w u) => long15_any D m d M u (rdP_b h' hu) hok'
 obtain ⟨n20, ok1⟩ := psLong_ok hok hl
 obtain ⟨m20, ok2⟩ := psLong_ok hok' hm
 have hn := h.1
 have hmn := h'.1
 have hA := fun (u : World) (hu : Below w.heap.size w u) => awake15_any u (hW.below hlo hu)
 have hP := fun (u : World) (hu : Below w.heap.size w u) => printL_any A n c L u (hW.below hlo hu) (rdP_b h hu) (by omega) ok1
 have hQ := fun (u : World) (hu : Below w.heap.size w u) => printL_any D m d M u (hW.below hlo hu) (rdP_b h' hu) (by omega) ok2
 have hS := fun (u : World) (hu : Below w.heap.size w u) => same15_any A n c L D m d M u (rdP_b h hu) (rdP_b h' hu) ok1 ok2 (by omega)
 have hte : ((strB (L.flatMap polS)).toList == (strB (M.flatMap polS)).toList) = decide (L.flatMap polS = M.flatMap polS) := strB_beq _ _
 rw [hl] at hL
 rw [hm] at hM
 unfold prV at hP hQ
 rw [h1] at hP
 rw [h2] at hQ
 obtain ⟨sx, hsx⟩ : ∃ y, strB (L.flatMap polS) = y := ⟨_, rfl⟩
 obtain ⟨sy, hsy⟩ : ∃ y, strB (M.flatMap polS) = y := ⟨_, rfl⟩
 rw [hsx] at hP hte
 rw [hsy] at hQ hte
 obtain ⟨dd, hdd⟩ : ∃ y, decide (L = M) = y := ⟨_, rfl⟩
 rw [hdd] at hS
 clear hte
 have he0 : strB [] = ⟨#[]⟩ := rfl
 rw [he0] at hP hQ
 simp only [if_true, Bool.false_eq_true, if_false] at hP hQ
 clear hsx hsy hdd h1 h2 hl hm n20 m20 ok1 ok2 he0
 go_enter Tryz.func7, Tryz.ntmps7
 go_wp2_with fail
 refine hL.mono ?_
 rintro e w1 ⟨rfl, f1⟩
 have hM1 := hM w1 f1
 clear hL hM
 go_wp2_with fail
 refine hM1.mono ?_
 rintro e w2 ⟨rfl, f2⟩
 have F2 := f1.trans (f2.mono f1.size)
 have hP2 := hP w2 F2
 clear hM1 f1 f2 hP
 go_wp2_with fail
 refine hP2.mono ?_
 rintro e w3 ⟨rfl, f3⟩
 have F3 := F2.trans (f3.mono F2.size)
 have hQ3 := hQ w3 F3
 clear hP2 F2 f3 hQ
 go_wp2_with fail
 refine hQ3.mono ?_
 rintro e w4 ⟨rfl, f4⟩
 have F4 := F3.trans (f4.mono F3.size)
 have hA4 := hA w4 F4
 clear hQ3 F3 f4 hS hA
 go_wp2_with fail
 refine hA4.mono ?_
 rintro e w5 ⟨rfl, f5⟩
 go_wp2_with fail
 go_ret
 exact ⟨rfl, F4.trans (f5.mono F4.size)⟩
set_option maxRecDepth 100000 in
set_option maxHeartbeats 4000000 in
theorem one_f (w : World) (hW : LdW w) (A : Option Addr) (n c : Nat) (L : List Po) (D : Option Addr) (m d : Nat) (M : List Po) (h : RdG 5 PoP w w.heap.size A n L) (h' : RdG 5 PoP w w.heap.size D m M) (hok : ∀ p ∈ L, oqPo p) (hok' : ∀ p ∈ M, oqPo p) (hl : psLong L = false) (hm : psLong M = false) (h1 : L.all poMay = false) (h2 : M.all poMay = false) :
  Calls Tryz.prog 7 #[.slice A n c, .slice D m d] w fun e w' => e = .returned (.bool true) ∧ Below w.heap.size w w' := by
 have hlo := hW.lt
 have hL := long15_any A n c L w h hok
 have hM := fun (u : World) (hu : Below w.heap.size w u) => long15_any D m d M u (rdP_b h' hu) hok'
 obtain ⟨n20, ok1⟩ := psLong_ok hok hl
 obtain ⟨m20, ok2⟩ := psLong_ok hok' hm
 have hn := h.1
 have hmn := h'.1
 have hA := fun (u : World) (hu : Below w.heap.size w u) => awake15_any u (hW.below hlo hu)
 have hP := fun (u : World) (hu : Below w.heap.size w u) => printL_any A n c L u (hW.below hlo hu) (rdP_b h hu) (by omega) ok1
 have hQ := fun (u : World) (hu : Below w.heap.size w u) => printL_any D m d M u (hW.below hlo hu) (rdP_b h' hu) (by omega) ok2
 have hS := fun (u : World) (hu : Below w.heap.size w u) => same15_any A n c L D m d M u (rdP_b h hu) (rdP_b h' hu) ok1 ok2 (by omega)
 have hte : ((strB (L.flatMap polS)).toList == (strB (M.flatMap polS)).toList) = decide (L.flatMap polS = M.flatMap polS) := strB_beq _ _
 rw [hl] at hL
 rw [hm] at hM
 unfold prV at hP hQ
 rw [h1] at hP
 rw [h2] at hQ
 obtain ⟨sx, hsx⟩ : ∃ y, strB (L.flatMap polS) = y := ⟨_, rfl⟩
 obtain ⟨sy, hsy⟩ : ∃ y, strB (M.flatMap polS) = y := ⟨_, rfl⟩
 rw [hsx] at hP hte
 rw [hsy] at hQ hte
 obtain ⟨dd, hdd⟩ : ∃ y, decide (L = M) = y := ⟨_, rfl⟩
 rw [hdd] at hS
 clear hte
 have he0 : strB [] = ⟨#[]⟩ := rfl
 rw [he0] at hP hQ
 simp only [if_true, Bool.false_eq_true, if_false] at hP hQ
 clear hsx hsy hdd h1 h2 hl hm n20 m20 ok1 ok2 he0
 go_enter Tryz.func7, Tryz.ntmps7
 go_wp2_with fail
 refine hL.mono ?_
 rintro e w1 ⟨rfl, f1⟩
 have hM1 := hM w1 f1
 clear hL hM
 go_wp2_with fail
 refine hM1.mono ?_
 rintro e w2 ⟨rfl, f2⟩
 have F2 := f1.trans (f2.mono f1.size)
 have hP2 := hP w2 F2
 clear hM1 f1 f2 hP
 go_wp2_with fail
 refine hP2.mono ?_
 rintro e w3 ⟨rfl, f3⟩
 have F3 := F2.trans (f3.mono F2.size)
 have hQ3 := hQ w3 F3
 clear hP2 F2 f3 hQ
 go_wp2_with fail
 refine hQ3.mono ?_
 rintro e w4 ⟨rfl, f4⟩
 have F4 := F3.trans (f4.mono F3.size)
 have hA4 := hA w4 F4
 clear hQ3 F3 f4 hS hA
 go_wp2_with fail
 refine hA4.mono ?_
 rintro e w5 ⟨rfl, f5⟩
 go_wp2_with fail
 go_ret
 exact ⟨rfl, F4.trans (f5.mono F4.size)⟩
theorem syntaxOne_walk (w : World) (hW : LdW w) (A : Option Addr) (n c : Nat) (L : List Po) (h : RdG 5 PoP w w.heap.size A n L) (hc : n ≤ c) (hcm : c ≤ maxLen) (hok : ∀ p ∈ L, oqPo p) (D : Option Addr) (m d : Nat) (M : List Po) (h' : RdG 5 PoP w w.heap.size D m M) (hc' : m ≤ d) (hcm' : d ≤ maxLen) (hok' : ∀ p ∈ M, oqPo p) :
  Calls Tryz.prog 7 #[.slice A n c, .slice D m d] w fun e w' => e = .returned (.bool true) ∧ Below w.heap.size w w' := by
 rcases hl : psLong L with _ | _
 ·rcases hm : psLong M with _ | _
  ·rcases h1 : L.all poMay with _ | _ <;> rcases h2 : M.all poMay with _ | _
   ·exact one_f w hW A n c L D m d M h h' hok hok' hl hm h1 h2
   ·exact one_e w hW A n c L D m d M h h' hok hok' hl hm h1 h2
   ·exact one_d w hW A n c L D m d M h h' hok hok' hl hm h1 h2
   ·exact one_c w hW A n c L D m d M h h' hok hok' hl hm h1 h2
  ·exact one_b w hW A n c L D m d M h h' hok hok' hl hm
 ·exact one_a w hW A n c L D m d M h h' hok hok' hl
end Go.Proofs.YtpcdmbajfmnoiaaGreatDoor
