/- The law SyntaxBack: true. Conditions: the library's variables hold what they should. Printed by gen_synback.py. -/
import Derived.Test.YtpcdmbajfmnoiaaGreatDoorSynOneWalk
import Derived.Test.YtpcdmbajfmnoiaaGreatDoorSynPsR
import Derived.Test.YtpcdmbajfmnoiaaGreatDoorAppRows
namespace Go.Proofs.YtpcdmbajfmnoiaaGreatDoor
open Go.RowKit Go.Sort
set_option linter.unusedVariables false
set_option linter.unusedSimpArgs false
theorem PoP.one {w : World} {B : Nat} {cs : List Value} {p : Po} (h : PoP w B cs p) : ∀ v ∈ cs, v.oneCell' = true := by
 obtain ⟨v5, rfl, A5, n5, c5, rfl, _⟩ := h
 intro v hv
 simp only [List.mem_cons, List.mem_nil_iff, or_false] at hv
 rcases hv with rfl | rfl | rfl | rfl | rfl <;> rfl
/-- Both rows, one behind the other, in a row of the call's own. -/
theorem both_rows {w : World} {A D : Option Addr} {n c m d : Nat} {L M : List Po} (h : RdG 5 PoP w w.heap.size A n L) (h' : RdG 5 PoP w w.heap.size D m M) (hn : n ≤ 20) (hm : m ≤ 20) (ty : TypeId) :
  ∃ A1 c1 w1 A2 c2 w2, (Builtin.append_ #[22, 22] ty #[.slice (some ⟨w.heap.size, 0, none⟩) 0 0, .slice A n c]).run Tryz.prog (w.alloc (.cells #[] 39)) = .ok (.slice A1 n c1) w1 ∧
   (Builtin.append_ #[22, 22] ty #[.slice A1 n c1, .slice D m d]).run Tryz.prog w1 = .ok (.slice A2 (n + m) c2) w2 ∧ RdG 5 PoP w2 w2.heap.size A2 (n + m) (L ++ M) ∧ Below w.heap.size w w2 := by
 have f0 : Below w.heap.size w (w.alloc (.cells #[] 39)) := (Below.refl _ w).alloc (Nat.le_refl _) _
 have o0 := World.ownsRow_made (size := 5) (base := w.heap.size) (e := 39) w #[] 0 (Nat.le_refl _) (Nat.zero_le _) rfl
 have hml : maxLen = 9223372036854775807 := rfl
 obtain ⟨w0, hw0⟩ : ∃ w0, w.alloc (.cells #[] 39) = w0 := ⟨_, rfl⟩
 rw [hw0] at f0 o0 ⊢
 have h0 : RdG 5 PoP w0 w.heap.size A n L := h.mono (Nat.le_refl _) f0 fun _ _ h => PoP.mono h (Nat.le_refl _) f0
 obtain ⟨A1, c1, w1, cs1, r1, n1, o1, g1, l1, k1, q1⟩ := run_appG ZPo (fun _ _ _ _ => PoP.one) ty o0 (Nat.le_refl _) h0 c (by omega) (by rw [hml]; omega) f0.size
 rw [Nat.zero_add] at r1 n1 o1
 have f01 : Below w.heap.size w0 w1 := (Below.refl _ w0).grown g1 f0.size (fun k hk => (o0.lt k hk).1)
 have f1 : Below w.heap.size w w1 := f0.trans f01
 have h1 : RdG 5 PoP w1 w.heap.size D m M := h'.mono (Nat.le_refl _) f1 fun _ _ h => PoP.mono h (Nat.le_refl _) f1
 obtain ⟨A2, c2, w2, cs2, r2, n2, o2, g2, l2, k2, q2⟩ := run_appG ZPo (fun _ _ _ _ => PoP.one) ty o1 n1 h1 d (by omega) (by rw [hml]; omega) f1.size
 have f12 : Below w.heap.size w1 w2 := (Below.refl _ w1).grown g2 f1.size (fun k hk => (o1.lt k hk).1)
 have f2 : Below w.heap.size w w2 := f1.trans f12
 refine ⟨A1, c1, w1, A2, c2, w2, r1, r2, ?_, f2⟩
 have hl := h.1
 have hl' := h'.1
 refine rdG_of_own (css := cs1 ++ cs2) (fun cs hc => ?_) (by rw [List.length_append, List.length_append, l1, l2]) (by rw [List.flatten_append]; simpa using o2) (by rw [List.length_append]; omega) (fun j hj hc => ?_)
 ·rcases List.mem_append.1 hc with hc | hc
  ·exact k1 cs hc
  ·exact k2 cs hc
 ·by_cases hlt : j < L.length
  ·rw [List.getElem_append_left (by omega), List.getElem_append_left hlt]
   exact PoP.mono (q1 j hlt (by omega)) f2.size (f01.trans f12)
  ·rw [List.getElem_append_right (by omega), List.getElem_append_right (by omega)]
   simp only [l1]
   exact PoP.mono (q2 (j - L.length) (by rw [List.length_append] at hj; omega) (by rw [List.length_append] at hj; omega)) f2.size f12
set_option maxRecDepth 100000 in
set_option maxHeartbeats 8000000 in
theorem back_a (w : World) (hW : LdW w) (A : Option Addr) (n c : Nat) (L : List Po) (D : Option Addr) (m d : Nat) (M : List Po) (l : List UInt8) (h : RdG 5 PoP w w.heap.size A n L) (h' : RdG 5 PoP w w.heap.size D m M) (hok : ∀ p ∈ L, oqPo p) (hok' : ∀ p ∈ M, oqPo p) (hl : psLong L = true) :
  Calls Tryz.prog 5 #[.slice A n c, .slice D m d, .string (strB l)] w fun e w' => e = .returned (.bool true) ∧ Below w.heap.size w w' := by
 have hlo := hW.lt
 have hL := long15_any A n c L w h hok
 have hM := fun (u : World) (hu : Below w.heap.size w u) => long15_any D m d M u (rdP_b h' hu) hok'
 have hA := fun (u : World) (hu : Below w.heap.size w u) => awake15_any u (hW.below hlo hu)
 have f0 := Below.refl w.heap.size w
 rw [hl] at hL
 generalize strB l = sl at *
 go_enter Tryz.func5, Tryz.ntmps5
 go_wp2_with fail
 refine hL.mono ?_
 rintro e w1 ⟨rfl, f1⟩
 clear hL
 have hA1 := hA w1 f1
 go_wp2_with fail
 refine hA1.mono ?_
 rintro e wz ⟨rfl, fz⟩
 go_wp2_with fail
 go_ret
 exact ⟨rfl, f1.trans (fz.mono f1.size)⟩
set_option maxRecDepth 100000 in
set_option maxHeartbeats 8000000 in
theorem back_b (w : World) (hW : LdW w) (A : Option Addr) (n c : Nat) (L : List Po) (D : Option Addr) (m d : Nat) (M : List Po) (l : List UInt8) (h : RdG 5 PoP w w.heap.size A n L) (h' : RdG 5 PoP w w.heap.size D m M) (hok : ∀ p ∈ L, oqPo p) (hok' : ∀ p ∈ M, oqPo p) (hl : psLong L = false) (hm : psLong M = true) :
  Calls Tryz.prog 5 #[.slice A n c, .slice D m d, .string (strB l)] w fun e w' => e = .returned (.bool true) ∧ Below w.heap.size w w' := by
 have hlo := hW.lt
 have hL := long15_any A n c L w h hok
 have hM := fun (u : World) (hu : Below w.heap.size w u) => long15_any D m d M u (rdP_b h' hu) hok'
 have hA := fun (u : World) (hu : Below w.heap.size w u) => awake15_any u (hW.below hlo hu)
 have f0 := Below.refl w.heap.size w
 rw [hl] at hL
 rw [hm] at hM
 generalize strB l = sl at *
 go_enter Tryz.func5, Tryz.ntmps5
 go_wp2_with fail
 refine hL.mono ?_
 rintro e w1 ⟨rfl, f1⟩
 clear hL
 have hM1 := hM w1 f1
 go_wp2_with fail
 refine hM1.mono ?_
 rintro e w2 ⟨rfl, w2f⟩
 have F2 := f1.trans (w2f.mono f1.size)
 clear w2f
 have hA1 := hA w2 F2
 go_wp2_with fail
 refine hA1.mono ?_
 rintro e wz ⟨rfl, fz⟩
 go_wp2_with fail
 go_ret
 exact ⟨rfl, F2.trans (fz.mono F2.size)⟩
set_option maxRecDepth 100000 in
set_option maxHeartbeats 8000000 in
theorem back_c (w : World) (hW : LdW w) (A : Option Addr) (n c : Nat) (L : List Po) (D : Option Addr) (m d : Nat) (M : List Po) (l : List UInt8) (h : RdG 5 PoP w w.heap.size A n L) (h' : RdG 5 PoP w w.heap.size D m M) (hok : ∀ p ∈ L, oqPo p) (hok' : ∀ p ∈ M, oqPo p) (hl : psLong L = false) (hm : psLong M = false) (hs : 80000 < l.length) :
  Calls Tryz.prog 5 #[.slice A n c, .slice D m d, .string (strB l)] w fun e w' => e = .returned (.bool true) ∧ Below w.heap.size w w' := by
 have hlo := hW.lt
 have hL := long15_any A n c L w h hok
 have hM := fun (u : World) (hu : Below w.heap.size w u) => long15_any D m d M u (rdP_b h' hu) hok'
 have hA := fun (u : World) (hu : Below w.heap.size w u) => awake15_any u (hW.below hlo hu)
 have f0 := Below.refl w.heap.size w
 rw [hl] at hL
 rw [hm] at hM
 have z1 : (80000 : Int) < ((strB l).size : Int) := by rw [strB_size]; omega
 generalize strB l = sl at *
 go_enter Tryz.func5, Tryz.ntmps5
 go_wp2_with fail
 refine hL.mono ?_
 rintro e w1 ⟨rfl, f1⟩
 clear hL
 have hM1 := hM w1 f1
 go_wp2_with fail
 refine hM1.mono ?_
 rintro e w2 ⟨rfl, w2f⟩
 have F2 := f1.trans (w2f.mono f1.size)
 clear w2f
 have hA1 := hA w2 F2
 go_wp2_with fail
 refine hA1.mono ?_
 rintro e wz ⟨rfl, fz⟩
 go_wp2_with fail
 go_ret
 exact ⟨rfl, F2.trans (fz.mono F2.size)⟩
set_option maxRecDepth 100000 in
set_option maxHeartbeats 8000000 in
theorem back_d (w : World) (hW : LdW w) (A : Option Addr) (n c : Nat) (L : List Po) (D : Option Addr) (m d : Nat) (M : List Po) (l : List UInt8) (h : RdG 5 PoP w w.heap.size A n L) (h' : RdG 5 PoP w w.heap.size D m M) (hok : ∀ p ∈ L, oqPo p) (hok' : ∀ p ∈ M, oqPo p) (hl : psLong L = false) (hm : psLong M = false) (hs : l.length ≤ 80000) (hx : L.all poMay = false ∨ 65536 < (L.flatMap polS).length) :
  Calls Tryz.prog 5 #[.slice A n c, .slice D m d, .string (strB l)] w fun e w' => e = .returned (.bool true) ∧ Below w.heap.size w w' := by
 have hlo := hW.lt
 have hL := long15_any A n c L w h hok
 have hM := fun (u : World) (hu : Below w.heap.size w u) => long15_any D m d M u (rdP_b h' hu) hok'
 have hA := fun (u : World) (hu : Below w.heap.size w u) => awake15_any u (hW.below hlo hu)
 have f0 := Below.refl w.heap.size w
 rw [hl] at hL
 rw [hm] at hM
 have z1 : ¬ (80000 : Int) < ((strB l).size : Int) := by rw [strB_size]; omega
 obtain ⟨n20, ok1⟩ := psLong_ok hok hl
 obtain ⟨m20, ok2⟩ := psLong_ok hok' hm
 have hn := h.1
 have hmn := h'.1
 have hP := fun (u : World) (hu : Below w.heap.size w u) => printL_any A n c L u (hW.below hlo hu) (rdP_b h hu) (by omega) ok1
 have hQ := fun (u : World) (hu : Below w.heap.size w u) => printL_any D m d M u (hW.below hlo hu) (rdP_b h' hu) (by omega) ok2
 have hR := fun (s : List UInt8) (hs : s.length ≤ 65536) (u : World) (hu : Below w.heap.size w u) => psParse_rd s u (hW.below hlo hu) hs
 have HR := Lib.hid hR; clear hR
 unfold prV at hP hQ
 obtain ⟨sl, hsl⟩ : ∃ y, strB l = y := ⟨_, rfl⟩
 rw [hsl] at z1 ⊢
 have HSL := Lib.hid hsl
 clear hsl
 have hx2 : ∃ (x : ByteArray) (e : Int), (if L.all poMay then Value.tuple #[.string (strB (L.flatMap polS)), .int .i64 0] else Value.tuple #[.string (strB []), .int .i64 1]) = .tuple #[.string x, .int .i64 e] ∧ (e = 1 ∨ e = 0 ∧ decide ((x.size : Int) ≤ 65536) = false) := by
  rcases hx with hx | hx
  ·rw [hx]
   exact ⟨_, _, rfl, .inl rfl⟩
  ·rcases h1 : L.all poMay with _ | _
   ·exact ⟨_, _, rfl, .inl rfl⟩
   ·exact ⟨_, _, rfl, .inr ⟨rfl, decide_eq_false (by rw [strB_size]; omega)⟩⟩
 have hy2 : ∃ (x : ByteArray) (e : Int), (if M.all poMay then Value.tuple #[.string (strB (M.flatMap polS)), .int .i64 0] else Value.tuple #[.string (strB []), .int .i64 1]) = .tuple #[.string x, .int .i64 e] := by
  rcases h1 : M.all poMay with _ | _
  ·exact ⟨_, _, rfl⟩
  ·exact ⟨_, _, rfl⟩
 obtain ⟨x, xe, hxe, hxx⟩ := hx2
 obtain ⟨y, ye, hye⟩ := hy2
 rw [hxe] at hP
 rw [hye] at hQ
 clear hxe hye hx hl hm n20 m20 ok1 ok2 hok hok'
 rcases hxx with rfl | ⟨rfl, hxx⟩
 ·go_enter Tryz.func5, Tryz.ntmps5
  go_wp2_with fail
  refine hL.mono ?_
  rintro e w1 ⟨rfl, f1⟩
  clear hL
  have hM1 := hM w1 f1
  go_wp2_with fail
  refine hM1.mono ?_
  rintro e w2 ⟨rfl, w2f⟩
  have F2 := f1.trans (w2f.mono f1.size)
  clear w2f
  have hP2 := hP w2 F2
  clear hM
  go_wp2_with fail
  refine hP2.mono ?_
  rintro e w3 ⟨rfl, w3f⟩
  have F3 := F2.trans (w3f.mono F2.size)
  clear w3f
  have hQ3 := hQ w3 F3
  clear hP
  go_wp2_with fail
  refine hQ3.mono ?_
  rintro e w4 ⟨rfl, w4f⟩
  have F4 := F3.trans (w4f.mono F3.size)
  clear w4f
  clear hQ
  rcases Nat.lt_or_ge 65536 l.length with hs | hs
  ·have hp := psParse_long l w4 hs
   rw [HSL.out] at hp
   clear HR
   go_wp2_with fail
   refine hp.mono ?_
   rintro e w8 ⟨rfl, f8⟩
   have F8 := F4.trans (f8.mono F4.size)
   clear f8 hp
   have hA1 := hA w8 F8
   go_wp2_with fail
   refine hA1.mono ?_
   rintro e wz ⟨rfl, fz⟩
   go_wp2_with fail
   go_ret
   exact ⟨rfl, F8.trans (fz.mono F8.size)⟩
  ·have hp := HR.out l hs w4 F4
   have HPB := fun L (h : parseS l = .ok L) => parse_back h
   have HPO := fun L (h : parseS l = .ok L) => parse_ok (by omega) h
   rw [HSL.out] at hp
   go_wp2_with fail
   refine hp.mono ?_
   rintro e w8 ⟨f8, hr⟩
   have F8 := F4.trans (f8.mono F4.size)
   clear f8 hp
   rcases hr with ⟨L8, A8, c8, h8, rfl, r8⟩ | ⟨m8, hm8, h8, rfl⟩
   ·obtain ⟨hmay, htx⟩ := HPB L8 h8
    obtain ⟨hok8, hln⟩ := HPO L8 h8
    have hP8 := printL_any A8 L8.length c8 L8 w8 (hW.below hlo F8) r8 (by omega) hok8
    unfold prV at hP8
    rw [List.all_eq_true.2 hmay, if_pos rfl, text_eq (fun p hp => po_okP (hmay p hp) (hok8 p hp)), htx, HSL.out] at hP8
    clear hmay htx hok8 hln h8 HPB HPO r8
    generalize L8.length = n8 at *
    go_wp2_with fail
    refine hP8.mono ?_
    rintro e w9 ⟨rfl, f9⟩
    have F9 := F8.trans (f9.mono F8.size)
    clear f9 hP8
    have hA1 := hA w9 F9
    go_wp2_with fail
    refine hA1.mono ?_
    rintro e wz ⟨rfl, fz⟩
    go_wp2_with fail
    go_ret
    exact ⟨rfl, F9.trans (fz.mono F9.size)⟩
   ·clear h8 HPB HPO
    have g1 : decide ((m8 : Int) = 0) = false := by simp; omega
    have hA1 := hA w8 F8
    go_wp2_with fail
    refine hA1.mono ?_
    rintro e wz ⟨rfl, fz⟩
    go_wp2_with fail
    go_ret
    exact ⟨rfl, F8.trans (fz.mono F8.size)⟩
 ·go_enter Tryz.func5, Tryz.ntmps5
  go_wp2_with fail
  refine hL.mono ?_
  rintro e w1 ⟨rfl, f1⟩
  clear hL
  have hM1 := hM w1 f1
  go_wp2_with fail
  refine hM1.mono ?_
  rintro e w2 ⟨rfl, w2f⟩
  have F2 := f1.trans (w2f.mono f1.size)
  clear w2f
  have hP2 := hP w2 F2
  clear hM
  go_wp2_with fail
  refine hP2.mono ?_
  rintro e w3 ⟨rfl, w3f⟩
  have F3 := F2.trans (w3f.mono F2.size)
  clear w3f
  have hQ3 := hQ w3 F3
  clear hP
  go_wp2_with fail
  refine hQ3.mono ?_
  rintro e w4 ⟨rfl, w4f⟩
  have F4 := F3.trans (w4f.mono F3.size)
  clear w4f
  clear hQ
  rcases Nat.lt_or_ge 65536 l.length with hs | hs
  ·have hp := psParse_long l w4 hs
   rw [HSL.out] at hp
   clear HR
   go_wp2_with fail
   refine hp.mono ?_
   rintro e w8 ⟨rfl, f8⟩
   have F8 := F4.trans (f8.mono F4.size)
   clear f8 hp
   have hA1 := hA w8 F8
   go_wp2_with fail
   refine hA1.mono ?_
   rintro e wz ⟨rfl, fz⟩
   go_wp2_with fail
   go_ret
   exact ⟨rfl, F8.trans (fz.mono F8.size)⟩
  ·have hp := HR.out l hs w4 F4
   have HPB := fun L (h : parseS l = .ok L) => parse_back h
   have HPO := fun L (h : parseS l = .ok L) => parse_ok (by omega) h
   rw [HSL.out] at hp
   go_wp2_with fail
   refine hp.mono ?_
   rintro e w8 ⟨f8, hr⟩
   have F8 := F4.trans (f8.mono F4.size)
   clear f8 hp
   rcases hr with ⟨L8, A8, c8, h8, rfl, r8⟩ | ⟨m8, hm8, h8, rfl⟩
   ·obtain ⟨hmay, htx⟩ := HPB L8 h8
    obtain ⟨hok8, hln⟩ := HPO L8 h8
    have hP8 := printL_any A8 L8.length c8 L8 w8 (hW.below hlo F8) r8 (by omega) hok8
    unfold prV at hP8
    rw [List.all_eq_true.2 hmay, if_pos rfl, text_eq (fun p hp => po_okP (hmay p hp) (hok8 p hp)), htx, HSL.out] at hP8
    clear hmay htx hok8 hln h8 HPB HPO r8
    generalize L8.length = n8 at *
    go_wp2_with fail
    refine hP8.mono ?_
    rintro e w9 ⟨rfl, f9⟩
    have F9 := F8.trans (f9.mono F8.size)
    clear f9 hP8
    have hA1 := hA w9 F9
    go_wp2_with fail
    refine hA1.mono ?_
    rintro e wz ⟨rfl, fz⟩
    go_wp2_with fail
    go_ret
    exact ⟨rfl, F9.trans (fz.mono F9.size)⟩
   ·clear h8 HPB HPO
    have g1 : decide ((m8 : Int) = 0) = false := by simp; omega
    have hA1 := hA w8 F8
    go_wp2_with fail
    refine hA1.mono ?_
    rintro e wz ⟨rfl, fz⟩
    go_wp2_with fail
    go_ret
    exact ⟨rfl, F8.trans (fz.mono F8.size)⟩
set_option maxRecDepth 100000 in
set_option maxHeartbeats 8000000 in
theorem back_e (w : World) (hW : LdW w) (A : Option Addr) (n c : Nat) (L : List Po) (D : Option Addr) (m d : Nat) (M : List Po) (l : List UInt8) (h : RdG 5 PoP w w.heap.size A n L) (h' : RdG 5 PoP w w.heap.size D m M) (hok : ∀ p ∈ L, oqPo p) (hok' : ∀ p ∈ M, oqPo p) (hl : psLong L = false) (hm : psLong M = false) (hs : l.length ≤ 80000) (h1 : L.all poMay = true) (hT0 : (L.flatMap polS).length ≤ 65536) :
  Calls Tryz.prog 5 #[.slice A n c, .slice D m d, .string (strB l)] w fun e w' => e = .returned (.bool true) ∧ Below w.heap.size w w' := by
 have hlo := hW.lt
 have hL := long15_any A n c L w h hok
 have hM := fun (u : World) (hu : Below w.heap.size w u) => long15_any D m d M u (rdP_b h' hu) hok'
 have hA := fun (u : World) (hu : Below w.heap.size w u) => awake15_any u (hW.below hlo hu)
 have f0 := Below.refl w.heap.size w
 rw [hl] at hL
 rw [hm] at hM
 have z1 : ¬ (80000 : Int) < ((strB l).size : Int) := by rw [strB_size]; omega
 obtain ⟨n20, ok1⟩ := psLong_ok hok hl
 obtain ⟨m20, ok2⟩ := psLong_ok hok' hm
 have hn := h.1
 have hmn := h'.1
 have hP := fun (u : World) (hu : Below w.heap.size w u) => printL_any A n c L u (hW.below hlo hu) (rdP_b h hu) (by omega) ok1
 have hQ := fun (u : World) (hu : Below w.heap.size w u) => printL_any D m d M u (hW.below hlo hu) (rdP_b h' hu) (by omega) ok2
 have hR := fun (s : List UInt8) (hs : s.length ≤ 65536) (u : World) (hu : Below w.heap.size w u) => psParse_rd s u (hW.below hlo hu) hs
 have HR := Lib.hid hR; clear hR
 unfold prV at hP hQ
 obtain ⟨sl, hsl⟩ : ∃ y, strB l = y := ⟨_, rfl⟩
 rw [hsl] at z1 ⊢
 have HSL := Lib.hid hsl
 clear hsl
 have hPT : parseS (L.flatMap polS) = .ok L := by
  rw [text_eq fun p hp => po_okP (List.all_eq_true.1 h1 p hp) (ok1 p hp)]
  exact parse_text fun p hp => okPh_of (List.all_eq_true.1 h1 p hp) (ok1 p hp)
 have hSM := fun (A5 : Option Addr) (c5 : Nat) (u : World) (hu : Below w.heap.size w u) (r : RdG 5 PoP u u.heap.size A5 n L) => same15_any A5 n c5 L A n c L u r (rdP_b h hu) ok1 ok1 (by omega)
 rw [decide_eq_true (rfl : L = L)] at hSM
 have hBR := fun (u : World) (hu : Below w.heap.size w u) => both_rows (c := c) (d := d) (rdP_b h hu) (rdP_b h' hu) (by omega) (by omega) 22
 have hPZ := fun (B7 : Option Addr) (d7 : Nat) (u : World) (hu : Below w.heap.size w u) (r : RdG 5 PoP u u.heap.size B7 (n + m) (L ++ M)) => printL_any B7 (n + m) d7 (L ++ M) u (hW.below hlo hu) r (by omega) (fun p hp => by rcases List.mem_append.1 hp with hp | hp; exact ok1 p hp; exact ok2 p hp)
 have hsy : (M.flatMap polS).length ≤ 1400000000000000 ∨ M.all poMay = false := by
  rcases h2 : M.all poMay with _ | _
  ·exact .inr rfl
  ·refine .inl ?_
   have hh : ∀ p ∈ M, poMay p = true := List.all_eq_true.1 h2
   have := flat_len polS 70000000000000 M M.length fun p hp => polS_len (ok2 p hp) (bP_of (hh p hp) (ok2 p hp))
   rw [List.take_length] at this
   omega
 unfold prV at hPZ
 rw [List.all_append, List.flatMap_append] at hPZ
 rw [h1] at hP hPZ
 have zx : (strB (L.flatMap polS)).size ≤ 65536 := by rw [strB_size]; exact hT0
 have zx2 : decide (((strB (L.flatMap polS)).size : Int) ≤ 65536) = true := by simp; omega
 obtain ⟨T, hT⟩ : ∃ T, L.flatMap polS = T := ⟨_, rfl⟩
 rw [hT] at hP hPZ hPT zx zx2 hT0
 replace hT := hT0
 have HPT := Lib.hid hPT; have HSM := Lib.hid hSM; have HBR := Lib.hid hBR; have HLN := Lib.hid hn
 clear hPT hSM hBR hn hmn hl hm n20 m20 ok1 ok2 hok hok' hT0 h h'
 obtain ⟨sx, hsx⟩ : ∃ y, strB T = y := ⟨_, rfl⟩
 rw [hsx] at hP zx zx2
 have HSX := Lib.hid hsx
 rcases h2 : M.all poMay with _ | _
 ·rw [h2] at hQ hPZ
  simp only [if_true, Bool.true_and, Bool.false_eq_true, if_false] at hP hQ hPZ
  have HPZ := Lib.hid hPZ
  clear hPZ hsy
  go_enter Tryz.func5, Tryz.ntmps5
  go_wp2_with fail
  refine hL.mono ?_
  rintro e w1 ⟨rfl, f1⟩
  clear hL
  have hM1 := hM w1 f1
  go_wp2_with fail
  refine hM1.mono ?_
  rintro e w2 ⟨rfl, w2f⟩
  have F2 := f1.trans (w2f.mono f1.size)
  clear w2f
  have hP2 := hP w2 F2
  clear hM
  go_wp2_with fail
  refine hP2.mono ?_
  rintro e w3 ⟨rfl, w3f⟩
  have F3 := F2.trans (w3f.mono F2.size)
  clear w3f
  have hQ3 := hQ w3 F3
  clear hP
  go_wp2_with fail
  refine hQ3.mono ?_
  rintro e w4 ⟨rfl, w4f⟩
  have F4 := F3.trans (w4f.mono F3.size)
  clear w4f
  clear hQ
  have hp5 := HR.out T hT w4 F4
  rw [HSX.out] at hp5
  go_wp2_with fail
  refine hp5.mono ?_
  rintro e w5 ⟨f5, hr⟩
  have F5 := F4.trans (f5.mono F4.size)
  clear f5
  rcases hr with ⟨L5, A5, c5, h5, rfl, r5⟩ | ⟨m5, hm5, h5, rfl⟩
  case inr => rw [HPT.out] at h5; cases h5
  obtain rfl : L = L5 := by
   rw [HPT.out] at h5
   injection h5
  clear h5
  rw [HLN.out] at r5 ⊢
  have hS5 := HSM.out A5 c5 w5 F5 r5
  clear r5
  go_wp2_with fail
  refine hS5.mono ?_
  rintro e w6 ⟨rfl, f6⟩
  have F6 := F5.trans (f6.mono F5.size)
  clear f6 hS5
  obtain ⟨A7, c7, wa, B7, d7, wb, r1, r2, rb, fb⟩ := HBR.out w6 F6
  have Fb := F6.trans (fb.mono F6.size)
  have hZ := HPZ.out B7 d7 wb Fb rb
  clear rb fb
  go_wp2_with (at_builtin; go_must (first | (have hq := r1; clear r1; refine append_run rfl rfl rfl rfl hq ?_; clear hq) | refine append_run rfl rfl rfl rfl r2 ?_))
  refine hZ.mono ?_
  rintro e w7 ⟨rfl, f7⟩
  have F7 := Fb.trans (f7.mono Fb.size)
  clear f7 hZ r2 Fb
  rcases Nat.lt_or_ge 65536 l.length with hs | hs
  ·have hp := psParse_long l w7 hs
   rw [HSL.out] at hp
   clear HR
   go_wp2_with fail
   refine hp.mono ?_
   rintro e w8 ⟨rfl, f8⟩
   have F8 := F7.trans (f8.mono F7.size)
   clear f8 hp
   have hA1 := hA w8 F8
   go_wp2_with fail
   refine hA1.mono ?_
   rintro e wz ⟨rfl, fz⟩
   go_wp2_with fail
   go_ret
   exact ⟨rfl, F8.trans (fz.mono F8.size)⟩
  ·have hp := HR.out l hs w7 F7
   have HPB := fun L (h : parseS l = .ok L) => parse_back h
   have HPO := fun L (h : parseS l = .ok L) => parse_ok (by omega) h
   rw [HSL.out] at hp
   go_wp2_with fail
   refine hp.mono ?_
   rintro e w8 ⟨f8, hr⟩
   have F8 := F7.trans (f8.mono F7.size)
   clear f8 hp
   rcases hr with ⟨L8, A8, c8, h8, rfl, r8⟩ | ⟨m8, hm8, h8, rfl⟩
   ·obtain ⟨hmay, htx⟩ := HPB L8 h8
    obtain ⟨hok8, hln⟩ := HPO L8 h8
    have hP8 := printL_any A8 L8.length c8 L8 w8 (hW.below hlo F8) r8 (by omega) hok8
    unfold prV at hP8
    rw [List.all_eq_true.2 hmay, if_pos rfl, text_eq (fun p hp => po_okP (hmay p hp) (hok8 p hp)), htx, HSL.out] at hP8
    clear hmay htx hok8 hln h8 HPB HPO r8
    generalize L8.length = n8 at *
    go_wp2_with fail
    refine hP8.mono ?_
    rintro e w9 ⟨rfl, f9⟩
    have F9 := F8.trans (f9.mono F8.size)
    clear f9 hP8
    have hA1 := hA w9 F9
    go_wp2_with fail
    refine hA1.mono ?_
    rintro e wz ⟨rfl, fz⟩
    go_wp2_with fail
    go_ret
    exact ⟨rfl, F9.trans (fz.mono F9.size)⟩
   ·clear h8 HPB HPO
    have g1 : decide ((m8 : Int) = 0) = false := by simp; omega
    have hA1 := hA w8 F8
    go_wp2_with fail
    refine hA1.mono ?_
    rintro e wz ⟨rfl, fz⟩
    go_wp2_with fail
    go_ret
    exact ⟨rfl, F8.trans (fz.mono F8.size)⟩
 ·rw [h2] at hQ hPZ hsy
  rcases hsy with hsy | hsy
  case inr => cases hsy
  rw [← strB_app, hsx] at hPZ
  have zy : (strB (M.flatMap polS)).size ≤ 1400000000000000 := by rw [strB_size]; exact hsy
  generalize strB (M.flatMap polS) = sy at *
  have zz : ¬ 9223372036854775807 < sx.size + sy.size := by omega
  simp only [if_true, Bool.true_and] at hP hQ hPZ
  have HPZ := Lib.hid hPZ
  clear hPZ hsy
  go_enter Tryz.func5, Tryz.ntmps5
  go_wp2_with fail
  refine hL.mono ?_
  rintro e w1 ⟨rfl, f1⟩
  clear hL
  have hM1 := hM w1 f1
  go_wp2_with fail
  refine hM1.mono ?_
  rintro e w2 ⟨rfl, w2f⟩
  have F2 := f1.trans (w2f.mono f1.size)
  clear w2f
  have hP2 := hP w2 F2
  clear hM
  go_wp2_with fail
  refine hP2.mono ?_
  rintro e w3 ⟨rfl, w3f⟩
  have F3 := F2.trans (w3f.mono F2.size)
  clear w3f
  have hQ3 := hQ w3 F3
  clear hP
  go_wp2_with fail
  refine hQ3.mono ?_
  rintro e w4 ⟨rfl, w4f⟩
  have F4 := F3.trans (w4f.mono F3.size)
  clear w4f
  clear hQ
  have hp5 := HR.out T hT w4 F4
  rw [HSX.out] at hp5
  go_wp2_with fail
  refine hp5.mono ?_
  rintro e w5 ⟨f5, hr⟩
  have F5 := F4.trans (f5.mono F4.size)
  clear f5
  rcases hr with ⟨L5, A5, c5, h5, rfl, r5⟩ | ⟨m5, hm5, h5, rfl⟩
  case inr => rw [HPT.out] at h5; cases h5
  obtain rfl : L = L5 := by
   rw [HPT.out] at h5
   injection h5
  clear h5
  rw [HLN.out] at r5 ⊢
  have hS5 := HSM.out A5 c5 w5 F5 r5
  clear r5
  go_wp2_with fail
  refine hS5.mono ?_
  rintro e w6 ⟨rfl, f6⟩
  have F6 := F5.trans (f6.mono F5.size)
  clear f6 hS5
  obtain ⟨A7, c7, wa, B7, d7, wb, r1, r2, rb, fb⟩ := HBR.out w6 F6
  have Fb := F6.trans (fb.mono F6.size)
  have hZ := HPZ.out B7 d7 wb Fb rb
  clear rb fb
  go_wp2_with (at_builtin; go_must (first | (have hq := r1; clear r1; refine append_run rfl rfl rfl rfl hq ?_; clear hq) | refine append_run rfl rfl rfl rfl r2 ?_))
  refine hZ.mono ?_
  rintro e w7 ⟨rfl, f7⟩
  have F7 := Fb.trans (f7.mono Fb.size)
  clear f7 hZ r2 Fb
  rcases Nat.lt_or_ge 65536 l.length with hs | hs
  ·have hp := psParse_long l w7 hs
   rw [HSL.out] at hp
   clear HR
   go_wp2_with fail
   refine hp.mono ?_
   rintro e w8 ⟨rfl, f8⟩
   have F8 := F7.trans (f8.mono F7.size)
   clear f8 hp
   have hA1 := hA w8 F8
   go_wp2_with fail
   refine hA1.mono ?_
   rintro e wz ⟨rfl, fz⟩
   go_wp2_with fail
   go_ret
   exact ⟨rfl, F8.trans (fz.mono F8.size)⟩
  ·have hp := HR.out l hs w7 F7
   have HPB := fun L (h : parseS l = .ok L) => parse_back h
   have HPO := fun L (h : parseS l = .ok L) => parse_ok (by omega) h
   rw [HSL.out] at hp
   go_wp2_with fail
   refine hp.mono ?_
   rintro e w8 ⟨f8, hr⟩
   have F8 := F7.trans (f8.mono F7.size)
   clear f8 hp
   rcases hr with ⟨L8, A8, c8, h8, rfl, r8⟩ | ⟨m8, hm8, h8, rfl⟩
   ·obtain ⟨hmay, htx⟩ := HPB L8 h8
    obtain ⟨hok8, hln⟩ := HPO L8 h8
    have hP8 := printL_any A8 L8.length c8 L8 w8 (hW.below hlo F8) r8 (by omega) hok8
    unfold prV at hP8
    rw [List.all_eq_true.2 hmay, if_pos rfl, text_eq (fun p hp => po_okP (hmay p hp) (hok8 p hp)), htx, HSL.out] at hP8
    clear hmay htx hok8 hln h8 HPB HPO r8
    generalize L8.length = n8 at *
    go_wp2_with fail
    refine hP8.mono ?_
    rintro e w9 ⟨rfl, f9⟩
    have F9 := F8.trans (f9.mono F8.size)
    clear f9 hP8
    have hA1 := hA w9 F9
    go_wp2_with fail
    refine hA1.mono ?_
    rintro e wz ⟨rfl, fz⟩
    go_wp2_with fail
    go_ret
    exact ⟨rfl, F9.trans (fz.mono F9.size)⟩
   ·clear h8 HPB HPO
    have g1 : decide ((m8 : Int) = 0) = false := by simp; omega
    have hA1 := hA w8 F8
    go_wp2_with fail
    refine hA1.mono ?_
    rintro e wz ⟨rfl, fz⟩
    go_wp2_with fail
    go_ret
    exact ⟨rfl, F8.trans (fz.mono F8.size)⟩
theorem syntaxBack_walk (w : World) (hW : LdW w) (A : Option Addr) (n c : Nat) (L : List Po) (h : RdG 5 PoP w w.heap.size A n L) (hc : n ≤ c) (hcm : c ≤ maxLen) (hok : ∀ p ∈ L, oqPo p) (D : Option Addr) (m d : Nat) (M : List Po) (h' : RdG 5 PoP w w.heap.size D m M) (hc' : m ≤ d) (hcm' : d ≤ maxLen) (hok' : ∀ p ∈ M, oqPo p) (l : List UInt8) (hx : l.length ≤ maxLen) :
  Calls Tryz.prog 5 #[.slice A n c, .slice D m d, .string (strB l)] w fun e w' => e = .returned (.bool true) ∧ Below w.heap.size w w' := by
 rcases hl : psLong L with _ | _
 ·rcases hm : psLong M with _ | _
  ·rcases Nat.lt_or_ge 80000 l.length with hs | hs
   ·exact back_c w hW A n c L D m d M l h h' hok hok' hl hm hs
   ·rcases h1 : L.all poMay with _ | _
    ·exact back_d w hW A n c L D m d M l h h' hok hok' hl hm hs (.inl h1)
    ·rcases Nat.lt_or_ge 65536 (L.flatMap polS).length with h2 | h2
     ·exact back_d w hW A n c L D m d M l h h' hok hok' hl hm hs (.inr h2)
     ·exact back_e w hW A n c L D m d M l h h' hok hok' hl hm hs h1 h2
  ·exact back_b w hW A n c L D m d M l h h' hok hok' hl hm
 ·exact back_a w hW A n c L D m d M l h h' hok hok' hl
end Go.Proofs.YtpcdmbajfmnoiaaGreatDoor
