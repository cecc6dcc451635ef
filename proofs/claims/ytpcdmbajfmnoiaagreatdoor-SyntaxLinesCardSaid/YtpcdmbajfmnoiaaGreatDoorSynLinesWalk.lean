/- The law SyntaxLines: true. Conditions: the library's variables hold what they should. -/
import Derived.Test.YtpcdmbajfmnoiaaGreatDoorSynOneWalk
import Derived.Test.YtpcdmbajfmnoiaaGreatDoorSynPsR
import Derived.Test.YtpcdmbajfmnoiaaGreatDoorSynLinesLaw
namespace Go.Proofs.YtpcdmbajfmnoiaaGreatDoor
open Go.RowKit Go.Sort
set_option linter.unusedVariables false
set_option linter.unusedSimpArgs false
def PaU (u : World) : Prop := True
set_option maxRecDepth 100000 in
set_option maxHeartbeats 8000000 in
theorem lines_main (w : World) (hW : LdW w) (A : Option Addr) (n c : Nat) (L : List Po) (at_ : Int) (ha1 : -9223372036854775808 ≤ at_) (ha2 : at_ ≤ 9223372036854775807) (h : RdG 5 PoP w w.heap.size A n L) (hok : ∀ p ∈ L, oqPo p) (hl : psLong L = false) (h0 : L ≠ []) (hm : L.all poMay = true) (hs : (L.flatMap polS).length ≤ 60000) :
  Calls Tryz.prog 6 #[.slice A n c, .int .i64 at_] w fun e w' => e = .returned (.bool true) ∧ Below w.heap.size w w' := by
 have hlo := hW.lt
 obtain ⟨n20, ok1⟩ := psLong_ok hok hl
 have hn := h.1
 have hLl := long15_any A n c L w h hok
 rw [hl] at hLl
 have okk : ∀ p ∈ L, okP p := fun p hp => po_okP (List.all_eq_true.1 hm p hp) (ok1 p hp)
 have okh : ∀ p ∈ L, okPh p := fun p hp => okPh_of (List.all_eq_true.1 hm p hp) (ok1 p hp)
 have hP := fun (u : World) (hu : Below w.heap.size w u) => printL_any A n c L u (hW.below hlo hu) (rdP_b h hu) (by omega) ok1
 unfold prV at hP
 rw [hm, text_eq okk] at hP
 rw [text_eq okk] at hs
 simp only [if_true] at hP
 have hA := fun (u : World) (hu : Below w.heap.size w u) => awake15_any u (hW.below hlo hu)
 have hR := fun (s : List UInt8) (hs : s.length ≤ 65536) (u : World) (hu : Below w.heap.size w u) => psParse_rd s u (hW.below hlo hu) hs
 have n0 : ((n : Int) == 0) = false := by
  rw [beq_eq_false_iff_ne]
  intro e
  have : n = 0 := by omega
  exact h0 (List.eq_nil_of_length_eq_zero (by omega))
 obtain ⟨T, hT⟩ : ∃ T, textP L = T := ⟨_, rfl⟩
 rw [hT] at hP hs
 have zz : (strB T).size = T.length := strB_size T
 have HG : ∀ (k : Nat) (h : k < T.length) (h' : k < (strB T).size), (strB T)[k] = T[k] := fun k h h' => rfl
 have HX : ∀ f i : Nat, (strB T).extract f i = strB ((T.drop f).take (i - f)) := ext_strB T
 have ht0 : 1 ≤ T.length := by
  rw [← hT]
  obtain ⟨p, r, rfl⟩ := List.exists_cons_of_ne_nil h0
  unfold textP
  rw [List.flatMap_cons]
  unfold linesP
  rw [List.cons_append, textL_cons, List.length_append, List.length_cons]
  omega
 obtain ⟨s, hs'⟩ : ∃ s, strB T = s := ⟨_, rfl⟩
 rw [hs'] at zz HX hP
 have HG' : ∀ (k : Nat) (h : k < T.length) (h' : k < s.size), s[k] = T[k] := by subst hs'; exact HG
 have HTT := Lib.hid hT; have HOKH := Lib.hid okh; have HR := Lib.hid hR; have HS := Lib.hid hs'; have HGG := Lib.hid HG'; have HXX := Lib.hid HX
 have HOKK := Lib.hid okk
 have HT0 := Lib.hid h0
 clear HG HG' HX hT okh okk hR hs' hl hm ok1 h0
 have z1 : ((s.size : Int) == 0) = false := by rw [beq_eq_false_iff_ne]; omega
 have z2 : ¬ ((60000 : Int) < (s.size : Int)) := by omega
 have z3 : (0 : Int) < (s.size : Int) := by omega
 have HZ := Lib.hid zz; clear zz
 go_enter Tryz.func6, Tryz.ntmps6
 go_wp2_with fail
 refine hLl.mono ?_
 rintro e w1 ⟨rfl, f1⟩
 have hP1 := hP w1 f1
 clear hLl hP
 go_wp2_with fail
 refine hP1.mono ?_
 rintro e w2 ⟨rfl, f2⟩
 have F2 := f1.trans (f2.mono f1.size)
 clear hP1 f1 f2
 go_wp2_with fail
 obtain ⟨k0, hk0, hk1⟩ : ∃ k : Nat, max 0 at_ % (s.size : Int) = (k : Int) ∧ k < s.size := by
  have h1 := Int.emod_nonneg (max 0 at_) (show (s.size : Int) ≠ 0 by omega)
  have h2 := Int.emod_lt_of_pos (max 0 at_) z3
  exact ⟨(max 0 at_ % (s.size : Int)).toNat, by omega, by omega⟩
 rw [hk0]
 go_loopw [7] (fun v7 wr => ∃ k : Nat, v7 = .int .i64 (k : Int) ∧ k < s.size ∧ Below w.heap.size w wr) (fun v7 _ => (intOf v7).toNat)
 case atStart => exact ⟨k0, rfl, hk1, F2⟩
 case round =>
  obtain ⟨k, rfl, hks, f3⟩ := hrel
  by_cases hz : k = 0
  ·have g0 : ¬ (0 : Int) < (k : Int) := by omega
   have hcut : k = 0 ∨ T[k - 1]? = some 10 := .inl hz
   have HCUT := Lib.hid hcut; clear hcut hz
   go_wp2_with fail
   go_loopw [9, 8] (fun v9 v8 wr => ∃ i : Nat, v9 = .int .i64 (i : Int) ∧ i ≤ k ∧ v8 = .int .i64 ((1 + (T.take i).count 10 : Nat) : Int) ∧ Below w.heap.size w wr) (fun v9 _ _ => k - (intOf v9).toNat)
   case atStart => exact ⟨0, rfl, by omega, by simp, f3⟩
   case round =>
    obtain ⟨i, rfl, hik, rfl, f4⟩ := hrel
    by_cases hlt : i < k
    ·have e0 : (0 : Int) ≤ (i : Int) := by omega
     have e1 : (i : Int) < (s.size : Int) := by omega
     have e2 : (i : Int) < (k : Int) := by omega
     have his : i < s.size := by omega
     have hiT : i < T.length := by rw [← HZ.out]; exact his
     have hg := HGG.out i hiT his
     obtain ⟨y, hy⟩ : ∃ y, s[i] = y := ⟨_, rfl⟩
     have hct := count_step (T := T) (i := i) (b := y) (by rw [List.getElem?_eq_getElem hiT, ← hg, hy])
     have hcl : (T.take i).count 10 ≤ i := Nat.le_trans List.count_le_length (by rw [List.length_take]; omega)
     obtain ⟨cn, hcn⟩ : ∃ cn, (T.take i).count 10 = cn := ⟨_, rfl⟩
     rw [hcn] at hct hcl ⊢
     have hwi : IntKind.i64.wrap ((i : Int) + 1) = (i : Int) + 1 := IntWalk.i64_in _ (by omega)
     have hwc : IntKind.i64.wrap (((1 + cn : Nat) : Int) + 1) = ((1 + cn : Nat) : Int) + 1 := IntWalk.i64_in _ (by omega)
     have HY := Lib.hid hy
     clear hg hy hcn
     by_cases hyc : y = 10
     ·have d2 : ((s[i].toNat : Int) == 10) = true := by rw [HY.out, hyc]; simp
      rw [if_pos hyc] at hct
      have HCT := Lib.hid hct; clear hct
      go_wp2_with fail
      go_roundw
      case rel => exact ⟨i + 1, by go_num, by omega, by rw [HCT.out]; go_num, f4⟩
      case measure => simp [intOf]; omega
     ·have d2 : ((s[i].toNat : Int) == 10) = false := by
       rw [beq_eq_false_iff_ne, HY.out]
       intro e
       exact hyc (UInt8.toNat_inj.1 (show y.toNat = 10 by omega))
      rw [if_neg hyc] at hct
      have HCT := Lib.hid hct; clear hct
      go_wp2_with fail
      go_roundw
      case rel => exact ⟨i + 1, by go_num, by omega, by rw [HCT.out]; go_num, f4⟩
      case measure => simp [intOf]; omega
    ·have hik' : i = k := by omega
     subst hik'
     have hx1 := HXX.out 0 i
     have hx2 := HXX.out i T.length
     rw [List.drop_zero, Nat.sub_zero] at hx1
     rw [List.take_of_length_le (by rw [List.length_drop]; omega), ← HZ.out] at hx2
     have y1 : (strB (T.take i)).size ≤ 60000 := by rw [strB_size, List.length_take]; omega
     have y2 : (strB (T.drop i)).size ≤ 60000 := by rw [strB_size, List.length_drop]; omega
     have hlit : (⟨#[110, 111, 110, 115, 101, 110, 115, 101, 10]⟩ : ByteArray) = strB (wNons ++ [10]) := rfl
     have hcat : strB (T.take i) ++ ⟨#[110, 111, 110, 115, 101, 110, 115, 101, 10]⟩ ++ strB (T.drop i) = strB (T.take i ++ (wNons ++ [10]) ++ T.drop i) := by rw [hlit, strB_app, strB_app]
     have HCAT := Lib.hid hcat
     clear hlit
     obtain ⟨sa, hsa⟩ : ∃ y, strB (T.take i) = y := ⟨_, rfl⟩
     obtain ⟨sb, hsb⟩ : ∃ y, strB (T.drop i) = y := ⟨_, rfl⟩
     rw [hsa] at hx1 hcat y1
     rw [hsb] at hx2 hcat y2
     have q1 : ¬ 9223372036854775807 < sa.size + 9 := by omega
     have q2 : ¬ 9223372036854775807 < sa.size + 9 + sb.size := by omega
     have HC2 := Lib.hid hcat
     clear hcat hsa hsb
     have c0 : (0 : Int) ≤ (i : Int) := by omega
     have c2 : (i : Int) ≤ (s.size : Int) := by omega
     have c4 : (0 : Int) ≤ (s.size : Int) := by omega
     go_wp2_with fail
     have hS : PaU wr := trivial
     refine wp_region_order PaU 100 [(0,0), (1,0), (2,0), (3,0), (4,0), (5,0), (6,0), (7,0), (8,1), (9,0), (10,0), (11,0), (12,0), (13,0), (14,0), (15,0)] (by kernel_rfl) (by kernel_rfl) ?_
     simp only [pick, List.filterMap_cons, List.filterMap_nil, List.getElem?_cons_zero, List.getElem?_cons_succ, Option.map_some]
     replace hS : PaU wr.drew := hS
     iterate 8 (refine wpF_take (v := ?_) hS rfl ?_ (fun _ _ _ h => h) ?_; rotate_left; (· intro w' hS'; obtain _ := hS'; go_simp <;> rfl); go_simp)
     have hps : parseS (T.take i ++ (wNons ++ [10]) ++ T.drop i) = .error ((T.take i).count 10 + 1) := by
      have hT : textL (L.flatMap linesP) = T := HTT.out
      obtain ⟨A0, B0, q3, q4, q5, q6⟩ := cut_at (L.flatMap linesP) (pols_no HOKK.out) i (by rw [hT]; have := HZ.out; omega) (by rw [hT]; exact HCUT.out)
      rw [hT] at q4 q5 q6
      rw [q4, q5, ← q4, q6, q4]
      exact parse_nons HOKH.out q3
     have HPS := Lib.hid hps; clear hps
     refine wpF_only rfl (fun K hK => ?_)
     go_wp2_with fail
     rw [HC2.out]
     refine (HR.out _ (by simp only [List.length_append, List.length_take, List.length_drop]; have : wNons.length = 8 := rfl; simp; omega) wr.drew f4.drew).mono ?_
     rintro e w5 ⟨f5, hr⟩
     rcases hr with ⟨L5, A5, c5, h5, _⟩ | ⟨m5, _, h5, rfl⟩
     ·rw [HPS.out] at h5; cases h5
     rw [HPS.out] at h5
     injection h5 with h5
     subst h5
     have F5 : Below w.heap.size w w5 := f4.drew.trans (f5.mono f4.drew.size)
     clear f5 hS
     have hS : PaU w5 := trivial
     dsimp only
     refine hK _ _ ⟨fun _ => hS, ?_⟩
     clear hK K
     iterate 7 (refine wpF_take (v := ?_) hS rfl ?_ (fun _ _ _ h => h) ?_; rotate_left; (· intro w' hS'; obtain _ := hS'; go_simp <;> rfl); go_simp)
     refine wpF_nil ?_
     clear hS
     obtain ⟨N, hN⟩ : ∃ N, s.size = N + 1 := ⟨s.size - 1, by omega⟩
     have hx3 := HXX.out 0 N
     rw [List.drop_zero, Nat.sub_zero] at hx3
     have hTd : T.take N = T.dropLast := by rw [List.dropLast_eq_take, ← HZ.out, hN]; rfl
     rw [hTd] at hx3
     have hsz3 : (s.size : Int) = (N : Int) + 1 := by omega
     have hwN : IntKind.i64.wrap ((s.size : Int) - 1) = (N : Int) := by rw [IntWalk.i64_in _ (by omega)]; omega
     have c5 : (0 : Int) ≤ (N : Int) := by omega
     have c6 : (N : Int) ≤ (s.size : Int) := by omega
     have HN := Lib.hid hN
     clear hN hTd
     go_wp2_with fail
     refine (HR.out T.dropLast (by rw [List.length_dropLast]; omega) w5 F5).mono ?_
     rintro e w6 ⟨f6, hr6⟩
     obtain ⟨m0, hm0, hp0⟩ := parse_short HOKH.out (by rw [HTT.out]; exact fun e => by rw [e] at ht0; cases ht0)
     rw [HTT.out] at hp0
     rcases hr6 with ⟨L6, A6, c8, h6, _⟩ | ⟨m6, hm6, h6, rfl⟩
     ·rw [hp0] at h6; cases h6
     clear h6 hp0
     have F6 := F5.trans (f6.mono F5.size)
     have hA6 := hA w6 F6
     have hge : (1 : Int) ≤ (m6 : Int) := by omega
     obtain ⟨cn, hcn⟩ : ∃ cn, (T.take i).count 10 = cn := ⟨_, rfl⟩
     rw [hcn]
     clear hcn
     have hee : (((cn : Int) + 1) == (1 + (cn : Int))) = true := by rw [beq_iff_eq]; omega
     clear F5 f6
     go_wp2_with fail
     refine hA6.mono ?_
     rintro e w7 ⟨rfl, f7⟩
     go_wp2_with fail
     go_ret
     exact ⟨rfl, F6.trans (f7.mono F6.size)⟩
  ·obtain ⟨j, rfl⟩ : ∃ j, k = j + 1 := ⟨k - 1, by omega⟩
   have hjT : j < T.length := by rw [← HZ.out]; omega
   have his : j < s.size := by omega
   have hg := HGG.out j hjT his
   obtain ⟨y, hy⟩ : ∃ y, s[j] = y := ⟨_, rfl⟩
   have hTy : T[j]? = some y := by rw [List.getElem?_eq_getElem hjT, ← hg, hy]
   have c0 : (0 : Int) < (j : Int) + 1 := by omega
   have c1 : (0 : Int) ≤ (j : Int) := by omega
   have c2 : (j : Int) < (s.size : Int) := by omega
   have hwj : IntKind.i64.wrap (j : Int) = (j : Int) := IntWalk.i64_in _ (by omega)
   have HY := Lib.hid hy
   clear hg hy hz
   by_cases hyc : y = 10
   ·have d2 : ((s[j].toNat : Int) == 10) = true := by rw [HY.out, hyc]; simp
    have d3 : (s[j].toNat : Int) = 10 := by rw [HY.out, hyc]; rfl
    have hcut : j + 1 = 0 ∨ T[j + 1 - 1]? = some 10 := .inr (by rw [Nat.add_sub_cancel, hTy, hyc])
    have HCUT := Lib.hid hcut; clear hcut hTy
    go_wp2_with fail
    obtain ⟨k, hk⟩ : ∃ k, j + 1 = k := ⟨_, rfl⟩
    have hkk : (j : Int) + 1 = (k : Int) := by omega
    first | rw [hk] | skip
    first | rw [hkk] | skip
    rw [hk] at hks HCUT
    clear hkk hk d2 d3 c0 c1 c2 hwj HY his hjT hyc
    go_loopw [9, 8] (fun v9 v8 wr => ∃ i : Nat, v9 = .int .i64 (i : Int) ∧ i ≤ k ∧ v8 = .int .i64 ((1 + (T.take i).count 10 : Nat) : Int) ∧ Below w.heap.size w wr) (fun v9 _ _ => k - (intOf v9).toNat)
    case atStart => exact ⟨0, rfl, by omega, by simp, f3⟩
    case round =>
     obtain ⟨i, rfl, hik, rfl, f4⟩ := hrel
     by_cases hlt : i < k
     ·have e0 : (0 : Int) ≤ (i : Int) := by omega
      have e1 : (i : Int) < (s.size : Int) := by omega
      have e2 : (i : Int) < (k : Int) := by omega
      have his : i < s.size := by omega
      have hiT : i < T.length := by rw [← HZ.out]; exact his
      have hg := HGG.out i hiT his
      obtain ⟨y, hy⟩ : ∃ y, s[i] = y := ⟨_, rfl⟩
      have hct := count_step (T := T) (i := i) (b := y) (by rw [List.getElem?_eq_getElem hiT, ← hg, hy])
      have hcl : (T.take i).count 10 ≤ i := Nat.le_trans List.count_le_length (by rw [List.length_take]; omega)
      obtain ⟨cn, hcn⟩ : ∃ cn, (T.take i).count 10 = cn := ⟨_, rfl⟩
      rw [hcn] at hct hcl ⊢
      have hwi : IntKind.i64.wrap ((i : Int) + 1) = (i : Int) + 1 := IntWalk.i64_in _ (by omega)
      have hwc : IntKind.i64.wrap (((1 + cn : Nat) : Int) + 1) = ((1 + cn : Nat) : Int) + 1 := IntWalk.i64_in _ (by omega)
      have HY := Lib.hid hy
      clear hg hy hcn
      by_cases hyc : y = 10
      ·have d2 : ((s[i].toNat : Int) == 10) = true := by rw [HY.out, hyc]; simp
       rw [if_pos hyc] at hct
       have HCT := Lib.hid hct; clear hct
       go_wp2_with fail
       go_roundw
       case rel => exact ⟨i + 1, by go_num, by omega, by rw [HCT.out]; go_num, f4⟩
       case measure => simp [intOf]; omega
      ·have d2 : ((s[i].toNat : Int) == 10) = false := by
        rw [beq_eq_false_iff_ne, HY.out]
        intro e
        exact hyc (UInt8.toNat_inj.1 (show y.toNat = 10 by omega))
       rw [if_neg hyc] at hct
       have HCT := Lib.hid hct; clear hct
       go_wp2_with fail
       go_roundw
       case rel => exact ⟨i + 1, by go_num, by omega, by rw [HCT.out]; go_num, f4⟩
       case measure => simp [intOf]; omega
     ·have hik' : i = k := by omega
      subst hik'
      have hx1 := HXX.out 0 i
      have hx2 := HXX.out i T.length
      rw [List.drop_zero, Nat.sub_zero] at hx1
      rw [List.take_of_length_le (by rw [List.length_drop]; omega), ← HZ.out] at hx2
      have y1 : (strB (T.take i)).size ≤ 60000 := by rw [strB_size, List.length_take]; omega
      have y2 : (strB (T.drop i)).size ≤ 60000 := by rw [strB_size, List.length_drop]; omega
      have hlit : (⟨#[110, 111, 110, 115, 101, 110, 115, 101, 10]⟩ : ByteArray) = strB (wNons ++ [10]) := rfl
      have hcat : strB (T.take i) ++ ⟨#[110, 111, 110, 115, 101, 110, 115, 101, 10]⟩ ++ strB (T.drop i) = strB (T.take i ++ (wNons ++ [10]) ++ T.drop i) := by rw [hlit, strB_app, strB_app]
      have HCAT := Lib.hid hcat
      clear hlit
      obtain ⟨sa, hsa⟩ : ∃ y, strB (T.take i) = y := ⟨_, rfl⟩
      obtain ⟨sb, hsb⟩ : ∃ y, strB (T.drop i) = y := ⟨_, rfl⟩
      rw [hsa] at hx1 hcat y1
      rw [hsb] at hx2 hcat y2
      have q1 : ¬ 9223372036854775807 < sa.size + 9 := by omega
      have q2 : ¬ 9223372036854775807 < sa.size + 9 + sb.size := by omega
      have HC2 := Lib.hid hcat
      clear hcat hsa hsb
      have c0 : (0 : Int) ≤ (i : Int) := by omega
      have c2 : (i : Int) ≤ (s.size : Int) := by omega
      have c4 : (0 : Int) ≤ (s.size : Int) := by omega
      go_wp2_with fail
      have hS : PaU wr := trivial
      refine wp_region_order PaU 100 [(0,0), (1,0), (2,0), (3,0), (4,0), (5,0), (6,0), (7,0), (8,1), (9,0), (10,0), (11,0), (12,0), (13,0), (14,0), (15,0)] (by kernel_rfl) (by kernel_rfl) ?_
      simp only [pick, List.filterMap_cons, List.filterMap_nil, List.getElem?_cons_zero, List.getElem?_cons_succ, Option.map_some]
      replace hS : PaU wr.drew := hS
      iterate 8 (refine wpF_take (v := ?_) hS rfl ?_ (fun _ _ _ h => h) ?_; rotate_left; (· intro w' hS'; obtain _ := hS'; go_simp <;> rfl); go_simp)
      have hps : parseS (T.take i ++ (wNons ++ [10]) ++ T.drop i) = .error ((T.take i).count 10 + 1) := by
       have hT : textL (L.flatMap linesP) = T := HTT.out
       obtain ⟨A0, B0, q3, q4, q5, q6⟩ := cut_at (L.flatMap linesP) (pols_no HOKK.out) i (by rw [hT]; have := HZ.out; omega) (by rw [hT]; exact HCUT.out)
       rw [hT] at q4 q5 q6
       rw [q4, q5, ← q4, q6, q4]
       exact parse_nons HOKH.out q3
      have HPS := Lib.hid hps; clear hps
      refine wpF_only rfl (fun K hK => ?_)
      go_wp2_with fail
      rw [HC2.out]
      refine (HR.out _ (by simp only [List.length_append, List.length_take, List.length_drop]; have : wNons.length = 8 := rfl; simp; omega) wr.drew f4.drew).mono ?_
      rintro e w5 ⟨f5, hr⟩
      rcases hr with ⟨L5, A5, c5, h5, _⟩ | ⟨m5, _, h5, rfl⟩
      ·rw [HPS.out] at h5; cases h5
      rw [HPS.out] at h5
      injection h5 with h5
      subst h5
      have F5 : Below w.heap.size w w5 := f4.drew.trans (f5.mono f4.drew.size)
      clear f5 hS
      have hS : PaU w5 := trivial
      dsimp only
      refine hK _ _ ⟨fun _ => hS, ?_⟩
      clear hK K
      iterate 7 (refine wpF_take (v := ?_) hS rfl ?_ (fun _ _ _ h => h) ?_; rotate_left; (· intro w' hS'; obtain _ := hS'; go_simp <;> rfl); go_simp)
      refine wpF_nil ?_
      clear hS
      obtain ⟨N, hN⟩ : ∃ N, s.size = N + 1 := ⟨s.size - 1, by omega⟩
      have hx3 := HXX.out 0 N
      rw [List.drop_zero, Nat.sub_zero] at hx3
      have hTd : T.take N = T.dropLast := by rw [List.dropLast_eq_take, ← HZ.out, hN]; rfl
      rw [hTd] at hx3
      have hsz3 : (s.size : Int) = (N : Int) + 1 := by omega
      have hwN : IntKind.i64.wrap ((s.size : Int) - 1) = (N : Int) := by rw [IntWalk.i64_in _ (by omega)]; omega
      have c5 : (0 : Int) ≤ (N : Int) := by omega
      have c6 : (N : Int) ≤ (s.size : Int) := by omega
      have HN := Lib.hid hN
      clear hN hTd
      go_wp2_with fail
      refine (HR.out T.dropLast (by rw [List.length_dropLast]; omega) w5 F5).mono ?_
      rintro e w6 ⟨f6, hr6⟩
      obtain ⟨m0, hm0, hp0⟩ := parse_short HOKH.out (by rw [HTT.out]; exact fun e => by rw [e] at ht0; cases ht0)
      rw [HTT.out] at hp0
      rcases hr6 with ⟨L6, A6, c8, h6, _⟩ | ⟨m6, hm6, h6, rfl⟩
      ·rw [hp0] at h6; cases h6
      clear h6 hp0
      have F6 := F5.trans (f6.mono F5.size)
      have hA6 := hA w6 F6
      have hge : (1 : Int) ≤ (m6 : Int) := by omega
      obtain ⟨cn, hcn⟩ : ∃ cn, (T.take i).count 10 = cn := ⟨_, rfl⟩
      rw [hcn]
      clear hcn
      have hee : (((cn : Int) + 1) == (1 + (cn : Int))) = true := by rw [beq_iff_eq]; omega
      clear F5 f6
      go_wp2_with fail
      refine hA6.mono ?_
      rintro e w7 ⟨rfl, f7⟩
      go_wp2_with fail
      go_ret
      exact ⟨rfl, F6.trans (f7.mono F6.size)⟩
   ·have d2 : ((s[j].toNat : Int) == 10) = false := by
     rw [beq_eq_false_iff_ne, HY.out]
     intro e
     exact hyc (UInt8.toNat_inj.1 (show y.toNat = 10 by omega))
    have d3 : ¬ (s[j].toNat : Int) = 10 := by
     rw [HY.out]
     intro e
     exact hyc (UInt8.toNat_inj.1 (show y.toNat = 10 by omega))
    clear hTy
    go_wp2_with fail
    go_roundw
    case rel => exact ⟨j, by go_num, by omega, f3⟩
    case measure => simp [intOf]
set_option maxRecDepth 100000 in
set_option maxHeartbeats 4000000 in
theorem lines_a (w : World) (hW : LdW w) (A : Option Addr) (n c : Nat) (L : List Po) (at_ : Int) (h : RdG 5 PoP w w.heap.size A n L) (hok : ∀ p ∈ L, oqPo p) (hl : psLong L = true) :
  Calls Tryz.prog 6 #[.slice A n c, .int .i64 at_] w fun e w' => e = .returned (.bool true) ∧ Below w.heap.size w w' := by
 have hlo := hW.lt
 have hn := h.1
 have hL := long15_any A n c L w h hok
 have hA := fun (u : World) (hu : Below w.heap.size w u) => awake15_any u (hW.below hlo hu)
 rw [hl] at hL
 go_enter Tryz.func6, Tryz.ntmps6
 go_wp2_with fail
 refine hL.mono ?_
 rintro e w1 ⟨rfl, f1⟩
 have hA1 := hA w1 f1
 clear hL hA
 go_wp2_with fail
 refine hA1.mono ?_
 rintro e w2 ⟨rfl, f2⟩
 go_wp2_with fail
 go_ret
 exact ⟨rfl, f1.trans (f2.mono f1.size)⟩
set_option maxRecDepth 100000 in
set_option maxHeartbeats 4000000 in
theorem lines_b (w : World) (hW : LdW w) (A : Option Addr) (n c : Nat) (L : List Po) (at_ : Int) (h : RdG 5 PoP w w.heap.size A n L) (hok : ∀ p ∈ L, oqPo p) (hl : psLong L = false) (h0 : L = []) :
  Calls Tryz.prog 6 #[.slice A n c, .int .i64 at_] w fun e w' => e = .returned (.bool true) ∧ Below w.heap.size w w' := by
 have hlo := hW.lt
 have hn := h.1
 have hL := long15_any A n c L w h hok
 have hA := fun (u : World) (hu : Below w.heap.size w u) => awake15_any u (hW.below hlo hu)
 rw [hl] at hL
 have hn0 : n = 0 := by rw [← hn, h0]; rfl
 subst hn0
 go_enter Tryz.func6, Tryz.ntmps6
 go_wp2_with fail
 refine hL.mono ?_
 rintro e w1 ⟨rfl, f1⟩
 have hA1 := hA w1 f1
 clear hL hA
 go_wp2_with fail
 refine hA1.mono ?_
 rintro e w2 ⟨rfl, f2⟩
 go_wp2_with fail
 go_ret
 exact ⟨rfl, f1.trans (f2.mono f1.size)⟩
set_option maxRecDepth 100000 in
set_option maxHeartbeats 4000000 in
theorem lines_c (w : World) (hW : LdW w) (A : Option Addr) (n c : Nat) (L : List Po) (at_ : Int) (h : RdG 5 PoP w w.heap.size A n L) (hok : ∀ p ∈ L, oqPo p) (hl : psLong L = false) (h0 : L ≠ []) (hm : L.all poMay = false) :
  Calls Tryz.prog 6 #[.slice A n c, .int .i64 at_] w fun e w' => e = .returned (.bool true) ∧ Below w.heap.size w w' := by
 have hlo := hW.lt
 have hn := h.1
 have hL := long15_any A n c L w h hok
 have hA := fun (u : World) (hu : Below w.heap.size w u) => awake15_any u (hW.below hlo hu)
 rw [hl] at hL
 obtain ⟨n20, ok1⟩ := psLong_ok hok hl
 have hP := fun (u : World) (hu : Below w.heap.size w u) => printL_any A n c L u (hW.below hlo hu) (rdP_b h hu) (by omega) ok1
 have n0 : ((n : Int) == 0) = false := by
  rw [beq_eq_false_iff_ne]
  intro e
  have : n = 0 := by omega
  exact h0 (List.eq_nil_of_length_eq_zero (by omega))
 unfold prV at hP
 rw [hm] at hP
 simp only [if_true, Bool.false_eq_true, if_false] at hP
 have he0 : strB [] = ⟨#[]⟩ := rfl
 rw [he0] at hP
 clear he0 hl h0 hm
 go_enter Tryz.func6, Tryz.ntmps6
 go_wp2_with fail
 refine hL.mono ?_
 rintro e w1 ⟨rfl, f1⟩
 have hP1 := hP w1 f1
 clear hL hP
 go_wp2_with fail
 refine hP1.mono ?_
 rintro e w2 ⟨rfl, f2⟩
 have F2 := f1.trans (f2.mono f1.size)
 have hA2 := hA w2 F2
 clear hP1 f1 f2 hA
 go_wp2_with fail
 refine hA2.mono ?_
 rintro e w3 ⟨rfl, f3⟩
 go_wp2_with fail
 go_ret
 exact ⟨rfl, F2.trans (f3.mono F2.size)⟩
set_option maxRecDepth 100000 in
set_option maxHeartbeats 4000000 in
theorem lines_d (w : World) (hW : LdW w) (A : Option Addr) (n c : Nat) (L : List Po) (at_ : Int) (h : RdG 5 PoP w w.heap.size A n L) (hok : ∀ p ∈ L, oqPo p) (hl : psLong L = false) (h0 : L ≠ []) (hm : L.all poMay = true) (hs : 60000 < (L.flatMap polS).length) :
  Calls Tryz.prog 6 #[.slice A n c, .int .i64 at_] w fun e w' => e = .returned (.bool true) ∧ Below w.heap.size w w' := by
 have hlo := hW.lt
 have hn := h.1
 have hL := long15_any A n c L w h hok
 have hA := fun (u : World) (hu : Below w.heap.size w u) => awake15_any u (hW.below hlo hu)
 rw [hl] at hL
 obtain ⟨n20, ok1⟩ := psLong_ok hok hl
 have hP := fun (u : World) (hu : Below w.heap.size w u) => printL_any A n c L u (hW.below hlo hu) (rdP_b h hu) (by omega) ok1
 have n0 : ((n : Int) == 0) = false := by
  rw [beq_eq_false_iff_ne]
  intro e
  have : n = 0 := by omega
  exact h0 (List.eq_nil_of_length_eq_zero (by omega))
 unfold prV at hP
 rw [hm] at hP
 simp only [if_true, Bool.false_eq_true, if_false] at hP
 have z2 : (60000 : Int) < ((strB (L.flatMap polS)).size : Int) := by rw [strB_size]; omega
 obtain ⟨sx, hsx⟩ : ∃ y, strB (L.flatMap polS) = y := ⟨_, rfl⟩
 rw [hsx] at hP z2
 clear hsx hl h0 hm hs
 go_enter Tryz.func6, Tryz.ntmps6
 go_wp2_with fail
 refine hL.mono ?_
 rintro e w1 ⟨rfl, f1⟩
 have hP1 := hP w1 f1
 clear hL hP
 go_wp2_with fail
 refine hP1.mono ?_
 rintro e w2 ⟨rfl, f2⟩
 have F2 := f1.trans (f2.mono f1.size)
 clear hP1 f1 f2 hA
 go_wp2_with (first | (refine ⟨trivial, ?_⟩))
 go_ret
 exact ⟨rfl, F2⟩
theorem syntaxLines_walk (w : World) (hW : LdW w) (A : Option Addr) (n c : Nat) (L : List Po) (h : RdG 5 PoP w w.heap.size A n L) (hc : n ≤ c) (hcm : c ≤ maxLen) (hok : ∀ p ∈ L, oqPo p) (at_ : Int) (ha1 : -9223372036854775808 ≤ at_) (ha2 : at_ ≤ 9223372036854775807) :
  Calls Tryz.prog 6 #[.slice A n c, .int .i64 at_] w fun e w' => e = .returned (.bool true) ∧ Below w.heap.size w w' := by
 rcases hl : psLong L with _ | _
 ·by_cases h0 : L = []
  ·exact lines_b w hW A n c L at_ h hok hl h0
  ·rcases hm : L.all poMay with _ | _
   ·exact lines_c w hW A n c L at_ h hok hl h0 hm
   ·by_cases hs : (L.flatMap polS).length ≤ 60000
    ·exact lines_main w hW A n c L at_ ha1 ha2 h hok hl h0 hm hs
    ·exact lines_d w hW A n c L at_ h hok hl h0 hm (by omega)
 ·exact lines_a w hW A n c L at_ h hok hl
end Go.Proofs.YtpcdmbajfmnoiaaGreatDoor
