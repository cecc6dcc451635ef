/- The law AddrTexts, walked. Condition: the library's variables hold what they should. -/
import Derived.Test.YtddfgalofngoiaaGreatDoorAddrAwake
import Derived.Test.YtddfgalofngoiaaGreatDoorAddrRefV
import Derived.Test.YtddfgalofngoiaaGreatDoorNetOpen
namespace Go.Proofs.YtddfgalofngoiaaGreatDoor
open Go.RowKit Go.Sort
set_option linter.unusedVariables false
set_option linter.unusedSimpArgs false
set_option maxRecDepth 100000 in
theorem port_low (p : Int) (w : World) (h : p ≤ 0) : Calls Tryz.prog 20 #[.int .i64 p] w fun e w' => e = .returned (.bool false) ∧ w = w' := by
  have d0 : decide (1 ≤ p) = false := by simp; omega
  go_enter Tryz.func20, Tryz.ntmps20
  go_wp2_with fail
  go_ret
  exact ⟨rfl, rfl⟩
set_option maxRecDepth 100000 in
theorem port_high (p : Int) (w : World) (h : 0 < p) : Calls Tryz.prog 20 #[.int .i64 p] w fun e w' => e = .returned (.bool (decide (p < 65536))) ∧ w = w' := by
  have d0 : decide (1 ≤ p) = true := by simp; omega
  have e : decide (p < 65536) = decide (p ≤ 65535) := by rw [decide_eq_decide]; omega
  rw [e]
  clear e
  go_enter Tryz.func20, Tryz.ntmps20
  by_cases h1 : p ≤ 65535
  · have d1 : decide (p ≤ 65535) = true := by simp; omega
    rw [d1]
    go_wp2_with fail
    go_ret
    exact ⟨rfl, rfl⟩
  · have d1 : decide (p ≤ 65535) = false := by simp; omega
    rw [d1]
    go_wp2_with fail
    go_ret
    exact ⟨rfl, rfl⟩
theorem paV_form (r : Option Nat) : ∃ (y : Nat) (e : Int), paV r = .tuple #[.int .u32 (y : Int), .int .i64 e] := by
  rcases r with _ | a
  · exact ⟨0, 2, rfl⟩
  · exact ⟨a, 0, rfl⟩
theorem pnV_form (r : Option Nt) : ∃ (c1 : Nat) (c2 e : Int), pnV r = .tuple #[.agg #[.int .u32 (c1 : Int), .int .i64 c2], .int .i64 e] := by
  rcases r with _ | c
  · exact ⟨0, 0, 2, rfl⟩
  · exact ⟨c.1, c.2, 0, rfl⟩
def TxS (s a : Nat) (b : Int) (g1 g2 c1 : Nat) (c2 : Int) (u : World) : Prop := BxS s a b u ∧ BxS g1 c1 c2 u ∧ BxS g2 c1 c2 u
theorem TxS.below {s a g1 g2 c1 : Nat} {b c2 : Int} {u v : World} (h : TxS s a b g1 g2 c1 c2 u) (hb : Below u.heap.size u v) : TxS s a b g1 g2 c1 c2 v := ⟨h.1.below hb, h.2.1.below hb, h.2.2.below hb⟩
set_option maxRecDepth 100000 in
set_option maxHeartbeats 8000000 in
theorem addrTexts_walk (w : World) (hW : LdW w) (x : Nat) (hx : x < 4294967296) (a : Nat) (b : Int) (hc : okN (a, b)) (l : List UInt8) (hl : l.length ≤ maxLen) (p : Int) (hp0 : -9223372036854775808 ≤ p) (hp1 : p ≤ 9223372036854775807) :
    Calls Tryz.prog 4 #[.int .u32 (x : Int), ntV a b, .string (strB l), .int .i64 p] w fun e w' => e = .returned (.bool true) ∧ Below w.heap.size w w' := by
  have hlt := hW.lt
  have a0 : l.length ≤ 9223372036854775807 := by simp only [maxLen] at hl; omega
  clear hl
  have z0 := strB_size l
  have hpr := fun w h => print_any x hx w h
  have hrp := fun w => refPrint_any x hx w
  have hpn := fun w h => printNet_any a b w h hc
  have hrn := fun w => refPrintNet_any a b w hc
  have l1 := fun (h : l.length ≤ 1000000) w hw => parse_any l h w hw
  have l2 := fun (h : l.length ≤ 1000000) w => refParse_any l h w
  have l3 := fun (h : l.length ≤ 1000000) w hw => parseNet_any l h w hw
  have l4 := fun (h : l.length ≤ 1000000) w => refParseNet_any l h w
  obtain ⟨y, ey, hpa⟩ := paV_form (parseA l)
  obtain ⟨c1, c2, ec, hpn'⟩ := pnV_form (parseNetA l)
  rw [hpa] at l1 l2
  rw [hpn'] at l3 l4
  have H1 := Lib.hid l1; have H2 := Lib.hid l2; have H3 := Lib.hid l3; have H4 := Lib.hid l4
  clear l1 l2 l3 l4 hpa hpn'
  have hpl := fun w h => port_low p w h
  have hph := fun w h => port_high p w h
  generalize printA x = px at *
  generalize printNetA (a, b) = pn at *
  have qe := fun w => run_nt_eq c1 c2 c1 c2 w
  rw [decide_eq_true rfl] at qe
  have HPL := Lib.hid hpl; have HPH := Lib.hid hph; clear hpl hph
  unfold ntV at *
  go_enter Tryz.func4, Tryz.ntmps4
  go_upto_region 1 with fail
  refine abs (fun w1 => BxS w.heap.size a b w1 ∧ Below w.heap.size w w1) ⟨box_cells w a b, (Below.refl _ w).alloc (Nat.le_refl _) _⟩ ?_
  rintro w1 ⟨hS, f1⟩
  by_cases hlong : 10000 < l.length
  · have d0 : decide ((10000 : Int) < (l.length : Int)) = true := by simp; omega
    go_wp2_with fail
    refine (awake4_any _ (hW.below hlt f1)).mono ?_
    rintro e9 w9 ⟨rfl, f9⟩
    go_wp2_with fail
    go_ret
    exact ⟨rfl, f1.trans (f9.mono f1.size)⟩
  have d0 : decide ((10000 : Int) < (l.length : Int)) = false := by simp; omega
  have hl1 := H1.out (by omega)
  have hl2 := H2.out (by omega)
  have hl3 := H3.out (by omega)
  have hl4 := H4.out (by omega)
  clear H1 H2 H3 H4
  go_wp2_with fail
  refine (hl1 _ (hW.below hlt f1)).mono ?_
  rintro _ w2 ⟨rfl, f9⟩
  replace hS := hS.below f9
  replace f1 := f1.trans (f9.mono f1.size)
  clear f9
  go_wp2_with fail
  refine (hl2 _).mono ?_
  rintro _ w3 ⟨rfl, f9⟩
  replace hS := hS.below f9
  replace f1 := f1.trans (f9.mono f1.size)
  clear f9
  go_wp2_with fail
  refine (hl3 _ (hW.below hlt f1)).mono ?_
  rintro _ w4 ⟨rfl, f9⟩
  replace hS := hS.below f9
  replace f1 := f1.trans (f9.mono f1.size)
  clear f9
  go_upto_region 6 with fail
  refine abs (fun wx => (BxS w.heap.size a b wx ∧ BxS w4.heap.size c1 c2 wx) ∧ Below w.heap.size w wx) ⟨⟨hS.below ((Below.refl _ w4).alloc (Nat.le_refl _) _), box_cells w4 c1 c2⟩, f1.alloc f1.size _⟩ ?_
  clear hS f1
  rintro w5 ⟨hS, f1⟩
  generalize w4.heap.size = g1 at *
  go_wp2_with fail
  refine (hl4 _).mono ?_
  rintro _ w5b ⟨rfl, f9⟩
  replace hS : BxS w.heap.size a b w5b ∧ BxS g1 c1 c2 w5b := ⟨hS.1.below f9, hS.2.below f9⟩
  replace f1 := f1.trans (f9.mono f1.size)
  clear f9
  go_upto_region 7 with fail
  refine abs (fun wx => TxS w.heap.size a b g1 w5b.heap.size c1 c2 wx ∧ Below w.heap.size w wx) ⟨⟨hS.1.below ((Below.refl _ w5b).alloc (Nat.le_refl _) _), hS.2.below ((Below.refl _ w5b).alloc (Nat.le_refl _) _), box_cells w5b c1 c2⟩, f1.alloc f1.size _⟩ ?_
  clear hS f1
  rintro w6 ⟨hT, f1⟩
  generalize w5b.heap.size = g2 at *
  by_cases hp : 0 < p
  · have d1 : decide (0 < p) = true := by simp; omega
    have hpo := fun w => HPH.out w hp
    by_cases hq : p < 65536
    · have d2 : decide (p < 65536) = true := by simp; omega
      rw [d2] at hpo
      refine wp_region_order (TxS w.heap.size a b g1 g2 c1 c2) 99 [(0,0), (2,0), (1,1), (3,1), (4,0), (5,0), (6,0), (8,0), (7,1), (9,1), (10,0), (11,0), (12,0), (13,0), (14,0), (15,0), (16,0), (17,0), (18,0), (19,0), (20,0), (21,0), (22,0), (23,0), (24,0), (25,0), (26,0), (27,0), (28,0), (29,0), (30,0), (31,0), (32,0), (33,0), (35,0), (36,0), (34,1), (37,0), (38,0), (39,0), (40,0), (41,0), (42,0), (43,0), (44,1), (45,0), (46,0)] (by kernel_rfl) (by kernel_rfl) ?_
      simp only [pick, List.filterMap_cons, List.filterMap_nil, List.getElem?_cons_zero, List.getElem?_cons_succ, Option.map_some]
      have hS : TxS w.heap.size a b g1 g2 c1 c2 w6.drew := hT
      have F1 : Below w.heap.size w w6.drew := f1.drew
      clear f1 hT
      generalize w6.drew = wd at *
      refine wpF_take (v := ?_) hS rfl ?_ (fun _ _ _ h => h) ?_
      rotate_left
      · intro w' hS'
        obtain ⟨⟨e0, e1⟩, ⟨y0, y1⟩, z0, z1⟩ := hS'
        go_simp <;> rfl
      go_simp
      refine wpF_take (v := ?_) hS rfl ?_ (fun _ _ _ h => h) ?_
      rotate_left
      · intro w' hS'
        obtain ⟨⟨e0, e1⟩, ⟨y0, y1⟩, z0, z1⟩ := hS'
        go_simp <;> rfl
      go_simp
      refine wpF_only rfl (fun K hK => ?_)
      go_wp2_with fail
      refine (hpr _ (hW.below hlt F1)).mono ?_
      rintro _ w9 ⟨rfl, f9⟩
      replace F1 := F1.trans (f9.mono F1.size)
      replace hS := hS.below f9
      clear f9
      go_wp2_with fail
      first | refine ⟨fun _ => hS, ?_⟩ | refine ⟨hS, ?_⟩ | skip
      go_simp
      refine wpF_only rfl (fun K hK => ?_)
      go_wp2_with fail
      refine (hrp _).mono ?_
      rintro _ w9 ⟨rfl, f9⟩
      replace F1 := F1.trans (f9.mono F1.size)
      replace hS := hS.below f9
      clear f9
      go_wp2_with fail
      first | refine ⟨fun _ => hS, ?_⟩ | refine ⟨hS, ?_⟩ | skip
      go_simp
      refine wpF_take (v := ?_) hS rfl ?_ (fun _ _ _ h => h) ?_
      rotate_left
      · intro w' hS'
        obtain ⟨⟨e0, e1⟩, ⟨y0, y1⟩, z0, z1⟩ := hS'
        go_simp <;> rfl
      go_simp
      refine wpF_take (v := ?_) hS rfl ?_ (fun _ _ _ h => h) ?_
      rotate_left
      · intro w' hS'
        obtain ⟨⟨e0, e1⟩, ⟨y0, y1⟩, z0, z1⟩ := hS'
        go_simp <;> rfl
      go_simp
      refine wpF_take (v := ?_) hS rfl ?_ (fun _ _ _ h => h) ?_
      rotate_left
      · intro w' hS'
        obtain ⟨⟨e0, e1⟩, ⟨y0, y1⟩, z0, z1⟩ := hS'
        go_simp <;> rfl
      go_simp
      refine wpF_take (v := ?_) hS rfl ?_ (fun _ _ _ h => h) ?_
      rotate_left
      · intro w' hS'
        obtain ⟨⟨e0, e1⟩, ⟨y0, y1⟩, z0, z1⟩ := hS'
        go_simp <;> rfl
      go_simp
      refine wpF_only rfl (fun K hK => ?_)
      go_wp2_with fail
      refine (hpn _ (hW.below hlt F1)).mono ?_
      rintro _ w9 ⟨rfl, f9⟩
      replace F1 := F1.trans (f9.mono F1.size)
      replace hS := hS.below f9
      clear f9
      go_wp2_with fail
      first | refine ⟨fun _ => hS, ?_⟩ | refine ⟨hS, ?_⟩ | skip
      go_simp
      refine wpF_only rfl (fun K hK => ?_)
      go_wp2_with fail
      refine (hrn _).mono ?_
      rintro _ w9 ⟨rfl, f9⟩
      replace F1 := F1.trans (f9.mono F1.size)
      replace hS := hS.below f9
      clear f9
      go_wp2_with fail
      first | refine ⟨fun _ => hS, ?_⟩ | refine ⟨hS, ?_⟩ | skip
      go_simp
      refine wpF_take (v := ?_) hS rfl ?_ (fun _ _ _ h => h) ?_
      rotate_left
      · intro w' hS'
        obtain ⟨⟨e0, e1⟩, ⟨y0, y1⟩, z0, z1⟩ := hS'
        go_simp <;> rfl
      go_simp
      refine wpF_take (v := ?_) hS rfl ?_ (fun _ _ _ h => h) ?_
      rotate_left
      · intro w' hS'
        obtain ⟨⟨e0, e1⟩, ⟨y0, y1⟩, z0, z1⟩ := hS'
        go_simp <;> rfl
      go_simp
      refine wpF_take (v := ?_) hS rfl ?_ (fun _ _ _ h => h) ?_
      rotate_left
      · intro w' hS'
        obtain ⟨⟨e0, e1⟩, ⟨y0, y1⟩, z0, z1⟩ := hS'
        go_simp <;> rfl
      go_simp
      refine wpF_take (v := ?_) hS rfl ?_ (fun _ _ _ h => h) ?_
      rotate_left
      · intro w' hS'
        obtain ⟨⟨e0, e1⟩, ⟨y0, y1⟩, z0, z1⟩ := hS'
        go_simp <;> rfl
      go_simp
      refine wpF_take (v := ?_) hS rfl ?_ (fun _ _ _ h => h) ?_
      rotate_left
      · intro w' hS'
        obtain ⟨⟨e0, e1⟩, ⟨y0, y1⟩, z0, z1⟩ := hS'
        go_simp <;> rfl
      go_simp
      refine wpF_take (v := ?_) hS rfl ?_ (fun _ _ _ h => h) ?_
      rotate_left
      · intro w' hS'
        obtain ⟨⟨e0, e1⟩, ⟨y0, y1⟩, z0, z1⟩ := hS'
        go_simp <;> rfl
      go_simp
      refine wpF_take (v := ?_) hS rfl ?_ (fun _ _ _ h => h) ?_
      rotate_left
      · intro w' hS'
        obtain ⟨⟨e0, e1⟩, ⟨y0, y1⟩, z0, z1⟩ := hS'
        go_simp <;> rfl
      go_simp
      refine wpF_take (v := ?_) hS rfl ?_ (fun _ _ _ h => h) ?_
      rotate_left
      · intro w' hS'
        obtain ⟨⟨e0, e1⟩, ⟨y0, y1⟩, z0, z1⟩ := hS'
        go_simp <;> rfl
      go_simp
      refine wpF_take (v := ?_) hS rfl ?_ (fun _ _ _ h => h) ?_
      rotate_left
      · intro w' hS'
        obtain ⟨⟨e0, e1⟩, ⟨y0, y1⟩, z0, z1⟩ := hS'
        go_simp <;> rfl
      go_simp
      refine wpF_take (v := ?_) hS rfl ?_ (fun _ _ _ h => h) ?_
      rotate_left
      · intro w' hS'
        obtain ⟨⟨e0, e1⟩, ⟨y0, y1⟩, z0, z1⟩ := hS'
        go_simp <;> rfl
      go_simp
      refine wpF_take (v := ?_) hS rfl ?_ (fun _ _ _ h => h) ?_
      rotate_left
      · intro w' hS'
        obtain ⟨⟨e0, e1⟩, ⟨y0, y1⟩, z0, z1⟩ := hS'
        go_simp <;> rfl
      go_simp
      refine wpF_take (v := ?_) hS rfl ?_ (fun _ _ _ h => h) ?_
      rotate_left
      · intro w' hS'
        obtain ⟨⟨e0, e1⟩, ⟨y0, y1⟩, z0, z1⟩ := hS'
        go_simp <;> rfl
      go_simp
      refine wpF_take (v := ?_) hS rfl ?_ (fun _ _ _ h => h) ?_
      rotate_left
      · intro w' hS'
        obtain ⟨⟨e0, e1⟩, ⟨y0, y1⟩, z0, z1⟩ := hS'
        go_simp <;> rfl
      go_simp
      refine wpF_take (v := ?_) hS rfl ?_ (fun _ _ _ h => h) ?_
      rotate_left
      · intro w' hS'
        obtain ⟨⟨e0, e1⟩, ⟨y0, y1⟩, z0, z1⟩ := hS'
        go_simp <;> rfl
      go_simp
      refine wpF_take (v := ?_) hS rfl ?_ (fun _ _ _ h => h) ?_
      rotate_left
      · intro w' hS'
        obtain ⟨⟨e0, e1⟩, ⟨y0, y1⟩, z0, z1⟩ := hS'
        go_simp <;> rfl
      go_simp
      refine wpF_take (v := ?_) hS rfl ?_ (fun _ _ _ h => h) ?_
      rotate_left
      · intro w' hS'
        obtain ⟨⟨e0, e1⟩, ⟨y0, y1⟩, z0, z1⟩ := hS'
        go_simp <;> rfl
      go_simp
      refine wpF_take (v := ?_) hS rfl ?_ (fun _ _ _ h => h) ?_
      rotate_left
      · intro w' hS'
        obtain ⟨⟨e0, e1⟩, ⟨y0, y1⟩, z0, z1⟩ := hS'
        go_simp <;> rfl
      go_simp
      refine wpF_take (v := ?_) hS rfl ?_ (fun _ _ _ h => h) ?_
      rotate_left
      · intro w' hS'
        obtain ⟨⟨e0, e1⟩, ⟨y0, y1⟩, z0, z1⟩ := hS'
        go_simp <;> rfl
      go_simp
      refine wpF_take (v := ?_) hS rfl ?_ (fun _ _ _ h => h) ?_
      rotate_left
      · intro w' hS'
        obtain ⟨⟨e0, e1⟩, ⟨y0, y1⟩, z0, z1⟩ := hS'
        go_simp <;> rfl
      go_simp
      refine wpF_take (v := ?_) hS rfl ?_ (fun _ _ _ h => h) ?_
      rotate_left
      · intro w' hS'
        obtain ⟨⟨e0, e1⟩, ⟨y0, y1⟩, z0, z1⟩ := hS'
        go_simp <;> rfl
      go_simp
      refine wpF_take (v := ?_) hS rfl ?_ (fun _ _ _ h => h) ?_
      rotate_left
      · intro w' hS'
        obtain ⟨⟨e0, e1⟩, ⟨y0, y1⟩, z0, z1⟩ := hS'
        go_simp <;> rfl
      go_simp
      refine wpF_take (v := ?_) hS rfl ?_ (fun _ _ _ h => h) ?_
      rotate_left
      · intro w' hS'
        obtain ⟨⟨e0, e1⟩, ⟨y0, y1⟩, z0, z1⟩ := hS'
        go_simp <;> rfl
      go_simp
      refine wpF_take (v := ?_) hS rfl ?_ (fun _ _ _ h => h) ?_
      rotate_left
      · intro w' hS'
        obtain ⟨⟨e0, e1⟩, ⟨y0, y1⟩, z0, z1⟩ := hS'
        go_simp <;> rfl
      go_simp
      refine wpF_take (v := ?_) hS rfl ?_ (fun _ _ _ h => h) ?_
      rotate_left
      · intro w' hS'
        obtain ⟨⟨e0, e1⟩, ⟨y0, y1⟩, z0, z1⟩ := hS'
        go_simp <;> rfl
      go_simp
      refine wpF_take (v := ?_) hS rfl ?_ (fun _ _ _ h => h) ?_
      rotate_left
      · intro w' hS'
        obtain ⟨⟨e0, e1⟩, ⟨y0, y1⟩, z0, z1⟩ := hS'
        go_simp <;> rfl
      go_simp
      refine wpF_take (v := ?_) hS rfl ?_ (fun _ _ _ h => h) ?_
      rotate_left
      · intro w' hS'
        obtain ⟨⟨e0, e1⟩, ⟨y0, y1⟩, z0, z1⟩ := hS'
        go_simp <;> rfl
      go_simp
      refine wpF_only rfl (fun K hK => ?_)
      go_wp2_with fail
      refine (hpo _).mono ?_
      rintro _ w9 ⟨rfl, rfl⟩
      go_wp2_with fail
      first | refine ⟨fun _ => hS, ?_⟩ | refine ⟨hS, ?_⟩ | skip
      go_simp
      refine wpF_take (v := ?_) hS rfl ?_ (fun _ _ _ h => h) ?_
      rotate_left
      · intro w' hS'
        obtain ⟨⟨e0, e1⟩, ⟨y0, y1⟩, z0, z1⟩ := hS'
        go_simp <;> rfl
      go_simp
      refine wpF_take (v := ?_) hS rfl ?_ (fun _ _ _ h => h) ?_
      rotate_left
      · intro w' hS'
        obtain ⟨⟨e0, e1⟩, ⟨y0, y1⟩, z0, z1⟩ := hS'
        go_simp <;> rfl
      go_simp
      refine wpF_take (v := ?_) hS rfl ?_ (fun _ _ _ h => h) ?_
      rotate_left
      · intro w' hS'
        obtain ⟨⟨e0, e1⟩, ⟨y0, y1⟩, z0, z1⟩ := hS'
        go_simp <;> rfl
      go_simp
      refine wpF_take (v := ?_) hS rfl ?_ (fun _ _ _ h => h) ?_
      rotate_left
      · intro w' hS'
        obtain ⟨⟨e0, e1⟩, ⟨y0, y1⟩, z0, z1⟩ := hS'
        go_simp <;> rfl
      go_simp
      refine wpF_take (v := ?_) hS rfl ?_ (fun _ _ _ h => h) ?_
      rotate_left
      · intro w' hS'
        obtain ⟨⟨e0, e1⟩, ⟨y0, y1⟩, z0, z1⟩ := hS'
        go_simp <;> rfl
      go_simp
      refine wpF_take (v := ?_) hS rfl ?_ (fun _ _ _ h => h) ?_
      rotate_left
      · intro w' hS'
        obtain ⟨⟨e0, e1⟩, ⟨y0, y1⟩, z0, z1⟩ := hS'
        go_simp <;> rfl
      go_simp
      refine wpF_take (v := ?_) hS rfl ?_ (fun _ _ _ h => h) ?_
      rotate_left
      · intro w' hS'
        obtain ⟨⟨e0, e1⟩, ⟨y0, y1⟩, z0, z1⟩ := hS'
        go_simp <;> rfl
      go_simp
      refine wpF_only rfl (fun K hK => ?_)
      go_wp2_with fail
      refine (awake4_any _ (hW.below hlt F1)).mono ?_
      rintro _ w9 ⟨rfl, f9⟩
      replace F1 := F1.trans (f9.mono F1.size)
      replace hS := hS.below f9
      clear f9
      go_wp2_with fail
      first | refine ⟨fun _ => hS, ?_⟩ | refine ⟨hS, ?_⟩ | skip
      go_simp
      refine wpF_take (v := ?_) hS rfl ?_ (fun _ _ _ h => h) ?_
      rotate_left
      · intro w' hS'
        obtain ⟨⟨e0, e1⟩, ⟨y0, y1⟩, z0, z1⟩ := hS'
        go_simp <;> rfl
      go_simp
      refine wpF_take (v := ?_) hS rfl ?_ (fun _ _ _ h => h) ?_
      rotate_left
      · intro w' hS'
        obtain ⟨⟨e0, e1⟩, ⟨y0, y1⟩, z0, z1⟩ := hS'
        go_simp <;> rfl
      go_simp
      refine wpF_nil ?_
      go_wp2_with fail
      go_ret
      exact ⟨rfl, F1⟩
    · have d2 : decide (p < 65536) = false := by simp; omega
      rw [d2] at hpo
      refine wp_region_order (TxS w.heap.size a b g1 g2 c1 c2) 99 [(0,0), (2,0), (1,1), (3,1), (4,0), (5,0), (6,0), (8,0), (7,1), (9,1), (10,0), (11,0), (12,0), (13,0), (14,0), (15,0), (16,0), (17,0), (18,0), (19,0), (20,0), (21,0), (22,0), (23,0), (24,0), (25,0), (26,0), (27,0), (28,0), (29,0), (30,0), (31,0), (32,0), (33,0), (35,0), (36,0), (34,1), (37,0), (38,0), (39,0), (40,0), (41,0), (42,0), (43,0), (44,1), (45,0), (46,0)] (by kernel_rfl) (by kernel_rfl) ?_
      simp only [pick, List.filterMap_cons, List.filterMap_nil, List.getElem?_cons_zero, List.getElem?_cons_succ, Option.map_some]
      have hS : TxS w.heap.size a b g1 g2 c1 c2 w6.drew := hT
      have F1 : Below w.heap.size w w6.drew := f1.drew
      clear f1 hT
      generalize w6.drew = wd at *
      refine wpF_take (v := ?_) hS rfl ?_ (fun _ _ _ h => h) ?_
      rotate_left
      · intro w' hS'
        obtain ⟨⟨e0, e1⟩, ⟨y0, y1⟩, z0, z1⟩ := hS'
        go_simp <;> rfl
      go_simp
      refine wpF_take (v := ?_) hS rfl ?_ (fun _ _ _ h => h) ?_
      rotate_left
      · intro w' hS'
        obtain ⟨⟨e0, e1⟩, ⟨y0, y1⟩, z0, z1⟩ := hS'
        go_simp <;> rfl
      go_simp
      refine wpF_only rfl (fun K hK => ?_)
      go_wp2_with fail
      refine (hpr _ (hW.below hlt F1)).mono ?_
      rintro _ w9 ⟨rfl, f9⟩
      replace F1 := F1.trans (f9.mono F1.size)
      replace hS := hS.below f9
      clear f9
      go_wp2_with fail
      first | refine ⟨fun _ => hS, ?_⟩ | refine ⟨hS, ?_⟩ | skip
      go_simp
      refine wpF_only rfl (fun K hK => ?_)
      go_wp2_with fail
      refine (hrp _).mono ?_
      rintro _ w9 ⟨rfl, f9⟩
      replace F1 := F1.trans (f9.mono F1.size)
      replace hS := hS.below f9
      clear f9
      go_wp2_with fail
      first | refine ⟨fun _ => hS, ?_⟩ | refine ⟨hS, ?_⟩ | skip
      go_simp
      refine wpF_take (v := ?_) hS rfl ?_ (fun _ _ _ h => h) ?_
      rotate_left
      · intro w' hS'
        obtain ⟨⟨e0, e1⟩, ⟨y0, y1⟩, z0, z1⟩ := hS'
        go_simp <;> rfl
      go_simp
      refine wpF_take (v := ?_) hS rfl ?_ (fun _ _ _ h => h) ?_
      rotate_left
      · intro w' hS'
        obtain ⟨⟨e0, e1⟩, ⟨y0, y1⟩, z0, z1⟩ := hS'
        go_simp <;> rfl
      go_simp
      refine wpF_take (v := ?_) hS rfl ?_ (fun _ _ _ h => h) ?_
      rotate_left
      · intro w' hS'
        obtain ⟨⟨e0, e1⟩, ⟨y0, y1⟩, z0, z1⟩ := hS'
        go_simp <;> rfl
      go_simp
      refine wpF_take (v := ?_) hS rfl ?_ (fun _ _ _ h => h) ?_
      rotate_left
      · intro w' hS'
        obtain ⟨⟨e0, e1⟩, ⟨y0, y1⟩, z0, z1⟩ := hS'
        go_simp <;> rfl
      go_simp
      refine wpF_only rfl (fun K hK => ?_)
      go_wp2_with fail
      refine (hpn _ (hW.below hlt F1)).mono ?_
      rintro _ w9 ⟨rfl, f9⟩
      replace F1 := F1.trans (f9.mono F1.size)
      replace hS := hS.below f9
      clear f9
      go_wp2_with fail
      first | refine ⟨fun _ => hS, ?_⟩ | refine ⟨hS, ?_⟩ | skip
      go_simp
      refine wpF_only rfl (fun K hK => ?_)
      go_wp2_with fail
      refine (hrn _).mono ?_
      rintro _ w9 ⟨rfl, f9⟩
      replace F1 := F1.trans (f9.mono F1.size)
      replace hS := hS.below f9
      clear f9
      go_wp2_with fail
      first | refine ⟨fun _ => hS, ?_⟩ | refine ⟨hS, ?_⟩ | skip
      go_simp
      refine wpF_take (v := ?_) hS rfl ?_ (fun _ _ _ h => h) ?_
      rotate_left
      · intro w' hS'
        obtain ⟨⟨e0, e1⟩, ⟨y0, y1⟩, z0, z1⟩ := hS'
        go_simp <;> rfl
      go_simp
      refine wpF_take (v := ?_) hS rfl ?_ (fun _ _ _ h => h) ?_
      rotate_left
      · intro w' hS'
        obtain ⟨⟨e0, e1⟩, ⟨y0, y1⟩, z0, z1⟩ := hS'
        go_simp <;> rfl
      go_simp
      refine wpF_take (v := ?_) hS rfl ?_ (fun _ _ _ h => h) ?_
      rotate_left
      · intro w' hS'
        obtain ⟨⟨e0, e1⟩, ⟨y0, y1⟩, z0, z1⟩ := hS'
        go_simp <;> rfl
      go_simp
      refine wpF_take (v := ?_) hS rfl ?_ (fun _ _ _ h => h) ?_
      rotate_left
      · intro w' hS'
        obtain ⟨⟨e0, e1⟩, ⟨y0, y1⟩, z0, z1⟩ := hS'
        go_simp <;> rfl
      go_simp
      refine wpF_take (v := ?_) hS rfl ?_ (fun _ _ _ h => h) ?_
      rotate_left
      · intro w' hS'
        obtain ⟨⟨e0, e1⟩, ⟨y0, y1⟩, z0, z1⟩ := hS'
        go_simp <;> rfl
      go_simp
      refine wpF_take (v := ?_) hS rfl ?_ (fun _ _ _ h => h) ?_
      rotate_left
      · intro w' hS'
        obtain ⟨⟨e0, e1⟩, ⟨y0, y1⟩, z0, z1⟩ := hS'
        go_simp <;> rfl
      go_simp
      refine wpF_take (v := ?_) hS rfl ?_ (fun _ _ _ h => h) ?_
      rotate_left
      · intro w' hS'
        obtain ⟨⟨e0, e1⟩, ⟨y0, y1⟩, z0, z1⟩ := hS'
        go_simp <;> rfl
      go_simp
      refine wpF_take (v := ?_) hS rfl ?_ (fun _ _ _ h => h) ?_
      rotate_left
      · intro w' hS'
        obtain ⟨⟨e0, e1⟩, ⟨y0, y1⟩, z0, z1⟩ := hS'
        go_simp <;> rfl
      go_simp
      refine wpF_take (v := ?_) hS rfl ?_ (fun _ _ _ h => h) ?_
      rotate_left
      · intro w' hS'
        obtain ⟨⟨e0, e1⟩, ⟨y0, y1⟩, z0, z1⟩ := hS'
        go_simp <;> rfl
      go_simp
      refine wpF_take (v := ?_) hS rfl ?_ (fun _ _ _ h => h) ?_
      rotate_left
      · intro w' hS'
        obtain ⟨⟨e0, e1⟩, ⟨y0, y1⟩, z0, z1⟩ := hS'
        go_simp <;> rfl
      go_simp
      refine wpF_take (v := ?_) hS rfl ?_ (fun _ _ _ h => h) ?_
      rotate_left
      · intro w' hS'
        obtain ⟨⟨e0, e1⟩, ⟨y0, y1⟩, z0, z1⟩ := hS'
        go_simp <;> rfl
      go_simp
      refine wpF_take (v := ?_) hS rfl ?_ (fun _ _ _ h => h) ?_
      rotate_left
      · intro w' hS'
        obtain ⟨⟨e0, e1⟩, ⟨y0, y1⟩, z0, z1⟩ := hS'
        go_simp <;> rfl
      go_simp
      refine wpF_take (v := ?_) hS rfl ?_ (fun _ _ _ h => h) ?_
      rotate_left
      · intro w' hS'
        obtain ⟨⟨e0, e1⟩, ⟨y0, y1⟩, z0, z1⟩ := hS'
        go_simp <;> rfl
      go_simp
      refine wpF_take (v := ?_) hS rfl ?_ (fun _ _ _ h => h) ?_
      rotate_left
      · intro w' hS'
        obtain ⟨⟨e0, e1⟩, ⟨y0, y1⟩, z0, z1⟩ := hS'
        go_simp <;> rfl
      go_simp
      refine wpF_take (v := ?_) hS rfl ?_ (fun _ _ _ h => h) ?_
      rotate_left
      · intro w' hS'
        obtain ⟨⟨e0, e1⟩, ⟨y0, y1⟩, z0, z1⟩ := hS'
        go_simp <;> rfl
      go_simp
      refine wpF_take (v := ?_) hS rfl ?_ (fun _ _ _ h => h) ?_
      rotate_left
      · intro w' hS'
        obtain ⟨⟨e0, e1⟩, ⟨y0, y1⟩, z0, z1⟩ := hS'
        go_simp <;> rfl
      go_simp
      refine wpF_take (v := ?_) hS rfl ?_ (fun _ _ _ h => h) ?_
      rotate_left
      · intro w' hS'
        obtain ⟨⟨e0, e1⟩, ⟨y0, y1⟩, z0, z1⟩ := hS'
        go_simp <;> rfl
      go_simp
      refine wpF_take (v := ?_) hS rfl ?_ (fun _ _ _ h => h) ?_
      rotate_left
      · intro w' hS'
        obtain ⟨⟨e0, e1⟩, ⟨y0, y1⟩, z0, z1⟩ := hS'
        go_simp <;> rfl
      go_simp
      refine wpF_take (v := ?_) hS rfl ?_ (fun _ _ _ h => h) ?_
      rotate_left
      · intro w' hS'
        obtain ⟨⟨e0, e1⟩, ⟨y0, y1⟩, z0, z1⟩ := hS'
        go_simp <;> rfl
      go_simp
      refine wpF_take (v := ?_) hS rfl ?_ (fun _ _ _ h => h) ?_
      rotate_left
      · intro w' hS'
        obtain ⟨⟨e0, e1⟩, ⟨y0, y1⟩, z0, z1⟩ := hS'
        go_simp <;> rfl
      go_simp
      refine wpF_take (v := ?_) hS rfl ?_ (fun _ _ _ h => h) ?_
      rotate_left
      · intro w' hS'
        obtain ⟨⟨e0, e1⟩, ⟨y0, y1⟩, z0, z1⟩ := hS'
        go_simp <;> rfl
      go_simp
      refine wpF_take (v := ?_) hS rfl ?_ (fun _ _ _ h => h) ?_
      rotate_left
      · intro w' hS'
        obtain ⟨⟨e0, e1⟩, ⟨y0, y1⟩, z0, z1⟩ := hS'
        go_simp <;> rfl
      go_simp
      refine wpF_take (v := ?_) hS rfl ?_ (fun _ _ _ h => h) ?_
      rotate_left
      · intro w' hS'
        obtain ⟨⟨e0, e1⟩, ⟨y0, y1⟩, z0, z1⟩ := hS'
        go_simp <;> rfl
      go_simp
      refine wpF_take (v := ?_) hS rfl ?_ (fun _ _ _ h => h) ?_
      rotate_left
      · intro w' hS'
        obtain ⟨⟨e0, e1⟩, ⟨y0, y1⟩, z0, z1⟩ := hS'
        go_simp <;> rfl
      go_simp
      refine wpF_take (v := ?_) hS rfl ?_ (fun _ _ _ h => h) ?_
      rotate_left
      · intro w' hS'
        obtain ⟨⟨e0, e1⟩, ⟨y0, y1⟩, z0, z1⟩ := hS'
        go_simp <;> rfl
      go_simp
      refine wpF_take (v := ?_) hS rfl ?_ (fun _ _ _ h => h) ?_
      rotate_left
      · intro w' hS'
        obtain ⟨⟨e0, e1⟩, ⟨y0, y1⟩, z0, z1⟩ := hS'
        go_simp <;> rfl
      go_simp
      refine wpF_only rfl (fun K hK => ?_)
      go_wp2_with fail
      refine (hpo _).mono ?_
      rintro _ w9 ⟨rfl, rfl⟩
      go_wp2_with fail
      first | refine ⟨fun _ => hS, ?_⟩ | refine ⟨hS, ?_⟩ | skip
      go_simp
      refine wpF_take (v := ?_) hS rfl ?_ (fun _ _ _ h => h) ?_
      rotate_left
      · intro w' hS'
        obtain ⟨⟨e0, e1⟩, ⟨y0, y1⟩, z0, z1⟩ := hS'
        go_simp <;> rfl
      go_simp
      refine wpF_take (v := ?_) hS rfl ?_ (fun _ _ _ h => h) ?_
      rotate_left
      · intro w' hS'
        obtain ⟨⟨e0, e1⟩, ⟨y0, y1⟩, z0, z1⟩ := hS'
        go_simp <;> rfl
      go_simp
      refine wpF_take (v := ?_) hS rfl ?_ (fun _ _ _ h => h) ?_
      rotate_left
      · intro w' hS'
        obtain ⟨⟨e0, e1⟩, ⟨y0, y1⟩, z0, z1⟩ := hS'
        go_simp <;> rfl
      go_simp
      refine wpF_take (v := ?_) hS rfl ?_ (fun _ _ _ h => h) ?_
      rotate_left
      · intro w' hS'
        obtain ⟨⟨e0, e1⟩, ⟨y0, y1⟩, z0, z1⟩ := hS'
        go_simp <;> rfl
      go_simp
      refine wpF_take (v := ?_) hS rfl ?_ (fun _ _ _ h => h) ?_
      rotate_left
      · intro w' hS'
        obtain ⟨⟨e0, e1⟩, ⟨y0, y1⟩, z0, z1⟩ := hS'
        go_simp <;> rfl
      go_simp
      refine wpF_take (v := ?_) hS rfl ?_ (fun _ _ _ h => h) ?_
      rotate_left
      · intro w' hS'
        obtain ⟨⟨e0, e1⟩, ⟨y0, y1⟩, z0, z1⟩ := hS'
        go_simp <;> rfl
      go_simp
      refine wpF_take (v := ?_) hS rfl ?_ (fun _ _ _ h => h) ?_
      rotate_left
      · intro w' hS'
        obtain ⟨⟨e0, e1⟩, ⟨y0, y1⟩, z0, z1⟩ := hS'
        go_simp <;> rfl
      go_simp
      refine wpF_only rfl (fun K hK => ?_)
      go_wp2_with fail
      refine (awake4_any _ (hW.below hlt F1)).mono ?_
      rintro _ w9 ⟨rfl, f9⟩
      replace F1 := F1.trans (f9.mono F1.size)
      replace hS := hS.below f9
      clear f9
      go_wp2_with fail
      first | refine ⟨fun _ => hS, ?_⟩ | refine ⟨hS, ?_⟩ | skip
      go_simp
      refine wpF_take (v := ?_) hS rfl ?_ (fun _ _ _ h => h) ?_
      rotate_left
      · intro w' hS'
        obtain ⟨⟨e0, e1⟩, ⟨y0, y1⟩, z0, z1⟩ := hS'
        go_simp <;> rfl
      go_simp
      refine wpF_take (v := ?_) hS rfl ?_ (fun _ _ _ h => h) ?_
      rotate_left
      · intro w' hS'
        obtain ⟨⟨e0, e1⟩, ⟨y0, y1⟩, z0, z1⟩ := hS'
        go_simp <;> rfl
      go_simp
      refine wpF_nil ?_
      go_wp2_with fail
      go_ret
      exact ⟨rfl, F1⟩
  · have d1 : decide (0 < p) = false := by simp; omega
    have hpo := fun w => HPL.out w (by omega)
    refine wp_region_order (TxS w.heap.size a b g1 g2 c1 c2) 99 [(0,0), (2,0), (1,1), (3,1), (4,0), (5,0), (6,0), (8,0), (7,1), (9,1), (10,0), (11,0), (12,0), (13,0), (14,0), (15,0), (16,0), (17,0), (18,0), (19,0), (20,0), (21,0), (22,0), (23,0), (24,0), (25,0), (26,0), (27,0), (28,0), (29,0), (30,0), (31,0), (32,0), (33,0), (35,0), (36,0), (34,1), (37,0), (38,0), (39,0), (40,0), (41,0), (42,0), (43,0), (44,1), (45,0), (46,0)] (by kernel_rfl) (by kernel_rfl) ?_
    simp only [pick, List.filterMap_cons, List.filterMap_nil, List.getElem?_cons_zero, List.getElem?_cons_succ, Option.map_some]
    have hS : TxS w.heap.size a b g1 g2 c1 c2 w6.drew := hT
    have F1 : Below w.heap.size w w6.drew := f1.drew
    clear f1 hT
    generalize w6.drew = wd at *
    refine wpF_take (v := ?_) hS rfl ?_ (fun _ _ _ h => h) ?_
    rotate_left
    · intro w' hS'
      obtain ⟨⟨e0, e1⟩, ⟨y0, y1⟩, z0, z1⟩ := hS'
      go_simp <;> rfl
    go_simp
    refine wpF_take (v := ?_) hS rfl ?_ (fun _ _ _ h => h) ?_
    rotate_left
    · intro w' hS'
      obtain ⟨⟨e0, e1⟩, ⟨y0, y1⟩, z0, z1⟩ := hS'
      go_simp <;> rfl
    go_simp
    refine wpF_only rfl (fun K hK => ?_)
    go_wp2_with fail
    refine (hpr _ (hW.below hlt F1)).mono ?_
    rintro _ w9 ⟨rfl, f9⟩
    replace F1 := F1.trans (f9.mono F1.size)
    replace hS := hS.below f9
    clear f9
    go_wp2_with fail
    first | refine ⟨fun _ => hS, ?_⟩ | refine ⟨hS, ?_⟩ | skip
    go_simp
    refine wpF_only rfl (fun K hK => ?_)
    go_wp2_with fail
    refine (hrp _).mono ?_
    rintro _ w9 ⟨rfl, f9⟩
    replace F1 := F1.trans (f9.mono F1.size)
    replace hS := hS.below f9
    clear f9
    go_wp2_with fail
    first | refine ⟨fun _ => hS, ?_⟩ | refine ⟨hS, ?_⟩ | skip
    go_simp
    refine wpF_take (v := ?_) hS rfl ?_ (fun _ _ _ h => h) ?_
    rotate_left
    · intro w' hS'
      obtain ⟨⟨e0, e1⟩, ⟨y0, y1⟩, z0, z1⟩ := hS'
      go_simp <;> rfl
    go_simp
    refine wpF_take (v := ?_) hS rfl ?_ (fun _ _ _ h => h) ?_
    rotate_left
    · intro w' hS'
      obtain ⟨⟨e0, e1⟩, ⟨y0, y1⟩, z0, z1⟩ := hS'
      go_simp <;> rfl
    go_simp
    refine wpF_take (v := ?_) hS rfl ?_ (fun _ _ _ h => h) ?_
    rotate_left
    · intro w' hS'
      obtain ⟨⟨e0, e1⟩, ⟨y0, y1⟩, z0, z1⟩ := hS'
      go_simp <;> rfl
    go_simp
    refine wpF_take (v := ?_) hS rfl ?_ (fun _ _ _ h => h) ?_
    rotate_left
    · intro w' hS'
      obtain ⟨⟨e0, e1⟩, ⟨y0, y1⟩, z0, z1⟩ := hS'
      go_simp <;> rfl
    go_simp
    refine wpF_only rfl (fun K hK => ?_)
    go_wp2_with fail
    refine (hpn _ (hW.below hlt F1)).mono ?_
    rintro _ w9 ⟨rfl, f9⟩
    replace F1 := F1.trans (f9.mono F1.size)
    replace hS := hS.below f9
    clear f9
    go_wp2_with fail
    first | refine ⟨fun _ => hS, ?_⟩ | refine ⟨hS, ?_⟩ | skip
    go_simp
    refine wpF_only rfl (fun K hK => ?_)
    go_wp2_with fail
    refine (hrn _).mono ?_
    rintro _ w9 ⟨rfl, f9⟩
    replace F1 := F1.trans (f9.mono F1.size)
    replace hS := hS.below f9
    clear f9
    go_wp2_with fail
    first | refine ⟨fun _ => hS, ?_⟩ | refine ⟨hS, ?_⟩ | skip
    go_simp
    refine wpF_take (v := ?_) hS rfl ?_ (fun _ _ _ h => h) ?_
    rotate_left
    · intro w' hS'
      obtain ⟨⟨e0, e1⟩, ⟨y0, y1⟩, z0, z1⟩ := hS'
      go_simp <;> rfl
    go_simp
    refine wpF_take (v := ?_) hS rfl ?_ (fun _ _ _ h => h) ?_
    rotate_left
    · intro w' hS'
      obtain ⟨⟨e0, e1⟩, ⟨y0, y1⟩, z0, z1⟩ := hS'
      go_simp <;> rfl
    go_simp
    refine wpF_take (v := ?_) hS rfl ?_ (fun _ _ _ h => h) ?_
    rotate_left
    · intro w' hS'
      obtain ⟨⟨e0, e1⟩, ⟨y0, y1⟩, z0, z1⟩ := hS'
      go_simp <;> rfl
    go_simp
    refine wpF_take (v := ?_) hS rfl ?_ (fun _ _ _ h => h) ?_
    rotate_left
    · intro w' hS'
      obtain ⟨⟨e0, e1⟩, ⟨y0, y1⟩, z0, z1⟩ := hS'
      go_simp <;> rfl
    go_simp
    refine wpF_take (v := ?_) hS rfl ?_ (fun _ _ _ h => h) ?_
    rotate_left
    · intro w' hS'
      obtain ⟨⟨e0, e1⟩, ⟨y0, y1⟩, z0, z1⟩ := hS'
      go_simp <;> rfl
    go_simp
    refine wpF_take (v := ?_) hS rfl ?_ (fun _ _ _ h => h) ?_
    rotate_left
    · intro w' hS'
      obtain ⟨⟨e0, e1⟩, ⟨y0, y1⟩, z0, z1⟩ := hS'
      go_simp <;> rfl
    go_simp
    refine wpF_take (v := ?_) hS rfl ?_ (fun _ _ _ h => h) ?_
    rotate_left
    · intro w' hS'
      obtain ⟨⟨e0, e1⟩, ⟨y0, y1⟩, z0, z1⟩ := hS'
      go_simp <;> rfl
    go_simp
    refine wpF_take (v := ?_) hS rfl ?_ (fun _ _ _ h => h) ?_
    rotate_left
    · intro w' hS'
      obtain ⟨⟨e0, e1⟩, ⟨y0, y1⟩, z0, z1⟩ := hS'
      go_simp <;> rfl
    go_simp
    refine wpF_take (v := ?_) hS rfl ?_ (fun _ _ _ h => h) ?_
    rotate_left
    · intro w' hS'
      obtain ⟨⟨e0, e1⟩, ⟨y0, y1⟩, z0, z1⟩ := hS'
      go_simp <;> rfl
    go_simp
    refine wpF_take (v := ?_) hS rfl ?_ (fun _ _ _ h => h) ?_
    rotate_left
    · intro w' hS'
      obtain ⟨⟨e0, e1⟩, ⟨y0, y1⟩, z0, z1⟩ := hS'
      go_simp <;> rfl
    go_simp
    refine wpF_take (v := ?_) hS rfl ?_ (fun _ _ _ h => h) ?_
    rotate_left
    · intro w' hS'
      obtain ⟨⟨e0, e1⟩, ⟨y0, y1⟩, z0, z1⟩ := hS'
      go_simp <;> rfl
    go_simp
    refine wpF_take (v := ?_) hS rfl ?_ (fun _ _ _ h => h) ?_
    rotate_left
    · intro w' hS'
      obtain ⟨⟨e0, e1⟩, ⟨y0, y1⟩, z0, z1⟩ := hS'
      go_simp <;> rfl
    go_simp
    refine wpF_take (v := ?_) hS rfl ?_ (fun _ _ _ h => h) ?_
    rotate_left
    · intro w' hS'
      obtain ⟨⟨e0, e1⟩, ⟨y0, y1⟩, z0, z1⟩ := hS'
      go_simp <;> rfl
    go_simp
    refine wpF_take (v := ?_) hS rfl ?_ (fun _ _ _ h => h) ?_
    rotate_left
    · intro w' hS'
      obtain ⟨⟨e0, e1⟩, ⟨y0, y1⟩, z0, z1⟩ := hS'
      go_simp <;> rfl
    go_simp
    refine wpF_take (v := ?_) hS rfl ?_ (fun _ _ _ h => h) ?_
    rotate_left
    · intro w' hS'
      obtain ⟨⟨e0, e1⟩, ⟨y0, y1⟩, z0, z1⟩ := hS'
      go_simp <;> rfl
    go_simp
    refine wpF_take (v := ?_) hS rfl ?_ (fun _ _ _ h => h) ?_
    rotate_left
    · intro w' hS'
      obtain ⟨⟨e0, e1⟩, ⟨y0, y1⟩, z0, z1⟩ := hS'
      go_simp <;> rfl
    go_simp
    refine wpF_take (v := ?_) hS rfl ?_ (fun _ _ _ h => h) ?_
    rotate_left
    · intro w' hS'
      obtain ⟨⟨e0, e1⟩, ⟨y0, y1⟩, z0, z1⟩ := hS'
      go_simp <;> rfl
    go_simp
    refine wpF_take (v := ?_) hS rfl ?_ (fun _ _ _ h => h) ?_
    rotate_left
    · intro w' hS'
      obtain ⟨⟨e0, e1⟩, ⟨y0, y1⟩, z0, z1⟩ := hS'
      go_simp <;> rfl
    go_simp
    refine wpF_take (v := ?_) hS rfl ?_ (fun _ _ _ h => h) ?_
    rotate_left
    · intro w' hS'
      obtain ⟨⟨e0, e1⟩, ⟨y0, y1⟩, z0, z1⟩ := hS'
      go_simp <;> rfl
    go_simp
    refine wpF_take (v := ?_) hS rfl ?_ (fun _ _ _ h => h) ?_
    rotate_left
    · intro w' hS'
      obtain ⟨⟨e0, e1⟩, ⟨y0, y1⟩, z0, z1⟩ := hS'
      go_simp <;> rfl
    go_simp
    refine wpF_take (v := ?_) hS rfl ?_ (fun _ _ _ h => h) ?_
    rotate_left
    · intro w' hS'
      obtain ⟨⟨e0, e1⟩, ⟨y0, y1⟩, z0, z1⟩ := hS'
      go_simp <;> rfl
    go_simp
    refine wpF_take (v := ?_) hS rfl ?_ (fun _ _ _ h => h) ?_
    rotate_left
    · intro w' hS'
      obtain ⟨⟨e0, e1⟩, ⟨y0, y1⟩, z0, z1⟩ := hS'
      go_simp <;> rfl
    go_simp
    refine wpF_take (v := ?_) hS rfl ?_ (fun _ _ _ h => h) ?_
    rotate_left
    · intro w' hS'
      obtain ⟨⟨e0, e1⟩, ⟨y0, y1⟩, z0, z1⟩ := hS'
      go_simp <;> rfl
    go_simp
    refine wpF_take (v := ?_) hS rfl ?_ (fun _ _ _ h => h) ?_
    rotate_left
    · intro w' hS'
      obtain ⟨⟨e0, e1⟩, ⟨y0, y1⟩, z0, z1⟩ := hS'
      go_simp <;> rfl
    go_simp
    refine wpF_take (v := ?_) hS rfl ?_ (fun _ _ _ h => h) ?_
    rotate_left
    · intro w' hS'
      obtain ⟨⟨e0, e1⟩, ⟨y0, y1⟩, z0, z1⟩ := hS'
      go_simp <;> rfl
    go_simp
    refine wpF_take (v := ?_) hS rfl ?_ (fun _ _ _ h => h) ?_
    rotate_left
    · intro w' hS'
      obtain ⟨⟨e0, e1⟩, ⟨y0, y1⟩, z0, z1⟩ := hS'
      go_simp <;> rfl
    go_simp
    refine wpF_only rfl (fun K hK => ?_)
    go_wp2_with fail
    refine (hpo _).mono ?_
    rintro _ w9 ⟨rfl, rfl⟩
    go_wp2_with fail
    first | refine ⟨fun _ => hS, ?_⟩ | refine ⟨hS, ?_⟩ | skip
    go_simp
    refine wpF_take (v := ?_) hS rfl ?_ (fun _ _ _ h => h) ?_
    rotate_left
    · intro w' hS'
      obtain ⟨⟨e0, e1⟩, ⟨y0, y1⟩, z0, z1⟩ := hS'
      go_simp <;> rfl
    go_simp
    refine wpF_skip hS rfl (fun _ _ _ h => h) ?_
    go_simp
    refine wpF_skip hS rfl (fun _ _ _ h => h) ?_
    go_simp
    refine wpF_take (v := ?_) hS rfl ?_ (fun _ _ _ h => h) ?_
    rotate_left
    · intro w' hS'
      obtain ⟨⟨e0, e1⟩, ⟨y0, y1⟩, z0, z1⟩ := hS'
      go_simp <;> rfl
    go_simp
    refine wpF_take (v := ?_) hS rfl ?_ (fun _ _ _ h => h) ?_
    rotate_left
    · intro w' hS'
      obtain ⟨⟨e0, e1⟩, ⟨y0, y1⟩, z0, z1⟩ := hS'
      go_simp <;> rfl
    go_simp
    refine wpF_take (v := ?_) hS rfl ?_ (fun _ _ _ h => h) ?_
    rotate_left
    · intro w' hS'
      obtain ⟨⟨e0, e1⟩, ⟨y0, y1⟩, z0, z1⟩ := hS'
      go_simp <;> rfl
    go_simp
    refine wpF_take (v := ?_) hS rfl ?_ (fun _ _ _ h => h) ?_
    rotate_left
    · intro w' hS'
      obtain ⟨⟨e0, e1⟩, ⟨y0, y1⟩, z0, z1⟩ := hS'
      go_simp <;> rfl
    go_simp
    refine wpF_only rfl (fun K hK => ?_)
    go_wp2_with fail
    refine (awake4_any _ (hW.below hlt F1)).mono ?_
    rintro _ w9 ⟨rfl, f9⟩
    replace F1 := F1.trans (f9.mono F1.size)
    replace hS := hS.below f9
    clear f9
    go_wp2_with fail
    first | refine ⟨fun _ => hS, ?_⟩ | refine ⟨hS, ?_⟩ | skip
    go_simp
    refine wpF_take (v := ?_) hS rfl ?_ (fun _ _ _ h => h) ?_
    rotate_left
    · intro w' hS'
      obtain ⟨⟨e0, e1⟩, ⟨y0, y1⟩, z0, z1⟩ := hS'
      go_simp <;> rfl
    go_simp
    refine wpF_take (v := ?_) hS rfl ?_ (fun _ _ _ h => h) ?_
    rotate_left
    · intro w' hS'
      obtain ⟨⟨e0, e1⟩, ⟨y0, y1⟩, z0, z1⟩ := hS'
      go_simp <;> rfl
    go_simp
    refine wpF_nil ?_
    go_wp2_with fail
    go_ret
    exact ⟨rfl, F1⟩
end Go.Proofs.YtddfgalofngoiaaGreatDoor
