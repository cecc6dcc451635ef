/- policy.target. Conditions: sizes. Printed by gen_ptarget.py. -/
import Derived.Test.YtdbjihpdfiipcaaGreatPolPorts
import Derived.Test.YtdbjihpdfiipcaaGreatOrder
import Derived.BigQuiet
namespace Go.Proofs.YtdbjihpdfiipcaaGreat
open Go.RowKit Go.Sort
set_option linter.unusedVariables false
set_option linter.unusedSimpArgs false
/-- The cells of a target. -/
def TgS (s : Nat) (v1 v2 v3 v4 : Value) (u : World) : Prop := u.cell? ⟨s, 0, none⟩ = some v1 ∧ u.cell? ⟨s, 1, none⟩ = some v2 ∧ u.cell? ⟨s, 2, none⟩ = some v3 ∧ u.cell? ⟨s, 3, none⟩ = some v4
theorem TgS.low {s b : Nat} {v1 v2 v3 v4 : Value} {u v : World} (h : TgS s v1 v2 v3 v4 u) (hb : Below b u v) (hs : s < b := by omega) : TgS s v1 v2 v3 v4 v :=
  ⟨(hb.cell (p := ⟨s, 0, none⟩) hs).trans h.1, (hb.cell (p := ⟨s, 1, none⟩) hs).trans h.2.1, (hb.cell (p := ⟨s, 2, none⟩) hs).trans h.2.2.1, (hb.cell (p := ⟨s, 3, none⟩) hs).trans h.2.2.2⟩
theorem TgS.below {s : Nat} {v1 v2 v3 v4 : Value} {u v : World} (h : TgS s v1 v2 v3 v4 u) (hb : Below u.heap.size u v) : TgS s v1 v2 v3 v4 v := h.low hb (World.block_lt_of_cell? u _ h.1)
set_option maxRecDepth 100000 in
set_option maxHeartbeats 4000000 in
theorem target_any (t : Tg) (cs : List Value) (w : World) (h : TgP w w.heap.size cs t) (hok : okTg t) :
    Calls Tryz.prog 36 #[.agg cs.toArray] w fun e w' => e = .returned (.bool (tgMay t)) ∧ Below w.heap.size w w' := by
  obtain ⟨A1, n1, c1, A2, n2, c2, A3, n3, c3, A4, n4, c4, rfl, h1, h2, h3, h4⟩ := vals_tg h
  obtain ⟨v1, v2, v3, v4, hv, t1, t2, t3, t4⟩ := h
  injection hv with g1 hv
  injection hv with g2 hv
  injection hv with g3 hv
  injection hv with g4 hv
  subst g1 g2 g3 g4
  obtain ⟨⟨k0, _⟩, k2, k3, k4⟩ := hok
  have l1 := h1.1
  obtain ⟨p, hp⟩ : ∃ p, rowsMay [t.methods, t.paths, t.hosts] = p := ⟨_, rfl⟩
  obtain ⟨q, hq⟩ : ∃ q, (decide (t.ports.length ≤ 6) && t.ports.all portMay) = q := ⟨_, rfl⟩
  obtain ⟨z, hz⟩ : ∃ z, decide t.ports.Nodup = z := ⟨_, rfl⟩
  have he : tgMay t = (p && (q && z)) := by rw [← hp, ← hq, ← hz]; rfl
  rw [he]
  show Calls Tryz.prog 36 #[.agg #[.slice A1 n1 c1, .slice A2 n2 c2, .slice A3 n3 c3, .slice A4 n4 c4]] w _
  obtain ⟨wb, hwb⟩ : ∃ wb, w.alloc (.cells #[.slice A1 n1 c1, .slice A2 n2 c2, .slice A3 n3 c3, .slice A4 n4 c4] 33) = wb := ⟨_, rfl⟩
  have f0 : Below w.heap.size w wb := by rw [← hwb]; exact (Below.refl _ _).alloc (Nat.le_refl _) _
  have hwl : w.heap.size < wb.heap.size := by rw [← hwb]; simp
  have bl := Blk.newAt (w := w) rfl 33 #[.slice A1 n1 c1, .slice A2 n2 c2, .slice A3 n3 c3, .slice A4 n4 c4]
  rw [hwb] at bl
  have hSb : TgS w.heap.size (.slice A1 n1 c1) (.slice A2 n2 c2) (.slice A3 n3 c3) (.slice A4 n4 c4) wb := ⟨bl.cell 0, bl.cell 1, bl.cell 2, bl.cell 3⟩
  have HROWS : Hid (∀ w2, Below w.heap.size w w2 → Calls Tryz.prog 73 #[.slice (some ⟨w2.heap.size, 0, none⟩) 3 3] (w2.alloc (.cells #[.slice A2 n2 c2, .slice A3 n3 c3, .slice A4 n4 c4] 31)) fun e w' => e = .returned (.bool p) ∧ Below (w2.alloc (.cells #[.slice A2 n2 c2, .slice A3 n3 c3, .slice A4 n4 c4] 31)).heap.size (w2.alloc (.cells #[.slice A2 n2 c2, .slice A3 n3 c3, .slice A4 n4 c4] 31)) w') := Lib.hid fun w2 hb => by
    rw [← hp]
    exact rows_any (some ⟨w2.heap.size, 0, none⟩) 3 3 [t.methods, t.paths, t.hosts] _ (by omega) (rows_new (w := w2) (vs := [.slice A2 n2 c2, .slice A3 n3 c3, .slice A4 n4 c4]) (R := [t.methods, t.paths, t.hosts]) _ rfl (fun j hj => by
      rcases j with _ | _ | _ | j
      · exact t2.mono hb.size hb
      · exact t3.mono hb.size hb
      · exact t4.mono hb.size hb
      · exact absurd hj (by simp))) (by
      intro L hL
      simp only [List.mem_cons, List.mem_nil_iff, or_false] at hL
      rcases hL with rfl | rfl | rfl
      · exact k2
      · exact k3
      · exact k4)
  have HALL : Hid (∀ w2, Below w.heap.size w w2 → Calls Tryz.prog 79 #[.int .i64 6, .slice A1 n1 c1, .func (.func 80) #[] #[]] w2 fun e w' => e = .returned (.bool q) ∧ Below w2.heap.size w2 w') := Lib.hid fun w2 hb => all_int A1 n1 c1 (prL portMay t.ports) w2 (fun w' hb' j hj => by
    obtain ⟨b, off, r1, r2, r3⟩ := (h1.below (hb.trans (hb'.mono hb.size))).2 (by omega)
    have hj' : j < t.ports.length := by omega
    have r4 := r3 j hj' 0 _ rfl
    rw [Nat.mul_one, Nat.add_zero] at r4
    refine ⟨b, off, _, r1, r4, fun w'' _ => ?_⟩
    rw [prL_at hj']
    exact mayPort_any _ _) (by rw [← hq, Bool.and_eq_true, decide_eq_true_eq, all_prL l1, l1])
  have hcl := clonePorts A1 n1 c1 t.ports wb ((h1.below f0).more f0.size) (by omega)
  have HZ : Hid (∀ Y : List Int, Y.Perm t.ports → Y.Pairwise (· ≤ ·) → (((Lib.compact Y).length : Int) == (n1 : Int)) = z) := Lib.hid fun Y h5 h6 => by
    have h7 := compact_len Y h6
    rw [h5.length_eq, l1, h5.nodup_iff] at h7
    rw [← hz]
    by_cases hd : t.ports.Nodup
    · rw [decide_eq_true hd, beq_iff_eq]
      have := h7.2 hd
      omega
    · rw [decide_eq_false hd, beq_eq_false_iff_ne]
      intro h8
      exact hd (h7.1 (by omega))
  have hle : n1 ≤ 1000000 := by omega
  obtain ⟨ports, hports⟩ : ∃ L, t.ports = L := ⟨_, rfl⟩
  rw [hports] at hcl HZ
  clear h1 h2 h3 h4 t1 t2 t3 t4 k0 k2 k3 k4 hp hq hz he hv bl hports l1
  have HSb := Lib.hid hSb; clear hSb
  obtain ⟨e0, e1, e2, e3⟩ := HSb.out
  go_enter Tryz.func36, Tryz.ntmps36
  go_wp2_with fail
  refine hcl.mono ?_
  rintro e w2 ⟨P, c', rfl, hc', hP, f2⟩
  clear e0 e1 e2 e3 hwb
  go_wp2_with fail
  refine (sortPorts wb.heap.size P n1 c' ports w2 hP hle f2.size).mono ?_
  rintro e w3 ⟨rfl, Y, hperm, hsort, hP3, f3'⟩
  have hY := HZ.out Y hperm hsort
  have HCOM : Hid (∀ u, Below w3.heap.size w3 u → Calls Tryz.prog 81 #[.slice P n1 c'] u fun e w' => e = .returned (.slice P (Lib.compact Y).length c') ∧ Below wb.heap.size u w') := Lib.hid fun u hu => compactPorts wb.heap.size P n1 c' Y u (hP3.below hu) hle hc'
  have fb : Below wb.heap.size wb w3 := f2.trans (f3'.mono (Nat.le_refl _))
  have f3 : Below w.heap.size w w3 := f0.trans (fb.mono f0.size)
  obtain ⟨e0, e1, e2, e3⟩ := HSb.out.low fb hwl
  generalize (Lib.compact Y).length = m at *
  clear hperm hsort hP hP3 f2 f3' fb HZ HSb hcl
  cases p
  · go_upto_region 3 with fail
    refine wp_region_order (TgS w.heap.size (.slice A1 n1 c1) (.slice A2 n2 c2) (.slice A3 n3 c3) (.slice A4 n4 c4)) 99 [(0,0), (1,0), (2,0), (3,0), (4,0), (5,0), (6,1), (7,1), (8,0), (9,0), (10,0), (11,1), (12,0), (13,0), (14,0), (17,0), (18,0), (19,0), (15,1), (16,0), (20,0), (21,0), (22,0)] (by kernel_rfl) (by kernel_rfl) ?_
    simp only [pick, List.filterMap_cons, List.filterMap_nil, List.getElem?_cons_zero, List.getElem?_cons_succ, Option.map_some]
    have hS : TgS w.heap.size (.slice A1 n1 c1) (.slice A2 n2 c2) (.slice A3 n3 c3) (.slice A4 n4 c4) w3.drew := ⟨e0, e1, e2, e3⟩
    have F1 : Below w3.heap.size w3 w3.drew := (Below.refl _ w3).drew
    clear e0 e1 e2 e3
    generalize w3.drew = wd at *
    refine wpF_take (v := ?_) hS rfl ?_ (fun _ _ _ h => h) ?_
    rotate_left
    · intro w' hS'
      obtain ⟨e0, e1, e2, e3⟩ := hS'
      go_simp <;> rfl
    go_simp
    refine wpF_take (v := ?_) hS rfl ?_ (fun _ _ _ h => h) ?_
    rotate_left
    · intro w' hS'
      obtain ⟨e0, e1, e2, e3⟩ := hS'
      go_simp <;> rfl
    go_simp
    refine wpF_take (v := ?_) hS rfl ?_ (fun _ _ _ h => h) ?_
    rotate_left
    · intro w' hS'
      obtain ⟨e0, e1, e2, e3⟩ := hS'
      go_simp <;> rfl
    go_simp
    refine wpF_take (v := ?_) hS rfl ?_ (fun _ _ _ h => h) ?_
    rotate_left
    · intro w' hS'
      obtain ⟨e0, e1, e2, e3⟩ := hS'
      go_simp <;> rfl
    go_simp
    refine wpF_take (v := ?_) hS rfl ?_ (fun _ _ _ h => h) ?_
    rotate_left
    · intro w' hS'
      obtain ⟨e0, e1, e2, e3⟩ := hS'
      go_simp <;> rfl
    go_simp
    refine wpF_take (v := ?_) hS rfl ?_ (fun _ _ _ h => h) ?_
    rotate_left
    · intro w' hS'
      obtain ⟨e0, e1, e2, e3⟩ := hS'
      go_simp <;> rfl
    go_simp
    refine wpF_only rfl (fun K hK => ?_)
    go_wp2_with fail
    have hR := HROWS.out wd (f3.trans (F1.mono f3.size))
    have fa : Below wd.heap.size wd (wd.alloc (.cells #[.slice A2 n2 c2, .slice A3 n3 c3, .slice A4 n4 c4] 31)) := (Below.refl _ wd).alloc (Nat.le_refl _) _
    replace hS := hS.below fa
    replace F1 := F1.trans (fa.mono F1.size)
    clear fa
    go_wp2_with fail
    first | refine ⟨fun _ => hS, ?_⟩ | refine ⟨hS, ?_⟩ | skip
    go_simp
    refine wpF_only rfl (fun K hK => ?_)
    go_wp2_with fail
    refine hR.mono ?_
    rintro e w5 ⟨rfl, f5⟩
    replace hS := hS.below f5
    have hS2 := hS
    obtain ⟨e0, e1, e2, e3⟩ := hS2
    replace F1 := F1.trans (f5.mono F1.size)
    clear hR f5
    go_wp2_with fail
    first | refine ⟨fun _ => hS, ?_⟩ | refine ⟨hS, ?_⟩ | skip
    go_simp
    refine wpF_take (v := ?_) hS rfl ?_ (fun _ _ _ h => h) ?_
    rotate_left
    · intro w' hS'
      obtain ⟨e0, e1, e2, e3⟩ := hS'
      go_simp <;> rfl
    go_simp
    refine wpF_skip hS rfl (fun _ _ _ h => h) ?_
    go_simp
    refine wpF_skip hS rfl (fun _ _ _ h => h) ?_
    go_simp
    refine wpF_pass rfl (fun _ => hS) ?_
    go_simp
    refine wpF_take (v := ?_) hS rfl ?_ (fun _ _ _ h => h) ?_
    rotate_left
    · intro w' hS'
      obtain ⟨e0, e1, e2, e3⟩ := hS'
      go_simp <;> rfl
    go_simp
    refine wpF_take (v := ?_) hS rfl ?_ (fun _ _ _ h => h) ?_
    rotate_left
    · intro w' hS'
      obtain ⟨e0, e1, e2, e3⟩ := hS'
      go_simp <;> rfl
    go_simp
    refine wpF_skip hS rfl (fun _ _ _ h => h) ?_
    go_simp
    refine wpF_skip hS rfl (fun _ _ _ h => h) ?_
    go_simp
    refine wpF_skip hS rfl (fun _ _ _ h => h) ?_
    go_simp
    refine wpF_skip hS rfl (fun _ _ _ h => h) ?_
    go_simp
    refine wpF_pass rfl (fun _ => hS) ?_
    go_simp
    refine wpF_skip hS rfl (fun _ _ _ h => h) ?_
    go_simp
    refine wpF_skip hS rfl (fun _ _ _ h => h) ?_
    go_simp
    refine wpF_take (v := ?_) hS rfl ?_ (fun _ _ _ h => h) ?_
    rotate_left
    · intro w' hS'
      obtain ⟨e0, e1, e2, e3⟩ := hS'
      go_simp <;> rfl
    go_simp
    refine wpF_take (v := ?_) hS rfl ?_ (fun _ _ _ h => h) ?_
    rotate_left
    · intro w' hS'
      obtain ⟨e0, e1, e2, e3⟩ := hS'
      go_simp <;> rfl
    go_simp
    refine wpF_nil ?_
    go_wp2_with fail
    go_ret
    exact ⟨by first | rfl | simp, f3.trans (F1.mono f3.size)⟩
  · cases q
    · go_upto_region 3 with fail
      refine wp_region_order (TgS w.heap.size (.slice A1 n1 c1) (.slice A2 n2 c2) (.slice A3 n3 c3) (.slice A4 n4 c4)) 99 [(0,0), (1,0), (2,0), (3,0), (4,0), (5,0), (6,1), (7,1), (8,0), (9,0), (10,0), (11,1), (12,0), (13,0), (14,0), (17,0), (18,0), (19,0), (15,1), (16,0), (20,0), (21,0), (22,0)] (by kernel_rfl) (by kernel_rfl) ?_
      simp only [pick, List.filterMap_cons, List.filterMap_nil, List.getElem?_cons_zero, List.getElem?_cons_succ, Option.map_some]
      have hS : TgS w.heap.size (.slice A1 n1 c1) (.slice A2 n2 c2) (.slice A3 n3 c3) (.slice A4 n4 c4) w3.drew := ⟨e0, e1, e2, e3⟩
      have F1 : Below w3.heap.size w3 w3.drew := (Below.refl _ w3).drew
      clear e0 e1 e2 e3
      generalize w3.drew = wd at *
      refine wpF_take (v := ?_) hS rfl ?_ (fun _ _ _ h => h) ?_
      rotate_left
      · intro w' hS'
        obtain ⟨e0, e1, e2, e3⟩ := hS'
        go_simp <;> rfl
      go_simp
      refine wpF_take (v := ?_) hS rfl ?_ (fun _ _ _ h => h) ?_
      rotate_left
      · intro w' hS'
        obtain ⟨e0, e1, e2, e3⟩ := hS'
        go_simp <;> rfl
      go_simp
      refine wpF_take (v := ?_) hS rfl ?_ (fun _ _ _ h => h) ?_
      rotate_left
      · intro w' hS'
        obtain ⟨e0, e1, e2, e3⟩ := hS'
        go_simp <;> rfl
      go_simp
      refine wpF_take (v := ?_) hS rfl ?_ (fun _ _ _ h => h) ?_
      rotate_left
      · intro w' hS'
        obtain ⟨e0, e1, e2, e3⟩ := hS'
        go_simp <;> rfl
      go_simp
      refine wpF_take (v := ?_) hS rfl ?_ (fun _ _ _ h => h) ?_
      rotate_left
      · intro w' hS'
        obtain ⟨e0, e1, e2, e3⟩ := hS'
        go_simp <;> rfl
      go_simp
      refine wpF_take (v := ?_) hS rfl ?_ (fun _ _ _ h => h) ?_
      rotate_left
      · intro w' hS'
        obtain ⟨e0, e1, e2, e3⟩ := hS'
        go_simp <;> rfl
      go_simp
      refine wpF_only rfl (fun K hK => ?_)
      go_wp2_with fail
      have hR := HROWS.out wd (f3.trans (F1.mono f3.size))
      have fa : Below wd.heap.size wd (wd.alloc (.cells #[.slice A2 n2 c2, .slice A3 n3 c3, .slice A4 n4 c4] 31)) := (Below.refl _ wd).alloc (Nat.le_refl _) _
      replace hS := hS.below fa
      replace F1 := F1.trans (fa.mono F1.size)
      clear fa
      go_wp2_with fail
      first | refine ⟨fun _ => hS, ?_⟩ | refine ⟨hS, ?_⟩ | skip
      go_simp
      refine wpF_only rfl (fun K hK => ?_)
      go_wp2_with fail
      refine hR.mono ?_
      rintro e w5 ⟨rfl, f5⟩
      replace hS := hS.below f5
      have hS2 := hS
      obtain ⟨e0, e1, e2, e3⟩ := hS2
      replace F1 := F1.trans (f5.mono F1.size)
      clear hR f5
      go_wp2_with fail
      first | refine ⟨fun _ => hS, ?_⟩ | refine ⟨hS, ?_⟩ | skip
      go_simp
      refine wpF_take (v := ?_) hS rfl ?_ (fun _ _ _ h => h) ?_
      rotate_left
      · intro w' hS'
        obtain ⟨e0, e1, e2, e3⟩ := hS'
        go_simp <;> rfl
      go_simp
      refine wpF_take (v := ?_) hS rfl ?_ (fun _ _ _ h => h) ?_
      rotate_left
      · intro w' hS'
        obtain ⟨e0, e1, e2, e3⟩ := hS'
        go_simp <;> rfl
      go_simp
      refine wpF_take (v := ?_) hS rfl ?_ (fun _ _ _ h => h) ?_
      rotate_left
      · intro w' hS'
        obtain ⟨e0, e1, e2, e3⟩ := hS'
        go_simp <;> rfl
      go_simp
      refine wpF_only rfl (fun K hK => ?_)
      go_wp2_with fail
      refine (HALL.out _ (f3.trans (F1.mono f3.size))).mono ?_
      rintro e w6 ⟨rfl, f6⟩
      replace hS := hS.below f6
      have hS2 := hS
      obtain ⟨e0, e1, e2, e3⟩ := hS2
      replace F1 := F1.trans (f6.mono F1.size)
      clear f6
      go_wp2_with fail
      first | refine ⟨fun _ => hS, ?_⟩ | refine ⟨hS, ?_⟩ | skip
      go_simp
      refine wpF_take (v := ?_) hS rfl ?_ (fun _ _ _ h => h) ?_
      rotate_left
      · intro w' hS'
        obtain ⟨e0, e1, e2, e3⟩ := hS'
        go_simp <;> rfl
      go_simp
      refine wpF_take (v := ?_) hS rfl ?_ (fun _ _ _ h => h) ?_
      rotate_left
      · intro w' hS'
        obtain ⟨e0, e1, e2, e3⟩ := hS'
        go_simp <;> rfl
      go_simp
      refine wpF_skip hS rfl (fun _ _ _ h => h) ?_
      go_simp
      refine wpF_skip hS rfl (fun _ _ _ h => h) ?_
      go_simp
      refine wpF_skip hS rfl (fun _ _ _ h => h) ?_
      go_simp
      refine wpF_skip hS rfl (fun _ _ _ h => h) ?_
      go_simp
      refine wpF_pass rfl (fun _ => hS) ?_
      go_simp
      refine wpF_skip hS rfl (fun _ _ _ h => h) ?_
      go_simp
      refine wpF_skip hS rfl (fun _ _ _ h => h) ?_
      go_simp
      refine wpF_take (v := ?_) hS rfl ?_ (fun _ _ _ h => h) ?_
      rotate_left
      · intro w' hS'
        obtain ⟨e0, e1, e2, e3⟩ := hS'
        go_simp <;> rfl
      go_simp
      refine wpF_take (v := ?_) hS rfl ?_ (fun _ _ _ h => h) ?_
      rotate_left
      · intro w' hS'
        obtain ⟨e0, e1, e2, e3⟩ := hS'
        go_simp <;> rfl
      go_simp
      refine wpF_nil ?_
      go_wp2_with fail
      go_ret
      exact ⟨by first | rfl | simp, f3.trans (F1.mono f3.size)⟩
    · go_upto_region 3 with fail
      refine wp_region_order (TgS w.heap.size (.slice A1 n1 c1) (.slice A2 n2 c2) (.slice A3 n3 c3) (.slice A4 n4 c4)) 99 [(0,0), (1,0), (2,0), (3,0), (4,0), (5,0), (6,1), (7,1), (8,0), (9,0), (10,0), (11,1), (12,0), (13,0), (14,0), (17,0), (18,0), (19,0), (15,1), (16,0), (20,0), (21,0), (22,0)] (by kernel_rfl) (by kernel_rfl) ?_
      simp only [pick, List.filterMap_cons, List.filterMap_nil, List.getElem?_cons_zero, List.getElem?_cons_succ, Option.map_some]
      have hS : TgS w.heap.size (.slice A1 n1 c1) (.slice A2 n2 c2) (.slice A3 n3 c3) (.slice A4 n4 c4) w3.drew := ⟨e0, e1, e2, e3⟩
      have F1 : Below w3.heap.size w3 w3.drew := (Below.refl _ w3).drew
      clear e0 e1 e2 e3
      generalize w3.drew = wd at *
      refine wpF_take (v := ?_) hS rfl ?_ (fun _ _ _ h => h) ?_
      rotate_left
      · intro w' hS'
        obtain ⟨e0, e1, e2, e3⟩ := hS'
        go_simp <;> rfl
      go_simp
      refine wpF_take (v := ?_) hS rfl ?_ (fun _ _ _ h => h) ?_
      rotate_left
      · intro w' hS'
        obtain ⟨e0, e1, e2, e3⟩ := hS'
        go_simp <;> rfl
      go_simp
      refine wpF_take (v := ?_) hS rfl ?_ (fun _ _ _ h => h) ?_
      rotate_left
      · intro w' hS'
        obtain ⟨e0, e1, e2, e3⟩ := hS'
        go_simp <;> rfl
      go_simp
      refine wpF_take (v := ?_) hS rfl ?_ (fun _ _ _ h => h) ?_
      rotate_left
      · intro w' hS'
        obtain ⟨e0, e1, e2, e3⟩ := hS'
        go_simp <;> rfl
      go_simp
      refine wpF_take (v := ?_) hS rfl ?_ (fun _ _ _ h => h) ?_
      rotate_left
      · intro w' hS'
        obtain ⟨e0, e1, e2, e3⟩ := hS'
        go_simp <;> rfl
      go_simp
      refine wpF_take (v := ?_) hS rfl ?_ (fun _ _ _ h => h) ?_
      rotate_left
      · intro w' hS'
        obtain ⟨e0, e1, e2, e3⟩ := hS'
        go_simp <;> rfl
      go_simp
      refine wpF_only rfl (fun K hK => ?_)
      go_wp2_with fail
      have hR := HROWS.out wd (f3.trans (F1.mono f3.size))
      have fa : Below wd.heap.size wd (wd.alloc (.cells #[.slice A2 n2 c2, .slice A3 n3 c3, .slice A4 n4 c4] 31)) := (Below.refl _ wd).alloc (Nat.le_refl _) _
      replace hS := hS.below fa
      replace F1 := F1.trans (fa.mono F1.size)
      clear fa
      go_wp2_with fail
      first | refine ⟨fun _ => hS, ?_⟩ | refine ⟨hS, ?_⟩ | skip
      go_simp
      refine wpF_only rfl (fun K hK => ?_)
      go_wp2_with fail
      refine hR.mono ?_
      rintro e w5 ⟨rfl, f5⟩
      replace hS := hS.below f5
      have hS2 := hS
      obtain ⟨e0, e1, e2, e3⟩ := hS2
      replace F1 := F1.trans (f5.mono F1.size)
      clear hR f5
      go_wp2_with fail
      first | refine ⟨fun _ => hS, ?_⟩ | refine ⟨hS, ?_⟩ | skip
      go_simp
      refine wpF_take (v := ?_) hS rfl ?_ (fun _ _ _ h => h) ?_
      rotate_left
      · intro w' hS'
        obtain ⟨e0, e1, e2, e3⟩ := hS'
        go_simp <;> rfl
      go_simp
      refine wpF_take (v := ?_) hS rfl ?_ (fun _ _ _ h => h) ?_
      rotate_left
      · intro w' hS'
        obtain ⟨e0, e1, e2, e3⟩ := hS'
        go_simp <;> rfl
      go_simp
      refine wpF_take (v := ?_) hS rfl ?_ (fun _ _ _ h => h) ?_
      rotate_left
      · intro w' hS'
        obtain ⟨e0, e1, e2, e3⟩ := hS'
        go_simp <;> rfl
      go_simp
      refine wpF_only rfl (fun K hK => ?_)
      go_wp2_with fail
      refine (HALL.out _ (f3.trans (F1.mono f3.size))).mono ?_
      rintro e w6 ⟨rfl, f6⟩
      replace hS := hS.below f6
      have hS2 := hS
      obtain ⟨e0, e1, e2, e3⟩ := hS2
      replace F1 := F1.trans (f6.mono F1.size)
      clear f6
      go_wp2_with fail
      first | refine ⟨fun _ => hS, ?_⟩ | refine ⟨hS, ?_⟩ | skip
      go_simp
      refine wpF_take (v := ?_) hS rfl ?_ (fun _ _ _ h => h) ?_
      rotate_left
      · intro w' hS'
        obtain ⟨e0, e1, e2, e3⟩ := hS'
        go_simp <;> rfl
      go_simp
      refine wpF_take (v := ?_) hS rfl ?_ (fun _ _ _ h => h) ?_
      rotate_left
      · intro w' hS'
        obtain ⟨e0, e1, e2, e3⟩ := hS'
        go_simp <;> rfl
      go_simp
      refine wpF_take (v := ?_) hS rfl ?_ (fun _ _ _ h => h) ?_
      rotate_left
      · intro w' hS'
        obtain ⟨e0, e1, e2, e3⟩ := hS'
        go_simp <;> rfl
      go_simp
      refine wpF_take (v := ?_) hS rfl ?_ (fun _ _ _ h => h) ?_
      rotate_left
      · intro w' hS'
        obtain ⟨e0, e1, e2, e3⟩ := hS'
        go_simp <;> rfl
      go_simp
      refine wpF_take (v := ?_) hS rfl ?_ (fun _ _ _ h => h) ?_
      rotate_left
      · intro w' hS'
        obtain ⟨e0, e1, e2, e3⟩ := hS'
        go_simp <;> rfl
      go_simp
      refine wpF_take (v := ?_) hS rfl ?_ (fun _ _ _ h => h) ?_
      rotate_left
      · intro w' hS'
        obtain ⟨e0, e1, e2, e3⟩ := hS'
        go_simp <;> rfl
      go_simp
      refine wpF_only rfl (fun K hK => ?_)
      go_wp2_with fail
      refine (HCOM.out _ F1).mono ?_
      rintro e w7 ⟨rfl, f7⟩
      replace hS := hS.low f7
      have hS2 := hS
      obtain ⟨e0, e1, e2, e3⟩ := hS2
      go_wp2_with fail
      first | refine ⟨fun _ => hS, ?_⟩ | refine ⟨hS, ?_⟩ | skip
      go_simp
      refine wpF_take (v := ?_) hS rfl ?_ (fun _ _ _ h => h) ?_
      rotate_left
      · intro w' hS'
        obtain ⟨e0, e1, e2, e3⟩ := hS'
        go_simp <;> rfl
      go_simp
      refine wpF_take (v := ?_) hS rfl ?_ (fun _ _ _ h => h) ?_
      rotate_left
      · intro w' hS'
        obtain ⟨e0, e1, e2, e3⟩ := hS'
        go_simp <;> rfl
      go_simp
      refine wpF_take (v := ?_) hS rfl ?_ (fun _ _ _ h => h) ?_
      rotate_left
      · intro w' hS'
        obtain ⟨e0, e1, e2, e3⟩ := hS'
        go_simp <;> rfl
      go_simp
      refine wpF_take (v := ?_) hS rfl ?_ (fun _ _ _ h => h) ?_
      rotate_left
      · intro w' hS'
        obtain ⟨e0, e1, e2, e3⟩ := hS'
        go_simp <;> rfl
      go_simp
      refine wpF_nil ?_
      go_wp2_with fail
      go_ret
      exact ⟨by first | rfl | simp, (f3.trans (F1.mono f3.size)).trans (f7.mono (by omega))⟩
end Go.Proofs.YtdbjihpdfiipcaaGreat
