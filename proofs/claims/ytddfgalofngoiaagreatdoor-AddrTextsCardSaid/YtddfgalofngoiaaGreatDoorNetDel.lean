/- slices.IndexFunc, DeleteFunc, Delete, Clone at a row of nets. Conditions: addresses of 32 bits, bits that fit an int; sizes. -/
import Derived.Test.YtddfgalofngoiaaGreatDoorNetRow
import Derived.Lib.LazyBuf
namespace Go.Proofs.YtddfgalofngoiaaGreatDoor
open Go.RowKit Go.Sort
set_option linter.unusedVariables false
set_option linter.unusedSimpArgs false
def ntAt (L : List Nt) (k : Nat) : Nt := L.getD k (0, 0)
theorem ntAt_eq {L : List Nt} {k : Nat} (h : k < L.length) : ntAt L k = L[k] := by simp [ntAt, List.getD, h]
theorem RdR.net {w : World} {B n k : Nat} {A : Option Addr} {L : List Nt} (h : RdR ntC 2 w B A n L) (hk : k < n) : ∃ b off, A = some ⟨b, off, none⟩ ∧ b < B ∧ w.cell? ⟨b, off + k * 2, none⟩ = some (.int .u32 ((ntAt L k).1 : Int)) ∧ w.cell? ⟨b, off + k * 2 + 1, none⟩ = some (.int .i64 (ntAt L k).2) := by
  obtain ⟨hl, h⟩ := h
  obtain ⟨b, off, h1, h2, h3⟩ := h (by omega)
  rw [ntAt_eq (by omega)]
  exact ⟨b, off, h1, h2, h3 k (by omega) 0 _ rfl, h3 k (by omega) 1 _ rfl⟩
def IxPost (n : Nat) (L : List Nt) (w : World) (e : Ending) (w' : World) : Prop := ∃ k : Nat, k ≤ n ∧ (∀ j, j < k → nMay (ntAt L j) = true) ∧ ((k = n ∧ e = .returned (.int .i64 (-1))) ∨ (k < n ∧ nMay (ntAt L k) = false ∧ e = .returned (.int .i64 k))) ∧ Below w.heap.size w w'
set_option maxRecDepth 100000 in
set_option maxHeartbeats 2000000 in
theorem indexMay_any (A : Option Addr) (n c : Nat) (L : List Nt) (w : World) (h : RdR ntC 2 w w.heap.size A n L) (hok : ∀ x ∈ L, okN x) (hn : n ≤ 1000000) :
    Calls Tryz.prog 54 #[.slice A n c, .func (.func 35) #[] #[]] w (IxPost n L w) := by
  have hl := h.1
  have HOK := Lib.hid hok; clear hok
  go_enter Tryz.func54, Tryz.ntmps54
  go_wp2_with fail
  go_loopw [8, 5] (fun v8 v5 wr => ∃ k : Nat, v8 = .int .i64 k ∧ k ≤ n ∧ (∀ j, j < k → nMay (ntAt L j) = true) ∧ Below w.heap.size w wr) (fun v8 _ _ => n - (intOf v8).toNat)
  case atStart => exact ⟨0, rfl, Nat.zero_le _, fun j hj => absurd hj (by omega), Below.refl _ _⟩
  case round =>
    obtain ⟨k, rfl, hk, hall, f1⟩ := hrel
    have HALL := Lib.hid hall; clear hall
    by_cases hlt : k < n
    · have d1 : decide ((k : Int) < (n : Int)) = true := by simp; omega
      have b1 : (0 : Int) ≤ (k : Int) := by omega
      have b2 : (k : Int) < (n : Int) := by omega
      obtain ⟨b, off, rfl, hb, q0, q1⟩ := ((h.below f1).more f1.size).net hlt
      have ho := HOK.out (ntAt L k) (by rw [ntAt_eq (by omega)]; exact List.getElem_mem _)
      obtain ⟨x1, x2, hx⟩ : ∃ a b, ntAt L k = (a, b) := ⟨_, _, rfl⟩
      rw [hx] at q0 q1 ho
      have HX := Lib.hid hx; clear hx
      simp only at q0 q1
      have hnm := fun w => notMay_any x1 x2 w ho
      unfold ntV at hnm
      go_wp2_with fail
      refine (hnm wr).mono ?_
      rintro e w2 ⟨rfl, f2⟩
      have f3 := f1.trans (f2.below.mono f1.size)
      cases hm : nMay (x1, x2)
      · go_wp2_with fail
        go_ret
        exact ⟨k, hk, HALL.out, .inr ⟨hlt, by rw [HX.out]; exact hm, rfl⟩, f3⟩
      · go_wp2_with fail
        go_roundw
        case rel =>
          refine ⟨k + 1, by go_num, by omega, fun j hj => ?_, f3⟩
          by_cases e : j = k
          · subst e; rw [HX.out]; exact hm
          · exact HALL.out j (by omega)
        case measure => simp [intOf]; omega
    · have d1 : decide ((k : Int) < (n : Int)) = false := by simp; omega
      go_wp2_with fail
      go_ret
      exact ⟨k, hk, HALL.out, .inl ⟨by omega, rfl⟩, f1⟩
theorem take_keep {L Y : List Nt} {i j : Nat} (hj : j < L.length) (h1 : Y.take i = (L.take j).filter nMay) (hi : i < Y.length) (hm : nMay (ntAt L j) = true) : (Y.set i (ntAt L j)).take (i + 1) = (L.take (j + 1)).filter nMay := by
  have e1 : (Y.set i (ntAt L j)).take (i + 1) = Y.take i ++ [ntAt L j] := by
    rw [List.take_succ_eq_append_getElem (by rw [List.length_set]; exact hi), List.getElem_set_self, List.take_set_of_le (Nat.le_refl _)]
  rw [e1, h1, List.take_succ_eq_append_getElem hj, List.filter_append, ← ntAt_eq hj, List.filter_cons, if_pos hm, List.filter_nil]
theorem take_drop' {L : List Nt} {j : Nat} (hj : j < L.length) (hm : nMay (ntAt L j) = false) : (L.take (j + 1)).filter nMay = (L.take j).filter nMay := by
  rw [List.take_succ_eq_append_getElem hj, List.filter_append, ← ntAt_eq hj, List.filter_cons, if_neg (by rw [hm]; simp), List.filter_nil, List.append_nil]
theorem take_all {L : List Nt} {k : Nat} (hk : k ≤ L.length) (h : ∀ j, j < k → nMay (ntAt L j) = true) : (L.take k).filter nMay = L.take k := by
  rw [List.filter_eq_self]
  intro x hx
  obtain ⟨j, hj, rfl⟩ := List.getElem_of_mem hx
  rw [List.length_take] at hj
  rw [List.getElem_take, ← ntAt_eq (by omega)]
  exact h j (by omega)
theorem drop_at {L Y : List Nt} {j n : Nat} (hl : L.length = n) (hy : Y.length = n) (hj : j < n) (h : Y.drop j = L.drop j) : ntAt Y j = ntAt L j := by
  rw [ntAt_eq (by omega), ntAt_eq (by omega)]
  have h1 := List.getElem_drop (xs := Y) (i := j) (j := 0) (h := by rw [List.length_drop]; omega)
  have h2 := List.getElem_drop (xs := L) (i := j) (j := 0) (h := by rw [List.length_drop]; omega)
  simp only [Nat.add_zero] at h1 h2
  rw [← h1, ← h2]
  simp only [h]
theorem drop_more {L Y : List Nt} {j : Nat} (h : Y.drop j = L.drop j) : Y.drop (j + 1) = L.drop (j + 1) := by
  rw [← List.drop_drop, ← List.drop_drop, h]
theorem drop_set {L Y : List Nt} {i j : Nat} (x : Nt) (hij : i < j) (h : Y.drop j = L.drop j) : (Y.set i x).drop j = L.drop j := by
  rw [List.drop_set_of_lt hij, h]
def DfPost (g c : Nat) (L : List Nt) (w : World) (e : Ending) (w' : World) : Prop := e = .returned (.slice (some ⟨g, 0, none⟩) (L.filter nMay).length c) ∧ Rw w' g c (L.filter nMay) ∧ Below g w w'
set_option maxRecDepth 100000 in
set_option maxHeartbeats 4000000 in
theorem deleteFunc_any (g n c : Nat) (L : List Nt) (w : World) (h : Rw w g c L) (hl : L.length = n) (hok : ∀ x ∈ L, okN x) (hn : n ≤ 1000000) :
    Calls Tryz.prog 33 #[.slice (some ⟨g, 0, none⟩) n c, .func (.func 35) #[] #[]] w (DfPost g c L w) := by
  have rd : RdR ntC 2 w w.heap.size (some ⟨g, 0, none⟩) n L := by have := (h.own (Nat.zero_le g)).rd ntC_len; rwa [hl] at this
  have hgl := h.lt
  have hnc : n ≤ c := by have := h.fits; omega
  have hcm : c ≤ 9223372036854775807 := by have := h.cmax; unfold maxLen at this; omega
  have HOK := Lib.hid hok; clear hok
  have HL := Lib.hid hl
  go_enter Tryz.func33, Tryz.ntmps33
  go_wp2_with fail
  refine (indexMay_any (some ⟨g, 0, none⟩) n c L w rd HOK.out hn).mono ?_
  rintro e w1 ⟨k, hk, hall, hcase, f1⟩
  have HALL := Lib.hid hall; clear hall
  have h1 := h.below f1 hgl
  rcases hcase with ⟨hkn, rfl⟩ | ⟨hlt, hmk, rfl⟩
  · have hfil : L.filter nMay = L := by
      have := take_all (L := L) (k := k) (by omega) HALL.out
      rwa [List.take_of_length_le (by omega)] at this
    have HF := Lib.hid hfil
    clear hfil hkn
    go_wp2_with fail
    go_ret
    exact ⟨by rw [HF.out, HL.out]; rfl, by rw [HF.out]; exact h1, f1.mono (Nat.le_of_lt hgl)⟩
  · have HMK := Lib.hid hmk; clear hmk
    have hne : ((k : Int) == -1) = false := by simp
    have HRD := Lib.hid rd
    clear rd h
    have b0 : (0 : Int) ≤ (k : Int) := by omega
    go_wp2_with fail
    go_loopw [5, 6] (fun v5 v6 wr => ∃ (i j : Nat) (Y : List Nt), v5 = .int .i64 i ∧ v6 = .int .i64 j ∧ i < j ∧ j ≤ n ∧ Y.length = n ∧ Rw wr g c Y ∧ Y.take i = (L.take j).filter nMay ∧ Y.drop j = L.drop j ∧ Below g w wr) (fun _ v6 _ => n - (intOf v6).toNat)
    case atStart =>
      refine ⟨k, k + 1, L, rfl, by go_num, by omega, by omega, HL.out, h1, ?_, rfl, f1.mono (Nat.le_of_lt hgl)⟩
      rw [take_drop' (by omega) HMK.out, take_all (by omega) HALL.out]
    case round =>
      clear h1 f1
      obtain ⟨i, j, Y, rfl, rfl, hij, hj, hY, hr, ht, hd, f1⟩ := hrel
      have HY := Lib.hid hY
      have HT := Lib.hid ht
      have HD := Lib.hid hd
      have hgw : g < wr.heap.size := hr.lt
      have b1 : (0 : Int) ≤ (j : Int) := by omega
      have b3 : (0 : Int) ≤ (i : Int) := by omega
      by_cases hlt2 : j < n
      · have d1 : decide ((j : Int) < (n : Int)) = true := by simp; omega
        have b2 : (j : Int) < (n : Int) := by omega
        have b4 : (i : Int) < (n : Int) := by omega
        obtain ⟨q0, q1⟩ := hr.at_ (j := j) (by omega)
        rw [← ntAt_eq (by omega), drop_at hl hY hlt2 hd] at q0 q1
        have ho := HOK.out (ntAt L j) (by rw [ntAt_eq (by omega)]; exact List.getElem_mem _)
        obtain ⟨x1, x2, hx⟩ : ∃ a b, ntAt L j = (a, b) := ⟨_, _, rfl⟩
        rw [hx] at q0 q1 ho
        have HX := Lib.hid hx
        simp only at q0 q1
        clear hx ht hd hY
        have hnm := fun w => notMay_any x1 x2 w ho
        unfold ntV at hnm
        clear hl
        go_wp2_with fail
        refine (hnm _).mono ?_
        rintro e w2 ⟨rfl, f2⟩
        have hbx := BxS.below (box_cells wr x1 x2) f2.below
        obtain ⟨e0, e1⟩ := hbx
        have f3 : Below wr.heap.size wr w2 := ((Below.refl _ wr).alloc (Nat.le_refl _) _).trans (f2.below.mono (by simp))
        have hr2 := hr.below f3 hgw
        replace f1 := f1.trans (f3.mono (Nat.le_of_lt hgw))
        clear q0 q1 f2 f3 hr hnm
        cases hm : nMay (x1, x2)
        · go_wp2_with fail
          go_roundw
          case rel =>
            refine ⟨i, j + 1, Y, rfl, by go_num, by omega, by omega, HY.out, hr2, ?_, drop_more HD.out, f1⟩
            rw [HT.out, take_drop' (by have := HL.out; omega) (by rw [HX.out]; exact hm)]
          case measure => simp [intOf]; omega
        · obtain ⟨c0, g0⟩ := hr2.cells (i * 2) (by omega)
          obtain ⟨c1, g1⟩ := hr2.cells (i * 2 + 1) (by omega)
          obtain ⟨u0, c0⟩ := Option.isSome_iff_exists.1 c0
          obtain ⟨u1, c1⟩ := Option.isSome_iff_exists.1 c1
          have hy := HY.out
          have hr3 := hr2.set (i := i) (by omega) (x1, x2)
          clear hy
          go_wp2_with fail
          go_roundw
          case rel =>
            refine ⟨i + 1, j + 1, Y.set i (x1, x2), by go_num, by go_num, by omega, by omega, by rw [List.length_set]; exact HY.out, hr3, ?_, drop_set _ (by omega) (drop_more HD.out), (f1.setCell (by exact Nat.le_refl _) _).setCell (by exact Nat.le_refl _) _⟩
            have := take_keep (L := L) (Y := Y) (i := i) (j := j) (by have := HL.out; omega) HT.out (by have := HY.out; omega) (by rw [HX.out]; exact hm)
            rw [HX.out] at this
            exact this
          case measure => simp [intOf]; omega
      · have hjn : j = n := by omega
        have hfl : Y.take i = L.filter nMay := by rw [HT.out, List.take_of_length_le (by omega)]
        have hil : (L.filter nMay).length = i := by rw [← hfl, List.length_take]; omega
        obtain ⟨W, hcl, hrW, fW⟩ := hr.clear (m := i) (n := n) (cc := c - i) (by omega) (by omega) hnc
        rw [hfl] at hrW
        have HI := Lib.hid hil
        have b5 : (i : Int) ≤ (n : Int) := by omega
        have b6 : (i : Int) ≤ (c : Int) := by omega
        have d1 : decide ((j : Int) < (n : Int)) = false := by simp; omega
        have hci : ¬ c = i := by omega
        have hci2 : ¬ i = c := by omega
        clear hil hfl ht hd hY hjn hl
        go_wp2_with fail
        go_ret
        exact ⟨by rw [HI.out]; rfl, hrW, f1.trans fW⟩
theorem wp_append_run {P : Program} {o : Oper} {a : Act} {K : Act → World → Prop} {Q : Exit → Act → World → Prop} {w W : World} {s x : Operand} {t : TypeId} {vs vx v : Value}
    (ho : o.op = .call { callee := .builtin .append, args := #[s, x], argTypes := #[t, t] }) (hs : a.eval s = vs) (hx : a.eval x = vx) (hrun : ∀ ty, (Builtin.append_ #[t, t] ty #[vs, vx]).run P w = .ok v W) (h : K (a.put o.dst v) W) : o.wp P a w K Q := by
  unfold Oper.wp execOp
  simp only [ho, resolve, invoke, builtin, Sem.run_bind, Sem.run_pure, Result.andThen_ok, List.map_toArray, List.map_cons, List.map_nil, hs, hx, hrun]
  exact h
set_option maxRecDepth 100000 in
set_option maxHeartbeats 4000000 in
theorem delete_any (g m c i : Nat) (L : List Nt) (w : World) (h : Rw w g c L) (hl : L.length = m + 1) (hi : i ≤ m) (hn : m ≤ 1000000) :
    Calls Tryz.prog 42 #[.slice (some ⟨g, 0, none⟩) (m + 1) c, .int .i64 (i : Int), .int .i64 ((i + 1 : Nat) : Int)] w fun e w' => e = .returned (.slice (some ⟨g, 0, none⟩) m c) ∧ Rw w' g c (L.eraseIdx i) ∧ Below g w w' := by
  have hnc : m + 1 ≤ c := by have := h.fits; omega
  have hcm : c ≤ 9223372036854775807 := by have := h.cmax; unfold maxLen at this; omega
  have e1 : ((i + 1 : Nat) : Int) = (i : Int) + 1 := by omega
  have b0 : (0 : Int) ≤ (i : Int) := by omega
  have b1 : (0 : Int) ≤ (i : Int) + 1 := by omega
  have b2 : (i : Int) ≤ (i : Int) + 1 := by omega
  have b3 : (i : Int) + 1 ≤ (m : Int) + 1 := by omega
  have b4 : (i : Int) ≤ (m : Int) + 1 := by omega
  have b5 : (m : Int) + 1 ≤ (c : Int) := by omega
  have b6 : (i : Int) ≤ (c : Int) := by omega
  have b7 : (i : Int) + 1 ≤ (c : Int) := by omega
  have b8 : (m : Int) ≤ (c : Int) := by omega
  have b9 : (m : Int) ≤ (m : Int) + 1 := by omega
  have b10 : (0 : Int) ≤ (m : Int) := by omega
  have b11 : (0 : Int) ≤ (m : Int) + 1 := by omega
  have hne : ((i : Int) == (i : Int) + 1) = false := by simp; omega
  have hle : (L.eraseIdx i).length = m := by rw [List.length_eraseIdx, if_pos (by omega)]; omega
  rw [e1]
  clear e1
  go_enter Tryz.func42, Tryz.ntmps42
  go_upto_region 5 with fail
  have hd : Rw w.drew g c L := h
  have hcm2 : ¬ c = m := by omega
  by_cases hcc : c = i + 1
  · have him : i = m := by omega
    subst him
    obtain ⟨W, hrun, hrW, fW⟩ := hd.cut (cc := 0) hl hi ⟨g, 0, none⟩ (fun h => absurd h (by omega))
    rw [Nat.sub_self] at hrun
    subst hcc
    simp only [Nat.add_sub_cancel_left] at *
    obtain ⟨V, hcl, hrV, fV⟩ := hrW.clear (m := i) (n := i + 1) (cc := 1) (by omega) (by omega) hnc
    rw [List.take_of_length_le (by omega)] at hrV
    rw [Nat.add_sub_cancel_left] at hcl
    clear hrW hd h hle hl
    refine wp_region_order (fun _ => True) 99 [(0,0), (1,0), (2,0), (3,0), (4,0), (5,0), (6,1), (7,0)] (by kernel_rfl) (by kernel_rfl) ?_
    simp only [pick, List.filterMap_cons, List.filterMap_nil, List.getElem?_cons_zero, List.getElem?_cons_succ, Option.map_some]
    have hS9 : True := trivial
    refine wpF_take (v := ?_) hS9 rfl ?_ (fun _ _ _ h => h) ?_
    rotate_left
    · intro w' hS'
      obtain _ := hS'
      go_simp <;> rfl
    go_simp
    refine wpF_take (v := ?_) hS9 rfl ?_ (fun _ _ _ h => h) ?_
    rotate_left
    · intro w' hS'
      obtain _ := hS'
      go_simp <;> rfl
    go_simp
    refine wpF_take (v := ?_) hS9 rfl ?_ (fun _ _ _ h => h) ?_
    rotate_left
    · intro w' hS'
      obtain _ := hS'
      go_simp <;> rfl
    go_simp
    refine wpF_take (v := ?_) hS9 rfl ?_ (fun _ _ _ h => h) ?_
    rotate_left
    · intro w' hS'
      obtain _ := hS'
      go_simp <;> rfl
    go_simp
    refine wpF_take (v := ?_) hS9 rfl ?_ (fun _ _ _ h => h) ?_
    rotate_left
    · intro w' hS'
      obtain _ := hS'
      go_simp <;> rfl
    go_simp
    refine wpF_take (v := ?_) hS9 rfl ?_ (fun _ _ _ h => h) ?_
    rotate_left
    · intro w' hS'
      obtain _ := hS'
      go_simp <;> rfl
    go_simp
    refine wpF_only rfl (fun K hK => ?_)
    refine wp_append_run rfl rfl rfl hrun (hK _ _ ⟨fun _ => trivial, ?_⟩)
    clear hrun
    go_simp
    refine wpF_take (v := ?_) hS9 rfl ?_ (fun _ _ _ h => h) ?_
    rotate_left
    · intro w' hS'
      obtain _ := hS'
      go_simp <;> rfl
    go_simp
    refine wpF_nil ?_
    go_wp2_with fail
    go_ret
    exact ⟨rfl, hrV, (Below.refl _ _).drew.trans (fW.trans fV)⟩
  · obtain ⟨W, hrun, hrW, fW⟩ := hd.cut (cc := c - (i + 1)) hl hi ⟨g, (i + 1) * 2, none⟩ (fun _ => rfl)
    obtain ⟨V, hcl, hrV, fV⟩ := hrW.clear (m := m) (n := m + 1) (cc := c - m) (by omega) (by omega) hnc
    rw [List.take_of_length_le (by omega)] at hrV
    rw [Nat.add_sub_cancel_left] at hcl
    clear hrW hd h hle hl
    refine wp_region_order (fun _ => True) 99 [(0,0), (1,0), (2,0), (3,0), (4,0), (5,0), (6,1), (7,0)] (by kernel_rfl) (by kernel_rfl) ?_
    simp only [pick, List.filterMap_cons, List.filterMap_nil, List.getElem?_cons_zero, List.getElem?_cons_succ, Option.map_some]
    have hS9 : True := trivial
    refine wpF_take (v := ?_) hS9 rfl ?_ (fun _ _ _ h => h) ?_
    rotate_left
    · intro w' hS'
      obtain _ := hS'
      go_simp <;> rfl
    go_simp
    refine wpF_take (v := ?_) hS9 rfl ?_ (fun _ _ _ h => h) ?_
    rotate_left
    · intro w' hS'
      obtain _ := hS'
      go_simp <;> rfl
    go_simp
    refine wpF_take (v := ?_) hS9 rfl ?_ (fun _ _ _ h => h) ?_
    rotate_left
    · intro w' hS'
      obtain _ := hS'
      go_simp <;> rfl
    go_simp
    refine wpF_take (v := ?_) hS9 rfl ?_ (fun _ _ _ h => h) ?_
    rotate_left
    · intro w' hS'
      obtain _ := hS'
      go_simp <;> rfl
    go_simp
    refine wpF_take (v := ?_) hS9 rfl ?_ (fun _ _ _ h => h) ?_
    rotate_left
    · intro w' hS'
      obtain _ := hS'
      go_simp <;> rfl
    go_simp
    refine wpF_take (v := ?_) hS9 rfl ?_ (fun _ _ _ h => h) ?_
    rotate_left
    · intro w' hS'
      obtain _ := hS'
      go_simp <;> rfl
    go_simp
    refine wpF_only rfl (fun K hK => ?_)
    refine wp_append_run rfl rfl rfl hrun (hK _ _ ⟨fun _ => trivial, ?_⟩)
    clear hrun
    go_simp
    refine wpF_take (v := ?_) hS9 rfl ?_ (fun _ _ _ h => h) ?_
    rotate_left
    · intro w' hS'
      obtain _ := hS'
      go_simp <;> rfl
    go_simp
    refine wpF_nil ?_
    go_wp2_with fail
    go_ret
    exact ⟨rfl, hrV, (Below.refl _ _).drew.trans (fW.trans fV)⟩
end Go.Proofs.YtddfgalofngoiaaGreatDoor
