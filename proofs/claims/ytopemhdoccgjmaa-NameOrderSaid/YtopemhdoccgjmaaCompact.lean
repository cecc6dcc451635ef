/- slices.Compact at a row of names that the call owns. No condition beyond sizes. -/
import Derived.Test.YtopemhdoccgjmaaNames
import Derived.Lib.SlicesCompact
import Derived.Laws.IdiomCopy
import Derived.Lib.LazyBuf
namespace Go.Proofs.Ytopemhdoccgjmaa
open Go.RowKit Go.Lib
set_option linter.unusedVariables false
set_option linter.unusedSimpArgs false
/-- Block g holds the names d in a row from its start on; none of their cells is frozen. -/
def HN (w : World) (g : Nat) (d : Array Nm) : Prop := ∀ j, j < d.size →
  (w.cell? ⟨g, j * 2, none⟩ = some (.string (strB d[j]!.1)) ∧ w.cell? ⟨g, j * 2 + 1, none⟩ = some (.string (strB d[j]!.2))) ∧ w.frozen? ⟨g, j * 2, none⟩ = false ∧ w.frozen? ⟨g, j * 2 + 1, none⟩ = false
theorem HN.drewN {w : World} {g : Nat} {d : Array Nm} (h : HN w g d) (n : Nat) : HN (w.drewN n) g d := h
theorem addr_ne {g i j : Nat} (h : i ≠ j) : (⟨g, i, none⟩ : Addr) ≠ ⟨g, j, none⟩ := fun e => h (by injection e)
theorem HN.set {w : World} {g : Nat} {d : Array Nm} (h : HN w g d) {i : Nat} (hi : i < d.size) (x : Nm) :
    HN ((w.setCell ⟨g, i * 2, none⟩ (.string (strB x.1))).setCell ⟨g, i * 2 + 1, none⟩ (.string (strB x.2))) g (d.setIfInBounds i x) := by
  intro j hj
  rw [Array.size_setIfInBounds] at hj
  obtain ⟨⟨a1, a2⟩, a3, a4⟩ := h j hj
  obtain ⟨⟨b1, b2⟩, b3, b4⟩ := h i hi
  refine ⟨?_, by rw [World.frozen?_setCell, World.frozen?_setCell]; exact a3, by rw [World.frozen?_setCell, World.frozen?_setCell]; exact a4⟩
  by_cases e : j = i
  · subst e
    have hg : (d.setIfInBounds j x)[j]! = x := by simp [hi]
    rw [hg]
    refine ⟨?_, ?_⟩
    · rw [World.cell?_setCell_other _ _ _ _ (addr_ne (by omega))]
      exact World.cell?_setCell_same _ _ _ b1
    · exact World.cell?_setCell_same _ _ _ ((World.cell?_setCell_other _ _ _ _ (addr_ne (by omega))).trans b2)
  · have hg : (d.setIfInBounds i x)[j]! = d[j]! := by
      simp [Array.getElem!_eq_getD, Array.getD, Array.getElem_setIfInBounds, hj, Ne.symm e]
    rw [hg]
    refine ⟨?_, ?_⟩
    · rw [World.cell?_setCell_other _ _ _ _ (addr_ne (by omega)), World.cell?_setCell_other _ _ _ _ (addr_ne (by omega))]
      exact a1
    · rw [World.cell?_setCell_other _ _ _ _ (addr_ne (by omega)), World.cell?_setCell_other _ _ _ _ (addr_ne (by omega))]
      exact a2
theorem HN.rd {w : World} {g B n m : Nat} {d : Array Nm} {L : List Nm} (h : HN w g d) (hg : g < B) (hm : L.length = m) (hl : ∀ j, j < m → L[j]? = some d[j]!) (hs : m ≤ d.size) : RdN w B (some ⟨g, 0, none⟩) m L := by
  refine ⟨hm, fun _ => ⟨g, 0, rfl, hg, fun j hj i v hv => ?_⟩⟩
  have e := hl j (by omega)
  have e2 : L[j] = d[j]! := by
    rw [List.getElem?_eq_getElem hj] at e
    injection e
  rw [e2] at hv
  obtain ⟨⟨a1, a2⟩, _⟩ := h j (by omega)
  rw [Nat.zero_add]
  match i with
  | 0 => rw [Nat.add_zero, a1]; exact hv
  | 1 => rw [a2]; exact hv
  | _ + 2 => simp [nmC] at hv
theorem zero_name (w : World) : (zeroValue 24).run Try.prog w = .ok (.agg #[.string (strB []), .string (strB [])]) w := by
  go_simp
  rfl
/-- 'clear' of what is left. -/
theorem clear_rest {w : World} {g n k c : Nat} {d : Array Nm} (h : HN w g d) (hs : d.size = n) (hk : k < n) :
    ∃ W, (∀ ty, (Builtin.clear_ #[38] ty #[.slice (some ⟨g, k * 2, none⟩) (n - k) c]).run Try.prog w = .ok (.tuple #[]) W) ∧ (∀ j, j < k * 2 → W.cell? ⟨g, j, none⟩ = w.cell? ⟨g, j, none⟩) ∧ Below g w W := by
  obtain ⟨m, hm⟩ : ∃ m, n - k = m + 1 := ⟨n - k - 1, by omega⟩
  have hzl : (Builtin.zeroCells (Value.agg #[.string (strB []), .string (strB [])]).cells (n - k)).toList.length = (n - k) * 2 := by
    simp [Builtin.zeroCells, Value.cells]
  have hz1 : ∀ v ∈ (Builtin.zeroCells (Value.agg #[.string (strB []), .string (strB [])]).cells (n - k)).toList, v.oneCell' = true := by
    intro v hv
    simp only [Builtin.zeroCells, Value.cells, Array.toList_map, List.mem_map] at hv
    obtain ⟨i, _, rfl⟩ := hv
    have : i % 2 = 0 ∨ i % 2 = 1 := by omega
    rcases this with e | e <;> simp [e] <;> rfl
  generalize hZ : (Builtin.zeroCells (Value.agg #[.string (strB []), .string (strB [])]).cells (n - k)).toList = Z at *
  have hc : ∀ j, j < Z.length → (w.cell? ⟨g, k * 2 + 0 + j, none⟩).isSome = true ∧ w.frozen? ⟨g, k * 2 + 0 + j, none⟩ = false := by
    intro j hj
    have hj2 : (k * 2 + j) / 2 < d.size := by omega
    obtain ⟨⟨a1, a2⟩, a3, a4⟩ := h _ hj2
    rcases (show j % 2 = 0 ∨ j % 2 = 1 by omega) with e | e
    · rw [show k * 2 + 0 + j = (k * 2 + j) / 2 * 2 by omega]
      exact ⟨by rw [a1]; rfl, a3⟩
    · rw [show k * 2 + 0 + j = (k * 2 + j) / 2 * 2 + 1 by omega]
      exact ⟨by rw [a2]; rfl, a4⟩
  have hst := run_storeCells_cells (P := Try.prog) g (k * 2) Z 0 w (fun j hj => (hc j hj).1) (fun j hj => (hc j hj).2) hz1
  refine ⟨w.setCells g (k * 2) Z, ?_, fun j hj => ?_, _root_.Go.below_setCells (Nat.le_refl g) _ _ _ (Below.refl _ _)⟩
  · intro ty
    rw [hm] at hZ ⊢
    have hz' : (Builtin.zeroCells (Value.agg #[Value.string { data := #[] }, Value.string { data := #[] }]).cells (m + 1)).toList = Z := hZ
    simp [Builtin.clear_, run_underlying Try.underlying38, zero_name, hz', hst]
  · exact World.cell?_setCells_out g Z (k * 2) w _ (fun _ _ => .inl (by simp only; omega))
set_option maxRecDepth 100000 in
set_option maxHeartbeats 4000000 in
theorem compact_any (g n c : Nat) (d : Array Nm) (w : World) (h : HN w g d) (hs : d.size = n) (hc : n ≤ c) (hn : n ≤ 9223372036854775807) (hg : g < w.heap.size) :
    Calls Try.prog 29 #[.slice (some ⟨g, 0, none⟩) n c] w fun e w' => ∃ m, e = .returned (.slice (some ⟨g, 0, none⟩) m c) ∧ RdN w' w'.heap.size (some ⟨g, 0, none⟩) m (compactUpTo d d.size) ∧ Below g w w' := by
  have same : ∀ w' : World, Below g w w' → HN w' g d → (∀ j, j < n → keeps d j = true) → RdN w' w'.heap.size (some ⟨g, 0, none⟩) n (compactUpTo d d.size) := by
    intro w' hb hh hall
    have e : compactUpTo d d.size = d.toList := by rw [compactUpTo_all d _ (fun j hj => hall j (by omega)), range_map_get]
    rw [e]
    exact hh.rd (n := n) (Nat.lt_of_lt_of_le hg hb.size) (by simp [hs]) (fun j hj => by simp [show j < d.size by omega]) (by omega)
  have SAME := Lib.hid same; clear same
  have HH := Lib.hid h; clear h
  by_cases h2 : n < 2
  · have d0 : decide ((n : Int) < 2) = true := by simp; omega
    go_enter Try.func29, Try.ntmps29
    go_wp2_with fail
    go_ret
    exact ⟨n, rfl, SAME.out w (Below.refl _ _) HH.out (fun j hj => keeps_lt_one d j (by omega)), Below.refl _ _⟩
  have d0 : decide ((n : Int) < 2) = false := by simp; omega
  go_enter Try.func29, Try.ntmps29
  go_wp2_with fail
  go_loopw [3] (fun i wr => ∃ k q : Nat, i = .int .i64 k ∧ 1 ≤ k ∧ k ≤ n ∧ wr = w.drewN q ∧ ∀ j, j < k → keeps d j = true) (fun i _ => n - (intOf i).toNat)
  case atStart => exact ⟨1, 0, rfl, Nat.le_refl _, by omega, rfl, keeps_lt_one d⟩
  case round =>
    obtain ⟨k, q, rfl, hk1, hk, rfl, hall⟩ := hrel
    have HALL := Lib.hid hall; clear hall
    by_cases hlt : k < n
    · have d1 : decide ((k : Int) < (n : Int)) = true := by simp; omega
      have b1 : (0 : Int) ≤ (k : Int) := by omega
      have b2 : (k : Int) < (n : Int) := by omega
      have b3 : (0 : Int) ≤ (k : Int) - 1 := by omega
      have b4 : (k : Int) - 1 < (n : Int) := by omega
      have e1 : ((k : Int) - 1).toNat = k - 1 := by omega
      obtain ⟨⟨c0, c1⟩, _⟩ := HH.out k (by omega)
      obtain ⟨⟨p0, p1⟩, _⟩ := HH.out (k - 1) (by omega)
      obtain ⟨x, y, hxy⟩ : ∃ x y, d[k]! = (x, y) := ⟨_, _, rfl⟩
      obtain ⟨u, v, huv⟩ : ∃ u v, d[k - 1]! = (u, v) := ⟨_, _, rfl⟩
      rw [hxy] at c0 c1
      rw [huv] at p0 p1
      simp only at c0 c1 p0 p1
      have HXY := Lib.hid hxy; clear hxy
      have HUV := Lib.hid huv; clear huv
      have qe := fun w : World => run_nm_eq x y u v w
      by_cases hd : (x, y) = (u, v)
      · rw [decide_eq_true hd] at qe
        have HD := Lib.hid hd; clear hd
        go_wp2_with fail
        go_quiet (fail)
        have hst : CompInv d (k + 1) k d := CompInv.start HALL.out (keeps_neg (by omega) (by rw [HXY.out, HUV.out]; exact HD.out))
        have HST := Lib.hid hst; clear hst
        go_wp2_with fail
        go_loopw [3, 5] (fun i j wr => ∃ (kk k2 : Nat) (dk : Array Nm), i = .int .i64 kk ∧ j = .int .i64 k2 ∧ 1 ≤ k2 ∧ k + k2 ≤ n ∧ HN wr g dk ∧ Below g w wr ∧ CompInv d (k + k2) kk dk) (fun _ j _ => n - (intOf j).toNat)
        case atStart => exact ⟨k, 1, d, rfl, rfl, Nat.le_refl _, by omega, by first | exact HH.out.drewN _ | exact HH.out, by first | exact belowN (belowN (Below.refl _ _) _) _ | exact belowN (Below.refl _ _) _, HST.out⟩
        case round =>
          clear c0 c1 p0 p1 qe b1 b2 b3 b4 e1
          obtain ⟨kk, k2, dk, rfl, rfl, h1, hle, hh, hb, hI⟩ := hrel
          have hkk := hI.lt
          have hds := hI.size
          have HI := Lib.hid hI
          have HHK := Lib.hid hh
          by_cases hlt2 : k + k2 < n
          · have d2 : decide ((k2 : Int) < (n : Int) - (k : Int)) = true := by simp; omega
            have d2' : decide ((k2 : Int) < ((n - k : Nat) : Int)) = true := by simp; omega
            have b1 : (0 : Int) ≤ (k2 : Int) := by omega
            have b2 : (k2 : Int) < ((n - k : Nat) : Int) := by omega
            have b3 : (0 : Int) ≤ (k2 : Int) - 1 := by omega
            have b4 : (k2 : Int) - 1 < ((n - k : Nat) : Int) := by omega
            have e1 : ((k2 : Int) - 1).toNat = k2 - 1 := by omega
            obtain ⟨⟨c0, c1⟩, _⟩ := hh (k + k2) (by omega)
            obtain ⟨⟨p0, p1⟩, _⟩ := hh (k + k2 - 1) (by omega)
            obtain ⟨⟨o0, o1⟩, z0, z1⟩ := hh kk (by omega)
            rw [hI.high (k + k2) (by omega)] at c0 c1
            rw [hI.high (k + k2 - 1) (by omega)] at p0 p1
            obtain ⟨x', y', hxy2⟩ : ∃ x y, d[k + k2]! = (x, y) := ⟨_, _, rfl⟩
            obtain ⟨u', v', huv2⟩ : ∃ u v, d[k + k2 - 1]! = (u, v) := ⟨_, _, rfl⟩
            rw [hxy2] at c0 c1
            rw [huv2] at p0 p1
            simp only at c0 c1 p0 p1
            rw [show (k + k2) * 2 = k * 2 + k2 * 2 by omega] at c0 c1
            rw [show (k + k2 - 1) * 2 = k * 2 + (k2 - 1) * 2 by omega] at p0 p1
            have HXY2 := Lib.hid hxy2; clear hxy2
            have HUV2 := Lib.hid huv2; clear huv2
            generalize strB dk[kk]!.1 = O0 at *
            generalize strB dk[kk]!.2 = O1 at *
            clear hh hI
            have qe := fun w : World => run_nm_eq x' y' u' v' w
            by_cases hd2 : (x', y') = (u', v')
            · rw [decide_eq_true hd2] at qe
              have HD2 := Lib.hid hd2; clear hd2
              go_wp2_with fail
              go_quiet (fail)
              go_wp2_with fail
              go_roundw
              case rel =>
                refine ⟨kk, k2 + 1, dk, rfl, by go_num, by omega, by omega, by first | exact HHK.out.drewN _ | exact HHK.out, by first | exact belowN hb _ | exact hb, ?_⟩
                rw [show k + (k2 + 1) = k + k2 + 1 by omega]
                exact HI.out.skip (keeps_neg (by omega) (by rw [HXY2.out, HUV2.out]; exact HD2.out))
              case measure => simp [intOf]; omega
            · rw [decide_eq_false hd2] at qe
              have HD2 := Lib.hid hd2; clear hd2
              have hx2 : d[k + k2]! = (x', y') := HXY2.out
              have HX3 := Lib.hid hx2; clear hx2
              go_wp2_with fail
              go_quiet (fail)
              go_wp2_with fail
              go_roundw
              case rel =>
                refine ⟨kk + 1, k2 + 1, dk.setIfInBounds kk (x', y'), by go_num, by go_num, by omega, by omega, (HHK.out.drewN _).set (by omega) (x', y'), ((belowN hb _).setCell (Nat.le_refl g) _).setCell (Nat.le_refl g) _, ?_⟩
                have := HI.out.keep (by omega) (keeps_pos (by rw [HXY2.out, HUV2.out]; exact HD2.out))
                rw [HX3.out] at this
                rw [show k + (k2 + 1) = k + k2 + 1 by omega]
                exact this
              case measure => simp [intOf]; omega
          · have d2 : decide ((k2 : Int) < ((n - k : Nat) : Int)) = false := by simp; omega
            have hkn : k + k2 = n := by omega
            obtain ⟨W, hcl, hlow, hbW⟩ := clear_rest (k := kk) (c := c - kk) hh (hds.trans hs) (by omega)
            have HLOW := Lib.hid hlow; clear hlow
            have b1 : (0 : Int) ≤ (kk : Int) := by omega
            have b2 : (kk : Int) ≤ (n : Int) := by omega
            have b3 : (kk : Int) ≤ (c : Int) := by omega
            clear hh hI
            go_wp2_with fail
            go_ret
            have hI := HI.out
            rw [hkn] at hI
            have hW : Below g w W := hb.trans hbW
            refine ⟨kk, rfl, ⟨by rw [hs]; exact hI.len, fun _ => ⟨g, 0, rfl, Nat.lt_of_lt_of_le hg hW.size, fun j hj i v hv => ?_⟩⟩, hW⟩
            have hj2 : j < kk := by rw [hs, hI.len] at hj; exact hj
            have e := hI.low j hj2
            have e2 : (compactUpTo d d.size)[j] = dk[j]! := by
              rw [← hs, List.getElem?_eq_getElem hj] at e
              injection e
            rw [e2] at hv
            obtain ⟨⟨a1, a2⟩, _⟩ := HHK.out j (by omega)
            rw [Nat.zero_add]
            match i with
            | 0 => rw [Nat.add_zero, HLOW.out _ (by omega), a1]; exact hv
            | 1 => rw [HLOW.out _ (by omega), a2]; exact hv
            | _ + 2 => simp [nmC] at hv
      · rw [decide_eq_false hd] at qe
        have HD := Lib.hid hd; clear hd
        go_wp2_with fail
        go_quiet (fail)
        go_wp2_with fail
        go_roundw
        case rel =>
          refine ⟨k + 1, q + nq, by go_num, by omega, by omega, ?_, fun j hj => ?_⟩
          · rfl
          · by_cases e : j = k
            · subst e
              exact keeps_pos (by rw [HXY.out, HUV.out]; exact HD.out)
            · exact HALL.out j (by omega)
        case measure => simp [intOf]; omega
    · have d1 : decide ((k : Int) < (n : Int)) = false := by simp; omega
      go_wp2_with fail
      go_ret
      have e : k = n := by omega
      exact ⟨n, rfl, SAME.out _ (belowN (Below.refl _ _) _) (HH.out.drewN q) (fun j hj => HALL.out j (by omega)), belowN (Below.refl _ _) _⟩
end Go.Proofs.Ytopemhdoccgjmaa
