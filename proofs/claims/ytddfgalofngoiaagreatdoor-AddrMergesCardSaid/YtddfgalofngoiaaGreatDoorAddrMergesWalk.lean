/- The law AddrMerges, walked. Condition: the library's variables hold what they should. -/
import Derived.Test.YtddfgalofngoiaaGreatDoorAddrAwake
import Derived.Test.YtddfgalofngoiaaGreatDoorAddrRefD
import Derived.Test.YtddfgalofngoiaaGreatDoorNetSame
import Derived.Test.YtddfgalofngoiaaGreatDoorNetOpen
namespace Go.Proofs.YtddfgalofngoiaaGreatDoor
open Go.RowKit Go.Sort
set_option linter.unusedVariables false
set_option linter.unusedSimpArgs false
set_option maxRecDepth 100000 in
set_option maxHeartbeats 1000000 in
theorem refMerge_any (l : List Nt) (A : Option Addr) (n cap : Nat) (hok : ∀ x ∈ l, okN x) (hn : n ≤ 1000000) (w : World) (hl : RdR ntC 2 w w.heap.size A n l) :
    Calls Tryz.prog 11 #[.slice A n cap] w (MrPost l 32 0 0 w) := by
  have hm := fun w h => refMg_any l A n cap hok hn 32 0 0 w k_root may_root (by omega) h
  unfold ntV MrPost at hm
  unfold MrPost
  go_enter Tryz.func11, Tryz.ntmps11
  go_wp2_with fail
  refine (hm w hl).mono ?_
  rintro e w1 ⟨A1, m1, c1, rfl, ow, f1⟩
  go_wp2_with fail
  go_ret
  exact ⟨A1, m1, c1, rfl, ow, f1⟩
theorem set_same {α : Type} : ∀ {l : List α} {i : Nat} {v : α}, l[i]? = some v → l.set i v = l
  | [], _, _, h => by simp at h
  | x :: l, 0, v, h => by simp at h; subst h; rfl
  | x :: l, i + 1, v, h => by simp at h; rw [List.set_cons_succ, set_same h]
theorem Rw.bits {w : World} {g c i : Nat} {L : List Nt} (h : Rw w g c L) (hi : i < L.length) (b : Int) : Rw (w.setCell ⟨g, i * 2 + 1, none⟩ (.int .i64 b)) g c (L.set i (L[i].1, b)) := by
  obtain ⟨cur, h1, h2, h3, h4, h5⟩ := h
  have hc0 : (flatR ntC L)[i * 2]? = some (.int .u32 (L[i].1 : Int)) := by
    have := flatR_at ntC_len L i hi 0 (by omega)
    rw [Nat.add_zero] at this
    rw [this]; rfl
  refine ⟨_, h1.set _ _, by rw [List.length_set]; exact h2, h3, by rw [List.length_set]; exact h4, ?_⟩
  rw [List.length_set, flatR_set, set_same hc0, ← h5, List.take_set]
set_option maxRecDepth 100000 in
set_option maxHeartbeats 4000000 in
theorem addrMerges_walk (w : World) (hW : LdW w) (A : Option Addr) (n c : Nat) (L : List Nt) (rL : RdR ntC 2 w w.heap.size A n L) (hnc : n ≤ c) (hcm : c ≤ maxLen) (hok : ∀ f ∈ L, okN f) :
    Calls Tryz.prog 3 #[.slice A n c] w fun e w' => e = .returned (.bool true) ∧ Below w.heap.size w w' := by
  have hlt := hW.lt
  go_enter Tryz.func3, Tryz.ntmps3
  by_cases hn : 60 < n
  · have d0 : decide ((60 : Int) < (n : Int)) = true := by simp; omega
    go_wp2_with fail
    refine (awake4_any w hW).mono ?_
    rintro e w1 ⟨rfl, f1⟩
    go_wp2_with fail
    go_ret
    exact ⟨rfl, f1⟩
  have d0 : decide ((60 : Int) < (n : Int)) = false := by simp; omega
  have HOK := Lib.hid hok; clear hok
  go_wp2_with (first | (at_builtin; go_must (refine appendRow TC ntC_len ntC_one rfl rfl rfl (OwnR.empty (Nat.le_refl _)) rfl (rL.below ((Below.refl _ w).alloc (Nat.le_refl _) _)) (by omega) (by simp only [maxLen]; omega) ((Below.refl _ w).alloc (Nat.le_refl _) _) (Nat.le_refl _) ?_); intro A1 c1 w1 o1 f1 _; rw [Nat.zero_add, List.nil_append] at o1; try rw [Nat.zero_add]))
  clear d0
  have rl1 := (rL.below f1).more f1.size
  have r1 := o1.rd ntC_len
  clear o1
  refine (merge_all A n c L w1 rl1 HOK.out (by omega)).mono ?_
  rintro e w2 ⟨Am, m, cm, Y, rfl, hO, hN, hH, hZ, hmn, f2⟩
  have rl2 := (rl1.below f2).more f2.size
  have r2 := (r1.below f2).more f2.size
  have HN := Lib.hid hN; have HH := Lib.hid hH; clear hN hH hZ
  go_wp2_with fail
  refine (refMerge_any L A1 n c1 HOK.out (by omega) w2 r2).mono ?_
  rintro e w3 ⟨A3, m3, c3, rfl, o3, f3⟩
  have hnc' := rMerge_nice L (fun z hz => (HOK.out z hz).1)
  have hY : Y = rMerge L 32 (0, 0) := nice_one HN.out hnc'.1 fun x => (HH.out x).trans (hnc'.2 x).symm
  rw [← hY] at o3
  clear hnc' hY
  have r3 := o3.rd ntC_len
  have hm3 := o3.len
  have rY := (hO.rd.below f3).more f3.size
  have hYm := hO.1
  clear o3
  go_wp2_with fail
  refine (same_any Am A3 m cm m3 c3 Y Y w3 rY r3 (by omega) (by omega)).mono ?_
  rintro e w4 ⟨rfl, q4, rfl⟩
  rw [decide_eq_true rfl]
  have f4 : Below w1.heap.size w1 (w3.drewN q4) := belowN (f2.trans (f3.mono f2.size)) q4
  have hR : m = 0 ∨ ∃ g, Am = some ⟨g, 0, none⟩ ∧ w1.heap.size ≤ g ∧ Rw (w3.drewN q4) g cm Y := by
    rcases hO.2 with h | ⟨g, h1, h2, h3⟩
    · exact .inl h
    · exact .inr ⟨g, h1, h2, (h3.below f3 h3.lt).drewN q4⟩
  clear rY r3 f3 rl2 r2 hO HN HH
  have hm60 : m ≤ 60 := by omega
  generalize w3.drewN q4 = w4 at *
  clear f2
  go_wp2_with fail
  go_loopw [5] (fun s5 wr => ∃ (i : Nat) (Y' : List Nt), i ≤ m ∧ s5 = .int .i64 (i : Int) ∧ Y'.length = m ∧ (m = 0 ∨ ∃ g, Am = some ⟨g, 0, none⟩ ∧ w1.heap.size ≤ g ∧ Rw wr g cm Y') ∧ Below w1.heap.size w1 wr) (fun s5 _ => m - (intOf s5).toNat)
  case atStart => exact ⟨0, Y, Nat.zero_le _, rfl, hYm, hR, f4⟩
  case round =>
    clear hR f4 hYm hm3
    obtain ⟨i, Y', him, rfl, hYl, hR, f4⟩ := hrel
    by_cases hlti : i < m
    · have d1 : decide ((i : Int) < (m : Int)) = true := by simp; omega
      have b1 : (0 : Int) ≤ (i : Int) := by omega
      have b2 : (i : Int) < (m : Int) := by omega
      obtain ⟨g, rfl, hg, hr⟩ : ∃ g, Am = some ⟨g, 0, none⟩ ∧ w1.heap.size ≤ g ∧ Rw wr g cm Y' := by
        rcases hR with h | h
        · omega
        · exact h
      clear hR
      obtain ⟨y0, y1⟩ := hr.at_ (j := i) (by omega)
      have hfz := (hr.cells (i * 2 + 1) (by have := hr.fits; omega)).2
      have hr2 := hr.bits (i := i) (by omega) (-1)
      have f5 := f4.setCell (p := ⟨g, i * 2 + 1, none⟩) hg (.int .i64 (-1))
      clear hr
      go_wp2_with fail
      go_roundw
      case rel => exact ⟨i + 1, _, by omega, by go_num, by rw [List.length_set]; exact hYl, .inr ⟨g, rfl, hg, hr2⟩, f5⟩
      case measure => simp [intOf]; omega
    · have d1 : decide ((i : Int) < (m : Int)) = false := by simp; omega
      have rl5 := (rl1.below f4).more f4.size
      have r5 := (r1.below f4).more f4.size
      go_wp2_with fail
      refine (same_any A A1 n c n c1 L L wr rl5 r5 (by omega) (by omega)).mono ?_
      rintro e w6 ⟨rfl, q6, rfl⟩
      rw [decide_eq_true rfl]
      have f6 := f1.trans ((belowN f4 q6).mono f1.size)
      clear rl5 r5 hR f4
      generalize wr.drewN q6 = w6 at *
      go_wp2_with fail
      refine (awake4_any w6 (hW.below hlt f6)).mono ?_
      rintro e w7 ⟨rfl, f7⟩
      go_wp2_with fail
      go_ret
      exact ⟨rfl, f6.trans (f7.mono f6.size)⟩
end Go.Proofs.YtddfgalofngoiaaGreatDoor
