/- The law CodeBounds, walked. No condition. -/
import Derived.Test.YtdblgjecbmebjaaCodeAwake
import Derived.Test.YtdblgjecbmebjaaFind
namespace Go.Proofs.Ytdblgjecbmebjaa
open Go.RowKit
set_option linter.unusedVariables false
def fT (s : List UInt8) : Fd := ⟨3, 0, 0, 0, s⟩
def fR (s : List UInt8) : Fd := ⟨4, 0, 0, 0, s⟩
theorem bytesOf_TR (s t : List UInt8) : bytesOf [fT s, fR t] = leb s.length ++ s ++ t := by
  have h : fbytes (fT s) = leb s.length ++ s := by rw [fbytes, show fk (fT s) = 3 from rfl]; rfl
  have h2 : fbytes (fR t) = t := by rw [fbytes, show fk (fR t) = 4 from rfl]; rfl
  simp [bytesOf, h, h2]
theorem RdF.two (w : World) (f f2 : Fd) (g : Nat) (hg : w.heap.size = g) : RdF (w.alloc (.cells (f.cells ++ f2.cells).toArray 32)) (w.alloc (.cells (f.cells ++ f2.cells).toArray 32)).heap.size (some ⟨g, 0, none⟩) 2 [f, f2] := by
  subst hg
  refine ⟨rfl, fun _ => ⟨w.heap.size, 0, rfl, by simp, fun j hj i v hv => ?_⟩⟩
  have k := Blk.of_new w 32 (f.cells ++ f2.cells)
  have hl : f.cells.length = 5 := rfl
  rcases j with _ | _ | j
  · have hi : i < 5 := by
      have := (List.getElem?_eq_some_iff.1 hv).1
      simpa [Fd.cells] using this
    have h2 := (k.cell i).trans ((List.getElem?_append_left (by omega)).trans hv)
    simpa using h2
  · have h2 := (k.cell (5 + i)).trans ((List.getElem?_append_right (by omega)).trans ((congrArg (fun k => f2.cells[k]?) (by omega : 5 + i - f.cells.length = i)).trans hv))
    simpa using h2
  · simp at hj
    omega
set_option maxRecDepth 100000 in
set_option maxHeartbeats 2000000 in
theorem codeBounds_walk (w : World) (s : List UInt8) (hs : s.length ≤ maxLen) (t : List UInt8) (ht : t.length ≤ maxLen) (m : Int) (hm1 : -9223372036854775808 ≤ m) (hm2 : m ≤ 9223372036854775807) :
    Calls Try.prog 5 #[.string (strB s), .string (strB t), .int .i64 m] w fun e w' => e = .returned (.bool true) ∧ Below w.heap.size w w' := by
  have zs := strB_size s
  have zt := strB_size t
  replace hs : s.length ≤ 9223372036854775807 := by simp only [maxLen] at hs; omega
  replace ht : t.length ≤ 9223372036854775807 := by simp only [maxLen] at ht; omega
  go_enter Try.func5, Try.ntmps5
  by_cases hbig : 20000 < s.length ∨ 20000 < t.length
  · have aw : ∀ w : World, Calls Try.prog 12 #[] w fun e w' => e = .returned (.bool true) ∧ Below w.heap.size w w' := awake3_any
    by_cases h1 : 20000 < s.length
    · have d1 : decide ((20000 : Int) < (s.length : Int)) = true := by simp; omega
      go_wp2_with fail
      refine (awake3_any w).mono ?_
      rintro e w1 ⟨rfl, f1⟩
      go_wp2_with fail
      go_ret
      exact ⟨rfl, f1⟩
    · have d1 : decide ((20000 : Int) < (s.length : Int)) = false := by simp; omega
      have d2 : decide ((20000 : Int) < (t.length : Int)) = true := by simp; omega
      go_wp2_with fail
      refine (awake3_any w).mono ?_
      rintro e w1 ⟨rfl, f1⟩
      go_wp2_with fail
      go_ret
      exact ⟨rfl, f1⟩
  · have d1 : decide ((20000 : Int) < (s.length : Int)) = false := by simp; omega
    have d2 : decide ((20000 : Int) < (t.length : Int)) = false := by simp; omega
    have hb1 : s.length ≤ 20000 := by omega
    have hb2 : t.length ≤ 20000 := by omega
    clear hbig
    go_wp2_with fail
    refine (written_any (some ⟨w.heap.size, 0, none⟩) 2 2 [fT s, fR t] _ (RdF.two w (fT s) (fR t) _ rfl) (by simp [Fok, fT, fR]; omega) (by simp [totN, fsz, fT, fR]; omega) (by omega)).mono ?_
    rintro e w1 ⟨A1, c1, rfl, o1, f1⟩
    rw [bytesOf_TR] at o1 ⊢
    replace f1 : Below w.heap.size w w1 := ((Below.refl w.heap.size w).alloc (Nat.le_refl _) _).trans (f1.mono (by simp))
    have hg := grp_le s.length (by omega)
    have hL : (leb s.length ++ s ++ t).length = (leb s.length).length + s.length + t.length := by simp; omega
    have hgl := leb_length s.length (by omega)
    have hft := fun m => findText_own m s t (by omega)
    obtain ⟨L, hLe⟩ : ∃ L, leb s.length ++ s ++ t = L := ⟨_, rfl⟩
    have hdr : L.drop (leb s.length ++ s).length = t := by rw [← hLe, List.drop_left]
    rw [hLe] at o1 hft ⊢
    rw [hLe] at hL
    have HL := Lib.hid hL
    have HG := Lib.hid hgl
    clear hLe hL hgl
    have hN : L.length ≤ 40010 := by have := HL.out; have := HG.out; omega
    generalize hNe : L.length = N at *
    have HN := Lib.hid hNe
    clear hNe
    go_wp2_with fail
    refine (newReader_any A1 N c1 L w1 o1.rd (by omega)).mono ?_
    rintro e w2 ⟨p, b, hp, hb, rfl, R, f2⟩
    replace f2 := f1.trans (f2.mono f1.size)
    go_wp2_with fail
    refine (rText_any p b ⟨L, false⟩ m w2 R (by have := HN.out; simp only; omega) hm1 hm2).mono ?_
    rintro e w3 ⟨rfl, R3, f3⟩
    have hpw : w.heap.size ≤ p := Nat.le_trans f1.size hp
    have F := f2.trans (Below.one f3 f2.size hpw)
    have hts : takeS (findText m) [] ⟨L, false⟩ = (if m < 0 ∨ m < (s.length : Int) then (([] : List UInt8), (⟨L, true⟩ : RS)) else (s, ⟨t, false⟩)) := by
      rw [takeS]
      simp only [Bool.false_eq_true, if_false]
      rw [hft]
      by_cases hh : m < 0 ∨ m < (s.length : Int)
      · rw [if_pos hh, if_pos hh]
      · rw [if_neg hh, if_neg hh]
        simp only
        rw [hdr]
    rw [hts] at R3 ⊢
    clear f1 f2 f3 R hts hft hdr o1
    by_cases hlt : m < (s.length : Int)
    · have d3 : decide (m < (s.length : Int)) = true := by simp; omega
      rw [if_pos (.inr hlt)] at R3 ⊢
      go_wp2_with fail
      refine (err_any p b _ w3 R3).mono ?_
      rintro e w4 ⟨rfl, rfl⟩
      go_wp2_with fail
      refine (left_any p b _ w4 R3).mono ?_
      rintro e w5 ⟨rfl, rfl⟩
      simp only
      rw [HN.out]
      go_wp2_with fail
      refine (awake3_any w5).mono ?_
      rintro e w6 ⟨rfl, f6⟩
      go_wp2_with fail
      go_ret
      exact ⟨rfl, F.trans (f6.mono F.size)⟩
    · have d3 : decide (m < (s.length : Int)) = false := by simp; omega
      rw [if_neg (by omega)] at R3 ⊢
      go_wp2_with fail
      refine (err_any p b _ w3 R3).mono ?_
      rintro e w4 ⟨rfl, rfl⟩
      go_wp2_with fail
      refine (left_any p b _ w4 R3).mono ?_
      rintro e w5 ⟨rfl, rfl⟩
      simp only
      go_wp2_with fail
      refine (rRaw_any p b _ (t.length : Nat) w5 R3 (by simp only; omega)).mono ?_
      rintro e w6 ⟨A6, n6, c6, rfl, o6, R6, f6⟩
      have hra : takeS (findRaw (t.length : Nat)) [] ⟨t, false⟩ = (t, ⟨[], false⟩) := by
        rw [takeS]
        simp [findRaw, show ¬ ((t.length : Int) < 0) from by omega]
      rw [hra] at o6
      have k6 : (convert 28 9 (.slice A6 n6 c6)).run Try.prog w6 = .ok (.string (strB t)) w6 := o6.str
      have F6 := F.trans (Below.one f6 F.size hpw)
      go_wp2_with fail
      refine (awake3_any w6).mono ?_
      rintro e w7 ⟨rfl, f7⟩
      go_wp2_with fail
      go_ret
      exact ⟨rfl, F6.trans (f7.mono F6.size)⟩
end Go.Proofs.Ytdblgjecbmebjaa
