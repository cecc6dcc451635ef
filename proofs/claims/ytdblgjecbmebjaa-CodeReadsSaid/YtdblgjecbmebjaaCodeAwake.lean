/- The awake of the laws of layer 3: true. No condition. -/
import Derived.Test.YtdblgjecbmebjaaPut
namespace Go.Proofs.Ytdblgjecbmebjaa
open Go.RowKit
set_option linter.unusedVariables false
theorem Rr.off1 {w w' : World} {p b q : Nat} {s : RS} (h : Rr w p b s) (hb : Off (fun k => k = q) w w') (h1 : p ≠ q) (h2 : b ≠ q) : Rr w' p b s := h.off hb h1 h2
theorem Rr.below {w w' : World} {p b : Nat} {s : RS} (h : Rr w p b s) (hb : Below w.heap.size w w') : Rr w' p b s := h.off (Off.of_all hb) id id
theorem Rr.plt {w : World} {p b : Nat} {s : RS} (h : Rr w p b s) : p < w.heap.size := by
  obtain ⟨_, A, n, c, k, _⟩ := h
  exact k.lt
theorem Rr.blt {w : World} {p b : Nat} {s : RS} (h : Rr w p b s) (hl : s.l ≠ []) : b < w.heap.size := by
  obtain ⟨_, A, n, c, k, r, _⟩ := h
  have h1 := r.1
  have : s.l.length ≠ 0 := fun e => hl (List.eq_nil_of_length_eq_zero e)
  obtain ⟨off, _, h2, _⟩ := r.2 (by omega)
  exact h2
theorem Below.one {w w' : World} {q B : Nat} (h : Off (fun k => k = q) w w') (hB : B ≤ w.heap.size) (hq : B ≤ q) : Below B w w' := h.below hB fun k hk => by have : k = q := hk; omega
theorem OwnB.str {w : World} {base : Nat} {A : Option Addr} {n c : Nat} {l : List UInt8} (h : OwnB w base 5 (.slice A n c) l) : (convert 28 9 (.slice A n c)).run Try.prog w = .ok (.string (strB l)) w := run_str T23 h.rd c _ Try.underlying9
set_option maxRecDepth 100000 in
set_option maxHeartbeats 4000000 in
theorem awake3_any (w : World) : Calls Try.prog 12 #[] w fun e w' => e = .returned (.bool true) ∧ Below w.heap.size w w' := by
  go_enter Try.func12, Try.ntmps12
  go_wp2_with fail
  refine (newWriter_any w).mono ?_
  rintro e w1 ⟨rfl, h1, f1⟩
  have p1 : w.heap.size < w1.heap.size := h1.lt
  go_wp2_with fail
  refine (wU8_any w.heap.size none 0 0 [] 7 w1 h1 (by omega)).mono ?_
  rintro e w2 ⟨rfl, A2, c2, h2, d2⟩
  go_wp2_with fail
  refine (wU32_any w.heap.size A2 _ c2 _ 258 w2 (by omega) h2 (by decide)).mono ?_
  rintro e w3 ⟨rfl, A3, c3, h3, d3⟩
  replace d3 := d2.trans d3
  go_wp2_with fail
  refine (wUint_any w.heap.size A3 _ c3 _ 300 w3 (by omega) h3 (by decide)).mono ?_
  rintro e w4 ⟨rfl, A4, c4, h4, d4⟩
  replace d4 := d3.trans d4
  clear d2 d3 h1 h2 h3
  go_wp2_with fail
  refine (wText_any w.heap.size A4 _ c4 _ [97, 98] w4 h4 (by decide +kernel)).mono ?_
  rintro e w5 ⟨rfl, A5, c5, h5, d5⟩
  replace d5 := d4.trans d5
  clear d4 h4
  go_wp2_with fail
  refine (wRaw_any w.heap.size A5 _ c5 _ _ 2 2 [5, 6] _ (h5.alloc _) ((Blk.of_new w5 5 (bvs [5, 6])).rdB rfl) (by decide +kernel)).mono ?_
  rintro e w6 ⟨rfl, A6, c6, h6, d6⟩
  replace d6 := d5.trans ((Wrote.alloc w5 w.heap.size A5 _).trans d6)
  clear d5 h5
  have L1 : [] ++ [7] ++ le32 258 ++ leb 300 ++ leb ([97, 98] : List UInt8).length ++ [97, 98] ++ [5, 6] = ([7, 2, 1, 0, 0, 172, 2, 2, 97, 98, 5, 6] : List UInt8) := by decide +kernel
  rw [L1] at h6
  clear L1
  have F : Below w.heap.size w w6 := f1.trans (d6.2.below f1.size (fun k hk => by
    rcases hk with rfl | ⟨x, hx, _⟩
    · exact Nat.le_refl _
    · cases hx))
  have s6 : w1.heap.size ≤ w6.heap.size := d6.2.size
  clear f1 d6
  have hb1 : ∀ k, isB A6 k → k < w6.heap.size := fun k hk => (h6.2.isB_lt hk).2
  go_wp2_with fail
  refine (newWriter_any w6).mono ?_
  rintro e w7 ⟨rfl, h7, f7⟩
  have p2 : w6.heap.size < w7.heap.size := h7.lt
  go_wp2_with fail
  refine (put_any w6.heap.size none 0 0 [] (some ⟨w7.heap.size, 0, none⟩) 3 3 [0, 127, 128] _ (h7.alloc _) ⟨rfl, fun _ => ⟨w7.heap.size, 0, rfl, by simp, fun j hj => ?_⟩⟩ (fun k hk => ?_) (by intro x hx; simp at hx; omega) (by decide)).mono ?_
  · have k7 : Blk (w7.alloc (.cells #[.int .u64 0, .int .u64 127, .int .u64 128] 30)) w7.heap.size 30 [.int .u64 0, .int .u64 127, .int .u64 128] := Blk.newAt rfl _ _
    rcases j with _ | _ | _ | j
    · exact k7.cell 0
    · exact k7.cell 1
    · exact k7.cell 2
    · simp at hj
      omega
  · obtain ⟨x, hx, rfl⟩ := hk
    injection hx with hx
    subst hx
    refine ⟨by simp only; omega, ?_⟩
    rintro ⟨y, hy, _⟩
    cases hy
  rintro e w8 ⟨rfl, A8, c8, h8, d8⟩
  have L2 : [] ++ lebs [0, 127, 128] = ([0, 127, 128, 1] : List UInt8) := by decide +kernel
  rw [L2] at h8
  clear L2 h7
  have G1 : Below w6.heap.size w6 w8 := f7.trans (((Wrote.alloc w7 w6.heap.size none _).trans d8).2.below f7.size (fun k hk => by
    rcases hk with rfl | ⟨x, hx, _⟩
    · exact Nat.le_refl _
    · cases hx))
  have s8 : w7.heap.size ≤ w8.heap.size := ((Wrote.alloc w7 w6.heap.size none _).trans d8).2.size
  clear d8 f7
  have hb2 : ∀ k, isB A8 k → k < w8.heap.size := fun k hk => (h8.2.isB_lt hk).2
  go_wp2_with fail
  refine (newReader_any (some ⟨w8.heap.size, 0, none⟩) 2 2 [128, 1] _ ((Blk.of_new w8 5 (bvs [128, 1])).rdB rfl) (by omega)).mono ?_
  rintro e w9 ⟨pa, ba, qa, ra, rfl, Ra, fa⟩
  replace fa := ((Below.refl w8.heap.size w8).alloc (Nat.le_refl _) (.cells (bvs [128, 1]).toArray 5)).trans (fa.mono (by simp))
  replace qa : w8.heap.size ≤ pa := by simp at qa; omega
  replace ra : w8.heap.size ≤ ba := by simp at ra; omega
  have ta := Ra.plt
  have ua := Ra.blt (by decide)
  have va := fa.size
  have G2 : Below w8.heap.size w8 w9 := fa
  clear fa
  go_wp2_with fail
  refine (newReader_any (some ⟨w9.heap.size, 0, none⟩) 2 2 [128, 0] _ ((Blk.of_new w9 5 (bvs [128, 0])).rdB rfl) (by omega)).mono ?_
  rintro e w10 ⟨pb, bb, qb, rb, rfl, Rb, fb⟩
  replace fb := ((Below.refl w9.heap.size w9).alloc (Nat.le_refl _) (.cells (bvs [128, 0]).toArray 5)).trans (fb.mono (by simp))
  replace qb : w9.heap.size ≤ pb := by simp at qb; omega
  replace rb : w9.heap.size ≤ bb := by simp at rb; omega
  have tb := Rb.plt
  have ub := Rb.blt (by decide)
  have vb := fb.size
  replace Ra := Ra.below fb
  replace G2 := G2.trans (fb.mono G2.size)
  clear fb
  go_wp2_with fail
  refine (newReader_any (some ⟨w10.heap.size, 0, none⟩) 3 3 [2, 97, 98] _ ((Blk.of_new w10 5 (bvs [2, 97, 98])).rdB rfl) (by omega)).mono ?_
  rintro e w11 ⟨pc, bc, qc, rc, rfl, Rc, fc⟩
  replace fc := ((Below.refl w10.heap.size w10).alloc (Nat.le_refl _) (.cells (bvs [2, 97, 98]).toArray 5)).trans (fc.mono (by simp))
  replace qc : w10.heap.size ≤ pc := by simp at qc; omega
  replace rc : w10.heap.size ≤ bc := by simp at rc; omega
  have tc := Rc.plt
  have uc := Rc.blt (by decide)
  have vc := fc.size
  replace Ra := Ra.below fc
  replace Rb := Rb.below fc
  replace G2 := G2.trans (fc.mono G2.size)
  clear fc
  go_wp2_with fail
  refine (rUint_any pa ba _ w11 Ra).mono ?_
  rintro e w12 ⟨rfl, Ra, fa⟩
  replace Rb := Rb.off1 fa (by omega) (by omega)
  replace Rc := Rc.off1 fa (by omega) (by omega)
  replace G2 := G2.trans (Below.one fa G2.size (by have := G2.size; omega))
  have zw12 := fa.size
  clear fa
  rw [show takeS findShort 0 ⟨[128, 1], false⟩ = (128, ⟨[], false⟩) from by rw [takeS, show findShort [128, 1] = some (128, 2) from by decide +kernel]; rfl] at *
  go_wp2_with fail
  refine (rUint_any pb bb _ w12 Rb).mono ?_
  rintro e w13 ⟨rfl, Rb, fb⟩
  replace Ra := Ra.off1 fb (by omega) (by omega)
  replace Rc := Rc.off1 fb (by omega) (by omega)
  replace G2 := G2.trans (Below.one fb G2.size (by have := G2.size; omega))
  have zw13 := fb.size
  clear fb
  rw [show takeS findShort 0 ⟨[128, 0], false⟩ = (0, ⟨[128, 0], true⟩) from by rw [takeS, show findShort [128, 0] = none from by decide +kernel]; rfl] at *
  go_wp2_with fail
  refine (rText_any pc bc _ 1 w13 Rc (by decide) (by omega) (by omega)).mono ?_
  rintro e w14 ⟨rfl, Rc, fc⟩
  replace Ra := Ra.off1 fc (by omega) (by omega)
  replace Rb := Rb.off1 fc (by omega) (by omega)
  replace G2 := G2.trans (Below.one fc G2.size (by have := G2.size; omega))
  have zw14 := fc.size
  clear fc
  rw [show takeS (findText 1) [] ⟨[2, 97, 98], false⟩ = ([], ⟨[2, 97, 98], true⟩) from by rw [takeS, show findText 1 [2, 97, 98] = none from by decide +kernel]; rfl] at *
  go_wp2_with fail
  refine (newReader_any (some ⟨w14.heap.size, 0, none⟩) 2 2 [7, 8] _ ((Blk.of_new w14 5 (bvs [7, 8])).rdB rfl) (by omega)).mono ?_
  rintro e w15 ⟨pd, bd, qd, rd, rfl, Rd, fd⟩
  replace fd := ((Below.refl w14.heap.size w14).alloc (Nat.le_refl _) (.cells (bvs [7, 8]).toArray 5)).trans (fd.mono (by simp))
  replace qd : w14.heap.size ≤ pd := by simp at qd; omega
  replace rd : w14.heap.size ≤ bd := by simp at rd; omega
  have td := Rd.plt
  have ud := Rd.blt (by decide)
  have vd := fd.size
  replace Ra := Ra.below fd
  replace Rb := Rb.below fd
  replace Rc := Rc.below fd
  replace G2 := G2.trans (fd.mono G2.size)
  clear fd
  go_wp2_with fail
  have G1' : Below w6.heap.size w6 w15 := G1.trans (G2.mono G1.size)
  have h6' := h6.off (Off.of_below G1') (fun h => by have h' : w6.heap.size ≤ w.heap.size := h; omega) (fun k hk h => by have := hb1 k hk; have h' : w6.heap.size ≤ k := h; omega)
  refine (bytes_any _ _ _ _ _ w15 h6' (by decide)).mono ?_
  rintro e w100 ⟨Ax, cx, rfl, ox, fx⟩
  have kx : (convert 28 9 (.slice Ax 12 cx)).run Try.prog w100 = .ok (.string (strB [7, 2, 1, 0, 0, 172, 2, 2, 97, 98, 5, 6])) w100 := ox.str
  replace G2 := G2.trans (fx.mono G2.size)
  replace Ra := Ra.below fx
  replace Rb := Rb.below fx
  replace Rc := Rc.below fx
  replace Rd := Rd.below fx
  clear fx h6' G1'
  go_wp2_with fail
  have h8' := h8.off (Off.of_below G2) (fun h => by have h' : w8.heap.size ≤ w6.heap.size := h; omega) (fun k hk h => by have := hb2 k hk; have h' : w8.heap.size ≤ k := h; omega)
  refine (bytes_any _ _ _ _ _ w100 h8' (by decide)).mono ?_
  rintro e w101 ⟨Ay, cy, rfl, oy, fy⟩
  have ky : (convert 28 9 (.slice Ay 4 cy)).run Try.prog w101 = .ok (.string (strB [0, 127, 128, 1])) w101 := oy.str
  replace G2 := G2.trans (fy.mono G2.size)
  replace Ra := Ra.below fy
  replace Rb := Rb.below fy
  replace Rc := Rc.below fy
  replace Rd := Rd.below fy
  clear fy h8' kx ox
  go_wp2_with fail
  refine (end_any pa ba _ w101 Ra).mono ?_
  rintro e w102 ⟨rfl, Ra, fa⟩
  replace Rb := Rb.off1 fa (by omega) (by omega)
  replace Rc := Rc.off1 fa (by omega) (by omega)
  replace Rd := Rd.off1 fa (by omega) (by omega)
  replace G2 := G2.trans (Below.one fa G2.size (by have := G2.size; omega))
  have zw102 := fa.size
  clear fa
  simp only [List.isEmpty_nil, Bool.not_true, Bool.or_false, Bool.false_eq_true, if_false] at *
  go_wp2_with fail
  refine (err_any pb bb _ w102 Rb).mono ?_
  rintro e wz ⟨rfl, rfl⟩
  go_wp2_with fail
  refine (rU8_any pc bc _ wz Rc).mono ?_
  rintro e w103 ⟨rfl, Rc, fc⟩
  replace Ra := Ra.off1 fc (by omega) (by omega)
  replace Rb := Rb.off1 fc (by omega) (by omega)
  replace Rd := Rd.off1 fc (by omega) (by omega)
  replace G2 := G2.trans (Below.one fc G2.size (by have := G2.size; omega))
  have zw103 := fc.size
  clear fc
  rw [show takeS findU8 0 ⟨[2, 97, 98], true⟩ = (0, ⟨[2, 97, 98], true⟩) from rfl] at *
  go_wp2_with fail
  refine (left_any pc bc _ w103 Rc).mono ?_
  rintro e wy ⟨rfl, rfl⟩
  go_wp2_with fail
  refine (rU8_any pd bd _ wy Rd).mono ?_
  rintro e w104 ⟨rfl, Rd, fd⟩
  replace Ra := Ra.off1 fd (by omega) (by omega)
  replace Rb := Rb.off1 fd (by omega) (by omega)
  replace Rc := Rc.off1 fd (by omega) (by omega)
  replace G2 := G2.trans (Below.one fd G2.size (by have := G2.size; omega))
  have zw104 := fd.size
  clear fd
  rw [show takeS findU8 0 ⟨[7, 8], false⟩ = (7, ⟨[8], false⟩) from rfl] at *
  go_wp2_with fail
  refine (end_any pd bd _ w104 Rd).mono ?_
  rintro e w105 ⟨rfl, Rd, fd⟩
  replace Ra := Ra.off1 fd (by omega) (by omega)
  replace Rb := Rb.off1 fd (by omega) (by omega)
  replace Rc := Rc.off1 fd (by omega) (by omega)
  replace G2 := G2.trans (Below.one fd G2.size (by have := G2.size; omega))
  have zw105 := fd.size
  clear fd
  skip
  go_wp2_with fail
  go_ret
  exact ⟨rfl, F.trans ((G1.trans (G2.mono G1.size)).mono F.size)⟩
end Go.Proofs.Ytdblgjecbmebjaa
