/- gatepostref12.Copy: a policy in memory of its own. Condition: a million at most. Printed by gen_pcopy2.py. -/
import Derived.Test.YtdbjihpdfiipcaaGreatPolCopy
import Derived.Test.YtdbjihpdfiipcaaGreatPolDecs
import Derived.Test.YtdbjihpdfiipcaaGreatPolEq
namespace Go.Proofs.YtdbjihpdfiipcaaGreat
open Go.RowKit Go.Sort
set_option linter.unusedVariables false
set_option linter.unusedSimpArgs false
set_option maxRecDepth 100000 in
set_option maxHeartbeats 4000000 in
theorem copy12_any (p : Po) (cs : List Value) (w : World) (h : PoP w w.heap.size cs p) (hok : okPo p) :
    Calls Tryz.prog 20 #[.agg cs.toArray] w fun e w' => ∃ cs' : List Value, e = .returned (.agg cs'.toArray) ∧ PoP (mineW w.heap.size none w') w'.heap.size cs' p ∧ Below w.heap.size w w' := by
  obtain ⟨A, n, c, rfl, h1⟩ := vals_po h
  have hl := h1.1
  have hn : n ≤ 1000000 := by rw [← hl]; exact hok.2.2.2.2.1
  have hi : (Tryz.prog.info? 38).map (·.size) = some 5 := by kernel_rfl
  have HI := Lib.hid hi; clear hi h
  have HH := Lib.hid h1; have HL := Lib.hid hl; have OKL := Lib.hid hok.2.2.2.2.2; clear h1 hl hok
  show Calls Tryz.prog 20 #[.agg #[.int .u64 (p.id : Int), .string (strB p.ns), .int .u64 (p.service : Int), .int .i64 p.deny, .slice A n c]] w _
  go_enter Tryz.func20, Tryz.ntmps20
  go_upto_region 1 with fail
  refine abs (fun x => Blk x w.heap.size 38 [.int .u64 (p.id : Int), .string (strB p.ns), .int .u64 (p.service : Int), .int .i64 p.deny, .slice A n c] ∧ Blk x (w.heap.size + 1) 38 [.int .u64 0, .string ⟨#[]⟩, .int .u64 0, .int .i64 0, .slice none 0 0] ∧ Below w.heap.size w x) ⟨(Blk.newAt rfl _ #[.int .u64 (p.id : Int), .string (strB p.ns), .int .u64 (p.service : Int), .int .i64 p.deny, .slice A n c]).alloc _, Blk.newAt (by simp) _ #[.int .u64 0, .string ⟨#[]⟩, .int .u64 0, .int .i64 0, .slice none 0 0], ((Below.refl _ _).alloc (Nat.le_refl _) _).alloc (by simp) _⟩ ?_
  rintro u0 ⟨ka, kz, f0⟩
  have w0 : w.heap.size + 1 < u0.heap.size := kz.lt
  have hwg : w.heap.size < w.heap.size + 1 := by omega
  generalize hg2 : w.heap.size + 1 = g2 at *
  clear hg2
  go_wp2_with fail
  go_loopw [3, 4] (fun v i wr => ∃ (k : Nat) (B : Option Addr) (d : Nat), i = .int .i64 k ∧ v = .slice B k d ∧ k ≤ n ∧ OwnG 3 RuP wr u0.heap.size 26 (.slice B k d) (p.rules.take k) ∧ Blk wr w.heap.size 38 [.int .u64 (p.id : Int), .string (strB p.ns), .int .u64 (p.service : Int), .int .i64 p.deny, .slice A n c] ∧ Blk wr g2 38 [.int .u64 0, .string ⟨#[]⟩, .int .u64 0, .int .i64 0, .slice none 0 0] ∧ Below w.heap.size w wr ∧ u0.heap.size ≤ wr.heap.size) (fun _ i _ => n - (intOf i).toNat)
  case atStart => exact ⟨0, none, 0, rfl, rfl, Nat.zero_le _, OwnG.nil, ka, kz, f0, Nat.le_refl _⟩
  case round =>
    clear ka kz
    obtain ⟨k, B, d, rfl, rfl, hkn, og, ka, kz, f1, hs⟩ := hrel
    have y4 := ka.cell 4
    by_cases hlt : k < n
    · have d2 : decide ((k : Int) < (n : Int)) = true := by simp; omega
      have b1 : (0 : Int) ≤ (k : Int) := by omega
      have b2 : (k : Int) < (n : Int) := by omega
      have hkL : k < p.rules.length := by rw [HL.out]; exact hlt
      obtain ⟨ba, oa, ca, p1, p2, p3, p4, p5⟩ := HH.out.at_ hlt
      have okx := OKL.out _ (List.getElem_mem hkL)
      have htk : p.rules.take (k + 1) = p.rules.take k ++ [p.rules[k]] := List.take_succ_eq_append_getElem hkL
      have HTK := Lib.hid htk; clear htk
      obtain ⟨x, hx⟩ : ∃ x, p.rules[k]'hkL = x := ⟨_, rfl⟩
      rw [hx] at p4 okx HTK
      clear hx p3
      have PX := Lib.hid p4
      obtain ⟨A1, n1, c1, A2, n2, c2, A3, n3, c3, rfl, _, _, _⟩ := vals_ru p4
      clear p4
      have a0 := (f1.cell (p := ⟨ba, oa + k * 3, none⟩) (by simp only; omega)).trans (p5 0 _ rfl)
      have a1 := (f1.cell (p := ⟨ba, oa + k * 3 + 1, none⟩) (by simp only; omega)).trans (p5 1 _ rfl)
      have a2 := (f1.cell (p := ⟨ba, oa + k * 3 + 2, none⟩) (by simp only; omega)).trans (p5 2 _ rfl)
      have hAb := fun q hq => (og.lt q hq).2
      have hC := copyRule_any x _ wr (PX.out.mono f1.size f1) okx
      have hkaL := ka.lt
      have hkzL := kz.lt
      obtain ⟨C5, hC5⟩ : ∃ z : List Value, [.int .u64 (p.id : Int), .string (strB p.ns), .int .u64 (p.service : Int), .int .i64 p.deny, .slice A n c] = z := ⟨_, rfl⟩
      have hC54 : C5[4]? = some (.slice A n c) := by rw [← hC5]; rfl
      rw [hC5] at ka
      have HC5 := Lib.hid hC5
      clear hC5 y4
      subst p1
      have y4 := (ka.cell 4).trans hC54
      go_wp2_with fail
      refine hC.mono ?_
      rintro e v2 ⟨f4, v1, x2, x3, h9, rfl, r1, r2, hF, hT, hW⟩
      have hPx : RuP (mineW wr.heap.size none v2) v2.heap.size [v1, x2, x3] x := ⟨_, _, _, rfl, RvG.mn SrP.mn hF r2 (fun _ _ _ h => h), (hT.rvm TgP.mn).fin TgP.mn (Off.refl _ _) r1, (hW.rvm WnP.mn).fin WnP.mn (Off.refl _ _) r1⟩
      obtain ⟨E1, m1, e1, rfl, _⟩ := hF
      obtain ⟨E2, e2, rfl, _⟩ := hT.form
      obtain ⟨E3, e3, rfl, _⟩ := hW.form
      generalize x.tos.length = m2 at *
      generalize x.whens.length = m3 at *
      clear y4 a0 a1 a2 hC hT hW r1 r2 p5
      replace ka := ka.below f4 hkaL
      replace kz := kz.below f4 hkzL
      have og2 := og.below RuP.mn f4
      have f5 := f1.trans (f4.mono f1.size)
      have hs5 := f5.size
      have hs4 := f4.size
      have fal : Below v2.heap.size v2 (v2.alloc (.cells #[.slice E1 m1 e1, .slice E2 m2 e2, .slice E3 m3 e3] 26)) := (Below.refl _ _).alloc (Nat.le_refl _) _
      have hPy := RuP.mn _ _ _ _ _ _ (Nat.le_succ _) (Sub.own1 (w := v2) (base := u0.heap.size) (lo := wr.heap.size) (B := v2.heap.size) (g := (Value.slice B k d).ownBlock) (.cells #[.slice E1 m1 e1, .slice E2 m2 e2, .slice E3 m3 e3] 26) hs hAb (Nat.le_refl _)) hPx
      have HCE := Lib.hid (new_cells v2 [.slice E1 m1 e1, .slice E2 m2 e2, .slice E3 m3 e3] 26)
      have HPY := Lib.hid hPy
      clear hPy hPx
      go_wp2_with (at_builtin; go_must (refine appendOwn1 TRu RuP.mn rfl rfl rfl (og2.below RuP.mn fal) rfl rfl (by intro v hv; simp only [List.mem_cons, List.mem_nil_iff, or_false] at hv; rcases hv with rfl | rfl | rfl <;> rfl) HCE.out (by rw [show (v2.alloc (.cells #[.slice E1 m1 e1, .slice E2 m2 e2, .slice E3 m3 e3] 26)).heap.size = v2.heap.size + 1 by simp]; exact HPY.out) (by omega) (by simp only [maxLen]; omega) (by simp; omega) ?_); intro A'' c'' w4 og4 g4)
      have oA : Off (fun q => (Value.slice B k d).ownBlock = some q) v2 w4 := ((Off.refl _ _).alloc _).grown g4 fun q hq _ => hq
      have hlo := fun q hq => (og2.lt q hq).1
      have ka4 := ka.off oA (fun hq => by have := hlo _ hq; omega)
      have kz4 := kz.off oA (fun hq => by have := hlo _ hq; omega)
      rw [← HC5.out] at ka4
      have f6 : Below w.heap.size w w4 := (f5.alloc hs5 _).grown g4 (by simp; omega) (fun q hq => by have := hlo q hq; omega)
      have hs6 := oA.size
      go_roundw
      case rel => exact ⟨k + 1, A'', c'', by go_num, rfl, by omega, by rw [HTK.out]; exact og4, ka4, kz4, f6, by omega⟩
      case measure => simp [intOf]; omega
    · have d2 : decide ((k : Int) < (n : Int)) = false := by simp; omega
      obtain rfl : k = n := by omega
      rw [List.take_of_length_le (by rw [HL.out]; exact Nat.le_refl _)] at og
      have z4 := ka.frozen 4
      have hkz := kz.lt
      have hwr := f1.size
      go_upto_region 7 with fail
      refine abs (fun x => Blk x w.heap.size 38 [.int .u64 (p.id : Int), .string (strB p.ns), .int .u64 (p.service : Int), .int .i64 p.deny, .slice B k d] ∧ Off (fun q => q = w.heap.size) wr x) ⟨ka.set 4 _, (Off.refl (fun q => q = w.heap.size) _).setCell (p := ⟨w.heap.size, 4, none⟩) (fun _ => rfl) _⟩ ?_
      rintro u1 ⟨ka1, o1⟩
      have kz1 := kz.off o1 (by omega)
      have og1 := og.off RuP.mn o1 (fun q (hq : q = w.heap.size) => .inl (by omega))
      clear y4 z4 ka kz og
      have x0 := ka1.cell 0
      have x1 := ka1.cell 1
      have x2 := ka1.cell 2
      have x3 := ka1.cell 3
      have x4 := ka1.cell 4
      go_wp2_with (first | (refine store_blk kz1 rfl 38 (.tmp 2) (.tmp 23) rfl rfl (us := [.int .u64 (p.id : Int), .string (strB p.ns), .int .u64 (p.service : Int), .int .i64 p.deny, .slice B k d]) rfl HI.out rfl rfl ?_; intro w9 k9 g9))
      have o9 : Off (fun q => q = g2) u1 w9 := (Off.refl _ _).grown g9 fun q hq _ => by injection hq with hq; exact hq.symm
      have og9 := og1.off RuP.mn o9 (fun q (hq : q = g2) => .inl (by omega))
      have oo := (o1.mono (fun q _ (h : q = w.heap.size) => Or.inl h) : Off (fun q => q = w.heap.size ∨ q = g2) wr u1).trans o9 (fun q _ h => Or.inr h)
      exact bodyPost_ret (k9.sized rfl _ rfl Tryz.underlying38 HI.out) rfl ⟨_, rfl, ⟨_, rfl, (og9.rvm RuP.mn).fin RuP.mn (Off.refl _ _) (by omega)⟩, f1.trans (oo.below hwr (fun q hq => by omega))⟩
end Go.Proofs.YtdbjihpdfiipcaaGreat
