/- The document's Wide (of 1 and 4 bytes), Text; meant: what they answer. Conditions: sizes. gatepostref12.put: terms, behind bytes. Conditions: sizes. Printed by gen_rput.py. -/
import Derived.Test.YtdbjihpdfiipcaaGreatShortAll
import Derived.Test.YtdbjihpdfiipcaaGreatWrAll
import Derived.Test.YtdbjihpdfiipcaaGreatPolBytes
import Derived.Test.YtdbjihpdfiipcaaGreatPolLong
import Derived.Test.YtdbjihpdfiipcaaGreatFacts
namespace Go.Proofs.YtdbjihpdfiipcaaGreat
open Go.RowKit
set_option linter.unusedVariables false
set_option linter.unusedSimpArgs false
theorem run_index_str {P : Program} {t : TypeId} (ht : P.underlying t = some .string) (w : World) (s : List UInt8) (k : Nat) (hk : k < s.length) :
    (Instr.index t (.string (strB s)) (.int .i64 (k : Int))).run P w = .ok (.int .u8 ((at8 s k).toNat : Int)) w := by
  have hz : k < (strB s).size := by rw [strB_size]; exact hk
  have h : (strB s)[k]? = some (at8 s k) := by
    rw [getElem?_pos (strB s) k hz]
    congr 1
    show (strB s).data[k] = _
    simp [strB, at8, List.getD, hk]
  have h0 : (0 : Int) ≤ (k : Int) := by omega
  simp [Instr.index, run_underlying ht, asIntOf, h0, h]
set_option maxRecDepth 100000 in
set_option maxHeartbeats 1000000 in
theorem refWide1_any (x : Nat) (hx : x < 18446744073709551616) (w : World) :
    Calls Tryz.prog 60 #[.int .u64 x, .int .i64 1] w fun e w' => ∃ A', e = .returned (.slice A' 1 1) ∧ RdB w' w'.heap.size A' 1 ([UInt8.ofNat x]) ∧ Below w.heap.size w w' := by
  have hmk : ∀ w : World, (Instr.makeSlice 52 (.int .i64 1) (.int .i64 1)).run Tryz.prog w = .ok (.slice (some ⟨w.heap.size, 0, none⟩) 1 1) (w.alloc (.cells (bvs (List.replicate 1 0)).toArray 5)) := run_make_bytesM T23 1 (by omega)
  have hL : ([UInt8.ofNat x]).length = 1 := rfl
  go_enter Tryz.func60, Tryz.ntmps60
  go_wp2_with fail
  refine abs (fun w1 => Blk w1 w.heap.size 5 (bvs (([UInt8.ofNat x]).take 0 ++ List.replicate (1 - 0) 0)) ∧ Below w.heap.size w w1) ⟨Blk.of_new w _ _, (Below.refl _ w).alloc (Nat.le_refl _) _⟩ ?_
  rintro w1 ⟨k1, f1⟩
  go_loopw [6] (fun i wr => ∃ k : Nat, k ≤ 1 ∧ i = .int .i64 k ∧ Blk wr w.heap.size 5 (bvs (([UInt8.ofNat x]).take k ++ List.replicate (1 - k) 0)) ∧ Below w.heap.size w wr) (fun i _ => 1 - (intOf i).toNat)
  case atStart => exact ⟨0, by omega, rfl, k1, f1⟩
  case round =>
    clear k1 f1
    obtain ⟨k, hk, rfl, k1, f1⟩ := hrel
    rcases k with _ | _ | k
    · have c1 := k1.byteAt (i := 0) (by simp [le32])
      have z1 := k1.frozen 0
      have k2 := k1.setByte 0 (UInt8.ofNat (x / 1))
      have ho : ((UInt8.ofNat (x / 1)).toNat : Int) = (x : Int) / 1 % 256 := by simp
      unfold bv at k2
      rw [ho] at k2
      go_wp2_with fail
      go_roundw
      case rel => exact ⟨1, by omega, by go_num, by simpa [le32] using k2, by simpa using f1.setCell (p := ⟨w.heap.size, 0, none⟩) (Nat.le_refl _) (.int .u8 ((x : Int) / 1 % 256))⟩
      case measure => simp [intOf]
    · go_wp2_with fail
      go_ret
      refine ⟨some ⟨w.heap.size, 0, none⟩, rfl, ?_, f1⟩
      exact (show Blk wr w.heap.size 5 (bvs ([UInt8.ofNat x])) from k1).rdB rfl
    · omega
set_option maxRecDepth 100000 in
set_option maxHeartbeats 1000000 in
theorem refWide4_any (x : Nat) (hx : x < 18446744073709551616) (w : World) :
    Calls Tryz.prog 60 #[.int .u64 x, .int .i64 4] w fun e w' => ∃ A', e = .returned (.slice A' 4 4) ∧ RdB w' w'.heap.size A' 4 (le32 x) ∧ Below w.heap.size w w' := by
  have hmk : ∀ w : World, (Instr.makeSlice 52 (.int .i64 4) (.int .i64 4)).run Tryz.prog w = .ok (.slice (some ⟨w.heap.size, 0, none⟩) 4 4) (w.alloc (.cells (bvs (List.replicate 4 0)).toArray 5)) := run_make_bytesM T23 4 (by omega)
  have hL : (le32 x).length = 4 := rfl
  go_enter Tryz.func60, Tryz.ntmps60
  go_wp2_with fail
  refine abs (fun w1 => Blk w1 w.heap.size 5 (bvs ((le32 x).take 0 ++ List.replicate (4 - 0) 0)) ∧ Below w.heap.size w w1) ⟨Blk.of_new w _ _, (Below.refl _ w).alloc (Nat.le_refl _) _⟩ ?_
  rintro w1 ⟨k1, f1⟩
  go_loopw [6] (fun i wr => ∃ k : Nat, k ≤ 4 ∧ i = .int .i64 k ∧ Blk wr w.heap.size 5 (bvs ((le32 x).take k ++ List.replicate (4 - k) 0)) ∧ Below w.heap.size w wr) (fun i _ => 4 - (intOf i).toNat)
  case atStart => exact ⟨0, by omega, rfl, k1, f1⟩
  case round =>
    clear k1 f1
    obtain ⟨k, hk, rfl, k1, f1⟩ := hrel
    rcases k with _ | _ | _ | _ | _ | k
    · have c1 := k1.byteAt (i := 0) (by simp [le32])
      have z1 := k1.frozen 0
      have k2 := k1.setByte 0 (UInt8.ofNat (x / 1))
      have ho : ((UInt8.ofNat (x / 1)).toNat : Int) = (x : Int) / 1 % 256 := by simp
      unfold bv at k2
      rw [ho] at k2
      go_wp2_with fail
      go_roundw
      case rel => exact ⟨1, by omega, by go_num, by simpa [le32] using k2, by simpa using f1.setCell (p := ⟨w.heap.size, 0, none⟩) (Nat.le_refl _) (.int .u8 ((x : Int) / 1 % 256))⟩
      case measure => simp [intOf]
    · have c1 := k1.byteAt (i := 1) (by simp [le32])
      have z1 := k1.frozen 1
      have k2 := k1.setByte 1 (UInt8.ofNat (x / 256))
      have ho : ((UInt8.ofNat (x / 256)).toNat : Int) = (x : Int) / 256 % 256 := by simp
      unfold bv at k2
      rw [ho] at k2
      go_wp2_with fail
      go_roundw
      case rel => exact ⟨2, by omega, by go_num, by simpa [le32] using k2, by simpa using f1.setCell (p := ⟨w.heap.size, 1, none⟩) (Nat.le_refl _) (.int .u8 ((x : Int) / 256 % 256))⟩
      case measure => simp [intOf]
    · have c1 := k1.byteAt (i := 2) (by simp [le32])
      have z1 := k1.frozen 2
      have k2 := k1.setByte 2 (UInt8.ofNat (x / 65536))
      have ho : ((UInt8.ofNat (x / 65536)).toNat : Int) = (x : Int) / 65536 % 256 := by simp
      unfold bv at k2
      rw [ho] at k2
      go_wp2_with fail
      go_roundw
      case rel => exact ⟨3, by omega, by go_num, by simpa [le32] using k2, by simpa using f1.setCell (p := ⟨w.heap.size, 2, none⟩) (Nat.le_refl _) (.int .u8 ((x : Int) / 65536 % 256))⟩
      case measure => simp [intOf]
    · have c1 := k1.byteAt (i := 3) (by simp [le32])
      have z1 := k1.frozen 3
      have k2 := k1.setByte 3 (UInt8.ofNat (x / 16777216))
      have ho : ((UInt8.ofNat (x / 16777216)).toNat : Int) = (x : Int) / 16777216 % 256 := by simp
      unfold bv at k2
      rw [ho] at k2
      go_wp2_with fail
      go_roundw
      case rel => exact ⟨4, by omega, by go_num, by simpa [le32] using k2, by simpa using f1.setCell (p := ⟨w.heap.size, 3, none⟩) (Nat.le_refl _) (.int .u8 ((x : Int) / 16777216 % 256))⟩
      case measure => simp [intOf]
    · go_wp2_with fail
      go_ret
      refine ⟨some ⟨w.heap.size, 0, none⟩, rfl, ?_, f1⟩
      exact (show Blk wr w.heap.size 5 (bvs (le32 x)) from k1).rdB rfl
    · omega
set_option maxRecDepth 100000 in
set_option maxHeartbeats 1000000 in
theorem refText_any (s : List UInt8) (hs : s.length ≤ 70368744177664) (w : World) :
    Calls Tryz.prog 58 #[.string (strB s)] w fun e w' => ∃ A' c', e = .returned (.slice A' (leb s.length ++ s).length c') ∧ OwnB w' w.heap.size 5 (.slice A' (leb s.length ++ s).length c') (leb s.length ++ s) ∧ Below w.heap.size w w' := by
  have zs := strB_size s
  have hgl := grp_le s.length (by omega)
  have hlen := leb_length s.length (by omega)
  go_enter Tryz.func58, Tryz.ntmps58
  go_wp2_with fail
  refine (refShort_any s.length (by omega) w).mono ?_
  rintro e w1 ⟨A1, c1, rfl, o1, f1⟩
  have HL := Lib.hid hlen
  clear hlen
  generalize hS : leb s.length = S at *
  have HS := Lib.hid hS
  clear hS
  go_wp2_with fail
  go_loopw [3, 4] (fun b i wr => ∃ (k m : Nat) (A' : Option Addr) (c' : Nat), i = .int .i64 k ∧ b = .slice A' m c' ∧ k ≤ s.length ∧ m = S.length + k ∧ OwnB wr w.heap.size 5 (.slice A' m c') (S ++ s.take k) ∧ Below w.heap.size w wr) (fun _ i _ => s.length - (intOf i).toNat)
  case atStart => exact ⟨0, S.length, A1, c1, rfl, rfl, by omega, rfl, by simpa using o1, f1⟩
  case round =>
    clear o1 f1
    obtain ⟨k, m, A', c', rfl, rfl, hk, rfl, o1, f1⟩ := hrel
    by_cases hlt : k < s.length
    · have d1 : decide ((k : Int) < (s.length : Int)) = true := by simp; omega
      have hidx := fun w => run_index_str (P := Tryz.prog) Tryz.underlying9 w s k hlt
      have hst : s.take (k + 1) = s.take k ++ [at8 s k] := by
        rw [List.take_succ_eq_append_getElem hlt]
        simp [at8, List.getD, hlt]
      have hm64 : S.length + k + 1 ≤ 140737488355328 := by have := HL.out; omega
      have hs1 := f1.size
      generalize at8 s k = B at *
      go_wp2_with (at_builtin; go_must (refine appendR T23 rfl rfl rfl (o1.alloc _) rfl (rdB_one wr (b := B) rfl) hm64 (f1.alloc hs1 _) (Nat.le_refl _) ?_); intro A3 c3 w3 o3 f3 _)
      go_roundw
      case rel => exact ⟨k + 1, S.length + k + 1, A3, c3, by go_num, rfl, by omega, by omega, by rw [hst, ← List.append_assoc]; exact o3, f3⟩
      case measure => simp [intOf]; omega
    · obtain rfl : k = s.length := by omega
      have d1 : decide ((s.length : Int) < (s.length : Int)) = false := by simp
      rw [List.take_length] at o1
      go_wp2_with fail
      go_ret
      rw [HS.out, List.length_append]
      exact ⟨A', c', rfl, o1, f1⟩
end Go.Proofs.YtdbjihpdfiipcaaGreat
namespace Go.Proofs.YtdbjihpdfiipcaaGreat
open Go.RowKit Go.Sort
set_option linter.unusedVariables false
set_option linter.unusedSimpArgs false
attribute [local irreducible] leb
/-- A row that grows: the world off it is as it was; it lies where it was, or in new memory. -/
def Gr (A : Option Addr) (w : World) (A1 : Option Addr) (w1 : World) : Prop := Off (isB A) w w1 ∧ ∀ k, k < w.heap.size → isB A1 k → isB A k
theorem Gr.refl (A : Option Addr) (w : World) : Gr A w A w := ⟨Off.refl _ _, fun _ _ h => h⟩
theorem Gr.trans {A A1 A2 : Option Addr} {w w1 w2 : World} (h : Gr A w A1 w1) (k : Gr A1 w1 A2 w2) : Gr A w A2 w2 := ⟨h.1.trans k.1 h.2, fun i hi hk => h.2 i hi (k.2 i (Nat.lt_of_lt_of_le hi h.1.size) hk)⟩
theorem Gr.step {A A1 A2 : Option Addr} {w w1 w2 : World} (h : Gr A w A1 w1) (o : Off (isB A1) w1 w2) (hA : A2 = A1 ∨ A2 = some ⟨w1.heap.size, 0, none⟩) : Gr A w A2 w2 := by
  refine h.trans ⟨o, fun k hk hx => ?_⟩
  rcases hA with rfl | rfl
  · exact hx
  · obtain ⟨x, e, rfl⟩ := hx
    injection e with e
    subst e
    exact absurd hk (Nat.lt_irrefl _)
theorem Gr.below {A A1 : Option Addr} {w w1 w2 : World} (h : Gr A w A1 w1) (o : Below w1.heap.size w1 w2) : Gr A w A1 w2 := h.trans ⟨(Off.of_all o).mono fun _ _ h => h.elim, fun _ _ h => h⟩
theorem Gr.drew {A A1 : Option Addr} {w w1 : World} (h : Gr A w A1 w1) : Gr A w A1 w1.drew := ⟨h.1.drew, h.2⟩
theorem Gr.under {A A1 : Option Addr} {w w1 : World} {base e n c : Nat} {l : List UInt8} (h : Gr A w A1 w1) (o : OwnB w base e (.slice A n c) l) (hb : base ≤ w.heap.size) : Below base w w1 := h.1.below hb fun k hk => (o.isB_lt hk).1
theorem OwnB.offT {X : Nat → Prop} {w w' : World} {base e : Nat} {A : Option Addr} {n c : Nat} {l : List UInt8} (h : OwnB w base e (.slice A n c) l) (hb : Off X w w') (hX : ∀ k, base ≤ k → k < w.heap.size → ¬ X k) : OwnB w' base e (.slice A n c) l := h.off hb fun k hk => hX k (h.isB_lt hk).1 (h.isB_lt hk).2
theorem OwnB.rdU {w : World} {base e : Nat} {A : Option Addr} {n c : Nat} {l : List UInt8} (h : OwnB w base e (.slice A n c) l) : RdB w w.heap.size A n l := h.rd
set_option maxRecDepth 100000 in
set_option maxHeartbeats 4000000 in
theorem rput_any (A : Option Addr) (n c : Nat) (bs : List UInt8) (base : Nat) (Av : Option Addr) (nv cv : Nat) (L : List Tm) (B : Nat) (w : World) (o : OwnB w base 5 (.slice A n c) bs) (r : RdR tmC 2 w B Av nv L) (hB : B ≤ base) (hb : base ≤ w.heap.size) (hok : okTs L) (hln : n + (rowB tmB L).length ≤ 1000000) :
    Calls Tryz.prog 59 #[.slice A n c, .slice Av nv cv] w fun e w' => ∃ A' c', e = .returned (.slice A' (n + (rowB tmB L).length) c') ∧ OwnB w' base 5 (.slice A' (n + (rowB tmB L).length) c') (bs ++ rowB tmB L) ∧ Gr A w A' w' := by
  have hl := r.1
  obtain ⟨hk1, hk2⟩ := hok
  have hbl := o.len
  obtain ⟨TOT, hT⟩ : ∃ x, bs ++ rowB tmB L = x := ⟨_, rfl⟩
  have hTl : TOT.length = n + (rowB tmB L).length := by rw [← hT, List.length_append, hbl]
  rw [hT, ← hTl]
  rw [← hTl] at hln
  have hnvB : nv ≤ 1000000 := by omega
  have hw := IntWalk.u64_in (nv : Int) (by omega)
  have hT2 : (bs ++ leb nv) ++ (L.map tmB).flatten = TOT := by rw [← hT, List.append_assoc, ← hl]; rfl
  have HT := Lib.hid hT2; have HN := Lib.hid hln; have HL := Lib.hid hl; have HK := Lib.hid hk2
  have hle := leb_le10 (x := nv) (by omega)
  clear hT hTl hln hT2 hk2
  have hn1 : n + (leb nv).length ≤ 1000000 := by
    have h1 := HN.out
    rw [← HT.out, List.length_append, List.length_append, hbl] at h1
    omega
  obtain ⟨lb, hlb⟩ : ∃ x, leb nv = x := ⟨_, rfl⟩
  obtain ⟨q, hq⟩ : ∃ x, lb.length = x := ⟨_, rfl⟩
  rw [hlb] at hle hn1 HT
  rw [hq] at hle hn1
  go_enter Tryz.func59, Tryz.ntmps59
  go_wp2_with fail
  refine (refShort_any nv (by omega) w).mono ?_
  rintro e w1 ⟨A1, c1, rfl, o1, f1⟩
  rw [hlb] at o1 ⊢
  rw [hq] at o1 ⊢
  have ow1 := o.below (Nat.le_refl _) f1
  clear hw hl
  go_wp2_with (at_builtin; go_must (refine appendG T23 rfl rfl rfl ow1 rfl o1.rd (by omega) (Nat.le_trans hb f1.size) ?_); intro A2 c2 w2 o2 g2 e2)
  have gr2 := ((Gr.refl A w).below f1).step g2 e2
  clear o1 ow1 g2 e2 hk1
  have HO := Lib.hid o; clear o
  go_loopw [0, 5] (fun s i wr => ∃ (k m : Nat) (A3 : Option Addr) (c3 : Nat) (dn : List UInt8), s = .slice A3 m c3 ∧ i = .int .i64 k ∧ k ≤ nv ∧ dn ++ ((L.drop k).map tmB).flatten = TOT ∧ OwnB wr base 5 (.slice A3 m c3) dn ∧ Gr A w A3 wr) (fun _ i _ => nv - (intOf i).toNat)
  case atStart => exact ⟨0, _, A2, c2, bs ++ lb, rfl, rfl, Nat.zero_le _, HT.out, o2, gr2⟩
  case round =>
    clear o2 gr2
    obtain ⟨k, m, A3, c3, dn, rfl, rfl, hk, hdn, o3, gr3⟩ := hrel
    have h3l := o3.len
    have hm : m ≤ 1000000 := by
      have h1 := HN.out
      rw [← hdn, List.length_append] at h1
      omega
    by_cases hlt : k < nv
    · have d1 : decide ((k : Int) < (nv : Int)) = true := by simp; omega
      have b1 : (0 : Int) ≤ (k : Int) := by omega
      have b2 : (k : Int) < (nv : Int) := by omega
      have hkL : k < L.length := by rw [HL.out]; exact hlt
      obtain ⟨b, off, p1, p2, p3⟩ := r.2 (by omega)
      have q0 := p3 k hkL 0 _ rfl
      have q1 := p3 k hkL 1 _ rfl
      clear p3
      have hok1 := HK.out _ (List.getElem_mem hkL)
      have hdk : L.drop k = L[k] :: L.drop (k + 1) := List.drop_eq_getElem_cons hkL
      rw [hdk, List.map_cons, List.flatten_cons] at hdn
      clear hdk
      generalize L[k] = x at *
      obtain ⟨kd, tx⟩ := x
      have hok1 : tx.length ≤ 1000000000 := by unfold okT okS at hok1; simp only at hok1; omega
      have hdn2 : (dn ++ [kB kd] ++ txB tx) ++ ((L.drop (k + 1)).map tmB).flatten = TOT := by rw [← hdn]; simp [tmB]
      have hlq : m + 1 + (txB tx).length ≤ 1000000 := by
        have h1 := HN.out
        rw [← hdn2, List.length_append, List.length_append, List.length_append, h3l] at h1
        simp only [List.length_cons, List.length_nil] at h1
        omega
      have HD := Lib.hid hdn2
      clear hdn hdn2
      have hkb := kB_eq kd
      have hTx := fun u => refText_any tx (by omega) u
      have htx : leb tx.length ++ tx = txB tx := rfl
      rw [htx] at hTx
      generalize txB tx = TX at *
      generalize hqq : TX.length = qq at *
      have fB : Below base w wr := gr3.under HO.out hb
      have q0' : wr.cell? ⟨b, off + k * 2, none⟩ = some (.int .i64 kd) := (fB.cell (p := ⟨b, off + k * 2, none⟩) (by simp only; omega)).trans q0
      have q1' : wr.cell? ⟨b, off + k * 2 + 1, none⟩ = some (.string (strB tx)) := (fB.cell (p := ⟨b, off + k * 2 + 1, none⟩) (by simp only; omega)).trans q1
      have hbw : base ≤ wr.heap.size := Nat.le_trans hb gr3.1.size
      have hA3 : ∀ i, isB A3 i → base ≤ i ∧ i < wr.heap.size := fun i hi => o3.isB_lt hi
      have q0u : ∀ u, Off (isB A3) wr u → u.cell? ⟨b, off + k * 2, none⟩ = some (.int .i64 kd) := fun u hu => (hu.cell (p := ⟨b, off + k * 2, none⟩) (by simp only; omega) (fun h => by have := hA3 _ h; simp only at this; omega)).trans q0'
      have q1u : ∀ u, Off (isB A3) wr u → u.cell? ⟨b, off + k * 2 + 1, none⟩ = some (.string (strB tx)) := fun u hu => (hu.cell (p := ⟨b, off + k * 2 + 1, none⟩) (by simp only; omega) (fun h => by have := hA3 _ h; simp only at this; omega)).trans q1'
      subst p1
      clear q0 q1 q0' q1' htx
      go_upto_region 5 with fail
      refine wp_region_order (fun u => Off (isB A3) wr u) 100 [(0,0), (1,0), (2,0), (3,0), (4,0), (5,0), (6,0), (9,0), (10,0), (11,0), (12,0), (13,0), (7,1), (8,1), (14,1), (15,1), (16,0)] (by kernel_rfl) (by kernel_rfl) ?_
      simp only [pick, List.filterMap_cons, List.filterMap_nil, List.getElem?_cons_zero, List.getElem?_cons_succ, Option.map_some]
      have hS : Off (isB A3) wr wr.drew := (Off.refl _ _).drew
      refine wpF_take (v := ?_) hS rfl ?_ (fun _ _ _ h => h) ?_
      rotate_left
      · intro w' hS'
        obtain _ := hS'
        go_simp <;> rfl
      go_simp
      refine wpF_take (v := ?_) hS rfl ?_ (fun _ _ _ h => h) ?_
      rotate_left
      · intro w' hS'
        obtain _ := hS'
        go_simp <;> rfl
      go_simp
      refine wpF_take (v := ?_) hS rfl ?_ (fun _ _ _ h => h) ?_
      rotate_left
      · intro w' hS'
        obtain _ := hS'
        go_simp <;> rfl
      go_simp
      refine wpF_take (v := ?_) hS rfl ?_ (fun _ _ _ h => h) ?_
      rotate_left
      · intro w' hS'
        obtain _ := hS'
        go_simp <;> rfl
      go_simp
      refine wpF_take (v := ?_) hS rfl ?_ (fun _ _ _ h => h) ?_
      rotate_left
      · intro w' hS'
        obtain _ := hS'
        go_simp <;> rfl
      go_simp
      refine wpF_take (v := .int .i64 kd) hS rfl (fun u hu => by have q0 := q0u u hu; go_simp <;> rfl) (fun _ _ _ h => h) ?_
      go_simp
      refine wpF_take (v := ?_) hS rfl ?_ (fun _ _ _ h => h) ?_
      rotate_left
      · intro w' hS'
        obtain _ := hS'
        go_simp <;> rfl
      go_simp
      refine wpF_take (v := ?_) hS rfl ?_ (fun _ _ _ h => h) ?_
      rotate_left
      · intro w' hS'
        obtain _ := hS'
        go_simp <;> rfl
      go_simp
      refine wpF_take (v := ?_) hS rfl ?_ (fun _ _ _ h => h) ?_
      rotate_left
      · intro w' hS'
        obtain _ := hS'
        go_simp <;> rfl
      go_simp
      refine wpF_take (v := ?_) hS rfl ?_ (fun _ _ _ h => h) ?_
      rotate_left
      · intro w' hS'
        obtain _ := hS'
        go_simp <;> rfl
      go_simp
      refine wpF_take (v := ?_) hS rfl ?_ (fun _ _ _ h => h) ?_
      rotate_left
      · intro w' hS'
        obtain _ := hS'
        go_simp <;> rfl
      go_simp
      refine wpF_take (v := .string (strB tx)) hS rfl (fun u hu => by have q0 := q1u u hu; go_simp <;> rfl) (fun _ _ _ h => h) ?_
      go_simp
      refine wpF_only rfl (fun K hK => ?_)
      go_wp2_with fail
      have hS1 : Off (isB A3) wr (wr.alloc (.cells #[.int .u8 ((kB kd).toNat : Int)] 5)).drew := ((Off.refl _ _).alloc _).drew
      first | refine ⟨fun _ => hS1, ?_⟩ | refine ⟨hS1, ?_⟩
      go_simp
      refine wpF_only rfl (fun K hK => ?_)
      refine wp_appendG T23 rfl (A := A3) (n := m) (c := c3) rfl (show OwnB (wr.alloc (.cells #[.int .u8 ((kB kd).toNat : Int)] 5)).drew base 5 _ _ from o3.alloc _) (m := 1) (c2 := 1) rfl (show RdB (wr.alloc (.cells #[.int .u8 ((kB kd).toNat : Int)] 5)).drew _ _ _ _ from rdB_one wr (b := kB kd) rfl) (by omega) (by show base ≤ (wr.alloc (.cells #[.int .u8 ((kB kd).toNat : Int)] 5)).heap.size; simp; omega) ?_
      intro A4 c4 w4 o4 g4 e4
      have gr4 : Gr A3 wr A4 w4 := ((Gr.refl A3 wr).below ((Below.refl _ _).alloc (Nat.le_refl _) (.cells #[.int .u8 ((kB kd).toNat : Int)] 5))).drew.step g4 e4
      refine hK _ _ ⟨fun _ => gr4.1, ?_⟩
      go_simp
      clear hK
      refine wpF_only rfl (fun K hK => ?_)
      go_wp2_with fail
      refine (hTx _).mono ?_
      rintro e w5 ⟨A5, c5, rfl, o5, f5⟩
      have gr5 := gr4.below f5
      have o4' := o4.below (Nat.le_refl _) f5
      go_wp2_with fail
      first | refine ⟨fun _ => gr5.1, ?_⟩ | refine ⟨gr5.1, ?_⟩
      go_simp
      refine wpF_only rfl (fun K hK => ?_)
      refine wp_appendG T23 rfl (A := A4) (n := m + 1) (c := c4) rfl o4' (m := qq) rfl o5.rd (by omega) (Nat.le_trans hbw gr5.1.size) ?_
      intro A6 c6 w6 o6 g6 e6
      have gr6 := gr5.step g6 e6
      refine hK _ _ ⟨fun _ => gr6.1, ?_⟩
      go_simp
      clear hK
      have hS := gr6.1
      refine wpF_take (v := ?_) hS rfl ?_ (fun _ _ _ h => h) ?_
      rotate_left
      · intro w' hS'
        obtain _ := hS'
        go_simp <;> rfl
      go_simp
      refine wpF_nil ?_
      go_wp2_with fail
      go_roundw
      case rel => exact ⟨k + 1, _, A6, c6, _, rfl, by go_num, by omega, HD.out, o6, gr3.trans gr6⟩
      case measure => simp [intOf]; omega
    · have d1 : decide ((k : Int) < (nv : Int)) = false := by simp; omega
      obtain rfl : k = nv := by omega
      rw [List.drop_of_length_le (by rw [HL.out]; exact Nat.le_refl _), List.map_nil, List.flatten_nil, List.append_nil] at hdn
      subst hdn
      subst h3l
      go_wp2_with fail
      go_ret
      exact ⟨A3, c3, rfl, o3, gr3⟩
end Go.Proofs.YtdbjihpdfiipcaaGreat
