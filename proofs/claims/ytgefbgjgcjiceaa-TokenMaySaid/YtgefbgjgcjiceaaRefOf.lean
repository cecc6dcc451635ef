/- The document's sha: Blocks, Of. Condition: the bytes are at most 2^46. -/
import Derived.Test.YtgefbgjgcjiceaaRefBlock
import Derived.Test.YtgefbgjgcjiceaaOrder
namespace Go.Proofs.Ytgefbgjgcjiceaa
open Go.RowKit
set_option linter.unusedVariables false
theorem Blk.sized2 {w : World} {g t : Nat} {cs : List Value} (h : Blk w g t cs) {fn : Func} {p u : Tmp} {ty : TypeId} (hf : fn.results = #[.cell p ty, .tmp u]) (tmps : Array Value) {P : Program} (hp : tmps.getD p undef = .pointer (some ⟨g, 0, none⟩)) {d : TypeDesc}
    (hu : P.underlying ty = some d) (hi : (P.info? ty).map (·.size) = some cs.length) (hd : d.isRow = true := by rfl) : (results fn tmps).run P w = .ok (.tuple #[.agg cs.toArray, tmps.getD u undef]) w := by
  have hp' : tmps[p]?.getD undef = .pointer (some ⟨g, 0, none⟩) := by simpa using hp
  have h1 : (loadVar ty ⟨g, 0, none⟩).run P w = .ok (.agg cs.toArray) w := by
    cases d <;> first | exact run_loadVar_row (P := P) w g t ty cs.toArray (0, 0) _ h hu rfl (by simpa using hi) | cases hd
  simp [results, hf, hp', asAddr, h1]
attribute [local irreducible] blkN comp
set_option maxRecDepth 100000 in
set_option maxHeartbeats 2000000 in
theorem refBlocks_any (h : List UInt32) (A : Option Addr) (n c : Nat) (l : List UInt8) (w : World) (hh : h.length = 8) (hl : RdB w w.heap.size A n l) (hc : n ≤ c) (hn : n ≤ 140737488355328) :
    Calls Try.prog 86 #[.agg (uvs h).toArray, .slice A n c] w fun e w' => ∃ A' c', e = .returned (.tuple #[.agg (uvs (blkN h l (n / 64))).toArray, .slice A' (n - 64 * (n / 64)) c']) ∧ RdB w' w.heap.size A' (n - 64 * (n / 64)) (l.drop (64 * (n / 64))) ∧ Below w.heap.size w w' := by
  have Hh := Lib.hid hh; clear hh
  have hi8 : (Try.prog.info? 127).map (·.size) = some 8 := by kernel_rfl
  have hi64 : (Try.prog.info? 138).map (·.size) = some (uvs KEYS).length := by kernel_rfl
  have Hi8 := Lib.hid hi8
  have Hi64 := Lib.hid hi64
  clear hi8 hi64
  go_enter Try.func86, Try.ntmps86
  go_upto_region 1 with fail
  refine abs (fun w1 => Blk w1 w.heap.size 127 (uvs h) ∧ Blk w1 (w.heap.size + 1) 127 (uvs (List.replicate 8 0)) ∧ Below w.heap.size w w1) ⟨(Blk.of_new w _ _).alloc _, Blk.newAt (by simp) _ _, ((Below.refl _ w).alloc (Nat.le_refl _) _).alloc (by simp) _⟩ ?_
  rintro w1 ⟨k0, k1, f1⟩
  go_wp2_with fail
  refine (refTable_any w1).mono ?_
  rintro e w2 ⟨rfl, g2⟩
  have l0 := k0.lt
  have l1 := k1.lt
  replace k0 := k0.below g2 l0
  replace k1 := k1.below g2 l1
  replace f1 := f1.trans (g2.mono f1.size)
  have hs2 := g2.size
  clear g2
  go_wp2_with (first | (refine store_blk (us := uvs KEYS) (Blk.newAt rfl 138 _) rfl 138 (.tmp 6) (.tmp 7) rfl rfl rfl Hi64.out rfl (uvs_all _) ?_; intro w3 k2 hg))
  have f3 : Below w2.heap.size w2 w3 := ((Below.refl _ w2).alloc (Nat.le_refl _) _).grown hg (by simp) (by simp)
  replace k0 := k0.below f3 (by omega)
  replace k1 := k1.below f3 (by omega)
  replace f1 := f1.trans (f3.mono f1.size)
  have hg1 : w.heap.size + 1 < w2.heap.size := by omega
  generalize w2.heap.size = g at *
  clear hg f3 hs2 l0 l1
  try go_frame
  go_loopw [1] (fun s wr => ∃ (k : Nat) (A1 : Option Addr) (c1 : Nat), 64 * k ≤ n ∧ s = .slice A1 (n - 64 * k) c1 ∧ n - 64 * k ≤ c1 ∧ RdB wr w.heap.size A1 (n - 64 * k) (l.drop (64 * k)) ∧ Blk wr w.heap.size 127 (uvs (blkN h l k)) ∧ Blk wr (w.heap.size + 1) 127 (uvs (List.replicate 8 0)) ∧ Blk wr g 138 (uvs KEYS) ∧ Below w.heap.size w wr) (fun s _ => lenOf s)
  case atStart => exact ⟨0, A, c, by omega, rfl, hc, by simpa using hl.below f1, by rw [blkN_zero]; exact k0, k1, k2, f1⟩
  case round =>
    clear k0 k1 k2 f1
    obtain ⟨k, A1, c1, hk, rfl, hc1, r1, k0, k1, k2, f1⟩ := hrel
    have hbl := blkN_length h l k Hh.out
    have HBL := Lib.hid hbl
    clear hbl
    by_cases hlt : 64 ≤ n - 64 * k
    · have d1 : decide ((64 : Int) ≤ ((n - 64 * k : Nat) : Int)) = true := by simp; omega
      generalize hM : n - 64 * k = M at *
      have HM := Lib.hid hM
      clear hM
      have b1 : (64 : Int) ≤ (c1 : Int) := by omega
      have b2 : 64 ≤ c1 := by omega
      obtain ⟨b, off, rfl, hb, hj⟩ := r1.2 (by omega)
      have rk := (RdB.sliced r1 (i := 0) (k := 64) (c := c1) (by omega) hlt hc1)
      have rd := (RdB.sliced r1 (i := 64) (k := M) (c := c1) hlt (Nat.le_refl _) hc1)
      have hbs := blkN_succ h l k
      have HBS := Lib.hid hbs
      have rb : RdB wr w.heap.size (some ⟨b, off, none⟩) 64 ((l.drop (64 * k)).take 64) := by
        obtain ⟨A', e1, r'⟩ := rk
        simp only [sliced, Nat.mul_one] at e1
        injection e1 with e1 _ _
        rw [← e1] at r'
        simpa [show c1 ≠ 0 from by omega, Addr.add] using r'
      have rn : RdB wr w.heap.size (if c1 = 64 then some ⟨b, off, none⟩ else some ⟨b, off + 64, none⟩) (M - 64) (l.drop (64 * (k + 1))) := by
        obtain ⟨A', e1, r'⟩ := rd
        simp only [sliced, Nat.mul_one] at e1
        injection e1 with e1 _ _
        rw [← e1] at r'
        rw [List.take_of_length_le (by rw [r1.1]; exact Nat.le_refl _), List.drop_drop] at r'
        rw [show 64 * (k + 1) = 64 * k + 64 from by omega]
        by_cases hcc : c1 = 64
        · rw [if_pos hcc] at r' ⊢; exact r'
        · rw [if_neg hcc] at r' ⊢; simpa [Addr.add] using r'
      clear hbs rk rd hj
      have hsz : (Try.prog.info? 127).map (·.size) = some (uvs (blkN h l k)).length := by rw [uvs_length, HBL.out]; exact Hi8.out
      have Hsz := Lib.hid hsz
      clear hsz
      have hpl := f1.size
      go_wp2_with fail
      refine wp_region_order (fun u => Blk u w.heap.size 127 (uvs (blkN h l k)) ∧ Blk u g 138 (uvs KEYS)) 5 [(0,0), (1,0), (2,0), (3,0), (4,1), (5,2)] (by kernel_rfl) (by kernel_rfl) ?_
      simp only [pick, List.filterMap_cons, List.filterMap_nil, List.getElem?_cons_zero, List.getElem?_cons_succ, Option.map_some]
      have hS : Blk wr.drew w.heap.size 127 (uvs (blkN h l k)) ∧ Blk wr.drew g 138 (uvs KEYS) := ⟨k0, k2⟩
      refine wpF_load hS rfl 127 (.tmp 2) rfl rfl (fun _ h => h.1.whole) Try.underlying127 Hsz.out (fun _ _ _ h => h) ?_
      refine wpF_take (v := ?_) hS rfl ?_ (fun _ _ _ h => h) ?_
      rotate_left
      · intro w' hS'
        obtain _ := hS'
        go_simp <;> rfl
      go_simp
      refine wpF_take (v := .slice (some ⟨b, off, none⟩) 64 c1) hS rfl (fun u hS' => by go_simp) (fun _ _ _ h => h) ?_
      go_simp
      refine wpF_load hS rfl 138 (.tmp 6) rfl rfl (fun _ h => h.2.whole) Try.underlying138 Hi64.out (fun _ _ _ h => h) ?_
      refine wpF_only rfl (fun K hK => ?_)
      go_wp2_with fail
      refine (refBlock_any (blkN h l k) (some ⟨b, off, none⟩) c1 ((l.drop (64 * k)).take 64) KEYS _ HBL.out rfl ((show RdB wr.drew w.heap.size (some ⟨b, off, none⟩) 64 ((l.drop (64 * k)).take 64) from rb).more hpl) b2).mono ?_
      rintro e w5 ⟨rfl, g5⟩
      have l0 := k0.lt
      have l1 := k1.lt
      have l2 := k2.lt
      have hS5 : Blk w5 w.heap.size 127 (uvs (blkN h l k)) ∧ Blk w5 g 138 (uvs KEYS) := ⟨hS.1.below g5 l0, hS.2.below g5 l2⟩
      have k1' : Blk w5 (w.heap.size + 1) 127 (uvs (List.replicate 8 0)) := (show Blk wr.drew (w.heap.size + 1) 127 (uvs (List.replicate 8 0)) from k1).below g5 l1
      have f5 : Below w.heap.size w w5 := f1.drew.trans (g5.mono hpl)
      have rn5 := rn.keep (w' := w5) (fun p hp => (g5.cell (Nat.lt_of_lt_of_le hp hpl)))
      clear hS k0 k1 k2 f1 rb rn g5 l0 l1 l2
      go_wp2_with fail
      first | refine ⟨fun _ => hS5, ?_⟩ | skip
      go_simp
      refine wpF_only rfl (fun K hK => ?_)
      have hsz2 : (Try.prog.info? 127).map (·.size) = some (uvs (comp KEYS (blkN h l k) ((l.drop (64 * k)).take 64))).length := by rw [uvs_length, comp_length, HBL.out]; exact Hi8.out
      have hsz3 : (uvs (blkN h l k)).length = (uvs (comp KEYS (blkN h l k) ((l.drop (64 * k)).take 64))).length := by rw [uvs_length, uvs_length, comp_length]
      refine wp_store_blk hS5.1 127 (.tmp 2) (.tmp 15) rfl rfl (us := uvs (comp KEYS (blkN h l k) ((l.drop (64 * k)).take 64))) rfl hsz2 hsz3 (uvs_all _) ?_
      intro w6 k6 hg6
      refine hK _ _ ⟨fun h => absurd h (by omega), wpF_nil ?_⟩
      have k2' := hS5.2.grown hg6 (by simp; omega)
      replace k1' := k1'.grown hg6 (by simp)
      have f6 := f5.grown hg6 f5.size (by simp)
      have rn6 := rn5.keep (w' := w6) (fun p hp => by
        have := hg6.block p.block (Nat.lt_of_lt_of_le hp f5.size) (by simp; omega)
        exact World.cell?_of_block this)
      rw [← HBS.out] at k6
      clear hS5 hsz2 hsz3 hg6 f5 rn5 hK K
      have hM2 := Lib.hid (show M - 64 = n - 64 * (k + 1) by have := HM.out; omega)
      by_cases hcc : c1 = 64
      · rw [if_pos hcc] at rn6
        go_wp2_with fail
        go_roundw
        case rel => exact ⟨k + 1, _, 0, by have := HM.out; omega, by rw [← hM2.out], by have := HM.out; omega, by rw [← hM2.out]; exact rn6, k6, k1', k2', f6⟩
        case measure => simp [lenOf]; omega
      · rw [if_neg hcc] at rn6
        go_wp2_with fail
        go_roundw
        case rel => exact ⟨k + 1, _, c1 - 64, by have := HM.out; omega, by rw [← hM2.out], by have := HM.out; omega, by rw [← hM2.out]; exact rn6, k6, k1', k2', f6⟩
        case measure => simp [lenOf]; omega
    · have d1 : decide ((64 : Int) ≤ ((n - 64 * k : Nat) : Int)) = false := by simp; omega
      obtain rfl : k = n / 64 := by omega
      have hsz : (Try.prog.info? 127).map (·.size) = some (uvs (blkN h l (n / 64))).length := by rw [uvs_length, HBL.out]; exact Hi8.out
      have hsz3 : (uvs (List.replicate 8 0)).length = (uvs (blkN h l (n / 64))).length := by rw [uvs_length, uvs_length, HBL.out]; rfl
      have Hsz := Lib.hid hsz
      have Hsz3 := Lib.hid hsz3
      clear hsz hsz3
      generalize hM : n - 64 * (n / 64) = M at *
      go_wp2_with (first
        | (refine load_blk k0 rfl 127 (.tmp 2) rfl rfl Try.underlying127 Hsz.out ?_)
        | (refine store_blk k1 rfl 127 (.tmp 4) (.tmp 18) rfl rfl (us := uvs (blkN h l (n / 64))) rfl Hsz.out Hsz3.out (uvs_all _) ?_; intro w9 k9 hg9))
      refine bodyPost_ret (k9.sized2 rfl _ rfl Try.underlying127 Hsz.out) rfl ⟨A1, c1, by rw [hM]; rfl, ?_, f1.grown hg9 f1.size (by simp)⟩
      rw [hM]
      refine r1.keep (fun p hp => ?_)
      have := hg9.block p.block (Nat.lt_of_lt_of_le hp f1.size) (by simp; omega)
      exact World.cell?_of_block this
end Go.Proofs.Ytgefbgjgcjiceaa
