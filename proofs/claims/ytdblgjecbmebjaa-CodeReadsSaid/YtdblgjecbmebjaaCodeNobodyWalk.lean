/- The law CodeNobody, walked. No condition. -/
import Derived.Test.YtdblgjecbmebjaaMeant2
import Derived.Test.YtdblgjecbmebjaaNil
import Derived.Test.YtdblgjecbmebjaaOneLaw
import Derived.Test.YtdblgjecbmebjaaCodeCutWalk
namespace Go.Proofs.Ytdblgjecbmebjaa
open Go.RowKit
set_option linter.unusedVariables false
theorem RdF.cells {w : World} {B b off : Nat} {n : Nat} {fs : List Fd} {f : Fd} (h : RdF w B (some ⟨b, off, none⟩) n fs) {k : Nat} (hk : k < n) (hf : fs[k]? = some f) :
    w.cell? ⟨b, off + k * 5, none⟩ = some (.int .i64 f.kind) ∧ w.cell? ⟨b, off + k * 5 + 1, none⟩ = some (.int .i64 f.most) ∧ w.cell? ⟨b, off + k * 5 + 2, none⟩ = some (.int .i64 f.more) ∧ w.cell? ⟨b, off + k * 5 + 3, none⟩ = some (.int .u64 f.n) ∧ w.cell? ⟨b, off + k * 5 + 4, none⟩ = some (.string (strB f.s)) := by
  obtain ⟨b', off', f', hA, _, hf', q⟩ := h.at_ hk
  injection hA with hA
  injection hA with h1 h2 _
  have e : f' = f := Option.some.inj (hf'.symm.trans hf)
  rw [← h1, ← h2, e] at q
  exact q
/-- A writer and a row of bytes of the call's own, apart. -/
def Apart (p : Nat) (Av Ax : Option Addr) : Prop := ∀ k, isB Ax k → k ≠ p ∧ ¬ isB Av k
theorem Apart.wrote {w w' : World} {p : Nat} {Av Av' Ax : Option Addr} (h : Apart p Av Ax) (d : Wrote w w' p Av Av') (hx : ∀ k, isB Ax k → k < w.heap.size) : Apart p Av' Ax := fun k hk => by
  refine ⟨(h k hk).1, fun h2 => ?_⟩
  rcases d.1 with rfl | ⟨g, rfl, hg⟩
  · exact (h k hk).2 h2
  · obtain ⟨y, hy, rfl⟩ := h2
    injection hy with hy
    subst hy
    have := hx _ hk
    simp only at this
    omega
theorem Apart.grown {w : World} {p : Nat} {Av Ax Ax' : Option Addr} (h : Apart p Av Ax) (hp : p < w.heap.size) (hv : ∀ k, isB Av k → k < w.heap.size) (d : Ax' = Ax ∨ Ax' = some ⟨w.heap.size, 0, none⟩) : Apart p Av Ax' := fun k hk => by
  rcases d with rfl | rfl
  · exact h k hk
  · obtain ⟨y, hy, rfl⟩ := hk
    injection hy with hy
    subst hy
    refine ⟨by simp only; omega, fun h2 => ?_⟩
    have := hv _ h2
    simp only at this
    omega
set_option maxRecDepth 100000 in
set_option maxHeartbeats 4000000 in
theorem codeNobody_walk (w : World) (A2 : Option Addr) (n2 c2 : Nat) (fs : List Fd) (rf : RdF w w.heap.size A2 n2 fs) (hnc2 : n2 ≤ c2) (hc2 : c2 ≤ maxLen) (hok : ∀ f ∈ fs, FdOk f) :
    Calls Try.prog 7 #[.slice A2 n2 c2] w fun e w' => e = .returned (.bool true) ∧ Below w.heap.size w w' := by
  have hn2 : n2 ≤ 9223372036854775807 := by simp only [maxLen] at hc2; omega
  go_enter Try.func7, Try.ntmps7
  go_wp2_with fail
  refine (long_any A2 n2 c2 fs _ w rf (fun f hf => (hok f hf).2.2.2.2.2.2.2) hn2).mono ?_
  rintro e w' ⟨rfl, rfl⟩
  by_cases hlong : 1000 < longN fs
  · have d0 : decide (1000 < longN fs) = true := by simp [hlong]
    rw [d0]
    go_wp2_with fail
    refine (awake3_any w').mono ?_
    rintro e w1 ⟨rfl, f1⟩
    go_wp2_with fail
    go_ret
    exact ⟨rfl, f1⟩
  · have d0 : decide (1000 < longN fs) = false := by simp [hlong]
    rw [d0]
    have hll : longN fs ≤ 1000 := by omega
    have hfl := list_long hll
    have hto := totN_le fs
    have hrl := rf.1
    have hso := fun f (hf : f ∈ fs) => size_of hll hf
    have hoks : ∀ f ∈ fs, Fok f := fun f hf => (hok f hf).ok
    clear hlong
    go_wp2_with fail
    refine absC (fun w1 => Wr w1 w'.heap.size none 0 0 [] ∧ Rr w1 (w'.heap.size + 1) (w'.heap.size + 2) ⟨[], false⟩ ∧ Below w'.heap.size w' w1) ⟨?_, ?_, ((Below.refl _ w').alloc (Nat.le_refl _) _).alloc (by simp) _⟩ ?_
    · exact ⟨(Blk.newAt rfl _ _).alloc _, OwnB.nil_ _ _ _⟩
    · exact ⟨by omega, none, 0, 0, Blk.newAt (by simp) _ _, ⟨rfl, fun h => absurd h (by omega)⟩, Nat.le_refl _⟩
    rintro w1 ⟨h1, R1, f1⟩
    refine (err_any _ _ _ w1 R1).mono ?_
    rintro e w2 ⟨rfl, rfl⟩
    go_wp2_with fail
    refine (left_any _ _ _ w2 R1).mono ?_
    rintro e w3 ⟨rfl, rfl⟩
    go_wp2_with fail
    refine (end_any _ _ _ w3 R1).mono ?_
    rintro e w4 ⟨rfl, _, g4⟩
    replace h1 := h1.off g4 (by omega) (fun k hk => by obtain ⟨x, hx, _⟩ := hk; cases hx)
    replace f1 := f1.trans (Below.one g4 f1.size (by omega))
    have hp1 := h1.lt
    clear g4 R1
    generalize hpv : w'.heap.size = pv at *
    go_wp2_with fail
    go_loopw [7, 8] (fun wa i wr => ∃ (j m : Nat) (Av : Option Addr) (cv : Nat) (Ax : Option Addr) (cx : Nat), i = .int .i64 j ∧ wa = .slice Ax m cx ∧ j ≤ n2 ∧ m = (bytesOf (fs.take j)).length ∧ Wr wr pv Av m cv (bytesOf (fs.take j)) ∧ OwnB wr pv 5 (.slice Ax m cx) (bytesOf (fs.take j)) ∧ Apart pv Av Ax ∧ (∀ k, isB Av k → pv ≤ k) ∧ Below pv w' wr) (fun _ i _ => n2 - (intOf i).toNat)
    case atStart => exact ⟨0, 0, none, 0, none, 0, rfl, rfl, Nat.zero_le _, rfl, h1, OwnB.nil_ _ _ _, (fun k hk => by obtain ⟨x, hx, _⟩ := hk; cases hx), (fun k hk => by obtain ⟨x, hx, _⟩ := hk; cases hx), f1⟩
    case round =>
      clear h1 f1
      obtain ⟨j, m, Av, cv, Ax, cx, rfl, rfl, hj, hm, hv, ox, ap, hav, F⟩ := hrel
      by_cases hlt : j < n2
      · have d1 : decide ((j : Int) < (n2 : Int)) = true := by simp; omega
        have b3 : (0 : Int) ≤ (j : Int) := by omega
        have b4 : (j : Int) < (n2 : Int) := by omega
        obtain ⟨bf, off, f, hA, hbf, hf, q0, q1, q2, q3, q4⟩ := (rf.below F).at_ hlt
        subst hA
        have hfm := List.mem_of_getElem? hf
        have hff := hoks f hfm
        have hfs := hso f hfm
        have hfk := hok f hfm
        have m1 := hfk.2.2.1
        have m2 := hfk.2.2.2.1
        clear hfk
        have hbt := bytesOf_take hf
        have htt := totN_take hf
        have htl := totN_take_le fs (j + 1)
        have hbl := bytesOf_le (fs.take j) (fun g hg => hoks g (List.mem_of_mem_take hg))
        have hsz := fbytes_le f hff.1 hff.2
        have hm60 : m + (fbytes f).length ≤ 60000 ∧ m + 10 + f.s.length ≤ 60000 := by
          have : fsz f = 10 + f.s.length := rfl
          omega
        have HM := Lib.hid hm
        have HB := Lib.hid hbt
        have HZ := Lib.hid hm60
        clear hm hbt htt htl hbl hsz hm60
        generalize bytesOf (fs.take j) = acc at *
        go_wp2_with fail
        refine (write_nil f wr hff.1 (by omega)).mono ?_
        rintro e w5 ⟨rfl, g5⟩
        replace hv := hv.below g5
        replace ox := ox.below (Nat.le_refl _) g5
        have hFs := F.size
        replace F := F.trans (g5.mono (by omega))
        clear g5 q0 q1 q2 q3 q4
        obtain ⟨q0, q1, q2, q3, q4⟩ := (rf.below F).cells hlt hf
        go_wp2_with fail
        refine (write_any pv Av m cv acc f w5 hv hff.1 (by have := HZ.out; omega)).mono ?_
        rintro e w6 ⟨rfl, Av', cv', hv', d6⟩
        have hxl : ∀ k, isB Ax k → k < w5.heap.size := fun k hk => (ox.isB_lt hk).2
        have ox' := ox.off d6.2 (fun k hk h => by
          rcases h with h | h
          · exact (ap k hk).1 h
          · exact (ap k hk).2 h)
        have ap' := ap.wrote d6 hxl
        have hav' : ∀ k, isB Av' k → pv ≤ k := fun k hk => by
          rcases d6.1 with rfl | ⟨g, rfl, hg⟩
          · exact hav k hk
          · obtain ⟨y, hy, rfl⟩ := hk
            injection hy with hy
            subst hy
            have := F.size
            simp only
            omega
        have F6 := F.trans (d6.2.below (B := pv) (by have := F.size; omega) (fun k hk => by
          rcases hk with rfl | hk
          · exact Nat.le_refl _
          · exact hav k hk))
        clear hv ox ap hav F q0 q1 q2 q3 q4 d6 hxl
        obtain ⟨q0, q1, q2, q3, q4⟩ := (rf.below F6).cells hlt hf
        go_wp2_with fail
        refine (meant_any f w6 hff (by omega)).mono ?_
        rintro e w7 ⟨Am, nm, cm, rfl, rm, g7⟩
        have hv7 := hv'.below g7
        have ox7 := ox'.below (Nat.le_refl _) g7
        have F7 := F6.trans (g7.mono (by have := F6.size; omega))
        have hnm := rm.1
        clear hv' ox' F6 q0 q1 q2 q3 q4 g7
        have hs7 := F7.size
        go_wp2_with (at_builtin; go_must (refine appendG T23 rfl rfl rfl ox7 rfl rm (by have := HZ.out; omega) (by omega) ?_); intro Ax' cx' w8 ox8 o8 ho8)
        have hvl : ∀ k, isB Av' k → k < w7.heap.size := fun k hk => (hv7.2.isB_lt hk).2
        have hv8 := hv7.off o8 (fun h => (ap' _ h).1 rfl) (fun k hk h => (ap' k h).2 hk)
        have ap8 := ap'.grown hv7.lt hvl ho8
        have F8 := F7.trans (o8.below (B := pv) (by omega) (fun k hk => (ox7.isB_lt hk).1))
        clear hv7 ox7 ap' F7 o8 ho8 hvl rm
        refine (rU8_nil w8).mono ?_
        rintro e w9 ⟨rfl, rfl⟩
        go_wp2_with fail
        refine (rU32_nil w9).mono ?_
        rintro e w9 ⟨rfl, rfl⟩
        go_wp2_with fail
        refine (rUint_nil w9).mono ?_
        rintro e w9 ⟨rfl, rfl⟩
        obtain ⟨q0, q1, q2, q3, q4⟩ := (rf.below F8).cells hlt hf
        go_wp2_with fail
        refine (rText_nil f.most w9).mono ?_
        rintro e w10 ⟨rfl, g10⟩
        have hv10 := hv8.below g10
        have ox10 := ox8.below (Nat.le_refl _) g10
        have F10 := F8.trans (g10.mono (by have := F8.size; omega))
        clear hv8 ox8 F8 g10 q0 q1 q2 q3 q4
        obtain ⟨q0, q1, q2, q3, q4⟩ := (rf.below F10).cells hlt hf
        go_wp2_with fail
        refine (rRaw_nil f.most w10).mono ?_
        rintro e w11 ⟨rfl, g11⟩
        have hv11 := hv10.below g11
        have ox11 := ox10.below (Nat.le_refl _) g11
        have F11 := F10.trans (g11.mono (by have := F10.size; omega))
        clear hv10 ox10 F10 g11 q0 q1 q2 q3 q4
        go_wp2_with fail
        refine (left_nil w11).mono ?_
        rintro e w12 ⟨rfl, rfl⟩
        go_wp2_with fail
        refine (fail_nil w12).mono ?_
        rintro e w12 ⟨rfl, rfl⟩
        go_wp2_with fail
        go_roundw
        case rel =>
          refine ⟨j + 1, m + nm, Av', cv', Ax', cx', by go_num, rfl, by omega, ?_, ?_, ?_, ap8, hav', F11⟩
          · rw [HB.out, List.length_append, ← HM.out, hnm]
          · rw [HB.out]
            have e : (acc ++ fbytes f).length = m + nm := by rw [List.length_append, ← HM.out, hnm]
            rwa [e] at hv11
          · rw [HB.out]
            exact ox11
        case measure => simp [intOf]; omega
      · obtain rfl : j = n2 := by omega
        have d1 : decide ((j : Int) < (j : Int)) = false := by simp
        rw [List.take_of_length_le (by omega)] at hm hv ox
        have hbl := bytesOf_le fs hoks
        have hm60 : m ≤ 60000 := by omega
        have HM := Lib.hid hm
        clear hm hbl
        generalize bytesOf fs = acc at *
        have rx := ox.rd
        have hwr := hv
        go_wp2_with fail
        refine wp_region_order (fun u => Below wr.heap.size wr u) 25 [(0,0), (1,1), (2,0), (3,0), (4,0), (5,0), (8,0), (9,0), (6,1), (7,1), (10,0), (11,0), (12,0), (13,0), (14,1), (15,0), (16,0), (17,0), (18,0), (19,1), (20,0), (21,0), (22,0), (23,1), (24,0), (25,2)] (by kernel_rfl) (by kernel_rfl) ?_
        simp only [pick, List.filterMap_cons, List.filterMap_nil, List.getElem?_cons_zero, List.getElem?_cons_succ, Option.map_some]
        have hS : Below wr.heap.size wr wr.drew := (Below.refl _ _).drew
        refine wpF_take (v := ?_) hS rfl ?_ (fun _ _ _ h => h) ?_
        rotate_left
        · intro w' hS'
          obtain _ := hS'
          go_simp <;> rfl
        go_simp
        refine wpF_only rfl (fun K hK => ?_)
        go_wp2_with fail
        refine (bytes_nil _).mono ?_
        rintro e wL ⟨rfl, rfl⟩
        go_wp2_with fail
        first | refine ⟨fun _ => hS, ?_⟩ | skip
        go_simp
        refine wpF_take (v := ?_) hS rfl ?_ (fun _ _ _ h => h) ?_
        rotate_left
        · intro w' hS'
          obtain _ := hS'
          go_simp <;> rfl
        go_simp
        refine wpF_take (v := .bool true) hS rfl (fun w' _ => by go_simp) (fun _ _ _ h => h) ?_
        go_simp
        refine wpF_take (v := ?_) hS rfl ?_ (fun _ _ _ h => h) ?_
        rotate_left
        · intro w' hS'
          obtain _ := hS'
          go_simp <;> rfl
        go_simp
        refine wpF_take (v := ?_) hS rfl ?_ (fun _ _ _ h => h) ?_
        rotate_left
        · intro w' hS'
          obtain _ := hS'
          go_simp <;> rfl
        go_simp
        refine wpF_take (v := ?_) hS rfl ?_ (fun _ _ _ h => h) ?_
        rotate_left
        · intro w' hS'
          obtain _ := hS'
          go_simp <;> rfl
        go_simp
        refine wpF_take (v := .string (strB acc)) hS rfl (fun u hS' => ?_) (fun _ _ _ h => h) ?_
        · have := run_str T23 (rx.below hS') cx _ Try.underlying9
          go_simp <;> rw [this]
        go_simp
        refine wpF_only rfl (fun K hK => ?_)
        go_wp2_with fail
        refine (bytes_any pv Av m cv acc _ (show Wr wr.drew pv Av m cv acc from hv) (by omega)).mono ?_
        rintro e wB ⟨Ab, cb, rfl, ob, fb⟩
        have kb : (convert 28 9 (.slice Ab m cb)).run Try.prog wB = .ok (.string (strB acc)) wB := ob.str
        have hB : Below wr.heap.size wr wB := hS.trans fb
        go_wp2_with fail
        first | refine ⟨fun _ => hB, ?_⟩ | skip
        go_simp
        refine wpF_only rfl (fun K hK => ?_)
        go_wp2_with fail
        first | refine ⟨fun _ => hB, ?_⟩ | skip
        go_simp
        refine wpF_take (v := .bool true) hB rfl (fun w' _ => by go_simp) (fun _ _ _ h => h) ?_
        go_simp
        refine wpF_take (v := ?_) hB rfl ?_ (fun _ _ _ h => h) ?_
        rotate_left
        · intro w' hS'
          obtain _ := hS'
          go_simp <;> rfl
        go_simp
        refine wpF_take (v := ?_) hB rfl ?_ (fun _ _ _ h => h) ?_
        rotate_left
        · intro w' hS'
          obtain _ := hS'
          go_simp <;> rfl
        go_simp
        refine wpF_take (v := ?_) hB rfl ?_ (fun _ _ _ h => h) ?_
        rotate_left
        · intro w' hS'
          obtain _ := hS'
          go_simp <;> rfl
        go_simp
        refine wpF_only rfl (fun K hK => ?_)
        go_wp2_with fail
        refine (err_nil _).mono ?_
        rintro e wL ⟨rfl, rfl⟩
        go_wp2_with fail
        first | refine ⟨fun _ => hB, ?_⟩ | skip
        go_simp
        refine wpF_take (v := .bool true) hB rfl (fun w' _ => by go_simp) (fun _ _ _ h => h) ?_
        go_simp
        refine wpF_take (v := ?_) hB rfl ?_ (fun _ _ _ h => h) ?_
        rotate_left
        · intro w' hS'
          obtain _ := hS'
          go_simp <;> rfl
        go_simp
        refine wpF_take (v := ?_) hB rfl ?_ (fun _ _ _ h => h) ?_
        rotate_left
        · intro w' hS'
          obtain _ := hS'
          go_simp <;> rfl
        go_simp
        refine wpF_take (v := ?_) hB rfl ?_ (fun _ _ _ h => h) ?_
        rotate_left
        · intro w' hS'
          obtain _ := hS'
          go_simp <;> rfl
        go_simp
        refine wpF_only rfl (fun K hK => ?_)
        go_wp2_with fail
        refine (end_nil _).mono ?_
        rintro e wL ⟨rfl, rfl⟩
        go_wp2_with fail
        first | refine ⟨fun _ => hB, ?_⟩ | skip
        go_simp
        refine wpF_take (v := .bool true) hB rfl (fun w' _ => by go_simp) (fun _ _ _ h => h) ?_
        go_simp
        refine wpF_take (v := ?_) hB rfl ?_ (fun _ _ _ h => h) ?_
        rotate_left
        · intro w' hS'
          obtain _ := hS'
          go_simp <;> rfl
        go_simp
        refine wpF_take (v := ?_) hB rfl ?_ (fun _ _ _ h => h) ?_
        rotate_left
        · intro w' hS'
          obtain _ := hS'
          go_simp <;> rfl
        go_simp
        refine wpF_only rfl (fun K hK => ?_)
        go_wp2_with fail
        refine (awake3_any _).mono ?_
        rintro e wA ⟨rfl, fA⟩
        have hA : Below wr.heap.size wr wA := hB.trans (fA.mono hB.size)
        clear fA
        go_wp2_with fail
        first | refine ⟨fun _ => hA, ?_⟩ | skip
        go_simp
        refine wpF_take (v := ?_) hA rfl ?_ (fun _ _ _ h => h) ?_
        rotate_left
        · intro w' hS'
          obtain _ := hS'
          go_simp <;> rfl
        go_simp
        refine wpF_only rfl (fun K hK => ?_)
        go_wp2_with fail
        refine ⟨fun h => absurd h (by omega), wpF_nil ?_⟩
        go_wp2_with fail
        go_ret
        exact ⟨rfl, by rw [hpv]; exact F.trans (hA.mono (by have := F.size; omega))⟩
end Go.Proofs.Ytdblgjecbmebjaa
