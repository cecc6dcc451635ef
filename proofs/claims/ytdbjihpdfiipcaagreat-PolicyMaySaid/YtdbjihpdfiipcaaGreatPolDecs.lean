/- policy.reader's small; policy.row at each type. Conditions: sizes. Printed by gen_prow.py. policy.reader's parts: what they read, and that it lies in memory of its own. Condition: sizes. Printed by gen_pdec.py. policy.Decode: what it reads, in memory of its own. Condition: sizes. Printed by gen_pdec2.py. -/
import Derived.Test.YtdbjihpdfiipcaaGreatRdPolL
import Derived.Test.YtdbjihpdfiipcaaGreatPolCopy
import Derived.Test.YtdbjihpdfiipcaaGreatPolAwake
namespace Go.Proofs.YtdbjihpdfiipcaaGreat
open Go.RowKit Go.Sort
set_option linter.unusedVariables false
set_option linter.unusedSimpArgs false
theorem Rr.offE {X : Nat → Prop} {w w' : World} {p b : Nat} {s : RS} (h : Rr w p b s) (hb : Off X w w') (h1 : ¬ X p) (h2 : s.l ≠ [] → ¬ X b) : Rr w' p b s := by
  obtain ⟨h0, A, n, c, k, r, hc⟩ := h
  refine ⟨h0, A, n, c, k.off hb h1, ⟨r.1, fun hn => ?_⟩, hc⟩
  have hne : s.l ≠ [] := fun e => by have := r.1; rw [e] at this; simp at this; omega
  obtain ⟨off, h3, h4, h5⟩ := r.2 hn
  exact ⟨off, h3, Nat.lt_of_lt_of_le h4 hb.size, fun j hj => (hb.cell (p := ⟨b, off + j, none⟩) h4 (h2 hne)).trans (h5 j hj)⟩
theorem Rr.plt {w : World} {p b : Nat} {s : RS} (h : Rr w p b s) : p < w.heap.size := by
  obtain ⟨_, A, n, c, k, _⟩ := h
  exact k.lt
theorem Rr.blt {w : World} {p b : Nat} {s : RS} (h : Rr w p b s) (hl : s.l ≠ []) : b < w.heap.size := by
  obtain ⟨_, A, n, c, k, r, _⟩ := h
  have h1 := r.1
  have : s.l.length ≠ 0 := fun e => hl (List.eq_nil_of_length_eq_zero e)
  obtain ⟨off, _, h2, _⟩ := r.2 (by omega)
  exact h2
theorem Rr.same {w w' : World} {p b : Nat} {s : RS} (h : Rr w p b s) (hb : Below w.heap.size w w') : Rr w' p b s := h.off (Off.of_all hb) _root_.id _root_.id
/-- Cells that are known, in memory of one's own or not. -/
def FlP {α : Type} (enc : α → List Value) : World → Nat → List Value → α → Prop := fun _ _ cs x => cs = enc x
theorem FlP.mn {α : Type} (enc : α → List Value) : Mn (FlP enc) := fun _ _ _ _ _ _ _ _ h => h
theorem OwnG.flat {α : Type} {enc : α → List Value} {k : Nat} {w : World} {base e : Nat} {v : Value} {L : List α} (h : OwnG k (FlP enc) w base e v L) : RvR enc k (mineW base none w) w.heap.size v L := by
  obtain ⟨A, n, c, h1, h2, h3, h4⟩ := h.rvm (FlP.mn enc)
  exact ⟨A, n, c, h1, h2, h3, h4.r⟩
set_option maxRecDepth 100000 in
set_option maxHeartbeats 2000000 in
theorem small_any (p b most : Nat) (hm : most ≤ 1000000) (s : RS) (w : World) (h : Rr w p b s) :
    Calls Tryz.prog 64 #[.agg #[.pointer (some ⟨p, 0, none⟩)], .int .i64 (most : Int)] w fun e w' => e = .returned (.int .i64 ((smallN most s).1 : Nat)) ∧ Rr w' p b (smallN most s).2 ∧ Off (fun k => k = p) w w' := by
  have hs : smallN most s = if most < (takeS findShort 0 s).1 then (0, ⟨(takeS findShort 0 s).2.l, true⟩) else ((takeS findShort 0 s).1, (takeS findShort 0 s).2) := rfl
  obtain ⟨⟨za, zs⟩, hz⟩ : ∃ z, smallN most s = z := ⟨_, rfl⟩
  rw [hz] at hs ⊢
  have HS := Lib.hid hs; clear hs hz
  have hp := h.plt
  have hu := IntWalk.u64_in (most : Int) (by omega)
  obtain ⟨wb, hwb⟩ : ∃ wb, w.alloc (.cells #[.pointer (some ⟨p, 0, none⟩)] 94) = wb := ⟨_, rfl⟩
  have fa : Below w.heap.size w wb := by rw [← hwb]; exact (Below.refl _ _).alloc (Nat.le_refl _) _
  have kb : Blk wb w.heap.size 94 [.pointer (some ⟨p, 0, none⟩)] := by rw [← hwb]; exact Blk.newAt rfl _ #[.pointer (some ⟨p, 0, none⟩)]
  have hU := rUint_any p b s wb (h.same fa)
  have e0 := kb.cell 0
  obtain ⟨x, hx⟩ : ∃ x, (takeS findShort 0 s).1 = x := ⟨_, rfl⟩
  obtain ⟨s1, hs1⟩ : ∃ x, (takeS findShort 0 s).2 = x := ⟨_, rfl⟩
  have hx64 : x < 18446744073709551616 := by rw [← hx]; exact takeS_short s
  rw [hx, hs1] at hU HS
  clear hx hs1
  have oa : Off (fun k => k = p) w wb := (Off.of_all fa).mono fun _ _ h => h.elim
  go_enter Tryz.func64, Tryz.ntmps64
  go_wp2_with fail
  refine hU.mono ?_
  rintro e w1 ⟨rfl, h1, o1⟩
  have e1 := (kb.off o1 (by omega)).cell 0
  have ow : Off (fun k => k = p) w w1 := oa.trans o1 fun _ _ h => h
  clear hU e0
  by_cases hg : most < x
  · have d1 : decide ((most : Int) < (x : Int)) = true := by simp; omega
    have hr := HS.out
    rw [if_pos hg] at hr
    injection hr with hr1 hr2
    subst hr1 hr2
    clear HS
    go_wp2_with fail
    refine (fail_any p b s1 w1 h1).mono ?_
    rintro e w2 ⟨rfl, h2, o2⟩
    go_wp2_with fail
    go_ret
    exact ⟨rfl, h2, ow.trans o2 fun _ _ h => h⟩
  · have d1 : decide ((most : Int) < (x : Int)) = false := by simp; omega
    have hr := HS.out
    rw [if_neg hg] at hr
    injection hr with hr1 hr2
    subst hr1 hr2
    clear HS
    have hi := IntWalk.i64_in (za : Int) (by omega)
    go_wp2_with fail
    go_ret
    exact ⟨rfl, h1, ow⟩
set_option maxRecDepth 100000 in
set_option maxHeartbeats 2000000 in
theorem row_Term {α : Type} (P : World → Nat → List Value → α → Prop) (hP : Mn P) (p b most : Nat) (hm : most ≤ 1000) (s : RS) (w : World) (h : Rr w p b s) (one : RS → α × RS) (hln : ∀ s, (one s).2.l.length ≤ s.l.length)
    (hone : ∀ u s', Rr u p b s' → s'.l.length ≤ s.l.length → Calls Tryz.prog 182 #[.agg #[.pointer (some ⟨p, 0, none⟩)]] u fun e u' => ∃ (x1 : Int) (sb2 : ByteArray), e = .returned (.agg #[.int .i64 x1, .string sb2]) ∧ P (mineW u.heap.size none u') u'.heap.size [.int .i64 x1, .string sb2] (one s').1 ∧ Rr u' p b (one s').2 ∧ Off (fun k => k = p) u u') :
    Calls Tryz.prog 181 #[.agg #[.pointer (some ⟨p, 0, none⟩)], .int .i64 (most : Int), .func (.func 182) #[.agg #[.pointer (some ⟨p, 0, none⟩)]] #[]] w fun e w' => ∃ v, e = .returned v ∧ OwnG 2 P w' w.heap.size 78 v (rowS most one s).1 ∧ Rr w' p b (rowS most one s).2 ∧ Off (fun k => k = p) w w' := by
  have hp := h.plt
  have hbl : s.l ≠ [] → b < w.heap.size := h.blt
  obtain ⟨wb, hwb⟩ : ∃ wb, w.alloc (.cells #[.pointer (some ⟨p, 0, none⟩)] 94) = wb := ⟨_, rfl⟩
  have fa : Below w.heap.size w wb := by rw [← hwb]; exact (Below.refl _ _).alloc (Nat.le_refl _) _
  have kb : Blk wb w.heap.size 94 [.pointer (some ⟨p, 0, none⟩)] := by rw [← hwb]; exact Blk.newAt rfl _ #[.pointer (some ⟨p, 0, none⟩)]
  have hS := small_any p b most (by omega) s wb (h.same fa)
  have e0 := kb.cell 0
  have oa : Off (fun k => k = p) w wb := (Off.of_all fa).mono fun _ _ h => h.elim
  have hle := smallN_le most s
  have hsl := smallN_len most s
  have hr : rowS most one s = itS one (smallN most s).2 (smallN most s).1 := rfl
  rw [hr]
  clear hr
  obtain ⟨n, hn⟩ : ∃ x, (smallN most s).1 = x := ⟨_, rfl⟩
  obtain ⟨s1, hs1⟩ : ∃ x, (smallN most s).2 = x := ⟨_, rfl⟩
  rw [hn] at hS hle ⊢
  rw [hs1] at hS hsl ⊢
  clear hn hs1
  have HO := Lib.hid hone; clear hone
  have HSL := Lib.hid hsl; clear hsl
  go_enter Tryz.func181, Tryz.ntmps181
  go_wp2_with fail
  refine hS.mono ?_
  rintro e w1 ⟨rfl, h1, o1⟩
  have ow : Off (fun k => k = p) w w1 := oa.trans o1 fun _ _ h => h
  clear hS e0 hwb
  go_wp2_with fail
  go_loopw [11, 7] (fun v11 v7 wr => ∃ (k : Nat) (A : Option Addr) (c : Nat), v11 = .int .i64 k ∧ v7 = .slice A k c ∧ k ≤ n ∧ OwnG 2 P wr w.heap.size 78 (.slice A k c) (itS one s1 k).1 ∧ Rr wr p b (itS one s1 k).2 ∧ Off (fun k => k = p) w wr) (fun v11 _ _ => n - (intOf v11).toNat)
  case atStart => exact ⟨0, none, 0, rfl, rfl, Nat.zero_le _, OwnG.nil, h1, ow⟩
  case round =>
    obtain ⟨k, A, c, rfl, rfl, hk, og, hr, o2⟩ := hrel
    by_cases hlt : k < n
    · have d1 : decide ((k : Int) < (n : Int)) = true := by simp; omega
      have hil := itS_len hln s1 k
      have hO := HO.out wr _ hr (by have := HSL.out; omega)
      have OG := Lib.hid og; have O2 := Lib.hid o2
      have hAb : ∀ q, (Value.slice A k c).ownBlock = some q → w.heap.size ≤ q ∧ q < wr.heap.size := fun q hq => og.lt q hq
      clear og o2 hil
      go_wp2_with fail
      refine hO.mono ?_
      rintro e w3 ⟨x1, sb2, rfl, hPx, hr3, o3⟩
      have og3 := OG.out.off hP o3 (fun q hq => .inl (by omega))
      have ow3 := O2.out.size
      have o3s := o3.size
      have fal : Below w3.heap.size w3 (w3.alloc (.cells #[.int .i64 x1, .string sb2] 78)) := (Below.refl _ _).alloc (Nat.le_refl _) _
      have hPy := hP _ _ _ _ _ _ (Nat.le_succ _) (Sub.own1 (w := w3) (base := w.heap.size) (lo := wr.heap.size) (B := w3.heap.size) (g := (Value.slice A k c).ownBlock) (.cells #[.int .i64 x1, .string sb2] 78) ow3 (fun q hq => (hAb q hq).2) (Nat.le_refl _)) hPx
      have hcells := new_cells w3 [.int .i64 x1, .string sb2] 78
      have HCE := Lib.hid hcells; clear hcells hPx
      go_wp2_with (at_builtin; go_must (refine appendOwn1 TTm hP rfl rfl rfl (og3.below hP fal) rfl rfl (by intro v hv; simp only [List.mem_cons, List.mem_nil_iff, or_false] at hv; rcases hv with rfl | rfl <;> rfl) HCE.out (by rw [show (w3.alloc (.cells #[.int .i64 x1, .string sb2] 78)).heap.size = w3.heap.size + 1 by simp]; exact hPy) (by omega) (by simp only [maxLen]; omega) (by simp; omega) ?_); intro A' c' w4 og4 g4)
      have oA : Off (fun q => (Value.slice A k c).ownBlock = some q) w3 w4 := ((Off.refl _ _).alloc _).grown g4 fun q hq _ => hq
      have hr4 := hr3.offE oA (fun hq => by have := hAb _ hq; omega) (fun hne hq => by
        have hlb := hbl (fun e => hne (List.eq_nil_of_length_eq_zero (by have := hln (itS one s1 k).2; have := itS_len hln s1 k; have := HSL.out; have e0 : s.l.length = 0 := (by rw [e]; rfl); omega)))
        have := hAb _ hq
        omega)
      have o4 : Off (fun q => q = p) w w4 := (O2.out.trans o3 fun _ _ h => h).trans oA fun q hq1 hq => by have := hAb _ hq; omega
      go_roundw
      case rel => exact ⟨k + 1, A', c', by go_num, rfl, by omega, og4, hr4, o4⟩
      case measure => simp [intOf]; omega
    · have d1 : decide ((k : Int) < (n : Int)) = false := by simp; omega
      obtain rfl : n = k := by omega
      go_wp2_with fail
      go_ret
      exact ⟨_, rfl, og, hr, o2⟩
set_option maxRecDepth 100000 in
set_option maxHeartbeats 2000000 in
theorem row_Cidr {α : Type} (P : World → Nat → List Value → α → Prop) (hP : Mn P) (p b most : Nat) (hm : most ≤ 1000) (s : RS) (w : World) (h : Rr w p b s) (one : RS → α × RS) (hln : ∀ s, (one s).2.l.length ≤ s.l.length)
    (hone : ∀ u s', Rr u p b s' → s'.l.length ≤ s.l.length → Calls Tryz.prog 157 #[.agg #[.pointer (some ⟨p, 0, none⟩)]] u fun e u' => ∃ (x1 : Int) (x2 : Int), e = .returned (.agg #[.int .u32 x1, .int .i64 x2]) ∧ P (mineW u.heap.size none u') u'.heap.size [.int .u32 x1, .int .i64 x2] (one s').1 ∧ Rr u' p b (one s').2 ∧ Off (fun k => k = p) u u') :
    Calls Tryz.prog 156 #[.agg #[.pointer (some ⟨p, 0, none⟩)], .int .i64 (most : Int), .func (.func 157) #[.agg #[.pointer (some ⟨p, 0, none⟩)]] #[]] w fun e w' => ∃ v, e = .returned v ∧ OwnG 2 P w' w.heap.size 48 v (rowS most one s).1 ∧ Rr w' p b (rowS most one s).2 ∧ Off (fun k => k = p) w w' := by
  have hp := h.plt
  have hbl : s.l ≠ [] → b < w.heap.size := h.blt
  obtain ⟨wb, hwb⟩ : ∃ wb, w.alloc (.cells #[.pointer (some ⟨p, 0, none⟩)] 94) = wb := ⟨_, rfl⟩
  have fa : Below w.heap.size w wb := by rw [← hwb]; exact (Below.refl _ _).alloc (Nat.le_refl _) _
  have kb : Blk wb w.heap.size 94 [.pointer (some ⟨p, 0, none⟩)] := by rw [← hwb]; exact Blk.newAt rfl _ #[.pointer (some ⟨p, 0, none⟩)]
  have hS := small_any p b most (by omega) s wb (h.same fa)
  have e0 := kb.cell 0
  have oa : Off (fun k => k = p) w wb := (Off.of_all fa).mono fun _ _ h => h.elim
  have hle := smallN_le most s
  have hsl := smallN_len most s
  have hr : rowS most one s = itS one (smallN most s).2 (smallN most s).1 := rfl
  rw [hr]
  clear hr
  obtain ⟨n, hn⟩ : ∃ x, (smallN most s).1 = x := ⟨_, rfl⟩
  obtain ⟨s1, hs1⟩ : ∃ x, (smallN most s).2 = x := ⟨_, rfl⟩
  rw [hn] at hS hle ⊢
  rw [hs1] at hS hsl ⊢
  clear hn hs1
  have HO := Lib.hid hone; clear hone
  have HSL := Lib.hid hsl; clear hsl
  go_enter Tryz.func156, Tryz.ntmps156
  go_wp2_with fail
  refine hS.mono ?_
  rintro e w1 ⟨rfl, h1, o1⟩
  have ow : Off (fun k => k = p) w w1 := oa.trans o1 fun _ _ h => h
  clear hS e0 hwb
  go_wp2_with fail
  go_loopw [11, 7] (fun v11 v7 wr => ∃ (k : Nat) (A : Option Addr) (c : Nat), v11 = .int .i64 k ∧ v7 = .slice A k c ∧ k ≤ n ∧ OwnG 2 P wr w.heap.size 48 (.slice A k c) (itS one s1 k).1 ∧ Rr wr p b (itS one s1 k).2 ∧ Off (fun k => k = p) w wr) (fun v11 _ _ => n - (intOf v11).toNat)
  case atStart => exact ⟨0, none, 0, rfl, rfl, Nat.zero_le _, OwnG.nil, h1, ow⟩
  case round =>
    obtain ⟨k, A, c, rfl, rfl, hk, og, hr, o2⟩ := hrel
    by_cases hlt : k < n
    · have d1 : decide ((k : Int) < (n : Int)) = true := by simp; omega
      have hil := itS_len hln s1 k
      have hO := HO.out wr _ hr (by have := HSL.out; omega)
      have OG := Lib.hid og; have O2 := Lib.hid o2
      have hAb : ∀ q, (Value.slice A k c).ownBlock = some q → w.heap.size ≤ q ∧ q < wr.heap.size := fun q hq => og.lt q hq
      clear og o2 hil
      go_wp2_with fail
      refine hO.mono ?_
      rintro e w3 ⟨x1, x2, rfl, hPx, hr3, o3⟩
      have og3 := OG.out.off hP o3 (fun q hq => .inl (by omega))
      have ow3 := O2.out.size
      have o3s := o3.size
      have fal : Below w3.heap.size w3 (w3.alloc (.cells #[.int .u32 x1, .int .i64 x2] 48)) := (Below.refl _ _).alloc (Nat.le_refl _) _
      have hPy := hP _ _ _ _ _ _ (Nat.le_succ _) (Sub.own1 (w := w3) (base := w.heap.size) (lo := wr.heap.size) (B := w3.heap.size) (g := (Value.slice A k c).ownBlock) (.cells #[.int .u32 x1, .int .i64 x2] 48) ow3 (fun q hq => (hAb q hq).2) (Nat.le_refl _)) hPx
      have hcells := new_cells w3 [.int .u32 x1, .int .i64 x2] 48
      have HCE := Lib.hid hcells; clear hcells hPx
      go_wp2_with (at_builtin; go_must (refine appendOwn1 TNt hP rfl rfl rfl (og3.below hP fal) rfl rfl (by intro v hv; simp only [List.mem_cons, List.mem_nil_iff, or_false] at hv; rcases hv with rfl | rfl <;> rfl) HCE.out (by rw [show (w3.alloc (.cells #[.int .u32 x1, .int .i64 x2] 48)).heap.size = w3.heap.size + 1 by simp]; exact hPy) (by omega) (by simp only [maxLen]; omega) (by simp; omega) ?_); intro A' c' w4 og4 g4)
      have oA : Off (fun q => (Value.slice A k c).ownBlock = some q) w3 w4 := ((Off.refl _ _).alloc _).grown g4 fun q hq _ => hq
      have hr4 := hr3.offE oA (fun hq => by have := hAb _ hq; omega) (fun hne hq => by
        have hlb := hbl (fun e => hne (List.eq_nil_of_length_eq_zero (by have := hln (itS one s1 k).2; have := itS_len hln s1 k; have := HSL.out; have e0 : s.l.length = 0 := (by rw [e]; rfl); omega)))
        have := hAb _ hq
        omega)
      have o4 : Off (fun q => q = p) w w4 := (O2.out.trans o3 fun _ _ h => h).trans oA fun q hq1 hq => by have := hAb _ hq; omega
      go_roundw
      case rel => exact ⟨k + 1, A', c', by go_num, rfl, by omega, og4, hr4, o4⟩
      case measure => simp [intOf]; omega
    · have d1 : decide ((k : Int) < (n : Int)) = false := by simp; omega
      obtain rfl : n = k := by omega
      go_wp2_with fail
      go_ret
      exact ⟨_, rfl, og, hr, o2⟩
set_option maxRecDepth 100000 in
set_option maxHeartbeats 2000000 in
theorem row_int {α : Type} (P : World → Nat → List Value → α → Prop) (hP : Mn P) (p b most : Nat) (hm : most ≤ 1000) (s : RS) (w : World) (h : Rr w p b s) (one : RS → α × RS) (hln : ∀ s, (one s).2.l.length ≤ s.l.length)
    (hone : ∀ u s', Rr u p b s' → s'.l.length ≤ s.l.length → Calls Tryz.prog 159 #[.agg #[.pointer (some ⟨p, 0, none⟩)]] u fun e u' => ∃ (x1 : Int), e = .returned (.int .i64 x1) ∧ P (mineW u.heap.size none u') u'.heap.size [.int .i64 x1] (one s').1 ∧ Rr u' p b (one s').2 ∧ Off (fun k => k = p) u u') :
    Calls Tryz.prog 158 #[.agg #[.pointer (some ⟨p, 0, none⟩)], .int .i64 (most : Int), .func (.func 159) #[.agg #[.pointer (some ⟨p, 0, none⟩)]] #[]] w fun e w' => ∃ v, e = .returned v ∧ OwnG 1 P w' w.heap.size 3 v (rowS most one s).1 ∧ Rr w' p b (rowS most one s).2 ∧ Off (fun k => k = p) w w' := by
  have hp := h.plt
  have hbl : s.l ≠ [] → b < w.heap.size := h.blt
  obtain ⟨wb, hwb⟩ : ∃ wb, w.alloc (.cells #[.pointer (some ⟨p, 0, none⟩)] 94) = wb := ⟨_, rfl⟩
  have fa : Below w.heap.size w wb := by rw [← hwb]; exact (Below.refl _ _).alloc (Nat.le_refl _) _
  have kb : Blk wb w.heap.size 94 [.pointer (some ⟨p, 0, none⟩)] := by rw [← hwb]; exact Blk.newAt rfl _ #[.pointer (some ⟨p, 0, none⟩)]
  have hS := small_any p b most (by omega) s wb (h.same fa)
  have e0 := kb.cell 0
  have oa : Off (fun k => k = p) w wb := (Off.of_all fa).mono fun _ _ h => h.elim
  have hle := smallN_le most s
  have hsl := smallN_len most s
  have hr : rowS most one s = itS one (smallN most s).2 (smallN most s).1 := rfl
  rw [hr]
  clear hr
  obtain ⟨n, hn⟩ : ∃ x, (smallN most s).1 = x := ⟨_, rfl⟩
  obtain ⟨s1, hs1⟩ : ∃ x, (smallN most s).2 = x := ⟨_, rfl⟩
  rw [hn] at hS hle ⊢
  rw [hs1] at hS hsl ⊢
  clear hn hs1
  have HO := Lib.hid hone; clear hone
  have HSL := Lib.hid hsl; clear hsl
  go_enter Tryz.func158, Tryz.ntmps158
  go_wp2_with fail
  refine hS.mono ?_
  rintro e w1 ⟨rfl, h1, o1⟩
  have ow : Off (fun k => k = p) w w1 := oa.trans o1 fun _ _ h => h
  clear hS e0 hwb
  go_wp2_with fail
  go_loopw [11, 7] (fun v11 v7 wr => ∃ (k : Nat) (A : Option Addr) (c : Nat), v11 = .int .i64 k ∧ v7 = .slice A k c ∧ k ≤ n ∧ OwnG 1 P wr w.heap.size 3 (.slice A k c) (itS one s1 k).1 ∧ Rr wr p b (itS one s1 k).2 ∧ Off (fun k => k = p) w wr) (fun v11 _ _ => n - (intOf v11).toNat)
  case atStart => exact ⟨0, none, 0, rfl, rfl, Nat.zero_le _, OwnG.nil, h1, ow⟩
  case round =>
    obtain ⟨k, A, c, rfl, rfl, hk, og, hr, o2⟩ := hrel
    by_cases hlt : k < n
    · have d1 : decide ((k : Int) < (n : Int)) = true := by simp; omega
      have hil := itS_len hln s1 k
      have hO := HO.out wr _ hr (by have := HSL.out; omega)
      have OG := Lib.hid og; have O2 := Lib.hid o2
      have hAb : ∀ q, (Value.slice A k c).ownBlock = some q → w.heap.size ≤ q ∧ q < wr.heap.size := fun q hq => og.lt q hq
      clear og o2 hil
      go_wp2_with fail
      refine hO.mono ?_
      rintro e w3 ⟨x1, rfl, hPx, hr3, o3⟩
      have og3 := OG.out.off hP o3 (fun q hq => .inl (by omega))
      have ow3 := O2.out.size
      have o3s := o3.size
      have fal : Below w3.heap.size w3 (w3.alloc (.cells #[.int .i64 x1] 3)) := (Below.refl _ _).alloc (Nat.le_refl _) _
      have hPy := hP _ _ _ _ _ _ (Nat.le_succ _) (Sub.own1 (w := w3) (base := w.heap.size) (lo := wr.heap.size) (B := w3.heap.size) (g := (Value.slice A k c).ownBlock) (.cells #[.int .i64 x1] 3) ow3 (fun q hq => (hAb q hq).2) (Nat.le_refl _)) hPx
      have hcells := new_cells w3 [.int .i64 x1] 3
      have HCE := Lib.hid hcells; clear hcells hPx
      go_wp2_with (at_builtin; go_must (refine appendOwn1 TIn hP rfl rfl rfl (og3.below hP fal) rfl rfl (by intro v hv; simp only [List.mem_cons, List.mem_nil_iff, or_false] at hv; rcases hv with rfl <;> rfl) HCE.out (by rw [show (w3.alloc (.cells #[.int .i64 x1] 3)).heap.size = w3.heap.size + 1 by simp]; exact hPy) (by omega) (by simp only [maxLen]; omega) (by simp; omega) ?_); intro A' c' w4 og4 g4)
      have oA : Off (fun q => (Value.slice A k c).ownBlock = some q) w3 w4 := ((Off.refl _ _).alloc _).grown g4 fun q hq _ => hq
      have hr4 := hr3.offE oA (fun hq => by have := hAb _ hq; omega) (fun hne hq => by
        have hlb := hbl (fun e => hne (List.eq_nil_of_length_eq_zero (by have := hln (itS one s1 k).2; have := itS_len hln s1 k; have := HSL.out; have e0 : s.l.length = 0 := (by rw [e]; rfl); omega)))
        have := hAb _ hq
        omega)
      have o4 : Off (fun q => q = p) w w4 := (O2.out.trans o3 fun _ _ h => h).trans oA fun q hq1 hq => by have := hAb _ hq; omega
      go_roundw
      case rel => exact ⟨k + 1, A', c', by go_num, rfl, by omega, og4, hr4, o4⟩
      case measure => simp [intOf]; omega
    · have d1 : decide ((k : Int) < (n : Int)) = false := by simp; omega
      obtain rfl : n = k := by omega
      go_wp2_with fail
      go_ret
      exact ⟨_, rfl, og, hr, o2⟩
set_option maxRecDepth 100000 in
set_option maxHeartbeats 2000000 in
theorem row_Source {α : Type} (P : World → Nat → List Value → α → Prop) (hP : Mn P) (p b most : Nat) (hm : most ≤ 1000) (s : RS) (w : World) (h : Rr w p b s) (one : RS → α × RS) (hln : ∀ s, (one s).2.l.length ≤ s.l.length)
    (hone : ∀ u s', Rr u p b s' → s'.l.length ≤ s.l.length → Calls Tryz.prog 115 #[.agg #[.pointer (some ⟨p, 0, none⟩)]] u fun e u' => ∃ (A1 : Option Addr) (n1 c1 : Nat) (A2 : Option Addr) (n2 c2 : Nat) (A3 : Option Addr) (n3 c3 : Nat), e = .returned (.agg #[.slice A1 n1 c1, .slice A2 n2 c2, .slice A3 n3 c3]) ∧ P (mineW u.heap.size none u') u'.heap.size [.slice A1 n1 c1, .slice A2 n2 c2, .slice A3 n3 c3] (one s').1 ∧ Rr u' p b (one s').2 ∧ Off (fun k => k = p) u u') :
    Calls Tryz.prog 114 #[.agg #[.pointer (some ⟨p, 0, none⟩)], .int .i64 (most : Int), .func (.func 115) #[.agg #[.pointer (some ⟨p, 0, none⟩)]] #[]] w fun e w' => ∃ v, e = .returned v ∧ OwnG 3 P w' w.heap.size 45 v (rowS most one s).1 ∧ Rr w' p b (rowS most one s).2 ∧ Off (fun k => k = p) w w' := by
  have hp := h.plt
  have hbl : s.l ≠ [] → b < w.heap.size := h.blt
  obtain ⟨wb, hwb⟩ : ∃ wb, w.alloc (.cells #[.pointer (some ⟨p, 0, none⟩)] 94) = wb := ⟨_, rfl⟩
  have fa : Below w.heap.size w wb := by rw [← hwb]; exact (Below.refl _ _).alloc (Nat.le_refl _) _
  have kb : Blk wb w.heap.size 94 [.pointer (some ⟨p, 0, none⟩)] := by rw [← hwb]; exact Blk.newAt rfl _ #[.pointer (some ⟨p, 0, none⟩)]
  have hS := small_any p b most (by omega) s wb (h.same fa)
  have e0 := kb.cell 0
  have oa : Off (fun k => k = p) w wb := (Off.of_all fa).mono fun _ _ h => h.elim
  have hle := smallN_le most s
  have hsl := smallN_len most s
  have hr : rowS most one s = itS one (smallN most s).2 (smallN most s).1 := rfl
  rw [hr]
  clear hr
  obtain ⟨n, hn⟩ : ∃ x, (smallN most s).1 = x := ⟨_, rfl⟩
  obtain ⟨s1, hs1⟩ : ∃ x, (smallN most s).2 = x := ⟨_, rfl⟩
  rw [hn] at hS hle ⊢
  rw [hs1] at hS hsl ⊢
  clear hn hs1
  have HO := Lib.hid hone; clear hone
  have HSL := Lib.hid hsl; clear hsl
  go_enter Tryz.func114, Tryz.ntmps114
  go_wp2_with fail
  refine hS.mono ?_
  rintro e w1 ⟨rfl, h1, o1⟩
  have ow : Off (fun k => k = p) w w1 := oa.trans o1 fun _ _ h => h
  clear hS e0 hwb
  go_wp2_with fail
  go_loopw [11, 7] (fun v11 v7 wr => ∃ (k : Nat) (A : Option Addr) (c : Nat), v11 = .int .i64 k ∧ v7 = .slice A k c ∧ k ≤ n ∧ OwnG 3 P wr w.heap.size 45 (.slice A k c) (itS one s1 k).1 ∧ Rr wr p b (itS one s1 k).2 ∧ Off (fun k => k = p) w wr) (fun v11 _ _ => n - (intOf v11).toNat)
  case atStart => exact ⟨0, none, 0, rfl, rfl, Nat.zero_le _, OwnG.nil, h1, ow⟩
  case round =>
    obtain ⟨k, A, c, rfl, rfl, hk, og, hr, o2⟩ := hrel
    by_cases hlt : k < n
    · have d1 : decide ((k : Int) < (n : Int)) = true := by simp; omega
      have hil := itS_len hln s1 k
      have hO := HO.out wr _ hr (by have := HSL.out; omega)
      have OG := Lib.hid og; have O2 := Lib.hid o2
      have hAb : ∀ q, (Value.slice A k c).ownBlock = some q → w.heap.size ≤ q ∧ q < wr.heap.size := fun q hq => og.lt q hq
      clear og o2 hil
      go_wp2_with fail
      refine hO.mono ?_
      rintro e w3 ⟨A1, n1, c1, A2, n2, c2, A3, n3, c3, rfl, hPx, hr3, o3⟩
      have og3 := OG.out.off hP o3 (fun q hq => .inl (by omega))
      have ow3 := O2.out.size
      have o3s := o3.size
      have fal : Below w3.heap.size w3 (w3.alloc (.cells #[.slice A1 n1 c1, .slice A2 n2 c2, .slice A3 n3 c3] 45)) := (Below.refl _ _).alloc (Nat.le_refl _) _
      have hPy := hP _ _ _ _ _ _ (Nat.le_succ _) (Sub.own1 (w := w3) (base := w.heap.size) (lo := wr.heap.size) (B := w3.heap.size) (g := (Value.slice A k c).ownBlock) (.cells #[.slice A1 n1 c1, .slice A2 n2 c2, .slice A3 n3 c3] 45) ow3 (fun q hq => (hAb q hq).2) (Nat.le_refl _)) hPx
      have hcells := new_cells w3 [.slice A1 n1 c1, .slice A2 n2 c2, .slice A3 n3 c3] 45
      have HCE := Lib.hid hcells; clear hcells hPx
      go_wp2_with (at_builtin; go_must (refine appendOwn1 TSr hP rfl rfl rfl (og3.below hP fal) rfl rfl (by intro v hv; simp only [List.mem_cons, List.mem_nil_iff, or_false] at hv; rcases hv with rfl | rfl | rfl <;> rfl) HCE.out (by rw [show (w3.alloc (.cells #[.slice A1 n1 c1, .slice A2 n2 c2, .slice A3 n3 c3] 45)).heap.size = w3.heap.size + 1 by simp]; exact hPy) (by omega) (by simp only [maxLen]; omega) (by simp; omega) ?_); intro A' c' w4 og4 g4)
      have oA : Off (fun q => (Value.slice A k c).ownBlock = some q) w3 w4 := ((Off.refl _ _).alloc _).grown g4 fun q hq _ => hq
      have hr4 := hr3.offE oA (fun hq => by have := hAb _ hq; omega) (fun hne hq => by
        have hlb := hbl (fun e => hne (List.eq_nil_of_length_eq_zero (by have := hln (itS one s1 k).2; have := itS_len hln s1 k; have := HSL.out; have e0 : s.l.length = 0 := (by rw [e]; rfl); omega)))
        have := hAb _ hq
        omega)
      have o4 : Off (fun q => q = p) w w4 := (O2.out.trans o3 fun _ _ h => h).trans oA fun q hq1 hq => by have := hAb _ hq; omega
      go_roundw
      case rel => exact ⟨k + 1, A', c', by go_num, rfl, by omega, og4, hr4, o4⟩
      case measure => simp [intOf]; omega
    · have d1 : decide ((k : Int) < (n : Int)) = false := by simp; omega
      obtain rfl : n = k := by omega
      go_wp2_with fail
      go_ret
      exact ⟨_, rfl, og, hr, o2⟩
set_option maxRecDepth 100000 in
set_option maxHeartbeats 2000000 in
theorem row_Target {α : Type} (P : World → Nat → List Value → α → Prop) (hP : Mn P) (p b most : Nat) (hm : most ≤ 1000) (s : RS) (w : World) (h : Rr w p b s) (one : RS → α × RS) (hln : ∀ s, (one s).2.l.length ≤ s.l.length)
    (hone : ∀ u s', Rr u p b s' → s'.l.length ≤ s.l.length → Calls Tryz.prog 117 #[.agg #[.pointer (some ⟨p, 0, none⟩)]] u fun e u' => ∃ (A1 : Option Addr) (n1 c1 : Nat) (A2 : Option Addr) (n2 c2 : Nat) (A3 : Option Addr) (n3 c3 : Nat) (A4 : Option Addr) (n4 c4 : Nat), e = .returned (.agg #[.slice A1 n1 c1, .slice A2 n2 c2, .slice A3 n3 c3, .slice A4 n4 c4]) ∧ P (mineW u.heap.size none u') u'.heap.size [.slice A1 n1 c1, .slice A2 n2 c2, .slice A3 n3 c3, .slice A4 n4 c4] (one s').1 ∧ Rr u' p b (one s').2 ∧ Off (fun k => k = p) u u') :
    Calls Tryz.prog 116 #[.agg #[.pointer (some ⟨p, 0, none⟩)], .int .i64 (most : Int), .func (.func 117) #[.agg #[.pointer (some ⟨p, 0, none⟩)]] #[]] w fun e w' => ∃ v, e = .returned v ∧ OwnG 4 P w' w.heap.size 33 v (rowS most one s).1 ∧ Rr w' p b (rowS most one s).2 ∧ Off (fun k => k = p) w w' := by
  have hp := h.plt
  have hbl : s.l ≠ [] → b < w.heap.size := h.blt
  obtain ⟨wb, hwb⟩ : ∃ wb, w.alloc (.cells #[.pointer (some ⟨p, 0, none⟩)] 94) = wb := ⟨_, rfl⟩
  have fa : Below w.heap.size w wb := by rw [← hwb]; exact (Below.refl _ _).alloc (Nat.le_refl _) _
  have kb : Blk wb w.heap.size 94 [.pointer (some ⟨p, 0, none⟩)] := by rw [← hwb]; exact Blk.newAt rfl _ #[.pointer (some ⟨p, 0, none⟩)]
  have hS := small_any p b most (by omega) s wb (h.same fa)
  have e0 := kb.cell 0
  have oa : Off (fun k => k = p) w wb := (Off.of_all fa).mono fun _ _ h => h.elim
  have hle := smallN_le most s
  have hsl := smallN_len most s
  have hr : rowS most one s = itS one (smallN most s).2 (smallN most s).1 := rfl
  rw [hr]
  clear hr
  obtain ⟨n, hn⟩ : ∃ x, (smallN most s).1 = x := ⟨_, rfl⟩
  obtain ⟨s1, hs1⟩ : ∃ x, (smallN most s).2 = x := ⟨_, rfl⟩
  rw [hn] at hS hle ⊢
  rw [hs1] at hS hsl ⊢
  clear hn hs1
  have HO := Lib.hid hone; clear hone
  have HSL := Lib.hid hsl; clear hsl
  go_enter Tryz.func116, Tryz.ntmps116
  go_wp2_with fail
  refine hS.mono ?_
  rintro e w1 ⟨rfl, h1, o1⟩
  have ow : Off (fun k => k = p) w w1 := oa.trans o1 fun _ _ h => h
  clear hS e0 hwb
  go_wp2_with fail
  go_loopw [11, 7] (fun v11 v7 wr => ∃ (k : Nat) (A : Option Addr) (c : Nat), v11 = .int .i64 k ∧ v7 = .slice A k c ∧ k ≤ n ∧ OwnG 4 P wr w.heap.size 33 (.slice A k c) (itS one s1 k).1 ∧ Rr wr p b (itS one s1 k).2 ∧ Off (fun k => k = p) w wr) (fun v11 _ _ => n - (intOf v11).toNat)
  case atStart => exact ⟨0, none, 0, rfl, rfl, Nat.zero_le _, OwnG.nil, h1, ow⟩
  case round =>
    obtain ⟨k, A, c, rfl, rfl, hk, og, hr, o2⟩ := hrel
    by_cases hlt : k < n
    · have d1 : decide ((k : Int) < (n : Int)) = true := by simp; omega
      have hil := itS_len hln s1 k
      have hO := HO.out wr _ hr (by have := HSL.out; omega)
      have OG := Lib.hid og; have O2 := Lib.hid o2
      have hAb : ∀ q, (Value.slice A k c).ownBlock = some q → w.heap.size ≤ q ∧ q < wr.heap.size := fun q hq => og.lt q hq
      clear og o2 hil
      go_wp2_with fail
      refine hO.mono ?_
      rintro e w3 ⟨A1, n1, c1, A2, n2, c2, A3, n3, c3, A4, n4, c4, rfl, hPx, hr3, o3⟩
      have og3 := OG.out.off hP o3 (fun q hq => .inl (by omega))
      have ow3 := O2.out.size
      have o3s := o3.size
      have fal : Below w3.heap.size w3 (w3.alloc (.cells #[.slice A1 n1 c1, .slice A2 n2 c2, .slice A3 n3 c3, .slice A4 n4 c4] 33)) := (Below.refl _ _).alloc (Nat.le_refl _) _
      have hPy := hP _ _ _ _ _ _ (Nat.le_succ _) (Sub.own1 (w := w3) (base := w.heap.size) (lo := wr.heap.size) (B := w3.heap.size) (g := (Value.slice A k c).ownBlock) (.cells #[.slice A1 n1 c1, .slice A2 n2 c2, .slice A3 n3 c3, .slice A4 n4 c4] 33) ow3 (fun q hq => (hAb q hq).2) (Nat.le_refl _)) hPx
      have hcells := new_cells w3 [.slice A1 n1 c1, .slice A2 n2 c2, .slice A3 n3 c3, .slice A4 n4 c4] 33
      have HCE := Lib.hid hcells; clear hcells hPx
      go_wp2_with (at_builtin; go_must (refine appendOwn1 TTg hP rfl rfl rfl (og3.below hP fal) rfl rfl (by intro v hv; simp only [List.mem_cons, List.mem_nil_iff, or_false] at hv; rcases hv with rfl | rfl | rfl | rfl <;> rfl) HCE.out (by rw [show (w3.alloc (.cells #[.slice A1 n1 c1, .slice A2 n2 c2, .slice A3 n3 c3, .slice A4 n4 c4] 33)).heap.size = w3.heap.size + 1 by simp]; exact hPy) (by omega) (by simp only [maxLen]; omega) (by simp; omega) ?_); intro A' c' w4 og4 g4)
      have oA : Off (fun q => (Value.slice A k c).ownBlock = some q) w3 w4 := ((Off.refl _ _).alloc _).grown g4 fun q hq _ => hq
      have hr4 := hr3.offE oA (fun hq => by have := hAb _ hq; omega) (fun hne hq => by
        have hlb := hbl (fun e => hne (List.eq_nil_of_length_eq_zero (by have := hln (itS one s1 k).2; have := itS_len hln s1 k; have := HSL.out; have e0 : s.l.length = 0 := (by rw [e]; rfl); omega)))
        have := hAb _ hq
        omega)
      have o4 : Off (fun q => q = p) w w4 := (O2.out.trans o3 fun _ _ h => h).trans oA fun q hq1 hq => by have := hAb _ hq; omega
      go_roundw
      case rel => exact ⟨k + 1, A', c', by go_num, rfl, by omega, og4, hr4, o4⟩
      case measure => simp [intOf]; omega
    · have d1 : decide ((k : Int) < (n : Int)) = false := by simp; omega
      obtain rfl : n = k := by omega
      go_wp2_with fail
      go_ret
      exact ⟨_, rfl, og, hr, o2⟩
set_option maxRecDepth 100000 in
set_option maxHeartbeats 2000000 in
theorem row_When {α : Type} (P : World → Nat → List Value → α → Prop) (hP : Mn P) (p b most : Nat) (hm : most ≤ 1000) (s : RS) (w : World) (h : Rr w p b s) (one : RS → α × RS) (hln : ∀ s, (one s).2.l.length ≤ s.l.length)
    (hone : ∀ u s', Rr u p b s' → s'.l.length ≤ s.l.length → Calls Tryz.prog 119 #[.agg #[.pointer (some ⟨p, 0, none⟩)]] u fun e u' => ∃ (sb1 : ByteArray) (A2 : Option Addr) (n2 c2 : Nat), e = .returned (.agg #[.string sb1, .slice A2 n2 c2]) ∧ P (mineW u.heap.size none u') u'.heap.size [.string sb1, .slice A2 n2 c2] (one s').1 ∧ Rr u' p b (one s').2 ∧ Off (fun k => k = p) u u') :
    Calls Tryz.prog 118 #[.agg #[.pointer (some ⟨p, 0, none⟩)], .int .i64 (most : Int), .func (.func 119) #[.agg #[.pointer (some ⟨p, 0, none⟩)]] #[]] w fun e w' => ∃ v, e = .returned v ∧ OwnG 2 P w' w.heap.size 50 v (rowS most one s).1 ∧ Rr w' p b (rowS most one s).2 ∧ Off (fun k => k = p) w w' := by
  have hp := h.plt
  have hbl : s.l ≠ [] → b < w.heap.size := h.blt
  obtain ⟨wb, hwb⟩ : ∃ wb, w.alloc (.cells #[.pointer (some ⟨p, 0, none⟩)] 94) = wb := ⟨_, rfl⟩
  have fa : Below w.heap.size w wb := by rw [← hwb]; exact (Below.refl _ _).alloc (Nat.le_refl _) _
  have kb : Blk wb w.heap.size 94 [.pointer (some ⟨p, 0, none⟩)] := by rw [← hwb]; exact Blk.newAt rfl _ #[.pointer (some ⟨p, 0, none⟩)]
  have hS := small_any p b most (by omega) s wb (h.same fa)
  have e0 := kb.cell 0
  have oa : Off (fun k => k = p) w wb := (Off.of_all fa).mono fun _ _ h => h.elim
  have hle := smallN_le most s
  have hsl := smallN_len most s
  have hr : rowS most one s = itS one (smallN most s).2 (smallN most s).1 := rfl
  rw [hr]
  clear hr
  obtain ⟨n, hn⟩ : ∃ x, (smallN most s).1 = x := ⟨_, rfl⟩
  obtain ⟨s1, hs1⟩ : ∃ x, (smallN most s).2 = x := ⟨_, rfl⟩
  rw [hn] at hS hle ⊢
  rw [hs1] at hS hsl ⊢
  clear hn hs1
  have HO := Lib.hid hone; clear hone
  have HSL := Lib.hid hsl; clear hsl
  go_enter Tryz.func118, Tryz.ntmps118
  go_wp2_with fail
  refine hS.mono ?_
  rintro e w1 ⟨rfl, h1, o1⟩
  have ow : Off (fun k => k = p) w w1 := oa.trans o1 fun _ _ h => h
  clear hS e0 hwb
  go_wp2_with fail
  go_loopw [11, 7] (fun v11 v7 wr => ∃ (k : Nat) (A : Option Addr) (c : Nat), v11 = .int .i64 k ∧ v7 = .slice A k c ∧ k ≤ n ∧ OwnG 2 P wr w.heap.size 50 (.slice A k c) (itS one s1 k).1 ∧ Rr wr p b (itS one s1 k).2 ∧ Off (fun k => k = p) w wr) (fun v11 _ _ => n - (intOf v11).toNat)
  case atStart => exact ⟨0, none, 0, rfl, rfl, Nat.zero_le _, OwnG.nil, h1, ow⟩
  case round =>
    obtain ⟨k, A, c, rfl, rfl, hk, og, hr, o2⟩ := hrel
    by_cases hlt : k < n
    · have d1 : decide ((k : Int) < (n : Int)) = true := by simp; omega
      have hil := itS_len hln s1 k
      have hO := HO.out wr _ hr (by have := HSL.out; omega)
      have OG := Lib.hid og; have O2 := Lib.hid o2
      have hAb : ∀ q, (Value.slice A k c).ownBlock = some q → w.heap.size ≤ q ∧ q < wr.heap.size := fun q hq => og.lt q hq
      clear og o2 hil
      go_wp2_with fail
      refine hO.mono ?_
      rintro e w3 ⟨sb1, A2, n2, c2, rfl, hPx, hr3, o3⟩
      have og3 := OG.out.off hP o3 (fun q hq => .inl (by omega))
      have ow3 := O2.out.size
      have o3s := o3.size
      have fal : Below w3.heap.size w3 (w3.alloc (.cells #[.string sb1, .slice A2 n2 c2] 50)) := (Below.refl _ _).alloc (Nat.le_refl _) _
      have hPy := hP _ _ _ _ _ _ (Nat.le_succ _) (Sub.own1 (w := w3) (base := w.heap.size) (lo := wr.heap.size) (B := w3.heap.size) (g := (Value.slice A k c).ownBlock) (.cells #[.string sb1, .slice A2 n2 c2] 50) ow3 (fun q hq => (hAb q hq).2) (Nat.le_refl _)) hPx
      have hcells := new_cells w3 [.string sb1, .slice A2 n2 c2] 50
      have HCE := Lib.hid hcells; clear hcells hPx
      go_wp2_with (at_builtin; go_must (refine appendOwn1 TWn hP rfl rfl rfl (og3.below hP fal) rfl rfl (by intro v hv; simp only [List.mem_cons, List.mem_nil_iff, or_false] at hv; rcases hv with rfl | rfl <;> rfl) HCE.out (by rw [show (w3.alloc (.cells #[.string sb1, .slice A2 n2 c2] 50)).heap.size = w3.heap.size + 1 by simp]; exact hPy) (by omega) (by simp only [maxLen]; omega) (by simp; omega) ?_); intro A' c' w4 og4 g4)
      have oA : Off (fun q => (Value.slice A k c).ownBlock = some q) w3 w4 := ((Off.refl _ _).alloc _).grown g4 fun q hq _ => hq
      have hr4 := hr3.offE oA (fun hq => by have := hAb _ hq; omega) (fun hne hq => by
        have hlb := hbl (fun e => hne (List.eq_nil_of_length_eq_zero (by have := hln (itS one s1 k).2; have := itS_len hln s1 k; have := HSL.out; have e0 : s.l.length = 0 := (by rw [e]; rfl); omega)))
        have := hAb _ hq
        omega)
      have o4 : Off (fun q => q = p) w w4 := (O2.out.trans o3 fun _ _ h => h).trans oA fun q hq1 hq => by have := hAb _ hq; omega
      go_roundw
      case rel => exact ⟨k + 1, A', c', by go_num, rfl, by omega, og4, hr4, o4⟩
      case measure => simp [intOf]; omega
    · have d1 : decide ((k : Int) < (n : Int)) = false := by simp; omega
      obtain rfl : n = k := by omega
      go_wp2_with fail
      go_ret
      exact ⟨_, rfl, og, hr, o2⟩
set_option maxRecDepth 100000 in
set_option maxHeartbeats 2000000 in
theorem row_Rule {α : Type} (P : World → Nat → List Value → α → Prop) (hP : Mn P) (p b most : Nat) (hm : most ≤ 1000) (s : RS) (w : World) (h : Rr w p b s) (one : RS → α × RS) (hln : ∀ s, (one s).2.l.length ≤ s.l.length)
    (hone : ∀ u s', Rr u p b s' → s'.l.length ≤ s.l.length → Calls Tryz.prog 66 #[.agg #[.pointer (some ⟨p, 0, none⟩)]] u fun e u' => ∃ (A1 : Option Addr) (n1 c1 : Nat) (A2 : Option Addr) (n2 c2 : Nat) (A3 : Option Addr) (n3 c3 : Nat), e = .returned (.agg #[.slice A1 n1 c1, .slice A2 n2 c2, .slice A3 n3 c3]) ∧ P (mineW u.heap.size none u') u'.heap.size [.slice A1 n1 c1, .slice A2 n2 c2, .slice A3 n3 c3] (one s').1 ∧ Rr u' p b (one s').2 ∧ Off (fun k => k = p) u u') :
    Calls Tryz.prog 65 #[.agg #[.pointer (some ⟨p, 0, none⟩)], .int .i64 (most : Int), .func (.func 66) #[.agg #[.pointer (some ⟨p, 0, none⟩)]] #[]] w fun e w' => ∃ v, e = .returned v ∧ OwnG 3 P w' w.heap.size 26 v (rowS most one s).1 ∧ Rr w' p b (rowS most one s).2 ∧ Off (fun k => k = p) w w' := by
  have hp := h.plt
  have hbl : s.l ≠ [] → b < w.heap.size := h.blt
  obtain ⟨wb, hwb⟩ : ∃ wb, w.alloc (.cells #[.pointer (some ⟨p, 0, none⟩)] 94) = wb := ⟨_, rfl⟩
  have fa : Below w.heap.size w wb := by rw [← hwb]; exact (Below.refl _ _).alloc (Nat.le_refl _) _
  have kb : Blk wb w.heap.size 94 [.pointer (some ⟨p, 0, none⟩)] := by rw [← hwb]; exact Blk.newAt rfl _ #[.pointer (some ⟨p, 0, none⟩)]
  have hS := small_any p b most (by omega) s wb (h.same fa)
  have e0 := kb.cell 0
  have oa : Off (fun k => k = p) w wb := (Off.of_all fa).mono fun _ _ h => h.elim
  have hle := smallN_le most s
  have hsl := smallN_len most s
  have hr : rowS most one s = itS one (smallN most s).2 (smallN most s).1 := rfl
  rw [hr]
  clear hr
  obtain ⟨n, hn⟩ : ∃ x, (smallN most s).1 = x := ⟨_, rfl⟩
  obtain ⟨s1, hs1⟩ : ∃ x, (smallN most s).2 = x := ⟨_, rfl⟩
  rw [hn] at hS hle ⊢
  rw [hs1] at hS hsl ⊢
  clear hn hs1
  have HO := Lib.hid hone; clear hone
  have HSL := Lib.hid hsl; clear hsl
  go_enter Tryz.func65, Tryz.ntmps65
  go_wp2_with fail
  refine hS.mono ?_
  rintro e w1 ⟨rfl, h1, o1⟩
  have ow : Off (fun k => k = p) w w1 := oa.trans o1 fun _ _ h => h
  clear hS e0 hwb
  go_wp2_with fail
  go_loopw [11, 7] (fun v11 v7 wr => ∃ (k : Nat) (A : Option Addr) (c : Nat), v11 = .int .i64 k ∧ v7 = .slice A k c ∧ k ≤ n ∧ OwnG 3 P wr w.heap.size 26 (.slice A k c) (itS one s1 k).1 ∧ Rr wr p b (itS one s1 k).2 ∧ Off (fun k => k = p) w wr) (fun v11 _ _ => n - (intOf v11).toNat)
  case atStart => exact ⟨0, none, 0, rfl, rfl, Nat.zero_le _, OwnG.nil, h1, ow⟩
  case round =>
    obtain ⟨k, A, c, rfl, rfl, hk, og, hr, o2⟩ := hrel
    by_cases hlt : k < n
    · have d1 : decide ((k : Int) < (n : Int)) = true := by simp; omega
      have hil := itS_len hln s1 k
      have hO := HO.out wr _ hr (by have := HSL.out; omega)
      have OG := Lib.hid og; have O2 := Lib.hid o2
      have hAb : ∀ q, (Value.slice A k c).ownBlock = some q → w.heap.size ≤ q ∧ q < wr.heap.size := fun q hq => og.lt q hq
      clear og o2 hil
      go_wp2_with fail
      refine hO.mono ?_
      rintro e w3 ⟨A1, n1, c1, A2, n2, c2, A3, n3, c3, rfl, hPx, hr3, o3⟩
      have og3 := OG.out.off hP o3 (fun q hq => .inl (by omega))
      have ow3 := O2.out.size
      have o3s := o3.size
      have fal : Below w3.heap.size w3 (w3.alloc (.cells #[.slice A1 n1 c1, .slice A2 n2 c2, .slice A3 n3 c3] 26)) := (Below.refl _ _).alloc (Nat.le_refl _) _
      have hPy := hP _ _ _ _ _ _ (Nat.le_succ _) (Sub.own1 (w := w3) (base := w.heap.size) (lo := wr.heap.size) (B := w3.heap.size) (g := (Value.slice A k c).ownBlock) (.cells #[.slice A1 n1 c1, .slice A2 n2 c2, .slice A3 n3 c3] 26) ow3 (fun q hq => (hAb q hq).2) (Nat.le_refl _)) hPx
      have hcells := new_cells w3 [.slice A1 n1 c1, .slice A2 n2 c2, .slice A3 n3 c3] 26
      have HCE := Lib.hid hcells; clear hcells hPx
      go_wp2_with (at_builtin; go_must (refine appendOwn1 TRu hP rfl rfl rfl (og3.below hP fal) rfl rfl (by intro v hv; simp only [List.mem_cons, List.mem_nil_iff, or_false] at hv; rcases hv with rfl | rfl | rfl <;> rfl) HCE.out (by rw [show (w3.alloc (.cells #[.slice A1 n1 c1, .slice A2 n2 c2, .slice A3 n3 c3] 26)).heap.size = w3.heap.size + 1 by simp]; exact hPy) (by omega) (by simp only [maxLen]; omega) (by simp; omega) ?_); intro A' c' w4 og4 g4)
      have oA : Off (fun q => (Value.slice A k c).ownBlock = some q) w3 w4 := ((Off.refl _ _).alloc _).grown g4 fun q hq _ => hq
      have hr4 := hr3.offE oA (fun hq => by have := hAb _ hq; omega) (fun hne hq => by
        have hlb := hbl (fun e => hne (List.eq_nil_of_length_eq_zero (by have := hln (itS one s1 k).2; have := itS_len hln s1 k; have := HSL.out; have e0 : s.l.length = 0 := (by rw [e]; rfl); omega)))
        have := hAb _ hq
        omega)
      have o4 : Off (fun q => q = p) w w4 := (O2.out.trans o3 fun _ _ h => h).trans oA fun q hq1 hq => by have := hAb _ hq; omega
      go_roundw
      case rel => exact ⟨k + 1, A', c', by go_num, rfl, by omega, og4, hr4, o4⟩
      case measure => simp [intOf]; omega
    · have d1 : decide ((k : Int) < (n : Int)) = false := by simp; omega
      obtain rfl : n = k := by omega
      go_wp2_with fail
      go_ret
      exact ⟨_, rfl, og, hr, o2⟩
end Go.Proofs.YtdbjihpdfiipcaaGreat
namespace Go.Proofs.YtdbjihpdfiipcaaGreat
open Go.RowKit Go.Sort
set_option linter.unusedVariables false
set_option linter.unusedSimpArgs false
theorem takeS_u8 (s : RS) : (takeS findU8 0 s).1 < 256 := by
  unfold takeS
  split
  · show 0 < _
    omega
  · cases hf : findU8 s.l with
    | none =>
      show 0 < _
      omega
    | some yk =>
      unfold findU8 at hf
      split at hf
      · cases hf
      · rename_i c _ _
        injection hf with hf
        subst hf
        exact c.toNat_lt
theorem RvR.fin {α : Type} {enc : α → List Value} {k : Nat} {w w' : World} {base lo : Nat} {v : Value} {L : List α} (h : RvR enc k (mineW base none w) w.heap.size v L) (ho : Off (fun q => q < base ∨ w.heap.size ≤ q) w w') (hb : lo ≤ base) : RvR enc k (mineW lo none w') w'.heap.size v L :=
  h.sub ho.size (Sub.off ho (Nat.le_refl _) hb (fun q h1 _ h2 (h3 : q < base ∨ w.heap.size ≤ q) => by omega) (fun _ h => by cases h))
theorem RvG.fin {α : Type} {k : Nat} {P : World → Nat → List Value → α → Prop} (hP : Mn P) {w w' : World} {base lo : Nat} {v : Value} {L : List α} (h : RvG k P (mineW base none w) w.heap.size v L) (ho : Off (fun q => q < base ∨ w.heap.size ≤ q) w w') (hb : lo ≤ base) : RvG k P (mineW lo none w') w'.heap.size v L :=
  h.mn hP ho.size (Sub.off ho (Nat.le_refl _) hb (fun q h1 _ h2 (h3 : q < base ∨ w.heap.size ≤ q) => by omega) (fun _ h => by cases h))
set_option maxRecDepth 100000 in
set_option maxHeartbeats 4000000 in
theorem port_any (p b : Nat) (s : RS) (w : World) (h : Rr w p b s) :
    Calls Tryz.prog 159 #[.agg #[.pointer (some ⟨p, 0, none⟩)]] w fun e w' => ∃ x1 : Int, e = .returned (.int .i64 x1) ∧ FlP inC (mineW w.heap.size none w') w'.heap.size [.int .i64 x1] (portS s).1 ∧ Rr w' p b (portS s).2 ∧ Off (fun k => k = p) w w' := by
  obtain ⟨wb, hwb⟩ : ∃ wb, w.alloc (.cells #[.pointer (some ⟨p, 0, none⟩)] 94) = wb := ⟨_, rfl⟩
  have fb : Below w.heap.size w wb := by rw [← hwb]; exact (Below.refl _ _).alloc (Nat.le_refl _) _
  have hbs : wb.heap.size = w.heap.size + 1 := by rw [← hwb]; simp
  have kb0 : Blk wb w.heap.size 94 [.pointer (some ⟨p, 0, none⟩)] := by rw [← hwb]; exact Blk.newAt rfl _ #[.pointer (some ⟨p, 0, none⟩)]
  have hp := h.plt
  have hbl : s.l ≠ [] → b < w.heap.size := h.blt
  have e0 := kb0.cell 0
  have hS := small_any p b 65536 (by omega) s wb (h.same fb)
  clear hbs
  go_enter Tryz.func159, Tryz.ntmps159
  go_wp2_with fail
  refine hS.mono ?_
  rintro e w1 ⟨rfl, h1, o1⟩
  go_wp2_with fail
  go_ret
  exact ⟨_, rfl, rfl, h1, ((Off.of_all fb).mono fun _ _ h => h.elim).trans o1 fun _ _ h => h⟩
set_option maxRecDepth 100000 in
set_option maxHeartbeats 4000000 in
theorem term_any (p b : Nat) (s : RS) (w : World) (h : Rr w p b s) (hln : s.l.length ≤ 1099511627776) :
    Calls Tryz.prog 182 #[.agg #[.pointer (some ⟨p, 0, none⟩)]] w fun e w' => ∃ (x1 : Int) (s2 : ByteArray), e = .returned (.agg #[.int .i64 x1, .string s2]) ∧ FlP tmC (mineW w.heap.size none w') w'.heap.size [.int .i64 x1, .string s2] (termS s).1 ∧ Rr w' p b (termS s).2 ∧ Off (fun k => k = p) w w' := by
  obtain ⟨wb, hwb⟩ : ∃ wb, w.alloc (.cells #[.pointer (some ⟨p, 0, none⟩)] 94) = wb := ⟨_, rfl⟩
  have fb : Below w.heap.size w wb := by rw [← hwb]; exact (Below.refl _ _).alloc (Nat.le_refl _) _
  have hbs : wb.heap.size = w.heap.size + 1 := by rw [← hwb]; simp
  have kb0 : Blk wb w.heap.size 94 [.pointer (some ⟨p, 0, none⟩)] := by rw [← hwb]; exact Blk.newAt rfl _ #[.pointer (some ⟨p, 0, none⟩)]
  have hp := h.plt
  have hbl : s.l ≠ [] → b < w.heap.size := h.blt
  obtain ⟨wc, hwc⟩ : ∃ wc, wb.alloc (.cells #[.int .i64 0, .string ⟨#[]⟩] 78) = wc := ⟨_, rfl⟩
  have fc : Below w.heap.size w wc := by rw [← hwc]; exact fb.alloc fb.size _
  have hcs : wc.heap.size = w.heap.size + 1 + 1 := by rw [← hwc]; simp [hbs]
  have kb : Blk wc w.heap.size 94 [.pointer (some ⟨p, 0, none⟩)] := by rw [← hwc]; exact kb0.alloc _
  have kz : Blk wc wb.heap.size 78 [.int .i64 0, .string ⟨#[]⟩] := by rw [← hwc]; exact Blk.newAt rfl _ #[.int .i64 0, .string ⟨#[]⟩]
  have h0 := h.same fc
  have o0 : Off (fun k => k = p) w wc := (Off.of_all fc).mono fun _ _ h => h.elim
  have hi : (Tryz.prog.info? 78).map (·.size) = some 2 := by kernel_rfl
  have HI := Lib.hid hi; clear hi
  have HBL := Lib.hid hbl; clear hbl
  generalize hgz : wb.heap.size = gz at *
  have e0 := kb.cell 0
  clear kb0 fb
  have HBS := Lib.hid hbs; have HCS := Lib.hid hcs; clear hbs hcs
  go_enter Tryz.func182, Tryz.ntmps182
  go_wp2_with fail
  refine (rU8_any p b s wc h0).mono ?_
  rintro e w1 ⟨rfl, h1, o1⟩
  have h8 := takeS_u8 s
  have h8w := IntWalk.i64_in (((takeS findU8 0 s).1 : Nat) : Int) (by omega)
  have kb1 := kb.off o1 (by have := HBS.out; omega)
  have kz1 := kz.off o1 (by have := HBS.out; omega)
  have q1 : Off (fun k => k = p) w w1 := (o0).trans o1 fun _ _ h => h
  clear e0
  go_upto_region 2 with fail
  refine abs (fun x => Blk x w1.heap.size 78 [.int .i64 (((takeS findU8 0 s).1 : Nat) : Int), .string ⟨#[]⟩] ∧ Blk x w.heap.size 94 [.pointer (some ⟨p, 0, none⟩)] ∧ Blk x gz 78 [.int .i64 0, .string ⟨#[]⟩] ∧ Rr x p b (takeS findU8 0 s).2 ∧ Off (fun _ => False) w1 x) ⟨Blk.newAt rfl _ #[.int .i64 (((takeS findU8 0 s).1 : Nat) : Int), .string ⟨#[]⟩], kb1.alloc _, kz1.alloc _, h1.same ((Below.refl _ _).alloc (Nat.le_refl _) _), (Off.refl _ _).alloc _⟩ ?_
  rintro x1 ⟨ktx1, kbx1, kzx1, hx1, a1⟩
  have HGT : Hid (w.heap.size + 1 + 1 ≤ w1.heap.size) := Lib.hid (by have := HCS.out; have := o1.size; omega)
  have HX1 : Hid (w1.heap.size < x1.heap.size) := Lib.hid ktx1.lt
  have r1 : Off (fun k => k = p) w x1 := q1.trans a1 fun _ _ h => h.elim
  clear kb1 kz1 
  have e0 := kbx1.cell 0
  go_wp2_with fail
  refine (rText_any p b (takeS findU8 0 s).2 64 x1 hx1 (by have := takeS_len findU8 0 s; omega) (by omega) (by omega)).mono ?_
  rintro e w2 ⟨rfl, h2, o2⟩

  have kb2 := kbx1.off o2 (by have := HBS.out; omega)
  have kz2 := kzx1.off o2 (by have := HBS.out; omega)
  have q2 : Off (fun k => k = p) w w2 := (r1).trans o2 fun _ _ h => h
  clear e0
  have kt2 := ktx1.off o2 (by have := HGT.out; omega)
  have ct := kt2.cell 1
  have ft := kt2.frozen 1
  go_upto_region 3 with fail
  refine abs (fun x => Blk x w1.heap.size 78 [.int .i64 (((takeS findU8 0 s).1 : Nat) : Int), .string (strB (takeS (findText 64) [] (takeS findU8 0 s).2).1)] ∧ Blk x w.heap.size 94 [.pointer (some ⟨p, 0, none⟩)] ∧ Blk x gz 78 [.int .i64 0, .string ⟨#[]⟩] ∧ Rr x p b (termS s).2 ∧ Off (fun k => k = w1.heap.size) w2 x) ⟨kt2.set 1 _, kb2.far (by have := HGT.out; simp only; omega) _, kz2.far (by have := HGT.out; have := HBS.out; simp only; omega) _, h2.offE ((Off.refl (fun k => k = w1.heap.size) _).setCell (p := ⟨w1.heap.size, 1, none⟩) (fun _ => rfl) _) (by have := HGT.out; omega) (fun hne => by have := HGT.out; have := HBL.out (fun e => hne (List.eq_nil_of_length_eq_zero (by have hz := termS_len s; exact Nat.le_zero.1 (Nat.le_trans hz (Nat.le_of_eq (by rw [e]; rfl)))))); omega), (Off.refl (fun k => k = w1.heap.size) _).setCell (p := ⟨w1.heap.size, 1, none⟩) (fun _ => rfl) _⟩ ?_
  rintro x2 ⟨ktx2, kbx2, kzx2, hx2, a2⟩
  have r2 : Off (fun k => k = p) w x2 := q2.trans a2 fun k h1 (h2 : k = w1.heap.size) => by have := HGT.out; omega
  have HX2 : Hid (w1.heap.size < x2.heap.size) := Lib.hid (by have := ktx2.lt; exact this)
  clear kb2 kz2 kt2 ct ft
  have cx0 := ktx2.cell 0
  have cx1 := ktx2.cell 1
  go_wp2_with (first | (refine store_blk kzx2 rfl 78 (.tmp 2) (.tmp 13) rfl rfl (us := [.int .i64 (((takeS findU8 0 s).1 : Nat) : Int), .string (strB (takeS (findText 64) [] (takeS findU8 0 s).2).1)]) rfl HI.out rfl rfl ?_; intro w9 k9 g9))
  have o9 : Off (fun k => k = gz) x2 w9 := (Off.refl _ _).grown g9 fun k hk _ => by injection hk with hk; exact hk.symm
  have h9 := hx2.offE o9 (by have := HBS.out; omega) (fun hne => by have := HBS.out; have := HBL.out (fun e => hne (List.eq_nil_of_length_eq_zero (by have hz := termS_len s; exact Nat.le_zero.1 (Nat.le_trans hz (Nat.le_of_eq (by rw [e]; rfl)))))); omega)
  refine bodyPost_ret (k9.sized rfl _ rfl Tryz.underlying78 HI.out) rfl ⟨_, _, rfl, rfl, h9, r2.trans o9 fun k h1 (h2 : k = gz) => by have := HBS.out; omega⟩
set_option maxRecDepth 100000 in
set_option maxHeartbeats 4000000 in
theorem net_any (p b : Nat) (s : RS) (w : World) (h : Rr w p b s) (hln : s.l.length ≤ 1099511627776) :
    Calls Tryz.prog 157 #[.agg #[.pointer (some ⟨p, 0, none⟩)]] w fun e w' => ∃ (x1 x2 : Int), e = .returned (.agg #[.int .u32 x1, .int .i64 x2]) ∧ FlP ntC (mineW w.heap.size none w') w'.heap.size [.int .u32 x1, .int .i64 x2] (netS s).1 ∧ Rr w' p b (netS s).2 ∧ Off (fun k => k = p) w w' := by
  obtain ⟨wb, hwb⟩ : ∃ wb, w.alloc (.cells #[.pointer (some ⟨p, 0, none⟩)] 94) = wb := ⟨_, rfl⟩
  have fb : Below w.heap.size w wb := by rw [← hwb]; exact (Below.refl _ _).alloc (Nat.le_refl _) _
  have hbs : wb.heap.size = w.heap.size + 1 := by rw [← hwb]; simp
  have kb0 : Blk wb w.heap.size 94 [.pointer (some ⟨p, 0, none⟩)] := by rw [← hwb]; exact Blk.newAt rfl _ #[.pointer (some ⟨p, 0, none⟩)]
  have hp := h.plt
  have hbl : s.l ≠ [] → b < w.heap.size := h.blt
  obtain ⟨wc, hwc⟩ : ∃ wc, wb.alloc (.cells #[.int .u32 0, .int .i64 0] 48) = wc := ⟨_, rfl⟩
  have fc : Below w.heap.size w wc := by rw [← hwc]; exact fb.alloc fb.size _
  have hcs : wc.heap.size = w.heap.size + 1 + 1 := by rw [← hwc]; simp [hbs]
  have kb : Blk wc w.heap.size 94 [.pointer (some ⟨p, 0, none⟩)] := by rw [← hwc]; exact kb0.alloc _
  have kz : Blk wc wb.heap.size 48 [.int .u32 0, .int .i64 0] := by rw [← hwc]; exact Blk.newAt rfl _ #[.int .u32 0, .int .i64 0]
  have h0 := h.same fc
  have o0 : Off (fun k => k = p) w wc := (Off.of_all fc).mono fun _ _ h => h.elim
  have hi : (Tryz.prog.info? 48).map (·.size) = some 2 := by kernel_rfl
  have HI := Lib.hid hi; clear hi
  have HBL := Lib.hid hbl; clear hbl
  generalize hgz : wb.heap.size = gz at *
  have e0 := kb.cell 0
  clear kb0 fb
  have HBS := Lib.hid hbs; have HCS := Lib.hid hcs; clear hbs hcs
  go_enter Tryz.func157, Tryz.ntmps157
  go_wp2_with fail
  refine (rU32_any p b s wc h0).mono ?_
  rintro e w1 ⟨rfl, h1, o1⟩

  have kb1 := kb.off o1 (by have := HBS.out; omega)
  have kz1 := kz.off o1 (by have := HBS.out; omega)
  have q1 : Off (fun k => k = p) w w1 := (o0).trans o1 fun _ _ h => h
  clear e0
  go_upto_region 2 with fail
  refine abs (fun x => Blk x w1.heap.size 48 [.int .u32 (((takeS findU32 0 s).1 : Nat) : Int), .int .i64 0] ∧ Blk x w.heap.size 94 [.pointer (some ⟨p, 0, none⟩)] ∧ Blk x gz 48 [.int .u32 0, .int .i64 0] ∧ Rr x p b (takeS findU32 0 s).2 ∧ Off (fun _ => False) w1 x) ⟨Blk.newAt rfl _ #[.int .u32 (((takeS findU32 0 s).1 : Nat) : Int), .int .i64 0], kb1.alloc _, kz1.alloc _, h1.same ((Below.refl _ _).alloc (Nat.le_refl _) _), (Off.refl _ _).alloc _⟩ ?_
  rintro x1 ⟨ktx1, kbx1, kzx1, hx1, a1⟩
  have HGT : Hid (w.heap.size + 1 + 1 ≤ w1.heap.size) := Lib.hid (by have := HCS.out; have := o1.size; omega)
  have HX1 : Hid (w1.heap.size < x1.heap.size) := Lib.hid ktx1.lt
  have r1 : Off (fun k => k = p) w x1 := q1.trans a1 fun _ _ h => h.elim
  clear kb1 kz1 
  have e0 := kbx1.cell 0
  go_wp2_with fail
  refine (rU8_any p b (takeS findU32 0 s).2 x1 hx1).mono ?_
  rintro e w2 ⟨rfl, h2, o2⟩
  have h8 := takeS_u8 (takeS findU32 0 s).2
  have h8w := IntWalk.i64_in (((takeS findU8 0 (takeS findU32 0 s).2).1 : Nat) : Int) (by omega)
  have kb2 := kbx1.off o2 (by have := HBS.out; omega)
  have kz2 := kzx1.off o2 (by have := HBS.out; omega)
  have q2 : Off (fun k => k = p) w w2 := (r1).trans o2 fun _ _ h => h
  clear e0
  have kt2 := ktx1.off o2 (by have := HGT.out; omega)
  have ct := kt2.cell 1
  have ft := kt2.frozen 1
  go_upto_region 3 with fail
  refine abs (fun x => Blk x w1.heap.size 48 [.int .u32 (((takeS findU32 0 s).1 : Nat) : Int), .int .i64 (((takeS findU8 0 (takeS findU32 0 s).2).1 : Nat) : Int)] ∧ Blk x w.heap.size 94 [.pointer (some ⟨p, 0, none⟩)] ∧ Blk x gz 48 [.int .u32 0, .int .i64 0] ∧ Rr x p b (netS s).2 ∧ Off (fun k => k = w1.heap.size) w2 x) ⟨kt2.set 1 _, kb2.far (by have := HGT.out; simp only; omega) _, kz2.far (by have := HGT.out; have := HBS.out; simp only; omega) _, h2.offE ((Off.refl (fun k => k = w1.heap.size) _).setCell (p := ⟨w1.heap.size, 1, none⟩) (fun _ => rfl) _) (by have := HGT.out; omega) (fun hne => by have := HGT.out; have := HBL.out (fun e => hne (List.eq_nil_of_length_eq_zero (by have hz := netS_len s; exact Nat.le_zero.1 (Nat.le_trans hz (Nat.le_of_eq (by rw [e]; rfl)))))); omega), (Off.refl (fun k => k = w1.heap.size) _).setCell (p := ⟨w1.heap.size, 1, none⟩) (fun _ => rfl) _⟩ ?_
  rintro x2 ⟨ktx2, kbx2, kzx2, hx2, a2⟩
  have r2 : Off (fun k => k = p) w x2 := q2.trans a2 fun k h1 (h2 : k = w1.heap.size) => by have := HGT.out; omega
  have HX2 : Hid (w1.heap.size < x2.heap.size) := Lib.hid (by have := ktx2.lt; exact this)
  clear kb2 kz2 kt2 ct ft
  have cx0 := ktx2.cell 0
  have cx1 := ktx2.cell 1
  go_wp2_with (first | (refine store_blk kzx2 rfl 48 (.tmp 2) (.tmp 13) rfl rfl (us := [.int .u32 (((takeS findU32 0 s).1 : Nat) : Int), .int .i64 (((takeS findU8 0 (takeS findU32 0 s).2).1 : Nat) : Int)]) rfl HI.out rfl rfl ?_; intro w9 k9 g9))
  have o9 : Off (fun k => k = gz) x2 w9 := (Off.refl _ _).grown g9 fun k hk _ => by injection hk with hk; exact hk.symm
  have h9 := hx2.offE o9 (by have := HBS.out; omega) (fun hne => by have := HBS.out; have := HBL.out (fun e => hne (List.eq_nil_of_length_eq_zero (by have hz := netS_len s; exact Nat.le_zero.1 (Nat.le_trans hz (Nat.le_of_eq (by rw [e]; rfl)))))); omega)
  refine bodyPost_ret (k9.sized rfl _ rfl Tryz.underlying48 HI.out) rfl ⟨_, _, rfl, rfl, h9, r2.trans o9 fun k h1 (h2 : k = gz) => by have := HBS.out; omega⟩
set_option maxRecDepth 100000 in
set_option maxHeartbeats 4000000 in
theorem terms_any (p b : Nat) (s : RS) (w : World) (h : Rr w p b s) (hln : s.l.length ≤ 1099511627776) :
    Calls Tryz.prog 155 #[.agg #[.pointer (some ⟨p, 0, none⟩)]] w fun e w' => ∃ v, e = .returned v ∧ OwnG 2 (FlP tmC) w' w.heap.size 78 v (termsS s).1 ∧ Rr w' p b (termsS s).2 ∧ Off (fun k => k = p) w w' := by
  obtain ⟨wb, hwb⟩ : ∃ wb, w.alloc (.cells #[.pointer (some ⟨p, 0, none⟩)] 94) = wb := ⟨_, rfl⟩
  have fb : Below w.heap.size w wb := by rw [← hwb]; exact (Below.refl _ _).alloc (Nat.le_refl _) _
  have hbs : wb.heap.size = w.heap.size + 1 := by rw [← hwb]; simp
  have kb0 : Blk wb w.heap.size 94 [.pointer (some ⟨p, 0, none⟩)] := by rw [← hwb]; exact Blk.newAt rfl _ #[.pointer (some ⟨p, 0, none⟩)]
  have hp := h.plt
  have hbl : s.l ≠ [] → b < w.heap.size := h.blt
  have e0 := kb0.cell 0
  have hS := row_Term (FlP tmC) (FlP.mn _) p b 6 (by omega) s wb (h.same fb) termS termS_len (fun u s' hr hl => term_any p b s' u hr (by omega))
  have HBS := Lib.hid hbs; clear hbs
  go_enter Tryz.func155, Tryz.ntmps155
  go_wp2_with fail
  refine hS.mono ?_
  rintro e w1 ⟨v, rfl, og, h1, o1⟩
  go_wp2_with fail
  go_ret
  exact ⟨_, rfl, og.base_le (FlP.mn _) (by have := HBS.out; omega), h1, ((Off.of_all fb).mono fun _ _ h => h.elim).trans o1 fun _ _ h => h⟩
set_option maxRecDepth 100000 in
set_option maxHeartbeats 4000000 in
theorem source_any2 (p b : Nat) (s : RS) (w : World) (h : Rr w p b s) (hln : s.l.length ≤ 1099511627776) :
    Calls Tryz.prog 115 #[.agg #[.pointer (some ⟨p, 0, none⟩)]] w fun e w' => ∃ (A1 : Option Addr) (n1 c1 : Nat) (A2 : Option Addr) (n2 c2 : Nat) (A3 : Option Addr) (n3 c3 : Nat), e = .returned (.agg #[.slice A1 n1 c1, .slice A2 n2 c2, .slice A3 n3 c3]) ∧ SrP (mineW w.heap.size none w') w'.heap.size [.slice A1 n1 c1, .slice A2 n2 c2, .slice A3 n3 c3] (sourceS s).1 ∧ Rr w' p b (sourceS s).2 ∧ Off (fun k => k = p) w w' := by
  obtain ⟨wb, hwb⟩ : ∃ wb, w.alloc (.cells #[.pointer (some ⟨p, 0, none⟩)] 94) = wb := ⟨_, rfl⟩
  have fb : Below w.heap.size w wb := by rw [← hwb]; exact (Below.refl _ _).alloc (Nat.le_refl _) _
  have hbs : wb.heap.size = w.heap.size + 1 := by rw [← hwb]; simp
  have kb0 : Blk wb w.heap.size 94 [.pointer (some ⟨p, 0, none⟩)] := by rw [← hwb]; exact Blk.newAt rfl _ #[.pointer (some ⟨p, 0, none⟩)]
  have hp := h.plt
  have hbl : s.l ≠ [] → b < w.heap.size := h.blt
  obtain ⟨wc, hwc⟩ : ∃ wc, wb.alloc (.cells #[.slice none 0 0, .slice none 0 0, .slice none 0 0] 45) = wc := ⟨_, rfl⟩
  have fc : Below w.heap.size w wc := by rw [← hwc]; exact fb.alloc fb.size _
  have hcs : wc.heap.size = w.heap.size + 1 + 1 := by rw [← hwc]; simp [hbs]
  have kb : Blk wc w.heap.size 94 [.pointer (some ⟨p, 0, none⟩)] := by rw [← hwc]; exact kb0.alloc _
  have kz : Blk wc wb.heap.size 45 [.slice none 0 0, .slice none 0 0, .slice none 0 0] := by rw [← hwc]; exact Blk.newAt rfl _ #[.slice none 0 0, .slice none 0 0, .slice none 0 0]
  have h0 := h.same fc
  have o0 : Off (fun k => k = p) w wc := (Off.of_all fc).mono fun _ _ h => h.elim
  have hi : (Tryz.prog.info? 45).map (·.size) = some 3 := by kernel_rfl
  have HI := Lib.hid hi; clear hi
  have HBL := Lib.hid hbl; clear hbl
  generalize hgz : wb.heap.size = gz at *
  have e0 := kb.cell 0
  clear kb0 fb
  have HBS := Lib.hid hbs; have HCS := Lib.hid hcs; clear hbs hcs
  go_enter Tryz.func115, Tryz.ntmps115
  go_wp2_with fail
  refine (terms_any p b s wc h0 (by omega)).mono ?_
  rintro e w1 ⟨v1, rfl, og1, h1, o1⟩
  obtain ⟨A1, c1, hv1, _, _⟩ := og1.form
  subst hv1
  generalize hn1 : ((termsS s).1).length = n1 at *
  clear hn1
  have kb1 := kb.off o1 (by have := HBS.out; omega)
  have kz1 := kz.off o1 (by have := HBS.out; omega)
  have q1 : Off (fun k => k = p) w w1 := (o0).trans o1 fun _ _ h => h
  clear e0
  have HB1 : Hid (w.heap.size + 1 + 1 ≤ wc.heap.size) := Lib.hid (by have := HCS.out; omega)
  have FL1 := Lib.hid (og1.flat)
  have z1 : Off (fun k => k < wc.heap.size ∨ w1.heap.size ≤ k) w1 w1 := Off.refl _ _
  go_upto_region 2 with fail
  refine abs (fun x => Blk x w1.heap.size 45 [.slice A1 n1 c1, .slice none 0 0, .slice none 0 0] ∧ Blk x w.heap.size 94 [.pointer (some ⟨p, 0, none⟩)] ∧ Blk x gz 45 [.slice none 0 0, .slice none 0 0, .slice none 0 0] ∧ Rr x p b (termsS s).2 ∧ Off (fun _ => False) w1 x) ⟨Blk.newAt rfl _ #[.slice A1 n1 c1, .slice none 0 0, .slice none 0 0], kb1.alloc _, kz1.alloc _, h1.same ((Below.refl _ _).alloc (Nat.le_refl _) _), (Off.refl _ _).alloc _⟩ ?_
  rintro x1 ⟨ktx1, kbx1, kzx1, hx1, a1⟩
  have HGT : Hid (w.heap.size + 1 + 1 ≤ w1.heap.size) := Lib.hid (by have := HCS.out; have := o1.size; omega)
  have HX1 : Hid (w1.heap.size < x1.heap.size) := Lib.hid ktx1.lt
  have r1 : Off (fun k => k = p) w x1 := q1.trans a1 fun _ _ h => h.elim
  have z1 := z1.trans a1 fun _ _ h => h.elim
  clear kb1 kz1 
  have e0 := kbx1.cell 0
  go_wp2_with fail
  refine (terms_any p b (termsS s).2 x1 hx1 (by have := termsS_len s; omega)).mono ?_
  rintro e w2 ⟨v2, rfl, og2, h2, o2⟩
  obtain ⟨A2, c2, hv2, _, _⟩ := og2.form
  subst hv2
  generalize hn2 : ((termsS (termsS s).2).1).length = n2 at *
  clear hn2
  have kb2 := kbx1.off o2 (by have := HBS.out; omega)
  have kz2 := kzx1.off o2 (by have := HBS.out; omega)
  have q2 : Off (fun k => k = p) w w2 := (r1).trans o2 fun _ _ h => h
  clear e0
  have z1 := z1.trans o2 fun k _ (hk : k = p) => .inl (by have := HB1.out; omega)
  have HB2 : Hid (w.heap.size + 1 + 1 ≤ x1.heap.size ∧ w1.heap.size < x1.heap.size) := Lib.hid (by have := HCS.out; have := HGT.out; have := HX1.out; omega)
  have FL2 := Lib.hid (og2.flat)
  have z2 : Off (fun k => k < x1.heap.size ∨ w2.heap.size ≤ k) w2 w2 := Off.refl _ _
  have kt2 := ktx1.off o2 (by have := HGT.out; omega)
  have ct := kt2.cell 1
  have ft := kt2.frozen 1
  go_upto_region 3 with fail
  refine abs (fun x => Blk x w1.heap.size 45 [.slice A1 n1 c1, .slice A2 n2 c2, .slice none 0 0] ∧ Blk x w.heap.size 94 [.pointer (some ⟨p, 0, none⟩)] ∧ Blk x gz 45 [.slice none 0 0, .slice none 0 0, .slice none 0 0] ∧ Rr x p b (termsS (termsS s).2).2 ∧ Off (fun k => k = w1.heap.size) w2 x) ⟨kt2.set 1 _, kb2.far (by have := HGT.out; simp only; omega) _, kz2.far (by have := HGT.out; have := HBS.out; simp only; omega) _, h2.offE ((Off.refl (fun k => k = w1.heap.size) _).setCell (p := ⟨w1.heap.size, 1, none⟩) (fun _ => rfl) _) (by have := HGT.out; omega) (fun hne => by have := HGT.out; have := HBL.out (fun e => hne (List.eq_nil_of_length_eq_zero (by have hz := (Nat.le_trans (termsS_len (termsS s).2) (termsS_len s)); exact Nat.le_zero.1 (Nat.le_trans hz (Nat.le_of_eq (by rw [e]; rfl)))))); omega), (Off.refl (fun k => k = w1.heap.size) _).setCell (p := ⟨w1.heap.size, 1, none⟩) (fun _ => rfl) _⟩ ?_
  rintro x2 ⟨ktx2, kbx2, kzx2, hx2, a2⟩
  have r2 : Off (fun k => k = p) w x2 := q2.trans a2 fun k h1 (h2 : k = w1.heap.size) => by have := HGT.out; omega
  have HX2 : Hid (w1.heap.size < x2.heap.size) := Lib.hid (by have := ktx2.lt; exact this)
  have z1 := z1.trans a2 fun k _ (hk : k = w1.heap.size) => .inr (by omega)
  have z2 := z2.trans a2 fun k _ (hk : k = w1.heap.size) => .inl (by have := HB2.out; omega)
  clear kb2 kz2 kt2 ct ft
  have e0 := kbx2.cell 0
  go_wp2_with fail
  refine (row_Cidr (FlP ntC) (FlP.mn _) p b 6 (by omega) (termsS (termsS s).2).2 x2 hx2 netS netS_len (fun u s' hr hl => net_any p b s' u hr (by have := termsS_len s; have := termsS_len (termsS s).2; omega))).mono ?_
  rintro e w3 ⟨v3, rfl, og3, h3, o3⟩
  obtain ⟨A3, c3, hv3, _, _⟩ := og3.form
  subst hv3
  generalize hn3 : ((rowS 6 netS (termsS (termsS s).2).2).1).length = n3 at *
  clear hn3
  have kb3 := kbx2.off o3 (by have := HBS.out; omega)
  have kz3 := kzx2.off o3 (by have := HBS.out; omega)
  have q3 : Off (fun k => k = p) w w3 := (r2).trans o3 fun _ _ h => h
  clear e0
  have z1 := z1.trans o3 fun k _ (hk : k = p) => .inl (by have := HB1.out; omega)
  have z2 := z2.trans o3 fun k _ (hk : k = p) => .inl (by have := HB2.out; omega)
  have HB3 : Hid (w.heap.size + 1 + 1 ≤ x2.heap.size ∧ w1.heap.size < x2.heap.size) := Lib.hid (by have := HCS.out; have := HGT.out; have := HX2.out; omega)
  have FL3 := Lib.hid (og3.flat)
  have z3 : Off (fun k => k < x2.heap.size ∨ w3.heap.size ≤ k) w3 w3 := Off.refl _ _
  have kt3 := ktx2.off o3 (by have := HGT.out; omega)
  have ct := kt3.cell 2
  have ft := kt3.frozen 2
  go_upto_region 4 with fail
  refine abs (fun x => Blk x w1.heap.size 45 [.slice A1 n1 c1, .slice A2 n2 c2, .slice A3 n3 c3] ∧ Blk x w.heap.size 94 [.pointer (some ⟨p, 0, none⟩)] ∧ Blk x gz 45 [.slice none 0 0, .slice none 0 0, .slice none 0 0] ∧ Rr x p b (sourceS s).2 ∧ Off (fun k => k = w1.heap.size) w3 x) ⟨kt3.set 2 _, kb3.far (by have := HGT.out; simp only; omega) _, kz3.far (by have := HGT.out; have := HBS.out; simp only; omega) _, h3.offE ((Off.refl (fun k => k = w1.heap.size) _).setCell (p := ⟨w1.heap.size, 2, none⟩) (fun _ => rfl) _) (by have := HGT.out; omega) (fun hne => by have := HGT.out; have := HBL.out (fun e => hne (List.eq_nil_of_length_eq_zero (by have hz := sourceS_len s; exact Nat.le_zero.1 (Nat.le_trans hz (Nat.le_of_eq (by rw [e]; rfl)))))); omega), (Off.refl (fun k => k = w1.heap.size) _).setCell (p := ⟨w1.heap.size, 2, none⟩) (fun _ => rfl) _⟩ ?_
  rintro x3 ⟨ktx3, kbx3, kzx3, hx3, a3⟩
  have r3 : Off (fun k => k = p) w x3 := q3.trans a3 fun k h1 (h2 : k = w1.heap.size) => by have := HGT.out; omega
  have HX3 : Hid (w1.heap.size < x3.heap.size) := Lib.hid (by have := ktx3.lt; exact this)
  have z1 := z1.trans a3 fun k _ (hk : k = w1.heap.size) => .inr (by omega)
  have z2 := z2.trans a3 fun k _ (hk : k = w1.heap.size) => .inl (by have := HB2.out; omega)
  have z3 := z3.trans a3 fun k _ (hk : k = w1.heap.size) => .inl (by have := HB3.out; omega)
  clear kb3 kz3 kt3 ct ft
  have cx0 := ktx3.cell 0
  have cx1 := ktx3.cell 1
  have cx2 := ktx3.cell 2
  go_wp2_with (first | (refine store_blk kzx3 rfl 45 (.tmp 2) (.tmp 15) rfl rfl (us := [.slice A1 n1 c1, .slice A2 n2 c2, .slice A3 n3 c3]) rfl HI.out rfl rfl ?_; intro w9 k9 g9))
  have o9 : Off (fun k => k = gz) x3 w9 := (Off.refl _ _).grown g9 fun k hk _ => by injection hk with hk; exact hk.symm
  have z1 := z1.trans o9 fun k _ (hk : k = gz) => .inl (by have := HB1.out; have := HBS.out; omega)
  have z2 := z2.trans o9 fun k _ (hk : k = gz) => .inl (by have := HB2.out; have := HBS.out; omega)
  have z3 := z3.trans o9 fun k _ (hk : k = gz) => .inl (by have := HB3.out; have := HBS.out; omega)
  have h9 := hx3.offE o9 (by have := HBS.out; omega) (fun hne => by have := HBS.out; have := HBL.out (fun e => hne (List.eq_nil_of_length_eq_zero (by have hz := sourceS_len s; exact Nat.le_zero.1 (Nat.le_trans hz (Nat.le_of_eq (by rw [e]; rfl)))))); omega)
  refine bodyPost_ret (k9.sized rfl _ rfl Tryz.underlying45 HI.out) rfl ⟨_, _, _, _, _, _, _, _, _, rfl, ⟨_, _, _, rfl, FL1.out.fin z1 (by have := HB1.out; omega), FL2.out.fin z2 (by have := HB2.out; omega), FL3.out.fin z3 (by have := HB3.out; omega)⟩, h9, r3.trans o9 fun k h1 (h2 : k = gz) => by have := HBS.out; omega⟩
set_option maxRecDepth 100000 in
set_option maxHeartbeats 4000000 in
theorem when_any2 (p b : Nat) (s : RS) (w : World) (h : Rr w p b s) (hln : s.l.length ≤ 1099511627776) :
    Calls Tryz.prog 119 #[.agg #[.pointer (some ⟨p, 0, none⟩)]] w fun e w' => ∃ (s1 : ByteArray) (A2 : Option Addr) (n2 c2 : Nat), e = .returned (.agg #[.string s1, .slice A2 n2 c2]) ∧ WnP (mineW w.heap.size none w') w'.heap.size [.string s1, .slice A2 n2 c2] (whenS s).1 ∧ Rr w' p b (whenS s).2 ∧ Off (fun k => k = p) w w' := by
  obtain ⟨wb, hwb⟩ : ∃ wb, w.alloc (.cells #[.pointer (some ⟨p, 0, none⟩)] 94) = wb := ⟨_, rfl⟩
  have fb : Below w.heap.size w wb := by rw [← hwb]; exact (Below.refl _ _).alloc (Nat.le_refl _) _
  have hbs : wb.heap.size = w.heap.size + 1 := by rw [← hwb]; simp
  have kb0 : Blk wb w.heap.size 94 [.pointer (some ⟨p, 0, none⟩)] := by rw [← hwb]; exact Blk.newAt rfl _ #[.pointer (some ⟨p, 0, none⟩)]
  have hp := h.plt
  have hbl : s.l ≠ [] → b < w.heap.size := h.blt
  obtain ⟨wc, hwc⟩ : ∃ wc, wb.alloc (.cells #[.string ⟨#[]⟩, .slice none 0 0] 50) = wc := ⟨_, rfl⟩
  have fc : Below w.heap.size w wc := by rw [← hwc]; exact fb.alloc fb.size _
  have hcs : wc.heap.size = w.heap.size + 1 + 1 := by rw [← hwc]; simp [hbs]
  have kb : Blk wc w.heap.size 94 [.pointer (some ⟨p, 0, none⟩)] := by rw [← hwc]; exact kb0.alloc _
  have kz : Blk wc wb.heap.size 50 [.string ⟨#[]⟩, .slice none 0 0] := by rw [← hwc]; exact Blk.newAt rfl _ #[.string ⟨#[]⟩, .slice none 0 0]
  have h0 := h.same fc
  have o0 : Off (fun k => k = p) w wc := (Off.of_all fc).mono fun _ _ h => h.elim
  have hi : (Tryz.prog.info? 50).map (·.size) = some 2 := by kernel_rfl
  have HI := Lib.hid hi; clear hi
  have HBL := Lib.hid hbl; clear hbl
  generalize hgz : wb.heap.size = gz at *
  have e0 := kb.cell 0
  clear kb0 fb
  have HBS := Lib.hid hbs; have HCS := Lib.hid hcs; clear hbs hcs
  go_enter Tryz.func119, Tryz.ntmps119
  go_wp2_with fail
  refine (rText_any p b s 64 wc h0 (by omega) (by omega) (by omega)).mono ?_
  rintro e w1 ⟨rfl, h1, o1⟩

  have kb1 := kb.off o1 (by have := HBS.out; omega)
  have kz1 := kz.off o1 (by have := HBS.out; omega)
  have q1 : Off (fun k => k = p) w w1 := (o0).trans o1 fun _ _ h => h
  clear e0
  go_upto_region 2 with fail
  refine abs (fun x => Blk x w1.heap.size 50 [.string (strB (takeS (findText 64) [] s).1), .slice none 0 0] ∧ Blk x w.heap.size 94 [.pointer (some ⟨p, 0, none⟩)] ∧ Blk x gz 50 [.string ⟨#[]⟩, .slice none 0 0] ∧ Rr x p b (takeS (findText 64) [] s).2 ∧ Off (fun _ => False) w1 x) ⟨Blk.newAt rfl _ #[.string (strB (takeS (findText 64) [] s).1), .slice none 0 0], kb1.alloc _, kz1.alloc _, h1.same ((Below.refl _ _).alloc (Nat.le_refl _) _), (Off.refl _ _).alloc _⟩ ?_
  rintro x1 ⟨ktx1, kbx1, kzx1, hx1, a1⟩
  have HGT : Hid (w.heap.size + 1 + 1 ≤ w1.heap.size) := Lib.hid (by have := HCS.out; have := o1.size; omega)
  have HX1 : Hid (w1.heap.size < x1.heap.size) := Lib.hid ktx1.lt
  have r1 : Off (fun k => k = p) w x1 := q1.trans a1 fun _ _ h => h.elim
  clear kb1 kz1 
  have e0 := kbx1.cell 0
  go_wp2_with fail
  refine (terms_any p b (takeS (findText 64) [] s).2 x1 hx1 (by have := takeS_len (findText 64) [] s; omega)).mono ?_
  rintro e w2 ⟨v2, rfl, og2, h2, o2⟩
  obtain ⟨A2, c2, hv2, _, _⟩ := og2.form
  subst hv2
  generalize hn2 : ((termsS (takeS (findText 64) [] s).2).1).length = n2 at *
  clear hn2
  have kb2 := kbx1.off o2 (by have := HBS.out; omega)
  have kz2 := kzx1.off o2 (by have := HBS.out; omega)
  have q2 : Off (fun k => k = p) w w2 := (r1).trans o2 fun _ _ h => h
  clear e0
  have HB2 : Hid (w.heap.size + 1 + 1 ≤ x1.heap.size ∧ w1.heap.size < x1.heap.size) := Lib.hid (by have := HCS.out; have := HGT.out; have := HX1.out; omega)
  have FL2 := Lib.hid (og2.flat)
  have z2 : Off (fun k => k < x1.heap.size ∨ w2.heap.size ≤ k) w2 w2 := Off.refl _ _
  have kt2 := ktx1.off o2 (by have := HGT.out; omega)
  have ct := kt2.cell 1
  have ft := kt2.frozen 1
  go_upto_region 3 with fail
  refine abs (fun x => Blk x w1.heap.size 50 [.string (strB (takeS (findText 64) [] s).1), .slice A2 n2 c2] ∧ Blk x w.heap.size 94 [.pointer (some ⟨p, 0, none⟩)] ∧ Blk x gz 50 [.string ⟨#[]⟩, .slice none 0 0] ∧ Rr x p b (whenS s).2 ∧ Off (fun k => k = w1.heap.size) w2 x) ⟨kt2.set 1 _, kb2.far (by have := HGT.out; simp only; omega) _, kz2.far (by have := HGT.out; have := HBS.out; simp only; omega) _, h2.offE ((Off.refl (fun k => k = w1.heap.size) _).setCell (p := ⟨w1.heap.size, 1, none⟩) (fun _ => rfl) _) (by have := HGT.out; omega) (fun hne => by have := HGT.out; have := HBL.out (fun e => hne (List.eq_nil_of_length_eq_zero (by have hz := whenS_len s; exact Nat.le_zero.1 (Nat.le_trans hz (Nat.le_of_eq (by rw [e]; rfl)))))); omega), (Off.refl (fun k => k = w1.heap.size) _).setCell (p := ⟨w1.heap.size, 1, none⟩) (fun _ => rfl) _⟩ ?_
  rintro x2 ⟨ktx2, kbx2, kzx2, hx2, a2⟩
  have r2 : Off (fun k => k = p) w x2 := q2.trans a2 fun k h1 (h2 : k = w1.heap.size) => by have := HGT.out; omega
  have HX2 : Hid (w1.heap.size < x2.heap.size) := Lib.hid (by have := ktx2.lt; exact this)
  have z2 := z2.trans a2 fun k _ (hk : k = w1.heap.size) => .inl (by have := HB2.out; omega)
  clear kb2 kz2 kt2 ct ft
  have cx0 := ktx2.cell 0
  have cx1 := ktx2.cell 1
  go_wp2_with (first | (refine store_blk kzx2 rfl 50 (.tmp 2) (.tmp 11) rfl rfl (us := [.string (strB (takeS (findText 64) [] s).1), .slice A2 n2 c2]) rfl HI.out rfl rfl ?_; intro w9 k9 g9))
  have o9 : Off (fun k => k = gz) x2 w9 := (Off.refl _ _).grown g9 fun k hk _ => by injection hk with hk; exact hk.symm
  have z2 := z2.trans o9 fun k _ (hk : k = gz) => .inl (by have := HB2.out; have := HBS.out; omega)
  have h9 := hx2.offE o9 (by have := HBS.out; omega) (fun hne => by have := HBS.out; have := HBL.out (fun e => hne (List.eq_nil_of_length_eq_zero (by have hz := whenS_len s; exact Nat.le_zero.1 (Nat.le_trans hz (Nat.le_of_eq (by rw [e]; rfl)))))); omega)
  refine bodyPost_ret (k9.sized rfl _ rfl Tryz.underlying50 HI.out) rfl ⟨_, _, _, _, rfl, ⟨_, rfl, FL2.out.fin z2 (by have := HB2.out; omega)⟩, h9, r2.trans o9 fun k h1 (h2 : k = gz) => by have := HBS.out; omega⟩
/-- A target being read: its ports are, and k of its rows. -/
def TgK (rs : RS) (lo g p b : Nat) (v0 : Value) (x : World) : Nat → Prop
  | 0 => Blk x g 33 [v0, .slice none 0 0, .slice none 0 0, .slice none 0 0] ∧ Rr x p b rs
  | 1 => ∃ v1, Blk x g 33 [v0, v1, .slice none 0 0, .slice none 0 0] ∧ RvT (mineW lo (some g) x) x.heap.size v1 (termsS rs).1 ∧ Rr x p b (termsS rs).2
  | 2 => ∃ v1 v2, Blk x g 33 [v0, v1, v2, .slice none 0 0] ∧ RvT (mineW lo (some g) x) x.heap.size v1 (termsS rs).1 ∧ RvT (mineW lo (some g) x) x.heap.size v2 (termsS (termsS rs).2).1 ∧ Rr x p b (termsS (termsS rs).2).2
  | 3 => ∃ v1 v2 v3, Blk x g 33 [v0, v1, v2, v3] ∧ RvT (mineW lo (some g) x) x.heap.size v1 (termsS rs).1 ∧ RvT (mineW lo (some g) x) x.heap.size v2 (termsS (termsS rs).2).1 ∧ RvT (mineW lo (some g) x) x.heap.size v3 (termsS (termsS (termsS rs).2).2).1 ∧ Rr x p b (termsS (termsS (termsS rs).2).2).2
  | _ => False
theorem RvR.offG {α : Type} {enc : α → List Value} {k : Nat} {w w' : World} {lo g : Nat} {v : Value} {L : List α} (h : RvR enc k (mineW lo (some g) w) w.heap.size v L) {X : Nat → Prop} (ho : Off X w w') (hX : ∀ q, X q → q < lo ∨ q = g) : RvR enc k (mineW lo (some g) w') w'.heap.size v L :=
  h.sub ho.size (Sub.off ho (Nat.le_refl _) (Nat.le_refl _) (fun q h1 h2 _ h3 => by rcases hX q h3 with h | h <;> simp_all; omega) (fun _ h => .inl h))
theorem RvR.inG {α : Type} {enc : α → List Value} {k : Nat} {w : World} {base lo g : Nat} {v : Value} {L : List α} (h : RvR enc k (mineW base none w) w.heap.size v L) (hb : lo ≤ base) (hg : g < base ∨ w.heap.size ≤ g) : RvR enc k (mineW lo (some g) w) w.heap.size v L :=
  h.sub (Nat.le_refl _) (Sub.off (X := fun _ => False) (Off.refl _ _) (Nat.le_refl _) hb (fun _ _ _ _ => _root_.id) (fun q hq => by injection hq with hq; omega))
theorem RvR.outG {α : Type} {enc : α → List Value} {k : Nat} {w : World} {lo lo' g : Nat} {v : Value} {L : List α} (h : RvR enc k (mineW lo (some g) w) w.heap.size v L) (hb : lo' ≤ lo) : RvR enc k (mineW lo' none w) w.heap.size v L :=
  h.sub (Nat.le_refl _) (Sub.less hb (.inr rfl))
set_option maxRecDepth 100000 in
set_option maxHeartbeats 4000000 in
theorem target_any2 (p b : Nat) (s : RS) (w : World) (h : Rr w p b s) (hln : s.l.length ≤ 1099511627776) :
    Calls Tryz.prog 117 #[.agg #[.pointer (some ⟨p, 0, none⟩)]] w fun e w' => ∃ (A1 : Option Addr) (n1 c1 : Nat) (A2 : Option Addr) (n2 c2 : Nat) (A3 : Option Addr) (n3 c3 : Nat) (A4 : Option Addr) (n4 c4 : Nat), e = .returned (.agg #[.slice A1 n1 c1, .slice A2 n2 c2, .slice A3 n3 c3, .slice A4 n4 c4]) ∧ TgP (mineW w.heap.size none w') w'.heap.size [.slice A1 n1 c1, .slice A2 n2 c2, .slice A3 n3 c3, .slice A4 n4 c4] (targetS s).1 ∧ Rr w' p b (targetS s).2 ∧ Off (fun k => k = p) w w' := by
  obtain ⟨wb, hwb⟩ : ∃ wb, w.alloc (.cells #[.pointer (some ⟨p, 0, none⟩)] 94) = wb := ⟨_, rfl⟩
  have fb : Below w.heap.size w wb := by rw [← hwb]; exact (Below.refl _ _).alloc (Nat.le_refl _) _
  have hbs : wb.heap.size = w.heap.size + 1 := by rw [← hwb]; simp
  have kb0 : Blk wb w.heap.size 94 [.pointer (some ⟨p, 0, none⟩)] := by rw [← hwb]; exact Blk.newAt rfl _ #[.pointer (some ⟨p, 0, none⟩)]
  have hp := h.plt
  have hbl : s.l ≠ [] → b < w.heap.size := h.blt
  obtain ⟨wc, hwc⟩ : ∃ wc, wb.alloc (.cells #[.slice none 0 0, .slice none 0 0, .slice none 0 0, .slice none 0 0] 33) = wc := ⟨_, rfl⟩
  have fc : Below w.heap.size w wc := by rw [← hwc]; exact fb.alloc fb.size _
  have hcs : wc.heap.size = w.heap.size + 1 + 1 := by rw [← hwc]; simp [hbs]
  have kb : Blk wc w.heap.size 94 [.pointer (some ⟨p, 0, none⟩)] := by rw [← hwc]; exact kb0.alloc _
  have kz : Blk wc wb.heap.size 33 [.slice none 0 0, .slice none 0 0, .slice none 0 0, .slice none 0 0] := by rw [← hwc]; exact Blk.newAt rfl _ #[.slice none 0 0, .slice none 0 0, .slice none 0 0, .slice none 0 0]
  have h0 := h.same fc
  have o0 : Off (fun k => k = p) w wc := (Off.of_all fc).mono fun _ _ h => h.elim
  have hi : (Tryz.prog.info? 33).map (·.size) = some 4 := by kernel_rfl
  have HI := Lib.hid hi; clear hi
  have HBL := Lib.hid hbl; clear hbl
  generalize hgz : wb.heap.size = gz at *
  have e0 := kb.cell 0
  have hS := row_int (FlP inC) (FlP.mn _) p b 6 (by omega) s wc h0 portS portS_len (fun u s' hr hl => port_any p b s' u hr)
  clear kb0 fb
  have HBS := Lib.hid hbs; have HCS := Lib.hid hcs; clear hbs hcs
  go_enter Tryz.func117, Tryz.ntmps117
  go_wp2_with fail
  refine hS.mono ?_
  rintro e w1 ⟨v1, rfl, og1, h1, o1⟩
  obtain ⟨A1, c1, hv1, _, _⟩ := og1.form
  subst hv1
  generalize hn1 : (rowS 6 portS s).1.length = n1 at *
  have hfl := og1.flat
  have h1s := o1.size
  clear hn1 og1 hS
  have kb1 := kb.off o1 (by have := HBS.out; omega)
  have kz1 := kz.off o1 (by have := HBS.out; omega)
  have q1 := o0.trans o1 fun _ _ h => h
  clear e0
  go_upto_region 2 with fail
  generalize hg3 : w1.heap.size = g3
  refine abs (fun x => Blk x g3 33 [.slice A1 n1 c1, .slice none 0 0, .slice none 0 0, .slice none 0 0] ∧ Blk x w.heap.size 94 [.pointer (some ⟨p, 0, none⟩)] ∧ Blk x gz 33 [.slice none 0 0, .slice none 0 0, .slice none 0 0, .slice none 0 0] ∧ Rr x p b (rowS 6 portS s).2 ∧ Off (fun _ => False) w1 x) ⟨Blk.newAt hg3 _ #[.slice A1 n1 c1, .slice none 0 0, .slice none 0 0, .slice none 0 0], kb1.alloc _, kz1.alloc _, h1.same ((Below.refl _ _).alloc (Nat.le_refl _) _), (Off.refl _ _).alloc _⟩ ?_
  rintro x1 ⟨kt, kb, kz, hr1, a1⟩
  obtain ⟨gp, hgp⟩ : ∃ x, x1.heap.size = x := ⟨_, rfl⟩
  have HGP : Hid (w.heap.size + 1 + 1 ≤ g3 ∧ g3 < gp) := Lib.hid ⟨by have := HCS.out; omega, by rw [← hgp]; exact kt.lt⟩
  have hfl2 : RvI (mineW (w.heap.size + 1 + 1) (some g3) x1) x1.heap.size (.slice A1 n1 c1) (rowS 6 portS s).1 := (hfl.inG (lo := w.heap.size + 1 + 1) (g := g3) (by have := HCS.out; omega) (.inr (by omega))).offG a1 (fun _ h => h.elim)
  have r1 : Off (fun k => k = p) w x1 := q1.trans a1 fun _ _ h => h.elim
  have hrs : (rowS 6 portS s).2.l.length ≤ 1099511627776 := Nat.le_trans (rowS_len portS_len 6 s) hln
  have hrs2 := rowS_len portS_len 6 s
  have HTG : Hid ((targetS s).1 = ⟨(rowS 6 portS s).1, (termsS (rowS 6 portS s).2).1, (termsS (termsS (rowS 6 portS s).2).2).1, (termsS (termsS (termsS (rowS 6 portS s).2).2).2).1⟩ ∧ (targetS s).2 = (termsS (termsS (termsS (rowS 6 portS s).2).2).2).2) := Lib.hid ⟨rfl, rfl⟩
  have HL1 := Lib.hid hfl2
  obtain ⟨rs, hrsx⟩ : ∃ x, (rowS 6 portS s).2 = x := ⟨_, rfl⟩
  rw [hrsx] at hr1 hrs hrs2 HTG
  have HRS := Lib.hid hrs; have HRS2 := Lib.hid hrs2
  clear hrs hrs2 hrsx hfl hfl2 kb1 kz1 q1 a1 h1 o0 h1s
  go_wp2_with fail
  refine abs (fun x => TgK rs (w.heap.size + 1 + 1) g3 p b (.slice A1 n1 c1) x 0 ∧ Blk x w.heap.size 94 [.pointer (some ⟨p, 0, none⟩)] ∧ Blk x gz 33 [.slice none 0 0, .slice none 0 0, .slice none 0 0, .slice none 0 0] ∧ Blk x gp 189 [.pointer (some ⟨g3, 1, none⟩), .pointer (some ⟨g3, 2, none⟩), .pointer (some ⟨g3, 3, none⟩)] ∧ Off (fun k => k = p) w x ∧ RvI (mineW (w.heap.size + 1 + 1) (some g3) x) x.heap.size (.slice A1 n1 c1) (rowS 6 portS s).1) ⟨⟨kt.alloc _, hr1.same ((Below.refl _ _).alloc (Nat.le_refl _) _)⟩, kb.alloc _, kz.alloc _, Blk.newAt hgp _ #[.pointer (some ⟨g3, 1, none⟩), .pointer (some ⟨g3, 2, none⟩), .pointer (some ⟨g3, 3, none⟩)], r1.alloc _, HL1.out.offG ((Off.refl (fun _ => False) _).alloc _) (fun _ h => h.elim)⟩ ?_
  clear kt kb kz hr1 r1 HL1
  rintro x2 ⟨hK0, kb0, kz0, kp0, r2, hv00⟩
  go_loopw [16, 5] (fun v16 _ wr => ∃ k : Nat, v16 = .int .i64 k ∧ k ≤ 3 ∧ TgK rs (w.heap.size + 1 + 1) g3 p b (.slice A1 n1 c1) wr k ∧ Blk wr w.heap.size 94 [.pointer (some ⟨p, 0, none⟩)] ∧ Blk wr gz 33 [.slice none 0 0, .slice none 0 0, .slice none 0 0, .slice none 0 0] ∧ Blk wr gp 189 [.pointer (some ⟨g3, 1, none⟩), .pointer (some ⟨g3, 2, none⟩), .pointer (some ⟨g3, 3, none⟩)] ∧ Off (fun k => k = p) w wr ∧ RvI (mineW (w.heap.size + 1 + 1) (some g3) wr) wr.heap.size (.slice A1 n1 c1) (rowS 6 portS s).1) (fun v16 _ _ => 3 - (intOf v16).toNat)
  case atStart => exact ⟨0, rfl, by omega, hK0, kb0, kz0, kp0, r2, hv00⟩
  case round =>
    clear hK0 kb0 kz0 kp0 r2 hv00 x2
    obtain ⟨k, rfl, hk, hK, kb, kz, kp, oo, hv0⟩ := hrel
    by_cases hlt : k < 3
    · rcases (show k = 0 ∨ k = 1 ∨ k = 2 by omega) with hk0 | hk0 | hk0
      · have HK0 := Lib.hid hk0; clear hk0
        have hT : TgK rs (w.heap.size + 1 + 1) g3 p b (.slice A1 n1 c1) wr 0 := by have hK2 := hK; rw [HK0.out] at hK2; exact hK2
        obtain ⟨kt, hr⟩ := hT
        have hmono : rs.l.length ≤ rs.l.length := Nat.le_refl _
        have q0 : wr.cell? ⟨gp, k, none⟩ = some (.pointer (some ⟨g3, 1, none⟩)) := by rw [HK0.out]; exact kp.cell 0
        have z1 : (0 : Int) ≤ (k : Int) := by omega
        have z2 : (k : Int) < 3 := by omega
        have e0 := kb.cell 0
        have hTS := terms_any p b rs wr hr (by have := HRS.out; omega)
        have d1 : decide ((k : Int) < 3) = true := by simp; omega
        clear hK
        go_wp2_with fail
        refine hTS.mono ?_
        rintro e w5 ⟨v5, rfl, og5, hr5, o5⟩
        obtain ⟨A5, c5, hv5, _, _⟩ := og5.form
        subst hv5
        generalize hn5 : (termsS rs).1.length = n5 at *
        have tn0 := og5.flat.inG (lo := w.heap.size + 1 + 1) (g := g3) (by have := HGP.out; have := kp.lt; omega) (.inl kt.lt)
        replace kt := kt.off o5 (by have := HGP.out; omega)
        replace kp := kp.off o5 (by have := HGP.out; omega)
        replace kb := kb.off o5 (by have := HGP.out; omega)
        replace kz := kz.off o5 (by have := HGP.out; have := HBS.out; omega)
        have cz := kt.cell 1
        have fz := kt.frozen 1
        clear e0 q0 hTS og5 hn5
        have os : Off (fun q => q = g3) w5 (w5.setCell ⟨g3, 1, none⟩ (.slice A5 n5 c5)) := (Off.refl (fun q => q = g3) w5).setCell (p := ⟨g3, 1, none⟩) (fun _ => rfl) _
        have tn := tn0.offG os (fun q (hq : q = g3) => .inr hq)
        have hr2 := hr5.offE os (by have := HGP.out; omega) (fun hne => by have := HGP.out; have := HBL.out (fun e => hne (List.eq_nil_of_length_eq_zero (by have hz := termsS_len rs; have hz2 := HRS2.out; have hz3 : rs.l.length ≤ rs.l.length := hmono; exact Nat.le_zero.1 (Nat.le_trans hz (Nat.le_trans hz3 (Nat.le_trans hz2 (Nat.le_of_eq (by rw [e]; rfl)))))))); omega)
        go_wp2_with fail
        go_roundw
        case rel => exact ⟨k + 1, by go_num, by omega, by rw [HK0.out]; exact ⟨_, kt.set 1 _, tn, hr2⟩, kb.off os (by have := HGP.out; omega), kz.off os (by have := HGP.out; have := HBS.out; omega), kp.off os (by have := HGP.out; omega), (oo.trans o5 fun _ _ h => h).trans os fun q h1 (h2 : q = g3) => by have := HGP.out; omega, (RvR.offG hv0 o5 (fun q (hq : q = p) => .inl (by omega))).offG os (fun q (hq : q = g3) => .inr hq)⟩
        case measure => simp [intOf]; omega
      · have HK0 := Lib.hid hk0; clear hk0
        have hT : TgK rs (w.heap.size + 1 + 1) g3 p b (.slice A1 n1 c1) wr 1 := by have hK2 := hK; rw [HK0.out] at hK2; exact hK2
        obtain ⟨v1, kt, t1, hr⟩ := hT
        have hmono : (termsS rs).2.l.length ≤ rs.l.length := termsS_len rs
        have q0 : wr.cell? ⟨gp, k, none⟩ = some (.pointer (some ⟨g3, 2, none⟩)) := by rw [HK0.out]; exact kp.cell 1
        have z1 : (0 : Int) ≤ (k : Int) := by omega
        have z2 : (k : Int) < 3 := by omega
        have e0 := kb.cell 0
        have hTS := terms_any p b (termsS rs).2 wr hr (by have := HRS.out; omega)
        have d1 : decide ((k : Int) < 3) = true := by simp; omega
        clear hK
        go_wp2_with fail
        refine hTS.mono ?_
        rintro e w5 ⟨v5, rfl, og5, hr5, o5⟩
        obtain ⟨A5, c5, hv5, _, _⟩ := og5.form
        subst hv5
        generalize hn5 : (termsS (termsS rs).2).1.length = n5 at *
        have tn0 := og5.flat.inG (lo := w.heap.size + 1 + 1) (g := g3) (by have := HGP.out; have := kp.lt; omega) (.inl kt.lt)
        replace t1 := (t1.offG o5 (fun q (hq : q = p) => .inl (by omega)))
        replace kt := kt.off o5 (by have := HGP.out; omega)
        replace kp := kp.off o5 (by have := HGP.out; omega)
        replace kb := kb.off o5 (by have := HGP.out; omega)
        replace kz := kz.off o5 (by have := HGP.out; have := HBS.out; omega)
        have cz := kt.cell 2
        have fz := kt.frozen 2
        clear e0 q0 hTS og5 hn5
        have os : Off (fun q => q = g3) w5 (w5.setCell ⟨g3, 2, none⟩ (.slice A5 n5 c5)) := (Off.refl (fun q => q = g3) w5).setCell (p := ⟨g3, 2, none⟩) (fun _ => rfl) _
        have tn := tn0.offG os (fun q (hq : q = g3) => .inr hq)
        replace t1 := (t1.offG os (fun q (hq : q = g3) => .inr hq))
        have hr2 := hr5.offE os (by have := HGP.out; omega) (fun hne => by have := HGP.out; have := HBL.out (fun e => hne (List.eq_nil_of_length_eq_zero (by have hz := termsS_len (termsS rs).2; have hz2 := HRS2.out; have hz3 : (termsS rs).2.l.length ≤ rs.l.length := hmono; exact Nat.le_zero.1 (Nat.le_trans hz (Nat.le_trans hz3 (Nat.le_trans hz2 (Nat.le_of_eq (by rw [e]; rfl)))))))); omega)
        go_wp2_with fail
        go_roundw
        case rel => exact ⟨k + 1, by go_num, by omega, by rw [HK0.out]; exact ⟨_, _, kt.set 2 _, t1, tn, hr2⟩, kb.off os (by have := HGP.out; omega), kz.off os (by have := HGP.out; have := HBS.out; omega), kp.off os (by have := HGP.out; omega), (oo.trans o5 fun _ _ h => h).trans os fun q h1 (h2 : q = g3) => by have := HGP.out; omega, (RvR.offG hv0 o5 (fun q (hq : q = p) => .inl (by omega))).offG os (fun q (hq : q = g3) => .inr hq)⟩
        case measure => simp [intOf]; omega
      · have HK0 := Lib.hid hk0; clear hk0
        have hT : TgK rs (w.heap.size + 1 + 1) g3 p b (.slice A1 n1 c1) wr 2 := by have hK2 := hK; rw [HK0.out] at hK2; exact hK2
        obtain ⟨v1, v2, kt, t1, t2, hr⟩ := hT
        have hmono : (termsS (termsS rs).2).2.l.length ≤ rs.l.length := Nat.le_trans (termsS_len _) (termsS_len rs)
        have q0 : wr.cell? ⟨gp, k, none⟩ = some (.pointer (some ⟨g3, 3, none⟩)) := by rw [HK0.out]; exact kp.cell 2
        have z1 : (0 : Int) ≤ (k : Int) := by omega
        have z2 : (k : Int) < 3 := by omega
        have e0 := kb.cell 0
        have hTS := terms_any p b (termsS (termsS rs).2).2 wr hr (by have := HRS.out; omega)
        have d1 : decide ((k : Int) < 3) = true := by simp; omega
        clear hK
        go_wp2_with fail
        refine hTS.mono ?_
        rintro e w5 ⟨v5, rfl, og5, hr5, o5⟩
        obtain ⟨A5, c5, hv5, _, _⟩ := og5.form
        subst hv5
        generalize hn5 : (termsS (termsS (termsS rs).2).2).1.length = n5 at *
        have tn0 := og5.flat.inG (lo := w.heap.size + 1 + 1) (g := g3) (by have := HGP.out; have := kp.lt; omega) (.inl kt.lt)
        replace t1 := (t1.offG o5 (fun q (hq : q = p) => .inl (by omega)))
        replace t2 := (t2.offG o5 (fun q (hq : q = p) => .inl (by omega)))
        replace kt := kt.off o5 (by have := HGP.out; omega)
        replace kp := kp.off o5 (by have := HGP.out; omega)
        replace kb := kb.off o5 (by have := HGP.out; omega)
        replace kz := kz.off o5 (by have := HGP.out; have := HBS.out; omega)
        have cz := kt.cell 3
        have fz := kt.frozen 3
        clear e0 q0 hTS og5 hn5
        have os : Off (fun q => q = g3) w5 (w5.setCell ⟨g3, 3, none⟩ (.slice A5 n5 c5)) := (Off.refl (fun q => q = g3) w5).setCell (p := ⟨g3, 3, none⟩) (fun _ => rfl) _
        have tn := tn0.offG os (fun q (hq : q = g3) => .inr hq)
        replace t1 := (t1.offG os (fun q (hq : q = g3) => .inr hq))
        replace t2 := (t2.offG os (fun q (hq : q = g3) => .inr hq))
        have hr2 := hr5.offE os (by have := HGP.out; omega) (fun hne => by have := HGP.out; have := HBL.out (fun e => hne (List.eq_nil_of_length_eq_zero (by have hz := termsS_len (termsS (termsS rs).2).2; have hz2 := HRS2.out; have hz3 : (termsS (termsS rs).2).2.l.length ≤ rs.l.length := hmono; exact Nat.le_zero.1 (Nat.le_trans hz (Nat.le_trans hz3 (Nat.le_trans hz2 (Nat.le_of_eq (by rw [e]; rfl)))))))); omega)
        go_wp2_with fail
        go_roundw
        case rel => exact ⟨k + 1, by go_num, by omega, by rw [HK0.out]; exact ⟨_, _, _, kt.set 3 _, t1, t2, tn, hr2⟩, kb.off os (by have := HGP.out; omega), kz.off os (by have := HGP.out; have := HBS.out; omega), kp.off os (by have := HGP.out; omega), (oo.trans o5 fun _ _ h => h).trans os fun q h1 (h2 : q = g3) => by have := HGP.out; omega, (RvR.offG hv0 o5 (fun q (hq : q = p) => .inl (by omega))).offG os (fun q (hq : q = g3) => .inr hq)⟩
        case measure => simp [intOf]; omega
    · have d1 : decide ((k : Int) < 3) = false := by simp; omega
      obtain rfl : k = 3 := by omega
      have hT : TgK rs (w.heap.size + 1 + 1) g3 p b (.slice A1 n1 c1) wr 3 := hK
      obtain ⟨v1, v2, v3, kt, t1, t2, t3, hr⟩ := hT
      have s1 := t1; have s2 := t2; have s3 := t3
      obtain ⟨A2, n2, c2, rfl, _⟩ := s1
      obtain ⟨A3, n3, c3, rfl, _⟩ := s2
      obtain ⟨A4, n4, c4, rfl, _⟩ := s3
      have x0 := kt.cell 0
      have x1 := kt.cell 1
      have x2 := kt.cell 2
      have x3 := kt.cell 3
      go_wp2_with (first | (refine store_blk kz rfl 33 (.tmp 2) (.tmp 25) rfl rfl (us := [.slice A1 n1 c1, .slice A2 n2 c2, .slice A3 n3 c3, .slice A4 n4 c4]) rfl HI.out rfl rfl ?_; intro w9 k9 g9))
      have o9 : Off (fun k => k = gz) wr w9 := (Off.refl _ _).grown g9 fun k hk _ => by injection hk with hk; exact hk.symm
      have hgz9 : ∀ q, q = gz → q < w.heap.size + 1 + 1 ∨ q = g3 := fun q hq => .inl (by have := HBS.out; omega)
      have h9 := hr.offE o9 (by have := HBS.out; omega) (fun hne => by have := HBS.out; have := HBL.out (fun e => hne (List.eq_nil_of_length_eq_zero (by have hz := Nat.le_trans (termsS_len _) (Nat.le_trans (termsS_len _) (termsS_len rs)); exact Nat.le_zero.1 (Nat.le_trans hz (Nat.le_trans HRS2.out (Nat.le_of_eq (by rw [e]; rfl))))))); omega)
      refine bodyPost_ret (k9.sized rfl _ rfl Tryz.underlying33 HI.out) rfl ⟨_, _, _, _, _, _, _, _, _, _, _, _, rfl, ?_, ?_, oo.trans o9 fun k h1 (h2 : k = gz) => by have := HBS.out; omega⟩
      · rw [HTG.out.1]
        exact ⟨_, _, _, _, rfl, (hv0.offG o9 hgz9).outG (by omega), (t1.offG o9 hgz9).outG (by omega), (t2.offG o9 hgz9).outG (by omega), (t3.offG o9 hgz9).outG (by omega)⟩
      · rw [HTG.out.2]
        exact h9
set_option maxRecDepth 100000 in
set_option maxHeartbeats 4000000 in
theorem rule_any2 (p b : Nat) (s : RS) (w : World) (h : Rr w p b s) (hln : s.l.length ≤ 1099511627776) :
    Calls Tryz.prog 66 #[.agg #[.pointer (some ⟨p, 0, none⟩)]] w fun e w' => ∃ (A1 : Option Addr) (n1 c1 : Nat) (A2 : Option Addr) (n2 c2 : Nat) (A3 : Option Addr) (n3 c3 : Nat), e = .returned (.agg #[.slice A1 n1 c1, .slice A2 n2 c2, .slice A3 n3 c3]) ∧ RuP (mineW w.heap.size none w') w'.heap.size [.slice A1 n1 c1, .slice A2 n2 c2, .slice A3 n3 c3] (ruleS s).1 ∧ Rr w' p b (ruleS s).2 ∧ Off (fun k => k = p) w w' := by
  obtain ⟨wb, hwb⟩ : ∃ wb, w.alloc (.cells #[.pointer (some ⟨p, 0, none⟩)] 94) = wb := ⟨_, rfl⟩
  have fb : Below w.heap.size w wb := by rw [← hwb]; exact (Below.refl _ _).alloc (Nat.le_refl _) _
  have hbs : wb.heap.size = w.heap.size + 1 := by rw [← hwb]; simp
  have kb0 : Blk wb w.heap.size 94 [.pointer (some ⟨p, 0, none⟩)] := by rw [← hwb]; exact Blk.newAt rfl _ #[.pointer (some ⟨p, 0, none⟩)]
  have hp := h.plt
  have hbl : s.l ≠ [] → b < w.heap.size := h.blt
  obtain ⟨wc, hwc⟩ : ∃ wc, wb.alloc (.cells #[.slice none 0 0, .slice none 0 0, .slice none 0 0] 26) = wc := ⟨_, rfl⟩
  have fc : Below w.heap.size w wc := by rw [← hwc]; exact fb.alloc fb.size _
  have hcs : wc.heap.size = w.heap.size + 1 + 1 := by rw [← hwc]; simp [hbs]
  have kb : Blk wc w.heap.size 94 [.pointer (some ⟨p, 0, none⟩)] := by rw [← hwc]; exact kb0.alloc _
  have kz : Blk wc wb.heap.size 26 [.slice none 0 0, .slice none 0 0, .slice none 0 0] := by rw [← hwc]; exact Blk.newAt rfl _ #[.slice none 0 0, .slice none 0 0, .slice none 0 0]
  have h0 := h.same fc
  have o0 : Off (fun k => k = p) w wc := (Off.of_all fc).mono fun _ _ h => h.elim
  have hi : (Tryz.prog.info? 26).map (·.size) = some 3 := by kernel_rfl
  have HI := Lib.hid hi; clear hi
  have HBL := Lib.hid hbl; clear hbl
  generalize hgz : wb.heap.size = gz at *
  have e0 := kb.cell 0
  clear kb0 fb
  have HBS := Lib.hid hbs; have HCS := Lib.hid hcs; clear hbs hcs
  go_enter Tryz.func66, Tryz.ntmps66
  go_wp2_with fail
  refine (row_Source SrP SrP.mn p b 3 (by omega) s wc h0 sourceS sourceS_len (fun u s' hr hl => source_any2 p b s' u hr (by omega))).mono ?_
  rintro e w1 ⟨v1, rfl, og1, h1, o1⟩
  obtain ⟨A1, c1, hv1, _, _⟩ := og1.form
  subst hv1
  generalize hn1 : ((rowS 3 sourceS s).1).length = n1 at *
  clear hn1
  have kb1 := kb.off o1 (by have := HBS.out; omega)
  have kz1 := kz.off o1 (by have := HBS.out; omega)
  have q1 : Off (fun k => k = p) w w1 := (o0).trans o1 fun _ _ h => h
  clear e0
  have HB1 : Hid (w.heap.size + 1 + 1 ≤ wc.heap.size) := Lib.hid (by have := HCS.out; omega)
  have FL1 := Lib.hid (og1.rvm SrP.mn)
  have z1 : Off (fun k => k < wc.heap.size ∨ w1.heap.size ≤ k) w1 w1 := Off.refl _ _
  go_upto_region 2 with fail
  refine abs (fun x => Blk x w1.heap.size 26 [.slice A1 n1 c1, .slice none 0 0, .slice none 0 0] ∧ Blk x w.heap.size 94 [.pointer (some ⟨p, 0, none⟩)] ∧ Blk x gz 26 [.slice none 0 0, .slice none 0 0, .slice none 0 0] ∧ Rr x p b (rowS 3 sourceS s).2 ∧ Off (fun _ => False) w1 x) ⟨Blk.newAt rfl _ #[.slice A1 n1 c1, .slice none 0 0, .slice none 0 0], kb1.alloc _, kz1.alloc _, h1.same ((Below.refl _ _).alloc (Nat.le_refl _) _), (Off.refl _ _).alloc _⟩ ?_
  rintro x1 ⟨ktx1, kbx1, kzx1, hx1, a1⟩
  have HGT : Hid (w.heap.size + 1 + 1 ≤ w1.heap.size) := Lib.hid (by have := HCS.out; have := o1.size; omega)
  have HX1 : Hid (w1.heap.size < x1.heap.size) := Lib.hid ktx1.lt
  have r1 : Off (fun k => k = p) w x1 := q1.trans a1 fun _ _ h => h.elim
  have z1 := z1.trans a1 fun _ _ h => h.elim
  clear kb1 kz1 
  have e0 := kbx1.cell 0
  go_wp2_with fail
  refine (row_Target TgP TgP.mn p b 3 (by omega) (rowS 3 sourceS s).2 x1 hx1 targetS targetS_len (fun u s' hr hl => target_any2 p b s' u hr (by have := rowS_len sourceS_len 3 s; omega))).mono ?_
  rintro e w2 ⟨v2, rfl, og2, h2, o2⟩
  obtain ⟨A2, c2, hv2, _, _⟩ := og2.form
  subst hv2
  generalize hn2 : ((rowS 3 targetS (rowS 3 sourceS s).2).1).length = n2 at *
  clear hn2
  have kb2 := kbx1.off o2 (by have := HBS.out; omega)
  have kz2 := kzx1.off o2 (by have := HBS.out; omega)
  have q2 : Off (fun k => k = p) w w2 := (r1).trans o2 fun _ _ h => h
  clear e0
  have z1 := z1.trans o2 fun k _ (hk : k = p) => .inl (by have := HB1.out; omega)
  have HB2 : Hid (w.heap.size + 1 + 1 ≤ x1.heap.size ∧ w1.heap.size < x1.heap.size) := Lib.hid (by have := HCS.out; have := HGT.out; have := HX1.out; omega)
  have FL2 := Lib.hid (og2.rvm TgP.mn)
  have z2 : Off (fun k => k < x1.heap.size ∨ w2.heap.size ≤ k) w2 w2 := Off.refl _ _
  have kt2 := ktx1.off o2 (by have := HGT.out; omega)
  have ct := kt2.cell 1
  have ft := kt2.frozen 1
  go_upto_region 3 with fail
  refine abs (fun x => Blk x w1.heap.size 26 [.slice A1 n1 c1, .slice A2 n2 c2, .slice none 0 0] ∧ Blk x w.heap.size 94 [.pointer (some ⟨p, 0, none⟩)] ∧ Blk x gz 26 [.slice none 0 0, .slice none 0 0, .slice none 0 0] ∧ Rr x p b (rowS 3 targetS (rowS 3 sourceS s).2).2 ∧ Off (fun k => k = w1.heap.size) w2 x) ⟨kt2.set 1 _, kb2.far (by have := HGT.out; simp only; omega) _, kz2.far (by have := HGT.out; have := HBS.out; simp only; omega) _, h2.offE ((Off.refl (fun k => k = w1.heap.size) _).setCell (p := ⟨w1.heap.size, 1, none⟩) (fun _ => rfl) _) (by have := HGT.out; omega) (fun hne => by have := HGT.out; have := HBL.out (fun e => hne (List.eq_nil_of_length_eq_zero (by have hz := (Nat.le_trans (rowS_len targetS_len 3 (rowS 3 sourceS s).2) (rowS_len sourceS_len 3 s)); exact Nat.le_zero.1 (Nat.le_trans hz (Nat.le_of_eq (by rw [e]; rfl)))))); omega), (Off.refl (fun k => k = w1.heap.size) _).setCell (p := ⟨w1.heap.size, 1, none⟩) (fun _ => rfl) _⟩ ?_
  rintro x2 ⟨ktx2, kbx2, kzx2, hx2, a2⟩
  have r2 : Off (fun k => k = p) w x2 := q2.trans a2 fun k h1 (h2 : k = w1.heap.size) => by have := HGT.out; omega
  have HX2 : Hid (w1.heap.size < x2.heap.size) := Lib.hid (by have := ktx2.lt; exact this)
  have z1 := z1.trans a2 fun k _ (hk : k = w1.heap.size) => .inr (by omega)
  have z2 := z2.trans a2 fun k _ (hk : k = w1.heap.size) => .inl (by have := HB2.out; omega)
  clear kb2 kz2 kt2 ct ft
  have e0 := kbx2.cell 0
  go_wp2_with fail
  refine (row_When WnP WnP.mn p b 3 (by omega) (rowS 3 targetS (rowS 3 sourceS s).2).2 x2 hx2 whenS whenS_len (fun u s' hr hl => when_any2 p b s' u hr (by have := rowS_len sourceS_len 3 s; have := rowS_len targetS_len 3 (rowS 3 sourceS s).2; omega))).mono ?_
  rintro e w3 ⟨v3, rfl, og3, h3, o3⟩
  obtain ⟨A3, c3, hv3, _, _⟩ := og3.form
  subst hv3
  generalize hn3 : ((rowS 3 whenS (rowS 3 targetS (rowS 3 sourceS s).2).2).1).length = n3 at *
  clear hn3
  have kb3 := kbx2.off o3 (by have := HBS.out; omega)
  have kz3 := kzx2.off o3 (by have := HBS.out; omega)
  have q3 : Off (fun k => k = p) w w3 := (r2).trans o3 fun _ _ h => h
  clear e0
  have z1 := z1.trans o3 fun k _ (hk : k = p) => .inl (by have := HB1.out; omega)
  have z2 := z2.trans o3 fun k _ (hk : k = p) => .inl (by have := HB2.out; omega)
  have HB3 : Hid (w.heap.size + 1 + 1 ≤ x2.heap.size ∧ w1.heap.size < x2.heap.size) := Lib.hid (by have := HCS.out; have := HGT.out; have := HX2.out; omega)
  have FL3 := Lib.hid (og3.rvm WnP.mn)
  have z3 : Off (fun k => k < x2.heap.size ∨ w3.heap.size ≤ k) w3 w3 := Off.refl _ _
  have kt3 := ktx2.off o3 (by have := HGT.out; omega)
  have ct := kt3.cell 2
  have ft := kt3.frozen 2
  go_upto_region 4 with fail
  refine abs (fun x => Blk x w1.heap.size 26 [.slice A1 n1 c1, .slice A2 n2 c2, .slice A3 n3 c3] ∧ Blk x w.heap.size 94 [.pointer (some ⟨p, 0, none⟩)] ∧ Blk x gz 26 [.slice none 0 0, .slice none 0 0, .slice none 0 0] ∧ Rr x p b (ruleS s).2 ∧ Off (fun k => k = w1.heap.size) w3 x) ⟨kt3.set 2 _, kb3.far (by have := HGT.out; simp only; omega) _, kz3.far (by have := HGT.out; have := HBS.out; simp only; omega) _, h3.offE ((Off.refl (fun k => k = w1.heap.size) _).setCell (p := ⟨w1.heap.size, 2, none⟩) (fun _ => rfl) _) (by have := HGT.out; omega) (fun hne => by have := HGT.out; have := HBL.out (fun e => hne (List.eq_nil_of_length_eq_zero (by have hz := ruleS_len s; exact Nat.le_zero.1 (Nat.le_trans hz (Nat.le_of_eq (by rw [e]; rfl)))))); omega), (Off.refl (fun k => k = w1.heap.size) _).setCell (p := ⟨w1.heap.size, 2, none⟩) (fun _ => rfl) _⟩ ?_
  rintro x3 ⟨ktx3, kbx3, kzx3, hx3, a3⟩
  have r3 : Off (fun k => k = p) w x3 := q3.trans a3 fun k h1 (h2 : k = w1.heap.size) => by have := HGT.out; omega
  have HX3 : Hid (w1.heap.size < x3.heap.size) := Lib.hid (by have := ktx3.lt; exact this)
  have z1 := z1.trans a3 fun k _ (hk : k = w1.heap.size) => .inr (by omega)
  have z2 := z2.trans a3 fun k _ (hk : k = w1.heap.size) => .inl (by have := HB2.out; omega)
  have z3 := z3.trans a3 fun k _ (hk : k = w1.heap.size) => .inl (by have := HB3.out; omega)
  clear kb3 kz3 kt3 ct ft
  have cx0 := ktx3.cell 0
  have cx1 := ktx3.cell 1
  have cx2 := ktx3.cell 2
  go_wp2_with (first | (refine store_blk kzx3 rfl 26 (.tmp 2) (.tmp 19) rfl rfl (us := [.slice A1 n1 c1, .slice A2 n2 c2, .slice A3 n3 c3]) rfl HI.out rfl rfl ?_; intro w9 k9 g9))
  have o9 : Off (fun k => k = gz) x3 w9 := (Off.refl _ _).grown g9 fun k hk _ => by injection hk with hk; exact hk.symm
  have z1 := z1.trans o9 fun k _ (hk : k = gz) => .inl (by have := HB1.out; have := HBS.out; omega)
  have z2 := z2.trans o9 fun k _ (hk : k = gz) => .inl (by have := HB2.out; have := HBS.out; omega)
  have z3 := z3.trans o9 fun k _ (hk : k = gz) => .inl (by have := HB3.out; have := HBS.out; omega)
  have h9 := hx3.offE o9 (by have := HBS.out; omega) (fun hne => by have := HBS.out; have := HBL.out (fun e => hne (List.eq_nil_of_length_eq_zero (by have hz := ruleS_len s; exact Nat.le_zero.1 (Nat.le_trans hz (Nat.le_of_eq (by rw [e]; rfl)))))); omega)
  refine bodyPost_ret (k9.sized rfl _ rfl Tryz.underlying26 HI.out) rfl ⟨_, _, _, _, _, _, _, _, _, rfl, ⟨_, _, _, rfl, FL1.out.fin SrP.mn z1 (by have := HB1.out; omega), FL2.out.fin TgP.mn z2 (by have := HB2.out; omega), FL3.out.fin WnP.mn z3 (by have := HB3.out; omega)⟩, h9, r3.trans o9 fun k h1 (h2 : k = gz) => by have := HBS.out; omega⟩
end Go.Proofs.YtdbjihpdfiipcaaGreat
namespace Go.Proofs.YtdbjihpdfiipcaaGreat
open Go.RowKit Go.Sort
set_option linter.unusedVariables false
set_option linter.unusedSimpArgs false
theorem Blk.sizedT {w : World} {g t : Nat} {cs : List Value} (h : Blk w g t cs) {fn : Func} {p u : Tmp} {ty : TypeId} (hf : fn.results = #[.cell p ty, .tmp u]) (tmps : Array Value) {P : Program} (hp : tmps.getD p undef = .pointer (some ⟨g, 0, none⟩)) {d : TypeDesc}
    (hu : P.underlying ty = some d) (hi : (P.info? ty).map (·.size) = some cs.length) (hd : d.isRow = true := by rfl) : (results fn tmps).run P w = .ok (.tuple #[.agg cs.toArray, tmps.getD u undef]) w := by
  have hp' : tmps[p]?.getD undef = .pointer (some ⟨g, 0, none⟩) := by simpa using hp
  have h1 : (loadVar ty ⟨g, 0, none⟩).run P w = .ok (.agg cs.toArray) w := by
    cases d <;> first | exact run_loadVar_row (P := P) w g t ty cs.toArray (0, 0) _ h hu rfl (by simpa using hi) | cases hd
  simp [results, hf, hp', asAddr, h1]
def poZero : Po := ⟨0, [], 0, 0, []⟩
def decP (l : List UInt8) : Po := if decOk l then readPo l else poZero
def decE (l : List UInt8) : Nat := if decOk l then 0 else 2
set_option maxRecDepth 100000 in
set_option maxHeartbeats 4000000 in
theorem decode_any (A : Option Addr) (n c : Nat) (l : List UInt8) (w : World) (r : RdB w w.heap.size A n l) (hn : n ≤ 1099511627776) :
    Calls Tryz.prog 25 #[.slice A n c] w fun e w' => ∃ cs : List Value, e = .returned (.tuple #[.agg cs.toArray, .int .i64 (decE l : Int)]) ∧ PoP (mineW w.heap.size none w') w'.heap.size cs (decP l) ∧ Below w.heap.size w w' := by
  have hln : l.length ≤ 1099511627776 := by rw [r.1]; exact hn
  have hpl := pA_len l
  obtain ⟨wc, hwc⟩ : ∃ wc, w.alloc (.cells #[.int .u64 0, .string ⟨#[]⟩, .int .u64 0, .int .i64 0, .slice none 0 0] 38) = wc := ⟨_, rfl⟩
  have fc : Below w.heap.size w wc := by rw [← hwc]; exact (Below.refl _ _).alloc (Nat.le_refl _) _
  have hcs : wc.heap.size = w.heap.size + 1 := by rw [← hwc]; simp
  have kz0 : Blk wc w.heap.size 38 [.int .u64 0, .string ⟨#[]⟩, .int .u64 0, .int .i64 0, .slice none 0 0] := by rw [← hwc]; exact Blk.newAt rfl _ #[.int .u64 0, .string ⟨#[]⟩, .int .u64 0, .int .i64 0, .slice none 0 0]
  have hN := newReader_any A n c l wc ((r.below fc).more fc.size) (by omega)
  have hi : (Tryz.prog.info? 38).map (·.size) = some 5 := by kernel_rfl
  have HI := Lib.hid hi; clear hi
  have HCS := Lib.hid hcs; clear hcs
  obtain ⟨eV, heV⟩ : ∃ x, decE l = x := ⟨_, rfl⟩
  obtain ⟨pV, hpV⟩ : ∃ x, decP l = x := ⟨_, rfl⟩
  rw [heV, hpV]
  have HEV := Lib.hid heV; have HPV := Lib.hid hpV
  clear heV hpV
  go_enter Tryz.func25, Tryz.ntmps25
  go_wp2_with fail
  refine hN.mono ?_
  rintro e w1 ⟨p, b, hp, hb, rfl, h1, f1⟩
  have hbl0 : (⟨l, false⟩ : RS).l ≠ [] → b < w1.heap.size := h1.blt
  have hpl1 := h1.plt
  have kz1 := kz0.below f1 (by have := HCS.out; omega)
  obtain ⟨g4, hg4⟩ : ∃ x, w1.heap.size = x := ⟨_, rfl⟩
  obtain ⟨gz, hgz⟩ : ∃ x, w.heap.size = x := ⟨_, rfl⟩
  clear hN hwc
  go_upto_region 2 with fail
  refine abs (fun x => Blk x g4 94 [.pointer (some ⟨p, 0, none⟩)] ∧ Blk x gz 38 [.int .u64 0, .string ⟨#[]⟩, .int .u64 0, .int .i64 0, .slice none 0 0] ∧ Rr x p b ⟨l, false⟩ ∧ Off (fun k => k = p) w1 x) ⟨Blk.newAt hg4 _ #[.pointer (some ⟨p, 0, none⟩)], by rw [← hgz]; exact kz1.alloc _, h1.same ((Below.refl _ _).alloc (Nat.le_refl _) _), (Off.refl _ _).alloc _⟩ ?_
  rintro x0 ⟨kr0, kz, h0, oo0⟩
  have hgzp : gz < p := by have := HCS.out; omega
  have hp4 : p < g4 := by omega
  have hbl : (⟨l, false⟩ : RS).l ≠ [] → b < g4 := fun h => by have := hbl0 h; omega
  have hx0 : g4 < x0.heap.size := kr0.lt
  have e4 := kr0.cell 0
  go_wp2_with fail
  refine (rUint_any p b ⟨l, false⟩ x0 h0).mono ?_
  rintro e w2 ⟨rfl, h2, o2⟩
  have kr2w := kr0.off o2 (by omega)
  have kz2w := kz.off o2 (by omega)
  have o2s := o2.size
  clear e4
  obtain ⟨g5, hg5⟩ : ∃ x, w2.heap.size = x := ⟨_, rfl⟩
  go_upto_region 3 with fail
  refine abs (fun x => Blk x g5 38 [.int .u64 ((pA0 l).1 : Int), .string ⟨#[]⟩, .int .u64 0, .int .i64 0, .slice none 0 0] ∧ Blk x g4 94 [.pointer (some ⟨p, 0, none⟩)] ∧ Blk x gz 38 [.int .u64 0, .string ⟨#[]⟩, .int .u64 0, .int .i64 0, .slice none 0 0] ∧ Rr x p b (pA0 l).2 ∧ Off (fun _ => False) w2 x) ⟨Blk.newAt hg5 _ #[.int .u64 ((pA0 l).1 : Int), .string ⟨#[]⟩, .int .u64 0, .int .i64 0, .slice none 0 0], kr2w.alloc _, kz2w.alloc _, h2.same ((Below.refl _ _).alloc (Nat.le_refl _) _), (Off.refl _ _).alloc _⟩ ?_
  rintro x1 ⟨kp1, kr1, kz1, hx1, a1⟩
  have hg45 : g4 < g5 := by omega
  have oo1 : Off (fun k => k = p) w1 x1 := (oo0.trans o2 fun _ _ h => h).trans a1 fun _ _ h => h.elim
  have hg5x : g5 < x1.heap.size := kp1.lt
  clear kr2w kz2w kr0 kz h0 h1 h2 a1
  have e4 := kr1.cell 0
  go_wp2_with fail
  refine (rText_any p b (pA0 l).2 20 x1 hx1 (by omega) (by omega) (by omega)).mono ?_
  rintro e w2 ⟨rfl, h2, o2⟩

  have kr2w := kr1.off o2 (by omega)
  have kz2w := kz1.off o2 (by omega)
  have kp2w := kp1.off o2 (by omega)
  have oo2w := oo1.trans o2 fun _ _ h => h
  clear e4
  have cp := kp2w.cell 1
  have fp := kp2w.frozen 1
  go_upto_region 4 with fail
  refine abs (fun x => Blk x g5 38 [.int .u64 ((pA0 l).1 : Int), .string (strB (pA1 l).1), .int .u64 0, .int .i64 0, .slice none 0 0] ∧ Blk x g4 94 [.pointer (some ⟨p, 0, none⟩)] ∧ Blk x gz 38 [.int .u64 0, .string ⟨#[]⟩, .int .u64 0, .int .i64 0, .slice none 0 0] ∧ Rr x p b (pA1 l).2 ∧ Off (fun k => k = g5) w2 x) ⟨kp2w.set 1 _, kr2w.far (by simp only; omega) _, kz2w.far (by simp only; omega) _, h2.offE ((Off.refl (fun k => k = g5) _).setCell (p := ⟨g5, 1, none⟩) (fun _ => rfl) _) (by omega) (fun hne => by have := hbl (fun e => hne (List.eq_nil_of_length_eq_zero (by have hz := hpl.2.1; exact Nat.le_zero.1 (Nat.le_trans hz (Nat.le_of_eq (by rw [e]; rfl)))))); omega), (Off.refl (fun k => k = g5) _).setCell (p := ⟨g5, 1, none⟩) (fun _ => rfl) _⟩ ?_
  rintro x2 ⟨kp2, kr2, kz2, hx2, a2⟩
  have oo2 : Off (fun k => k = p) w1 x2 := oo2w.trans a2 fun k h1 (h2 : k = g5) => by omega
  clear kr2w kz2w kp2w cp fp
  have e4 := kr2.cell 0
  go_wp2_with fail
  refine (rUint_any p b (pA1 l).2 x2 hx2).mono ?_
  rintro e w3 ⟨rfl, h3, o3⟩

  have kr3w := kr2.off o3 (by omega)
  have kz3w := kz2.off o3 (by omega)
  have kp3w := kp2.off o3 (by omega)
  have oo3w := oo2.trans o3 fun _ _ h => h
  clear e4
  have cp := kp3w.cell 2
  have fp := kp3w.frozen 2
  go_upto_region 5 with fail
  refine abs (fun x => Blk x g5 38 [.int .u64 ((pA0 l).1 : Int), .string (strB (pA1 l).1), .int .u64 ((pA2 l).1 : Int), .int .i64 0, .slice none 0 0] ∧ Blk x g4 94 [.pointer (some ⟨p, 0, none⟩)] ∧ Blk x gz 38 [.int .u64 0, .string ⟨#[]⟩, .int .u64 0, .int .i64 0, .slice none 0 0] ∧ Rr x p b (pA2 l).2 ∧ Off (fun k => k = g5) w3 x) ⟨kp3w.set 2 _, kr3w.far (by simp only; omega) _, kz3w.far (by simp only; omega) _, h3.offE ((Off.refl (fun k => k = g5) _).setCell (p := ⟨g5, 2, none⟩) (fun _ => rfl) _) (by omega) (fun hne => by have := hbl (fun e => hne (List.eq_nil_of_length_eq_zero (by have hz := hpl.2.2.1; exact Nat.le_zero.1 (Nat.le_trans hz (Nat.le_of_eq (by rw [e]; rfl)))))); omega), (Off.refl (fun k => k = g5) _).setCell (p := ⟨g5, 2, none⟩) (fun _ => rfl) _⟩ ?_
  rintro x3 ⟨kp3, kr3, kz3, hx3, a3⟩
  have oo3 : Off (fun k => k = p) w1 x3 := oo3w.trans a3 fun k h1 (h2 : k = g5) => by omega
  clear kr3w kz3w kp3w cp fp
  have e4 := kr3.cell 0
  go_wp2_with fail
  refine (small_any p b 1 (by omega) (pA2 l).2 x3 hx3).mono ?_
  rintro e w4 ⟨rfl, h4, o4⟩

  have kr4w := kr3.off o4 (by omega)
  have kz4w := kz3.off o4 (by omega)
  have kp4w := kp3.off o4 (by omega)
  have oo4w := oo3.trans o4 fun _ _ h => h
  clear e4
  have cp := kp4w.cell 3
  have fp := kp4w.frozen 3
  go_upto_region 6 with fail
  refine abs (fun x => Blk x g5 38 [.int .u64 ((pA0 l).1 : Int), .string (strB (pA1 l).1), .int .u64 ((pA2 l).1 : Int), .int .i64 ((pA3 l).1 : Int), .slice none 0 0] ∧ Blk x g4 94 [.pointer (some ⟨p, 0, none⟩)] ∧ Blk x gz 38 [.int .u64 0, .string ⟨#[]⟩, .int .u64 0, .int .i64 0, .slice none 0 0] ∧ Rr x p b (pA3 l).2 ∧ Off (fun k => k = g5) w4 x) ⟨kp4w.set 3 _, kr4w.far (by simp only; omega) _, kz4w.far (by simp only; omega) _, h4.offE ((Off.refl (fun k => k = g5) _).setCell (p := ⟨g5, 3, none⟩) (fun _ => rfl) _) (by omega) (fun hne => by have := hbl (fun e => hne (List.eq_nil_of_length_eq_zero (by have hz := hpl.2.2.2.1; exact Nat.le_zero.1 (Nat.le_trans hz (Nat.le_of_eq (by rw [e]; rfl)))))); omega), (Off.refl (fun k => k = g5) _).setCell (p := ⟨g5, 3, none⟩) (fun _ => rfl) _⟩ ?_
  rintro x4 ⟨kp4, kr4, kz4, hx4, a4⟩
  have oo4 : Off (fun k => k = p) w1 x4 := oo4w.trans a4 fun k h1 (h2 : k = g5) => by omega
  clear kr4w kz4w kp4w cp fp
  have e4 := kr4.cell 0
  go_wp2_with fail
  refine (row_Rule RuP RuP.mn p b 6 (by omega) (pA3 l).2 x4 hx4 ruleS ruleS_len (fun u s' hr hl => rule_any2 p b s' u hr (by omega))).mono ?_
  rintro e w5 ⟨v5, rfl, og, h5, o5⟩
  have og : OwnG 3 RuP w5 x4.heap.size 26 v5 (pA4 l).1 := og
  obtain ⟨A5, c5, hv5, _, _⟩ := og.form
  subst hv5
  generalize hn5 : (pA4 l).1.length = n5 at *
  clear hn5
  have hx4s : g5 < x4.heap.size := kp4.lt
  have FL := Lib.hid (og.rvm RuP.mn)
  have z5 : Off (fun k => k < x4.heap.size ∨ w5.heap.size ≤ k) w5 w5 := Off.refl _ _
  have kr5w := kr4.off o5 (by omega)
  have kz5w := kz4.off o5 (by omega)
  have kp5w := kp4.off o5 (by omega)
  have oo5w := oo4.trans o5 fun _ _ h => h
  clear e4
  have cp := kp5w.cell 4
  have fp := kp5w.frozen 4
  go_upto_region 7 with fail
  refine abs (fun x => Blk x g5 38 [.int .u64 ((pA0 l).1 : Int), .string (strB (pA1 l).1), .int .u64 ((pA2 l).1 : Int), .int .i64 ((pA3 l).1 : Int), .slice A5 n5 c5] ∧ Blk x g4 94 [.pointer (some ⟨p, 0, none⟩)] ∧ Blk x gz 38 [.int .u64 0, .string ⟨#[]⟩, .int .u64 0, .int .i64 0, .slice none 0 0] ∧ Rr x p b (pA4 l).2 ∧ Off (fun k => k = g5) w5 x) ⟨kp5w.set 4 _, kr5w.far (by simp only; omega) _, kz5w.far (by simp only; omega) _, h5.offE ((Off.refl (fun k => k = g5) _).setCell (p := ⟨g5, 4, none⟩) (fun _ => rfl) _) (by omega) (fun hne => by have := hbl (fun e => hne (List.eq_nil_of_length_eq_zero (by have hz := hpl.2.2.2.2; exact Nat.le_zero.1 (Nat.le_trans hz (Nat.le_of_eq (by rw [e]; rfl)))))); omega), (Off.refl (fun k => k = g5) _).setCell (p := ⟨g5, 4, none⟩) (fun _ => rfl) _⟩ ?_
  rintro x5 ⟨kp5, kr5, kz5, hx5, a5⟩
  have oo5 : Off (fun k => k = p) w1 x5 := oo5w.trans a5 fun k h1 (h2 : k = g5) => by omega
  clear kr5w kz5w kp5w cp fp
  have z6 := z5.trans a5 fun k _ (hk : k = g5) => .inl (by omega)
  have e4 := kr5.cell 0
  have hE := end_any p b (pA4 l).2 x5 hx5
  obtain ⟨bad, hbad⟩ : ∃ x, readBad l = x := ⟨_, rfl⟩
  have hbd : ((pA4 l).2.st || !(pA4 l).2.l.isEmpty) = bad := hbad
  rw [hbd] at hE
  have fin : ∀ u, Off (fun k => k = p ∨ k = gz ∨ k ≥ x5.heap.size) x5 u → PoP (mineW w.heap.size none u) u.heap.size [.int .u64 ((pA0 l).1 : Int), .string (strB (pA1 l).1), .int .u64 ((pA2 l).1 : Int), .int .i64 ((pA3 l).1 : Int), .slice A5 n5 c5] (readPo l) := fun u hu => ⟨_, rfl, FL.out.fin RuP.mn (z6.trans hu fun k h1 (h2 : k = p ∨ k = gz ∨ k ≥ x5.heap.size) => by have := a5.size; omega) (by omega)⟩
  have below : ∀ u, Off (fun k => k = p ∨ k = gz ∨ k ≥ x5.heap.size) x5 u → Below w.heap.size w u := fun u hu => (fc.trans (f1.mono (by have := HCS.out; omega))).trans (Off.below (X := fun k => gz ≤ k) ((oo5.mono fun k _ (h : k = p) => by omega).trans hu fun k h1 (h2 : k = p ∨ k = gz ∨ k ≥ x5.heap.size) => by have := oo5.size; omega) (by have := HCS.out; have := f1.size; omega) (fun k h => by omega))
  have FIN := Lib.hid fin; have BEL := Lib.hid below
  clear fin below
  go_wp2_with fail
  refine hE.mono ?_
  rintro e w6 ⟨rfl, h6, o6⟩
  have kp6 := kp5.off o6 (by omega)
  have kz6 := kz5.off o6 (by omega)
  have o6s := o6.size
  clear e4 hE
  have c0 := kp6.cell 0
  have c1 := kp6.cell 1
  have c2 := kp6.cell 2
  have c3 := kp6.cell 3
  have c4 := kp6.cell 4
  cases bad
  rotate_left
  · have hno : decOk l = false := by unfold decOk; rw [hbad]; rfl
    have hE2 : decE l = 2 := by unfold decE; rw [hno]; rfl
    have hP2 : decP l = poZero := by unfold decP; rw [hno]; rfl
    obtain rfl : eV = 2 := by rw [← HEV.out]; exact hE2
    obtain rfl : pV = poZero := by rw [← HPV.out]; exact hP2
    go_wp2_with (first | (refine store_blk kz6 rfl 38 (.tmp 2) (.tmp 38) rfl rfl (us := [.int .u64 0, .string ⟨#[]⟩, .int .u64 0, .int .i64 0, .slice none 0 0]) rfl HI.out rfl rfl ?_; intro w9 k9 g9))
    have o9 : Off (fun k => k = gz) w6 w9 := (Off.refl _ _).grown g9 fun k hk _ => by injection hk with hk; exact hk.symm
    refine bodyPost_ret (k9.sizedT rfl _ rfl Tryz.underlying38 HI.out) rfl ⟨[.int .u64 0, .string ⟨#[]⟩, .int .u64 0, .int .i64 0, .slice none 0 0], rfl, ⟨_, rfl, nilG⟩, BEL.out _ ((o6.mono fun k _ (h : k = p) => .inl h).trans o9 fun k _ (h : k = gz) => .inr (.inl h))⟩
  · have hP6 : PoP w6 w6.heap.size [.int .u64 ((pA0 l).1 : Int), .string (strB (pA1 l).1), .int .u64 ((pA2 l).1 : Int), .int .i64 ((pA3 l).1 : Int), .slice A5 n5 c5] (readPo l) := PoP.mn _ _ _ _ _ _ (Nat.le_refl _) (Sub.out _ _ _ _) (FIN.out w6 (o6.mono fun k _ (h : k = p) => .inl h))
    have hM := may12_any (readPo l) _ w6 hP6 (readPo_ok l)
    obtain ⟨m, hm⟩ : ∃ x, poMay (readPo l) = x := ⟨_, rfl⟩
    rw [hm] at hM
    have hok : decOk l = m := by unfold decOk; rw [hbad, hm]; rfl
    go_wp2_with fail
    refine hM.mono ?_
    rintro e w7 ⟨rfl, f7⟩
    have kp7 := kp6.below f7 kp6.lt
    have kz7 := kz6.below f7 kz6.lt
    have o7 : Off (fun k => k = p ∨ k = gz ∨ k ≥ x5.heap.size) x5 w7 := (o6.mono fun k _ (h : k = p) => .inl h).trans (Off.of_all f7) fun _ _ h => h.elim
    clear c0 c1 c2 c3 c4 hM
    cases m
    · have hE2 : decE l = 2 := by unfold decE; rw [hok]; rfl
      have hP2 : decP l = poZero := by unfold decP; rw [hok]; rfl
      obtain rfl : eV = 2 := by rw [← HEV.out]; exact hE2
      obtain rfl : pV = poZero := by rw [← HPV.out]; exact hP2
      go_wp2_with (first | (refine store_blk kz7 rfl 38 (.tmp 2) (.tmp 38) rfl rfl (us := [.int .u64 0, .string ⟨#[]⟩, .int .u64 0, .int .i64 0, .slice none 0 0]) rfl HI.out rfl rfl ?_; intro w9 k9 g9))
      have o9 : Off (fun k => k = gz) w7 w9 := (Off.refl _ _).grown g9 fun k hk _ => by injection hk with hk; exact hk.symm
      refine bodyPost_ret (k9.sizedT rfl _ rfl Tryz.underlying38 HI.out) rfl ⟨[.int .u64 0, .string ⟨#[]⟩, .int .u64 0, .int .i64 0, .slice none 0 0], rfl, ⟨_, rfl, nilG⟩, BEL.out _ (o7.trans o9 fun k _ (h : k = gz) => .inr (.inl h))⟩
    · have hE2 : decE l = 0 := by unfold decE; rw [hok]; rfl
      have hP2 : decP l = readPo l := by unfold decP; rw [hok]; rfl
      obtain rfl : eV = 0 := by rw [← HEV.out]; exact hE2
      obtain rfl : pV = readPo l := by rw [← HPV.out]; exact hP2
      have c0 := kp7.cell 0
      have c1 := kp7.cell 1
      have c2 := kp7.cell 2
      have c3 := kp7.cell 3
      have c4 := kp7.cell 4
      go_wp2_with (first | (refine store_blk kz7 rfl 38 (.tmp 2) (.tmp 39) rfl rfl (us := [.int .u64 ((pA0 l).1 : Int), .string (strB (pA1 l).1), .int .u64 ((pA2 l).1 : Int), .int .i64 ((pA3 l).1 : Int), .slice A5 n5 c5]) rfl HI.out rfl rfl ?_; intro w9 k9 g9))
      have o9 : Off (fun k => k = gz) w7 w9 := (Off.refl _ _).grown g9 fun k hk _ => by injection hk with hk; exact hk.symm
      have oz := o7.trans o9 fun k _ (h : k = gz) => .inr (.inl h)
      refine bodyPost_ret (k9.sizedT rfl _ rfl Tryz.underlying38 HI.out) rfl ⟨_, rfl, FIN.out _ oz, BEL.out _ oz⟩
end Go.Proofs.YtdbjihpdfiipcaaGreat
