/- The awake of the laws of layer 12: true. No condition. -/
import Derived.Test.YtdbjihpdfiipcaaGreatPolEncs
namespace Go.Proofs.YtdbjihpdfiipcaaGreat
open Go.RowKit Go.Sort
set_option linter.unusedVariables false
set_option linter.unusedSimpArgs false
def GETb : List UInt8 := [71, 69, 84]
def exTg (ps : List Int) : Tg := ⟨ps, [(1, GETb)], [], []⟩
def exRu (ps : List Int) : Ru := ⟨[], [exTg ps], []⟩
def exPo (ps : List Int) : Po := ⟨3, [], 0, 1, [exRu ps]⟩
/-- The example's memory from block s on; its ports lie in block g. -/
def ExB (u : World) (s g n : Nat) (ps : List Int) : Prop := Blk u g 3 (ps.map fun x => .int .i64 x) ∧ Blk u (s + 1 + 1) 78 [.int .i64 1, .string (strB GETb)] ∧ Blk u (s + 1 + 1 + 1) 33 [.slice (some ⟨g, 0, none⟩) n n, .slice (some ⟨s + 1 + 1, 0, none⟩) 1 1, .slice none 0 0, .slice none 0 0] ∧ Blk u (s + 1 + 1 + 1 + 1) 26 [.slice none 0 0, .slice (some ⟨s + 1 + 1 + 1, 0, none⟩) 1 1, .slice none 0 0]
theorem ExB.below {u v : World} {s g n : Nat} {ps : List Int} (h : ExB u s g n ps) (hb : Below u.heap.size u v) : ExB v s g n ps := ⟨h.1.below hb h.1.lt, h.2.1.below hb h.2.1.lt, h.2.2.1.below hb h.2.2.1.lt, h.2.2.2.below hb h.2.2.2.lt⟩
theorem nilR {α : Type} {enc : α → List Value} {k : Nat} {w : World} {B : Nat} : RvR enc k w B (.slice none 0 0) ([] : List α) := ⟨none, 0, 0, rfl, Nat.le_refl _, by simp [maxLen], RdR.nil⟩
theorem nilG {α : Type} {k : Nat} {P : World → Nat → List Value → α → Prop} {w : World} {B : Nat} : RvG k P w B (.slice none 0 0) ([] : List α) := ⟨none, 0, 0, rfl, Nat.le_refl _, by simp [maxLen], RdG.nil⟩
theorem oneR {α : Type} {enc : α → List Value} {k : Nat} {w : World} {B g t : Nat} {x : α} (h : Blk w g t (enc x)) (hB : g < B) : RvR enc k w B (.slice (some ⟨g, 0, none⟩) 1 1) [x] :=
  ⟨_, 1, 1, rfl, Nat.le_refl _, by simp [maxLen], rfl, fun _ => ⟨g, 0, rfl, hB, fun j hj i v hv => by
    have hj0 : j = 0 := by simp at hj; exact hj
    subst hj0
    rw [Nat.zero_mul, Nat.zero_add, h.cell]
    exact hv⟩⟩
theorem oneG {α : Type} {k : Nat} {P : World → Nat → List Value → α → Prop} {w : World} {B g t : Nat} {cs : List Value} {x : α} (h : Blk w g t cs) (hk : cs.length = k) (hP : P w B cs x) (hB : g < B) : RvG k P w B (.slice (some ⟨g, 0, none⟩) 1 1) [x] :=
  ⟨_, 1, 1, rfl, Nat.le_refl _, by simp [maxLen], rfl, fun _ => ⟨g, 0, rfl, hB, fun j hj => ⟨cs, hk, by
    have hj0 : j = 0 := by simp at hj; exact hj
    subst hj0
    exact hP, fun i v hv => by
    have hj0 : j = 0 := by simp at hj; exact hj
    subst hj0
    rw [Nat.zero_mul, Nat.zero_add, h.cell]
    exact hv⟩⟩⟩
theorem intsR {w : World} {B g t : Nat} {ps : List Int} (h : Blk w g t (ps.map fun x => .int .i64 x)) (hl : ps.length ≤ 1000) (hB : g < B) : RvI w B (.slice (some ⟨g, 0, none⟩) ps.length ps.length) ps :=
  ⟨_, _, _, rfl, Nat.le_refl _, by simp only [maxLen]; omega, rfl, fun _ => ⟨g, 0, rfl, hB, fun j hj i v hv => by
    rcases i with _ | i
    · rw [Nat.mul_one, Nat.add_zero, Nat.zero_add, h.cell, List.getElem?_map, List.getElem?_eq_getElem hj]
      exact hv
    · cases hv⟩⟩
theorem ExB.tg {u : World} {s g n : Nat} {ps : List Int} (h : ExB u s g n ps) (hn : ps.length = n) (hl : n ≤ 1000) : TgP u u.heap.size [.slice (some ⟨g, 0, none⟩) n n, .slice (some ⟨s + 1 + 1, 0, none⟩) 1 1, .slice none 0 0, .slice none 0 0] (exTg ps) := by
  subst hn
  exact ⟨_, _, _, _, rfl, intsR h.1 hl h.1.lt, oneR (enc := tmC) h.2.1 h.2.1.lt, nilR, nilR⟩
theorem ExB.ru {u : World} {s g n : Nat} {ps : List Int} (h : ExB u s g n ps) (hn : ps.length = n) (hl : n ≤ 1000) : RuP u u.heap.size [.slice none 0 0, .slice (some ⟨s + 1 + 1 + 1, 0, none⟩) 1 1, .slice none 0 0] (exRu ps) :=
  ⟨_, _, _, rfl, nilG, oneG h.2.2.1 rfl (h.tg hn hl) h.2.2.1.lt, nilG⟩
theorem ExB.po {u : World} {s g n : Nat} {ps : List Int} (h : ExB u s g n ps) (hn : ps.length = n) (hl : n ≤ 1000) : PoP u u.heap.size [.int .u64 ((3 : Nat) : Int), .string (strB []), .int .u64 ((0 : Nat) : Int), .int .i64 1, .slice (some ⟨s + 1 + 1 + 1 + 1, 0, none⟩) 1 1] (exPo ps) :=
  ⟨_, rfl, oneG h.2.2.2 rfl (h.ru hn hl) h.2.2.2.lt⟩
theorem exTg_ok (ps : List Int) (h : okInts ps) : okTg (exTg ps) := ⟨h, ⟨by simp [exTg], by intro t ht; simp only [exTg, List.mem_cons, List.mem_nil_iff, or_false] at ht; subst ht; show (3 : Nat) ≤ 1000000; omega⟩, ⟨by simp [exTg], fun t ht => by cases ht⟩, ⟨by simp [exTg], fun t ht => by cases ht⟩⟩
theorem exRu_ok (ps : List Int) (h : okInts ps) : okRu (exRu ps) := ⟨⟨by simp [exRu], fun s hs => by cases hs⟩, ⟨by simp [exRu], fun t ht => by simp only [exRu, List.mem_cons, List.mem_nil_iff, or_false] at ht; subst ht; exact exTg_ok ps h⟩, ⟨by simp [exRu], fun s hs => by cases hs⟩⟩
theorem exPo_ok (ps : List Int) (h : okInts ps) : okPo (exPo ps) := ⟨by simp [exPo], by simp [exPo, okS], by simp [exPo], ⟨by simp [exPo], by simp [exPo]⟩, ⟨by simp [exPo], fun r hr => by simp only [exPo, List.mem_cons, List.mem_nil_iff, or_false] at hr; subst hr; exact exRu_ok ps h⟩⟩
theorem ints1 : okInts [80] := ⟨by decide, by decide⟩
theorem ints2 : okInts [80, 80] := ⟨by decide, by decide⟩
theorem exMay : poMay (exPo [80]) = true := by decide +kernel
theorem exNot : poMay (exPo [80, 80]) = false := by decide +kernel
theorem exB : poB (exPo [80]) = [3, 0, 0, 1, 1, 0, 1, 1, 80, 1, 1, 3, 71, 69, 84, 0, 0, 0] := by decide +kernel
theorem exSev : seventhR (exRu [80]) = true := by decide +kernel
def exRu2 : Ru := ⟨[], [⟨[80], [], [], []⟩], []⟩
theorem exSev2 : seventhR exRu2 = false := by decide +kernel
set_option maxRecDepth 100000 in
set_option maxHeartbeats 2000000 in
theorem example_any (w : World) : Calls Tryz.prog 28 #[] w fun e w' => e = .returned (.agg #[.int .u64 3, .string (strB []), .int .u64 0, .int .i64 1, .slice (some ⟨w.heap.size + 1 + 1 + 1 + 1, 0, none⟩) 1 1]) ∧ ExB w' w.heap.size (w.heap.size + 1) 1 [80] ∧ Below w.heap.size w w' := by
  have hi : (Tryz.prog.info? 38).map (·.size) = some 5 := by kernel_rfl
  have HI := Lib.hid hi; clear hi
  go_enter Tryz.func28, Tryz.ntmps28
  go_wp2_with fail
  have ks := (((((Below.refl w.heap.size w).alloc (Nat.le_refl _) (.cells #[.int .u64 3, .string ⟨#[]⟩, .int .u64 0, .int .i64 1, .slice (some ⟨w.heap.size + 1 + 1 + 1 + 1, 0, none⟩) 1 1] 38)).alloc (by simp) (.cells #[.int .i64 80] 3)).alloc (by simp; omega) (.cells #[.int .i64 1, .string ⟨#[71, 69, 84]⟩] 78)).alloc (by simp; omega) (.cells #[.slice (some ⟨w.heap.size + 1, 0, none⟩) 1 1, .slice (some ⟨w.heap.size + 1 + 1, 0, none⟩) 1 1, .slice none 0 0, .slice none 0 0] 33)).alloc (by simp; omega) (.cells #[.slice none 0 0, .slice (some ⟨w.heap.size + 1 + 1 + 1, 0, none⟩) 1 1, .slice none 0 0] 26)
  have k0 : Blk _ w.heap.size 38 [.int .u64 3, .string ⟨#[]⟩, .int .u64 0, .int .i64 1, .slice (some ⟨w.heap.size + 1 + 1 + 1 + 1, 0, none⟩) 1 1] := ((((Blk.newAt (w := w) rfl 38 #[.int .u64 3, .string ⟨#[]⟩, .int .u64 0, .int .i64 1, .slice (some ⟨w.heap.size + 1 + 1 + 1 + 1, 0, none⟩) 1 1]).alloc (.cells #[.int .i64 80] 3)).alloc (.cells #[.int .i64 1, .string ⟨#[71, 69, 84]⟩] 78)).alloc (.cells #[.slice (some ⟨w.heap.size + 1, 0, none⟩) 1 1, .slice (some ⟨w.heap.size + 1 + 1, 0, none⟩) 1 1, .slice none 0 0, .slice none 0 0] 33)).alloc (.cells #[.slice none 0 0, .slice (some ⟨w.heap.size + 1 + 1 + 1, 0, none⟩) 1 1, .slice none 0 0] 26)
  refine bodyPost_ret (k0.sized rfl _ rfl Tryz.underlying38 HI.out) rfl ⟨rfl, ⟨?_, ?_, ?_, ?_⟩, ks⟩
  · exact (((Blk.newAt (by simp) 3 #[.int .i64 80]).alloc _).alloc _).alloc _
  · exact ((Blk.newAt (by simp) 78 #[.int .i64 1, .string ⟨#[71, 69, 84]⟩]).alloc _).alloc _
  · exact (Blk.newAt (by simp) 33 #[.slice (some ⟨w.heap.size + 1, 0, none⟩) 1 1, .slice (some ⟨w.heap.size + 1 + 1, 0, none⟩) 1 1, .slice none 0 0, .slice none 0 0]).alloc _
  · exact Blk.newAt (by simp) 26 #[.slice none 0 0, .slice (some ⟨w.heap.size + 1 + 1 + 1, 0, none⟩) 1 1, .slice none 0 0]
theorem ExB.set {u : World} {s g n : Nat} {ps qs : List Int} (h : ExB u s g n ps) {g' : Nat} (hg : Blk u g' 3 (qs.map fun x => .int .i64 x)) (hne : g' ≠ s + 1 + 1 + 1) {m : Nat} : ExB (u.setCell ⟨s + 1 + 1 + 1, 0, none⟩ (.slice (some ⟨g', 0, none⟩) m m)) s g' m qs :=
  ⟨hg.far hne _, h.2.1.far (by simp) _, h.2.2.1.set 0 _, h.2.2.2.far (by simp) _⟩
theorem exStr : strB (poB (exPo [80])) = ⟨#[3, 0, 0, 1, 1, 0, 1, 1, 80, 1, 1, 3, 71, 69, 84, 0, 0, 0]⟩ := by rw [exB]; rfl
theorem exLen : (poB (exPo [80])).length = 18 := by rw [exB]; rfl
theorem ru2P (u : World) (g h : Nat) (k1 : Blk u g 3 [.int .i64 80]) (k2 : Blk u h 33 [.slice (some ⟨g, 0, none⟩) 1 1, .slice none 0 0, .slice none 0 0, .slice none 0 0]) : RuP u u.heap.size [.slice none 0 0, .slice (some ⟨h, 0, none⟩) 1 1, .slice none 0 0] exRu2 :=
  ⟨_, _, _, rfl, nilG, oneG k2 rfl ⟨_, _, _, _, rfl, intsR (ps := [80]) k1 (by decide) k1.lt, nilR, nilR, nilR⟩ k2.lt, nilG⟩
theorem ru2ok : okRu exRu2 := ⟨⟨by decide, fun s hs => by cases hs⟩, ⟨by decide, fun t ht => by simp only [exRu2, List.mem_cons, List.mem_nil_iff, or_false] at ht; subst ht; exact ⟨ints1, ⟨by decide, fun t ht => by cases ht⟩, ⟨by decide, fun t ht => by cases ht⟩, ⟨by decide, fun t ht => by cases ht⟩⟩⟩, ⟨by decide, fun s hs => by cases hs⟩⟩
set_option maxRecDepth 100000 in
set_option maxHeartbeats 4000000 in
theorem awake12_any (w : World) : Calls Tryz.prog 8 #[] w fun e w' => e = .returned (.bool true) ∧ Below w.heap.size w w' := by
  have he0 : strB [] = ⟨#[]⟩ := rfl
  go_enter Tryz.func8, Tryz.ntmps8
  go_wp2_with fail
  refine (example_any w).mono ?_
  rintro e w1 ⟨rfl, x1, f1⟩
  have hE := encode_yes (exPo [80]) _ w1 (x1.po rfl (by omega)) (exPo_ok _ ints1) exMay
  go_wp2_with fail
  refine hE.mono ?_
  rintro e w2 ⟨A, c, rfl, ow, f2⟩
  rw [exLen] at ow ⊢
  have gw := f1.trans (f2.mono f1.size)
  have rb := ow.rd
  clear hE ow x1
  go_wp2_with fail
  refine (example_any w2).mono ?_
  rintro e w3 ⟨rfl, x3, f3⟩
  obtain ⟨s2, hs2⟩ : ∃ s, w2.heap.size = s := ⟨_, rfl⟩
  rw [hs2] at x3 f3 rb ⊢
  obtain ⟨w4, hw4⟩ : ∃ x, w3.alloc (.cells #[.int .u64 3, .string ⟨#[]⟩, .int .u64 0, .int .i64 1, .slice (some ⟨s2 + 1 + 1 + 1 + 1, 0, none⟩) 1 1] 38) = x := ⟨_, rfl⟩
  obtain ⟨b3, hb3⟩ : ∃ x, w3.heap.size = x := ⟨_, rfl⟩
  have f4 : Below w3.heap.size w3 w4 := by rw [← hw4]; exact (Below.refl _ _).alloc (Nat.le_refl _) _
  have kp4 : Blk w4 b3 38 [.int .u64 3, .string ⟨#[]⟩, .int .u64 0, .int .i64 1, .slice (some ⟨s2 + 1 + 1 + 1 + 1, 0, none⟩) 1 1] := by rw [← hw4, ← hb3]; exact Blk.newAt rfl _ #[.int .u64 3, .string ⟨#[]⟩, .int .u64 0, .int .i64 1, .slice (some ⟨s2 + 1 + 1 + 1 + 1, 0, none⟩) 1 1]
  have x4 := x3.below f4
  obtain ⟨w5, hw5⟩ : ∃ x, w4.alloc (.cells #[.int .i64 80, .int .i64 80] 3) = x := ⟨_, rfl⟩
  obtain ⟨b4, hb4⟩ : ∃ x, w4.heap.size = x := ⟨_, rfl⟩
  have f5 : Below w4.heap.size w4 w5 := by rw [← hw5]; exact (Below.refl _ _).alloc (Nat.le_refl _) _
  have kq5 : Blk w5 b4 3 ([80, 80].map fun x => .int .i64 x) := by rw [← hw5, ← hb4]; exact Blk.newAt rfl _ #[.int .i64 80, .int .i64 80]
  have x5 := x4.below f5
  have kp5 := kp4.below f5 kp4.lt
  have hlt3 : s2 + 1 + 1 + 1 < b4 := by rw [← hb4]; exact x4.2.2.1.lt
  have hlt4 : s2 + 1 + 1 + 1 + 1 < b3 := by rw [← hb3]; exact x3.2.2.2.lt
  have x6 : ExB (w5.setCell ⟨s2 + 1 + 1 + 1, 0, none⟩ (.slice (some ⟨b4, 0, none⟩) 2 2)) s2 b4 2 [80, 80] := x5.set kq5 (by omega)
  have kp6 := kp5.far (p := ⟨s2 + 1 + 1 + 1, 0, none⟩) (show b3 ≠ s2 + 1 + 1 + 1 by omega) (.slice (some ⟨b4, 0, none⟩) 2 2)
  have f6 : Below s2 w2 (w5.setCell ⟨s2 + 1 + 1 + 1, 0, none⟩ (.slice (some ⟨b4, 0, none⟩) 2 2)) := ((f3.trans (f4.mono (by have := f3.size; omega))).trans (f5.mono (by have := f3.size; have := f4.size; omega))).setCell (by simp only; omega) _
  have a0 := kp4.cell 4
  have a1 := x4.2.2.2.cell 1
  have c0 := x5.2.2.1.cell 0
  have z0 := x5.2.2.1.frozen 0
  have hidx : (0 : Int) < 1 := by omega
  clear x3 x4 kp4 kq5 x5 kp5 f3 f4 f5
  go_upto_region 4 with fail
  clear a0 a1 c0 z0 hw4 hw5
  refine abs (fun u => ExB u s2 b4 2 [80, 80] ∧ Blk u b3 38 [.int .u64 3, .string ⟨#[]⟩, .int .u64 0, .int .i64 1, .slice (some ⟨s2 + 1 + 1 + 1 + 1, 0, none⟩) 1 1] ∧ Below s2 w2 u) ⟨x6, kp6, f6⟩ ?_
  clear x6 kp6 f6 hb3 hb4 hlt3 hlt4
  rintro w6 ⟨x6, kp6, f6⟩
  have hstr := run_str T23 (rb.below f6) c 9 Tryz.underlying9
  rw [exStr] at hstr
  have hM := may12_any (exPo [80, 80]) _ w6 (x6.po rfl (by omega)) (exPo_ok _ ints2)
  rw [exNot] at hM
  have p0 := kp6.cell 0
  have p1 := kp6.cell 1
  have p2 := kp6.cell 2
  have p3 := kp6.cell 3
  have p4 := kp6.cell 4
  have F6 := gw.trans (f6.mono (by rw [← hs2]; exact gw.size))
  clear rb x6 kp6 f6 gw f1 f2
  go_wp2_with fail
  refine hM.mono ?_
  rintro e w7 ⟨rfl, f7⟩
  have F7 := F6.trans (f7.mono F6.size)
  clear hM p0 p1 p2 p3 p4 hstr
  go_wp2_with fail
  refine (example_any w7).mono ?_
  rintro e w8 ⟨rfl, x8, f8⟩
  have F8 := F7.trans (f8.mono F7.size)
  have q0 := x8.2.2.2.cell 0
  have q1 := x8.2.2.2.cell 1
  have q2 := x8.2.2.2.cell 2
  have hfd : ∀ (u : World) (v : Value), (Instr.field 38 (.agg #[.int .u64 3, .string ⟨#[]⟩, .int .u64 0, .int .i64 1, v]) 4).run Tryz.prog u = .ok v u := fun _ _ => by kernel_rfl
  have hS := seventh_any (exRu [80]) _ w8 (x8.ru rfl (by omega)) (exRu_ok _ ints1)
  rw [exSev] at hS
  clear x8
  go_wp2_with fail
  refine hS.mono ?_
  rintro e w9 ⟨rfl, f9⟩
  have F9 := F8.trans (f9.mono F8.size)
  clear hS q0 q1 q2
  go_wp2_with fail
  have k1 : Blk ((w9.alloc (.cells #[.int .i64 80] 3)).alloc (.cells #[.slice (some ⟨w9.heap.size, 0, none⟩) 1 1, .slice none 0 0, .slice none 0 0, .slice none 0 0] 33)) w9.heap.size 3 [.int .i64 80] := (Blk.newAt rfl _ #[.int .i64 80]).alloc _
  have k2 : Blk ((w9.alloc (.cells #[.int .i64 80] 3)).alloc (.cells #[.slice (some ⟨w9.heap.size, 0, none⟩) 1 1, .slice none 0 0, .slice none 0 0, .slice none 0 0] 33)) (w9.heap.size + 1) 33 [.slice (some ⟨w9.heap.size, 0, none⟩) 1 1, .slice none 0 0, .slice none 0 0, .slice none 0 0] := Blk.newAt (by simp) _ #[.slice (some ⟨w9.heap.size, 0, none⟩) 1 1, .slice none 0 0, .slice none 0 0, .slice none 0 0]
  have FA : Below w.heap.size w ((w9.alloc (.cells #[.int .i64 80] 3)).alloc (.cells #[.slice (some ⟨w9.heap.size, 0, none⟩) 1 1, .slice none 0 0, .slice none 0 0, .slice none 0 0] 33)) := (F9.alloc F9.size _).alloc (by have := F9.size; simp; omega) _
  have hS2 := seventh_any exRu2 _ _ (ru2P _ _ _ k1 k2) ru2ok
  rw [exSev2] at hS2
  refine hS2.mono ?_
  rintro e w10 ⟨rfl, f10⟩
  go_wp2_with fail
  go_ret
  exact ⟨rfl, FA.trans (f10.mono FA.size)⟩
end Go.Proofs.YtdbjihpdfiipcaaGreat
