/- gatepostref06.Read: what it answers. Condition: 2^40 bytes at most. -/
import Derived.Test.YtgefbgjgcjiceaaReadStep
import Derived.Test.YtgefbgjgcjiceaaRefTokNum
import Derived.Test.YtgefbgjgcjiceaaFacts
import Derived.Test.YtgefbgjgcjiceaaOrder
namespace Go.Proofs.Ytgefbgjgcjiceaa
open Go.RowKit
set_option linter.unusedVariables false
set_option linter.unusedSimpArgs false
structure Rq (w0 w : World) (t : Tk) (us : List Value) : Prop where
  kz : Blk w w0.heap.size 31 tkZero.cells
  kt : Blk w (w0.heap.size + 1) 31 t.cells
  ka : Blk w (w0.heap.size + 2) 81 us
  f : Below w0.heap.size w0 w
theorem Rq.set {w0 w : World} {t t' : Tk} {us : List Value} (h : Rq w0 w t us) (i : Nat) (v : Value) (e : t.cells.set i v = t'.cells) : Rq w0 (w.setCell ⟨w0.heap.size + 1, i, none⟩ v) t' us :=
  ⟨h.kz.far (p := ⟨w0.heap.size + 1, i, none⟩) (by simp) v, e ▸ h.kt.set i v, h.ka.far (p := ⟨w0.heap.size + 1, i, none⟩) (by simp) v, h.f.setCell (p := ⟨w0.heap.size + 1, i, none⟩) (by simp) v⟩
theorem Rq.arr {w0 w : World} {t : Tk} {us us' : List Value} (h : Rq w0 w t us) (i : Nat) (v : Value) (e : us.set i v = us') : Rq w0 (w.setCell ⟨w0.heap.size + 2, i, none⟩ v) t us' :=
  ⟨h.kz.far (p := ⟨w0.heap.size + 2, i, none⟩) (by simp) v, h.kt.far (p := ⟨w0.heap.size + 2, i, none⟩) (by simp) v, e ▸ h.ka.set i v, h.f.setCell (p := ⟨w0.heap.size + 2, i, none⟩) (by simp) v⟩
theorem slice_l {P : Program} {t e : TypeId} {ops : Array Oper} {rest : List Oper} {o : Oper} {a : Act} {Q : Exit → Act → World → Prop} {w w0 : World} {B : Nat} {A : Option Addr} {n c : Nat} {l : List UInt8} (T : ByteTy P t e) (hgd : o.guard = none) {x z : Operand} (ho : o.op = .slice t x (some z) none none) (hx : a.eval x = .slice A n c) {i : Nat} (hz : a.eval z = .int .i64 (i : Int)) (hr : RdB w0 B A n l) (hi : i ≤ n) (hc : n ≤ c)
    (h : ∀ A', RdB w0 B A' (n - i) (l.drop i) → wpList P ops Q rest (a.put o.dst (.slice A' (n - i) (c - i))) w) : wpList P ops Q (o :: rest) a w :=
  wpList_plain hgd fun _ hK => wp_slice_l T ho hx hz hr hi hc fun A' h1 => hK _ _ (h A' h1)
theorem slice_lh {P : Program} {t e : TypeId} {ops : Array Oper} {rest : List Oper} {o : Oper} {a : Act} {Q : Exit → Act → World → Prop} {w w0 : World} {B : Nat} {A : Option Addr} {n c : Nat} {l : List UInt8} (T : ByteTy P t e) (hgd : o.guard = none) {x y z : Operand} (ho : o.op = .slice t x (some z) (some y) none) (hx : a.eval x = .slice A n c) {i k : Nat} (hy : a.eval y = .int .i64 (k : Int)) (hz : a.eval z = .int .i64 (i : Int)) (hr : RdB w0 B A n l) (hi : i ≤ k) (hk : k ≤ n) (hc : n ≤ c)
    (h : ∀ A', RdB w0 B A' (k - i) ((l.take k).drop i) → wpList P ops Q rest (a.put o.dst (.slice A' (k - i) (c - i))) w) : wpList P ops Q (o :: rest) a w :=
  wpList_plain hgd fun _ hK => wp_slice_lh T ho hx hy hz hr hi hk hc fun A' h1 => hK _ _ (h A' h1)
theorem u32_wrap_nat (x : Nat) (h : x < 4294967296) : IntKind.u32.wrap (x : Int) = (x : Int) := by rw [IntKind.wrap_u32']; omega
theorem or_up (x C k : Nat) (hx : x < 2 ^ k) : x ||| C * 2 ^ k = x + C * 2 ^ k := by
  rw [Nat.or_comm, Nat.mul_comm C, Nat.add_comm x]
  exact (Nat.two_pow_add_eq_or_of_lt hx _).symm
theorem four_or (C0 C1 C2 C3 : Nat) (h0 : C0 < 256) (h1 : C1 < 256) (h2 : C2 < 256) (h3 : C3 < 256) :
    bits BinOp.or IntKind.u32 (bits BinOp.or IntKind.u32 (bits BinOp.or IntKind.u32 (IntKind.u32.wrap (C0 : Int)) (IntKind.u32.wrap (IntKind.u32.wrap (C1 : Int) * 256))) (IntKind.u32.wrap (IntKind.u32.wrap (C2 : Int) * 65536))) (IntKind.u32.wrap (IntKind.u32.wrap (C3 : Int) * 16777216)) = ((C0 + C1 * 256 + C2 * 65536 + C3 * 16777216 : Nat) : Int) := by
  rw [u32_wrap_nat C0 (by omega), u32_wrap_nat C1 (by omega), u32_wrap_nat C2 (by omega), u32_wrap_nat C3 (by omega)]
  rw [show (C1 : Int) * 256 = ((C1 * 256 : Nat) : Int) from by omega, show (C2 : Int) * 65536 = ((C2 * 65536 : Nat) : Int) from by omega, show (C3 : Int) * 16777216 = ((C3 * 16777216 : Nat) : Int) from by omega]
  rw [u32_wrap_nat _ (by omega), u32_wrap_nat _ (by omega), u32_wrap_nat _ (by omega)]
  rw [u32_or_nat _ _ (by omega) (by omega), or_up C0 C1 8 (by omega), u32_or_nat _ _ (by omega) (by omega), or_up _ C2 16 (by omega), u32_or_nat _ _ (by omega) (by omega), or_up _ C3 24 (by omega)]
theorem Rq.drew {w0 w : World} {t : Tk} {us : List Value} (h : Rq w0 w t us) : Rq w0 w.drew t us := ⟨h.kz, h.kt, h.ka, h.f.drew⟩
theorem RdB.cells {w : World} {B : Nat} {A : Option Addr} {n : Nat} {l : List UInt8} (h : RdB w B A n l) (hn : 0 < n) : ∃ b off, A = some ⟨b, off, none⟩ ∧ b < B ∧ ∀ j, j < n → w.cell? ⟨b, off + j, none⟩ = some (.int .u8 ((at8 l j).toNat : Int)) := by
  obtain ⟨b, off, e, hb, hc⟩ := h.2 hn
  refine ⟨b, off, e, hb, fun j hj => ?_⟩
  have hl := h.1
  rw [hc j (by omega)]
  simp [bv, at8, List.getD, show j < l.length by omega]
theorem slice_ly {P : Program} {t e : TypeId} {ops : Array Oper} {rest : List Oper} {o : Oper} {a : Act} {Q : Exit → Act → World → Prop} {w w0 : World} {B : Nat} {A : Option Addr} {n c : Nat} {l : List UInt8} (T : ByteTy P t e) (hgd : o.guard = none) {x y z : Operand} (ho : o.op = .slice t x (some z) (some y) none) (hx : a.eval x = .slice A n c) {i m : Nat} (hy : a.eval y = .int .i64 ((i + m : Nat) : Int)) (hz : a.eval z = .int .i64 (i : Int)) (hr : RdB w0 B A n l) (hk : i + m ≤ n) (hc : n ≤ c)
    (h : ∀ A', RdB w0 B A' m ((l.drop i).take m) → wpList P ops Q rest (a.put o.dst (.slice A' m (c - i))) w) : wpList P ops Q (o :: rest) a w :=
  slice_lh T hgd ho hx hy hz hr (Nat.le_add_right i m) hk hc fun A' h1 => by
    rw [Nat.add_sub_cancel_left] at h1 ⊢
    have e2 : (l.take (i + m)).drop i = (l.drop i).take m := by rw [List.drop_take, Nat.add_sub_cancel_left]
    rw [e2] at h1
    exact h A' h1
theorem mac_step {m : List UInt8} {j : Nat} (hj : j < 32) (hm : m.length = 32) : (m.take j ++ List.replicate (32 - j) 0).set j (at8 m j) = m.take (j + 1) ++ List.replicate (32 - (j + 1)) 0 := by
  rw [List.set_append_right _ _ (by rw [List.length_take]; omega), List.length_take, Nat.min_eq_left (by omega), Nat.sub_self, show 32 - j = (32 - (j + 1)) + 1 from by omega, List.replicate_succ, List.set_cons_zero, List.take_succ_eq_append_getElem (by omega), List.append_assoc]
  simp [at8, List.getD, show j < m.length by omega]
def t8 (l m : List UInt8) (j : Nat) : Tk := ⟨(rA1 l).1, (rA2 l).1, (rA3 l).1, ((rA4 l).1 : Int), (rA5 l).1, (rA6 l).1, (rA7 l).1, (rA8 l).1, m.take j ++ List.replicate (32 - j) 0⟩
theorem t8_set (l m : List UInt8) {j : Nat} (hj : j < 32) (hm : m.length = 32) : (t8 l m j).cells.set (8 + j) (.int .u8 ((at8 m j).toNat : Int)) = (t8 l m (j + 1)).cells := by
  show (_ ++ bvs (m.take j ++ List.replicate (32 - j) 0)).set (8 + j) (bv (at8 m j)) = _ ++ bvs (m.take (j + 1) ++ List.replicate (32 - (j + 1)) 0)
  rw [List.set_append_right _ _ (by simp), show 8 + j - _ = j from by simp, ← mac_step hj hm]
  congr 1
  unfold bvs
  rw [List.map_set]
theorem t8_cell (l m : List UInt8) {j : Nat} (hj : j < 32) (hm : m.length = 32) : ∃ v, (t8 l m j).cells[8 + j]? = some v := by
  have : (t8 l m j).cells.length = 40 := Tk.len _ (by show (m.take j ++ List.replicate (32 - j) 0).length = 32; rw [List.length_append, List.length_take, List.length_replicate]; omega)
  exact ⟨_, List.getElem?_eq_getElem (by omega)⟩
theorem t8_end (l m : List UInt8) (hm : m.length = 32) (h : (rA9 l).1 = m) : t8 l m 32 = readT l := by
  unfold t8 readT
  rw [h, if_neg (fun e => by rw [e] at hm; simp at hm), List.take_of_length_le (by omega)]
  simp
theorem rA0_nil {l : List UInt8} (h : l.length = 0) : (rA0 l).1 ≠ 1 := by
  rw [List.eq_nil_of_length_eq_zero h]
  show (0 : Nat) ≠ 1
  omega
theorem rA0_cons {l : List UInt8} (h : 0 < l.length) : rA0 l = ((at8 l 0).toNat, ⟨l.drop 1, false⟩) := by
  have e : findU8 l = some ((at8 l 0).toNat, 1) := by
    match l, h with
    | _ :: _, _ => rfl
  exact takeS_sm e
theorem readE_of {l : List UInt8} {x : List UInt8} {y : List UInt8} (h : rA9 l = (x, ⟨y, false⟩)) : readE l = !y.isEmpty := by
  unfold readE
  rw [h]
  rfl
attribute [local irreducible] tkOk rA0 rA1 rA2 rA3 rA4 rA5 rA6 rA7 rA8 rA9 readV readE
def RqAt (l : List UInt8) (w : World) (pos : Nat) (v7 : Value) (wr : World) : Prop :=
  (v7 = .int .i64 0 ∧ (rA0 l).2 = ⟨l.drop pos, false⟩ ∧ Rq w wr ⟨[], [], 0, 0, 0, 0, 0, 0, List.replicate 32 0⟩ [.int .u64 ((0 : Nat) : Int), .int .u64 ((0 : Nat) : Int), .int .u64 ((0 : Nat) : Int), .int .u64 ((0 : Nat) : Int), .int .u64 ((0 : Nat) : Int), .int .u64 ((0 : Nat) : Int), .int .u64 ((0 : Nat) : Int)]) ∨
  (v7 = .int .i64 1 ∧ (rA1 l).2 = ⟨l.drop pos, false⟩ ∧ ∃ a0 a1 : Nat, Rq w wr ⟨(rA1 l).1, [], 0, 0, 0, 0, 0, 0, List.replicate 32 0⟩ [.int .u64 (a0 : Int), .int .u64 ((0 : Nat) : Int), .int .u64 ((0 : Nat) : Int), .int .u64 ((0 : Nat) : Int), .int .u64 ((0 : Nat) : Int), .int .u64 ((0 : Nat) : Int), .int .u64 ((0 : Nat) : Int)]) ∨
  (v7 = .int .i64 2 ∧ (rA2 l).2 = ⟨l.drop pos, false⟩ ∧ ∃ a0 a1 : Nat, Rq w wr ⟨(rA1 l).1, (rA2 l).1, 0, 0, 0, 0, 0, 0, List.replicate 32 0⟩ [.int .u64 (a0 : Int), .int .u64 (a1 : Int), .int .u64 ((0 : Nat) : Int), .int .u64 ((0 : Nat) : Int), .int .u64 ((0 : Nat) : Int), .int .u64 ((0 : Nat) : Int), .int .u64 ((0 : Nat) : Int)]) ∨
  (v7 = .int .i64 3 ∧ (rA3 l).2 = ⟨l.drop pos, false⟩ ∧ ∃ a0 a1 : Nat, Rq w wr ⟨(rA1 l).1, (rA2 l).1, 0, 0, 0, 0, 0, 0, List.replicate 32 0⟩ [.int .u64 (a0 : Int), .int .u64 (a1 : Int), .int .u64 ((rA3 l).1 : Int), .int .u64 ((0 : Nat) : Int), .int .u64 ((0 : Nat) : Int), .int .u64 ((0 : Nat) : Int), .int .u64 ((0 : Nat) : Int)]) ∨
  (v7 = .int .i64 4 ∧ (rA5 l).2 = ⟨l.drop pos, false⟩ ∧ ∃ a0 a1 : Nat, Rq w wr ⟨(rA1 l).1, (rA2 l).1, 0, 0, (rA5 l).1, 0, 0, 0, List.replicate 32 0⟩ [.int .u64 (a0 : Int), .int .u64 (a1 : Int), .int .u64 ((rA3 l).1 : Int), .int .u64 ((rA4 l).1 : Int), .int .u64 ((0 : Nat) : Int), .int .u64 ((0 : Nat) : Int), .int .u64 ((0 : Nat) : Int)]) ∨
  (v7 = .int .i64 5 ∧ (rA6 l).2 = ⟨l.drop pos, false⟩ ∧ ∃ a0 a1 : Nat, Rq w wr ⟨(rA1 l).1, (rA2 l).1, 0, 0, (rA5 l).1, 0, 0, 0, List.replicate 32 0⟩ [.int .u64 (a0 : Int), .int .u64 (a1 : Int), .int .u64 ((rA3 l).1 : Int), .int .u64 ((rA4 l).1 : Int), .int .u64 ((rA6 l).1 : Int), .int .u64 ((0 : Nat) : Int), .int .u64 ((0 : Nat) : Int)]) ∨
  (v7 = .int .i64 6 ∧ (rA7 l).2 = ⟨l.drop pos, false⟩ ∧ ∃ a0 a1 : Nat, Rq w wr ⟨(rA1 l).1, (rA2 l).1, 0, 0, (rA5 l).1, 0, 0, 0, List.replicate 32 0⟩ [.int .u64 (a0 : Int), .int .u64 (a1 : Int), .int .u64 ((rA3 l).1 : Int), .int .u64 ((rA4 l).1 : Int), .int .u64 ((rA6 l).1 : Int), .int .u64 ((rA7 l).1 : Int), .int .u64 ((0 : Nat) : Int)]) ∨
  (v7 = .int .i64 7 ∧ (rA8 l).2 = ⟨l.drop pos, false⟩ ∧ ∃ a0 a1 : Nat, Rq w wr ⟨(rA1 l).1, (rA2 l).1, 0, 0, (rA5 l).1, 0, 0, 0, List.replicate 32 0⟩ [.int .u64 (a0 : Int), .int .u64 (a1 : Int), .int .u64 ((rA3 l).1 : Int), .int .u64 ((rA4 l).1 : Int), .int .u64 ((rA6 l).1 : Int), .int .u64 ((rA7 l).1 : Int), .int .u64 ((rA8 l).1 : Int)])
set_option maxRecDepth 100000 in
set_option maxHeartbeats 8000000 in
theorem refRead6_any (A : Option Addr) (n c : Nat) (l : List UInt8) (w : World) (r : RdB w w.heap.size A n l) (hn : n ≤ 1099511627776) (hnc : n ≤ c) :
    Calls Try.prog 27 #[.slice A n c] w fun e w' => e = .returned (.tuple #[(readV l).1.v, .bool (decide ((readV l).2 = 0))]) ∧ Below w.heap.size w w' := by
  have hll := r.1
  have hzi : (Try.prog.info? 31).map (·.size) = some tkZero.cells.length := by kernel_rfl
  have Hzi := Lib.hid hzi; clear hzi
  have hno : ∀ w' : World, readV l = (tkZero, 2) → Blk w' w.heap.size 31 tkZero.cells → True := fun _ _ _ => trivial
  clear hno
  have hzv : tkZero.v = .agg tkZero.cells.toArray := rfl
  go_enter Try.func27, Try.ntmps27
  go_upto_region 2 with fail
  refine abs (fun w1 => Blk w1 w.heap.size 31 tkZero.cells ∧ Blk w1 (w.heap.size + 1) 31 tkZero.cells ∧ w1.heap.size = w.heap.size + 2 ∧ Below w.heap.size w w1) ⟨(Blk.of_new w _ _).alloc _, Blk.newAt (by simp) _ _, by simp, ((Below.refl _ w).alloc (Nat.le_refl _) _).alloc (by simp) _⟩ ?_
  rintro w1 ⟨kz, kt, hz1, f1⟩
  have hnof : ∀ hv : readV l = (tkZero, 2), (Ending.returned (.tuple #[.agg tkZero.cells.toArray, .bool false]) : Ending) = .returned (.tuple #[(readV l).1.v, .bool (decide ((readV l).2 = 0))]) := fun hv => by rw [hv]; rfl
  have HNO := Lib.hid hnof; clear hnof
  by_cases hn0 : n = 0
  · have d0 : decide ((n : Int) < 1) = true := by simp; omega
    have hv := Lib.hid (readV_no0 (rA0_nil (l := l) (by omega)))
    go_wp2_with (first | (refine load_blk kt rfl 31 (.tmp 4) rfl rfl Try.underlying31 Hzi.out ?_) | (refine store_blk kz rfl 31 (.tmp 2) (.tmp 21) rfl rfl (us := tkZero.cells) rfl Hzi.out rfl tkZero.all ?_; intro w9 k9 hg9))
    exact bodyPost_ret (k9.sized2 rfl _ rfl Try.underlying31 Hzi.out) rfl ⟨by exact HNO.out hv.out, f1.grown hg9 f1.size (by simp)⟩
  have d0 : decide ((n : Int) < 1) = false := by simp; omega
  have h0 := rA0_cons (l := l) (by omega)
  have hin0 : (0 : Int) < (n : Int) := by omega
  obtain ⟨b, off, hA, hb, q0⟩ := (r.below f1).cellAt (j := 0) (by omega)
  rw [Nat.add_zero] at q0
  have H0 := Lib.hid h0; clear h0
  have hc8 := (at8 l 0).toNat_lt
  generalize (at8 l 0).toNat = C at *
  by_cases hC : C = 1
  case neg =>
    have d1 : ((C : Int) != 1) = true := by simp; omega
    have hv := Lib.hid (readV_no0 (l := l) (by rw [H0.out]; exact hC))
    subst hA
    go_wp2_with (first | (refine load_blk kt rfl 31 (.tmp 4) rfl rfl Try.underlying31 Hzi.out ?_) | (refine store_blk kz rfl 31 (.tmp 2) (.tmp 21) rfl rfl (us := tkZero.cells) rfl Hzi.out rfl tkZero.all ?_; intro w9 k9 hg9))
    exact bodyPost_ret (k9.sized2 rfl _ rfl Try.underlying31 Hzi.out) rfl ⟨by exact HNO.out hv.out, f1.grown hg9 f1.size (by simp)⟩
  have d1 : ((C : Int) != 1) = false := by simp; omega
  have h1 : (rA0 l).1 = 1 := by rw [H0.out]; exact hC
  have hs0 : (rA0 l).2 = ⟨l.drop 1, false⟩ := by rw [H0.out]
  have H1 := Lib.hid h1; clear h1
  clear hC
  subst hA
  go_upto_region 6 with fail
  refine abs (fun w2 => Rq w w2 tkZero [.int .u64 ((0 : Nat) : Int), .int .u64 ((0 : Nat) : Int), .int .u64 ((0 : Nat) : Int), .int .u64 ((0 : Nat) : Int), .int .u64 ((0 : Nat) : Int), .int .u64 ((0 : Nat) : Int), .int .u64 ((0 : Nat) : Int)]) ⟨kz.alloc _, kt.alloc _, Blk.newAt hz1 _ _, f1.alloc f1.size _⟩ ?_
  clear kz kt q0 f1 d0 d1 hz1
  rintro w2 h
  obtain ⟨A, hAe⟩ : ∃ A, A = some (⟨b, off, none⟩ : Addr) := ⟨_, rfl⟩
  rw [← hAe] at r ⊢
  clear hAe
  go_wp2_with fail
  go_loopw [5, 7] (fun v5 v7 wr => ∃ pos : Nat, v5 = .int .i64 pos ∧ pos ≤ n ∧ RqAt l w pos v7 wr) (fun _ v7 _ => 7 - (intOf v7).toNat)
  case atStart => exact ⟨1, rfl, by omega, .inl ⟨rfl, hs0, h⟩⟩
  case round =>
    clear h hs0
    obtain ⟨pos, rfl, hp, hat⟩ := hrel
    rcases hat with ⟨rfl, hs, h⟩ | ⟨rfl, hs, a0, a1, h⟩ | ⟨rfl, hs, a0, a1, h⟩ | ⟨rfl, hs, a0, a1, h⟩ | ⟨rfl, hs, a0, a1, h⟩ | ⟨rfl, hs, a0, a1, h⟩ | ⟨rfl, hs, a0, a1, h⟩ | ⟨rfl, hs, a0, a1, h⟩
    · have hfr := h.ka.frozen 0
      have hqa : wr.cell? ⟨w.heap.size + 2, 0, none⟩ = some (.int .u64 ((0 : Nat) : Int)) := h.ka.cell 0
      have rr := r.below h.f
      have b1 : (0 : Int) ≤ (pos : Int) := by omega
      have b2 : (pos : Int) ≤ (n : Int) := by omega
      have hnx : (rA1 l) = takeS (findText 20) [] (rA0 l).2 := by with_unfolding_all rfl
      rw [hs] at hnx
      have HS := Lib.hid hs; clear hs
      go_wp2_with (first | (refine slice_l T23 rfl rfl rfl rfl rr hp hnc ?_; intro A' r'))
      refine (number6_any A' (n - pos) (c - pos) (l.drop pos) _ wr r').mono ?_
      rintro e w' ⟨rfl, rfl⟩
      cases hf : findShort (l.drop pos) with
      | none =>
        have HE := Lib.hid (stuck1 (l := l) (by rw [hnx]; exact at_text_none hf))
        clear hnx hf
        unfold numV
        go_wp2_with (first | (refine store_blk h.kz rfl 31 (.tmp 2) (.tmp 35) rfl rfl (us := tkZero.cells) rfl Hzi.out rfl tkZero.all ?_; intro w9 k9 hg9))
        exact bodyPost_ret (k9.sized2 rfl _ rfl Try.underlying31 Hzi.out) rfl ⟨by exact HNO.out (readV_no HE.out), h.f.grown hg9 h.f.size (by simp)⟩
      | some xk =>
        obtain ⟨x, k⟩ := xk
        obtain ⟨hk0, hk1, hx64⟩ := findShort_le hf
        rw [List.length_drop, hll] at hk1
        have d1 : ((k : Int) == 0) = false := by simp; omega
        have HF := Lib.hid hf; clear hf
        unfold numV
        by_cases hx20 : 20 < x
        · have d2 : decide ((20 : Int) < (x : Int)) = true := by simp; omega
          have HE := Lib.hid (stuck1 (l := l) (by rw [hnx]; exact at_text_no HF.out (.inl hx20)))
          clear hnx
          have hA := h.arr 0 (.int .u64 (x : Int)) rfl
          replace h := hA; clear hA
          go_wp2_with (first | (refine store_blk h.kz rfl 31 (.tmp 2) (.tmp 55) rfl rfl (us := tkZero.cells) rfl Hzi.out rfl tkZero.all ?_; intro w9 k9 hg9))
          exact bodyPost_ret (k9.sized2 rfl _ rfl Try.underlying31 Hzi.out) rfl ⟨by exact HNO.out (readV_no HE.out), h.f.grown hg9 h.f.size (by simp)⟩
        have d2 : decide ((20 : Int) < (x : Int)) = false := by simp; omega
        by_cases hlong : n < pos + k + x
        · have d3 : decide ((n : Int) < (pos : Int) + (k : Int) + (x : Int)) = true := by simp; omega
          have HE := Lib.hid (stuck1 (l := l) (by rw [hnx]; exact at_text_no HF.out (.inr (by omega))))
          clear hnx
          have hA := h.arr 0 (.int .u64 (x : Int)) rfl
          replace h := hA; clear hA
          go_wp2_with (first | (refine store_blk h.kz rfl 31 (.tmp 2) (.tmp 55) rfl rfl (us := tkZero.cells) rfl Hzi.out rfl tkZero.all ?_; intro w9 k9 hg9))
          exact bodyPost_ret (k9.sized2 rfl _ rfl Try.underlying31 Hzi.out) rfl ⟨by exact HNO.out (readV_no HE.out), h.f.grown hg9 h.f.size (by simp)⟩
        have d3 : decide ((n : Int) < (pos : Int) + (k : Int) + (x : Int)) = false := by simp; omega
        have hst := at_text HF.out (by omega) (by omega)
        rw [← hnx] at hst
        clear hnx
        have hA := h.arr 0 (.int .u64 (x : Int)) rfl
        clear h
        have hs1 : (l.drop (pos + k)).take x = (rA1 l).1 := by rw [hst]
        have hs2 : (rA1 l).2 = ⟨l.drop (pos + k + x), false⟩ := by rw [hst]
        have HS2 := Lib.hid hs2; clear hs2
        have zf := hA.kt.frozen 0
        have qf : _ = some (Value.string (strB [])) := hA.kt.cell 0
        have rr2 := r.below hA.f
        have b3 : (0 : Int) ≤ (pos : Int) + (k : Int) := by omega
        have hpk : pos + k + x ≤ n := by omega
        have hfin := hA.set (t' := ⟨(rA1 l).1, [], 0, 0, 0, 0, 0, 0, List.replicate 32 0⟩) 0 (.string (strB (rA1 l).1)) rfl
        clear rr r' hst HF hk1
        go_wp2_with (first | (refine slice_ly (i := pos + k) (m := x) T23 rfl rfl rfl rfl rfl rr2 hpk hnc ?_; intro A2 r2; rw [hs1] at r2; have kq := run_str T23 r2 (c - (pos + k)) 9 Try.underlying9))
        go_roundw
        case rel => exact ⟨pos + k + x, by go_num, hpk, (.inr (.inl ⟨rfl, HS2.out, x, 0, hfin⟩))⟩
        case measure => simp [intOf]
    · have hfr := h.ka.frozen 1
      have hqa : wr.cell? ⟨w.heap.size + 2, 1, none⟩ = some (.int .u64 ((0 : Nat) : Int)) := h.ka.cell 1
      have rr := r.below h.f
      have b1 : (0 : Int) ≤ (pos : Int) := by omega
      have b2 : (pos : Int) ≤ (n : Int) := by omega
      have hnx : (rA2 l) = takeS (findText 20) [] (rA1 l).2 := by with_unfolding_all rfl
      rw [hs] at hnx
      have HS := Lib.hid hs; clear hs
      go_wp2_with (first | (refine slice_l T23 rfl rfl rfl rfl rr hp hnc ?_; intro A' r'))
      refine (number6_any A' (n - pos) (c - pos) (l.drop pos) _ wr r').mono ?_
      rintro e w' ⟨rfl, rfl⟩
      cases hf : findShort (l.drop pos) with
      | none =>
        have HE := Lib.hid (stuck2 (l := l) (by rw [hnx]; exact at_text_none hf))
        clear hnx hf
        unfold numV
        go_wp2_with (first | (refine store_blk h.kz rfl 31 (.tmp 2) (.tmp 35) rfl rfl (us := tkZero.cells) rfl Hzi.out rfl tkZero.all ?_; intro w9 k9 hg9))
        exact bodyPost_ret (k9.sized2 rfl _ rfl Try.underlying31 Hzi.out) rfl ⟨by exact HNO.out (readV_no HE.out), h.f.grown hg9 h.f.size (by simp)⟩
      | some xk =>
        obtain ⟨x, k⟩ := xk
        obtain ⟨hk0, hk1, hx64⟩ := findShort_le hf
        rw [List.length_drop, hll] at hk1
        have d1 : ((k : Int) == 0) = false := by simp; omega
        have HF := Lib.hid hf; clear hf
        unfold numV
        by_cases hx20 : 20 < x
        · have d2 : decide ((20 : Int) < (x : Int)) = true := by simp; omega
          have HE := Lib.hid (stuck2 (l := l) (by rw [hnx]; exact at_text_no HF.out (.inl hx20)))
          clear hnx
          have hA := h.arr 1 (.int .u64 (x : Int)) rfl
          replace h := hA; clear hA
          go_wp2_with (first | (refine store_blk h.kz rfl 31 (.tmp 2) (.tmp 55) rfl rfl (us := tkZero.cells) rfl Hzi.out rfl tkZero.all ?_; intro w9 k9 hg9))
          exact bodyPost_ret (k9.sized2 rfl _ rfl Try.underlying31 Hzi.out) rfl ⟨by exact HNO.out (readV_no HE.out), h.f.grown hg9 h.f.size (by simp)⟩
        have d2 : decide ((20 : Int) < (x : Int)) = false := by simp; omega
        by_cases hlong : n < pos + k + x
        · have d3 : decide ((n : Int) < (pos : Int) + (k : Int) + (x : Int)) = true := by simp; omega
          have HE := Lib.hid (stuck2 (l := l) (by rw [hnx]; exact at_text_no HF.out (.inr (by omega))))
          clear hnx
          have hA := h.arr 1 (.int .u64 (x : Int)) rfl
          replace h := hA; clear hA
          go_wp2_with (first | (refine store_blk h.kz rfl 31 (.tmp 2) (.tmp 55) rfl rfl (us := tkZero.cells) rfl Hzi.out rfl tkZero.all ?_; intro w9 k9 hg9))
          exact bodyPost_ret (k9.sized2 rfl _ rfl Try.underlying31 Hzi.out) rfl ⟨by exact HNO.out (readV_no HE.out), h.f.grown hg9 h.f.size (by simp)⟩
        have d3 : decide ((n : Int) < (pos : Int) + (k : Int) + (x : Int)) = false := by simp; omega
        have hst := at_text HF.out (by omega) (by omega)
        rw [← hnx] at hst
        clear hnx
        have hA := h.arr 1 (.int .u64 (x : Int)) rfl
        clear h
        have hs1 : (l.drop (pos + k)).take x = (rA2 l).1 := by rw [hst]
        have hs2 : (rA2 l).2 = ⟨l.drop (pos + k + x), false⟩ := by rw [hst]
        have HS2 := Lib.hid hs2; clear hs2
        have zf := hA.kt.frozen 1
        have qf : _ = some (Value.string (strB [])) := hA.kt.cell 1
        have rr2 := r.below hA.f
        have b3 : (0 : Int) ≤ (pos : Int) + (k : Int) := by omega
        have hpk : pos + k + x ≤ n := by omega
        have hfin := hA.set (t' := ⟨(rA1 l).1, (rA2 l).1, 0, 0, 0, 0, 0, 0, List.replicate 32 0⟩) 1 (.string (strB (rA2 l).1)) rfl
        clear rr r' hst HF hk1
        go_wp2_with (first | (refine slice_ly (i := pos + k) (m := x) T23 rfl rfl rfl rfl rfl rr2 hpk hnc ?_; intro A2 r2; rw [hs1] at r2; have kq := run_str T23 r2 (c - (pos + k)) 9 Try.underlying9))
        go_roundw
        case rel => exact ⟨pos + k + x, by go_num, hpk, (.inr (.inr (.inl ⟨rfl, HS2.out, a0, x, hfin⟩)))⟩
        case measure => simp [intOf]
    · have hfr := h.ka.frozen 2
      have hqa : wr.cell? ⟨w.heap.size + 2, 2, none⟩ = some (.int .u64 ((0 : Nat) : Int)) := h.ka.cell 2
      have rr := r.below h.f
      have b1 : (0 : Int) ≤ (pos : Int) := by omega
      have b2 : (pos : Int) ≤ (n : Int) := by omega
      have hnx : (rA3 l) = takeS findShort 0 (rA2 l).2 := by with_unfolding_all rfl
      rw [hs] at hnx
      have HS := Lib.hid hs; clear hs
      go_wp2_with (first | (refine slice_l T23 rfl rfl rfl rfl rr hp hnc ?_; intro A' r'))
      refine (number6_any A' (n - pos) (c - pos) (l.drop pos) _ wr r').mono ?_
      rintro e w' ⟨rfl, rfl⟩
      cases hf : findShort (l.drop pos) with
      | none =>
        have HE := Lib.hid (stuck3 (l := l) (by rw [hnx]; exact at_short_none hf))
        clear hnx hf
        unfold numV
        go_wp2_with (first | (refine store_blk h.kz rfl 31 (.tmp 2) (.tmp 35) rfl rfl (us := tkZero.cells) rfl Hzi.out rfl tkZero.all ?_; intro w9 k9 hg9))
        exact bodyPost_ret (k9.sized2 rfl _ rfl Try.underlying31 Hzi.out) rfl ⟨by exact HNO.out (readV_no HE.out), h.f.grown hg9 h.f.size (by simp)⟩
      | some xk =>
        obtain ⟨x, k⟩ := xk
        obtain ⟨hk0, hk1, hx64⟩ := findShort_le hf
        rw [List.length_drop, hll] at hk1
        have d1 : ((k : Int) == 0) = false := by simp; omega
        have HF := Lib.hid hf; clear hf
        unfold numV
        have hst := at_short HF.out
        rw [← hnx] at hst
        clear hnx
        have hs1 : (rA3 l).1 = x := by rw [hst]
        have hs2 : (rA3 l).2 = ⟨l.drop (pos + k), false⟩ := by rw [hst]
        have HS2 := Lib.hid hs2; clear hs2
        have hpk : pos + k ≤ n := by omega
        have hfin := h.arr 2 (.int .u64 (x : Int)) rfl
        rw [← hs1] at hfin
        have HS1 := Lib.hid hs1; clear hs1
        clear hst HF hk1 rr r'
        go_wp2_with fail
        rw [← HS1.out]
        go_roundw
        case rel => exact ⟨pos + k, by go_num, hpk, (.inr (.inr (.inr (.inl ⟨rfl, HS2.out, a0, a1, hfin⟩))))⟩
        case measure => simp [intOf]
    · have hfr := h.ka.frozen 3
      have hqa : wr.cell? ⟨w.heap.size + 2, 3, none⟩ = some (.int .u64 ((0 : Nat) : Int)) := h.ka.cell 3
      have rr := r.below h.f
      have b1 : (0 : Int) ≤ (pos : Int) := by omega
      have b2 : (pos : Int) ≤ (n : Int) := by omega
      have hnx : (rA4 l) = smallS (rA3 l).2 := by with_unfolding_all rfl
      rw [hs] at hnx
      have HS := Lib.hid hs; clear hs
      go_wp2_with (first | (refine slice_l T23 rfl rfl rfl rfl rr hp hnc ?_; intro A' r'))
      refine (number6_any A' (n - pos) (c - pos) (l.drop pos) _ wr r').mono ?_
      rintro e w' ⟨rfl, rfl⟩
      cases hf : findShort (l.drop pos) with
      | none =>
        have HE := Lib.hid (stuck4 (l := l) (by rw [hnx]; exact at_small_none hf))
        clear hnx hf
        unfold numV
        go_wp2_with (first | (refine store_blk h.kz rfl 31 (.tmp 2) (.tmp 35) rfl rfl (us := tkZero.cells) rfl Hzi.out rfl tkZero.all ?_; intro w9 k9 hg9))
        exact bodyPost_ret (k9.sized2 rfl _ rfl Try.underlying31 Hzi.out) rfl ⟨by exact HNO.out (readV_no HE.out), h.f.grown hg9 h.f.size (by simp)⟩
      | some xk =>
        obtain ⟨x, k⟩ := xk
        obtain ⟨hk0, hk1, hx64⟩ := findShort_le hf
        rw [List.length_drop, hll] at hk1
        have d1 : ((k : Int) == 0) = false := by simp; omega
        have HF := Lib.hid hf; clear hf
        unfold numV
        have hpk : pos + k ≤ n := by omega
        have hw1 : IntKind.i64.wrap ((pos : Int) + (k : Int)) = (pos : Int) + (k : Int) := IntWalk.i64_in _ (by omega)
        have hA := h.arr 3 (.int .u64 (x : Int)) rfl
        have hn5 : (rA5 l) = takeS findU32 0 (rA4 l).2 := by with_unfolding_all rfl
        by_cases hl4 : n < pos + k + 4
        · have d2 : decide ((n : Int) < (pos : Int) + (k : Int) + 4) = true := by simp; omega
          have HE := Lib.hid (show readE l = true from by
            by_cases hx9 : 9 < x
            · exact stuck4 (by rw [hnx]; exact at_small_no HF.out hx9)
            · exact stuck5 (by rw [hn5, hnx, at_small HF.out (by omega)]; exact at_u32_no (by omega)))
          clear hnx hn5
          replace h := hA; clear hA
          go_wp2_with (first | (refine store_blk h.kz rfl 31 (.tmp 2) (.tmp 87) rfl rfl (us := tkZero.cells) rfl Hzi.out rfl tkZero.all ?_; intro w9 k9 hg9))
          exact bodyPost_ret (k9.sized2 rfl _ rfl Try.underlying31 Hzi.out) rfl ⟨by exact HNO.out (readV_no HE.out), h.f.grown hg9 h.f.size (by simp)⟩
        have d2 : decide ((n : Int) < (pos : Int) + (k : Int) + 4) = false := by simp; omega
        by_cases hx9 : 9 < x
        · have d3 : decide ((9 : Int) < (x : Int)) = true := by simp; omega
          have HE := Lib.hid (stuck4 (l := l) (by rw [hnx]; exact at_small_no HF.out hx9))
          clear hnx hn5
          replace h := hA; clear hA
          go_wp2_with (first | (refine store_blk h.kz rfl 31 (.tmp 2) (.tmp 87) rfl rfl (us := tkZero.cells) rfl Hzi.out rfl tkZero.all ?_; intro w9 k9 hg9))
          exact bodyPost_ret (k9.sized2 rfl _ rfl Try.underlying31 Hzi.out) rfl ⟨by exact HNO.out (readV_no HE.out), h.f.grown hg9 h.f.size (by simp)⟩
        have d3 : decide ((9 : Int) < (x : Int)) = false := by simp; omega
        have hst := at_small HF.out (by omega)
        rw [← hnx] at hst
        clear hnx
        rw [hst] at hn5
        have hs1 : (rA4 l).1 = x := by rw [hst]
        have h5 := at_u32 (l := l) (pos := pos + k) (by omega)
        rw [← hn5] at h5
        clear hn5 hst HF hk1 rr r'
        go_upto_region 25 with fail
        rw [show ((pos : Int) + (k : Int)) = ((pos + k : Nat) : Int) from by omega]
        rw [← hs1] at hA
        have HS1 := Lib.hid hs1
        refine abs (fun w5 => Rq w w5 ⟨(rA1 l).1, (rA2 l).1, 0, 0, 0, 0, 0, 0, List.replicate 32 0⟩ [.int .u64 (a0 : Int), .int .u64 (a1 : Int), .int .u64 ((rA3 l).1 : Int), .int .u64 ((rA4 l).1 : Int), .int .u64 ((0 : Nat) : Int), .int .u64 ((0 : Nat) : Int), .int .u64 ((0 : Nat) : Int)]) (by rw [hs1] at hA ⊢; exact hA) ?_
        have hl4' : pos + k + 4 ≤ n := by omega
        clear hA h hqa hfr hs1 hw1 d1 d2 d3 hl4 hpk hk0
        rintro w5 h
        generalize pos + k = P at *
        obtain ⟨b, off, rfl, hb, qq⟩ := (r.below h.f).cells (by omega)
        have q0 := qq P (by omega)
        have q1 := qq (P + 1) (by omega)
        have q2 := qq (P + 2) (by omega)
        have q3 := qq (P + 3) (by omega)
        have g0 := (at8 l P).toNat_lt
        have g1 := (at8 l (P + 1)).toNat_lt
        have g2 := (at8 l (P + 2)).toNat_lt
        have g3 := (at8 l (P + 3)).toNat_lt
        have H5 := Lib.hid h5; clear h5
        generalize (at8 l P).toNat = C0 at *
        generalize (at8 l (P + 1)).toNat = C1 at *
        generalize (at8 l (P + 2)).toNat = C2 at *
        generalize (at8 l (P + 3)).toNat = C3 at *
        clear qq
        refine wp_region_order (fun u => u.cell? ⟨b, off + P, none⟩ = some (.int .u8 (C0 : Int)) ∧ u.cell? ⟨b, off + (P + 1), none⟩ = some (.int .u8 (C1 : Int)) ∧ u.cell? ⟨b, off + (P + 2), none⟩ = some (.int .u8 (C2 : Int)) ∧ u.cell? ⟨b, off + (P + 3), none⟩ = some (.int .u8 (C3 : Int))) 30 [(0,0), (1,0), (2,0), (3,0), (4,0), (5,0), (6,0), (7,0), (8,0), (9,0), (10,0), (11,0), (12,0), (13,0), (14,0), (15,0), (16,0), (17,0), (18,0), (19,0), (20,0), (21,0), (22,0), (23,0), (24,0), (25,0), (26,0), (27,0), (28,0), (29,0), (30,2)] (by kernel_rfl) (by kernel_rfl) ?_
        simp only [pick, List.filterMap_cons, List.filterMap_nil, List.getElem?_cons_zero, List.getElem?_cons_succ, Option.map_some]
        have hS : w5.drew.cell? ⟨b, off + P, none⟩ = some (.int .u8 (C0 : Int)) ∧ w5.drew.cell? ⟨b, off + (P + 1), none⟩ = some (.int .u8 (C1 : Int)) ∧ w5.drew.cell? ⟨b, off + (P + 2), none⟩ = some (.int .u8 (C2 : Int)) ∧ w5.drew.cell? ⟨b, off + (P + 3), none⟩ = some (.int .u8 (C3 : Int)) := ⟨q0, q1, q2, q3⟩
        clear q0 q1 q2 q3
        have p0 : P < n := by omega
        have p1 : P + 1 < n := by omega
        have p2 : P + 2 < n := by omega
        have p3 : P + 3 < n := by omega
        have x2 : ((P : Int) + 2).toNat = P + 2 := by omega
        have x3 : ((P : Int) + 3).toNat = P + 3 := by omega
        have z1 : (0 : Int) ≤ (P : Int) + 1 := by omega
        have z2 : (0 : Int) ≤ (P : Int) + 2 := by omega
        have z3 : (0 : Int) ≤ (P : Int) + 3 := by omega
        have y1 : (P : Int) + 1 < (n : Int) := by omega
        have y2 : (P : Int) + 2 < (n : Int) := by omega
        have y3 : (P : Int) + 3 < (n : Int) := by omega
        have v1 : IntKind.i64.wrap ((P : Int) + 1) = ((P + 1 : Nat) : Int) := IntWalk.i64_in _ (by omega)
        have v2 : IntKind.i64.wrap ((P : Int) + 2) = ((P + 2 : Nat) : Int) := IntWalk.i64_in _ (by omega)
        have v3 : IntKind.i64.wrap ((P : Int) + 3) = ((P + 3 : Nat) : Int) := IntWalk.i64_in _ (by omega)
        refine wpF_take (v := ?_) hS rfl ?_ (fun _ _ _ h => h) ?_
        rotate_left
        · intro w' hS'
          obtain ⟨e0, e1, e2, e3⟩ := hS'
          go_simp <;> rfl
        go_simp
        refine wpF_take (v := ?_) hS rfl ?_ (fun _ _ _ h => h) ?_
        rotate_left
        · intro w' hS'
          obtain ⟨e0, e1, e2, e3⟩ := hS'
          go_simp <;> rfl
        go_simp
        refine wpF_take (v := ?_) hS rfl ?_ (fun _ _ _ h => h) ?_
        rotate_left
        · intro w' hS'
          obtain ⟨e0, e1, e2, e3⟩ := hS'
          go_simp <;> rfl
        go_simp
        refine wpF_take (v := ?_) hS rfl ?_ (fun _ _ _ h => h) ?_
        rotate_left
        · intro w' hS'
          obtain ⟨e0, e1, e2, e3⟩ := hS'
          go_simp <;> rfl
        go_simp
        refine wpF_take (v := ?_) hS rfl ?_ (fun _ _ _ h => h) ?_
        rotate_left
        · intro w' hS'
          obtain ⟨e0, e1, e2, e3⟩ := hS'
          go_simp <;> rfl
        go_simp
        refine wpF_take (v := ?_) hS rfl ?_ (fun _ _ _ h => h) ?_
        rotate_left
        · intro w' hS'
          obtain ⟨e0, e1, e2, e3⟩ := hS'
          go_simp <;> rfl
        go_simp
        refine wpF_take (v := ?_) hS rfl ?_ (fun _ _ _ h => h) ?_
        rotate_left
        · intro w' hS'
          obtain ⟨e0, e1, e2, e3⟩ := hS'
          go_simp <;> rfl
        go_simp
        refine wpF_take (v := ?_) hS rfl ?_ (fun _ _ _ h => h) ?_
        rotate_left
        · intro w' hS'
          obtain ⟨e0, e1, e2, e3⟩ := hS'
          go_simp <;> rfl
        go_simp
        refine wpF_take (v := ?_) hS rfl ?_ (fun _ _ _ h => h) ?_
        rotate_left
        · intro w' hS'
          obtain ⟨e0, e1, e2, e3⟩ := hS'
          go_simp <;> rfl
        go_simp
        refine wpF_take (v := ?_) hS rfl ?_ (fun _ _ _ h => h) ?_
        rotate_left
        · intro w' hS'
          obtain ⟨e0, e1, e2, e3⟩ := hS'
          go_simp <;> rfl
        go_simp
        refine wpF_take (v := ?_) hS rfl ?_ (fun _ _ _ h => h) ?_
        rotate_left
        · intro w' hS'
          obtain ⟨e0, e1, e2, e3⟩ := hS'
          go_simp <;> rfl
        go_simp
        refine wpF_take (v := ?_) hS rfl ?_ (fun _ _ _ h => h) ?_
        rotate_left
        · intro w' hS'
          obtain ⟨e0, e1, e2, e3⟩ := hS'
          go_simp <;> rfl
        go_simp
        refine wpF_take (v := ?_) hS rfl ?_ (fun _ _ _ h => h) ?_
        rotate_left
        · intro w' hS'
          obtain ⟨e0, e1, e2, e3⟩ := hS'
          go_simp <;> rfl
        go_simp
        refine wpF_take (v := ?_) hS rfl ?_ (fun _ _ _ h => h) ?_
        rotate_left
        · intro w' hS'
          obtain ⟨e0, e1, e2, e3⟩ := hS'
          go_simp <;> rfl
        go_simp
        refine wpF_take (v := ?_) hS rfl ?_ (fun _ _ _ h => h) ?_
        rotate_left
        · intro w' hS'
          obtain ⟨e0, e1, e2, e3⟩ := hS'
          go_simp <;> rfl
        go_simp
        refine wpF_take (v := ?_) hS rfl ?_ (fun _ _ _ h => h) ?_
        rotate_left
        · intro w' hS'
          obtain ⟨e0, e1, e2, e3⟩ := hS'
          go_simp <;> rfl
        go_simp
        refine wpF_take (v := ?_) hS rfl ?_ (fun _ _ _ h => h) ?_
        rotate_left
        · intro w' hS'
          obtain ⟨e0, e1, e2, e3⟩ := hS'
          go_simp <;> rfl
        go_simp
        refine wpF_take (v := ?_) hS rfl ?_ (fun _ _ _ h => h) ?_
        rotate_left
        · intro w' hS'
          obtain ⟨e0, e1, e2, e3⟩ := hS'
          go_simp <;> rfl
        go_simp
        refine wpF_take (v := ?_) hS rfl ?_ (fun _ _ _ h => h) ?_
        rotate_left
        · intro w' hS'
          obtain ⟨e0, e1, e2, e3⟩ := hS'
          go_simp <;> rfl
        go_simp
        refine wpF_take (v := ?_) hS rfl ?_ (fun _ _ _ h => h) ?_
        rotate_left
        · intro w' hS'
          obtain ⟨e0, e1, e2, e3⟩ := hS'
          go_simp <;> rfl
        go_simp
        refine wpF_take (v := ?_) hS rfl ?_ (fun _ _ _ h => h) ?_
        rotate_left
        · intro w' hS'
          obtain ⟨e0, e1, e2, e3⟩ := hS'
          go_simp <;> rfl
        go_simp
        refine wpF_take (v := ?_) hS rfl ?_ (fun _ _ _ h => h) ?_
        rotate_left
        · intro w' hS'
          obtain ⟨e0, e1, e2, e3⟩ := hS'
          go_simp <;> rfl
        go_simp
        refine wpF_take (v := ?_) hS rfl ?_ (fun _ _ _ h => h) ?_
        rotate_left
        · intro w' hS'
          obtain ⟨e0, e1, e2, e3⟩ := hS'
          go_simp <;> rfl
        go_simp
        refine wpF_take (v := ?_) hS rfl ?_ (fun _ _ _ h => h) ?_
        rotate_left
        · intro w' hS'
          obtain ⟨e0, e1, e2, e3⟩ := hS'
          go_simp <;> rfl
        go_simp
        refine wpF_take (v := ?_) hS rfl ?_ (fun _ _ _ h => h) ?_
        rotate_left
        · intro w' hS'
          obtain ⟨e0, e1, e2, e3⟩ := hS'
          go_simp <;> rfl
        go_simp
        refine wpF_take (v := ?_) hS rfl ?_ (fun _ _ _ h => h) ?_
        rotate_left
        · intro w' hS'
          obtain ⟨e0, e1, e2, e3⟩ := hS'
          go_simp <;> rfl
        go_simp
        refine wpF_take (v := ?_) hS rfl ?_ (fun _ _ _ h => h) ?_
        rotate_left
        · intro w' hS'
          obtain ⟨e0, e1, e2, e3⟩ := hS'
          go_simp <;> rfl
        go_simp
        refine wpF_take (v := ?_) hS rfl ?_ (fun _ _ _ h => h) ?_
        rotate_left
        · intro w' hS'
          obtain ⟨e0, e1, e2, e3⟩ := hS'
          go_simp <;> rfl
        go_simp
        refine wpF_take (v := ?_) hS rfl ?_ (fun _ _ _ h => h) ?_
        rotate_left
        · intro w' hS'
          obtain ⟨e0, e1, e2, e3⟩ := hS'
          go_simp <;> rfl
        go_simp
        refine wpF_take (v := ?_) hS rfl ?_ (fun _ _ _ h => h) ?_
        rotate_left
        · intro w' hS'
          obtain ⟨e0, e1, e2, e3⟩ := hS'
          go_simp <;> rfl
        go_simp
        have hfour := four_or C0 C1 C2 C3 (by omega) (by omega) (by omega) (by omega)
        have h5v : C0 + C1 * 256 + C2 * 65536 + C3 * 16777216 = (rA5 l).1 := by rw [H5.out]
        have h5s : (rA5 l).2 = ⟨l.drop (P + 4), false⟩ := by rw [H5.out]
        rw [h5v] at hfour
        rw [hfour]
        have H5S := Lib.hid h5s; clear h5s hfour h5v
        have hS2 : ∀ v, (w5.drew.setCell ⟨w.heap.size + 1, 4, none⟩ v).cell? ⟨b, off + P, none⟩ = some (.int .u8 (C0 : Int)) ∧ (w5.drew.setCell ⟨w.heap.size + 1, 4, none⟩ v).cell? ⟨b, off + (P + 1), none⟩ = some (.int .u8 (C1 : Int)) ∧ (w5.drew.setCell ⟨w.heap.size + 1, 4, none⟩ v).cell? ⟨b, off + (P + 2), none⟩ = some (.int .u8 (C2 : Int)) ∧ (w5.drew.setCell ⟨w.heap.size + 1, 4, none⟩ v).cell? ⟨b, off + (P + 3), none⟩ = some (.int .u8 (C3 : Int)) := by
          intro v
          obtain ⟨e0, e1, e2, e3⟩ := hS
          refine ⟨?_, ?_, ?_, ?_⟩
          · rw [World.cell?_setCell_other _ _ _ _ (by intro e; injection e; omega)]; exact e0
          · rw [World.cell?_setCell_other _ _ _ _ (by intro e; injection e; omega)]; exact e1
          · rw [World.cell?_setCell_other _ _ _ _ (by intro e; injection e; omega)]; exact e2
          · rw [World.cell?_setCell_other _ _ _ _ (by intro e; injection e; omega)]; exact e3
        have HS2 := Lib.hid hS2; clear hS2 hS
        replace h := h.drew
        generalize w5.drew = w6 at *
        have zf := h.kt.frozen 4
        have qf : _ = some (Value.int .u32 0) := h.kt.cell 4
        have hfin := h.set (t' := ⟨(rA1 l).1, (rA2 l).1, 0, 0, (rA5 l).1, 0, 0, 0, List.replicate 32 0⟩) 4 (.int .u32 ((rA5 l).1 : Int)) rfl
        have vp : IntKind.i64.wrap ((P : Int) + 4) = (P : Int) + 4 := IntWalk.i64_in _ (by omega)
        clear v1 v2 v3 x2 x3 z1 z2 z3 y1 y2 y3
        refine wpF_only rfl (fun K hK => ?_)
        go_wp2_with fail
        first | refine ⟨fun _ => HS2.out _, ?_⟩ | refine ⟨HS2.out _, ?_⟩ | skip
        go_simp
        refine wpF_nil ?_
        go_wp2_with fail
        go_roundw
        case rel => exact ⟨P + 4, by go_num, by omega, (.inr (.inr (.inr (.inr (.inl ⟨rfl, H5S.out, a0, a1, hfin⟩)))))⟩
        case measure => simp [intOf]
    · have hfr := h.ka.frozen 4
      have hqa : wr.cell? ⟨w.heap.size + 2, 4, none⟩ = some (.int .u64 ((0 : Nat) : Int)) := h.ka.cell 4
      have rr := r.below h.f
      have b1 : (0 : Int) ≤ (pos : Int) := by omega
      have b2 : (pos : Int) ≤ (n : Int) := by omega
      have hnx : (rA6 l) = takeS findShort 0 (rA5 l).2 := by with_unfolding_all rfl
      rw [hs] at hnx
      have HS := Lib.hid hs; clear hs
      go_wp2_with (first | (refine slice_l T23 rfl rfl rfl rfl rr hp hnc ?_; intro A' r'))
      refine (number6_any A' (n - pos) (c - pos) (l.drop pos) _ wr r').mono ?_
      rintro e w' ⟨rfl, rfl⟩
      cases hf : findShort (l.drop pos) with
      | none =>
        have HE := Lib.hid (stuck6 (l := l) (by rw [hnx]; exact at_short_none hf))
        clear hnx hf
        unfold numV
        go_wp2_with (first | (refine store_blk h.kz rfl 31 (.tmp 2) (.tmp 35) rfl rfl (us := tkZero.cells) rfl Hzi.out rfl tkZero.all ?_; intro w9 k9 hg9))
        exact bodyPost_ret (k9.sized2 rfl _ rfl Try.underlying31 Hzi.out) rfl ⟨by exact HNO.out (readV_no HE.out), h.f.grown hg9 h.f.size (by simp)⟩
      | some xk =>
        obtain ⟨x, k⟩ := xk
        obtain ⟨hk0, hk1, hx64⟩ := findShort_le hf
        rw [List.length_drop, hll] at hk1
        have d1 : ((k : Int) == 0) = false := by simp; omega
        have HF := Lib.hid hf; clear hf
        unfold numV
        have hst := at_short HF.out
        rw [← hnx] at hst
        clear hnx
        have hs1 : (rA6 l).1 = x := by rw [hst]
        have hs2 : (rA6 l).2 = ⟨l.drop (pos + k), false⟩ := by rw [hst]
        have HS2 := Lib.hid hs2; clear hs2
        have hpk : pos + k ≤ n := by omega
        have hfin := h.arr 4 (.int .u64 (x : Int)) rfl
        rw [← hs1] at hfin
        have HS1 := Lib.hid hs1; clear hs1
        clear hst HF hk1 rr r'
        go_wp2_with fail
        rw [← HS1.out]
        go_roundw
        case rel => exact ⟨pos + k, by go_num, hpk, (.inr (.inr (.inr (.inr (.inr (.inl ⟨rfl, HS2.out, a0, a1, hfin⟩))))))⟩
        case measure => simp [intOf]
    · have hfr := h.ka.frozen 5
      have hqa : wr.cell? ⟨w.heap.size + 2, 5, none⟩ = some (.int .u64 ((0 : Nat) : Int)) := h.ka.cell 5
      have rr := r.below h.f
      have b1 : (0 : Int) ≤ (pos : Int) := by omega
      have b2 : (pos : Int) ≤ (n : Int) := by omega
      have hnx : (rA7 l) = takeS findShort 0 (rA6 l).2 := by with_unfolding_all rfl
      rw [hs] at hnx
      have HS := Lib.hid hs; clear hs
      go_wp2_with (first | (refine slice_l T23 rfl rfl rfl rfl rr hp hnc ?_; intro A' r'))
      refine (number6_any A' (n - pos) (c - pos) (l.drop pos) _ wr r').mono ?_
      rintro e w' ⟨rfl, rfl⟩
      cases hf : findShort (l.drop pos) with
      | none =>
        have HE := Lib.hid (stuck7 (l := l) (by rw [hnx]; exact at_short_none hf))
        clear hnx hf
        unfold numV
        go_wp2_with (first | (refine store_blk h.kz rfl 31 (.tmp 2) (.tmp 35) rfl rfl (us := tkZero.cells) rfl Hzi.out rfl tkZero.all ?_; intro w9 k9 hg9))
        exact bodyPost_ret (k9.sized2 rfl _ rfl Try.underlying31 Hzi.out) rfl ⟨by exact HNO.out (readV_no HE.out), h.f.grown hg9 h.f.size (by simp)⟩
      | some xk =>
        obtain ⟨x, k⟩ := xk
        obtain ⟨hk0, hk1, hx64⟩ := findShort_le hf
        rw [List.length_drop, hll] at hk1
        have d1 : ((k : Int) == 0) = false := by simp; omega
        have HF := Lib.hid hf; clear hf
        unfold numV
        have hst := at_short HF.out
        rw [← hnx] at hst
        clear hnx
        have hs1 : (rA7 l).1 = x := by rw [hst]
        have hs2 : (rA7 l).2 = ⟨l.drop (pos + k), false⟩ := by rw [hst]
        have HS2 := Lib.hid hs2; clear hs2
        have hpk : pos + k ≤ n := by omega
        have hfin := h.arr 5 (.int .u64 (x : Int)) rfl
        rw [← hs1] at hfin
        have HS1 := Lib.hid hs1; clear hs1
        clear hst HF hk1 rr r'
        go_wp2_with fail
        rw [← HS1.out]
        go_roundw
        case rel => exact ⟨pos + k, by go_num, hpk, (.inr (.inr (.inr (.inr (.inr (.inr (.inl ⟨rfl, HS2.out, a0, a1, hfin⟩)))))))⟩
        case measure => simp [intOf]
    · have hfr := h.ka.frozen 6
      have hqa : wr.cell? ⟨w.heap.size + 2, 6, none⟩ = some (.int .u64 ((0 : Nat) : Int)) := h.ka.cell 6
      have rr := r.below h.f
      have b1 : (0 : Int) ≤ (pos : Int) := by omega
      have b2 : (pos : Int) ≤ (n : Int) := by omega
      have hnx : (rA8 l) = takeS findShort 0 (rA7 l).2 := by with_unfolding_all rfl
      rw [hs] at hnx
      have HS := Lib.hid hs; clear hs
      go_wp2_with (first | (refine slice_l T23 rfl rfl rfl rfl rr hp hnc ?_; intro A' r'))
      refine (number6_any A' (n - pos) (c - pos) (l.drop pos) _ wr r').mono ?_
      rintro e w' ⟨rfl, rfl⟩
      cases hf : findShort (l.drop pos) with
      | none =>
        have HE := Lib.hid (stuck8 (l := l) (by rw [hnx]; exact at_short_none hf))
        clear hnx hf
        unfold numV
        go_wp2_with (first | (refine store_blk h.kz rfl 31 (.tmp 2) (.tmp 35) rfl rfl (us := tkZero.cells) rfl Hzi.out rfl tkZero.all ?_; intro w9 k9 hg9))
        exact bodyPost_ret (k9.sized2 rfl _ rfl Try.underlying31 Hzi.out) rfl ⟨by exact HNO.out (readV_no HE.out), h.f.grown hg9 h.f.size (by simp)⟩
      | some xk =>
        obtain ⟨x, k⟩ := xk
        obtain ⟨hk0, hk1, hx64⟩ := findShort_le hf
        rw [List.length_drop, hll] at hk1
        have d1 : ((k : Int) == 0) = false := by simp; omega
        have HF := Lib.hid hf; clear hf
        unfold numV
        have hst := at_short HF.out
        rw [← hnx] at hst
        clear hnx
        have hs1 : (rA8 l).1 = x := by rw [hst]
        have hs2 : (rA8 l).2 = ⟨l.drop (pos + k), false⟩ := by rw [hst]
        have HS2 := Lib.hid hs2; clear hs2
        have hpk : pos + k ≤ n := by omega
        have hfin := h.arr 6 (.int .u64 (x : Int)) rfl
        rw [← hs1] at hfin
        have HS1 := Lib.hid hs1; clear hs1
        clear hst HF hk1 rr r'
        go_wp2_with fail
        rw [← HS1.out]
        go_roundw
        case rel => exact ⟨pos + k, by go_num, hpk, (.inr (.inr (.inr (.inr (.inr (.inr (.inr ⟨rfl, HS2.out, a0, a1, hfin⟩)))))))⟩
        case measure => simp [intOf]
    · have h9 : (rA4 l).1 ≤ 9 := by with_unfolding_all exact smallS_le _
      have HS := Lib.hid hs; clear hs
      have qa : _ = some (Value.int .u64 (((rA3 l).1 : Nat) : Int)) := h.ka.cell 2
      have zf := h.kt.frozen 2
      have qf : _ = some (Value.int .u64 0) := h.kt.cell 2
      have hfin := h.set (t' := ⟨(rA1 l).1, (rA2 l).1, (rA3 l).1, 0, (rA5 l).1, 0, 0, 0, List.replicate 32 0⟩) 2 (.int .u64 ((rA3 l).1 : Int)) rfl
      go_upto_region 28 with fail
      refine abs (fun w5 => Rq w w5 ⟨(rA1 l).1, (rA2 l).1, (rA3 l).1, 0, (rA5 l).1, 0, 0, 0, List.replicate 32 0⟩ [.int .u64 (a0 : Int), .int .u64 (a1 : Int), .int .u64 ((rA3 l).1 : Int), .int .u64 ((rA4 l).1 : Int), .int .u64 ((rA6 l).1 : Int), .int .u64 ((rA7 l).1 : Int), .int .u64 ((rA8 l).1 : Int)]) hfin ?_
      clear hfin zf qf qa h
      rintro w5 h
      have qa : _ = some (Value.int .u64 (((rA4 l).1 : Nat) : Int)) := h.ka.cell 3
      have zf := h.kt.frozen 3
      have qf : _ = some (Value.int .i64 0) := h.kt.cell 3
      have hfin := h.set (t' := ⟨(rA1 l).1, (rA2 l).1, (rA3 l).1, ((rA4 l).1 : Int), (rA5 l).1, 0, 0, 0, List.replicate 32 0⟩) 3 (.int .i64 ((rA4 l).1 : Int)) rfl
      go_upto_region 29 with fail
      refine abs (fun w5 => Rq w w5 ⟨(rA1 l).1, (rA2 l).1, (rA3 l).1, ((rA4 l).1 : Int), (rA5 l).1, 0, 0, 0, List.replicate 32 0⟩ [.int .u64 (a0 : Int), .int .u64 (a1 : Int), .int .u64 ((rA3 l).1 : Int), .int .u64 ((rA4 l).1 : Int), .int .u64 ((rA6 l).1 : Int), .int .u64 ((rA7 l).1 : Int), .int .u64 ((rA8 l).1 : Int)]) hfin ?_
      clear hfin zf qf qa h
      rintro w5 h
      have qa : _ = some (Value.int .u64 (((rA6 l).1 : Nat) : Int)) := h.ka.cell 4
      have zf := h.kt.frozen 5
      have qf : _ = some (Value.int .u64 0) := h.kt.cell 5
      have hfin := h.set (t' := ⟨(rA1 l).1, (rA2 l).1, (rA3 l).1, ((rA4 l).1 : Int), (rA5 l).1, (rA6 l).1, 0, 0, List.replicate 32 0⟩) 5 (.int .u64 ((rA6 l).1 : Int)) rfl
      go_upto_region 30 with fail
      refine abs (fun w5 => Rq w w5 ⟨(rA1 l).1, (rA2 l).1, (rA3 l).1, ((rA4 l).1 : Int), (rA5 l).1, (rA6 l).1, 0, 0, List.replicate 32 0⟩ [.int .u64 (a0 : Int), .int .u64 (a1 : Int), .int .u64 ((rA3 l).1 : Int), .int .u64 ((rA4 l).1 : Int), .int .u64 ((rA6 l).1 : Int), .int .u64 ((rA7 l).1 : Int), .int .u64 ((rA8 l).1 : Int)]) hfin ?_
      clear hfin zf qf qa h
      rintro w5 h
      have qa : _ = some (Value.int .u64 (((rA7 l).1 : Nat) : Int)) := h.ka.cell 5
      have zf := h.kt.frozen 6
      have qf : _ = some (Value.int .u64 0) := h.kt.cell 6
      have hfin := h.set (t' := ⟨(rA1 l).1, (rA2 l).1, (rA3 l).1, ((rA4 l).1 : Int), (rA5 l).1, (rA6 l).1, (rA7 l).1, 0, List.replicate 32 0⟩) 6 (.int .u64 ((rA7 l).1 : Int)) rfl
      go_upto_region 31 with fail
      refine abs (fun w5 => Rq w w5 ⟨(rA1 l).1, (rA2 l).1, (rA3 l).1, ((rA4 l).1 : Int), (rA5 l).1, (rA6 l).1, (rA7 l).1, 0, List.replicate 32 0⟩ [.int .u64 (a0 : Int), .int .u64 (a1 : Int), .int .u64 ((rA3 l).1 : Int), .int .u64 ((rA4 l).1 : Int), .int .u64 ((rA6 l).1 : Int), .int .u64 ((rA7 l).1 : Int), .int .u64 ((rA8 l).1 : Int)]) hfin ?_
      clear hfin zf qf qa h
      rintro w5 h
      have qa : _ = some (Value.int .u64 (((rA8 l).1 : Nat) : Int)) := h.ka.cell 6
      have zf := h.kt.frozen 7
      have qf : _ = some (Value.int .u64 0) := h.kt.cell 7
      have hfin := h.set (t' := ⟨(rA1 l).1, (rA2 l).1, (rA3 l).1, ((rA4 l).1 : Int), (rA5 l).1, (rA6 l).1, (rA7 l).1, (rA8 l).1, List.replicate 32 0⟩) 7 (.int .u64 ((rA8 l).1 : Int)) rfl
      go_upto_region 32 with fail
      refine abs (fun w5 => Rq w w5 ⟨(rA1 l).1, (rA2 l).1, (rA3 l).1, ((rA4 l).1 : Int), (rA5 l).1, (rA6 l).1, (rA7 l).1, (rA8 l).1, List.replicate 32 0⟩ [.int .u64 (a0 : Int), .int .u64 (a1 : Int), .int .u64 ((rA3 l).1 : Int), .int .u64 ((rA4 l).1 : Int), .int .u64 ((rA6 l).1 : Int), .int .u64 ((rA7 l).1 : Int), .int .u64 ((rA8 l).1 : Int)]) hfin ?_
      clear hfin zf qf qa h
      rintro w5 h
      have hn9 : (rA9 l) = takeS (findRaw 32) [] (rA8 l).2 := by with_unfolding_all rfl
      rw [HS.out] at hn9
      by_cases hlen : n = pos + 32
      case neg =>
        have d1 : ((n : Int) - (pos : Int) != 32) = true := by simp; omega
        have HE := Lib.hid (show readE l = true from by
          rcases Nat.lt_or_ge n (pos + 32) with g | g
          · exact stuck9 (by rw [hn9]; exact at_raw_no (by omega) (by omega))
          · rw [readE_of (hn9.trans (at_raw (by omega)))]
            have : l.drop (pos + 32) ≠ [] := fun e => by
              have := congrArg List.length e
              rw [List.length_drop] at this
              simp at this
              omega
            simp [this])
        clear hn9 hlen
        go_wp2_with (first | (refine store_blk h.kz rfl 31 (.tmp 2) (.tmp 141) rfl rfl (us := tkZero.cells) rfl Hzi.out rfl tkZero.all ?_; intro w9 k9 hg9))
        exact bodyPost_ret (k9.sized2 rfl _ rfl Try.underlying31 Hzi.out) rfl ⟨by exact HNO.out (readV_no HE.out), h.f.grown hg9 h.f.size (by simp)⟩
      have d1 : ((n : Int) - (pos : Int) != 32) = false := by simp; omega
      have hraw := hn9.trans (at_raw (l := l) (pos := pos) (by omega))
      have hE : readE l = false := by
        rw [readE_of hraw]
        have : l.drop (pos + 32) = [] := List.drop_eq_nil_of_le (by omega)
        rw [this]
        rfl
      have hm9 : (rA9 l).1 = l.drop pos := by rw [hraw, List.take_of_length_le (by rw [List.length_drop]; omega)]
      have hml : (l.drop pos).length = 32 := by rw [List.length_drop]; omega
      have hend := t8_end l (l.drop pos) hml hm9
      have HEND := Lib.hid hend
      have HEE := Lib.hid hE
      clear hn9 hraw hE hm9 hend
      have hz8 : Rq w w5 (t8 l (l.drop pos) 0) [.int .u64 (a0 : Int), .int .u64 (a1 : Int), .int .u64 ((rA3 l).1 : Int), .int .u64 ((rA4 l).1 : Int), .int .u64 ((rA6 l).1 : Int), .int .u64 ((rA7 l).1 : Int), .int .u64 ((rA8 l).1 : Int)] := h
      clear h
      go_wp2_with fail
      go_loopw [11] (fun v11 wr => ∃ j : Nat, v11 = .int .i64 j ∧ j ≤ 32 ∧ Rq w wr (t8 l (l.drop pos) j) [.int .u64 (a0 : Int), .int .u64 (a1 : Int), .int .u64 ((rA3 l).1 : Int), .int .u64 ((rA4 l).1 : Int), .int .u64 ((rA6 l).1 : Int), .int .u64 ((rA7 l).1 : Int), .int .u64 ((rA8 l).1 : Int)]) (fun v11 _ => 32 - (intOf v11).toNat)
      case atStart => exact ⟨0, rfl, by omega, hz8⟩
      case round =>
        clear hz8
        obtain ⟨j, rfl, hj, h⟩ := hrel
        by_cases hlt : j < 32
        · have d2 : decide ((j : Int) < 32) = true := by simp; omega
          obtain ⟨b, off, rfl, hb, qq⟩ := (r.below h.f).cells (by omega)
          have q0 := qq (pos + j) (by omega)
          have e8 : at8 l (pos + j) = at8 (l.drop pos) j := by simp [at8, List.getD]
          rw [e8] at q0
          have hst := t8_set l (l.drop pos) hlt hml
          have hfin := h.set (8 + j) _ hst
          obtain ⟨vo, hvo⟩ := t8_cell l (l.drop pos) hlt hml
          have qf : _ = some vo := (h.kt.cell (8 + j)).trans hvo
          have zf := h.kt.frozen (8 + j)
          have z1 : (0 : Int) ≤ (pos : Int) + (j : Int) := by omega
          have z2 : (pos : Int) + (j : Int) < (n : Int) := by omega
          have z3 : ((pos : Int) + (j : Int)).toNat = pos + j := by omega
          have z4 : (0 : Int) ≤ (j : Int) := by omega
          have z5 : (j : Int) < 32 := by omega
          clear qq e8 hst hvo
          generalize (at8 (l.drop pos) j).toNat = C9 at *
          go_wp2_with fail
          go_roundw
          case rel => exact ⟨j + 1, by go_num, by omega, hfin⟩
          case measure => simp [intOf]; omega
        · obtain rfl : j = 32 := by omega
          rw [HEND.out] at h
          have hok := (readT_ok l).1
          have hti : (Try.prog.info? 31).map (·.size) = some (readT l).cells.length := by rw [(readT l).len hok.mac]; kernel_rfl
          have Hti := Lib.hid hti; clear hti
          have hzt : tkZero.cells.length = (readT l).cells.length := by rw [(readT l).len hok.mac]; rfl
          have Hzt := Lib.hid hzt; clear hzt
          have htv : (readT l).v = .agg (readT l).cells.toArray := rfl
          go_wp2_with (first | (refine load_blk h.kt rfl 31 (.tmp 4) rfl rfl Try.underlying31 Hti.out ?_))
          rw [← htv]
          refine (refTokMay_any (readT l) hok _).mono ?_
          rintro e w7 ⟨rfl, f7⟩
          have hf7 := h.f.trans (f7.mono h.f.size)
          have kz := h.kz.below f7 h.kz.lt
          have kt := h.kt.below f7 h.kt.lt
          cases hk : tkOk (readT l)
          · have HV := Lib.hid (readV_nomay hk)
            go_wp2_with (first | (refine store_blk kz rfl 31 (.tmp 2) (.tmp 158) rfl rfl (us := tkZero.cells) rfl Hzi.out rfl tkZero.all ?_; intro w9 k9 hg9))
            exact bodyPost_ret (k9.sized2 rfl _ rfl Try.underlying31 Hzi.out) rfl ⟨by exact HNO.out HV.out, hf7.grown hg9 hf7.size (by simp)⟩
          · have HV := Lib.hid (readV_ok H1.out HEE.out hk)
            go_wp2_with (first | (refine load_blk kt rfl 31 (.tmp 4) rfl rfl Try.underlying31 Hti.out ?_) | (refine store_blk kz rfl 31 (.tmp 2) (.tmp 159) rfl rfl (us := (readT l).cells) rfl Hti.out Hzt.out (readT l).all ?_; intro w9 k9 hg9))
            exact bodyPost_ret (k9.sized2 rfl _ rfl Try.underlying31 Hti.out) rfl ⟨by rw [HV.out]; rfl, hf7.grown hg9 hf7.size (by simp)⟩
end Go.Proofs.Ytgefbgjgcjiceaa
