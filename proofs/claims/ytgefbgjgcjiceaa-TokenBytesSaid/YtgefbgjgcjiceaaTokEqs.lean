/- Whether two tokens are the same. No condition. How a law's ring, and token, are opened. No condition. -/
import Derived.Test.YtgefbgjgcjiceaaTok
import Derived.Test.YtgefbgjgcjiceaaArrEq
import Derived.Laws.StructEq
import Derived.Test.YtgefbgjgcjiceaaOpen
namespace Go.Proofs.Ytgefbgjgcjiceaa
open Go.RowKit
set_option linter.unusedVariables false
set_option linter.unusedSimpArgs false
def tkEq (a b : Tk) : Bool := decide (a.ns = b.ns) && decide (a.sa = b.sa) && decide (a.uid = b.uid) && decide (a.host = b.host) && decide (a.addr = b.addr) && decide (a.born = b.born) && decide (a.till = b.till) && decide (a.key = b.key) && decide (a.mac = b.mac)
theorem tkEq_iff (a b : Tk) : tkEq a b = true ↔ a = b := by
  cases a; cases b
  simp [tkEq, and_assoc]
theorem tkEq_self (a : Tk) : tkEq a a = true := (tkEq_iff a a).2 rfl
theorem part_cell {P : Program} {e : Nat} {d : TypeDesc} (he : P.underlying e = some d) (hd : d.isRow = false) (xs : Array Value) (i : Nat) (v : Value) (hv : xs[i]? = some v) (w : World) : (part e xs i).run P w = .ok v w := by
  cases d <;> first | (simp [part, isAgg, run_underlying he, hv]; done) | cases hd
theorem part_row {P : Program} {e : Nat} {d : TypeDesc} (he : P.underlying e = some d) (hd : d.isRow = true) (n : Nat) (hn : (P.info? e).map (·.size) = some n) (xs : Array Value) (i : Nat) (cs : List Value) (hc : (xs.toList.drop i).take n = cs) (w : World) : (part e xs i).run P w = .ok (.agg cs.toArray) w := by
  obtain ⟨j, hj, hs⟩ := Option.map_eq_some_iff.1 hn
  have hx : xs.extract i (i + n) = cs.toArray := by
    apply Array.toList_inj.1
    rw [Array.toList_extract]
    simp [List.extract, ← hc]
  cases d <;> first | (simp [part, isAgg, run_underlying he, sizeOf, typeInfo, hj, hs, hx]; done) | cases hd
theorem fld_step {P : Program} {w : World} {d : Nat} {xs ys : Array Value} {f : Field} {fs : List Field} (hf : f.name ≠ "_") {a b : Value} {r : Bool} (ha : (part f.type xs f.offset).run P w = .ok a w) (hb : (part f.type ys f.offset).run P w = .ok b w) (hr : (Op.equalIn d f.type a b).run P w = .ok r w) {q : Bool} (hq : (Op.eqFields d xs ys fs).run P w = .ok q w) :
    (Op.eqFields d xs ys (f :: fs)).run P w = .ok (r && q) w := by
  simp only [Op.eqFields, hf, ne_eq, not_false_eq_true, if_true, Sem.run_bind, ha, hb, hr, Result.andThen_ok]
  cases r
  · simp
  · simpa using hq
theorem fld_nil {P : Program} {w : World} {d : Nat} {xs ys : Array Value} : (Op.eqFields d xs ys []).run P w = .ok true w := by simp [Op.eqFields]
theorem strB_beq (a b : List UInt8) : ((strB a).toList == (strB b).toList) = decide (a = b) := by
  rw [strB_toList, strB_toList, Bool.eq_iff_iff]
  simp
theorem int_beq (a b : Nat) : ((a : Int) == (b : Int)) = decide (a = b) := by
  rw [Bool.eq_iff_iff]; simp; omega
theorem host_beq (a b : Int) : (a == b) = decide (a = b) := by
  rw [Bool.eq_iff_iff]; simp
theorem eq_str {P : Program} {e : Nat} (d : Nat) (he : P.underlying e = some .string) (a b : List UInt8) (w : World) : (Op.equalIn (d + 1) e (.string (strB a)) (.string (strB b))).run P w = .ok (decide (a = b)) w := by
  rw [run_equalIn_string w _ _ _ _ he, strB_beq]
theorem eq_nat {P : Program} {e : Nat} {k : IntKind} (d : Nat) (he : P.underlying e = some (.int k)) (k' : IntKind) (a b : Nat) (w : World) : (Op.equalIn (d + 1) e (.int k' (a : Int)) (.int k' (b : Int))).run P w = .ok (decide (a = b)) w := by
  rw [run_equalIn_int w _ _ _ _ _ _ he, int_beq]
theorem eq_int {P : Program} {e : Nat} {k : IntKind} (d : Nat) (he : P.underlying e = some (.int k)) (k' : IntKind) (a b : Int) (w : World) : (Op.equalIn (d + 1) e (.int k' a) (.int k' b)).run P w = .ok (decide (a = b)) w := by
  rw [run_equalIn_int w _ _ _ _ _ _ he, host_beq]
set_option maxRecDepth 100000 in
theorem run_name_eq (d : Nat) (ns sa ns' sa' : List UInt8) (w : World) : (Op.equalIn (d + 2) 27 (.agg #[.string (strB ns), .string (strB sa)]) (.agg #[.string (strB ns'), .string (strB sa')])).run Try.prog w = .ok (decide (ns = ns') && decide (sa = sa')) w := by
  rw [run_equalIn_struct (P := Try.prog) w (d + 1) 27 _ _ (by simp only [Program.fieldsOf, Try.underlying27]) (by kernel_rfl)]
  simp only [Program.fieldsOf, Try.underlying27]
  rw [← Bool.and_true (decide (sa = sa'))]
  refine fld_step (by decide) (part_cell Try.underlying9 rfl _ 0 (.string (strB ns)) rfl w) (part_cell Try.underlying9 rfl _ 0 (.string (strB ns')) rfl w) (eq_str d Try.underlying9 ns ns' w) ?_
  exact fld_step (by decide) (part_cell Try.underlying9 rfl _ 1 (.string (strB sa)) rfl w) (part_cell Try.underlying9 rfl _ 1 (.string (strB sa')) rfl w) (eq_str d Try.underlying9 sa sa' w) fld_nil
theorem run_bytes_eq (d : Nat) (xs ys : List UInt8) (hx : xs.length = 32) (hy : ys.length = 32) (w : World) : (Op.equalIn (d + 2) 29 (.agg (bvs xs).toArray) (.agg (bvs ys).toArray)).run Try.prog w = .ok (decide (xs = ys)) w := by
  rw [bvs_int, bvs_int, run_equalIn_array Try.underlying29 Try.underlying5 (by kernel_rfl) d _ _ (by simpa using hx) (by simpa using hy)]
  congr 1
  rw [decide_eq_decide]
  refine ⟨fun h => ?_, fun h => by rw [h]⟩
  exact (List.map_inj_right fun a b hab => UInt8.toNat_inj.1 (by omega)).1 h
set_option maxRecDepth 100000 in
set_option maxHeartbeats 2000000 in
theorem run_tok_eq (a b : Tk) (ha : a.mac.length = 32) (hb : b.mac.length = 32) (w : World) : (Op.equalIn 10000 31 (.agg a.cells.toArray) (.agg b.cells.toArray)).run Try.prog w = .ok (tkEq a b) w := by
  rw [run_equalIn_struct (P := Try.prog) w 9999 31 _ _ (by simp only [Program.fieldsOf, Try.underlying31]) (by kernel_rfl)]
  simp only [Program.fieldsOf, Try.underlying31]
  have e : tkEq a b = ((decide (a.ns = b.ns) && decide (a.sa = b.sa)) && (decide (a.uid = b.uid) && (decide (a.host = b.host) && (decide (a.addr = b.addr) && (decide (a.born = b.born) && (decide (a.till = b.till) && (decide (a.key = b.key) && (decide (a.mac = b.mac) && true)))))))) := by
    simp only [tkEq, Bool.and_assoc, Bool.and_true]
  rw [e]
  refine fld_step (by decide) (part_row Try.underlying27 rfl 2 (by kernel_rfl) _ 0 [.string (strB a.ns), .string (strB a.sa)] a.name w) (part_row Try.underlying27 rfl 2 (by kernel_rfl) _ 0 [.string (strB b.ns), .string (strB b.sa)] b.name w) (run_name_eq 9997 a.ns a.sa b.ns b.sa w) ?_
  refine fld_step (by decide) (part_cell Try.underlying23 rfl _ 2 (.int .u64 (a.uid : Int)) rfl w) (part_cell Try.underlying23 rfl _ 2 (.int .u64 (b.uid : Int)) rfl w) (eq_nat 9998 Try.underlying23 .u64 a.uid b.uid w) ?_
  refine fld_step (by decide) (part_cell Try.underlying3 rfl _ 3 (.int .i64 a.host) rfl w) (part_cell Try.underlying3 rfl _ 3 (.int .i64 b.host) rfl w) (eq_int 9998 Try.underlying3 .i64 a.host b.host w) ?_
  refine fld_step (by decide) (part_cell Try.underlying28 rfl _ 4 (.int .u32 (a.addr : Int)) rfl w) (part_cell Try.underlying28 rfl _ 4 (.int .u32 (b.addr : Int)) rfl w) (eq_nat 9998 Try.underlying28 .u32 a.addr b.addr w) ?_
  refine fld_step (by decide) (part_cell Try.underlying23 rfl _ 5 (.int .u64 (a.born : Int)) rfl w) (part_cell Try.underlying23 rfl _ 5 (.int .u64 (b.born : Int)) rfl w) (eq_nat 9998 Try.underlying23 .u64 a.born b.born w) ?_
  refine fld_step (by decide) (part_cell Try.underlying23 rfl _ 6 (.int .u64 (a.till : Int)) rfl w) (part_cell Try.underlying23 rfl _ 6 (.int .u64 (b.till : Int)) rfl w) (eq_nat 9998 Try.underlying23 .u64 a.till b.till w) ?_
  refine fld_step (by decide) (part_cell Try.underlying23 rfl _ 7 (.int .u64 (a.key : Int)) rfl w) (part_cell Try.underlying23 rfl _ 7 (.int .u64 (b.key : Int)) rfl w) (eq_nat 9998 Try.underlying23 .u64 a.key b.key w) ?_
  exact fld_step (by decide) (part_row Try.underlying29 rfl 32 (by kernel_rfl) _ 8 (bvs a.mac) (a.macs ha) w) (part_row Try.underlying29 rfl 32 (by kernel_rfl) _ 8 (bvs b.mac) (b.macs hb) w) (run_bytes_eq 9997 a.mac b.mac ha hb w) fld_nil
end Go.Proofs.Ytgefbgjgcjiceaa
namespace Go.Proofs.Ytgefbgjgcjiceaa
open Go.RowKit Go.ChangeShapes Go.WideShapes Go.ChangeAt
section
variable {H : Type} {enc : TypeId × Value → H} {P : Program} {W : World} {base t : Nat} {v : Value} {d : DataW H} {ps : List MemPlace}
theorem bytes_cell {e : TypeId} (T : ByteTy P t e) (hc : P.cellsOf e = 1) {fuel : Nat} {cs : List Value} {x : DataW H × List MemPlace} (h : DataW.trod enc P W base (fun _ => true) true fuel t cs = some x) :
    ∃ A n c l, cs = [.slice A n c] ∧ RdB W W.heap.size A n l ∧ n ≤ c ∧ c ≤ maxLen := by
  rcases open_ints T.sl T.el hc h with ⟨hcs, _⟩ | ⟨x, l, c, zs, hcs, _, hl, hm, hz, _, hcell, hwz⟩
  · exact ⟨none, 0, 0, [], hcs, RdB.nil, Nat.le_refl _, Nat.zero_le _⟩
  · obtain ⟨bs, rfl⟩ := bytes_of zs hwz
    simp at hz
    refine ⟨_, _, _, bs.take l, hcs, ⟨by simp; omega, fun hn => ?_⟩, hl, hm⟩
    obtain ⟨b, off, spot⟩ := x
    have h0 := hcell 0 (by simp; omega)
    have hspot : spot = none := by simpa [Addr.add] using World.cell?_spot h0
    subst hspot
    refine ⟨b, off, rfl, World.block_lt_of_cell? W ⟨b, off, none⟩ (u := .int .u8 ((bs.map fun b => (b.toNat : Int)).getD 0 0)) (by simpa [Addr.add] using h0), fun j hj => ?_⟩
    have hj1 : j < l := by simp at hj; omega
    have hj2 : j < bs.length := by simp at hj; omega
    have h1 := hcell j (by simpa using hj2)
    rw [show (⟨b, off, none⟩ : Addr).add j = ⟨b, off + j, none⟩ from by unfold Addr.add; split <;> simp_all] at h1
    rw [h1]
    simp [bv, hj2]
theorem arr_of {sp : Nat → Bool} {hd : Bool} {fuel n e : Nat} {cs : List Value} {x : DataW H × List MemPlace} (ht : P.underlying t = some (.array n e)) (he : P.underlying e = some (.int .u8)) (hc : P.cellsOf e = 1) (hn : P.cellsOf t = n)
    (h : DataW.trod enc P W base sp hd fuel t cs = some x) : ∃ l : List UInt8, cs = bvs l ∧ l.length = n := by
  obtain ⟨xs, m, _, _, hlen, hxs, hx⟩ := DataW.trod_array ht h
  rw [hn] at hlen
  have hcell : ∀ i (hi : i < n), ∃ b : UInt8, cs[i]? = some (bv b) := by
    intro i hi
    have h1 := hx i hi
    rw [hc, Nat.mul_one, List.getElem?_eq_getElem (by omega)] at h1
    obtain ⟨z, hz, _, hw⟩ := DataW.trod_int he h1
    have hb := bounds_u8 hw
    refine ⟨UInt8.ofNat z.toNat, ?_⟩
    have h2 := congrArg (·[0]?) hz
    simp only [List.getElem?_cons_zero] at h2
    rw [List.getElem?_take_of_lt (by omega), List.getElem?_drop, Nat.add_zero] at h2
    rw [h2, bv]
    simp; omega
  refine ⟨cs.map fun v => match v with | .int _ z => UInt8.ofNat z.toNat | _ => 0, ?_, by simpa using hlen⟩
  apply List.ext_getElem?
  intro i
  by_cases hi : i < n
  · obtain ⟨b, hb⟩ := hcell i hi
    simp only [bvs, List.map_map, List.getElem?_map, hb, Option.map_some, Function.comp, bv]
    simp
  · simp [bvs, List.getElem?_eq_none (show cs.length ≤ i by omega)]
set_option maxRecDepth 100000 in
set_option maxHeartbeats 2000000 in
theorem opn_ring (hval : Value.okWide Try.prog W .any base 25 v) (h : DataW.Trod enc Try.prog W 0 (fun _ => true) true 25 v d ps) :
    ∃ A n c o m l, v = rgV A n c o m ∧ RdB W W.heap.size A n l ∧ n ≤ c ∧ c ≤ maxLen ∧ o < 18446744073709551616 ∧ m < 18446744073709551616 := by
  obtain ⟨cs, rfl, hsz⟩ := okWide_struct Try.underlying25 hval
  obtain ⟨fuel, hf⟩ := h
  obtain ⟨xs, m, _, _, hl, hlen, hff⟩ := DataW.trod_struct Try.underlying25 hf
  have hc : Try.prog.cellsOf 25 = 3 := by kernel_rfl
  rw [hc] at hl
  have c1 : Try.prog.cellsOf 22 = 1 := by kernel_rfl
  have c2 : Try.prog.cellsOf 23 = 1 := by kernel_rfl
  have hx : xs.length = 3 := hlen
  simp only [Value.cells] at hl hff
  have g0 : DataW.trod enc Try.prog W 0 (fun _ => true) true m 22 ((cs.toList.drop 0).take (Try.prog.cellsOf 22)) = xs[0]? := hff 0 _ rfl
  have g1 : DataW.trod enc Try.prog W 0 (fun _ => true) true m 23 ((cs.toList.drop 1).take (Try.prog.cellsOf 23)) = xs[1]? := hff 1 _ rfl
  have g2 : DataW.trod enc Try.prog W 0 (fun _ => true) true m 23 ((cs.toList.drop 2).take (Try.prog.cellsOf 23)) = xs[2]? := hff 2 _ rfl
  rw [List.getElem?_eq_getElem (by omega)] at g0 g1 g2
  rw [c1] at g0
  rw [c2] at g1 g2
  obtain ⟨A, n, c, l, e0, r, hnc, hcm⟩ := bytes_cell ⟨Try.underlying22, Try.underlying5, by kernel_rfl⟩ (by kernel_rfl) g0
  obtain ⟨z1, e1, _, hw1⟩ := DataW.trod_int Try.underlying23 g1
  obtain ⟨z2, e2, _, hw2⟩ := DataW.trod_int Try.underlying23 g2
  have hb1 := bounds_u64 hw1
  have hb2 := bounds_u64 hw2
  refine ⟨A, n, c, z1.toNat, z2.toNat, l, ?_, r, hnc, hcm, by omega, by omega⟩
  unfold rgV
  congr 1
  apply Array.toList_inj.1
  match hcs : cs.toList, hl with
  | [v0, v1, v2], _ =>
    rw [hcs] at e0 e1 e2
    simp only [List.drop_zero, List.drop_succ_cons, List.take_succ_cons, List.take_zero, List.cons.injEq, and_true] at e0 e1 e2
    subst e0 e1 e2
    simp [Int.toNat_of_nonneg hb1.1, Int.toNat_of_nonneg hb2.1]
set_option maxRecDepth 100000 in
set_option maxHeartbeats 2000000 in
theorem opn_token (hval : Value.okWide Try.prog W .any base 31 v) (h : DataW.Trod enc Try.prog W 0 (fun _ => true) true 31 v d ps) :
    ∃ t : Tk, v = t.v ∧ t.ok := by
  obtain ⟨cs, rfl, hsz⟩ := okWide_struct Try.underlying31 hval
  obtain ⟨fuel, hf⟩ := h
  obtain ⟨xs, m, _, _, hl, hlen, hff⟩ := DataW.trod_struct Try.underlying31 hf
  have hc : Try.prog.cellsOf 31 = 40 := by kernel_rfl
  rw [hc] at hl
  have cn : Try.prog.cellsOf 27 = 2 := by kernel_rfl
  have ci : Try.prog.cellsOf 3 = 1 := by kernel_rfl
  have c4 : Try.prog.cellsOf 28 = 1 := by kernel_rfl
  have c2 : Try.prog.cellsOf 23 = 1 := by kernel_rfl
  have cs9 : Try.prog.cellsOf 9 = 1 := by kernel_rfl
  have cm : Try.prog.cellsOf 29 = 32 := by kernel_rfl
  have hx : xs.length = 8 := hlen
  simp only [Value.cells] at hl hff
  have g0 : DataW.trod enc Try.prog W 0 (fun _ => true) true m 27 ((cs.toList.drop 0).take (Try.prog.cellsOf 27)) = xs[0]? := hff 0 _ rfl
  have g1 : DataW.trod enc Try.prog W 0 (fun _ => true) true m 23 ((cs.toList.drop 2).take (Try.prog.cellsOf 23)) = xs[1]? := hff 1 _ rfl
  have g2 : DataW.trod enc Try.prog W 0 (fun _ => true) true m 3 ((cs.toList.drop 3).take (Try.prog.cellsOf 3)) = xs[2]? := hff 2 _ rfl
  have g3 : DataW.trod enc Try.prog W 0 (fun _ => true) true m 28 ((cs.toList.drop 4).take (Try.prog.cellsOf 28)) = xs[3]? := hff 3 _ rfl
  have g4 : DataW.trod enc Try.prog W 0 (fun _ => true) true m 23 ((cs.toList.drop 5).take (Try.prog.cellsOf 23)) = xs[4]? := hff 4 _ rfl
  have g5 : DataW.trod enc Try.prog W 0 (fun _ => true) true m 23 ((cs.toList.drop 6).take (Try.prog.cellsOf 23)) = xs[5]? := hff 5 _ rfl
  have g6 : DataW.trod enc Try.prog W 0 (fun _ => true) true m 23 ((cs.toList.drop 7).take (Try.prog.cellsOf 23)) = xs[6]? := hff 6 _ rfl
  have g7 : DataW.trod enc Try.prog W 0 (fun _ => true) true m 29 ((cs.toList.drop 8).take (Try.prog.cellsOf 29)) = xs[7]? := hff 7 _ rfl
  rw [List.getElem?_eq_getElem (by omega)] at g0 g1 g2 g3 g4 g5 g6 g7
  rw [cn] at g0
  rw [c2] at g1 g4 g5 g6
  rw [ci] at g2
  rw [c4] at g3
  rw [cm] at g7
  obtain ⟨ys, m2, _, _, hl2, hlen2, hf2⟩ := DataW.trod_struct Try.underlying27 g0
  have hy : ys.length = 2 := hlen2
  have n0 : DataW.trod enc Try.prog W 0 (fun _ => true) true m2 9 ((((cs.toList.drop 0).take 2).drop 0).take (Try.prog.cellsOf 9)) = ys[0]? := hf2 0 _ rfl
  have n1 : DataW.trod enc Try.prog W 0 (fun _ => true) true m2 9 ((((cs.toList.drop 0).take 2).drop 1).take (Try.prog.cellsOf 9)) = ys[1]? := hf2 1 _ rfl
  rw [List.getElem?_eq_getElem (by omega)] at n0 n1
  rw [cs9] at n0 n1
  obtain ⟨s0, e0, _, w0⟩ := DataW.trod_string Try.underlying9 n0
  obtain ⟨s1, e1, _, w1⟩ := DataW.trod_string Try.underlying9 n1
  obtain ⟨z2, e2, _, w2⟩ := DataW.trod_int Try.underlying23 g1
  obtain ⟨z3, e3, _, w3⟩ := DataW.trod_int Try.underlying3 g2
  obtain ⟨z4, e4, _, w4⟩ := DataW.trod_int Try.underlying28 g3
  obtain ⟨z5, e5, _, w5⟩ := DataW.trod_int Try.underlying23 g4
  obtain ⟨z6, e6, _, w6⟩ := DataW.trod_int Try.underlying23 g5
  obtain ⟨z7, e7, _, w7⟩ := DataW.trod_int Try.underlying23 g6
  obtain ⟨mc, e8, hmc⟩ := arr_of Try.underlying29 Try.underlying5 (by kernel_rfl) (by kernel_rfl) g7
  have b2 := bounds_u64 w2
  have b3 := bounds_i64 w3
  have b4 := bounds_u32 w4
  have b5 := bounds_u64 w5
  have b6 := bounds_u64 w6
  have b7 := bounds_u64 w7
  refine ⟨⟨s0.data.toList, s1.data.toList, z2.toNat, z3, z4.toNat, z5.toNat, z6.toNat, z7.toNat, mc⟩, ?_, ?_⟩
  · unfold Tk.v Tk.cells
    congr 1
    apply Array.toList_inj.1
    simp only [strB_data, Int.toNat_of_nonneg b2.1, Int.toNat_of_nonneg b4.1, Int.toNat_of_nonneg b5.1, Int.toNat_of_nonneg b6.1, Int.toNat_of_nonneg b7.1]
    match hcs : cs.toList, hl with
    | v0 :: v1 :: v2 :: v3 :: v4 :: v5 :: v6 :: v7 :: rest, hl =>
      rw [hcs] at e0 e1 e2 e3 e4 e5 e6 e7 e8
      simp only [List.drop_zero, List.drop_succ_cons, List.take_succ_cons, List.take_zero, List.cons.injEq, and_true] at e0 e1 e2 e3 e4 e5 e6 e7 e8
      rw [List.take_of_length_le (by simp at hl; omega)] at e8
      subst e0 e1 e2 e3 e4 e5 e6 e7 e8
      rfl
  · refine ⟨?_, ?_, by simp only; omega, b3, by simp only; omega, by simp only; omega, by simp only; omega, by simp only; omega, hmc⟩
    · simp only [Array.length_toList]; exact Nat.le_trans w0 (by simp only [maxLen]; omega)
    · simp only [Array.length_toList]; exact Nat.le_trans w1 (by simp only [maxLen]; omega)
end
end Go.Proofs.Ytgefbgjgcjiceaa
