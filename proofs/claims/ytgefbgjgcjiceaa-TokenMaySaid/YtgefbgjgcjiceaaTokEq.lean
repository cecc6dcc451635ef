/- Whether two tokens are the same. No condition. -/
import Derived.Test.YtgefbgjgcjiceaaTok
import Derived.Test.YtgefbgjgcjiceaaArrEq
import Derived.Laws.StructEq
namespace Go.Proofs.Ytgefbgjgcjiceaa
open Go.RowKit
set_option linter.unusedVariables false
set_option linter.unusedSimpArgs false
def tkEq (a b : Tk) : Bool := decide (a.ns = b.ns) && decide (a.sa = b.sa) && decide (a.uid = b.uid) && decide (a.host = b.host) && decide (a.addr = b.addr) && decide (a.born = b.born) && decide (a.till = b.till) && decide (a.key = b.key) && decide (a.mac = b.mac)
theorem tkEq_iff (a b : Tk) : tkEq a b = true ↔ a = b := by
  cases a; cases b
  simp [tkEq, and_assoc]
theorem tkEq_self (a : Tk) : tkEq a a = true := (tkEq_iff a a).2 rfl
theorem part_cell {P : Program} {e : Nat} {d : TypeDesc} (he : P.underlying e = some d) (hd : d.isRow = false) (xs : Array Value) (i : Nat) (v : Value) (hv : xs[i]? = some v) (w : World) : (part e xs i).run P w = .ok v w := by
  cases d <;> first | (simp [part, isAgg, run_underlying he, hv]; done) | cases hd
theorem part_row {P : Program} {e : Nat} {d : TypeDesc} (he : P.underlying e = some d) (hd : d.isRow = true) (n : Nat) (hn : (P.info? e).map (·.size) = some n) (xs : Array Value) (i : Nat) (cs : List Value) (hc : (xs.toList.drop i).take n = cs) (w : World) : (part e xs i).run P w = .ok (.agg cs.toArray) w := by
  obtain ⟨j, hj, hs⟩ := Option.map_eq_some_iff.1 hn
  have hx : xs.extract i (i + n) = cs.toArray := by
    apply Array.toList_inj.1
    rw [Array.toList_extract]
    simp [List.extract, ← hc]
  cases d <;> first | (simp [part, isAgg, run_underlying he, sizeOf, typeInfo, hj, hs, hx]; done) | cases hd
theorem fld_step {P : Program} {w : World} {d : Nat} {xs ys : Array Value} {f : Field} {fs : List Field} (hf : f.name ≠ "_") {a b : Value} {r : Bool} (ha : (part f.type xs f.offset).run P w = .ok a w) (hb : (part f.type ys f.offset).run P w = .ok b w) (hr : (Op.equalIn d f.type a b).run P w = .ok r w) {q : Bool} (hq : (Op.eqFields d xs ys fs).run P w = .ok q w) :
    (Op.eqFields d xs ys (f :: fs)).run P w = .ok (r && q) w := by
  simp only [Op.eqFields, hf, ne_eq, not_false_eq_true, if_true, Sem.run_bind, ha, hb, hr, Result.andThen_ok]
  cases r
  · simp
  · simpa using hq
theorem fld_nil {P : Program} {w : World} {d : Nat} {xs ys : Array Value} : (Op.eqFields d xs ys []).run P w = .ok true w := by simp [Op.eqFields]
theorem strB_beq (a b : List UInt8) : ((strB a).toList == (strB b).toList) = decide (a = b) := by
  rw [strB_toList, strB_toList, Bool.eq_iff_iff]
  simp
theorem int_beq (a b : Nat) : ((a : Int) == (b : Int)) = decide (a = b) := by
  rw [Bool.eq_iff_iff]; simp; omega
theorem host_beq (a b : Int) : (a == b) = decide (a = b) := by
  rw [Bool.eq_iff_iff]; simp
theorem eq_str {P : Program} {e : Nat} (d : Nat) (he : P.underlying e = some .string) (a b : List UInt8) (w : World) : (Op.equalIn (d + 1) e (.string (strB a)) (.string (strB b))).run P w = .ok (decide (a = b)) w := by
  rw [run_equalIn_string w _ _ _ _ he, strB_beq]
theorem eq_nat {P : Program} {e : Nat} {k : IntKind} (d : Nat) (he : P.underlying e = some (.int k)) (k' : IntKind) (a b : Nat) (w : World) : (Op.equalIn (d + 1) e (.int k' (a : Int)) (.int k' (b : Int))).run P w = .ok (decide (a = b)) w := by
  rw [run_equalIn_int w _ _ _ _ _ _ he, int_beq]
theorem eq_int {P : Program} {e : Nat} {k : IntKind} (d : Nat) (he : P.underlying e = some (.int k)) (k' : IntKind) (a b : Int) (w : World) : (Op.equalIn (d + 1) e (.int k' a) (.int k' b)).run P w = .ok (decide (a = b)) w := by
  rw [run_equalIn_int w _ _ _ _ _ _ he, host_beq]
set_option maxRecDepth 100000 in
theorem run_name_eq (d : Nat) (ns sa ns' sa' : List UInt8) (w : World) : (Op.equalIn (d + 2) 27 (.agg #[.string (strB ns), .string (strB sa)]) (.agg #[.string (strB ns'), .string (strB sa')])).run Try.prog w = .ok (decide (ns = ns') && decide (sa = sa')) w := by
  rw [run_equalIn_struct (P := Try.prog) w (d + 1) 27 _ _ (by simp only [Program.fieldsOf, Try.underlying27]) (by kernel_rfl)]
  simp only [Program.fieldsOf, Try.underlying27]
  rw [← Bool.and_true (decide (sa = sa'))]
  refine fld_step (by decide) (part_cell Try.underlying9 rfl _ 0 (.string (strB ns)) rfl w) (part_cell Try.underlying9 rfl _ 0 (.string (strB ns')) rfl w) (eq_str d Try.underlying9 ns ns' w) ?_
  exact fld_step (by decide) (part_cell Try.underlying9 rfl _ 1 (.string (strB sa)) rfl w) (part_cell Try.underlying9 rfl _ 1 (.string (strB sa')) rfl w) (eq_str d Try.underlying9 sa sa' w) fld_nil
theorem run_bytes_eq (d : Nat) (xs ys : List UInt8) (hx : xs.length = 32) (hy : ys.length = 32) (w : World) : (Op.equalIn (d + 2) 29 (.agg (bvs xs).toArray) (.agg (bvs ys).toArray)).run Try.prog w = .ok (decide (xs = ys)) w := by
  rw [bvs_int, bvs_int, run_equalIn_array Try.underlying29 Try.underlying5 (by kernel_rfl) d _ _ (by simpa using hx) (by simpa using hy)]
  congr 1
  rw [decide_eq_decide]
  refine ⟨fun h => ?_, fun h => by rw [h]⟩
  exact (List.map_inj_right fun a b hab => UInt8.toNat_inj.1 (by omega)).1 h
set_option maxRecDepth 100000 in
set_option maxHeartbeats 2000000 in
theorem run_tok_eq (a b : Tk) (ha : a.mac.length = 32) (hb : b.mac.length = 32) (w : World) : (Op.equalIn 10000 31 (.agg a.cells.toArray) (.agg b.cells.toArray)).run Try.prog w = .ok (tkEq a b) w := by
  rw [run_equalIn_struct (P := Try.prog) w 9999 31 _ _ (by simp only [Program.fieldsOf, Try.underlying31]) (by kernel_rfl)]
  simp only [Program.fieldsOf, Try.underlying31]
  have e : tkEq a b = ((decide (a.ns = b.ns) && decide (a.sa = b.sa)) && (decide (a.uid = b.uid) && (decide (a.host = b.host) && (decide (a.addr = b.addr) && (decide (a.born = b.born) && (decide (a.till = b.till) && (decide (a.key = b.key) && (decide (a.mac = b.mac) && true)))))))) := by
    simp only [tkEq, Bool.and_assoc, Bool.and_true]
  rw [e]
  refine fld_step (by decide) (part_row Try.underlying27 rfl 2 (by kernel_rfl) _ 0 [.string (strB a.ns), .string (strB a.sa)] a.name w) (part_row Try.underlying27 rfl 2 (by kernel_rfl) _ 0 [.string (strB b.ns), .string (strB b.sa)] b.name w) (run_name_eq 9997 a.ns a.sa b.ns b.sa w) ?_
  refine fld_step (by decide) (part_cell Try.underlying23 rfl _ 2 (.int .u64 (a.uid : Int)) rfl w) (part_cell Try.underlying23 rfl _ 2 (.int .u64 (b.uid : Int)) rfl w) (eq_nat 9998 Try.underlying23 .u64 a.uid b.uid w) ?_
  refine fld_step (by decide) (part_cell Try.underlying3 rfl _ 3 (.int .i64 a.host) rfl w) (part_cell Try.underlying3 rfl _ 3 (.int .i64 b.host) rfl w) (eq_int 9998 Try.underlying3 .i64 a.host b.host w) ?_
  refine fld_step (by decide) (part_cell Try.underlying28 rfl _ 4 (.int .u32 (a.addr : Int)) rfl w) (part_cell Try.underlying28 rfl _ 4 (.int .u32 (b.addr : Int)) rfl w) (eq_nat 9998 Try.underlying28 .u32 a.addr b.addr w) ?_
  refine fld_step (by decide) (part_cell Try.underlying23 rfl _ 5 (.int .u64 (a.born : Int)) rfl w) (part_cell Try.underlying23 rfl _ 5 (.int .u64 (b.born : Int)) rfl w) (eq_nat 9998 Try.underlying23 .u64 a.born b.born w) ?_
  refine fld_step (by decide) (part_cell Try.underlying23 rfl _ 6 (.int .u64 (a.till : Int)) rfl w) (part_cell Try.underlying23 rfl _ 6 (.int .u64 (b.till : Int)) rfl w) (eq_nat 9998 Try.underlying23 .u64 a.till b.till w) ?_
  refine fld_step (by decide) (part_cell Try.underlying23 rfl _ 7 (.int .u64 (a.key : Int)) rfl w) (part_cell Try.underlying23 rfl _ 7 (.int .u64 (b.key : Int)) rfl w) (eq_nat 9998 Try.underlying23 .u64 a.key b.key w) ?_
  exact fld_step (by decide) (part_row Try.underlying29 rfl 32 (by kernel_rfl) _ 8 (bvs a.mac) (a.macs ha) w) (part_row Try.underlying29 rfl 32 (by kernel_rfl) _ 8 (bvs b.mac) (b.macs hb) w) (run_bytes_eq 9997 a.mac b.mac ha hb w) fld_nil
end Go.Proofs.Ytgefbgjgcjiceaa
