/- Rows of names, as they are read; whether a name is among others. No condition. -/
import Derived.Test.YtopemhdoccgjmaaCmpG
import Derived.BigQuiet
import Derived.Laws.StructEq
namespace Go.Proofs.Ytopemhdoccgjmaa
open Go.RowKit
set_option linter.unusedVariables false
set_option linter.unusedSimpArgs false
abbrev Nm := List UInt8 × List UInt8
def nmC (x : Nm) : List Value := [.string (strB x.1), .string (strB x.2)]
theorem nmC_v (x : Nm) : nmV x.1 x.2 = .agg (nmC x).toArray := rfl
def RdN (w : World) (B : Nat) (A : Option Addr) (n : Nat) (L : List Nm) : Prop :=
  L.length = n ∧ (0 < n → ∃ b off, A = some ⟨b, off, none⟩ ∧ b < B ∧ ∀ j (hj : j < L.length) i v, (nmC L[j])[i]? = some v → w.cell? ⟨b, off + j * 2 + i, none⟩ = some v)
theorem RdN.below {w w' : World} {B : Nat} {A : Option Addr} {n : Nat} {L : List Nm} (h : RdN w B A n L) (hb : Below B w w') : RdN w' B A n L :=
  ⟨h.1, fun hn => by
    obtain ⟨b, off, h1, h2, h3⟩ := h.2 hn
    exact ⟨b, off, h1, h2, fun j hj i v hv => (hb.cell (p := ⟨b, off + j * 2 + i, none⟩) h2).trans (h3 j hj i v hv)⟩⟩
theorem RdN.more {w : World} {B B' : Nat} {A : Option Addr} {n : Nat} {L : List Nm} (h : RdN w B A n L) (hB : B ≤ B') : RdN w B' A n L :=
  ⟨h.1, fun hn => by
    obtain ⟨b, off, h1, h2, h3⟩ := h.2 hn
    exact ⟨b, off, h1, by omega, h3⟩⟩
theorem RdN.nil {w : World} {B : Nat} {A : Option Addr} : RdN w B A 0 [] := ⟨rfl, fun h => absurd h (by omega)⟩
/-- Name k of a row. -/
def nmAt (L : List Nm) (k : Nat) : Nm := L.getD k ([], [])
theorem nmAt_eq {L : List Nm} {k : Nat} (h : k < L.length) : nmAt L k = L[k] := by simp [nmAt, List.getD, h]
theorem nmAt_get {L : List Nm} {k : Nat} (h : k < L.length) : L[k]? = some (nmAt L k) := by rw [nmAt_eq h]; simp [h]
theorem RdN.at_ {w : World} {B : Nat} {A : Option Addr} {n : Nat} {L : List Nm} (h : RdN w B A n L) {k : Nat} (hk : k < n) : ∃ b off, A = some ⟨b, off, none⟩ ∧ b < B ∧
    w.cell? ⟨b, off + k * 2, none⟩ = some (.string (strB (nmAt L k).1)) ∧ w.cell? ⟨b, off + k * 2 + 1, none⟩ = some (.string (strB (nmAt L k).2)) := by
  obtain ⟨b, off, h1, h2, h3⟩ := h.2 (by omega)
  have hl := h.1
  have hk' : k < L.length := by omega
  rw [nmAt_eq hk']
  exact ⟨b, off, h1, h2, h3 k hk' 0 _ rfl, h3 k hk' 1 _ rfl⟩
theorem part_cell {P : Program} {e : Nat} {d : TypeDesc} (he : P.underlying e = some d) (hd : d.isRow = false) (xs : Array Value) (i : Nat) (v : Value) (hv : xs[i]? = some v) (w : World) : (part e xs i).run P w = .ok v w := by
  cases d <;> first | (simp [part, isAgg, run_underlying he, hv]; done) | cases hd
theorem fld_step {P : Program} {w : World} {d : Nat} {xs ys : Array Value} {f : Field} {fs : List Field} (hf : f.name ≠ "_") {a b : Value} {r : Bool} (ha : (part f.type xs f.offset).run P w = .ok a w) (hb : (part f.type ys f.offset).run P w = .ok b w) (hr : (Op.equalIn d f.type a b).run P w = .ok r w) {q : Bool} (hq : (Op.eqFields d xs ys fs).run P w = .ok q w) :
    (Op.eqFields d xs ys (f :: fs)).run P w = .ok (r && q) w := by
  simp only [Op.eqFields, hf, ne_eq, not_false_eq_true, if_true, Sem.run_bind, ha, hb, hr, Result.andThen_ok]
  cases r
  · simp
  · simpa using hq
theorem fld_nil {P : Program} {w : World} {d : Nat} {xs ys : Array Value} : (Op.eqFields d xs ys []).run P w = .ok true w := by simp [Op.eqFields]
theorem strB_beq (a b : List UInt8) : ((strB a).toList == (strB b).toList) = decide (a = b) := by
  rw [strB_toList, strB_toList, Bool.eq_iff_iff]
  simp
theorem eq_str {P : Program} {e : Nat} (d : Nat) (he : P.underlying e = some .string) (a b : List UInt8) (w : World) : (Op.equalIn (d + 1) e (.string (strB a)) (.string (strB b))).run P w = .ok (decide (a = b)) w := by
  rw [run_equalIn_string w _ _ _ _ he, strB_beq]
set_option maxRecDepth 100000 in
theorem run_name_eq (d : Nat) (ns sa ns' sa' : List UInt8) (w : World) : (Op.equalIn (d + 2) 24 (.agg #[.string (strB ns), .string (strB sa)]) (.agg #[.string (strB ns'), .string (strB sa')])).run Try.prog w = .ok (decide (ns = ns') && decide (sa = sa')) w := by
  rw [run_equalIn_struct (P := Try.prog) w (d + 1) 24 _ _ (by simp only [Program.fieldsOf, Try.underlying24]) (by kernel_rfl)]
  simp only [Program.fieldsOf, Try.underlying24]
  rw [← Bool.and_true (decide (sa = sa'))]
  refine fld_step (by decide) (part_cell Try.underlying9 rfl _ 0 (.string (strB ns)) rfl w) (part_cell Try.underlying9 rfl _ 0 (.string (strB ns')) rfl w) (eq_str d Try.underlying9 ns ns' w) ?_
  exact fld_step (by decide) (part_cell Try.underlying9 rfl _ 1 (.string (strB sa)) rfl w) (part_cell Try.underlying9 rfl _ 1 (.string (strB sa')) rfl w) (eq_str d Try.underlying9 sa sa' w) fld_nil
theorem run_nm_eq (x y a b : List UInt8) (w : World) : (Op.equalIn 10000 24 (.agg #[.string (strB x), .string (strB y)]) (.agg #[.string (strB a), .string (strB b)])).run Try.prog w = .ok (decide ((x, y) = (a, b))) w := by
  rw [run_name_eq 9998 x y a b w]
  congr 1
  rw [Bool.eq_iff_iff]
  simp
set_option maxRecDepth 100000 in
set_option maxHeartbeats 2000000 in
theorem has_any (A : Option Addr) (n c : Nat) (L : List Nm) (a b : List UInt8) (w : World) (h : RdN w w.heap.size A n L) (hn : n ≤ 9223372036854775807) :
    Calls Try.prog 21 #[.slice A n c, nmV a b] w fun e w' => e = .returned (.bool (decide ((a, b) ∈ L))) ∧ Below w.heap.size w w' := by
  have hl := h.1
  unfold nmV
  go_enter Try.func21, Try.ntmps21
  go_upto_region 1 with fail
  refine abs (fun w1 => Blk w1 w.heap.size 24 [.string (strB a), .string (strB b)] ∧ Below w.heap.size w w1) ⟨Blk.newAt rfl _ _, (Below.refl _ w).alloc (Nat.le_refl _) _⟩ ?_
  rintro w1 ⟨k1, f1⟩
  go_wp2_with fail
  go_loopw [5] (fun i wr => ∃ k : Nat, i = .int .i64 k ∧ k ≤ n ∧ (∀ j, j < k → nmAt L j ≠ (a, b)) ∧ Blk wr w.heap.size 24 [.string (strB a), .string (strB b)] ∧ Below w.heap.size w wr) (fun i _ => n - (intOf i).toNat)
  case atStart => exact ⟨0, rfl, Nat.zero_le _, fun j hj => absurd hj (by omega), k1, f1⟩
  case round =>
    clear k1 f1
    obtain ⟨k, rfl, hk, hno, k1, f1⟩ := hrel
    have HNO := Lib.hid hno; clear hno
    by_cases hlt : k < n
    · have d1 : decide ((k : Int) < (n : Int)) = true := by simp; omega
      have b1 : (0 : Int) ≤ (k : Int) := by omega
      have b2 : (k : Int) < (n : Int) := by omega
      obtain ⟨bl, off, rfl, hbl, q0, q1⟩ := (h.below f1).at_ hlt
      have c0 : wr.cell? ⟨w.heap.size, 0, none⟩ = some (.string (strB a)) := k1.cell 0
      have c1 : wr.cell? ⟨w.heap.size, 1, none⟩ = some (.string (strB b)) := k1.cell 1
      obtain ⟨x, y, hxy⟩ : ∃ x y, nmAt L k = (x, y) := ⟨_, _, rfl⟩
      rw [hxy] at q0 q1
      simp only at q0 q1
      have HXY := Lib.hid hxy; clear hxy
      have qe := fun w : World => run_nm_eq x y a b w
      by_cases he : (x, y) = (a, b)
      · rw [decide_eq_true he] at qe
        have hin : (a, b) ∈ L := by
          have := List.getElem_mem (l := L) (n := k) (by omega)
          rw [← nmAt_eq, HXY.out, he] at this
          exact this
        have HIN := Lib.hid hin; clear hin he
        go_wp2_with fail
        go_quiet (fail)
        go_wp2_with fail
        go_ret
        exact ⟨by rw [decide_eq_true HIN.out]; rfl, belowN f1 _⟩
      · rw [decide_eq_false he] at qe
        have HE := Lib.hid he; clear he
        go_wp2_with fail
        go_quiet (fail)
        go_wp2_with fail
        go_roundw
        case rel =>
          refine ⟨k + 1, by go_num, by omega, fun j hj => ?_, k1, belowN f1 _⟩
          by_cases e : j = k
          · subst e; rw [HXY.out]; exact HE.out
          · exact HNO.out j (by omega)
        case measure => simp [intOf]; omega
    · have d1 : decide ((k : Int) < (n : Int)) = false := by simp; omega
      go_wp2_with fail
      go_ret
      have : (a, b) ∉ L := fun hm => by
        obtain ⟨j, hj, e⟩ := List.getElem_of_mem hm
        exact HNO.out j (by omega) (by rw [nmAt_eq hj]; exact e)
      exact ⟨by rw [decide_eq_false this]; rfl, f1⟩
end Go.Proofs.Ytopemhdoccgjmaa
