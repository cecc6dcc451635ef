/- How the arguments of a law are opened: an unsigned number as a natural number, bytes as a list, a text as a list. No condition. -/
import Derived.Test.YtdbjihpdfiipcaaGreatBase
import Derived.ProofKit
import Derived.OpenShut
import Derived.ShutString
import Derived.ChangeOld
namespace Go.Proofs.YtdbjihpdfiipcaaGreat
open Go.RowKit Go.ChangeShapes Go.WideShapes Go.ChangeAt
open Go.ChangeMaps (open_string shut_string)

section
variable {H : Type} {enc : TypeId × Value → H} {P : Program} {W : World} {base t : Nat} {v : Value} {d : DataW H} {ps : List MemPlace}
theorem opn_u8 (ht : P.underlying t = some (.int .u8)) (hval : Value.okWide P W .any base t v) (h : DataW.Trod enc P W 0 (fun _ => true) true t v d ps) : ∃ n : Nat, v = .int .u8 (n : Int) ∧ n < 256 := by
  obtain ⟨a, rfl, _, _, w⟩ := open_int ht hval h
  have := bounds_u8 w
  exact ⟨a.toNat, by rw [Int.toNat_of_nonneg this.1], by omega⟩
theorem opn_u32 (ht : P.underlying t = some (.int .u32)) (hval : Value.okWide P W .any base t v) (h : DataW.Trod enc P W 0 (fun _ => true) true t v d ps) : ∃ n : Nat, v = .int .u32 (n : Int) ∧ n < 4294967296 := by
  obtain ⟨a, rfl, _, _, w⟩ := open_int ht hval h
  have := bounds_u32 w
  exact ⟨a.toNat, by rw [Int.toNat_of_nonneg this.1], by omega⟩
theorem opn_u64 (ht : P.underlying t = some (.int .u64)) (hval : Value.okWide P W .any base t v) (h : DataW.Trod enc P W 0 (fun _ => true) true t v d ps) : ∃ n : Nat, v = .int .u64 (n : Int) ∧ n < 18446744073709551616 := by
  obtain ⟨a, rfl, _, _, w⟩ := open_int ht hval h
  have := bounds_u64 w
  exact ⟨a.toNat, by rw [Int.toNat_of_nonneg this.1], by omega⟩
theorem opn_i64 (ht : P.underlying t = some (.int .i64)) (hval : Value.okWide P W .any base t v) (h : DataW.Trod enc P W 0 (fun _ => true) true t v d ps) : ∃ n : Int, v = .int .i64 n ∧ -9223372036854775808 ≤ n ∧ n ≤ 9223372036854775807 := by
  obtain ⟨a, rfl, _, _, w⟩ := open_int ht hval h
  exact ⟨a, rfl, bounds_i64 w⟩
theorem opn_str (ht : P.underlying t = some .string) (hval : Value.okWide P W .any base t v) (h : DataW.Trod enc P W 0 (fun _ => true) true t v d ps) : ∃ l : List UInt8, v = .string (strB l) ∧ l.length ≤ maxLen := by
  obtain ⟨s, rfl, _, _, hs⟩ := open_string ht hval h
  exact ⟨s.data.toList, by rw [strB_data], by rw [Array.length_toList]; exact hs⟩
theorem bytes_of (zs : List Int) (h : ∀ n ∈ zs, (Lit.int .u8 n).wf = true) : ∃ l : List UInt8, zs = l.map (fun b => (b.toNat : Int)) := by
  induction zs with
  | nil => exact ⟨[], rfl⟩
  | cons z zs ih =>
    obtain ⟨l, rfl⟩ := ih fun n hn => h n (List.mem_cons_of_mem _ hn)
    have := bounds_u8 (h z (List.mem_cons_self))
    exact ⟨UInt8.ofNat z.toNat :: l, by simp; omega⟩
theorem opn_bytes {e : TypeId} (T : ByteTy P t e) (hc : P.cellsOf e = 1) (hval : Value.okWide P W .any base t v) (h : DataW.Trod enc P W 0 (fun _ => true) true t v d ps) :
    ∃ A n c l, v = .slice A n c ∧ RdB W W.heap.size A n l ∧ n ≤ c ∧ c ≤ maxLen := by
  obtain ⟨a0, len, cap, rfl⟩ := okWide_slice T.sl hval
  obtain ⟨fuel, hf⟩ := h
  rcases open_ints T.sl T.el hc hf with ⟨hcs, _⟩ | ⟨x, l, c, zs, hcs, _, hl, hm, hz, _, hcell, hwz⟩
  · simp [Value.cells] at hcs
    obtain ⟨rfl, rfl, rfl⟩ := hcs
    exact ⟨none, 0, 0, [], rfl, RdB.nil, Nat.le_refl _, Nat.zero_le _⟩
  · simp [Value.cells] at hcs
    obtain ⟨rfl, rfl, rfl⟩ := hcs
    obtain ⟨bs, rfl⟩ := bytes_of zs hwz
    simp at hz
    refine ⟨_, _, _, bs.take len, rfl, ⟨by simp; omega, fun hn => ?_⟩, hl, hm⟩
    obtain ⟨b, off, spot⟩ := x
    have h0 := hcell 0 (by simp; omega)
    have hspot : spot = none := by simpa [Addr.add] using World.cell?_spot h0
    subst hspot
    refine ⟨b, off, rfl, World.block_lt_of_cell? W ⟨b, off, none⟩ (u := .int .u8 ((bs.map fun b => (b.toNat : Int)).getD 0 0)) (by simpa [Addr.add] using h0), fun j hj => ?_⟩
    have hj1 : j < len := by simp at hj; omega
    have hj2 : j < bs.length := by simp at hj; omega
    have h1 := hcell j (by simpa using hj2)
    rw [show (⟨b, off, none⟩ : Addr).add j = ⟨b, off + j, none⟩ from by unfold Addr.add; split <;> simp_all] at h1
    rw [h1]
    simp [bv, hj2]
theorem okWide_arr {n e : TypeId} (ht : P.underlying t = some (.array n e)) (h : Value.okWide P W .any base t v) : ∃ cs, v = .agg cs ∧ cs.size = P.cellsOf t := by
  unfold Value.okWide at h
  simp only [ht] at h
  obtain ⟨cs, h1, h2, _⟩ := h
  exact ⟨cs, h1, h2⟩
theorem opn_arr {n e : Nat} (ht : P.underlying t = some (.array n e)) (he : P.underlying e = some (.int .u8)) (hc : P.cellsOf e = 1) (hn : P.cellsOf t = n) (hval : Value.okWide P W .any base t v) (h : DataW.Trod enc P W 0 (fun _ => true) true t v d ps) :
    ∃ l : List UInt8, v = .agg (bvs l).toArray ∧ l.length = n := by
  obtain ⟨cs, rfl, hs⟩ := okWide_arr ht hval
  obtain ⟨fuel, hf⟩ := h
  obtain ⟨xs, m, _, _, hlen, hxs, hx⟩ := DataW.trod_array ht hf
  simp only [Value.cells] at hlen hx
  rw [hn] at hlen
  have hcell : ∀ i (hi : i < n), ∃ b : UInt8, cs.toList[i]? = some (bv b) := by
    intro i hi
    have h1 := hx i hi
    rw [hc, Nat.mul_one, List.getElem?_eq_getElem (by omega)] at h1
    obtain ⟨z, hz, _, hw⟩ := DataW.trod_int he h1
    have hb := bounds_u8 hw
    refine ⟨UInt8.ofNat z.toNat, ?_⟩
    have h2 := congrArg (·[0]?) hz
    simp only [List.getElem?_cons_zero] at h2
    rw [List.getElem?_take_of_lt (by omega), List.getElem?_drop, Nat.add_zero] at h2
    rw [h2, bv]
    simp; omega
  refine ⟨cs.toList.map fun v => match v with | .int _ z => UInt8.ofNat z.toNat | _ => 0, ?_, by simpa using hlen⟩
  congr 1
  apply Array.toList_inj.1
  apply List.ext_getElem?
  intro i
  by_cases hi : i < n
  · obtain ⟨b, hb⟩ := hcell i hi
    simp only [bvs, List.map_map, List.getElem?_map, hb, Option.map_some, Function.comp, bv]
    simp
  · simp [bvs, List.getElem?_eq_none (show cs.toList.length ≤ i by omega)]
end
end Go.Proofs.YtdbjihpdfiipcaaGreat
