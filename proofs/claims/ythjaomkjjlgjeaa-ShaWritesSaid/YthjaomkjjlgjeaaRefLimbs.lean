/- The document's numbers in limbs of 16 bits: limbs, times. Condition: limbs below 2^16, not many. -/
import Derived.Test.YthjaomkjjlgjeaaSeat
import Derived.Test.YthjaomkjjlgjeaaWords
namespace Go.Proofs.Ythjaomkjjlgjeaa
open Go.RowKit
set_option linter.unusedVariables false
set_option linter.unusedSimpArgs false
def nv (x : Nat) : Value := .int .u32 (x : Int)
def nvs (l : List Nat) : List Value := l.map nv
def atN (l : List Nat) (i : Nat) : Nat := l.getD i 0
theorem nvs_length (l : List Nat) : (nvs l).length = l.length := by simp [nvs]
theorem nvs_get (l : List Nat) (i : Nat) (h : i < l.length) : (nvs l)[i]? = some (.int .u32 ((atN l i : Nat) : Int)) := by
  simp [nvs, atN, h, nv]
theorem nvs_set (l : List Nat) (i x : Nat) : (nvs l).set i (.int .u32 (x : Int)) = nvs (l.set i x) := by
  unfold nvs
  rw [List.map_set]
  rfl
theorem Blk.num {w : World} {g t : Nat} {l : List Nat} (h : Blk w g t (nvs l)) {i : Nat} (hi : i < l.length) : w.cell? ⟨g, i, none⟩ = some (.int .u32 ((atN l i : Nat) : Int)) := by
  rw [h.cell, nvs_get l i hi]
theorem Blk.setNum {w : World} {g t : Nat} {l : List Nat} (h : Blk w g t (nvs l)) (i x : Nat) : Blk (w.setCell ⟨g, i, none⟩ (.int .u32 (x : Int))) g t (nvs (l.set i x)) := by
  rw [← nvs_set]
  exact Blk.set h i _
theorem run_make_nums {P : Program} {t e : TypeId} (hsl : P.underlying t = some (.slice e)) (hinfo : (P.info? e).map (fun i => (i.zero, i.size, i.bytes)) = some (some (.int .u32 0), 1, 4)) (n : Nat) (hn : n ≤ 1000000) (w : World) :
    (Instr.makeSlice t (.int .i64 (n : Int)) (.int .i64 (n : Int))).run P w = .ok (.slice (some ⟨w.heap.size, 0, none⟩) n n) (w.alloc (.cells (nvs (List.replicate n 0)).toArray e)) := by
  obtain ⟨i, hi, hz0, hz1, hz2⟩ := info_parts hinfo
  have h := run_make (P := P) w t e i (.int .u32 0) hsl hi hz0 .i64 .i64 n n (by omega) (by omega) (by rw [hz2]; omega) (by omega)
  simp only [Int.toNat_natCast, hz1, Nat.mul_one] at h
  rw [h]
  congr 3
  simp only [madeCells, nvs, List.map_replicate]
  apply Array.ext
  · simp [Value.cells]
  · intro j h1 h2
    simp [Value.cells, nv, Nat.mod_one]
def lims (n : Nat) : List Nat := [n % 65536, n / 65536 % 65536, n / 4294967296 % 65536, n / 281474976710656]
theorem and_low (n : Nat) (h : n < 18446744073709551616) : bits .and .u64 (n : Int) 65535 = ((n % 65536 : Nat) : Int) := by
  have := u64_and_nat n 65535 h (by omega)
  rw [show (65535 : Nat) = 2 ^ 16 - 1 from rfl, Nat.and_two_pow_sub_one_eq_mod] at this
  exact this
theorem and_lowI (z : Int) (h0 : 0 ≤ z) (h : z < 18446744073709551616) : bits .and .u64 z 65535 = z % 65536 := by
  obtain ⟨n, rfl⟩ := Int.eq_ofNat_of_zero_le h0
  rw [and_low n (by omega)]
  omega
set_option maxRecDepth 100000 in
set_option maxHeartbeats 1000000 in
theorem limbs_any (n : Nat) (hn : n < 18446744073709551616) (w : World) : Calls Try.prog 64 #[.int .u64 n] w fun e w' =>
    e = .returned (.slice (some ⟨w.heap.size, 0, none⟩) 4 4) ∧ Blk w' w.heap.size 40 (nvs (lims n)) ∧ Below w.heap.size w w' := by
  have a0 := and_lowI (n : Int) (by omega) (by omega)
  have a1 := and_lowI ((n : Int) / 65536) (by omega) (by omega)
  have a2 := and_lowI ((n : Int) / 4294967296) (by omega) (by omega)
  have m0 : ((n : Int) % 65536) % 4294967296 = (n : Int) % 65536 := by omega
  have m1 : ((n : Int) / 65536 % 65536) % 4294967296 = (n : Int) / 65536 % 65536 := by omega
  have m2 : ((n : Int) / 4294967296 % 65536) % 4294967296 = (n : Int) / 4294967296 % 65536 := by omega
  have m3 : ((n : Int) / 281474976710656) % 4294967296 = (n : Int) / 281474976710656 := by omega
  go_enter Try.func64, Try.ntmps64
  go_wp2_with fail
  go_ret
  refine ⟨rfl, ?_, (Below.refl _ w).alloc (Nat.le_refl _) _⟩
  have := Blk.of_new w 40 (nvs (lims n))
  simpa [nvs, lims, nv] using this
/-- The number whose limbs these are. -/
def valL : List Nat → Nat
  | [] => 0
  | x :: l => x + 65536 * valL l
theorem valL_set : ∀ (l : List Nat) (j x : Nat), j < l.length → valL (l.set j x) + atN l j * 65536 ^ j = valL l + x * 65536 ^ j
  | [], _, _, h => absurd h (by simp)
  | y :: l, 0, x, _ => by simp [valL, atN]; omega
  | y :: l, j + 1, x, h => by
    have ih := valL_set l j x (by simpa using h)
    have e : atN (y :: l) (j + 1) = atN l j := by simp [atN]
    rw [e, List.set_cons_succ]
    simp only [valL]
    have e2 : 65536 ^ (j + 1) = 65536 * 65536 ^ j := by rw [Nat.pow_succ, Nat.mul_comm]
    rw [e2, ← Nat.mul_assoc, ← Nat.mul_assoc, Nat.mul_comm (atN l j) 65536, Nat.mul_comm x 65536, Nat.mul_assoc, Nat.mul_assoc]
    omega
theorem valL_zero (n : Nat) : valL (List.replicate n 0) = 0 := by
  induction n with
  | zero => rfl
  | succ n ih => rw [List.replicate_succ, valL, ih]
/-- Limbs below 2^16, all. -/
def Small (l : List Nat) : Prop := ∀ j, atN l j < 65536
theorem atN_set (l : List Nat) (i j x : Nat) (h : i < l.length) : atN (l.set i x) j = if i = j then x else atN l j := by
  unfold atN
  simp only [List.getD_eq_getElem?_getD, List.getElem?_set, h]
  split <;> simp
theorem Small.set {l : List Nat} (h : Small l) (i x : Nat) (hi : i < l.length) (hx : x < 65536) : Small (l.set i x) := by
  intro j
  rw [atN_set _ _ _ _ hi]
  split
  · exact hx
  · exact h j
theorem lims_small (n : Nat) (hn : n < 18446744073709551616) : Small (lims n) := by
  intro j
  unfold lims atN
  rcases j with _ | _ | _ | _ | j
  · simp; omega
  · simp; omega
  · simp; omega
  · simp; omega
  · simp
theorem valL_lims (n : Nat) : valL (lims n) = n := by
  simp only [lims, valL]; omega
/-- Limbs from k on. -/
theorem valL_take_succ : ∀ (l : List Nat) (k : Nat), valL (l.take (k + 1)) = valL (l.take k) + atN l k * 65536 ^ k
  | [], k => by simp [valL, atN]
  | y :: l, 0 => by simp [valL, atN]
  | y :: l, k + 1 => by
    have ih := valL_take_succ l k
    have e : atN (y :: l) (k + 1) = atN l k := by simp [atN]
    rw [e, List.take_succ_cons, List.take_succ_cons]
    simp only [valL]
    rw [ih, Nat.mul_add, Nat.pow_succ, ← Nat.mul_assoc 65536, Nat.mul_comm 65536 (atN l k), Nat.mul_assoc (atN l k), Nat.mul_comm 65536 (65536 ^ k)]
    omega
/-- A row's round: what has been written, what is carried. -/
structure Row (l0 : List Nat) (a b : List Nat) (i k : Nat) (l : List Nat) (c : Nat) : Prop where
  len : l.length = l0.length
  small : Small l
  carry : c < 65536
  zero : ∀ j, i + b.length ≤ j → i + k ≤ j → atN l j = 0
  val : valL l + c * 65536 ^ (i + k) = valL l0 + atN a i * valL (b.take k) * 65536 ^ i
theorem Row.start {l0 a b : List Nat} {i : Nat} (hs : Small l0) (hz : ∀ j, i + b.length ≤ j → atN l0 j = 0) : Row l0 a b i 0 l0 0 :=
  ⟨rfl, hs, by omega, fun j h _ => hz j h, by simp [valL]⟩
theorem Row.step {l0 a b : List Nat} {i k : Nat} {l : List Nat} {c : Nat} (h : Row l0 a b i k l c) (hk : k < b.length) (hb : atN b k < 65536) (ha : atN a i < 65536) (hik : i + k < l.length) :
    Row l0 a b i (k + 1) (l.set (i + k) ((atN l (i + k) + c + atN a i * atN b k) % 65536)) ((atN l (i + k) + c + atN a i * atN b k) / 65536) := by
  have h1 := h.small (i + k)
  have h2 := h.carry
  have h3 : atN a i * atN b k ≤ 65535 * 65535 := Nat.mul_le_mul (by omega) (by omega)
  refine ⟨by rw [List.length_set]; exact h.len, h.small.set _ _ hik (by omega), by omega, fun j hj1 hj2 => ?_, ?_⟩
  · rw [atN_set _ _ _ _ hik, if_neg (by omega)]
    exact h.zero j hj1 (by omega)
  · have e := valL_set l (i + k) ((atN l (i + k) + c + atN a i * atN b k) % 65536) hik
    have hv := h.val
    rw [valL_take_succ, show i + (k + 1) = (i + k) + 1 from by omega, Nat.pow_succ, Nat.mul_add, Nat.add_mul]
    generalize hx : atN l (i + k) + c + atN a i * atN b k = x at *
    have d := Nat.div_add_mod x 65536
    have e3 : x * 65536 ^ (i + k) = x / 65536 * (65536 ^ (i + k) * 65536) + x % 65536 * 65536 ^ (i + k) := by
      conv => lhs; rw [← d]
      rw [Nat.add_mul, Nat.mul_comm 65536 (x / 65536), Nat.mul_assoc, Nat.mul_comm 65536 (65536 ^ (i + k))]
    have e4 : x * 65536 ^ (i + k) = atN l (i + k) * 65536 ^ (i + k) + c * 65536 ^ (i + k) + atN a i * (atN b k * 65536 ^ k) * 65536 ^ i := by
      rw [← hx, Nat.add_mul, Nat.add_mul, Nat.pow_add, Nat.mul_assoc (atN a i), Nat.mul_assoc (atN a i), Nat.mul_assoc (atN b k), Nat.mul_comm (65536 ^ k)]
    omega
/-- The last round of a row: behind b's limbs, while something is carried. -/
theorem Row.last {l0 a b : List Nat} {i : Nat} {l : List Nat} {c : Nat} (h : Row l0 a b i b.length l c) (hik : i + b.length < l.length) :
    Row l0 a b i (b.length + 1) (l.set (i + b.length) ((atN l (i + b.length) + c) % 65536)) ((atN l (i + b.length) + c) / 65536) ∧ (atN l (i + b.length) + c) / 65536 = 0 := by
  have hz := h.zero (i + b.length) (Nat.le_refl _) (Nat.le_refl _)
  have h2 := h.carry
  have hv := h.val
  have e0 : (0 + c) / 65536 = 0 := by omega
  have e1 : (0 + c) % 65536 = c := by omega
  rw [hz, e0, e1]
  refine ⟨⟨by rw [List.length_set]; exact h.len, h.small.set _ _ hik h2, by omega, fun j hj1 hj2 => ?_, ?_⟩, rfl⟩
  · rw [atN_set _ _ _ _ hik, if_neg (by omega)]
    exact h.zero j hj1 (by omega)
  · have e := valL_set l (i + b.length) c hik
    rw [hz] at e
    rw [List.take_of_length_le (Nat.le_refl _)] at hv
    rw [List.take_of_length_le (by omega)]
    omega
end Go.Proofs.Ythjaomkjjlgjeaa
