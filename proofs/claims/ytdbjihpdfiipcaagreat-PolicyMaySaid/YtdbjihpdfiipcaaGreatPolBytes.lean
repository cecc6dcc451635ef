/- A policy's bytes, plain; how many they are. No condition. -/
import Derived.Test.YtdbjihpdfiipcaaGreatPolData
import Derived.Test.YtdbjihpdfiipcaaGreatWrAll
namespace Go.Proofs.YtdbjihpdfiipcaaGreat
open Go.RowKit
set_option linter.unusedVariables false
/-- A number's low byte. -/
def kB (x : Int) : UInt8 := UInt8.ofNat (x % 256).toNat
theorem kB_eq (x : Int) : x % 256 = ((kB x).toNat : Int) := by
  unfold kB
  have h1 : 0 ≤ x % 256 := Int.emod_nonneg _ (by omega)
  have h2 : x % 256 < 256 := Int.emod_lt_of_pos _ (by omega)
  rw [UInt8.toNat_ofNat']
  omega
def n64 (x : Int) : Nat := (x % 18446744073709551616).toNat
theorem n64_lt (x : Int) : n64 x < 18446744073709551616 := by
  unfold n64
  have h1 : 0 ≤ x % 18446744073709551616 := Int.emod_nonneg _ (by omega)
  have h2 : x % 18446744073709551616 < 18446744073709551616 := Int.emod_lt_of_pos _ (by omega)
  omega
theorem n64_eq (x : Int) : x % 18446744073709551616 = (n64 x : Int) := by
  unfold n64
  have h1 : 0 ≤ x % 18446744073709551616 := Int.emod_nonneg _ (by omega)
  omega
def tmB (t : Tm) : List UInt8 := [kB t.1] ++ txB t.2
def ntB (c : Nt) : List UInt8 := le32 c.1 ++ [kB c.2]
def inB (x : Int) : List UInt8 := leb (n64 x)
def rowB {α : Type} (f : α → List UInt8) (L : List α) : List UInt8 := leb L.length ++ (L.map f).flatten
def rowsB (R : List (List Tm)) : List UInt8 := (R.map (rowB tmB)).flatten
def srB (s : Sr) : List UInt8 := rowsB [s.names, s.spaces] ++ rowB ntB s.nets
def tgB (t : Tg) : List UInt8 := rowB inB t.ports ++ rowsB [t.methods, t.paths, t.hosts]
def wnB (x : Wn) : List UInt8 := txB x.head ++ rowsB [x.terms]
def ruB (r : Ru) : List UInt8 := rowB srB r.froms ++ (rowB tgB r.tos ++ rowB wnB r.whens)
def poB (p : Po) : List UInt8 := leb p.id ++ (txB p.ns ++ (lebs [p.service, n64 p.deny] ++ rowB ruB p.rules))
theorem flat_take {bs : List (List UInt8)} {k : Nat} (hk : k < bs.length) : (bs.take k).flatten ++ bs[k] = (bs.take (k + 1)).flatten := by
  rw [List.take_succ_eq_append_getElem hk, List.flatten_append]
  simp
theorem flat_le {bs : List (List UInt8)} {k : Nat} (hk : k < bs.length) : (bs.take k).flatten.length + (bs[k]).length ≤ bs.flatten.length := by
  have h1 : bs = bs.take (k + 1) ++ bs.drop (k + 1) := (List.take_append_drop _ _).symm
  have h2 : bs.flatten.length = (bs.take (k + 1)).flatten.length + (bs.drop (k + 1)).flatten.length := by
    conv => lhs; rw [h1, List.flatten_append, List.length_append]
  rw [h2, ← flat_take hk, List.length_append]
  omega
theorem flat_bound {α : Type} {f : α → List UInt8} {m : Nat} : ∀ {L : List α}, (∀ x ∈ L, (f x).length ≤ m) → (L.map f).flatten.length ≤ L.length * m
  | [], _ => by simp
  | x :: L, h => by
    have h1 := h x (List.mem_cons_self)
    have h2 := flat_bound (L := L) fun y hy => h y (List.mem_cons_of_mem _ hy)
    rw [List.map_cons, List.flatten_cons, List.length_append, List.length_cons, Nat.add_mul, Nat.one_mul]
    omega
theorem leb_le10 {x : Nat} (h : x < 18446744073709551616) : (leb x).length ≤ 10 := by rw [leb_length _ (by omega)]; exact grp_le x (by omega)
theorem row_bound {α : Type} {f : α → List UInt8} {m k : Nat} {L : List α} (hk : L.length ≤ k) (hk2 : k ≤ 1000) (h : ∀ x ∈ L, (f x).length ≤ m) : (rowB f L).length ≤ 10 + k * m := by
  have h1 := leb_le10 (x := L.length) (by omega)
  have h2 := flat_bound h
  have h3 := Nat.mul_le_mul_right m hk
  unfold rowB
  rw [List.length_append]
  omega
theorem txB_le {s : List UInt8} (h : s.length ≤ 1000) : (txB s).length ≤ 10 + s.length := by
  have h1 := leb_le10 (x := s.length) (by omega)
  unfold txB
  rw [List.length_append]
  omega
theorem tmB_le {t : Tm} (h : tmMay t = true) : (tmB t).length ≤ 75 := by
  unfold tmMay at h
  rw [Bool.and_eq_true] at h
  have h2 : t.2.length ≤ 64 := by
    have := h.2
    split at this
    · rw [List.isEmpty_iff] at this
      rw [this]
      exact Nat.zero_le _
    · simp only [Bool.and_eq_true, decide_eq_true_eq] at this
      omega
  have h3 := txB_le (s := t.2) (by omega)
  unfold tmB
  rw [List.length_append, List.length_singleton]
  omega
theorem allMay_le {L : List Tm} (h : allMay L = true) : (rowB tmB L).length ≤ 460 := by
  unfold allMay at h
  simp only [Bool.and_eq_true, decide_eq_true_eq, List.all_eq_true] at h
  exact row_bound (m := 75) (k := 6) h.1 (by omega) fun x hx => tmB_le (h.2 x hx)
theorem rowsMay_le {R : List (List Tm)} (h : rowsMay R = true) : (rowsB R).length ≤ R.length * 460 := by
  unfold rowsMay at h
  rw [List.all_eq_true] at h
  exact flat_bound fun x hx => allMay_le (h x hx)
theorem srB_le {s : Sr} (h : srMay s = true) : (srB s).length ≤ 1000 := by
  unfold srMay at h
  simp only [Bool.and_eq_true, decide_eq_true_eq] at h
  have h1 := rowsMay_le h.1
  have h2 : (rowB ntB s.nets).length ≤ 10 + 6 * 5 := row_bound h.2.1 (by omega) fun x _ => by simp [ntB, le32]
  unfold srB
  rw [List.length_append]
  simp only [List.length_cons, List.length_nil] at h1
  omega
theorem tgB_le {t : Tg} (h : tgMay t = true) : (tgB t).length ≤ 1450 := by
  unfold tgMay at h
  simp only [Bool.and_eq_true, decide_eq_true_eq] at h
  have h1 := rowsMay_le h.1
  have h2 : (rowB inB t.ports).length ≤ 10 + 6 * 10 := row_bound h.2.1.1 (by omega) fun x _ => leb_le10 (n64_lt x)
  unfold tgB
  rw [List.length_append]
  simp only [List.length_cons, List.length_nil] at h1
  omega
theorem wnB_le {x : Wn} (h : wnMay x = true) : (wnB x).length ≤ 534 := by
  unfold wnMay hdMay at h
  simp only [Bool.and_eq_true, decide_eq_true_eq] at h
  have h1 := rowsMay_le h.2.1
  have h2 := txB_le (s := x.head) (by omega)
  unfold wnB
  rw [List.length_append]
  simp only [List.length_cons, List.length_nil] at h1
  omega
theorem ruB_le {r : Ru} (h : ruMay r = true) : (ruB r).length ≤ 10000 := by
  unfold ruMay at h
  simp only [Bool.and_eq_true, decide_eq_true_eq, List.all_eq_true] at h
  have h1 : (rowB srB r.froms).length ≤ 10 + 3 * 1000 := row_bound h.1.1 (by omega) fun x hx => srB_le (h.1.2 x hx)
  have h2 : (rowB tgB r.tos).length ≤ 10 + 3 * 1450 := row_bound h.2.1.1 (by omega) fun x hx => tgB_le (h.2.1.2 x hx)
  have h3 : (rowB wnB r.whens).length ≤ 10 + 3 * 534 := row_bound h.2.2.1 (by omega) fun x hx => wnB_le (h.2.2.2 x hx)
  unfold ruB
  rw [List.length_append, List.length_append]
  omega
end Go.Proofs.YtdbjihpdfiipcaaGreat
