/- What is answered of a field that is whole, and of one that is cut, plain. Conditions: sizes. -/
import Derived.Test.YtdblgjecbmebjaaAnswers
import Derived.Test.YtdblgjecbmebjaaFind
namespace Go.Proofs.Ytdblgjecbmebjaa
open Go.RowKit
theorem ofNat_mod (n : Nat) : (UInt8.ofNat n).toNat = n % 256 := by simp
theorem findU32_le32 (n : Nat) (r : List UInt8) : findU32 (le32 n ++ r) = some (n % 4294967296, 4) := by
  simp only [le32, List.cons_append, List.nil_append, findU32, ofNat_mod]
  congr 2
  omega
theorem findU32_short {l : List UInt8} (h : l.length < 4) : findU32 l = none := by
  rcases l with _ | ⟨x0, _ | ⟨x1, _ | ⟨x2, _ | ⟨x3, l⟩⟩⟩⟩ <;> first | rfl | (simp at h; omega)
theorem takeS_some {α : Type} {g : List UInt8 → Option (α × Nat)} {z x : α} {l : List UInt8} {k : Nat} (h : g l = some (x, k)) : takeS g z ⟨l, false⟩ = (x, ⟨l.drop k, false⟩) := by
  rw [takeS]
  simp only [Bool.false_eq_true, if_false]
  rw [h]
theorem takeS_none {α : Type} {g : List UInt8 → Option (α × Nat)} {z : α} {l : List UInt8} (h : g l = none) : takeS g z ⟨l, false⟩ = (z, ⟨l, true⟩) := by
  rw [takeS]
  simp only [Bool.false_eq_true, if_false]
  rw [h]
theorem ans_whole (f : Fd) (hok : Fok f) (r : List UInt8) : ansS f ⟨fbytes f ++ r, false⟩ = (true, ⟨r, false⟩) := by
  have hm := Int.emod_nonneg f.more (show (256 : Int) ≠ 0 by omega)
  unfold ansS fbytes
  have hk := fk_lt f
  generalize fk f = K at *
  rcases K with _ | _ | _ | _ | _ | K
  · simp only [List.singleton_append]
    rw [takeS_some (x := (UInt8.ofNat f.n).toNat) (k := 1) rfl, ofNat_mod]
    simp
  · simp only
    rw [takeS_some (findU32_le32 f.n r)]
    simp [le32]
  · simp only
    rw [takeS_some (findShort_leb f.n r hok.1)]
    simp
  · simp only
    have h := findText_own (f.s.length + f.more % 256) f.s r hok.2
    rw [if_neg (by omega)] at h
    rw [takeS_some h, List.drop_left]
    simp
  · simp only
    have h : findRaw f.s.length (f.s ++ r) = some (f.s, f.s.length) := by
      rw [findRaw, if_neg (by rw [List.length_append]; omega)]
      simp
    rw [takeS_some h]
    simp
  · omega
theorem ans_cut (f : Fd) (hok : Fok f) (j : Nat) (hj : j < (fbytes f).length) : (ansS f ⟨(fbytes f).take j, false⟩).2 = ⟨(fbytes f).take j, true⟩ := by
  have hm := Int.emod_nonneg f.more (show (256 : Int) ≠ 0 by omega)
  unfold ansS
  unfold fbytes at *
  have hk := fk_lt f
  generalize fk f = K at *
  rcases K with _ | _ | _ | _ | _ | K
  · simp only at hj ⊢
    obtain rfl : j = 0 := by simp at hj; omega
    rfl
  · simp only at hj ⊢
    rw [takeS_none (findU32_short (by rw [List.length_take]; simp [le32] at hj ⊢; omega))]
  · simp only at hj ⊢
    rw [takeS_none (findShort_cut f.n j hok.1 hj)]
  · simp only at hj ⊢
    have h : findText (f.s.length + f.more % 256) ((leb f.s.length ++ f.s).take j) = none := by
      by_cases h1 : j < (leb f.s.length).length
      · rw [List.take_append_of_le_length (by omega), findText, findShort_cut f.s.length j hok.2 h1]
      · rw [List.take_append, List.take_of_length_le (by omega), findText, findShort_leb f.s.length _ hok.2]
        have hlt : (leb f.s.length ++ f.s.take (j - (leb f.s.length).length)).length < (leb f.s.length).length + f.s.length := by
          rw [List.length_append] at hj ⊢
          rw [List.length_take]
          omega
        simp only
        rw [if_pos (.inr (.inr hlt))]
    rw [takeS_none h]
  · simp only at hj ⊢
    have h : findRaw f.s.length (f.s.take j) = none := by
      rw [findRaw, if_pos]
      rw [List.length_take]
      omega
    rw [takeS_none h]
  · omega
theorem bytesOf_drop {fs : List Fd} {k : Nat} {f : Fd} (h : fs[k]? = some f) : (bytesOf fs).drop (bytesOf (fs.take k)).length = fbytes f ++ (bytesOf fs).drop (bytesOf (fs.take (k + 1))).length := by
  have e : ∀ j, (bytesOf fs).drop (bytesOf (fs.take j)).length = bytesOf (fs.drop j) := by
    intro j
    conv => lhs; rw [← List.take_append_drop j fs]
    have : bytesOf (fs.take j ++ fs.drop j) = bytesOf (fs.take j) ++ bytesOf (fs.drop j) := by simp only [bytesOf, List.flatMap_append]
    rw [this]
    have h2 : (fs.take j ++ fs.drop j).take j = fs.take j := by rw [List.take_append_drop]
    rw [h2, List.drop_left]
  rw [e, e]
  obtain ⟨hk, rfl⟩ := List.getElem?_eq_some_iff.1 h
  rw [List.drop_eq_getElem_cons hk]
  simp only [bytesOf, List.flatMap_cons]
theorem bytesOf_len {fs : List Fd} {k : Nat} {f : Fd} (h : fs[k]? = some f) : (bytesOf (fs.take (k + 1))).length = (bytesOf (fs.take k)).length + (fbytes f).length := by
  rw [bytesOf_take h, List.length_append]
/-- A field of the cut bytes that is whole, one that is not. -/
theorem cut_whole {fs : List Fd} {i : Nat} {f : Fd} (h : fs[i]? = some f) {k : Nat} (hk : (bytesOf (fs.take (i + 1))).length ≤ k) :
    ((bytesOf fs).take k).drop (bytesOf (fs.take i)).length = fbytes f ++ ((bytesOf fs).take k).drop (bytesOf (fs.take (i + 1))).length := by
  have hl := bytesOf_len h
  rw [List.drop_take, bytesOf_drop h, List.take_append, List.take_of_length_le (by omega), List.drop_take]
  congr 2
  omega
theorem cut_part {fs : List Fd} {i : Nat} {f : Fd} (h : fs[i]? = some f) {k : Nat} (hk : k < (bytesOf (fs.take (i + 1))).length) (hk0 : (bytesOf (fs.take i)).length ≤ k) :
    ((bytesOf fs).take k).drop (bytesOf (fs.take i)).length = (fbytes f).take (k - (bytesOf (fs.take i)).length) ∧ k - (bytesOf (fs.take i)).length < (fbytes f).length := by
  have hl := bytesOf_len h
  refine ⟨?_, by omega⟩
  rw [List.drop_take, bytesOf_drop h, List.take_append_of_le_length (by omega)]
theorem RdB.take {w : World} {B : Nat} {A : Option Addr} {n : Nat} {l : List UInt8} (h : RdB w B A n l) {k : Nat} (hk : k ≤ n) : RdB w B A k (l.take k) :=
  ⟨by rw [List.length_take, h.1]; omega, fun hn => by
    obtain ⟨b, off, h1, h2, h3⟩ := h.2 (by omega)
    exact ⟨b, off, h1, h2, fun j hj => by rw [h3 j (by rw [List.length_take] at hj; omega)]; simp⟩⟩
end Go.Proofs.Ytdblgjecbmebjaa
