/- A number of one byte, of four: the reader's and the document's are one. Plain. No condition. -/
import Derived.Test.YtdblgjecbmebjaaRefReader3
namespace Go.Proofs.Ytdblgjecbmebjaa
open Go.RowKit
theorem u8_wide (s : RS) : takeS findU8 0 s = (wideN (takeS (findRaw (1 : Nat)) [] s).1 (takeS (findRaw (1 : Nat)) [] s).1.length, (takeS (findRaw (1 : Nat)) [] s).2) := by
  obtain ⟨l, st⟩ := s
  cases st
  · cases l with
    | nil => rfl
    | cons x l =>
      have h : findRaw (1 : Nat) (x :: l) = some ([x], 1) := by
        rw [findRaw, if_neg (by rw [List.length_cons]; omega)]
        rfl
      rw [takeS_some (z := 0) (g := findU8) (x := x.toNat) (k := 1) rfl, takeS_some h]
      simp [wideN, at8, List.range_succ]
  · rfl
theorem wide4 (a b c d : UInt8) : wideN [a, b, c, d] 4 = a.toNat + b.toNat * 256 + c.toNat * 65536 + d.toNat * 16777216 := by
  rw [wideN_succ, wideN_succ, wideN_succ, wideN_succ]
  have e0 : wideN [a, b, c, d] 0 = 0 := rfl
  have e1 : at8 [a, b, c, d] 0 = a := rfl
  have e2 : at8 [a, b, c, d] 1 = b := rfl
  have e3 : at8 [a, b, c, d] 2 = c := rfl
  have e4 : at8 [a, b, c, d] 3 = d := rfl
  rw [e0, e1, e2, e3, e4]
  generalize a.toNat = x
  generalize b.toNat = y
  generalize c.toNat = z
  generalize d.toNat = t
  omega
theorem findU32_four (a b c d : UInt8) (l : List UInt8) : findU32 (a :: b :: c :: d :: l) = some (a.toNat + b.toNat * 256 + c.toNat * 65536 + d.toNat * 16777216, 4) := by
  rw [findU32]
theorem u32_wide (s : RS) : takeS findU32 0 s = (wideN (takeS (findRaw (4 : Nat)) [] s).1 (takeS (findRaw (4 : Nat)) [] s).1.length, (takeS (findRaw (4 : Nat)) [] s).2) := by
  obtain ⟨l, st⟩ := s
  cases st
  · by_cases h4 : l.length < 4
    · have h : findRaw (4 : Nat) l = none := by rw [findRaw, if_pos (by omega)]
      rw [takeS_none (findU32_short h4), takeS_none h]
      simp [wideN]
    · rcases l with _ | ⟨a, _ | ⟨b, _ | ⟨c, _ | ⟨d, l⟩⟩⟩⟩
      · exact absurd (by simp) h4
      · exact absurd (by simp) h4
      · exact absurd (by simp) h4
      · exact absurd (by simp) h4
      · have h : findRaw (4 : Nat) (a :: b :: c :: d :: l) = some ([a, b, c, d], 4) := by
          rw [findRaw, if_neg (by simp only [List.length_cons]; omega)]
          rfl
        rw [takeS_some (z := 0) (findU32_four a b c d l), takeS_some h]
        simp only [List.length_cons, List.length_nil, Nat.zero_add, Nat.reduceAdd]
        rw [wide4]
  · rfl
theorem u8_lt (s : RS) : (takeS findU8 0 s).1 < 256 := by
  obtain ⟨l, st⟩ := s
  cases st
  · cases l with
    | nil => exact (by decide : (0 : Nat) < 256)
    | cons x l => exact x.toNat_lt
  · exact (by decide : (0 : Nat) < 256)
theorem u32_lt (s : RS) : (takeS findU32 0 s).1 < 4294967296 := by
  obtain ⟨l, st⟩ := s
  cases st
  · cases hf : findU32 l with
    | none => rw [takeS_none hf]; exact (by decide : (0 : Nat) < 4294967296)
    | some yk =>
      obtain ⟨y, k⟩ := yk
      rw [takeS_some hf]
      exact (findU32_inv hf).2.2.2
  · exact (by decide : (0 : Nat) < 4294967296)
theorem short_lt (s : RS) : (takeS findShort 0 s).1 < 18446744073709551616 := by
  obtain ⟨l, st⟩ := s
  cases st
  · cases hf : findShort l with
    | none => rw [takeS_none hf]; exact (by decide : (0 : Nat) < 18446744073709551616)
    | some yk =>
      obtain ⟨y, k⟩ := yk
      rw [takeS_some hf]
      exact (findShort_le hf).2.2
  · exact (by decide : (0 : Nat) < 18446744073709551616)
theorem takeS_len {α : Type} (g : List UInt8 → Option (α × Nat)) (z : α) (s : RS) : (takeS g z s).2.l.length ≤ s.l.length := by
  unfold takeS
  split
  · exact Nat.le_refl _
  · split
    · exact Nat.le_refl _
    · simp
theorem takeS_ne {α : Type} (g : List UInt8 → Option (α × Nat)) (z : α) (s : RS) : (takeS g z s).2.l ≠ [] → s.l ≠ [] := by
  intro h e
  have := takeS_len g z s
  rw [e] at this
  exact h (List.eq_nil_of_length_eq_zero (by simpa using this))
end Go.Proofs.Ytdblgjecbmebjaa
