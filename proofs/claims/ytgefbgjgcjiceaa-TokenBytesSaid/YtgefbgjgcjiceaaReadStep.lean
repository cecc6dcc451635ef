/- A token's reading, step by step, over positions. No condition. -/
import Derived.Test.YtgefbgjgcjiceaaTokRd
namespace Go.Proofs.Ytgefbgjgcjiceaa
open Go.RowKit
set_option linter.unusedVariables false
theorem takeS_stay {α : Type} {f : List UInt8 → Option (α × Nat)} {z : α} {s : RS} (h : s.st = true) : (takeS f z s).2 = s := by
  unfold takeS
  rw [if_pos h]
theorem takeS_stay1 {α : Type} {f : List UInt8 → Option (α × Nat)} {z : α} {s : RS} (h : s.st = true) : (takeS f z s).1 = z := by
  unfold takeS
  rw [if_pos h]
theorem smallS_stay {s : RS} (h : s.st = true) : (smallS s).2 = s := by
  unfold smallS
  rw [takeS_stay1 h, takeS_stay h, if_neg (by omega)]
theorem stuck9 {l : List UInt8} (h : (rA9 l).2.st = true) : readE l = true := by
  unfold readE
  rw [h]
  rfl
theorem stuck8 {l : List UInt8} (h : (rA8 l).2.st = true) : readE l = true :=
  stuck9 (show (takeS (findRaw 32) [] (rA8 l).2).2.st = true from by rw [takeS_stay h]; exact h)
theorem stuck7 {l : List UInt8} (h : (rA7 l).2.st = true) : readE l = true :=
  stuck8 (show (takeS findShort 0 (rA7 l).2).2.st = true from by rw [takeS_stay h]; exact h)
theorem stuck6 {l : List UInt8} (h : (rA6 l).2.st = true) : readE l = true :=
  stuck7 (show (takeS findShort 0 (rA6 l).2).2.st = true from by rw [takeS_stay h]; exact h)
theorem stuck5 {l : List UInt8} (h : (rA5 l).2.st = true) : readE l = true :=
  stuck6 (show (takeS findShort 0 (rA5 l).2).2.st = true from by rw [takeS_stay h]; exact h)
theorem stuck4 {l : List UInt8} (h : (rA4 l).2.st = true) : readE l = true :=
  stuck5 (show (takeS findU32 0 (rA4 l).2).2.st = true from by rw [takeS_stay h]; exact h)
theorem stuck3 {l : List UInt8} (h : (rA3 l).2.st = true) : readE l = true :=
  stuck4 (show (smallS (rA3 l).2).2.st = true from by rw [smallS_stay h]; exact h)
theorem stuck2 {l : List UInt8} (h : (rA2 l).2.st = true) : readE l = true :=
  stuck3 (show (takeS findShort 0 (rA2 l).2).2.st = true from by rw [takeS_stay h]; exact h)
theorem stuck1 {l : List UInt8} (h : (rA1 l).2.st = true) : readE l = true :=
  stuck2 (show (takeS (findText 20) [] (rA1 l).2).2.st = true from by rw [takeS_stay h]; exact h)
theorem readV_no0 {l : List UInt8} (h : (rA0 l).1 ≠ 1) : readV l = (tkZero, 2) := by
  unfold readV
  rw [if_pos h]
theorem readV_no {l : List UInt8} (h : readE l = true) : readV l = (tkZero, 2) := by
  unfold readV
  rw [h]
  split
  · rfl
  · rfl
theorem readV_nomay {l : List UInt8} (h : tkOk (readT l) = false) : readV l = (tkZero, 2) := by
  unfold readV
  rw [h]
  split
  · rfl
  · simp
theorem readV_ok {l : List UInt8} (h0 : (rA0 l).1 = 1) (hE : readE l = false) (hk : tkOk (readT l) = true) : readV l = (readT l, 0) := by
  unfold readV
  rw [if_neg (by omega), hE, hk]
  rfl
theorem takeS_nn {α : Type} {f : List UInt8 → Option (α × Nat)} {z : α} {l : List UInt8} (h : f l = none) : takeS f z ⟨l, false⟩ = (z, ⟨l, true⟩) := by
  unfold takeS
  rw [if_neg (show ¬ (false = true) by simp)]
  simp only [h]
theorem takeS_sm {α : Type} {f : List UInt8 → Option (α × Nat)} {z x : α} {k : Nat} {l : List UInt8} (h : f l = some (x, k)) : takeS f z ⟨l, false⟩ = (x, ⟨l.drop k, false⟩) := by
  unfold takeS
  rw [if_neg (show ¬ (false = true) by simp)]
  simp only [h]
/-! ### One thing at a position -/
theorem at_short_none {l : List UInt8} {pos : Nat} (h : findShort (l.drop pos) = none) : (takeS findShort 0 ⟨l.drop pos, false⟩).2.st = true := by
  rw [takeS_nn h]
theorem at_short {l : List UInt8} {pos x k : Nat} (h : findShort (l.drop pos) = some (x, k)) : takeS findShort 0 ⟨l.drop pos, false⟩ = (x, ⟨l.drop (pos + k), false⟩) := by
  rw [takeS_sm h, List.drop_drop]
theorem at_text_none {l : List UInt8} {pos : Nat} (h : findShort (l.drop pos) = none) : (takeS (findText 20) [] ⟨l.drop pos, false⟩).2.st = true := by
  have h2 : findText 20 (l.drop pos) = none := by unfold findText; rw [h]
  rw [takeS_nn h2]
theorem at_text_no {l : List UInt8} {pos x k : Nat} (h : findShort (l.drop pos) = some (x, k)) (hx : 20 < x ∨ l.length < pos + k + x) : (takeS (findText 20) [] ⟨l.drop pos, false⟩).2.st = true := by
  have hk := (findShort_le h).2.1
  have hk0 := (findShort_le h).1
  rw [List.length_drop] at hk
  have h2 : findText 20 (l.drop pos) = none := by
    unfold findText
    rw [h]
    exact if_pos (by rw [List.length_drop]; omega)
  rw [takeS_nn h2]
theorem at_text {l : List UInt8} {pos x k : Nat} (h : findShort (l.drop pos) = some (x, k)) (h1 : x ≤ 20) (h2 : pos + k + x ≤ l.length) : takeS (findText 20) [] ⟨l.drop pos, false⟩ = ((l.drop (pos + k)).take x, ⟨l.drop (pos + k + x), false⟩) := by
  have h3 : findText 20 (l.drop pos) = some (((l.drop pos).drop k).take x, k + x) := by
    unfold findText
    rw [h]
    exact if_neg (by rw [List.length_drop]; omega)
  rw [takeS_sm h3, List.drop_drop, List.drop_drop, Nat.add_assoc]
theorem at_small_none {l : List UInt8} {pos : Nat} (h : findShort (l.drop pos) = none) : (smallS ⟨l.drop pos, false⟩).2.st = true := by
  unfold smallS
  split
  · rfl
  · exact at_short_none h
theorem at_small_no {l : List UInt8} {pos x k : Nat} (h : findShort (l.drop pos) = some (x, k)) (hx : 9 < x) : (smallS ⟨l.drop pos, false⟩).2.st = true := by
  unfold smallS
  rw [at_short h, if_pos hx]
theorem at_small {l : List UInt8} {pos x k : Nat} (h : findShort (l.drop pos) = some (x, k)) (hx : x ≤ 9) : smallS ⟨l.drop pos, false⟩ = (x, ⟨l.drop (pos + k), false⟩) := by
  unfold smallS
  rw [at_short h, if_neg (by omega)]
theorem at_u32_no {l : List UInt8} {pos : Nat} (h : l.length < pos + 4) : (takeS findU32 0 ⟨l.drop pos, false⟩).2.st = true := by
  have hl : (l.drop pos).length < 4 := by rw [List.length_drop]; omega
  have : findU32 (l.drop pos) = none := by
    match hm : l.drop pos, hl with
    | [], _ => rfl
    | [_], _ => rfl
    | [_, _], _ => rfl
    | [_, _, _], _ => rfl
    | _ :: _ :: _ :: _ :: _, h => simp at h; omega
  rw [takeS_nn this]
theorem at_u32 {l : List UInt8} {pos : Nat} (h : pos + 4 ≤ l.length) : takeS findU32 0 ⟨l.drop pos, false⟩ = ((at8 l pos).toNat + (at8 l (pos + 1)).toNat * 256 + (at8 l (pos + 2)).toNat * 65536 + (at8 l (pos + 3)).toNat * 16777216, ⟨l.drop (pos + 4), false⟩) := by
  have e : l.drop pos = at8 l pos :: at8 l (pos + 1) :: at8 l (pos + 2) :: at8 l (pos + 3) :: l.drop (pos + 4) := by
    rw [drop8 (show pos < l.length by omega), drop8 (show pos + 1 < l.length by omega), drop8 (show pos + 1 + 1 < l.length by omega), drop8 (show pos + 1 + 1 + 1 < l.length by omega)]
  have : findU32 (l.drop pos) = some ((at8 l pos).toNat + (at8 l (pos + 1)).toNat * 256 + (at8 l (pos + 2)).toNat * 65536 + (at8 l (pos + 3)).toNat * 16777216, 4) := by rw [e]; rfl
  rw [takeS_sm this, List.drop_drop]
theorem at_raw_no {l : List UInt8} {pos : Nat} (h : l.length < pos + 32) (hp : pos ≤ l.length) : (takeS (findRaw 32) [] ⟨l.drop pos, false⟩).2.st = true := by
  have h2 : findRaw 32 (l.drop pos) = none := if_pos (by rw [List.length_drop]; omega)
  rw [takeS_nn h2]
theorem at_raw {l : List UInt8} {pos : Nat} (h : pos + 32 ≤ l.length) : takeS (findRaw 32) [] ⟨l.drop pos, false⟩ = ((l.drop pos).take 32, ⟨l.drop (pos + 32), false⟩) := by
  have h2 : findRaw 32 (l.drop pos) = some ((l.drop pos).take 32, 32) := if_neg (by rw [List.length_drop]; omega)
  rw [takeS_sm h2, List.drop_drop]
end Go.Proofs.Ytgefbgjgcjiceaa
