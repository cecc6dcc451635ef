/- Names as texts: parsing, plain laws. No condition. -/
import Derived.Test.YtopemhdoccgjmaaName
import Derived.Lib.Index
import Derived.Lib.IndexMore
import Derived.Lib.Strings
namespace Go.Proofs.Ytopemhdoccgjmaa
def parseP (l : List UInt8) : Option (List UInt8 × List UInt8) :=
  if Lib.hasPrefix l PRE && (Lib.cut (Lib.trimPrefix l PRE) BET).2.2 && mayN (Lib.cut (Lib.trimPrefix l PRE) BET).1 (Lib.cut (Lib.trimPrefix l PRE) BET).2.1 then some ((Lib.cut (Lib.trimPrefix l PRE) BET).1, (Lib.cut (Lib.trimPrefix l PRE) BET).2.1) else none
theorem labB_slash {l : List UInt8} (h : labB l = true) : ∀ c ∈ l, c.toNat ≠ 47 := by
  intro c hc he
  obtain ⟨i, hi, rfl⟩ := List.mem_iff_getElem.1 hc
  unfold labB at h
  simp only [Bool.and_eq_true, List.all_eq_true] at h
  have h1 := h.1.1 i (List.mem_range.2 hi)
  have e : at8 l i = l[i] := by simp [at8, List.getD, hi]
  rw [e, he] at h1
  simp [okB] at h1
theorem index_at (ns sa : List UInt8) (h : ∀ c ∈ ns, c.toNat ≠ 47) : Lib.index (ns ++ BET ++ sa) BET = (ns.length : Int) := by
  induction ns with
  | nil => 
    show Lib.index (BET ++ sa) BET = 0
    have : BET.isPrefixOf (BET ++ sa) = true := by simp [BET]
    show Lib.index ((47 : UInt8) :: ([115, 97, 47] ++ sa)) BET = 0
    rw [Lib.index, if_pos (by exact this)]
  | cons c ns ih =>
    have ih' := ih fun d hd => h d (List.mem_cons_of_mem _ hd)
    have hc := h c List.mem_cons_self
    show Lib.index (c :: (ns ++ BET ++ sa)) BET = _
    have hnp : BET.isPrefixOf (c :: (ns ++ BET ++ sa)) = false := by
      have : ((47 : UInt8) == c) = false := by
        rw [beq_eq_false_iff_ne]
        intro e
        exact hc (by rw [← e]; rfl)
      show List.isPrefixOf ((47 : UInt8) :: [115, 97, 47]) (c :: (ns ++ BET ++ sa)) = false
      rw [List.isPrefixOf, this, Bool.false_and]
    rw [Lib.index, if_neg (by rw [hnp]; simp), ih', if_neg (by simp)]
    simp
theorem parse_mk {ns sa : List UInt8} (h : mayN ns sa = true) : parseP (prN ns sa) = some (ns, sa) := by
  have h1 : labB ns = true := by unfold mayN at h; simp at h; exact h.1
  have hp : Lib.hasPrefix (prN ns sa) PRE = true := by
    unfold Lib.hasPrefix prN
    rw [List.append_assoc, List.append_assoc]
    simp
  have ht : Lib.trimPrefix (prN ns sa) PRE = ns ++ BET ++ sa := by
    unfold Lib.trimPrefix
    rw [hp, if_pos rfl]
    unfold prN
    rw [List.append_assoc, List.append_assoc, List.drop_left, List.append_assoc]
  have hi := index_at ns sa (labB_slash h1)
  have hc : Lib.cut (ns ++ BET ++ sa) BET = (ns, sa, true) := by
    unfold Lib.cut
    rw [hi, if_pos (by omega)]
    simp only [Int.toNat_natCast]
    rw [List.append_assoc, List.take_left, ← List.append_assoc, List.drop_append_of_le_length (by simp), ← List.length_append, List.drop_length, List.nil_append]
  unfold parseP
  rw [ht, hc, hp]
  simp [h]
theorem parse_inv {l ns sa : List UInt8} (h : parseP l = some (ns, sa)) : mayN ns sa = true ∧ l = prN ns sa := by
  unfold parseP at h
  split at h
  · rename_i hc
    simp only [Bool.and_eq_true] at hc
    obtain ⟨⟨h1, h2⟩, h3⟩ := hc
    injection h with h
    injection h with e1 e2
    rw [e1, e2] at h3
    refine ⟨h3, ?_⟩
    have hp : PRE <+: l := by
      unfold Lib.hasPrefix at h1
      exact List.isPrefixOf_iff_prefix.1 h1
    obtain ⟨rest, hr⟩ := hp
    have ht : Lib.trimPrefix l PRE = rest := by
      unfold Lib.trimPrefix
      rw [h1, if_pos rfl, ← hr, List.drop_left]
    rw [ht] at h2 e1 e2
    unfold Lib.cut at h2 e1 e2
    by_cases hi : 0 ≤ Lib.index rest BET
    · rw [if_pos hi] at e1 e2
      simp only at e1 e2
      have hoc : BET.isPrefixOf (rest.drop (Lib.index rest BET).toNat) = true := by
        rcases Lib.index_spec rest BET with ⟨h6, _⟩ | ⟨i, h6, _, h7, _⟩
        · omega
        · rw [h6, Int.toNat_natCast]
          exact h7
      obtain ⟨t, ht2⟩ := List.isPrefixOf_iff_prefix.1 hoc
      have h4 : rest.drop ((Lib.index rest BET).toNat + BET.length) = t := by
        rw [← List.drop_drop, ← ht2, List.drop_left]
      rw [h4] at e2
      have h5 := List.take_append_drop (Lib.index rest BET).toNat rest
      rw [e1, ← ht2, e2] at h5
      unfold prN
      rw [← hr, ← h5]
      simp
    · rw [if_neg hi] at h2
      cases h2
  · cases h
theorem parse_none {l : List UInt8} (h : parseP l = none) (ns sa : List UInt8) : ¬ (mayN ns sa = true ∧ prN ns sa = l) := by
  rintro ⟨h1, rfl⟩
  rw [parse_mk h1] at h
  cases h
theorem parse_len {l ns sa : List UInt8} (h : parseP l = some (ns, sa)) : l.length ≤ 61 := by
  obtain ⟨h1, rfl⟩ := parse_inv h
  have := mayN_le h1
  simp [prN, PRE, BET]
  omega
end Go.Proofs.Ytopemhdoccgjmaa
