/- Plain laws of nets for the statements that do not ask the document's answer. No condition. -/
import Derived.Test.YtddfgalofngoiaaGreatDoorNetsBits
namespace Go.Proofs.YtddfgalofngoiaaGreatDoor
set_option linter.unusedVariables false
theorem nIn_ends (c : Nt) (x : Nat) : nIn c x = (nMay c && (decide (c.1 ≤ x) && decide (x ≤ nhi c - 1))) := by
  have h := nhi_gt c
  rw [Bool.eq_iff_iff, nIn_iff]
  simp only [Bool.and_eq_true, decide_eq_true_eq]
  refine and_congr_right fun _ => and_congr_right fun _ => ?_
  omega
theorem half_of {c : Nt} (hm : nMay c = true) (h : c.2 < 32) : ∃ k, nk c = k + 1 := by
  have := nk_bits hm
  exact ⟨nk c - 1, by omega⟩
theorem half_or {c : Nt} (hm : nMay c = true) (h : c.2 < 32) (x : Nat) : (nIn (nLow c) x || nIn (nHigh c) x) = nIn c x := by
  obtain ⟨k, hk⟩ := half_of hm h
  have H := halved hm hk
  rw [Bool.eq_iff_iff, Bool.or_eq_true, nIn_iff, nIn_iff, nIn_iff, H.lo, H.mid, H.hlow, H.hhigh, H.gap]
  simp only [H.mlow, H.mhigh, hm, true_and]
  omega
theorem half_and {c : Nt} (hm : nMay c = true) (h : c.2 < 32) (x : Nat) : (nIn (nLow c) x && nIn (nHigh c) x) = false := by
  obtain ⟨k, hk⟩ := half_of hm h
  have H := halved hm hk
  rw [← Bool.not_eq_true, Bool.and_eq_true, nIn_iff, nIn_iff, H.mid, H.hlow]
  omega
theorem cov_trans {c d e : Nt} (h : nCov c d = true) (g : nCov d e = true) : nCov c e = true := by
  rw [nCov_iff] at h g ⊢
  obtain ⟨a1, a2, a3, a4⟩ := h
  obtain ⟨b1, b2, b3, b4⟩ := g
  exact ⟨a1, b2, by omega, by omega⟩
theorem cov_in {c d : Nt} {x : Nat} (h : nCov c d = true) (g : nIn d x = true) : nIn c x = true := by
  rw [nCov_iff] at h
  rw [nIn_iff] at g ⊢
  obtain ⟨a1, a2, a3, a4⟩ := h
  exact ⟨a1, by omega, by omega⟩
theorem cov_no {c d : Nt} (h : nMay c = false ∨ nMay d = false) : nCov c d = false ∧ nCov d c = false := by
  constructor <;> rw [← Bool.not_eq_true, nCov_iff] <;> rcases h with h | h <;> rw [h] <;> simp
theorem meet_iff {c d : Nt} (hc : nMay c = true) (hd : nMay d = true) : decide (max c.1 d.1 ≤ min (nhi c - 1) (nhi d - 1)) = (nCov c d || nCov d c) := by
  have g1 := nhi_gt c
  have g2 := nhi_gt d
  rw [Bool.eq_iff_iff, decide_eq_true_eq, Bool.or_eq_true, nCov_iff, nCov_iff]
  simp only [hc, hd, true_and]
  rcases Nat.le_total (nk d) (nk c) with h | h
  · rcases dyN hc hd h with g | g | g <;> omega
  · rcases dyN hd hc h with g | g | g <;> omega
theorem nice_sing {c : Nt} (hc : nMay c = true) : Nice [c] :=
  ⟨fun d hd => by rw [List.mem_singleton] at hd; subst hd; exact hc, by simp, fun a ha b hb g => by rw [List.mem_singleton] at ha hb; subst ha hb; omega⟩
theorem halves_merged {c : Nt} (hm : nMay c = true) (h : c.2 < 32) {Y : List Nt} (hY : Nice Y) (hh : ∀ x, nHas Y x ↔ nHas [nLow c, nHigh c] x) : Y = [c] := by
  refine nice_one hY (nice_sing hm) fun x => (hh x).trans ?_
  have := half_or hm h x
  rw [Bool.eq_iff_iff, Bool.or_eq_true, nIn_iff, nIn_iff, nIn_iff] at this
  unfold nHas
  simp only [List.mem_cons, List.mem_nil_iff, or_false, exists_eq_or_imp, exists_eq_left]
  exact this
theorem nHas_iff (l : List Nt) (x : Nat) : nHas l x ↔ l.any (nIn · x) = true := by
  unfold nHas
  rw [List.any_eq_true]
  exact exists_congr fun c => and_congr_right fun _ => (nIn_iff c x).symm
/-- Of two nets of what is merged: ends apart, none beside its other half. -/
theorem nice_pair {Y : List Nt} (h : Nice Y) {j i : Nat} (hj : j < i) (hi : i < Y.length) : nhi Y[j] - 1 < (Y[i]).1 ∧ nSib Y[j] Y[i] = false := by
  have h1 := (List.pairwise_iff_getElem.1 h.apart) j i (by omega) hi hj
  have h2 := nhi_gt Y[j]
  exact ⟨by omega, h.sib _ (List.getElem_mem _) _ (List.getElem_mem _) (by omega)⟩
theorem sib_mask {a b : Nt} (ha : nMay a = true) (hb : nMay b = true) (la : a.1 < 4294967296) (lb : b.1 < 4294967296) (h : nSib a b = false) (he : a.2 = b.2) (h0 : 0 < b.2) : (a.1 &&& nMask (b.2 - 1)) ≠ (b.1 &&& nMask (b.2 - 1)) := by
  have ka := nk_bits ha
  have kb := nk_bits hb
  intro e
  have m1 := and_mask (a.1, b.2 - 1) a.1 la (by show 0 ≤ b.2 - 1; omega) (by show b.2 - 1 ≤ 32; omega)
  have m2 := and_mask (b.1, b.2 - 1) b.1 lb (by show 0 ≤ b.2 - 1; omega) (by show b.2 - 1 ≤ 32; omega)
  simp only at m1 m2
  rw [m1, m2] at e
  have z1 : nsz (a.1, b.2 - 1) = 2 * nsz a := by
    unfold nsz; rw [Nat.mul_comm, ← Nat.pow_succ]; congr 1; unfold nk at *; simp only at *; omega
  have z2 : nsz (b.1, b.2 - 1) = 2 * nsz b := by
    unfold nsz; rw [Nat.mul_comm, ← Nat.pow_succ]; congr 1; unfold nk at *; simp only at *; omega
  rw [z1, z2] at e
  have : nSib a b = true := by
    unfold nSib nPar
    rw [decide_eq_true he, decide_eq_true (by omega : 0 < a.2), decide_eq_true]
    · rfl
    · rw [e, he]
  rw [h] at this
  cases this
theorem any_rev (l : List Nt) (x : Nat) : l.reverse.any (nIn · x) = l.any (nIn · x) := by
  rw [Bool.eq_iff_iff, List.any_eq_true, List.any_eq_true]
  simp
theorem has_rev (l : List Nt) (x : Nat) : nHas l.reverse x ↔ nHas l x := by
  rw [nHas_iff, nHas_iff, any_rev]
end Go.Proofs.YtddfgalofngoiaaGreatDoor
