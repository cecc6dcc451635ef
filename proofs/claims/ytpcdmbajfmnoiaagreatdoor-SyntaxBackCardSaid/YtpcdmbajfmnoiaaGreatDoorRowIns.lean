/- 'copy' within a row of the call's own, elements of k cells; an element put in. No condition. -/
import Derived.Test.YtpcdmbajfmnoiaaGreatDoorRowRG
import Derived.Laws.CopyRow
namespace Go.Proofs.YtpcdmbajfmnoiaaGreatDoor
open Go.RowKit
set_option linter.unusedVariables false
theorem run_copyK {P : Program} (w : World) (dT sT ty elem : TypeId) (z : Nat) (g o dLen dCap : Nat) (a : Addr) (sLen sCap : Nat) (cur : Array Value) (t : TypeId) (cs : List Value)
  (hu : P.underlying dT = some (.slice elem)) (hs : (P.info? elem).map (·.size) = some z)
  (hg : w.heap[g]? = some (.cells cur t (0, 0))) (hn : cs.length = Nat.min sLen dLen * z)
  (hsrc : ∀ j v, cs[j]? = some v → w.cell? (a.add j) = some v) (hfit : o + cs.length ≤ cur.size) (h1 : ∀ v ∈ cs, v.oneCell' = true) :
  (Builtin.copy_ #[dT, sT] ty #[.slice (some ⟨g, o, none⟩) dLen dCap, .slice (some a) sLen sCap]).run P w =
   .ok (goInt (Nat.min sLen dLen)) (w.setRow g (cur.toList.take o ++ cs ++ cur.toList.drop (o + cs.length)).toArray) := by
 have hl := run_loadCells_list (P := P) w a cs hsrc
 have hst := run_storeCells_at P g o t cs 0 cur w hg (by simpa using hfit) h1
 cases hq : P.info? elem with
 | none => simp [hq] at hs
 | some i =>
  have hi : i.size = z := by simpa [hq] using hs
  simp only [Nat.add_zero] at hst
  simp [Builtin.copy_, run_underlying hu, Builtin.lenOf, Builtin.firstCells, sizeOf, typeInfo, hq, hi, ← hn, hl, hst]
theorem grownBy_setRow (w : World) (g : Nat) (cs : Array Value) : w.grownBy (w.setRow g cs) (some g) := by
 refine ⟨rfl, rfl, rfl, by simp [World.setRow], fun k hk hne => ?_⟩
 have hk' : g ≠ k := fun e => hne (by rw [e])
 simp [World.setRow, Array.getElem?_modify, hk']
section
variable {α : Type} {enc : α → List Value} {k : Nat}
theorem flatR_take (hk : ∀ x, (enc x).length = k) (L : List α) (i : Nat) : (flatR enc L).take (i * k) = flatR enc (L.take i) := by
 by_cases h : i ≤ L.length
 ·have e := flatR_append (enc := enc) (L.take i) (L.drop i)
  rw [List.take_append_drop] at e
  rw [e, List.take_left' (by rw [flatR_length hk, List.length_take, Nat.min_eq_left h])]
 ·rw [List.take_of_length_le (by rw [flatR_length hk]; exact Nat.mul_le_mul_right k (by omega)), List.take_of_length_le (by omega)]
theorem flatR_drop (hk : ∀ x, (enc x).length = k) (L : List α) (i : Nat) : (flatR enc L).drop (i * k) = flatR enc (L.drop i) := by
 by_cases h : i ≤ L.length
 ·have e := flatR_append (enc := enc) (L.take i) (L.drop i)
  rw [List.take_append_drop] at e
  rw [e, List.drop_left' (by rw [flatR_length hk, List.length_take, Nat.min_eq_left h])]
 ·rw [List.drop_eq_nil_of_le (by rw [flatR_length hk]; exact Nat.mul_le_mul_right k (by omega)), List.drop_eq_nil_of_le (by omega)]
  rfl
/-- Behind 'copy(out[i+1:], out[i:])': the row, one place on from i. -/
theorem OwnR.shift {P : Program} {t e : TypeId} {bytes : Nat} {z : Value} (T : RowTy P t e k bytes z) (hk : ∀ x, (enc x).length = k) (h1 : ∀ x, ∀ v ∈ enc x, v.oneCell' = true) {w : World} {base g m c : Nat} {X : List α} {y : α} (h : OwnR enc k w base e (.slice (some ⟨g, 0, none⟩) (m + 1) c) (X ++ [y])) {i : Nat} (hi : i ≤ m) :
  ∃ w', (∀ ty, (Builtin.copy_ #[t, t] ty #[.slice (if c = i + 1 then some ⟨g, 0, none⟩ else some ⟨g, (i + 1) * k, none⟩) (m - i) (c - (i + 1)), .slice (some ⟨g, i * k, none⟩) (m + 1 - i) (c - i)]).run P w = .ok (goInt ((m - i : Nat) : Int)) w') ∧ w.grownBy w' (some g) ∧
   ∃ cur, Blk w' g e cur ∧ cur.length = c * k ∧ base ≤ g ∧ m + 1 ≤ c ∧ c ≤ maxLen ∧ cur.take (i * k) = flatR enc (X.take i) ∧ ((cur.drop ((i + 1) * k)).take ((m - i) * k)) = flatR enc (X.drop i) := by
 have hsz : (P.info? e).map (·.size) = some k := by
  obtain ⟨j, hj, _, hz1, _⟩ := info_parts T.info
  rw [hj]; simp [hz1]
 have hl : X.length = m := by have := h.len; rw [List.length_append] at this; simpa using this
 have hflat : ∀ L : List α, (flatR enc L).length = L.length * k := flatR_length hk
 rcases h.2 with ⟨e1, _⟩ | ⟨g', cap, cur, e1, hb, hg, hc, hmx, hcs, htk⟩
 ·cases e1
 injection e1 with e2 e3 e4
 injection e2 with e2
 injection e2 with e2 _ _
 subst e2 e4
 rw [List.length_append, List.length_singleton, hl] at htk hc
 have htX : ∀ q, q ≤ m → cur.toList.take (q * k) = flatR enc (X.take q) := by
  intro q hq
  have e5 : (cur.toList.take ((m + 1) * k)).take (q * k) = cur.toList.take (q * k) := by
   rw [List.take_take, Nat.min_eq_left (Nat.mul_le_mul_right k (by omega))]
  rw [← e5, htk, flatR_take hk, List.take_append_of_le_length (by omega)]
 have hmid : (cur.toList.drop (i * k)).take ((m - i) * k) = flatR enc (X.drop i) := by
  have e6 : (cur.toList.take (m * k)).drop (i * k) = (cur.toList.drop (i * k)).take ((m - i) * k) := by
   rw [List.drop_take, Nat.sub_mul]
  rw [← e6, htX m (Nat.le_refl m), List.take_of_length_le (by omega), flatR_drop hk]
 by_cases hcap : c = i + 1
 ·have him : i = m := by omega
  subst him
  refine ⟨w, fun ty => ?_, World.grownBy.refl w _, cur.toList, by unfold Blk; rw [Array.toArray_toList]; exact hg, by rw [Array.length_toList]; exact hcs, hb, hc, hmx, htX i (Nat.le_refl i), ?_⟩
  ·rw [if_pos hcap]
   have := run_copyK (P := P) w t t ty e k g 0 (i - i) (c - (i + 1)) ⟨g, i * k, none⟩ (i + 1 - i) (c - i) cur e [] T.sl hsz hg (by simp) (by simp) (by simp) (by simp)
   simp only [List.take_zero, List.nil_append, List.length_nil, Nat.add_zero, List.drop_zero, Array.toArray_toList] at this
   rw [setRow_self w g cur e (0, 0) hg] at this
   rw [this]
   simp
  ·rw [Nat.sub_self, Nat.zero_mul, List.take_zero, List.drop_eq_nil_of_le (by omega)]
   rfl
 ·have hlen : (flatR enc (X.drop i)).length = (m - i) * k := by rw [hflat, List.length_drop, hl]
  have hsum : (i + 1) * k + (m - i) * k = (m + 1) * k := by rw [← Nat.add_mul]; congr 1; omega
  have hle : (m + 1) * k ≤ c * k := Nat.mul_le_mul_right k hc
  have hfit : (i + 1) * k + (flatR enc (X.drop i)).length ≤ cur.size := by rw [hlen, hcs]; omega
  refine ⟨w.setRow g (cur.toList.take ((i + 1) * k) ++ flatR enc (X.drop i) ++ cur.toList.drop ((i + 1) * k + (flatR enc (X.drop i)).length)).toArray, fun ty => ?_, ?_, cur.toList.take ((i + 1) * k) ++ flatR enc (X.drop i) ++ cur.toList.drop ((i + 1) * k + (flatR enc (X.drop i)).length), ?_, ?_, hb, hc, hmx, ?_, ?_⟩
  ·rw [if_neg hcap]
   have hmin : Nat.min (m + 1 - i) (m - i) = m - i := Nat.min_eq_right (by omega)
   have := run_copyK (P := P) w t t ty e k g ((i + 1) * k) (m - i) (c - (i + 1)) ⟨g, i * k, none⟩ (m + 1 - i) (c - i) cur e (flatR enc (X.drop i)) T.sl hsz hg (by rw [hlen, hmin]) (fun j v hv => ?_) hfit (flatR_one h1 _)
   ·rw [this, hmin]
   ·have hj := (List.getElem?_eq_some_iff.1 hv).1
    rw [hlen] at hj
    rw [← hmid, List.getElem?_take, if_pos hj, List.getElem?_drop] at hv
    rw [Addr.add_lit]
    have hbk : Blk w g e cur.toList := by unfold Blk; rw [Array.toArray_toList]; exact hg
    rw [hbk.cell]
    exact hv
  ·exact grownBy_setRow w g _
  ·unfold Blk
   exact setRow_heap w g cur _ e _ hg
  ·rw [List.length_append, List.length_append, List.length_take, List.length_drop, hlen, Array.length_toList, hcs]
   omega
  ·rw [List.append_assoc, List.take_append_of_le_length (by rw [List.length_take, Array.length_toList, hcs]; have : i * k ≤ (i + 1) * k := Nat.mul_le_mul_right k (by omega); omega), List.take_take, Nat.min_eq_left (Nat.mul_le_mul_right k (by omega))]
   exact htX i hi
  ·rw [List.append_assoc, List.drop_left' (by rw [List.length_take, Array.length_toList, hcs]; omega), List.take_left' hlen]
end
end Go.Proofs.YtpcdmbajfmnoiaaGreatDoor
