/- What is read is what was written, plain. No condition. -/
import Derived.Test.YtdblgjecbmebjaaCutLaw
namespace Go.Proofs.Ytdblgjecbmebjaa
open Go.RowKit
theorem ofNat_self (c : UInt8) : UInt8.ofNat c.toNat = c := by simp
theorem shortGo_inv : ∀ (l : List UInt8) (i x0 y k : Nat), x0 < 2 ^ (7 * i) → i ≤ 9 → shortGo i x0 l = some (y, k) → ∃ z j, k = i + j + 1 ∧ y = x0 + z * 2 ^ (7 * i) ∧ lebN j z = l.take (j + 1) ∧ grp y = k
  | [], _, _, _, _, _, _, h => by cases h
  | c :: r, i, x0, y, k, hx, hi, h => by
    have hc := c.toNat_lt
    rw [shortGo] at h
    split at h
    · cases h
    · rename_i h9
      split at h
      · rename_i hc1
        split at h
        · rename_i hg
          injection h with h
          injection h with h1 h2
          subst h1 h2
          refine ⟨c.toNat, 0, by omega, by rw [Nat.mod_eq_of_lt hc1], ?_, hg⟩
          rw [lebN, ofNat_self]
          rfl
        · cases h
      · rename_i hc1
        have hi8 : i + 1 ≤ 9 := by omega
        have hx2 : x0 + c.toNat % 128 * 2 ^ (7 * i) < 2 ^ (7 * (i + 1)) := by
          have h4 : c.toNat % 128 + 1 ≤ 128 := by omega
          have h5 : (c.toNat % 128 + 1) * 2 ^ (7 * i) ≤ 128 * 2 ^ (7 * i) := Nat.mul_le_mul_right _ h4
          rw [Nat.succ_mul] at h5
          rw [Nat.mul_succ, Nat.pow_add]
          omega
        obtain ⟨z, j, h1, h2, h3, h4⟩ := shortGo_inv r (i + 1) _ y k hx2 hi8 h
        refine ⟨c.toNat % 128 + 128 * z, j + 1, by omega, ?_, ?_, h4⟩
        · have e : 2 ^ (7 * (i + 1)) = 128 * 2 ^ (7 * i) := by rw [Nat.mul_succ, Nat.pow_add, Nat.mul_comm]
          rw [h2, e, Nat.add_mul, Nat.add_assoc, Nat.mul_assoc, ← Nat.mul_assoc z, Nat.mul_comm z 128, Nat.mul_assoc 128 z]
        · rw [lebN, List.take_succ_cons, show (c.toNat % 128 + 128 * z) % 128 + 128 = c.toNat from by omega, ofNat_self, show (c.toNat % 128 + 128 * z) / 128 = z from by omega, h3]
theorem findShort_inv {l : List UInt8} {y k : Nat} (h : findShort l = some (y, k)) : leb y = l.take k := by
  obtain ⟨z, j, h1, h2, h3, h4⟩ := shortGo_inv l 0 0 y k (by simp) (by omega) h
  simp only [Nat.mul_zero, Nat.pow_zero, Nat.mul_one, Nat.zero_add] at h1 h2
  subst h2
  rw [leb, h4, h1, Nat.add_sub_cancel, h3]
theorem findU8_inv {l : List UInt8} {x k : Nat} (h : findU8 l = some (x, k)) : [UInt8.ofNat x] = l.take k ∧ k = 1 ∧ 1 ≤ l.length ∧ x < 256 := by
  cases l with
  | nil => cases h
  | cons c r =>
    simp only [findU8, Option.some.injEq, Prod.mk.injEq] at h
    obtain ⟨rfl, rfl⟩ := h
    exact ⟨by rw [ofNat_self]; rfl, rfl, by simp, c.toNat_lt⟩
theorem findU32_inv {l : List UInt8} {x k : Nat} (h : findU32 l = some (x, k)) : le32 x = l.take k ∧ k = 4 ∧ 4 ≤ l.length ∧ x < 4294967296 := by
  rcases l with _ | ⟨a, _ | ⟨b, _ | ⟨c, _ | ⟨d, r⟩⟩⟩⟩
  any_goals cases h
  have ha := a.toNat_lt
  have hb := b.toNat_lt
  have hc := c.toNat_lt
  have hd := d.toNat_lt
  refine ⟨?_, rfl, by simp, by omega⟩
  have q : ∀ (z : UInt8) (n : Nat), n % 256 = z.toNat → UInt8.ofNat n = z := fun z n h => by
    apply UInt8.toNat_inj.1
    simpa using h
  simp only [le32]
  rw [q a _ (by omega), q b _ (by omega), q c _ (by omega), q d _ (by omega)]
  rfl
theorem findText_inv {m : Int} {l s : List UInt8} {k : Nat} (h : findText m l = some (s, k)) : leb s.length ++ s = l.take k ∧ k ≤ l.length := by
  unfold findText at h
  cases hf : findShort l with
  | none => rw [hf] at h; cases h
  | some yk =>
    obtain ⟨y, i⟩ := yk
    rw [hf] at h
    simp only at h
    split at h
    · cases h
    · rename_i hn
      simp only [Option.some.injEq, Prod.mk.injEq] at h
      obtain ⟨rfl, rfl⟩ := h
      have h1 := findShort_inv hf
      have h2 := findShort_le hf
      have h3 : ((l.drop i).take y).length = y := by rw [List.length_take, List.length_drop]; omega
      refine ⟨?_, by omega⟩
      rw [h3, h1, List.take_add]
theorem findRaw_inv {m : Int} {l s : List UInt8} {k : Nat} (h : findRaw m l = some (s, k)) : s = l.take k ∧ k ≤ l.length := by
  unfold findRaw at h
  split at h
  · cases h
  · simp only [Option.some.injEq, Prod.mk.injEq] at h
    obtain ⟨rfl, rfl⟩ := h
    exact ⟨rfl, by omega⟩
/-- A field with what was read in it. -/
def readF (f : Fd) (l : List UInt8) : Option (Fd × Nat) :=
  match fk f with
  | 0 => (findU8 l).map fun q => ({ f with n := q.1 }, q.2)
  | 1 => (findU32 l).map fun q => ({ f with n := q.1 }, q.2)
  | 2 => (findShort l).map fun q => ({ f with n := q.1 }, q.2)
  | 3 => (findText f.most l).map fun q => ({ f with s := q.1 }, q.2)
  | _ => (findRaw f.most l).map fun q => ({ f with s := q.1 }, q.2)
theorem fbytes_0 {g : Fd} (h : fk g = 0) : fbytes g = [UInt8.ofNat g.n] := by unfold fbytes; rw [h]; rfl
theorem fbytes_1 {g : Fd} (h : fk g = 1) : fbytes g = le32 g.n := by unfold fbytes; rw [h]; rfl
theorem fbytes_2 {g : Fd} (h : fk g = 2) : fbytes g = leb g.n := by unfold fbytes; rw [h]; rfl
theorem fbytes_3 {g : Fd} (h : fk g = 3) : fbytes g = leb g.s.length ++ g.s := by unfold fbytes; rw [h]; rfl
theorem fbytes_4 {g : Fd} (h : fk g = 4) : fbytes g = g.s := by unfold fbytes; rw [h]; rfl
theorem readF_bytes {f g : Fd} {l : List UInt8} {k : Nat} (hok : Fok f) (hl : l.length < 18446744073709551616) (h : readF f l = some (g, k)) : fbytes g = l.take k ∧ k ≤ l.length ∧ Fok g ∧ g.s.length ≤ max f.s.length l.length := by
  unfold readF at h
  have hk := fk_lt f
  have hfg : ∀ g : Fd, g.kind = f.kind → fk g = fk f := fun g e => by unfold fk; rw [e]
  generalize hK : fk f = K at *
  rcases K with _ | _ | _ | _ | _ | K
  · simp only [Option.map_eq_some_iff] at h
    obtain ⟨⟨x, i⟩, h1, h2⟩ := h
    injection h2 with h2 h3
    subst h2 h3
    obtain ⟨a1, rfl, a3, a4⟩ := findU8_inv h1
    exact ⟨(fbytes_0 (g := { f with n := x }) (hfg { f with n := x } rfl)).trans a1, a3, ⟨by simp only; omega, hok.2⟩, by simp only; omega⟩
  · simp only [Option.map_eq_some_iff] at h
    obtain ⟨⟨x, i⟩, h1, h2⟩ := h
    injection h2 with h2 h3
    subst h2 h3
    obtain ⟨a1, rfl, a3, a4⟩ := findU32_inv h1
    exact ⟨(fbytes_1 (g := { f with n := x }) (hfg { f with n := x } rfl)).trans a1, a3, ⟨by simp only; omega, hok.2⟩, by simp only; omega⟩
  · simp only [Option.map_eq_some_iff] at h
    obtain ⟨⟨x, i⟩, h1, h2⟩ := h
    injection h2 with h2 h3
    subst h2 h3
    have a1 := findShort_inv h1
    have a2 := findShort_le h1
    exact ⟨(fbytes_2 (g := { f with n := x }) (hfg { f with n := x } rfl)).trans a1, a2.2.1, ⟨a2.2.2, hok.2⟩, by simp only; omega⟩
  · simp only [Option.map_eq_some_iff] at h
    obtain ⟨⟨x, i⟩, h1, h2⟩ := h
    injection h2 with h2 h3
    subst h2 h3
    obtain ⟨a1, a2⟩ := findText_inv h1
    have a3 : x.length ≤ l.length := by
      have := congrArg List.length a1
      rw [List.length_append, List.length_take] at this
      omega
    exact ⟨(fbytes_3 (g := { f with s := x }) (hfg { f with s := x } rfl)).trans a1, a2, ⟨hok.1, by simp only; omega⟩, by simp only; omega⟩
  · simp only [Option.map_eq_some_iff] at h
    obtain ⟨⟨x, i⟩, h1, h2⟩ := h
    injection h2 with h2 h3
    subst h2 h3
    obtain ⟨a1, a2⟩ := findRaw_inv h1
    have a3 : x.length ≤ l.length := by rw [a1, List.length_take]; omega
    exact ⟨(fbytes_4 (g := { f with s := x }) (hfg { f with s := x } rfl)).trans a1, a2, ⟨hok.1, by simp only; omega⟩, by simp only; omega⟩
  · omega
theorem Rr.offE {X : Nat → Prop} {w w' : World} {p b : Nat} {s : RS} (h : Rr w p b s) (hb : Off X w w') (h1 : ¬ X p) (h2 : s.l ≠ [] → ¬ X b) : Rr w' p b s := by
  by_cases hs : s.l = []
  · obtain ⟨h0, A, n, c, k, r, hc⟩ := h
    refine ⟨h0, A, n, c, k.off hb h1, ⟨r.1, fun hn => ?_⟩, hc⟩
    have := r.1
    rw [hs] at this
    simp at this
    omega
  · exact h.off hb h1 (h2 hs)
end Go.Proofs.Ytdblgjecbmebjaa
