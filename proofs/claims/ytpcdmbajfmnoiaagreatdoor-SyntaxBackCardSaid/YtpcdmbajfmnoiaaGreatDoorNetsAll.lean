/- Nets as plain things: what covers what; merging, step by step; the one form of what is merged. No condition. The document's merging, plainly: the nets within one that have what a row has in it. No condition. Masks of addresses, as numbers. No condition. Plain laws of nets for the statements that do not ask the document's answer. No condition. The document's nets, round by round, as plain things. No condition. -/
import Derived.KernelRfl
import Derived.WalkKit
namespace Go.Proofs.YtpcdmbajfmnoiaaGreatDoor
set_option linter.unusedVariables false
set_option linter.unusedSimpArgs false
/-- A net: its address, its bits. -/
abbrev Nt := Nat × Int
def nk (c : Nt) : Nat := (32 - c.2).toNat
def nsz (c : Nt) : Nat := 2 ^ nk c
def nhi (c : Nt) : Nat := c.1 + nsz c
def nMay (c : Nt) : Bool := decide (0 ≤ c.2) && decide (c.2 ≤ 32) && decide (c.1 % nsz c = 0)
theorem nMay_iff (c : Nt) : nMay c = true ↔ 0 ≤ c.2 ∧ c.2 ≤ 32 ∧ c.1 % nsz c = 0 := by
 simp [nMay, and_assoc]
theorem nsz_pos (c : Nt) : 0 < nsz c := Nat.pow_pos (by omega)
theorem nk_bits {c : Nt} (h : nMay c = true) : (nk c : Int) = 32 - c.2 ∧ nk c ≤ 32 := by
 have := (nMay_iff c).1 h
 unfold nk
 omega
theorem pow2_inj {i j : Nat} (h : 2 ^ i = 2 ^ j) : i = j := by
 rcases Nat.lt_trichotomy i j with g | g | g
 ·have := Nat.pow_lt_pow_right (a := 2) (by omega) g; omega
 ·exact g
 ·have := Nat.pow_lt_pow_right (a := 2) (by omega) g; omega
/-- Does a net have an address? -/
def nIn (c : Nt) (x : Nat) : Bool := nMay c && decide (x / nsz c * nsz c = c.1)
def nCov (c d : Nt) : Bool := nMay d && (nIn c d.1 && decide (c.2 ≤ d.2))
theorem div_mul_le' (x n : Nat) : x / n * n ≤ x := Nat.div_mul_le_self x n
theorem lt_div_mul (x n : Nat) (h : 0 < n) : x < x / n * n + n := by
 have h1 := Nat.mod_add_div x n
 have h2 := Nat.mod_lt x h
 rw [Nat.mul_comm] at h1
 omega
theorem nIn_iff (c : Nt) (x : Nat) : nIn c x = true ↔ nMay c = true ∧ c.1 ≤ x ∧ x < nhi c := by
 unfold nIn nhi
 simp only [Bool.and_eq_true, decide_eq_true_eq]
 refine and_congr_right fun h => ?_
 have hp := nsz_pos c
 have hm := ((nMay_iff c).1 h).2.2
 constructor
 ·intro e
  have h1 := div_mul_le' x (nsz c)
  have h2 := lt_div_mul x (nsz c) hp
  omega
 ·rintro ⟨h1, h2⟩
  have h3 : c.1 = c.1 / nsz c * nsz c := by
   have := Nat.mod_add_div c.1 (nsz c)
   rw [Nat.mul_comm] at this
   omega
  have h4 : x / nsz c = c.1 / nsz c := by
   refine Nat.div_eq_of_lt_le ?_ ?_
   ·rw [← h3]; exact h1
   ·rw [Nat.add_mul, Nat.one_mul, ← h3]; exact h2
  rw [h4, ← h3]
/-- Of two rows of whole pieces the finer one lies within the other, or beside it. -/
theorem dyad {x y i j : Nat} (hij : i ≤ j) (hx : x % 2 ^ i = 0) (hy : y % 2 ^ j = 0) : (y ≤ x ∧ x + 2 ^ i ≤ y + 2 ^ j) ∨ x + 2 ^ i ≤ y ∨ y + 2 ^ j ≤ x := by
 obtain ⟨d, rfl⟩ := Nat.exists_eq_add_of_le hij
 obtain ⟨u, rfl⟩ := Nat.dvd_of_mod_eq_zero hx
 obtain ⟨v, rfl⟩ := Nat.dvd_of_mod_eq_zero hy
 have hp : 0 < 2 ^ i := Nat.pow_pos (by omega)
 rw [Nat.pow_add]
 generalize 2 ^ i = p at *
 generalize 2 ^ d = q at *
 have e1 : p * q * v = p * (q * v) := Nat.mul_assoc _ _ _
 have e2 : p * q * v + p * q = p * (q * v + q) := by rw [e1, ← Nat.mul_add]
 have e3 : p * u + p = p * (u + 1) := by rw [Nat.mul_add, Nat.mul_one]
 rw [e2, e3, e1]
 by_cases h1 : u < q * v
 ·exact .inr (.inl (Nat.mul_le_mul_left p h1))
 ·by_cases h2 : q * v + q ≤ u
  ·exact .inr (.inr (Nat.mul_le_mul_left p h2))
  ·exact .inl ⟨Nat.mul_le_mul_left p (by omega), Nat.mul_le_mul_left p (by omega)⟩
theorem dyN {c d : Nt} (hc : nMay c = true) (hd : nMay d = true) (h : nk d ≤ nk c) : (c.1 ≤ d.1 ∧ nhi d ≤ nhi c) ∨ nhi d ≤ c.1 ∨ nhi c ≤ d.1 :=
 dyad h ((nMay_iff d).1 hd).2.2 ((nMay_iff c).1 hc).2.2
theorem nhi_gt (c : Nt) : c.1 < nhi c := by have := nsz_pos c; unfold nhi; omega
theorem nk_le_iff {c d : Nt} (hc : nMay c = true) (hd : nMay d = true) : nk d ≤ nk c ↔ c.2 ≤ d.2 := by
 have := nk_bits hc
 have := nk_bits hd
 omega
theorem nsz_mono {c d : Nt} (h : nk c ≤ nk d) : nsz c ≤ nsz d := Nat.pow_le_pow_right (by omega) h
theorem nsz_lt {c d : Nt} (h : nk c < nk d) : nsz c < nsz d := Nat.pow_lt_pow_right (by omega) h
/-- To cover is to have all. -/
theorem nCov_iff {c d : Nt} : nCov c d = true ↔ nMay c = true ∧ nMay d = true ∧ c.1 ≤ d.1 ∧ nhi d ≤ nhi c := by
 unfold nCov
 simp only [Bool.and_eq_true, decide_eq_true_eq, nIn_iff]
 constructor
 ·rintro ⟨hd, ⟨hc, h1, h2⟩, h3⟩
  rcases dyN hc hd ((nk_le_iff hc hd).2 h3) with h | h | h
  ·exact ⟨hc, hd, h⟩
  ·have := nhi_gt d; omega
  ·omega
 ·rintro ⟨hc, hd, h1, h2⟩
  have := nhi_gt d
  refine ⟨hd, ⟨hc, h1, by omega⟩, ?_⟩
  rw [← nk_le_iff hc hd]
  rcases Nat.lt_or_ge (nk c) (nk d) with h | h
  ·have := nsz_lt h
   unfold nhi at h2
   omega
  ·exact h
theorem eq_of_same {c d : Nt} (hc : nMay c = true) (hd : nMay d = true) (h1 : c.1 = d.1) (h2 : nk c = nk d) : c = d := by
 have := nk_bits hc
 have := nk_bits hd
 exact Prod.ext h1 (by omega)
/-- The net of one bit less. -/
def nPar (c : Nt) : Nt := (c.1 / (2 * nsz c) * (2 * nsz c), c.2 - 1)
def nSib (a b : Nt) : Bool := decide (a.2 = b.2) && (decide (0 < a.2) && decide (nPar a = nPar b))
theorem nk_par {c : Nt} (h : nMay c = true) : nk (nPar c) = nk c + 1 := by
 have := nk_bits h
 show (32 - (c.2 - 1)).toNat = _
 omega
theorem nsz_par {c : Nt} (h : nMay c = true) : nsz (nPar c) = 2 * nsz c := by
 unfold nsz
 rw [nk_par h, Nat.pow_succ, Nat.mul_comm]
theorem nMay_par {c : Nt} (h : nMay c = true) (h0 : 0 < c.2) : nMay (nPar c) = true := by
 have h1 := (nMay_iff c).1 h
 rw [nMay_iff, nsz_par h]
 refine ⟨by show 0 ≤ c.2 - 1; omega, by show c.2 - 1 ≤ 32; omega, Nat.mul_mod_left _ _⟩
/-- Of two unlike nets beside one another the lower one begins where their parent does. -/
theorem sib_low {a b : Nt} (ha : nMay a = true) (hb : nMay b = true) (hs : nSib a b = true) (hlt : a.1 < b.1) : (nPar a).1 = a.1 ∧ nhi a = b.1 ∧ nhi b = nhi (nPar a) := by
 unfold nSib at hs
 simp only [Bool.and_eq_true, decide_eq_true_eq] at hs
 obtain ⟨h1, h2, h3⟩ := hs
 have hk : nk a = nk b := by unfold nk; rw [h1]
 have hz : nsz a = nsz b := by unfold nsz; rw [hk]
 have h4 := congrArg Prod.fst h3
 have hp := nsz_par ha
 unfold nPar at h4
 simp only at h4
 rw [← hz] at h4
 have ma := ((nMay_iff a).1 ha).2.2
 have mb := ((nMay_iff b).1 hb).2.2
 rw [← hz] at mb
 have pz := nsz_pos a
 unfold nhi
 rw [hp, ← hz]
 show a.1 / (2 * nsz a) * (2 * nsz a) = a.1 ∧ a.1 + nsz a = b.1 ∧ b.1 + nsz a = a.1 / (2 * nsz a) * (2 * nsz a) + 2 * nsz a
 generalize nsz a = z at *
 obtain ⟨u, hu⟩ := Nat.dvd_of_mod_eq_zero ma
 obtain ⟨v, hv⟩ := Nat.dvd_of_mod_eq_zero mb
 rw [hu, hv] at h4
 rw [hu] at hlt ⊢
 rw [hv] at hlt ⊢
 have e : ∀ q : Nat, z * q / (2 * z) = q / 2 := fun q => by rw [Nat.mul_comm 2 z]; exact Nat.mul_div_mul_left q 2 pz
 rw [e, e] at h4
 rw [e]
 have huv : u < v := Nat.lt_of_mul_lt_mul_left hlt
 have h5 : u / 2 = v / 2 := Nat.eq_of_mul_eq_mul_right (by omega) h4
 have h6 : v = u + 1 := by omega
 have h7 : u / 2 * 2 = u := by omega
 have h8 : u / 2 * (2 * z) = z * u := by rw [← Nat.mul_assoc, h7, Nat.mul_comm]
 rw [h8, h6, Nat.mul_add]
 omega
/-- Has one of a row of nets an address? -/
def nHas (l : List Nt) (x : Nat) : Prop := ∃ c ∈ l, nMay c = true ∧ c.1 ≤ x ∧ x < nhi c
/-- What is merged: in a row, apart, none beside its other half. -/
structure Nice (l : List Nt) : Prop where
 may : ∀ c ∈ l, nMay c = true
 apart : l.Pairwise fun c d => nhi c ≤ d.1
 sib : ∀ c ∈ l, ∀ d ∈ l, c.1 < d.1 → nSib c d = false
theorem nice_cover {l : List Nt} (h : Nice l) : ∀ (k : Nat) (D : Nt), nk D = k → nMay D = true → (∀ x, D.1 ≤ x → x < nhi D → nHas l x) → ∃ y ∈ l, y.1 ≤ D.1 ∧ nhi D ≤ nhi y := by
 intro k
 induction k with
 | zero =>
  intro D hk hD hall
  obtain ⟨y, hy, _, h1, h2⟩ := hall D.1 (Nat.le_refl _) (nhi_gt D)
  refine ⟨y, hy, h1, ?_⟩
  unfold nhi nsz at *
  rw [hk]
  omega
 | succ k ih =>
  intro D hk hD hall
  have hb := nk_bits hD
  have hm := (nMay_iff D).1 hD
  have hz : nsz D = 2 * 2 ^ k := by unfold nsz; rw [hk, Nat.pow_succ, Nat.mul_comm]
  have pk : 0 < 2 ^ k := Nat.pow_pos (by omega)
  rw [hz] at hm
  have m0 : D.1 % 2 ^ k = 0 := Nat.mod_eq_zero_of_dvd (Nat.dvd_trans ⟨2, Nat.mul_comm _ _⟩ (Nat.dvd_of_mod_eq_zero hm.2.2))
  have z0 : ∀ a : Nat, nsz ((a, D.2 + 1) : Nt) = 2 ^ k := fun a => by unfold nsz nk; congr 1; simp only; omega
  have k0 : ∀ a : Nat, nk ((a, D.2 + 1) : Nt) = k := fun a => by unfold nk; simp only; omega
  have may0 : nMay ((D.1, D.2 + 1) : Nt) = true := by rw [nMay_iff, z0]; exact ⟨by simp only; omega, by simp only; omega, m0⟩
  have may1 : nMay ((D.1 + 2 ^ k, D.2 + 1) : Nt) = true := by rw [nMay_iff, z0]; exact ⟨by simp only; omega, by simp only; omega, by simp only; rw [Nat.add_mod_right]; exact m0⟩
  have hi0 : nhi ((D.1, D.2 + 1) : Nt) = D.1 + 2 ^ k := by unfold nhi; rw [z0]
  have hi1 : nhi ((D.1 + 2 ^ k, D.2 + 1) : Nt) = D.1 + 2 ^ k + 2 ^ k := by unfold nhi; rw [z0]
  have hiD : nhi D = D.1 + 2 ^ k + 2 ^ k := by unfold nhi; rw [hz]; omega
  obtain ⟨y0, hy0, a0, b0⟩ := ih (D.1, D.2 + 1) (k0 _) may0 (fun x h1 h2 => hall x h1 (by rw [hi0] at h2; omega))
  obtain ⟨y1, hy1, a1, b1⟩ := ih (D.1 + 2 ^ k, D.2 + 1) (k0 _) may1 (fun x h1 h2 => hall x (by simp only at h1; omega) (by rw [hi1] at h2; omega))
  rw [hi0] at b0
  rw [hi1] at b1
  simp only at a0 a1
  have M0 := h.may y0 hy0
  have M1 := h.may y1 hy1
  by_cases c0 : k + 1 ≤ nk y0
  ·rcases dyN M0 hD (by omega) with g | g | g
   ·exact ⟨y0, hy0, g⟩
   ·omega
   ·omega
  by_cases c1 : k + 1 ≤ nk y1
  ·rcases dyN M1 hD (by omega) with g | g | g
   ·exact ⟨y1, hy1, g⟩
   ·omega
   ·omega
  exfalso
  have s0 : nsz y0 ≤ 2 ^ k := Nat.pow_le_pow_right (by omega) (by omega)
  have s1 : nsz y1 ≤ 2 ^ k := Nat.pow_le_pow_right (by omega) (by omega)
  have e0 : y0.1 = D.1 ∧ nsz y0 = 2 ^ k := by unfold nhi at b0; omega
  have e1 : y1.1 = D.1 + 2 ^ k ∧ nsz y1 = 2 ^ k := by unfold nhi at b1; omega
  have n0 : nk y0 = k := pow2_inj e0.2
  have n1 : nk y1 = k := pow2_inj e1.2
  have q0 := nk_bits M0
  have q1 := nk_bits M1
  have hs : nSib y0 y1 = true := by
   unfold nSib
   simp only [Bool.and_eq_true, decide_eq_true_eq]
   refine ⟨by omega, by omega, ?_⟩
   unfold nPar
   rw [e0.2, e1.2, e0.1, e1.1]
   refine Prod.ext ?_ (by simp only; omega)
   simp only
   obtain ⟨v, hv⟩ := Nat.dvd_of_mod_eq_zero hm.2.2
   congr 1
   rw [hv, Nat.mul_div_cancel_left v (by omega)]
   symm
   exact Nat.div_eq_of_lt_le (by rw [Nat.mul_comm]; omega) (by rw [Nat.add_mul, Nat.one_mul, Nat.mul_comm v]; omega)
  rw [h.sib y0 hy0 y1 hy1 (by omega)] at hs
  cases hs
theorem nice_mem {A B : List Nt} (hA : Nice A) (hB : Nice B) (h : ∀ x, nHas A x ↔ nHas B x) : ∀ c ∈ A, c ∈ B := by
 intro c hc
 obtain ⟨y, hy, a, b⟩ := nice_cover hB (nk c) c rfl (hA.may c hc) (fun x h1 h2 => (h x).1 ⟨c, hc, hA.may c hc, h1, h2⟩)
 obtain ⟨z, hz, a2, b2⟩ := nice_cover hA (nk y) y rfl (hB.may y hy) (fun x h1 h2 => (h x).2 ⟨y, hy, hB.may y hy, h1, h2⟩)
 have gc := nhi_gt c
 have gz := nhi_gt z
 have hzc : z = c := by
  have hp : ∀ u v : Nt, u ∈ A → v ∈ A → u.1 < nhi v → v.1 < nhi u → u = v := by
   have hpw := hA.apart
   clear hz hc
   clear hA h
   induction A with
   | nil => intro u v hu; cases hu
   | cons p r ih =>
    intro u v hu hv g1 g2
    rw [List.pairwise_cons] at hpw
    rcases List.mem_cons.1 hu with eu | hu
    ·rcases List.mem_cons.1 hv with ev | hv
     ·rw [eu, ev]
     ·have := hpw.1 v hv; subst eu; omega
    ·rcases List.mem_cons.1 hv with ev | hv
     ·have := hpw.1 u hu; subst ev; omega
     ·exact ih hpw.2 u v hu hv g1 g2
  exact hp z c hz hc (by omega) (by omega)
 subst hzc
 have hk : nsz z = nsz y := by unfold nhi at *; omega
 have : nk z = nk y := pow2_inj hk
 rw [eq_of_same (hA.may z hz) (hB.may y hy) (by omega) this]
 exact hy
theorem eq_of_mem : ∀ {A B : List Nt}, A.Pairwise (fun c d => c.1 < d.1) → B.Pairwise (fun c d => c.1 < d.1) → (∀ c, c ∈ A ↔ c ∈ B) → A = B
 | [], [], _, _, _ => rfl
 | [], b :: B, _, _, h => absurd ((h b).2 (List.mem_cons_self)) (by simp)
 | a :: A, [], _, _, h => absurd ((h a).1 (List.mem_cons_self)) (by simp)
 | a :: A, b :: B, hA, hB, h => by
  rw [List.pairwise_cons] at hA hB
  have e : a = b := by
   rcases List.mem_cons.1 ((h a).1 List.mem_cons_self) with e | e
   ·exact e
   ·rcases List.mem_cons.1 ((h b).2 List.mem_cons_self) with e' | e'
    ·exact e'.symm
    ·have := hB.1 a e; have := hA.1 b e'; omega
  subst e
  congr 1
  refine eq_of_mem hA.2 hB.2 fun c => ?_
  constructor
  ·intro hc
   rcases List.mem_cons.1 ((h c).1 (List.mem_cons_of_mem _ hc)) with e | e
   ·subst e; have := hA.1 c hc; omega
   ·exact e
  ·intro hc
   rcases List.mem_cons.1 ((h c).2 (List.mem_cons_of_mem _ hc)) with e | e
   ·subst e; have := hB.1 c hc; omega
   ·exact e
theorem Nice.rise {A : List Nt} (h : Nice A) : A.Pairwise (fun c d => c.1 < d.1) :=
 h.apart.imp fun {c d} hcd => Nat.lt_of_lt_of_le (nhi_gt c) hcd
/-- The same addresses: the same nets. -/
theorem nice_one {A B : List Nt} (hA : Nice A) (hB : Nice B) (h : ∀ x, nHas A x ↔ nHas B x) : A = B :=
 eq_of_mem hA.rise hB.rise fun c => ⟨nice_mem hA hB h c, nice_mem hB hA (fun x => (h x).symm) c⟩
/-! ### A step of the merging -/
def mstep : List Nt → Option (List Nt)
 | [] => none
 | [_] => none
 | a :: b :: r => if nCov a b then some (a :: r) else if nSib a b then some (nPar a :: r) else (mstep (b :: r)).map (a :: ·)
def lexLe (c d : Nt) : Prop := c.1 < d.1 ∨ (c.1 = d.1 ∧ c.2 ≤ d.2)
structure Rowed (l : List Nt) : Prop where
 may : ∀ c ∈ l, nMay c = true
 rise : l.Pairwise lexLe
theorem Rowed.tail {a : Nt} {l : List Nt} (h : Rowed (a :: l)) : Rowed l := ⟨fun c hc => h.may c (List.mem_cons_of_mem _ hc), (List.pairwise_cons.1 h.rise).2⟩
theorem cov_same {a b : Nt} (ha : nMay a = true) (hb : nMay b = true) (h1 : a.1 = b.1) (h2 : a.2 ≤ b.2) : nCov a b = true := by
 rw [nCov_iff]
 refine ⟨ha, hb, by omega, ?_⟩
 have := nsz_mono ((nk_le_iff ha hb).2 h2)
 unfold nhi
 omega
theorem mstep_some : ∀ {l l' : List Nt}, Rowed l → mstep l = some l' → Rowed l' ∧ (∀ x, nHas l' x ↔ nHas l x) ∧ l'.length + 1 = l.length ∧ (l'.head?).map Prod.fst = (l.head?).map Prod.fst
 | [], _, _, h => by simp [mstep] at h
 | [_], _, _, h => by simp [mstep] at h
 | a :: b :: r, l', hR, h => by
  have ha := hR.may a List.mem_cons_self
  have hb := hR.may b (List.mem_cons_of_mem _ List.mem_cons_self)
  have hp := List.pairwise_cons.1 hR.rise
  have hab := hp.1 b List.mem_cons_self
  unfold mstep at h
  by_cases hc : nCov a b = true
  ·rw [if_pos hc] at h
   injection h with h
   subst h
   obtain ⟨_, _, c1, c2⟩ := nCov_iff.1 hc
   refine ⟨⟨fun c hc => hR.may c (by simp at hc ⊢; rcases hc with h | h <;> simp [h]), ?_⟩, fun x => ⟨?_, ?_⟩, by simp, rfl⟩
   ·rw [List.pairwise_cons]
    exact ⟨fun d hd => hp.1 d (List.mem_cons_of_mem _ hd), (List.pairwise_cons.1 hp.2).2⟩
   ·rintro ⟨c, hc, h⟩
    exact ⟨c, by simp at hc ⊢; rcases hc with h | h <;> simp [h], h⟩
   ·rintro ⟨c, hc, m, h1, h2⟩
    rcases List.mem_cons.1 hc with rfl | hc
    ·exact ⟨c, List.mem_cons_self, m, h1, h2⟩
    ·rcases List.mem_cons.1 hc with rfl | hc
     ·exact ⟨a, List.mem_cons_self, ha, by omega, by omega⟩
     ·exact ⟨c, List.mem_cons_of_mem _ hc, m, h1, h2⟩
  rw [if_neg hc] at h
  have hlt : a.1 < b.1 := by
   rcases hab with h1 | ⟨h1, h2⟩
   ·exact h1
   ·exact absurd (cov_same ha hb h1 h2) hc
  by_cases hs : nSib a b = true
  ·rw [if_pos hs] at h
   injection h with h
   subst h
   obtain ⟨p1, p2, p3⟩ := sib_low ha hb hs hlt
   have h0 : 0 < a.2 := by
    unfold nSib at hs
    simp only [Bool.and_eq_true, decide_eq_true_eq] at hs
    exact hs.2.1
   have hpm := nMay_par ha h0
   have hgb := nhi_gt b
   refine ⟨⟨fun c hc => ?_, ?_⟩, fun x => ⟨?_, ?_⟩, by simp, by simp [p1]⟩
   ·rcases List.mem_cons.1 hc with rfl | hc
    ·exact hpm
    ·exact hR.may c (by simp [hc])
   ·rw [List.pairwise_cons]
    refine ⟨fun d hd => ?_, (List.pairwise_cons.1 hp.2).2⟩
    rcases hp.1 d (List.mem_cons_of_mem _ hd) with g | ⟨g, g2⟩
    ·exact .inl (by omega)
    ·exact .inr ⟨by omega, by show a.2 - 1 ≤ d.2; omega⟩
   ·rintro ⟨c, hc, m, h1, h2⟩
    rcases List.mem_cons.1 hc with rfl | hc
    ·by_cases hx : x < nhi a
     ·exact ⟨a, List.mem_cons_self, ha, by omega, hx⟩
     ·exact ⟨b, by simp, hb, by omega, by omega⟩
    ·exact ⟨c, by simp [hc], m, h1, h2⟩
   ·rintro ⟨c, hc, m, h1, h2⟩
    rcases List.mem_cons.1 hc with rfl | hc
    ·exact ⟨nPar c, List.mem_cons_self, hpm, by omega, by omega⟩
    ·rcases List.mem_cons.1 hc with rfl | hc
     ·exact ⟨nPar a, List.mem_cons_self, hpm, by omega, by omega⟩
     ·exact ⟨c, List.mem_cons_of_mem _ hc, m, h1, h2⟩
  rw [if_neg hs] at h
  obtain ⟨l1, hl1, rfl⟩ := Option.map_eq_some_iff.1 h
  obtain ⟨r1, r2, r3, r4⟩ := mstep_some hR.tail hl1
  have hge : ∀ d ∈ l1, b.1 ≤ d.1 := by
   cases l1 with
   | nil => intro d hd; cases hd
   | cons e l2 =>
    simp only [List.head?_cons, Option.map_some, Option.some.injEq] at r4
    intro d hd
    rcases List.mem_cons.1 hd with rfl | hd
    ·omega
    ·rcases (List.pairwise_cons.1 r1.rise).1 d hd with g | g <;> omega
  refine ⟨⟨fun c hc => ?_, ?_⟩, fun x => ?_, by simp at r3 ⊢; omega, rfl⟩
  ·rcases List.mem_cons.1 hc with rfl | hc
   ·exact ha
   ·exact r1.may c hc
  ·rw [List.pairwise_cons]
   exact ⟨fun _ hd => Or.inl (by have := hge _ hd; omega), r1.rise⟩
  ·have e : ∀ L : List Nt, nHas (a :: L) x ↔ (nMay a = true ∧ a.1 ≤ x ∧ x < nhi a) ∨ nHas L x := fun L => by simp [nHas]
   rw [e, e, r2]
theorem mstep_none : ∀ {l : List Nt}, Rowed l → mstep l = none → Nice l
 | [], _, _ => ⟨fun _ h => absurd h (by simp), List.Pairwise.nil, fun _ h => absurd h (by simp)⟩
 | [a], hR, _ => ⟨hR.may, by simp, fun c hc d hd h => by simp at hc hd; subst hc hd; omega⟩
 | a :: b :: r, hR, h => by
  have ha := hR.may a List.mem_cons_self
  have hb := hR.may b (List.mem_cons_of_mem _ List.mem_cons_self)
  have hp := List.pairwise_cons.1 hR.rise
  have hab := hp.1 b List.mem_cons_self
  unfold mstep at h
  by_cases hc : nCov a b = true
  ·rw [if_pos hc] at h; cases h
  rw [if_neg hc] at h
  by_cases hs : nSib a b = true
  ·rw [if_pos hs] at h; cases h
  rw [if_neg hs] at h
  have hn : mstep (b :: r) = none := by simpa using h
  have hI := mstep_none hR.tail hn
  have hlt : a.1 < b.1 := by
   rcases hab with h1 | ⟨h1, h2⟩
   ·exact h1
   ·exact absurd (cov_same ha hb h1 h2) hc
  have hgb := nhi_gt b
  have hga := nhi_gt a
  have hapart : nhi a ≤ b.1 := by
   rcases Nat.le_total (nk b) (nk a) with g | g
   ·rcases dyN ha hb g with g | g | g
    ·exact absurd (nCov_iff.2 ⟨ha, hb, g⟩) hc
    ·omega
    ·exact g
   ·rcases dyN hb ha g with g | g | g <;> omega
  have hge : ∀ d ∈ b :: r, b.1 ≤ d.1 := by
   intro d hd
   rcases List.mem_cons.1 hd with rfl | hd
   ·exact Nat.le_refl _
   ·rcases (List.pairwise_cons.1 hp.2).1 d hd with g | g <;> omega
  refine ⟨hR.may, ?_, ?_⟩
  ·rw [List.pairwise_cons]
   exact ⟨fun d hd => Nat.le_trans hapart (hge d hd), hI.apart⟩
  ·intro c hc' d hd hcd
   rcases List.mem_cons.1 hc' with rfl | hc2
   ·rcases List.mem_cons.1 hd with rfl | hd
    ·omega
    ·rcases List.mem_cons.1 hd with rfl | hd
     ·simpa using hs
     ·cases hsd : nSib c d
      ·rfl
      ·exfalso
       have hdm := hR.may d (by simp [hd])
       obtain ⟨_, p2, _⟩ := sib_low ha hdm hsd hcd
       have := (List.pairwise_cons.1 hI.apart).1 d hd
       omega
   ·rcases List.mem_cons.1 hd with rfl | hd
    ·have := hge c hc2; omega
    ·exact hI.sib c hc2 d hd hcd
end Go.Proofs.YtpcdmbajfmnoiaaGreatDoor
namespace Go.Proofs.YtpcdmbajfmnoiaaGreatDoor
set_option linter.unusedVariables false
set_option linter.unusedSimpArgs false
def nLow (c : Nt) : Nt := (c.1, c.2 + 1)
def nHigh (c : Nt) : Nt := (nhi (nLow c), c.2 + 1)
def rWhole (l : List Nt) : Nat → Nt → Bool
 | 0, c => l.any (nCov · c)
 | k + 1, c => l.any (nCov · c) || (l.any (nCov c ·) && (rWhole l k (nLow c) && rWhole l k (nHigh c)))
def rSome (l : List Nt) (c : Nt) : Bool := l.any fun d => nCov c d || nCov d c
def rMerge (l : List Nt) : Nat → Nt → List Nt
 | 0, c => if rSome l c then [c] else []
 | k + 1, c => if rSome l c then (if rWhole l (k + 1) c then [c] else rMerge l k (nLow c) ++ rMerge l k (nHigh c)) else []
structure Halved (c : Nt) (k : Nat) : Prop where
 mlow : nMay (nLow c) = true
 mhigh : nMay (nHigh c) = true
 klow : nk (nLow c) = k
 khigh : nk (nHigh c) = k
 lo : (nLow c).1 = c.1
 mid : (nHigh c).1 = nhi (nLow c)
 hlow : nhi (nLow c) = c.1 + 2 ^ k
 hhigh : nhi (nHigh c) = nhi c
 gap : nhi c = c.1 + 2 ^ k + 2 ^ k
theorem halved {c : Nt} {k : Nat} (hD : nMay c = true) (hk : nk c = k + 1) : Halved c k := by
 have hb := nk_bits hD
 have hm := (nMay_iff c).1 hD
 have hz : nsz c = 2 * 2 ^ k := by unfold nsz; rw [hk, Nat.pow_succ, Nat.mul_comm]
 rw [hz] at hm
 have m0 : c.1 % 2 ^ k = 0 := Nat.mod_eq_zero_of_dvd (Nat.dvd_trans ⟨2, Nat.mul_comm _ _⟩ (Nat.dvd_of_mod_eq_zero hm.2.2))
 have z0 : ∀ a : Nat, nsz ((a, c.2 + 1) : Nt) = 2 ^ k := fun a => by unfold nsz nk; congr 1; simp only; omega
 have k0 : ∀ a : Nat, nk ((a, c.2 + 1) : Nt) = k := fun a => by unfold nk; simp only; omega
 have h0 : nhi (nLow c) = c.1 + 2 ^ k := by unfold nhi; show c.1 + nsz (c.1, c.2 + 1) = _; rw [z0]
 have h2 : nhi c = c.1 + 2 ^ k + 2 ^ k := by unfold nhi; rw [hz]; omega
 refine ⟨?_, ?_, k0 _, k0 _, rfl, rfl, h0, ?_, h2⟩
 ·unfold nLow
  rw [nMay_iff, z0]
  exact ⟨by simp only; omega, by simp only; omega, m0⟩
 ·unfold nHigh
  rw [nMay_iff, z0, h0]
  exact ⟨by simp only; omega, by simp only; omega, by simp only; rw [Nat.add_mod_right]; exact m0⟩
 ·rw [h2]
  unfold nhi
  show nhi (nLow c) + nsz (nhi (nLow c), c.2 + 1) = _
  rw [z0, h0]
theorem any_cov {l : List Nt} {c : Nt} (h : l.any (nCov · c) = true) (x : Nat) (h1 : c.1 ≤ x) (h2 : x < nhi c) : nHas l x := by
 obtain ⟨d, hd, hc⟩ := List.any_eq_true.1 h
 obtain ⟨m, _, a, b⟩ := nCov_iff.1 hc
 exact ⟨d, hd, m, by omega, by omega⟩
theorem rWhole_iff (l : List Nt) : ∀ (k : Nat) (c : Nt), nk c = k → nMay c = true → (rWhole l k c = true ↔ ∀ x, c.1 ≤ x → x < nhi c → nHas l x) := by
 intro k
 induction k with
 | zero =>
  intro c hk hc
  unfold rWhole
  constructor
  ·intro h x h1 h2; exact any_cov h x h1 h2
  ·intro h
   obtain ⟨d, hd, m, a, b⟩ := h c.1 (Nat.le_refl _) (nhi_gt c)
   refine List.any_eq_true.2 ⟨d, hd, nCov_iff.2 ⟨m, hc, a, ?_⟩⟩
   unfold nhi nsz at *
   rw [hk]
   omega
 | succ k ih =>
  intro c hk hc
  have H := halved hc hk
  have pk : 0 < 2 ^ k := Nat.pow_pos (by omega)
  unfold rWhole
  rw [Bool.or_eq_true, Bool.and_eq_true, Bool.and_eq_true, ih _ H.klow H.mlow, ih _ H.khigh H.mhigh]
  constructor
  ·rintro (h | ⟨_, h1, h2⟩) x g1 g2
   ·exact any_cov h x g1 g2
   ·by_cases hx : x < nhi (nLow c)
    ·exact h1 x g1 hx
    ·exact h2 x (by have := H.mid; omega) (by have := H.hhigh; omega)
  ·intro h
   by_cases hcov : l.any (nCov · c) = true
   ·exact .inl hcov
   ·right
    have hlow : ∀ x, (nLow c).1 ≤ x → x < nhi (nLow c) → nHas l x := fun x g1 g2 => h x g1 (by have := H.hlow; have := H.gap; omega)
    have hhigh : ∀ x, (nHigh c).1 ≤ x → x < nhi (nHigh c) → nHas l x := fun x g1 g2 => h x (by have := H.mid; have := H.hlow; omega) (by have := H.hhigh; omega)
    refine ⟨?_, hlow, hhigh⟩
    obtain ⟨d, hd, m, a, b⟩ := h c.1 (Nat.le_refl _) (nhi_gt c)
    refine List.any_eq_true.2 ⟨d, hd, ?_⟩
    rcases Nat.le_total (nk d) (nk c) with g | g
    ·rcases dyN hc m g with g | g | g
     ·exact nCov_iff.2 ⟨hc, m, g⟩
     ·omega
     ·have := nhi_gt c; omega
    ·exfalso
     rcases dyN m hc g with g | g | g
     ·exact hcov (List.any_eq_true.2 ⟨d, hd, nCov_iff.2 ⟨m, hc, g⟩⟩)
     ·have := nhi_gt c; omega
     ·omega
theorem rSome_of {l : List Nt} {c : Nt} (hc : nMay c = true) {x : Nat} (h : nHas l x) (h1 : c.1 ≤ x) (h2 : x < nhi c) : rSome l c = true := by
 obtain ⟨d, hd, m, a, b⟩ := h
 refine List.any_eq_true.2 ⟨d, hd, ?_⟩
 rw [Bool.or_eq_true]
 rcases Nat.le_total (nk d) (nk c) with g | g
 ·rcases dyN hc m g with g | g | g
  ·exact .inl (nCov_iff.2 ⟨hc, m, g⟩)
  ·omega
  ·omega
 ·rcases dyN m hc g with g | g | g
  ·exact .inr (nCov_iff.2 ⟨m, hc, g⟩)
  ·omega
  ·omega
structure Within (l R : List Nt) (c : Nt) : Prop where
 nice : Nice R
 ins : ∀ r ∈ R, c.1 ≤ r.1 ∧ nhi r ≤ nhi c
 has : ∀ x, nHas R x ↔ nHas l x ∧ c.1 ≤ x ∧ x < nhi c
theorem within_nil {l : List Nt} {c : Nt} (hc : nMay c = true) (h : rSome l c = false) : Within l [] c :=
 ⟨⟨fun _ h => absurd h (by simp), List.Pairwise.nil, fun _ h => absurd h (by simp)⟩, fun _ h => absurd h (by simp), fun x =>
  ⟨fun ⟨_, h, _⟩ => absurd h (by simp), fun ⟨h1, h2, h3⟩ => by rw [rSome_of hc h1 h2 h3] at h; cases h⟩⟩
theorem within_one {l : List Nt} {c : Nt} (hc : nMay c = true) (h : ∀ x, c.1 ≤ x → x < nhi c → nHas l x) : Within l [c] c :=
 ⟨⟨fun d hd => by simp at hd; subst hd; exact hc, by simp, fun a ha b hb g => by simp at ha hb; subst ha hb; omega⟩, fun r hr => by simp at hr; subst hr; omega, fun x =>
  ⟨fun ⟨d, hd, _, a, b⟩ => by simp at hd; subst hd; exact ⟨h x a b, a, b⟩, fun ⟨_, a, b⟩ => ⟨c, by simp, hc, a, b⟩⟩⟩
theorem rMerge_within (l : List Nt) : ∀ (k : Nat) (c : Nt), nk c = k → nMay c = true → Within l (rMerge l k c) c := by
 intro k
 induction k with
 | zero =>
  intro c hk hc
  unfold rMerge
  cases hs : rSome l c
  ·exact within_nil hc hs
  ·refine within_one hc ?_
   have hw : rWhole l 0 c = true := by
    obtain ⟨d, hd, h⟩ := List.any_eq_true.1 hs
    rw [Bool.or_eq_true] at h
    refine List.any_eq_true.2 ⟨d, hd, ?_⟩
    rcases h with h | h
    ·obtain ⟨_, m, a, b⟩ := nCov_iff.1 h
     refine nCov_iff.2 ⟨m, hc, ?_⟩
     have := nsz_pos d
     have e : nsz c = 1 := by unfold nsz; rw [hk]
     unfold nhi at *
     omega
    ·exact h
   exact (rWhole_iff l 0 c hk hc).1 hw
 | succ k ih =>
  intro c hk hc
  unfold rMerge
  cases hs : rSome l c
  ·exact within_nil hc hs
  rw [if_pos rfl]
  cases hw : rWhole l (k + 1) c
  case true =>
   rw [if_pos rfl]
   exact within_one hc ((rWhole_iff l (k + 1) c hk hc).1 hw)
  rw [if_neg (by simp)]
  have H := halved hc hk
  have pk : 0 < 2 ^ k := Nat.pow_pos (by omega)
  have A := ih _ H.klow H.mlow
  have B := ih _ H.khigh H.mhigh
  have h1 := H.lo
  have h2 := H.mid
  have h3 := H.hlow
  have h4 := H.hhigh
  have h5 := H.gap
  refine ⟨⟨fun d hd => ?_, ?_, ?_⟩, fun r hr => ?_, fun x => ?_⟩
  ·rcases List.mem_append.1 hd with hd | hd
   ·exact A.nice.may d hd
   ·exact B.nice.may d hd
  ·rw [List.pairwise_append]
   exact ⟨A.nice.apart, B.nice.apart, fun a ha b hb => by have := A.ins a ha; have := B.ins b hb; omega⟩
  ·intro a ha b hb hab
   rcases List.mem_append.1 ha with ha | ha
   ·rcases List.mem_append.1 hb with hb | hb
    ·exact A.nice.sib a ha b hb hab
    ·cases hsb : nSib a b
     ·rfl
     ·exfalso
      have ma := A.nice.may a ha
      have mb := B.nice.may b hb
      obtain ⟨p1, p2, p3⟩ := sib_low ma mb hsb hab
      have i1 := A.ins a ha
      have i2 := B.ins b hb
      have ga := nhi_gt a
      have gb := nhi_gt b
      have hs0 : 0 < a.2 := by
       unfold nSib at hsb
       simp only [Bool.and_eq_true, decide_eq_true_eq] at hsb
       exact hsb.2.1
      have mp := nMay_par ma hs0
      have kp := nk_par ma
      have zp := nsz_par ma
      have kb : nk b = nk a := by
       unfold nSib at hsb
       simp only [Bool.and_eq_true, decide_eq_true_eq] at hsb
       unfold nk
       rw [hsb.1]
      have hka : k ≤ nk a := by
       rcases Nat.lt_or_ge (nk a) k with g | g
       ·exfalso
        rcases dyN H.mlow mp (by have := H.klow; omega) with g | g | g
        ·omega
        ·omega
        ·omega
       ·exact g
      have za : 2 ^ k ≤ nsz a := Nat.pow_le_pow_right (by omega) hka
      have ea : nsz b = nsz a := by unfold nsz; rw [kb]
      have ra : a.1 = c.1 ∧ nhi a = c.1 + 2 ^ k := by unfold nhi at *; omega
      have rb : b.1 = c.1 + 2 ^ k ∧ nhi b = nhi c := by
       have : nhi b = b.1 + nsz b := rfl
       omega
      have : rWhole l (k + 1) c = true := by
       rw [rWhole_iff l (k + 1) c hk hc]
       intro x g1 g2
       by_cases hx : x < nhi a
       ·exact ((A.has x).1 ⟨a, ha, ma, by omega, hx⟩).1
       ·exact ((B.has x).1 ⟨b, hb, mb, by omega, by omega⟩).1
      rw [hw] at this
      cases this
   ·rcases List.mem_append.1 hb with hb | hb
    ·have i1 := A.ins b hb
     have i2 := B.ins a ha
     have gb := nhi_gt b
     omega
    ·exact B.nice.sib a ha b hb hab
  ·rcases List.mem_append.1 hr with hr | hr
   ·have := A.ins r hr; omega
   ·have := B.ins r hr; omega
  ·have e : nHas (rMerge l k (nLow c) ++ rMerge l k (nHigh c)) x ↔ nHas (rMerge l k (nLow c)) x ∨ nHas (rMerge l k (nHigh c)) x := by
    unfold nHas
    constructor
    ·rintro ⟨d, hd, h⟩
     rcases List.mem_append.1 hd with hd | hd
     ·exact .inl ⟨d, hd, h⟩
     ·exact .inr ⟨d, hd, h⟩
    ·rintro (⟨d, hd, h⟩ | ⟨d, hd, h⟩)
     ·exact ⟨d, List.mem_append_left _ hd, h⟩
     ·exact ⟨d, List.mem_append_right _ hd, h⟩
   rw [e, A.has, B.has]
   constructor
   ·rintro (⟨g, g1, g2⟩ | ⟨g, g1, g2⟩) <;> exact ⟨g, by omega, by omega⟩
   ·rintro ⟨g, g1, g2⟩
    by_cases hx : x < nhi (nLow c)
    ·exact .inl ⟨g, by omega, hx⟩
    ·exact .inr ⟨g, by omega, by omega⟩
def nRoot : Nt := (0, 0)
theorem may_root : nMay nRoot = true := by decide +kernel
theorem hi_root : nhi nRoot = 4294967296 := by decide +kernel
theorem k_root : nk nRoot = 32 := by decide +kernel
theorem hi_le {c : Nt} (h : nMay c = true) (ha : c.1 < 4294967296) : nhi c ≤ 4294967296 := by
 have hk := (nk_bits h).2
 rcases dyN may_root h (by rw [k_root]; exact hk) with g | g | g
 ·rw [hi_root] at g; exact g.2
 ·have := nhi_gt c; have : nRoot.1 = 0 := rfl; omega
 ·rw [hi_root] at g; omega
/-- What the document merges a row to has the row's addresses, in the one form. -/
theorem rMerge_nice (l : List Nt) (h : ∀ c ∈ l, c.1 < 4294967296) : Nice (rMerge l 32 nRoot) ∧ ∀ x, nHas (rMerge l 32 nRoot) x ↔ nHas l x := by
 have W := rMerge_within l 32 nRoot k_root may_root
 refine ⟨W.nice, fun x => ?_⟩
 rw [W.has]
 refine ⟨fun h => h.1, fun g => ⟨g, Nat.zero_le _, ?_⟩⟩
 obtain ⟨c, hc, m, a, b⟩ := g
 have := hi_le m (h c hc)
 rw [hi_root]
 omega
end Go.Proofs.YtpcdmbajfmnoiaaGreatDoor
namespace Go.Proofs.YtpcdmbajfmnoiaaGreatDoor
set_option linter.unusedVariables false
set_option linter.unusedSimpArgs false
def nMask (b : Int) : Nat := 4294967296 - 2 ^ (32 - min (max b 0) 32).toNat
theorem and_high (x k : Nat) (hx : x < 2 ^ 32) (hk : k ≤ 32) : x &&& (2 ^ 32 - 2 ^ k) = x / 2 ^ k * 2 ^ k := by
 have e1 : 2 ^ 32 - 2 ^ k = (2 ^ (32 - k) - 1) <<< k := by
  rw [Nat.shiftLeft_eq, Nat.sub_mul, Nat.one_mul, ← Nat.pow_add, Nat.sub_add_cancel hk]
 have e2 : x / 2 ^ k * 2 ^ k = (x >>> k) <<< k := by rw [Nat.shiftLeft_eq, Nat.shiftRight_eq_div_pow]
 rw [e1, e2]
 refine Nat.eq_of_testBit_eq fun i => ?_
 rw [Nat.testBit_and, Nat.testBit_shiftLeft, Nat.testBit_shiftLeft, Nat.testBit_two_pow_sub_one, Nat.testBit_shiftRight]
 by_cases h1 : i ≥ k
 ·rw [show k + (i - k) = i from by omega]
  by_cases h2 : i < 32
  ·simp [h1, show i - k < 32 - k from by omega]
  ·have : x.testBit i = false := Nat.testBit_lt_two_pow (Nat.lt_of_lt_of_le hx (Nat.pow_le_pow_right (by omega) (by omega)))
   simp [this]
 ·simp [h1]
theorem nMask_lt (b : Int) : nMask b < 4294967296 := by
 have : 0 < 2 ^ (32 - min (max b 0) 32).toNat := Nat.pow_pos (by omega)
 unfold nMask
 omega
theorem nMask_k (c : Nt) (h0 : 0 ≤ c.2) (h1 : c.2 ≤ 32) : nMask c.2 = 2 ^ 32 - nsz c ∧ nk c ≤ 32 := by
 have e : (32 - min (max c.2 0) 32).toNat = nk c := by unfold nk; omega
 unfold nMask nsz
 rw [e]
 exact ⟨rfl, by unfold nk; omega⟩
theorem and_mask (c : Nt) (x : Nat) (hx : x < 4294967296) (h0 : 0 ≤ c.2) (h1 : c.2 ≤ 32) : x &&& nMask c.2 = x / nsz c * nsz c := by
 obtain ⟨e, hk⟩ := nMask_k c h0 h1
 rw [e]
 exact and_high x (nk c) hx hk
theorem or_low (a k y : Nat) (ha : a % 2 ^ k = 0) (hy : y < 2 ^ k) : a ||| y = a + y := by
 obtain ⟨u, rfl⟩ := Nat.dvd_of_mod_eq_zero ha
 exact (Nat.two_pow_add_eq_or_of_lt hy u).symm
/-- The operations of the model, as numbers. -/
theorem u32_and_n (x y : Nat) (hx : x < 4294967296) (hy : y < 4294967296) : bits .and .u32 (x : Int) (y : Int) = ((x &&& y : Nat) : Int) := u32_and_nat x y hx hy
theorem u32_or_n (x y : Nat) (hx : x < 4294967296) (hy : y < 4294967296) : bits .or .u32 (x : Int) (y : Int) = ((x ||| y : Nat) : Int) := u32_or_nat x y hx hy
theorem and_not_low (c : Nt) (x : Nat) (hx : x < 4294967296) (h0 : 0 ≤ c.2) (h1 : c.2 ≤ 32) : bits .andNot .u32 (x : Int) (nMask c.2 : Int) = ((x % nsz c : Nat) : Int) := by
 obtain ⟨e, hk⟩ := nMask_k c h0 h1
 have hlt := nMask_lt c.2
 have hp : nsz c ≤ 2 ^ 32 := Nat.pow_le_pow_right (by omega) hk
 have hp0 := nsz_pos c
 show IntKind.u32.wrap ((BitVec.ofInt 32 (x : Int) &&& ~~~(BitVec.ofInt 32 (nMask c.2 : Int))).toNat : Int) = _
 have h : (BitVec.ofInt 32 (x : Int) &&& ~~~(BitVec.ofInt 32 (nMask c.2 : Int))).toNat = x % nsz c := by
  rw [BitVec.toNat_and, BitVec.toNat_not, BitVec.ofInt_natCast, BitVec.ofInt_natCast, BitVec.toNat_ofNat, BitVec.toNat_ofNat, Nat.mod_eq_of_lt (by omega), Nat.mod_eq_of_lt (by omega), e, show 2 ^ 32 - 1 - (2 ^ 32 - nsz c) = nsz c - 1 from by omega]
  exact Nat.and_two_pow_sub_one_eq_mod x (nk c)
 rw [h, IntKind.wrap_u32']
 have : x % nsz c ≤ x := Nat.mod_le _ _
 omega
theorem not_mask (b : Int) : bits .xor .u32 IntKind.u32.max (nMask b : Int) = ((4294967295 - nMask b : Nat) : Int) := by
 have hlt := nMask_lt b
 show IntKind.u32.wrap ((BitVec.ofInt 32 IntKind.u32.max ^^^ BitVec.ofInt 32 (nMask b : Int)).toNat : Int) = _
 rw [show BitVec.ofInt 32 IntKind.u32.max = BitVec.allOnes 32 from by decide, BitVec.allOnes_xor, BitVec.toNat_not, BitVec.ofInt_natCast, BitVec.toNat_ofNat, Nat.mod_eq_of_lt (by omega), IntKind.wrap_u32']
 omega
theorem or_rest (c : Nt) (h : nMay c = true) (hx : c.1 < 4294967296) : bits .or .u32 (c.1 : Int) ((4294967295 - nMask c.2 : Nat) : Int) = ((nhi c - 1 : Nat) : Int) := by
 obtain ⟨h0, h1, hm⟩ := (nMay_iff c).1 h
 obtain ⟨e, hk⟩ := nMask_k c h0 h1
 have hp : nsz c ≤ 2 ^ 32 := Nat.pow_le_pow_right (by omega) hk
 have hp0 := nsz_pos c
 rw [e, show 4294967295 - (2 ^ 32 - nsz c) = nsz c - 1 from by omega, u32_or_n _ _ hx (by omega), or_low c.1 (nk c) _ hm (by show nsz c - 1 < nsz c; omega)]
 unfold nhi
 congr 1
 omega
end Go.Proofs.YtpcdmbajfmnoiaaGreatDoor
namespace Go.Proofs.YtpcdmbajfmnoiaaGreatDoor
set_option linter.unusedVariables false
theorem nIn_ends (c : Nt) (x : Nat) : nIn c x = (nMay c && (decide (c.1 ≤ x) && decide (x ≤ nhi c - 1))) := by
 have h := nhi_gt c
 rw [Bool.eq_iff_iff, nIn_iff]
 simp only [Bool.and_eq_true, decide_eq_true_eq]
 refine and_congr_right fun _ => and_congr_right fun _ => ?_
 omega
theorem half_of {c : Nt} (hm : nMay c = true) (h : c.2 < 32) : ∃ k, nk c = k + 1 := by
 have := nk_bits hm
 exact ⟨nk c - 1, by omega⟩
theorem half_or {c : Nt} (hm : nMay c = true) (h : c.2 < 32) (x : Nat) : (nIn (nLow c) x || nIn (nHigh c) x) = nIn c x := by
 obtain ⟨k, hk⟩ := half_of hm h
 have H := halved hm hk
 rw [Bool.eq_iff_iff, Bool.or_eq_true, nIn_iff, nIn_iff, nIn_iff, H.lo, H.mid, H.hlow, H.hhigh, H.gap]
 simp only [H.mlow, H.mhigh, hm, true_and]
 omega
theorem half_and {c : Nt} (hm : nMay c = true) (h : c.2 < 32) (x : Nat) : (nIn (nLow c) x && nIn (nHigh c) x) = false := by
 obtain ⟨k, hk⟩ := half_of hm h
 have H := halved hm hk
 rw [← Bool.not_eq_true, Bool.and_eq_true, nIn_iff, nIn_iff, H.mid, H.hlow]
 omega
theorem cov_trans {c d e : Nt} (h : nCov c d = true) (g : nCov d e = true) : nCov c e = true := by
 rw [nCov_iff] at h g ⊢
 obtain ⟨a1, a2, a3, a4⟩ := h
 obtain ⟨b1, b2, b3, b4⟩ := g
 exact ⟨a1, b2, by omega, by omega⟩
theorem cov_in {c d : Nt} {x : Nat} (h : nCov c d = true) (g : nIn d x = true) : nIn c x = true := by
 rw [nCov_iff] at h
 rw [nIn_iff] at g ⊢
 obtain ⟨a1, a2, a3, a4⟩ := h
 exact ⟨a1, by omega, by omega⟩
theorem cov_no {c d : Nt} (h : nMay c = false ∨ nMay d = false) : nCov c d = false ∧ nCov d c = false := by
 constructor <;> rw [← Bool.not_eq_true, nCov_iff] <;> rcases h with h | h <;> rw [h] <;> simp
theorem meet_iff {c d : Nt} (hc : nMay c = true) (hd : nMay d = true) : decide (max c.1 d.1 ≤ min (nhi c - 1) (nhi d - 1)) = (nCov c d || nCov d c) := by
 have g1 := nhi_gt c
 have g2 := nhi_gt d
 rw [Bool.eq_iff_iff, decide_eq_true_eq, Bool.or_eq_true, nCov_iff, nCov_iff]
 simp only [hc, hd, true_and]
 rcases Nat.le_total (nk d) (nk c) with h | h
 ·rcases dyN hc hd h with g | g | g <;> omega
 ·rcases dyN hd hc h with g | g | g <;> omega
theorem nice_sing {c : Nt} (hc : nMay c = true) : Nice [c] :=
 ⟨fun d hd => by rw [List.mem_singleton] at hd; subst hd; exact hc, by simp, fun a ha b hb g => by rw [List.mem_singleton] at ha hb; subst ha hb; omega⟩
theorem halves_merged {c : Nt} (hm : nMay c = true) (h : c.2 < 32) {Y : List Nt} (hY : Nice Y) (hh : ∀ x, nHas Y x ↔ nHas [nLow c, nHigh c] x) : Y = [c] := by
 refine nice_one hY (nice_sing hm) fun x => (hh x).trans ?_
 have := half_or hm h x
 rw [Bool.eq_iff_iff, Bool.or_eq_true, nIn_iff, nIn_iff, nIn_iff] at this
 unfold nHas
 simp only [List.mem_cons, List.mem_nil_iff, or_false, exists_eq_or_imp, exists_eq_left]
 exact this
theorem nHas_iff (l : List Nt) (x : Nat) : nHas l x ↔ l.any (nIn · x) = true := by
 unfold nHas
 rw [List.any_eq_true]
 exact exists_congr fun c => and_congr_right fun _ => (nIn_iff c x).symm
/-- Of two nets of what is merged: ends apart, none beside its other half. -/
theorem nice_pair {Y : List Nt} (h : Nice Y) {j i : Nat} (hj : j < i) (hi : i < Y.length) : nhi Y[j] - 1 < (Y[i]).1 ∧ nSib Y[j] Y[i] = false := by
 have h1 := (List.pairwise_iff_getElem.1 h.apart) j i (by omega) hi hj
 have h2 := nhi_gt Y[j]
 exact ⟨by omega, h.sib _ (List.getElem_mem _) _ (List.getElem_mem _) (by omega)⟩
theorem sib_mask {a b : Nt} (ha : nMay a = true) (hb : nMay b = true) (la : a.1 < 4294967296) (lb : b.1 < 4294967296) (h : nSib a b = false) (he : a.2 = b.2) (h0 : 0 < b.2) : (a.1 &&& nMask (b.2 - 1)) ≠ (b.1 &&& nMask (b.2 - 1)) := by
 have ka := nk_bits ha
 have kb := nk_bits hb
 intro e
 have m1 := and_mask (a.1, b.2 - 1) a.1 la (by show 0 ≤ b.2 - 1; omega) (by show b.2 - 1 ≤ 32; omega)
 have m2 := and_mask (b.1, b.2 - 1) b.1 lb (by show 0 ≤ b.2 - 1; omega) (by show b.2 - 1 ≤ 32; omega)
 simp only at m1 m2
 rw [m1, m2] at e
 have z1 : nsz (a.1, b.2 - 1) = 2 * nsz a := by
  unfold nsz; rw [Nat.mul_comm, ← Nat.pow_succ]; congr 1; unfold nk at *; simp only at *; omega
 have z2 : nsz (b.1, b.2 - 1) = 2 * nsz b := by
  unfold nsz; rw [Nat.mul_comm, ← Nat.pow_succ]; congr 1; unfold nk at *; simp only at *; omega
 rw [z1, z2] at e
 have : nSib a b = true := by
  unfold nSib nPar
  rw [decide_eq_true he, decide_eq_true (by omega : 0 < a.2), decide_eq_true]
  ·rfl
  ·rw [e, he]
 rw [h] at this
 cases this
theorem any_rev (l : List Nt) (x : Nat) : l.reverse.any (nIn · x) = l.any (nIn · x) := by
 rw [Bool.eq_iff_iff, List.any_eq_true, List.any_eq_true]
 simp
theorem has_rev (l : List Nt) (x : Nat) : nHas l.reverse x ↔ nHas l x := by
 rw [nHas_iff, nHas_iff, any_rev]
end Go.Proofs.YtpcdmbajfmnoiaaGreatDoor
namespace Go.Proofs.YtpcdmbajfmnoiaaGreatDoor
set_option linter.unusedVariables false
/-- The mask behind i rounds. -/
def mkAt (b : Int) (i : Nat) : Nat := 2 ^ i - 2 ^ (i - (min (max b 0) i).toNat)
theorem mkAt_lt (b : Int) (i : Nat) : mkAt b i < 2 ^ i := by
 have := Nat.pow_pos (n := i - (min (max b 0) i).toNat) (show 0 < 2 by omega)
 have := Nat.pow_pos (n := i) (show 0 < 2 by omega)
 unfold mkAt
 omega
theorem mkAt_32 (b : Int) : mkAt b 32 = nMask b := by
 unfold mkAt nMask
 rw [show 32 - (min (max b 0) (32 : Nat)).toNat = (32 - min (max b 0) 32).toNat by omega]
theorem mkAt_0 (b : Int) : mkAt b 0 = 0 := by
 have := mkAt_lt b 0
 rw [Nat.pow_zero] at this
 omega
theorem mkAt_in {b : Int} {i : Nat} (h : (i : Int) < b) : mkAt b (i + 1) = 2 * mkAt b i + 1 := by
 unfold mkAt
 rw [show i + 1 - (min (max b 0) (i + 1 : Nat)).toNat = 0 by omega, show i - (min (max b 0) i).toNat = 0 by omega, Nat.pow_succ]
 have := Nat.pow_pos (n := i) (show 0 < 2 by omega)
 omega
theorem mkAt_out {b : Int} {i : Nat} (h : ¬ (i : Int) < b) : mkAt b (i + 1) = 2 * mkAt b i := by
 unfold mkAt
 have e : i + 1 - (min (max b 0) (i + 1 : Nat)).toNat = (i - (min (max b 0) i).toNat) + 1 := by omega
 rw [e, Nat.pow_succ, Nat.pow_succ]
 omega
/-- A bit of an address, the highest one 0. -/
def bitN (a i : Nat) : Bool := decide (a / 2 ^ (31 - i) % 2 = 1)
theorem bit_step (a i : Nat) (h : i < 32) : a / 2 ^ (31 - i) = 2 * (a / 2 ^ (32 - i)) + a / 2 ^ (31 - i) % 2 := by
 have e : 2 ^ (32 - i) = 2 ^ (31 - i) * 2 := by rw [← Nat.pow_succ]; congr 1; omega
 rw [e, ← Nat.div_div_eq_div_mul]
 omega
/-- What stands behind a net's bits: nothing yet, from its bits to i. -/
def lowAt (c : Nt) (i : Nat) : Prop := c.1 % 2 ^ (nk c) < 2 ^ (32 - i)
theorem lowAt_start (c : Nt) (i : Nat) (h : nk c = 32 - i) : lowAt c i := by
 unfold lowAt
 rw [h]
 exact Nat.mod_lt _ (Nat.pow_pos (by omega))
theorem low_bit {c : Nt} {i : Nat} (hk : nk c ≤ 32) (h : 32 - i ≤ nk c) (hi : i < 32) : c.1 % 2 ^ (nk c) / 2 ^ (31 - i) % 2 = c.1 / 2 ^ (31 - i) % 2 := by
 obtain ⟨d, hd⟩ : ∃ d, nk c = (31 - i) + 1 + d := ⟨nk c - (31 - i) - 1, by omega⟩
 have := Nat.testBit_mod_two_pow c.1 (nk c) (31 - i)
 rw [Nat.testBit_eq_decide_div_mod_eq, Nat.testBit_eq_decide_div_mod_eq, decide_eq_true (by omega : 31 - i < nk c), Bool.true_and, decide_eq_decide] at this
 omega
theorem lowAt_step {c : Nt} {i : Nat} (hk : nk c ≤ 32) (h : 32 - i ≤ nk c) (hi : i < 32) (hl : lowAt c i) (hb : bitN c.1 i = false) : lowAt c (i + 1) := by
 unfold lowAt at *
 have e := low_bit hk h hi
 unfold bitN at hb
 rw [decide_eq_false_iff_not] at hb
 have e2 : 2 ^ (32 - i) = 2 ^ (31 - i) * 2 := by rw [← Nat.pow_succ]; congr 1; omega
 rw [e2] at hl
 rw [show 32 - (i + 1) = 31 - i by omega]
 have h3 : c.1 % 2 ^ (nk c) / 2 ^ (31 - i) < 2 := Nat.div_lt_of_lt_mul hl
 have h4 : c.1 % 2 ^ (nk c) / 2 ^ (31 - i) = 0 := by
  generalize c.1 % 2 ^ (nk c) / 2 ^ (31 - i) = u at *
  generalize c.1 / 2 ^ (31 - i) = v at *
  omega
 rcases Nat.div_eq_zero_iff.1 h4 with g | g
 ·have := Nat.pow_pos (n := 31 - i) (show 0 < 2 by omega); omega
 ·exact g
theorem lowAt_bit {c : Nt} {i : Nat} (hk : nk c ≤ 32) (h : 32 - i ≤ nk c) (hi : i < 32) (hb : bitN c.1 i = true) : nMay c = false := by
 have e := low_bit hk h hi
 unfold bitN at hb
 rw [decide_eq_true_eq] at hb
 rw [← Bool.not_eq_true, nMay_iff]
 rintro ⟨_, _, h0⟩
 unfold nsz at h0
 rw [h0, Nat.zero_div] at e
 omega
theorem lowAt_end {c : Nt} (h0 : 0 ≤ c.2) (h1 : c.2 ≤ 32) (hl : lowAt c 32) : nMay c = true := by
 rw [nMay_iff]
 refine ⟨h0, h1, ?_⟩
 unfold lowAt at hl
 unfold nsz
 omega
/-- Two addresses are alike in their highest i bits. -/
def likeAt (a b i : Nat) : Prop := a / 2 ^ (32 - i) = b / 2 ^ (32 - i)
theorem likeAt_0 {a b : Nat} (ha : a < 4294967296) (hb : b < 4294967296) : likeAt a b 0 := by
 unfold likeAt
 rw [Nat.div_eq_of_lt ha, Nat.div_eq_of_lt hb]
theorem likeAt_step {a b i : Nat} (hi : i < 32) (h : likeAt a b i) (hb : bitN a i = bitN b i) : likeAt a b (i + 1) := by
 unfold likeAt at *
 unfold bitN at hb
 have e1 := bit_step a i hi
 have e2 := bit_step b i hi
 rw [decide_eq_decide] at hb
 rw [show 32 - (i + 1) = 31 - i by omega]
 omega
theorem likeAt_bit {a b i j : Nat} (hi : i < j) (hj : j ≤ 32) (h : likeAt a b j) : bitN a i = bitN b i := by
 unfold likeAt at h
 have e : ∀ x : Nat, x / 2 ^ (31 - i) = x / 2 ^ (32 - j) / 2 ^ (j - 1 - i) := fun x => by
  rw [Nat.div_div_eq_div_mul, ← Nat.pow_add]
  congr 2
  omega
 unfold bitN
 rw [e a, e b, h]
theorem in_like {c : Nt} {x : Nat} (h : nMay c = true) : nIn c x = true ↔ likeAt x c.1 (32 - nk c) := by
 obtain ⟨h0, h1, h2⟩ := (nMay_iff c).1 h
 have hk := (nk_bits h).2
 unfold nIn likeAt
 rw [h, Bool.true_and, decide_eq_true_eq, show 32 - (32 - nk c) = nk c by omega]
 unfold nsz at *
 have e : c.1 / 2 ^ nk c * 2 ^ nk c = c.1 := by
  have := Nat.mod_add_div c.1 (2 ^ nk c)
  rw [Nat.mul_comm] at this
  omega
 constructor
 ·intro g
  have := congrArg (· / 2 ^ nk c) g
  simp only [Nat.mul_div_cancel _ (Nat.pow_pos (n := nk c) (show 0 < 2 by omega))] at this
  exact this
 ·intro g
  rw [g]
  exact e
theorem last_in {c d : Nt} : nCov c d = (nMay c && (nMay d && (nIn c d.1 && nIn c (nhi d - 1)))) := by
 have := nhi_gt d
 have := nhi_gt c
 rw [Bool.eq_iff_iff, nCov_iff]
 simp only [Bool.and_eq_true, nIn_iff]
 constructor
 ·rintro ⟨a, b, e, f⟩
  exact ⟨a, b, ⟨a, e, by omega⟩, a, by omega, by omega⟩
 ·rintro ⟨a, b, ⟨_, e, _⟩, _, _, f⟩
  exact ⟨a, b, e, by omega⟩
end Go.Proofs.YtpcdmbajfmnoiaaGreatDoor
