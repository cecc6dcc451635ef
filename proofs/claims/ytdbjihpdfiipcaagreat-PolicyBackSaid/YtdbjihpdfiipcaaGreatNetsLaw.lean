/- Nets as plain things: what covers what; merging, step by step; the one form of what is merged. No condition. -/
import Derived.KernelRfl
namespace Go.Proofs.YtdbjihpdfiipcaaGreat
/-- A net: its address, its bits. -/
abbrev Nt := Nat × Int
def nk (c : Nt) : Nat := (32 - c.2).toNat
def nsz (c : Nt) : Nat := 2 ^ nk c
def nhi (c : Nt) : Nat := c.1 + nsz c
def nMay (c : Nt) : Bool := decide (0 ≤ c.2) && decide (c.2 ≤ 32) && decide (c.1 % nsz c = 0)
theorem nMay_iff (c : Nt) : nMay c = true ↔ 0 ≤ c.2 ∧ c.2 ≤ 32 ∧ c.1 % nsz c = 0 := by
  simp [nMay, and_assoc]
theorem nsz_pos (c : Nt) : 0 < nsz c := Nat.pow_pos (by omega)
theorem nk_bits {c : Nt} (h : nMay c = true) : (nk c : Int) = 32 - c.2 ∧ nk c ≤ 32 := by
  have := (nMay_iff c).1 h
  unfold nk
  omega
theorem pow2_inj {i j : Nat} (h : 2 ^ i = 2 ^ j) : i = j := by
  rcases Nat.lt_trichotomy i j with g | g | g
  · have := Nat.pow_lt_pow_right (a := 2) (by omega) g; omega
  · exact g
  · have := Nat.pow_lt_pow_right (a := 2) (by omega) g; omega
/-- Does a net have an address? -/
def nIn (c : Nt) (x : Nat) : Bool := nMay c && decide (x / nsz c * nsz c = c.1)
def nCov (c d : Nt) : Bool := nMay d && (nIn c d.1 && decide (c.2 ≤ d.2))
theorem div_mul_le' (x n : Nat) : x / n * n ≤ x := Nat.div_mul_le_self x n
theorem lt_div_mul (x n : Nat) (h : 0 < n) : x < x / n * n + n := by
  have h1 := Nat.mod_add_div x n
  have h2 := Nat.mod_lt x h
  rw [Nat.mul_comm] at h1
  omega
theorem nIn_iff (c : Nt) (x : Nat) : nIn c x = true ↔ nMay c = true ∧ c.1 ≤ x ∧ x < nhi c := by
  unfold nIn nhi
  simp only [Bool.and_eq_true, decide_eq_true_eq]
  refine and_congr_right fun h => ?_
  have hp := nsz_pos c
  have hm := ((nMay_iff c).1 h).2.2
  constructor
  · intro e
    have h1 := div_mul_le' x (nsz c)
    have h2 := lt_div_mul x (nsz c) hp
    omega
  · rintro ⟨h1, h2⟩
    have h3 : c.1 = c.1 / nsz c * nsz c := by
      have := Nat.mod_add_div c.1 (nsz c)
      rw [Nat.mul_comm] at this
      omega
    have h4 : x / nsz c = c.1 / nsz c := by
      refine Nat.div_eq_of_lt_le ?_ ?_
      · rw [← h3]; exact h1
      · rw [Nat.add_mul, Nat.one_mul, ← h3]; exact h2
    rw [h4, ← h3]
/-- Of two rows of whole pieces the finer one lies within the other, or beside it. -/
theorem dyad {x y i j : Nat} (hij : i ≤ j) (hx : x % 2 ^ i = 0) (hy : y % 2 ^ j = 0) : (y ≤ x ∧ x + 2 ^ i ≤ y + 2 ^ j) ∨ x + 2 ^ i ≤ y ∨ y + 2 ^ j ≤ x := by
  obtain ⟨d, rfl⟩ := Nat.exists_eq_add_of_le hij
  obtain ⟨u, rfl⟩ := Nat.dvd_of_mod_eq_zero hx
  obtain ⟨v, rfl⟩ := Nat.dvd_of_mod_eq_zero hy
  have hp : 0 < 2 ^ i := Nat.pow_pos (by omega)
  rw [Nat.pow_add]
  generalize 2 ^ i = p at *
  generalize 2 ^ d = q at *
  have e1 : p * q * v = p * (q * v) := Nat.mul_assoc _ _ _
  have e2 : p * q * v + p * q = p * (q * v + q) := by rw [e1, ← Nat.mul_add]
  have e3 : p * u + p = p * (u + 1) := by rw [Nat.mul_add, Nat.mul_one]
  rw [e2, e3, e1]
  by_cases h1 : u < q * v
  · exact .inr (.inl (Nat.mul_le_mul_left p h1))
  · by_cases h2 : q * v + q ≤ u
    · exact .inr (.inr (Nat.mul_le_mul_left p h2))
    · exact .inl ⟨Nat.mul_le_mul_left p (by omega), Nat.mul_le_mul_left p (by omega)⟩
theorem dyN {c d : Nt} (hc : nMay c = true) (hd : nMay d = true) (h : nk d ≤ nk c) : (c.1 ≤ d.1 ∧ nhi d ≤ nhi c) ∨ nhi d ≤ c.1 ∨ nhi c ≤ d.1 :=
  dyad h ((nMay_iff d).1 hd).2.2 ((nMay_iff c).1 hc).2.2
theorem nhi_gt (c : Nt) : c.1 < nhi c := by have := nsz_pos c; unfold nhi; omega
theorem nk_le_iff {c d : Nt} (hc : nMay c = true) (hd : nMay d = true) : nk d ≤ nk c ↔ c.2 ≤ d.2 := by
  have := nk_bits hc
  have := nk_bits hd
  omega
theorem nsz_mono {c d : Nt} (h : nk c ≤ nk d) : nsz c ≤ nsz d := Nat.pow_le_pow_right (by omega) h
theorem nsz_lt {c d : Nt} (h : nk c < nk d) : nsz c < nsz d := Nat.pow_lt_pow_right (by omega) h
/-- To cover is to have all. -/
theorem nCov_iff {c d : Nt} : nCov c d = true ↔ nMay c = true ∧ nMay d = true ∧ c.1 ≤ d.1 ∧ nhi d ≤ nhi c := by
  unfold nCov
  simp only [Bool.and_eq_true, decide_eq_true_eq, nIn_iff]
  constructor
  · rintro ⟨hd, ⟨hc, h1, h2⟩, h3⟩
    rcases dyN hc hd ((nk_le_iff hc hd).2 h3) with h | h | h
    · exact ⟨hc, hd, h⟩
    · have := nhi_gt d; omega
    · omega
  · rintro ⟨hc, hd, h1, h2⟩
    have := nhi_gt d
    refine ⟨hd, ⟨hc, h1, by omega⟩, ?_⟩
    rw [← nk_le_iff hc hd]
    rcases Nat.lt_or_ge (nk c) (nk d) with h | h
    · have := nsz_lt h
      unfold nhi at h2
      omega
    · exact h
theorem eq_of_same {c d : Nt} (hc : nMay c = true) (hd : nMay d = true) (h1 : c.1 = d.1) (h2 : nk c = nk d) : c = d := by
  have := nk_bits hc
  have := nk_bits hd
  exact Prod.ext h1 (by omega)
/-- The net of one bit less. -/
def nPar (c : Nt) : Nt := (c.1 / (2 * nsz c) * (2 * nsz c), c.2 - 1)
def nSib (a b : Nt) : Bool := decide (a.2 = b.2) && (decide (0 < a.2) && decide (nPar a = nPar b))
theorem nk_par {c : Nt} (h : nMay c = true) : nk (nPar c) = nk c + 1 := by
  have := nk_bits h
  show (32 - (c.2 - 1)).toNat = _
  omega
theorem nsz_par {c : Nt} (h : nMay c = true) : nsz (nPar c) = 2 * nsz c := by
  unfold nsz
  rw [nk_par h, Nat.pow_succ, Nat.mul_comm]
theorem nMay_par {c : Nt} (h : nMay c = true) (h0 : 0 < c.2) : nMay (nPar c) = true := by
  have h1 := (nMay_iff c).1 h
  rw [nMay_iff, nsz_par h]
  refine ⟨by show 0 ≤ c.2 - 1; omega, by show c.2 - 1 ≤ 32; omega, Nat.mul_mod_left _ _⟩
/-- Of two unlike nets beside one another the lower one begins where their parent does. -/
theorem sib_low {a b : Nt} (ha : nMay a = true) (hb : nMay b = true) (hs : nSib a b = true) (hlt : a.1 < b.1) : (nPar a).1 = a.1 ∧ nhi a = b.1 ∧ nhi b = nhi (nPar a) := by
  unfold nSib at hs
  simp only [Bool.and_eq_true, decide_eq_true_eq] at hs
  obtain ⟨h1, h2, h3⟩ := hs
  have hk : nk a = nk b := by unfold nk; rw [h1]
  have hz : nsz a = nsz b := by unfold nsz; rw [hk]
  have h4 := congrArg Prod.fst h3
  have hp := nsz_par ha
  unfold nPar at h4
  simp only at h4
  rw [← hz] at h4
  have ma := ((nMay_iff a).1 ha).2.2
  have mb := ((nMay_iff b).1 hb).2.2
  rw [← hz] at mb
  have pz := nsz_pos a
  unfold nhi
  rw [hp, ← hz]
  show a.1 / (2 * nsz a) * (2 * nsz a) = a.1 ∧ a.1 + nsz a = b.1 ∧ b.1 + nsz a = a.1 / (2 * nsz a) * (2 * nsz a) + 2 * nsz a
  generalize nsz a = z at *
  obtain ⟨u, hu⟩ := Nat.dvd_of_mod_eq_zero ma
  obtain ⟨v, hv⟩ := Nat.dvd_of_mod_eq_zero mb
  rw [hu, hv] at h4
  rw [hu] at hlt ⊢
  rw [hv] at hlt ⊢
  have e : ∀ q : Nat, z * q / (2 * z) = q / 2 := fun q => by rw [Nat.mul_comm 2 z]; exact Nat.mul_div_mul_left q 2 pz
  rw [e, e] at h4
  rw [e]
  have huv : u < v := Nat.lt_of_mul_lt_mul_left hlt
  have h5 : u / 2 = v / 2 := Nat.eq_of_mul_eq_mul_right (by omega) h4
  have h6 : v = u + 1 := by omega
  have h7 : u / 2 * 2 = u := by omega
  have h8 : u / 2 * (2 * z) = z * u := by rw [← Nat.mul_assoc, h7, Nat.mul_comm]
  rw [h8, h6, Nat.mul_add]
  omega
/-- Has one of a row of nets an address? -/
def nHas (l : List Nt) (x : Nat) : Prop := ∃ c ∈ l, nMay c = true ∧ c.1 ≤ x ∧ x < nhi c
/-- What is merged: in a row, apart, none beside its other half. -/
structure Nice (l : List Nt) : Prop where
  may : ∀ c ∈ l, nMay c = true
  apart : l.Pairwise fun c d => nhi c ≤ d.1
  sib : ∀ c ∈ l, ∀ d ∈ l, c.1 < d.1 → nSib c d = false
theorem nice_cover {l : List Nt} (h : Nice l) : ∀ (k : Nat) (D : Nt), nk D = k → nMay D = true → (∀ x, D.1 ≤ x → x < nhi D → nHas l x) → ∃ y ∈ l, y.1 ≤ D.1 ∧ nhi D ≤ nhi y := by
  intro k
  induction k with
  | zero =>
    intro D hk hD hall
    obtain ⟨y, hy, _, h1, h2⟩ := hall D.1 (Nat.le_refl _) (nhi_gt D)
    refine ⟨y, hy, h1, ?_⟩
    unfold nhi nsz at *
    rw [hk]
    omega
  | succ k ih =>
    intro D hk hD hall
    have hb := nk_bits hD
    have hm := (nMay_iff D).1 hD
    have hz : nsz D = 2 * 2 ^ k := by unfold nsz; rw [hk, Nat.pow_succ, Nat.mul_comm]
    have pk : 0 < 2 ^ k := Nat.pow_pos (by omega)
    rw [hz] at hm
    have m0 : D.1 % 2 ^ k = 0 := Nat.mod_eq_zero_of_dvd (Nat.dvd_trans ⟨2, Nat.mul_comm _ _⟩ (Nat.dvd_of_mod_eq_zero hm.2.2))
    have z0 : ∀ a : Nat, nsz ((a, D.2 + 1) : Nt) = 2 ^ k := fun a => by unfold nsz nk; congr 1; simp only; omega
    have k0 : ∀ a : Nat, nk ((a, D.2 + 1) : Nt) = k := fun a => by unfold nk; simp only; omega
    have may0 : nMay ((D.1, D.2 + 1) : Nt) = true := by rw [nMay_iff, z0]; exact ⟨by simp only; omega, by simp only; omega, m0⟩
    have may1 : nMay ((D.1 + 2 ^ k, D.2 + 1) : Nt) = true := by rw [nMay_iff, z0]; exact ⟨by simp only; omega, by simp only; omega, by simp only; rw [Nat.add_mod_right]; exact m0⟩
    have hi0 : nhi ((D.1, D.2 + 1) : Nt) = D.1 + 2 ^ k := by unfold nhi; rw [z0]
    have hi1 : nhi ((D.1 + 2 ^ k, D.2 + 1) : Nt) = D.1 + 2 ^ k + 2 ^ k := by unfold nhi; rw [z0]
    have hiD : nhi D = D.1 + 2 ^ k + 2 ^ k := by unfold nhi; rw [hz]; omega
    obtain ⟨y0, hy0, a0, b0⟩ := ih (D.1, D.2 + 1) (k0 _) may0 (fun x h1 h2 => hall x h1 (by rw [hi0] at h2; omega))
    obtain ⟨y1, hy1, a1, b1⟩ := ih (D.1 + 2 ^ k, D.2 + 1) (k0 _) may1 (fun x h1 h2 => hall x (by simp only at h1; omega) (by rw [hi1] at h2; omega))
    rw [hi0] at b0
    rw [hi1] at b1
    simp only at a0 a1
    have M0 := h.may y0 hy0
    have M1 := h.may y1 hy1
    by_cases c0 : k + 1 ≤ nk y0
    · rcases dyN M0 hD (by omega) with g | g | g
      · exact ⟨y0, hy0, g⟩
      · omega
      · omega
    by_cases c1 : k + 1 ≤ nk y1
    · rcases dyN M1 hD (by omega) with g | g | g
      · exact ⟨y1, hy1, g⟩
      · omega
      · omega
    exfalso
    have s0 : nsz y0 ≤ 2 ^ k := Nat.pow_le_pow_right (by omega) (by omega)
    have s1 : nsz y1 ≤ 2 ^ k := Nat.pow_le_pow_right (by omega) (by omega)
    have e0 : y0.1 = D.1 ∧ nsz y0 = 2 ^ k := by unfold nhi at b0; omega
    have e1 : y1.1 = D.1 + 2 ^ k ∧ nsz y1 = 2 ^ k := by unfold nhi at b1; omega
    have n0 : nk y0 = k := pow2_inj e0.2
    have n1 : nk y1 = k := pow2_inj e1.2
    have q0 := nk_bits M0
    have q1 := nk_bits M1
    have hs : nSib y0 y1 = true := by
      unfold nSib
      simp only [Bool.and_eq_true, decide_eq_true_eq]
      refine ⟨by omega, by omega, ?_⟩
      unfold nPar
      rw [e0.2, e1.2, e0.1, e1.1]
      refine Prod.ext ?_ (by simp only; omega)
      simp only
      obtain ⟨v, hv⟩ := Nat.dvd_of_mod_eq_zero hm.2.2
      congr 1
      rw [hv, Nat.mul_div_cancel_left v (by omega)]
      symm
      exact Nat.div_eq_of_lt_le (by rw [Nat.mul_comm]; omega) (by rw [Nat.add_mul, Nat.one_mul, Nat.mul_comm v]; omega)
    rw [h.sib y0 hy0 y1 hy1 (by omega)] at hs
    cases hs
theorem nice_mem {A B : List Nt} (hA : Nice A) (hB : Nice B) (h : ∀ x, nHas A x ↔ nHas B x) : ∀ c ∈ A, c ∈ B := by
  intro c hc
  obtain ⟨y, hy, a, b⟩ := nice_cover hB (nk c) c rfl (hA.may c hc) (fun x h1 h2 => (h x).1 ⟨c, hc, hA.may c hc, h1, h2⟩)
  obtain ⟨z, hz, a2, b2⟩ := nice_cover hA (nk y) y rfl (hB.may y hy) (fun x h1 h2 => (h x).2 ⟨y, hy, hB.may y hy, h1, h2⟩)
  have gc := nhi_gt c
  have gz := nhi_gt z
  have hzc : z = c := by
    have hp : ∀ u v : Nt, u ∈ A → v ∈ A → u.1 < nhi v → v.1 < nhi u → u = v := by
      have hpw := hA.apart
      clear hz hc
      clear hA h
      induction A with
      | nil => intro u v hu; cases hu
      | cons p r ih =>
        intro u v hu hv g1 g2
        rw [List.pairwise_cons] at hpw
        rcases List.mem_cons.1 hu with eu | hu
        · rcases List.mem_cons.1 hv with ev | hv
          · rw [eu, ev]
          · have := hpw.1 v hv; subst eu; omega
        · rcases List.mem_cons.1 hv with ev | hv
          · have := hpw.1 u hu; subst ev; omega
          · exact ih hpw.2 u v hu hv g1 g2
    exact hp z c hz hc (by omega) (by omega)
  subst hzc
  have hk : nsz z = nsz y := by unfold nhi at *; omega
  have : nk z = nk y := pow2_inj hk
  rw [eq_of_same (hA.may z hz) (hB.may y hy) (by omega) this]
  exact hy
theorem eq_of_mem : ∀ {A B : List Nt}, A.Pairwise (fun c d => c.1 < d.1) → B.Pairwise (fun c d => c.1 < d.1) → (∀ c, c ∈ A ↔ c ∈ B) → A = B
  | [], [], _, _, _ => rfl
  | [], b :: B, _, _, h => absurd ((h b).2 (List.mem_cons_self)) (by simp)
  | a :: A, [], _, _, h => absurd ((h a).1 (List.mem_cons_self)) (by simp)
  | a :: A, b :: B, hA, hB, h => by
    rw [List.pairwise_cons] at hA hB
    have e : a = b := by
      rcases List.mem_cons.1 ((h a).1 List.mem_cons_self) with e | e
      · exact e
      · rcases List.mem_cons.1 ((h b).2 List.mem_cons_self) with e' | e'
        · exact e'.symm
        · have := hB.1 a e; have := hA.1 b e'; omega
    subst e
    congr 1
    refine eq_of_mem hA.2 hB.2 fun c => ?_
    constructor
    · intro hc
      rcases List.mem_cons.1 ((h c).1 (List.mem_cons_of_mem _ hc)) with e | e
      · subst e; have := hA.1 c hc; omega
      · exact e
    · intro hc
      rcases List.mem_cons.1 ((h c).2 (List.mem_cons_of_mem _ hc)) with e | e
      · subst e; have := hB.1 c hc; omega
      · exact e
theorem Nice.rise {A : List Nt} (h : Nice A) : A.Pairwise (fun c d => c.1 < d.1) :=
  h.apart.imp fun {c d} hcd => Nat.lt_of_lt_of_le (nhi_gt c) hcd
/-- The same addresses: the same nets. -/
theorem nice_one {A B : List Nt} (hA : Nice A) (hB : Nice B) (h : ∀ x, nHas A x ↔ nHas B x) : A = B :=
  eq_of_mem hA.rise hB.rise fun c => ⟨nice_mem hA hB h c, nice_mem hB hA (fun x => (h x).symm) c⟩
/-! ### A step of the merging -/
def mstep : List Nt → Option (List Nt)
  | [] => none
  | [_] => none
  | a :: b :: r => if nCov a b then some (a :: r) else if nSib a b then some (nPar a :: r) else (mstep (b :: r)).map (a :: ·)
def lexLe (c d : Nt) : Prop := c.1 < d.1 ∨ (c.1 = d.1 ∧ c.2 ≤ d.2)
structure Rowed (l : List Nt) : Prop where
  may : ∀ c ∈ l, nMay c = true
  rise : l.Pairwise lexLe
theorem Rowed.tail {a : Nt} {l : List Nt} (h : Rowed (a :: l)) : Rowed l := ⟨fun c hc => h.may c (List.mem_cons_of_mem _ hc), (List.pairwise_cons.1 h.rise).2⟩
theorem cov_same {a b : Nt} (ha : nMay a = true) (hb : nMay b = true) (h1 : a.1 = b.1) (h2 : a.2 ≤ b.2) : nCov a b = true := by
  rw [nCov_iff]
  refine ⟨ha, hb, by omega, ?_⟩
  have := nsz_mono ((nk_le_iff ha hb).2 h2)
  unfold nhi
  omega
theorem mstep_some : ∀ {l l' : List Nt}, Rowed l → mstep l = some l' → Rowed l' ∧ (∀ x, nHas l' x ↔ nHas l x) ∧ l'.length + 1 = l.length ∧ (l'.head?).map Prod.fst = (l.head?).map Prod.fst
  | [], _, _, h => by simp [mstep] at h
  | [_], _, _, h => by simp [mstep] at h
  | a :: b :: r, l', hR, h => by
    have ha := hR.may a List.mem_cons_self
    have hb := hR.may b (List.mem_cons_of_mem _ List.mem_cons_self)
    have hp := List.pairwise_cons.1 hR.rise
    have hab := hp.1 b List.mem_cons_self
    unfold mstep at h
    by_cases hc : nCov a b = true
    · rw [if_pos hc] at h
      injection h with h
      subst h
      obtain ⟨_, _, c1, c2⟩ := nCov_iff.1 hc
      refine ⟨⟨fun c hc => hR.may c (by simp at hc ⊢; rcases hc with h | h <;> simp [h]), ?_⟩, fun x => ⟨?_, ?_⟩, by simp, rfl⟩
      · rw [List.pairwise_cons]
        exact ⟨fun d hd => hp.1 d (List.mem_cons_of_mem _ hd), (List.pairwise_cons.1 hp.2).2⟩
      · rintro ⟨c, hc, h⟩
        exact ⟨c, by simp at hc ⊢; rcases hc with h | h <;> simp [h], h⟩
      · rintro ⟨c, hc, m, h1, h2⟩
        rcases List.mem_cons.1 hc with rfl | hc
        · exact ⟨c, List.mem_cons_self, m, h1, h2⟩
        · rcases List.mem_cons.1 hc with rfl | hc
          · exact ⟨a, List.mem_cons_self, ha, by omega, by omega⟩
          · exact ⟨c, List.mem_cons_of_mem _ hc, m, h1, h2⟩
    rw [if_neg hc] at h
    have hlt : a.1 < b.1 := by
      rcases hab with h1 | ⟨h1, h2⟩
      · exact h1
      · exact absurd (cov_same ha hb h1 h2) hc
    by_cases hs : nSib a b = true
    · rw [if_pos hs] at h
      injection h with h
      subst h
      obtain ⟨p1, p2, p3⟩ := sib_low ha hb hs hlt
      have h0 : 0 < a.2 := by
        unfold nSib at hs
        simp only [Bool.and_eq_true, decide_eq_true_eq] at hs
        exact hs.2.1
      have hpm := nMay_par ha h0
      have hgb := nhi_gt b
      refine ⟨⟨fun c hc => ?_, ?_⟩, fun x => ⟨?_, ?_⟩, by simp, by simp [p1]⟩
      · rcases List.mem_cons.1 hc with rfl | hc
        · exact hpm
        · exact hR.may c (by simp [hc])
      · rw [List.pairwise_cons]
        refine ⟨fun d hd => ?_, (List.pairwise_cons.1 hp.2).2⟩
        rcases hp.1 d (List.mem_cons_of_mem _ hd) with g | ⟨g, g2⟩
        · exact .inl (by omega)
        · exact .inr ⟨by omega, by show a.2 - 1 ≤ d.2; omega⟩
      · rintro ⟨c, hc, m, h1, h2⟩
        rcases List.mem_cons.1 hc with rfl | hc
        · by_cases hx : x < nhi a
          · exact ⟨a, List.mem_cons_self, ha, by omega, hx⟩
          · exact ⟨b, by simp, hb, by omega, by omega⟩
        · exact ⟨c, by simp [hc], m, h1, h2⟩
      · rintro ⟨c, hc, m, h1, h2⟩
        rcases List.mem_cons.1 hc with rfl | hc
        · exact ⟨nPar c, List.mem_cons_self, hpm, by omega, by omega⟩
        · rcases List.mem_cons.1 hc with rfl | hc
          · exact ⟨nPar a, List.mem_cons_self, hpm, by omega, by omega⟩
          · exact ⟨c, List.mem_cons_of_mem _ hc, m, h1, h2⟩
    rw [if_neg hs] at h
    obtain ⟨l1, hl1, rfl⟩ := Option.map_eq_some_iff.1 h
    obtain ⟨r1, r2, r3, r4⟩ := mstep_some hR.tail hl1
    have hge : ∀ d ∈ l1, b.1 ≤ d.1 := by
      cases l1 with
      | nil => intro d hd; cases hd
      | cons e l2 =>
        simp only [List.head?_cons, Option.map_some, Option.some.injEq] at r4
        intro d hd
        rcases List.mem_cons.1 hd with rfl | hd
        · omega
        · rcases (List.pairwise_cons.1 r1.rise).1 d hd with g | g <;> omega
    refine ⟨⟨fun c hc => ?_, ?_⟩, fun x => ?_, by simp at r3 ⊢; omega, rfl⟩
    · rcases List.mem_cons.1 hc with rfl | hc
      · exact ha
      · exact r1.may c hc
    · rw [List.pairwise_cons]
      exact ⟨fun _ hd => Or.inl (by have := hge _ hd; omega), r1.rise⟩
    · have e : ∀ L : List Nt, nHas (a :: L) x ↔ (nMay a = true ∧ a.1 ≤ x ∧ x < nhi a) ∨ nHas L x := fun L => by simp [nHas]
      rw [e, e, r2]
theorem mstep_none : ∀ {l : List Nt}, Rowed l → mstep l = none → Nice l
  | [], _, _ => ⟨fun _ h => absurd h (by simp), List.Pairwise.nil, fun _ h => absurd h (by simp)⟩
  | [a], hR, _ => ⟨hR.may, by simp, fun c hc d hd h => by simp at hc hd; subst hc hd; omega⟩
  | a :: b :: r, hR, h => by
    have ha := hR.may a List.mem_cons_self
    have hb := hR.may b (List.mem_cons_of_mem _ List.mem_cons_self)
    have hp := List.pairwise_cons.1 hR.rise
    have hab := hp.1 b List.mem_cons_self
    unfold mstep at h
    by_cases hc : nCov a b = true
    · rw [if_pos hc] at h; cases h
    rw [if_neg hc] at h
    by_cases hs : nSib a b = true
    · rw [if_pos hs] at h; cases h
    rw [if_neg hs] at h
    have hn : mstep (b :: r) = none := by simpa using h
    have hI := mstep_none hR.tail hn
    have hlt : a.1 < b.1 := by
      rcases hab with h1 | ⟨h1, h2⟩
      · exact h1
      · exact absurd (cov_same ha hb h1 h2) hc
    have hgb := nhi_gt b
    have hga := nhi_gt a
    have hapart : nhi a ≤ b.1 := by
      rcases Nat.le_total (nk b) (nk a) with g | g
      · rcases dyN ha hb g with g | g | g
        · exact absurd (nCov_iff.2 ⟨ha, hb, g⟩) hc
        · omega
        · exact g
      · rcases dyN hb ha g with g | g | g <;> omega
    have hge : ∀ d ∈ b :: r, b.1 ≤ d.1 := by
      intro d hd
      rcases List.mem_cons.1 hd with rfl | hd
      · exact Nat.le_refl _
      · rcases (List.pairwise_cons.1 hp.2).1 d hd with g | g <;> omega
    refine ⟨hR.may, ?_, ?_⟩
    · rw [List.pairwise_cons]
      exact ⟨fun d hd => Nat.le_trans hapart (hge d hd), hI.apart⟩
    · intro c hc' d hd hcd
      rcases List.mem_cons.1 hc' with rfl | hc2
      · rcases List.mem_cons.1 hd with rfl | hd
        · omega
        · rcases List.mem_cons.1 hd with rfl | hd
          · simpa using hs
          · cases hsd : nSib c d
            · rfl
            · exfalso
              have hdm := hR.may d (by simp [hd])
              obtain ⟨_, p2, _⟩ := sib_low ha hdm hsd hcd
              have := (List.pairwise_cons.1 hI.apart).1 d hd
              omega
      · rcases List.mem_cons.1 hd with rfl | hd
        · have := hge c hc2; omega
        · exact hI.sib c hc2 d hd hcd
end Go.Proofs.YtdbjihpdfiipcaaGreat
