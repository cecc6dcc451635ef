/- The document's merging, plainly: the nets within one that have what a row has in it. No condition. -/
import Derived.Test.YtdbjihpdfiipcaaGreatNetsLaw
namespace Go.Proofs.YtdbjihpdfiipcaaGreat
def nLow (c : Nt) : Nt := (c.1, c.2 + 1)
def nHigh (c : Nt) : Nt := (nhi (nLow c), c.2 + 1)
def rWhole (l : List Nt) : Nat → Nt → Bool
  | 0, c => l.any (nCov · c)
  | k + 1, c => l.any (nCov · c) || (l.any (nCov c ·) && (rWhole l k (nLow c) && rWhole l k (nHigh c)))
def rSome (l : List Nt) (c : Nt) : Bool := l.any fun d => nCov c d || nCov d c
def rMerge (l : List Nt) : Nat → Nt → List Nt
  | 0, c => if rSome l c then [c] else []
  | k + 1, c => if rSome l c then (if rWhole l (k + 1) c then [c] else rMerge l k (nLow c) ++ rMerge l k (nHigh c)) else []
structure Halved (c : Nt) (k : Nat) : Prop where
  mlow : nMay (nLow c) = true
  mhigh : nMay (nHigh c) = true
  klow : nk (nLow c) = k
  khigh : nk (nHigh c) = k
  lo : (nLow c).1 = c.1
  mid : (nHigh c).1 = nhi (nLow c)
  hlow : nhi (nLow c) = c.1 + 2 ^ k
  hhigh : nhi (nHigh c) = nhi c
  gap : nhi c = c.1 + 2 ^ k + 2 ^ k
theorem halved {c : Nt} {k : Nat} (hD : nMay c = true) (hk : nk c = k + 1) : Halved c k := by
  have hb := nk_bits hD
  have hm := (nMay_iff c).1 hD
  have hz : nsz c = 2 * 2 ^ k := by unfold nsz; rw [hk, Nat.pow_succ, Nat.mul_comm]
  rw [hz] at hm
  have m0 : c.1 % 2 ^ k = 0 := Nat.mod_eq_zero_of_dvd (Nat.dvd_trans ⟨2, Nat.mul_comm _ _⟩ (Nat.dvd_of_mod_eq_zero hm.2.2))
  have z0 : ∀ a : Nat, nsz ((a, c.2 + 1) : Nt) = 2 ^ k := fun a => by unfold nsz nk; congr 1; simp only; omega
  have k0 : ∀ a : Nat, nk ((a, c.2 + 1) : Nt) = k := fun a => by unfold nk; simp only; omega
  have h0 : nhi (nLow c) = c.1 + 2 ^ k := by unfold nhi; show c.1 + nsz (c.1, c.2 + 1) = _; rw [z0]
  have h2 : nhi c = c.1 + 2 ^ k + 2 ^ k := by unfold nhi; rw [hz]; omega
  refine ⟨?_, ?_, k0 _, k0 _, rfl, rfl, h0, ?_, h2⟩
  · unfold nLow
    rw [nMay_iff, z0]
    exact ⟨by simp only; omega, by simp only; omega, m0⟩
  · unfold nHigh
    rw [nMay_iff, z0, h0]
    exact ⟨by simp only; omega, by simp only; omega, by simp only; rw [Nat.add_mod_right]; exact m0⟩
  · rw [h2]
    unfold nhi
    show nhi (nLow c) + nsz (nhi (nLow c), c.2 + 1) = _
    rw [z0, h0]
theorem any_cov {l : List Nt} {c : Nt} (h : l.any (nCov · c) = true) (x : Nat) (h1 : c.1 ≤ x) (h2 : x < nhi c) : nHas l x := by
  obtain ⟨d, hd, hc⟩ := List.any_eq_true.1 h
  obtain ⟨m, _, a, b⟩ := nCov_iff.1 hc
  exact ⟨d, hd, m, by omega, by omega⟩
theorem rWhole_iff (l : List Nt) : ∀ (k : Nat) (c : Nt), nk c = k → nMay c = true → (rWhole l k c = true ↔ ∀ x, c.1 ≤ x → x < nhi c → nHas l x) := by
  intro k
  induction k with
  | zero =>
    intro c hk hc
    unfold rWhole
    constructor
    · intro h x h1 h2; exact any_cov h x h1 h2
    · intro h
      obtain ⟨d, hd, m, a, b⟩ := h c.1 (Nat.le_refl _) (nhi_gt c)
      refine List.any_eq_true.2 ⟨d, hd, nCov_iff.2 ⟨m, hc, a, ?_⟩⟩
      unfold nhi nsz at *
      rw [hk]
      omega
  | succ k ih =>
    intro c hk hc
    have H := halved hc hk
    have pk : 0 < 2 ^ k := Nat.pow_pos (by omega)
    unfold rWhole
    rw [Bool.or_eq_true, Bool.and_eq_true, Bool.and_eq_true, ih _ H.klow H.mlow, ih _ H.khigh H.mhigh]
    constructor
    · rintro (h | ⟨_, h1, h2⟩) x g1 g2
      · exact any_cov h x g1 g2
      · by_cases hx : x < nhi (nLow c)
        · exact h1 x g1 hx
        · exact h2 x (by have := H.mid; omega) (by have := H.hhigh; omega)
    · intro h
      by_cases hcov : l.any (nCov · c) = true
      · exact .inl hcov
      · right
        have hlow : ∀ x, (nLow c).1 ≤ x → x < nhi (nLow c) → nHas l x := fun x g1 g2 => h x g1 (by have := H.hlow; have := H.gap; omega)
        have hhigh : ∀ x, (nHigh c).1 ≤ x → x < nhi (nHigh c) → nHas l x := fun x g1 g2 => h x (by have := H.mid; have := H.hlow; omega) (by have := H.hhigh; omega)
        refine ⟨?_, hlow, hhigh⟩
        obtain ⟨d, hd, m, a, b⟩ := h c.1 (Nat.le_refl _) (nhi_gt c)
        refine List.any_eq_true.2 ⟨d, hd, ?_⟩
        rcases Nat.le_total (nk d) (nk c) with g | g
        · rcases dyN hc m g with g | g | g
          · exact nCov_iff.2 ⟨hc, m, g⟩
          · omega
          · have := nhi_gt c; omega
        · exfalso
          rcases dyN m hc g with g | g | g
          · exact hcov (List.any_eq_true.2 ⟨d, hd, nCov_iff.2 ⟨m, hc, g⟩⟩)
          · have := nhi_gt c; omega
          · omega
theorem rSome_of {l : List Nt} {c : Nt} (hc : nMay c = true) {x : Nat} (h : nHas l x) (h1 : c.1 ≤ x) (h2 : x < nhi c) : rSome l c = true := by
  obtain ⟨d, hd, m, a, b⟩ := h
  refine List.any_eq_true.2 ⟨d, hd, ?_⟩
  rw [Bool.or_eq_true]
  rcases Nat.le_total (nk d) (nk c) with g | g
  · rcases dyN hc m g with g | g | g
    · exact .inl (nCov_iff.2 ⟨hc, m, g⟩)
    · omega
    · omega
  · rcases dyN m hc g with g | g | g
    · exact .inr (nCov_iff.2 ⟨m, hc, g⟩)
    · omega
    · omega
structure Within (l R : List Nt) (c : Nt) : Prop where
  nice : Nice R
  ins : ∀ r ∈ R, c.1 ≤ r.1 ∧ nhi r ≤ nhi c
  has : ∀ x, nHas R x ↔ nHas l x ∧ c.1 ≤ x ∧ x < nhi c
theorem within_nil {l : List Nt} {c : Nt} (hc : nMay c = true) (h : rSome l c = false) : Within l [] c :=
  ⟨⟨fun _ h => absurd h (by simp), List.Pairwise.nil, fun _ h => absurd h (by simp)⟩, fun _ h => absurd h (by simp), fun x =>
    ⟨fun ⟨_, h, _⟩ => absurd h (by simp), fun ⟨h1, h2, h3⟩ => by rw [rSome_of hc h1 h2 h3] at h; cases h⟩⟩
theorem within_one {l : List Nt} {c : Nt} (hc : nMay c = true) (h : ∀ x, c.1 ≤ x → x < nhi c → nHas l x) : Within l [c] c :=
  ⟨⟨fun d hd => by simp at hd; subst hd; exact hc, by simp, fun a ha b hb g => by simp at ha hb; subst ha hb; omega⟩, fun r hr => by simp at hr; subst hr; omega, fun x =>
    ⟨fun ⟨d, hd, _, a, b⟩ => by simp at hd; subst hd; exact ⟨h x a b, a, b⟩, fun ⟨_, a, b⟩ => ⟨c, by simp, hc, a, b⟩⟩⟩
theorem rMerge_within (l : List Nt) : ∀ (k : Nat) (c : Nt), nk c = k → nMay c = true → Within l (rMerge l k c) c := by
  intro k
  induction k with
  | zero =>
    intro c hk hc
    unfold rMerge
    cases hs : rSome l c
    · exact within_nil hc hs
    · refine within_one hc ?_
      have hw : rWhole l 0 c = true := by
        obtain ⟨d, hd, h⟩ := List.any_eq_true.1 hs
        rw [Bool.or_eq_true] at h
        refine List.any_eq_true.2 ⟨d, hd, ?_⟩
        rcases h with h | h
        · obtain ⟨_, m, a, b⟩ := nCov_iff.1 h
          refine nCov_iff.2 ⟨m, hc, ?_⟩
          have := nsz_pos d
          have e : nsz c = 1 := by unfold nsz; rw [hk]
          unfold nhi at *
          omega
        · exact h
      exact (rWhole_iff l 0 c hk hc).1 hw
  | succ k ih =>
    intro c hk hc
    unfold rMerge
    cases hs : rSome l c
    · exact within_nil hc hs
    rw [if_pos rfl]
    cases hw : rWhole l (k + 1) c
    case true =>
      rw [if_pos rfl]
      exact within_one hc ((rWhole_iff l (k + 1) c hk hc).1 hw)
    rw [if_neg (by simp)]
    have H := halved hc hk
    have pk : 0 < 2 ^ k := Nat.pow_pos (by omega)
    have A := ih _ H.klow H.mlow
    have B := ih _ H.khigh H.mhigh
    have h1 := H.lo
    have h2 := H.mid
    have h3 := H.hlow
    have h4 := H.hhigh
    have h5 := H.gap
    refine ⟨⟨fun d hd => ?_, ?_, ?_⟩, fun r hr => ?_, fun x => ?_⟩
    · rcases List.mem_append.1 hd with hd | hd
      · exact A.nice.may d hd
      · exact B.nice.may d hd
    · rw [List.pairwise_append]
      exact ⟨A.nice.apart, B.nice.apart, fun a ha b hb => by have := A.ins a ha; have := B.ins b hb; omega⟩
    · intro a ha b hb hab
      rcases List.mem_append.1 ha with ha | ha
      · rcases List.mem_append.1 hb with hb | hb
        · exact A.nice.sib a ha b hb hab
        · cases hsb : nSib a b
          · rfl
          · exfalso
            have ma := A.nice.may a ha
            have mb := B.nice.may b hb
            obtain ⟨p1, p2, p3⟩ := sib_low ma mb hsb hab
            have i1 := A.ins a ha
            have i2 := B.ins b hb
            have ga := nhi_gt a
            have gb := nhi_gt b
            have hs0 : 0 < a.2 := by
              unfold nSib at hsb
              simp only [Bool.and_eq_true, decide_eq_true_eq] at hsb
              exact hsb.2.1
            have mp := nMay_par ma hs0
            have kp := nk_par ma
            have zp := nsz_par ma
            have kb : nk b = nk a := by
              unfold nSib at hsb
              simp only [Bool.and_eq_true, decide_eq_true_eq] at hsb
              unfold nk
              rw [hsb.1]
            have hka : k ≤ nk a := by
              rcases Nat.lt_or_ge (nk a) k with g | g
              · exfalso
                rcases dyN H.mlow mp (by have := H.klow; omega) with g | g | g
                · omega
                · omega
                · omega
              · exact g
            have za : 2 ^ k ≤ nsz a := Nat.pow_le_pow_right (by omega) hka
            have ea : nsz b = nsz a := by unfold nsz; rw [kb]
            have ra : a.1 = c.1 ∧ nhi a = c.1 + 2 ^ k := by unfold nhi at *; omega
            have rb : b.1 = c.1 + 2 ^ k ∧ nhi b = nhi c := by
              have : nhi b = b.1 + nsz b := rfl
              omega
            have : rWhole l (k + 1) c = true := by
              rw [rWhole_iff l (k + 1) c hk hc]
              intro x g1 g2
              by_cases hx : x < nhi a
              · exact ((A.has x).1 ⟨a, ha, ma, by omega, hx⟩).1
              · exact ((B.has x).1 ⟨b, hb, mb, by omega, by omega⟩).1
            rw [hw] at this
            cases this
      · rcases List.mem_append.1 hb with hb | hb
        · have i1 := A.ins b hb
          have i2 := B.ins a ha
          have gb := nhi_gt b
          omega
        · exact B.nice.sib a ha b hb hab
    · rcases List.mem_append.1 hr with hr | hr
      · have := A.ins r hr; omega
      · have := B.ins r hr; omega
    · have e : nHas (rMerge l k (nLow c) ++ rMerge l k (nHigh c)) x ↔ nHas (rMerge l k (nLow c)) x ∨ nHas (rMerge l k (nHigh c)) x := by
        unfold nHas
        constructor
        · rintro ⟨d, hd, h⟩
          rcases List.mem_append.1 hd with hd | hd
          · exact .inl ⟨d, hd, h⟩
          · exact .inr ⟨d, hd, h⟩
        · rintro (⟨d, hd, h⟩ | ⟨d, hd, h⟩)
          · exact ⟨d, List.mem_append_left _ hd, h⟩
          · exact ⟨d, List.mem_append_right _ hd, h⟩
      rw [e, A.has, B.has]
      constructor
      · rintro (⟨g, g1, g2⟩ | ⟨g, g1, g2⟩) <;> exact ⟨g, by omega, by omega⟩
      · rintro ⟨g, g1, g2⟩
        by_cases hx : x < nhi (nLow c)
        · exact .inl ⟨g, by omega, hx⟩
        · exact .inr ⟨g, by omega, by omega⟩
def nRoot : Nt := (0, 0)
theorem may_root : nMay nRoot = true := by decide +kernel
theorem hi_root : nhi nRoot = 4294967296 := by decide +kernel
theorem k_root : nk nRoot = 32 := by decide +kernel
theorem hi_le {c : Nt} (h : nMay c = true) (ha : c.1 < 4294967296) : nhi c ≤ 4294967296 := by
  have hk := (nk_bits h).2
  rcases dyN may_root h (by rw [k_root]; exact hk) with g | g | g
  · rw [hi_root] at g; exact g.2
  · have := nhi_gt c; have : nRoot.1 = 0 := rfl; omega
  · rw [hi_root] at g; omega
/-- What the document merges a row to has the row's addresses, in the one form. -/
theorem rMerge_nice (l : List Nt) (h : ∀ c ∈ l, c.1 < 4294967296) : Nice (rMerge l 32 nRoot) ∧ ∀ x, nHas (rMerge l 32 nRoot) x ↔ nHas l x := by
  have W := rMerge_within l 32 nRoot k_root may_root
  refine ⟨W.nice, fun x => ?_⟩
  rw [W.has]
  refine ⟨fun h => h.1, fun g => ⟨g, Nat.zero_le _, ?_⟩⟩
  obtain ⟨c, hc, m, a, b⟩ := g
  have := hi_le m (h c hc)
  rw [hi_root]
  omega
end Go.Proofs.YtdbjihpdfiipcaaGreat
