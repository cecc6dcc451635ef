/- Memory that is the call's own all the way down: rows whose elements hold rows; append to such rows. No condition. append to an empty row without room; append of one element as an operation. No condition. -/
import Derived.Test.YtdbjihpdfiipcaaGreatPolData
import Derived.Test.YtdbjihpdfiipcaaGreatWrAll
namespace Go.Proofs.YtdbjihpdfiipcaaGreat
open Go.RowKit
set_option linter.unusedVariables false
/-- Whatever reads below B in the one world reads so in the other one. -/
def Sub (B : Nat) (w w' : World) : Prop := ∀ p : Addr, p.block < B → ∀ v, w.cell? p = some v → w'.cell? p = some v
theorem Sub.of_below {B : Nat} {w w' : World} (h : Below B w w') : Sub B w w' := fun p hp v hv => (h.cell hp).trans hv
theorem Sub.trans {B : Nat} {a b c : World} (h : Sub B a b) (k : Sub B b c) : Sub B a c := fun p hp v hv => k p hp v (h p hp v hv)
section
variable {α : Type} {enc : α → List Value} {k : Nat} {P : World → Nat → List Value → α → Prop} {w w' : World} {B B' n : Nat} {A : Option Addr} {L : List α} {v : Value}
theorem RdR.sub (h : RdR enc k w B A n L) (hB : B ≤ B') (hs : Sub B w w') : RdR enc k w' B' A n L :=
  ⟨h.1, fun hn => by
    obtain ⟨b, off, h1, h2, h3⟩ := h.2 hn
    exact ⟨b, off, h1, by omega, fun j hj i v hv => hs ⟨b, off + j * k + i, none⟩ h2 v (h3 j hj i v hv)⟩⟩
theorem RdG.sub (h : RdG k P w B A n L) (hB : B ≤ B') (hs : Sub B w w') (hP : ∀ cs x, P w B cs x → P w' B' cs x) : RdG k P w' B' A n L :=
  ⟨h.1, fun hn => by
    obtain ⟨b, off, h1, h2, h3⟩ := h.2 hn
    refine ⟨b, off, h1, by omega, fun j hj => ?_⟩
    obtain ⟨cs, h4, h5, h6⟩ := h3 j hj
    exact ⟨cs, h4, hP _ _ h5, fun i v hv => hs ⟨b, off + j * k + i, none⟩ h2 v (h6 i v hv)⟩⟩
theorem RvR.sub (h : RvR enc k w B v L) (hB : B ≤ B') (hs : Sub B w w') : RvR enc k w' B' v L := by
  obtain ⟨A, n, c, h1, h2, h3, h4⟩ := h
  exact ⟨A, n, c, h1, h2, h3, h4.sub hB hs⟩
theorem RvG.sub (h : RvG k P w B v L) (hB : B ≤ B') (hs : Sub B w w') (hP : ∀ cs x, P w B cs x → P w' B' cs x) : RvG k P w' B' v L := by
  obtain ⟨A, n, c, h1, h2, h3, h4⟩ := h
  exact ⟨A, n, c, h1, h2, h3, h4.sub hB hs hP⟩
end
/-- What is read of an element stays, wherever as much is read. -/
def Mn {α : Type} (P : World → Nat → List Value → α → Prop) : Prop := ∀ w w' B B' cs x, B ≤ B' → Sub B w w' → P w B cs x → P w' B' cs x
theorem SrP.mn : Mn SrP := by
  rintro w w' B B' cs x hB hs ⟨v1, v2, v3, e, h1, h2, h3⟩
  exact ⟨v1, v2, v3, e, h1.sub hB hs, h2.sub hB hs, h3.sub hB hs⟩
theorem TgP.mn : Mn TgP := by
  rintro w w' B B' cs x hB hs ⟨v1, v2, v3, v4, e, h1, h2, h3, h4⟩
  exact ⟨v1, v2, v3, v4, e, h1.sub hB hs, h2.sub hB hs, h3.sub hB hs, h4.sub hB hs⟩
theorem WnP.mn : Mn WnP := by
  rintro w w' B B' cs x hB hs ⟨v, e, h1⟩
  exact ⟨v, e, h1.sub hB hs⟩
theorem RuP.mn : Mn RuP := by
  rintro w w' B B' cs x hB hs ⟨v1, v2, v3, e, h1, h2, h3⟩
  exact ⟨v1, v2, v3, e, RvG.sub h1 hB hs fun _ _ h => SrP.mn _ _ _ _ _ _ hB hs h, RvG.sub h2 hB hs fun _ _ h => TgP.mn _ _ _ _ _ _ hB hs h, RvG.sub h3 hB hs fun _ _ h => WnP.mn _ _ _ _ _ _ hB hs h⟩
theorem PoP.mn : Mn PoP := by
  rintro w w' B B' cs x hB hs ⟨v, e, h1⟩
  exact ⟨v, e, RvG.sub h1 hB hs fun _ _ h => RuP.mn _ _ _ _ _ _ hB hs h⟩
theorem RdG.mn {α : Type} {k : Nat} {P : World → Nat → List Value → α → Prop} (hP : Mn P) {w w' : World} {B B' n : Nat} {A : Option Addr} {L : List α} (h : RdG k P w B A n L) (hB : B ≤ B') (hs : Sub B w w') : RdG k P w' B' A n L := h.sub hB hs fun _ _ h => hP _ _ _ _ _ _ hB hs h
theorem RvG.mn {α : Type} {k : Nat} {P : World → Nat → List Value → α → Prop} (hP : Mn P) {w w' : World} {B B' : Nat} {v : Value} {L : List α} (h : RvG k P w B v L) (hB : B ≤ B') (hs : Sub B w w') : RvG k P w' B' v L := h.sub hB hs fun _ _ h => hP _ _ _ _ _ _ hB hs h
/-- Is a block the call's own: from lo on, not block g, and written nowhere fast? -/
def mineB (lo : Nat) (g : Option Nat) (i : Nat) : Obj → Bool
  | .cells _ _ (0, 0) => decide (lo ≤ i) && decide (some i ≠ g)
  | _ => false
/-- The world with these blocks alone. -/
def mineW (lo : Nat) (g : Option Nat) (w : World) : World := { w with heap := w.heap.mapIdx fun i o => if mineB lo g i o then o else .cells #[] 0 }
theorem mineW_size (lo : Nat) (g : Option Nat) (w : World) : (mineW lo g w).heap.size = w.heap.size := by simp [mineW]
theorem mineW_in {lo : Nat} {g : Option Nat} {w : World} {p : Addr} {v : Value} (h : (mineW lo g w).cell? p = some v) : w.cell? p = some v ∧ lo ≤ p.block ∧ some p.block ≠ g ∧ ∃ c t, w.heap[p.block]? = some (.cells c t (0, 0)) := by
  unfold World.cell? mineW at h
  simp only [Array.getElem?_mapIdx] at h
  unfold World.cell?
  cases ho : w.heap[p.block]? with
  | none => rw [ho] at h; cases h
  | some o =>
    rw [ho] at h
    simp only [Option.map_some] at h
    by_cases hm : mineB lo g p.block o = true
    · rw [if_pos hm] at h
      refine ⟨h, ?_⟩
      unfold mineB at hm
      split at hm
      · simp only [Bool.and_eq_true, decide_eq_true_eq] at hm
        exact ⟨hm.1, hm.2, _, _, rfl⟩
      · cases hm
    · rw [if_neg hm] at h
      simp at h
theorem mineW_of {lo : Nat} {g : Option Nat} {w : World} {p : Addr} {v : Value} (h : w.cell? p = some v) (hl : lo ≤ p.block) (hg : some p.block ≠ g) {c : Array Value} {t : TypeId} (hc : w.heap[p.block]? = some (.cells c t (0, 0))) : (mineW lo g w).cell? p = some v := by
  unfold World.cell? at h
  unfold World.cell? mineW
  simp only [Array.getElem?_mapIdx]
  rw [hc] at h ⊢
  simp only [Option.map_some]
  have : mineB lo g p.block (.cells c t (0, 0)) = true := by
    unfold mineB
    simp only [Bool.and_eq_true, decide_eq_true_eq]
    exact ⟨hl, hg⟩
  rw [if_pos this]
  exact h
theorem Sub.out (lo : Nat) (g : Option Nat) (w : World) (B : Nat) : Sub B (mineW lo g w) w := fun _ _ _ h => (mineW_in h).1
theorem Sub.less {lo lo' : Nat} {g g' : Option Nat} {w : World} {B : Nat} (hl : lo' ≤ lo) (hg : g' = g ∨ g' = none) : Sub B (mineW lo g w) (mineW lo' g' w) := fun p _ v h => by
  obtain ⟨h1, h2, h3, c, t, h4⟩ := mineW_in h
  refine mineW_of h1 (by omega) ?_ h4
  rcases hg with rfl | rfl
  · exact h3
  · simp
theorem Sub.fresh {lo lo' : Nat} {g : Option Nat} {w : World} {B : Nat} (hl : lo' ≤ lo) (hg : ∀ k, g = some k → k < lo) : Sub B (mineW lo none w) (mineW lo' g w) := fun p _ v h => by
  obtain ⟨h1, h2, h3, c, t, h4⟩ := mineW_in h
  exact mineW_of h1 (by omega) (fun e => by have := hg _ e.symm; omega) h4
/-- A world that has these blocks as they were. -/
theorem Sub.off {X : Nat → Prop} {lo lo' : Nat} {g g' : Option Nat} {w w' : World} {B : Nat} (hb : Off X w w') (hB : B ≤ w.heap.size) (hl : lo' ≤ lo) (hX : ∀ k, lo ≤ k → some k ≠ g → k < B → ¬ X k) (hg : ∀ k, g' = some k → g = some k ∨ w.heap.size ≤ k ∨ k < lo) : Sub B (mineW lo g w) (mineW lo' g' w') := fun p hp v h => by
  obtain ⟨h1, h2, h3, c, t, h4⟩ := mineW_in h
  have e := hb.block p.block (by omega) (hX _ h2 h3 hp)
  refine mineW_of ((World.cell?_of_block e).trans h1) (by omega) (fun e1 => ?_) (e.trans h4)
  rcases hg _ e1.symm with e2 | e2 | e2
  · exact h3 e2.symm
  · omega
  · omega
section
variable {α : Type} {k : Nat} {P : World → Nat → List Value → α → Prop}
theorem flat_at : ∀ (css : List (List Value)) (hk : ∀ cs ∈ css, cs.length = k) (j : Nat) (hj : j < css.length) (i : Nat), i < k → css.flatten[j * k + i]? = css[j][i]?
  | [], _, j, hj, _, _ => absurd hj (by simp)
  | x :: L, hk, 0, _, i, hi => by
    rw [List.flatten_cons, Nat.zero_mul, Nat.zero_add, List.getElem?_append_left (by rw [hk x (List.mem_cons_self)]; exact hi)]
    rfl
  | x :: L, hk, j + 1, hj, i, hi => by
    have e : (j + 1) * k + i = k + (j * k + i) := by rw [Nat.add_mul, Nat.one_mul]; omega
    have hx := hk x (List.mem_cons_self)
    rw [List.flatten_cons, e, List.getElem?_append_right (by rw [hx]; omega), hx, show k + (j * k + i) - k = j * k + i from by omega]
    exact flat_at L (fun cs h => hk cs (List.mem_cons_of_mem _ h)) j (by simpa using hj) i hi
/-- A row of the call's own, and all that its elements hold. -/
def OwnG (k : Nat) (P : World → Nat → List Value → α → Prop) (w : World) (base e : Nat) (v : Value) (L : List α) : Prop :=
  ∃ css : List (List Value), css.length = L.length ∧ w.ownsRow base e k v L.length css.flatten ∧ (∀ cs ∈ css, cs.length = k ∧ ∀ u ∈ cs, u.oneCell' = true) ∧
    ∀ j (hj : j < L.length) (hc : j < css.length), P (mineW base v.ownBlock w) w.heap.size css[j] L[j]
variable {w w' : World} {base e : Nat} {v : Value} {L : List α} {A : Option Addr} {n c : Nat}
theorem OwnG.nil : OwnG k P w base e (.slice none 0 0) ([] : List α) := ⟨[], rfl, World.ownsRow_nil w base e k, by simp, fun j hj => absurd hj (by simp)⟩
theorem OwnG.form (h : OwnG k P w base e v L) : ∃ A c, v = .slice A L.length c ∧ L.length ≤ c ∧ c ≤ maxLen := by
  obtain ⟨css, _, ⟨_, h2⟩, _⟩ := h
  rcases h2 with ⟨h1, h2⟩ | ⟨g, cap, cur, h1, _, _, h3, h4, _⟩
  · exact ⟨none, 0, by rw [h1, h2], by omega, by simp [maxLen]⟩
  · exact ⟨_, _, h1, h3, h4⟩
theorem OwnG.len (h : OwnG k P w base e (.slice A n c) L) : L.length = n := by
  obtain ⟨A', c', h1, _⟩ := h.form
  injection h1 with _ h2 _
  exact h2.symm
theorem OwnG.lt (h : OwnG k P w base e v L) : ∀ b, v.ownBlock = some b → base ≤ b ∧ b < w.heap.size := by
  obtain ⟨css, _, h2, _⟩ := h
  exact h2.lt
/-- It stays, whatever is written below base, and in blocks that are newer. -/
theorem OwnG.off (hP : Mn P) {X : Nat → Prop} (h : OwnG k P w base e v L) (hb : Off X w w') (hX : ∀ k, X k → k < base ∨ w.heap.size ≤ k) : OwnG k P w' base e v L := by
  obtain ⟨css, h1, h2, h3, h4⟩ := h
  have hn : ∀ k, base ≤ k → k < w.heap.size → ¬ X k := fun k hk hk2 hx => by have := hX k hx; omega
  refine ⟨css, h1, ?_, h3, fun j hj hc => hP _ _ _ _ _ _ hb.size (Sub.off hb (Nat.le_refl _) (Nat.le_refl _) (fun k hk _ hk2 => hn k hk hk2) fun k hk => .inl hk) (h4 j hj hc)⟩
  refine ⟨h2.1, ?_⟩
  rcases h2.2 with h5 | ⟨g, cap, cur, h5, h6, h7, h8⟩
  · exact .inl h5
  · have hg := (Array.getElem?_eq_some_iff.1 h7).1
    exact .inr ⟨g, cap, cur, h5, h6, (hb.block g hg (hn g h6 hg)).trans h7, h8⟩
theorem OwnG.below (hP : Mn P) (h : OwnG k P w base e v L) (hb : Below w.heap.size w w') : OwnG k P w' base e v L := h.off hP (Off.of_all hb) fun _ hx => hx.elim
theorem OwnG.base_le (hP : Mn P) {base' : Nat} (h : OwnG k P w base e v L) (hb : base' ≤ base) : OwnG k P w base' e v L := by
  obtain ⟨css, h1, h2, h3, h4⟩ := h
  refine ⟨css, h1, ⟨h2.1, ?_⟩, h3, fun j hj hc => hP _ _ _ _ _ _ (Nat.le_refl _) (Sub.less hb (.inl rfl)) (h4 j hj hc)⟩
  rcases h2.2 with h5 | ⟨g, cap, cur, h5, h6, h7⟩
  · exact .inl h5
  · exact .inr ⟨g, cap, cur, h5, by omega, h7⟩
/-- The row's block, and each element's cells in it. -/
theorem OwnG.blk (h : OwnG k P w base e (.slice A n c) L) (hn : 0 < n) :
    ∃ (g : Nat) (cur : List Value) (css : List (List Value)), A = some ⟨g, 0, none⟩ ∧ base ≤ g ∧ Blk w g e cur ∧ n * k ≤ cur.length ∧ css.length = L.length ∧ (∀ cs ∈ css, cs.length = k) ∧ (∀ j (hj : j < css.length) i, i < k → cur[j * k + i]? = css[j][i]?) ∧
      ∀ j (hj : j < L.length) (hc : j < css.length), P (mineW base (some g) w) w.heap.size css[j] L[j] := by
  have hl := h.len
  obtain ⟨css, h1, h2, h3, h4⟩ := h
  rcases h2.2 with ⟨h5, h6⟩ | ⟨g, cap, cur, h5, h6, h7, h8, h9, h10, h11⟩
  · omega
  · injection h5 with h12 h13 h14
    subst h12 h14
    have hc : n * k ≤ cur.toList.length := by rw [Array.length_toList, h10]; exact Nat.mul_le_mul_right k (by omega)
    refine ⟨g, cur.toList, css, rfl, h6, by unfold Blk; rw [Array.toArray_toList]; exact h7, hc, h1, fun cs hcs => (h3 cs hcs).1, fun j hj i hi => ?_, h4⟩
    rw [← flat_at css (fun cs hcs => (h3 cs hcs).1) j hj i hi, ← h11, List.getElem?_take, if_pos]
    have : (j + 1) * k ≤ L.length * k := Nat.mul_le_mul_right k (by omega)
    rw [Nat.add_mul, Nat.one_mul] at this
    omega
/-- It reads, in the call's own memory alone. -/
theorem OwnG.rdm (hP : Mn P) (h : OwnG k P w base e (.slice A n c) L) : RdG k P (mineW base none w) w.heap.size A n L := by
  refine ⟨h.len, fun hn => ?_⟩
  have hl := h.len
  obtain ⟨g, cur, css, hA, h1, h2, h3, h4, h5, h6, h7⟩ := h.blk hn
  refine ⟨g, 0, hA, h2.lt, fun j hj => ?_⟩
  have hj' : j < css.length := by omega
  refine ⟨css[j], h5 _ (List.getElem_mem hj'), hP _ _ _ _ _ _ (Nat.le_refl _) (Sub.less (Nat.le_refl _) (.inr rfl)) (h7 j hj hj'), fun i v hv => ?_⟩
  have hi : i < k := by
    have := (List.getElem?_eq_some_iff.1 hv).1
    rwa [h5 _ (List.getElem_mem hj')] at this
  refine mineW_of (c := cur.toArray) (t := e) ?_ h1 (by simp) h2
  rw [Nat.zero_add, h2.cell, h6 j hj' i hi]
  exact hv
theorem OwnG.rd (hP : Mn P) (h : OwnG k P w base e (.slice A n c) L) : RdG k P w w.heap.size A n L := (h.rdm hP).mn hP (Nat.le_refl _) (Sub.out _ _ _ _)
theorem OwnG.rv (hP : Mn P) (h : OwnG k P w base e v L) : RvG k P w w.heap.size v L := by
  obtain ⟨A, c, rfl, h1, h2⟩ := h.form
  exact ⟨A, _, c, rfl, h1, h2, h.rd hP⟩
theorem OwnG.rvm (hP : Mn P) (h : OwnG k P w base e v L) : RvG k P (mineW base none w) w.heap.size v L := by
  obtain ⟨A, c, rfl, h1, h2⟩ := h.form
  exact ⟨A, _, c, rfl, h1, h2, h.rdm hP⟩
theorem flatten_one (css : List (List Value)) (cs : List Value) : (css ++ [cs]).flatten = css.flatten ++ cs := by simp
/-- The block of what append leaves: the old one, or a new one. -/
theorem run_append_blk {Pr : Program} {t : TypeId} {bytes : Nat} {z : Value} (T : RowTy Pr t e k bytes z) (ty : TypeId) {xs : List Value} (hown : w.ownsRow base e k (.slice A n c) n xs)
    {ad : Addr} {c2 : Nat} {cs : List Value} (hk : cs.length = k) (h1 : ∀ u ∈ cs, u.oneCell' = true) (hc : ∀ j u, cs[j]? = some u → w.cell? (ad.add j) = some u)
    (hlen : (n + 1) * bytes ≤ 140737488355328) (hmax : n + 1 ≤ maxLen) :
    ∃ v' w', (Builtin.append_ #[t, t] ty #[.slice A n c, .slice (some ad) 1 c2]).run Pr w = .ok v' w' ∧ (v'.ownBlock = (Value.slice A n c).ownBlock ∨ v'.ownBlock = some w.heap.size) := by
  obtain ⟨i, hi, hz0, hz1, hz2⟩ := info_parts T.info
  have h63 : n + 1 ≤ 9223372036854775807 := by simp only [maxLen] at hmax; omega
  subst hz1 hz2
  rcases hown.2 with ⟨h4, h5⟩ | ⟨g, cap, cur, h4, hbg, hg, hnc, hcm, hcs, htake⟩
  · injection h4 with h6 h7 h8
    subst h6 h7 h8
    exact ⟨_, _, run_append_nil (P := Pr) w t ty e i z T.sl hi hz0 ad 1 c2 cs (by rw [hk, Nat.one_mul]) hc (by omega) (by omega) (by omega), .inr rfl⟩
  · injection h4 with h6 h7 h8
    subst h6 h8
    by_cases hroom : n + 1 ≤ c
    · exact ⟨_, _, run_append_room (P := Pr) w t ty e i T.sl hi g n c cur hg ad 1 c2 cs (by rw [hk, Nat.one_mul]) hc h1 hroom (by rw [hk, hcs]; have := Nat.mul_le_mul_right i.size hroom; rw [Nat.add_mul, Nat.one_mul] at this; exact this), .inl rfl⟩
    · exact ⟨_, _, run_append_grow (P := Pr) w t ty e i z T.sl hi hz0 ⟨g, 0, none⟩ n c xs hown.1 (hown.cells (g := g) rfl) ad 1 c2 cs (by rw [hk, Nat.one_mul]) hc (by omega) (by omega) (growslice_fits (by omega) hlen), .inr rfl⟩
/-- append of one element, whose cells lie somewhere and are the call's own all the way down. -/
theorem run_appendOwn1 {Pr : Program} {t : TypeId} {bytes : Nat} {z : Value} (T : RowTy Pr t e k bytes z) (hP : Mn P) (ty : TypeId) (hown : OwnG k P w base e (.slice A n c) L)
    {ad : Addr} {c2 : Nat} {cs : List Value} {x : α} (hk : cs.length = k) (h1 : ∀ u ∈ cs, u.oneCell' = true) (hc : ∀ j u, cs[j]? = some u → w.cell? (ad.add j) = some u) (hx : P (mineW base (Value.slice A n c).ownBlock w) w.heap.size cs x)
    (hlen : (n + 1) * bytes ≤ 140737488355328) (hmax : n + 1 ≤ maxLen) (hbase : base ≤ w.heap.size) :
    ∃ A' c' w', (Builtin.append_ #[t, t] ty #[.slice A n c, .slice (some ad) 1 c2]).run Pr w = .ok (.slice A' (n + 1) c') w' ∧ OwnG k P w' base e (.slice A' (n + 1) c') (L ++ [x]) ∧ w.grownBy w' (Value.slice A n c).ownBlock := by
  obtain ⟨i, hi, hz0, hz1, hz2⟩ := info_parts T.info
  have hl := hown.len
  obtain ⟨css, g1, g2, g3, g4⟩ := hown
  obtain ⟨v', w', hrun, h2, h3, _⟩ := run_append_own (P := Pr) w base t ty e i z k bytes T.sl hi hz0 hz1 hz2 T.zs T.k0 (.slice A n c) n css.flatten (hl ▸ g2) ad 1 c2 cs (by rw [hk, Nat.one_mul]) hc h1 hmax hlen hbase
  have hlt := World.ownsRow.lt g2
  have hnew : ∀ b, v'.ownBlock = some b → (Value.slice A n c).ownBlock = some b ∨ w.heap.size ≤ b ∨ b < base := by
    intro b hb
    obtain ⟨v2, w2, hr2, hb2⟩ := run_append_blk T ty (hl ▸ g2) (c2 := c2) hk h1 hc hlen hmax
    rw [hrun] at hr2
    injection hr2 with hr2 _
    subst hr2
    rcases hb2 with h | h
    · exact .inl (h ▸ hb)
    · rw [h] at hb
      injection hb with hb
      exact .inr (.inl (by omega))
  obtain ⟨A', c', rfl⟩ := OwnR.form h2
  refine ⟨A', c', w', hrun, ⟨css ++ [cs], by simp [g1], ?_, ?_, ?_⟩, h3⟩
  · rw [flatten_one, List.length_append, hl]; exact h2
  · intro us hus
    rcases List.mem_append.1 hus with h | h
    · exact g3 us h
    · rw [List.mem_singleton] at h
      subst h
      exact ⟨hk, h1⟩
  · have hsub : Sub w.heap.size (mineW base (Value.slice A n c).ownBlock w) (mineW base (Value.slice A' (n + 1) c').ownBlock w') := by
      refine Sub.off (X := fun k => (Value.slice A n c).ownBlock = some k) ⟨h3.os, h3.tape, h3.output, h3.size, fun k hk hx => h3.block k hk fun e => hx e.symm⟩ (Nat.le_refl _) (Nat.le_refl _) (fun k _ hk _ e => hk e.symm) hnew
    intro j hj hc'
    by_cases hjl : j < L.length
    · rw [List.getElem_append_left hjl, List.getElem_append_left (by omega)]
      exact hP _ _ _ _ _ _ h3.size hsub (g4 j hjl (by omega))
    · have hj' : j = L.length := by simp at hj; omega
      subst hj'
      rw [List.getElem_append_right (by omega), List.getElem_append_right (by omega)]
      simp only [g1, Nat.sub_self, List.getElem_singleton]
      exact hP _ _ _ _ _ _ h3.size hsub hx
end
end Go.Proofs.YtdbjihpdfiipcaaGreat
namespace Go.Proofs.YtdbjihpdfiipcaaGreat
open Go.RowKit
set_option linter.unusedVariables false
section
variable {α : Type} {enc : α → List Value} {k : Nat} {P : World → Nat → List Value → α → Prop}
/-- 'append([]T{}, x...)': nothing that was there is written. -/
theorem run_append0 {Pr : Program} {t e : TypeId} {bytes : Nat} {z : Value} (T : RowTy Pr t e k bytes z) (hk : ∀ x, (enc x).length = k) (h1 : ∀ x, ∀ v ∈ enc x, v.oneCell' = true) (ty : TypeId) {w : World} {g base : Nat} (hb : Blk w g e []) (hg : base ≤ g)
    {B : Nat} {A2 : Option Addr} {m c2 : Nat} {L2 : List α} (hr : RdR enc k w B A2 m L2) (hlen : m * bytes ≤ 140737488355328) (hmax : m ≤ maxLen) :
    ∃ A' c' w', (Builtin.append_ #[t, t] ty #[.slice (some ⟨g, 0, none⟩) 0 0, .slice A2 m c2]).run Pr w = .ok (.slice A' m c') w' ∧ OwnR enc k w' base e (.slice A' m c') L2 ∧ Below w.heap.size w w' := by
  have hown : OwnR enc k w base e (.slice (some ⟨g, 0, none⟩) 0 0) ([] : List α) := ⟨by simp [flatR], .inr ⟨g, 0, #[], rfl, hg, hb, Nat.le_refl _, Nat.zero_le _, by simp, by simp [flatR]⟩⟩
  obtain ⟨A', c', w', hrun, h2, h3⟩ := run_appendRow T hk h1 ty hown hr c2 (by rw [Nat.zero_add]; exact hlen) (by rw [Nat.zero_add]; exact hmax) (by have := hb.lt; omega)
  rw [Nat.zero_add, List.nil_append] at *
  refine ⟨A', c', w', hrun, h2, ?_⟩
  have hgw : w'.heap[g]? = w.heap[g]? := by
    obtain ⟨i, hi, hz0, hz1, hz2⟩ := info_parts T.info
    have h63 : m ≤ 9223372036854775807 := by simp only [maxLen] at hmax; omega
    rcases A2 with _ | ad
    · have hm : m = 0 := by
        rcases Nat.eq_zero_or_pos m with h0 | h0
        · exact h0
        · obtain ⟨b, off, h, _⟩ := hr.2 h0
          cases h
      subst hm
      rw [run_append_nilR T ty hown c2] at hrun
      injection hrun with _ hw
      rw [hw]
    · have hl2 := hr.1
      subst hz1 hz2
      rcases Nat.eq_zero_or_pos m with h0 | h0
      · subst h0
        have hnil : L2 = [] := List.eq_nil_of_length_eq_zero hl2
        subst hnil
        rw [run_append_room (P := Pr) w t ty e i T.sl hi g 0 0 #[] hb ad 0 c2 [] (by simp) (by simp) (by simp) (Nat.le_refl _) (by simp)] at hrun
        injection hrun with _ hw
        rw [← hw, setRow_heap w g #[] _ e (0, 0) hb, hb]
        simp
      · rw [run_append_grow (P := Pr) w t ty e i z T.sl hi hz0 ⟨g, 0, none⟩ 0 0 [] (by simp) (by simp) ad m c2 (flatR enc L2) (by rw [flatR_length hk, hl2]) (hr.news hk) (by omega) (by omega) (growslice_fits (by omega) (by rw [Nat.zero_add]; exact hlen))] at hrun
        injection hrun with _ hw
        rw [← hw]
        exact Below.heap_alloc w.drew _ g hb.lt
  exact ⟨h3.os, h3.tape, h3.output, h3.size, fun q hq => by
    by_cases e : q = g
    · subst e; exact hgw
    · exact h3.block q hq (by simp [Value.ownBlock, e])⟩
theorem wp_append0 {Pr : Program} {t e : TypeId} {bytes : Nat} {z : Value} (T : RowTy Pr t e k bytes z) (hk : ∀ x, (enc x).length = k) (h1 : ∀ x, ∀ v ∈ enc x, v.oneCell' = true) {o : Oper} {a : Act} {K : Act → World → Prop} {Q : Exit → Act → World → Prop} {w : World}
    {s x : Operand} (ho : o.op = .call { callee := .builtin .append, args := #[s, x], argTypes := #[t, t] }) {g base : Nat} (hs : a.eval s = .slice (some ⟨g, 0, none⟩) 0 0) (hb : Blk w g e []) (hg : base ≤ g)
    {B : Nat} {A2 : Option Addr} {m c2 : Nat} {L2 : List α} (hx : a.eval x = .slice A2 m c2) (hr : RdR enc k w B A2 m L2) (hlen : m * bytes ≤ 140737488355328) (hmax : m ≤ maxLen)
    (h : ∀ A' c' w', OwnR enc k w' base e (.slice A' m c') L2 → Below w.heap.size w w' → K (a.put o.dst (.slice A' m c')) w') : o.wp Pr a w K Q := by
  obtain ⟨A', c', w', hrun, h2, h3⟩ := run_append0 T hk h1 o.type hb hg hr hlen hmax (c2 := c2)
  unfold Oper.wp execOp
  simp only [ho, resolve, invoke, builtin, Sem.run_bind, Sem.run_pure, Result.andThen_ok, List.map_toArray, List.map_cons, List.map_nil, hs, hx, hrun]
  exact h A' c' w' h2 h3
/-- append of one element, as an operation. -/
theorem wp_appendOwn1 {Pr : Program} {t e : TypeId} {bytes : Nat} {z : Value} (T : RowTy Pr t e k bytes z) (hP : Mn P) {o : Oper} {a : Act} {K : Act → World → Prop} {Q : Exit → Act → World → Prop} {w : World}
    {s x : Operand} (ho : o.op = .call { callee := .builtin .append, args := #[s, x], argTypes := #[t, t] }) {base n c : Nat} {A : Option Addr} {L : List α} (hs : a.eval s = .slice A n c) (hown : OwnG k P w base e (.slice A n c) L)
    {ad : Addr} {c2 : Nat} {cs : List Value} {y : α} (hx : a.eval x = .slice (some ad) 1 c2) (hk : cs.length = k) (h1 : ∀ u ∈ cs, u.oneCell' = true) (hc : ∀ j u, cs[j]? = some u → w.cell? (ad.add j) = some u) (hy : P (mineW base (Value.slice A n c).ownBlock w) w.heap.size cs y)
    (hlen : (n + 1) * bytes ≤ 140737488355328) (hmax : n + 1 ≤ maxLen) (hbase : base ≤ w.heap.size)
    (h : ∀ A' c' w', OwnG k P w' base e (.slice A' (n + 1) c') (L ++ [y]) → w.grownBy w' (Value.slice A n c).ownBlock → K (a.put o.dst (.slice A' (n + 1) c')) w') : o.wp Pr a w K Q := by
  obtain ⟨A', c', w', hrun, h2, h3⟩ := run_appendOwn1 T hP o.type hown hk h1 hc hy hlen hmax hbase (c2 := c2)
  unfold Oper.wp execOp
  simp only [ho, resolve, invoke, builtin, Sem.run_bind, Sem.run_pure, Result.andThen_ok, List.map_toArray, List.map_cons, List.map_nil, hs, hx, hrun]
  exact h A' c' w' h2 h3
theorem appendOwn1 {Pr : Program} {t e : TypeId} {bytes : Nat} {z : Value} (T : RowTy Pr t e k bytes z) (hP : Mn P) {ops : Array Oper} {rest : List Oper} {o : Oper} {a : Act} {Q : Exit → Act → World → Prop} {w : World} (hgd : o.guard = none)
    {s x : Operand} (ho : o.op = .call { callee := .builtin .append, args := #[s, x], argTypes := #[t, t] }) {base n c : Nat} {A : Option Addr} {L : List α} (hs : a.eval s = .slice A n c) (hown : OwnG k P w base e (.slice A n c) L)
    {ad : Addr} {c2 : Nat} {cs : List Value} {y : α} (hx : a.eval x = .slice (some ad) 1 c2) (hk : cs.length = k) (h1 : ∀ u ∈ cs, u.oneCell' = true) (hc : ∀ j u, cs[j]? = some u → w.cell? (ad.add j) = some u) (hy : P (mineW base (Value.slice A n c).ownBlock w) w.heap.size cs y)
    (hlen : (n + 1) * bytes ≤ 140737488355328) (hmax : n + 1 ≤ maxLen) (hbase : base ≤ w.heap.size)
    (h : ∀ A' c' w', OwnG k P w' base e (.slice A' (n + 1) c') (L ++ [y]) → w.grownBy w' (Value.slice A n c).ownBlock → wpList Pr ops Q rest (a.put o.dst (.slice A' (n + 1) c')) w') : wpList Pr ops Q (o :: rest) a w :=
  wpList_plain hgd fun _ hK => wp_appendOwn1 T hP ho hs hown hx hk h1 hc hy hlen hmax hbase fun A' c' w' h1 h2 => hK _ _ (h A' c' w' h1 h2)
/-- A cell row newly laid. -/
theorem new_cells (w : World) (cs : List Value) (t : Nat) : ∀ j u, cs[j]? = some u → (w.alloc (.cells cs.toArray t)).cell? ((⟨w.heap.size, 0, none⟩ : Addr).add j) = some u := by
  intro j u hu
  rw [show (⟨w.heap.size, 0, none⟩ : Addr).add j = ⟨w.heap.size, j, none⟩ from by unfold Addr.add; split <;> simp_all, (Blk.newAt (w := w) rfl t cs.toArray).cell]
  simpa using hu
/-- What is one's own in newer memory, in a world with a newer block. -/
theorem Sub.own1 {w : World} {base lo B : Nat} {g : Option Nat} (o : Obj) (hb : base ≤ lo) (hg : ∀ b, g = some b → b < lo) (hB : B ≤ w.heap.size) : Sub B (mineW lo none w) (mineW base g (w.alloc o)) :=
  (Sub.fresh (B := B) hb hg).trans (Sub.off (X := fun _ => False) ((Off.refl _ _).alloc _) hB (Nat.le_refl _) (fun _ _ _ _ => id) fun _ h => .inl h)
theorem OwnR.grownG {w w' : World} {base e : Nat} {v : Value} {L : List α} (h : OwnR enc k w base e v L) {row : Option Nat} (hg : w.grownBy w' row) (hr : ∀ b, row = some b → b < base) : OwnR enc k w' base e v L := by
  refine ⟨h.1, ?_⟩
  rcases h.2 with hn | ⟨g, cap, cur, h1, h2, h3, h4⟩
  · exact .inl hn
  · exact .inr ⟨g, cap, cur, h1, h2, (hg.block g (Array.getElem?_eq_some_iff.1 h3).1 (fun e => by have := hr g e.symm; omega)).trans h3, h4⟩
/-- A row of plain cells of the call's own, as a value. -/
theorem OwnR.rvm {w : World} {base e : Nat} {A : Option Addr} {n c : Nat} {L : List α} (hk : ∀ x, (enc x).length = k) (h : OwnR enc k w base e (.slice A n c) L) : RvR enc k (mineW base none w) w.heap.size (.slice A n c) L := by
  have hl := h.len
  have hc : c ≤ maxLen := by
    rcases h.2 with ⟨h1, h2⟩ | ⟨g, cap, cur, h1, h2, h3, h4, h5, h6, h7⟩
    · injection h1 with _ _ h3; omega
    · injection h1 with _ _ h3; omega
  refine ⟨A, n, c, rfl, h.cap, hc, hl, fun hn => ?_⟩
  obtain ⟨g, cur, hA, hg, hb, _, _, hcc⟩ := h.blk hk hn
  refine ⟨g, 0, hA, hb.lt, fun j hj i v hv => ?_⟩
  have hi : i < k := by
    have := (List.getElem?_eq_some_iff.1 hv).1
    rw [hk] at this
    exact this
  refine mineW_of ?_ hg (by simp) hb
  rw [Nat.zero_add, hb.cell, hcc j hj i hi]
  exact hv
end
end Go.Proofs.YtdbjihpdfiipcaaGreat
