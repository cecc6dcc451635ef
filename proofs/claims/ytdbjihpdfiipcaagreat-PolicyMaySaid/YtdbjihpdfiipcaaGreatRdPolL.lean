/- A policy read out of bytes, plain. No condition. What is read of a policy's bytes is it; what is read has those bytes. Plain. No condition. -/
import Derived.Test.YtdbjihpdfiipcaaGreatPolBytes
import Derived.Test.YtdbjihpdfiipcaaGreatRdAll
import Derived.Test.YtdbjihpdfiipcaaGreatPolPoA
import Derived.Test.YtdbjihpdfiipcaaGreatPolEncs
namespace Go.Proofs.YtdbjihpdfiipcaaGreat
open Go.RowKit
set_option linter.unusedVariables false
section
variable {α : Type}
theorem takeS_len (f : List UInt8 → Option (α × Nat)) (z : α) (s : RS) : (takeS f z s).2.l.length ≤ s.l.length := by
  unfold takeS
  split
  · exact Nat.le_refl _
  · split
    · exact Nat.le_refl _
    · simp
theorem takeS_short (s : RS) : (takeS findShort 0 s).1 < 18446744073709551616 := by
  unfold takeS
  split
  · show 0 < _
    omega
  · cases hf : findShort s.l with
    | none =>
      show 0 < _
      omega
    | some yk => exact (findShort_le (y := yk.1) (k := yk.2) hf).2.2
/-- A number that is at most so much. -/
def smallN (most : Nat) (s : RS) : Nat × RS := if most < (takeS findShort 0 s).1 then (0, ⟨(takeS findShort 0 s).2.l, true⟩) else ((takeS findShort 0 s).1, (takeS findShort 0 s).2)
theorem smallN_len (most : Nat) (s : RS) : (smallN most s).2.l.length ≤ s.l.length := by
  unfold smallN
  split
  · exact takeS_len findShort 0 s
  · exact takeS_len findShort 0 s
theorem smallN_le (most : Nat) (s : RS) : (smallN most s).1 ≤ most := by
  unfold smallN
  split
  · exact Nat.zero_le _
  · omega
/-- So many, one after the other. -/
def itS (one : RS → α × RS) (s : RS) : Nat → List α × RS
  | 0 => ([], s)
  | k + 1 => ((itS one s k).1 ++ [(one (itS one s k).2).1], (one (itS one s k).2).2)
theorem itS_length (one : RS → α × RS) (s : RS) : ∀ k, (itS one s k).1.length = k
  | 0 => rfl
  | k + 1 => by
    show ((itS one s k).1 ++ [_]).length = _
    rw [List.length_append, itS_length one s k]
    rfl
theorem itS_len {one : RS → α × RS} (h : ∀ s, (one s).2.l.length ≤ s.l.length) (s : RS) : ∀ k, (itS one s k).2.l.length ≤ s.l.length
  | 0 => Nat.le_refl _
  | k + 1 => Nat.le_trans (h _) (itS_len h s k)
def rowS (most : Nat) (one : RS → α × RS) (s : RS) : List α × RS := itS one (smallN most s).2 (smallN most s).1
theorem rowS_len {one : RS → α × RS} (h : ∀ s, (one s).2.l.length ≤ s.l.length) (most : Nat) (s : RS) : (rowS most one s).2.l.length ≤ s.l.length := Nat.le_trans (itS_len h _ _) (smallN_len _ _)
theorem rowS_most (one : RS → α × RS) (most : Nat) (s : RS) : (rowS most one s).1.length ≤ most := by
  unfold rowS
  rw [itS_length]
  exact smallN_le _ _
end
def termS (s : RS) : Tm × RS := ((((takeS findU8 0 s).1 : Int), (takeS (findText 64) [] (takeS findU8 0 s).2).1), (takeS (findText 64) [] (takeS findU8 0 s).2).2)
theorem termS_len (s : RS) : (termS s).2.l.length ≤ s.l.length := Nat.le_trans (takeS_len _ _ _) (takeS_len _ _ _)
def termsS (s : RS) : List Tm × RS := rowS 6 termS s
theorem termsS_len (s : RS) : (termsS s).2.l.length ≤ s.l.length := rowS_len termS_len 6 s
def netS (s : RS) : Nt × RS := (((takeS findU32 0 s).1, ((takeS findU8 0 (takeS findU32 0 s).2).1 : Int)), (takeS findU8 0 (takeS findU32 0 s).2).2)
theorem netS_len (s : RS) : (netS s).2.l.length ≤ s.l.length := Nat.le_trans (takeS_len _ _ _) (takeS_len _ _ _)
def portS (s : RS) : Int × RS := (((smallN 65536 s).1 : Int), (smallN 65536 s).2)
theorem portS_len (s : RS) : (portS s).2.l.length ≤ s.l.length := smallN_len _ _
def sourceS (s : RS) : Sr × RS := (⟨(termsS s).1, (termsS (termsS s).2).1, (rowS 6 netS (termsS (termsS s).2).2).1⟩, (rowS 6 netS (termsS (termsS s).2).2).2)
theorem sourceS_len (s : RS) : (sourceS s).2.l.length ≤ s.l.length := by
  have h1 := termsS_len s
  have h2 := termsS_len (termsS s).2
  have h3 := rowS_len netS_len 6 (termsS (termsS s).2).2
  exact Nat.le_trans (Nat.le_of_eq (show (sourceS s).2.l.length = (rowS 6 netS (termsS (termsS s).2).2).2.l.length by rw [sourceS])) (by omega)
def targetS (s : RS) : Tg × RS := (⟨(rowS 6 portS s).1, (termsS (rowS 6 portS s).2).1, (termsS (termsS (rowS 6 portS s).2).2).1, (termsS (termsS (termsS (rowS 6 portS s).2).2).2).1⟩, (termsS (termsS (termsS (rowS 6 portS s).2).2).2).2)
theorem targetS_len (s : RS) : (targetS s).2.l.length ≤ s.l.length := by
  have h1 := rowS_len portS_len 6 s
  have h2 := termsS_len (rowS 6 portS s).2
  have h3 := termsS_len (termsS (rowS 6 portS s).2).2
  have h4 := termsS_len (termsS (termsS (rowS 6 portS s).2).2).2
  exact Nat.le_trans (Nat.le_of_eq (show (targetS s).2.l.length = (termsS (termsS (termsS (rowS 6 portS s).2).2).2).2.l.length by rw [targetS])) (by omega)
def whenS (s : RS) : Wn × RS := (⟨(takeS (findText 64) [] s).1, (termsS (takeS (findText 64) [] s).2).1⟩, (termsS (takeS (findText 64) [] s).2).2)
theorem whenS_len (s : RS) : (whenS s).2.l.length ≤ s.l.length := by
  have h1 := takeS_len (findText 64) [] s
  have h2 := termsS_len (takeS (findText 64) [] s).2
  exact Nat.le_trans (Nat.le_of_eq (show (whenS s).2.l.length = (termsS (takeS (findText 64) [] s).2).2.l.length by rw [whenS])) (by omega)
def ruleS (s : RS) : Ru × RS := (⟨(rowS 3 sourceS s).1, (rowS 3 targetS (rowS 3 sourceS s).2).1, (rowS 3 whenS (rowS 3 targetS (rowS 3 sourceS s).2).2).1⟩, (rowS 3 whenS (rowS 3 targetS (rowS 3 sourceS s).2).2).2)
theorem ruleS_len (s : RS) : (ruleS s).2.l.length ≤ s.l.length := by
  have h1 := rowS_len sourceS_len 3 s
  have h2 := rowS_len targetS_len 3 (rowS 3 sourceS s).2
  have h3 := rowS_len whenS_len 3 (rowS 3 targetS (rowS 3 sourceS s).2).2
  exact Nat.le_trans (Nat.le_of_eq (show (ruleS s).2.l.length = (rowS 3 whenS (rowS 3 targetS (rowS 3 sourceS s).2).2).2.l.length by rw [ruleS])) (by omega)
/-- The reader's states, a policy being read. -/
def pA0 (l : List UInt8) : Nat × RS := takeS findShort 0 ⟨l, false⟩
def pA1 (l : List UInt8) : List UInt8 × RS := takeS (findText 20) [] (pA0 l).2
def pA2 (l : List UInt8) : Nat × RS := takeS findShort 0 (pA1 l).2
def pA3 (l : List UInt8) : Nat × RS := smallN 1 (pA2 l).2
def pA4 (l : List UInt8) : List Ru × RS := rowS 6 ruleS (pA3 l).2
def readPo (l : List UInt8) : Po := ⟨(pA0 l).1, (pA1 l).1, (pA2 l).1, ((pA3 l).1 : Int), (pA4 l).1⟩
def readBad (l : List UInt8) : Bool := (pA4 l).2.st || !(pA4 l).2.l.isEmpty
theorem pA_len (l : List UInt8) : (pA0 l).2.l.length ≤ l.length ∧ (pA1 l).2.l.length ≤ l.length ∧ (pA2 l).2.l.length ≤ l.length ∧ (pA3 l).2.l.length ≤ l.length ∧ (pA4 l).2.l.length ≤ l.length := by
  have h0 : (pA0 l).2.l.length ≤ l.length := takeS_len _ _ _
  have h1 : (pA1 l).2.l.length ≤ (pA0 l).2.l.length := takeS_len _ _ _
  have h2 : (pA2 l).2.l.length ≤ (pA1 l).2.l.length := takeS_len _ _ _
  have h3 : (pA3 l).2.l.length ≤ (pA2 l).2.l.length := smallN_len _ _
  have h4 : (pA4 l).2.l.length ≤ (pA3 l).2.l.length := rowS_len ruleS_len _ _
  omega
end Go.Proofs.YtdbjihpdfiipcaaGreat
namespace Go.Proofs.YtdbjihpdfiipcaaGreat
open Go.RowKit
set_option linter.unusedVariables false
section
variable {α : Type}
/-! ### Forward -/
theorem take_leb (y : Nat) (hy : y < 18446744073709551616) (r : List UInt8) : takeS findShort 0 ⟨leb y ++ r, false⟩ = (y, ⟨r, false⟩) := takeS_hit (leb y) r (findShort_leb y r hy) rfl
theorem take_text (m : Nat) (s r : List UInt8) (hs : s.length ≤ m) (hm : m ≤ 1000) : takeS (findText (m : Int)) [] ⟨txB s ++ r, false⟩ = (s, ⟨r, false⟩) := by
  refine takeS_hit (txB s) r (k := (txB s).length) ?_ rfl
  have := findText_own (m : Int) s r (by omega)
  rw [if_neg (by omega)] at this
  unfold txB
  exact this
theorem take_u8 (c : UInt8) (r : List UInt8) : takeS findU8 0 ⟨[c] ++ r, false⟩ = (c.toNat, ⟨r, false⟩) := takeS_hit [c] r (k := 1) rfl rfl
theorem take_u32 (n : Nat) (hn : n < 4294967296) (r : List UInt8) : takeS findU32 0 ⟨le32 n ++ r, false⟩ = (n, ⟨r, false⟩) := by
  refine takeS_hit (le32 n) r (k := 4) ?_ rfl
  rw [findU32_le32, Nat.mod_eq_of_lt hn]
theorem small_fwd (most y : Nat) (hy : y ≤ most) (hm : most ≤ 1000000) (r : List UInt8) : smallN most ⟨leb y ++ r, false⟩ = (y, ⟨r, false⟩) := by
  unfold smallN
  rw [take_leb y (by omega) r, if_neg (by simp only; omega)]
theorem it_fwd {one : RS → α × RS} {f : α → List UInt8} {ok : α → Prop} (h : ∀ x r, ok x → one ⟨f x ++ r, false⟩ = (x, ⟨r, false⟩)) (L : List α) (hL : ∀ x ∈ L, ok x) (r : List UInt8) :
    ∀ k, k ≤ L.length → itS one ⟨(L.map f).flatten ++ r, false⟩ k = (L.take k, ⟨((L.drop k).map f).flatten ++ r, false⟩)
  | 0, _ => rfl
  | k + 1, hk => by
    have ih := it_fwd h L hL r k (by omega)
    have hd : L.drop k = L[k] :: L.drop (k + 1) := List.drop_eq_getElem_cons (by omega)
    unfold itS
    rw [ih]
    simp only
    rw [hd, List.map_cons, List.flatten_cons, List.append_assoc, h _ _ (hL _ (List.getElem_mem _)), List.take_succ_eq_append_getElem (by omega)]
theorem row_fwd {one : RS → α × RS} {f : α → List UInt8} {ok : α → Prop} (h : ∀ x r, ok x → one ⟨f x ++ r, false⟩ = (x, ⟨r, false⟩)) {most : Nat} (hm : most ≤ 1000000) (L : List α) (hl : L.length ≤ most) (hL : ∀ x ∈ L, ok x) (r : List UInt8) :
    rowS most one ⟨rowB f L ++ r, false⟩ = (L, ⟨r, false⟩) := by
  unfold rowS rowB
  rw [List.append_assoc, small_fwd most L.length hl hm]
  simp only
  rw [it_fwd h L hL r L.length (Nat.le_refl _), List.take_of_length_le (Nat.le_refl _), List.drop_of_length_le (Nat.le_refl _)]
  rfl
/-! ### Backward -/
theorem take_inv_leb {s : RS} (h : (takeS findShort 0 s).2.st = false) : s.st = false ∧ s.l = leb (takeS findShort 0 s).1 ++ (takeS findShort 0 s).2.l := by
  obtain ⟨k, h1, h2, h3⟩ := takeS_inv h
  refine ⟨h2, ?_⟩
  rw [findShort_inv h1, h3, List.take_append_drop]
theorem take_inv_u8 {s : RS} (h : (takeS findU8 0 s).2.st = false) : s.st = false ∧ s.l = [UInt8.ofNat (takeS findU8 0 s).1] ++ (takeS findU8 0 s).2.l ∧ (takeS findU8 0 s).1 < 256 := by
  obtain ⟨k, h1, h2, h3⟩ := takeS_inv h
  obtain ⟨h4, _, _, h5⟩ := findU8_inv h1
  refine ⟨h2, ?_, h5⟩
  rw [h4, h3, List.take_append_drop]
theorem take_inv_u32 {s : RS} (h : (takeS findU32 0 s).2.st = false) : s.st = false ∧ s.l = le32 (takeS findU32 0 s).1 ++ (takeS findU32 0 s).2.l := by
  obtain ⟨k, h1, h2, h3⟩ := takeS_inv h
  obtain ⟨h4, _⟩ := findU32_inv h1
  refine ⟨h2, ?_⟩
  rw [h4, h3, List.take_append_drop]
theorem take_inv_text {m : Int} {s : RS} (h : (takeS (findText m) [] s).2.st = false) : s.st = false ∧ s.l = txB (takeS (findText m) [] s).1 ++ (takeS (findText m) [] s).2.l := by
  obtain ⟨k, h1, h2, h3⟩ := takeS_inv h
  obtain ⟨h4, _⟩ := findText_inv h1
  refine ⟨h2, ?_⟩
  unfold txB
  rw [h4, h3, List.take_append_drop]
theorem small_inv {most : Nat} {s : RS} (h : (smallN most s).2.st = false) : s.st = false ∧ s.l = leb (smallN most s).1 ++ (smallN most s).2.l := by
  unfold smallN at h ⊢
  split at h
  · cases h
  · rename_i h9
    rw [if_neg h9]
    exact take_inv_leb h
theorem it_inv {one : RS → α × RS} {f : α → List UInt8} (h : ∀ s, (one s).2.st = false → s.st = false ∧ s.l = f (one s).1 ++ (one s).2.l) (s : RS) : ∀ k, (itS one s k).2.st = false → s.st = false ∧ s.l = ((itS one s k).1.map f).flatten ++ (itS one s k).2.l
  | 0, hs => ⟨hs, rfl⟩
  | k + 1, hs => by
    obtain ⟨h1, h2⟩ := h _ hs
    obtain ⟨h3, h4⟩ := it_inv h s k h1
    refine ⟨h3, ?_⟩
    have e1 : (itS one s (k + 1)).1 = (itS one s k).1 ++ [(one (itS one s k).2).1] := rfl
    have e2 : (itS one s (k + 1)).2 = (one (itS one s k).2).2 := rfl
    rw [e1, e2, h4, h2]
    simp
theorem row_inv {one : RS → α × RS} {f : α → List UInt8} (h : ∀ s, (one s).2.st = false → s.st = false ∧ s.l = f (one s).1 ++ (one s).2.l) {most : Nat} {s : RS} (hs : (rowS most one s).2.st = false) : s.st = false ∧ s.l = rowB f (rowS most one s).1 ++ (rowS most one s).2.l := by
  obtain ⟨h1, h2⟩ := it_inv h _ _ hs
  obtain ⟨h3, h4⟩ := small_inv h1
  refine ⟨h3, ?_⟩
  rw [h4, h2]
  unfold rowB rowS
  rw [itS_length, List.append_assoc]
end
/-! ### A policy's parts -/
theorem kB_nat {x : Nat} (h : x < 256) : kB (x : Int) = UInt8.ofNat x := by
  unfold kB
  congr 1
  omega
theorem kB_toNat {x : Int} (h0 : 0 ≤ x) (h : x < 256) : ((kB x).toNat : Int) = x := by
  rw [← kB_eq]
  omega
theorem n64_nat {x : Nat} (h : x < 18446744073709551616) : n64 (x : Int) = x := by
  unfold n64
  omega
theorem n64_of {x : Int} (h0 : 0 ≤ x) (h : x < 18446744073709551616) : ((n64 x : Nat) : Int) = x := by
  rw [← n64_eq]
  omega
theorem tmMay_parts {t : Tm} (h : tmMay t = true) : 0 ≤ t.1 ∧ t.1 < 256 ∧ t.2.length ≤ 64 := by
  unfold tmMay at h
  rw [Bool.and_eq_true] at h
  have h2 := h.2
  split at h2
  · rename_i h4
    rw [List.isEmpty_iff] at h2
    rw [h2, h4]
    simp
  · simp only [Bool.and_eq_true, decide_eq_true_eq] at h2
    omega
theorem term_fwd (t : Tm) (r : List UInt8) (h : tmMay t = true) : termS ⟨tmB t ++ r, false⟩ = (t, ⟨r, false⟩) := by
  obtain ⟨h1, h2, h3⟩ := tmMay_parts h
  unfold termS tmB
  rw [List.append_assoc, take_u8]
  simp only
  rw [show (64 : Int) = ((64 : Nat) : Int) from rfl, take_text 64 t.2 r h3 (by omega)]
  simp only
  rw [kB_toNat h1 h2]
theorem term_inv (s : RS) (h : (termS s).2.st = false) : s.st = false ∧ s.l = tmB (termS s).1 ++ (termS s).2.l := by
  obtain ⟨h1, h2⟩ := take_inv_text h
  obtain ⟨h3, h4, h5⟩ := take_inv_u8 h1
  refine ⟨h3, ?_⟩
  rw [h4, h2]
  unfold tmB termS
  simp only
  rw [kB_nat h5, List.append_assoc]
theorem terms_fwd (L : List Tm) (r : List UInt8) (h : allMay L = true) : termsS ⟨rowB tmB L ++ r, false⟩ = (L, ⟨r, false⟩) := by
  unfold allMay at h
  simp only [Bool.and_eq_true, decide_eq_true_eq, List.all_eq_true] at h
  exact row_fwd (ok := fun t => tmMay t = true) term_fwd (by omega) L h.1 h.2 r
theorem terms_inv (s : RS) (h : (termsS s).2.st = false) : s.st = false ∧ s.l = rowB tmB (termsS s).1 ++ (termsS s).2.l := row_inv term_inv h
theorem net_fwd (c : Nt) (r : List UInt8) (h : okN c ∧ nMay c = true) : netS ⟨ntB c ++ r, false⟩ = (c, ⟨r, false⟩) := by
  have hb := (nMay_iff c).1 h.2
  unfold netS ntB
  rw [List.append_assoc, take_u32 c.1 h.1.1, take_u8]
  simp only
  rw [kB_toNat hb.1 (by omega)]
theorem net_inv (s : RS) (h : (netS s).2.st = false) : s.st = false ∧ s.l = ntB (netS s).1 ++ (netS s).2.l := by
  obtain ⟨h1, h2, h5⟩ := take_inv_u8 h
  obtain ⟨h3, h4⟩ := take_inv_u32 h1
  refine ⟨h3, ?_⟩
  rw [h4, h2]
  unfold ntB netS
  simp only
  rw [kB_nat h5, List.append_assoc]
theorem port_fwd (x : Int) (r : List UInt8) (h : portMay x = true) : portS ⟨inB x ++ r, false⟩ = (x, ⟨r, false⟩) := by
  unfold portMay at h
  simp only [Bool.and_eq_true, decide_eq_true_eq] at h
  have hx := n64_of (x := x) (by omega) (by omega)
  unfold portS inB
  rw [small_fwd 65536 (n64 x) (by omega) (by omega)]
  simp only
  rw [hx]
theorem port_inv (s : RS) (h : (portS s).2.st = false) : s.st = false ∧ s.l = inB (portS s).1 ++ (portS s).2.l := by
  obtain ⟨h1, h2⟩ := small_inv h
  refine ⟨h1, ?_⟩
  rw [h2]
  unfold inB portS
  simp only
  rw [n64_nat (by have := smallN_le 65536 s; omega)]
theorem rowsB2 (a b : List Tm) : rowsB [a, b] = rowB tmB a ++ rowB tmB b := by simp [rowsB]
theorem rowsB3 (a b c : List Tm) : rowsB [a, b, c] = rowB tmB a ++ (rowB tmB b ++ rowB tmB c) := by simp [rowsB]
theorem rowsB1 (a : List Tm) : rowsB [a] = rowB tmB a := by simp [rowsB]
theorem source_fwd (s : Sr) (r : List UInt8) (h : okSr s ∧ srMay s = true) : sourceS ⟨srB s ++ r, false⟩ = (s, ⟨r, false⟩) := by
  have hm := h.2
  unfold srMay rowsMay at hm
  simp only [Bool.and_eq_true, decide_eq_true_eq, List.all_eq_true, List.mem_cons, List.mem_nil_iff, or_false, forall_eq_or_imp, forall_eq] at hm
  obtain ⟨⟨h1, h2⟩, h3, h4⟩ := hm
  unfold sourceS srB
  rw [rowsB2, List.append_assoc, List.append_assoc, terms_fwd _ _ h1]
  simp only
  rw [terms_fwd _ _ h2]
  simp only
  rw [row_fwd (ok := fun c => okN c ∧ nMay c = true) net_fwd (by omega) s.nets h3 (fun c hc => ⟨h.1.2.2.2 c hc, h4 c hc⟩) r]
theorem source_inv (s : RS) (h : (sourceS s).2.st = false) : s.st = false ∧ s.l = srB (sourceS s).1 ++ (sourceS s).2.l := by
  have e0 : (sourceS s).2 = (rowS 6 netS (termsS (termsS s).2).2).2 := by rw [sourceS]
  have h0 : (rowS 6 netS (termsS (termsS s).2).2).2.st = false := by rw [← e0]; exact h
  obtain ⟨h1, h2⟩ := row_inv net_inv h0
  obtain ⟨h3, h4⟩ := terms_inv _ h1
  obtain ⟨h5, h6⟩ := terms_inv _ h3
  refine ⟨h5, ?_⟩
  rw [h6, h4, h2]
  unfold srB sourceS
  simp only
  rw [rowsB2, List.append_assoc, List.append_assoc]
theorem target_fwd (t : Tg) (r : List UInt8) (h : tgMay t = true) : targetS ⟨tgB t ++ r, false⟩ = (t, ⟨r, false⟩) := by
  unfold tgMay rowsMay at h
  simp only [Bool.and_eq_true, decide_eq_true_eq, List.all_eq_true, List.mem_cons, List.mem_nil_iff, or_false, forall_eq_or_imp, forall_eq] at h
  obtain ⟨⟨h1, h2, h3⟩, ⟨h4, h5⟩, _⟩ := h
  unfold targetS tgB
  rw [rowsB3, List.append_assoc, List.append_assoc, List.append_assoc, row_fwd (ok := fun x => portMay x = true) port_fwd (by omega) t.ports h4 h5]
  simp only
  rw [terms_fwd _ _ h1]
  simp only
  rw [terms_fwd _ _ h2]
  simp only
  rw [terms_fwd _ _ h3]
theorem target_inv (s : RS) (h : (targetS s).2.st = false) : s.st = false ∧ s.l = tgB (targetS s).1 ++ (targetS s).2.l := by
  have e0 : (targetS s).2 = (termsS (termsS (termsS (rowS 6 portS s).2).2).2).2 := by rw [targetS]
  have h0 : (termsS (termsS (termsS (rowS 6 portS s).2).2).2).2.st = false := by rw [← e0]; exact h
  obtain ⟨h1, h2⟩ := terms_inv _ h0
  obtain ⟨h3, h4⟩ := terms_inv _ h1
  obtain ⟨h5, h6⟩ := terms_inv _ h3
  obtain ⟨h7, h8⟩ := row_inv port_inv h5
  refine ⟨h7, ?_⟩
  rw [h8, h6, h4, h2]
  unfold tgB targetS
  simp only
  rw [rowsB3, List.append_assoc, List.append_assoc, List.append_assoc]
theorem when_fwd (x : Wn) (r : List UInt8) (h : wnMay x = true) : whenS ⟨wnB x ++ r, false⟩ = (x, ⟨r, false⟩) := by
  unfold wnMay hdMay rowsMay at h
  simp only [Bool.and_eq_true, decide_eq_true_eq, List.all_eq_true, List.mem_cons, List.mem_nil_iff, or_false, forall_eq] at h
  obtain ⟨⟨_, _, h1⟩, h2, _⟩ := h
  unfold whenS wnB
  rw [rowsB1, List.append_assoc, show (64 : Int) = ((64 : Nat) : Int) from rfl, take_text 64 x.head _ h1 (by omega)]
  simp only
  rw [terms_fwd _ _ h2]
theorem when_inv (s : RS) (h : (whenS s).2.st = false) : s.st = false ∧ s.l = wnB (whenS s).1 ++ (whenS s).2.l := by
  have e0 : (whenS s).2 = (termsS (takeS (findText 64) [] s).2).2 := by rw [whenS]
  have h0 : (termsS (takeS (findText 64) [] s).2).2.st = false := by rw [← e0]; exact h
  obtain ⟨h1, h2⟩ := terms_inv _ h0
  obtain ⟨h3, h4⟩ := take_inv_text h1
  refine ⟨h3, ?_⟩
  rw [h4, h2]
  unfold wnB whenS
  simp only
  rw [rowsB1, List.append_assoc]
theorem rule_fwd (x : Ru) (r : List UInt8) (h : okRu x ∧ ruMay x = true) : ruleS ⟨ruB x ++ r, false⟩ = (x, ⟨r, false⟩) := by
  have hm := h.2
  unfold ruMay at hm
  simp only [Bool.and_eq_true, decide_eq_true_eq, List.all_eq_true] at hm
  obtain ⟨⟨h1, h2⟩, ⟨h3, h4⟩, h5, h6⟩ := hm
  unfold ruleS ruB
  rw [List.append_assoc, List.append_assoc, row_fwd (ok := fun s => okSr s ∧ srMay s = true) source_fwd (by omega) x.froms h1 (fun s hs => ⟨h.1.1.2 s hs, h2 s hs⟩)]
  simp only
  rw [row_fwd (ok := fun t => tgMay t = true) target_fwd (by omega) x.tos h3 h4]
  simp only
  rw [row_fwd (ok := fun t => wnMay t = true) when_fwd (by omega) x.whens h5 h6]
theorem rule_inv (s : RS) (h : (ruleS s).2.st = false) : s.st = false ∧ s.l = ruB (ruleS s).1 ++ (ruleS s).2.l := by
  have e0 : (ruleS s).2 = (rowS 3 whenS (rowS 3 targetS (rowS 3 sourceS s).2).2).2 := by rw [ruleS]
  have h0 : (rowS 3 whenS (rowS 3 targetS (rowS 3 sourceS s).2).2).2.st = false := by rw [← e0]; exact h
  obtain ⟨h1, h2⟩ := row_inv when_inv h0
  obtain ⟨h3, h4⟩ := row_inv target_inv h1
  obtain ⟨h5, h6⟩ := row_inv source_inv h3
  refine ⟨h5, ?_⟩
  rw [h6, h4, h2]
  unfold ruB ruleS
  simp only
  rw [List.append_assoc, List.append_assoc]
theorem lebs2 (x y : Nat) : lebs [x, y] = leb x ++ leb y := by simp [lebs]
/-- What is read of a policy's bytes, whatever stands behind them. -/
theorem po_fwd (p : Po) (hok : okPo p) (hm : poMay p = true) (hns : p.ns.length ≤ 20) (r : List UInt8) : readPo (poB p ++ r) = p ∧ (pA4 (poB p ++ r)).2 = ⟨r, false⟩ := by
  obtain ⟨k1, k2, k3, k4, k5, k6⟩ := hok
  have hm' := hm
  unfold poMay at hm'
  simp only [Bool.and_eq_true, Bool.or_eq_true, decide_eq_true_eq, List.all_eq_true] at hm'
  obtain ⟨m1, m2, _, m4, m5, m6, m7⟩ := hm'
  have hd : ((n64 p.deny : Nat) : Int) = p.deny := n64_of (by omega) (by omega)
  have e0 : pA0 (poB p ++ r) = (p.id, ⟨txB p.ns ++ (leb p.service ++ (leb (n64 p.deny) ++ (rowB ruB p.rules ++ r))), false⟩) := by
    unfold pA0 poB
    rw [lebs2]
    simp only [List.append_assoc]
    exact take_leb p.id k1 _
  have e1 : pA1 (poB p ++ r) = (p.ns, ⟨leb p.service ++ (leb (n64 p.deny) ++ (rowB ruB p.rules ++ r)), false⟩) := by
    unfold pA1
    rw [e0]
    exact take_text 20 p.ns _ hns (by omega)
  have e2 : pA2 (poB p ++ r) = (p.service, ⟨leb (n64 p.deny) ++ (rowB ruB p.rules ++ r), false⟩) := by
    unfold pA2
    rw [e1]
    exact take_leb p.service k3 _
  have e3 : pA3 (poB p ++ r) = (n64 p.deny, ⟨rowB ruB p.rules ++ r, false⟩) := by
    unfold pA3
    rw [e2]
    exact small_fwd 1 _ (by omega) (by omega) _
  have e4 : pA4 (poB p ++ r) = (p.rules, ⟨r, false⟩) := by
    unfold pA4
    rw [e3]
    exact row_fwd (ok := fun x => okRu x ∧ ruMay x = true) rule_fwd (by omega) p.rules m6 (fun x hx => ⟨k6 x hx, m7 x hx⟩) r
  refine ⟨?_, by rw [e4]⟩
  unfold readPo
  rw [e0, e1, e2, e3, e4, hd]
/-- What is read whole was its bytes. -/
theorem po_inv (l : List UInt8) (h : readBad l = false) : l = poB (readPo l) := by
  unfold readBad at h
  simp only [Bool.or_eq_false_iff, Bool.not_eq_false', List.isEmpty_iff] at h
  obtain ⟨h1, h2⟩ := row_inv rule_inv (s := (pA3 l).2) h.1
  obtain ⟨h3, h4⟩ := small_inv (s := (pA2 l).2) h1
  obtain ⟨h5, h6⟩ := take_inv_leb (s := (pA1 l).2) h3
  obtain ⟨h7, h8⟩ := take_inv_text (s := (pA0 l).2) h5
  obtain ⟨h9, h10⟩ := take_inv_leb (s := ⟨l, false⟩) h7
  have hd : n64 (((pA3 l).1 : Nat) : Int) = (pA3 l).1 := n64_nat (by have : (pA3 l).1 ≤ 1 := smallN_le 1 _; omega)
  have e0 : l = leb (pA0 l).1 ++ (pA0 l).2.l := h10
  have e1 : (pA0 l).2.l = txB (pA1 l).1 ++ (pA1 l).2.l := h8
  have e2 : (pA1 l).2.l = leb (pA2 l).1 ++ (pA2 l).2.l := h6
  have e3 : (pA2 l).2.l = leb (pA3 l).1 ++ (pA3 l).2.l := h4
  have e4 : (pA3 l).2.l = rowB ruB (pA4 l).1 ++ (pA4 l).2.l := h2
  conv => lhs; rw [e0, e1, e2, e3, e4, h.2]
  unfold poB readPo
  simp only
  rw [lebs2, hd]
  simp only [List.append_assoc, List.append_nil]
/-! ### Whatever is read is a policy of the machine's -/
theorem takeS_text_len (m : Nat) (s : RS) : (takeS (findText (m : Int)) [] s).1.length ≤ m := by
  unfold takeS
  split
  · exact Nat.zero_le _
  · cases hf : findText (m : Int) s.l with
    | none => exact Nat.zero_le _
    | some q =>
      unfold findText at hf
      split at hf
      · cases hf
      · split at hf
        · cases hf
        · simp only [Option.some.injEq] at hf
          subst hf
          simp only [List.length_take]
          omega
theorem it_all {α : Type} {one : RS → α × RS} {Q : α → Prop} (h : ∀ s, Q (one s).1) (s : RS) : ∀ k, ∀ x ∈ (itS one s k).1, Q x
  | 0, x, hx => by cases hx
  | k + 1, x, hx => by
    unfold itS at hx
    rcases List.mem_append.1 hx with hx | hx
    · exact it_all h s k x hx
    · rw [List.mem_singleton] at hx
      subst hx
      exact h _
theorem row_all {α : Type} {one : RS → α × RS} {Q : α → Prop} (h : ∀ s, Q (one s).1) (most : Nat) (s : RS) : ∀ x ∈ (rowS most one s).1, Q x := it_all h _ _
theorem takeS_u8' (s : RS) : (takeS findU8 0 s).1 < 256 := by
  unfold takeS
  split
  · show 0 < _
    omega
  · cases hf : findU8 s.l with
    | none =>
      show 0 < _
      omega
    | some yk => exact (findU8_inv (x := yk.1) (k := yk.2) hf).2.2.2
theorem terms_ok (s : RS) : okTs (termsS s).1 := ⟨by have : (termsS s).1.length ≤ 6 := rowS_most _ _ _; omega, row_all (Q := fun t : Tm => okS t.2) (fun s => by
  have h : (takeS (findText 64) [] (takeS findU8 0 s).2).1.length ≤ 64 := takeS_text_len 64 _
  exact Nat.le_trans h (by omega)) 6 s⟩
theorem source_ok (s : RS) : okSr (sourceS s).1 := by
  rw [sourceS]
  exact ⟨terms_ok _, terms_ok _, by have := rowS_most netS 6 (termsS (termsS s).2).2; exact Nat.le_trans this (by omega), row_all (Q := okN) (fun s => ⟨takeS_u32 _, by show _ ≤ ((takeS findU8 0 (takeS findU32 0 s).2).1 : Int); omega, by have := takeS_u8' (takeS findU32 0 s).2; show ((takeS findU8 0 (takeS findU32 0 s).2).1 : Int) ≤ _; omega⟩) 6 _⟩
theorem target_ok (s : RS) : okTg (targetS s).1 := by
  rw [targetS]
  exact ⟨⟨by have := rowS_most portS 6 s; exact Nat.le_trans this (by omega), row_all (Q := fun x : Int => -9223372036854775808 ≤ x ∧ x ≤ 9223372036854775807) (fun s => by have := smallN_le 65536 s; unfold portS; simp only; omega) 6 s⟩, terms_ok _, terms_ok _, terms_ok _⟩
theorem when_ok (s : RS) : okWn (whenS s).1 := by
  rw [whenS]
  exact ⟨by have h : (takeS (findText 64) [] s).1.length ≤ 64 := takeS_text_len 64 s; exact Nat.le_trans h (by omega), terms_ok _⟩
theorem rule_ok (s : RS) : okRu (ruleS s).1 := by
  rw [ruleS]
  exact ⟨⟨Nat.le_trans (rowS_most _ _ _) (by omega), row_all source_ok 3 _⟩, ⟨Nat.le_trans (rowS_most _ _ _) (by omega), row_all target_ok 3 _⟩, ⟨Nat.le_trans (rowS_most _ _ _) (by omega), row_all when_ok 3 _⟩⟩
theorem readPo_ok (l : List UInt8) : okPo (readPo l) := by
  refine ⟨takeS_short _, ?_, takeS_short _, ?_, ⟨Nat.le_trans (rowS_most _ _ _) (by omega), row_all rule_ok 6 _⟩⟩
  · have h : (pA1 l).1.length ≤ 20 := takeS_text_len 20 _
    exact Nat.le_trans h (by omega)
  · have : (pA3 l).1 ≤ 1 := smallN_le 1 _
    show -9223372036854775808 ≤ ((pA3 l).1 : Int) ∧ ((pA3 l).1 : Int) ≤ _
    omega
theorem may_ns {p : Po} (h : poMay p = true) : p.ns.length ≤ 20 := by
  unfold poMay labB at h
  simp only [Bool.and_eq_true, Bool.or_eq_true, decide_eq_true_eq, List.isEmpty_iff] at h
  rcases h.2.2.1 with h | h
  · rw [h]; exact Nat.zero_le _
  · exact h.2
/-- Are bytes a policy's? -/
def decOk (l : List UInt8) : Bool := !readBad l && poMay (readPo l)
theorem dec_back {l : List UInt8} (h : decOk l = true) : poB (readPo l) = l ∧ okPo (readPo l) ∧ poMay (readPo l) = true := by
  unfold decOk at h
  simp only [Bool.and_eq_true, Bool.not_eq_true'] at h
  exact ⟨(po_inv l h.1).symm, readPo_ok l, h.2⟩
theorem dec_more {p : Po} (hok : okPo p) (hm : poMay p = true) (r : List UInt8) : decOk (poB p ++ r) = r.isEmpty ∧ readPo (poB p ++ r) = p := by
  obtain ⟨h1, h2⟩ := po_fwd p hok hm (may_ns hm) r
  refine ⟨?_, h1⟩
  unfold decOk readBad
  rw [h1, h2, hm]
  simp
theorem dec_own {p : Po} (hok : okPo p) (hm : poMay p = true) : decOk (poB p) = true ∧ readPo (poB p) = p := by
  have := dec_more hok hm []
  rw [List.append_nil] at this
  exact this
theorem dec_cut {p : Po} (hok : okPo p) (hm : poMay p = true) {k : Nat} (hk : k < (poB p).length) : decOk ((poB p).take k) = false := by
  rw [← Bool.not_eq_true]
  intro h
  obtain ⟨h1, h2, h3⟩ := dec_back h
  have h4 := (dec_more h2 h3 ((poB p).drop k)).1
  rw [h1, List.take_append_drop, (dec_own hok hm).1] at h4
  have h5 : (poB p).drop k = [] := List.isEmpty_iff.1 h4.symm
  have h6 := congrArg List.length h5
  rw [List.length_drop] at h6
  simp at h6
  omega
theorem poB_inj {p q : Po} (hp : okPo p) (mp : poMay p = true) (hq : okPo q) (mq : poMay q = true) (h : poB p = poB q) : p = q := by
  have h1 := (dec_own hp mp).2
  rw [h, (dec_own hq mq).2] at h1
  exact h1.symm
theorem poB_pos {p : Po} (h : p.id < 18446744073709551616) : 0 < (poB p).length := by
  have h1 := grp_pos p.id h
  have h2 := leb_length p.id h
  unfold poB
  rw [List.length_append]
  omega
end Go.Proofs.YtdbjihpdfiipcaaGreat
