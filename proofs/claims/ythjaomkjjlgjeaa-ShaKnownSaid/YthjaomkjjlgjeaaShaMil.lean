/- A block again and again: reckoned in plain numbers, as the kernel does it fast. No condition. -/
import Derived.Test.YthjaomkjjlgjeaaRefBlock
namespace Go.Proofs.Ythjaomkjjlgjeaa
open Go.RowKit
theorem add32_nat (x y : UInt32) : (add32 x y).toNat = (x.toNat + y.toNat) % 4294967296 := by rw [add32, UInt32.toNat_add]
theorem ror_nat (x : UInt32) (n : Nat) (h0 : 0 < n) (h : n < 32) : (ror x n).toNat = (x.toNat * 4294967297) >>> n % 4294967296 := by
  have h1 : x.toNat / 2 ^ n < 4294967296 := Nat.lt_of_le_of_lt (Nat.div_le_self _ _) (u32_lt x)
  have h2 : x.toNat * 2 ^ (32 - n) % 4294967296 < 4294967296 := Nat.mod_lt _ (by omega)
  have h3 : x.toNat / 2 ^ n ||| x.toNat * 2 ^ (32 - n) % 4294967296 < 2 ^ 32 := Nat.or_lt_two_pow h1 h2
  have e : 2 ^ (32 - n) * 2 ^ n = 4294967296 := by rw [← Nat.pow_add, show 32 - n + n = 32 from by omega]
  have hx := u32_lt x
  have hd : x.toNat / 2 ^ n < 2 ^ (32 - n) := by
    rw [Nat.div_lt_iff_lt_mul (Nat.two_pow_pos n), e]; exact hx
  have em : x.toNat * 2 ^ (32 - n) % 4294967296 = 2 ^ (32 - n) * (x.toNat % 2 ^ n) := by
    rw [← e, Nat.mul_comm x.toNat, Nat.mul_mod_mul_left]
  have es : (x.toNat * 4294967297) >>> n = 2 ^ (32 - n) * x.toNat + x.toNat / 2 ^ n := by
    rw [Nat.shiftRight_eq_div_pow, show x.toNat * 4294967297 = x.toNat + 2 ^ n * (2 ^ (32 - n) * x.toNat) from by rw [← Nat.mul_assoc, Nat.mul_comm (2 ^ n), e]; omega, Nat.add_mul_div_left _ _ (Nat.two_pow_pos n), Nat.add_comm]
  unfold ror
  rw [UInt32.toNat_ofNat', Nat.mod_eq_of_lt h3, em, es, Nat.or_comm, ← Nat.two_pow_add_eq_or_of_lt hd, Nat.add_mod, Nat.mul_comm (2 ^ (32 - n)) x.toNat, em]
  have hb : x.toNat / 2 ^ n < 4294967296 := h1
  rw [Nat.mod_eq_of_lt hb]
  have hs : 2 ^ (32 - n) * (x.toNat % 2 ^ n) + x.toNat / 2 ^ n < 4294967296 := by
    have h4 : x.toNat % 2 ^ n < 2 ^ n := Nat.mod_lt _ (Nat.two_pow_pos n)
    have h5 : 2 ^ (32 - n) * (x.toNat % 2 ^ n + 1) ≤ 2 ^ (32 - n) * 2 ^ n := Nat.mul_le_mul_left _ h4
    rw [Nat.mul_add, e] at h5
    omega
  rw [Nat.mod_eq_of_lt hs]
theorem ch_eq (e f g : UInt32) : xor32 (and32 e f) (and32 (not32 e) g) = xor32 g (and32 e (xor32 f g)) := by
  unfold xor32 and32 not32
  apply UInt32.toBitVec_inj.1
  ext i
  simp
  cases e.toBitVec[i] <;> cases f.toBitVec[i] <;> cases g.toBitVec[i] <;> rfl
theorem maj_eq (a b c : UInt32) : xor32 (xor32 (and32 a b) (and32 a c)) (and32 b c) = xor32 (and32 a b) (and32 c (xor32 a b)) := by
  unfold xor32 and32
  apply UInt32.toBitVec_inj.1
  ext i
  simp
  cases a.toBitVec[i] <;> cases b.toBitVec[i] <;> cases c.toBitVec[i] <;> rfl
theorem xor32_nat (x y : UInt32) : (xor32 x y).toNat = Nat.xor x.toNat y.toNat := by unfold xor32; exact UInt32.toNat_xor x y
theorem and32_nat (x y : UInt32) : (and32 x y).toNat = Nat.land x.toNat y.toNat := by unfold and32; exact UInt32.toNat_and x y
def sgN (i j k x : Nat) : Nat := Nat.mod (Nat.xor (Nat.xor (Nat.shiftRight (Nat.mul x 4294967297) i) (Nat.shiftRight (Nat.mul x 4294967297) j)) (Nat.shiftRight (Nat.mul x 4294967297) k)) 4294967296
theorem sg_nat (i j k : Nat) (x : UInt32) (hi : 0 < i ∧ i < 32) (hj : 0 < j ∧ j < 32) (hk : 0 < k ∧ k < 32) : (xor32 (xor32 (ror x i) (ror x j)) (ror x k)).toNat = sgN i j k x.toNat := by
  rw [xor32_nat, xor32_nat, ror_nat x i hi.1 hi.2, ror_nat x j hj.1 hj.2, ror_nat x k hk.1 hk.2]
  show ((_ % 2 ^ 32) ^^^ (_ % 2 ^ 32)) ^^^ (_ % 2 ^ 32) = _
  rw [← Nat.xor_mod_two_pow, ← Nat.xor_mod_two_pow]
  rfl
def t1N (kw e f g h : Nat) : Nat := Nat.add (Nat.add h kw) (Nat.add (sgN 6 11 25 e) (Nat.xor g (Nat.land e (Nat.xor f g))))
def t2N (a b c : Nat) : Nat := Nat.add (sgN 2 13 22 a) (Nat.xor (Nat.land a b) (Nat.land c (Nat.xor a b)))
def F8 : Type := Nat → Nat → Nat → Nat → Nat → Nat → Nat → Nat → Nat
def kA (k : F8) (t1 a b c d e f g : Nat) : Nat :=
  (fun a' e' => cond (Nat.beq (Nat.add a' e') 0) (k a' a b c e' e f g) (k a' a b c e' e f g)) (Nat.mod (Nat.add t1 (t2N a b c)) 4294967296) (Nat.mod (Nat.add d t1) 4294967296)
noncomputable def stepN (k : F8) (ks : List Nat) : F8 :=
  List.rec (motive := fun _ => F8) k (fun kw _ ih a b c d e f g h => kA ih (t1N kw e f g h) a b c d e f g) ks
def addM (a b : Nat) : Nat := Nat.mod (Nat.add a b) 4294967296
def finN : F8 := fun a b c d e f g h => a + 4294967296 * (b + 4294967296 * (c + 4294967296 * (d + 4294967296 * (e + 4294967296 * (f + 4294967296 * (g + 4294967296 * h))))))
noncomputable def runsN (ks : List Nat) (n : Nat) : F8 :=
  Nat.rec (motive := fun _ => F8) finN (fun _ ih a b c d e f g h => stepN (fun a' b' c' d' e' f' g' h' => ih (addM a a') (addM b b') (addM c c') (addM d d') (addM e e') (addM f f') (addM g g') (addM h h')) ks a b c d e f g h) n
/-- A function of eight numbers, at eight words. -/
def ap8 (F : F8) (v : List UInt32) : Nat := F (at32 v 0).toNat (at32 v 1).toNat (at32 v 2).toNat (at32 v 3).toNat (at32 v 4).toNat (at32 v 5).toNat (at32 v 6).toNat (at32 v 7).toNat
theorem kA_eq (k : F8) (t1 a b c d e f g : Nat) : kA k t1 a b c d e f g = k ((t1 + t2N a b c) % 4294967296) a b c ((d + t1) % 4294967296) e f g := by
  unfold kA
  simp only
  cases Nat.beq _ 0 <;> rfl
theorem step_rnd (k : F8) (v : List UInt32) (x y : UInt32) : kA k (t1N ((x.toNat + y.toNat) % 4294967296) (at32 v 4).toNat (at32 v 5).toNat (at32 v 6).toNat (at32 v 7).toNat) (at32 v 0).toNat (at32 v 1).toNat (at32 v 2).toNat (at32 v 3).toNat (at32 v 4).toNat (at32 v 5).toNat (at32 v 6).toNat = ap8 k (rnd v x y) := by
  have h1 : (t1Of v x y).toNat = t1N ((x.toNat + y.toNat) % 4294967296) (at32 v 4).toNat (at32 v 5).toNat (at32 v 6).toNat (at32 v 7).toNat % 4294967296 := by
    unfold t1Of
    rw [ch_eq]
    simp only [add32_nat]
    rw [sg_nat 6 11 25 _ (by omega) (by omega) (by omega), xor32_nat (at32 v 6), and32_nat, xor32_nat]
    show _ = (((at32 v 7).toNat + (x.toNat + y.toNat) % 4294967296) + (sgN 6 11 25 (at32 v 4).toNat + Nat.xor (at32 v 6).toNat (Nat.land (at32 v 4).toNat (Nat.xor (at32 v 5).toNat (at32 v 6).toNat)))) % 4294967296
    omega
  have h2 : (t2Of v).toNat = t2N (at32 v 0).toNat (at32 v 1).toNat (at32 v 2).toNat % 4294967296 := by
    unfold t2Of
    rw [maj_eq, add32_nat, sg_nat 2 13 22 _ (by omega) (by omega) (by omega), xor32_nat (and32 _ _), and32_nat, and32_nat, xor32_nat]
    rfl
  rw [kA_eq]
  unfold ap8 rnd
  simp only [at32, List.getD_cons_zero, List.getD_cons_succ, add32_nat] at *
  rw [h1, h2]
  congr 1 <;> omega
def kwOf (K W : List UInt32) : List Nat := (List.range 64).map fun t => ((at32 K t).toNat + (at32 W t).toNat) % 4294967296
theorem kwOf_drop (K W : List UInt32) (t : Nat) (h : t < 64) : (kwOf K W).drop t = (((at32 K t).toNat + (at32 W t).toNat) % 4294967296) :: (kwOf K W).drop (t + 1) := by
  rw [List.drop_eq_getElem_cons (by simp [kwOf]; exact h)]
  simp [kwOf]
theorem steps_rounds (k : F8) (K W v : List UInt32) : ∀ m t, t + m = 64 → ap8 (stepN k ((kwOf K W).drop t)) (rounds K W v t) = ap8 k (rounds K W v 64)
  | 0, t, h => by
    obtain rfl : t = 64 := by omega
    rw [List.drop_eq_nil_of_le (by simp [kwOf])]
    rfl
  | m + 1, t, h => by
    rw [kwOf_drop K W t (by omega)]
    rw [← steps_rounds k K W v m (t + 1) (by omega), rounds_succ]
    exact step_rnd (stepN k ((kwOf K W).drop (t + 1))) (rounds K W v t) (at32 K t) (at32 W t)
theorem runs_succ (ks : List Nat) (n : Nat) (K h : List UInt32) (b : List UInt8) (hh : h.length = 8) (hk : ks = kwOf K (sched b 64)) : ap8 (runsN ks (n + 1)) h = ap8 (runsN ks n) (comp K h b) := by
  have e := steps_rounds (fun a' b' c' d' e' f' g' h' => runsN ks n (addM (at32 h 0).toNat a') (addM (at32 h 1).toNat b') (addM (at32 h 2).toNat c') (addM (at32 h 3).toNat d') (addM (at32 h 4).toNat e') (addM (at32 h 5).toNat f') (addM (at32 h 6).toNat g') (addM (at32 h 7).toNat h')) K (sched b 64) h 64 0 rfl
  rw [List.drop_zero, ← hk] at e
  unfold comp
  rw [addTo_eight h _ hh]
  refine Eq.trans ?_ (e.trans ?_)
  · rfl
  · unfold ap8
    simp only [at32, List.getD_cons_zero, List.getD_cons_succ, add32_nat]
    rfl
/-- The same block, n times. -/
def againB (b : List UInt8) : Nat → List UInt32 → List UInt32
  | 0, h => h
  | n + 1, h => againB b n (comp KEYS h b)
theorem againB_succ (b : List UInt8) : ∀ (n : Nat) (h : List UInt32), againB b (n + 1) h = comp KEYS (againB b n h) b
  | 0, _ => rfl
  | n + 1, h => by
    show againB b (n + 1) (comp KEYS h b) = _
    rw [againB_succ b n]
    rfl
theorem againB_add (b : List UInt8) : ∀ (m n : Nat) (h : List UInt32), againB b (m + n) h = againB b n (againB b m h)
  | 0, n, h => by rw [Nat.zero_add]; rfl
  | m + 1, n, h => by
    rw [show m + 1 + n = (m + n) + 1 from by omega]
    show againB b (m + n) (comp KEYS h b) = _
    rw [againB_add b m n]
    rfl
theorem againB_length (b : List UInt8) : ∀ (n : Nat) (h : List UInt32), (againB b n h).length = h.length
  | 0, _ => rfl
  | n + 1, h => by
    show (againB b n (comp KEYS h b)).length = _
    rw [againB_length b n, comp_length]
theorem runs_again (ks : List Nat) (b : List UInt8) (hk : ks = kwOf KEYS (sched b 64)) : ∀ (n : Nat) (h : List UInt32), h.length = 8 → ap8 (runsN ks n) h = ap8 finN (againB b n h)
  | 0, _, _ => rfl
  | n + 1, h, hh => by
    rw [runs_succ ks n KEYS h b hh hk, runs_again ks b hk n _ (by rw [comp_length]; exact hh)]
    rfl
def unp (P : Nat) : List UInt32 := [UInt32.ofNat P, UInt32.ofNat (P / 4294967296), UInt32.ofNat (P / 18446744073709551616), UInt32.ofNat (P / 79228162514264337593543950336), UInt32.ofNat (P / 340282366920938463463374607431768211456), UInt32.ofNat (P / 1461501637330902918203684832716283019655932542976), UInt32.ofNat (P / 6277101735386680763835789423207666416102355444464034512896), UInt32.ofNat (P / 26959946667150639794667015087019630673637144422540572481103610249216)]
theorem unp_fin (v : List UInt32) (hv : v.length = 8) : unp (ap8 finN v) = v := by
  obtain ⟨a0, a1, a2, a3, a4, a5, a6, a7, rfl⟩ : ∃ a0 a1 a2 a3 a4 a5 a6 a7, v = [a0, a1, a2, a3, a4, a5, a6, a7] := by
    rcases v with _ | ⟨a0, _ | ⟨a1, _ | ⟨a2, _ | ⟨a3, _ | ⟨a4, _ | ⟨a5, _ | ⟨a6, _ | ⟨a7, h⟩⟩⟩⟩⟩⟩⟩⟩
    all_goals (try (simp at hv; done))
    have : h = [] := List.eq_nil_of_length_eq_zero (by simpa using hv)
    exact ⟨a0, a1, a2, a3, a4, a5, a6, a7, by rw [this]⟩
  unfold ap8 finN unp
  simp only [at32, List.getD_cons_zero, List.getD_cons_succ]
  have h0 := u32_lt a0
  have h1 := u32_lt a1
  have h2 := u32_lt a2
  have h3 := u32_lt a3
  have h4 := u32_lt a4
  have h5 := u32_lt a5
  have h6 := u32_lt a6
  have h7 := u32_lt a7
  have key : ∀ (x : UInt32) (n : Nat), n % 4294967296 = x.toNat → UInt32.ofNat n = x := fun x n h => by
    apply UInt32.toNat_inj.1
    rw [UInt32.toNat_ofNat', h]
  rw [key a0 _ (by omega), key a1 _ (by omega), key a2 _ (by omega), key a3 _ (by omega), key a4 _ (by omega), key a5 _ (by omega), key a6 _ (by omega), key a7 _ (by omega)]
theorem chunk (ks : List Nat) (b : List UInt8) (hk : ks = kwOf KEYS (sched b 64)) (n P Q : Nat) (h : Nat.beq (ap8 (runsN ks n) (unp P)) Q = true) : againB b n (unp P) = unp Q := by
  have e := Nat.eq_of_beq_eq_true h
  rw [runs_again ks b hk n (unp P) rfl] at e
  rw [← e, unp_fin _ (by rw [againB_length]; rfl)]
theorem blkN_again (h : List UInt32) (L : List UInt8) (b : List UInt8) : ∀ k : Nat, (∀ i, i < k → (L.drop (64 * i)).take 64 = b) → blkN h L k = againB b k h
  | 0, _ => by rw [blkN_zero]; rfl
  | k + 1, hb => by
    rw [blkN_succ, blkN_again h L b k (fun i hi => hb i (by omega)), hb k (by omega), againB_succ]
end Go.Proofs.Ythjaomkjjlgjeaa
