/- The words of a block and the compression of SHA-256, as plain functions over words: no program. No condition. -/
import Derived.Test.YtgefbgjgcjiceaaWords
namespace Go.Proofs.Ytgefbgjgcjiceaa
open Go.RowKit
def beN (l : List UInt8) : Nat := l.foldl (fun x c => x * 256 + c.toNat) 0
def wordAt (b : List UInt8) (t : Nat) : UInt32 := UInt32.ofNat (beN ((b.drop (4 * t)).take 4))
def sg0 (x : UInt32) : UInt32 := xor32 (xor32 (ror x 7) (ror x 18)) (shr x 3)
def sg1 (x : UInt32) : UInt32 := xor32 (xor32 (ror x 17) (ror x 19)) (shr x 10)
def wstep (b : List UInt8) (W : List UInt32) (t : Nat) : List UInt32 :=
  W.set t (if t < 16 then wordAt b t else add32 (add32 (add32 (sg1 (at32 W (t - 2))) (at32 W (t - 7))) (sg0 (at32 W (t - 15)))) (at32 W (t - 16)))
def sched (b : List UInt8) (n : Nat) : List UInt32 := (List.range n).foldl (wstep b) (List.replicate 64 0)
theorem sched_succ (b : List UInt8) (n : Nat) : sched b (n + 1) = wstep b (sched b n) n := by
  unfold sched
  rw [List.range_succ, List.foldl_append]
  rfl
theorem sched_length (b : List UInt8) (n : Nat) : (sched b n).length = 64 := by
  induction n with
  | zero => rfl
  | succ n ih => rw [sched_succ]; simp [wstep, ih]
theorem sched_zero (b : List UInt8) (n i : Nat) (h : n ≤ i) : at32 (sched b n) i = 0 := by
  induction n with
  | zero => 
    unfold at32 sched
    simp only [List.range_zero, List.foldl_nil, List.getD_eq_getElem?_getD, List.getElem?_replicate]
    split <;> rfl
  | succ n ih =>
    rw [sched_succ]
    unfold wstep
    by_cases hn : n < 64
    · rw [at32_set _ _ _ _ (by rw [sched_length]; exact hn), if_neg (by omega)]
      exact ih (by omega)
    · rw [List.set_eq_of_length_le (by rw [sched_length]; omega)]
      exact ih (by omega)
theorem set_at32 (W : List UInt32) (i : Nat) (h : i < W.length) : W.set i (at32 W i) = W := by
  unfold at32
  rw [List.getD_eq_getElem?_getD, List.getElem?_eq_getElem h]
  exact List.set_getElem_self h
theorem beN_snoc (l : List UInt8) (c : UInt8) : beN (l ++ [c]) = beN l * 256 + c.toNat := by simp [beN]
theorem beN_gen (l : List UInt8) : ∀ x : Nat, l.foldl (fun x c => x * 256 + c.toNat) x < (x + 1) * 256 ^ l.length := by
  induction l with
  | nil => intro x; simp
  | cons c l ih =>
    intro x
    refine Nat.lt_of_lt_of_le (ih _) ?_
    rw [List.length_cons, Nat.pow_succ', ← Nat.mul_assoc]
    exact Nat.mul_le_mul_right _ (by show x * 256 + c.toNat + 1 ≤ _; have := c.toNat_lt; omega)
theorem beN_lt (l : List UInt8) : beN l < 256 ^ l.length := by
  have := beN_gen l 0
  simpa [beN] using this
/-- One byte more behind a word. -/
theorem shl8_or (x : Nat) (c : UInt8) (hx : x < 16777216) : bits .or .u32 (((UInt32.ofNat x).toNat : Int) * 256 % 4294967296) (c.toNat : Int) = ((UInt32.ofNat (x * 256 + c.toNat)).toNat : Int) := by
  have hc := c.toNat_lt
  rw [UInt32.toNat_ofNat', UInt32.toNat_ofNat', Nat.mod_eq_of_lt (show x < 2 ^ 32 by omega), Nat.mod_eq_of_lt (show x * 256 + c.toNat < 2 ^ 32 by omega),
    show (x : Int) * 256 % 4294967296 = ((x * 256 : Nat) : Int) from by omega, u32_or_nat _ _ (by omega) (by omega)]
  have := Nat.two_pow_add_eq_or_of_lt (i := 8) (b := c.toNat) hc x
  rw [show 2 ^ 8 * x = x * 256 from by omega] at this
  rw [this]
/-- The words of a block, as the program makes them: at each place its bytes, one behind the other. -/
theorem words_byte (l : List UInt8) (hl : l.length = 64) (t k : Nat) (ht : t < 16) (hk : k < 4) : beN ((l.drop (4 * t)).take (k + 1)) = beN ((l.drop (4 * t)).take k) * 256 + (l[4 * t + k]'(by omega)).toNat := by
  rw [List.take_succ_eq_append_getElem (by simp; omega), beN_snoc]
  simp
theorem words_lt (l : List UInt8) (t k : Nat) (hk : k < 4) : beN ((l.drop (4 * t)).take k) < 16777216 := by
  refine Nat.lt_of_lt_of_le (beN_lt _) ?_
  have : ((l.drop (4 * t)).take k).length ≤ 3 := by simp; omega
  exact Nat.le_trans (Nat.pow_le_pow_right (by omega) this) (by decide)


/-! ### The compression -/
def t1Of (v : List UInt32) (k w : UInt32) : UInt32 :=
  add32 (add32 (add32 (add32 (at32 v 7) (xor32 (xor32 (ror (at32 v 4) 6) (ror (at32 v 4) 11)) (ror (at32 v 4) 25))) (xor32 (and32 (at32 v 4) (at32 v 5)) (and32 (not32 (at32 v 4)) (at32 v 6)))) k) w
def t2Of (v : List UInt32) : UInt32 :=
  add32 (xor32 (xor32 (ror (at32 v 0) 2) (ror (at32 v 0) 13)) (ror (at32 v 0) 22)) (xor32 (xor32 (and32 (at32 v 0) (at32 v 1)) (and32 (at32 v 0) (at32 v 2))) (and32 (at32 v 1) (at32 v 2)))
def rnd (v : List UInt32) (k w : UInt32) : List UInt32 :=
  [add32 (t1Of v k w) (t2Of v), at32 v 0, at32 v 1, at32 v 2, add32 (at32 v 3) (t1Of v k w), at32 v 4, at32 v 5, at32 v 6]
def rounds (K W v : List UInt32) (n : Nat) : List UInt32 := (List.range n).foldl (fun v t => rnd v (at32 K t) (at32 W t)) v
theorem rounds_succ (K W v : List UInt32) (n : Nat) : rounds K W v (n + 1) = rnd (rounds K W v n) (at32 K n) (at32 W n) := by
  unfold rounds
  rw [List.range_succ, List.foldl_append]
  rfl
theorem rounds_length (K W v : List UInt32) (n : Nat) (h : v.length = 8) : (rounds K W v n).length = 8 := by
  cases n with
  | zero => exact h
  | succ n => rw [rounds_succ]; rfl
/-- h with v added, word by word, in its first n places. -/
def addTo (h v : List UInt32) (n : Nat) : List UInt32 := (List.range n).foldl (fun h i => h.set i (add32 (at32 h i) (at32 v i))) h
theorem addTo_succ (h v : List UInt32) (n : Nat) : addTo h v (n + 1) = (addTo h v n).set n (add32 (at32 (addTo h v n) n) (at32 v n)) := by
  unfold addTo
  rw [List.range_succ, List.foldl_append]
  rfl
theorem addTo_length (h v : List UInt32) (n : Nat) : (addTo h v n).length = h.length := by
  induction n with
  | zero => rfl
  | succ n ih => rw [addTo_succ]; simpa using ih
def comp (K h : List UInt32) (b : List UInt8) : List UInt32 := addTo h (rounds K (sched b 64) h 64) 8
theorem comp_length (K h : List UInt32) (b : List UInt8) : (comp K h b).length = h.length := addTo_length _ _ _

end Go.Proofs.Ytgefbgjgcjiceaa
