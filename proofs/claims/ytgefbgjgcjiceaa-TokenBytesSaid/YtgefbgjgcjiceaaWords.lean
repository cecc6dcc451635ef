/- Words of 32, of 64 bits, and bytes, as the walk writes them: laws that bring each operation back to one word. No condition. -/
import Derived.Test.YtgefbgjgcjiceaaBase
namespace Go.Proofs.Ytgefbgjgcjiceaa
open Go.RowKit

def uv (x : UInt32) : Value := .int .u32 (x.toNat : Int)
def uvs (l : List UInt32) : List Value := l.map uv

/-- Plain names for the operations, so that a walk leaves them as they are. -/
def add32 (x y : UInt32) : UInt32 := x + y
def xor32 (x y : UInt32) : UInt32 := x ^^^ y
def and32 (x y : UInt32) : UInt32 := x &&& y
def or32 (x y : UInt32) : UInt32 := x ||| y
def shr (x : UInt32) (k : Nat) : UInt32 := UInt32.ofNat (x.toNat / 2 ^ k)
def xor8 (x y : UInt8) : UInt8 := x ^^^ y
def and8 (x y : UInt8) : UInt8 := x &&& y
def or8 (x y : UInt8) : UInt8 := x ||| y
theorem u32_lt (x : UInt32) : x.toNat < 4294967296 := x.toNat_lt
@[go_sem] theorem u32_add (x y : UInt32) : IntKind.u32.wrap ((x.toNat : Int) + (y.toNat : Int)) = ((add32 x y).toNat : Int) := by
  rw [IntKind.wrap_u32', add32, UInt32.toNat_add]; rfl
theorem add32_int (x y : UInt32) : ((add32 x y).toNat : Int) = ((x.toNat : Int) + (y.toNat : Int)) % 4294967296 := by
  rw [← u32_add, IntKind.wrap_u32']
@[go_sem] theorem u32_xor' (x y : UInt32) : bits .xor .u32 (x.toNat : Int) (y.toNat : Int) = ((xor32 x y).toNat : Int) := by
  rw [u32_xor_nat _ _ (u32_lt x) (u32_lt y), xor32, UInt32.toNat_xor]
@[go_sem] theorem u32_and' (x y : UInt32) : bits .and .u32 (x.toNat : Int) (y.toNat : Int) = ((and32 x y).toNat : Int) := by
  rw [u32_and_nat _ _ (u32_lt x) (u32_lt y), and32, UInt32.toNat_and]
@[go_sem] theorem u32_or' (x y : UInt32) : bits .or .u32 (x.toNat : Int) (y.toNat : Int) = ((or32 x y).toNat : Int) := by
  rw [u32_or_nat _ _ (u32_lt x) (u32_lt y), or32, UInt32.toNat_or]

def not32 (x : UInt32) : UInt32 := ~~~x
@[go_sem] theorem u32_not' (x : UInt32) : bits .xor .u32 IntKind.u32.max (x.toNat : Int) = ((not32 x).toNat : Int) := by
  show IntKind.u32.wrap ((BitVec.ofInt 32 IntKind.u32.max ^^^ BitVec.ofInt 32 (x.toNat : Int)).toNat : Int) = _
  rw [show BitVec.ofInt 32 IntKind.u32.max = BitVec.allOnes 32 from by decide, show BitVec.ofInt 32 (x.toNat : Int) = x.toBitVec from by rw [BitVec.ofInt_natCast]; simp, BitVec.allOnes_xor]
  have h : (~~~x.toBitVec).toNat = (not32 x).toNat := rfl
  rw [h, IntKind.wrap_u32']
  have := (not32 x).toNat_lt
  omega
theorem shr_toNat (x : UInt32) (k : Nat) : (shr x k).toNat = x.toNat / 2 ^ k := by
  unfold shr
  rw [UInt32.toNat_ofNat', Nat.mod_eq_of_lt]
  exact Nat.lt_of_le_of_lt (Nat.div_le_self _ _) x.toNat_lt
theorem shr_3 (x : UInt32) : (x.toNat : Int) / 8 = ((shr x 3).toNat : Int) := by rw [shr_toNat]; rfl
theorem shr_10 (x : UInt32) : (x.toNat : Int) / 1024 = ((shr x 10).toNat : Int) := by rw [shr_toNat]; rfl
theorem u8_lt (x : UInt8) : x.toNat < 256 := x.toNat_lt
@[go_sem] theorem u8_xor' (x y : UInt8) : bits .xor .u8 (x.toNat : Int) (y.toNat : Int) = ((xor8 x y).toNat : Int) := by
  rw [u8_xor_nat _ _ (u8_lt x) (u8_lt y), xor8, UInt8.toNat_xor]
@[go_sem] theorem u8_and' (x y : UInt8) : bits .and .u8 (x.toNat : Int) (y.toNat : Int) = ((and8 x y).toNat : Int) := by
  rw [u8_and_nat _ _ (u8_lt x) (u8_lt y), and8, UInt8.toNat_and]
@[go_sem] theorem u8_or' (x y : UInt8) : bits .or .u8 (x.toNat : Int) (y.toNat : Int) = ((or8 x y).toNat : Int) := by
  rw [u8_or_nat _ _ (u8_lt x) (u8_lt y), or8, UInt8.toNat_or]

/-- A turn to the right. -/
def ror (x : UInt32) (n : Nat) : UInt32 := UInt32.ofNat (x.toNat / 2 ^ n ||| x.toNat * 2 ^ (32 - n) % 4294967296)
theorem ror_or (x : UInt32) (n : Nat) : bits .or .u32 ((x.toNat : Int) / 2 ^ n) ((x.toNat : Int) * 2 ^ (32 - n) % 4294967296) = ((ror x n).toNat : Int) := by
  have h1 : x.toNat / 2 ^ n < 4294967296 := Nat.lt_of_le_of_lt (Nat.div_le_self _ _) (u32_lt x)
  have h2 : x.toNat * 2 ^ (32 - n) % 4294967296 < 4294967296 := Nat.mod_lt _ (by omega)
  have h := u32_or_nat _ _ h1 h2
  have h3 : x.toNat / 2 ^ n ||| x.toNat * 2 ^ (32 - n) % 4294967296 < 2 ^ 32 := Nat.or_lt_two_pow h1 h2
  unfold ror
  rw [UInt32.toNat_ofNat', Nat.mod_eq_of_lt h3, ← h]
  simp
theorem ror_or' (x : UInt32) (n : Nat) : bits .or .u32 ((x.toNat : Int) * 2 ^ (32 - n) % 4294967296) ((x.toNat : Int) / 2 ^ n) = ((ror x n).toNat : Int) := by
  have h1 : x.toNat / 2 ^ n < 4294967296 := Nat.lt_of_le_of_lt (Nat.div_le_self _ _) (u32_lt x)
  have h2 : x.toNat * 2 ^ (32 - n) % 4294967296 < 4294967296 := Nat.mod_lt _ (by omega)
  have h := u32_or_nat _ _ h2 h1
  have h3 : x.toNat / 2 ^ n ||| x.toNat * 2 ^ (32 - n) % 4294967296 < 2 ^ 32 := Nat.or_lt_two_pow h1 h2
  unfold ror
  rw [UInt32.toNat_ofNat', Nat.mod_eq_of_lt h3, Nat.or_comm, ← h]
  simp

/-! ### Rows of words -/
/-- The word at a place (nought, where there is none). -/
def at32 (l : List UInt32) (i : Nat) : UInt32 := l.getD i 0
theorem uvs_get (l : List UInt32) (i : Nat) (h : i < l.length) : (uvs l)[i]? = some (.int .u32 ((at32 l i).toNat : Int)) := by
  simp [uvs, at32, h, uv]
theorem uvs_set (l : List UInt32) (i : Nat) (x : UInt32) : (uvs l).set i (.int .u32 (x.toNat : Int)) = uvs (l.set i x) := by
  unfold uvs
  rw [List.map_set]
  rfl
theorem uvs_length (l : List UInt32) : (uvs l).length = l.length := by simp [uvs]
theorem uvs_all (l : List UInt32) : (uvs l).all (·.oneCell') = true := by
  rw [List.all_eq_true]
  intro u hu
  obtain ⟨x, _, rfl⟩ := List.mem_map.1 hu
  rfl
@[go_sem] theorem u8_in_u32 (c : UInt8) : (c.toNat : Int) % 4294967296 = (c.toNat : Int) := by
  have := c.toNat_lt
  omega
/-- A word out of a whole row of words. -/
theorem run_index_words {P : Program} {t e n : Nat} (ht : P.underlying t = some (.array n e)) (he : (P.info? e).map (·.size) = some 1) (hagg : P.underlying e = some (.int .u32)) (l : List UInt32) (hl : l.length = n) (i : Nat) (hi : i < n) (w : World) :
    (Instr.index t (.agg (uvs l).toArray) (.int .i64 (i : Int))).run P w = .ok (.int .u32 ((at32 l i).toNat : Int)) w := by
  subst hl
  obtain ⟨j, hj, hs⟩ := Option.map_eq_some_iff.1 he
  have hg := uvs_get l i hi
  simp [Instr.index, run_underlying ht, asIntOf, sizeOf, typeInfo, hj, hs, part, isAgg, run_underlying hagg, hg, hi]
theorem Blk.word {w : World} {g t : Nat} {l : List UInt32} (h : Blk w g t (uvs l)) {i : Nat} (hi : i < l.length) : w.cell? ⟨g, i, none⟩ = some (.int .u32 ((at32 l i).toNat : Int)) := by
  rw [h.cell, uvs_get l i hi]
theorem Blk.setWord {w : World} {g t : Nat} {l : List UInt32} (h : Blk w g t (uvs l)) (i : Nat) (x : UInt32) : Blk (w.setCell ⟨g, i, none⟩ (.int .u32 (x.toNat : Int))) g t (uvs (l.set i x)) := by
  rw [← uvs_set]
  exact Blk.set h i _
theorem at32_set (l : List UInt32) (i j : Nat) (x : UInt32) (h : i < l.length) : at32 (l.set i x) j = if i = j then x else at32 l j := by
  unfold at32
  simp only [List.getD_eq_getElem?_getD, List.getElem?_set, h]
  split <;> simp
end Go.Proofs.Ytgefbgjgcjiceaa
