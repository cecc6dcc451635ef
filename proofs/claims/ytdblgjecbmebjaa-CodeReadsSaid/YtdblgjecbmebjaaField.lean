/- The laws' fields: what kind, write leave. Conditions: a field's number is a uint64, its text at most 2^46 bytes. -/
import Derived.Test.YtdblgjecbmebjaaReader5
namespace Go.Proofs.Ytdblgjecbmebjaa
open Go.RowKit
structure Fd where
  kind : Int
  most : Int
  more : Int
  n : Nat
  s : List UInt8
def Fd.cells (f : Fd) : List Value := [.int .i64 f.kind, .int .i64 f.most, .int .i64 f.more, .int .u64 f.n, .string (strB f.s)]
def fk (f : Fd) : Nat := (f.kind % 65536).toNat % 5
def fbytes (f : Fd) : List UInt8 :=
  match fk f with
  | 0 => [UInt8.ofNat f.n]
  | 1 => le32 f.n
  | 2 => leb f.n
  | 3 => leb f.s.length ++ f.s
  | _ => f.s
theorem fk_lt (f : Fd) : fk f < 5 := Nat.mod_lt _ (by decide)
theorem bits_all_mod (n : Int) : bits .and .i64 n 65535 = n % 65536 := by
  have h127 : (BitVec.ofInt 64 65535).toNat = 2 ^ 16 - 1 := by decide
  have key : (BitVec.ofInt 64 n &&& BitVec.ofInt 64 65535).toNat = (n % ((2 ^ 64 : Nat) : Int)).toNat % 2 ^ 16 := by
    rw [BitVec.toNat_and, BitVec.toNat_ofInt, h127, Nat.and_two_pow_sub_one_eq_mod]
  show IntKind.i64.wrap ((BitVec.ofInt 64 n &&& BitVec.ofInt 64 65535).toNat : Nat) = n % 65536
  rw [key, IntKind.wrap_i64]
  omega
theorem bits_and255 (n : Int) : bits .and .i64 n 255 = n % 256 := by
  have h127 : (BitVec.ofInt 64 255).toNat = 2 ^ 8 - 1 := by decide
  have key : (BitVec.ofInt 64 n &&& BitVec.ofInt 64 255).toNat = (n % ((2 ^ 64 : Nat) : Int)).toNat % 2 ^ 8 := by
    rw [BitVec.toNat_and, BitVec.toNat_ofInt, h127, Nat.and_two_pow_sub_one_eq_mod]
  show IntKind.i64.wrap ((BitVec.ofInt 64 n &&& BitVec.ofInt 64 255).toNat : Nat) = n % 256
  rw [key, IntKind.wrap_i64]
  omega
theorem le32_mod (n : Nat) : le32 (n % 4294967296) = le32 n := by
  have h : ∀ a b : Nat, a % 256 = b % 256 → UInt8.ofNat a = UInt8.ofNat b := fun a b h => by
    apply UInt8.toNat_inj.1
    simpa using h
  unfold le32
  rw [h (n % 4294967296) n (by omega), h (n % 4294967296 / 256) (n / 256) (by omega), h (n % 4294967296 / 65536) (n / 65536) (by omega), h (n % 4294967296 / 16777216) (n / 16777216) (by omega)]
set_option maxRecDepth 100000 in
set_option maxHeartbeats 1000000 in
theorem kind_any (f : Fd) (w : World) :
    Calls Try.prog 25 #[.agg f.cells.toArray] w fun e w' => e = .returned (.int .i64 (fk f : Nat)) ∧ Below w.heap.size w w' := by
  have hb := bits_all_mod f.kind
  go_enter Try.func25, Try.ntmps25
  simp only [Fd.cells]
  go_wp2_with fail
  go_ret
  refine ⟨congrArg Ending.returned (congrArg (Value.int IntKind.i64) ?_), (Below.refl _ _).alloc (Nat.le_refl _) _⟩
  show f.kind % 65536 % 5 = _
  unfold fk
  omega
theorem Wrote.below (w w' : World) (h : Below w.heap.size w w') (p : Nat) (A : Option Addr) : Wrote w w' p A A := ⟨.inl rfl, (Off.of_all h).mono fun _ _ h => h.elim⟩
theorem Wr.below {w w' : World} (hb : Below w.heap.size w w') {p : Nat} {A : Option Addr} {n c : Nat} {l : List UInt8} (h : Wr w p A n c l) : Wr w' p A n c l := h.off (Off.of_all hb) id (fun _ _ => id)
set_option maxRecDepth 100000 in
set_option maxHeartbeats 2000000 in
theorem write_any (p : Nat) (A : Option Addr) (n c : Nat) (l : List UInt8) (f : Fd) (w : World) (h : Wr w p A n c l) (hn : f.n < 18446744073709551616) (hlen : n + 10 + f.s.length ≤ 140737488355328) :
    Calls Try.prog 14 #[.pointer (some ⟨p, 0, none⟩), .agg f.cells.toArray] w fun e w' => e = .returned (.tuple #[]) ∧ WrP w p A (l ++ fbytes f) w' := by
  go_enter Try.func14, Try.ntmps14
  simp only [Fd.cells]
  go_wp2_with fail
  refine absC (fun w1 => Blk w1 w.heap.size 32 f.cells ∧ Wr w1 p A n c l ∧ Wrote w w1 p A A) ⟨Blk.newAt rfl _ _, h.alloc _, Wrote.alloc _ _ _ _⟩ ?_
  rintro w1 ⟨k1, h1, d1⟩
  refine (kind_any f w1).mono ?_
  rintro e w2 ⟨rfl, f2⟩
  replace k1 := k1.below f2 k1.lt
  replace h1 := h1.below f2
  replace d1 := d1.trans (Wrote.below _ _ f2 p A)
  clear f2
  have c3 : w2.cell? ⟨w.heap.size, 3, none⟩ = some (.int .u64 f.n) := k1.cell 3
  have c4 : w2.cell? ⟨w.heap.size, 4, none⟩ = some (.string (strB f.s)) := k1.cell 4
  have hfb : fbytes f = (match fk f with | 0 => [UInt8.ofNat f.n] | 1 => le32 f.n | 2 => leb f.n | 3 => leb f.s.length ++ f.s | _ => f.s) := rfl
  have hk := fk_lt f
  generalize hK : fk f = K at *
  clear hK
  rcases K with _ | _ | _ | _ | _ | K
  · go_wp2_with fail
    rw [show (f.n : Int) % 256 = ((UInt8.ofNat f.n).toNat : Int) from by simp]
    refine (wU8_any p A n c l (UInt8.ofNat f.n) w2 h1 (by omega)).mono ?_
    rintro e w3 ⟨rfl, hp⟩
    go_wp2_with fail
    go_end0
    rw [hfb]
    exact ⟨rfl, hp.to d1⟩
  · go_wp2_with fail
    rw [show (f.n : Int) % 4294967296 = ((f.n % 4294967296 : Nat) : Int) from by omega]
    refine (wU32_any p A n c l (f.n % 4294967296) w2 (by omega) h1 (by omega)).mono ?_
    rintro e w3 ⟨rfl, hp⟩
    rw [le32_mod] at hp
    go_wp2_with fail
    go_end0
    rw [hfb]
    exact ⟨rfl, hp.to d1⟩
  · go_wp2_with fail
    refine (wUint_any p A n c l f.n w2 hn h1 (by omega)).mono ?_
    rintro e w3 ⟨rfl, hp⟩
    go_wp2_with fail
    go_end0
    rw [hfb]
    exact ⟨rfl, hp.to d1⟩
  · go_wp2_with fail
    refine (wText_any p A n c l f.s w2 h1 (by omega)).mono ?_
    rintro e w3 ⟨rfl, hp⟩
    go_wp2_with fail
    go_end0
    rw [hfb]
    exact ⟨rfl, by rw [← List.append_assoc]; exact hp.to d1⟩
  · have kc := fun w => run_conv_str T23 Try.underlying9 w f.s
    go_wp2_with fail
    refine (wRaw_any p A n c l _ f.s.length _ f.s _ (h1.below (below_conv w2 _ f.s)) (rd_conv w2 _ f.s) (by omega)).mono ?_
    rintro e w3 ⟨rfl, hp⟩
    go_wp2_with fail
    go_end0
    rw [hfb]
    exact ⟨rfl, hp.to (d1.trans (Wrote.below _ _ (below_conv w2 _ f.s) p A))⟩
  · omega
end Go.Proofs.Ytdblgjecbmebjaa
