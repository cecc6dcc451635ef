/- The laws' fields: what kind, write leave. Conditions: a field's number is a uint64, its text at most 2^46 bytes. The laws' rows of fields: long, written, size. Condition of 'written': all bytes together below 2^47. The document's Short, Wide, Text (of bytes): what they answer. Conditions: sizes. -/
import Derived.Test.YtdbjihpdfiipcaaGreatRdAll
namespace Go.Proofs.YtdbjihpdfiipcaaGreat
open Go.RowKit
structure Fd where
  kind : Int
  most : Int
  more : Int
  n : Nat
  s : List UInt8
def Fd.cells (f : Fd) : List Value := [.int .i64 f.kind, .int .i64 f.most, .int .i64 f.more, .int .u64 f.n, .string (strB f.s)]
def fk (f : Fd) : Nat := (f.kind % 65536).toNat % 5
def fbytes (f : Fd) : List UInt8 :=
  match fk f with
  | 0 => [UInt8.ofNat f.n]
  | 1 => le32 f.n
  | 2 => leb f.n
  | 3 => leb f.s.length ++ f.s
  | _ => f.s
theorem fk_lt (f : Fd) : fk f < 5 := Nat.mod_lt _ (by decide)
theorem bits_all_mod (n : Int) : bits .and .i64 n 65535 = n % 65536 := by
  have h127 : (BitVec.ofInt 64 65535).toNat = 2 ^ 16 - 1 := by decide
  have key : (BitVec.ofInt 64 n &&& BitVec.ofInt 64 65535).toNat = (n % ((2 ^ 64 : Nat) : Int)).toNat % 2 ^ 16 := by
    rw [BitVec.toNat_and, BitVec.toNat_ofInt, h127, Nat.and_two_pow_sub_one_eq_mod]
  show IntKind.i64.wrap ((BitVec.ofInt 64 n &&& BitVec.ofInt 64 65535).toNat : Nat) = n % 65536
  rw [key, IntKind.wrap_i64]
  omega
theorem bits_and255 (n : Int) : bits .and .i64 n 255 = n % 256 := by
  have h127 : (BitVec.ofInt 64 255).toNat = 2 ^ 8 - 1 := by decide
  have key : (BitVec.ofInt 64 n &&& BitVec.ofInt 64 255).toNat = (n % ((2 ^ 64 : Nat) : Int)).toNat % 2 ^ 8 := by
    rw [BitVec.toNat_and, BitVec.toNat_ofInt, h127, Nat.and_two_pow_sub_one_eq_mod]
  show IntKind.i64.wrap ((BitVec.ofInt 64 n &&& BitVec.ofInt 64 255).toNat : Nat) = n % 256
  rw [key, IntKind.wrap_i64]
  omega
theorem le32_mod (n : Nat) : le32 (n % 4294967296) = le32 n := by
  have h : ∀ a b : Nat, a % 256 = b % 256 → UInt8.ofNat a = UInt8.ofNat b := fun a b h => by
    apply UInt8.toNat_inj.1
    simpa using h
  unfold le32
  rw [h (n % 4294967296) n (by omega), h (n % 4294967296 / 256) (n / 256) (by omega), h (n % 4294967296 / 65536) (n / 65536) (by omega), h (n % 4294967296 / 16777216) (n / 16777216) (by omega)]
theorem Wrote.below (w w' : World) (h : Below w.heap.size w w') (p : Nat) (A : Option Addr) : Wrote w w' p A A := ⟨.inl rfl, (Off.of_all h).mono fun _ _ h => h.elim⟩
theorem Wr.below {w w' : World} (hb : Below w.heap.size w w') {p : Nat} {A : Option Addr} {n c : Nat} {l : List UInt8} (h : Wr w p A n c l) : Wr w' p A n c l := h.off (Off.of_all hb) id (fun _ _ => id)
end Go.Proofs.YtdbjihpdfiipcaaGreat
namespace Go.Proofs.YtdbjihpdfiipcaaGreat
open Go.RowKit
def RdF (w : World) (B : Nat) (A : Option Addr) (n : Nat) (fs : List Fd) : Prop :=
  fs.length = n ∧ (0 < n → ∃ b off, A = some ⟨b, off, none⟩ ∧ b < B ∧ ∀ j (hj : j < fs.length) i v, (fs[j].cells)[i]? = some v → w.cell? ⟨b, off + j * 5 + i, none⟩ = some v)
theorem RdF.below {w w' : World} {B : Nat} {A : Option Addr} {n : Nat} {fs : List Fd} (h : RdF w B A n fs) (hb : Below B w w') : RdF w' B A n fs :=
  ⟨h.1, fun hn => by
    obtain ⟨b, off, h1, h2, h3⟩ := h.2 hn
    exact ⟨b, off, h1, h2, fun j hj i v hv => (hb.cell (p := ⟨b, off + j * 5 + i, none⟩) h2).trans (h3 j hj i v hv)⟩⟩
theorem RdF.more {w : World} {B B' : Nat} {A : Option Addr} {n : Nat} {fs : List Fd} (h : RdF w B A n fs) (hB : B ≤ B') : RdF w B' A n fs :=
  ⟨h.1, fun hn => by
    obtain ⟨b, off, h1, h2, h3⟩ := h.2 hn
    exact ⟨b, off, h1, by omega, h3⟩⟩
/-- Field k of a row, cell by cell. -/
theorem RdF.at_ {w : World} {B : Nat} {A : Option Addr} {n : Nat} {fs : List Fd} (h : RdF w B A n fs) {k : Nat} (hk : k < n) : ∃ b off f, A = some ⟨b, off, none⟩ ∧ b < B ∧ fs[k]? = some f ∧
    w.cell? ⟨b, off + k * 5, none⟩ = some (.int .i64 f.kind) ∧ w.cell? ⟨b, off + k * 5 + 1, none⟩ = some (.int .i64 f.most) ∧ w.cell? ⟨b, off + k * 5 + 2, none⟩ = some (.int .i64 f.more) ∧ w.cell? ⟨b, off + k * 5 + 3, none⟩ = some (.int .u64 f.n) ∧ w.cell? ⟨b, off + k * 5 + 4, none⟩ = some (.string (strB f.s)) := by
  obtain ⟨b, off, h1, h2, h3⟩ := h.2 (by omega)
  have hl := h.1
  have hk' : k < fs.length := by omega
  exact ⟨b, off, fs[k], h1, h2, by simp [hk'], h3 k hk' 0 _ rfl, h3 k hk' 1 _ rfl, h3 k hk' 2 _ rfl, h3 k hk' 3 _ rfl, h3 k hk' 4 _ rfl⟩
def lsz (f : Fd) : Nat := 1 + f.s.length / 50
def longN (fs : List Fd) : Nat := (fs.map lsz).sum
theorem longN_take {fs : List Fd} {k : Nat} {f : Fd} (h : fs[k]? = some f) : longN (fs.take (k + 1)) = longN (fs.take k) + lsz f := by
  obtain ⟨hk, rfl⟩ := List.getElem?_eq_some_iff.1 h
  rw [List.take_succ_eq_append_getElem hk]
  simp only [longN, List.map_append, List.sum_append, List.map_cons, List.map_nil, List.sum_cons, List.sum_nil, Nat.add_zero]
theorem longN_take_le (fs : List Fd) (k : Nat) : longN (fs.take k) ≤ longN fs := by
  conv => rhs; rw [← List.take_append_drop k fs]
  simp only [longN, List.map_append, List.sum_append]
  omega
def fsz (f : Fd) : Nat := 10 + f.s.length
def totN (fs : List Fd) : Nat := (fs.map fsz).sum
theorem totN_take {fs : List Fd} {k : Nat} {f : Fd} (h : fs[k]? = some f) : totN (fs.take (k + 1)) = totN (fs.take k) + fsz f := by
  obtain ⟨hk, rfl⟩ := List.getElem?_eq_some_iff.1 h
  rw [List.take_succ_eq_append_getElem hk]
  simp only [totN, List.map_append, List.sum_append, List.map_cons, List.map_nil, List.sum_cons, List.sum_nil, Nat.add_zero]
theorem totN_take_le (fs : List Fd) (k : Nat) : totN (fs.take k) ≤ totN fs := by
  conv => rhs; rw [← List.take_append_drop k fs]
  simp only [totN, List.map_append, List.sum_append]
  omega
theorem totN_le (fs : List Fd) : totN fs ≤ 60 * longN fs := by
  induction fs with
  | nil => simp [totN]
  | cons f fs ih =>
    simp only [totN, longN, List.map_cons, List.sum_cons] at *
    have e1 : fsz f = 10 + f.s.length := rfl
    have e2 : lsz f = 1 + f.s.length / 50 := rfl
    omega
theorem fbytes_le (f : Fd) (hn : f.n < 18446744073709551616) (hs : f.s.length < 18446744073709551616) : (fbytes f).length ≤ fsz f := by
  unfold fbytes fsz
  have h1 := leb_length f.n hn
  have h2 := grp_le f.n hn
  have h3 := leb_length f.s.length hs
  have h4 := grp_le f.s.length hs
  split <;> simp [le32] <;> omega
def bytesOf (fs : List Fd) : List UInt8 := fs.flatMap fbytes
theorem bytesOf_take {fs : List Fd} {k : Nat} {f : Fd} (h : fs[k]? = some f) : bytesOf (fs.take (k + 1)) = bytesOf (fs.take k) ++ fbytes f := by
  obtain ⟨hk, rfl⟩ := List.getElem?_eq_some_iff.1 h
  rw [List.take_succ_eq_append_getElem hk]
  simp only [bytesOf, List.flatMap_append, List.flatMap_cons, List.flatMap_nil, List.append_nil]
def Fok (f : Fd) : Prop := f.n < 18446744073709551616 ∧ f.s.length < 18446744073709551616
theorem bytesOf_le (fs : List Fd) (h : ∀ f ∈ fs, Fok f) : (bytesOf fs).length ≤ totN fs := by
  induction fs with
  | nil => simp [bytesOf]
  | cons f fs ih =>
    have h1 := ih fun g hg => h g (List.mem_cons_of_mem _ hg)
    have h2 := h f List.mem_cons_self
    have h3 := fbytes_le f h2.1 h2.2
    simp only [bytesOf, totN, List.map_cons, List.sum_cons, List.flatMap_cons, List.length_append] at *
    omega
theorem WrP.len {w w' : World} {p : Nat} {A : Option Addr} {l : List UInt8} (h : WrP w p A l w') : ∃ A' c', Wr w' p A' l.length c' l ∧ Wrote w w' p A A' := h
theorem WrP.below {w w' : World} {p : Nat} {A : Option Addr} {l : List UInt8} (h : WrP w p A l w') {B : Nat} (hB : B ≤ w.heap.size) (hp : B ≤ p) (hA : ∀ k, isB A k → B ≤ k) : Below B w w' := by
  obtain ⟨_, _, _, h⟩ := h
  exact h.2.below hB fun k hk => by
    rcases hk with rfl | hk
    · exact hp
    · exact hA k hk
end Go.Proofs.YtdbjihpdfiipcaaGreat
namespace Go.Proofs.YtdbjihpdfiipcaaGreat
open Go.RowKit
set_option linter.unusedVariables false
def digs : Nat → Nat → List UInt8
  | 0, _ => []
  | k + 1, x => UInt8.ofNat (x % 128) :: digs k (x / 128)
theorem digs_length (k x : Nat) : (digs k x).length = k := by
  induction k generalizing x with
  | zero => rfl
  | succ k ih => rw [digs, List.length_cons, ih]
theorem digs_succ (k x : Nat) : digs (k + 1) x = digs k x ++ [UInt8.ofNat (x / 128 ^ k % 128)] := by
  induction k generalizing x with
  | zero => simp [digs]
  | succ k ih =>
    rw [digs, ih, digs, List.cons_append, Nat.div_div_eq_div_mul, Nat.pow_succ, Nat.mul_comm 128]
theorem digs_take (k j x : Nat) (h : j ≤ k) : (digs k x).take j = digs j x := by
  induction j generalizing k x with
  | zero => simp [digs]
  | succ j ih =>
    cases k with
    | zero => omega
    | succ k => rw [digs, List.take_succ_cons, ih k (x / 128) (by omega), digs]
theorem lebN_digs (k x : Nat) (h : x < 128 ^ (k + 1)) : lebN k x = (digs k x).map (· + 128) ++ [UInt8.ofNat (x / 128 ^ k % 128)] := by
  induction k generalizing x with
  | zero => simp [lebN, digs]; rw [Nat.mod_eq_of_lt (by simpa using h)]
  | succ k ih =>
    rw [lebN, ih (x / 128) (by rw [Nat.pow_succ] at h; omega), digs, List.map_cons, List.cons_append, Nat.div_div_eq_div_mul, Nat.pow_succ, Nat.mul_comm 128]
    congr 1
    apply UInt8.toNat_inj.1
    simp
theorem grp_digit (k : Nat) : ∀ (y d : Nat), y < 128 ^ k → 0 < d → d < 128 → y + d * 128 ^ k < 2 ^ 64 → grp (y + d * 128 ^ k) = k + 1 := by
  induction k with
  | zero =>
    intro y d hy h0 hd h
    rw [Nat.pow_zero] at hy ⊢
    rw [grp_small (by omega)]
  | succ k ih =>
    intro y d hy h0 hd h
    have h1 : 128 ≤ y + d * 128 ^ (k + 1) := by
      have : 1 * 128 ^ (k + 1) ≤ d * 128 ^ (k + 1) := Nat.mul_le_mul_right _ h0
      have h2 : 0 < 128 ^ k := Nat.pow_pos (by decide)
      rw [Nat.pow_succ] at this ⊢
      omega
    have e : (y + d * 128 ^ (k + 1)) / 128 = y / 128 + d * 128 ^ k := by
      rw [Nat.pow_succ, ← Nat.mul_assoc]
      omega
    rw [grp_step h1 h, e, ih (y / 128) d (by rw [Nat.pow_succ] at hy; omega) h0 hd (by rw [← e]; omega)]
theorem grp_bound (x : Nat) (h : x < 2 ^ 64) : x < 128 ^ grp x := by
  induction x using Nat.strongRecOn with
  | ind x ih =>
    by_cases hx : x < 128
    · rw [grp_small hx]; simpa using hx
    · rw [grp_step (by omega) h, Nat.pow_succ]
      have := ih (x / 128) (by omega) (by omega)
      omega
theorem bits_127u (n : Nat) (h : n < 18446744073709551616) : bits .and .u64 (n : Int) 127 = ((n % 128 : Nat) : Int) := by
  have := u64_and_nat n 127 h (by omega)
  rw [show ((127 : Nat) : Int) = 127 from rfl] at this
  rw [this]
  congr 1
  exact Nat.and_two_pow_sub_one_eq_mod n 7
theorem byte_add (b : UInt8) : ((b.toNat : Int) + 128) % 256 = ((b + 128).toNat : Int) := by
  simp
set_option maxRecDepth 100000 in
set_option maxHeartbeats 2000000 in
theorem refShort_any (x : Nat) (hx : x < 18446744073709551616) (w : World) :
    Calls Tryz.prog 57 #[.int .u64 x] w fun e w' => ∃ A' c', e = .returned (.slice A' (leb x).length c') ∧ OwnB w' w.heap.size 5 (.slice A' (leb x).length c') (leb x) ∧ Below w.heap.size w w' := by
  have hgl := grp_le x hx
  have hgp := grp_pos x hx
  have hlen := leb_length x hx
  go_enter Tryz.func57, Tryz.ntmps57
  go_wp2_with fail
  refine abs (fun w1 => Blk w1 w.heap.size 141 (bvs (digs 0 x ++ List.replicate (10 - 0) 0)) ∧ Below w.heap.size w w1) ⟨Blk.newAt rfl _ _, (Below.refl _ w).alloc (Nat.le_refl _) _⟩ ?_
  rintro w1 ⟨k1, f1⟩
  go_loopw [0, 4, 5] (fun v la i wr => ∃ k y m : Nat, i = .int .i64 k ∧ v = .int .u64 y ∧ la = .int .i64 m ∧ k ≤ 10 ∧ y = x / 128 ^ k ∧ m = grp (x % 128 ^ k) - 1 ∧ Blk wr w.heap.size 141 (bvs (digs k x ++ List.replicate (10 - k) 0)) ∧ Below w.heap.size w wr) (fun _ _ i _ => 10 - (intOf i).toNat)
  case atStart => exact ⟨0, x, 0, rfl, rfl, rfl, by omega, by simp, by simp [Nat.mod_one, grp], k1, f1⟩
  case round =>
    clear k1 f1
    obtain ⟨k, y, m, rfl, rfl, rfl, hk, hy, hm, k1, f1⟩ := hrel
    by_cases hlt : k < 10
    · have d1 : decide ((k : Int) < 10) = true := by simp; omega
      have b1 : (0 : Int) ≤ (k : Int) := by omega
      have b2 : (k : Int) < 10 := by omega
      have hy64 : y < 18446744073709551616 := by
        rw [hy]
        exact Nat.lt_of_le_of_lt (Nat.div_le_self _ _) hx
      have hb := bits_127u y hy64
      have hd : y % 128 < 256 := by omega
      have hdl := digs_length k x
      have c1 := k1.byteAt (i := k) (by simp [hdl]; omega)
      have z1 := k1.frozen k
      have hset : (digs k x ++ List.replicate (10 - k) (0 : UInt8)).set k (UInt8.ofNat (y % 128)) = digs (k + 1) x ++ List.replicate (10 - (k + 1)) 0 := by
        rw [List.set_append_right _ _ (by omega), hdl, Nat.sub_self, show 10 - k = (10 - (k + 1)) + 1 from by omega, List.replicate_succ, List.set_cons_zero, digs_succ, hy]
        simp
      have ho : ((UInt8.ofNat (y % 128)).toNat : Int) = ((y % 128 : Nat) : Int) := by simp; omega
      have k2 := k1.setByte k (UInt8.ofNat (y % 128))
      rw [hset] at k2
      unfold bv at k2
      rw [ho] at k2
      have hy2 : y / 128 = x / 128 ^ (k + 1) := by rw [hy, Nat.div_div_eq_div_mul, Nat.pow_succ]
      have hmod : x % 128 ^ (k + 1) = x % 128 ^ k + y % 128 * 128 ^ k := by
        rw [hy, Nat.pow_succ, Nat.mod_mul, Nat.mul_comm (x / 128 ^ k % 128)]
      generalize hD : y % 128 = D at *
      have HY := Lib.hid hy
      have HM := Lib.hid hm
      clear hy hm hset ho
      by_cases hpos : 0 < D
      · have d2 : decide ((0 : Int) < (D : Int)) = true := by simp; omega
        go_wp2_with fail
        go_roundw
        case rel => exact ⟨k + 1, y / 128, k, by go_num, by go_num, rfl, by omega, hy2, by rw [hmod, grp_digit k _ D (Nat.mod_lt _ (Nat.pow_pos (by decide))) hpos (by omega) (by rw [← hmod]; exact Nat.lt_of_le_of_lt (Nat.mod_le _ _) hx)]; simp, k2, f1.setCell (Nat.le_refl _) _⟩
        case measure => simp [intOf]; omega
      · have d2 : decide ((0 : Int) < (D : Int)) = false := by simp; omega
        go_wp2_with fail
        go_roundw
        case rel => exact ⟨k + 1, y / 128, m, by go_num, by go_num, rfl, by omega, hy2, by rw [hmod, show D = 0 from by omega, Nat.zero_mul, Nat.add_zero]; exact HM.out, k2, f1.setCell (Nat.le_refl _) _⟩
        case measure => simp [intOf]; omega
    · obtain rfl : k = 10 := by omega
      have d1 : decide (((10 : Nat) : Int) < 10) = false := rfl
      have hm2 : m + 1 = grp x := by
        rw [hm, Nat.mod_eq_of_lt (Nat.lt_of_lt_of_le hx (by decide))]
        omega
      have hleb : leb x = ((digs 10 x).take m).map (· + 128) ++ ((digs 10 x).drop m).take 1 := by
        rw [leb, show grp x - 1 = m from by omega, lebN_digs m x (by rw [hm2]; exact grp_bound x hx), digs_take 10 m x (by omega)]
        congr 1
        have h1 := digs_take 10 (m + 1) x (by omega)
        rw [List.take_add, digs_take 10 m x (by omega), digs_succ m] at h1
        exact (List.append_cancel_left h1).symm
      rw [Nat.sub_self, List.replicate_zero, List.append_nil] at k1
      have hDl := digs_length 10 x
      have HB := Lib.hid hleb
      have HD := Lib.hid hDl
      have hm10 : m < 10 := by omega
      have HLn := Lib.hid (hlen.trans hm2.symm)
      clear hleb hDl hm hy hgl hgp hlen hm2 d1
      generalize digs 10 x = D at *
      go_wp2_with fail
      go_loopw [6] (fun i wr => ∃ j : Nat, i = .int .i64 j ∧ j ≤ m ∧ Blk wr w.heap.size 141 (bvs ((D.take j).map (· + 128) ++ D.drop j)) ∧ Below w.heap.size w wr) (fun i _ => m - (intOf i).toNat)
      case atStart => exact ⟨0, rfl, Nat.zero_le _, by simpa using k1, f1⟩
      case round =>
        clear k1 f1
        obtain ⟨j, rfl, hj, k1, f1⟩ := hrel
        have hjl : ((D.take j).map (· + 128)).length = j := by rw [List.length_map, List.length_take, HD.out]; omega
        by_cases hlt : j < m
        · have d1 : decide ((j : Int) < (m : Int)) = true := by simp; omega
          have b1 : (0 : Int) ≤ (j : Int) := by omega
          have b2 : (j : Int) < 10 := by omega
          have hjD : j < D.length := by rw [HD.out]; omega
          have c1 := k1.byteAt (i := j) (by rw [List.length_append, List.length_drop, hjl, HD.out]; omega)
          have e1 : at8 ((D.take j).map (· + 128) ++ D.drop j) j = D[j] := by
            unfold at8
            rw [List.getD_eq_getElem?_getD, List.getElem?_append_right (by omega), hjl, Nat.sub_self, List.getElem?_drop]
            simp [hjD]
          rw [e1] at c1
          have z1 := k1.frozen j
          have k2 := k1.setByte j (D[j] + 128)
          have hset : ((D.take j).map (· + 128) ++ D.drop j).set j (D[j] + 128) = (D.take (j + 1)).map (· + 128) ++ D.drop (j + 1) := by
            rw [List.set_append_right _ _ (by omega), hjl, Nat.sub_self, List.drop_eq_getElem_cons hjD, List.set_cons_zero, List.take_succ_eq_append_getElem hjD, List.map_append, List.map_cons, List.map_nil, List.append_assoc, List.singleton_append]
          rw [hset] at k2
          unfold bv at k2
          rw [← byte_add] at k2
          clear e1 hset
          have hc8 := D[j].toNat_lt
          generalize D[j].toNat = C at *
          go_wp2_with fail
          go_roundw
          case rel => exact ⟨j + 1, by go_num, by omega, k2, f1.setCell (Nat.le_refl _) _⟩
          case measure => simp [intOf]; omega
        · obtain rfl : j = m := by omega
          have d1 : decide ((j : Int) < (j : Int)) = false := by simp
          have rr := (k1.rdB (n := 10) (by rw [List.length_append, List.length_drop, hjl, HD.out]; omega))
          have rt : RdB wr wr.heap.size (some ⟨w.heap.size, 0, none⟩) (j + 1) (leb x) := by
            have ht : ((D.take j).map (· + 128) ++ D.drop j).take (j + 1) = leb x := by
              rw [HB.out, List.take_append, List.take_of_length_le (by omega), hjl, Nat.add_sub_cancel_left]
            obtain ⟨A', e', r'⟩ := rr.sliced (i := 0) (k := j + 1) (c := 10) (by omega) (by omega) (Nat.le_refl _)
            rw [ht] at r'
            simp only [sliced, Nat.sub_zero] at e'
            injection e' with e1 _ _
            rw [← e1] at r'
            simpa [Addr.add] using r'
          have b1 : (j : Int) + 1 ≤ 10 := by omega
          have b2 : (0 : Int) ≤ (j : Int) + 1 := by omega
          clear rr
          go_wp2_with (at_builtin; go_must (refine appendR T23 rfl rfl rfl (OwnB.of_blk (l := []) (Blk.of_new wr _ _) (Nat.le_refl _) rfl (by simp [maxLen])) rfl (rt.below ((Below.refl _ wr).alloc (Nat.le_refl _) _)) (by omega) ((Below.refl _ wr).alloc (Nat.le_refl _) _) (Nat.le_refl _) ?_); intro A3 c3 w3 o3 f3 _)
          go_ret
          rw [HLn.out]
          refine ⟨A3, c3, by simp, by simpa using o3.base_le f1.size, f1.trans (f3.mono f1.size)⟩
end Go.Proofs.YtdbjihpdfiipcaaGreat
