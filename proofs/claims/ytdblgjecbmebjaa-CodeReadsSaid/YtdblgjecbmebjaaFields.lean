/- The laws' rows of fields: long, written, size. Condition of 'written': all bytes together below 2^47. -/
import Derived.Test.YtdblgjecbmebjaaField
namespace Go.Proofs.Ytdblgjecbmebjaa
open Go.RowKit
def RdF (w : World) (B : Nat) (A : Option Addr) (n : Nat) (fs : List Fd) : Prop :=
  fs.length = n ∧ (0 < n → ∃ b off, A = some ⟨b, off, none⟩ ∧ b < B ∧ ∀ j (hj : j < fs.length) i v, (fs[j].cells)[i]? = some v → w.cell? ⟨b, off + j * 5 + i, none⟩ = some v)
theorem RdF.below {w w' : World} {B : Nat} {A : Option Addr} {n : Nat} {fs : List Fd} (h : RdF w B A n fs) (hb : Below B w w') : RdF w' B A n fs :=
  ⟨h.1, fun hn => by
    obtain ⟨b, off, h1, h2, h3⟩ := h.2 hn
    exact ⟨b, off, h1, h2, fun j hj i v hv => (hb.cell (p := ⟨b, off + j * 5 + i, none⟩) h2).trans (h3 j hj i v hv)⟩⟩
theorem RdF.more {w : World} {B B' : Nat} {A : Option Addr} {n : Nat} {fs : List Fd} (h : RdF w B A n fs) (hB : B ≤ B') : RdF w B' A n fs :=
  ⟨h.1, fun hn => by
    obtain ⟨b, off, h1, h2, h3⟩ := h.2 hn
    exact ⟨b, off, h1, by omega, h3⟩⟩
/-- Field k of a row, cell by cell. -/
theorem RdF.at_ {w : World} {B : Nat} {A : Option Addr} {n : Nat} {fs : List Fd} (h : RdF w B A n fs) {k : Nat} (hk : k < n) : ∃ b off f, A = some ⟨b, off, none⟩ ∧ b < B ∧ fs[k]? = some f ∧
    w.cell? ⟨b, off + k * 5, none⟩ = some (.int .i64 f.kind) ∧ w.cell? ⟨b, off + k * 5 + 1, none⟩ = some (.int .i64 f.most) ∧ w.cell? ⟨b, off + k * 5 + 2, none⟩ = some (.int .i64 f.more) ∧ w.cell? ⟨b, off + k * 5 + 3, none⟩ = some (.int .u64 f.n) ∧ w.cell? ⟨b, off + k * 5 + 4, none⟩ = some (.string (strB f.s)) := by
  obtain ⟨b, off, h1, h2, h3⟩ := h.2 (by omega)
  have hl := h.1
  have hk' : k < fs.length := by omega
  exact ⟨b, off, fs[k], h1, h2, by simp [hk'], h3 k hk' 0 _ rfl, h3 k hk' 1 _ rfl, h3 k hk' 2 _ rfl, h3 k hk' 3 _ rfl, h3 k hk' 4 _ rfl⟩
def lsz (f : Fd) : Nat := 1 + f.s.length / 50
def longN (fs : List Fd) : Nat := (fs.map lsz).sum
theorem longN_take {fs : List Fd} {k : Nat} {f : Fd} (h : fs[k]? = some f) : longN (fs.take (k + 1)) = longN (fs.take k) + lsz f := by
  obtain ⟨hk, rfl⟩ := List.getElem?_eq_some_iff.1 h
  rw [List.take_succ_eq_append_getElem hk]
  simp only [longN, List.map_append, List.sum_append, List.map_cons, List.map_nil, List.sum_cons, List.sum_nil, Nat.add_zero]
theorem longN_take_le (fs : List Fd) (k : Nat) : longN (fs.take k) ≤ longN fs := by
  conv => rhs; rw [← List.take_append_drop k fs]
  simp only [longN, List.map_append, List.sum_append]
  omega
set_option maxRecDepth 100000 in
set_option maxHeartbeats 1000000 in
theorem long_any (A : Option Addr) (n c : Nat) (fs : List Fd) (B : Nat) (w : World) (h : RdF w B A n fs) (hs : ∀ f ∈ fs, f.s.length ≤ maxLen) (hn : n ≤ 9223372036854775807) :
    Calls Try.prog 11 #[.slice A n c] w fun e w' => e = .returned (.bool (decide (1000 < longN fs))) ∧ w' = w := by
  have hl := h.1
  go_enter Try.func11, Try.ntmps11
  go_wp2_with fail
  go_loopw [3, 4] (fun v i wr => ∃ k : Nat, i = .int .i64 k ∧ v = .int .i64 (longN (fs.take k) : Nat) ∧ k ≤ n ∧ longN (fs.take k) ≤ 1000 ∧ wr = w) (fun _ i _ => n - (intOf i).toNat)
  case atStart => exact ⟨0, rfl, rfl, Nat.zero_le _, by simp [longN], rfl⟩
  case round =>
    obtain ⟨k, rfl, rfl, hk, hv, rfl⟩ := hrel
    by_cases hlt : k < n
    · have d1 : decide ((k : Int) < (n : Int)) = true := by simp; omega
      have b1 : (0 : Int) ≤ (k : Int) := by omega
      have b2 : (k : Int) < (n : Int) := by omega
      obtain ⟨b, off, f, rfl, hb, hf, e0, e1, e2, e3, e4⟩ := h.at_ hlt
      have hst := longN_take hf
      have hsl := hs f (List.mem_of_getElem? hf)
      have hsz := strB_size f.s
      replace hsl : f.s.length ≤ 9223372036854775807 := by simp only [maxLen] at hsl; omega
      have hle := longN_take_le fs (k + 1)
      unfold lsz at hst
      generalize hS : f.s.length = S at *
      generalize hV : longN (fs.take k) = V at *
      generalize hV2 : longN (fs.take (k + 1)) = V2 at *
      by_cases h1k : 1000 < V2
      · have d2 : decide ((1000 : Int) < (V : Int) + (1 + (S : Int) / 50)) = true := by simp; omega
        go_wp2_with fail
        go_ret
        exact ⟨by simp; omega, rfl⟩
      · have d2 : decide ((1000 : Int) < (V : Int) + (1 + (S : Int) / 50)) = false := by simp; omega
        go_wp2_with fail
        go_roundw
        case rel => exact ⟨k + 1, by go_num, by rw [hV2]; exact congrArg (Value.int .i64) (by omega), by omega, by omega, by trivial⟩
        case measure => simp [intOf]; omega
    · obtain rfl : k = n := by omega
      have d1 : decide ((k : Int) < (k : Int)) = false := by simp
      go_wp2_with fail
      go_ret
      rw [List.take_of_length_le (by omega)] at hv
      exact ⟨by simp; omega, rfl⟩
def fsz (f : Fd) : Nat := 10 + f.s.length
def totN (fs : List Fd) : Nat := (fs.map fsz).sum
theorem totN_take {fs : List Fd} {k : Nat} {f : Fd} (h : fs[k]? = some f) : totN (fs.take (k + 1)) = totN (fs.take k) + fsz f := by
  obtain ⟨hk, rfl⟩ := List.getElem?_eq_some_iff.1 h
  rw [List.take_succ_eq_append_getElem hk]
  simp only [totN, List.map_append, List.sum_append, List.map_cons, List.map_nil, List.sum_cons, List.sum_nil, Nat.add_zero]
theorem totN_take_le (fs : List Fd) (k : Nat) : totN (fs.take k) ≤ totN fs := by
  conv => rhs; rw [← List.take_append_drop k fs]
  simp only [totN, List.map_append, List.sum_append]
  omega
theorem totN_le (fs : List Fd) : totN fs ≤ 60 * longN fs := by
  induction fs with
  | nil => simp [totN]
  | cons f fs ih =>
    simp only [totN, longN, List.map_cons, List.sum_cons] at *
    have e1 : fsz f = 10 + f.s.length := rfl
    have e2 : lsz f = 1 + f.s.length / 50 := rfl
    omega
theorem fbytes_le (f : Fd) (hn : f.n < 18446744073709551616) (hs : f.s.length < 18446744073709551616) : (fbytes f).length ≤ fsz f := by
  unfold fbytes fsz
  have h1 := leb_length f.n hn
  have h2 := grp_le f.n hn
  have h3 := leb_length f.s.length hs
  have h4 := grp_le f.s.length hs
  split <;> simp [le32] <;> omega
def bytesOf (fs : List Fd) : List UInt8 := fs.flatMap fbytes
theorem bytesOf_take {fs : List Fd} {k : Nat} {f : Fd} (h : fs[k]? = some f) : bytesOf (fs.take (k + 1)) = bytesOf (fs.take k) ++ fbytes f := by
  obtain ⟨hk, rfl⟩ := List.getElem?_eq_some_iff.1 h
  rw [List.take_succ_eq_append_getElem hk]
  simp only [bytesOf, List.flatMap_append, List.flatMap_cons, List.flatMap_nil, List.append_nil]
def Fok (f : Fd) : Prop := f.n < 18446744073709551616 ∧ f.s.length < 18446744073709551616
theorem bytesOf_le (fs : List Fd) (h : ∀ f ∈ fs, Fok f) : (bytesOf fs).length ≤ totN fs := by
  induction fs with
  | nil => simp [bytesOf]
  | cons f fs ih =>
    have h1 := ih fun g hg => h g (List.mem_cons_of_mem _ hg)
    have h2 := h f List.mem_cons_self
    have h3 := fbytes_le f h2.1 h2.2
    simp only [bytesOf, totN, List.map_cons, List.sum_cons, List.flatMap_cons, List.length_append] at *
    omega
theorem WrP.len {w w' : World} {p : Nat} {A : Option Addr} {l : List UInt8} (h : WrP w p A l w') : ∃ A' c', Wr w' p A' l.length c' l ∧ Wrote w w' p A A' := h
theorem WrP.below {w w' : World} {p : Nat} {A : Option Addr} {l : List UInt8} (h : WrP w p A l w') {B : Nat} (hB : B ≤ w.heap.size) (hp : B ≤ p) (hA : ∀ k, isB A k → B ≤ k) : Below B w w' := by
  obtain ⟨_, _, _, h⟩ := h
  exact h.2.below hB fun k hk => by
    rcases hk with rfl | hk
    · exact hp
    · exact hA k hk
set_option maxRecDepth 100000 in
set_option maxHeartbeats 1000000 in
theorem written_any (A : Option Addr) (n c : Nat) (fs : List Fd) (w : World) (h : RdF w w.heap.size A n fs) (hok : ∀ f ∈ fs, Fok f) (ht : totN fs ≤ 140737488355328) (hn : n ≤ 9223372036854775807) :
    Calls Try.prog 19 #[.slice A n c] w fun e w' => ∃ A' c', e = .returned (.slice A' (bytesOf fs).length c') ∧ OwnB w' w.heap.size 5 (.slice A' (bytesOf fs).length c') (bytesOf fs) ∧ Below w.heap.size w w' := by
  have hl := h.1
  have hbl := bytesOf_le fs hok
  go_enter Try.func19, Try.ntmps19
  go_wp2_with fail
  refine (newWriter_any w).mono ?_
  rintro e w1 ⟨rfl, h1, f1⟩
  go_wp2_with fail
  go_loopw [4] (fun i wr => ∃ k : Nat, i = .int .i64 k ∧ k ≤ n ∧ WrP w1 w.heap.size none (bytesOf (fs.take k)) wr) (fun i _ => n - (intOf i).toNat)
  case atStart => exact ⟨0, rfl, Nat.zero_le _, none, 0, h1, Wrote.refl _ _ _⟩
  case round =>
    obtain ⟨k, rfl, hk, hp⟩ := hrel
    by_cases hlt : k < n
    · have d1 : decide ((k : Int) < (n : Int)) = true := by simp; omega
      have b1 : (0 : Int) ≤ (k : Int) := by omega
      have b2 : (k : Int) < (n : Int) := by omega
      have hr := (h.below f1).below (hp.below f1.size (Nat.le_refl _) (fun k hk => by obtain ⟨x, hx, _⟩ := hk; cases hx))
      obtain ⟨b, off, f, rfl, hb, hf, e0, e1, e2, e3, e4⟩ := hr.at_ hlt
      have hst := bytesOf_take hf
      have hff := hok f (List.mem_of_getElem? hf)
      have ht1 := totN_take hf
      have ht2 := totN_take_le fs (k + 1)
      have ht3 := bytesOf_le (fs.take k) (fun g hg => hok g (List.mem_of_mem_take hg))
      unfold fsz at ht1
      obtain ⟨A1, c1, h2, d2⟩ := hp
      go_wp2_with fail
      refine (write_any w.heap.size A1 _ c1 _ f wr h2 hff.1 (by omega)).mono ?_
      rintro e w3 ⟨rfl, hp⟩
      go_wp2_with fail
      go_roundw
      case rel => exact ⟨k + 1, by go_num, by omega, by rw [hst]; exact hp.to d2⟩
      case measure => simp [intOf]; omega
    · obtain rfl : k = n := by omega
      have d1 : decide ((k : Int) < (k : Int)) = false := by simp
      rw [List.take_of_length_le (by omega)] at hp
      have fb := hp.below f1.size (Nat.le_refl _) (fun k hk => by obtain ⟨x, hx, _⟩ := hk; cases hx)
      obtain ⟨A1, c1, h2, d2⟩ := hp
      go_wp2_with fail
      refine (bytes_any w.heap.size A1 _ c1 _ wr h2 (by omega)).mono ?_
      rintro e w3 ⟨A', c', rfl, o3, f3⟩
      go_wp2_with fail
      go_ret
      exact ⟨A', c', rfl, o3.base_le (Nat.le_trans f1.size fb.size), (f1.trans fb).trans (f3.mono (Nat.le_trans f1.size fb.size))⟩
set_option maxRecDepth 100000 in
set_option maxHeartbeats 1000000 in
theorem size_any (f : Fd) (w : World) (hok : Fok f) (ht : fsz f ≤ 140737488355328) :
    Calls Try.prog 36 #[.agg f.cells.toArray] w fun e w' => e = .returned (.int .i64 ((fbytes f).length : Nat)) ∧ Below w.heap.size w w' := by
  have hbl := fbytes_le f hok.1 hok.2
  unfold fsz at ht hbl
  go_enter Try.func36, Try.ntmps36
  simp only [Fd.cells]
  go_wp2_with fail
  refine absC (fun w1 => Blk w1 w.heap.size 32 f.cells ∧ Below w.heap.size w w1) ⟨Blk.newAt rfl _ _, (Below.refl _ _).alloc (Nat.le_refl _) _⟩ ?_
  rintro w1 ⟨k1, f1⟩
  refine (newWriter_any w1).mono ?_
  rintro e w2 ⟨rfl, h2, f2⟩
  replace k1 := k1.below f2 k1.lt
  have hs2 := f1.size
  replace f1 := f1.trans (f2.mono f1.size)
  have hs1 := f2.size
  have hs0 := k1.lt
  have c0 : w2.cell? ⟨w.heap.size, 0, none⟩ = some (.int .i64 f.kind) := k1.cell 0
  have c1 : w2.cell? ⟨w.heap.size, 1, none⟩ = some (.int .i64 f.most) := k1.cell 1
  have c2 : w2.cell? ⟨w.heap.size, 2, none⟩ = some (.int .i64 f.more) := k1.cell 2
  have c3 : w2.cell? ⟨w.heap.size, 3, none⟩ = some (.int .u64 f.n) := k1.cell 3
  have c4 : w2.cell? ⟨w.heap.size, 4, none⟩ = some (.string (strB f.s)) := k1.cell 4
  go_wp2_with fail
  refine (write_any w1.heap.size none 0 0 [] f w2 h2 hok.1 (by omega)).mono ?_
  rintro e w3 ⟨rfl, hp⟩
  have fb := hp.below (B := w.heap.size) f1.size hs2 (fun k hk => by obtain ⟨x, hx, _⟩ := hk; cases hx)
  obtain ⟨A1, c1, h3, d3⟩ := hp
  rw [List.nil_append] at h3
  go_wp2_with fail
  refine (bytes_any w1.heap.size A1 _ c1 _ w3 h3 (by omega)).mono ?_
  rintro e w4 ⟨A', c', rfl, o3, f3⟩
  go_wp2_with fail
  go_ret
  exact ⟨rfl, (f1.trans fb).trans (f3.mono (Nat.le_trans f1.size fb.size))⟩
end Go.Proofs.Ytdblgjecbmebjaa
