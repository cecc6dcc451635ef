/- reader.small; copy into a token's mac. Condition: none beyond sizes. token.Read: what it answers. Condition: 2^40 bytes at most. -/
import Derived.Test.YtgefbgjgcjiceaaRd6
import Derived.Test.YtgefbgjgcjiceaaTokIssue
import Derived.Laws.CopyRow
import Derived.Test.YtgefbgjgcjiceaaTokMay
import Derived.Deep.DeepCutAuto
import Derived.Lib.SlBuf
namespace Go.Proofs.Ytgefbgjgcjiceaa
open Go.RowKit
set_option linter.unusedVariables false
set_option linter.unusedSimpArgs false
theorem takeS_len {α : Type} (f : List UInt8 → Option (α × Nat)) (z : α) (s : RS) : (takeS f z s).2.l.length ≤ s.l.length := by
  unfold takeS
  split
  · exact Nat.le_refl _
  · cases f s.l with
    | none => exact Nat.le_refl _
    | some p => simp
/-- A number of a node. -/
def smallS (s : RS) : Nat × RS := if 9 < (takeS findShort 0 s).1 then (0, ⟨(takeS findShort 0 s).2.l, true⟩) else ((takeS findShort 0 s).1, (takeS findShort 0 s).2)
theorem smallS_len (s : RS) : (smallS s).2.l.length ≤ s.l.length := by
  unfold smallS
  split
  · exact takeS_len findShort 0 s
  · exact takeS_len findShort 0 s
theorem smallS_le (s : RS) : (smallS s).1 ≤ 9 := by
  unfold smallS
  split
  · exact Nat.zero_le _
  · omega
set_option maxRecDepth 100000 in
set_option maxHeartbeats 1000000 in
theorem small_any (p b : Nat) (s : RS) (w : World) (h : Rr w p b s) (hp : p < w.heap.size) :
    Calls Try.prog 46 #[.agg #[.pointer (some ⟨p, 0, none⟩)]] w fun e w' => e = .returned (.int .i64 ((smallS s).1 : Nat)) ∧ Rr w' p b (smallS s).2 ∧ Off (fun k => k = p) w w' := by
  have hs : smallS s = if 9 < (takeS findShort 0 s).1 then (0, ⟨(takeS findShort 0 s).2.l, true⟩) else ((takeS findShort 0 s).1, (takeS findShort 0 s).2) := rfl
  have HS := Lib.hid hs; clear hs
  have oA := (Off.refl (fun k => k = p) w).alloc (.cells #[.pointer (some ⟨p, 0, none⟩)] 71)
  have hA := h.off ((Off.refl (fun _ => False) w).alloc (.cells #[.pointer (some ⟨p, 0, none⟩)] 71)) id id
  have kA : Blk (w.alloc (.cells #[.pointer (some ⟨p, 0, none⟩)] 71)) w.heap.size 71 [.pointer (some ⟨p, 0, none⟩)] := Blk.newAt rfl _ _
  go_enter Try.func46, Try.ntmps46
  go_upto_region 1 with fail
  refine abs (fun w1 => Rr w1 p b s ∧ Blk w1 w.heap.size 71 [.pointer (some ⟨p, 0, none⟩)] ∧ Off (fun k => k = p) w w1) ⟨hA, kA, oA⟩ ?_
  clear hA kA oA h
  rintro w1 ⟨h, k, o1⟩
  have q := k.cell 0
  go_wp2_with fail
  refine (rUint_any p b s w1 h).mono ?_
  rintro e w2 ⟨rfl, h2, o2⟩
  have k2 := k.off o2 (by omega)
  replace o1 := o1.trans o2 fun i _ hi => hi
  clear o2 q k h
  have q := k2.cell 0
  have hv : (takeS findShort 0 s).1 < 18446744073709551616 := by
    unfold takeS
    split
    · show 0 < _
      omega
    · cases hf : findShort s.l with
      | none =>
        show 0 < _
        omega
      | some yk => exact (findShort_le (y := yk.1) (k := yk.2) hf).2.2
  generalize takeS findShort 0 s = X at *
  obtain ⟨v, s2⟩ := X
  simp only at *
  by_cases h9 : 9 < v
  · have d1 : decide ((9 : Int) < (v : Int)) = true := by simp; omega
    go_wp2_with fail
    refine (fail_any p b s2 w2 h2).mono ?_
    rintro e w3 ⟨rfl, h3, o3⟩
    go_wp2_with fail
    go_ret
    rw [HS.out, if_pos h9]
    exact ⟨rfl, h3, o1.trans o3 fun i _ hi => hi⟩
  · have d1 : decide ((9 : Int) < (v : Int)) = false := by simp; omega
    have hw : IntKind.i64.wrap (v : Int) = (v : Int) := IntWalk.i64_in _ (by omega)
    go_wp2_with fail
    go_ret
    rw [HS.out, if_neg h9]
    exact ⟨rfl, h2, o1⟩
set_option maxRecDepth 100000 in
theorem copy_mac {w : World} {g base : Nat} {t : Tk} (k : Blk w g 31 t.cells) (hm : t.mac.length = 32) {A : Option Addr} {n c : Nat} {l : List UInt8} (ow : OwnB w base 5 (.slice A n c) l) (hl : l.length = 0 ∨ l.length = 32) (ty : TypeId) :
    ∃ w', (Builtin.copy_ #[22, 22] ty #[.slice (some ⟨g, 8, none⟩) 32 32, .slice A n c]).run Try.prog w = .ok (goInt n) w' ∧ Blk w' g 31 (t.sign (if l = [] then t.mac else l)).cells ∧ w.grownBy w' (some g) := by
  have hn := ow.len
  have hc40 := t.len hm
  have row : ∀ a, A = some a → ∃ w', (Builtin.copy_ #[22, 22] ty #[.slice (some ⟨g, 8, none⟩) 32 32, .slice A n c]).run Try.prog w = .ok (goInt n) w' ∧ Blk w' g 31 (t.sign (if l = [] then t.mac else l)).cells ∧ w.grownBy w' (some g) := by
    rintro a rfl
    have hsrc : ∀ j v, (bvs l)[j]? = some v → w.cell? (a.add j) = some v := by
      intro j v hj
      have hjl : j < l.length := by
        have := (List.getElem?_eq_some_iff.1 hj).1
        simpa [bvs] using this
      obtain ⟨b, off, e, _, hcl⟩ := ow.rd.2 (by omega)
      injection e with e
      subst e
      rw [show (⟨b, off, none⟩ : Addr).add j = ⟨b, off + j, none⟩ from by unfold Addr.add; split <;> simp_all, hcl j hjl]
      rw [← hj]
      simp [bvs, hjl]
    have r := run_copy_row Try.prog w 22 22 ty 5 g 8 32 32 a n c t.cells.toArray 31 (bvs l) Try.underlying22 (by kernel_rfl) k (by rw [bvs_length, hn]; rcases hl with h | h <;> rw [hn] at h <;> subst h <;> rfl) hsrc (by rw [bvs_length]; simp; omega) (bvs_one l)
    rw [bvs_length, hn] at r
    refine ⟨_, r, ?_, ?_⟩
    · have hb := setRow_heap w g t.cells.toArray (t.cells.toArray.toList.take 8 ++ bvs l ++ t.cells.toArray.toList.drop (8 + n)).toArray 31 (0, 0) k
      unfold Blk
      rw [hb]
      congr 3
      rcases hl with h0 | h0
      · have e0 := List.eq_nil_of_length_eq_zero h0
        subst e0
        obtain rfl : n = 0 := by simpa using hn.symm
        simp [bvs, Tk.sign]
      · have hne : l ≠ [] := by intro e; rw [e] at h0; cases h0
        rw [if_neg hne]
        obtain rfl : n = 32 := by omega
        have h8 : t.cells.take 8 = [.string (strB t.ns), .string (strB t.sa), .int .u64 (t.uid : Int), .int .i64 t.host, .int .u32 (t.addr : Int), .int .u64 (t.born : Int), .int .u64 (t.till : Int), .int .u64 (t.key : Int)] := rfl
        have h40 : t.cells.drop 40 = [] := List.drop_eq_nil_of_le (by omega)
        simp only [List.toList_toArray]
        rw [h8, h40, List.append_nil]
        rfl
    · exact ⟨rfl, rfl, rfl, by simp, fun i _ hi => setRow_other w g i _ (fun e => hi (by rw [e]))⟩
  cases A with
  | some a => exact row a rfl
  | none =>
    have h0 : n = 0 ∧ c = 0 := by
      rcases ow.2 with ⟨h1, _⟩ | ⟨g', cap, cur, h1, _⟩
      · injection h1 with _ h2 h3
        exact ⟨h2, h3⟩
      · injection h1 with h2; cases h2
    obtain ⟨rfl, rfl⟩ := h0
    have e0 : l = [] := List.eq_nil_of_length_eq_zero hn
    subst e0
    refine ⟨w, run_copy_nil Try.prog w 22 22 ty 5 ⟨g, 8, none⟩ 32 32 Try.underlying22 (by kernel_rfl), ?_, ?_⟩
    · simpa [Tk.sign] using k
    · exact ⟨rfl, rfl, rfl, Nat.le_refl _, fun _ _ _ => rfl⟩
end Go.Proofs.Ytgefbgjgcjiceaa
namespace Go.Proofs.Ytgefbgjgcjiceaa
open Go.RowKit
set_option linter.unusedVariables false
set_option linter.unusedSimpArgs false
def rA0 (l : List UInt8) : Nat × RS := takeS findU8 0 ⟨l, false⟩
def rA1 (l : List UInt8) : List UInt8 × RS := takeS (findText 20) [] (rA0 l).2
def rA2 (l : List UInt8) : List UInt8 × RS := takeS (findText 20) [] (rA1 l).2
def rA3 (l : List UInt8) : Nat × RS := takeS findShort 0 (rA2 l).2
def rA4 (l : List UInt8) : Nat × RS := smallS (rA3 l).2
def rA5 (l : List UInt8) : Nat × RS := takeS findU32 0 (rA4 l).2
def rA6 (l : List UInt8) : Nat × RS := takeS findShort 0 (rA5 l).2
def rA7 (l : List UInt8) : Nat × RS := takeS findShort 0 (rA6 l).2
def rA8 (l : List UInt8) : Nat × RS := takeS findShort 0 (rA7 l).2
def rA9 (l : List UInt8) : List UInt8 × RS := takeS (findRaw 32) [] (rA8 l).2
def readT (l : List UInt8) : Tk := ⟨(rA1 l).1, (rA2 l).1, (rA3 l).1, ((rA4 l).1 : Int), (rA5 l).1, (rA6 l).1, (rA7 l).1, (rA8 l).1, if (rA9 l).1 = [] then List.replicate 32 0 else (rA9 l).1⟩
def readE (l : List UInt8) : Bool := (rA9 l).2.st || !(rA9 l).2.l.isEmpty
theorem rA_len (l : List UInt8) : (rA0 l).2.l.length ≤ l.length ∧ (rA1 l).2.l.length ≤ l.length ∧ (rA8 l).2.l.length ≤ l.length := by
  have h0 : (rA0 l).2.l.length ≤ l.length := takeS_len findU8 0 ⟨l, false⟩
  have h1 : (rA1 l).2.l.length ≤ _ := takeS_len (findText 20) [] (rA0 l).2
  have h2 : (rA2 l).2.l.length ≤ _ := takeS_len (findText 20) [] (rA1 l).2
  have h3 : (rA3 l).2.l.length ≤ _ := takeS_len findShort 0 (rA2 l).2
  have h4 : (rA4 l).2.l.length ≤ _ := smallS_len (rA3 l).2
  have h5 : (rA5 l).2.l.length ≤ _ := takeS_len findU32 0 (rA4 l).2
  have h6 : (rA6 l).2.l.length ≤ _ := takeS_len findShort 0 (rA5 l).2
  have h7 : (rA7 l).2.l.length ≤ _ := takeS_len findShort 0 (rA6 l).2
  have h8 : (rA8 l).2.l.length ≤ _ := takeS_len findShort 0 (rA7 l).2
  omega
theorem takeS_short (s : RS) : (takeS findShort 0 s).1 < 18446744073709551616 := by
  unfold takeS
  split
  · show 0 < _
    omega
  · cases hf : findShort s.l with
    | none =>
      show 0 < _
      omega
    | some yk => exact (findShort_le (y := yk.1) (k := yk.2) hf).2.2
theorem takeS_u32 (s : RS) : (takeS findU32 0 s).1 < 4294967296 := by
  unfold takeS
  split
  · show 0 < _
    omega
  · cases hf : findU32 s.l with
    | none =>
      show 0 < _
      omega
    | some yk =>
      unfold findU32 at hf
      split at hf
      · rename_i a b c d _ _
        injection hf with hf
        subst hf
        have := a.toNat_lt
        have := b.toNat_lt
        have := c.toNat_lt
        have := d.toNat_lt
        show _ + _ < _
        omega
      · cases hf
theorem takeS_text (s : RS) : (takeS (findText 20) [] s).1.length ≤ 20 := by
  unfold takeS
  split
  · show 0 ≤ 20
    omega
  · cases hf : findText 20 s.l with
    | none =>
      show 0 ≤ 20
      omega
    | some yk =>
      unfold findText at hf
      split at hf
      · cases hf
      · split at hf
        · cases hf
        · rename_i x k _ hx
          injection hf with hf
          subst hf
          show ((s.l.drop k).take x).length ≤ 20
          rw [List.length_take]
          omega
theorem takeS_raw (s : RS) : (takeS (findRaw 32) [] s).1.length = 0 ∨ (takeS (findRaw 32) [] s).1.length = 32 := by
  unfold takeS
  split
  · exact .inl rfl
  · cases hf : findRaw 32 s.l with
    | none => exact .inl rfl
    | some yk =>
      unfold findRaw at hf
      split at hf
      · cases hf
      · rename_i hx
        injection hf with hf
        subst hf
        right
        show (s.l.take _).length = 32
        rw [List.length_take]
        omega
theorem readT_ok (l : List UInt8) : (readT l).ok ∧ (readT l).ns.length ≤ 20 ∧ (readT l).sa.length ≤ 20 := by
  have h1 : (rA1 l).1.length ≤ 20 := takeS_text _
  have h2 : (rA2 l).1.length ≤ 20 := takeS_text _
  have h4 : (rA4 l).1 ≤ 9 := smallS_le _
  refine ⟨⟨by show (rA1 l).1.length ≤ _; omega, by show (rA2 l).1.length ≤ _; omega, takeS_short _, by show _ ≤ ((rA4 l).1 : Int) ∧ ((rA4 l).1 : Int) ≤ _; omega, takeS_u32 _, takeS_short _, takeS_short _, takeS_short _, ?_⟩, h1, h2⟩
  show (if (rA9 l).1 = [] then List.replicate 32 0 else (rA9 l).1).length = 32
  split
  · rfl
  · rename_i hne
    rcases takeS_raw (rA8 l).2 with h | h
    · exact absurd (List.eq_nil_of_length_eq_zero h) hne
    · exact h
/-- What a read makes: where the things lie. -/
structure Rne (zb rb tb p b : Nat) : Prop where
  zp : zb < p
  zt : zb < tb
  zr : zb < rb
  zbb : zb < b
  rp : rb ≠ p
  tp : tb ≠ p
  bt : b ≠ tb
  rt : rb ≠ tb
structure Rst (w0 w : World) (zb rb tb p b : Nat) (t : Tk) (s : RS) : Prop where
  kz : Blk w zb 31 tkZero.cells
  kq : Blk w rb 71 [.pointer (some ⟨p, 0, none⟩)]
  kt : Blk w tb 31 t.cells
  rr : Rr w p b s
  f : Below zb w0 w
theorem Rst.step {w0 w w' : World} {zb rb tb p b : Nat} {t : Tk} {s s' : RS} (h : Rst w0 w zb rb tb p b t s) (N : Rne zb rb tb p b) (R : Rr w' p b s') (O : Off (fun k => k = p) w w') : Rst w0 w' zb rb tb p b t s' :=
  ⟨h.kz.off O (Nat.ne_of_lt N.zp), h.kq.off O N.rp, h.kt.off O N.tp, R, h.f.trans (O.below (Nat.le_of_lt h.kz.lt) (fun k hk => by have := N.zp; have hk' : k = p := hk; omega))⟩
theorem Rst.set {w0 w : World} {zb rb tb p b : Nat} {t t' : Tk} {s : RS} (h : Rst w0 w zb rb tb p b t s) (N : Rne zb rb tb p b) (i : Nat) (v : Value) (e : t.cells.set i v = t'.cells) : Rst w0 (w.setCell ⟨tb, i, none⟩ v) zb rb tb p b t' s :=
  ⟨h.kz.far (p := ⟨tb, i, none⟩) (by show zb ≠ tb; have := N.zt; omega) v, h.kq.far (p := ⟨tb, i, none⟩) N.rt v, e ▸ h.kt.set i v,
    h.rr.off ((Off.refl (fun k => k = tb) w).setCell (p := ⟨tb, i, none⟩) (fun _ => rfl) v) (fun e => N.tp (Eq.symm e)) N.bt, h.f.setCell (p := ⟨tb, i, none⟩) (Nat.le_of_lt N.zt) v⟩
theorem Rst.alloc {w0 w : World} {zb rb tb p b : Nat} {t : Tk} {s : RS} (h : Rst w0 w zb rb tb p b t s) (x : Obj) : Rst w0 (w.alloc x) zb rb tb p b t s :=
  ⟨h.kz.alloc x, h.kq.alloc x, h.kt.alloc x, h.rr.off ((Off.refl (fun _ => False) w).alloc x) id id, h.f.alloc (Nat.le_of_lt h.kz.lt) x⟩
def readV (l : List UInt8) : Tk × Nat := if (rA0 l).1 ≠ 1 then (tkZero, 2) else if readE l || !tkOk (readT l) then (tkZero, 2) else (readT l, 0)
attribute [local irreducible] tkOk rA0 rA1 rA2 rA3 rA4 rA5 rA6 rA7 rA8 rA9 readV readE
set_option maxRecDepth 100000 in
set_option maxHeartbeats 4000000 in
theorem read_any (A : Option Addr) (n c : Nat) (l : List UInt8) (w : World) (r : RdB w w.heap.size A n l) (hn : n ≤ 1099511627776) :
    Calls Try.prog 26 #[.slice A n c] w fun e w' => e = .returned (.tuple #[(readV l).1.v, .int .i64 ((readV l).2 : Nat)]) ∧ Below w.heap.size w w' := by
  have hll := r.1
  have hv0 : (rA0 l).1 ≠ 1 → readV l = (tkZero, 2) := fun h => by with_unfolding_all exact if_pos h
  have hv1 : (rA0 l).1 = 1 → (readE l || !tkOk (readT l)) = true → readV l = (tkZero, 2) := fun h h2 => by
    have e : readV l = if (rA0 l).1 ≠ 1 then (tkZero, 2) else if readE l || !tkOk (readT l) then (tkZero, 2) else (readT l, 0) := by with_unfolding_all rfl
    rw [e, if_neg (by omega), if_pos h2]
  have hv2 : (rA0 l).1 = 1 → (readE l || !tkOk (readT l)) = false → readV l = (readT l, 0) := fun h h2 => by
    have e : readV l = if (rA0 l).1 ≠ 1 then (tkZero, 2) else if readE l || !tkOk (readT l) then (tkZero, 2) else (readT l, 0) := by with_unfolding_all rfl
    rw [e, if_neg (by omega), if_neg (by simp [h2])]
  have HV0 := Lib.hid hv0; clear hv0
  have HV1 := Lib.hid hv1; clear hv1
  have HV2 := Lib.hid hv2; clear hv2
  obtain ⟨hl0, hl1, hl8⟩ := rA_len l
  obtain ⟨hok, -, -⟩ := readT_ok l
  have hqi : (Try.prog.info? 71).map (·.size) = some ([.pointer none] : List Value).length := by kernel_rfl
  have Hqi := Lib.hid hqi; clear hqi
  have hzi : (Try.prog.info? 31).map (·.size) = some tkZero.cells.length := by kernel_rfl
  have Hzi := Lib.hid hzi; clear hzi
  have hti : (Try.prog.info? 31).map (·.size) = some (readT l).cells.length := by rw [(readT l).len hok.mac]; kernel_rfl
  have Hti := Lib.hid hti; clear hti
  have hzt : tkZero.cells.length = (readT l).cells.length := by rw [(readT l).len hok.mac]; rfl
  have Hzt := Lib.hid hzt; clear hzt
  go_enter Try.func26, Try.ntmps26
  go_upto_region 1 with fail
  refine abs (fun w1 => Blk w1 w.heap.size 31 tkZero.cells ∧ Below w.heap.size w w1) ⟨Blk.newAt rfl _ _, (Below.refl _ w).alloc (Nat.le_refl _) _⟩ ?_
  rintro w1 ⟨kz, f1⟩
  have l1 := kz.lt
  go_wp2_with fail
  refine (newReader_any A n c l w1 ((r.below f1).more f1.size) (by omega)).mono ?_
  rintro e w2 ⟨p, b, hp, hb, rfl, R, f2⟩
  replace kz := kz.below f2 l1
  replace f1 := f1.trans (f2.mono f1.size)
  have hs2 := f2.size
  clear f2
  go_upto_region 2 with (first | (refine store_blk (cs := [.pointer none]) (Blk.newAt rfl 71 _) rfl 71 (.tmp 4) (.tmp 10) rfl rfl (us := [.pointer (some ⟨p, 0, none⟩)]) rfl Hqi.out rfl rfl ?_; intro w3 kq hg; have f3 : Below w2.heap.size w2 w3 := ((Below.refl _ w2).alloc (Nat.le_refl _) _).grown hg (by simp) (by simp)))
  obtain ⟨b, R, hb, hb2⟩ : ∃ b', Rr w2 p b' ⟨l, false⟩ ∧ w.heap.size < b' ∧ b' ≤ w2.heap.size := by
    obtain ⟨h0, A', n', c', k, r', hc⟩ := R
    by_cases hn0 : 0 < n'
    · obtain ⟨off, _, hlt, _⟩ := r'.2 hn0
      exact ⟨b, ⟨h0, A', n', c', k, r', hc⟩, by omega, by omega⟩
    · have hk := k.lt
      exact ⟨w2.heap.size, ⟨by omega, A', n', c', k, ⟨r'.1, fun h => absurd h hn0⟩, hc⟩, by omega, Nat.le_refl _⟩
  have lp : p < w2.heap.size := by obtain ⟨_, _, _, _, k, _⟩ := R; exact k.lt
  have lz := kz.lt
  replace kz := kz.below f3 lz
  replace R := R.off (Off.of_all f3) id id
  replace f1 := f1.trans (f3.mono f1.size)
  clear hg f3
  have lq := kq.lt
  generalize w2.heap.size = rb at *
  have q := kq.cell 0
  go_wp2_with fail
  refine (rU8_any p b _ w3 R).mono ?_
  rintro e w4 ⟨rfl, R4, O⟩
  have e0 : takeS findU8 0 ⟨l, false⟩ = rA0 l := by with_unfolding_all rfl
  rw [e0] at R4 ⊢
  replace kz := kz.off O (by show ¬ _ = _; omega)
  replace kq := kq.off O (by show ¬ _ = _; omega)
  replace f1 := f1.trans (O.below (Nat.le_of_lt (Nat.lt_trans lz lq)) (fun k hk => by have hk' : k = p := hk; omega))
  have hO := O.size
  clear O q R e0
  by_cases h0 : (rA0 l).1 = 1
  case neg =>
    have d0 : (((rA0 l).1 : Int) != 1) = true := by simp; omega
    go_wp2_with (first | (refine store_blk kz rfl 31 (.tmp 2) (.tmp 15) rfl rfl (us := tkZero.cells) rfl Hzi.out rfl tkZero.all ?_; intro w9 k9 hg9))
    exact bodyPost_ret (k9.sized2 rfl _ rfl Try.underlying31 Hzi.out) rfl ⟨by rw [HV0.out h0]; rfl, f1.grown hg9 f1.size (by simp)⟩
  have d0 : (((rA0 l).1 : Int) != 1) = false := by simp; omega
  go_upto_region 5 with fail
  refine abs (fun w1 => Rst w w1 w.heap.size rb w4.heap.size p b tkZero (rA0 l).2) ⟨kz.alloc _, kq.alloc _, Blk.newAt rfl _ _, R4.off ((Off.refl (fun _ => False) w4).alloc _) id id, f1.alloc f1.size _⟩ ?_
  have hN : Rne w.heap.size rb w4.heap.size p b := ⟨by omega, by omega, by omega, by omega, by omega, by omega, by omega, by omega⟩
  clear kz kq R4 f1 d0
  generalize w4.heap.size = tb at *
  rintro w5 h
  have q := h.kq.cell 0
  go_wp2_with fail
  refine (rText_any p b _ 20 w5 h.rr (by omega) (by omega) (by omega)).mono ?_
  rintro e v0 ⟨rfl, R, O⟩
  have e0 : takeS (findText 20) [] (rA0 l).2 = rA1 l := by with_unfolding_all rfl
  rw [e0] at R ⊢
  replace h := h.step hN R O
  clear R O q e0
  have zf := h.kt.frozen 0
  have qf : v0.cell? ⟨tb, 0, none⟩ = some (.string (strB [])) := h.kt.cell 0
  have hs := h.set (t' := ⟨(rA1 l).1, [], 0, 0, 0, 0, 0, 0, List.replicate 32 0⟩) hN 0 (.string (strB (rA1 l).1)) rfl
  go_upto_region 6 with fail
  refine abs (fun w1 => Rst w w1 w.heap.size rb tb p b ⟨(rA1 l).1, [], 0, 0, 0, 0, 0, 0, List.replicate 32 0⟩ (rA1 l).2) hs ?_
  clear hs qf zf h
  rintro x0 h
  have q := h.kq.cell 0
  go_wp2_with fail
  refine (rText_any p b _ 20 x0 h.rr (by omega) (by omega) (by omega)).mono ?_
  rintro e v1 ⟨rfl, R, O⟩
  have e0 : takeS (findText 20) [] (rA1 l).2 = rA2 l := by with_unfolding_all rfl
  rw [e0] at R ⊢
  replace h := h.step hN R O
  clear R O q e0
  have zf := h.kt.frozen 1
  have qf : v1.cell? ⟨tb, 1, none⟩ = some (.string (strB [])) := h.kt.cell 1
  have hs := h.set (t' := ⟨(rA1 l).1, (rA2 l).1, 0, 0, 0, 0, 0, 0, List.replicate 32 0⟩) hN 1 (.string (strB (rA2 l).1)) rfl
  go_upto_region 7 with fail
  refine abs (fun w1 => Rst w w1 w.heap.size rb tb p b ⟨(rA1 l).1, (rA2 l).1, 0, 0, 0, 0, 0, 0, List.replicate 32 0⟩ (rA2 l).2) hs ?_
  clear hs qf zf h
  rintro x1 h
  have q := h.kq.cell 0
  go_wp2_with fail
  refine (rUint_any p b _ x1 h.rr).mono ?_
  rintro e v2 ⟨rfl, R, O⟩
  have e0 : takeS findShort 0 (rA2 l).2 = rA3 l := by with_unfolding_all rfl
  rw [e0] at R ⊢
  replace h := h.step hN R O
  clear R O q e0
  have zf := h.kt.frozen 2
  have qf : v2.cell? ⟨tb, 2, none⟩ = some (.int .u64 0) := h.kt.cell 2
  have hs := h.set (t' := ⟨(rA1 l).1, (rA2 l).1, (rA3 l).1, 0, 0, 0, 0, 0, List.replicate 32 0⟩) hN 2 (.int .u64 ((rA3 l).1 : Int)) rfl
  go_upto_region 8 with fail
  refine abs (fun w1 => Rst w w1 w.heap.size rb tb p b ⟨(rA1 l).1, (rA2 l).1, (rA3 l).1, 0, 0, 0, 0, 0, List.replicate 32 0⟩ (rA3 l).2) hs ?_
  clear hs qf zf h
  rintro x2 h
  have q := h.kq.cell 0
  go_wp2_with (first | (refine load_blk h.kq rfl 71 (.tmp 4) rfl rfl Try.underlying71 Hqi.out ?_))
  refine (small_any p b _ x2 h.rr (by obtain ⟨_, _, _, _, k, _⟩ := h.rr; exact k.lt)).mono ?_
  rintro e v3 ⟨rfl, R, O⟩
  have e0 : smallS (rA3 l).2 = rA4 l := by with_unfolding_all rfl
  rw [e0] at R ⊢
  replace h := h.step hN R O
  clear R O q e0
  have zf := h.kt.frozen 3
  have qf : v3.cell? ⟨tb, 3, none⟩ = some (.int .i64 0) := h.kt.cell 3
  have hs := h.set (t' := ⟨(rA1 l).1, (rA2 l).1, (rA3 l).1, ((rA4 l).1 : Int), 0, 0, 0, 0, List.replicate 32 0⟩) hN 3 (.int .i64 ((rA4 l).1 : Int)) rfl
  go_upto_region 9 with fail
  refine abs (fun w1 => Rst w w1 w.heap.size rb tb p b ⟨(rA1 l).1, (rA2 l).1, (rA3 l).1, ((rA4 l).1 : Int), 0, 0, 0, 0, List.replicate 32 0⟩ (rA4 l).2) hs ?_
  clear hs qf zf h
  rintro x3 h
  have q := h.kq.cell 0
  go_wp2_with fail
  refine (rU32_any p b _ x3 h.rr).mono ?_
  rintro e v4 ⟨rfl, R, O⟩
  have e0 : takeS findU32 0 (rA4 l).2 = rA5 l := by with_unfolding_all rfl
  rw [e0] at R ⊢
  replace h := h.step hN R O
  clear R O q e0
  have zf := h.kt.frozen 4
  have qf : v4.cell? ⟨tb, 4, none⟩ = some (.int .u32 0) := h.kt.cell 4
  have hs := h.set (t' := ⟨(rA1 l).1, (rA2 l).1, (rA3 l).1, ((rA4 l).1 : Int), (rA5 l).1, 0, 0, 0, List.replicate 32 0⟩) hN 4 (.int .u32 ((rA5 l).1 : Int)) rfl
  go_upto_region 10 with fail
  refine abs (fun w1 => Rst w w1 w.heap.size rb tb p b ⟨(rA1 l).1, (rA2 l).1, (rA3 l).1, ((rA4 l).1 : Int), (rA5 l).1, 0, 0, 0, List.replicate 32 0⟩ (rA5 l).2) hs ?_
  clear hs qf zf h
  rintro x4 h
  have hx := h.kt.lt
  have hfs := h.f.size
  go_upto_region 11 with fail
  refine abs (fun w1 => Rst w w1 w.heap.size rb tb p b ⟨(rA1 l).1, (rA2 l).1, (rA3 l).1, ((rA4 l).1 : Int), (rA5 l).1, 0, 0, 0, List.replicate 32 0⟩ (rA5 l).2 ∧ Blk w1 x4.heap.size 77 [.pointer (some ⟨tb, 5, none⟩), .pointer (some ⟨tb, 6, none⟩), .pointer (some ⟨tb, 7, none⟩)]) ⟨h.alloc _, Blk.newAt rfl _ _⟩ ?_
  have hp4 : p < x4.heap.size := by obtain ⟨_, _, _, _, k, _⟩ := h.rr; exact k.lt
  clear h
  generalize x4.heap.size = sb at *
  rintro y0 ⟨h, ks⟩
  go_loopw [42] (fun i wr => ((i = .int .i64 0 ∧ Rst w wr w.heap.size rb tb p b ⟨(rA1 l).1, (rA2 l).1, (rA3 l).1, ((rA4 l).1 : Int), (rA5 l).1, 0, 0, 0, List.replicate 32 0⟩ (rA5 l).2) ∨ (i = .int .i64 1 ∧ Rst w wr w.heap.size rb tb p b ⟨(rA1 l).1, (rA2 l).1, (rA3 l).1, ((rA4 l).1 : Int), (rA5 l).1, (rA6 l).1, 0, 0, List.replicate 32 0⟩ (rA6 l).2) ∨ (i = .int .i64 2 ∧ Rst w wr w.heap.size rb tb p b ⟨(rA1 l).1, (rA2 l).1, (rA3 l).1, ((rA4 l).1 : Int), (rA5 l).1, (rA6 l).1, (rA7 l).1, 0, List.replicate 32 0⟩ (rA7 l).2) ∨ (i = .int .i64 3 ∧ Rst w wr w.heap.size rb tb p b ⟨(rA1 l).1, (rA2 l).1, (rA3 l).1, ((rA4 l).1 : Int), (rA5 l).1, (rA6 l).1, (rA7 l).1, (rA8 l).1, List.replicate 32 0⟩ (rA8 l).2)) ∧ Blk wr sb 77 [.pointer (some ⟨tb, 5, none⟩), .pointer (some ⟨tb, 6, none⟩), .pointer (some ⟨tb, 7, none⟩)]) (fun i _ => 3 - (intOf i).toNat)
  case atStart => exact ⟨.inl ⟨rfl, h⟩, ks⟩
  case round =>
    clear h ks
    obtain ⟨hrel, ks⟩ := hrel
    rcases hrel with ⟨rfl, h⟩ | ⟨rfl, h⟩ | ⟨rfl, h⟩ | ⟨rfl, h⟩
    · have q := h.kq.cell 0
      have qs : wr.cell? ⟨sb, 0, none⟩ = some (.pointer (some ⟨tb, 5, none⟩)) := ks.cell 0
      go_wp2_with fail
      refine (rUint_any p b _ wr h.rr).mono ?_
      rintro e wa ⟨rfl, R, O⟩
      have e0 : takeS findShort 0 (rA5 l).2 = rA6 l := by with_unfolding_all rfl
      rw [e0] at R ⊢
      have ks2 := ks.off O (by show ¬ _ = _; omega)
      replace h := h.step hN R O
      clear R O q qs e0 ks
      have zf := h.kt.frozen 5
      have qf : wa.cell? ⟨tb, 5, none⟩ = some (.int .u64 0) := h.kt.cell 5
      have hs := h.set (t' := ⟨(rA1 l).1, (rA2 l).1, (rA3 l).1, ((rA4 l).1 : Int), (rA5 l).1, (rA6 l).1, 0, 0, List.replicate 32 0⟩) hN 5 (.int .u64 ((rA6 l).1 : Int)) rfl
      have ks3 := ks2.far (p := ⟨tb, 5, none⟩) (by show sb ≠ tb; omega) (.int .u64 ((rA6 l).1 : Int))
      clear h ks2
      go_wp2_with fail
      go_roundw
      case rel => first | exact ⟨.inr (.inl ⟨by go_num, hs⟩), ks3⟩ | ((repeat apply Exists.intro); exact ⟨⟨.inr (.inl ⟨by go_num, hs⟩), ks3⟩, rfl⟩)
      case measure => simp [intOf]
    · have q := h.kq.cell 0
      have qs : wr.cell? ⟨sb, 1, none⟩ = some (.pointer (some ⟨tb, 6, none⟩)) := ks.cell 1
      go_wp2_with fail
      refine (rUint_any p b _ wr h.rr).mono ?_
      rintro e wa ⟨rfl, R, O⟩
      have e0 : takeS findShort 0 (rA6 l).2 = rA7 l := by with_unfolding_all rfl
      rw [e0] at R ⊢
      have ks2 := ks.off O (by show ¬ _ = _; omega)
      replace h := h.step hN R O
      clear R O q qs e0 ks
      have zf := h.kt.frozen 6
      have qf : wa.cell? ⟨tb, 6, none⟩ = some (.int .u64 0) := h.kt.cell 6
      have hs := h.set (t' := ⟨(rA1 l).1, (rA2 l).1, (rA3 l).1, ((rA4 l).1 : Int), (rA5 l).1, (rA6 l).1, (rA7 l).1, 0, List.replicate 32 0⟩) hN 6 (.int .u64 ((rA7 l).1 : Int)) rfl
      have ks3 := ks2.far (p := ⟨tb, 6, none⟩) (by show sb ≠ tb; omega) (.int .u64 ((rA7 l).1 : Int))
      clear h ks2
      go_wp2_with fail
      go_roundw
      case rel => first | exact ⟨.inr (.inr (.inl ⟨by go_num, hs⟩)), ks3⟩ | ((repeat apply Exists.intro); exact ⟨⟨.inr (.inr (.inl ⟨by go_num, hs⟩)), ks3⟩, rfl⟩)
      case measure => simp [intOf]
    · have q := h.kq.cell 0
      have qs : wr.cell? ⟨sb, 2, none⟩ = some (.pointer (some ⟨tb, 7, none⟩)) := ks.cell 2
      go_wp2_with fail
      refine (rUint_any p b _ wr h.rr).mono ?_
      rintro e wa ⟨rfl, R, O⟩
      have e0 : takeS findShort 0 (rA7 l).2 = rA8 l := by with_unfolding_all rfl
      rw [e0] at R ⊢
      have ks2 := ks.off O (by show ¬ _ = _; omega)
      replace h := h.step hN R O
      clear R O q qs e0 ks
      have zf := h.kt.frozen 7
      have qf : wa.cell? ⟨tb, 7, none⟩ = some (.int .u64 0) := h.kt.cell 7
      have hs := h.set (t' := ⟨(rA1 l).1, (rA2 l).1, (rA3 l).1, ((rA4 l).1 : Int), (rA5 l).1, (rA6 l).1, (rA7 l).1, (rA8 l).1, List.replicate 32 0⟩) hN 7 (.int .u64 ((rA8 l).1 : Int)) rfl
      have ks3 := ks2.far (p := ⟨tb, 7, none⟩) (by show sb ≠ tb; omega) (.int .u64 ((rA8 l).1 : Int))
      clear h ks2
      go_wp2_with fail
      go_roundw
      case rel => first | exact ⟨.inr (.inr (.inr ⟨by go_num, hs⟩)), ks3⟩ | ((repeat apply Exists.intro); exact ⟨⟨.inr (.inr (.inr ⟨by go_num, hs⟩)), ks3⟩, rfl⟩)
      case measure => simp [intOf]
    · go_upto_region 15 with fail
      clear ks
      refine wp_region_order (fun u => Blk u rb 71 [.pointer (some ⟨p, 0, none⟩)]) 100 [(0,0), (1,0), (2,0), (3,0), (4,1), (5,1)] (by kernel_rfl) (by kernel_rfl) ?_
      simp only [pick, List.filterMap_cons, List.filterMap_nil, List.getElem?_cons_zero, List.getElem?_cons_succ, Option.map_some]
      have hd : Rst w wr.drew w.heap.size rb tb p b ⟨(rA1 l).1, (rA2 l).1, (rA3 l).1, ((rA4 l).1 : Int), (rA5 l).1, (rA6 l).1, (rA7 l).1, (rA8 l).1, List.replicate 32 0⟩ (rA8 l).2 := ⟨h.kz.drew, h.kq.drew, h.kt.drew, h.rr, h.f.drew⟩
      have hS : (fun u => Blk u rb 71 [.pointer (some ⟨p, 0, none⟩)]) wr.drew := hd.kq
      clear h
      refine wpF_take (v := ?_) hS rfl ?_ (fun _ _ _ h => h) ?_
      rotate_left
      · intro w' hS'
        obtain _ := hS'
        go_simp <;> rfl
      go_simp
      refine wpF_take (v := ?_) hS rfl ?_ (fun _ _ _ h => h) ?_
      rotate_left
      · intro w' hS'
        obtain _ := hS'
        go_simp <;> rfl
      go_simp
      refine wpF_take (v := ?_) hS rfl ?_ (fun _ _ _ h => h) ?_
      rotate_left
      · intro w' hS'
        obtain _ := hS'
        go_simp <;> rfl
      go_simp
      refine wpF_take (v := .pointer (some ⟨p, 0, none⟩)) hS rfl (fun u hu => by have q0 : u.cell? ⟨rb, 0, none⟩ = some (.pointer (some ⟨p, 0, none⟩)) := hu.cell 0; go_simp <;> rfl) (fun _ _ _ h => h) ?_
      go_simp
      refine wpF_only rfl (fun K hK => ?_)
      go_wp2_with fail
      refine (rRaw_any p b _ 32 wr.drew hd.rr (by omega)).mono ?_
      rintro e wa ⟨A1, n1, c1, rfl, o1, R, O⟩
      have e0 : takeS (findRaw 32) [] (rA8 l).2 = rA9 l := by with_unfolding_all rfl
      rw [e0] at o1 R
      have hraw := takeS_raw (rA8 l).2
      rw [e0] at hraw
      replace hd := hd.step hN R O
      clear R O e0 hS
      have hS : (fun u => Blk u rb 71 [.pointer (some ⟨p, 0, none⟩)]) wa := hd.kq
      go_wp2_with fail
      refine ⟨fun _ => hS, ?_⟩
      go_simp
      refine wpF_only rfl (fun K2 hK2 => ?_)
      obtain ⟨wb, hrun, kt2, g2⟩ := copy_mac hd.kt (by simp) o1 hraw 3
      refine Lib.wp_copy_run _ (.tmp 53) (.tmp 56) 22 22 rfl _ _ rfl rfl hrun ?_
      have kz2 := hd.kz.grown g2 (by simp; omega)
      have kq2 := hd.kq.grown g2 (by simp; omega)
      have f2 := hd.f.grown g2 hd.f.size (by simp; omega)
      have R2 := hd.rr.off ((Off.refl (fun k => k = tb) wa).grown g2 (fun k hk _ => by injection hk with hk; exact hk.symm)) (by show ¬ _ = _; omega) (by show ¬ _ = _; omega)
      refine hK2 _ _ ⟨fun _ => kq2, wpF_nil ?_⟩
      replace kt2 : Blk wb tb 31 (readT l).cells := kt2
      clear hd hS hrun g2 o1
      have q := kq2.cell 0
      go_wp2_with fail
      refine (rEnd_any p b _ wb R2).mono ?_
      rintro e wc ⟨rfl, R3, O3⟩
      have e0 : ((rA9 l).2.st || !(rA9 l).2.l.isEmpty) = readE l := by with_unfolding_all rfl
      rw [e0]
      have kz3 := kz2.off O3 (by show ¬ _ = _; omega)
      have kt3 := kt2.off O3 (by show ¬ _ = _; omega)
      have f3 := f2.trans (O3.below (Nat.le_of_lt kz2.lt) (fun k hk => by have hk' : k = p := hk; omega))
      clear R3 O3 R2 kz2 kt2 kq2 q f2 e0
      cases hE : readE l
      case true =>
        have HB : (readE l || !tkOk (readT l)) = true := by rw [hE]; rfl
        go_wp2_with (first | (refine store_blk kz3 rfl 31 (.tmp 2) (.tmp 67) rfl rfl (us := tkZero.cells) rfl Hzi.out rfl tkZero.all ?_; intro w9 k9 hg9))
        exact bodyPost_ret (k9.sized2 rfl _ rfl Try.underlying31 Hzi.out) rfl ⟨by rw [HV1.out h0 HB]; rfl, f3.grown hg9 f3.size (by simp)⟩
      case false =>
      go_wp2_with (first | (refine load_blk_if kt3 rfl 31 (.tmp 5) rfl rfl Try.underlying31 Hti.out ?_))
      refine (tokMay_any (readT l) hok wc).mono ?_
      rintro e wd ⟨rfl, fd⟩
      replace kz3 := kz3.below fd kz3.lt
      replace kt3 := kt3.below fd kt3.lt
      replace f3 := f3.trans (fd.mono f3.size)
      clear fd
      cases hK : tkOk (readT l)
      case false =>
        have HB : (readE l || !tkOk (readT l)) = true := by rw [hE, hK]; rfl
        go_wp2_with (first | (refine store_blk kz3 rfl 31 (.tmp 2) (.tmp 67) rfl rfl (us := tkZero.cells) rfl Hzi.out rfl tkZero.all ?_; intro w9 k9 hg9))
        exact bodyPost_ret (k9.sized2 rfl _ rfl Try.underlying31 Hzi.out) rfl ⟨by rw [HV1.out h0 HB]; rfl, f3.grown hg9 f3.size (by simp)⟩
      case true =>
        have HB : (readE l || !tkOk (readT l)) = false := by rw [hE, hK]; rfl
        go_wp2_with (first | (refine load_blk kt3 rfl 31 (.tmp 5) rfl rfl Try.underlying31 Hti.out ?_) | (refine store_blk kz3 rfl 31 (.tmp 2) (.tmp 68) rfl rfl (us := (readT l).cells) rfl Hti.out Hzt.out (Tk.all _) ?_; intro w9 k9 hg9))
        exact bodyPost_ret (k9.sized2 rfl _ rfl Try.underlying31 Hti.out) rfl ⟨by rw [HV2.out h0 HB]; rfl, f3.grown hg9 f3.size (by simp)⟩
end Go.Proofs.Ytgefbgjgcjiceaa
