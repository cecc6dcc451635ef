/- token.sum. Condition: as of token.said; the root of 2^40 bytes at most. -/
import Derived.Test.YtgefbgjgcjiceaaTokSaid
namespace Go.Proofs.Ytgefbgjgcjiceaa
open Go.RowKit
set_option linter.unusedVariables false
set_option linter.unusedSimpArgs false
def sigB (root : List UInt8) (t : Tk) : List UInt8 := macB (macB root (derB [99, 97] t.key)) (saidB t)
theorem sigB_length (root : List UInt8) (t : Tk) : (sigB root t).length = 32 := macB_length _ _
theorem saidB_le (t : Tk) (ht : t.ok) (h1 : t.ns.length ≤ 1000) (h2 : t.sa.length ≤ 1000) (h3 : 0 ≤ t.host ∧ t.host ≤ 9) : (saidB t).length ≤ 3000 := by
  have hu := ht.uid
  have hb := ht.born
  have hti := ht.till
  have hke := ht.key
  have b1 := leb_le t.ns.length (by omega)
  have b2 := leb_le t.sa.length (by omega)
  have b3 := lebs_le [t.uid, t.host.toNat] (by intro x hx; simp at hx; omega)
  have b4 := lebs_le [t.born, t.till, t.key] (by intro x hx; simp at hx; omega)
  have hl32 : (le32 t.addr).length = 4 := rfl
  simp only [List.length_cons, List.length_nil] at b3 b4
  unfold saidB
  simp only [List.length_append, List.length_cons, List.length_nil]
  omega
attribute [local irreducible] saidB derB
set_option maxRecDepth 100000 in
set_option maxHeartbeats 2000000 in
theorem sum2_any (A : Option Addr) (n c o m : Nat) (root : List UInt8) (t : Tk) (ht : t.ok) (h1 : t.ns.length ≤ 1000) (h2 : t.sa.length ≤ 1000) (h3 : 0 ≤ t.host ∧ t.host ≤ 9) (w : World) (hr : RdB w w.heap.size A n root) (hn : n ≤ 1099511627776) :
    Calls Try.prog 28 #[rgV A n c o m, t.v] w fun e w' => e = .returned (.agg (bvs (sigB root t)).toArray) ∧ Below w.heap.size w w' := by
  have hsl := saidB_le t ht h1 h2 h3
  have hke := ht.key
  have hit : (Try.prog.info? 31).map (·.size) = some t.cells.length := by rw [t.len ht.mac]; kernel_rfl
  have Hit := Lib.hid hit; clear hit
  have hi32 : (Try.prog.info? 29).map (·.size) = some (bvs (sigB root t)).length := by rw [bvs_length, sigB_length]; kernel_rfl
  have Hi32 := Lib.hid hi32; clear hi32
  have hz32 : (bvs (List.replicate 32 0)).length = (bvs (sigB root t)).length := by rw [bvs_length, bvs_length, sigB_length]; rfl
  have Hz32 := Lib.hid hz32; clear hz32
  have htv : t.v = .agg t.cells.toArray := rfl
  rw [htv]
  unfold rgV
  go_enter Try.func28, Try.ntmps28
  go_wp2_with fail
  refine absC (fun w1 => Blk w1 w.heap.size 25 [.slice A n c, .int .u64 (o : Int), .int .u64 (m : Int)] ∧ Blk w1 (w.heap.size + 1) 31 t.cells ∧ Blk w1 (w.heap.size + 2) 29 (bvs (List.replicate 32 0)) ∧ Below w.heap.size w w1) ⟨((Blk.of_new w _ _).alloc _).alloc _, (Blk.newAt (by simp) _ _).alloc _, Blk.newAt (by simp) _ _, (((Below.refl _ w).alloc (Nat.le_refl _) _).alloc (by simp) _).alloc (by simp; omega) _⟩ ?_
  rintro w1 ⟨k1, k2, k3, f1⟩
  refine (newWriter_any w1).mono ?_
  rintro e w2 ⟨rfl, wr, f2⟩
  have l1 := k1.lt
  have l2 := k2.lt
  have l3 := k3.lt
  replace k1 := k1.below f2 l1
  replace k2 := k2.below f2 l2
  replace k3 := k3.below f2 l3
  have hs1 := f1.size
  replace f1 := f1.trans (f2.mono f1.size)
  clear f2
  generalize w1.heap.size = p at *
  go_wp2_with (first | (refine load_blk k2 rfl 31 (.tmp 3) rfl rfl Try.underlying31 Hit.out ?_))
  rw [← htv]
  refine (said_any p t ht h1 h2 h3 w2 wr).mono ?_
  rintro e w3 ⟨rfl, A3, c3, wr3, d3⟩
  have f3 : Below p w2 w3 := d3.2.below (Nat.le_of_lt wr.lt) (by
    rintro k (hk | ⟨x, hx, _⟩)
    · omega
    · cases hx)
  replace k1 := k1.below f3 l1
  replace k2 := k2.below f3 l2
  replace k3 := k3.below f3 l3
  replace f1 := f1.trans (f3.mono hs1)
  have hr3 := (hr.below f1).more f1.size
  clear f3 d3 wr
  have q0 : w3.cell? ⟨w.heap.size, 0, none⟩ = some (.slice A n c) := k1.cell 0
  have q7 : w3.cell? ⟨w.heap.size + 1, 7, none⟩ = some (.int .u64 (t.key : Int)) := k2.cell 7
  go_wp2_with fail
  refine (derive_any A n c root [99, 97] t.key w3 hr3 (by omega) (by simp) hke).mono ?_
  rintro e w4 ⟨g, rfl, r4, f4⟩
  replace wr3 := wr3.off (Off.of_all f4) id (fun _ _ => id)
  replace k3 := k3.below f4 k3.lt
  replace f1 := f1.trans (f4.mono f1.size)
  clear f4 q0 q7 k1 k2
  go_wp2_with fail
  refine (bytes_any p A3 _ c3 _ w4 wr3 (by omega)).mono ?_
  rintro e w5 ⟨A5, c5, rfl, o5, f5⟩
  replace r4 := (r4.below f5).more f5.size
  replace k3 := k3.below f5 k3.lt
  replace f1 := f1.trans (f5.mono f1.size)
  clear f5 wr3
  go_wp2_with fail
  refine absC (fun w6 => RdB w6 w6.heap.size (some ⟨g, 0, none⟩) 32 (macB root (derB [99, 97] t.key)) ∧ RdL w6 w6.heap.size (some ⟨w5.heap.size, 0, none⟩) 1 [⟨A5, (saidB t).length, c5, saidB t⟩] ∧ Blk w6 (w.heap.size + 2) 29 (bvs (List.replicate 32 0)) ∧ Below w.heap.size w w6) ⟨(r4.alloc (Nat.le_refl _) _).more (by simp), ?_, k3.alloc _, f1.alloc f1.size _⟩ ?_
  · refine RdL.of_blk (ps := [⟨A5, (saidB t).length, c5, saidB t⟩]) (t := 22) (Blk.newAt rfl _ _) ?_
    intro p hp
    obtain rfl : p = ⟨A5, (saidB t).length, c5, saidB t⟩ := by simpa using hp
    exact (o5.rd.alloc (Nat.le_refl _) _).more (by simp)
  clear r4 o5 k3 f1
  rintro w6 ⟨r4, q6, k3, f1⟩
  refine (mac_any _ 32 32 _ _ 1 1 _ w6 r4 (by omega) q6 (by simp [catB]; omega) (by omega)).mono ?_
  rintro e w7 ⟨rfl, f7⟩
  rw [show catB [(⟨A5, (saidB t).length, c5, saidB t⟩ : Part)] = saidB t from by simp [catB], show macB (macB root (derB [99, 97] t.key)) (saidB t) = sigB root t from rfl]
  replace k3 := k3.below f7 k3.lt
  replace f1 := f1.trans (f7.mono f1.size)
  clear f7 r4 q6
  go_wp2_with (first | (refine store_blk k3 rfl 29 (.tmp 4) (.tmp 18) rfl rfl (us := bvs (sigB root t)) rfl Hi32.out Hz32.out (bvs_all _) ?_; intro w9 k9 hg9))
  exact bodyPost_ret (k9.sized rfl _ rfl Try.underlying29 Hi32.out) rfl ⟨rfl, f1.grown hg9 f1.size (by simp)⟩
end Go.Proofs.Ytgefbgjgcjiceaa
