/- The document's Sign. Condition: labels of 1000 bytes at most, a host from 0 to 9; the root of 2^40 bytes at most. -/
import Derived.Test.YtgefbgjgcjiceaaRefTokSaid
namespace Go.Proofs.Ytgefbgjgcjiceaa
open Go.RowKit
set_option linter.unusedVariables false
set_option linter.unusedSimpArgs false
attribute [local irreducible] saidB derB
set_option maxRecDepth 100000 in
set_option maxHeartbeats 2000000 in
theorem sign_any (A : Option Addr) (n c o m : Nat) (root : List UInt8) (t : Tk) (ht : t.ok) (h1 : t.ns.length ≤ 1000) (h2 : t.sa.length ≤ 1000) (h3 : 0 ≤ t.host ∧ t.host ≤ 9) (w : World) (hr : RdB w w.heap.size A n root) (hn : n ≤ 1099511627776) :
    Calls Try.prog 29 #[rgV A n c o m, t.v] w fun e w' => e = .returned (.agg (bvs (sigB root t)).toArray) ∧ Below w.heap.size w w' := by
  have hsl := saidB_le t ht h1 h2 h3
  have hke := ht.key
  have hit : (Try.prog.info? 31).map (·.size) = some t.cells.length := by rw [t.len ht.mac]; kernel_rfl
  have Hit := Lib.hid hit; clear hit
  have hi32 : (Try.prog.info? 29).map (·.size) = some (bvs (sigB root t)).length := by rw [bvs_length, sigB_length]; kernel_rfl
  have Hi32 := Lib.hid hi32; clear hi32
  have hz32 : (bvs (List.replicate 32 0)).length = (bvs (sigB root t)).length := by rw [bvs_length, bvs_length, sigB_length]; rfl
  have Hz32 := Lib.hid hz32; clear hz32
  have htv : t.v = .agg t.cells.toArray := rfl
  rw [htv]
  unfold rgV
  go_enter Try.func29, Try.ntmps29
  go_upto_region 1 with fail
  refine abs (fun w1 => (Blk w1 w.heap.size 25 [.slice A n c, .int .u64 (o : Int), .int .u64 (m : Int)] ∧ Blk w1 (w.heap.size + 1) 31 t.cells) ∧ Blk w1 (w.heap.size + 2) 29 (bvs (List.replicate 32 0)) ∧ Below w.heap.size w w1) ⟨⟨((Blk.of_new w _ _).alloc _).alloc _, (Blk.newAt (by simp) _ _).alloc _⟩, Blk.newAt (by simp) _ _, (((Below.refl _ w).alloc (Nat.le_refl _) _).alloc (by simp) _).alloc (by simp; omega) _⟩ ?_
  rintro w1 ⟨hS0, k3, f1⟩
  refine wp_region_order (fun u => Blk u w.heap.size 25 [.slice A n c, .int .u64 (o : Int), .int .u64 (m : Int)] ∧ Blk u (w.heap.size + 1) 31 t.cells) 8 [(0,0), (1,0), (2,0), (3,0), (5,0), (4,1), (6,1), (7,1), (8,2)] (by kernel_rfl) (by kernel_rfl) ?_
  simp only [pick, List.filterMap_cons, List.filterMap_nil, List.getElem?_cons_zero, List.getElem?_cons_succ, Option.map_some]
  have hS : Blk w1.drew w.heap.size 25 [.slice A n c, .int .u64 (o : Int), .int .u64 (m : Int)] ∧ Blk w1.drew (w.heap.size + 1) 31 t.cells := hS0
  clear hS0
  refine wpF_take (v := ?_) hS rfl ?_ (fun _ _ _ h => h) ?_
  rotate_left
  · intro w' hS'
    obtain _ := hS'
    go_simp <;> rfl
  go_simp
  refine wpF_take (v := .slice A n c) hS rfl (fun u hu => by have q0 : u.cell? ⟨w.heap.size, 0, none⟩ = some (.slice A n c) := hu.1.cell 0; go_simp <;> rfl) (fun _ _ _ h => h) ?_
  go_simp
  refine wpF_take (v := ?_) hS rfl ?_ (fun _ _ _ h => h) ?_
  rotate_left
  · intro w' hS'
    obtain _ := hS'
    go_simp <;> rfl
  go_simp
  refine wpF_take (v := .int .u64 (t.key : Int)) hS rfl (fun u hu => by have q0 : u.cell? ⟨w.heap.size + 1, 7, none⟩ = some (.int .u64 (t.key : Int)) := hu.2.cell 7; go_simp <;> rfl) (fun _ _ _ h => h) ?_
  go_simp
  refine wpF_load hS rfl 31 (.tmp 3) rfl rfl (fun _ h => h.2.whole) Try.underlying31 Hit.out (fun _ _ _ h => h) ?_
  go_simp
  have z1 := f1.size
  have l1 := hS.1.lt
  have l2 := hS.2.lt
  have l3 := k3.lt
  refine wpF_only rfl (fun K hK => ?_)
  go_wp2_with fail
  refine (refDerive_any A n c root [99, 97] t.key w1.drew ((hr.below f1.drew).more f1.drew.size) (by omega) (by simp) hke).mono ?_
  rintro e w2 ⟨A2, c2, rfl, o2, f2⟩
  replace hS : Blk w2 w.heap.size 25 [.slice A n c, .int .u64 (o : Int), .int .u64 (m : Int)] ∧ Blk w2 (w.heap.size + 1) 31 t.cells := ⟨hS.1.below f2 l1, hS.2.below f2 l2⟩
  have k32 : Blk w2 (w.heap.size + 2) 29 (bvs (List.replicate 32 0)) := k3.drew.below f2 l3
  have f12 := f1.drew.trans (f2.mono z1)
  have z2 := f12.size
  have l32 := k32.lt
  go_wp2_with fail
  refine ⟨fun _ => hS, ?_⟩
  go_simp
  refine wpF_only rfl (fun K hK => ?_)
  go_wp2_with fail
  rw [← htv]
  refine (refSaid_any t ht h1 h2 h3 w2).mono ?_
  rintro e w3 ⟨A3, c3, rfl, o3, f3⟩
  have o23 := o2.rd.below f3
  replace hS : Blk w3 w.heap.size 25 [.slice A n c, .int .u64 (o : Int), .int .u64 (m : Int)] ∧ Blk w3 (w.heap.size + 1) 31 t.cells := ⟨hS.1.below f3 hS.1.lt, hS.2.below f3 hS.2.lt⟩
  have k33 : Blk w3 (w.heap.size + 2) 29 (bvs (List.replicate 32 0)) := k32.below f3 l32
  have f13 := f12.trans (f3.mono z2)
  have l33 := k33.lt
  go_wp2_with fail
  refine ⟨fun _ => hS, ?_⟩
  go_simp
  refine wpF_only rfl (fun K hK => ?_)
  go_wp2_with fail
  refine (refMac_any A2 32 c2 _ A3 (saidB t).length c3 (saidB t) w3 (o23.more f3.size) o3.rd (by omega) (by omega)).mono ?_
  rintro e w4 ⟨rfl, f4⟩
  rw [show macB (macB root (derB [99, 97] t.key)) (saidB t) = sigB root t from rfl]
  replace hS : Blk w4 w.heap.size 25 [.slice A n c, .int .u64 (o : Int), .int .u64 (m : Int)] ∧ Blk w4 (w.heap.size + 1) 31 t.cells := ⟨hS.1.below f4 hS.1.lt, hS.2.below f4 hS.2.lt⟩
  have k34 : Blk w4 (w.heap.size + 2) 29 (bvs (List.replicate 32 0)) := k33.below f4 l33
  have f14 := f13.trans (f4.mono f13.size)
  go_wp2_with fail
  refine ⟨fun _ => hS, ?_⟩
  go_simp
  refine wpF_only rfl (fun K hK => ?_)
  refine wp_store_blk k34 29 (.tmp 4) (.tmp 12) rfl rfl (us := bvs (sigB root t)) rfl Hi32.out Hz32.out (bvs_all _) ?_
  intro w9 k9 hg9
  refine hK _ _ ⟨fun h => absurd h (by omega), wpF_nil ?_⟩
  go_wp2_with fail
  exact bodyPost_ret (k9.sized rfl _ rfl Try.underlying29 Hi32.out) rfl ⟨rfl, f14.grown hg9 f14.size (by simp)⟩
end Go.Proofs.Ytgefbgjgcjiceaa
