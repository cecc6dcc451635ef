/- What the document says of a token; its Sign. Condition: labels of 1000 bytes at most, a host from 0 to 9. -/
import Derived.Test.YtgefbgjgcjiceaaRefTokShort
import Derived.Test.YtgefbgjgcjiceaaTokSum
namespace Go.Proofs.Ytgefbgjgcjiceaa
open Go.RowKit
set_option linter.unusedVariables false
set_option linter.unusedSimpArgs false
attribute [local irreducible] leb
theorem OwnB.blkne {w : World} {base e g t : Nat} {v : Value} {l : List UInt8} (h : OwnB w base e v l) (hg : g < base) : v.ownBlock ≠ some g := fun hb => by
  have := (World.ownsRow.lt h g hb).1
  omega
set_option maxRecDepth 100000 in
set_option maxHeartbeats 4000000 in
theorem refSaid_any (t : Tk) (ht : t.ok) (h1 : t.ns.length ≤ 1000) (h2 : t.sa.length ≤ 1000) (h3 : 0 ≤ t.host ∧ t.host ≤ 9) (w : World) :
    Calls Try.prog 41 #[t.v] w fun e w' => ∃ A c, e = .returned (.slice A (saidB t).length c) ∧ OwnB w' w.heap.size 5 (.slice A (saidB t).length c) (saidB t) ∧ Below w.heap.size w w' := by
  have hu := ht.uid
  have ha := ht.addr
  have hb := ht.born
  have hti := ht.till
  have hke := ht.key
  have b1 := leb_le t.ns.length (by omega)
  have b2 := leb_le t.sa.length (by omega)
  have b3 := leb_le t.uid hu
  have b4 := leb_le t.host.toNat (by omega)
  have b5 := leb_le t.born hb
  have b6 := leb_le t.till hti
  have hl32 : (le32 t.addr).length = 4 := rfl
  have sz1 : (strB t.ns).size = t.ns.length := strB_size _
  have sz2 : (strB t.sa).size = t.sa.length := strB_size _
  unfold Tk.v
  go_enter Try.func41, Try.ntmps41
  go_upto_region 2 with fail
  refine abs (fun w1 => Blk w1 w.heap.size 31 t.cells ∧ OwnB w1 (w.heap.size + 1) 5 (.slice (some ⟨w.heap.size + 1, 0, none⟩) 1 1) ([] ++ [1]) ∧ w.heap.size + 1 ≤ w1.heap.size ∧ Below w.heap.size w w1) ⟨(Blk.of_new w _ _).alloc _, OwnB.of_blk (Blk.newAt (by simp) _ _) (Nat.le_refl _) rfl (by decide), by simp, ((Below.refl _ w).alloc (Nat.le_refl _) _).alloc (by simp) _⟩ ?_
  rintro w1 ⟨k1, o1, z1, f1⟩
  refine wp_region_order (fun u => Blk u w.heap.size 31 t.cells) 11 [(0,0), (1,0), (2,0), (3,0), (4,0), (5,0), (7,0), (8,0), (9,0), (6,1), (10,1), (11,2)] (by kernel_rfl) (by kernel_rfl) ?_
  simp only [pick, List.filterMap_cons, List.filterMap_nil, List.getElem?_cons_zero, List.getElem?_cons_succ, Option.map_some]
  have hS : Blk w1.drew w.heap.size 31 t.cells := k1.drew
  have hw := IntWalk.u64_in (t.ns.length : Int) (by omega)
  refine wpF_take (v := ?_) hS rfl ?_ (fun _ _ _ h => h) ?_
  rotate_left
  · intro w' hS'
    obtain _ := hS'
    go_simp <;> rfl
  go_simp
  refine wpF_take (v := ?_) hS rfl ?_ (fun _ _ _ h => h) ?_
  rotate_left
  · intro w' hS'
    obtain _ := hS'
    go_simp <;> rfl
  go_simp
  refine wpF_take (v := ?_) hS rfl ?_ (fun _ _ _ h => h) ?_
  rotate_left
  · intro w' hS'
    obtain _ := hS'
    go_simp <;> rfl
  go_simp
  refine wpF_take (v := .string (strB t.ns)) hS rfl (fun u hu => by have q0 : u.cell? ⟨w.heap.size, 0, none⟩ = some (.string (strB t.ns)) := hu.cell 0; go_simp <;> rfl) (fun _ _ _ h => h) ?_
  go_simp
  refine wpF_take (v := ?_) hS rfl ?_ (fun _ _ _ h => h) ?_
  rotate_left
  · intro w' hS'
    obtain _ := hS'
    go_simp <;> rfl
  go_simp
  refine wpF_take (v := ?_) hS rfl ?_ (fun _ _ _ h => h) ?_
  rotate_left
  · intro w' hS'
    obtain _ := hS'
    go_simp <;> rfl
  go_simp
  refine wpF_take (v := ?_) hS rfl ?_ (fun _ _ _ h => h) ?_
  rotate_left
  · intro w' hS'
    obtain _ := hS'
    go_simp <;> rfl
  go_simp
  refine wpF_take (v := ?_) hS rfl ?_ (fun _ _ _ h => h) ?_
  rotate_left
  · intro w' hS'
    obtain _ := hS'
    go_simp <;> rfl
  go_simp
  refine wpF_take (v := .string (strB t.ns)) hS rfl (fun u hu => by have q0 : u.cell? ⟨w.heap.size, 0, none⟩ = some (.string (strB t.ns)) := hu.cell 0; go_simp <;> rfl) (fun _ _ _ h => h) ?_
  go_simp
  refine wpF_only rfl (fun K hK => ?_)
  go_wp2_with fail
  refine (short_anyR _ 1 _ _ t.ns.length (w.heap.size + 1) (by omega) _ (show OwnB w1.drew (w.heap.size + 1) 5 _ _ from o1) z1 (by omega)).mono ?_
  rintro e u1 ⟨A2, c2, rfl, p1, g1⟩
  replace hS := Blk.below hS g1 (by omega)
  have y1 : w.heap.size + 1 ≤ u1.heap.size := Nat.le_trans z1 g1.size
  have f1' := f1.drew.trans (g1.mono (by omega))
  generalize hk1 : 1 + (leb t.ns.length).length = m1 at *
  have hm1 : m1 ≤ 1 + 10 := by omega
  have Hm1 := Lib.hid hk1; clear hk1
  go_wp2_with fail
  refine ⟨fun _ => hS, ?_⟩
  go_simp
  refine wpF_only rfl (fun K hK => ?_)
  refine wp_appendS T23 Try.underlying9 rfl (A := A2) (n := m1) (c := c2) rfl p1 (l2 := t.ns) rfl (by omega) (Below.refl (w.heap.size + 1) u1) y1 ?_
  intro A2' c2' w2 o2 h1
  replace hS := Blk.below hS h1 (by omega)
  have z2 : w.heap.size + 1 ≤ w2.heap.size := Nat.le_trans y1 h1.size
  have f2 := f1'.trans (h1.mono (by omega))
  generalize hk1 : m1 + t.ns.length = k2n at *
  have hkb2 : k2n ≤ 1 + 1010 := by omega
  have Hk2 := Lib.hid hk1; clear hk1
  refine hK _ _ ⟨fun _ => hS, ?_⟩
  go_simp
  clear hK
  refine wpF_only rfl (fun K hK => ?_)
  go_wp2_with fail
  refine ⟨fun h => absurd h (by omega), wpF_nil ?_⟩
  have k2 : Blk w2 w.heap.size 31 t.cells := hS
  clear hS p1 g1 h1 f1' y1 o1 k1 f1 z1 hw
  go_upto_region 3 with fail
  refine wp_region_order (fun u => Blk u w.heap.size 31 t.cells) 11 [(0,0), (1,0), (2,0), (3,0), (4,0), (5,0), (7,0), (8,0), (9,0), (6,1), (10,1), (11,2)] (by kernel_rfl) (by kernel_rfl) ?_
  simp only [pick, List.filterMap_cons, List.filterMap_nil, List.getElem?_cons_zero, List.getElem?_cons_succ, Option.map_some]
  have hS : Blk w2.drew w.heap.size 31 t.cells := k2.drew
  have hw := IntWalk.u64_in (t.sa.length : Int) (by omega)
  refine wpF_take (v := ?_) hS rfl ?_ (fun _ _ _ h => h) ?_
  rotate_left
  · intro w' hS'
    obtain _ := hS'
    go_simp <;> rfl
  go_simp
  refine wpF_take (v := ?_) hS rfl ?_ (fun _ _ _ h => h) ?_
  rotate_left
  · intro w' hS'
    obtain _ := hS'
    go_simp <;> rfl
  go_simp
  refine wpF_take (v := ?_) hS rfl ?_ (fun _ _ _ h => h) ?_
  rotate_left
  · intro w' hS'
    obtain _ := hS'
    go_simp <;> rfl
  go_simp
  refine wpF_take (v := .string (strB t.sa)) hS rfl (fun u hu => by have q0 : u.cell? ⟨w.heap.size, 1, none⟩ = some (.string (strB t.sa)) := hu.cell 1; go_simp <;> rfl) (fun _ _ _ h => h) ?_
  go_simp
  refine wpF_take (v := ?_) hS rfl ?_ (fun _ _ _ h => h) ?_
  rotate_left
  · intro w' hS'
    obtain _ := hS'
    go_simp <;> rfl
  go_simp
  refine wpF_take (v := ?_) hS rfl ?_ (fun _ _ _ h => h) ?_
  rotate_left
  · intro w' hS'
    obtain _ := hS'
    go_simp <;> rfl
  go_simp
  refine wpF_take (v := ?_) hS rfl ?_ (fun _ _ _ h => h) ?_
  rotate_left
  · intro w' hS'
    obtain _ := hS'
    go_simp <;> rfl
  go_simp
  refine wpF_take (v := ?_) hS rfl ?_ (fun _ _ _ h => h) ?_
  rotate_left
  · intro w' hS'
    obtain _ := hS'
    go_simp <;> rfl
  go_simp
  refine wpF_take (v := .string (strB t.sa)) hS rfl (fun u hu => by have q0 : u.cell? ⟨w.heap.size, 1, none⟩ = some (.string (strB t.sa)) := hu.cell 1; go_simp <;> rfl) (fun _ _ _ h => h) ?_
  go_simp
  refine wpF_only rfl (fun K hK => ?_)
  go_wp2_with fail
  refine (short_anyR _ k2n _ _ t.sa.length (w.heap.size + 1) (by omega) _ (show OwnB w2.drew (w.heap.size + 1) 5 _ _ from o2) z2 (by omega)).mono ?_
  rintro e u1 ⟨A3, c3, rfl, p2, g2⟩
  replace hS := Blk.below hS g2 (by omega)
  have y2 : w.heap.size + 1 ≤ u1.heap.size := Nat.le_trans z2 g2.size
  have f2' := f2.drew.trans (g2.mono (by omega))
  generalize hk2 : k2n + (leb t.sa.length).length = m2 at *
  have hm2 : m2 ≤ 1011 + 10 := by omega
  have Hm2 := Lib.hid hk2; clear hk2
  go_wp2_with fail
  refine ⟨fun _ => hS, ?_⟩
  go_simp
  refine wpF_only rfl (fun K hK => ?_)
  refine wp_appendS T23 Try.underlying9 rfl (A := A3) (n := m2) (c := c3) rfl p2 (l2 := t.sa) rfl (by omega) (Below.refl (w.heap.size + 1) u1) y2 ?_
  intro A3' c3' w3 o3 h2
  replace hS := Blk.below hS h2 (by omega)
  have z3 : w.heap.size + 1 ≤ w3.heap.size := Nat.le_trans y2 h2.size
  have f3 := f2'.trans (h2.mono (by omega))
  generalize hk2 : m2 + t.sa.length = k3n at *
  have hkb3 : k3n ≤ 1011 + 1010 := by omega
  have Hk3 := Lib.hid hk2; clear hk2
  refine hK _ _ ⟨fun _ => hS, ?_⟩
  go_simp
  clear hK
  refine wpF_only rfl (fun K hK => ?_)
  go_wp2_with fail
  refine ⟨fun h => absurd h (by omega), wpF_nil ?_⟩
  have k3 : Blk w3 w.heap.size 31 t.cells := hS
  clear hS p2 g2 h2 f2' y2 o2 k2 f2 z2 hw
  have q3 : w3.cell? ⟨w.heap.size, 2, none⟩ = some (.int .u64 (t.uid : Int)) := k3.cell 2
  go_wp2_with fail
  refine (short_anyR _ k3n _ _ t.uid (w.heap.size + 1) hu w3 o3 z3 (by omega)).mono ?_
  rintro e w4 ⟨A4, c4, rfl, o4, g3⟩
  have k4 := k3.below g3 (by omega)
  have z4 : w.heap.size + 1 ≤ w4.heap.size := Nat.le_trans z3 g3.size
  have f4 := f3.trans (g3.mono (by omega))
  generalize hk3 : k3n + (leb t.uid).length = k4n at *
  have hkb4 : k4n ≤ 2021 + 10 := by omega
  have Hk4 := Lib.hid hk3; clear hk3
  clear q3 g3 o3 k3 f3 z3
  obtain ⟨hst, hhs⟩ : ∃ q : Nat, t.host = (q : Int) := ⟨t.host.toNat, by omega⟩
  have hnn : t.host.toNat = hst := by omega
  have hst9 : hst ≤ 9 := by omega
  have q4 : w4.cell? ⟨w.heap.size, 3, none⟩ = some (.int .i64 (hst : Int)) := by rw [← hhs]; exact k4.cell 3
  have hw := IntWalk.u64_in (hst : Int) (by omega)
  rw [hnn] at b4
  have Hhs := Lib.hid hhs
  clear hhs h3
  go_wp2_with fail
  clear hw
  refine (short_anyR _ k4n _ _ hst (w.heap.size + 1) (by omega) w4 o4 z4 (by omega)).mono ?_
  rintro e w5 ⟨A5, c5, rfl, o5, g4⟩
  have k5 := k4.below g4 (by omega)
  have z5 : w.heap.size + 1 ≤ w5.heap.size := Nat.le_trans z4 g4.size
  have f5 := f4.trans (g4.mono (by omega))
  generalize hk4 : k4n + (leb hst).length = k5n at *
  have hkb5 : k5n ≤ 2031 + 10 := by omega
  have Hk5 := Lib.hid hk4; clear hk4
  clear q4 g4 o4 k4 f4 z4
  have q5 : w5.cell? ⟨w.heap.size, 4, none⟩ = some (.int .u32 (t.addr : Int)) := k5.cell 4
  have hl4 : RdB (w5.alloc (.cells #[.int .u8 ((t.addr : Int) % 256), .int .u8 ((t.addr : Int) / 256 % 256), .int .u8 ((t.addr : Int) / 65536 % 256), .int .u8 ((t.addr : Int) / 16777216)] 5)) (w5.heap.size + 1) (some ⟨w5.heap.size, 0, none⟩) 4 (le32 t.addr) := by
    have e0 := bv_mod t.addr (t.addr : Int) rfl
    have e1 := bv_mod (t.addr / 256) ((t.addr : Int) / 256) (by omega)
    have e2 := bv_mod (t.addr / 65536) ((t.addr : Int) / 65536) (by omega)
    have e3 := bv_mod (t.addr / 16777216) ((t.addr : Int) / 16777216) (by omega)
    rw [show (t.addr : Int) / 16777216 % 256 = (t.addr : Int) / 16777216 from by omega] at e3
    rw [e0, e1, e2, e3]
    have kk : Blk (w5.alloc (.cells #[bv (UInt8.ofNat t.addr), bv (UInt8.ofNat (t.addr / 256)), bv (UInt8.ofNat (t.addr / 65536)), bv (UInt8.ofNat (t.addr / 16777216))] 5)) w5.heap.size 5 (bvs (le32 t.addr)) := Blk.newAt rfl _ _
    have := kk.rdB (n := 4) rfl
    simpa using this
  go_upto_region 7 with (at_builtin; go_must (refine appendR T23 rfl rfl rfl (o5.alloc _) rfl hl4 (by omega) ((Below.refl (w.heap.size + 1) w5).alloc z5 _) z5 ?_); intro A6 c6 w6 o6 g5 _)
  have k6 := k5.below g5 (by omega)
  have z6 : w.heap.size + 1 ≤ w6.heap.size := Nat.le_trans z5 g5.size
  have f6 := f5.trans (g5.mono (by omega))
  generalize hk5 : k5n + 4 = k6n at *
  have hkb6 : k6n ≤ 2045 := by omega
  have Hk6 := Lib.hid hk5; clear hk5
  clear q5 hl4 g5 o5 k5 f5 z5
  have q6 : w6.cell? ⟨w.heap.size, 5, none⟩ = some (.int .u64 (t.born : Int)) := k6.cell 5
  go_wp2_with fail
  refine (short_anyR _ k6n _ _ t.born (w.heap.size + 1) hb w6 o6 z6 (by omega)).mono ?_
  rintro e w7 ⟨A7, c7, rfl, o7, g6⟩
  have k7 := k6.below g6 (by omega)
  have z7 : w.heap.size + 1 ≤ w7.heap.size := Nat.le_trans z6 g6.size
  have f7 := f6.trans (g6.mono (by omega))
  generalize hk6 : k6n + (leb t.born).length = k7n at *
  have hkb7 : k7n ≤ 2045 + 10 := by omega
  have Hk7 := Lib.hid hk6; clear hk6
  clear q6 g6 o6 k6 f6 z6
  have q7 : w7.cell? ⟨w.heap.size, 6, none⟩ = some (.int .u64 (t.till : Int)) := k7.cell 6
  go_wp2_with fail
  refine (short_anyR _ k7n _ _ t.till (w.heap.size + 1) hti w7 o7 z7 (by omega)).mono ?_
  rintro e w8 ⟨A8, c8, rfl, o8, g7⟩
  have k8 := k7.below g7 (by omega)
  have z8 : w.heap.size + 1 ≤ w8.heap.size := Nat.le_trans z7 g7.size
  have f8 := f7.trans (g7.mono (by omega))
  generalize hk7 : k7n + (leb t.till).length = k8n at *
  have hkb8 : k8n ≤ 2055 + 10 := by omega
  have Hk8 := Lib.hid hk7; clear hk7
  clear q7 g7 o7 k7 f7 z7
  have q8 : w8.cell? ⟨w.heap.size, 7, none⟩ = some (.int .u64 (t.key : Int)) := k8.cell 7
  go_wp2_with fail
  refine (short_anyR _ k8n _ _ t.key (w.heap.size + 1) hke w8 o8 z8 (by omega)).mono ?_
  rintro e w9 ⟨A9, c9, rfl, o9, g8⟩
  have f9 := f8.trans (g8.mono (by omega))
  have hsd : [] ++ [1] ++ leb t.ns.length ++ t.ns ++ leb t.sa.length ++ t.sa ++ leb t.uid ++ leb hst ++ le32 t.addr ++ leb t.born ++ leb t.till ++ leb t.key = saidB t := by
    unfold saidB lebs
    simp only [List.flatMap_cons, List.flatMap_nil, List.append_nil, List.append_assoc, hnn]
  rw [hsd] at o9
  have hll := o9.len
  go_wp2_with fail
  go_ret
  exact ⟨A9, c9, by rw [hll]; rfl, by rw [hll]; exact o9.base_le (by omega), f9⟩
end Go.Proofs.Ytgefbgjgcjiceaa
