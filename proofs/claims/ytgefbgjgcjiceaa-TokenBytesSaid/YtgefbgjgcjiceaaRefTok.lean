/- The document's short numbers; a text behind bytes. Condition: not many bytes. What the document says of a token; its Sign. Condition: labels of 1000 bytes at most, a host from 0 to 9. The document's Sign. Condition: labels of 1000 bytes at most, a host from 0 to 9; the root of 2^40 bytes at most. The document's Issue. Condition: labels of 1000 bytes at most; the root of 2^40 bytes at most. -/
import Derived.Test.YtgefbgjgcjiceaaTokSs
import Derived.Test.YtgefbgjgcjiceaaOrder
import Derived.Lib.AppendStr
import Derived.Test.YtgefbgjgcjiceaaTokIssue
namespace Go.Proofs.Ytgefbgjgcjiceaa
open Go.RowKit
set_option linter.unusedVariables false
set_option linter.unusedSimpArgs false
theorem or_128 (n : Nat) (h : n < 18446744073709551616) : bits .or .u64 (bits .and .u64 (n : Int) 127) 128 = ((n % 128 + 128 : Nat) : Int) := by
  have h1 := u64_and_nat n 127 h (by omega)
  rw [show (127 : Nat) = 2 ^ 7 - 1 from rfl, Nat.and_two_pow_sub_one_eq_mod] at h1
  have h2 := u64_or_nat (n % 2 ^ 7) 128 (by omega) (by omega)
  rw [Nat.or_comm, show (128 : Nat) = 2 ^ 7 * 1 from rfl, ← Nat.two_pow_add_eq_or_of_lt (by omega)] at h2
  rw [show ((2 ^ 7 - 1 : Nat) : Int) = 127 from rfl] at h1
  rw [h1]
  rw [show ((2 ^ 7 * 1 : Nat) : Int) = 128 from rfl] at h2
  rw [h2]
  omega
theorem OwnB.nn {w : World} {base e : Nat} {A : Option Addr} {n n' c : Nat} {l : List UInt8} (h : OwnB w base e (.slice A n c) l) (hn : n = n') : OwnB w base e (.slice A n' c) l := hn ▸ h
theorem wp_appendS {P : Program} {t u e : TypeId} (T : ByteTy P t e) (hu : P.underlying u = some .string) {o : Oper} {a : Act} {K : Act → World → Prop} {Q : Exit → Act → World → Prop} {w0 w : World}
    {s x : Operand} (ho : o.op = .call { callee := .builtin .append, args := #[s, x], argTypes := #[t, u] })
    {base : Nat} {A : Option Addr} {n c : Nat} {l : List UInt8} (hs : a.eval s = .slice A n c) (hown : OwnB w base e (.slice A n c) l)
    {l2 : List UInt8} (hx : a.eval x = .string (strB l2)) (hlen : n + l2.length ≤ 140737488355328) (hB : Below base w0 w) (hbase : base ≤ w0.heap.size)
    (h : ∀ A' c' w', OwnB w' base e (.slice A' (n + l2.length) c') (l ++ l2) → Below base w0 w' → K (a.put o.dst (.slice A' (n + l2.length) c')) w') : o.wp P a w K Q := by
  obtain ⟨i, hi, hz0, hz1, hz2⟩ := info_parts T.info
  have hl := hown.len
  obtain ⟨v', w', hr, h2, h3, h4⟩ := Go.Lib.run_append_own_string (P := P) w base t u o.type e i T.sl hu hi hz0 hz1 hz2 (.slice A n c) n (bvs l) (by have := hown; unfold OwnB at this; rw [hl] at this; exact this) (strB l2) (by rw [strB_size]; simp only [maxLen]; omega) (by rw [strB_size]; exact hlen) (Nat.le_trans hbase hB.size)
  have hc : Go.Lib.strCells (strB l2) = bvs l2 := by simp [Go.Lib.strCells, strB, bvs, bv]
  rw [hc, ← bvs_append, strB_size] at h2
  obtain ⟨A', c', rfl⟩ := OwnB.form h2
  unfold Oper.wp execOp
  simp only [ho, resolve, invoke, builtin, Sem.run_bind, Sem.run_pure, Result.andThen_ok, List.map_toArray, List.map_cons, List.map_nil, hs, hx, hr]
  refine h A' c' w' ?_ (hB.grown h3 (Nat.le_trans hbase hB.size) (fun k hk => (World.ownsRow.lt hown k hk).1))
  unfold OwnB
  rw [List.length_append, hl]
  exact h2
set_option maxRecDepth 100000 in
set_option maxHeartbeats 1000000 in
theorem short_anyR (A : Option Addr) (k c : Nat) (l : List UInt8) (n base : Nat) (hn : n < 18446744073709551616) (w : World) (h : OwnB w base 5 (.slice A k c) l) (hb : base ≤ w.heap.size) (hk : k ≤ 1000000) :
    Calls Try.prog 63 #[.slice A k c, .int .u64 n] w fun e w' => ∃ A' c', e = .returned (.slice A' (k + (leb n).length) c') ∧ OwnB w' base 5 (.slice A' (k + (leb n).length) c') (l ++ leb n) ∧ Below base w w' := by
  have hle := leb_le n hn
  have hlk := h.len
  generalize hT : l ++ leb n = T at *
  have hTl : T.length = k + (leb n).length := by rw [← hT, List.length_append, hlk]
  generalize hk2 : k + (leb n).length = kk at *
  have hkk : kk ≤ 1000010 := by omega
  have HT := Lib.hid hT; clear hT
  have HTl := Lib.hid hTl; clear hTl hle hlk hk2
  have Hkk := Lib.hid hkk; clear hkk
  go_enter Try.func63, Try.ntmps63
  go_wp2_with fail
  go_loopw [0, 1] (fun s0 s1 wr => ∃ (A1 : Option Addr) (k1 c1 : Nat) (l1 : List UInt8) (n1 : Nat), s0 = .slice A1 k1 c1 ∧ s1 = .int .u64 n1 ∧ n1 < 18446744073709551616 ∧ l1 ++ leb n1 = T ∧ OwnB wr base 5 (.slice A1 k1 c1) l1 ∧ Below base w wr) (fun _ s1 _ => (intOf s1).toNat)
  case atStart => exact ⟨A, k, c, l, n, rfl, rfl, hn, HT.out, h, Below.refl _ w⟩
  case round =>
    obtain ⟨A1, k1, c1, l1, n1, rfl, rfl, hn1, hl1, ow, f1⟩ := hrel
    have hk1 : k1 < 140737488355328 := by
      have e1 := HTl.out
      have e2 := ow.len
      have e3 := Hkk.out
      rw [← hl1, List.length_append] at e1
      omega
    have Hl1 := Lib.hid hl1; clear hl1
    by_cases hlt : 128 ≤ n1
    · have d1 : decide ((128 : Int) ≤ (n1 : Int)) = true := by simp; omega
      have hor := or_128 n1 hn1
      have hst := leb_step hlt (by omega)
      have Hst := Lib.hid hst; clear hst
      go_wp2_with (at_builtin; go_must (refine append1 T23 rfl rfl (UInt8.ofNat (n1 % 128 + 128)) (by simp only [bv]; congr 1; rw [UInt8.toNat_ofNat']; omega) rfl rfl ow hk1 f1 hb ?_); intro g' c' w4 ow4 f4 hg)
      go_roundw
      case rel => exact ⟨_, k1 + 1, c', l1 ++ [UInt8.ofNat (n1 % 128 + 128)], n1 / 128, rfl, by go_num, by omega, by rw [List.append_assoc, List.singleton_append, ← Hst.out]; exact Hl1.out, ow4, f4⟩
      case measure => simp only [intOf]; omega
    · have d1 : decide ((128 : Int) ≤ (n1 : Int)) = false := by simp; omega
      have hsm := leb_small (x := n1) (by omega)
      have hl2 : l1 ++ [UInt8.ofNat n1] = T := by rw [← hsm]; exact Hl1.out
      have hkk : k1 + 1 = kk := by
        have e1 := HTl.out
        have e2 := ow.len
        rw [← hl2, List.length_append] at e1
        simp at e1
        omega
      have Hl2 := Lib.hid hl2; clear hl2 hsm
      have Hkq := Lib.hid hkk; clear hkk
      go_wp2_with (at_builtin; go_must (refine append1 T23 rfl rfl (UInt8.ofNat n1) (by simp only [bv]; congr 1; rw [UInt8.toNat_ofNat']; omega) rfl rfl ow hk1 f1 hb ?_); intro g' c' w4 ow4 f4 hg)
      go_ret
      exact ⟨some ⟨g', 0, none⟩, c', by rw [← Hkq.out]; rfl, by rw [← Hl2.out]; exact ow4.nn Hkq.out, f4⟩
end Go.Proofs.Ytgefbgjgcjiceaa
namespace Go.Proofs.Ytgefbgjgcjiceaa
open Go.RowKit
set_option linter.unusedVariables false
set_option linter.unusedSimpArgs false
attribute [local irreducible] leb
theorem OwnB.blkne {w : World} {base e g t : Nat} {v : Value} {l : List UInt8} (h : OwnB w base e v l) (hg : g < base) : v.ownBlock ≠ some g := fun hb => by
  have := (World.ownsRow.lt h g hb).1
  omega
set_option maxRecDepth 100000 in
set_option maxHeartbeats 4000000 in
theorem refSaid_any (t : Tk) (ht : t.ok) (h1 : t.ns.length ≤ 1000) (h2 : t.sa.length ≤ 1000) (h3 : 0 ≤ t.host ∧ t.host ≤ 9) (w : World) :
    Calls Try.prog 41 #[t.v] w fun e w' => ∃ A c, e = .returned (.slice A (saidB t).length c) ∧ OwnB w' w.heap.size 5 (.slice A (saidB t).length c) (saidB t) ∧ Below w.heap.size w w' := by
  have hu := ht.uid
  have ha := ht.addr
  have hb := ht.born
  have hti := ht.till
  have hke := ht.key
  have b1 := leb_le t.ns.length (by omega)
  have b2 := leb_le t.sa.length (by omega)
  have b3 := leb_le t.uid hu
  have b4 := leb_le t.host.toNat (by omega)
  have b5 := leb_le t.born hb
  have b6 := leb_le t.till hti
  have hl32 : (le32 t.addr).length = 4 := rfl
  have sz1 : (strB t.ns).size = t.ns.length := strB_size _
  have sz2 : (strB t.sa).size = t.sa.length := strB_size _
  unfold Tk.v
  go_enter Try.func41, Try.ntmps41
  go_upto_region 2 with fail
  refine abs (fun w1 => Blk w1 w.heap.size 31 t.cells ∧ OwnB w1 (w.heap.size + 1) 5 (.slice (some ⟨w.heap.size + 1, 0, none⟩) 1 1) ([] ++ [1]) ∧ w.heap.size + 1 ≤ w1.heap.size ∧ Below w.heap.size w w1) ⟨(Blk.of_new w _ _).alloc _, OwnB.of_blk (Blk.newAt (by simp) _ _) (Nat.le_refl _) rfl (by decide), by simp, ((Below.refl _ w).alloc (Nat.le_refl _) _).alloc (by simp) _⟩ ?_
  rintro w1 ⟨k1, o1, z1, f1⟩
  refine wp_region_order (fun u => Blk u w.heap.size 31 t.cells) 11 [(0,0), (1,0), (2,0), (3,0), (4,0), (5,0), (7,0), (8,0), (9,0), (6,1), (10,1), (11,2)] (by kernel_rfl) (by kernel_rfl) ?_
  simp only [pick, List.filterMap_cons, List.filterMap_nil, List.getElem?_cons_zero, List.getElem?_cons_succ, Option.map_some]
  have hS : Blk w1.drew w.heap.size 31 t.cells := k1.drew
  have hw := IntWalk.u64_in (t.ns.length : Int) (by omega)
  refine wpF_take (v := ?_) hS rfl ?_ (fun _ _ _ h => h) ?_
  rotate_left
  · intro w' hS'
    obtain _ := hS'
    go_simp <;> rfl
  go_simp
  refine wpF_take (v := ?_) hS rfl ?_ (fun _ _ _ h => h) ?_
  rotate_left
  · intro w' hS'
    obtain _ := hS'
    go_simp <;> rfl
  go_simp
  refine wpF_take (v := ?_) hS rfl ?_ (fun _ _ _ h => h) ?_
  rotate_left
  · intro w' hS'
    obtain _ := hS'
    go_simp <;> rfl
  go_simp
  refine wpF_take (v := .string (strB t.ns)) hS rfl (fun u hu => by have q0 : u.cell? ⟨w.heap.size, 0, none⟩ = some (.string (strB t.ns)) := hu.cell 0; go_simp <;> rfl) (fun _ _ _ h => h) ?_
  go_simp
  refine wpF_take (v := ?_) hS rfl ?_ (fun _ _ _ h => h) ?_
  rotate_left
  · intro w' hS'
    obtain _ := hS'
    go_simp <;> rfl
  go_simp
  refine wpF_take (v := ?_) hS rfl ?_ (fun _ _ _ h => h) ?_
  rotate_left
  · intro w' hS'
    obtain _ := hS'
    go_simp <;> rfl
  go_simp
  refine wpF_take (v := ?_) hS rfl ?_ (fun _ _ _ h => h) ?_
  rotate_left
  · intro w' hS'
    obtain _ := hS'
    go_simp <;> rfl
  go_simp
  refine wpF_take (v := ?_) hS rfl ?_ (fun _ _ _ h => h) ?_
  rotate_left
  · intro w' hS'
    obtain _ := hS'
    go_simp <;> rfl
  go_simp
  refine wpF_take (v := .string (strB t.ns)) hS rfl (fun u hu => by have q0 : u.cell? ⟨w.heap.size, 0, none⟩ = some (.string (strB t.ns)) := hu.cell 0; go_simp <;> rfl) (fun _ _ _ h => h) ?_
  go_simp
  refine wpF_only rfl (fun K hK => ?_)
  go_wp2_with fail
  refine (short_anyR _ 1 _ _ t.ns.length (w.heap.size + 1) (by omega) _ (show OwnB w1.drew (w.heap.size + 1) 5 _ _ from o1) z1 (by omega)).mono ?_
  rintro e u1 ⟨A2, c2, rfl, p1, g1⟩
  replace hS := Blk.below hS g1 (by omega)
  have y1 : w.heap.size + 1 ≤ u1.heap.size := Nat.le_trans z1 g1.size
  have f1' := f1.drew.trans (g1.mono (by omega))
  generalize hk1 : 1 + (leb t.ns.length).length = m1 at *
  have hm1 : m1 ≤ 1 + 10 := by omega
  have Hm1 := Lib.hid hk1; clear hk1
  go_wp2_with fail
  refine ⟨fun _ => hS, ?_⟩
  go_simp
  refine wpF_only rfl (fun K hK => ?_)
  refine wp_appendS T23 Try.underlying9 rfl (A := A2) (n := m1) (c := c2) rfl p1 (l2 := t.ns) rfl (by omega) (Below.refl (w.heap.size + 1) u1) y1 ?_
  intro A2' c2' w2 o2 h1
  replace hS := Blk.below hS h1 (by omega)
  have z2 : w.heap.size + 1 ≤ w2.heap.size := Nat.le_trans y1 h1.size
  have f2 := f1'.trans (h1.mono (by omega))
  generalize hk1 : m1 + t.ns.length = k2n at *
  have hkb2 : k2n ≤ 1 + 1010 := by omega
  have Hk2 := Lib.hid hk1; clear hk1
  refine hK _ _ ⟨fun _ => hS, ?_⟩
  go_simp
  clear hK
  refine wpF_only rfl (fun K hK => ?_)
  go_wp2_with fail
  refine ⟨fun h => absurd h (by omega), wpF_nil ?_⟩
  have k2 : Blk w2 w.heap.size 31 t.cells := hS
  clear hS p1 g1 h1 f1' y1 o1 k1 f1 z1 hw
  go_upto_region 3 with fail
  refine wp_region_order (fun u => Blk u w.heap.size 31 t.cells) 11 [(0,0), (1,0), (2,0), (3,0), (4,0), (5,0), (7,0), (8,0), (9,0), (6,1), (10,1), (11,2)] (by kernel_rfl) (by kernel_rfl) ?_
  simp only [pick, List.filterMap_cons, List.filterMap_nil, List.getElem?_cons_zero, List.getElem?_cons_succ, Option.map_some]
  have hS : Blk w2.drew w.heap.size 31 t.cells := k2.drew
  have hw := IntWalk.u64_in (t.sa.length : Int) (by omega)
  refine wpF_take (v := ?_) hS rfl ?_ (fun _ _ _ h => h) ?_
  rotate_left
  · intro w' hS'
    obtain _ := hS'
    go_simp <;> rfl
  go_simp
  refine wpF_take (v := ?_) hS rfl ?_ (fun _ _ _ h => h) ?_
  rotate_left
  · intro w' hS'
    obtain _ := hS'
    go_simp <;> rfl
  go_simp
  refine wpF_take (v := ?_) hS rfl ?_ (fun _ _ _ h => h) ?_
  rotate_left
  · intro w' hS'
    obtain _ := hS'
    go_simp <;> rfl
  go_simp
  refine wpF_take (v := .string (strB t.sa)) hS rfl (fun u hu => by have q0 : u.cell? ⟨w.heap.size, 1, none⟩ = some (.string (strB t.sa)) := hu.cell 1; go_simp <;> rfl) (fun _ _ _ h => h) ?_
  go_simp
  refine wpF_take (v := ?_) hS rfl ?_ (fun _ _ _ h => h) ?_
  rotate_left
  · intro w' hS'
    obtain _ := hS'
    go_simp <;> rfl
  go_simp
  refine wpF_take (v := ?_) hS rfl ?_ (fun _ _ _ h => h) ?_
  rotate_left
  · intro w' hS'
    obtain _ := hS'
    go_simp <;> rfl
  go_simp
  refine wpF_take (v := ?_) hS rfl ?_ (fun _ _ _ h => h) ?_
  rotate_left
  · intro w' hS'
    obtain _ := hS'
    go_simp <;> rfl
  go_simp
  refine wpF_take (v := ?_) hS rfl ?_ (fun _ _ _ h => h) ?_
  rotate_left
  · intro w' hS'
    obtain _ := hS'
    go_simp <;> rfl
  go_simp
  refine wpF_take (v := .string (strB t.sa)) hS rfl (fun u hu => by have q0 : u.cell? ⟨w.heap.size, 1, none⟩ = some (.string (strB t.sa)) := hu.cell 1; go_simp <;> rfl) (fun _ _ _ h => h) ?_
  go_simp
  refine wpF_only rfl (fun K hK => ?_)
  go_wp2_with fail
  refine (short_anyR _ k2n _ _ t.sa.length (w.heap.size + 1) (by omega) _ (show OwnB w2.drew (w.heap.size + 1) 5 _ _ from o2) z2 (by omega)).mono ?_
  rintro e u1 ⟨A3, c3, rfl, p2, g2⟩
  replace hS := Blk.below hS g2 (by omega)
  have y2 : w.heap.size + 1 ≤ u1.heap.size := Nat.le_trans z2 g2.size
  have f2' := f2.drew.trans (g2.mono (by omega))
  generalize hk2 : k2n + (leb t.sa.length).length = m2 at *
  have hm2 : m2 ≤ 1011 + 10 := by omega
  have Hm2 := Lib.hid hk2; clear hk2
  go_wp2_with fail
  refine ⟨fun _ => hS, ?_⟩
  go_simp
  refine wpF_only rfl (fun K hK => ?_)
  refine wp_appendS T23 Try.underlying9 rfl (A := A3) (n := m2) (c := c3) rfl p2 (l2 := t.sa) rfl (by omega) (Below.refl (w.heap.size + 1) u1) y2 ?_
  intro A3' c3' w3 o3 h2
  replace hS := Blk.below hS h2 (by omega)
  have z3 : w.heap.size + 1 ≤ w3.heap.size := Nat.le_trans y2 h2.size
  have f3 := f2'.trans (h2.mono (by omega))
  generalize hk2 : m2 + t.sa.length = k3n at *
  have hkb3 : k3n ≤ 1011 + 1010 := by omega
  have Hk3 := Lib.hid hk2; clear hk2
  refine hK _ _ ⟨fun _ => hS, ?_⟩
  go_simp
  clear hK
  refine wpF_only rfl (fun K hK => ?_)
  go_wp2_with fail
  refine ⟨fun h => absurd h (by omega), wpF_nil ?_⟩
  have k3 : Blk w3 w.heap.size 31 t.cells := hS
  clear hS p2 g2 h2 f2' y2 o2 k2 f2 z2 hw
  have q3 : w3.cell? ⟨w.heap.size, 2, none⟩ = some (.int .u64 (t.uid : Int)) := k3.cell 2
  go_wp2_with fail
  refine (short_anyR _ k3n _ _ t.uid (w.heap.size + 1) hu w3 o3 z3 (by omega)).mono ?_
  rintro e w4 ⟨A4, c4, rfl, o4, g3⟩
  have k4 := k3.below g3 (by omega)
  have z4 : w.heap.size + 1 ≤ w4.heap.size := Nat.le_trans z3 g3.size
  have f4 := f3.trans (g3.mono (by omega))
  generalize hk3 : k3n + (leb t.uid).length = k4n at *
  have hkb4 : k4n ≤ 2021 + 10 := by omega
  have Hk4 := Lib.hid hk3; clear hk3
  clear q3 g3 o3 k3 f3 z3
  obtain ⟨hst, hhs⟩ : ∃ q : Nat, t.host = (q : Int) := ⟨t.host.toNat, by omega⟩
  have hnn : t.host.toNat = hst := by omega
  have hst9 : hst ≤ 9 := by omega
  have q4 : w4.cell? ⟨w.heap.size, 3, none⟩ = some (.int .i64 (hst : Int)) := by rw [← hhs]; exact k4.cell 3
  have hw := IntWalk.u64_in (hst : Int) (by omega)
  rw [hnn] at b4
  have Hhs := Lib.hid hhs
  clear hhs h3
  go_wp2_with fail
  clear hw
  refine (short_anyR _ k4n _ _ hst (w.heap.size + 1) (by omega) w4 o4 z4 (by omega)).mono ?_
  rintro e w5 ⟨A5, c5, rfl, o5, g4⟩
  have k5 := k4.below g4 (by omega)
  have z5 : w.heap.size + 1 ≤ w5.heap.size := Nat.le_trans z4 g4.size
  have f5 := f4.trans (g4.mono (by omega))
  generalize hk4 : k4n + (leb hst).length = k5n at *
  have hkb5 : k5n ≤ 2031 + 10 := by omega
  have Hk5 := Lib.hid hk4; clear hk4
  clear q4 g4 o4 k4 f4 z4
  have q5 : w5.cell? ⟨w.heap.size, 4, none⟩ = some (.int .u32 (t.addr : Int)) := k5.cell 4
  have hl4 : RdB (w5.alloc (.cells #[.int .u8 ((t.addr : Int) % 256), .int .u8 ((t.addr : Int) / 256 % 256), .int .u8 ((t.addr : Int) / 65536 % 256), .int .u8 ((t.addr : Int) / 16777216)] 5)) (w5.heap.size + 1) (some ⟨w5.heap.size, 0, none⟩) 4 (le32 t.addr) := by
    have e0 := bv_mod t.addr (t.addr : Int) rfl
    have e1 := bv_mod (t.addr / 256) ((t.addr : Int) / 256) (by omega)
    have e2 := bv_mod (t.addr / 65536) ((t.addr : Int) / 65536) (by omega)
    have e3 := bv_mod (t.addr / 16777216) ((t.addr : Int) / 16777216) (by omega)
    rw [show (t.addr : Int) / 16777216 % 256 = (t.addr : Int) / 16777216 from by omega] at e3
    rw [e0, e1, e2, e3]
    have kk : Blk (w5.alloc (.cells #[bv (UInt8.ofNat t.addr), bv (UInt8.ofNat (t.addr / 256)), bv (UInt8.ofNat (t.addr / 65536)), bv (UInt8.ofNat (t.addr / 16777216))] 5)) w5.heap.size 5 (bvs (le32 t.addr)) := Blk.newAt rfl _ _
    have := kk.rdB (n := 4) rfl
    simpa using this
  go_upto_region 7 with (at_builtin; go_must (refine appendR T23 rfl rfl rfl (o5.alloc _) rfl hl4 (by omega) ((Below.refl (w.heap.size + 1) w5).alloc z5 _) z5 ?_); intro A6 c6 w6 o6 g5 _)
  have k6 := k5.below g5 (by omega)
  have z6 : w.heap.size + 1 ≤ w6.heap.size := Nat.le_trans z5 g5.size
  have f6 := f5.trans (g5.mono (by omega))
  generalize hk5 : k5n + 4 = k6n at *
  have hkb6 : k6n ≤ 2045 := by omega
  have Hk6 := Lib.hid hk5; clear hk5
  clear q5 hl4 g5 o5 k5 f5 z5
  have q6 : w6.cell? ⟨w.heap.size, 5, none⟩ = some (.int .u64 (t.born : Int)) := k6.cell 5
  go_wp2_with fail
  refine (short_anyR _ k6n _ _ t.born (w.heap.size + 1) hb w6 o6 z6 (by omega)).mono ?_
  rintro e w7 ⟨A7, c7, rfl, o7, g6⟩
  have k7 := k6.below g6 (by omega)
  have z7 : w.heap.size + 1 ≤ w7.heap.size := Nat.le_trans z6 g6.size
  have f7 := f6.trans (g6.mono (by omega))
  generalize hk6 : k6n + (leb t.born).length = k7n at *
  have hkb7 : k7n ≤ 2045 + 10 := by omega
  have Hk7 := Lib.hid hk6; clear hk6
  clear q6 g6 o6 k6 f6 z6
  have q7 : w7.cell? ⟨w.heap.size, 6, none⟩ = some (.int .u64 (t.till : Int)) := k7.cell 6
  go_wp2_with fail
  refine (short_anyR _ k7n _ _ t.till (w.heap.size + 1) hti w7 o7 z7 (by omega)).mono ?_
  rintro e w8 ⟨A8, c8, rfl, o8, g7⟩
  have k8 := k7.below g7 (by omega)
  have z8 : w.heap.size + 1 ≤ w8.heap.size := Nat.le_trans z7 g7.size
  have f8 := f7.trans (g7.mono (by omega))
  generalize hk7 : k7n + (leb t.till).length = k8n at *
  have hkb8 : k8n ≤ 2055 + 10 := by omega
  have Hk8 := Lib.hid hk7; clear hk7
  clear q7 g7 o7 k7 f7 z7
  have q8 : w8.cell? ⟨w.heap.size, 7, none⟩ = some (.int .u64 (t.key : Int)) := k8.cell 7
  go_wp2_with fail
  refine (short_anyR _ k8n _ _ t.key (w.heap.size + 1) hke w8 o8 z8 (by omega)).mono ?_
  rintro e w9 ⟨A9, c9, rfl, o9, g8⟩
  have f9 := f8.trans (g8.mono (by omega))
  have hsd : [] ++ [1] ++ leb t.ns.length ++ t.ns ++ leb t.sa.length ++ t.sa ++ leb t.uid ++ leb hst ++ le32 t.addr ++ leb t.born ++ leb t.till ++ leb t.key = saidB t := by
    unfold saidB lebs
    simp only [List.flatMap_cons, List.flatMap_nil, List.append_nil, List.append_assoc, hnn]
  rw [hsd] at o9
  have hll := o9.len
  go_wp2_with fail
  go_ret
  exact ⟨A9, c9, by rw [hll]; rfl, by rw [hll]; exact o9.base_le (by omega), f9⟩
end Go.Proofs.Ytgefbgjgcjiceaa
namespace Go.Proofs.Ytgefbgjgcjiceaa
open Go.RowKit
set_option linter.unusedVariables false
set_option linter.unusedSimpArgs false
attribute [local irreducible] saidB derB
set_option maxRecDepth 100000 in
set_option maxHeartbeats 2000000 in
theorem sign_any (A : Option Addr) (n c o m : Nat) (root : List UInt8) (t : Tk) (ht : t.ok) (h1 : t.ns.length ≤ 1000) (h2 : t.sa.length ≤ 1000) (h3 : 0 ≤ t.host ∧ t.host ≤ 9) (w : World) (hr : RdB w w.heap.size A n root) (hn : n ≤ 1099511627776) :
    Calls Try.prog 29 #[rgV A n c o m, t.v] w fun e w' => e = .returned (.agg (bvs (sigB root t)).toArray) ∧ Below w.heap.size w w' := by
  have hsl := saidB_le t ht h1 h2 h3
  have hke := ht.key
  have hit : (Try.prog.info? 31).map (·.size) = some t.cells.length := by rw [t.len ht.mac]; kernel_rfl
  have Hit := Lib.hid hit; clear hit
  have hi32 : (Try.prog.info? 29).map (·.size) = some (bvs (sigB root t)).length := by rw [bvs_length, sigB_length]; kernel_rfl
  have Hi32 := Lib.hid hi32; clear hi32
  have hz32 : (bvs (List.replicate 32 0)).length = (bvs (sigB root t)).length := by rw [bvs_length, bvs_length, sigB_length]; rfl
  have Hz32 := Lib.hid hz32; clear hz32
  have htv : t.v = .agg t.cells.toArray := rfl
  rw [htv]
  unfold rgV
  go_enter Try.func29, Try.ntmps29
  go_upto_region 1 with fail
  refine abs (fun w1 => (Blk w1 w.heap.size 25 [.slice A n c, .int .u64 (o : Int), .int .u64 (m : Int)] ∧ Blk w1 (w.heap.size + 1) 31 t.cells) ∧ Blk w1 (w.heap.size + 2) 29 (bvs (List.replicate 32 0)) ∧ Below w.heap.size w w1) ⟨⟨((Blk.of_new w _ _).alloc _).alloc _, (Blk.newAt (by simp) _ _).alloc _⟩, Blk.newAt (by simp) _ _, (((Below.refl _ w).alloc (Nat.le_refl _) _).alloc (by simp) _).alloc (by simp; omega) _⟩ ?_
  rintro w1 ⟨hS0, k3, f1⟩
  refine wp_region_order (fun u => Blk u w.heap.size 25 [.slice A n c, .int .u64 (o : Int), .int .u64 (m : Int)] ∧ Blk u (w.heap.size + 1) 31 t.cells) 8 [(0,0), (1,0), (2,0), (3,0), (5,0), (4,1), (6,1), (7,1), (8,2)] (by kernel_rfl) (by kernel_rfl) ?_
  simp only [pick, List.filterMap_cons, List.filterMap_nil, List.getElem?_cons_zero, List.getElem?_cons_succ, Option.map_some]
  have hS : Blk w1.drew w.heap.size 25 [.slice A n c, .int .u64 (o : Int), .int .u64 (m : Int)] ∧ Blk w1.drew (w.heap.size + 1) 31 t.cells := hS0
  clear hS0
  refine wpF_take (v := ?_) hS rfl ?_ (fun _ _ _ h => h) ?_
  rotate_left
  · intro w' hS'
    obtain _ := hS'
    go_simp <;> rfl
  go_simp
  refine wpF_take (v := .slice A n c) hS rfl (fun u hu => by have q0 : u.cell? ⟨w.heap.size, 0, none⟩ = some (.slice A n c) := hu.1.cell 0; go_simp <;> rfl) (fun _ _ _ h => h) ?_
  go_simp
  refine wpF_take (v := ?_) hS rfl ?_ (fun _ _ _ h => h) ?_
  rotate_left
  · intro w' hS'
    obtain _ := hS'
    go_simp <;> rfl
  go_simp
  refine wpF_take (v := .int .u64 (t.key : Int)) hS rfl (fun u hu => by have q0 : u.cell? ⟨w.heap.size + 1, 7, none⟩ = some (.int .u64 (t.key : Int)) := hu.2.cell 7; go_simp <;> rfl) (fun _ _ _ h => h) ?_
  go_simp
  refine wpF_load hS rfl 31 (.tmp 3) rfl rfl (fun _ h => h.2.whole) Try.underlying31 Hit.out (fun _ _ _ h => h) ?_
  go_simp
  have z1 := f1.size
  have l1 := hS.1.lt
  have l2 := hS.2.lt
  have l3 := k3.lt
  refine wpF_only rfl (fun K hK => ?_)
  go_wp2_with fail
  refine (refDerive_any A n c root [99, 97] t.key w1.drew ((hr.below f1.drew).more f1.drew.size) (by omega) (by simp) hke).mono ?_
  rintro e w2 ⟨A2, c2, rfl, o2, f2⟩
  replace hS : Blk w2 w.heap.size 25 [.slice A n c, .int .u64 (o : Int), .int .u64 (m : Int)] ∧ Blk w2 (w.heap.size + 1) 31 t.cells := ⟨hS.1.below f2 l1, hS.2.below f2 l2⟩
  have k32 : Blk w2 (w.heap.size + 2) 29 (bvs (List.replicate 32 0)) := k3.drew.below f2 l3
  have f12 := f1.drew.trans (f2.mono z1)
  have z2 := f12.size
  have l32 := k32.lt
  go_wp2_with fail
  refine ⟨fun _ => hS, ?_⟩
  go_simp
  refine wpF_only rfl (fun K hK => ?_)
  go_wp2_with fail
  rw [← htv]
  refine (refSaid_any t ht h1 h2 h3 w2).mono ?_
  rintro e w3 ⟨A3, c3, rfl, o3, f3⟩
  have o23 := o2.rd.below f3
  replace hS : Blk w3 w.heap.size 25 [.slice A n c, .int .u64 (o : Int), .int .u64 (m : Int)] ∧ Blk w3 (w.heap.size + 1) 31 t.cells := ⟨hS.1.below f3 hS.1.lt, hS.2.below f3 hS.2.lt⟩
  have k33 : Blk w3 (w.heap.size + 2) 29 (bvs (List.replicate 32 0)) := k32.below f3 l32
  have f13 := f12.trans (f3.mono z2)
  have l33 := k33.lt
  go_wp2_with fail
  refine ⟨fun _ => hS, ?_⟩
  go_simp
  refine wpF_only rfl (fun K hK => ?_)
  go_wp2_with fail
  refine (refMac_any A2 32 c2 _ A3 (saidB t).length c3 (saidB t) w3 (o23.more f3.size) o3.rd (by omega) (by omega)).mono ?_
  rintro e w4 ⟨rfl, f4⟩
  rw [show macB (macB root (derB [99, 97] t.key)) (saidB t) = sigB root t from rfl]
  replace hS : Blk w4 w.heap.size 25 [.slice A n c, .int .u64 (o : Int), .int .u64 (m : Int)] ∧ Blk w4 (w.heap.size + 1) 31 t.cells := ⟨hS.1.below f4 hS.1.lt, hS.2.below f4 hS.2.lt⟩
  have k34 : Blk w4 (w.heap.size + 2) 29 (bvs (List.replicate 32 0)) := k33.below f4 l33
  have f14 := f13.trans (f4.mono f13.size)
  go_wp2_with fail
  refine ⟨fun _ => hS, ?_⟩
  go_simp
  refine wpF_only rfl (fun K hK => ?_)
  refine wp_store_blk k34 29 (.tmp 4) (.tmp 12) rfl rfl (us := bvs (sigB root t)) rfl Hi32.out Hz32.out (bvs_all _) ?_
  intro w9 k9 hg9
  refine hK _ _ ⟨fun h => absurd h (by omega), wpF_nil ?_⟩
  go_wp2_with fail
  exact bodyPost_ret (k9.sized rfl _ rfl Try.underlying29 Hi32.out) rfl ⟨rfl, f14.grown hg9 f14.size (by simp)⟩
end Go.Proofs.Ytgefbgjgcjiceaa
namespace Go.Proofs.Ytgefbgjgcjiceaa
open Go.RowKit
set_option linter.unusedVariables false
set_option linter.unusedSimpArgs false
attribute [local irreducible] sigB tkOk issV
set_option maxRecDepth 100000 in
set_option maxHeartbeats 2000000 in
theorem refIssue_any (A : Option Addr) (n c o m : Nat) (root ns sa : List UInt8) (uid : Nat) (host : Int) (addr now : Nat) (t : Tk) (h0 : t = tkNew ns sa uid host addr now m) (ht : t.ok) (h1 : t.ns.length ≤ 1000) (h2 : t.sa.length ≤ 1000) (w : World) (hr : RdB w w.heap.size A n root) (hn : n ≤ 1099511627776) :
    Calls Try.prog 14 #[rgV A n c o m, nmV ns sa, .int .u64 uid, .int .i64 host, .int .u32 addr, .int .u64 now] w fun e w' =>
      e = .returned (issV root n o m t) ∧ Below w.heap.size w w' := by
  have hit : (Try.prog.info? 31).map (·.size) = some t.cells.length := by rw [t.len ht.mac]; kernel_rfl
  have Hit := Lib.hid hit; clear hit
  have hir : (Try.prog.info? 25).map (·.size) = some ([.slice A n c, .int .u64 (o : Int), .int .u64 (m : Int)] : List Value).length := by kernel_rfl
  have Hir := Lib.hid hir; clear hir
  have hin : (Try.prog.info? 27).map (·.size) = some ([.string (strB ns), .string (strB sa)] : List Value).length := by kernel_rfl
  have Hin := Lib.hid hin; clear hin
  have hw : IntKind.u64.wrap ((now : Int) + 200) = (((now + 200) % 18446744073709551616 : Nat) : Int) := by rw [show (now : Int) + 200 = (now : Int) + ((200 : Nat) : Int) from rfl, sha_wrap]
  have hlen : (tkZero.cells).length = t.cells.length := by rw [t.len ht.mac]; rfl
  have Hlen := Lib.hid hlen; clear hlen
  have HT0 := Lib.hid h0; clear h0
  unfold rgV nmV
  go_enter Try.func14, Try.ntmps14
  go_upto_region 1 with fail
  refine abs (fun w1 => Blk w1 w.heap.size 25 [.slice A n c, .int .u64 (o : Int), .int .u64 (m : Int)] ∧ Blk w1 (w.heap.size + 1) 27 [.string (strB ns), .string (strB sa)] ∧ Blk w1 (w.heap.size + 2) 31 tkZero.cells ∧ Below w.heap.size w w1) ⟨((Blk.of_new w _ _).alloc _).alloc _, (Blk.newAt (by simp) _ _).alloc _, Blk.newAt (by simp) _ _, (((Below.refl _ w).alloc (Nat.le_refl _) _).alloc (by simp) _).alloc (by simp; omega) _⟩ ?_
  rintro w1 ⟨kr, kn, kz, f1⟩
  have q2 : w1.cell? ⟨w.heap.size, 2, none⟩ = some (.int .u64 (m : Int)) := kr.cell 2
  have lr := kr.lt
  have ln := kn.lt
  have lz := kz.lt
  go_upto_region 2 with (first | (refine load_blk kn rfl 27 (.tmp 7) rfl rfl Try.underlying27 Hin.out ?_) | (refine store_blk (cs := tkZero.cells) (Blk.newAt (w := w1) rfl 31 _) rfl 31 (.tmp 14) (.tmp 24) rfl rfl (us := t.cells) (by rw [HT0.out]; rfl) Hit.out Hlen.out t.all ?_; intro w2 kt hg; have f2 : Below w1.heap.size w1 w2 := ((Below.refl _ w1).alloc (Nat.le_refl _) _).grown hg (by simp) (by simp)))
  replace kr := kr.below f2 lr
  replace kz := kz.below f2 lz
  have hs1 := f1.size
  replace f1 := f1.trans (f2.mono hs1)
  clear hg f2 q2 kn ln hw
  generalize w1.heap.size = g at *
  have hzz : (Try.prog.info? 31).map (·.size) = some tkZero.cells.length := by rw [Hlen.out]; exact Hit.out
  have Hzz := Lib.hid hzz; clear hzz
  go_wp2_with (first | (refine load_blk kr rfl 25 (.tmp 6) rfl rfl Try.underlying25 Hir.out ?_))
  refine (refMayRing_any A n c o m w2).mono ?_
  rintro e w3 ⟨rfl, f3⟩
  replace kr := kr.below f3 kr.lt
  replace kz := kz.below f3 kz.lt
  replace kt := kt.below f3 kt.lt
  replace f1 := f1.trans (f3.mono f1.size)
  clear f3 w2 w1
  cases hrg : rgOk n o m
  · go_wp2_with (first | (refine store_blk kz rfl 31 (.tmp 12) (.tmp 33) rfl rfl (us := tkZero.cells) rfl Hzz.out rfl tkZero.all ?_; intro w9 k9 hg9))
    exact bodyPost_ret (k9.sized2 rfl _ rfl Try.underlying31 Hzz.out) rfl ⟨by rw [issV_no1 hrg]; rfl, f1.grown hg9 f1.size (by simp)⟩
  · go_wp2_with (first | (refine load_blk_if kt rfl 31 (.tmp 14) rfl rfl Try.underlying31 Hit.out ?_))
    refine (refTokMay_any t ht w3).mono ?_
    rintro e w4 ⟨rfl, f3⟩
    replace kr := kr.below f3 kr.lt
    replace kz := kz.below f3 kz.lt
    replace kt := kt.below f3 kt.lt
    replace f1 := f1.trans (f3.mono f1.size)
    clear f3 w3
    cases htk : tkOk t
    · go_wp2_with (first | (refine store_blk kz rfl 31 (.tmp 12) (.tmp 33) rfl rfl (us := tkZero.cells) rfl Hzz.out rfl tkZero.all ?_; intro w9 k9 hg9))
      exact bodyPost_ret (k9.sized2 rfl _ rfl Try.underlying31 Hzz.out) rfl ⟨by rw [issV_no2 htk]; rfl, f1.grown hg9 f1.size (by simp)⟩
    · have hho := tkOk_host htk
      have hsl := sigB_length root t
      have hs32 : (Try.prog.info? 29).map (·.size) = some (bvs (sigB root t)).length := by rw [bvs_length, hsl]; kernel_rfl
      have Hs32 := Lib.hid hs32; clear hs32
      have hsc := t.sign_cells (sigB root t) ht.mac hsl
      have hle : 8 + (bvs (sigB root t)).length ≤ t.cells.length := by rw [bvs_length, hsl, t.len ht.mac]; omega
      have HLE := Lib.hid hle; clear hle
      have hit2 : (Try.prog.info? 31).map (·.size) = some (t.sign (sigB root t)).cells.length := by rw [Tk.len _ hsl, ← t.len ht.mac]; exact Hit.out
      have Hit2 := Lib.hid hit2; clear hit2
      have hlz : tkZero.cells.length = (t.sign (sigB root t)).cells.length := by rw [Tk.len (t.sign (sigB root t)) hsl]; rfl
      have Hlz := Lib.hid hlz; clear hlz
      go_wp2_with (first | (refine load_blk kr rfl 25 (.tmp 6) rfl rfl Try.underlying25 Hir.out ?_) | (refine load_blk kt rfl 31 (.tmp 14) rfl rfl Try.underlying31 Hit.out ?_))
      refine (sign_any A n c o m root t ht h1 h2 (by omega) w4 ((hr.below f1).more f1.size) hn).mono ?_
      rintro e w5 ⟨rfl, f3⟩
      replace kz := kz.below f3 kz.lt
      replace kt := kt.below f3 kt.lt
      replace f1 := f1.trans (f3.mono f1.size)
      clear f3 kr w4
      have his := issV_yes (root := root) hrg htk
      have HIS := Lib.hid his; clear his
      generalize sigB root t = S at *
      have hgl : w.heap.size ≤ g := by omega
      go_upto_region 5 with (first | (refine store_part kt rfl 29 (.tmp 37) (.tmp 36) rfl rfl (us := bvs S) rfl Hs32.out HLE.out (bvs_all _) ?_; intro w6 k6 hg6; rw [hsc] at k6))
      replace kz := kz.grown hg6 (by simp; omega)
      replace f1 := f1.grown hg6 f1.size (by simp; omega)
      clear hg6 kt
      go_wp2_with (first | (refine load_blk k6 rfl 31 (.tmp 14) rfl rfl Try.underlying31 Hit2.out ?_) | (refine store_blk kz rfl 31 (.tmp 12) (.tmp 38) rfl rfl (us := (t.sign S).cells) rfl Hit2.out Hlz.out (Tk.all _) ?_; intro w9 k9 hg9))
      exact bodyPost_ret (k9.sized2 rfl _ rfl Try.underlying31 Hit2.out) rfl ⟨by rw [HIS.out]; rfl, f1.grown hg9 f1.size (by simp)⟩
end Go.Proofs.Ytgefbgjgcjiceaa
