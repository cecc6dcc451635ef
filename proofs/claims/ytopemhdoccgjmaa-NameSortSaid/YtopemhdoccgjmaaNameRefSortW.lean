/- gatepostref05.Sort, walked. Condition: a million names at most, of 2^62 bytes at most. -/
import Derived.Test.YtopemhdoccgjmaaNameRefSort
namespace Go.Proofs.Ytopemhdoccgjmaa
open Go.RowKit Go.Sort Go.Lib
set_option linter.unusedVariables false
set_option linter.unusedSimpArgs false
set_option maxRecDepth 100000 in
set_option maxHeartbeats 4000000 in
theorem refSort_any (A : Option Addr) (n c : Nat) (L : List Nm) (w : World) (rL : RdN w w.heap.size A n L) (hn : n ≤ 1000000) (hb : ∀ x ∈ L, x.1.length ≤ 1000000 ∧ x.2.length ≤ 1000000) :
    Calls Try.prog 20 #[.slice A n c] w fun e w' => ∃ A' m c' X, e = .returned (.slice A' m c') ∧ RdN w' w'.heap.size A' m X ∧ Rising X ∧ (∀ x, x ∈ X ↔ x ∈ L) ∧ m ≤ n ∧ Below w.heap.size w w' := by
  have hl := rL.1
  have HBL := Lib.hid hb; clear hb
  go_enter Try.func20, Try.ntmps20
  go_wp2_with fail
  go_loopw [3, 4] (fun v3 v4 wr => ∃ (A' : Option Addr) (m c' k : Nat) (Y : List Nm), v3 = .slice A' m c' ∧ v4 = .int .i64 k ∧ k ≤ n ∧ OwnR nmC 2 wr w.heap.size 24 (.slice A' m c') Y ∧ Rising Y ∧ (∀ x, x ∈ Y ↔ x ∈ L.take k) ∧ m ≤ k ∧ Below w.heap.size w wr) (fun _ v4 _ => n - (intOf v4).toNat)
  case atStart => exact ⟨none, 0, 0, 0, [], rfl, rfl, Nat.zero_le _, OwnR.nil, List.Pairwise.nil, by simp, Nat.le_refl _, Below.refl _ _⟩
  case round =>
    obtain ⟨AY, m, cx, k, Y, rfl, rfl, hk, o1, hri, hmem, hmk, f1⟩ := hrel
    have HRI := Lib.hid hri; clear hri
    have HMEM := Lib.hid hmem; clear hmem
    have hYl := o1.len
    by_cases hlt : k < n
    · have b1 : (0 : Int) ≤ (k : Int) := by omega
      have b2 : (k : Int) < (n : Int) := by omega
      obtain ⟨bl, ol, hA, hbl, q0, q1⟩ := rL.at_ hlt
      obtain ⟨k1, k2, hx⟩ : ∃ a b, nmAt L k = (a, b) := ⟨_, _, rfl⟩
      have hxl := HBL.out (nmAt L k) (by rw [nmAt_eq (by omega)]; exact List.getElem_mem _)
      rw [hx] at q0 q1 hxl
      simp only at q0 q1 hxl
      have HX := Lib.hid hx; clear hx
      subst hA
      obtain ⟨wo, rfl⟩ : ∃ wo : World, wo = wr := ⟨_, rfl⟩
      go_wp2_with fail
      go_loopw [5] (fun v5 wv => ∃ q : Nat, v5 = .int .i64 q ∧ q ≤ m ∧ (∀ j (hj : j < Y.length), j < q → nmLt Y[j] (k1, k2) = true) ∧ OwnR nmC 2 wv w.heap.size 24 (.slice AY m cx) Y ∧ Below w.heap.size w wv) (fun v5 _ => m - (intOf v5).toNat)
      case atStart => exact ⟨0, rfl, Nat.zero_le _, fun j _ hj => absurd hj (by omega), o1, f1⟩
      case round =>
        clear o1 f1
        obtain ⟨wv, rfl⟩ : ∃ wv : World, wv = wr := ⟨_, rfl⟩
        obtain ⟨q, rfl, hq, hall, o1, f1⟩ := hrel
        have HALL := Lib.hid hall; clear hall
        have K0 : ∀ u : World, Below wv.heap.size wv u → u.cell? ⟨bl, ol + k * 2, none⟩ = some (.string (strB k1)) := fun u h => ((f1.trans (h.mono f1.size)).cell (p := ⟨bl, ol + k * 2, none⟩) hbl).trans q0
        have K1 : ∀ u : World, Below wv.heap.size wv u → u.cell? ⟨bl, ol + k * 2 + 1, none⟩ = some (.string (strB k2)) := fun u h => ((f1.trans (h.mono f1.size)).cell (p := ⟨bl, ol + k * 2 + 1, none⟩) hbl).trans q1
        by_cases hqm : q < m
        · have b3 : (0 : Int) ≤ (q : Int) := by omega
          have b4 : (q : Int) < (m : Int) := by omega
          have rY : RdN wv wv.heap.size AY m Y := o1.rd nmC_len
          obtain ⟨bx, ox, hAY, hbx, p0, p1⟩ := rY.at_ hqm
          have hYm : nmAt Y q ∈ L.take k := (HMEM.out _).1 (by rw [nmAt_eq (by omega)]; exact List.getElem_mem _)
          have hyl := HBL.out (nmAt Y q) (List.mem_of_mem_take hYm)
          have hcs := nmCmp_cases (nmAt Y q) (k1, k2)
          obtain ⟨y1, y2, hy⟩ : ∃ a b, nmAt Y q = (a, b) := ⟨_, _, rfl⟩
          rw [hy] at p0 p1 hyl hcs
          simp only at p0 p1 hyl
          have HY := Lib.hid hy; clear hy hYm
          have Y0 : ∀ u : World, Below wv.heap.size wv u → u.cell? ⟨bx, ox + q * 2, none⟩ = some (.string (strB y1)) := fun u h => (h.cell (p := ⟨bx, ox + q * 2, none⟩) hbx).trans p0
          have Y1 : ∀ u : World, Below wv.heap.size wv u → u.cell? ⟨bx, ox + q * 2 + 1, none⟩ = some (.string (strB y2)) := fun u h => (h.cell (p := ⟨bx, ox + q * 2 + 1, none⟩) hbx).trans p1
          have HB := Lib.hid (show y1.length ≤ 9223372036854775806 ∧ y2.length ≤ 9223372036854775806 ∧ k1.length ≤ 9223372036854775806 ∧ k2.length ≤ 9223372036854775806 from ⟨by omega, by omega, by omega, by omega⟩)
          clear p0 p1 rY
          subst hAY
          go_upto_region 6 with fail
          rcases hcs with ⟨hlt1, _, _, hz⟩ | ⟨_, hgt1, hne, hz⟩ | ⟨heq, _, _, hz⟩
          · have HC := Lib.hid (show cmpN y1 y2 k1 k2 = -1 from hz)
            have HLT := Lib.hid hlt1
            clear hz hlt1
            refine wp_region_facts (fun u => Below wv.heap.size wv u) [
                fun v _ => v = .int .i64 (q : Int),
                fun v _ => v = .slice (some ⟨bx, ox, none⟩) m cx,
                fun v _ => v = .int .i64 (m : Int),
                fun v _ => v = .bool true,
                fun v _ => v = .bool true,
                fun v _ => v = .slice (some ⟨bx, ox, none⟩) m cx,
                fun v _ => v = .int .i64 (q : Int),
                fun v _ => v = .pointer (some ⟨bx, ox + q * 2, none⟩),
                fun v _ => v = .agg #[.string (strB y1), .string (strB y2)],
                fun v _ => v = .slice (some ⟨bl, ol, none⟩) n c,
                fun v _ => v = .int .i64 (k : Int),
                fun v _ => v = .pointer (some ⟨bl, ol + k * 2, none⟩),
                fun v _ => v = .agg #[.string (strB k1), .string (strB k2)],
                fun v _ => v = .int .i64 (-1),
                fun v _ => v = .bool true,
                fun v _ => v = .bool true] (fun u u' => Below u.heap.size u u')
                [[], [], [1], [0, 2], [3], [4], [4], [4, 5, 6], [4, 7], [4], [4], [4, 9, 10], [4, 11], [4, 8, 12], [4, 13], [4, 14]] []
                (by kernel_rfl) (by kernel_rfl) ?_ (fun _ _ _ _ _ h => h) ((Below.refl _ _).drew) ?_ ?_
            · refine hE_of (fun u u' h f => f.trans (h.mono f.size)) ?_
              repeat' (first | exact mono_nil | refine mono_cons (fun v u u' h => ?_) ?_)
              all_goals exact _root_.id
            ·
              refine owed_cons (fun vs u hS hD N => ?_) ?_
              · clear hD
                intro hN
                simp only [fact, layAt, depOn, dstOf, List.map_cons, List.map_nil, List.foldl_cons, List.foldl_nil, List.getD_cons_zero, List.getD_cons_succ, List.getElem?_cons_zero, List.getElem?_cons_succ, Option.bind_some] at hN ⊢
                go_simp
                have hh := hN _ _ rfl (.inl (Below.refl _ _))
                revert hh
                go_simp
              refine owed_cons (fun vs u hS hD N => ?_) ?_
              · clear hD
                intro hN
                simp only [fact, layAt, depOn, dstOf, List.map_cons, List.map_nil, List.foldl_cons, List.foldl_nil, List.getD_cons_zero, List.getD_cons_succ, List.getElem?_cons_zero, List.getElem?_cons_succ, Option.bind_some] at hN ⊢
                go_simp
                have hh := hN _ _ rfl (.inl (Below.refl _ _))
                revert hh
                go_simp
              refine owed_cons (fun vs u hS hD N => ?_) ?_
              · have d1 := hD 1 (by decide)
                simp only [fact, layAt, depOn, dstOf, List.map_cons, List.map_nil, List.foldl_cons, List.foldl_nil, List.getD_cons_zero, List.getD_cons_succ, List.getElem?_cons_zero, List.getElem?_cons_succ, Option.bind_some] at d1
                clear hD
                intro hN
                simp only [fact, layAt, depOn, dstOf, List.map_cons, List.map_nil, List.foldl_cons, List.foldl_nil, List.getD_cons_zero, List.getD_cons_succ, List.getElem?_cons_zero, List.getElem?_cons_succ, Option.bind_some, d1] at hN ⊢
                go_simp
                have hh := hN _ _ rfl (.inl (Below.refl _ _))
                revert hh
                go_simp
              refine owed_cons (fun vs u hS hD N => ?_) ?_
              · have d0 := hD 0 (by decide)
                simp only [fact, layAt, depOn, dstOf, List.map_cons, List.map_nil, List.foldl_cons, List.foldl_nil, List.getD_cons_zero, List.getD_cons_succ, List.getElem?_cons_zero, List.getElem?_cons_succ, Option.bind_some] at d0
                have d2 := hD 2 (by decide)
                simp only [fact, layAt, depOn, dstOf, List.map_cons, List.map_nil, List.foldl_cons, List.foldl_nil, List.getD_cons_zero, List.getD_cons_succ, List.getElem?_cons_zero, List.getElem?_cons_succ, Option.bind_some] at d2
                clear hD
                intro hN
                simp only [fact, layAt, depOn, dstOf, List.map_cons, List.map_nil, List.foldl_cons, List.foldl_nil, List.getD_cons_zero, List.getD_cons_succ, List.getElem?_cons_zero, List.getElem?_cons_succ, Option.bind_some, d0, d2] at hN ⊢
                go_simp
                have hh := hN _ _ rfl (.inl (Below.refl _ _))
                revert hh
                go_simp
              refine owed_cons (fun vs u hS hD N => ?_) ?_
              · have d3 := hD 3 (by decide)
                simp only [fact, layAt, depOn, dstOf, List.map_cons, List.map_nil, List.foldl_cons, List.foldl_nil, List.getD_cons_zero, List.getD_cons_succ, List.getElem?_cons_zero, List.getElem?_cons_succ, Option.bind_some] at d3
                clear hD
                intro hN
                simp only [fact, layAt, depOn, dstOf, List.map_cons, List.map_nil, List.foldl_cons, List.foldl_nil, List.getD_cons_zero, List.getD_cons_succ, List.getElem?_cons_zero, List.getElem?_cons_succ, Option.bind_some, d3] at hN ⊢
                go_simp
                have hh := hN _ _ rfl (.inl (Below.refl _ _))
                revert hh
                go_simp
              refine owed_cons (fun vs u hS hD N => ?_) ?_
              · have d4 := hD 4 (by decide)
                simp only [fact, layAt, depOn, dstOf, List.map_cons, List.map_nil, List.foldl_cons, List.foldl_nil, List.getD_cons_zero, List.getD_cons_succ, List.getElem?_cons_zero, List.getElem?_cons_succ, Option.bind_some] at d4
                clear hD
                intro hN
                simp only [fact, layAt, depOn, dstOf, List.map_cons, List.map_nil, List.foldl_cons, List.foldl_nil, List.getD_cons_zero, List.getD_cons_succ, List.getElem?_cons_zero, List.getElem?_cons_succ, Option.bind_some, d4] at hN ⊢
                go_simp
                have hh := hN _ _ rfl (.inl (Below.refl _ _))
                revert hh
                go_simp
              refine owed_cons (fun vs u hS hD N => ?_) ?_
              · have d4 := hD 4 (by decide)
                simp only [fact, layAt, depOn, dstOf, List.map_cons, List.map_nil, List.foldl_cons, List.foldl_nil, List.getD_cons_zero, List.getD_cons_succ, List.getElem?_cons_zero, List.getElem?_cons_succ, Option.bind_some] at d4
                clear hD
                intro hN
                simp only [fact, layAt, depOn, dstOf, List.map_cons, List.map_nil, List.foldl_cons, List.foldl_nil, List.getD_cons_zero, List.getD_cons_succ, List.getElem?_cons_zero, List.getElem?_cons_succ, Option.bind_some, d4] at hN ⊢
                go_simp
                have hh := hN _ _ rfl (.inl (Below.refl _ _))
                revert hh
                go_simp
              refine owed_cons (fun vs u hS hD N => ?_) ?_
              · have d4 := hD 4 (by decide)
                simp only [fact, layAt, depOn, dstOf, List.map_cons, List.map_nil, List.foldl_cons, List.foldl_nil, List.getD_cons_zero, List.getD_cons_succ, List.getElem?_cons_zero, List.getElem?_cons_succ, Option.bind_some] at d4
                have d5 := hD 5 (by decide)
                simp only [fact, layAt, depOn, dstOf, List.map_cons, List.map_nil, List.foldl_cons, List.foldl_nil, List.getD_cons_zero, List.getD_cons_succ, List.getElem?_cons_zero, List.getElem?_cons_succ, Option.bind_some] at d5
                have d6 := hD 6 (by decide)
                simp only [fact, layAt, depOn, dstOf, List.map_cons, List.map_nil, List.foldl_cons, List.foldl_nil, List.getD_cons_zero, List.getD_cons_succ, List.getElem?_cons_zero, List.getElem?_cons_succ, Option.bind_some] at d6
                clear hD
                intro hN
                simp only [fact, layAt, depOn, dstOf, List.map_cons, List.map_nil, List.foldl_cons, List.foldl_nil, List.getD_cons_zero, List.getD_cons_succ, List.getElem?_cons_zero, List.getElem?_cons_succ, Option.bind_some, d4, d5, d6] at hN ⊢
                go_simp
                have hh := hN _ _ rfl (.inl (Below.refl _ _))
                revert hh
                go_simp
              refine owed_cons (fun vs u hS hD N => ?_) ?_
              · have d4 := hD 4 (by decide)
                simp only [fact, layAt, depOn, dstOf, List.map_cons, List.map_nil, List.foldl_cons, List.foldl_nil, List.getD_cons_zero, List.getD_cons_succ, List.getElem?_cons_zero, List.getElem?_cons_succ, Option.bind_some] at d4
                have d7 := hD 7 (by decide)
                simp only [fact, layAt, depOn, dstOf, List.map_cons, List.map_nil, List.foldl_cons, List.foldl_nil, List.getD_cons_zero, List.getD_cons_succ, List.getElem?_cons_zero, List.getElem?_cons_succ, Option.bind_some] at d7
                clear hD
                intro hN
                simp only [fact, layAt, depOn, dstOf, List.map_cons, List.map_nil, List.foldl_cons, List.foldl_nil, List.getD_cons_zero, List.getD_cons_succ, List.getElem?_cons_zero, List.getElem?_cons_succ, Option.bind_some, d4, d7] at hN ⊢
                go_simp
                have y0 := Y0 _ hS
                have y1 := Y1 _ hS
                go_simp
                have hh := hN _ _ rfl (.inl (Below.refl _ _))
                revert hh
                go_simp
              refine owed_cons (fun vs u hS hD N => ?_) ?_
              · have d4 := hD 4 (by decide)
                simp only [fact, layAt, depOn, dstOf, List.map_cons, List.map_nil, List.foldl_cons, List.foldl_nil, List.getD_cons_zero, List.getD_cons_succ, List.getElem?_cons_zero, List.getElem?_cons_succ, Option.bind_some] at d4
                clear hD
                intro hN
                simp only [fact, layAt, depOn, dstOf, List.map_cons, List.map_nil, List.foldl_cons, List.foldl_nil, List.getD_cons_zero, List.getD_cons_succ, List.getElem?_cons_zero, List.getElem?_cons_succ, Option.bind_some, d4] at hN ⊢
                go_simp
                have hh := hN _ _ rfl (.inl (Below.refl _ _))
                revert hh
                go_simp
              refine owed_cons (fun vs u hS hD N => ?_) ?_
              · have d4 := hD 4 (by decide)
                simp only [fact, layAt, depOn, dstOf, List.map_cons, List.map_nil, List.foldl_cons, List.foldl_nil, List.getD_cons_zero, List.getD_cons_succ, List.getElem?_cons_zero, List.getElem?_cons_succ, Option.bind_some] at d4
                clear hD
                intro hN
                simp only [fact, layAt, depOn, dstOf, List.map_cons, List.map_nil, List.foldl_cons, List.foldl_nil, List.getD_cons_zero, List.getD_cons_succ, List.getElem?_cons_zero, List.getElem?_cons_succ, Option.bind_some, d4] at hN ⊢
                go_simp
                have hh := hN _ _ rfl (.inl (Below.refl _ _))
                revert hh
                go_simp
              refine owed_cons (fun vs u hS hD N => ?_) ?_
              · have d4 := hD 4 (by decide)
                simp only [fact, layAt, depOn, dstOf, List.map_cons, List.map_nil, List.foldl_cons, List.foldl_nil, List.getD_cons_zero, List.getD_cons_succ, List.getElem?_cons_zero, List.getElem?_cons_succ, Option.bind_some] at d4
                have d9 := hD 9 (by decide)
                simp only [fact, layAt, depOn, dstOf, List.map_cons, List.map_nil, List.foldl_cons, List.foldl_nil, List.getD_cons_zero, List.getD_cons_succ, List.getElem?_cons_zero, List.getElem?_cons_succ, Option.bind_some] at d9
                have d10 := hD 10 (by decide)
                simp only [fact, layAt, depOn, dstOf, List.map_cons, List.map_nil, List.foldl_cons, List.foldl_nil, List.getD_cons_zero, List.getD_cons_succ, List.getElem?_cons_zero, List.getElem?_cons_succ, Option.bind_some] at d10
                clear hD
                intro hN
                simp only [fact, layAt, depOn, dstOf, List.map_cons, List.map_nil, List.foldl_cons, List.foldl_nil, List.getD_cons_zero, List.getD_cons_succ, List.getElem?_cons_zero, List.getElem?_cons_succ, Option.bind_some, d4, d9, d10] at hN ⊢
                go_simp
                have hh := hN _ _ rfl (.inl (Below.refl _ _))
                revert hh
                go_simp
              refine owed_cons (fun vs u hS hD N => ?_) ?_
              · have d4 := hD 4 (by decide)
                simp only [fact, layAt, depOn, dstOf, List.map_cons, List.map_nil, List.foldl_cons, List.foldl_nil, List.getD_cons_zero, List.getD_cons_succ, List.getElem?_cons_zero, List.getElem?_cons_succ, Option.bind_some] at d4
                have d11 := hD 11 (by decide)
                simp only [fact, layAt, depOn, dstOf, List.map_cons, List.map_nil, List.foldl_cons, List.foldl_nil, List.getD_cons_zero, List.getD_cons_succ, List.getElem?_cons_zero, List.getElem?_cons_succ, Option.bind_some] at d11
                clear hD
                intro hN
                simp only [fact, layAt, depOn, dstOf, List.map_cons, List.map_nil, List.foldl_cons, List.foldl_nil, List.getD_cons_zero, List.getD_cons_succ, List.getElem?_cons_zero, List.getElem?_cons_succ, Option.bind_some, d4, d11] at hN ⊢
                go_simp
                have k0 := K0 _ hS
                have k1 := K1 _ hS
                go_simp
                have hh := hN _ _ rfl (.inl (Below.refl _ _))
                revert hh
                go_simp
              refine owed_cons (fun vs u hS hD N => ?_) ?_
              · have d4 := hD 4 (by decide)
                simp only [fact, layAt, depOn, dstOf, List.map_cons, List.map_nil, List.foldl_cons, List.foldl_nil, List.getD_cons_zero, List.getD_cons_succ, List.getElem?_cons_zero, List.getElem?_cons_succ, Option.bind_some] at d4
                have d8 := hD 8 (by decide)
                simp only [fact, layAt, depOn, dstOf, List.map_cons, List.map_nil, List.foldl_cons, List.foldl_nil, List.getD_cons_zero, List.getD_cons_succ, List.getElem?_cons_zero, List.getElem?_cons_succ, Option.bind_some] at d8
                have d12 := hD 12 (by decide)
                simp only [fact, layAt, depOn, dstOf, List.map_cons, List.map_nil, List.foldl_cons, List.foldl_nil, List.getD_cons_zero, List.getD_cons_succ, List.getElem?_cons_zero, List.getElem?_cons_succ, Option.bind_some] at d12
                clear hD
                intro hN
                simp only [fact, layAt, depOn, dstOf, List.map_cons, List.map_nil, List.foldl_cons, List.foldl_nil, List.getD_cons_zero, List.getD_cons_succ, List.getElem?_cons_zero, List.getElem?_cons_succ, Option.bind_some, d4, d8, d12] at hN ⊢
                go_simp
                refine (refCmp_any y1 y2 k1 k2 HB.out.1 HB.out.2.1 HB.out.2.2.1 HB.out.2.2.2 u).mono ?_
                rintro e u' ⟨rfl, f⟩
                rw [HC.out]
                have hh := hN _ _ rfl (.inl f)
                revert hh
                go_simp
              refine owed_cons (fun vs u hS hD N => ?_) ?_
              · have d4 := hD 4 (by decide)
                simp only [fact, layAt, depOn, dstOf, List.map_cons, List.map_nil, List.foldl_cons, List.foldl_nil, List.getD_cons_zero, List.getD_cons_succ, List.getElem?_cons_zero, List.getElem?_cons_succ, Option.bind_some] at d4
                have d13 := hD 13 (by decide)
                simp only [fact, layAt, depOn, dstOf, List.map_cons, List.map_nil, List.foldl_cons, List.foldl_nil, List.getD_cons_zero, List.getD_cons_succ, List.getElem?_cons_zero, List.getElem?_cons_succ, Option.bind_some] at d13
                clear hD
                intro hN
                simp only [fact, layAt, depOn, dstOf, List.map_cons, List.map_nil, List.foldl_cons, List.foldl_nil, List.getD_cons_zero, List.getD_cons_succ, List.getElem?_cons_zero, List.getElem?_cons_succ, Option.bind_some, d4, d13] at hN ⊢
                go_simp
                have hh := hN _ _ rfl (.inl (Below.refl _ _))
                revert hh
                go_simp
              refine owed_cons (fun vs u hS hD N => ?_) ?_
              · have d4 := hD 4 (by decide)
                simp only [fact, layAt, depOn, dstOf, List.map_cons, List.map_nil, List.foldl_cons, List.foldl_nil, List.getD_cons_zero, List.getD_cons_succ, List.getElem?_cons_zero, List.getElem?_cons_succ, Option.bind_some] at d4
                have d14 := hD 14 (by decide)
                simp only [fact, layAt, depOn, dstOf, List.map_cons, List.map_nil, List.foldl_cons, List.foldl_nil, List.getD_cons_zero, List.getD_cons_succ, List.getElem?_cons_zero, List.getElem?_cons_succ, Option.bind_some] at d14
                clear hD
                intro hN
                simp only [fact, layAt, depOn, dstOf, List.map_cons, List.map_nil, List.foldl_cons, List.foldl_nil, List.getD_cons_zero, List.getD_cons_succ, List.getElem?_cons_zero, List.getElem?_cons_succ, Option.bind_some, d4, d14] at hN ⊢
                go_simp
                have hh := hN _ _ rfl (.inl (Below.refl _ _))
                revert hh
                go_simp
              exact owed_nil
            ·
              intro vs u hS hF
              have d15 := hF 15 (by decide) (by decide)
              simp only [fact, layAt, depOn, dstOf, List.map_cons, List.map_nil, List.foldl_cons, List.foldl_nil, List.getD_cons_zero, List.getD_cons_succ, List.getElem?_cons_zero, List.getElem?_cons_succ, Option.bind_some] at d15
              clear hF
              simp only [List.length_cons, List.length_nil, Nat.reduceAdd, List.range, List.range.loop, fact, layAt, depOn, dstOf, List.map_cons, List.map_nil, List.foldl_cons, List.foldl_nil, List.getD_cons_zero, List.getD_cons_succ, List.getElem?_cons_zero, List.getElem?_cons_succ, Option.bind_some, d15]
              go_simp
              have f2 := f1.trans (hS.mono f1.size)
              have o2 := o1.below (Nat.le_refl _) hS
              clear HC Y0 Y1 K0 K1 HB
              go_wp2_with fail
              go_roundw
              case rel =>
                refine ⟨q + 1, by go_num, by omega, fun j hj hjq => ?_, o2, f2⟩
                by_cases e : j = q
                · subst e
                  rw [← nmAt_eq hj, HY.out]
                  exact HLT.out
                · exact HALL.out j hj (by omega)
              case measure => simp [intOf]; omega
          · have HC := Lib.hid (show cmpN y1 y2 k1 k2 = 1 from hz)
            have HGT := Lib.hid hgt1
            have HNE := Lib.hid hne
            clear hz hgt1 hne
            refine wp_region_facts (fun u => Below wv.heap.size wv u) [
                fun v _ => v = .int .i64 (q : Int),
                fun v _ => v = .slice (some ⟨bx, ox, none⟩) m cx,
                fun v _ => v = .int .i64 (m : Int),
                fun v _ => v = .bool true,
                fun v _ => v = .bool true,
                fun v _ => v = .slice (some ⟨bx, ox, none⟩) m cx,
                fun v _ => v = .int .i64 (q : Int),
                fun v _ => v = .pointer (some ⟨bx, ox + q * 2, none⟩),
                fun v _ => v = .agg #[.string (strB y1), .string (strB y2)],
                fun v _ => v = .slice (some ⟨bl, ol, none⟩) n c,
                fun v _ => v = .int .i64 (k : Int),
                fun v _ => v = .pointer (some ⟨bl, ol + k * 2, none⟩),
                fun v _ => v = .agg #[.string (strB k1), .string (strB k2)],
                fun v _ => v = .int .i64 1,
                fun v _ => v = .bool false,
                fun v _ => v = .bool false] (fun u u' => Below u.heap.size u u')
                [[], [], [1], [0, 2], [3], [4], [4], [4, 5, 6], [4, 7], [4], [4], [4, 9, 10], [4, 11], [4, 8, 12], [4, 13], [4, 14]] []
                (by kernel_rfl) (by kernel_rfl) ?_ (fun _ _ _ _ _ h => h) ((Below.refl _ _).drew) ?_ ?_
            · refine hE_of (fun u u' h f => f.trans (h.mono f.size)) ?_
              repeat' (first | exact mono_nil | refine mono_cons (fun v u u' h => ?_) ?_)
              all_goals exact _root_.id
            ·
              refine owed_cons (fun vs u hS hD N => ?_) ?_
              · clear hD
                intro hN
                simp only [fact, layAt, depOn, dstOf, List.map_cons, List.map_nil, List.foldl_cons, List.foldl_nil, List.getD_cons_zero, List.getD_cons_succ, List.getElem?_cons_zero, List.getElem?_cons_succ, Option.bind_some] at hN ⊢
                go_simp
                have hh := hN _ _ rfl (.inl (Below.refl _ _))
                revert hh
                go_simp
              refine owed_cons (fun vs u hS hD N => ?_) ?_
              · clear hD
                intro hN
                simp only [fact, layAt, depOn, dstOf, List.map_cons, List.map_nil, List.foldl_cons, List.foldl_nil, List.getD_cons_zero, List.getD_cons_succ, List.getElem?_cons_zero, List.getElem?_cons_succ, Option.bind_some] at hN ⊢
                go_simp
                have hh := hN _ _ rfl (.inl (Below.refl _ _))
                revert hh
                go_simp
              refine owed_cons (fun vs u hS hD N => ?_) ?_
              · have d1 := hD 1 (by decide)
                simp only [fact, layAt, depOn, dstOf, List.map_cons, List.map_nil, List.foldl_cons, List.foldl_nil, List.getD_cons_zero, List.getD_cons_succ, List.getElem?_cons_zero, List.getElem?_cons_succ, Option.bind_some] at d1
                clear hD
                intro hN
                simp only [fact, layAt, depOn, dstOf, List.map_cons, List.map_nil, List.foldl_cons, List.foldl_nil, List.getD_cons_zero, List.getD_cons_succ, List.getElem?_cons_zero, List.getElem?_cons_succ, Option.bind_some, d1] at hN ⊢
                go_simp
                have hh := hN _ _ rfl (.inl (Below.refl _ _))
                revert hh
                go_simp
              refine owed_cons (fun vs u hS hD N => ?_) ?_
              · have d0 := hD 0 (by decide)
                simp only [fact, layAt, depOn, dstOf, List.map_cons, List.map_nil, List.foldl_cons, List.foldl_nil, List.getD_cons_zero, List.getD_cons_succ, List.getElem?_cons_zero, List.getElem?_cons_succ, Option.bind_some] at d0
                have d2 := hD 2 (by decide)
                simp only [fact, layAt, depOn, dstOf, List.map_cons, List.map_nil, List.foldl_cons, List.foldl_nil, List.getD_cons_zero, List.getD_cons_succ, List.getElem?_cons_zero, List.getElem?_cons_succ, Option.bind_some] at d2
                clear hD
                intro hN
                simp only [fact, layAt, depOn, dstOf, List.map_cons, List.map_nil, List.foldl_cons, List.foldl_nil, List.getD_cons_zero, List.getD_cons_succ, List.getElem?_cons_zero, List.getElem?_cons_succ, Option.bind_some, d0, d2] at hN ⊢
                go_simp
                have hh := hN _ _ rfl (.inl (Below.refl _ _))
                revert hh
                go_simp
              refine owed_cons (fun vs u hS hD N => ?_) ?_
              · have d3 := hD 3 (by decide)
                simp only [fact, layAt, depOn, dstOf, List.map_cons, List.map_nil, List.foldl_cons, List.foldl_nil, List.getD_cons_zero, List.getD_cons_succ, List.getElem?_cons_zero, List.getElem?_cons_succ, Option.bind_some] at d3
                clear hD
                intro hN
                simp only [fact, layAt, depOn, dstOf, List.map_cons, List.map_nil, List.foldl_cons, List.foldl_nil, List.getD_cons_zero, List.getD_cons_succ, List.getElem?_cons_zero, List.getElem?_cons_succ, Option.bind_some, d3] at hN ⊢
                go_simp
                have hh := hN _ _ rfl (.inl (Below.refl _ _))
                revert hh
                go_simp
              refine owed_cons (fun vs u hS hD N => ?_) ?_
              · have d4 := hD 4 (by decide)
                simp only [fact, layAt, depOn, dstOf, List.map_cons, List.map_nil, List.foldl_cons, List.foldl_nil, List.getD_cons_zero, List.getD_cons_succ, List.getElem?_cons_zero, List.getElem?_cons_succ, Option.bind_some] at d4
                clear hD
                intro hN
                simp only [fact, layAt, depOn, dstOf, List.map_cons, List.map_nil, List.foldl_cons, List.foldl_nil, List.getD_cons_zero, List.getD_cons_succ, List.getElem?_cons_zero, List.getElem?_cons_succ, Option.bind_some, d4] at hN ⊢
                go_simp
                have hh := hN _ _ rfl (.inl (Below.refl _ _))
                revert hh
                go_simp
              refine owed_cons (fun vs u hS hD N => ?_) ?_
              · have d4 := hD 4 (by decide)
                simp only [fact, layAt, depOn, dstOf, List.map_cons, List.map_nil, List.foldl_cons, List.foldl_nil, List.getD_cons_zero, List.getD_cons_succ, List.getElem?_cons_zero, List.getElem?_cons_succ, Option.bind_some] at d4
                clear hD
                intro hN
                simp only [fact, layAt, depOn, dstOf, List.map_cons, List.map_nil, List.foldl_cons, List.foldl_nil, List.getD_cons_zero, List.getD_cons_succ, List.getElem?_cons_zero, List.getElem?_cons_succ, Option.bind_some, d4] at hN ⊢
                go_simp
                have hh := hN _ _ rfl (.inl (Below.refl _ _))
                revert hh
                go_simp
              refine owed_cons (fun vs u hS hD N => ?_) ?_
              · have d4 := hD 4 (by decide)
                simp only [fact, layAt, depOn, dstOf, List.map_cons, List.map_nil, List.foldl_cons, List.foldl_nil, List.getD_cons_zero, List.getD_cons_succ, List.getElem?_cons_zero, List.getElem?_cons_succ, Option.bind_some] at d4
                have d5 := hD 5 (by decide)
                simp only [fact, layAt, depOn, dstOf, List.map_cons, List.map_nil, List.foldl_cons, List.foldl_nil, List.getD_cons_zero, List.getD_cons_succ, List.getElem?_cons_zero, List.getElem?_cons_succ, Option.bind_some] at d5
                have d6 := hD 6 (by decide)
                simp only [fact, layAt, depOn, dstOf, List.map_cons, List.map_nil, List.foldl_cons, List.foldl_nil, List.getD_cons_zero, List.getD_cons_succ, List.getElem?_cons_zero, List.getElem?_cons_succ, Option.bind_some] at d6
                clear hD
                intro hN
                simp only [fact, layAt, depOn, dstOf, List.map_cons, List.map_nil, List.foldl_cons, List.foldl_nil, List.getD_cons_zero, List.getD_cons_succ, List.getElem?_cons_zero, List.getElem?_cons_succ, Option.bind_some, d4, d5, d6] at hN ⊢
                go_simp
                have hh := hN _ _ rfl (.inl (Below.refl _ _))
                revert hh
                go_simp
              refine owed_cons (fun vs u hS hD N => ?_) ?_
              · have d4 := hD 4 (by decide)
                simp only [fact, layAt, depOn, dstOf, List.map_cons, List.map_nil, List.foldl_cons, List.foldl_nil, List.getD_cons_zero, List.getD_cons_succ, List.getElem?_cons_zero, List.getElem?_cons_succ, Option.bind_some] at d4
                have d7 := hD 7 (by decide)
                simp only [fact, layAt, depOn, dstOf, List.map_cons, List.map_nil, List.foldl_cons, List.foldl_nil, List.getD_cons_zero, List.getD_cons_succ, List.getElem?_cons_zero, List.getElem?_cons_succ, Option.bind_some] at d7
                clear hD
                intro hN
                simp only [fact, layAt, depOn, dstOf, List.map_cons, List.map_nil, List.foldl_cons, List.foldl_nil, List.getD_cons_zero, List.getD_cons_succ, List.getElem?_cons_zero, List.getElem?_cons_succ, Option.bind_some, d4, d7] at hN ⊢
                go_simp
                have y0 := Y0 _ hS
                have y1 := Y1 _ hS
                go_simp
                have hh := hN _ _ rfl (.inl (Below.refl _ _))
                revert hh
                go_simp
              refine owed_cons (fun vs u hS hD N => ?_) ?_
              · have d4 := hD 4 (by decide)
                simp only [fact, layAt, depOn, dstOf, List.map_cons, List.map_nil, List.foldl_cons, List.foldl_nil, List.getD_cons_zero, List.getD_cons_succ, List.getElem?_cons_zero, List.getElem?_cons_succ, Option.bind_some] at d4
                clear hD
                intro hN
                simp only [fact, layAt, depOn, dstOf, List.map_cons, List.map_nil, List.foldl_cons, List.foldl_nil, List.getD_cons_zero, List.getD_cons_succ, List.getElem?_cons_zero, List.getElem?_cons_succ, Option.bind_some, d4] at hN ⊢
                go_simp
                have hh := hN _ _ rfl (.inl (Below.refl _ _))
                revert hh
                go_simp
              refine owed_cons (fun vs u hS hD N => ?_) ?_
              · have d4 := hD 4 (by decide)
                simp only [fact, layAt, depOn, dstOf, List.map_cons, List.map_nil, List.foldl_cons, List.foldl_nil, List.getD_cons_zero, List.getD_cons_succ, List.getElem?_cons_zero, List.getElem?_cons_succ, Option.bind_some] at d4
                clear hD
                intro hN
                simp only [fact, layAt, depOn, dstOf, List.map_cons, List.map_nil, List.foldl_cons, List.foldl_nil, List.getD_cons_zero, List.getD_cons_succ, List.getElem?_cons_zero, List.getElem?_cons_succ, Option.bind_some, d4] at hN ⊢
                go_simp
                have hh := hN _ _ rfl (.inl (Below.refl _ _))
                revert hh
                go_simp
              refine owed_cons (fun vs u hS hD N => ?_) ?_
              · have d4 := hD 4 (by decide)
                simp only [fact, layAt, depOn, dstOf, List.map_cons, List.map_nil, List.foldl_cons, List.foldl_nil, List.getD_cons_zero, List.getD_cons_succ, List.getElem?_cons_zero, List.getElem?_cons_succ, Option.bind_some] at d4
                have d9 := hD 9 (by decide)
                simp only [fact, layAt, depOn, dstOf, List.map_cons, List.map_nil, List.foldl_cons, List.foldl_nil, List.getD_cons_zero, List.getD_cons_succ, List.getElem?_cons_zero, List.getElem?_cons_succ, Option.bind_some] at d9
                have d10 := hD 10 (by decide)
                simp only [fact, layAt, depOn, dstOf, List.map_cons, List.map_nil, List.foldl_cons, List.foldl_nil, List.getD_cons_zero, List.getD_cons_succ, List.getElem?_cons_zero, List.getElem?_cons_succ, Option.bind_some] at d10
                clear hD
                intro hN
                simp only [fact, layAt, depOn, dstOf, List.map_cons, List.map_nil, List.foldl_cons, List.foldl_nil, List.getD_cons_zero, List.getD_cons_succ, List.getElem?_cons_zero, List.getElem?_cons_succ, Option.bind_some, d4, d9, d10] at hN ⊢
                go_simp
                have hh := hN _ _ rfl (.inl (Below.refl _ _))
                revert hh
                go_simp
              refine owed_cons (fun vs u hS hD N => ?_) ?_
              · have d4 := hD 4 (by decide)
                simp only [fact, layAt, depOn, dstOf, List.map_cons, List.map_nil, List.foldl_cons, List.foldl_nil, List.getD_cons_zero, List.getD_cons_succ, List.getElem?_cons_zero, List.getElem?_cons_succ, Option.bind_some] at d4
                have d11 := hD 11 (by decide)
                simp only [fact, layAt, depOn, dstOf, List.map_cons, List.map_nil, List.foldl_cons, List.foldl_nil, List.getD_cons_zero, List.getD_cons_succ, List.getElem?_cons_zero, List.getElem?_cons_succ, Option.bind_some] at d11
                clear hD
                intro hN
                simp only [fact, layAt, depOn, dstOf, List.map_cons, List.map_nil, List.foldl_cons, List.foldl_nil, List.getD_cons_zero, List.getD_cons_succ, List.getElem?_cons_zero, List.getElem?_cons_succ, Option.bind_some, d4, d11] at hN ⊢
                go_simp
                have k0 := K0 _ hS
                have k1 := K1 _ hS
                go_simp
                have hh := hN _ _ rfl (.inl (Below.refl _ _))
                revert hh
                go_simp
              refine owed_cons (fun vs u hS hD N => ?_) ?_
              · have d4 := hD 4 (by decide)
                simp only [fact, layAt, depOn, dstOf, List.map_cons, List.map_nil, List.foldl_cons, List.foldl_nil, List.getD_cons_zero, List.getD_cons_succ, List.getElem?_cons_zero, List.getElem?_cons_succ, Option.bind_some] at d4
                have d8 := hD 8 (by decide)
                simp only [fact, layAt, depOn, dstOf, List.map_cons, List.map_nil, List.foldl_cons, List.foldl_nil, List.getD_cons_zero, List.getD_cons_succ, List.getElem?_cons_zero, List.getElem?_cons_succ, Option.bind_some] at d8
                have d12 := hD 12 (by decide)
                simp only [fact, layAt, depOn, dstOf, List.map_cons, List.map_nil, List.foldl_cons, List.foldl_nil, List.getD_cons_zero, List.getD_cons_succ, List.getElem?_cons_zero, List.getElem?_cons_succ, Option.bind_some] at d12
                clear hD
                intro hN
                simp only [fact, layAt, depOn, dstOf, List.map_cons, List.map_nil, List.foldl_cons, List.foldl_nil, List.getD_cons_zero, List.getD_cons_succ, List.getElem?_cons_zero, List.getElem?_cons_succ, Option.bind_some, d4, d8, d12] at hN ⊢
                go_simp
                refine (refCmp_any y1 y2 k1 k2 HB.out.1 HB.out.2.1 HB.out.2.2.1 HB.out.2.2.2 u).mono ?_
                rintro e u' ⟨rfl, f⟩
                rw [HC.out]
                have hh := hN _ _ rfl (.inl f)
                revert hh
                go_simp
              refine owed_cons (fun vs u hS hD N => ?_) ?_
              · have d4 := hD 4 (by decide)
                simp only [fact, layAt, depOn, dstOf, List.map_cons, List.map_nil, List.foldl_cons, List.foldl_nil, List.getD_cons_zero, List.getD_cons_succ, List.getElem?_cons_zero, List.getElem?_cons_succ, Option.bind_some] at d4
                have d13 := hD 13 (by decide)
                simp only [fact, layAt, depOn, dstOf, List.map_cons, List.map_nil, List.foldl_cons, List.foldl_nil, List.getD_cons_zero, List.getD_cons_succ, List.getElem?_cons_zero, List.getElem?_cons_succ, Option.bind_some] at d13
                clear hD
                intro hN
                simp only [fact, layAt, depOn, dstOf, List.map_cons, List.map_nil, List.foldl_cons, List.foldl_nil, List.getD_cons_zero, List.getD_cons_succ, List.getElem?_cons_zero, List.getElem?_cons_succ, Option.bind_some, d4, d13] at hN ⊢
                go_simp
                have hh := hN _ _ rfl (.inl (Below.refl _ _))
                revert hh
                go_simp
              refine owed_cons (fun vs u hS hD N => ?_) ?_
              · have d4 := hD 4 (by decide)
                simp only [fact, layAt, depOn, dstOf, List.map_cons, List.map_nil, List.foldl_cons, List.foldl_nil, List.getD_cons_zero, List.getD_cons_succ, List.getElem?_cons_zero, List.getElem?_cons_succ, Option.bind_some] at d4
                have d14 := hD 14 (by decide)
                simp only [fact, layAt, depOn, dstOf, List.map_cons, List.map_nil, List.foldl_cons, List.foldl_nil, List.getD_cons_zero, List.getD_cons_succ, List.getElem?_cons_zero, List.getElem?_cons_succ, Option.bind_some] at d14
                clear hD
                intro hN
                simp only [fact, layAt, depOn, dstOf, List.map_cons, List.map_nil, List.foldl_cons, List.foldl_nil, List.getD_cons_zero, List.getD_cons_succ, List.getElem?_cons_zero, List.getElem?_cons_succ, Option.bind_some, d4, d14] at hN ⊢
                go_simp
                have hh := hN _ _ rfl (.inl (Below.refl _ _))
                revert hh
                go_simp
              exact owed_nil
            ·
              intro vs u hS hF
              have d15 := hF 15 (by decide) (by decide)
              simp only [fact, layAt, depOn, dstOf, List.map_cons, List.map_nil, List.foldl_cons, List.foldl_nil, List.getD_cons_zero, List.getD_cons_succ, List.getElem?_cons_zero, List.getElem?_cons_succ, Option.bind_some] at d15
              clear hF
              simp only [List.length_cons, List.length_nil, Nat.reduceAdd, List.range, List.range.loop, fact, layAt, depOn, dstOf, List.map_cons, List.map_nil, List.foldl_cons, List.foldl_nil, List.getD_cons_zero, List.getD_cons_succ, List.getElem?_cons_zero, List.getElem?_cons_succ, Option.bind_some, d15]
              go_simp
              have f2 := f1.trans (hS.mono f1.size)
              have o2 := o1.below (Nat.le_refl _) hS
              have y0 := Y0 _ hS
              have y1' := Y1 _ hS
              have k0 := K0 _ hS
              have k1' := K1 _ hS
              clear HC Y0 Y1 K0 K1 HB
              have qe := fun w : World => run_nm_eq y1 y2 k1 k2 w
              rw [decide_eq_false HNE.out] at qe
              go_wp2_with fail
              go_quiet (fail)
              have f3 := belowN f2 nq
              have o3 : OwnR nmC 2 (u.drewN nq) w.heap.size 24 (.slice (some ⟨bx, ox, none⟩) m cx) Y := o2
              obtain ⟨wp, ewp⟩ : ∃ wp : World, wp = u.drewN nq := ⟨_, rfl⟩
              rw [← ewp] at f3 o3 ⊢
              clear ewp o2 f2
              have HINS := Lib.hid (show ∀ hq : q < Y.length, nmLt (k1, k2) Y[q] = true from fun hq => by rw [← nmAt_eq hq, HY.out]; exact HGT.out)
              have hq1 : IntKind.i64.wrap ((q : Int) + 1) = (q : Int) + 1 := IntWalk.i64_in _ (by omega)
              have oz := one_zero wp (wp.heap.size + 1) (by omega)
              have hbp : Below w.heap.size wp (wp.alloc (.cells #[.string (strB []), .string (strB [])] 24)) := (Below.refl _ _).alloc f3.size _
              go_wp2_with (first | (at_builtin; go_must (refine appendRow TN nmC_len nmC_one rfl rfl rfl (o3.below (Nat.le_refl _) ((Below.refl _ wp).alloc (Nat.le_refl _) _)) rfl oz (by omega) (by simp only [maxLen]; omega) hbp f3.size ?_); intro A5 c5 w5 o5 f5 g5))
              obtain ⟨g, cur0, hA5, hg, hbk, _⟩ := o5.blk nmC_len (by omega)
              subst hA5
              replace f5 := f3.trans f5
              have o6 : OwnR nmC 2 w5.drew w.heap.size 24 (.slice (some ⟨g, 0, none⟩) (m + 1) c5) (Y ++ [([], [])]) := o5
              obtain ⟨w7, hcp, hgr, cur, hb7, hl7, hg7, hmc, hmx, ht1, ht2⟩ := o6.shift TN nmC_len nmC_one (i := q) hq
              have hcq : ¬ c5 = q := by omega
              have z1 : (0 : Int) ≤ (q : Int) + 1 := by omega
              have z2 : (q : Int) + 1 ≤ (m : Int) + 1 := by omega
              have z3 : (q : Int) + 1 ≤ (c5 : Int) := by omega
              have z4 : (0 : Int) ≤ (q : Int) := by omega
              have z5 : (q : Int) ≤ (c5 : Int) := by omega
              have z6 : (q : Int) ≤ (m : Int) + 1 := by omega
              have f7 : Below w.heap.size w w7 := f5.drew.grown hgr f5.size (by simpa using hg7)
              clear o5 o6 hbk f5 g5 oz hbp o3 f3
              go_upto_region 10 with fail
              by_cases hcc : c5 = q + 1
              · exfalso; omega
              · rw [if_neg hcc] at hcp
                refine wp_region_order (fun _ => True) 100 [(0,0), (1,0), (2,0), (3,0), (4,0), (5,0), (6,0), (7,1)] (by kernel_rfl) (by kernel_rfl) ?_
                simp only [pick, List.filterMap_cons, List.filterMap_nil, List.getElem?_cons_zero, List.getElem?_cons_succ, Option.map_some]
                have hS9 : True := trivial
                refine wpF_take (v := ?_) hS9 rfl ?_ (fun _ _ _ h => h) ?_
                rotate_left
                · intro w' hS'
                  obtain _ := hS'
                  go_simp <;> rfl
                go_simp
                refine wpF_take (v := ?_) hS9 rfl ?_ (fun _ _ _ h => h) ?_
                rotate_left
                · intro w' hS'
                  obtain _ := hS'
                  go_simp <;> rfl
                go_simp
                refine wpF_take (v := ?_) hS9 rfl ?_ (fun _ _ _ h => h) ?_
                rotate_left
                · intro w' hS'
                  obtain _ := hS'
                  go_simp <;> rfl
                go_simp
                refine wpF_take (v := ?_) hS9 rfl ?_ (fun _ _ _ h => h) ?_
                rotate_left
                · intro w' hS'
                  obtain _ := hS'
                  go_simp <;> rfl
                go_simp
                refine wpF_take (v := ?_) hS9 rfl ?_ (fun _ _ _ h => h) ?_
                rotate_left
                · intro w' hS'
                  obtain _ := hS'
                  go_simp <;> rfl
                go_simp
                refine wpF_take (v := ?_) hS9 rfl ?_ (fun _ _ _ h => h) ?_
                rotate_left
                · intro w' hS'
                  obtain _ := hS'
                  go_simp <;> rfl
                go_simp
                refine wpF_take (v := ?_) hS9 rfl ?_ (fun _ _ _ h => h) ?_
                rotate_left
                · intro w' hS'
                  obtain _ := hS'
                  go_simp <;> rfl
                go_simp
                refine wpF_only rfl (fun K hK => ?_)
                go_wp2_with fail
                first | refine ⟨fun _ => trivial, ?_⟩ | refine ⟨trivial, ?_⟩ | skip
                go_simp
                refine wpF_nil ?_
                have p0 : w7.cell? ⟨bl, ol + k * 2, none⟩ = some (.string (strB k1)) := (f7.cell (p := ⟨bl, ol + k * 2, none⟩) hbl).trans q0
                have p1 : w7.cell? ⟨bl, ol + k * 2 + 1, none⟩ = some (.string (strB k2)) := (f7.cell (p := ⟨bl, ol + k * 2 + 1, none⟩) hbl).trans q1
                clear hcp
                go_upto_region 11 with fail
                have c0 : w7.cell? ⟨g, q * 2, none⟩ = some (cur[q * 2]'(by omega)) := by rw [hb7.cell]; exact List.getElem?_eq_getElem (by omega)
                have c1 : w7.cell? ⟨g, q * 2 + 1, none⟩ = some (cur[q * 2 + 1]'(by omega)) := by rw [hb7.cell]; exact List.getElem?_eq_getElem (by omega)
                have g0 := hb7.frozen (q * 2)
                have g1 := hb7.frozen (q * 2 + 1)
                have z7 : (q : Int) < (m : Int) + 1 := by omega
                go_wp2_with fail
                go_roundw
                case rel =>
                  refine ⟨some ⟨g, 0, none⟩, m + 1, _, k + 1, Y.take q ++ (k1, k2) :: Y.drop q, rfl, by go_num, by omega, insert_own hb7 hl7 hg7 (by omega) hmx hq hYl ht1 ht2 (k1, k2), rising_insert HRI.out (fun j hj hjq => HALL.out j hj hjq) HINS.out, fun z => ?_, by omega, (f7.setCell (by exact hg7) _).setCell (by exact hg7) _⟩
                  rw [insert_mem, HMEM.out, take_mem (by omega), HX.out]
                case measure => simp [intOf]; omega
          · have HC := Lib.hid (show cmpN y1 y2 k1 k2 = 0 from hz)
            have HEQ := Lib.hid heq
            clear hz heq
            refine wp_region_facts (fun u => Below wv.heap.size wv u) [
                fun v _ => v = .int .i64 (q : Int),
                fun v _ => v = .slice (some ⟨bx, ox, none⟩) m cx,
                fun v _ => v = .int .i64 (m : Int),
                fun v _ => v = .bool true,
                fun v _ => v = .bool true,
                fun v _ => v = .slice (some ⟨bx, ox, none⟩) m cx,
                fun v _ => v = .int .i64 (q : Int),
                fun v _ => v = .pointer (some ⟨bx, ox + q * 2, none⟩),
                fun v _ => v = .agg #[.string (strB y1), .string (strB y2)],
                fun v _ => v = .slice (some ⟨bl, ol, none⟩) n c,
                fun v _ => v = .int .i64 (k : Int),
                fun v _ => v = .pointer (some ⟨bl, ol + k * 2, none⟩),
                fun v _ => v = .agg #[.string (strB k1), .string (strB k2)],
                fun v _ => v = .int .i64 0,
                fun v _ => v = .bool false,
                fun v _ => v = .bool false] (fun u u' => Below u.heap.size u u')
                [[], [], [1], [0, 2], [3], [4], [4], [4, 5, 6], [4, 7], [4], [4], [4, 9, 10], [4, 11], [4, 8, 12], [4, 13], [4, 14]] []
                (by kernel_rfl) (by kernel_rfl) ?_ (fun _ _ _ _ _ h => h) ((Below.refl _ _).drew) ?_ ?_
            · refine hE_of (fun u u' h f => f.trans (h.mono f.size)) ?_
              repeat' (first | exact mono_nil | refine mono_cons (fun v u u' h => ?_) ?_)
              all_goals exact _root_.id
            ·
              refine owed_cons (fun vs u hS hD N => ?_) ?_
              · clear hD
                intro hN
                simp only [fact, layAt, depOn, dstOf, List.map_cons, List.map_nil, List.foldl_cons, List.foldl_nil, List.getD_cons_zero, List.getD_cons_succ, List.getElem?_cons_zero, List.getElem?_cons_succ, Option.bind_some] at hN ⊢
                go_simp
                have hh := hN _ _ rfl (.inl (Below.refl _ _))
                revert hh
                go_simp
              refine owed_cons (fun vs u hS hD N => ?_) ?_
              · clear hD
                intro hN
                simp only [fact, layAt, depOn, dstOf, List.map_cons, List.map_nil, List.foldl_cons, List.foldl_nil, List.getD_cons_zero, List.getD_cons_succ, List.getElem?_cons_zero, List.getElem?_cons_succ, Option.bind_some] at hN ⊢
                go_simp
                have hh := hN _ _ rfl (.inl (Below.refl _ _))
                revert hh
                go_simp
              refine owed_cons (fun vs u hS hD N => ?_) ?_
              · have d1 := hD 1 (by decide)
                simp only [fact, layAt, depOn, dstOf, List.map_cons, List.map_nil, List.foldl_cons, List.foldl_nil, List.getD_cons_zero, List.getD_cons_succ, List.getElem?_cons_zero, List.getElem?_cons_succ, Option.bind_some] at d1
                clear hD
                intro hN
                simp only [fact, layAt, depOn, dstOf, List.map_cons, List.map_nil, List.foldl_cons, List.foldl_nil, List.getD_cons_zero, List.getD_cons_succ, List.getElem?_cons_zero, List.getElem?_cons_succ, Option.bind_some, d1] at hN ⊢
                go_simp
                have hh := hN _ _ rfl (.inl (Below.refl _ _))
                revert hh
                go_simp
              refine owed_cons (fun vs u hS hD N => ?_) ?_
              · have d0 := hD 0 (by decide)
                simp only [fact, layAt, depOn, dstOf, List.map_cons, List.map_nil, List.foldl_cons, List.foldl_nil, List.getD_cons_zero, List.getD_cons_succ, List.getElem?_cons_zero, List.getElem?_cons_succ, Option.bind_some] at d0
                have d2 := hD 2 (by decide)
                simp only [fact, layAt, depOn, dstOf, List.map_cons, List.map_nil, List.foldl_cons, List.foldl_nil, List.getD_cons_zero, List.getD_cons_succ, List.getElem?_cons_zero, List.getElem?_cons_succ, Option.bind_some] at d2
                clear hD
                intro hN
                simp only [fact, layAt, depOn, dstOf, List.map_cons, List.map_nil, List.foldl_cons, List.foldl_nil, List.getD_cons_zero, List.getD_cons_succ, List.getElem?_cons_zero, List.getElem?_cons_succ, Option.bind_some, d0, d2] at hN ⊢
                go_simp
                have hh := hN _ _ rfl (.inl (Below.refl _ _))
                revert hh
                go_simp
              refine owed_cons (fun vs u hS hD N => ?_) ?_
              · have d3 := hD 3 (by decide)
                simp only [fact, layAt, depOn, dstOf, List.map_cons, List.map_nil, List.foldl_cons, List.foldl_nil, List.getD_cons_zero, List.getD_cons_succ, List.getElem?_cons_zero, List.getElem?_cons_succ, Option.bind_some] at d3
                clear hD
                intro hN
                simp only [fact, layAt, depOn, dstOf, List.map_cons, List.map_nil, List.foldl_cons, List.foldl_nil, List.getD_cons_zero, List.getD_cons_succ, List.getElem?_cons_zero, List.getElem?_cons_succ, Option.bind_some, d3] at hN ⊢
                go_simp
                have hh := hN _ _ rfl (.inl (Below.refl _ _))
                revert hh
                go_simp
              refine owed_cons (fun vs u hS hD N => ?_) ?_
              · have d4 := hD 4 (by decide)
                simp only [fact, layAt, depOn, dstOf, List.map_cons, List.map_nil, List.foldl_cons, List.foldl_nil, List.getD_cons_zero, List.getD_cons_succ, List.getElem?_cons_zero, List.getElem?_cons_succ, Option.bind_some] at d4
                clear hD
                intro hN
                simp only [fact, layAt, depOn, dstOf, List.map_cons, List.map_nil, List.foldl_cons, List.foldl_nil, List.getD_cons_zero, List.getD_cons_succ, List.getElem?_cons_zero, List.getElem?_cons_succ, Option.bind_some, d4] at hN ⊢
                go_simp
                have hh := hN _ _ rfl (.inl (Below.refl _ _))
                revert hh
                go_simp
              refine owed_cons (fun vs u hS hD N => ?_) ?_
              · have d4 := hD 4 (by decide)
                simp only [fact, layAt, depOn, dstOf, List.map_cons, List.map_nil, List.foldl_cons, List.foldl_nil, List.getD_cons_zero, List.getD_cons_succ, List.getElem?_cons_zero, List.getElem?_cons_succ, Option.bind_some] at d4
                clear hD
                intro hN
                simp only [fact, layAt, depOn, dstOf, List.map_cons, List.map_nil, List.foldl_cons, List.foldl_nil, List.getD_cons_zero, List.getD_cons_succ, List.getElem?_cons_zero, List.getElem?_cons_succ, Option.bind_some, d4] at hN ⊢
                go_simp
                have hh := hN _ _ rfl (.inl (Below.refl _ _))
                revert hh
                go_simp
              refine owed_cons (fun vs u hS hD N => ?_) ?_
              · have d4 := hD 4 (by decide)
                simp only [fact, layAt, depOn, dstOf, List.map_cons, List.map_nil, List.foldl_cons, List.foldl_nil, List.getD_cons_zero, List.getD_cons_succ, List.getElem?_cons_zero, List.getElem?_cons_succ, Option.bind_some] at d4
                have d5 := hD 5 (by decide)
                simp only [fact, layAt, depOn, dstOf, List.map_cons, List.map_nil, List.foldl_cons, List.foldl_nil, List.getD_cons_zero, List.getD_cons_succ, List.getElem?_cons_zero, List.getElem?_cons_succ, Option.bind_some] at d5
                have d6 := hD 6 (by decide)
                simp only [fact, layAt, depOn, dstOf, List.map_cons, List.map_nil, List.foldl_cons, List.foldl_nil, List.getD_cons_zero, List.getD_cons_succ, List.getElem?_cons_zero, List.getElem?_cons_succ, Option.bind_some] at d6
                clear hD
                intro hN
                simp only [fact, layAt, depOn, dstOf, List.map_cons, List.map_nil, List.foldl_cons, List.foldl_nil, List.getD_cons_zero, List.getD_cons_succ, List.getElem?_cons_zero, List.getElem?_cons_succ, Option.bind_some, d4, d5, d6] at hN ⊢
                go_simp
                have hh := hN _ _ rfl (.inl (Below.refl _ _))
                revert hh
                go_simp
              refine owed_cons (fun vs u hS hD N => ?_) ?_
              · have d4 := hD 4 (by decide)
                simp only [fact, layAt, depOn, dstOf, List.map_cons, List.map_nil, List.foldl_cons, List.foldl_nil, List.getD_cons_zero, List.getD_cons_succ, List.getElem?_cons_zero, List.getElem?_cons_succ, Option.bind_some] at d4
                have d7 := hD 7 (by decide)
                simp only [fact, layAt, depOn, dstOf, List.map_cons, List.map_nil, List.foldl_cons, List.foldl_nil, List.getD_cons_zero, List.getD_cons_succ, List.getElem?_cons_zero, List.getElem?_cons_succ, Option.bind_some] at d7
                clear hD
                intro hN
                simp only [fact, layAt, depOn, dstOf, List.map_cons, List.map_nil, List.foldl_cons, List.foldl_nil, List.getD_cons_zero, List.getD_cons_succ, List.getElem?_cons_zero, List.getElem?_cons_succ, Option.bind_some, d4, d7] at hN ⊢
                go_simp
                have y0 := Y0 _ hS
                have y1 := Y1 _ hS
                go_simp
                have hh := hN _ _ rfl (.inl (Below.refl _ _))
                revert hh
                go_simp
              refine owed_cons (fun vs u hS hD N => ?_) ?_
              · have d4 := hD 4 (by decide)
                simp only [fact, layAt, depOn, dstOf, List.map_cons, List.map_nil, List.foldl_cons, List.foldl_nil, List.getD_cons_zero, List.getD_cons_succ, List.getElem?_cons_zero, List.getElem?_cons_succ, Option.bind_some] at d4
                clear hD
                intro hN
                simp only [fact, layAt, depOn, dstOf, List.map_cons, List.map_nil, List.foldl_cons, List.foldl_nil, List.getD_cons_zero, List.getD_cons_succ, List.getElem?_cons_zero, List.getElem?_cons_succ, Option.bind_some, d4] at hN ⊢
                go_simp
                have hh := hN _ _ rfl (.inl (Below.refl _ _))
                revert hh
                go_simp
              refine owed_cons (fun vs u hS hD N => ?_) ?_
              · have d4 := hD 4 (by decide)
                simp only [fact, layAt, depOn, dstOf, List.map_cons, List.map_nil, List.foldl_cons, List.foldl_nil, List.getD_cons_zero, List.getD_cons_succ, List.getElem?_cons_zero, List.getElem?_cons_succ, Option.bind_some] at d4
                clear hD
                intro hN
                simp only [fact, layAt, depOn, dstOf, List.map_cons, List.map_nil, List.foldl_cons, List.foldl_nil, List.getD_cons_zero, List.getD_cons_succ, List.getElem?_cons_zero, List.getElem?_cons_succ, Option.bind_some, d4] at hN ⊢
                go_simp
                have hh := hN _ _ rfl (.inl (Below.refl _ _))
                revert hh
                go_simp
              refine owed_cons (fun vs u hS hD N => ?_) ?_
              · have d4 := hD 4 (by decide)
                simp only [fact, layAt, depOn, dstOf, List.map_cons, List.map_nil, List.foldl_cons, List.foldl_nil, List.getD_cons_zero, List.getD_cons_succ, List.getElem?_cons_zero, List.getElem?_cons_succ, Option.bind_some] at d4
                have d9 := hD 9 (by decide)
                simp only [fact, layAt, depOn, dstOf, List.map_cons, List.map_nil, List.foldl_cons, List.foldl_nil, List.getD_cons_zero, List.getD_cons_succ, List.getElem?_cons_zero, List.getElem?_cons_succ, Option.bind_some] at d9
                have d10 := hD 10 (by decide)
                simp only [fact, layAt, depOn, dstOf, List.map_cons, List.map_nil, List.foldl_cons, List.foldl_nil, List.getD_cons_zero, List.getD_cons_succ, List.getElem?_cons_zero, List.getElem?_cons_succ, Option.bind_some] at d10
                clear hD
                intro hN
                simp only [fact, layAt, depOn, dstOf, List.map_cons, List.map_nil, List.foldl_cons, List.foldl_nil, List.getD_cons_zero, List.getD_cons_succ, List.getElem?_cons_zero, List.getElem?_cons_succ, Option.bind_some, d4, d9, d10] at hN ⊢
                go_simp
                have hh := hN _ _ rfl (.inl (Below.refl _ _))
                revert hh
                go_simp
              refine owed_cons (fun vs u hS hD N => ?_) ?_
              · have d4 := hD 4 (by decide)
                simp only [fact, layAt, depOn, dstOf, List.map_cons, List.map_nil, List.foldl_cons, List.foldl_nil, List.getD_cons_zero, List.getD_cons_succ, List.getElem?_cons_zero, List.getElem?_cons_succ, Option.bind_some] at d4
                have d11 := hD 11 (by decide)
                simp only [fact, layAt, depOn, dstOf, List.map_cons, List.map_nil, List.foldl_cons, List.foldl_nil, List.getD_cons_zero, List.getD_cons_succ, List.getElem?_cons_zero, List.getElem?_cons_succ, Option.bind_some] at d11
                clear hD
                intro hN
                simp only [fact, layAt, depOn, dstOf, List.map_cons, List.map_nil, List.foldl_cons, List.foldl_nil, List.getD_cons_zero, List.getD_cons_succ, List.getElem?_cons_zero, List.getElem?_cons_succ, Option.bind_some, d4, d11] at hN ⊢
                go_simp
                have k0 := K0 _ hS
                have k1 := K1 _ hS
                go_simp
                have hh := hN _ _ rfl (.inl (Below.refl _ _))
                revert hh
                go_simp
              refine owed_cons (fun vs u hS hD N => ?_) ?_
              · have d4 := hD 4 (by decide)
                simp only [fact, layAt, depOn, dstOf, List.map_cons, List.map_nil, List.foldl_cons, List.foldl_nil, List.getD_cons_zero, List.getD_cons_succ, List.getElem?_cons_zero, List.getElem?_cons_succ, Option.bind_some] at d4
                have d8 := hD 8 (by decide)
                simp only [fact, layAt, depOn, dstOf, List.map_cons, List.map_nil, List.foldl_cons, List.foldl_nil, List.getD_cons_zero, List.getD_cons_succ, List.getElem?_cons_zero, List.getElem?_cons_succ, Option.bind_some] at d8
                have d12 := hD 12 (by decide)
                simp only [fact, layAt, depOn, dstOf, List.map_cons, List.map_nil, List.foldl_cons, List.foldl_nil, List.getD_cons_zero, List.getD_cons_succ, List.getElem?_cons_zero, List.getElem?_cons_succ, Option.bind_some] at d12
                clear hD
                intro hN
                simp only [fact, layAt, depOn, dstOf, List.map_cons, List.map_nil, List.foldl_cons, List.foldl_nil, List.getD_cons_zero, List.getD_cons_succ, List.getElem?_cons_zero, List.getElem?_cons_succ, Option.bind_some, d4, d8, d12] at hN ⊢
                go_simp
                refine (refCmp_any y1 y2 k1 k2 HB.out.1 HB.out.2.1 HB.out.2.2.1 HB.out.2.2.2 u).mono ?_
                rintro e u' ⟨rfl, f⟩
                rw [HC.out]
                have hh := hN _ _ rfl (.inl f)
                revert hh
                go_simp
              refine owed_cons (fun vs u hS hD N => ?_) ?_
              · have d4 := hD 4 (by decide)
                simp only [fact, layAt, depOn, dstOf, List.map_cons, List.map_nil, List.foldl_cons, List.foldl_nil, List.getD_cons_zero, List.getD_cons_succ, List.getElem?_cons_zero, List.getElem?_cons_succ, Option.bind_some] at d4
                have d13 := hD 13 (by decide)
                simp only [fact, layAt, depOn, dstOf, List.map_cons, List.map_nil, List.foldl_cons, List.foldl_nil, List.getD_cons_zero, List.getD_cons_succ, List.getElem?_cons_zero, List.getElem?_cons_succ, Option.bind_some] at d13
                clear hD
                intro hN
                simp only [fact, layAt, depOn, dstOf, List.map_cons, List.map_nil, List.foldl_cons, List.foldl_nil, List.getD_cons_zero, List.getD_cons_succ, List.getElem?_cons_zero, List.getElem?_cons_succ, Option.bind_some, d4, d13] at hN ⊢
                go_simp
                have hh := hN _ _ rfl (.inl (Below.refl _ _))
                revert hh
                go_simp
              refine owed_cons (fun vs u hS hD N => ?_) ?_
              · have d4 := hD 4 (by decide)
                simp only [fact, layAt, depOn, dstOf, List.map_cons, List.map_nil, List.foldl_cons, List.foldl_nil, List.getD_cons_zero, List.getD_cons_succ, List.getElem?_cons_zero, List.getElem?_cons_succ, Option.bind_some] at d4
                have d14 := hD 14 (by decide)
                simp only [fact, layAt, depOn, dstOf, List.map_cons, List.map_nil, List.foldl_cons, List.foldl_nil, List.getD_cons_zero, List.getD_cons_succ, List.getElem?_cons_zero, List.getElem?_cons_succ, Option.bind_some] at d14
                clear hD
                intro hN
                simp only [fact, layAt, depOn, dstOf, List.map_cons, List.map_nil, List.foldl_cons, List.foldl_nil, List.getD_cons_zero, List.getD_cons_succ, List.getElem?_cons_zero, List.getElem?_cons_succ, Option.bind_some, d4, d14] at hN ⊢
                go_simp
                have hh := hN _ _ rfl (.inl (Below.refl _ _))
                revert hh
                go_simp
              exact owed_nil
            ·
              intro vs u hS hF
              have d15 := hF 15 (by decide) (by decide)
              simp only [fact, layAt, depOn, dstOf, List.map_cons, List.map_nil, List.foldl_cons, List.foldl_nil, List.getD_cons_zero, List.getD_cons_succ, List.getElem?_cons_zero, List.getElem?_cons_succ, Option.bind_some] at d15
              clear hF
              simp only [List.length_cons, List.length_nil, Nat.reduceAdd, List.range, List.range.loop, fact, layAt, depOn, dstOf, List.map_cons, List.map_nil, List.foldl_cons, List.foldl_nil, List.getD_cons_zero, List.getD_cons_succ, List.getElem?_cons_zero, List.getElem?_cons_succ, Option.bind_some, d15]
              go_simp
              have f2 := f1.trans (hS.mono f1.size)
              have o2 := o1.below (Nat.le_refl _) hS
              have y0 := Y0 _ hS
              have y1' := Y1 _ hS
              have k0 := K0 _ hS
              have k1' := K1 _ hS
              clear HC Y0 Y1 K0 K1 HB
              have qe := fun w : World => run_nm_eq y1 y2 k1 k2 w
              rw [decide_eq_true HEQ.out] at qe
              go_wp2_with fail
              go_quiet (fail)
              go_wp2_with fail
              go_roundw
              case rel =>
                refine ⟨_, m, cx, k + 1, Y, rfl, by go_num, by omega, o2, HRI.out, fun z => ?_, by omega, belowN f2 _⟩
                rw [take_mem (by omega), HMEM.out]
                constructor
                · exact fun h => .inr h
                · rintro (h | h)
                  · subst h
                    rw [HX.out, ← HEQ.out, ← HY.out]
                    exact (HMEM.out _).1 (by rw [nmAt_eq (by omega)]; exact List.getElem_mem _)
                  · exact h
              case measure => simp [intOf]; omega
        · have hqe : q = m := by omega
          have HQE := Lib.hid hqe; clear hqe
          have d3 : decide ((q : Int) < (m : Int)) = false := by simp; omega
          go_wp2_with fail
          go_quiet (fail)
          obtain ⟨wq, ewq⟩ : ∃ wq : World, wq = wv.drewN nq := ⟨_, rfl⟩
          have f2 := belowN f1 nq
          have o2 : OwnR nmC 2 (wv.drewN nq) w.heap.size 24 (.slice AY m cx) Y := o1
          rw [← ewq] at f2 o2 ⊢
          clear o1 f1 K0 K1
          go_wp2_with fail
          go_quiet (fail)
          have f3 := belowN f2 nq
          have o3 : OwnR nmC 2 (wq.drewN nq) w.heap.size 24 (.slice AY m cx) Y := o2
          obtain ⟨wp, ewp⟩ : ∃ wp : World, wp = wq.drewN nq := ⟨_, rfl⟩
          rw [← ewp] at f3 o3 ⊢
          clear o2 f2 ewp ewq
          have HINS := Lib.hid (show ∀ hq : q < Y.length, nmLt (k1, k2) Y[q] = true from fun hq => absurd hq (by have := HQE.out; omega))
          have hq1 : IntKind.i64.wrap ((q : Int) + 1) = (q : Int) + 1 := IntWalk.i64_in _ (by omega)
          have oz := one_zero wp (wp.heap.size + 1) (by omega)
          have hbp : Below w.heap.size wp (wp.alloc (.cells #[.string (strB []), .string (strB [])] 24)) := (Below.refl _ _).alloc f3.size _
          go_wp2_with (first | (at_builtin; go_must (refine appendRow TN nmC_len nmC_one rfl rfl rfl (o3.below (Nat.le_refl _) ((Below.refl _ wp).alloc (Nat.le_refl _) _)) rfl oz (by omega) (by simp only [maxLen]; omega) hbp f3.size ?_); intro A5 c5 w5 o5 f5 g5))
          obtain ⟨g, cur0, hA5, hg, hbk, _⟩ := o5.blk nmC_len (by omega)
          subst hA5
          replace f5 := f3.trans f5
          have o6 : OwnR nmC 2 w5.drew w.heap.size 24 (.slice (some ⟨g, 0, none⟩) (m + 1) c5) (Y ++ [([], [])]) := o5
          obtain ⟨w7, hcp, hgr, cur, hb7, hl7, hg7, hmc, hmx, ht1, ht2⟩ := o6.shift TN nmC_len nmC_one (i := q) hq
          have hcq : ¬ c5 = q := by omega
          have z1 : (0 : Int) ≤ (q : Int) + 1 := by omega
          have z2 : (q : Int) + 1 ≤ (m : Int) + 1 := by omega
          have z3 : (q : Int) + 1 ≤ (c5 : Int) := by omega
          have z4 : (0 : Int) ≤ (q : Int) := by omega
          have z5 : (q : Int) ≤ (c5 : Int) := by omega
          have z6 : (q : Int) ≤ (m : Int) + 1 := by omega
          have f7 : Below w.heap.size w w7 := f5.drew.grown hgr f5.size (by simpa using hg7)
          clear o5 o6 hbk f5 g5 oz hbp o3 f3
          go_upto_region 10 with fail
          by_cases hcc : c5 = q + 1
          · subst hcc
            simp only [eq_self_iff_true, if_true, Nat.sub_self, show q + 1 - q = 1 by omega, show m - q = 0 by omega] at hcp
            rw [show ((q + 1 : Nat) : Int) = (q : Int) + 1 by omega] at z3 z5
            refine wp_region_order (fun _ => True) 100 [(0,0), (1,0), (2,0), (3,0), (4,0), (5,0), (6,0), (7,1)] (by kernel_rfl) (by kernel_rfl) ?_
            simp only [pick, List.filterMap_cons, List.filterMap_nil, List.getElem?_cons_zero, List.getElem?_cons_succ, Option.map_some]
            have hS9 : True := trivial
            refine wpF_take (v := ?_) hS9 rfl ?_ (fun _ _ _ h => h) ?_
            rotate_left
            · intro w' hS'
              obtain _ := hS'
              go_simp <;> rfl
            go_simp
            refine wpF_take (v := ?_) hS9 rfl ?_ (fun _ _ _ h => h) ?_
            rotate_left
            · intro w' hS'
              obtain _ := hS'
              go_simp <;> rfl
            go_simp
            refine wpF_take (v := ?_) hS9 rfl ?_ (fun _ _ _ h => h) ?_
            rotate_left
            · intro w' hS'
              obtain _ := hS'
              go_simp <;> rfl
            go_simp
            refine wpF_take (v := ?_) hS9 rfl ?_ (fun _ _ _ h => h) ?_
            rotate_left
            · intro w' hS'
              obtain _ := hS'
              go_simp <;> rfl
            go_simp
            refine wpF_take (v := ?_) hS9 rfl ?_ (fun _ _ _ h => h) ?_
            rotate_left
            · intro w' hS'
              obtain _ := hS'
              go_simp <;> rfl
            go_simp
            refine wpF_take (v := ?_) hS9 rfl ?_ (fun _ _ _ h => h) ?_
            rotate_left
            · intro w' hS'
              obtain _ := hS'
              go_simp <;> rfl
            go_simp
            refine wpF_take (v := ?_) hS9 rfl ?_ (fun _ _ _ h => h) ?_
            rotate_left
            · intro w' hS'
              obtain _ := hS'
              go_simp <;> rfl
            go_simp
            refine wpF_only rfl (fun K hK => ?_)
            go_wp2_with fail
            first | refine ⟨fun _ => trivial, ?_⟩ | refine ⟨trivial, ?_⟩ | skip
            go_simp
            refine wpF_nil ?_
            have p0 : w7.cell? ⟨bl, ol + k * 2, none⟩ = some (.string (strB k1)) := (f7.cell (p := ⟨bl, ol + k * 2, none⟩) hbl).trans q0
            have p1 : w7.cell? ⟨bl, ol + k * 2 + 1, none⟩ = some (.string (strB k2)) := (f7.cell (p := ⟨bl, ol + k * 2 + 1, none⟩) hbl).trans q1
            clear hcp
            go_upto_region 11 with fail
            have c0 : w7.cell? ⟨g, q * 2, none⟩ = some (cur[q * 2]'(by omega)) := by rw [hb7.cell]; exact List.getElem?_eq_getElem (by omega)
            have c1 : w7.cell? ⟨g, q * 2 + 1, none⟩ = some (cur[q * 2 + 1]'(by omega)) := by rw [hb7.cell]; exact List.getElem?_eq_getElem (by omega)
            have g0 := hb7.frozen (q * 2)
            have g1 := hb7.frozen (q * 2 + 1)
            have z7 : (q : Int) < (m : Int) + 1 := by omega
            go_wp2_with fail
            go_roundw
            case rel =>
              refine ⟨some ⟨g, 0, none⟩, m + 1, _, k + 1, Y.take q ++ (k1, k2) :: Y.drop q, rfl, by go_num, by omega, insert_own hb7 hl7 hg7 (by omega) hmx hq hYl ht1 ht2 (k1, k2), rising_insert HRI.out (fun j hj hjq => HALL.out j hj hjq) HINS.out, fun z => ?_, by omega, (f7.setCell (by exact hg7) _).setCell (by exact hg7) _⟩
              rw [insert_mem, HMEM.out, take_mem (by omega), HX.out]
            case measure => simp [intOf]; omega
          · rw [if_neg hcc] at hcp
            refine wp_region_order (fun _ => True) 100 [(0,0), (1,0), (2,0), (3,0), (4,0), (5,0), (6,0), (7,1)] (by kernel_rfl) (by kernel_rfl) ?_
            simp only [pick, List.filterMap_cons, List.filterMap_nil, List.getElem?_cons_zero, List.getElem?_cons_succ, Option.map_some]
            have hS9 : True := trivial
            refine wpF_take (v := ?_) hS9 rfl ?_ (fun _ _ _ h => h) ?_
            rotate_left
            · intro w' hS'
              obtain _ := hS'
              go_simp <;> rfl
            go_simp
            refine wpF_take (v := ?_) hS9 rfl ?_ (fun _ _ _ h => h) ?_
            rotate_left
            · intro w' hS'
              obtain _ := hS'
              go_simp <;> rfl
            go_simp
            refine wpF_take (v := ?_) hS9 rfl ?_ (fun _ _ _ h => h) ?_
            rotate_left
            · intro w' hS'
              obtain _ := hS'
              go_simp <;> rfl
            go_simp
            refine wpF_take (v := ?_) hS9 rfl ?_ (fun _ _ _ h => h) ?_
            rotate_left
            · intro w' hS'
              obtain _ := hS'
              go_simp <;> rfl
            go_simp
            refine wpF_take (v := ?_) hS9 rfl ?_ (fun _ _ _ h => h) ?_
            rotate_left
            · intro w' hS'
              obtain _ := hS'
              go_simp <;> rfl
            go_simp
            refine wpF_take (v := ?_) hS9 rfl ?_ (fun _ _ _ h => h) ?_
            rotate_left
            · intro w' hS'
              obtain _ := hS'
              go_simp <;> rfl
            go_simp
            refine wpF_take (v := ?_) hS9 rfl ?_ (fun _ _ _ h => h) ?_
            rotate_left
            · intro w' hS'
              obtain _ := hS'
              go_simp <;> rfl
            go_simp
            refine wpF_only rfl (fun K hK => ?_)
            go_wp2_with fail
            first | refine ⟨fun _ => trivial, ?_⟩ | refine ⟨trivial, ?_⟩ | skip
            go_simp
            refine wpF_nil ?_
            have p0 : w7.cell? ⟨bl, ol + k * 2, none⟩ = some (.string (strB k1)) := (f7.cell (p := ⟨bl, ol + k * 2, none⟩) hbl).trans q0
            have p1 : w7.cell? ⟨bl, ol + k * 2 + 1, none⟩ = some (.string (strB k2)) := (f7.cell (p := ⟨bl, ol + k * 2 + 1, none⟩) hbl).trans q1
            clear hcp
            go_upto_region 11 with fail
            have c0 : w7.cell? ⟨g, q * 2, none⟩ = some (cur[q * 2]'(by omega)) := by rw [hb7.cell]; exact List.getElem?_eq_getElem (by omega)
            have c1 : w7.cell? ⟨g, q * 2 + 1, none⟩ = some (cur[q * 2 + 1]'(by omega)) := by rw [hb7.cell]; exact List.getElem?_eq_getElem (by omega)
            have g0 := hb7.frozen (q * 2)
            have g1 := hb7.frozen (q * 2 + 1)
            have z7 : (q : Int) < (m : Int) + 1 := by omega
            go_wp2_with fail
            go_roundw
            case rel =>
              refine ⟨some ⟨g, 0, none⟩, m + 1, _, k + 1, Y.take q ++ (k1, k2) :: Y.drop q, rfl, by go_num, by omega, insert_own hb7 hl7 hg7 (by omega) hmx hq hYl ht1 ht2 (k1, k2), rising_insert HRI.out (fun j hj hjq => HALL.out j hj hjq) HINS.out, fun z => ?_, by omega, (f7.setCell (by exact hg7) _).setCell (by exact hg7) _⟩
              rw [insert_mem, HMEM.out, take_mem (by omega), HX.out]
            case measure => simp [intOf]; omega
    · go_wp2_with fail
      go_ret
      have e : k = n := by omega
      refine ⟨AY, m, cx, Y, rfl, o1.rd nmC_len, HRI.out, fun x => ?_, by omega, f1⟩
      rw [HMEM.out, List.take_of_length_le (by omega)]
end Go.Proofs.Ytopemhdoccgjmaa
