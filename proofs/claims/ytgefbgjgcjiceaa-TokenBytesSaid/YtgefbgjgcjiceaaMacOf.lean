/- mac.Of: the mac of parts by a key. Conditions: the key, and the parts together, are at most 2^45 bytes. -/
import Derived.Test.YtgefbgjgcjiceaaMacBlocks
namespace Go.Proofs.Ytgefbgjgcjiceaa
open Go.RowKit
structure RowTy (P : Program) (t e : TypeId) : Prop where
  sl : P.underlying t = some (.slice e)
  info : (P.info? e).map (fun i => (i.zero, i.size, i.bytes)) = some (some (.slice none 0 0), 1, 24)
theorem T61 : RowTy Try.prog 109 22 := ⟨Try.underlying109, by kernel_rfl⟩
def OwnL (w : World) (base : Nat) (e : TypeId) (v : Value) (ps : List Part) : Prop := w.ownsRow base e 1 v ps.length (ps.map Part.v)
theorem OwnL.form {w : World} {base e : Nat} {v : Value} {k : Nat} {xs : List Value} (h : w.ownsRow base e 1 v k xs) : ∃ A c, v = .slice A k c := by
  rcases h.2 with ⟨h1, h2⟩ | ⟨g, cap, cur, h1, _⟩
  · exact ⟨none, 0, by rw [h1, h2]⟩
  · exact ⟨_, _, h1⟩
theorem OwnL.len {w : World} {base e : Nat} {A : Option Addr} {n c : Nat} {ps : List Part} (h : OwnL w base e (.slice A n c) ps) : ps.length = n := by
  rcases h.2 with ⟨h1, h2⟩ | ⟨g, cap, cur, h1, _⟩
  · injection h1 with _ h3 _; omega
  · injection h1 with _ h3 _; exact h3.symm
theorem OwnL.rd {w : World} {base e : Nat} {A : Option Addr} {n c : Nat} {ps : List Part} (h : OwnL w base e (.slice A n c) ps) (hp : ∀ p ∈ ps, RdB w w.heap.size p.A p.n p.l) : RdL w w.heap.size A n ps := by
  refine ⟨h.len, fun hn => ?_, hp⟩
  have hl := h.len
  rcases h.2 with ⟨h1, h2⟩ | ⟨g, cap, cur, h1, h2, h3, _⟩
  · injection h1 with _ h3 _; omega
  · injection h1 with h4 _ _
    subst h4
    refine ⟨g, 0, rfl, (World.ownsRow.lt h g rfl).2, fun j hj => ?_⟩
    have h5 := World.ownsRow.cells h (g := g) rfl j (ps[j].v) (by simp [hj])
    rwa [Addr.add_mid] at h5
theorem run_appendL {P : Program} {t e : TypeId} (T : RowTy P t e) (ty : TypeId) {w : World} {base : Nat} {A : Option Addr} {n c : Nat} {ps : List Part} (hown : OwnL w base e (.slice A n c) ps)
    {B : Nat} {A2 : Option Addr} {m : Nat} {qs : List Part} (hr : RdL w B A2 m qs) (c2 : Nat) (hlen : n + m ≤ 4398046511104) (hbase : base ≤ w.heap.size) :
    ∃ A' c' w', (Builtin.append_ #[t, t] ty #[.slice A n c, .slice A2 m c2]).run P w = .ok (.slice A' (n + m) c') w' ∧ OwnL w' base e (.slice A' (n + m) c') (ps ++ qs) ∧ w.grownBy w' (Value.slice A n c).ownBlock := by
  obtain ⟨i, hi, hz0, hz1, hz2⟩ := info_parts T.info
  have hl := hown.len
  have hl2 := hr.1
  rcases A2 with _ | ad
  · have hm : m = 0 := by
      rcases Nat.eq_zero_or_pos m with h0 | h0
      · exact h0
      · obtain ⟨b, off, h, _⟩ := hr.2.1 h0
        cases h
    subst hm
    have hn : qs = [] := List.eq_nil_of_length_eq_zero hl2
    subst hn
    refine ⟨A, c, w, ?_, by simpa using hown, World.grownBy.refl w _⟩
    rcases hown.2 with ⟨h1, h2⟩ | ⟨g, cap, cur, h1, _, _, hnc, _⟩
    · injection h1 with e1 e2 e3
      subst e1 e2 e3
      simp [Builtin.append_, run_underlying T.sl, sizeOf, typeInfo, hi, Builtin.lenOf, Builtin.firstCells]
    · injection h1 with h3 h4 h5
      subst h3 h4 h5
      simp [Builtin.append_, run_underlying T.sl, sizeOf, typeInfo, hi, Builtin.lenOf, Builtin.firstCells, hnc, storeCells]
  · have hcells : ∀ j u, (qs.map Part.v)[j]? = some u → w.cell? (ad.add j) = some u := by
      intro j u hu
      obtain ⟨hj, hu⟩ := List.getElem?_eq_some_iff.1 hu
      rw [List.length_map] at hj
      obtain ⟨b, off, h, _, hc⟩ := hr.2.1 (by omega)
      injection h with h
      subst h
      rw [Addr.add_mid, hc j hj, ← hu]
      simp
    obtain ⟨v', w', hrun, h2, h3, _⟩ := run_append_own (P := P) w base t ty e i (.slice none 0 0) 1 24 T.sl hi hz0 hz1 hz2 rfl (by decide) (.slice A n c) n (ps.map Part.v) (hl ▸ hown) ad m c2 (qs.map Part.v) (by rw [List.length_map]; omega) hcells
      (fun u hu => by obtain ⟨p, _, rfl⟩ := List.mem_map.1 hu; rfl) (by simp only [maxLen]; omega) (by omega) hbase
    rw [← List.map_append] at h2
    obtain ⟨A', c', rfl⟩ := OwnL.form h2
    refine ⟨A', c', w', hrun, ?_, h3⟩
    unfold OwnL
    rw [List.length_append, hl, hl2]
    exact h2
theorem appendL {P : Program} {t e : TypeId} (T : RowTy P t e) {ops : Array Oper} {rest : List Oper} {o : Oper} {a : Act} {Q : Exit → Act → World → Prop} {w0 w : World}
    (hgd : o.guard = none) {s x : Operand} (ho : o.op = .call { callee := .builtin .append, args := #[s, x], argTypes := #[t, t] })
    {base : Nat} {A : Option Addr} {n c : Nat} {ps : List Part} (hs : a.eval s = .slice A n c) (hown : OwnL w base e (.slice A n c) ps)
    {B : Nat} {A2 : Option Addr} {m c2 : Nat} {qs : List Part} (hx : a.eval x = .slice A2 m c2) (hr : RdL w B A2 m qs) (hlen : n + m ≤ 4398046511104) (hB : Below base w0 w) (hbase : base ≤ w0.heap.size)
    (h : ∀ A' c' w', OwnL w' base e (.slice A' (n + m) c') (ps ++ qs) → Below base w0 w' → w.grownBy w' (Value.slice A n c).ownBlock → wpList P ops Q rest (a.put o.dst (.slice A' (n + m) c')) w') :
    wpList P ops Q (o :: rest) a w := by
  refine wpList_plain hgd fun K hK => ?_
  obtain ⟨A', c', w', hrun, h2, h3⟩ := run_appendL T o.type hown hr c2 hlen (Nat.le_trans hbase hB.size)
  unfold Oper.wp execOp
  simp only [ho, resolve, invoke, builtin, Sem.run_bind, Sem.run_pure, Result.andThen_ok, List.map_toArray, List.map_cons, List.map_nil, hs, hx, hrun]
  exact hK _ _ (h A' c' w' h2 (hB.grown h3 (Nat.le_trans hbase hB.size) (fun k hk => (World.ownsRow.lt hown k hk).1)) h3)
theorem OwnL.of_blk {w : World} {base g e n : Nat} {ps : List Part} (h : Blk w g e (ps.map Part.v)) (hb : base ≤ g) (hl : ps.length = n) (hn : n ≤ maxLen) : OwnL w base e (.slice (some ⟨g, 0, none⟩) n n) ps := by
  subst hl
  exact ⟨by simp, .inr ⟨g, _, _, rfl, hb, h, Nat.le_refl _, hn, by simp, by rw [Nat.mul_one]; exact List.take_of_length_le (by simp)⟩⟩
/-- The mac of bytes by a key. -/
def macB (key l : List UInt8) : List UInt8 := shaB (macOut key ++ shaB (macIn key ++ l))
theorem macB_length (key l : List UInt8) : (macB key l).length = 32 := shaB_length _
set_option maxRecDepth 100000 in
set_option maxHeartbeats 1000000 in
theorem mac_any (A : Option Addr) (n c : Nat) (l : List UInt8) (A2 : Option Addr) (k c2 : Nat) (ps : List Part) (w : World) (hl : RdB w w.heap.size A n l) (hn : n ≤ 35184372088832)
    (h : RdL w w.heap.size A2 k ps) (hlen : (catB ps).length ≤ 35184372088832) (hk : k ≤ 1099511627776) :
    Calls Try.prog 51 #[.slice A n c, .slice A2 k c2] w fun e w' => e = .returned (.agg (bvs (macB l (catB ps))).toArray) ∧ Below w.heap.size w w' := by
  have hs2 : (Try.prog.info? 29).map (·.size) = some 32 := by kernel_rfl
  have Hs2 := Lib.hid hs2; clear hs2
  go_enter Try.func51, Try.ntmps51
  go_wp2_with fail
  refine absC (fun w1 => Blk w1 w.heap.size 29 (bvs (List.replicate 32 0)) ∧ Below w.heap.size w w1) ⟨Blk.newAt rfl _ _, (Below.refl _ w).alloc (Nat.le_refl _) _⟩ ?_
  rintro w1 ⟨kz, f1⟩
  refine (blocks_any A n c l w1 ((hl.below f1).more f1.size) (by omega)).mono ?_
  rintro e w2 ⟨g1, g2, rfl, o1, o2, fb⟩
  have lz := kz.lt
  replace kz := kz.below fb lz
  have hs1 := f1.size
  replace f1 := f1.trans (fb.mono hs1)
  have r1 := o1.rd
  have r2 := o2.rd
  have hs2 := fb.size
  replace h := (h.below f1).more f1.size
  clear fb o1 o2 hl
  replace lz : w.heap.size < w2.heap.size := by omega
  go_wp2_with (at_builtin; go_must (refine appendL T61 rfl rfl rfl (OwnL.of_blk (ps := [⟨some ⟨g1, 0, none⟩, 64, 64, macIn l⟩]) (Blk.of_new w2 _ _) (Nat.le_refl _) rfl (by simp [maxLen])) rfl (h.below ((Below.refl _ w2).alloc (Nat.le_refl _) _)) (by omega) ((Below.refl _ w2).alloc (Nat.le_refl _) _) (Nat.le_refl _) ?_); intro A3 c3 w3 o3 f3 _)
  have hs3 := f3.size
  have hin : (catB ([⟨some ⟨g1, 0, none⟩, 64, 64, macIn l⟩] ++ ps)) = macIn l ++ catB ps := by rw [catB_append]; simp [catB]
  refine (of_any A3 (1 + k) c3 _ w3 (o3.rd (fun p hp => ?_)) (by rw [hin, List.length_append, macIn_length]; omega) (by omega)).mono ?_
  · rcases List.mem_append.1 hp with hp | hp
    · obtain rfl := List.mem_singleton.1 hp
      exact (r1.below f3).more hs3
    · exact ((h.2.2 p hp).below f3).more hs3
  rintro e w4 ⟨rfl, f4⟩
  rw [hin]
  clear hin o3
  have f34 := f3.trans (f4.mono hs3)
  replace r2 := (r2.below f34).more f34.size
  replace kz := kz.below f34 lz
  replace f1 := f1.trans (f34.mono (by omega))
  have hs4 := f34.size
  clear f3 f4 f34 r1 h
  generalize hS : shaB (macIn l ++ catB ps) = S at *
  have hSl : S.length = 32 := by rw [← hS]; exact shaB_length _
  have HS := Lib.hid hS; clear hS
  have hz : (Try.prog.info? 29).map (·.size) = some (bvs S).length := by rw [bvs_length, hSl]; exact Hs2.out
  have Hz := Lib.hid hz; clear hz
  have hz2 : (bvs (List.replicate 32 0)).length = (bvs S).length := by rw [bvs_length, bvs_length, hSl]; rfl
  have Hz2 := Lib.hid hz2; clear hz2
  have HSl := Lib.hid hSl; clear hSl
  go_wp2_with (first | (refine store_blk (Blk.of_new w4 29 (bvs (List.replicate 32 0))) rfl 29 (.tmp 7) (.tmp 17) rfl rfl (us := bvs S) rfl Hz.out Hz2.out (bvs_all _) ?_; intro w5 k5 hg))
  have l4 := kz.lt
  have f5 : Below w4.heap.size w4 w5 := ((Below.refl _ w4).alloc (Nat.le_refl _) _).grown hg (by simp) (by simp)
  replace kz := kz.below f5 l4
  replace f1 := f1.trans (f5.mono f1.size)
  replace r2 := (r2.below f5).more f5.size
  have rS : RdB w5 w5.heap.size (some ⟨w4.heap.size, 0, none⟩) 32 S := (OwnB.of_blk k5 (Nat.zero_le _) HSl.out (by simp [maxLen])).rd
  clear hg f5
  refine absC (fun w6 => Blk w6 w5.heap.size 22 ([⟨some ⟨g2, 0, none⟩, 64, 64, macOut l⟩, ⟨some ⟨w4.heap.size, 0, none⟩, 32, 32, S⟩].map Part.v) ∧ Blk w6 w.heap.size 29 (bvs (List.replicate 32 0)) ∧ Below w.heap.size w w6 ∧
    RdB w6 w6.heap.size (some ⟨g2, 0, none⟩) 64 (macOut l) ∧ RdB w6 w6.heap.size (some ⟨w4.heap.size, 0, none⟩) 32 S) ⟨Blk.of_new w5 _ [_, _], kz.alloc _, f1.alloc f1.size _, (r2.alloc (Nat.le_refl _) _).more (by simp), (rS.alloc (Nat.le_refl _) _).more (by simp)⟩ ?_
  clear kz f1 r2 rS k5
  rintro w6 ⟨k6, kz, f1, r2, rS⟩
  have hin : (catB [(⟨some ⟨g2, 0, none⟩, 64, 64, macOut l⟩ : Part), ⟨some ⟨w4.heap.size, 0, none⟩, 32, 32, S⟩]) = macOut l ++ S := by simp [catB]
  refine (of_any _ 2 2 _ w6 (RdL.of_blk k6 (fun p hp => ?_)) (by rw [hin, List.length_append, macOut_length, HSl.out]; omega) (by omega)).mono ?_
  · simp only [List.mem_cons, List.not_mem_nil, or_false] at hp
    rcases hp with rfl | rfl
    · exact r2
    · exact rS
  rintro e w7 ⟨rfl, f7⟩
  rw [hin]
  clear hin
  replace kz := kz.below f7 kz.lt
  replace f1 := f1.trans (f7.mono f1.size)
  clear f7 k6 r2 rS
  generalize hR : shaB (macOut l ++ S) = R at *
  have hRl : R.length = 32 := by rw [← hR]; exact shaB_length _
  have HR := Lib.hid hR; clear hR
  have hz : (Try.prog.info? 29).map (·.size) = some (bvs R).length := by rw [bvs_length, hRl]; exact Hs2.out
  have HzR := Lib.hid hz; clear hz
  have hz2 : (bvs (List.replicate 32 0)).length = (bvs R).length := by rw [bvs_length, bvs_length, hRl]; rfl
  have HzR2 := Lib.hid hz2; clear hz2
  go_wp2_with (first | (refine store_blk kz rfl 29 (.tmp 4) (.tmp 21) rfl rfl (us := bvs R) rfl HzR.out HzR2.out (bvs_all _) ?_; intro w8 k8 hg))
  refine bodyPost_ret (k8.sized rfl _ rfl Try.underlying29 HzR.out) rfl ⟨?_, f1.grown hg f1.size (by simp)⟩
  rw [← HR.out, ← HS.out]
  rfl
attribute [irreducible] macB
end Go.Proofs.Ytgefbgjgcjiceaa
