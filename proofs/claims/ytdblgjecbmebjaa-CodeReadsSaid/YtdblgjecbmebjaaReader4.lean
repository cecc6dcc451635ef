/- A reader's Raw. No condition. -/
import Derived.Test.YtdblgjecbmebjaaReader3
import Derived.Test.YtdblgjecbmebjaaSlices
namespace Go.Proofs.Ytdblgjecbmebjaa
open Go.RowKit
theorem Off.heapLt {X : Nat → Prop} {w w' : World} (h : Off X w w') {k : Nat} (hk : k < w.heap.size) : k < w'.heap.size := Nat.lt_of_lt_of_le hk h.size
theorem Rr.adv2 {w w0 : World} {p b : Nat} {n c : Nat} {A : Option Addr} {l : List UInt8} {st : Bool} (h0 : b ≠ p) (k : Blk w p 60 [.slice A n c, .bool st]) (r : RdAt w b A n l) {i n' c' : Nat} (hi : i ≤ n)
    (hf : Off (fun k => k = p) w0 w) {A' : Option Addr} (hA : A' = A.map (fun x => x.add i) ∨ n' = 0) (hn : n' = n - i) (hc' : n - i ≤ c') : Rr (w.setCell ⟨p, 0, none⟩ (.slice A' n' c')) p b ⟨l.drop i, st⟩ ∧ Off (fun k => k = p) w0 (w.setCell ⟨p, 0, none⟩ (.slice A' n' c')) := by
  have q : Rr (w.setCell ⟨p, 0, none⟩ (.slice A' n' c')) p b ⟨l.drop i, st⟩ ∧ Off (fun k => k = p) w (w.setCell ⟨p, 0, none⟩ (.slice A' n' c')) := by
    by_cases h1 : n' = 0
    · exact Rr.adv (off := 0) h0 k r hi (.inr h1) hn hc'
    · obtain ⟨off, rfl, _⟩ := r.2 (by omega)
      rcases hA with rfl | hA
      · exact Rr.adv (off := off) h0 k r hi (.inl ⟨rfl, by simp [Addr.add]⟩) hn hc'
      · exact absurd hA h1
  exact ⟨q.1, hf.trans q.2 fun _ _ h => h⟩
set_option maxRecDepth 100000 in
set_option maxHeartbeats 1000000 in
theorem rRaw_any (p b : Nat) (s : RS) (m : Int) (w : World) (h : Rr w p b s) (hsz : s.l.length ≤ 140737488355328) :
    Calls Try.prog 24 #[.pointer (some ⟨p, 0, none⟩), .int .i64 m] w fun e w' => ∃ A' n' c', e = .returned (.slice A' n' c') ∧ OwnB w' w.heap.size 5 (.slice A' n' c') (takeS (findRaw m) [] s).1 ∧ Rr w' p b (takeS (findRaw m) [] s).2 ∧ Off (fun k => k = p) w w' := by
  have h' := h
  obtain ⟨h0, A, n, c, k, r, hc⟩ := h
  have c0 := k.cell 0
  have c1 := k.cell 1
  have z0 := k.frozen 0
  have z1 := k.frozen 1
  have hl := r.1
  have kp := k.lt
  have hal := h'.off ((Off.refl (fun _ => False) w).alloc (.cells #[.int .i64 m] 3)) id id
  have hof : Off (fun k => k = p) w (w.alloc (.cells #[.int .i64 m] 3)) := (Off.refl _ w).alloc _
  go_enter Try.func24, Try.ntmps24
  obtain ⟨l, st⟩ := s
  simp only at hl hsz
  cases st
  · by_cases hm : m < 0 ∨ (n : Int) < m
    · have hf : findRaw m l = none := by rw [findRaw, if_pos (by rw [hl]; exact hm)]
      by_cases hm0 : m < 0
      · have d1 : decide (m < 0) = true := by simp [hm0]
        go_wp2_with (first | go_in)
        go_ret
        rw [takeS, hf]
        exact ⟨none, 0, 0, rfl, OwnB.nil_ _ _ _, Rr.alloc (Rr.alloc h'.stop _) _⟩
      · have d1 : decide (m < 0) = false := by simp; omega
        have d2 : decide ((n : Int) < m) = true := by simp; omega
        go_wp2_with (first | go_in)
        go_ret
        rw [takeS, hf]
        exact ⟨none, 0, 0, rfl, OwnB.nil_ _ _ _, Rr.alloc (Rr.alloc h'.stop _) _⟩
    · obtain ⟨i, rfl⟩ : ∃ i : Nat, m = (i : Int) := ⟨m.toNat, by omega⟩
      have hf : findRaw (i : Int) l = some (l.take i, i) := by rw [findRaw, if_neg (by rw [hl]; exact hm)]; rfl
      have d1 : decide ((i : Int) < 0) = false := by simp
      have d2 : decide ((n : Int) < (i : Int)) = false := by simp; omega
      have hi : i ≤ n := by omega
      clear hm
      go_wp2_with (first | go_in)
      refine abs (fun w1 => w1.cell? ⟨w.heap.size, 0, none⟩ = some (.int .i64 (i : Int)) ∧ Blk w1 p 60 [.slice A n c, .bool false] ∧ RdAt w1 b A n l ∧ Off (fun k => k = p) w w1 ∧ w.heap.size < w1.heap.size) ⟨by simp, k.alloc _, r.off ((Off.refl (fun _ => False) w).alloc _) id, hof, by simp⟩ ?_
      clear c0 c1 z0 z1 hal hof h' k r
      rintro w1 ⟨e1, k1, r1, f1, hs1⟩
      refine wp_region_order (fun w' => w'.cell? ⟨w.heap.size, 0, none⟩ = some (.int .i64 (i : Int)) ∧ Blk w' p 60 [.slice A n c, .bool false] ∧ RdAt w' b A n l ∧ Off (fun k => k = p) w w' ∧ w.heap.size < w'.heap.size) 6 [(0,0), (1,0), (4,0), (2,1), (3,1), (5,0), (6,2)] (by kernel_rfl) (by kernel_rfl) ?_
      simp only [pick, List.filterMap_cons, List.filterMap_nil, List.getElem?_cons_zero, List.getElem?_cons_succ, Option.map_some]
      have hS : w1.drew.cell? ⟨w.heap.size, 0, none⟩ = some (.int .i64 (i : Int)) ∧ Blk w1.drew p 60 [.slice A n c, .bool false] ∧ RdAt w1.drew b A n l ∧ Off (fun k => k = p) w w1.drew ∧ w.heap.size < w1.drew.heap.size := ⟨e1, k1, r1, f1.drew, hs1⟩
      clear e1 k1 r1 f1 hs1
      refine wpF_take (v := ?_) hS rfl ?_ (fun _ _ _ h => h) ?_
      rotate_left
      · intro w' hS'
        obtain ⟨e1, _⟩ := hS'
        go_simp <;> rfl
      go_simp
      refine wpF_take (v := ?_) hS rfl ?_ (fun _ _ _ h => h) ?_
      rotate_left
      · intro w' hS'
        obtain ⟨e1, _⟩ := hS'
        go_simp <;> rfl
      go_simp
      refine wpF_take (v := ?_) hS rfl ?_ (fun _ _ _ h => h) ?_
      rotate_left
      · intro w' hS'
        obtain ⟨e1, _⟩ := hS'
        go_simp <;> rfl
      go_simp
      refine wpF_only rfl (fun K hK => wp_slice_h T23 rfl rfl rfl hS.2.2.1.rd hi hc (fun A2 r2 => ?_))
      refine hK _ _ ⟨fun _ => hS, ?_⟩
      go_simp
      refine wpF_only rfl (fun K hK => wp_appendR T23 rfl rfl (OwnB.nil_ _ w.heap.size _) rfl r2 (by omega) (Below.refl w.heap.size w1.drew) (Nat.le_of_lt hS.2.2.2.2) ?_)
      intro A3 c3 w2 o2 f2 g2
      have hS2 : w2.cell? ⟨w.heap.size, 0, none⟩ = some (.int .i64 (i : Int)) ∧ Blk w2 p 60 [.slice A n c, .bool false] ∧ RdAt w2 b A n l ∧ Off (fun k => k = p) w w2 ∧ w.heap.size < w2.heap.size := by
        have o : Off (fun _ => False) w1.drew w2 := (Off.refl _ _).grown g2 (fun k hk => by cases hk)
        exact ⟨(o.cell (p := ⟨w.heap.size, 0, none⟩) hS.2.2.2.2 id).trans hS.1, hS.2.1.off o id, hS.2.2.1.off o id, hS.2.2.2.1.trans o (fun _ _ h => h.elim), Nat.lt_of_lt_of_le hS.2.2.2.2 o.size⟩
      refine hK _ _ ⟨fun _ => hS2, ?_⟩
      clear hS r2 f2 g2
      rw [Nat.zero_add, List.nil_append] at o2
      go_simp
      refine wpF_take (v := .slice A3 i c3) hS2 rfl (fun w' _ => by go_simp <;> simp) (fun _ _ _ h => h) ?_
      go_simp
      refine wpF_only rfl (fun K hK => ?_)
      go_wp2_with fail
      refine wpF_nil ?_
      obtain ⟨e1, k1, r1, f1, hs1⟩ := hS2
      have c0 := k1.cell 0
      have z0 := k1.frozen 0
      go_wp2_with (first | go_in)
      · go_ret
        have q := Rr.adv2 (A' := A) (n' := n - i) (c' := 0) h0 k1 r1 hi f1 (.inr (by omega)) rfl (by omega)
        rw [takeS, hf]
        exact ⟨A3, i, c3, rfl, o2.off ((Off.refl (fun k => k = p) w2).setCell (p := ⟨p, 0, none⟩) (fun _ => rfl) _) (fun k hk hp => by have := (o2.isB_lt hk).1; omega), q⟩
      · go_ret
        have q := Rr.adv2 (A' := A.map (fun x => x.add i)) (n' := n - i) (c' := c - i) h0 k1 r1 hi f1 (.inl rfl) rfl (by omega)
        rw [takeS, hf]
        exact ⟨A3, i, c3, rfl, o2.off ((Off.refl (fun k => k = p) w2).setCell (p := ⟨p, 0, none⟩) (fun _ => rfl) _) (fun k hk hp => by have := (o2.isB_lt hk).1; omega), q⟩
  · go_wp2_with (first | go_in)
    go_ret
    exact ⟨none, 0, 0, rfl, OwnB.nil_ _ _ _, hal, hof⟩
set_option maxRecDepth 100000 in
set_option maxHeartbeats 1000000 in
theorem rRaw_nil (m : Int) (w : World) : Calls Try.prog 24 #[.pointer none, .int .i64 m] w fun e w' => e = .returned (.slice none 0 0) ∧ Below w.heap.size w w' := by
  go_enter Try.func24, Try.ntmps24
  go_wp2_with (first | go_in)
  go_ret
  exact ⟨rfl, (Below.refl _ _).alloc (Nat.le_refl _) _⟩
set_option maxRecDepth 100000 in
set_option maxHeartbeats 1000000 in
theorem end_any (p b : Nat) (s : RS) (w : World) (h : Rr w p b s) :
    Calls Try.prog 35 #[.pointer (some ⟨p, 0, none⟩)] w fun e w' => e = .returned (.int .i64 (if s.st || !s.l.isEmpty then 2 else 0)) ∧ Rr w' p b ⟨s.l, s.st || !s.l.isEmpty⟩ ∧ Off (fun k => k = p) w w' := by
  go_enter Try.func35, Try.ntmps35
  go_wp2_with fail
  refine (left_any p b s w h).mono ?_
  rintro e w1 ⟨rfl, rfl⟩
  obtain ⟨l, st⟩ := s
  cases l with
  | nil =>
    go_wp2_with fail
    refine (err_any p b _ w1 h).mono ?_
    rintro e w2 ⟨rfl, rfl⟩
    cases st
    · go_wp2_with fail
      go_ret
      exact ⟨rfl, h, Off.refl _ _⟩
    · go_wp2_with fail
      go_ret
      exact ⟨rfl, h, Off.refl _ _⟩
  | cons x l =>
    have b1 : decide ((0 : Int) < ((x :: l).length : Nat)) = true := by simp
    simp only
    go_wp2_with fail
    refine (fail_any p b _ w1 h).mono ?_
    rintro e w2 ⟨rfl, h2, f2⟩
    go_wp2_with fail
    refine (err_any p b _ w2 h2).mono ?_
    rintro e w3 ⟨rfl, rfl⟩
    go_wp2_with fail
    go_ret
    exact ⟨by simp, by simpa using h2, f2⟩
theorem end_nil (w : World) : Calls Try.prog 35 #[.pointer none] w fun e w' => e = .returned (.int .i64 2) ∧ w' = w := by
  go_enter Try.func35, Try.ntmps35
  go_wp2_with fail
  refine (left_nil w).mono ?_
  rintro e w1 ⟨rfl, rfl⟩
  go_wp2_with fail
  refine (err_nil w1).mono ?_
  rintro e w1 ⟨rfl, rfl⟩
  go_wp2_with fail
  go_ret
  exact ⟨rfl, rfl⟩
end Go.Proofs.Ytdblgjecbmebjaa
