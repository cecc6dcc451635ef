/- A reader's U8, U32, Uint. No condition. -/
import Derived.Test.YtdblgjecbmebjaaReader
import Derived.Test.YtdblgjecbmebjaaOrder
namespace Go.Proofs.Ytdblgjecbmebjaa
open Go.RowKit
theorem Rr.adv {w : World} {p b : Nat} {off n c : Nat} {A : Option Addr} {l : List UInt8} {st : Bool} (h0 : b ≠ p) (k : Blk w p 60 [.slice A n c, .bool st]) (r : RdAt w b A n l) {i n' c' : Nat} (hi : i ≤ n)
    {A' : Option Addr} (hA : (A = some ⟨b, off, none⟩ ∧ A' = some ⟨b, off + i, none⟩) ∨ n' = 0) (hn : n' = n - i) (hc' : n - i ≤ c') : Rr (w.setCell ⟨p, 0, none⟩ (.slice A' n' c')) p b ⟨l.drop i, st⟩ ∧ Off (fun k => k = p) w (w.setCell ⟨p, 0, none⟩ (.slice A' n' c')) := by
  have o : Off (fun k => k = p) w (w.setCell ⟨p, 0, none⟩ (.slice A' n' c')) := (Off.refl (fun k => k = p) w).setCell (p := ⟨p, 0, none⟩) (fun _ => rfl) _
  refine ⟨⟨h0, A', n', c', k.set 0 _, ⟨by rw [List.length_drop, r.1, hn], fun hp => ?_⟩, by omega⟩, o⟩
  rcases hA with ⟨rfl, rfl⟩ | hA
  · obtain ⟨off', h1, h2, h3⟩ := r.2 (by omega)
    injection h1 with h1
    injection h1 with _ h1 _
    subst h1
    refine ⟨_, rfl, Nat.lt_of_lt_of_le h2 o.size, fun j hj => ?_⟩
    rw [List.length_drop] at hj
    rw [o.cell (p := ⟨b, off + i + j, none⟩) h2 h0, Nat.add_assoc, h3 (i + j) (by omega)]
    simp
  · omega
theorem Rr.stop {w : World} {p b : Nat} {s : RS} (h : Rr w p b s) : Rr (w.setCell ⟨p, 1, none⟩ (.bool true)) p b ⟨s.l, true⟩ ∧ Off (fun k => k = p) w (w.setCell ⟨p, 1, none⟩ (.bool true)) := by
  obtain ⟨h0, A, n, c, k, r, hc⟩ := h
  have o : Off (fun k => k = p) w (w.setCell ⟨p, 1, none⟩ (.bool true)) := (Off.refl (fun k => k = p) w).setCell (p := ⟨p, 1, none⟩) (fun _ => rfl) _
  exact ⟨⟨h0, A, n, c, k.set 1 _, r.off o h0, hc⟩, o⟩
theorem Rr.alloc {w w' : World} {p b : Nat} {s : RS} (h : Rr w' p b s ∧ Off (fun k => k = p) w w') (o : Obj) : Rr (w'.alloc o) p b s ∧ Off (fun k => k = p) w (w'.alloc o) :=
  ⟨h.1.off ((Off.refl (fun _ => False) w').alloc o) id id, h.2.alloc o⟩
theorem RdAt.cellAt {w : World} {b off : Nat} {n : Nat} {l : List UInt8} (h : RdAt w b (some ⟨b, off, none⟩) n l) {j : Nat} (hj : j < n) : w.cell? ⟨b, off + j, none⟩ = some (.int .u8 ((at8 l j).toNat : Int)) := by
  obtain ⟨off', h1, hb, hc⟩ := h.2 (by omega)
  injection h1 with h1
  injection h1 with _ h1 _
  subst h1
  have hl := h.1
  rw [hc j (by omega)]
  simp [bv, at8, List.getD, show j < l.length by omega]
set_option maxRecDepth 100000 in
set_option maxHeartbeats 1000000 in
theorem rU8_any (p b : Nat) (s : RS) (w : World) (h : Rr w p b s) :
    Calls Try.prog 26 #[.pointer (some ⟨p, 0, none⟩)] w fun e w' => e = .returned (.int .u8 ((takeS findU8 0 s).1 : Nat)) ∧ Rr w' p b (takeS findU8 0 s).2 ∧ Off (fun k => k = p) w w' := by
  have h' := h
  obtain ⟨h0, A, n, c, k, r, hc⟩ := h
  have c0 := k.cell 0
  have c1 := k.cell 1
  have z0 := k.frozen 0
  have z1 := k.frozen 1
  have hl := r.1
  go_enter Try.func26, Try.ntmps26
  obtain ⟨l, st⟩ := s
  cases st
  · cases l with
    | nil =>
      obtain rfl : n = 0 := hl.symm
      go_wp2_with (first | go_in)
      go_ret
      exact ⟨rfl, Rr.alloc h'.stop _⟩
    | cons x l =>
      have b1 : (0 : Int) < (n : Int) := by rw [← hl]; simp
      have hn : 0 < n := by omega
      have b3 : ((n : Int) == 0) = false := by simp; omega
      obtain ⟨off, rfl, hb, hj⟩ := r.2 hn
      have c3 : w.cell? ⟨b, off, none⟩ = some (.int .u8 (x.toNat : Int)) := hj 0 (by simp)
      clear hj hl
      go_wp2_with (first | go_in)
      · go_ret
        exact ⟨rfl, Rr.adv (off := off) (i := 1) h0 k r hn (.inr (by omega)) rfl (by omega)⟩
      · go_ret
        exact ⟨rfl, Rr.adv (off := off) (i := 1) h0 k r hn (.inl ⟨rfl, rfl⟩) rfl (by omega)⟩
  · go_wp2_with (first | go_in)
    go_ret
    exact ⟨rfl, h', Off.refl _ _⟩
theorem rU8_nil (w : World) : Calls Try.prog 26 #[.pointer none] w fun e w' => e = .returned (.int .u8 0) ∧ w' = w := by
  go_enter Try.func26, Try.ntmps26
  go_wp2_with (first | go_in)
  go_ret
  exact ⟨rfl, rfl⟩
theorem bits_or24 (a b c d : Nat) (ha : a < 256) (hb : b < 256) (hc : c < 256) (hd : d < 256) :
    bits BinOp.or .u32 (bits BinOp.or .u32 (bits BinOp.or .u32 ((d : Int) * 16777216) ((c : Int) * 65536)) ((b : Int) * 256)) (a : Int) = ((a + b * 256 + c * 65536 + d * 16777216 : Nat) : Int) := by
  rw [show (d : Int) * 16777216 = ((2 ^ 24 * d : Nat) : Int) from by omega, show (c : Int) * 65536 = ((2 ^ 16 * c : Nat) : Int) from by omega, show (b : Int) * 256 = ((2 ^ 8 * b : Nat) : Int) from by omega,
    u32_or_nat _ _ (by omega) (by omega), ← Nat.two_pow_add_eq_or_of_lt (by omega), u32_or_nat _ _ (by omega) (by omega),
    show 2 ^ 24 * d + 2 ^ 16 * c = 2 ^ 16 * (2 ^ 8 * d + c) from by omega, ← Nat.two_pow_add_eq_or_of_lt (by omega), u32_or_nat _ _ (by omega) (by omega),
    show 2 ^ 16 * (2 ^ 8 * d + c) + 2 ^ 8 * b = 2 ^ 8 * (2 ^ 16 * d + 2 ^ 8 * c + b) from by omega, ← Nat.two_pow_add_eq_or_of_lt (by omega)]
  congr 1
  omega
set_option maxRecDepth 100000 in
set_option maxHeartbeats 1000000 in
theorem rU32_any (p b : Nat) (s : RS) (w : World) (h : Rr w p b s) :
    Calls Try.prog 28 #[.pointer (some ⟨p, 0, none⟩)] w fun e w' => e = .returned (.int .u32 ((takeS findU32 0 s).1 : Nat)) ∧ Rr w' p b (takeS findU32 0 s).2 ∧ Off (fun k => k = p) w w' := by
  have h' := h
  obtain ⟨h0, A, n, c, k, r, hc⟩ := h
  have c0 := k.cell 0
  have c1 := k.cell 1
  have z0 := k.frozen 0
  have z1 := k.frozen 1
  have hl := r.1
  go_enter Try.func28, Try.ntmps28
  obtain ⟨l, st⟩ := s
  cases st
  · by_cases h4 : n < 4
    · have b3 : decide ((n : Int) < 4) = true := by simp; omega
      have hf : findU32 l = none := by
        rcases l with _ | ⟨x0, _ | ⟨x1, _ | ⟨x2, _ | ⟨x3, l⟩⟩⟩⟩ <;> first | rfl | (simp at hl; omega)
      go_wp2_with (first | go_in)
      go_ret
      simp only [takeS, hf, Bool.false_eq_true, if_false]
      exact ⟨rfl, Rr.alloc h'.stop _⟩
    · have b3 : decide ((n : Int) < 4) = false := by simp; omega
      obtain ⟨off, rfl, hb, hj⟩ := r.2 (by omega)
      rcases l with _ | ⟨x0, _ | ⟨x1, _ | ⟨x2, _ | ⟨x3, l⟩⟩⟩⟩
      any_goals (simp at hl; omega)
      have e0 : w.cell? ⟨b, off, none⟩ = some (.int .u8 (x0.toNat : Int)) := hj 0 (by simp)
      have e1 : w.cell? ⟨b, off + 1, none⟩ = some (.int .u8 (x1.toNat : Int)) := hj 1 (by simp)
      have e2 : w.cell? ⟨b, off + 2, none⟩ = some (.int .u8 (x2.toNat : Int)) := hj 2 (by simp)
      have e3 : w.cell? ⟨b, off + 3, none⟩ = some (.int .u8 (x3.toNat : Int)) := hj 3 (by simp)
      have hor := bits_or24 x0.toNat x1.toNat x2.toNat x3.toNat x0.toNat_lt x1.toNat_lt x2.toNat_lt x3.toNat_lt
      have y1 := x1.toNat_lt
      have y2 := x2.toNat_lt
      have y3 := x3.toNat_lt
      have y0 := x0.toNat_lt
      have b0 : (0 : Int) < (n : Int) := by omega
      have b1 : (1 : Int) < (n : Int) := by omega
      have b2 : (2 : Int) < (n : Int) := by omega
      have b4 : (3 : Int) < (n : Int) := by omega
      have hn : 4 ≤ n := by omega
      have hr : takeS findU32 0 ⟨x0 :: x1 :: x2 :: x3 :: l, false⟩ = (x0.toNat + x1.toNat * 256 + x2.toNat * 65536 + x3.toNat * 16777216, ⟨(x0 :: x1 :: x2 :: x3 :: l).drop 4, false⟩) := rfl
      rw [hr]
      have b5 : (4 : Int) ≤ (n : Int) := by omega
      have hn0 : 0 < n := by omega
      clear hj hl hr
      generalize x0.toNat = X0 at *
      generalize x1.toNat = X1 at *
      generalize x2.toNat = X2 at *
      generalize x3.toNat = X3 at *
      go_wp2_with (first | go_in)
      refine wp_region_order (fun w' => w'.cell? ⟨b, off, none⟩ = some (.int .u8 (X0 : Int)) ∧ w'.cell? ⟨b, off + 1, none⟩ = some (.int .u8 (X1 : Int)) ∧ w'.cell? ⟨b, off + 2, none⟩ = some (.int .u8 (X2 : Int)) ∧ w'.cell? ⟨b, off + 3, none⟩ = some (.int .u8 (X3 : Int))) 23 [(0,0), (1,0), (2,0), (3,0), (4,0), (5,0), (6,0), (7,0), (8,0), (9,0), (10,0), (11,0), (12,0), (13,0), (14,0), (15,0), (16,0), (17,0), (18,0), (19,0), (20,0), (21,0), (22,0), (23,2)] (by kernel_rfl) (by kernel_rfl) ?_
      simp only [pick, List.filterMap_cons, List.filterMap_nil, List.getElem?_cons_zero, List.getElem?_cons_succ, Option.map_some]
      have hS : w.drew.cell? ⟨b, off, none⟩ = some (.int .u8 (X0 : Int)) ∧ w.drew.cell? ⟨b, off + 1, none⟩ = some (.int .u8 (X1 : Int)) ∧ w.drew.cell? ⟨b, off + 2, none⟩ = some (.int .u8 (X2 : Int)) ∧ w.drew.cell? ⟨b, off + 3, none⟩ = some (.int .u8 (X3 : Int)) := ⟨e0, e1, e2, e3⟩
      refine wpF_take (v := ?_) hS rfl ?_ (fun _ _ _ h => h) ?_
      rotate_left
      · intro w' hS'
        obtain ⟨e0, e1, e2, e3⟩ := hS'
        go_simp <;> rfl
      go_simp
      refine wpF_take (v := ?_) hS rfl ?_ (fun _ _ _ h => h) ?_
      rotate_left
      · intro w' hS'
        obtain ⟨e0, e1, e2, e3⟩ := hS'
        go_simp <;> rfl
      go_simp
      refine wpF_take (v := ?_) hS rfl ?_ (fun _ _ _ h => h) ?_
      rotate_left
      · intro w' hS'
        obtain ⟨e0, e1, e2, e3⟩ := hS'
        go_simp <;> rfl
      go_simp
      refine wpF_take (v := ?_) hS rfl ?_ (fun _ _ _ h => h) ?_
      rotate_left
      · intro w' hS'
        obtain ⟨e0, e1, e2, e3⟩ := hS'
        go_simp <;> rfl
      go_simp
      refine wpF_take (v := ?_) hS rfl ?_ (fun _ _ _ h => h) ?_
      rotate_left
      · intro w' hS'
        obtain ⟨e0, e1, e2, e3⟩ := hS'
        go_simp <;> rfl
      go_simp
      refine wpF_take (v := ?_) hS rfl ?_ (fun _ _ _ h => h) ?_
      rotate_left
      · intro w' hS'
        obtain ⟨e0, e1, e2, e3⟩ := hS'
        go_simp <;> rfl
      go_simp
      refine wpF_take (v := ?_) hS rfl ?_ (fun _ _ _ h => h) ?_
      rotate_left
      · intro w' hS'
        obtain ⟨e0, e1, e2, e3⟩ := hS'
        go_simp <;> rfl
      go_simp
      refine wpF_take (v := ?_) hS rfl ?_ (fun _ _ _ h => h) ?_
      rotate_left
      · intro w' hS'
        obtain ⟨e0, e1, e2, e3⟩ := hS'
        go_simp <;> rfl
      go_simp
      refine wpF_take (v := ?_) hS rfl ?_ (fun _ _ _ h => h) ?_
      rotate_left
      · intro w' hS'
        obtain ⟨e0, e1, e2, e3⟩ := hS'
        go_simp <;> rfl
      go_simp
      refine wpF_take (v := ?_) hS rfl ?_ (fun _ _ _ h => h) ?_
      rotate_left
      · intro w' hS'
        obtain ⟨e0, e1, e2, e3⟩ := hS'
        go_simp <;> rfl
      go_simp
      refine wpF_take (v := ?_) hS rfl ?_ (fun _ _ _ h => h) ?_
      rotate_left
      · intro w' hS'
        obtain ⟨e0, e1, e2, e3⟩ := hS'
        go_simp <;> rfl
      go_simp
      refine wpF_take (v := ?_) hS rfl ?_ (fun _ _ _ h => h) ?_
      rotate_left
      · intro w' hS'
        obtain ⟨e0, e1, e2, e3⟩ := hS'
        go_simp <;> rfl
      go_simp
      refine wpF_take (v := ?_) hS rfl ?_ (fun _ _ _ h => h) ?_
      rotate_left
      · intro w' hS'
        obtain ⟨e0, e1, e2, e3⟩ := hS'
        go_simp <;> rfl
      go_simp
      refine wpF_take (v := ?_) hS rfl ?_ (fun _ _ _ h => h) ?_
      rotate_left
      · intro w' hS'
        obtain ⟨e0, e1, e2, e3⟩ := hS'
        go_simp <;> rfl
      go_simp
      refine wpF_take (v := ?_) hS rfl ?_ (fun _ _ _ h => h) ?_
      rotate_left
      · intro w' hS'
        obtain ⟨e0, e1, e2, e3⟩ := hS'
        go_simp <;> rfl
      go_simp
      refine wpF_take (v := ?_) hS rfl ?_ (fun _ _ _ h => h) ?_
      rotate_left
      · intro w' hS'
        obtain ⟨e0, e1, e2, e3⟩ := hS'
        go_simp <;> rfl
      go_simp
      refine wpF_take (v := ?_) hS rfl ?_ (fun _ _ _ h => h) ?_
      rotate_left
      · intro w' hS'
        obtain ⟨e0, e1, e2, e3⟩ := hS'
        go_simp <;> rfl
      go_simp
      refine wpF_take (v := ?_) hS rfl ?_ (fun _ _ _ h => h) ?_
      rotate_left
      · intro w' hS'
        obtain ⟨e0, e1, e2, e3⟩ := hS'
        go_simp <;> rfl
      go_simp
      refine wpF_take (v := ?_) hS rfl ?_ (fun _ _ _ h => h) ?_
      rotate_left
      · intro w' hS'
        obtain ⟨e0, e1, e2, e3⟩ := hS'
        go_simp <;> rfl
      go_simp
      refine wpF_take (v := ?_) hS rfl ?_ (fun _ _ _ h => h) ?_
      rotate_left
      · intro w' hS'
        obtain ⟨e0, e1, e2, e3⟩ := hS'
        go_simp <;> rfl
      go_simp
      refine wpF_take (v := ?_) hS rfl ?_ (fun _ _ _ h => h) ?_
      rotate_left
      · intro w' hS'
        obtain ⟨e0, e1, e2, e3⟩ := hS'
        go_simp <;> rfl
      go_simp
      refine wpF_take (v := ?_) hS rfl ?_ (fun _ _ _ h => h) ?_
      rotate_left
      · intro w' hS'
        obtain ⟨e0, e1, e2, e3⟩ := hS'
        go_simp <;> rfl
      go_simp
      refine wpF_take (v := ?_) hS rfl ?_ (fun _ _ _ h => h) ?_
      rotate_left
      · intro w' hS'
        obtain ⟨e0, e1, e2, e3⟩ := hS'
        go_simp <;> rfl
      go_simp
      refine wpF_only rfl (fun K hK => ?_)
      have v0 : IntKind.u32.wrap (X0 : Int) = X0 := by simp [IntKind.wrap, IntKind.bits, IntKind.signed]; omega
      have v1 : IntKind.u32.wrap (X1 : Int) = X1 := by simp [IntKind.wrap, IntKind.bits, IntKind.signed]; omega
      have v2 : IntKind.u32.wrap (X2 : Int) = X2 := by simp [IntKind.wrap, IntKind.bits, IntKind.signed]; omega
      have v3 : IntKind.u32.wrap (X3 : Int) = X3 := by simp [IntKind.wrap, IntKind.bits, IntKind.signed]; omega
      have u1 : IntKind.u32.wrap ((X1 : Int) * 256) = (X1 : Int) * 256 := by simp [IntKind.wrap, IntKind.bits, IntKind.signed]; omega
      have u2 : IntKind.u32.wrap ((X2 : Int) * 65536) = (X2 : Int) * 65536 := by simp [IntKind.wrap, IntKind.bits, IntKind.signed]; omega
      have u3 : IntKind.u32.wrap ((X3 : Int) * 16777216) = (X3 : Int) * 16777216 := by simp [IntKind.wrap, IntKind.bits, IntKind.signed]; omega
      rw [v0, v1, v2, v3, u1, u2, u3, hor]
      go_wp2_with fail
      refine ⟨fun h => absurd h (by omega), wpF_nil ?_⟩
      have c0' : w.drew.cell? ⟨p, 0, none⟩ = some (.slice (some ⟨b, off, none⟩) n c) := c0
      have z0' : w.drew.frozen? ⟨p, 0, none⟩ = false := z0
      clear hS
      go_wp2_with (first | go_in)
      · go_ret
        have q := Rr.adv (A' := some ⟨b, off, none⟩) (n' := n - 4) (c' := 0) (off := off) (i := 4) h0 k r hn (.inr (by omega)) rfl (by omega)
        exact ⟨rfl, q.1, q.2.drew⟩
      · go_ret
        have q := Rr.adv (A' := some ⟨b, off + 4, none⟩) (n' := n - 4) (c' := c - 4) (off := off) (i := 4) h0 k r hn (.inl ⟨rfl, rfl⟩) rfl (by omega)
        exact ⟨rfl, q.1, q.2.drew⟩
  · go_wp2_with (first | go_in)
    go_ret
    exact ⟨rfl, h', Off.refl _ _⟩
theorem rU32_nil (w : World) : Calls Try.prog 28 #[.pointer none] w fun e w' => e = .returned (.int .u32 0) ∧ w' = w := by
  go_enter Try.func28, Try.ntmps28
  go_wp2_with (first | go_in)
  go_ret
  exact ⟨rfl, rfl⟩
end Go.Proofs.Ytdblgjecbmebjaa
