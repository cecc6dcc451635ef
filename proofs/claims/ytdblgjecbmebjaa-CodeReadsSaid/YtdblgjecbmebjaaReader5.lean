/- A reader's Text. No condition. -/
import Derived.Test.YtdblgjecbmebjaaReader4
namespace Go.Proofs.Ytdblgjecbmebjaa
open Go.RowKit
theorem conv_sliced {P : Program} {d : TypeId} (hd : P.underlying d = some .string) {w : World} {b : Nat} {A : Option Addr} {n c i y : Nat} {l : List UInt8} (r : RdAt w b A n l) (hiy : i + y ≤ n) (hc : n ≤ c) {t : TypeId} (hT : ByteTy P t 5 := by exact T23) :
    (c = i → (convert t d (.slice A y 0)).run P w = .ok (.string (strB ((l.drop i).take y))) w) ∧ (c ≠ i → (convert t d (.slice (A.map fun x => x.add i) y (c - i))).run P w = .ok (.string (strB ((l.drop i).take y))) w) := by
  obtain ⟨A', he, hr⟩ := r.rd.sliced (i := i) (k := i + y) (c := c) (by omega) hiy hc
  rw [Nat.add_sub_cancel_left] at he hr
  have e2 : (l.take (i + y)).drop i = (l.drop i).take y := by rw [List.drop_take, Nat.add_sub_cancel_left]
  rw [e2] at hr
  refine ⟨fun h => ?_, fun h => ?_⟩
  · have : y = 0 := by omega
    subst this
    have h0 : RdB w w.heap.size A 0 ((l.drop i).take 0) := ⟨by simp, fun h => absurd h (by omega)⟩
    exact run_str hT h0 0 d hd
  · have h1 : A' = A.map fun x => x.add i := by
      have := he
      simp only [sliced] at this
      injection this with h2 _ _
      rw [← h2, if_neg (by omega)]
      simp
    subst h1
    exact run_str hT hr (c - i) d hd
set_option maxRecDepth 100000 in
set_option maxHeartbeats 2000000 in
theorem rText_any (p b : Nat) (s : RS) (m : Int) (w : World) (h : Rr w p b s) (hsz : s.l.length ≤ 140737488355328) (hm1 : -9223372036854775808 ≤ m) (hm2 : m ≤ 9223372036854775807) :
    Calls Try.prog 21 #[.pointer (some ⟨p, 0, none⟩), .int .i64 m] w fun e w' => e = .returned (.string (strB (takeS (findText m) [] s).1)) ∧ Rr w' p b (takeS (findText m) [] s).2 ∧ Off (fun k => k = p) w w' := by
  have h' := h
  obtain ⟨h0, A, n, c, k, r, hc⟩ := h
  have c0 := k.cell 0
  have c1 := k.cell 1
  have z0 := k.frozen 0
  have z1 := k.frozen 1
  have hl := r.1
  have kp := k.lt
  have hal := h'.off ((Off.refl (fun _ => False) w).alloc (.cells #[.int .i64 m] 3)) id id
  have hof : Off (fun k => k = p) w (w.alloc (.cells #[.int .i64 m] 3)) := (Off.refl _ w).alloc _
  have r' := r.off ((Off.refl (fun _ => False) w).alloc (.cells #[.int .i64 m] 3)) id
  go_enter Try.func21, Try.ntmps21
  obtain ⟨l, st⟩ := s
  simp only at hl hsz
  cases st
  · cases hf : findShort l with
    | none =>
      have hft : findText m l = none := by rw [findText, hf]
      go_wp2_with (first | (go_at_call 47; refine (short_any _ _ _ l _ _ r'.rd).mono ?_; rintro e w' ⟨rfl, rfl⟩; rw [hf, shortV]) | go_in)
      go_ret
      rw [takeS, hft]
      exact ⟨rfl, Rr.alloc (Rr.alloc h'.stop _) _⟩
    | some yk =>
      obtain ⟨y, i⟩ := yk
      obtain ⟨hi0, hi, hy⟩ := findShort_le hf
      rw [hl] at hi
      have b1 : decide ((i : Int) < 0) = false := by simp
      by_cases hm0 : m < 0
      · have hft : findText m l = none := by rw [findText, hf]; simp [hm0]
        have d1 : decide (m < 0) = true := by simp [hm0]
        go_wp2_with (first | (go_at_call 47; refine (short_any _ _ _ l _ _ r'.rd).mono ?_; rintro e w' ⟨rfl, rfl⟩; rw [hf, shortV]) | go_in)
        go_ret
        rw [takeS, hft]
        exact ⟨rfl, Rr.alloc (Rr.alloc h'.stop _) _⟩
      · have d1 : decide (m < 0) = false := by simp; omega
        obtain ⟨M, rfl⟩ : ∃ M : Nat, m = (M : Int) := ⟨m.toNat, by omega⟩
        have hw := wrap_small (v := (M : Int)) (by omega) (by omega)
        by_cases hm1' : M < y
        · have hft : findText (M : Int) l = none := by rw [findText, hf]; simp [hm1']
          have d2 : decide ((M : Int) < (y : Int)) = true := by simp [hm1']
          go_wp2_with (first | (go_at_call 47; refine (short_any _ _ _ l _ _ r'.rd).mono ?_; rintro e w' ⟨rfl, rfl⟩; rw [hf, shortV]) | go_in)
          go_ret
          rw [takeS, hft]
          exact ⟨rfl, Rr.alloc (Rr.alloc h'.stop _) _⟩
        · have d2 : decide ((M : Int) < (y : Int)) = false := by simp; omega
          have hw2 := wrap_small (v := (n : Int) - (i : Int)) (by omega) (by omega)
          by_cases hm2' : n < i + y
          · have hft : findText (M : Int) l = none := by rw [findText, hf]; simp [hl, hm2']
            have d3 : decide ((n : Int) - (i : Int) < (y : Int)) = true := by simp; omega
            go_wp2_with (first | (go_at_call 47; refine (short_any _ _ _ l _ _ r'.rd).mono ?_; rintro e w' ⟨rfl, rfl⟩; rw [hf, shortV]) | go_in)
            go_ret
            rw [takeS, hft]
            exact ⟨rfl, Rr.alloc (Rr.alloc h'.stop _) _⟩
          · have hft : findText (M : Int) l = some ((l.drop i).take y, i + y) := by rw [findText, hf]; simp [hl, hm0, hm1', hm2']
            have d3 : decide ((n : Int) - (i : Int) < (y : Int)) = false := by simp; omega
            have hiy : i + y ≤ n := by omega
            have hy2 : y ≤ 140737488355328 := by omega
            clear hm2'
            have kq := conv_sliced (P := Try.prog) Try.underlying9 r' hiy hc
            by_cases hci : c = i
            · have hy0 : y = 0 := by omega
              have hn0 : n = i := by omega
              replace kq := kq.1 hci
              obtain ⟨z, hz⟩ : ∃ z, strB ((l.drop i).take y) = z := ⟨_, rfl⟩
              rw [hz] at kq
              have q := Rr.adv2 (w := w) (A' := A) (n' := n - (i + y)) (c' := 0) h0 k r hiy (Off.refl _ _) (.inr (by omega)) rfl (by omega)
              rw [takeS, hft]
              simp only [Bool.false_eq_true, if_false]
              rw [hz]
              have q2 := Rr.alloc q (.cells #[.int .i64 (M : Int)] 3)
              clear q hal h' hof hz hft
              generalize l.drop (i + y) = l2 at *
              subst hy0
              subst hn0
              subst hci
              go_wp2_with (first | (go_at_call 47; refine (short_any _ _ _ l _ _ r'.rd).mono ?_; rintro e w' ⟨rfl, rfl⟩; rw [hf, shortV]) | go_in)
              all_goals
                go_ret
                refine ⟨rfl, ?_⟩
                simpa using q2
            · replace kq := kq.2 hci
              have hci2 : ¬ c = i := hci
              clear hal h' hof
              obtain ⟨z, hz⟩ : ∃ z, strB ((l.drop i).take y) = z := ⟨_, rfl⟩
              rw [hz] at kq
              go_wp2_with (first | (go_at_call 47; refine (short_any _ _ _ l _ _ r'.rd).mono ?_; rintro e w' ⟨rfl, rfl⟩; rw [hf, shortV]) | go_in)
              · go_ret
                have q := Rr.adv2 (w := w) (A' := A) (n' := n - (i + y)) (c' := 0) h0 k r hiy (Off.refl _ _) (.inr (by omega)) rfl (by omega)
                rw [takeS, hft]
                exact ⟨by rw [← hz]; rfl, Rr.alloc q _⟩
              · go_ret
                have q := Rr.adv2 (w := w) (A' := A.map (fun x => x.add (i + y))) (n' := n - (i + y)) (c' := c - (i + y)) h0 k r hiy (Off.refl _ _) (.inl rfl) rfl (by omega)
                rw [takeS, hft]
                exact ⟨by rw [← hz]; rfl, Rr.alloc q _⟩
  · go_wp2_with (first | go_in)
    go_ret
    exact ⟨rfl, hal, hof⟩
set_option maxRecDepth 100000 in
set_option maxHeartbeats 1000000 in
theorem rText_nil (m : Int) (w : World) : Calls Try.prog 21 #[.pointer none, .int .i64 m] w fun e w' => e = .returned (.string ByteArray.empty) ∧ Below w.heap.size w w' := by
  go_enter Try.func21, Try.ntmps21
  go_wp2_with (first | go_in)
  go_ret
  exact ⟨rfl, (Below.refl _ _).alloc (Nat.le_refl _) _⟩
end Go.Proofs.Ytdblgjecbmebjaa
