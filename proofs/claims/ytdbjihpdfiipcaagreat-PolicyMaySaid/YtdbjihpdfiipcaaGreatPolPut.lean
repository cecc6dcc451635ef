/- policy.put at each type, what it is given, policy.Encode. Conditions: sizes. Printed by gen_pput.py. -/
import Derived.Test.YtdbjihpdfiipcaaGreatPolBytes
import Derived.Test.YtdbjihpdfiipcaaGreatPolPoA
import Derived.Test.YtdbjihpdfiipcaaGreatOwnApp
namespace Go.Proofs.YtdbjihpdfiipcaaGreat
open Go.RowKit Go.Sort
set_option linter.unusedVariables false
set_option linter.unusedSimpArgs false
theorem Off.id (Z : Nat → Prop) (w : World) : Off Z w w := Off.refl _ _
theorem Off.tr {Z : Nat → Prop} {a b c : World} (h : Off Z a b) (k : Off Z b c) : Off Z a c := h.trans k fun _ _ h => h
theorem Off.ofLess {Z : Nat → Prop} {a b : Nat} {w w' : World} (h : Off (lessZ Z a b) w w') : Off Z w w' := h.mono fun _ _ h => h.1
theorem WrZ.kept {Z : Nat → Prop} {p : Nat} {l : List UInt8} {a b : Nat} {w' : World} (hz : ∀ k, a ≤ k → Z k) (h : WrZ (lessZ Z a b) w' p l) (hs : a ≤ w'.heap.size) : WrZ Z w' p l := h.back fun k hk => hz k (by omega)
set_option maxRecDepth 100000 in
set_option maxHeartbeats 2000000 in
theorem put_Term {Z : Nat → Prop} {p : Nat} {l : List UInt8} {w : World} (A : Option Addr) (n c : Nat) (bs : List (List UInt8)) (h : WrZ Z w p l) (hn : n ≤ 1000000) (hbs : bs.length = n) (hl : l.length + (leb n ++ bs.flatten).length + 20 ≤ 140737488355328)
    (hel : ∀ w', Off Z w w' → ∀ j (hj : j < bs.length), ∃ (b off : Nat) (x1 : Int) (s2 : ByteArray), A = some ⟨b, off, none⟩ ∧ w'.cell? ⟨b, off + j * 2, none⟩ = some (.int .i64 x1) ∧ w'.cell? ⟨b, off + j * 2 + 1, none⟩ = some (.string s2) ∧ ∀ w'' l', WrZ Z w'' p l' → Off Z w w'' → l'.length + bs[j].length + 20 ≤ 140737488355328 → Calls Tryz.prog 180 #[.pointer (some ⟨p, 0, none⟩), .agg #[.int .i64 x1, .string s2]] w'' fun e w3 => e = .returned (.tuple #[]) ∧ WrZ Z w3 p (l' ++ bs[j]) ∧ Off Z w'' w3) :
    Calls Tryz.prog 179 #[.pointer (some ⟨p, 0, none⟩), .slice A n c, .func (.func 180) #[] #[]] w fun e w' => e = .returned (.tuple #[]) ∧ WrZ Z w' p (l ++ (leb n ++ bs.flatten)) ∧ Off Z w w' := by
  have HEL := Lib.hid hel; have HB := Lib.hid hbs; clear hel hbs
  rw [List.length_append] at hl
  have hw := IntWalk.u64_in (n : Int) (by omega)
  have hU := wUint_z n (by omega) h (by omega)
  go_enter Tryz.func179, Tryz.ntmps179
  go_wp2_with fail
  refine hU.mono ?_
  rintro e w1 ⟨rfl, h1, f1⟩
  go_wp2_with fail
  clear hU h
  go_loopw [15, 7] (fun v15 _ wr => ∃ k : Nat, v15 = .int .i64 k ∧ k ≤ n ∧ WrZ Z wr p (l ++ leb n ++ (bs.take k).flatten) ∧ Off Z w wr) (fun v15 _ _ => n - (intOf v15).toNat)
  case atStart => exact ⟨0, rfl, Nat.zero_le _, h1.eq (by simp), f1⟩
  case round =>
    obtain ⟨k, rfl, hk, h2, f2⟩ := hrel
    by_cases hlt : k < n
    · have d1 : decide ((k : Int) < (n : Int)) = true := by simp; omega
      have b1 : (0 : Int) ≤ (k : Int) := by omega
      have b2 : (k : Int) < (n : Int) := by omega
      have hkb : k < bs.length := by rw [HB.out]; exact hlt
      obtain ⟨b, off, x1, s2, rfl, q0, q1, hcall⟩ := HEL.out wr f2 k hkb
      have HC := Lib.hid hcall; clear hcall
      have hfl := flat_le hkb
      have hft := flat_take hkb
      have HFT := Lib.hid hft; clear hft
      have hlen : (l ++ leb n ++ (bs.take k).flatten).length + bs[k].length + 20 ≤ 140737488355328 := by
        rw [List.length_append, List.length_append]
        omega
      have HL := Lib.hid hlen; clear hlen hfl
      go_wp2_with fail
      refine (HC.out _ _ ?_ ?_ HL.out).mono ?_
      · first | exact h2.below ((Below.refl _ _).alloc (Nat.le_refl _) _) | exact h2
      · first | exact f2.alloc _ | exact f2
      rintro e w3 ⟨rfl, h3, f3⟩
      have f4 : Off Z w w3 := by first | exact (f2.alloc _).tr f3 | exact f2.tr f3
      go_wp2_with fail
      go_roundw
      case rel => exact ⟨k + 1, by go_num, by omega, h3.eq (by rw [List.append_assoc, HFT.out]), f4⟩
      case measure => simp [intOf]; omega
    · have d1 : decide ((k : Int) < (n : Int)) = false := by simp; omega
      obtain rfl : k = n := by omega
      have h3 := h2.eq (l' := l ++ (leb k ++ bs.flatten)) (by rw [List.take_of_length_le (by rw [HB.out]; exact Nat.le_refl _), List.append_assoc])
      go_wp2_with fail
      go_end0
      exact ⟨rfl, h3, f2⟩
set_option maxRecDepth 100000 in
set_option maxHeartbeats 2000000 in
theorem put_Cidr {Z : Nat → Prop} {p : Nat} {l : List UInt8} {w : World} (A : Option Addr) (n c : Nat) (bs : List (List UInt8)) (h : WrZ Z w p l) (hn : n ≤ 1000000) (hbs : bs.length = n) (hl : l.length + (leb n ++ bs.flatten).length + 20 ≤ 140737488355328)
    (hel : ∀ w', Off Z w w' → ∀ j (hj : j < bs.length), ∃ (b off : Nat) (x1 : Int) (x2 : Int), A = some ⟨b, off, none⟩ ∧ w'.cell? ⟨b, off + j * 2, none⟩ = some (.int .u32 x1) ∧ w'.cell? ⟨b, off + j * 2 + 1, none⟩ = some (.int .i64 x2) ∧ ∀ w'' l', WrZ Z w'' p l' → Off Z w w'' → l'.length + bs[j].length + 20 ≤ 140737488355328 → Calls Tryz.prog 150 #[.pointer (some ⟨p, 0, none⟩), .agg #[.int .u32 x1, .int .i64 x2]] w'' fun e w3 => e = .returned (.tuple #[]) ∧ WrZ Z w3 p (l' ++ bs[j]) ∧ Off Z w'' w3) :
    Calls Tryz.prog 149 #[.pointer (some ⟨p, 0, none⟩), .slice A n c, .func (.func 150) #[] #[]] w fun e w' => e = .returned (.tuple #[]) ∧ WrZ Z w' p (l ++ (leb n ++ bs.flatten)) ∧ Off Z w w' := by
  have HEL := Lib.hid hel; have HB := Lib.hid hbs; clear hel hbs
  rw [List.length_append] at hl
  have hw := IntWalk.u64_in (n : Int) (by omega)
  have hU := wUint_z n (by omega) h (by omega)
  go_enter Tryz.func149, Tryz.ntmps149
  go_wp2_with fail
  refine hU.mono ?_
  rintro e w1 ⟨rfl, h1, f1⟩
  go_wp2_with fail
  clear hU h
  go_loopw [15, 7] (fun v15 _ wr => ∃ k : Nat, v15 = .int .i64 k ∧ k ≤ n ∧ WrZ Z wr p (l ++ leb n ++ (bs.take k).flatten) ∧ Off Z w wr) (fun v15 _ _ => n - (intOf v15).toNat)
  case atStart => exact ⟨0, rfl, Nat.zero_le _, h1.eq (by simp), f1⟩
  case round =>
    obtain ⟨k, rfl, hk, h2, f2⟩ := hrel
    by_cases hlt : k < n
    · have d1 : decide ((k : Int) < (n : Int)) = true := by simp; omega
      have b1 : (0 : Int) ≤ (k : Int) := by omega
      have b2 : (k : Int) < (n : Int) := by omega
      have hkb : k < bs.length := by rw [HB.out]; exact hlt
      obtain ⟨b, off, x1, x2, rfl, q0, q1, hcall⟩ := HEL.out wr f2 k hkb
      have HC := Lib.hid hcall; clear hcall
      have hfl := flat_le hkb
      have hft := flat_take hkb
      have HFT := Lib.hid hft; clear hft
      have hlen : (l ++ leb n ++ (bs.take k).flatten).length + bs[k].length + 20 ≤ 140737488355328 := by
        rw [List.length_append, List.length_append]
        omega
      have HL := Lib.hid hlen; clear hlen hfl
      go_wp2_with fail
      refine (HC.out _ _ ?_ ?_ HL.out).mono ?_
      · first | exact h2.below ((Below.refl _ _).alloc (Nat.le_refl _) _) | exact h2
      · first | exact f2.alloc _ | exact f2
      rintro e w3 ⟨rfl, h3, f3⟩
      have f4 : Off Z w w3 := by first | exact (f2.alloc _).tr f3 | exact f2.tr f3
      go_wp2_with fail
      go_roundw
      case rel => exact ⟨k + 1, by go_num, by omega, h3.eq (by rw [List.append_assoc, HFT.out]), f4⟩
      case measure => simp [intOf]; omega
    · have d1 : decide ((k : Int) < (n : Int)) = false := by simp; omega
      obtain rfl : k = n := by omega
      have h3 := h2.eq (l' := l ++ (leb k ++ bs.flatten)) (by rw [List.take_of_length_le (by rw [HB.out]; exact Nat.le_refl _), List.append_assoc])
      go_wp2_with fail
      go_end0
      exact ⟨rfl, h3, f2⟩
set_option maxRecDepth 100000 in
set_option maxHeartbeats 2000000 in
theorem put_int {Z : Nat → Prop} {p : Nat} {l : List UInt8} {w : World} (A : Option Addr) (n c : Nat) (bs : List (List UInt8)) (h : WrZ Z w p l) (hn : n ≤ 1000000) (hbs : bs.length = n) (hl : l.length + (leb n ++ bs.flatten).length + 20 ≤ 140737488355328)
    (hel : ∀ w', Off Z w w' → ∀ j (hj : j < bs.length), ∃ (b off : Nat) (x1 : Int), A = some ⟨b, off, none⟩ ∧ w'.cell? ⟨b, off + j, none⟩ = some (.int .i64 x1) ∧ ∀ w'' l', WrZ Z w'' p l' → Off Z w w'' → l'.length + bs[j].length + 20 ≤ 140737488355328 → Calls Tryz.prog 154 #[.pointer (some ⟨p, 0, none⟩), .int .i64 x1] w'' fun e w3 => e = .returned (.tuple #[]) ∧ WrZ Z w3 p (l' ++ bs[j]) ∧ Off Z w'' w3) :
    Calls Tryz.prog 153 #[.pointer (some ⟨p, 0, none⟩), .slice A n c, .func (.func 154) #[] #[]] w fun e w' => e = .returned (.tuple #[]) ∧ WrZ Z w' p (l ++ (leb n ++ bs.flatten)) ∧ Off Z w w' := by
  have HEL := Lib.hid hel; have HB := Lib.hid hbs; clear hel hbs
  rw [List.length_append] at hl
  have hw := IntWalk.u64_in (n : Int) (by omega)
  have hU := wUint_z n (by omega) h (by omega)
  go_enter Tryz.func153, Tryz.ntmps153
  go_wp2_with fail
  refine hU.mono ?_
  rintro e w1 ⟨rfl, h1, f1⟩
  go_wp2_with fail
  clear hU h
  go_loopw [15, 7] (fun v15 _ wr => ∃ k : Nat, v15 = .int .i64 k ∧ k ≤ n ∧ WrZ Z wr p (l ++ leb n ++ (bs.take k).flatten) ∧ Off Z w wr) (fun v15 _ _ => n - (intOf v15).toNat)
  case atStart => exact ⟨0, rfl, Nat.zero_le _, h1.eq (by simp), f1⟩
  case round =>
    obtain ⟨k, rfl, hk, h2, f2⟩ := hrel
    by_cases hlt : k < n
    · have d1 : decide ((k : Int) < (n : Int)) = true := by simp; omega
      have b1 : (0 : Int) ≤ (k : Int) := by omega
      have b2 : (k : Int) < (n : Int) := by omega
      have hkb : k < bs.length := by rw [HB.out]; exact hlt
      obtain ⟨b, off, x1, rfl, q0, hcall⟩ := HEL.out wr f2 k hkb
      have HC := Lib.hid hcall; clear hcall
      have hfl := flat_le hkb
      have hft := flat_take hkb
      have HFT := Lib.hid hft; clear hft
      have hlen : (l ++ leb n ++ (bs.take k).flatten).length + bs[k].length + 20 ≤ 140737488355328 := by
        rw [List.length_append, List.length_append]
        omega
      have HL := Lib.hid hlen; clear hlen hfl
      go_wp2_with fail
      refine (HC.out _ _ ?_ ?_ HL.out).mono ?_
      · first | exact h2.below ((Below.refl _ _).alloc (Nat.le_refl _) _) | exact h2
      · first | exact f2.alloc _ | exact f2
      rintro e w3 ⟨rfl, h3, f3⟩
      have f4 : Off Z w w3 := by first | exact (f2.alloc _).tr f3 | exact f2.tr f3
      go_wp2_with fail
      go_roundw
      case rel => exact ⟨k + 1, by go_num, by omega, h3.eq (by rw [List.append_assoc, HFT.out]), f4⟩
      case measure => simp [intOf]; omega
    · have d1 : decide ((k : Int) < (n : Int)) = false := by simp; omega
      obtain rfl : k = n := by omega
      have h3 := h2.eq (l' := l ++ (leb k ++ bs.flatten)) (by rw [List.take_of_length_le (by rw [HB.out]; exact Nat.le_refl _), List.append_assoc])
      go_wp2_with fail
      go_end0
      exact ⟨rfl, h3, f2⟩
set_option maxRecDepth 100000 in
set_option maxHeartbeats 2000000 in
theorem put_Source {Z : Nat → Prop} {p : Nat} {l : List UInt8} {w : World} (A : Option Addr) (n c : Nat) (bs : List (List UInt8)) (h : WrZ Z w p l) (hn : n ≤ 1000000) (hbs : bs.length = n) (hl : l.length + (leb n ++ bs.flatten).length + 20 ≤ 140737488355328)
    (hel : ∀ w', Off Z w w' → ∀ j (hj : j < bs.length), ∃ (b off : Nat) (A1 : Option Addr) (n1 c1 : Nat) (A2 : Option Addr) (n2 c2 : Nat) (A3 : Option Addr) (n3 c3 : Nat), A = some ⟨b, off, none⟩ ∧ w'.cell? ⟨b, off + j * 3, none⟩ = some (.slice A1 n1 c1) ∧ w'.cell? ⟨b, off + j * 3 + 1, none⟩ = some (.slice A2 n2 c2) ∧ w'.cell? ⟨b, off + j * 3 + 2, none⟩ = some (.slice A3 n3 c3) ∧ ∀ w'' l', WrZ Z w'' p l' → Off Z w w'' → l'.length + bs[j].length + 20 ≤ 140737488355328 → Calls Tryz.prog 104 #[.pointer (some ⟨p, 0, none⟩), .agg #[.slice A1 n1 c1, .slice A2 n2 c2, .slice A3 n3 c3]] w'' fun e w3 => e = .returned (.tuple #[]) ∧ WrZ Z w3 p (l' ++ bs[j]) ∧ Off Z w'' w3) :
    Calls Tryz.prog 103 #[.pointer (some ⟨p, 0, none⟩), .slice A n c, .func (.func 104) #[] #[]] w fun e w' => e = .returned (.tuple #[]) ∧ WrZ Z w' p (l ++ (leb n ++ bs.flatten)) ∧ Off Z w w' := by
  have HEL := Lib.hid hel; have HB := Lib.hid hbs; clear hel hbs
  rw [List.length_append] at hl
  have hw := IntWalk.u64_in (n : Int) (by omega)
  have hU := wUint_z n (by omega) h (by omega)
  go_enter Tryz.func103, Tryz.ntmps103
  go_wp2_with fail
  refine hU.mono ?_
  rintro e w1 ⟨rfl, h1, f1⟩
  go_wp2_with fail
  clear hU h
  go_loopw [15, 7] (fun v15 _ wr => ∃ k : Nat, v15 = .int .i64 k ∧ k ≤ n ∧ WrZ Z wr p (l ++ leb n ++ (bs.take k).flatten) ∧ Off Z w wr) (fun v15 _ _ => n - (intOf v15).toNat)
  case atStart => exact ⟨0, rfl, Nat.zero_le _, h1.eq (by simp), f1⟩
  case round =>
    obtain ⟨k, rfl, hk, h2, f2⟩ := hrel
    by_cases hlt : k < n
    · have d1 : decide ((k : Int) < (n : Int)) = true := by simp; omega
      have b1 : (0 : Int) ≤ (k : Int) := by omega
      have b2 : (k : Int) < (n : Int) := by omega
      have hkb : k < bs.length := by rw [HB.out]; exact hlt
      obtain ⟨b, off, A1, n1, c1, A2, n2, c2, A3, n3, c3, rfl, q0, q1, q2, hcall⟩ := HEL.out wr f2 k hkb
      have HC := Lib.hid hcall; clear hcall
      have hfl := flat_le hkb
      have hft := flat_take hkb
      have HFT := Lib.hid hft; clear hft
      have hlen : (l ++ leb n ++ (bs.take k).flatten).length + bs[k].length + 20 ≤ 140737488355328 := by
        rw [List.length_append, List.length_append]
        omega
      have HL := Lib.hid hlen; clear hlen hfl
      go_wp2_with fail
      refine (HC.out _ _ ?_ ?_ HL.out).mono ?_
      · first | exact h2.below ((Below.refl _ _).alloc (Nat.le_refl _) _) | exact h2
      · first | exact f2.alloc _ | exact f2
      rintro e w3 ⟨rfl, h3, f3⟩
      have f4 : Off Z w w3 := by first | exact (f2.alloc _).tr f3 | exact f2.tr f3
      go_wp2_with fail
      go_roundw
      case rel => exact ⟨k + 1, by go_num, by omega, h3.eq (by rw [List.append_assoc, HFT.out]), f4⟩
      case measure => simp [intOf]; omega
    · have d1 : decide ((k : Int) < (n : Int)) = false := by simp; omega
      obtain rfl : k = n := by omega
      have h3 := h2.eq (l' := l ++ (leb k ++ bs.flatten)) (by rw [List.take_of_length_le (by rw [HB.out]; exact Nat.le_refl _), List.append_assoc])
      go_wp2_with fail
      go_end0
      exact ⟨rfl, h3, f2⟩
set_option maxRecDepth 100000 in
set_option maxHeartbeats 2000000 in
theorem put_Target {Z : Nat → Prop} {p : Nat} {l : List UInt8} {w : World} (A : Option Addr) (n c : Nat) (bs : List (List UInt8)) (h : WrZ Z w p l) (hn : n ≤ 1000000) (hbs : bs.length = n) (hl : l.length + (leb n ++ bs.flatten).length + 20 ≤ 140737488355328)
    (hel : ∀ w', Off Z w w' → ∀ j (hj : j < bs.length), ∃ (b off : Nat) (A1 : Option Addr) (n1 c1 : Nat) (A2 : Option Addr) (n2 c2 : Nat) (A3 : Option Addr) (n3 c3 : Nat) (A4 : Option Addr) (n4 c4 : Nat), A = some ⟨b, off, none⟩ ∧ w'.cell? ⟨b, off + j * 4, none⟩ = some (.slice A1 n1 c1) ∧ w'.cell? ⟨b, off + j * 4 + 1, none⟩ = some (.slice A2 n2 c2) ∧ w'.cell? ⟨b, off + j * 4 + 2, none⟩ = some (.slice A3 n3 c3) ∧ w'.cell? ⟨b, off + j * 4 + 3, none⟩ = some (.slice A4 n4 c4) ∧ ∀ w'' l', WrZ Z w'' p l' → Off Z w w'' → l'.length + bs[j].length + 20 ≤ 140737488355328 → Calls Tryz.prog 106 #[.pointer (some ⟨p, 0, none⟩), .agg #[.slice A1 n1 c1, .slice A2 n2 c2, .slice A3 n3 c3, .slice A4 n4 c4]] w'' fun e w3 => e = .returned (.tuple #[]) ∧ WrZ Z w3 p (l' ++ bs[j]) ∧ Off Z w'' w3) :
    Calls Tryz.prog 105 #[.pointer (some ⟨p, 0, none⟩), .slice A n c, .func (.func 106) #[] #[]] w fun e w' => e = .returned (.tuple #[]) ∧ WrZ Z w' p (l ++ (leb n ++ bs.flatten)) ∧ Off Z w w' := by
  have HEL := Lib.hid hel; have HB := Lib.hid hbs; clear hel hbs
  rw [List.length_append] at hl
  have hw := IntWalk.u64_in (n : Int) (by omega)
  have hU := wUint_z n (by omega) h (by omega)
  go_enter Tryz.func105, Tryz.ntmps105
  go_wp2_with fail
  refine hU.mono ?_
  rintro e w1 ⟨rfl, h1, f1⟩
  go_wp2_with fail
  clear hU h
  go_loopw [15, 7] (fun v15 _ wr => ∃ k : Nat, v15 = .int .i64 k ∧ k ≤ n ∧ WrZ Z wr p (l ++ leb n ++ (bs.take k).flatten) ∧ Off Z w wr) (fun v15 _ _ => n - (intOf v15).toNat)
  case atStart => exact ⟨0, rfl, Nat.zero_le _, h1.eq (by simp), f1⟩
  case round =>
    obtain ⟨k, rfl, hk, h2, f2⟩ := hrel
    by_cases hlt : k < n
    · have d1 : decide ((k : Int) < (n : Int)) = true := by simp; omega
      have b1 : (0 : Int) ≤ (k : Int) := by omega
      have b2 : (k : Int) < (n : Int) := by omega
      have hkb : k < bs.length := by rw [HB.out]; exact hlt
      obtain ⟨b, off, A1, n1, c1, A2, n2, c2, A3, n3, c3, A4, n4, c4, rfl, q0, q1, q2, q3, hcall⟩ := HEL.out wr f2 k hkb
      have HC := Lib.hid hcall; clear hcall
      have hfl := flat_le hkb
      have hft := flat_take hkb
      have HFT := Lib.hid hft; clear hft
      have hlen : (l ++ leb n ++ (bs.take k).flatten).length + bs[k].length + 20 ≤ 140737488355328 := by
        rw [List.length_append, List.length_append]
        omega
      have HL := Lib.hid hlen; clear hlen hfl
      go_wp2_with fail
      refine (HC.out _ _ ?_ ?_ HL.out).mono ?_
      · first | exact h2.below ((Below.refl _ _).alloc (Nat.le_refl _) _) | exact h2
      · first | exact f2.alloc _ | exact f2
      rintro e w3 ⟨rfl, h3, f3⟩
      have f4 : Off Z w w3 := by first | exact (f2.alloc _).tr f3 | exact f2.tr f3
      go_wp2_with fail
      go_roundw
      case rel => exact ⟨k + 1, by go_num, by omega, h3.eq (by rw [List.append_assoc, HFT.out]), f4⟩
      case measure => simp [intOf]; omega
    · have d1 : decide ((k : Int) < (n : Int)) = false := by simp; omega
      obtain rfl : k = n := by omega
      have h3 := h2.eq (l' := l ++ (leb k ++ bs.flatten)) (by rw [List.take_of_length_le (by rw [HB.out]; exact Nat.le_refl _), List.append_assoc])
      go_wp2_with fail
      go_end0
      exact ⟨rfl, h3, f2⟩
set_option maxRecDepth 100000 in
set_option maxHeartbeats 2000000 in
theorem put_When {Z : Nat → Prop} {p : Nat} {l : List UInt8} {w : World} (A : Option Addr) (n c : Nat) (bs : List (List UInt8)) (h : WrZ Z w p l) (hn : n ≤ 1000000) (hbs : bs.length = n) (hl : l.length + (leb n ++ bs.flatten).length + 20 ≤ 140737488355328)
    (hel : ∀ w', Off Z w w' → ∀ j (hj : j < bs.length), ∃ (b off : Nat) (s1 : ByteArray) (A2 : Option Addr) (n2 c2 : Nat), A = some ⟨b, off, none⟩ ∧ w'.cell? ⟨b, off + j * 2, none⟩ = some (.string s1) ∧ w'.cell? ⟨b, off + j * 2 + 1, none⟩ = some (.slice A2 n2 c2) ∧ ∀ w'' l', WrZ Z w'' p l' → Off Z w w'' → l'.length + bs[j].length + 20 ≤ 140737488355328 → Calls Tryz.prog 108 #[.pointer (some ⟨p, 0, none⟩), .agg #[.string s1, .slice A2 n2 c2]] w'' fun e w3 => e = .returned (.tuple #[]) ∧ WrZ Z w3 p (l' ++ bs[j]) ∧ Off Z w'' w3) :
    Calls Tryz.prog 107 #[.pointer (some ⟨p, 0, none⟩), .slice A n c, .func (.func 108) #[] #[]] w fun e w' => e = .returned (.tuple #[]) ∧ WrZ Z w' p (l ++ (leb n ++ bs.flatten)) ∧ Off Z w w' := by
  have HEL := Lib.hid hel; have HB := Lib.hid hbs; clear hel hbs
  rw [List.length_append] at hl
  have hw := IntWalk.u64_in (n : Int) (by omega)
  have hU := wUint_z n (by omega) h (by omega)
  go_enter Tryz.func107, Tryz.ntmps107
  go_wp2_with fail
  refine hU.mono ?_
  rintro e w1 ⟨rfl, h1, f1⟩
  go_wp2_with fail
  clear hU h
  go_loopw [15, 7] (fun v15 _ wr => ∃ k : Nat, v15 = .int .i64 k ∧ k ≤ n ∧ WrZ Z wr p (l ++ leb n ++ (bs.take k).flatten) ∧ Off Z w wr) (fun v15 _ _ => n - (intOf v15).toNat)
  case atStart => exact ⟨0, rfl, Nat.zero_le _, h1.eq (by simp), f1⟩
  case round =>
    obtain ⟨k, rfl, hk, h2, f2⟩ := hrel
    by_cases hlt : k < n
    · have d1 : decide ((k : Int) < (n : Int)) = true := by simp; omega
      have b1 : (0 : Int) ≤ (k : Int) := by omega
      have b2 : (k : Int) < (n : Int) := by omega
      have hkb : k < bs.length := by rw [HB.out]; exact hlt
      obtain ⟨b, off, s1, A2, n2, c2, rfl, q0, q1, hcall⟩ := HEL.out wr f2 k hkb
      have HC := Lib.hid hcall; clear hcall
      have hfl := flat_le hkb
      have hft := flat_take hkb
      have HFT := Lib.hid hft; clear hft
      have hlen : (l ++ leb n ++ (bs.take k).flatten).length + bs[k].length + 20 ≤ 140737488355328 := by
        rw [List.length_append, List.length_append]
        omega
      have HL := Lib.hid hlen; clear hlen hfl
      go_wp2_with fail
      refine (HC.out _ _ ?_ ?_ HL.out).mono ?_
      · first | exact h2.below ((Below.refl _ _).alloc (Nat.le_refl _) _) | exact h2
      · first | exact f2.alloc _ | exact f2
      rintro e w3 ⟨rfl, h3, f3⟩
      have f4 : Off Z w w3 := by first | exact (f2.alloc _).tr f3 | exact f2.tr f3
      go_wp2_with fail
      go_roundw
      case rel => exact ⟨k + 1, by go_num, by omega, h3.eq (by rw [List.append_assoc, HFT.out]), f4⟩
      case measure => simp [intOf]; omega
    · have d1 : decide ((k : Int) < (n : Int)) = false := by simp; omega
      obtain rfl : k = n := by omega
      have h3 := h2.eq (l' := l ++ (leb k ++ bs.flatten)) (by rw [List.take_of_length_le (by rw [HB.out]; exact Nat.le_refl _), List.append_assoc])
      go_wp2_with fail
      go_end0
      exact ⟨rfl, h3, f2⟩
set_option maxRecDepth 100000 in
set_option maxHeartbeats 2000000 in
theorem put_Rule {Z : Nat → Prop} {p : Nat} {l : List UInt8} {w : World} (A : Option Addr) (n c : Nat) (bs : List (List UInt8)) (h : WrZ Z w p l) (hn : n ≤ 1000000) (hbs : bs.length = n) (hl : l.length + (leb n ++ bs.flatten).length + 20 ≤ 140737488355328)
    (hel : ∀ w', Off Z w w' → ∀ j (hj : j < bs.length), ∃ (b off : Nat) (A1 : Option Addr) (n1 c1 : Nat) (A2 : Option Addr) (n2 c2 : Nat) (A3 : Option Addr) (n3 c3 : Nat), A = some ⟨b, off, none⟩ ∧ w'.cell? ⟨b, off + j * 3, none⟩ = some (.slice A1 n1 c1) ∧ w'.cell? ⟨b, off + j * 3 + 1, none⟩ = some (.slice A2 n2 c2) ∧ w'.cell? ⟨b, off + j * 3 + 2, none⟩ = some (.slice A3 n3 c3) ∧ ∀ w'' l', WrZ Z w'' p l' → Off Z w w'' → l'.length + bs[j].length + 20 ≤ 140737488355328 → Calls Tryz.prog 55 #[.pointer (some ⟨p, 0, none⟩), .agg #[.slice A1 n1 c1, .slice A2 n2 c2, .slice A3 n3 c3]] w'' fun e w3 => e = .returned (.tuple #[]) ∧ WrZ Z w3 p (l' ++ bs[j]) ∧ Off Z w'' w3) :
    Calls Tryz.prog 54 #[.pointer (some ⟨p, 0, none⟩), .slice A n c, .func (.func 55) #[] #[]] w fun e w' => e = .returned (.tuple #[]) ∧ WrZ Z w' p (l ++ (leb n ++ bs.flatten)) ∧ Off Z w w' := by
  have HEL := Lib.hid hel; have HB := Lib.hid hbs; clear hel hbs
  rw [List.length_append] at hl
  have hw := IntWalk.u64_in (n : Int) (by omega)
  have hU := wUint_z n (by omega) h (by omega)
  go_enter Tryz.func54, Tryz.ntmps54
  go_wp2_with fail
  refine hU.mono ?_
  rintro e w1 ⟨rfl, h1, f1⟩
  go_wp2_with fail
  clear hU h
  go_loopw [15, 7] (fun v15 _ wr => ∃ k : Nat, v15 = .int .i64 k ∧ k ≤ n ∧ WrZ Z wr p (l ++ leb n ++ (bs.take k).flatten) ∧ Off Z w wr) (fun v15 _ _ => n - (intOf v15).toNat)
  case atStart => exact ⟨0, rfl, Nat.zero_le _, h1.eq (by simp), f1⟩
  case round =>
    obtain ⟨k, rfl, hk, h2, f2⟩ := hrel
    by_cases hlt : k < n
    · have d1 : decide ((k : Int) < (n : Int)) = true := by simp; omega
      have b1 : (0 : Int) ≤ (k : Int) := by omega
      have b2 : (k : Int) < (n : Int) := by omega
      have hkb : k < bs.length := by rw [HB.out]; exact hlt
      obtain ⟨b, off, A1, n1, c1, A2, n2, c2, A3, n3, c3, rfl, q0, q1, q2, hcall⟩ := HEL.out wr f2 k hkb
      have HC := Lib.hid hcall; clear hcall
      have hfl := flat_le hkb
      have hft := flat_take hkb
      have HFT := Lib.hid hft; clear hft
      have hlen : (l ++ leb n ++ (bs.take k).flatten).length + bs[k].length + 20 ≤ 140737488355328 := by
        rw [List.length_append, List.length_append]
        omega
      have HL := Lib.hid hlen; clear hlen hfl
      go_wp2_with fail
      refine (HC.out _ _ ?_ ?_ HL.out).mono ?_
      · first | exact h2.below ((Below.refl _ _).alloc (Nat.le_refl _) _) | exact h2
      · first | exact f2.alloc _ | exact f2
      rintro e w3 ⟨rfl, h3, f3⟩
      have f4 : Off Z w w3 := by first | exact (f2.alloc _).tr f3 | exact f2.tr f3
      go_wp2_with fail
      go_roundw
      case rel => exact ⟨k + 1, by go_num, by omega, h3.eq (by rw [List.append_assoc, HFT.out]), f4⟩
      case measure => simp [intOf]; omega
    · have d1 : decide ((k : Int) < (n : Int)) = false := by simp; omega
      obtain rfl : k = n := by omega
      have h3 := h2.eq (l' := l ++ (leb k ++ bs.flatten)) (by rw [List.take_of_length_le (by rw [HB.out]; exact Nat.le_refl _), List.append_assoc])
      go_wp2_with fail
      go_end0
      exact ⟨rfl, h3, f2⟩
end Go.Proofs.YtdbjihpdfiipcaaGreat
