/- The document's short numbers; a text behind bytes. Condition: not many bytes. -/
import Derived.Test.YtgefbgjgcjiceaaTokSaid
import Derived.Test.YtgefbgjgcjiceaaOrder
import Derived.Lib.AppendStr
namespace Go.Proofs.Ytgefbgjgcjiceaa
open Go.RowKit
set_option linter.unusedVariables false
set_option linter.unusedSimpArgs false
theorem or_128 (n : Nat) (h : n < 18446744073709551616) : bits .or .u64 (bits .and .u64 (n : Int) 127) 128 = ((n % 128 + 128 : Nat) : Int) := by
  have h1 := u64_and_nat n 127 h (by omega)
  rw [show (127 : Nat) = 2 ^ 7 - 1 from rfl, Nat.and_two_pow_sub_one_eq_mod] at h1
  have h2 := u64_or_nat (n % 2 ^ 7) 128 (by omega) (by omega)
  rw [Nat.or_comm, show (128 : Nat) = 2 ^ 7 * 1 from rfl, ← Nat.two_pow_add_eq_or_of_lt (by omega)] at h2
  rw [show ((2 ^ 7 - 1 : Nat) : Int) = 127 from rfl] at h1
  rw [h1]
  rw [show ((2 ^ 7 * 1 : Nat) : Int) = 128 from rfl] at h2
  rw [h2]
  omega
theorem OwnB.nn {w : World} {base e : Nat} {A : Option Addr} {n n' c : Nat} {l : List UInt8} (h : OwnB w base e (.slice A n c) l) (hn : n = n') : OwnB w base e (.slice A n' c) l := hn ▸ h
theorem wp_appendS {P : Program} {t u e : TypeId} (T : ByteTy P t e) (hu : P.underlying u = some .string) {o : Oper} {a : Act} {K : Act → World → Prop} {Q : Exit → Act → World → Prop} {w0 w : World}
    {s x : Operand} (ho : o.op = .call { callee := .builtin .append, args := #[s, x], argTypes := #[t, u] })
    {base : Nat} {A : Option Addr} {n c : Nat} {l : List UInt8} (hs : a.eval s = .slice A n c) (hown : OwnB w base e (.slice A n c) l)
    {l2 : List UInt8} (hx : a.eval x = .string (strB l2)) (hlen : n + l2.length ≤ 140737488355328) (hB : Below base w0 w) (hbase : base ≤ w0.heap.size)
    (h : ∀ A' c' w', OwnB w' base e (.slice A' (n + l2.length) c') (l ++ l2) → Below base w0 w' → K (a.put o.dst (.slice A' (n + l2.length) c')) w') : o.wp P a w K Q := by
  obtain ⟨i, hi, hz0, hz1, hz2⟩ := info_parts T.info
  have hl := hown.len
  obtain ⟨v', w', hr, h2, h3, h4⟩ := Go.Lib.run_append_own_string (P := P) w base t u o.type e i T.sl hu hi hz0 hz1 hz2 (.slice A n c) n (bvs l) (by have := hown; unfold OwnB at this; rw [hl] at this; exact this) (strB l2) (by rw [strB_size]; simp only [maxLen]; omega) (by rw [strB_size]; exact hlen) (Nat.le_trans hbase hB.size)
  have hc : Go.Lib.strCells (strB l2) = bvs l2 := by simp [Go.Lib.strCells, strB, bvs, bv]
  rw [hc, ← bvs_append, strB_size] at h2
  obtain ⟨A', c', rfl⟩ := OwnB.form h2
  unfold Oper.wp execOp
  simp only [ho, resolve, invoke, builtin, Sem.run_bind, Sem.run_pure, Result.andThen_ok, List.map_toArray, List.map_cons, List.map_nil, hs, hx, hr]
  refine h A' c' w' ?_ (hB.grown h3 (Nat.le_trans hbase hB.size) (fun k hk => (World.ownsRow.lt hown k hk).1))
  unfold OwnB
  rw [List.length_append, hl]
  exact h2
set_option maxRecDepth 100000 in
set_option maxHeartbeats 1000000 in
theorem short_anyR (A : Option Addr) (k c : Nat) (l : List UInt8) (n base : Nat) (hn : n < 18446744073709551616) (w : World) (h : OwnB w base 5 (.slice A k c) l) (hb : base ≤ w.heap.size) (hk : k ≤ 1000000) :
    Calls Try.prog 63 #[.slice A k c, .int .u64 n] w fun e w' => ∃ A' c', e = .returned (.slice A' (k + (leb n).length) c') ∧ OwnB w' base 5 (.slice A' (k + (leb n).length) c') (l ++ leb n) ∧ Below base w w' := by
  have hle := leb_le n hn
  have hlk := h.len
  generalize hT : l ++ leb n = T at *
  have hTl : T.length = k + (leb n).length := by rw [← hT, List.length_append, hlk]
  generalize hk2 : k + (leb n).length = kk at *
  have hkk : kk ≤ 1000010 := by omega
  have HT := Lib.hid hT; clear hT
  have HTl := Lib.hid hTl; clear hTl hle hlk hk2
  have Hkk := Lib.hid hkk; clear hkk
  go_enter Try.func63, Try.ntmps63
  go_wp2_with fail
  go_loopw [0, 1] (fun s0 s1 wr => ∃ (A1 : Option Addr) (k1 c1 : Nat) (l1 : List UInt8) (n1 : Nat), s0 = .slice A1 k1 c1 ∧ s1 = .int .u64 n1 ∧ n1 < 18446744073709551616 ∧ l1 ++ leb n1 = T ∧ OwnB wr base 5 (.slice A1 k1 c1) l1 ∧ Below base w wr) (fun _ s1 _ => (intOf s1).toNat)
  case atStart => exact ⟨A, k, c, l, n, rfl, rfl, hn, HT.out, h, Below.refl _ w⟩
  case round =>
    obtain ⟨A1, k1, c1, l1, n1, rfl, rfl, hn1, hl1, ow, f1⟩ := hrel
    have hk1 : k1 < 140737488355328 := by
      have e1 := HTl.out
      have e2 := ow.len
      have e3 := Hkk.out
      rw [← hl1, List.length_append] at e1
      omega
    have Hl1 := Lib.hid hl1; clear hl1
    by_cases hlt : 128 ≤ n1
    · have d1 : decide ((128 : Int) ≤ (n1 : Int)) = true := by simp; omega
      have hor := or_128 n1 hn1
      have hst := leb_step hlt (by omega)
      have Hst := Lib.hid hst; clear hst
      go_wp2_with (at_builtin; go_must (refine append1 T23 rfl rfl (UInt8.ofNat (n1 % 128 + 128)) (by simp only [bv]; congr 1; rw [UInt8.toNat_ofNat']; omega) rfl rfl ow hk1 f1 hb ?_); intro g' c' w4 ow4 f4 hg)
      go_roundw
      case rel => exact ⟨_, k1 + 1, c', l1 ++ [UInt8.ofNat (n1 % 128 + 128)], n1 / 128, rfl, by go_num, by omega, by rw [List.append_assoc, List.singleton_append, ← Hst.out]; exact Hl1.out, ow4, f4⟩
      case measure => simp only [intOf]; omega
    · have d1 : decide ((128 : Int) ≤ (n1 : Int)) = false := by simp; omega
      have hsm := leb_small (x := n1) (by omega)
      have hl2 : l1 ++ [UInt8.ofNat n1] = T := by rw [← hsm]; exact Hl1.out
      have hkk : k1 + 1 = kk := by
        have e1 := HTl.out
        have e2 := ow.len
        rw [← hl2, List.length_append] at e1
        simp at e1
        omega
      have Hl2 := Lib.hid hl2; clear hl2 hsm
      have Hkq := Lib.hid hkk; clear hkk
      go_wp2_with (at_builtin; go_must (refine append1 T23 rfl rfl (UInt8.ofNat n1) (by simp only [bv]; congr 1; rw [UInt8.toNat_ofNat']; omega) rfl rfl ow hk1 f1 hb ?_); intro g' c' w4 ow4 f4 hg)
      go_ret
      exact ⟨some ⟨g', 0, none⟩, c', by rw [← Hkq.out]; rfl, by rw [← Hl2.out]; exact ow4.nn Hkq.out, f4⟩
end Go.Proofs.Ytgefbgjgcjiceaa
