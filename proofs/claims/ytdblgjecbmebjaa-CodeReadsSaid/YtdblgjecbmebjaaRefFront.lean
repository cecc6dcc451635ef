/- The document's reader: front. Condition: the bytes are at most 2^47. -/
import Derived.Test.YtdblgjecbmebjaaRefReader2
import Derived.Test.YtdblgjecbmebjaaOrder
namespace Go.Proofs.Ytdblgjecbmebjaa
open Go.RowKit
set_option linter.unusedVariables false
def frontV : Option (Nat × Nat) → Value
  | none => .tuple #[.int .u64 0, .int .i64 0]
  | some (x, k) => .tuple #[.int .u64 x, .int .i64 k]
theorem front_add (X C : Nat) (hX : X < 18446744073709551616) (hC : C < 256) :
    IntKind.u64.wrap (IntKind.u64.wrap ((X : Int) * 128) + IntKind.u64.wrap (bits BinOp.and IntKind.u8 (C : Int) 127)) = (((C % 128 + 128 * X) % 18446744073709551616 : Nat) : Int) := by
  rw [bits_127 C hC]
  simp [IntKind.wrap, IntKind.bits, IntKind.signed]
  omega
set_option maxRecDepth 100000 in
set_option maxHeartbeats 4000000 in
theorem front_any (p : Nat) (A : Option Addr) (n c : Nat) (s : RS) (w : World) (h : Rm w p A n c s) (hn : n ≤ 140737488355328) :
    Calls Try.prog 55 #[.pointer (some ⟨p, 0, none⟩)] w fun e w' => e = .returned (frontV (findShort s.l)) ∧ Below w.heap.size w w' := by
  have hnc := h.2.cap
  have hl := h.2.len
  obtain ⟨l, st⟩ := s
  simp only at hl ⊢
  go_enter Try.func55, Try.ntmps55
  go_wp2_with fail
  go_loopw [4] (fun i wr => ∃ k : Nat, i = .int .i64 k ∧ 1 ≤ k ∧ k ≤ 11 ∧ (∀ j, j < k → ∀ y, findShort l ≠ some (y, j)) ∧ Below w.heap.size w wr) (fun i _ => 12 - (intOf i).toNat)
  case atStart => exact ⟨1, rfl, by omega, by omega, fun j hj y hy => by have := front_len hy; omega, Below.refl _ _⟩
  case round =>
    obtain ⟨k, rfl, hk1, hk, hno, F⟩ := hrel
    have h1 := h.below F
    have c0 := h1.1.cell 0
    by_cases h10 : k ≤ 10
    · have d1 : decide ((k : Int) ≤ 10) = true := by simp; omega
      by_cases hkn : k ≤ n
      · have d2 : decide ((k : Int) ≤ (n : Int)) = true := by simp; omega
        have HN := Lib.hid hno
        clear hno
        go_wp2_with fail
        go_loopw [5, 6] (fun v i wq => ∃ j : Nat, i = .int .i64 ((j : Int) - 1) ∧ v = .int .u64 (dec ((l.take k).drop j) % 18446744073709551616 : Nat) ∧ j ≤ k ∧ wq = wr) (fun _ i _ => (intOf i + 1).toNat)
        case atStart => exact ⟨k, rfl, by rw [List.drop_eq_nil_of_le (by rw [List.length_take]; omega)]; rfl, Nat.le_refl _, rfl⟩
        case round =>
          obtain ⟨j, rfl, rfl, hj, rfl⟩ := hrel
          rcases j with _ | j
          · rw [List.drop_zero, show ((0 : Nat) : Int) - 1 = -1 from rfl]
            have hmiss := front_miss (l := l) (n := k)
            have hhit := fun x hx (h : leb x = l.take k) => front_hit (n := k) hx h (by omega)
            have hY64 : dec (l.take k) % 18446744073709551616 < 18446744073709551616 := Nat.mod_lt _ (by omega)
            generalize dec (l.take k) % 18446744073709551616 = Y at *
            have rk := h1.2.rd.take hkn
            have b1 : (k : Int) ≤ (c : Int) := by omega
            have b2 : k ≤ c := by omega
            have b3 : (0 : Int) ≤ (k : Int) := by omega
            have hpl := h1.1.lt
            have HMs := Lib.hid hmiss
            clear hmiss
            go_wp2_with fail
            refine wp_region_order (fun u => Below wr.heap.size wr u ∧ u.cell? ⟨p, 0, none⟩ = some (.slice A n c)) 11 [(0,0), (3,0), (4,0), (5,0), (6,0), (7,0), (8,0), (9,0), (1,1), (2,1), (10,1)] (by kernel_rfl) (by kernel_rfl) ?_
            simp only [pick, List.filterMap_cons, List.filterMap_nil, List.getElem?_cons_zero, List.getElem?_cons_succ, Option.map_some]
            have hS : Below wr.heap.size wr wr.drew ∧ wr.drew.cell? ⟨p, 0, none⟩ = some (.slice A n c) := ⟨(Below.refl _ _).drew, c0⟩
            refine wpF_take (v := ?_) hS rfl ?_ (fun _ _ _ h => h) ?_
            rotate_left
            · intro w' hS'
              obtain ⟨_, e0⟩ := hS'
              go_simp <;> rfl
            go_simp
            refine wpF_take (v := ?_) hS rfl ?_ (fun _ _ _ h => h) ?_
            rotate_left
            · intro w' hS'
              obtain ⟨_, e0⟩ := hS'
              go_simp <;> rfl
            go_simp
            refine wpF_take (v := ?_) hS rfl ?_ (fun _ _ _ h => h) ?_
            rotate_left
            · intro w' hS'
              obtain ⟨_, e0⟩ := hS'
              go_simp <;> rfl
            go_simp
            refine wpF_take (v := ?_) hS rfl ?_ (fun _ _ _ h => h) ?_
            rotate_left
            · intro w' hS'
              obtain ⟨_, e0⟩ := hS'
              go_simp <;> rfl
            go_simp
            refine wpF_take (v := ?_) hS rfl ?_ (fun _ _ _ h => h) ?_
            rotate_left
            · intro w' hS'
              obtain ⟨_, e0⟩ := hS'
              go_simp <;> rfl
            go_simp
            refine wpF_take (v := ?_) hS rfl ?_ (fun _ _ _ h => h) ?_
            rotate_left
            · intro w' hS'
              obtain ⟨_, e0⟩ := hS'
              go_simp <;> rfl
            go_simp
            refine wpF_take (v := .slice A k c) hS rfl (fun u hS' => by go_simp) (fun _ _ _ h => h) ?_
            go_simp
            refine wpF_take (v := .string (strB (l.take k))) hS rfl (fun u hS' => ?_) (fun _ _ _ h => h) ?_
            · have := run_str T23 (rk.below hS'.1) c _ Try.underlying9
              go_simp <;> rw [this]
            go_simp
            refine wpF_only rfl (fun K hK => ?_)
            go_wp2_with fail
            refine (refShort_any Y hY64 _).mono ?_
            rintro e wS ⟨As, cs, rfl, os, fs⟩
            have ks : (convert 28 9 (.slice As (leb Y).length cs)).run Try.prog wS = .ok (.string (strB (leb Y))) wS := run_str T23 os.rd cs _ Try.underlying9
            have hB : Below wr.heap.size wr wS ∧ wS.cell? ⟨p, 0, none⟩ = some (.slice A n c) := ⟨hS.1.trans fs, (fs.cell (p := ⟨p, 0, none⟩) hpl).trans hS.2⟩
            generalize hLY : leb Y = LY at *
            have HL := Lib.hid hLY
            clear hLY
            go_wp2_with fail
            first | refine ⟨fun _ => hB, ?_⟩ | skip
            go_simp
            refine wpF_only rfl (fun K hK => ?_)
            go_wp2_with fail
            first | refine ⟨fun _ => hB, ?_⟩ | skip
            go_simp
            refine wpF_nil ?_
            have F2 := F.trans (hB.1.mono F.size)
            clear hS hB ks os
            go_wp2_with fail
            · go_ret2
              have hh : leb Y = l.take k := by
                rename_i hx
                rw [HL.out]
                simpa using hx
              rw [hhit Y hY64 hh]
              exact ⟨rfl, F2⟩
            · have hh : ¬ LY = l.take k := by
                rename_i hx
                simpa using hx
              go_roundw
              case rel =>
                refine ⟨k + 1, by go_num, by omega, by omega, fun j hj y => ?_, F2⟩
                by_cases hjk : j = k
                · subst hjk
                  exact HMs.out hh y
                · exact HN.out j (by omega) y
              case measure => simp [intOf]; omega
          · rw [show ((j + 1 : Nat) : Int) - 1 = (j : Int) from by omega]
            have hlt : j < (l.take k).length := by rw [List.length_take]; omega
            have hst := dec_step hlt
            have hat : at8 (l.take k) j = at8 l j := by
              unfold at8
              rw [List.getD_eq_getElem?_getD, List.getD_eq_getElem?_getD, List.getElem?_take, if_pos (by omega)]
            rw [hat] at hst
            obtain ⟨b, off, rfl, hb, hc⟩ := h1.2.rd.cellAt (j := j) (by omega)
            have hc8 := (at8 l j).toNat_lt
            have b1 : (0 : Int) ≤ (j : Int) := by omega
            have b2 : (j : Int) < (n : Int) := by omega
            have hX : dec ((l.take k).drop (j + 1)) % 18446744073709551616 < 18446744073709551616 := Nat.mod_lt _ (by omega)
            have hY : dec ((l.take k).drop j) % 18446744073709551616 = ((at8 l j).toNat % 128 + 128 * (dec ((l.take k).drop (j + 1)) % 18446744073709551616)) % 18446744073709551616 := by
              rw [hst]
              omega
            generalize (at8 l j).toNat = C at *
            generalize dec ((l.take k).drop (j + 1)) % 18446744073709551616 = X at *
            have hadd := front_add X C hX (by omega)
            rw [← hY] at hadd
            have HY := Lib.hid hY
            clear hY hst hat
            go_wp2_with fail
            go_roundw
            case rel => exact ⟨j, rfl, by simp, by omega, by trivial⟩
            case measure => simp [intOf]
      · have d2 : decide ((k : Int) ≤ (n : Int)) = false := by simp; omega
        have hnone := front_none hno (by omega)
        go_wp2_with fail
        go_ret2
        first | (rw [hnone]; exact ⟨rfl, F⟩) | exact ⟨rfl, F⟩
    · have d1 : decide ((k : Int) ≤ 10) = false := by simp; omega
      have hnone := front_none hno (by omega)
      go_wp2_with fail
      go_ret2
      first | (rw [hnone]; exact ⟨rfl, F⟩) | exact ⟨rfl, F⟩
end Go.Proofs.Ytdblgjecbmebjaa
