/- The document's Parse walked. Condition: the text is at most 10^6 bytes. -/
import Derived.Test.YtopemhdoccgjmaaParse
namespace Go.Proofs.Ytopemhdoccgjmaa
open Go.RowKit
set_option linter.unusedVariables false
def rsV : Option (List UInt8 × List UInt8) → Value
  | some (ns, sa) => .tuple #[nmV ns sa, .bool true]
  | none => .tuple #[nmV [] [], .bool false]
def tryN (l : List UInt8) (i k : Nat) : List UInt8 := (l.take k).drop i
def tryS (l : List UInt8) (k : Nat) : List UInt8 := if k + 4 ≤ l.length then l.drop (k + 4) else []
def hitB (l : List UInt8) (i k : Nat) : Bool := mayN (tryN l i k) (tryS l k) && (prN (tryN l i k) (tryS l k) == l)
theorem hit_some {l : List UInt8} {i k : Nat} (h : hitB l i k = true) : parseP l = some (tryN l i k, tryS l k) := by
  unfold hitB at h
  simp only [Bool.and_eq_true, beq_iff_eq] at h
  have := parse_mk h.1
  rwa [h.2] at this
theorem hit_none {l : List UInt8} (h : ∀ i k, i ≤ k → k ≤ l.length → hitB l i k = false) : parseP l = none := by
  cases hp : parseP l with
  | none => rfl
  | some q =>
    obtain ⟨ns, sa⟩ := q
    obtain ⟨hm, rfl⟩ := parse_inv hp
    have hl : (prN ns sa).length = 17 + ns.length + 4 + sa.length := by simp [prN, PRE, BET]; omega
    have e1 : tryN (prN ns sa) 17 (17 + ns.length) = ns := by
      unfold tryN prN
      rw [List.append_assoc, List.take_append_of_le_length (by simp [PRE]; omega), List.take_of_length_le (by simp [PRE]; omega)]
      exact List.drop_left (l₁ := PRE)
    have e2 : tryS (prN ns sa) (17 + ns.length) = sa := by
      unfold tryS
      rw [if_pos (by omega)]
      unfold prN
      have : 17 + ns.length + 4 = (PRE ++ ns ++ BET).length := by simp [PRE, BET]; omega
      rw [this, List.drop_left]
    have := h 17 (17 + ns.length) (by omega) (by omega)
    unfold hitB at this
    rw [e1, e2, hm] at this
    simp at this
theorem strB_extract (l : List UInt8) (i k : Nat) : (strB l).extract i k = strB ((l.take k).drop i) := by
  apply ByteArray.ext
  simp [strB, List.drop_take]
set_option maxRecDepth 100000 in
set_option maxHeartbeats 2000000 in
theorem refParse_any (l : List UInt8) (hl : l.length ≤ 1000000) (w : World) :
    Calls Try.prog 10 #[.string (strB l)] w fun e w' => e = .returned (rsV (parseP l)) ∧ Below w.heap.size w w' := by
  have hi : (Try.prog.info? 24).map (·.size) = some 2 := by kernel_rfl
  have Hi := Lib.hid hi
  have hsz := strB_size l
  clear hi
  go_enter Try.func10, Try.ntmps10
  go_upto_region 1 with fail
  refine abs (fun w1 => Blk w1 w.heap.size 24 [.string (strB []), .string (strB [])] ∧ Below w.heap.size w w1) ⟨Blk.newAt rfl _ _, (Below.refl _ w).alloc (Nat.le_refl _) _⟩ ?_
  rintro w1 ⟨kz, f1⟩
  by_cases h100 : 100 < l.length
  · have d1 : decide ((100 : Int) < (l.length : Int)) = true := by simp; omega
    have hn : parseP l = none := by
      cases hp : parseP l with
      | none => rfl
      | some q => have := parse_len (l := l) (ns := q.1) (sa := q.2) (by rw [hp]); omega
    have HN := Lib.hid hn
    clear hn
    go_wp2_with (first | (refine store_blk kz rfl 24 (.tmp 2) (.tmp 10) rfl rfl (us := [.string (strB []), .string (strB [])]) rfl Hi.out rfl rfl ?_; intro w9 k10 hg))
    refine bodyPost_ret (k10.sizedT rfl _ rfl Try.underlying24 Hi.out) rfl ⟨?_, f1.grown hg f1.size (by simp)⟩
    rw [HN.out]
    rfl
  have d1 : decide ((100 : Int) < (l.length : Int)) = false := by simp; omega
  generalize hn : l.length = n at *
  have Hn := Lib.hid hn
  clear hn
  go_wp2_with fail
  go_loopw [4, 5, 6] (fun i _ _ wr => ∃ p : Nat, p ≤ n + 1 ∧ i = .int .i64 p ∧ Blk wr w.heap.size 24 [.string (strB []), .string (strB [])] ∧ Below w.heap.size w wr ∧ (∀ a k, a < p → a ≤ k → k ≤ n → hitB l a k = false)) (fun i _ _ _ => n + 1 - (intOf i).toNat)
  case atStart => exact ⟨0, by omega, rfl, kz, f1, fun a k h => absurd h (by omega)⟩
  case round =>
    clear kz f1
    obtain ⟨p, hp, rfl, kz, f1, hno⟩ := hrel
    have Hno := Lib.hid hno
    clear hno
    by_cases hlt : p ≤ n
    · have d2 : decide ((p : Int) ≤ (n : Int)) = true := by simp; omega
      go_wp2_with fail
      go_loopw [5, 6] (fun i _ wq => ∃ k : Nat, p ≤ k ∧ k ≤ n + 1 ∧ i = .int .i64 k ∧ Blk wq w.heap.size 24 [.string (strB []), .string (strB [])] ∧ Below w.heap.size w wq ∧ (∀ j, p ≤ j → j < k → hitB l p j = false)) (fun i _ _ => n + 1 - (intOf i).toNat)
      case atStart => exact ⟨p, by omega, by omega, rfl, kz, f1, fun j h1 h2 => absurd h2 (by omega)⟩
      case round =>
        clear kz f1
        obtain ⟨k, hpk, hk, rfl, kz, f1, hno2⟩ := hrel
        have Hno2 := Lib.hid hno2
        clear hno2
        by_cases hlk : k ≤ n
        · have d3 : decide ((k : Int) ≤ (n : Int)) = true := by simp; omega
          have b1 : (p : Int) ≤ (k : Int) := by omega
          have hx1 := strB_extract l p k
          have hx2 : k + 4 ≤ n → (strB l).extract (k + 4) n = strB (tryS l k) := fun h => by
            rw [strB_extract, List.take_of_length_le (by rw [Hn.out]; exact Nat.le_refl _)]
            unfold tryS
            rw [if_pos (by rw [Hn.out]; exact h)]
          have hx3 : ¬ k + 4 ≤ n → tryS l k = [] := fun h => by
            unfold tryS
            rw [if_neg (by rw [Hn.out]; exact h)]
          have e0 : (l.take k).drop p = tryN l p k := rfl
          rw [e0] at hx1
          have hl1 : (tryN l p k).length ≤ 1000000 := by
            have : (tryN l p k).length ≤ l.length := by unfold tryN; rw [List.length_drop, List.length_take]; omega
            rw [Hn.out] at this
            omega
          have hl2 : (tryS l k).length ≤ 1000000 := by
            have : (tryS l k).length ≤ l.length := by
              unfold tryS
              split
              · rw [List.length_drop]; omega
              · simp
            rw [Hn.out] at this
            omega
          have hmay := fun w => refMay_any (tryN l p k) (tryS l k) (by omega) (by omega) w
          have hpr := fun w => refPrint_any (tryN l p k) (tryS l k) hl1 hl2 w
          have hh0 : mayN (tryN l p k) (tryS l k) = false → hitB l p k = false := fun h => by unfold hitB; rw [h]; rfl
          have hh1 : mayN (tryN l p k) (tryS l k) = true → prN (tryN l p k) (tryS l k) = l → parseP l = some (tryN l p k, tryS l k) := fun h h' => hit_some (by unfold hitB; rw [h, h']; simp)
          have hh2 : prN (tryN l p k) (tryS l k) ≠ l → hitB l p k = false := fun h => by unfold hitB; simp [h]
          unfold nmV at hmay hpr
          clear e0 hl1 hl2
          generalize tryN l p k = NS at *
          generalize tryS l k = SA at *
          have Hhit0 := Lib.hid hh0
          have Hhit1 := Lib.hid hh1
          have Hhit2 := Lib.hid hh2
          clear hh0 hh1 hh2
          by_cases h4 : k + 4 ≤ n
          · have d4 : decide ((k : Int) + 4 ≤ (n : Int)) = true := by simp; omega
            replace hx2 := hx2 h4
            clear hx3
            go_wp2_with fail
            refine absC (fun w2 => Blk w2 w.heap.size 24 [.string (strB []), .string (strB [])] ∧ Blk w2 wr.heap.size 24 [.string (strB NS), .string (strB SA)] ∧ Below w.heap.size w w2) ⟨kz.alloc _, Blk.newAt rfl _ _, f1.alloc f1.size _⟩ ?_
            have lz := kz.lt
            clear kz f1 hx1 hx2
            rintro w2 ⟨kz, kn, f2⟩
            refine (hmay w2).mono ?_
            rintro e w3 ⟨rfl, f3⟩
            have ln := kn.lt
            replace kz := kz.below f3 kz.lt
            replace kn := kn.below f3 ln
            replace f2 := f2.trans (f3.mono f2.size)
            clear f3 hmay
            cases hb : mayN NS SA
            · have hh := Lib.hid (Hhit0.out hb)
              go_wp2_with fail
              go_roundw
              case rel =>
                refine ⟨k + 1, by omega, by omega, by go_num, kz, f2, fun j h1 h2 => ?_⟩
                by_cases hjk : j = k
                · subst hjk; exact hh.out
                · exact Hno2.out j h1 (by omega)
              case measure => simp [intOf]; omega
            · have Hb := Lib.hid hb
              clear hb
              have c0 := kn.cell 0
              have c1 := kn.cell 1
              go_wp2_with fail
              refine (hpr w3).mono ?_
              rintro e w4 ⟨rfl, f4⟩
              have ln := kn.lt
              replace kz := kz.below f4 kz.lt
              replace kn := kn.below f4 ln
              have F4 := f2.trans (f4.mono f2.size)
              clear f4 f2 hpr c0 c1
              generalize hPR : prN NS SA = PR at *
              have HPR := Lib.hid hPR
              clear hPR
              by_cases he : PR = l
              · have hh := Lib.hid (Hhit1.out Hb.out he)
                have He := Lib.hid he
                subst he
                go_wp2_with (first | (refine load_blk kn rfl 24 (.tmp 6) rfl rfl Try.underlying24 Hi.out ?_) | (refine store_blk kz rfl 24 (.tmp 2) (.tmp 47) rfl rfl (us := [.string (strB NS), .string (strB SA)]) rfl Hi.out rfl rfl ?_; intro w9 k10 hg))
                refine bodyPost_ret (k10.sizedT rfl _ rfl Try.underlying24 Hi.out) rfl ⟨?_, F4.grown hg F4.size (by simp)⟩
                rw [hh.out]
                rfl
              · have hh := Lib.hid (Hhit2.out he)
                have hne : (PR == l) = false := by simpa using he
                go_wp2_with fail
                go_roundw
                case rel =>
                  refine ⟨k + 1, by omega, by omega, by go_num, kz, F4, fun j h1 h2 => ?_⟩
                  by_cases hjk : j = k
                  · subst hjk; exact hh.out
                  · exact Hno2.out j h1 (by omega)
                case measure => simp [intOf]; omega
          · have d4 : decide ((k : Int) + 4 ≤ (n : Int)) = false := by simp; omega
            obtain rfl := hx3 h4
            clear hx2 hx3
            go_wp2_with fail
            refine absC (fun w2 => Blk w2 w.heap.size 24 [.string (strB []), .string (strB [])] ∧ Blk w2 wr.heap.size 24 [.string (strB NS), .string (strB [])] ∧ Below w.heap.size w w2) ⟨kz.alloc _, Blk.newAt rfl _ _, f1.alloc f1.size _⟩ ?_
            have lz := kz.lt
            clear kz f1 hx1
            rintro w2 ⟨kz, kn, f2⟩
            refine (hmay w2).mono ?_
            rintro e w3 ⟨rfl, f3⟩
            have ln := kn.lt
            replace kz := kz.below f3 kz.lt
            replace kn := kn.below f3 ln
            replace f2 := f2.trans (f3.mono f2.size)
            clear f3 hmay
            cases hb : mayN NS []
            · have hh := Lib.hid (Hhit0.out hb)
              go_wp2_with fail
              go_roundw
              case rel =>
                refine ⟨k + 1, by omega, by omega, by go_num, kz, f2, fun j h1 h2 => ?_⟩
                by_cases hjk : j = k
                · subst hjk; exact hh.out
                · exact Hno2.out j h1 (by omega)
              case measure => simp [intOf]; omega
            · have Hb := Lib.hid hb
              clear hb
              have c0 := kn.cell 0
              have c1 := kn.cell 1
              go_wp2_with fail
              refine (hpr w3).mono ?_
              rintro e w4 ⟨rfl, f4⟩
              have ln := kn.lt
              replace kz := kz.below f4 kz.lt
              replace kn := kn.below f4 ln
              have F4 := f2.trans (f4.mono f2.size)
              clear f4 f2 hpr c0 c1
              generalize hPR : prN NS [] = PR at *
              have HPR := Lib.hid hPR
              clear hPR
              by_cases he : PR = l
              · have hh := Lib.hid (Hhit1.out Hb.out he)
                have He := Lib.hid he
                subst he
                go_wp2_with (first | (refine load_blk kn rfl 24 (.tmp 6) rfl rfl Try.underlying24 Hi.out ?_) | (refine store_blk kz rfl 24 (.tmp 2) (.tmp 47) rfl rfl (us := [.string (strB NS), .string (strB [])]) rfl Hi.out rfl rfl ?_; intro w9 k10 hg))
                refine bodyPost_ret (k10.sizedT rfl _ rfl Try.underlying24 Hi.out) rfl ⟨?_, F4.grown hg F4.size (by simp)⟩
                rw [hh.out]
                rfl
              · have hh := Lib.hid (Hhit2.out he)
                have hne : (PR == l) = false := by simpa using he
                go_wp2_with fail
                go_roundw
                case rel =>
                  refine ⟨k + 1, by omega, by omega, by go_num, kz, F4, fun j h1 h2 => ?_⟩
                  by_cases hjk : j = k
                  · subst hjk; exact hh.out
                  · exact Hno2.out j h1 (by omega)
                case measure => simp [intOf]; omega
        · have d3 : decide ((k : Int) ≤ (n : Int)) = false := by simp; omega
          go_wp2_with fail
          go_roundw
          case rel =>
            refine ⟨p + 1, by omega, by go_num, kz, f1, fun a j h1 h2 h3 => ?_⟩
            by_cases hap : a = p
            · subst hap; exact Hno2.out j h2 (by omega)
            · exact Hno.out a j (by omega) h2 h3
          case measure => simp [intOf]; omega
    · have d2 : decide ((p : Int) ≤ (n : Int)) = false := by simp; omega
      have hno := hit_none (l := l) (fun i k h1 h2 => Hno.out i k (by rw [Hn.out] at h2; omega) h1 (by rw [Hn.out] at h2; exact h2))
      have HN := Lib.hid hno
      clear hno
      go_wp2_with (first | (refine store_blk kz rfl 24 (.tmp 2) (.tmp 48) rfl rfl (us := [.string (strB []), .string (strB [])]) rfl Hi.out rfl rfl ?_; intro w9 k10 hg))
      refine bodyPost_ret (k10.sizedT rfl _ rfl Try.underlying24 Hi.out) rfl ⟨?_, f1.grown hg f1.size (by simp)⟩
      rw [HN.out]
      rfl
end Go.Proofs.Ytopemhdoccgjmaa
