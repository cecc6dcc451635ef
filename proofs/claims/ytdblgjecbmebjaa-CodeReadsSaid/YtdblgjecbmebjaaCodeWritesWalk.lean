/- The law CodeWrites, walked. No condition. -/
import Derived.Test.YtdblgjecbmebjaaPut2
import Derived.Test.YtdblgjecbmebjaaCodeNobodyWalk
namespace Go.Proofs.Ytdblgjecbmebjaa
open Go.RowKit
set_option linter.unusedVariables false
theorem OwnB.addr {w : World} {base e : Nat} {A : Option Addr} {n c : Nat} {l : List UInt8} (h : OwnB w base e (.slice A n c) l) (hn : 0 < n) : ∃ g, A = some ⟨g, 0, none⟩ ∧ base ≤ g ∧ ∀ j, w.frozen? ⟨g, j, none⟩ = false := by
  rcases h.2 with ⟨h1, h2⟩ | ⟨g, cap, cur, h1, h2, h3, _⟩
  · injection h1 with _ h3 _
    omega
  · injection h1 with h4 _ _
    have hb : Blk w g e cur.toList := by unfold Blk; rw [Array.toArray_toList]; exact h3
    exact ⟨g, h4, h2, hb.frozen⟩
theorem byte_inc (b : UInt8) : ((b.toNat : Int) + 1) % 256 = ((b + 1).toNat : Int) := by
  simp
set_option maxRecDepth 100000 in
set_option maxHeartbeats 4000000 in
theorem codeWrites_walk (w : World) (A2 : Option Addr) (n2 c2 : Nat) (fs : List Fd) (rf : RdF w w.heap.size A2 n2 fs) (hnc2 : n2 ≤ c2) (hc2 : c2 ≤ maxLen) (hok : ∀ f ∈ fs, FdOk f) (A3 : Option Addr) (n3 c3 : Nat) (xs : List Nat) (ru : RdU w w.heap.size A3 n3 xs) (hnc3 : n3 ≤ c3) (hc3 : c3 ≤ maxLen) (hxs : ∀ x ∈ xs, x < 18446744073709551616) :
    Calls Try.prog 3 #[.slice A2 n2 c2, .slice A3 n3 c3] w fun e w' => e = .returned (.bool true) ∧ Below w.heap.size w w' := by
  have hn2 : n2 ≤ 9223372036854775807 := by simp only [maxLen] at hc2; omega
  go_enter Try.func3, Try.ntmps3
  go_wp2_with fail
  refine (long_any A2 n2 c2 fs _ w rf (fun f hf => (hok f hf).2.2.2.2.2.2.2) hn2).mono ?_
  rintro e w' ⟨rfl, rfl⟩
  by_cases hlong : 1000 < longN fs
  · have d0 : decide (1000 < longN fs) = true := by simp [hlong]
    rw [d0]
    go_wp2_with fail
    refine (awake3_any w').mono ?_
    rintro e w1 ⟨rfl, f1⟩
    go_wp2_with fail
    go_ret
    exact ⟨rfl, f1⟩
  · have d0 : decide (1000 < longN fs) = false := by simp [hlong]
    rw [d0]
    have hll : longN fs ≤ 1000 := by omega
    have hfl := list_long hll
    have hto := totN_le fs
    have hrl := rf.1
    have hru := ru.1
    have hso := fun f (hf : f ∈ fs) => size_of hll hf
    have hoks : ∀ f ∈ fs, Fok f := fun f hf => (hok f hf).ok
    have hbf := bytesOf_le fs hoks
    have hbt0 : (bytesOf fs).length ≤ 60000 := by omega
    clear hlong hbf
    by_cases hbig : 300 < n3
    · have d1 : decide ((300 : Int) < (n3 : Int)) = true := by simp; omega
      go_wp2_with fail
      refine (awake3_any w').mono ?_
      rintro e w1 ⟨rfl, f1⟩
      go_wp2_with fail
      go_ret
      exact ⟨rfl, f1⟩
    · have d1 : decide ((300 : Int) < (n3 : Int)) = false := by simp; omega
      have hn3 : n3 ≤ 300 := by omega
      clear hbig
      go_wp2_with fail
      refine (newWriter_any w').mono ?_
      rintro e w1 ⟨rfl, h1, f1⟩
      obtain ⟨pv, hpv⟩ : ∃ pv, w'.heap.size = pv := ⟨_, rfl⟩
      rw [hpv] at h1 f1 rf ru ⊢
      have hp1 := h1.lt
      go_wp2_with fail
      go_loopw [6, 7] (fun wa i wr => ∃ (j m : Nat) (Av : Option Addr) (cv : Nat) (Ax : Option Addr) (cx : Nat), i = .int .i64 j ∧ wa = .slice Ax m cx ∧ j ≤ n2 ∧ m = (bytesOf (fs.take j)).length ∧ Wr wr pv Av m cv (bytesOf (fs.take j)) ∧ OwnB wr pv 5 (.slice Ax m cx) (bytesOf (fs.take j)) ∧ Apart pv Av Ax ∧ (∀ k, isB Av k → pv ≤ k) ∧ Below pv w' wr) (fun _ i _ => n2 - (intOf i).toNat)
      case atStart => exact ⟨0, 0, none, 0, none, 0, rfl, rfl, Nat.zero_le _, rfl, h1, OwnB.nil_ _ _ _, (fun k hk => by obtain ⟨x, hx, _⟩ := hk; cases hx), (fun k hk => by obtain ⟨x, hx, _⟩ := hk; cases hx), f1⟩
      case round =>
        clear h1 f1
        obtain ⟨j, m, Av, cv, Ax, cx, rfl, rfl, hj, hm, hv, ox, ap, hav, F⟩ := hrel
        by_cases hlt : j < n2
        · have d2 : decide ((j : Int) < (n2 : Int)) = true := by simp; omega
          have b3 : (0 : Int) ≤ (j : Int) := by omega
          have b4 : (j : Int) < (n2 : Int) := by omega
          obtain ⟨bf, off, f, hA, hbf, hf, q0, q1, q2, q3, q4⟩ := (rf.below F).at_ hlt
          subst hA
          have hfm := List.mem_of_getElem? hf
          have hff := hoks f hfm
          have hfs := hso f hfm
          have hbt := bytesOf_take hf
          have htt := totN_take hf
          have htl := totN_take_le fs (j + 1)
          have hbl := bytesOf_le (fs.take j) (fun g hg => hoks g (List.mem_of_mem_take hg))
          have hsz := fbytes_le f hff.1 hff.2
          have hm60 : m + (fbytes f).length ≤ 60000 ∧ m + 10 + f.s.length ≤ 60000 := by
            have : fsz f = 10 + f.s.length := rfl
            omega
          have HM := Lib.hid hm
          have HB := Lib.hid hbt
          have HZ := Lib.hid hm60
          clear hm hbt htt htl hbl hsz hm60
          generalize bytesOf (fs.take j) = acc at *
          have hFs := F.size
          go_wp2_with fail
          refine (write_any pv Av m cv acc f wr hv hff.1 (by have := HZ.out; omega)).mono ?_
          rintro e w6 ⟨rfl, Av', cv', hv', d6⟩
          have hpl := hv.lt
          have hxl : ∀ k, isB Ax k → k < wr.heap.size := fun k hk => (ox.isB_lt hk).2
          have ox' := ox.off d6.2 (fun k hk h => by
            rcases h with h | h
            · exact (ap k hk).1 h
            · exact (ap k hk).2 h)
          have ap' := ap.wrote d6 hxl
          have hav' : ∀ k, isB Av' k → pv ≤ k := fun k hk => by
            rcases d6.1 with rfl | ⟨g, rfl, hg⟩
            · exact hav k hk
            · obtain ⟨y, hy, rfl⟩ := hk
              injection hy with hy
              subst hy
              simp only
              omega
          have F6 := F.trans (d6.2.below (B := pv) (by omega) (fun k hk => by
            rcases hk with rfl | hk
            · exact Nat.le_refl _
            · exact hav k hk))
          have hs6 := d6.2.size
          clear hv ox ap hav F q0 q1 q2 q3 q4 d6 hxl
          obtain ⟨q0, q1, q2, q3, q4⟩ := (rf.below F6).cells hlt hf
          go_wp2_with fail
          refine (meant_any f w6 hff (by omega)).mono ?_
          rintro e w7 ⟨Am, nm, cm, rfl, rm, g7⟩
          have hv7 := hv'.below g7
          have ox7 := ox'.below (Nat.le_refl _) g7
          have F7 := F6.trans (g7.mono (by omega))
          have hnm := rm.1
          have hs7 := g7.size
          clear hv' ox' F6 q0 q1 q2 q3 q4 g7
          go_wp2_with (at_builtin; go_must (refine appendG T23 rfl rfl rfl ox7 rfl rm (by have := HZ.out; omega) (by omega) ?_); intro Ax' cx' w8 ox8 o8 ho8)
          have hvl : ∀ k, isB Av' k → k < w7.heap.size := fun k hk => (hv7.2.isB_lt hk).2
          have hv8 := hv7.off o8 (fun h => (ap' _ h).1 rfl) (fun k hk h => (ap' k h).2 hk)
          have ap8 := ap'.grown hv7.lt hvl ho8
          have F8 := F7.trans (o8.below (B := pv) (by omega) (fun k hk => (ox7.isB_lt hk).1))
          clear hv7 ox7 ap' F7 o8 ho8 hvl rm
          go_roundw
          case rel =>
            refine ⟨j + 1, m + nm, Av', cv', Ax', cx', by go_num, rfl, by omega, ?_, ?_, ?_, ap8, hav', F8⟩
            · rw [HB.out, List.length_append, ← HM.out, hnm]
            · rw [HB.out]
              have e : (acc ++ fbytes f).length = m + nm := by rw [List.length_append, ← HM.out, hnm]
              rwa [e] at hv8
            · rw [HB.out]
              exact ox8
          case measure => simp [intOf]; omega
        · obtain rfl : j = n2 := by omega
          have d2 : decide ((j : Int) < (j : Int)) = false := by simp
          rw [List.take_of_length_le (by omega)] at hm hv ox
          have hm60 : m ≤ 60000 := by omega
          clear hm hbt0
          generalize bytesOf fs = acc at *
          have hFs := F.size
          have hpl := hv.lt
          go_wp2_with fail
          refine (put_any2 pv Av m cv acc A3 n3 c3 xs wr pv hv (ru.below F) (Nat.le_refl _) hav hxs (by omega)).mono ?_
          rintro e w2 ⟨rfl, Av', cv', hv', d6⟩
          have hxl : ∀ k, isB Ax k → k < wr.heap.size := fun k hk => (ox.isB_lt hk).2
          have ox' := ox.off d6.2 (fun k hk h => by
            rcases h with h | h
            · exact (ap k hk).1 h
            · exact (ap k hk).2 h)
          have ap' := ap.wrote d6 hxl
          have hav' : ∀ k, isB Av' k → pv ≤ k := fun k hk => by
            rcases d6.1 with rfl | ⟨g, rfl, hg⟩
            · exact hav k hk
            · obtain ⟨y, hy, rfl⟩ := hk
              injection hy with hy
              subst hy
              simp only
              omega
          have F2 := F.trans (d6.2.below (B := pv) (by omega) (fun k hk => by
            rcases hk with rfl | hk
            · exact Nat.le_refl _
            · exact hav k hk))
          clear hv ox ap hav F d6 hxl
          have hls := lebs_le xs hxs
          have hT : (acc ++ lebs xs).length ≤ 63000 := by rw [List.length_append, ox'.len]; omega
          generalize hN : (acc ++ lebs xs).length = N at *
          have HN := Lib.hid hN
          clear hN
          go_wp2_with fail
          go_loopw [6, 8] (fun wa i wq => ∃ (q m' : Nat) (Ax : Option Addr) (cx : Nat), i = .int .i64 q ∧ wa = .slice Ax m' cx ∧ q ≤ n3 ∧ m' ≤ m + 10 * q ∧ Wr wq pv Av' N cv' (acc ++ lebs xs) ∧ OwnB wq pv 5 (.slice Ax m' cx) (acc ++ lebs (xs.take q)) ∧ Apart pv Av' Ax ∧ Below pv w' wq) (fun _ i _ => n3 - (intOf i).toNat)
          case atStart => exact ⟨0, m, Ax, cx, rfl, rfl, Nat.zero_le _, by omega, hv', by simpa [lebs] using ox', ap', F2⟩
          case round =>
            clear hv' ox' ap' F2
            obtain ⟨q, m', Ax, cx, rfl, rfl, hq, hm', hv, ox, ap, F⟩ := hrel
            by_cases hlt2 : q < n3
            · have d3 : decide ((q : Int) < (n3 : Int)) = true := by simp; omega
              have b3 : (0 : Int) ≤ (q : Int) := by omega
              have b4 : (q : Int) < (n3 : Int) := by omega
              obtain ⟨bu, offu, x, hA, hbu, hx, e0⟩ := (ru.below F).at_ hlt2
              subst hA
              have hx64 := hxs x (List.mem_of_getElem? hx)
              have hst := lebs_take hx
              have hlx := leb_length x hx64
              have hgx := grp_le x hx64
              have hlx10 : (leb x).length ≤ 10 := by omega
              clear hlx hgx
              have hFs2 := F.size
              go_wp2_with fail
              refine (refShort_any x hx64 wr).mono ?_
              rintro e w4 ⟨Am, cm, rfl, om, g4⟩
              have hv4 := hv.below g4
              have ox4 := ox.below (Nat.le_refl _) g4
              have F4 := F.trans (g4.mono (by omega))
              have hs4 := g4.size
              clear hv ox F g4 e0
              go_wp2_with (at_builtin; go_must (refine appendG T23 rfl rfl rfl ox4 rfl om.rd (by omega) (by omega) ?_); intro Ax' cx' w8 ox8 o8 ho8)
              have hvl : ∀ k, isB Av' k → k < w4.heap.size := fun k hk => (hv4.2.isB_lt hk).2
              have hv8 := hv4.off o8 (fun h => (ap _ h).1 rfl) (fun k hk h => (ap k h).2 hk)
              have ap8 := ap.grown hv4.lt hvl ho8
              have F8 := F4.trans (o8.below (B := pv) (by omega) (fun k hk => (ox4.isB_lt hk).1))
              clear hv4 ox4 ap F4 o8 ho8 hvl om
              go_roundw
              case rel => exact ⟨q + 1, m' + (leb x).length, Ax', cx', by go_num, rfl, by omega, by omega, hv8, by rw [hst, ← List.append_assoc]; exact ox8, ap8, F8⟩
              case measure => simp [intOf]; omega
            · obtain rfl : q = n3 := by omega
              have d3 : decide ((q : Int) < (q : Int)) = false := by simp
              rw [List.take_of_length_le (by omega)] at ox
              have hmN : m' = N := by rw [← HN.out]; exact ox.len.symm
              subst hmN
              generalize acc ++ lebs xs = tot at *
              have hFs2 := F.size
              have hplq := hv.lt
              go_wp2_with fail
              have hxl : ∀ k, isB Ax k → k < wr.heap.size := fun k hk => (ox.isB_lt hk).2
              have hvl : ∀ k, isB Av' k → k < wr.heap.size := fun k hk => (hv.2.isB_lt hk).2
              refine (bytes_any pv Av' _ cv' tot wr hv (by omega)).mono ?_
              rintro e wb ⟨Ab, cb, rfl, ob, fb⟩
              have kb : (convert 28 9 (.slice Ab m' cb)).run Try.prog wb = .ok (.string (strB tot)) wb := ob.str
              replace hv := hv.below fb
              replace ox := ox.below (Nat.le_refl _) fb
              have kx : (convert 28 9 (.slice Ax m' cx)).run Try.prog wb = .ok (.string (strB tot)) wb := ox.str
              replace F := F.trans (fb.mono (by omega))
              have hbs := fb.size
              clear fb
              obtain ⟨s0, hs0⟩ : ∃ s0, wr.heap.size = s0 := ⟨_, rfl⟩
              rw [hs0] at hxl hvl ob hplq hbs
              go_wp2_with fail
              go_loopw [10] (fun i wz => ∃ (q' : Nat) (L' : List UInt8), i = .int .i64 q' ∧ q' ≤ m' ∧ OwnB wz s0 5 (.slice Ab m' cb) L' ∧ Wr wz pv Av' m' cv' tot ∧ OwnB wz pv 5 (.slice Ax m' cx) tot ∧ Below pv w' wz ∧ s0 ≤ wz.heap.size) (fun i _ => m' - (intOf i).toNat)
              case atStart => exact ⟨0, tot, rfl, Nat.zero_le _, ob, hv, ox, F, hbs⟩
              case round =>
                clear ob hv ox F kb kx hbs hs0
                obtain ⟨q', L', rfl, hq', ob, hv, ox, F, hbs⟩ := hrel
                by_cases hlt3 : q' < m'
                · have d4 : decide ((q' : Int) < (m' : Int)) = true := by simp; omega
                  have b3 : (0 : Int) ≤ (q' : Int) := by omega
                  have b4 : (q' : Int) < (m' : Int) := by omega
                  obtain ⟨g, rfl, hg, hz⟩ := ob.addr (by omega)
                  have hLl := ob.len
                  have c1 := ob.cell (j := q') (by omega)
                  have z1 := hz q'
                  have ob2 := ob.setByte hlt3 (L'[q'] + 1)
                  unfold bv at c1 ob2
                  rw [← byte_inc] at ob2
                  have oS : Off (fun k => k = g) wr (wr.setCell ⟨g, q', none⟩ (.int .u8 (((L'[q'].toNat : Int) + 1) % 256))) := (Off.refl (fun k => k = g) wr).setCell (p := ⟨g, q', none⟩) (fun _ => rfl) _
                  have hv2 := hv.off oS (fun h => by have h' : pv = g := h; omega) (fun k hk h => by have h' : k = g := h; have := hvl k hk; omega)
                  have ox2 := ox.off oS (fun k hk h => by have h' : k = g := h; have := hxl k hk; omega)
                  have F2 := F.trans (oS.below (B := pv) (by have := hv.lt; omega) (fun k hk => by have h' : k = g := hk; omega))
                  have hs2 := oS.size
                  clear ob hv ox F oS hz
                  have HL2 := Lib.hid ob2
                  clear ob2
                  generalize L'[q'].toNat = C at *
                  go_wp2_with fail
                  go_roundw
                  case rel => exact ⟨q' + 1, _, by go_num, by omega, HL2.out, hv2, ox2, F2, by omega⟩
                  case measure => simp [intOf]; omega
                · have d4 : decide ((q' : Int) < (m' : Int)) = false := by simp; omega
                  have rx := ox.rd
                  have hFz := F.size
                  have hpz := hv.lt
                  clear ob
                  go_wp2_with fail
                  refine wp_region_order (fun u => Below wr.heap.size wr u) 9 [(0,0), (3,0), (4,0), (1,1), (2,1), (5,0), (6,0), (7,1), (8,0), (9,2)] (by kernel_rfl) (by kernel_rfl) ?_
                  simp only [pick, List.filterMap_cons, List.filterMap_nil, List.getElem?_cons_zero, List.getElem?_cons_succ, Option.map_some]
                  have hS : Below wr.heap.size wr wr.drew := (Below.refl _ _).drew
                  refine wpF_take (v := ?_) hS rfl ?_ (fun _ _ _ h => h) ?_
                  rotate_left
                  · intro w' hS'
                    obtain _ := hS'
                    go_simp <;> rfl
                  go_simp
                  refine wpF_take (v := ?_) hS rfl ?_ (fun _ _ _ h => h) ?_
                  rotate_left
                  · intro w' hS'
                    obtain _ := hS'
                    go_simp <;> rfl
                  go_simp
                  refine wpF_take (v := .string (strB tot)) hS rfl (fun u hS' => ?_) (fun _ _ _ h => h) ?_
                  · have := run_str T23 (rx.below hS') cx _ Try.underlying9
                    go_simp <;> rw [this]
                  go_simp
                  refine wpF_only rfl (fun K hK => ?_)
                  go_wp2_with fail
                  refine (bytes_any pv Av' m' cv' tot _ (show Wr wr.drew pv Av' m' cv' tot from hv) (by omega)).mono ?_
                  rintro e wB ⟨Ac, cc, rfl, oc, fc⟩
                  have kc : (convert 28 9 (.slice Ac m' cc)).run Try.prog wB = .ok (.string (strB tot)) wB := oc.str
                  have hB : Below wr.heap.size wr wB := hS.trans fc
                  go_wp2_with fail
                  first | refine ⟨fun _ => hB, ?_⟩ | skip
                  go_simp
                  refine wpF_only rfl (fun K hK => ?_)
                  go_wp2_with fail
                  first | refine ⟨fun _ => hB, ?_⟩ | skip
                  go_simp
                  refine wpF_take (v := .bool true) hB rfl (fun w' _ => by go_simp) (fun _ _ _ h => h) ?_
                  go_simp
                  refine wpF_take (v := ?_) hB rfl ?_ (fun _ _ _ h => h) ?_
                  rotate_left
                  · intro w' hS'
                    obtain _ := hS'
                    go_simp <;> rfl
                  go_simp
                  refine wpF_only rfl (fun K hK => ?_)
                  go_wp2_with fail
                  refine (awake3_any _).mono ?_
                  rintro e wA ⟨rfl, fA⟩
                  have hA : Below wr.heap.size wr wA := hB.trans (fA.mono hB.size)
                  clear fA
                  go_wp2_with fail
                  first | refine ⟨fun _ => hA, ?_⟩ | skip
                  go_simp
                  refine wpF_take (v := ?_) hA rfl ?_ (fun _ _ _ h => h) ?_
                  rotate_left
                  · intro w' hS'
                    obtain _ := hS'
                    go_simp <;> rfl
                  go_simp
                  refine wpF_only rfl (fun K hK => ?_)
                  go_wp2_with fail
                  refine ⟨fun h => absurd h (by omega), wpF_nil ?_⟩
                  go_wp2_with fail
                  go_ret
                  exact ⟨rfl, by rw [hpv]; exact F.trans (hA.mono (by omega))⟩
end Go.Proofs.Ytdblgjecbmebjaa
