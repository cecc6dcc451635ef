/- What policy.put is given; policy.Encode. Conditions: sizes. Printed by gen_pput2.py. Rows of a policy's parts put; policy.Encode. Conditions: sizes. Printed by gen_pput3.py. policy.Encode. Conditions: sizes. -/
import Derived.Test.YtdbjihpdfiipcaaGreatPolPut
namespace Go.Proofs.YtdbjihpdfiipcaaGreat
open Go.RowKit Go.Sort
set_option linter.unusedVariables false
set_option linter.unusedSimpArgs false
section
variable {Z : Nat → Prop} {p : Nat} {l : List UInt8} {w : World}
set_option maxRecDepth 100000 in
set_option maxHeartbeats 2000000 in
theorem oneTerm_any (t : Tm) (h : WrZ Z w p l) (hl : l.length + (tmB t).length + 20 ≤ 140737488355328) :
    Calls Tryz.prog 180 #[.pointer (some ⟨p, 0, none⟩), .agg #[.int .i64 t.1, .string (strB t.2)]] w fun e w' => e = .returned (.tuple #[]) ∧ WrZ Z w' p (l ++ tmB t) ∧ Off Z w w' := by
  have hlt : (tmB t).length = 1 + (txB t.2).length := by unfold tmB; rw [List.length_append]; rfl
  have hlx : t.2.length ≤ (txB t.2).length := by unfold txB; rw [List.length_append]; omega
  have hsB : strB t.2 = strB t.2 := rfl
  obtain ⟨wb, hwb⟩ : ∃ wb, w.alloc (.cells #[.int .i64 t.1, .string (strB t.2)] 78) = wb := ⟨_, rfl⟩
  have fa : Below w.heap.size w wb := by rw [← hwb]; exact (Below.refl _ _).alloc (Nat.le_refl _) _
  have hbs : wb.heap.size = w.heap.size + 1 := by rw [← hwb]; simp
  have kb : Blk wb w.heap.size 78 [.int .i64 t.1, .string (strB t.2)] := by rw [← hwb]; exact Blk.newAt rfl _ #[.int .i64 t.1, .string (strB t.2)]
  have hz := h.less fa
  have up := h.up
  have hno : ¬ lessZ Z w.heap.size wb.heap.size w.heap.size := fun hh => by have := hh.2; omega
  have e0 := kb.cell 0
  have e1 := kb.cell 1
  have hU := wU8_z (kB t.1) hz (by omega)
  rw [← kB_eq] at hU
  go_enter Tryz.func180, Tryz.ntmps180
  go_wp2_with fail
  refine hU.mono ?_
  rintro e w1 ⟨rfl, h1, f1⟩
  have k1 := kb.off f1 hno
  have e2 := k1.cell 1
  have hT := wText_z t.2 h1 (by rw [List.length_append, List.length_singleton]; omega)
  clear hU e0 e1
  go_wp2_with fail
  refine hT.mono ?_
  rintro e w2 ⟨rfl, h2, f2⟩
  go_wp2_with fail
  go_end0
  have f3 := (f1.tr f2).ofLess
  exact ⟨rfl, (h2.kept up (by have := f1.size; have := f2.size; have := fa.size; omega)).eq (by rw [List.append_assoc]; rfl), ((Off.of_all fa).mono fun _ _ h => h.elim).tr f3⟩
set_option maxRecDepth 100000 in
set_option maxHeartbeats 2000000 in
theorem putTerms_any (A : Option Addr) (n c : Nat) (L : List Tm) (h : WrZ Z w p l) (hR : ∀ u, Off Z w u → RdR tmC 2 u u.heap.size A n L) (hn : n ≤ 1000000) (hl : l.length + (rowB tmB L).length + 20 ≤ 140737488355328) :
    Calls Tryz.prog 179 #[.pointer (some ⟨p, 0, none⟩), .slice A n c, .func (.func 180) #[] #[]] w fun e w' => e = .returned (.tuple #[]) ∧ WrZ Z w' p (l ++ rowB tmB L) ∧ Off Z w w' := by
  have hl0 := (hR w (Off.id _ _)).1
  have hl2 : l.length + (leb n ++ (L.map tmB).flatten).length + 20 ≤ 140737488355328 := by rw [← hl0]; exact hl
  have := put_Term A n c (L.map tmB) h hn (by rw [List.length_map, hl0]) hl2 (fun w' hw j hj => by
    rw [List.length_map] at hj
    obtain ⟨b, off, h1, h2, h3⟩ := (hR w' hw).2 (by omega)
    refine ⟨b, off, _, _, h1, h3 j hj 0 _ rfl, h3 j hj 1 _ rfl, fun w'' l' hz hw2 hl' => ?_⟩
    simp only [List.getElem_map] at hl' ⊢
    exact oneTerm_any _ hz hl')
  unfold rowB
  rw [hl0]
  exact this
set_option maxRecDepth 100000 in
set_option maxHeartbeats 2000000 in
theorem oneNet_any (a : Nat) (b : Int) (ha : a < 4294967296) (h : WrZ Z w p l) (hl : l.length + (ntB (a, b)).length + 20 ≤ 140737488355328) :
    Calls Tryz.prog 150 #[.pointer (some ⟨p, 0, none⟩), .agg #[.int .u32 (a : Int), .int .i64 b]] w fun e w' => e = .returned (.tuple #[]) ∧ WrZ Z w' p (l ++ ntB (a, b)) ∧ Off Z w w' := by
  obtain ⟨wb, hwb⟩ : ∃ wb, w.alloc (.cells #[.int .u32 (a : Int), .int .i64 b] 48) = wb := ⟨_, rfl⟩
  have fa : Below w.heap.size w wb := by rw [← hwb]; exact (Below.refl _ _).alloc (Nat.le_refl _) _
  have hbs : wb.heap.size = w.heap.size + 1 := by rw [← hwb]; simp
  have kb : Blk wb w.heap.size 48 [.int .u32 (a : Int), .int .i64 b] := by rw [← hwb]; exact Blk.newAt rfl _ #[.int .u32 (a : Int), .int .i64 b]
  have hz := h.less fa
  have up := h.up
  have hno : ¬ lessZ Z w.heap.size wb.heap.size w.heap.size := fun hh => by have := hh.2; omega
  have e0 := kb.cell 0
  have e1 := kb.cell 1
  have hU := wU32_z a ha hz (by omega)
  go_enter Tryz.func150, Tryz.ntmps150
  go_wp2_with fail
  refine hU.mono ?_
  rintro e w1 ⟨rfl, h1, f1⟩
  have k1 := kb.off f1 hno
  have e2 := k1.cell 1
  have hT := wU8_z (kB b) h1 (by rw [List.length_append]; simp only [ntB, le32, List.length_append, List.length_cons, List.length_nil] at hl ⊢; omega)
  rw [← kB_eq] at hT
  clear hU e0 e1
  go_wp2_with fail
  refine hT.mono ?_
  rintro e w2 ⟨rfl, h2, f2⟩
  go_wp2_with fail
  go_end0
  have f3 := (f1.tr f2).ofLess
  exact ⟨rfl, (h2.kept up (by have := f1.size; have := f2.size; have := fa.size; omega)).eq (by rw [List.append_assoc]; rfl), ((Off.of_all fa).mono fun _ _ h => h.elim).tr f3⟩
set_option maxRecDepth 100000 in
set_option maxHeartbeats 2000000 in
theorem putNets_any (A : Option Addr) (n c : Nat) (L : List Nt) (h : WrZ Z w p l) (hR : ∀ u, Off Z w u → RdR ntC 2 u u.heap.size A n L) (hok : ∀ x ∈ L, okN x) (hn : n ≤ 1000000) (hl : l.length + (rowB ntB L).length + 20 ≤ 140737488355328) :
    Calls Tryz.prog 149 #[.pointer (some ⟨p, 0, none⟩), .slice A n c, .func (.func 150) #[] #[]] w fun e w' => e = .returned (.tuple #[]) ∧ WrZ Z w' p (l ++ rowB ntB L) ∧ Off Z w w' := by
  have hl0 := (hR w (Off.id _ _)).1
  have hl2 : l.length + (leb n ++ (L.map ntB).flatten).length + 20 ≤ 140737488355328 := by rw [← hl0]; exact hl
  have := put_Cidr A n c (L.map ntB) h hn (by rw [List.length_map, hl0]) hl2 (fun w' hw j hj => by
    rw [List.length_map] at hj
    obtain ⟨b, off, h1, h2, h3⟩ := (hR w' hw).2 (by omega)
    refine ⟨b, off, _, _, h1, h3 j hj 0 _ rfl, h3 j hj 1 _ rfl, fun w'' l' hz hw2 hl' => ?_⟩
    simp only [List.getElem_map] at hl' ⊢
    exact oneNet_any _ _ (hok _ (List.getElem_mem hj)).1 hz hl')
  unfold rowB
  rw [hl0]
  exact this
set_option maxRecDepth 100000 in
set_option maxHeartbeats 2000000 in
theorem oneInt_any (x : Int) (h : WrZ Z w p l) (hl : l.length + (inB x).length + 20 ≤ 140737488355328) :
    Calls Tryz.prog 154 #[.pointer (some ⟨p, 0, none⟩), .int .i64 x] w fun e w' => e = .returned (.tuple #[]) ∧ WrZ Z w' p (l ++ inB x) ∧ Off Z w w' := by
  have hU := wUint_z (n64 x) (n64_lt x) h (by omega)
  rw [← n64_eq] at hU
  go_enter Tryz.func154, Tryz.ntmps154
  go_wp2_with fail
  refine hU.mono ?_
  rintro e w1 ⟨rfl, h1, f1⟩
  go_wp2_with fail
  go_end0
  exact ⟨rfl, h1, f1⟩
set_option maxRecDepth 100000 in
set_option maxHeartbeats 2000000 in
theorem putInts_any (A : Option Addr) (n c : Nat) (L : List Int) (h : WrZ Z w p l) (hR : ∀ u, Off Z w u → RdR inC 1 u u.heap.size A n L) (hn : n ≤ 1000000) (hl : l.length + (rowB inB L).length + 20 ≤ 140737488355328) :
    Calls Tryz.prog 153 #[.pointer (some ⟨p, 0, none⟩), .slice A n c, .func (.func 154) #[] #[]] w fun e w' => e = .returned (.tuple #[]) ∧ WrZ Z w' p (l ++ rowB inB L) ∧ Off Z w w' := by
  have hl0 := (hR w (Off.id _ _)).1
  have hl2 : l.length + (leb n ++ (L.map inB).flatten).length + 20 ≤ 140737488355328 := by rw [← hl0]; exact hl
  have := put_int A n c (L.map inB) h hn (by rw [List.length_map, hl0]) hl2 (fun w' hw j hj => by
    rw [List.length_map] at hj
    obtain ⟨b, off, h1, h2, h3⟩ := (hR w' hw).2 (by omega)
    have := h3 j hj 0 _ rfl
    rw [Nat.mul_one, Nat.add_zero] at this
    refine ⟨b, off, _, h1, this, fun w'' l' hz hw2 hl' => ?_⟩
    simp only [List.getElem_map] at hl' ⊢
    exact oneInt_any _ hz hl')
  unfold rowB
  rw [hl0]
  exact this
set_option maxRecDepth 100000 in
set_option maxHeartbeats 2000000 in
theorem putRows_any (g n c : Nat) (vs : List Value) (R : List (List Tm)) (h : WrZ Z w p l) (hvs : vs.length = n) (hRl : R.length = n) (hc : ∀ u, Off Z w u → ∀ j (hj : j < vs.length), u.cell? ⟨g, j, none⟩ = some vs[j]) (hR : ∀ u, Off Z w u → ∀ j (hj : j < vs.length) (hj2 : j < R.length), RvT u u.heap.size vs[j] R[j]) (hn : n ≤ 1000000) (hok : ∀ L ∈ R, okTs L) (hl : l.length + (rowsB R).length + 20 ≤ 140737488355328) :
    Calls Tryz.prog 148 #[.pointer (some ⟨p, 0, none⟩), .slice (some ⟨g, 0, none⟩) n c] w fun e w' => e = .returned (.tuple #[]) ∧ WrZ Z w' p (l ++ rowsB R) ∧ Off Z w w' := by
  have HR := Lib.hid hR; have HC := Lib.hid hc; have HL0 := Lib.hid hRl; have HV0 := Lib.hid hvs; have HOK := Lib.hid hok; clear hR hRl hok hc hvs
  have hfl : ∀ k (hk : k < R.length), ((R.take k).map (rowB tmB)).flatten.length + (rowB tmB R[k]).length ≤ (rowsB R).length := fun k hk => by
    have := flat_le (bs := R.map (rowB tmB)) (k := k) (by rw [List.length_map]; exact hk)
    rw [List.getElem_map, ← List.map_take] at this
    exact this
  have hft : ∀ k (hk : k < R.length), ((R.take k).map (rowB tmB)).flatten ++ rowB tmB R[k] = ((R.take (k + 1)).map (rowB tmB)).flatten := fun k hk => by
    have := flat_take (bs := R.map (rowB tmB)) (k := k) (by rw [List.length_map]; exact hk)
    rw [List.getElem_map, ← List.map_take, ← List.map_take] at this
    exact this
  have HFL := Lib.hid hfl; have HFT := Lib.hid hft; clear hfl hft
  have HLL := Lib.hid hl; clear hl
  go_enter Tryz.func148, Tryz.ntmps148
  go_wp2_with fail
  go_loopw [8, 5] (fun v8 _ wr => ∃ k : Nat, v8 = .int .i64 k ∧ k ≤ n ∧ WrZ Z wr p (l ++ ((R.take k).map (rowB tmB)).flatten) ∧ Off Z w wr) (fun v8 _ _ => n - (intOf v8).toNat)
  case atStart => exact ⟨0, rfl, Nat.zero_le _, h.eq (by simp), Off.id _ _⟩
  case round =>
    obtain ⟨k, rfl, hk, h2, f2⟩ := hrel
    by_cases hlt : k < n
    · have d1 : decide ((k : Int) < (n : Int)) = true := by simp; omega
      have b1 : (0 : Int) ≤ (k : Int) := by omega
      have b2 : (k : Int) < (n : Int) := by omega
      have hkR : k < R.length := by rw [HL0.out]; exact hlt
      have hkV : k < vs.length := by rw [HV0.out]; exact hlt
      have hokk := HOK.out _ (List.getElem_mem hkR)
      have hfl := HFL.out k hkR
      have hll := HLL.out
      have q0 := HC.out wr f2 k hkV
      have hP : ∀ u, Off Z wr u → RvT u u.heap.size vs[k] R[k] := fun u hu => HR.out u (f2.tr hu) k hkV hkR
      obtain ⟨v, hv⟩ : ∃ v, vs[k] = v := ⟨_, rfl⟩
      rw [hv] at q0 hP
      obtain ⟨B, m, d, rfl, _, _, p6⟩ := hP wr (Off.id _ _)
      have hm : m ≤ 1000000 := by rw [← p6.1]; exact hokk.1
      have hPT := putTerms_any B m d R[k] h2 (fun u hu => by
        obtain ⟨B', m', d', e, _, _, p6'⟩ := hP u hu
        injection e with e1 e2 e3
        subst e1 e2
        exact p6') hm (by rw [List.length_append]; omega)
      clear p6 hokk hP hll hfl hv
      have HPT := Lib.hid hPT; clear hPT
      go_wp2_with fail
      refine HPT.out.mono ?_
      rintro e w3 ⟨rfl, h3, f3⟩
      go_wp2_with fail
      go_roundw
      case rel => exact ⟨k + 1, by go_num, by omega, h3.eq (by rw [List.append_assoc, HFT.out k hkR]), f2.tr f3⟩
      case measure => simp [intOf]; omega
    · have d1 : decide ((k : Int) < (n : Int)) = false := by simp; omega
      obtain rfl : k = n := by omega
      have h3 := h2.eq (l' := l ++ rowsB R) (by rw [List.take_of_length_le (by rw [HL0.out]; exact Nat.le_refl _)]; rfl)
      go_wp2_with fail
      go_end0
      exact ⟨rfl, h3, f2⟩
theorem SrP.get {w : World} {B : Nat} {a b c : Value} {s : Sr} (h : SrP w B [a, b, c] s) : RvT w B a s.names ∧ RvT w B b s.spaces ∧ RvN w B c s.nets := by
  obtain ⟨v1, v2, v3, e, h1, h2, h3⟩ := h
  injection e with e1 e; injection e with e2 e; injection e with e3 e
  subst e1 e2 e3
  exact ⟨h1, h2, h3⟩
theorem TgP.get {w : World} {B : Nat} {a b c d : Value} {t : Tg} (h : TgP w B [a, b, c, d] t) : RvI w B a t.ports ∧ RvT w B b t.methods ∧ RvT w B c t.paths ∧ RvT w B d t.hosts := by
  obtain ⟨v1, v2, v3, v4, e, h1, h2, h3, h4⟩ := h
  injection e with e1 e; injection e with e2 e; injection e with e3 e; injection e with e4 e
  subst e1 e2 e3 e4
  exact ⟨h1, h2, h3, h4⟩
theorem WnP.get {w : World} {B : Nat} {a b : Value} {x : Wn} (h : WnP w B [a, b] x) : a = .string (strB x.head) ∧ RvT w B b x.terms := by
  obtain ⟨v, e, h1⟩ := h
  injection e with e1 e; injection e with e2 e
  subst e1 e2
  exact ⟨rfl, h1⟩
theorem RuP.get {w : World} {B : Nat} {a b c : Value} {r : Ru} (h : RuP w B [a, b, c] r) : RvS w B a r.froms ∧ RvTg w B b r.tos ∧ RvW w B c r.whens := by
  obtain ⟨v1, v2, v3, e, h1, h2, h3⟩ := h
  injection e with e1 e; injection e with e2 e; injection e with e3 e
  subst e1 e2 e3
  exact ⟨h1, h2, h3⟩
theorem RvR.get {α : Type} {enc : α → List Value} {k : Nat} {w : World} {B : Nat} {A : Option Addr} {n c : Nat} {L : List α} (h : RvR enc k w B (.slice A n c) L) : RdR enc k w B A n L := by
  obtain ⟨A', n', c', e, _, _, h⟩ := h
  injection e with e1 e2 e3
  subst e1 e2
  exact h
theorem RvG.get {α : Type} {k : Nat} {P : World → Nat → List Value → α → Prop} {w : World} {B : Nat} {A : Option Addr} {n c : Nat} {L : List α} (h : RvG k P w B (.slice A n c) L) : RdG k P w B A n L := by
  obtain ⟨A', n', c', e, _, _, h⟩ := h
  injection e with e1 e2 e3
  subst e1 e2
  exact h
set_option maxRecDepth 100000 in
set_option maxHeartbeats 2000000 in
theorem putSource_any {A1 : Option Addr} {n1 c1 : Nat} {A2 : Option Addr} {n2 c2 : Nat} {A3 : Option Addr} {n3 c3 : Nat} (s : Sr) (h : WrZ Z w p l) (hs : ∀ u, Off Z w u → SrP u u.heap.size [.slice A1 n1 c1, .slice A2 n2 c2, .slice A3 n3 c3] s) (hok : okSr s) (hl : l.length + (srB s).length + 20 ≤ 140737488355328) :
    Calls Tryz.prog 104 #[.pointer (some ⟨p, 0, none⟩), .agg #[.slice A1 n1 c1, .slice A2 n2 c2, .slice A3 n3 c3]] w fun e w' => e = .returned (.tuple #[]) ∧ WrZ Z w' p (l ++ srB s) ∧ Off Z w w' := by
  obtain ⟨wb, hwb⟩ : ∃ wb, w.alloc (.cells #[.slice A1 n1 c1, .slice A2 n2 c2, .slice A3 n3 c3] 45) = wb := ⟨_, rfl⟩
  obtain ⟨wc, hwc⟩ : ∃ wc, wb.alloc (.cells #[.slice A1 n1 c1, .slice A2 n2 c2] 31) = wc := ⟨_, rfl⟩
  have hbs : wb.heap.size = w.heap.size + 1 := by rw [← hwb]; simp
  have hcs : wc.heap.size = w.heap.size + 1 + 1 := by rw [← hwc]; simp [hbs]
  have fa : Below w.heap.size w wc := by rw [← hwc, ← hwb]; exact ((Below.refl _ _).alloc (Nat.le_refl _) _).alloc (by simp) _
  have kb0 : Blk wb w.heap.size 45 [.slice A1 n1 c1, .slice A2 n2 c2, .slice A3 n3 c3] := by rw [← hwb]; exact Blk.newAt rfl _ #[.slice A1 n1 c1, .slice A2 n2 c2, .slice A3 n3 c3]
  have kb : Blk wc w.heap.size 45 [.slice A1 n1 c1, .slice A2 n2 c2, .slice A3 n3 c3] := by rw [← hwc]; exact kb0.alloc _
  have kc : Blk wc wb.heap.size 31 [.slice A1 n1 c1, .slice A2 n2 c2] := by rw [← hwc]; exact Blk.newAt rfl _ #[.slice A1 n1 c1, .slice A2 n2 c2]
  have hz := h.less fa
  have up := h.up
  have hno : ¬ lessZ Z w.heap.size wc.heap.size w.heap.size := fun hh => by have := hh.2; omega
  have hnc : ¬ lessZ Z w.heap.size wc.heap.size wb.heap.size := fun hh => by have := hh.2; omega
  have fz : ∀ u, Off (lessZ Z w.heap.size wc.heap.size) wc u → Off Z w u := fun u hu => ((Off.of_all fa).mono fun _ _ h => h.elim).tr hu.ofLess
  have hl2 : (srB s).length = (rowsB [s.names, s.spaces]).length + (rowB ntB s.nets).length := by unfold srB; rw [List.length_append]
  have hPR := putRows_any wb.heap.size 2 2 [.slice A1 n1 c1, .slice A2 n2 c2] [s.names, s.spaces] hz rfl rfl (fun u hu j hj => by
    rw [(kc.off hu hnc).cell]
    exact List.getElem?_eq_getElem hj) (fun u hu j hj hj2 => by
    have := (hs u (fz u hu)).get
    rcases j with _ | _ | j
    · exact this.1
    · exact this.2.1
    · exact absurd hj (by simp)) (by omega) (by
    intro L hL
    simp only [List.mem_cons, List.mem_nil_iff, or_false] at hL
    rcases hL with rfl | rfl
    · exact hok.1
    · exact hok.2.1) (by omega)
  have e0 := kb0.cell 0
  have e1 := kb0.cell 1
  have h3n := ((hs w (Off.id _ _)).get.2.2).get.1
  have hn3 : n3 ≤ 1000000 := by rw [← h3n]; exact hok.2.2.1
  have HK := Lib.hid hok.2.2.2
  clear h3n hok
  clear hbs hcs
  go_enter Tryz.func104, Tryz.ntmps104
  go_wp2_with fail
  refine hPR.mono ?_
  rintro e w1 ⟨rfl, h1, f1⟩
  have e2 := (kb.off f1 hno).cell 2
  have hPN := putNets_any A3 n3 c3 s.nets h1 (fun u hu => ((hs u (fz u (f1.tr hu))).get.2.2).get) HK.out hn3 (by rw [List.length_append]; omega)
  clear hPR e0 e1
  go_wp2_with fail
  refine hPN.mono ?_
  rintro e w2 ⟨rfl, h2, f2⟩
  go_wp2_with fail
  go_end0
  exact ⟨rfl, (h2.kept up (by have := f1.size; have := f2.size; have := fa.size; omega)).eq (by rw [List.append_assoc]; rfl), fz _ (f1.tr f2)⟩
set_option maxRecDepth 100000 in
set_option maxHeartbeats 2000000 in
theorem putTarget_any {A1 : Option Addr} {n1 c1 : Nat} {A2 : Option Addr} {n2 c2 : Nat} {A3 : Option Addr} {n3 c3 : Nat} {A4 : Option Addr} {n4 c4 : Nat} (s : Tg) (h : WrZ Z w p l) (hs : ∀ u, Off Z w u → TgP u u.heap.size [.slice A1 n1 c1, .slice A2 n2 c2, .slice A3 n3 c3, .slice A4 n4 c4] s) (hok : okTg s) (hl : l.length + (tgB s).length + 20 ≤ 140737488355328) :
    Calls Tryz.prog 106 #[.pointer (some ⟨p, 0, none⟩), .agg #[.slice A1 n1 c1, .slice A2 n2 c2, .slice A3 n3 c3, .slice A4 n4 c4]] w fun e w' => e = .returned (.tuple #[]) ∧ WrZ Z w' p (l ++ tgB s) ∧ Off Z w w' := by
  obtain ⟨wb, hwb⟩ : ∃ wb, w.alloc (.cells #[.slice A1 n1 c1, .slice A2 n2 c2, .slice A3 n3 c3, .slice A4 n4 c4] 33) = wb := ⟨_, rfl⟩
  have fa : Below w.heap.size w wb := by rw [← hwb]; exact (Below.refl _ _).alloc (Nat.le_refl _) _
  have hbs : wb.heap.size = w.heap.size + 1 := by rw [← hwb]; simp
  have kb : Blk wb w.heap.size 33 [.slice A1 n1 c1, .slice A2 n2 c2, .slice A3 n3 c3, .slice A4 n4 c4] := by rw [← hwb]; exact Blk.newAt rfl _ #[.slice A1 n1 c1, .slice A2 n2 c2, .slice A3 n3 c3, .slice A4 n4 c4]
  have hz := h.less fa
  have up := h.up
  have hno : ¬ lessZ Z w.heap.size wb.heap.size w.heap.size := fun hh => by have := hh.2; omega
  have fz : ∀ u, Off (lessZ Z w.heap.size wb.heap.size) wb u → Off Z w u := fun u hu => ((Off.of_all fa).mono fun _ _ h => h.elim).tr hu.ofLess
  have hl2 : (tgB s).length = (rowB inB s.ports).length + (rowsB [s.methods, s.paths, s.hosts]).length := by unfold tgB; rw [List.length_append]
  have h1n := ((hs w (Off.id _ _)).get.1).get.1
  have hn1 : n1 ≤ 1000000 := by rw [← h1n]; exact hok.1.1
  have hPI := putInts_any A1 n1 c1 s.ports hz (fun u hu => ((hs u (fz u hu)).get.1).get) hn1 (by omega)
  have e0 := kb.cell 0
  clear h1n
  clear hbs
  go_enter Tryz.func106, Tryz.ntmps106
  go_wp2_with fail
  refine hPI.mono ?_
  rintro e w1 ⟨rfl, h1, f1⟩
  have k1 := kb.off f1 hno
  have e1 := k1.cell 1
  have e2 := k1.cell 2
  have e3 := k1.cell 3
  clear hPI e0
  obtain ⟨wc, hwc⟩ : ∃ wc, w1.alloc (.cells #[.slice A2 n2 c2, .slice A3 n3 c3, .slice A4 n4 c4] 31) = wc := ⟨_, rfl⟩
  have hcs : wc.heap.size = w1.heap.size + 1 := by rw [← hwc]; simp
  have fc : Below w1.heap.size w1 wc := by rw [← hwc]; exact (Below.refl _ _).alloc (Nat.le_refl _) _
  have kc : Blk wc w1.heap.size 31 [.slice A2 n2 c2, .slice A3 n3 c3, .slice A4 n4 c4] := by rw [← hwc]; exact Blk.newAt rfl _ #[.slice A2 n2 c2, .slice A3 n3 c3, .slice A4 n4 c4]
  have hz2 := h1.less fc
  have hnc : ¬ lessZ (lessZ Z w.heap.size wb.heap.size) w1.heap.size wc.heap.size w1.heap.size := fun hh => by have := hh.2; omega
  have fy : ∀ u, Off (lessZ (lessZ Z w.heap.size wb.heap.size) w1.heap.size wc.heap.size) wc u → Off (lessZ Z w.heap.size wb.heap.size) wb u := fun u hu => f1.tr (((Off.of_all fc).mono fun _ _ h => h.elim).tr hu.ofLess)
  have hPR := putRows_any w1.heap.size 3 3 [.slice A2 n2 c2, .slice A3 n3 c3, .slice A4 n4 c4] [s.methods, s.paths, s.hosts] hz2 rfl rfl (fun u hu j hj => by
    rw [(kc.off hu hnc).cell]
    exact List.getElem?_eq_getElem hj) (fun u hu j hj hj2 => by
    have := (hs u (fz u (fy u hu))).get
    rcases j with _ | _ | _ | j
    · exact this.2.1
    · exact this.2.2.1
    · exact this.2.2.2
    · exact absurd hj (by simp)) (by omega) (by
    intro L hL
    simp only [List.mem_cons, List.mem_nil_iff, or_false] at hL
    rcases hL with rfl | rfl | rfl
    · exact hok.2.1
    · exact hok.2.2.1
    · exact hok.2.2.2) (by rw [List.length_append]; omega)
  clear hcs
  go_wp2_with fail
  refine hPR.mono ?_
  rintro e w2 ⟨rfl, h2, f2⟩
  go_wp2_with fail
  go_end0
  have h3 := h2.kept h1.up (by have := f2.size; have := fc.size; omega)
  exact ⟨rfl, (h3.kept up (by have := f1.size; have := f2.size; have := fa.size; have := fc.size; omega)).eq (by rw [List.append_assoc]; rfl), fz _ (fy _ f2)⟩
set_option maxRecDepth 100000 in
set_option maxHeartbeats 2000000 in
theorem putWhen_any {A1 : Option Addr} {n1 c1 : Nat} (s : Wn) (h : WrZ Z w p l) (hs : ∀ u, Off Z w u → WnP u u.heap.size [.string (strB s.head), .slice A1 n1 c1] s) (hok : okWn s) (hl : l.length + (wnB s).length + 20 ≤ 140737488355328) :
    Calls Tryz.prog 108 #[.pointer (some ⟨p, 0, none⟩), .agg #[.string (strB s.head), .slice A1 n1 c1]] w fun e w' => e = .returned (.tuple #[]) ∧ WrZ Z w' p (l ++ wnB s) ∧ Off Z w w' := by
  obtain ⟨wb, hwb⟩ : ∃ wb, w.alloc (.cells #[.string (strB s.head), .slice A1 n1 c1] 50) = wb := ⟨_, rfl⟩
  have fa : Below w.heap.size w wb := by rw [← hwb]; exact (Below.refl _ _).alloc (Nat.le_refl _) _
  have hbs : wb.heap.size = w.heap.size + 1 := by rw [← hwb]; simp
  have kb : Blk wb w.heap.size 50 [.string (strB s.head), .slice A1 n1 c1] := by rw [← hwb]; exact Blk.newAt rfl _ #[.string (strB s.head), .slice A1 n1 c1]
  have hz := h.less fa
  have up := h.up
  have hno : ¬ lessZ Z w.heap.size wb.heap.size w.heap.size := fun hh => by have := hh.2; omega
  have fz : ∀ u, Off (lessZ Z w.heap.size wb.heap.size) wb u → Off Z w u := fun u hu => ((Off.of_all fa).mono fun _ _ h => h.elim).tr hu.ofLess
  have hl2 : (wnB s).length = (txB s.head).length + (rowsB [s.terms]).length := by unfold wnB; rw [List.length_append]
  have hlx : s.head.length ≤ (txB s.head).length := by unfold txB; rw [List.length_append]; omega
  have hPI := wText_z s.head hz (by omega)
  have e0 := kb.cell 0
  clear hbs
  go_enter Tryz.func108, Tryz.ntmps108
  go_wp2_with fail
  refine hPI.mono ?_
  rintro e w1 ⟨rfl, h1, f1⟩
  have k1 := kb.off f1 hno
  have e1 := k1.cell 1
  clear hPI e0
  obtain ⟨wc, hwc⟩ : ∃ wc, w1.alloc (.cells #[.slice A1 n1 c1] 31) = wc := ⟨_, rfl⟩
  have hcs : wc.heap.size = w1.heap.size + 1 := by rw [← hwc]; simp
  have fc : Below w1.heap.size w1 wc := by rw [← hwc]; exact (Below.refl _ _).alloc (Nat.le_refl _) _
  have kc : Blk wc w1.heap.size 31 [.slice A1 n1 c1] := by rw [← hwc]; exact Blk.newAt rfl _ #[.slice A1 n1 c1]
  have hz2 := h1.less fc
  have hnc : ¬ lessZ (lessZ Z w.heap.size wb.heap.size) w1.heap.size wc.heap.size w1.heap.size := fun hh => by have := hh.2; omega
  have fy : ∀ u, Off (lessZ (lessZ Z w.heap.size wb.heap.size) w1.heap.size wc.heap.size) wc u → Off (lessZ Z w.heap.size wb.heap.size) wb u := fun u hu => f1.tr (((Off.of_all fc).mono fun _ _ h => h.elim).tr hu.ofLess)
  have hPR := putRows_any w1.heap.size 1 1 [.slice A1 n1 c1] [s.terms] hz2 rfl rfl (fun u hu j hj => by
    rw [(kc.off hu hnc).cell]
    exact List.getElem?_eq_getElem hj) (fun u hu j hj hj2 => by
    have := (hs u (fz u (fy u hu))).get
    rcases j with _ | j
    · exact this.2
    · exact absurd hj (by simp)) (by omega) (by
    intro L hL
    simp only [List.mem_cons, List.mem_nil_iff, or_false] at hL
    rcases hL with rfl
    exact hok.2) (by rw [List.length_append]; omega)
  clear hcs
  go_wp2_with fail
  refine hPR.mono ?_
  rintro e w2 ⟨rfl, h2, f2⟩
  go_wp2_with fail
  go_end0
  have h3 := h2.kept h1.up (by have := f2.size; have := fc.size; omega)
  exact ⟨rfl, (h3.kept up (by have := f1.size; have := f2.size; have := fa.size; have := fc.size; omega)).eq (by rw [List.append_assoc]; rfl), fz _ (fy _ f2)⟩
end
end Go.Proofs.YtdbjihpdfiipcaaGreat
namespace Go.Proofs.YtdbjihpdfiipcaaGreat
open Go.RowKit Go.Sort
set_option linter.unusedVariables false
set_option linter.unusedSimpArgs false
theorem ruB_eq (r : Ru) : ruB r = rowB srB r.froms ++ (rowB tgB r.tos ++ rowB wnB r.whens) := rfl
section
variable {Z : Nat → Prop} {p : Nat} {l : List UInt8} {w : World} {B : Nat}
set_option maxRecDepth 100000 in
set_option maxHeartbeats 2000000 in
theorem putSources_any (hZ : ∀ k, Z k → B ≤ k) (hB : B ≤ w.heap.size) (A : Option Addr) (n c : Nat) (L : List Sr) (h : WrZ Z w p l) (hR : RdG 3 SrP w B A n L) (hok : ∀ s ∈ L, okSr s) (hn : n ≤ 1000000) (hl : l.length + (rowB srB L).length + 20 ≤ 140737488355328) :
    Calls Tryz.prog 103 #[.pointer (some ⟨p, 0, none⟩), .slice A n c, .func (.func 104) #[] #[]] w fun e w' => e = .returned (.tuple #[]) ∧ WrZ Z w' p (l ++ rowB srB L) ∧ Off Z w w' := by
  have hl0 := hR.1
  have hl2 : l.length + (leb n ++ (L.map srB).flatten).length + 20 ≤ 140737488355328 := by rw [← hl0]; exact hl
  have := put_Source A n c (L.map srB) h hn (by rw [List.length_map, hl0]) hl2 (fun w' hw j hj => by
    rw [List.length_map] at hj
    obtain ⟨b, off, cs, h1, h2, _, hP, h3⟩ := hR.at_ (j := j) (by omega)
    have hbw := hw.below hB hZ
    obtain ⟨A1, m1, d1, A2, m2, d2, A3, m3, d3, rfl, _⟩ := vals_sr hP
    refine ⟨b, off, _, _, _, _, _, _, _, _, _, h1, (hbw.cell (p := ⟨b, off + j * 3, none⟩) h2).trans (h3 0 _ rfl), (hbw.cell (p := ⟨b, off + j * 3 + 1, none⟩) h2).trans (h3 1 _ rfl), (hbw.cell (p := ⟨b, off + j * 3 + 2, none⟩) h2).trans (h3 2 _ rfl), fun w'' l' hz hw2 hl' => ?_⟩
    simp only [List.getElem_map] at hl' ⊢
    exact putSource_any _ hz (fun u hu => SrP.mono hP (by have := hw2.size; have := hu.size; omega) ((hw2.tr hu).below hB hZ)) (hok _ (List.getElem_mem hj)) hl')
  unfold rowB
  rw [hl0]
  exact this
set_option maxRecDepth 100000 in
set_option maxHeartbeats 2000000 in
theorem putTargets_any (hZ : ∀ k, Z k → B ≤ k) (hB : B ≤ w.heap.size) (A : Option Addr) (n c : Nat) (L : List Tg) (h : WrZ Z w p l) (hR : RdG 4 TgP w B A n L) (hok : ∀ s ∈ L, okTg s) (hn : n ≤ 1000000) (hl : l.length + (rowB tgB L).length + 20 ≤ 140737488355328) :
    Calls Tryz.prog 105 #[.pointer (some ⟨p, 0, none⟩), .slice A n c, .func (.func 106) #[] #[]] w fun e w' => e = .returned (.tuple #[]) ∧ WrZ Z w' p (l ++ rowB tgB L) ∧ Off Z w w' := by
  have hl0 := hR.1
  have hl2 : l.length + (leb n ++ (L.map tgB).flatten).length + 20 ≤ 140737488355328 := by rw [← hl0]; exact hl
  have := put_Target A n c (L.map tgB) h hn (by rw [List.length_map, hl0]) hl2 (fun w' hw j hj => by
    rw [List.length_map] at hj
    obtain ⟨b, off, cs, h1, h2, _, hP, h3⟩ := hR.at_ (j := j) (by omega)
    have hbw := hw.below hB hZ
    obtain ⟨A1, m1, d1, A2, m2, d2, A3, m3, d3, A4, m4, d4, rfl, _⟩ := vals_tg hP
    refine ⟨b, off, _, _, _, _, _, _, _, _, _, _, _, _, h1, (hbw.cell (p := ⟨b, off + j * 4, none⟩) h2).trans (h3 0 _ rfl), (hbw.cell (p := ⟨b, off + j * 4 + 1, none⟩) h2).trans (h3 1 _ rfl), (hbw.cell (p := ⟨b, off + j * 4 + 2, none⟩) h2).trans (h3 2 _ rfl), (hbw.cell (p := ⟨b, off + j * 4 + 3, none⟩) h2).trans (h3 3 _ rfl), fun w'' l' hz hw2 hl' => ?_⟩
    simp only [List.getElem_map] at hl' ⊢
    exact putTarget_any _ hz (fun u hu => TgP.mono hP (by have := hw2.size; have := hu.size; omega) ((hw2.tr hu).below hB hZ)) (hok _ (List.getElem_mem hj)) hl')
  unfold rowB
  rw [hl0]
  exact this
set_option maxRecDepth 100000 in
set_option maxHeartbeats 2000000 in
theorem putWhens_any (hZ : ∀ k, Z k → B ≤ k) (hB : B ≤ w.heap.size) (A : Option Addr) (n c : Nat) (L : List Wn) (h : WrZ Z w p l) (hR : RdG 2 WnP w B A n L) (hok : ∀ s ∈ L, okWn s) (hn : n ≤ 1000000) (hl : l.length + (rowB wnB L).length + 20 ≤ 140737488355328) :
    Calls Tryz.prog 107 #[.pointer (some ⟨p, 0, none⟩), .slice A n c, .func (.func 108) #[] #[]] w fun e w' => e = .returned (.tuple #[]) ∧ WrZ Z w' p (l ++ rowB wnB L) ∧ Off Z w w' := by
  have hl0 := hR.1
  have hl2 : l.length + (leb n ++ (L.map wnB).flatten).length + 20 ≤ 140737488355328 := by rw [← hl0]; exact hl
  have := put_When A n c (L.map wnB) h hn (by rw [List.length_map, hl0]) hl2 (fun w' hw j hj => by
    rw [List.length_map] at hj
    obtain ⟨b, off, cs, h1, h2, _, hP, h3⟩ := hR.at_ (j := j) (by omega)
    have hbw := hw.below hB hZ
    obtain ⟨A1, m1, d1, rfl, _⟩ := vals_wn hP
    refine ⟨b, off, _, _, _, _, h1, (hbw.cell (p := ⟨b, off + j * 2, none⟩) h2).trans (h3 0 _ rfl), (hbw.cell (p := ⟨b, off + j * 2 + 1, none⟩) h2).trans (h3 1 _ rfl), fun w'' l' hz hw2 hl' => ?_⟩
    simp only [List.getElem_map] at hl' ⊢
    exact putWhen_any _ hz (fun u hu => WnP.mono hP (by have := hw2.size; have := hu.size; omega) ((hw2.tr hu).below hB hZ)) (hok _ (List.getElem_mem hj)) hl')
  unfold rowB
  rw [hl0]
  exact this
set_option maxRecDepth 100000 in
set_option maxHeartbeats 2000000 in
theorem putRule_any (hZ : ∀ k, Z k → B ≤ k) (hB : B ≤ w.heap.size) {A1 : Option Addr} {n1 c1 : Nat} {A2 : Option Addr} {n2 c2 : Nat} {A3 : Option Addr} {n3 c3 : Nat} (r : Ru) (h : WrZ Z w p l) (hr : RuP w B [.slice A1 n1 c1, .slice A2 n2 c2, .slice A3 n3 c3] r) (hok : okRu r) (hl : l.length + (ruB r).length + 20 ≤ 140737488355328) :
    Calls Tryz.prog 55 #[.pointer (some ⟨p, 0, none⟩), .agg #[.slice A1 n1 c1, .slice A2 n2 c2, .slice A3 n3 c3]] w fun e w' => e = .returned (.tuple #[]) ∧ WrZ Z w' p (l ++ ruB r) ∧ Off Z w w' := by
  obtain ⟨wb, hwb⟩ : ∃ wb, w.alloc (.cells #[.slice A1 n1 c1, .slice A2 n2 c2, .slice A3 n3 c3] 26) = wb := ⟨_, rfl⟩
  have fa : Below w.heap.size w wb := by rw [← hwb]; exact (Below.refl _ _).alloc (Nat.le_refl _) _
  have hbs : wb.heap.size = w.heap.size + 1 := by rw [← hwb]; simp
  have kb : Blk wb w.heap.size 26 [.slice A1 n1 c1, .slice A2 n2 c2, .slice A3 n3 c3] := by rw [← hwb]; exact Blk.newAt rfl _ #[.slice A1 n1 c1, .slice A2 n2 c2, .slice A3 n3 c3]
  have hz := h.less fa
  have up := h.up
  have hno : ¬ lessZ Z w.heap.size wb.heap.size w.heap.size := fun hh => by have := hh.2; omega
  have fz : ∀ u, Off (lessZ Z w.heap.size wb.heap.size) wb u → Off Z w u := fun u hu => ((Off.of_all fa).mono fun _ _ h => h.elim).tr hu.ofLess
  have hZ2 : ∀ k, lessZ Z w.heap.size wb.heap.size k → B ≤ k := fun k hk => hZ k hk.1
  have hl2 : (ruB r).length = (rowB srB r.froms).length + ((rowB tgB r.tos).length + (rowB wnB r.whens).length) := by unfold ruB; rw [List.length_append, List.length_append]
  have fb : ∀ u, Off (lessZ Z w.heap.size wb.heap.size) wb u → Below B w u := fun u hu => (fz u hu).below hB hZ
  obtain ⟨g1, g2, g3⟩ := hr.get
  have r1 := g1.get
  have r2 := g2.get
  have r3 := g3.get
  have hn1 : n1 ≤ 1000000 := by rw [← r1.1]; exact hok.1.1
  have hn2 : n2 ≤ 1000000 := by rw [← r2.1]; exact hok.2.1.1
  have hn3 : n3 ≤ 1000000 := by rw [← r3.1]; exact hok.2.2.1
  have hP1 := putSources_any hZ2 (by omega) A1 n1 c1 r.froms hz (r1.mono (Nat.le_refl _) (fb _ (Off.id _ _)) fun _ _ h => SrP.mono h (Nat.le_refl _) (fb _ (Off.id _ _))) hok.1.2 hn1 (by omega)
  have e0 := kb.cell 0
  have HK2 := Lib.hid hok.2.1.2; have HK3 := Lib.hid hok.2.2.2
  have R2 := Lib.hid r2; have R3 := Lib.hid r3
  clear hbs hok g1 g2 g3 r1 r2 r3 hr
  go_enter Tryz.func55, Tryz.ntmps55
  go_wp2_with fail
  refine hP1.mono ?_
  rintro e w1 ⟨rfl, h1, f1⟩
  have e1 := (kb.off f1 hno).cell 1
  have hP2 := putTargets_any hZ2 (by have := f1.size; have := fa.size; omega) A2 n2 c2 r.tos h1 (R2.out.mono (Nat.le_refl _) (fb _ f1) fun _ _ h => TgP.mono h (Nat.le_refl _) (fb _ f1)) HK2.out hn2 (by rw [List.length_append]; omega)
  clear hP1 e0
  go_wp2_with fail
  refine hP2.mono ?_
  rintro e w2 ⟨rfl, h2, f2⟩
  have e2 := (kb.off (f1.tr f2) hno).cell 2
  have hP3 := putWhens_any hZ2 (by have := f1.size; have := f2.size; have := fa.size; omega) A3 n3 c3 r.whens h2 (R3.out.mono (Nat.le_refl _) (fb _ (f1.tr f2)) fun _ _ h => WnP.mono h (Nat.le_refl _) (fb _ (f1.tr f2))) HK3.out hn3 (by rw [List.length_append, List.length_append]; omega)
  clear hP2 e1
  go_wp2_with fail
  refine hP3.mono ?_
  rintro e w3 ⟨rfl, h3, f3⟩
  go_wp2_with fail
  go_end0
  exact ⟨rfl, (h3.kept up (by have := f1.size; have := f2.size; have := f3.size; have := fa.size; omega)).eq (by rw [ruB_eq]; simp only [List.append_assoc]), fz _ ((f1.tr f2).tr f3)⟩
set_option maxRecDepth 100000 in
set_option maxHeartbeats 2000000 in
theorem putRules_any (hZ : ∀ k, Z k → B ≤ k) (hB : B ≤ w.heap.size) (A : Option Addr) (n c : Nat) (L : List Ru) (h : WrZ Z w p l) (hR : RdG 3 RuP w B A n L) (hok : ∀ s ∈ L, okRu s) (hn : n ≤ 1000000) (hl : l.length + (rowB ruB L).length + 20 ≤ 140737488355328) :
    Calls Tryz.prog 54 #[.pointer (some ⟨p, 0, none⟩), .slice A n c, .func (.func 55) #[] #[]] w fun e w' => e = .returned (.tuple #[]) ∧ WrZ Z w' p (l ++ rowB ruB L) ∧ Off Z w w' := by
  have hl0 := hR.1
  have hl2 : l.length + (leb n ++ (L.map ruB).flatten).length + 20 ≤ 140737488355328 := by rw [← hl0]; exact hl
  have := put_Rule A n c (L.map ruB) h hn (by rw [List.length_map, hl0]) hl2 (fun w' hw j hj => by
    rw [List.length_map] at hj
    obtain ⟨b, off, cs, h1, h2, _, hP, h3⟩ := hR.at_ (j := j) (by omega)
    have hbw := hw.below hB hZ
    obtain ⟨A1, m1, d1, A2, m2, d2, A3, m3, d3, rfl, _⟩ := vals_ru hP
    refine ⟨b, off, _, _, _, _, _, _, _, _, _, h1, (hbw.cell (p := ⟨b, off + j * 3, none⟩) h2).trans (h3 0 _ rfl), (hbw.cell (p := ⟨b, off + j * 3 + 1, none⟩) h2).trans (h3 1 _ rfl), (hbw.cell (p := ⟨b, off + j * 3 + 2, none⟩) h2).trans (h3 2 _ rfl), fun w'' l' hz hw2 hl' => ?_⟩
    simp only [List.getElem_map] at hl' ⊢
    exact putRule_any hZ (by have := hw2.size; omega) _ hz (RuP.mono hP (Nat.le_refl _) (hw2.below hB hZ)) (hok _ (List.getElem_mem hj)) hl')
  unfold rowB
  rw [hl0]
  exact this
end
end Go.Proofs.YtdbjihpdfiipcaaGreat
namespace Go.Proofs.YtdbjihpdfiipcaaGreat
open Go.RowKit Go.Sort
set_option linter.unusedVariables false
set_option linter.unusedSimpArgs false
theorem rdU_pair (u : World) (t : Nat) (x y : Nat) : RdU (u.alloc (.cells #[.int .u64 (x : Int), .int .u64 (y : Int)] t)) (u.alloc (.cells #[.int .u64 (x : Int), .int .u64 (y : Int)] t)).heap.size (some ⟨u.heap.size, 0, none⟩) 2 [x, y] := by
  refine ⟨rfl, fun _ => ⟨u.heap.size, 0, rfl, by simp, fun j hj => ?_⟩⟩
  rw [(Blk.newAt (w := u) rfl t #[.int .u64 (x : Int), .int .u64 (y : Int)]).cell]
  rcases j with _ | _ | j
  · rfl
  · rfl
  · exact absurd hj (by simp)
theorem poB_le {p : Po} (h : poMay p = true) (hok : okPo p) : (poB p).length ≤ 2000000 := by
  have hn : p.ns.length ≤ 1000000 := hok.2.1
  have hr : p.rules.length ≤ 6 ∧ p.rules.all ruMay = true := by
    unfold poMay at h
    simp only [Bool.and_eq_true, decide_eq_true_eq] at h
    exact h.2.2.2.2.2
  have h1 := leb_le10 (x := p.id) hok.1
  have h2 := leb_le10 (x := p.service) hok.2.2.1
  have h3 := leb_le10 (n64_lt p.deny)
  have h4 := leb_le10 (x := p.ns.length) (by omega)
  have h5 : (rowB ruB p.rules).length ≤ 10 + 6 * 10000 := row_bound hr.1 (by omega) fun x hx => ruB_le (List.all_eq_true.1 hr.2 x hx)
  unfold poB txB lebs
  simp only [List.length_append, List.flatMap_cons, List.flatMap_nil, List.length_nil]
  omega
set_option maxRecDepth 100000 in
set_option maxHeartbeats 2000000 in
theorem encode_no (p : Po) (cs : List Value) (w : World) (h : PoP w w.heap.size cs p) (hok : okPo p) (hm : poMay p = false) :
    Calls Tryz.prog 23 #[.agg cs.toArray] w fun e w' => e = .returned (.tuple #[.slice none 0 0, .int .i64 1]) ∧ Below w.heap.size w w' := by
  obtain ⟨v, rfl, A, n, c, rfl, hnc, hcm, h1⟩ := h
  obtain ⟨wb, hwb⟩ : ∃ wb, w.alloc (.cells #[.int .u64 (p.id : Int), .string (strB p.ns), .int .u64 (p.service : Int), .int .i64 p.deny, .slice A n c] 38) = wb := ⟨_, rfl⟩
  have fa : Below w.heap.size w wb := by rw [← hwb]; exact (Below.refl _ _).alloc (Nat.le_refl _) _
  have hM := may12_any p [.int .u64 (p.id : Int), .string (strB p.ns), .int .u64 (p.service : Int), .int .i64 p.deny, .slice A n c] wb ⟨_, rfl, A, n, c, rfl, hnc, hcm, h1.mono fa.size fa fun _ _ h => RuP.mono h fa.size fa⟩ hok
  have kb : Blk wb w.heap.size 38 [.int .u64 (p.id : Int), .string (strB p.ns), .int .u64 (p.service : Int), .int .i64 p.deny, .slice A n c] := by rw [← hwb]; exact Blk.newAt rfl _ #[.int .u64 (p.id : Int), .string (strB p.ns), .int .u64 (p.service : Int), .int .i64 p.deny, .slice A n c]
  have e0 := kb.cell 0
  have e1 := kb.cell 1
  have e2 := kb.cell 2
  have e3 := kb.cell 3
  have e4 := kb.cell 4
  rw [hm] at hM
  show Calls Tryz.prog 23 #[.agg #[.int .u64 (p.id : Int), .string (strB p.ns), .int .u64 (p.service : Int), .int .i64 p.deny, .slice A n c]] w _
  generalize strB p.ns = sn at *
  clear h1 hok hm
  go_enter Tryz.func23, Tryz.ntmps23
  go_wp2_with fail
  refine hM.mono ?_
  rintro e w2 ⟨rfl, f2⟩
  go_wp2_with fail
  go_ret2
  exact ⟨rfl, fa.trans (f2.mono fa.size)⟩
set_option maxRecDepth 100000 in
set_option maxHeartbeats 2000000 in
theorem encode_yes (p : Po) (cs : List Value) (w : World) (h : PoP w w.heap.size cs p) (hok : okPo p) (hm : poMay p = true) :
    Calls Tryz.prog 23 #[.agg cs.toArray] w fun e w' => ∃ A c, e = .returned (.tuple #[.slice A (poB p).length c, .int .i64 0]) ∧ OwnB w' w.heap.size 5 (.slice A (poB p).length c) (poB p) ∧ Below w.heap.size w w' := by
  obtain ⟨v, rfl, A, n, c, rfl, hnc, hcm, h1⟩ := h
  have hple := poB_le hm hok
  have hns : p.ns.length ≤ 1000000 := hok.2.1
  have hpl : (poB p).length = (leb p.id).length + ((txB p.ns).length + ((lebs [p.service, n64 p.deny]).length + (rowB ruB p.rules).length)) := by unfold poB; simp only [List.length_append]
  have hpe : poB p = leb p.id ++ (txB p.ns ++ (lebs [p.service, n64 p.deny] ++ rowB ruB p.rules)) := rfl
  have hid : p.id < 18446744073709551616 := hok.1
  have hsv : p.service < 18446744073709551616 := hok.2.2.1
  have hn : n ≤ 1000000 := by rw [← h1.1]; exact hok.2.2.2.2.1
  obtain ⟨wb, hwb⟩ : ∃ wb, w.alloc (.cells #[.int .u64 (p.id : Int), .string (strB p.ns), .int .u64 (p.service : Int), .int .i64 p.deny, .slice A n c] 38) = wb := ⟨_, rfl⟩
  have fa : Below w.heap.size w wb := by rw [← hwb]; exact (Below.refl _ _).alloc (Nat.le_refl _) _
  have hM := may12_any p [.int .u64 (p.id : Int), .string (strB p.ns), .int .u64 (p.service : Int), .int .i64 p.deny, .slice A n c] wb ⟨_, rfl, A, n, c, rfl, hnc, hcm, h1.mono fa.size fa fun _ _ h => RuP.mono h fa.size fa⟩ hok
  have kb : Blk wb w.heap.size 38 [.int .u64 (p.id : Int), .string (strB p.ns), .int .u64 (p.service : Int), .int .i64 p.deny, .slice A n c] := by rw [← hwb]; exact Blk.newAt rfl _ #[.int .u64 (p.id : Int), .string (strB p.ns), .int .u64 (p.service : Int), .int .i64 p.deny, .slice A n c]
  have hbl : w.heap.size < wb.heap.size := kb.lt
  have e0 := kb.cell 0
  have e1 := kb.cell 1
  have e2 := kb.cell 2
  have e3 := kb.cell 3
  have e4 := kb.cell 4
  rw [hm] at hM
  have hU := fun (Z : Nat → Prop) (u : World) (q : Nat) (l : List UInt8) (hz : WrZ Z u q l) hl => wUint_z (w := u) p.id hid hz hl
  have hT := fun (Z : Nat → Prop) (u : World) (q : Nat) (l : List UInt8) (hz : WrZ Z u q l) hl => wText_z (w := u) p.ns hz hl
  have hD := n64_eq p.deny
  have HD := Lib.hid hD
  have HR := Lib.hid h1; have HOK := Lib.hid hok.2.2.2.2.2
  have HPE := Lib.hid hpe; have HPL := Lib.hid hpl; have HPLE := Lib.hid hple; have HNS := Lib.hid hns
  have HU := Lib.hid hU; have HT := Lib.hid hT
  show Calls Tryz.prog 23 #[.agg #[.int .u64 (p.id : Int), .string (strB p.ns), .int .u64 (p.service : Int), .int .i64 p.deny, .slice A n c]] w _
  generalize hsn : strB p.ns = sn at *
  clear h1 hok hm hpe hpl hple hU hT hns hD hsn
  go_enter Tryz.func23, Tryz.ntmps23
  go_wp2_with fail
  refine hM.mono ?_
  rintro e w2 ⟨rfl, f2⟩
  have e0 := (f2.cell (World.block_lt_of_cell? wb _ e0)).trans e0
  have kb2 := kb.below f2 hbl
  have hb2 := kb2.lt
  go_wp2_with fail
  refine (newWriter_z w2).mono ?_
  rintro e w3 ⟨rfl, z3, f3⟩
  have kb3 := kb2.below f3 hb2
  have ht : (txB p.ns).length = (leb p.ns.length).length + p.ns.length := by unfold txB; rw [List.length_append]
  have HTX := Lib.hid ht; clear ht
  have hU := HU.out _ w3 _ _ z3 (by simp)
  clear e0 e1 e2 e3 e4
  have e0 := kb3.cell 0
  go_wp2_with fail
  refine hU.mono ?_
  rintro e w4 ⟨rfl, z4, f4⟩
  have g4 := f4.below (B := w2.heap.size) f3.size fun _ h => h
  have kb4 := kb3.below g4 hb2
  have hT := HT.out _ w4 _ _ z4 (by have := HPL.out; have := HPLE.out; have := HTX.out; rw [List.nil_append]; omega)
  clear e0 hU
  have e1 := kb4.cell 1
  go_wp2_with fail
  refine hT.mono ?_
  rintro e w5 ⟨rfl, z5, f5⟩
  have g5 := f5.below (B := w2.heap.size) (by have := f3.size; have := f4.size; omega) fun _ h => h
  have kb5 := kb4.below g5 hb2
  clear e1 hT
  have e2 := kb5.cell 2
  have e3 := kb5.cell 3
  obtain ⟨wc, hwc⟩ : ∃ wc, w5.alloc (.cells #[.int .u64 (p.service : Int), .int .u64 ((n64 p.deny : Nat) : Int)] 35) = wc := ⟨_, rfl⟩
  have fc : Below w5.heap.size w5 wc := by rw [← hwc]; exact (Below.refl _ _).alloc (Nat.le_refl _) _
  have hs5 : w2.heap.size ≤ w5.heap.size := by have := f3.size; have := f4.size; have := g5.size; omega
  have hcs : wc.heap.size = w5.heap.size + 1 := by rw [← hwc]; simp
  have zc := z5.less fc
  have hRU : RdU wc wc.heap.size (some ⟨w5.heap.size, 0, none⟩) 2 [p.service, n64 p.deny] := by rw [← hwc]; exact rdU_pair w5 _ _ _
  have hP := wPut_z (w := wc) (some ⟨w5.heap.size, 0, none⟩) 2 2 [p.service, n64 p.deny] zc hRU (by
    rintro k ⟨x, hx, rfl⟩ hz
    injection hx with hx
    subst hx
    have := hz.2
    simp only at this
    omega) (by
    intro x hx
    simp only [List.mem_cons, List.mem_nil_iff, or_false] at hx
    rcases hx with rfl | rfl
    · exact hsv
    · exact n64_lt _) (by have := HPL.out; have := HPLE.out; simp only [List.length_append, List.length_nil]; omega)
  have hD : IntKind.u64.wrap p.deny = ((n64 p.deny : Nat) : Int) := by rw [← HD.out]; rfl
  clear hcs hRU
  go_wp2_with fail
  refine hP.mono ?_
  rintro e w6 ⟨rfl, z6, f6⟩
  have z6' := z6.kept z5.up (by have := f6.size; have := fc.size; omega)
  have f56 : Off (fun k => w2.heap.size ≤ k) w5 w6 := ((Off.of_all fc).mono fun _ _ h => h.elim).tr f6.ofLess
  have g6 := f56.below (B := w2.heap.size) hs5 fun _ h => h
  have kb6 := kb5.below g6 hb2
  have gall := ((f3.trans g4).trans g5).trans g6
  have gb : Below w.heap.size w w6 := (fa.trans (f2.mono fa.size)).trans (gall.mono (by omega))
  have hR6 := HR.out.mono (Nat.le_refl _) gb fun _ _ h => RuP.mono h (Nat.le_refl _) gb
  clear e2 e3 hP
  have e4 := kb6.cell 4
  have hPR := putRules_any (w := w6) (B := w.heap.size) (fun k (hk : w2.heap.size ≤ k) => by omega) gb.size A n c p.rules z6' hR6 HOK.out hn (by have := HPL.out; have := HPLE.out; simp only [List.length_append, List.length_nil]; omega)
  go_wp2_with fail
  refine hPR.mono ?_
  rintro e w7 ⟨rfl, z7, f7⟩
  have z8 := z7.eq (l' := poB p) (by rw [HPE.out]; simp only [List.append_assoc, List.nil_append])
  have hB := bytes_z z8 (by have := HPLE.out; omega)
  have g7 := f7.below (B := w.heap.size) gb.size fun k (hk : w2.heap.size ≤ k) => by omega
  have gz := gb.trans g7
  clear e4 hPR
  go_wp2_with fail
  refine hB.mono ?_
  rintro e w9 ⟨A', c', rfl, ow, f9⟩
  go_wp2_with fail
  go_ret2
  exact ⟨A', c', rfl, ow.base_le gz.size, gz.trans (f9.mono gz.size)⟩
end Go.Proofs.YtdbjihpdfiipcaaGreat
