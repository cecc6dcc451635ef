/- The document's reader as a thing of the world; gatepostref12.count, take. Condition: the bytes are at most 2^40. Printed by gen_rtake.py. gatepostref12.Take: a policy read by the document, in memory of its own. Condition: sizes. Printed by gen_rtake2.py. gatepostref12.Read: the policy that bytes are, in memory of its own. Condition: sizes. Printed by gen_rread.py. -/
import Derived.Test.YtdbjihpdfiipcaaGreatRm
import Derived.Test.YtdbjihpdfiipcaaGreatPolDecs
import Derived.Test.YtdbjihpdfiipcaaGreatRefPoA
namespace Go.Proofs.YtdbjihpdfiipcaaGreat
open Go.RowKit Go.Sort
set_option linter.unusedVariables false
set_option linter.unusedSimpArgs false
def RmE (w : World) (p : Nat) (s : RS) : Prop := s.l.length ≤ 1099511627776 ∧ ∃ A c, Rm w p A s.l.length c s
theorem RmE.plt {w : World} {p : Nat} {s : RS} (h : RmE w p s) : p < w.heap.size := by
  obtain ⟨_, A, c, h1⟩ := h
  exact h1.1.lt
theorem RmE.same {w w' : World} {p : Nat} {s : RS} (h : RmE w p s) (hb : Below w.heap.size w w') : RmE w' p s := by
  obtain ⟨h0, A, c, h1⟩ := h
  exact ⟨h0, A, c, h1.below hb⟩
theorem OwnB.heapAt {w : World} {base e n c : Nat} {A : Option Addr} {l : List UInt8} (h : OwnB w base e (.slice A n c) l) {k : Nat} (hk : isB A k) : ∃ cur mk, w.heap[k]? = some (.cells cur e mk) := by
  rcases h.2 with ⟨h1, _⟩ | ⟨g, cap, cur, h1, h2, h3, h4⟩
  · injection h1 with h1 _ _
    subst h1
    obtain ⟨x, hx, _⟩ := hk
    cases hx
  · injection h1 with h1 _ _
    subst h1
    obtain ⟨x, hx, rfl⟩ := hk
    injection hx with hx
    subst hx
    exact ⟨_, _, h3⟩
/-- It stays where blocks of other types are written. -/
theorem RmE.off {X : Nat → Prop} {w w' : World} {p : Nat} {s : RS} (h : RmE w p s) (hb : Off X w w') (hp : ¬ X p) (hX : ∀ k, X k → k < w.heap.size → ∃ cur t mk, w.heap[k]? = some (.cells cur t mk) ∧ t ≠ 5) : RmE w' p s := by
  obtain ⟨h0, A, c, h1⟩ := h
  refine ⟨h0, A, c, h1.off hb hp fun k hk hx => ?_⟩
  obtain ⟨cur, mk, h2⟩ := h1.2.heapAt hk
  obtain ⟨cur', t, mk', h3, h4⟩ := hX k hx (h1.2.isB_lt hk).2
  rw [h2] at h3
  injection h3 with h3
  injection h3 with _ h3 _
  exact h4 h3.symm
theorem OwnG.heapAt {α : Type} {P : World → Nat → List Value → α → Prop} {k : Nat} {w : World} {base e : Nat} {v : Value} {L : List α} (h : OwnG k P w base e v L) {q : Nat} (hq : v.ownBlock = some q) : ∃ cur mk, w.heap[q]? = some (.cells cur e mk) := by
  obtain ⟨css, _, ⟨_, h2⟩, _⟩ := h
  rcases h2 with ⟨h1, _⟩ | ⟨g, cap, cur, h1, _, h3, _⟩
  · rw [h1] at hq
    cases hq
  · rw [h1] at hq
    simp only [Value.ownBlock] at hq
    injection hq with hq
    subst hq
    exact ⟨_, _, h3⟩
theorem RmE.offG {α : Type} {P : World → Nat → List Value → α → Prop} {k : Nat} {w w' : World} {base e p : Nat} {v : Value} {L : List α} {s : RS} (h : RmE w p s) (og : OwnG k P w base e v L) (ho : Off (fun q => v.ownBlock = some q) w w') (he : e ≠ 5) (hp : p < base) : RmE w' p s :=
  h.off ho (fun hq => by have := og.lt p hq; omega) fun q hq _ => by
    obtain ⟨cur, mk, h1⟩ := og.heapAt hq
    exact ⟨cur, _, mk, h1, he⟩
theorem RmE.offB {w w' : World} {p g t : Nat} {cs : List Value} {s : RS} (h : RmE w p s) (kb : Blk w g t cs) (ho : Off (fun q => q = g) w w') (he : t ≠ 5) (hp : p ≠ g) : RmE w' p s :=
  h.off ho hp fun q hq _ => by
    subst hq
    exact ⟨_, _, _, kb, he⟩
theorem RmP.e {w w' : World} {p : Nat} {A : Option Addr} {s : RS} (h : RmP w p A s w') (hl : s.l.length ≤ 1099511627776) : RmE w' p s ∧ Off (fun k => k = p) w w' := by
  obtain ⟨A', c', h1, h2⟩ := h
  exact ⟨⟨hl, A', c', h1⟩, h2⟩
theorem mUint_any (p : Nat) (s : RS) (w : World) (h : RmE w p s) :
    Calls Tryz.prog 122 #[.pointer (some ⟨p, 0, none⟩)] w fun e w' => e = .returned (.int .u64 ((takeS findShort 0 s).1 : Nat)) ∧ RmE w' p (takeS findShort 0 s).2 ∧ Off (fun k => k = p) w w' := by
  obtain ⟨h0, A, c, h1⟩ := h
  refine (refUint_any p A _ c s w h1 (by omega)).mono ?_
  rintro e w' ⟨rfl, h2⟩
  exact ⟨rfl, h2.e (by have := takeS_len findShort 0 s; omega)⟩
theorem mText_any (p : Nat) (s : RS) (m : Nat) (hm : m ≤ 1000000) (w : World) (h : RmE w p s) :
    Calls Tryz.prog 123 #[.pointer (some ⟨p, 0, none⟩), .int .i64 (m : Int)] w fun e w' => e = .returned (.string (strB (takeS (findText (m : Int)) [] s).1)) ∧ RmE w' p (takeS (findText (m : Int)) [] s).2 ∧ Off (fun k => k = p) w w' := by
  obtain ⟨h0, A, c, h1⟩ := h
  refine (refRText_any p A _ c s (m : Int) w h1 (by omega) (by omega) (by omega)).mono ?_
  rintro e w' ⟨rfl, h2⟩
  exact ⟨rfl, h2.e (by have := takeS_len (findText (m : Int)) [] s; omega)⟩
theorem mU8_any (p : Nat) (s : RS) (w : World) (h : RmE w p s) :
    Calls Tryz.prog 126 #[.pointer (some ⟨p, 0, none⟩), .int .i64 1] w fun e w' => e = .returned (.int .u64 ((takeS findU8 0 s).1 : Nat)) ∧ RmE w' p (takeS findU8 0 s).2 ∧ Off (fun k => k = p) w w' := by
  obtain ⟨h0, A, c, h1⟩ := h
  refine (refWide_any p A _ c s 1 (by omega) w h1 (by omega)).mono ?_
  rw [u8_wide]
  rintro e w' ⟨rfl, h2⟩
  exact ⟨rfl, h2.e (by have := takeS_len (findRaw (1 : Nat)) [] s; omega)⟩
theorem mU32_any (p : Nat) (s : RS) (w : World) (h : RmE w p s) :
    Calls Tryz.prog 126 #[.pointer (some ⟨p, 0, none⟩), .int .i64 4] w fun e w' => e = .returned (.int .u64 ((takeS findU32 0 s).1 : Nat)) ∧ RmE w' p (takeS findU32 0 s).2 ∧ Off (fun k => k = p) w w' := by
  obtain ⟨h0, A, c, h1⟩ := h
  refine (refWide_any p A _ c s 4 (by omega) w h1 (by omega)).mono ?_
  rw [u32_wide]
  rintro e w' ⟨rfl, h2⟩
  exact ⟨rfl, h2.e (by have := takeS_len (findRaw (4 : Nat)) [] s; omega)⟩
theorem mEnd_any (p : Nat) (s : RS) (w : World) (h : RmE w p s) :
    Calls Tryz.prog 69 #[.pointer (some ⟨p, 0, none⟩)] w fun e w' => e = .returned (.bool (s.st || !s.l.isEmpty)) ∧ RmE w' p ⟨s.l, s.st || !s.l.isEmpty⟩ ∧ Off (fun k => k = p) w w' := by
  obtain ⟨h0, A, c, h1⟩ := h
  refine (refEnd_any p A _ c s w h1).mono ?_
  rintro e w' ⟨rfl, h2⟩
  exact ⟨rfl, h2.e h0⟩
set_option maxRecDepth 100000 in
set_option maxHeartbeats 4000000 in
theorem count_any (p most : Nat) (hm : most ≤ 1000000) (s : RS) (w : World) (h : RmE w p s) :
    Calls Tryz.prog 124 #[.pointer (some ⟨p, 0, none⟩), .int .u64 (most : Int)] w fun e w' => e = .returned (.int .i64 ((smallN most s).1 : Nat)) ∧ RmE w' p (smallN most s).2 ∧ Off (fun k => k = p) w w' := by
  have hs : smallN most s = if most < (takeS findShort 0 s).1 then (0, ⟨(takeS findShort 0 s).2.l, true⟩) else ((takeS findShort 0 s).1, (takeS findShort 0 s).2) := rfl
  obtain ⟨⟨za, zs⟩, hz⟩ : ∃ z, smallN most s = z := ⟨_, rfl⟩
  rw [hz] at hs ⊢
  have HS := Lib.hid hs; clear hs hz
  have hU := mUint_any p s w h
  obtain ⟨x, hx⟩ : ∃ x, (takeS findShort 0 s).1 = x := ⟨_, rfl⟩
  obtain ⟨s1, hs1⟩ : ∃ x, (takeS findShort 0 s).2 = x := ⟨_, rfl⟩
  have hx64 : x < 18446744073709551616 := by rw [← hx]; exact takeS_short s
  rw [hx, hs1] at hU HS
  clear hx hs1
  go_enter Tryz.func124, Tryz.ntmps124
  go_wp2_with fail
  refine hU.mono ?_
  rintro e w1 ⟨rfl, h1, o1⟩
  clear hU
  by_cases hg : most < x
  · have d1 : decide ((most : Int) < (x : Int)) = true := by simp; omega
    have hr := HS.out
    rw [if_pos hg] at hr
    injection hr with hr1 hr2
    subst hr1 hr2
    clear HS
    obtain ⟨h0, A, c, hm⟩ := h1
    have hst := (hm.stop).e h0
    have e1 := hm.1.cell 1
    have z1 := hm.1.frozen 1
    go_wp2_with fail
    go_ret
    exact ⟨rfl, hst.1, o1.trans hst.2 fun _ _ h => h⟩
  · have d1 : decide ((most : Int) < (x : Int)) = false := by simp; omega
    have hr := HS.out
    rw [if_neg hg] at hr
    injection hr with hr1 hr2
    subst hr1 hr2
    clear HS
    have hi := IntWalk.i64_in (za : Int) (by omega)
    go_wp2_with fail
    go_ret
    exact ⟨rfl, h1, o1⟩
set_option maxRecDepth 100000 in
set_option maxHeartbeats 4000000 in
theorem rtake_any (p : Nat) (s : RS) (w : World) (h : RmE w p s) :
    Calls Tryz.prog 125 #[.pointer (some ⟨p, 0, none⟩)] w fun e w' => ∃ A c, e = .returned (.slice A (termsS s).1.length c) ∧ OwnG 2 (FlP tmC) w' w.heap.size 78 (.slice A (termsS s).1.length c) (termsS s).1 ∧ RmE w' p (termsS s).2 ∧ Off (fun k => k = p) w w' := by
  have hp := h.plt
  have hS := count_any p 6 (by omega) s w h
  have hle := smallN_le 6 s
  have hr : termsS s = itS termS (smallN 6 s).2 (smallN 6 s).1 := rfl
  rw [hr]
  clear hr
  obtain ⟨n, hn⟩ : ∃ x, (smallN 6 s).1 = x := ⟨_, rfl⟩
  obtain ⟨s1, hs1⟩ : ∃ x, (smallN 6 s).2 = x := ⟨_, rfl⟩
  rw [hn] at hS hle ⊢
  rw [hs1] at hS ⊢
  clear hn hs1
  rw [itS_length]
  go_enter Tryz.func125, Tryz.ntmps125
  go_wp2_with fail
  refine hS.mono ?_
  rintro e w1 ⟨rfl, h1, o1⟩
  clear hS
  go_wp2_with fail
  go_loopw [3, 5] (fun v3 v5 wr => ∃ (k : Nat) (A : Option Addr) (c : Nat), v5 = .int .i64 k ∧ v3 = .slice A k c ∧ k ≤ n ∧ OwnG 2 (FlP tmC) wr w.heap.size 78 (.slice A k c) (itS termS s1 k).1 ∧ RmE wr p (itS termS s1 k).2 ∧ Off (fun k => k = p) w wr) (fun _ v5 _ => n - (intOf v5).toNat)
  case atStart => exact ⟨0, none, 0, rfl, rfl, Nat.zero_le _, OwnG.nil, h1, o1⟩
  case round =>
    obtain ⟨k, A, c, rfl, rfl, hk, og, hr, o2⟩ := hrel
    by_cases hlt : k < n
    · have d1 : decide ((k : Int) < (n : Int)) = true := by simp; omega
      have hit : itS termS s1 (k + 1) = ((itS termS s1 k).1 ++ [(termS (itS termS s1 k).2).1], (termS (itS termS s1 k).2).2) := rfl
      have OG := Lib.hid og; have O2 := Lib.hid o2
      generalize (itS termS s1 k).1 = T1 at *
      generalize (itS termS s1 k).2 = s2 at *
      have HIT := Lib.hid hit
      have hA := mU8_any p s2 wr hr
      have h8 := takeS_u8 s2
      clear og o2 hit
      go_wp2_with fail
      refine hA.mono ?_
      rintro e w2 ⟨rfl, h2, q2⟩
      have hT := mText_any p _ 64 (by omega) w2 h2
      have hx : termS s2 = ((((takeS findU8 0 s2).1 : Int), (takeS (findText 64) [] (takeS findU8 0 s2).2).1), (takeS (findText 64) [] (takeS findU8 0 s2).2).2) := rfl
      have hT' := hT
      rw [show ((64 : Nat) : Int) = 64 from rfl] at hT'
      have HX := Lib.hid hx
      generalize (takeS findU8 0 s2).1 = x1 at *
      generalize (takeS findU8 0 s2).2 = s3 at *
      generalize (takeS (findText 64) [] s3).1 = x2 at *
      generalize (takeS (findText 64) [] s3).2 = s4 at *
      clear hT hx hA
      have hi := IntWalk.i64_in (x1 : Int) (by omega)
      go_wp2_with fail
      refine hT'.mono ?_
      rintro e w3 ⟨rfl, h3, q3⟩
      have o3 : Off (fun k => k = p) wr w3 := q2.trans q3 fun _ _ h => h
      have og3 := OG.out.off (FlP.mn _) o3 (fun q hq => .inl (by omega))
      have ow3 := O2.out.size
      have o3s := o3.size
      have fal : Below w3.heap.size w3 (w3.alloc (.cells #[.int .i64 (x1 : Int), .string (strB x2)] 78)) := (Below.refl _ _).alloc (Nat.le_refl _) _
      have hPy : FlP tmC (mineW w.heap.size (Value.slice A k c).ownBlock (w3.alloc (.cells #[.int .i64 (x1 : Int), .string (strB x2)] 78))) (w3.heap.size + 1) [.int .i64 (x1 : Int), .string (strB x2)] ((x1 : Int), x2) := rfl
      have hcells := new_cells w3 [.int .i64 (x1 : Int), .string (strB x2)] 78
      have HCE := Lib.hid hcells; clear hcells
      go_wp2_with (at_builtin; go_must (refine appendOwn1 TTm (FlP.mn _) rfl rfl rfl (og3.below (FlP.mn _) fal) rfl rfl (by intro v hv; simp only [List.mem_cons, List.mem_nil_iff, or_false] at hv; rcases hv with rfl | rfl <;> rfl) HCE.out (by rw [show (w3.alloc (.cells #[.int .i64 (x1 : Int), .string (strB x2)] 78)).heap.size = w3.heap.size + 1 by simp]; exact hPy) (by omega) (by simp only [maxLen]; omega) (by simp; omega) ?_); intro A' c' w4 og4 g4)
      have oA : Off (fun q => (Value.slice A k c).ownBlock = some q) w3 w4 := ((Off.refl _ _).alloc _).grown g4 fun q hq _ => hq
      have hr4 := h3.offG og3 oA (by decide) hp
      have o4 : Off (fun q => q = p) w w4 := (O2.out.trans o3 fun _ _ h => h).trans oA fun q hq1 hq => by have := og3.lt _ hq; omega
      go_roundw
      case rel => exact ⟨k + 1, A', c', by go_num, rfl, by omega, by rw [HIT.out, HX.out]; exact og4, by rw [HIT.out, HX.out]; exact hr4, o4⟩
      case measure => simp [intOf]; omega
    · have d1 : decide ((k : Int) < (n : Int)) = false := by simp; omega
      obtain rfl : n = k := by omega
      go_wp2_with fail
      go_ret
      exact ⟨_, _, rfl, og, hr, o2⟩
end Go.Proofs.YtdbjihpdfiipcaaGreat
namespace Go.Proofs.YtdbjihpdfiipcaaGreat
open Go.RowKit Go.Sort
set_option linter.unusedVariables false
set_option linter.unusedSimpArgs false
theorem OwnG.inlo {α : Type} {enc : α → List Value} {k : Nat} {w : World} {base lo e : Nat} {v : Value} {L : List α} (h : OwnG k (FlP enc) w base e v L) (hb : lo ≤ base) : RvR enc k (mineW lo none w) w.heap.size v L := h.flat.fin (Off.refl _ _) hb
theorem OwnG.inloG {α : Type} {k : Nat} {P : World → Nat → List Value → α → Prop} (hP : Mn P) {w : World} {base lo e : Nat} {v : Value} {L : List α} (h : OwnG k P w base e v L) (hb : lo ≤ base) : RvG k P (mineW lo none w) w.heap.size v L := (h.rvm hP).fin hP (Off.refl _ _) hb
theorem u32_in (x : Nat) (h : x < 4294967296) : IntKind.u32.wrap (x : Int) = (x : Int) := by rw [IntKind.wrap_u32']; omega
theorem itS_succ {α : Type} (one : RS → α × RS) (s : RS) (k : Nat) : itS one s (k + 1) = ((itS one s k).1 ++ [(one (itS one s k).2).1], (one (itS one s k).2).2) := rfl
set_option maxRecDepth 100000 in
set_option maxHeartbeats 16000000 in
theorem rTake_any (p : Nat) (l : List UInt8) (w : World) (h : RmE w p ⟨l, false⟩) :
    Calls Tryz.prog 68 #[.pointer (some ⟨p, 0, none⟩)] w fun e w' => ∃ cs : List Value, e = .returned (.agg cs.toArray) ∧ PoP (mineW w.heap.size none w') w'.heap.size cs (readPo l) ∧ RmE w' p (pA4 l).2 ∧ Off (fun k => k = p) w w' := by
  have hp := h.plt
  have hi : (Tryz.prog.info? 38).map (·.size) = some 5 := by kernel_rfl
  have HI := Lib.hid hi; clear hi
  go_enter Tryz.func68, Tryz.ntmps68
  go_upto_region 2 with fail
  refine abs (fun x => Blk x w.heap.size 38 [.int .u64 0, .string ⟨#[]⟩, .int .u64 0, .int .i64 0, .slice none 0 0] ∧ Blk x (w.heap.size + 1) 38 [.int .u64 0, .string ⟨#[]⟩, .int .u64 0, .int .i64 0, .slice none 0 0] ∧ Below w.heap.size w x) ⟨(Blk.newAt rfl _ #[.int .u64 0, .string ⟨#[]⟩, .int .u64 0, .int .i64 0, .slice none 0 0]).alloc _, Blk.newAt (by simp) _ #[.int .u64 0, .string ⟨#[]⟩, .int .u64 0, .int .i64 0, .slice none 0 0], ((Below.refl _ _).alloc (Nat.le_refl _) _).alloc (by simp) _⟩ ?_
  rintro u0 ⟨bz, bp, f0⟩
  generalize hgp : w.heap.size + 1 = gp at *
  have zgp : w.heap.size < gp := by omega
  have zp : p < gp := by omega
  clear hgp
  have hr := h.same f0
  have ho : Off (fun k => k = p) w u0 := (Off.of_all f0).mono fun _ _ h => h.elim
  clear f0 h
  obtain ⟨gz, hgz⟩ : ∃ x, w.heap.size = x := ⟨_, rfl⟩
  rw [hgz] at bz zgp
  have zpz : p < gz := by omega
  have zwz : w.heap.size ≤ gz := by omega
  have zwp : w.heap.size ≤ gp := by omega
  go_wp2_with fail
  refine (mUint_any p ⟨l, false⟩ u0 hr).mono ?_
  rintro e u1 ⟨rfl, hr1, o1⟩
  replace bz := bz.off o1 (by omega)
  replace bp := bp.off o1 (by omega)
  replace ho := ho.trans o1 (fun q _ (hq : q = p) => hq)
  replace hr := (show RmE u1 p (pA0 l).2 from hr1)
  clear hr1 o1
  have cc := bp.cell 0
  have cf := bp.frozen 0
  go_upto_region 3 with fail
  refine abs (fun x => Blk x gp 38 [.int .u64 ((pA0 l).1 : Int), .string ⟨#[]⟩, .int .u64 0, .int .i64 0, .slice none 0 0] ∧ Off (fun k => k = gp) u1 x) ⟨bp.set 0 _, (Off.refl (fun k => k = gp) _).setCell (p := ⟨gp, 0, none⟩) (fun _ => rfl) _⟩ ?_
  rintro x1 ⟨b2, o1⟩
  clear cc cf
  replace bz := bz.off o1 (by omega)
  replace ho := ho.trans o1 (fun q h1 (hq : q = gp) => by omega)
  replace hr := hr.offB bp o1 (by decide) (by omega)
  clear bp o1
  have bp := b2
  clear b2
  have hT := mText_any p (pA0 l).2 20 (by omega) x1 hr
  rw [show ((20 : Nat) : Int) = 20 from rfl] at hT
  go_wp2_with fail
  refine (hT).mono ?_
  rintro e u2 ⟨rfl, hr1, o1⟩
  replace bz := bz.off o1 (by omega)
  replace bp := bp.off o1 (by omega)
  replace ho := ho.trans o1 (fun q _ (hq : q = p) => hq)
  replace hr := (show RmE u2 p (pA1 l).2 from hr1)
  clear hr1 o1
  clear hT
  have cc := bp.cell 1
  have cf := bp.frozen 1
  go_upto_region 4 with fail
  refine abs (fun x => Blk x gp 38 [.int .u64 ((pA0 l).1 : Int), .string (strB (pA1 l).1), .int .u64 0, .int .i64 0, .slice none 0 0] ∧ Off (fun k => k = gp) u2 x) ⟨bp.set 1 _, (Off.refl (fun k => k = gp) _).setCell (p := ⟨gp, 1, none⟩) (fun _ => rfl) _⟩ ?_
  rintro x2 ⟨b2, o1⟩
  clear cc cf
  replace bz := bz.off o1 (by omega)
  replace ho := ho.trans o1 (fun q h1 (hq : q = gp) => by omega)
  replace hr := hr.offB bp o1 (by decide) (by omega)
  clear bp o1
  have bp := b2
  clear b2
  go_wp2_with fail
  refine (mUint_any p (pA1 l).2 x2 hr).mono ?_
  rintro e u3 ⟨rfl, hr1, o1⟩
  replace bz := bz.off o1 (by omega)
  replace bp := bp.off o1 (by omega)
  replace ho := ho.trans o1 (fun q _ (hq : q = p) => hq)
  replace hr := (show RmE u3 p (pA2 l).2 from hr1)
  clear hr1 o1
  have cc := bp.cell 2
  have cf := bp.frozen 2
  go_upto_region 5 with fail
  refine abs (fun x => Blk x gp 38 [.int .u64 ((pA0 l).1 : Int), .string (strB (pA1 l).1), .int .u64 ((pA2 l).1 : Int), .int .i64 0, .slice none 0 0] ∧ Off (fun k => k = gp) u3 x) ⟨bp.set 2 _, (Off.refl (fun k => k = gp) _).setCell (p := ⟨gp, 2, none⟩) (fun _ => rfl) _⟩ ?_
  rintro x3 ⟨b2, o1⟩
  clear cc cf
  replace bz := bz.off o1 (by omega)
  replace ho := ho.trans o1 (fun q h1 (hq : q = gp) => by omega)
  replace hr := hr.offB bp o1 (by decide) (by omega)
  clear bp o1
  have bp := b2
  clear b2
  go_wp2_with fail
  refine (count_any p 1 (by omega) (pA2 l).2 x3 hr).mono ?_
  rintro e u4 ⟨rfl, hr1, o1⟩
  replace bz := bz.off o1 (by omega)
  replace bp := bp.off o1 (by omega)
  replace ho := ho.trans o1 (fun q _ (hq : q = p) => hq)
  replace hr := (show RmE u4 p (pA3 l).2 from hr1)
  clear hr1 o1
  have cc := bp.cell 3
  have cf := bp.frozen 3
  go_upto_region 6 with fail
  refine abs (fun x => Blk x gp 38 [.int .u64 ((pA0 l).1 : Int), .string (strB (pA1 l).1), .int .u64 ((pA2 l).1 : Int), .int .i64 ((pA3 l).1 : Int), .slice none 0 0] ∧ Off (fun k => k = gp) u4 x) ⟨bp.set 3 _, (Off.refl (fun k => k = gp) _).setCell (p := ⟨gp, 3, none⟩) (fun _ => rfl) _⟩ ?_
  rintro x4 ⟨b2, o1⟩
  clear cc cf
  replace bz := bz.off o1 (by omega)
  replace ho := ho.trans o1 (fun q h1 (hq : q = gp) => by omega)
  replace hr := hr.offB bp o1 (by decide) (by omega)
  clear bp o1
  have bp := b2
  clear b2
  have hlenr := smallN_le 6 (pA3 l).2
  have hC := count_any p 6 (by omega) (pA3 l).2 x4 hr
  obtain ⟨nr, hnr⟩ : ∃ x, (smallN 6 (pA3 l).2).1 = x := ⟨_, rfl⟩
  obtain ⟨snr, hsnr⟩ : ∃ x, (smallN 6 (pA3 l).2).2 = x := ⟨_, rfl⟩
  rw [hnr, hsnr] at hC
  rw [hnr] at hlenr
  have HNnr := Lib.hid hnr; have HSnr := Lib.hid hsnr
  clear hnr hsnr
  go_wp2_with fail
  refine hC.mono ?_
  rintro e u5 ⟨rfl, hr1, o1⟩
  replace bz := bz.off o1 (by omega)
  replace bp := bp.off o1 (by omega)
  replace ho := ho.trans o1 (fun q _ (hq : q = p) => hq)
  replace hr := hr1
  clear hr1 o1 hC
  have ybzu5 := bz.lt
  have ybpu5 := bp.lt
  have y0u5 := hr.plt
  have yyu5 := ho.size
  go_wp2_with fail
  go_loopw [5] (fun vi wr => ∃ (k : Nat) (A : Option Addr) (c : Nat), vi = .int .i64 k ∧ k ≤ nr ∧ Blk wr gp 38 [.int .u64 ((pA0 l).1 : Int), .string (strB (pA1 l).1), .int .u64 ((pA2 l).1 : Int), .int .i64 ((pA3 l).1 : Int), .slice A k c] ∧ OwnG 3 RuP wr u5.heap.size 26 (.slice A k c) (itS ruleS snr k).1 ∧ RmE wr p (itS ruleS snr k).2 ∧ Off (fun k => k = p ∨ k = gp) u5 wr) (fun vi _ => nr - (intOf vi).toNat)
  case atStart => exact ⟨0, none, 0, rfl, Nat.zero_le _, bp, OwnG.nil, hr, Off.refl _ _⟩
  case round =>
    have hoS := ho
    clear bp ho hr
    obtain ⟨k, Ak, ck, rfl, hkk, bp, ogR, hr, ho⟩ := hrel
    by_cases hltk : k < nr
    · have dltk : decide ((k : Int) < (nr : Int)) = true := by simp; omega
      have HITk := Lib.hid (itS_succ ruleS snr k)
      generalize (itS ruleS snr k).1 = Tk at *
      generalize (itS ruleS snr k).2 = s_k at *
      obtain ⟨gx, hgx⟩ : ∃ x, wr.heap.size = x := ⟨_, rfl⟩
      have zbpgx : gp < gx := by have := bp.lt; omega
      have z0gx : p < gx := by have := hr.plt; omega
      have zzgx : u5.heap.size ≤ gx := by have := ho.size; omega
      have zoogRgx := fun q hq => (ogR.lt q hq).2
      rw [hgx] at zoogRgx
      go_upto_region 11 with fail
      refine abs (fun x => Blk x gx 26 [.slice none 0 0, .slice none 0 0, .slice none 0 0] ∧ Below wr.heap.size wr x) ⟨Blk.newAt hgx _ #[.slice none 0 0, .slice none 0 0, .slice none 0 0], (Below.refl _ _).alloc (Nat.le_refl _) _⟩ ?_
      rintro v1 ⟨bx, f1⟩
      have o1 := Off.of_all f1
      have zfgx : wr.heap.size ≤ gx := by omega
      clear hgx
      have hfgx := Off.refl (fun k => k = p) wr
      replace bp := bp.off o1 (_root_.id)
      replace ho := ho.trans o1 (fun _ _ h => h.elim)
      replace hfgx := hfgx.trans o1 (fun _ _ h => h.elim)
      replace hr := hr.same f1
      clear o1 f1
      have hlenf := smallN_le 3 s_k
      have hC := count_any p 3 (by omega) s_k v1 hr
      obtain ⟨nf, hnf⟩ : ∃ x, (smallN 3 s_k).1 = x := ⟨_, rfl⟩
      obtain ⟨snf, hsnf⟩ : ∃ x, (smallN 3 s_k).2 = x := ⟨_, rfl⟩
      rw [hnf, hsnf] at hC
      rw [hnf] at hlenf
      have HNnf := Lib.hid hnf; have HSnf := Lib.hid hsnf
      clear hnf hsnf
      go_wp2_with fail
      refine hC.mono ?_
      rintro e w2 ⟨rfl, hr1, o1⟩
      replace bp := bp.off o1 (by omega)
      replace bx := bx.off o1 (by omega)
      replace ho := ho.trans o1 (fun q _ (hq : q = p) => .inl hq)
      replace hfgx := hfgx.trans o1 (fun q _ (hq : q = p) => hq)
      replace hr := hr1
      clear hr1 o1 hC
      have ybpw2 := bp.lt
      have ybxw2 := bx.lt
      have y0w2 := hr.plt
      have yyw2 := ho.size
      go_wp2_with fail
      go_loopw [8] (fun vi wr => ∃ (kf : Nat) (A : Option Addr) (c : Nat), vi = .int .i64 kf ∧ kf ≤ nf ∧ Blk wr gx 26 [.slice A kf c, .slice none 0 0, .slice none 0 0] ∧ OwnG 3 SrP wr w2.heap.size 45 (.slice A kf c) (itS sourceS snf kf).1 ∧ RmE wr p (itS sourceS snf kf).2 ∧ Off (fun k => k = p ∨ k = gx) w2 wr) (fun vi _ => nf - (intOf vi).toNat)
      case atStart => exact ⟨0, none, 0, rfl, Nat.zero_le _, bx, OwnG.nil, hr, Off.refl _ _⟩
      case round =>
        have hoS := ho
        clear bx ho hr
        obtain ⟨kf, Akf, ckf, rfl, hkkf, bx, ogF, hr, ho⟩ := hrel
        by_cases hltkf : kf < nf
        · have dltkf : decide ((kf : Int) < (nf : Int)) = true := by simp; omega
          have HITkf := Lib.hid (itS_succ sourceS snf kf)
          generalize (itS sourceS snf kf).1 = Tkf at *
          generalize (itS sourceS snf kf).2 = s_kf at *
          obtain ⟨gs, hgs⟩ : ∃ x, wr.heap.size = x := ⟨_, rfl⟩
          have zbxgs : gx < gs := by have := bx.lt; omega
          have z0gs : p < gs := by have := hr.plt; omega
          have zzgs : w2.heap.size ≤ gs := by have := ho.size; omega
          have zoogFgs := fun q hq => (ogF.lt q hq).2
          rw [hgs] at zoogFgs
          go_upto_region 16 with fail
          refine abs (fun x => Blk x gs 45 [.slice none 0 0, .slice none 0 0, .slice none 0 0] ∧ Below wr.heap.size wr x) ⟨Blk.newAt hgs _ #[.slice none 0 0, .slice none 0 0, .slice none 0 0], (Below.refl _ _).alloc (Nat.le_refl _) _⟩ ?_
          rintro v1 ⟨bs, f1⟩
          have o1 := Off.of_all f1
          have zfgs : wr.heap.size ≤ gs := by omega
          clear hgs
          have hfgs := Off.refl (fun k => k = p) wr
          replace bx := bx.off o1 (_root_.id)
          replace ho := ho.trans o1 (fun _ _ h => h.elim)
          replace hfgs := hfgs.trans o1 (fun _ _ h => h.elim)
          replace hr := hr.same f1
          clear o1 f1
          have ybxv1 := bx.lt
          have ybsv1 := bs.lt
          have y0v1 := hr.plt
          have yyv1 := ho.size
          go_wp2_with fail
          refine (rtake_any p s_kf v1 hr).mono ?_
          rintro e v2 ⟨A1, c1, rfl, ogNm, hr1, o1⟩
          generalize hn1 : (termsS s_kf).1.length = n1 at *
          clear hn1
          replace bx := bx.off o1 (by omega)
          replace bs := bs.off o1 (by omega)
          replace ho := ho.trans o1 (fun q _ (hq : q = p) => .inl hq)
          replace hfgs := hfgs.trans o1 (fun q _ (hq : q = p) => hq)
          replace hr := hr1
          clear hr1 o1
          have cc := bs.cell 0
          have cf := bs.frozen 0
          go_upto_region 17 with fail
          refine abs (fun x => Blk x gs 45 [.slice A1 n1 c1, .slice none 0 0, .slice none 0 0] ∧ Off (fun k => k = gs) v2 x) ⟨bs.set 0 _, (Off.refl (fun k => k = gs) _).setCell (p := ⟨gs, 0, none⟩) (fun _ => rfl) _⟩ ?_
          rintro v3 ⟨b2, o1⟩
          clear cc cf
          replace bx := bx.off o1 (by omega)
          replace ogNm := ogNm.off (FlP.mn _) o1 (fun q (hq : q = gs) => .inl (by omega))
          replace ho := ho.trans o1 (fun q h1 (hq : q = gs) => by omega)
          replace hfgs := hfgs.trans o1 (fun q h1 (hq : q = gs) => by omega)
          replace hr := hr.offB bs o1 (by decide) (by omega)
          clear bs o1
          have bs := b2
          clear b2
          have ybxv3 := bx.lt
          have ybsv3 := bs.lt
          have y0v3 := hr.plt
          have yyv3 := ho.size
          go_wp2_with fail
          refine (rtake_any p (termsS s_kf).2 v3 hr).mono ?_
          rintro e v4 ⟨A2, c2, rfl, ogSp, hr1, o1⟩
          generalize hn2 : (termsS (termsS s_kf).2).1.length = n2 at *
          clear hn2
          replace bx := bx.off o1 (by omega)
          replace bs := bs.off o1 (by omega)
          replace ogNm := ogNm.off (FlP.mn _) o1 (fun q (hq : q = p) => .inl (by omega))
          replace ho := ho.trans o1 (fun q _ (hq : q = p) => .inl hq)
          replace hfgs := hfgs.trans o1 (fun q _ (hq : q = p) => hq)
          replace hr := hr1
          clear hr1 o1
          have cc := bs.cell 1
          have cf := bs.frozen 1
          go_upto_region 18 with fail
          refine abs (fun x => Blk x gs 45 [.slice A1 n1 c1, .slice A2 n2 c2, .slice none 0 0] ∧ Off (fun k => k = gs) v4 x) ⟨bs.set 1 _, (Off.refl (fun k => k = gs) _).setCell (p := ⟨gs, 1, none⟩) (fun _ => rfl) _⟩ ?_
          rintro v5 ⟨b2, o1⟩
          clear cc cf
          replace bx := bx.off o1 (by omega)
          replace ogNm := ogNm.off (FlP.mn _) o1 (fun q (hq : q = gs) => .inl (by omega))
          replace ogSp := ogSp.off (FlP.mn _) o1 (fun q (hq : q = gs) => .inl (by omega))
          replace ho := ho.trans o1 (fun q h1 (hq : q = gs) => by omega)
          replace hfgs := hfgs.trans o1 (fun q h1 (hq : q = gs) => by omega)
          replace hr := hr.offB bs o1 (by decide) (by omega)
          clear bs o1
          have bs := b2
          clear b2
          have hlen6 := smallN_le 6 (termsS (termsS s_kf).2).2
          have hC := count_any p 6 (by omega) (termsS (termsS s_kf).2).2 v5 hr
          obtain ⟨n6, hn6⟩ : ∃ x, (smallN 6 (termsS (termsS s_kf).2).2).1 = x := ⟨_, rfl⟩
          obtain ⟨sn6, hsn6⟩ : ∃ x, (smallN 6 (termsS (termsS s_kf).2).2).2 = x := ⟨_, rfl⟩
          rw [hn6, hsn6] at hC
          rw [hn6] at hlen6
          have HNn6 := Lib.hid hn6; have HSn6 := Lib.hid hsn6
          clear hn6 hsn6
          go_wp2_with fail
          refine hC.mono ?_
          rintro e w3 ⟨rfl, hr1, o1⟩
          replace bx := bx.off o1 (by omega)
          replace bs := bs.off o1 (by omega)
          replace ogNm := ogNm.off (FlP.mn _) o1 (fun q (hq : q = p) => .inl (by omega))
          replace ogSp := ogSp.off (FlP.mn _) o1 (fun q (hq : q = p) => .inl (by omega))
          replace ho := ho.trans o1 (fun q _ (hq : q = p) => .inl hq)
          replace hfgs := hfgs.trans o1 (fun q _ (hq : q = p) => hq)
          replace hr := hr1
          clear hr1 o1 hC
          have ybxw3 := bx.lt
          have ybsw3 := bs.lt
          have y0w3 := hr.plt
          have yyw3 := ho.size
          go_wp2_with fail
          go_loopw [11] (fun vi wr => ∃ (kn : Nat) (A : Option Addr) (c : Nat), vi = .int .i64 kn ∧ kn ≤ n6 ∧ Blk wr gs 45 [.slice A1 n1 c1, .slice A2 n2 c2, .slice A kn c] ∧ OwnG 2 (FlP ntC) wr w3.heap.size 48 (.slice A kn c) (itS netS sn6 kn).1 ∧ RmE wr p (itS netS sn6 kn).2 ∧ Off (fun k => k = p ∨ k = gs) w3 wr) (fun vi _ => n6 - (intOf vi).toNat)
          case atStart => exact ⟨0, none, 0, rfl, Nat.zero_le _, bs, OwnG.nil, hr, Off.refl _ _⟩
          case round =>
            have hoS := ho
            clear bs ho hr
            obtain ⟨kn, Akn, ckn, rfl, hkkn, bs, ogN, hr, ho⟩ := hrel
            by_cases hltkn : kn < n6
            · have dltkn : decide ((kn : Int) < (n6 : Int)) = true := by simp; omega
              have HITkn := Lib.hid (itS_succ netS sn6 kn)
              generalize (itS netS sn6 kn).1 = Tkn at *
              generalize (itS netS sn6 kn).2 = s_kn at *
              obtain ⟨gc, hgc⟩ : ∃ x, wr.heap.size = x := ⟨_, rfl⟩
              have zbsgc : gs < gc := by have := bs.lt; omega
              have z0gc : p < gc := by have := hr.plt; omega
              have zzgc : w3.heap.size ≤ gc := by have := ho.size; omega
              have zoogNgc := fun q hq => (ogN.lt q hq).2
              rw [hgc] at zoogNgc
              go_upto_region 23 with fail
              refine abs (fun x => Blk x gc 48 [.int .u32 0, .int .i64 0] ∧ Below wr.heap.size wr x) ⟨Blk.newAt hgc _ #[.int .u32 0, .int .i64 0], (Below.refl _ _).alloc (Nat.le_refl _) _⟩ ?_
              rintro v1 ⟨bc, f1⟩
              have o1 := Off.of_all f1
              have zfgc : wr.heap.size ≤ gc := by omega
              clear hgc
              have hfgc := Off.refl (fun k => k = p) wr
              replace bs := bs.off o1 (_root_.id)
              replace ho := ho.trans o1 (fun _ _ h => h.elim)
              replace hfgc := hfgc.trans o1 (fun _ _ h => h.elim)
              replace hr := hr.same f1
              clear o1 f1
              go_wp2_with fail
              refine (mU32_any p s_kn v1 hr).mono ?_
              rintro e v2 ⟨rfl, hr1, o1⟩
              have h8 := takeS_u32 s_kn
              have h8w := u32_in _ h8
              replace bs := bs.off o1 (by omega)
              replace bc := bc.off o1 (by omega)
              replace ho := ho.trans o1 (fun q _ (hq : q = p) => .inl hq)
              replace hfgc := hfgc.trans o1 (fun q _ (hq : q = p) => hq)
              replace hr := hr1
              clear hr1 o1
              have cc := bc.cell 0
              have cf := bc.frozen 0
              go_upto_region 24 with fail
              refine abs (fun x => Blk x gc 48 [.int .u32 (((takeS findU32 0 s_kn).1 : Nat) : Int), .int .i64 0] ∧ Off (fun k => k = gc) v2 x) ⟨bc.set 0 _, (Off.refl (fun k => k = gc) _).setCell (p := ⟨gc, 0, none⟩) (fun _ => rfl) _⟩ ?_
              rintro v3 ⟨b2, o1⟩
              clear cc cf
              replace bs := bs.off o1 (by omega)
              replace ho := ho.trans o1 (fun q h1 (hq : q = gc) => by omega)
              replace hfgc := hfgc.trans o1 (fun q h1 (hq : q = gc) => by omega)
              replace hr := hr.offB bc o1 (by decide) (by omega)
              clear bc o1
              have bc := b2
              clear b2
              clear h8w h8
              go_wp2_with fail
              refine (mU8_any p _ v3 hr).mono ?_
              rintro e v4 ⟨rfl, hr1, o1⟩
              have h8 := takeS_u8 (takeS findU32 0 s_kn).2
              have h8w := IntWalk.i64_in (((takeS findU8 0 (takeS findU32 0 s_kn).2).1 : Nat) : Int) (by omega)
              replace bs := bs.off o1 (by omega)
              replace bc := bc.off o1 (by omega)
              replace ho := ho.trans o1 (fun q _ (hq : q = p) => .inl hq)
              replace hfgc := hfgc.trans o1 (fun q _ (hq : q = p) => hq)
              replace hr := hr1
              clear hr1 o1
              have cc := bc.cell 1
              have cf := bc.frozen 1
              go_upto_region 25 with fail
              refine abs (fun x => Blk x gc 48 [.int .u32 (((takeS findU32 0 s_kn).1 : Nat) : Int), .int .i64 (((takeS findU8 0 (takeS findU32 0 s_kn).2).1 : Nat) : Int)] ∧ Off (fun k => k = gc) v4 x) ⟨bc.set 1 _, (Off.refl (fun k => k = gc) _).setCell (p := ⟨gc, 1, none⟩) (fun _ => rfl) _⟩ ?_
              rintro v5 ⟨b2, o1⟩
              clear cc cf
              replace bs := bs.off o1 (by omega)
              replace ho := ho.trans o1 (fun q h1 (hq : q = gc) => by omega)
              replace hfgc := hfgc.trans o1 (fun q h1 (hq : q = gc) => by omega)
              replace hr := hr.offB bc o1 (by decide) (by omega)
              clear bc o1
              have bc := b2
              clear b2
              clear h8w h8
              replace ogN := ogN.off (FlP.mn _) hfgc (fun q (hq : q = p) => .inl (by omega))
              have fal : Below v5.heap.size v5 (v5.alloc (.cells #[.int .u32 (((takeS findU32 0 s_kn).1 : Nat) : Int), .int .i64 (((takeS findU8 0 (takeS findU32 0 s_kn).2).1 : Nat) : Int)] 48)) := (Below.refl _ _).alloc (Nat.le_refl _) _
              have hPy : FlP ntC (mineW w3.heap.size (Value.slice Akn kn ckn).ownBlock (v5.alloc (.cells #[.int .u32 (((takeS findU32 0 s_kn).1 : Nat) : Int), .int .i64 (((takeS findU8 0 (takeS findU32 0 s_kn).2).1 : Nat) : Int)] 48))) (v5.heap.size + 1) [.int .u32 (((takeS findU32 0 s_kn).1 : Nat) : Int), .int .i64 (((takeS findU8 0 (takeS findU32 0 s_kn).2).1 : Nat) : Int)] (netS s_kn).1 := rfl
              have HCE := Lib.hid (new_cells v5 [.int .u32 (((takeS findU32 0 s_kn).1 : Nat) : Int), .int .i64 (((takeS findU8 0 (takeS findU32 0 s_kn).2).1 : Nat) : Int)] 48)
              have cr := bs.cell 2
              have ce0 := bc.cell 0
              have ce1 := bc.cell 1
              have HPY := Lib.hid hPy
              clear hPy
              have yyA := ho.size
              go_wp2_with (at_builtin; go_must (refine appendOwn1 TNt (FlP.mn _) rfl rfl rfl (ogN.below (FlP.mn _) fal) rfl rfl (by intro v hv; simp only [List.mem_cons, List.mem_nil_iff, or_false] at hv; rcases hv with rfl | rfl <;> rfl) HCE.out (by rw [show (v5.alloc (.cells #[.int .u32 (((takeS findU32 0 s_kn).1 : Nat) : Int), .int .i64 (((takeS findU8 0 (takeS findU32 0 s_kn).2).1 : Nat) : Int)] 48)).heap.size = v5.heap.size + 1 by simp]; exact HPY.out) (by omega) (by simp only [maxLen]; omega) (by simp; omega) ?_); intro A' c' w4 og4 g4; have oA : Off (fun q => (Value.slice Akn kn ckn).ownBlock = some q) v5 w4 := ((Off.refl _ _).alloc _).grown g4 fun q hq _ => hq; have bt4 := bs.off oA (fun hq => by have := ogN.lt _ hq; omega); have cc := bt4.cell 2; have cf := bt4.frozen 2)
              have oS : Off (fun q => q = gs) w4 (w4.setCell ⟨gs, 2, none⟩ (.slice A' (kn + 1) c')) := (Off.refl (fun k => k = gs) _).setCell (p := ⟨gs, 2, none⟩) (fun _ => rfl) _
              have bt5 := bt4.set 2 (.slice A' (kn + 1) c')
              have og5 := og4.off (FlP.mn _) oS (fun q (hq : q = gs) => .inl (by omega))
              have hr5 := (hr.offG ogN oA (by decide) (by omega)).offB bt4 oS (by decide) (by omega)
              have ho5 := (ho.trans oA (fun q h1 hq => by have := ogN.lt _ hq; omega)).trans oS (fun q _ (hq : q = gs) => .inr hq)
              go_roundw
              case rel => exact ⟨kn + 1, A', c', by go_num, by omega, bt5, by rw [HITkn.out]; exact og5, by rw [HITkn.out]; exact hr5, ho5⟩
              case measure => simp [intOf]; omega
            · have dltkn : decide ((kn : Int) < (n6 : Int)) = false := by simp; omega
              obtain rfl : kn = n6 := by omega
              have hoL := ho
              clear ho
              replace bx := bx.off hoL (by omega)
              replace ogNm := ogNm.off (FlP.mn _) hoL (fun q (hq : q = p ∨ q = gs) => .inl (by omega))
              replace ogSp := ogSp.off (FlP.mn _) hoL (fun q (hq : q = p ∨ q = gs) => .inl (by omega))
              replace hfgs := hfgs.trans hoL (fun q h1 (hq : q = p ∨ q = gs) => by omega)
              have ho := hoS.trans hoL (fun q h1 (hq : q = p ∨ q = gs) => by (rcases hq with hq | hq; exact .inl hq; omega))
              clear hoS hoL
              replace HNn6 := HNn6; have hNets : (rowS 6 netS (termsS (termsS s_kf).2).2) = itS netS sn6 kn := by unfold rowS; rw [HSn6.out, HNn6.out]
              replace ogF := ogF.off SrP.mn hfgs (fun q (hq : q = p) => .inl (by omega))
              have fal : Below wr.heap.size wr (wr.alloc (.cells #[.slice A1 n1 c1, .slice A2 n2 c2, .slice Akn kn ckn] 45)) := (Below.refl _ _).alloc (Nat.le_refl _) _
              have hPx : SrP (mineW gs none wr) wr.heap.size [.slice A1 n1 c1, .slice A2 n2 c2, .slice Akn kn ckn] (sourceS s_kf).1 := ⟨_, _, _, rfl, ogNm.inlo (by omega), ogSp.inlo (by omega), by unfold sourceS; simp only; rw [hNets]; exact ogN.inlo (by omega)⟩
              have hPy := SrP.mn _ _ _ _ _ _ (Nat.le_succ _) (Sub.own1 (w := wr) (base := w2.heap.size) (lo := gs) (B := wr.heap.size) (g := (Value.slice Akf kf ckf).ownBlock) (.cells #[.slice A1 n1 c1, .slice A2 n2 c2, .slice Akn kn ckn] 45) (by omega) zoogFgs (Nat.le_refl _)) hPx
              clear hPx
              have HCE := Lib.hid (new_cells wr [.slice A1 n1 c1, .slice A2 n2 c2, .slice Akn kn ckn] 45)
              have cr := bx.cell 0
              have ce0 := bs.cell 0
              have ce1 := bs.cell 1
              have ce2 := bs.cell 2
              have HPY := Lib.hid hPy
              clear hPy
              have yyA := ho.size
              go_wp2_with (at_builtin; go_must (refine appendOwn1 TSr SrP.mn rfl rfl rfl (ogF.below SrP.mn fal) rfl rfl (by intro v hv; simp only [List.mem_cons, List.mem_nil_iff, or_false] at hv; rcases hv with rfl | rfl | rfl <;> rfl) HCE.out (by rw [show (wr.alloc (.cells #[.slice A1 n1 c1, .slice A2 n2 c2, .slice Akn kn ckn] 45)).heap.size = wr.heap.size + 1 by simp]; exact HPY.out) (by omega) (by simp only [maxLen]; omega) (by simp; omega) ?_); intro A' c' w4 og4 g4; have oA : Off (fun q => (Value.slice Akf kf ckf).ownBlock = some q) wr w4 := ((Off.refl _ _).alloc _).grown g4 fun q hq _ => hq; have bt4 := bx.off oA (fun hq => by have := ogF.lt _ hq; omega); have cc := bt4.cell 0; have cf := bt4.frozen 0)
              have oS : Off (fun q => q = gx) w4 (w4.setCell ⟨gx, 0, none⟩ (.slice A' (kf + 1) c')) := (Off.refl (fun k => k = gx) _).setCell (p := ⟨gx, 0, none⟩) (fun _ => rfl) _
              have bt5 := bt4.set 0 (.slice A' (kf + 1) c')
              have og5 := og4.off SrP.mn oS (fun q (hq : q = gx) => .inl (by omega))
              have hr5 := (hr.offG ogF oA (by decide) (by omega)).offB bt4 oS (by decide) (by omega)
              have ho5 := (ho.trans oA (fun q h1 hq => by have := ogF.lt _ hq; omega)).trans oS (fun q _ (hq : q = gx) => .inr hq)
              have hS2 : (sourceS s_kf).2 = (itS netS sn6 kn).2 := by unfold sourceS; simp only; rw [hNets]
              rw [← hS2] at hr5
              go_roundw
              case rel => exact ⟨kf + 1, A', c', by go_num, by omega, bt5, by rw [HITkf.out]; exact og5, by rw [HITkf.out]; exact hr5, ho5⟩
              case measure => simp [intOf]; omega
        · have dltkf : decide ((kf : Int) < (nf : Int)) = false := by simp; omega
          obtain rfl : kf = nf := by omega
          have hoL := ho
          clear ho
          replace bp := bp.off hoL (by omega)
          replace hfgx := hfgx.trans hoL (fun q h1 (hq : q = p ∨ q = gx) => by omega)
          have ho := hoS.trans hoL (fun q h1 (hq : q = p ∨ q = gx) => by (rcases hq with hq | hq; exact .inl hq; omega))
          clear hoS hoL
          have hFr : rowS 3 sourceS s_k = itS sourceS snf kf := by unfold rowS; rw [HSnf.out, HNnf.out]
          have hlent := smallN_le 3 (itS sourceS snf kf).2
          have hC := count_any p 3 (by omega) (itS sourceS snf kf).2 wr hr
          obtain ⟨nt, hnt⟩ : ∃ x, (smallN 3 (itS sourceS snf kf).2).1 = x := ⟨_, rfl⟩
          obtain ⟨snt, hsnt⟩ : ∃ x, (smallN 3 (itS sourceS snf kf).2).2 = x := ⟨_, rfl⟩
          rw [hnt, hsnt] at hC
          rw [hnt] at hlent
          have HNnt := Lib.hid hnt; have HSnt := Lib.hid hsnt
          clear hnt hsnt
          go_wp2_with fail
          refine hC.mono ?_
          rintro e w4 ⟨rfl, hr1, o1⟩
          replace bp := bp.off o1 (by omega)
          replace bx := bx.off o1 (by omega)
          replace ogF := ogF.off SrP.mn o1 (fun q (hq : q = p) => .inl (by omega))
          replace ho := ho.trans o1 (fun q _ (hq : q = p) => .inl hq)
          replace hfgx := hfgx.trans o1 (fun q _ (hq : q = p) => hq)
          replace hr := hr1
          clear hr1 o1 hC
          have ybpw4 := bp.lt
          have ybxw4 := bx.lt
          have y0w4 := hr.plt
          have yyw4 := ho.size
          go_wp2_with fail
          go_loopw [13] (fun vi wr => ∃ (kt : Nat) (A : Option Addr) (c : Nat), vi = .int .i64 kt ∧ kt ≤ nt ∧ Blk wr gx 26 [.slice Akf kf ckf, .slice A kt c, .slice none 0 0] ∧ OwnG 4 TgP wr w4.heap.size 33 (.slice A kt c) (itS targetS snt kt).1 ∧ RmE wr p (itS targetS snt kt).2 ∧ Off (fun k => k = p ∨ k = gx) w4 wr) (fun vi _ => nt - (intOf vi).toNat)
          case atStart => exact ⟨0, none, 0, rfl, Nat.zero_le _, bx, OwnG.nil, hr, Off.refl _ _⟩
          case round =>
            have hoS := ho
            clear bx ho hr
            obtain ⟨kt, Akt, ckt, rfl, hkkt, bx, ogT, hr, ho⟩ := hrel
            by_cases hltkt : kt < nt
            · have dltkt : decide ((kt : Int) < (nt : Int)) = true := by simp; omega
              have HITkt := Lib.hid (itS_succ targetS snt kt)
              generalize (itS targetS snt kt).1 = Tkt at *
              generalize (itS targetS snt kt).2 = s_kt at *
              obtain ⟨gt, hgt⟩ : ∃ x, wr.heap.size = x := ⟨_, rfl⟩
              have zbxgt : gx < gt := by have := bx.lt; omega
              have z0gt : p < gt := by have := hr.plt; omega
              have zzgt : w4.heap.size ≤ gt := by have := ho.size; omega
              have zoogTgt := fun q hq => (ogT.lt q hq).2
              rw [hgt] at zoogTgt
              go_upto_region 32 with fail
              refine abs (fun x => Blk x gt 33 [.slice none 0 0, .slice none 0 0, .slice none 0 0, .slice none 0 0] ∧ Below wr.heap.size wr x) ⟨Blk.newAt hgt _ #[.slice none 0 0, .slice none 0 0, .slice none 0 0, .slice none 0 0], (Below.refl _ _).alloc (Nat.le_refl _) _⟩ ?_
              rintro v1 ⟨bt, f1⟩
              have o1 := Off.of_all f1
              have zfgt : wr.heap.size ≤ gt := by omega
              clear hgt
              have hfgt := Off.refl (fun k => k = p) wr
              replace bx := bx.off o1 (_root_.id)
              replace ho := ho.trans o1 (fun _ _ h => h.elim)
              replace hfgt := hfgt.trans o1 (fun _ _ h => h.elim)
              replace hr := hr.same f1
              clear o1 f1
              have hlenp := smallN_le 6 s_kt
              have hC := count_any p 6 (by omega) s_kt v1 hr
              obtain ⟨np, hnp⟩ : ∃ x, (smallN 6 s_kt).1 = x := ⟨_, rfl⟩
              obtain ⟨snp, hsnp⟩ : ∃ x, (smallN 6 s_kt).2 = x := ⟨_, rfl⟩
              rw [hnp, hsnp] at hC
              rw [hnp] at hlenp
              have HNnp := Lib.hid hnp; have HSnp := Lib.hid hsnp
              clear hnp hsnp
              go_wp2_with fail
              refine hC.mono ?_
              rintro e w5 ⟨rfl, hr1, o1⟩
              replace bx := bx.off o1 (by omega)
              replace bt := bt.off o1 (by omega)
              replace ho := ho.trans o1 (fun q _ (hq : q = p) => .inl hq)
              replace hfgt := hfgt.trans o1 (fun q _ (hq : q = p) => hq)
              replace hr := hr1
              clear hr1 o1 hC
              have ybxw5 := bx.lt
              have ybtw5 := bt.lt
              have y0w5 := hr.plt
              have yyw5 := ho.size
              go_wp2_with fail
              go_loopw [16] (fun vi wr => ∃ (kp : Nat) (A : Option Addr) (c : Nat), vi = .int .i64 kp ∧ kp ≤ np ∧ Blk wr gt 33 [.slice A kp c, .slice none 0 0, .slice none 0 0, .slice none 0 0] ∧ OwnG 1 (FlP inC) wr w5.heap.size 3 (.slice A kp c) (itS portS snp kp).1 ∧ RmE wr p (itS portS snp kp).2 ∧ Off (fun k => k = p ∨ k = gt) w5 wr) (fun vi _ => np - (intOf vi).toNat)
              case atStart => exact ⟨0, none, 0, rfl, Nat.zero_le _, bt, OwnG.nil, hr, Off.refl _ _⟩
              case round =>
                have hoS := ho
                clear bt ho hr
                obtain ⟨kp, Akp, ckp, rfl, hkkp, bt, ogP, hr, ho⟩ := hrel
                by_cases hltkp : kp < np
                · have dltkp : decide ((kp : Int) < (np : Int)) = true := by simp; omega
                  have HITkp := Lib.hid (itS_succ portS snp kp)
                  generalize (itS portS snp kp).1 = Tkp at *
                  generalize (itS portS snp kp).2 = s_kp at *
                  have ybtwr := bt.lt
                  have y0wr := hr.plt
                  have yywr := ho.size
                  have hC := count_any p 65536 (by omega) s_kp wr.drew (show RmE wr.drew p s_kp from hr)
                  have hpo : portS s_kp = (((smallN 65536 s_kp).1 : Int), (smallN 65536 s_kp).2) := rfl
                  have HPO := Lib.hid hpo
                  clear hpo
                  generalize (smallN 65536 s_kp).1 = x1 at *
                  generalize (smallN 65536 s_kp).2 = s5 at *
                  obtain ⟨C4, hC4⟩ : ∃ x : List Value, [.slice Akp kp ckp, .slice none 0 0, .slice none 0 0, .slice none 0 0] = x := ⟨_, rfl⟩
                  have hC40 : C4[0]? = some (.slice Akp kp ckp) := by rw [← hC4]; rfl
                  have HC4 := Lib.hid hC4
                  rw [hC4] at bt
                  clear hC4
                  go_upto_region 36 with fail
                  refine wp_region_order (fun u => Blk u gt 33 C4) 7 [(0,0), (1,0), (2,0), (3,1), (4,1), (5,1), (6,0), (7,2)] (by kernel_rfl) (by kernel_rfl) ?_
                  simp only [pick, List.filterMap_cons, List.filterMap_nil, List.getElem?_cons_zero, List.getElem?_cons_succ, Option.map_some]
                  have hS : Blk wr.drew gt 33 C4 := bt.drew
                  refine wpF_take (v := ?_) hS rfl ?_ (fun _ _ _ h => h) ?_
                  rotate_left
                  · intro w' hS'
                    obtain _ := hS'
                    go_simp <;> rfl
                  go_simp
                  refine wpF_take (v := .slice Akp kp ckp) hS rfl (fun u hu => by have q0 : u.cell? ⟨gt, 0, none⟩ = some (.slice Akp kp ckp) := (hu.cell 0).trans hC40; go_simp <;> rfl) (fun _ _ _ h => h) ?_
                  go_simp
                  refine wpF_take (v := ?_) hS rfl ?_ (fun _ _ _ h => h) ?_
                  rotate_left
                  · intro w' hS'
                    obtain _ := hS'
                    go_simp <;> rfl
                  go_simp
                  refine wpF_only rfl (fun K hK => ?_)
                  go_wp2_with fail
                  refine hC.mono ?_
                  rintro e v1 ⟨rfl, hr1, o1⟩
                  have ogP1 := ogP.off (FlP.mn _) (show Off (fun k => k = p) wr v1 from (Off.refl _ _).drew.trans o1 fun _ _ h => h) (fun q (hq : q = p) => .inl (by omega))
                  have ho1 := ho.trans (show Off (fun k => k = p) wr v1 from (Off.refl _ _).drew.trans o1 fun _ _ h => h) (fun q _ (hq : q = p) => .inl hq)
                  replace hS := hS.off o1 (by omega)
                  have hsz : wr.heap.size ≤ v1.heap.size := o1.size
                  clear hC o1 hr ho ogP bt
                  go_wp2_with fail
                  first | refine ⟨fun _ => hS, ?_⟩ | refine ⟨hS, ?_⟩
                  go_simp
                  refine wpF_only rfl (fun K hK => ?_)
                  go_wp2_with fail
                  have fal : Below v1.heap.size v1 (v1.alloc (.cells #[.int .i64 (x1 : Int)] 3)) := (Below.refl _ _).alloc (Nat.le_refl _) _
                  have hS2 := hS.below fal hS.lt
                  first | refine ⟨fun _ => hS2, ?_⟩ | refine ⟨hS2, ?_⟩
                  go_simp
                  refine wpF_only rfl (fun K hK => ?_)
                  refine wp_appendOwn1 TIn (FlP.mn _) rfl (A := Akp) (n := kp) (c := ckp) rfl (ogP1.below (FlP.mn _) fal) (cs := [.int .i64 (x1 : Int)]) (y := (x1 : Int)) rfl rfl (by intro v hv; simp only [List.mem_cons, List.mem_nil_iff, or_false] at hv; rcases hv with rfl; rfl) (new_cells v1 [.int .i64 (x1 : Int)] 3) rfl (by omega) (by simp only [maxLen]; omega) (by simp; omega) ?_
                  intro A' c' v2 og4 g4
                  have oA : Off (fun q => (Value.slice Akp kp ckp).ownBlock = some q) v1 v2 := ((Off.refl _ _).alloc _).grown g4 fun q hq _ => hq
                  have bt4 := hS.off oA (fun hq => by have := ogP1.lt _ hq; omega)
                  refine hK _ _ ⟨fun _ => bt4, ?_⟩
                  go_simp
                  clear hK
                  refine wpF_take (v := ?_) bt4 rfl ?_ (fun _ _ _ h => h) ?_
                  rotate_left
                  · intro w' hS'
                    obtain _ := hS'
                    go_simp <;> rfl
                  go_simp
                  refine wpF_only rfl (fun K hK => ?_)
                  have c0 := (bt4.cell 0).trans hC40
                  have z0 := bt4.frozen 0
                  go_wp2_with fail
                  refine ⟨fun h => absurd h (by omega), wpF_nil ?_⟩
                  rw [← HC4.out] at bt4
                  have oS : Off (fun q => q = gt) v2 (v2.setCell ⟨gt, 0, none⟩ (.slice A' (kp + 1) c')) := (Off.refl (fun k => k = gt) _).setCell (p := ⟨gt, 0, none⟩) (fun _ => rfl) _
                  have bt5 := bt4.set 0 (.slice A' (kp + 1) c')
                  have og5 := og4.off (FlP.mn _) oS (fun q (hq : q = gt) => .inl (by omega))
                  have hr5 := (hr1.offG ogP1 oA (by decide) (by omega)).offB bt4 oS (by decide) (by omega)
                  have ho5 := (ho1.trans oA (fun q h1 hq => by have := ogP1.lt _ hq; omega)).trans oS (fun q _ (hq : q = gt) => .inr hq)
                  go_wp2_with fail
                  go_roundw
                  case rel => exact ⟨kp + 1, A', c', by go_num, by omega, bt5, by rw [HITkp.out, HPO.out]; exact og5, by rw [HITkp.out, HPO.out]; exact hr5, ho5⟩
                  case measure => simp [intOf]; omega
                · have dltkp : decide ((kp : Int) < (np : Int)) = false := by simp; omega
                  obtain rfl : kp = np := by omega
                  have hoL := ho
                  clear ho
                  replace bx := bx.off hoL (by omega)
                  replace hfgt := hfgt.trans hoL (fun q h1 (hq : q = p ∨ q = gt) => by omega)
                  have ho := hoS.trans hoL (fun q h1 (hq : q = p ∨ q = gt) => by (rcases hq with hq | hq; exact .inl hq; omega))
                  clear hoS hoL
                  have hPor : rowS 6 portS s_kt = itS portS snp kp := by unfold rowS; rw [HSnp.out, HNnp.out]
                  obtain ⟨sp, hsp⟩ : ∃ x, (itS portS snp kp).2 = x := ⟨_, rfl⟩
                  rw [hsp] at hr
                  have ybxwr := bx.lt
                  have ybtwr := bt.lt
                  have y0wr := hr.plt
                  have yywr := ho.size
                  go_wp2_with fail
                  refine (rtake_any p sp wr hr).mono ?_
                  rintro e v2 ⟨A5, c5, rfl, og1, hr1, o1⟩
                  generalize hn5 : (termsS sp).1.length = n5 at *
                  clear hn5
                  replace bx := bx.off o1 (by omega)
                  replace bt := bt.off o1 (by omega)
                  replace ogP := ogP.off (FlP.mn _) o1 (fun q (hq : q = p) => .inl (by omega))
                  replace ho := ho.trans o1 (fun q _ (hq : q = p) => .inl hq)
                  replace hfgt := hfgt.trans o1 (fun q _ (hq : q = p) => hq)
                  replace hr := hr1
                  clear hr1 o1
                  have cc := bt.cell 1
                  have cf := bt.frozen 1
                  go_upto_region 38 with fail
                  refine abs (fun x => Blk x gt 33 [.slice Akp kp ckp, .slice A5 n5 c5, .slice none 0 0, .slice none 0 0] ∧ Off (fun k => k = gt) v2 x) ⟨bt.set 1 _, (Off.refl (fun k => k = gt) _).setCell (p := ⟨gt, 1, none⟩) (fun _ => rfl) _⟩ ?_
                  rintro v3 ⟨b2, o1⟩
                  clear cc cf
                  replace bx := bx.off o1 (by omega)
                  replace ogP := ogP.off (FlP.mn _) o1 (fun q (hq : q = gt) => .inl (by omega))
                  replace og1 := og1.off (FlP.mn _) o1 (fun q (hq : q = gt) => .inl (by omega))
                  replace ho := ho.trans o1 (fun q h1 (hq : q = gt) => by omega)
                  replace hfgt := hfgt.trans o1 (fun q h1 (hq : q = gt) => by omega)
                  replace hr := hr.offB bt o1 (by decide) (by omega)
                  clear bt o1
                  have bt := b2
                  clear b2
                  have ybxv3 := bx.lt
                  have ybtv3 := bt.lt
                  have y0v3 := hr.plt
                  have yyv3 := ho.size
                  go_wp2_with fail
                  refine (rtake_any p (termsS sp).2 v3 hr).mono ?_
                  rintro e v4 ⟨A6, c6, rfl, og2, hr1, o1⟩
                  generalize hn6 : (termsS (termsS sp).2).1.length = n6 at *
                  clear hn6
                  replace bx := bx.off o1 (by omega)
                  replace bt := bt.off o1 (by omega)
                  replace ogP := ogP.off (FlP.mn _) o1 (fun q (hq : q = p) => .inl (by omega))
                  replace og1 := og1.off (FlP.mn _) o1 (fun q (hq : q = p) => .inl (by omega))
                  replace ho := ho.trans o1 (fun q _ (hq : q = p) => .inl hq)
                  replace hfgt := hfgt.trans o1 (fun q _ (hq : q = p) => hq)
                  replace hr := hr1
                  clear hr1 o1
                  have cc := bt.cell 2
                  have cf := bt.frozen 2
                  go_upto_region 39 with fail
                  refine abs (fun x => Blk x gt 33 [.slice Akp kp ckp, .slice A5 n5 c5, .slice A6 n6 c6, .slice none 0 0] ∧ Off (fun k => k = gt) v4 x) ⟨bt.set 2 _, (Off.refl (fun k => k = gt) _).setCell (p := ⟨gt, 2, none⟩) (fun _ => rfl) _⟩ ?_
                  rintro v5 ⟨b2, o1⟩
                  clear cc cf
                  replace bx := bx.off o1 (by omega)
                  replace ogP := ogP.off (FlP.mn _) o1 (fun q (hq : q = gt) => .inl (by omega))
                  replace og1 := og1.off (FlP.mn _) o1 (fun q (hq : q = gt) => .inl (by omega))
                  replace og2 := og2.off (FlP.mn _) o1 (fun q (hq : q = gt) => .inl (by omega))
                  replace ho := ho.trans o1 (fun q h1 (hq : q = gt) => by omega)
                  replace hfgt := hfgt.trans o1 (fun q h1 (hq : q = gt) => by omega)
                  replace hr := hr.offB bt o1 (by decide) (by omega)
                  clear bt o1
                  have bt := b2
                  clear b2
                  have ybxv5 := bx.lt
                  have ybtv5 := bt.lt
                  have y0v5 := hr.plt
                  have yyv5 := ho.size
                  go_wp2_with fail
                  refine (rtake_any p (termsS (termsS sp).2).2 v5 hr).mono ?_
                  rintro e v6 ⟨A7, c7, rfl, og3, hr1, o1⟩
                  generalize hn7 : (termsS (termsS (termsS sp).2).2).1.length = n7 at *
                  clear hn7
                  replace bx := bx.off o1 (by omega)
                  replace bt := bt.off o1 (by omega)
                  replace ogP := ogP.off (FlP.mn _) o1 (fun q (hq : q = p) => .inl (by omega))
                  replace og1 := og1.off (FlP.mn _) o1 (fun q (hq : q = p) => .inl (by omega))
                  replace og2 := og2.off (FlP.mn _) o1 (fun q (hq : q = p) => .inl (by omega))
                  replace ho := ho.trans o1 (fun q _ (hq : q = p) => .inl hq)
                  replace hfgt := hfgt.trans o1 (fun q _ (hq : q = p) => hq)
                  replace hr := hr1
                  clear hr1 o1
                  have cc := bt.cell 3
                  have cf := bt.frozen 3
                  go_upto_region 40 with fail
                  refine abs (fun x => Blk x gt 33 [.slice Akp kp ckp, .slice A5 n5 c5, .slice A6 n6 c6, .slice A7 n7 c7] ∧ Off (fun k => k = gt) v6 x) ⟨bt.set 3 _, (Off.refl (fun k => k = gt) _).setCell (p := ⟨gt, 3, none⟩) (fun _ => rfl) _⟩ ?_
                  rintro v7 ⟨b2, o1⟩
                  clear cc cf
                  replace bx := bx.off o1 (by omega)
                  replace ogP := ogP.off (FlP.mn _) o1 (fun q (hq : q = gt) => .inl (by omega))
                  replace og1 := og1.off (FlP.mn _) o1 (fun q (hq : q = gt) => .inl (by omega))
                  replace og2 := og2.off (FlP.mn _) o1 (fun q (hq : q = gt) => .inl (by omega))
                  replace og3 := og3.off (FlP.mn _) o1 (fun q (hq : q = gt) => .inl (by omega))
                  replace ho := ho.trans o1 (fun q h1 (hq : q = gt) => by omega)
                  replace hfgt := hfgt.trans o1 (fun q h1 (hq : q = gt) => by omega)
                  replace hr := hr.offB bt o1 (by decide) (by omega)
                  clear bt o1
                  have bt := b2
                  clear b2
                  have hTg : targetS s_kt = (⟨(itS portS snp kp).1, (termsS sp).1, (termsS (termsS sp).2).1, (termsS (termsS (termsS sp).2).2).1⟩, (termsS (termsS (termsS sp).2).2).2) := by unfold targetS; rw [hPor, hsp]
                  have HTG := Lib.hid hTg
                  clear hTg
                  replace ogT := ogT.off TgP.mn hfgt (fun q (hq : q = p) => .inl (by omega))
                  have fal : Below v7.heap.size v7 (v7.alloc (.cells #[.slice Akp kp ckp, .slice A5 n5 c5, .slice A6 n6 c6, .slice A7 n7 c7] 33)) := (Below.refl _ _).alloc (Nat.le_refl _) _
                  have hPx : TgP (mineW gt none v7) v7.heap.size [.slice Akp kp ckp, .slice A5 n5 c5, .slice A6 n6 c6, .slice A7 n7 c7] (targetS s_kt).1 := by rw [HTG.out]; exact ⟨_, _, _, _, rfl, ogP.inlo (by omega), og1.inlo (by omega), og2.inlo (by omega), og3.inlo (by omega)⟩
                  have hPy := TgP.mn _ _ _ _ _ _ (Nat.le_succ _) (Sub.own1 (w := v7) (base := w4.heap.size) (lo := gt) (B := v7.heap.size) (g := (Value.slice Akt kt ckt).ownBlock) (.cells #[.slice Akp kp ckp, .slice A5 n5 c5, .slice A6 n6 c6, .slice A7 n7 c7] 33) (by omega) zoogTgt (Nat.le_refl _)) hPx
                  clear hPx
                  have HCE := Lib.hid (new_cells v7 [.slice Akp kp ckp, .slice A5 n5 c5, .slice A6 n6 c6, .slice A7 n7 c7] 33)
                  have cr := bx.cell 1
                  have ce0 := bt.cell 0
                  have ce1 := bt.cell 1
                  have ce2 := bt.cell 2
                  have ce3 := bt.cell 3
                  have HPY := Lib.hid hPy
                  clear hPy
                  have yyA := ho.size
                  go_wp2_with (at_builtin; go_must (refine appendOwn1 TTg TgP.mn rfl rfl rfl (ogT.below TgP.mn fal) rfl rfl (by intro v hv; simp only [List.mem_cons, List.mem_nil_iff, or_false] at hv; rcases hv with rfl | rfl | rfl | rfl <;> rfl) HCE.out (by rw [show (v7.alloc (.cells #[.slice Akp kp ckp, .slice A5 n5 c5, .slice A6 n6 c6, .slice A7 n7 c7] 33)).heap.size = v7.heap.size + 1 by simp]; exact HPY.out) (by omega) (by simp only [maxLen]; omega) (by simp; omega) ?_); intro A' c' w4 og4 g4; have oA : Off (fun q => (Value.slice Akt kt ckt).ownBlock = some q) v7 w4 := ((Off.refl _ _).alloc _).grown g4 fun q hq _ => hq; have bt4 := bx.off oA (fun hq => by have := ogT.lt _ hq; omega); have cc := bt4.cell 1; have cf := bt4.frozen 1)
                  have oS : Off (fun q => q = gx) w4 (w4.setCell ⟨gx, 1, none⟩ (.slice A' (kt + 1) c')) := (Off.refl (fun k => k = gx) _).setCell (p := ⟨gx, 1, none⟩) (fun _ => rfl) _
                  have bt5 := bt4.set 1 (.slice A' (kt + 1) c')
                  have og5 := og4.off TgP.mn oS (fun q (hq : q = gx) => .inl (by omega))
                  have hr5 := (hr.offG ogT oA (by decide) (by omega)).offB bt4 oS (by decide) (by omega)
                  have ho5 := (ho.trans oA (fun q h1 hq => by have := ogT.lt _ hq; omega)).trans oS (fun q _ (hq : q = gx) => .inr hq)
                  rw [show (termsS (termsS (termsS sp).2).2).2 = (targetS s_kt).2 from by rw [HTG.out]] at hr5
                  go_roundw
                  case rel => exact ⟨kt + 1, A', c', by go_num, by omega, bt5, by rw [HITkt.out]; exact og5, by rw [HITkt.out]; exact hr5, ho5⟩
                  case measure => simp [intOf]; omega
            · have dltkt : decide ((kt : Int) < (nt : Int)) = false := by simp; omega
              obtain rfl : kt = nt := by omega
              have hoL := ho
              clear ho
              replace bp := bp.off hoL (by omega)
              replace ogF := ogF.off SrP.mn hoL (fun q (hq : q = p ∨ q = gx) => .inl (by omega))
              replace hfgx := hfgx.trans hoL (fun q h1 (hq : q = p ∨ q = gx) => by omega)
              have ho := hoS.trans hoL (fun q h1 (hq : q = p ∨ q = gx) => by (rcases hq with hq | hq; exact .inl hq; omega))
              clear hoS hoL
              have hTo : rowS 3 targetS (itS sourceS snf kf).2 = itS targetS snt kt := by unfold rowS; rw [HSnt.out, HNnt.out]
              have hlenw := smallN_le 3 (itS targetS snt kt).2
              have hC := count_any p 3 (by omega) (itS targetS snt kt).2 wr hr
              obtain ⟨nw, hnw⟩ : ∃ x, (smallN 3 (itS targetS snt kt).2).1 = x := ⟨_, rfl⟩
              obtain ⟨snw, hsnw⟩ : ∃ x, (smallN 3 (itS targetS snt kt).2).2 = x := ⟨_, rfl⟩
              rw [hnw, hsnw] at hC
              rw [hnw] at hlenw
              have HNnw := Lib.hid hnw; have HSnw := Lib.hid hsnw
              clear hnw hsnw
              go_wp2_with fail
              refine hC.mono ?_
              rintro e w6 ⟨rfl, hr1, o1⟩
              replace bp := bp.off o1 (by omega)
              replace bx := bx.off o1 (by omega)
              replace ogF := ogF.off SrP.mn o1 (fun q (hq : q = p) => .inl (by omega))
              replace ogT := ogT.off TgP.mn o1 (fun q (hq : q = p) => .inl (by omega))
              replace ho := ho.trans o1 (fun q _ (hq : q = p) => .inl hq)
              replace hfgx := hfgx.trans o1 (fun q _ (hq : q = p) => hq)
              replace hr := hr1
              clear hr1 o1 hC
              have ybpw6 := bp.lt
              have ybxw6 := bx.lt
              have y0w6 := hr.plt
              have yyw6 := ho.size
              go_wp2_with fail
              go_loopw [17] (fun vi wr => ∃ (kw : Nat) (A : Option Addr) (c : Nat), vi = .int .i64 kw ∧ kw ≤ nw ∧ Blk wr gx 26 [.slice Akf kf ckf, .slice Akt kt ckt, .slice A kw c] ∧ OwnG 2 WnP wr w6.heap.size 50 (.slice A kw c) (itS whenS snw kw).1 ∧ RmE wr p (itS whenS snw kw).2 ∧ Off (fun k => k = p ∨ k = gx) w6 wr) (fun vi _ => nw - (intOf vi).toNat)
              case atStart => exact ⟨0, none, 0, rfl, Nat.zero_le _, bx, OwnG.nil, hr, Off.refl _ _⟩
              case round =>
                have hoS := ho
                clear bx ho hr
                obtain ⟨kw, Akw, ckw, rfl, hkkw, bx, ogW, hr, ho⟩ := hrel
                by_cases hltkw : kw < nw
                · have dltkw : decide ((kw : Int) < (nw : Int)) = true := by simp; omega
                  have HITkw := Lib.hid (itS_succ whenS snw kw)
                  generalize (itS whenS snw kw).1 = Tkw at *
                  generalize (itS whenS snw kw).2 = s_kw at *
                  obtain ⟨gw, hgw⟩ : ∃ x, wr.heap.size = x := ⟨_, rfl⟩
                  have zbxgw : gx < gw := by have := bx.lt; omega
                  have z0gw : p < gw := by have := hr.plt; omega
                  have zzgw : w6.heap.size ≤ gw := by have := ho.size; omega
                  have zoogWgw := fun q hq => (ogW.lt q hq).2
                  rw [hgw] at zoogWgw
                  go_upto_region 46 with fail
                  refine abs (fun x => Blk x gw 50 [.string ⟨#[]⟩, .slice none 0 0] ∧ Below wr.heap.size wr x) ⟨Blk.newAt hgw _ #[.string ⟨#[]⟩, .slice none 0 0], (Below.refl _ _).alloc (Nat.le_refl _) _⟩ ?_
                  rintro v1 ⟨bw, f1⟩
                  have o1 := Off.of_all f1
                  have zfgw : wr.heap.size ≤ gw := by omega
                  clear hgw
                  have hfgw := Off.refl (fun k => k = p) wr
                  replace bx := bx.off o1 (_root_.id)
                  replace ho := ho.trans o1 (fun _ _ h => h.elim)
                  replace hfgw := hfgw.trans o1 (fun _ _ h => h.elim)
                  replace hr := hr.same f1
                  clear o1 f1
                  have hT := mText_any p s_kw 64 (by omega) v1 hr
                  rw [show ((64 : Nat) : Int) = 64 from rfl] at hT
                  go_wp2_with fail
                  refine (hT).mono ?_
                  rintro e v2 ⟨rfl, hr1, o1⟩
                  replace bx := bx.off o1 (by omega)
                  replace bw := bw.off o1 (by omega)
                  replace ho := ho.trans o1 (fun q _ (hq : q = p) => .inl hq)
                  replace hfgw := hfgw.trans o1 (fun q _ (hq : q = p) => hq)
                  replace hr := hr1
                  clear hr1 o1
                  clear hT
                  have cc := bw.cell 0
                  have cf := bw.frozen 0
                  go_upto_region 47 with fail
                  refine abs (fun x => Blk x gw 50 [.string (strB (takeS (findText 64) [] s_kw).1), .slice none 0 0] ∧ Off (fun k => k = gw) v2 x) ⟨bw.set 0 _, (Off.refl (fun k => k = gw) _).setCell (p := ⟨gw, 0, none⟩) (fun _ => rfl) _⟩ ?_
                  rintro v3 ⟨b2, o1⟩
                  clear cc cf
                  replace bx := bx.off o1 (by omega)
                  replace ho := ho.trans o1 (fun q h1 (hq : q = gw) => by omega)
                  replace hfgw := hfgw.trans o1 (fun q h1 (hq : q = gw) => by omega)
                  replace hr := hr.offB bw o1 (by decide) (by omega)
                  clear bw o1
                  have bw := b2
                  clear b2
                  have ybxv3 := bx.lt
                  have ybwv3 := bw.lt
                  have y0v3 := hr.plt
                  have yyv3 := ho.size
                  go_wp2_with fail
                  refine (rtake_any p (takeS (findText 64) [] s_kw).2 v3 hr).mono ?_
                  rintro e v4 ⟨A8, c8, rfl, og1, hr1, o1⟩
                  generalize hn8 : (termsS (takeS (findText 64) [] s_kw).2).1.length = n8 at *
                  clear hn8
                  replace bx := bx.off o1 (by omega)
                  replace bw := bw.off o1 (by omega)
                  replace ho := ho.trans o1 (fun q _ (hq : q = p) => .inl hq)
                  replace hfgw := hfgw.trans o1 (fun q _ (hq : q = p) => hq)
                  replace hr := hr1
                  clear hr1 o1
                  have cc := bw.cell 1
                  have cf := bw.frozen 1
                  go_upto_region 48 with fail
                  refine abs (fun x => Blk x gw 50 [.string (strB (takeS (findText 64) [] s_kw).1), .slice A8 n8 c8] ∧ Off (fun k => k = gw) v4 x) ⟨bw.set 1 _, (Off.refl (fun k => k = gw) _).setCell (p := ⟨gw, 1, none⟩) (fun _ => rfl) _⟩ ?_
                  rintro v5 ⟨b2, o1⟩
                  clear cc cf
                  replace bx := bx.off o1 (by omega)
                  replace og1 := og1.off (FlP.mn _) o1 (fun q (hq : q = gw) => .inl (by omega))
                  replace ho := ho.trans o1 (fun q h1 (hq : q = gw) => by omega)
                  replace hfgw := hfgw.trans o1 (fun q h1 (hq : q = gw) => by omega)
                  replace hr := hr.offB bw o1 (by decide) (by omega)
                  clear bw o1
                  have bw := b2
                  clear b2
                  replace ogW := ogW.off WnP.mn hfgw (fun q (hq : q = p) => .inl (by omega))
                  have fal : Below v5.heap.size v5 (v5.alloc (.cells #[.string (strB (takeS (findText 64) [] s_kw).1), .slice A8 n8 c8] 50)) := (Below.refl _ _).alloc (Nat.le_refl _) _
                  have hPx : WnP (mineW gw none v5) v5.heap.size [.string (strB (takeS (findText 64) [] s_kw).1), .slice A8 n8 c8] (whenS s_kw).1 := ⟨_, rfl, og1.inlo (by omega)⟩
                  have hPy := WnP.mn _ _ _ _ _ _ (Nat.le_succ _) (Sub.own1 (w := v5) (base := w6.heap.size) (lo := gw) (B := v5.heap.size) (g := (Value.slice Akw kw ckw).ownBlock) (.cells #[.string (strB (takeS (findText 64) [] s_kw).1), .slice A8 n8 c8] 50) (by omega) zoogWgw (Nat.le_refl _)) hPx
                  clear hPx
                  have HCE := Lib.hid (new_cells v5 [.string (strB (takeS (findText 64) [] s_kw).1), .slice A8 n8 c8] 50)
                  have cr := bx.cell 2
                  have ce0 := bw.cell 0
                  have ce1 := bw.cell 1
                  have HPY := Lib.hid hPy
                  clear hPy
                  have yyA := ho.size
                  go_wp2_with (at_builtin; go_must (refine appendOwn1 TWn WnP.mn rfl rfl rfl (ogW.below WnP.mn fal) rfl rfl (by intro v hv; simp only [List.mem_cons, List.mem_nil_iff, or_false] at hv; rcases hv with rfl | rfl <;> rfl) HCE.out (by rw [show (v5.alloc (.cells #[.string (strB (takeS (findText 64) [] s_kw).1), .slice A8 n8 c8] 50)).heap.size = v5.heap.size + 1 by simp]; exact HPY.out) (by omega) (by simp only [maxLen]; omega) (by simp; omega) ?_); intro A' c' w4 og4 g4; have oA : Off (fun q => (Value.slice Akw kw ckw).ownBlock = some q) v5 w4 := ((Off.refl _ _).alloc _).grown g4 fun q hq _ => hq; have bt4 := bx.off oA (fun hq => by have := ogW.lt _ hq; omega); have cc := bt4.cell 2; have cf := bt4.frozen 2)
                  have oS : Off (fun q => q = gx) w4 (w4.setCell ⟨gx, 2, none⟩ (.slice A' (kw + 1) c')) := (Off.refl (fun k => k = gx) _).setCell (p := ⟨gx, 2, none⟩) (fun _ => rfl) _
                  have bt5 := bt4.set 2 (.slice A' (kw + 1) c')
                  have og5 := og4.off WnP.mn oS (fun q (hq : q = gx) => .inl (by omega))
                  have hr5 := (hr.offG ogW oA (by decide) (by omega)).offB bt4 oS (by decide) (by omega)
                  have ho5 := (ho.trans oA (fun q h1 hq => by have := ogW.lt _ hq; omega)).trans oS (fun q _ (hq : q = gx) => .inr hq)
                  rw [show (termsS (takeS (findText 64) [] s_kw).2).2 = (whenS s_kw).2 from rfl] at hr5
                  go_roundw
                  case rel => exact ⟨kw + 1, A', c', by go_num, by omega, bt5, by rw [HITkw.out]; exact og5, by rw [HITkw.out]; exact hr5, ho5⟩
                  case measure => simp [intOf]; omega
                · have dltkw : decide ((kw : Int) < (nw : Int)) = false := by simp; omega
                  obtain rfl : kw = nw := by omega
                  have hoL := ho
                  clear ho
                  replace bp := bp.off hoL (by omega)
                  replace ogF := ogF.off SrP.mn hoL (fun q (hq : q = p ∨ q = gx) => .inl (by omega))
                  replace ogT := ogT.off TgP.mn hoL (fun q (hq : q = p ∨ q = gx) => .inl (by omega))
                  replace hfgx := hfgx.trans hoL (fun q h1 (hq : q = p ∨ q = gx) => by omega)
                  have ho := hoS.trans hoL (fun q h1 (hq : q = p ∨ q = gx) => by (rcases hq with hq | hq; exact .inl hq; omega))
                  clear hoS hoL
                  have hWh : rowS 3 whenS (itS targetS snt kt).2 = itS whenS snw kw := by unfold rowS; rw [HSnw.out, HNnw.out]
                  have hRu : ruleS s_k = (⟨(itS sourceS snf kf).1, (itS targetS snt kt).1, (itS whenS snw kw).1⟩, (itS whenS snw kw).2) := by unfold ruleS; rw [hFr, hTo, hWh]
                  have HRU := Lib.hid hRu
                  clear hRu hFr hTo hWh
                  replace ogR := ogR.off RuP.mn hfgx (fun q (hq : q = p) => .inl (by omega))
                  have fal : Below wr.heap.size wr (wr.alloc (.cells #[.slice Akf kf ckf, .slice Akt kt ckt, .slice Akw kw ckw] 26)) := (Below.refl _ _).alloc (Nat.le_refl _) _
                  have hPx : RuP (mineW gx none wr) wr.heap.size [.slice Akf kf ckf, .slice Akt kt ckt, .slice Akw kw ckw] (ruleS s_k).1 := by rw [HRU.out]; exact ⟨_, _, _, rfl, ogF.inloG SrP.mn (by omega), ogT.inloG TgP.mn (by omega), ogW.inloG WnP.mn (by omega)⟩
                  have hPy := RuP.mn _ _ _ _ _ _ (Nat.le_succ _) (Sub.own1 (w := wr) (base := u5.heap.size) (lo := gx) (B := wr.heap.size) (g := (Value.slice Ak k ck).ownBlock) (.cells #[.slice Akf kf ckf, .slice Akt kt ckt, .slice Akw kw ckw] 26) (by omega) zoogRgx (Nat.le_refl _)) hPx
                  clear hPx
                  have HCE := Lib.hid (new_cells wr [.slice Akf kf ckf, .slice Akt kt ckt, .slice Akw kw ckw] 26)
                  have cr := bp.cell 4
                  have ce0 := bx.cell 0
                  have ce1 := bx.cell 1
                  have ce2 := bx.cell 2
                  have HPY := Lib.hid hPy
                  clear hPy
                  have yyA := ho.size
                  go_wp2_with (at_builtin; go_must (refine appendOwn1 TRu RuP.mn rfl rfl rfl (ogR.below RuP.mn fal) rfl rfl (by intro v hv; simp only [List.mem_cons, List.mem_nil_iff, or_false] at hv; rcases hv with rfl | rfl | rfl <;> rfl) HCE.out (by rw [show (wr.alloc (.cells #[.slice Akf kf ckf, .slice Akt kt ckt, .slice Akw kw ckw] 26)).heap.size = wr.heap.size + 1 by simp]; exact HPY.out) (by omega) (by simp only [maxLen]; omega) (by simp; omega) ?_); intro A' c' w4 og4 g4; have oA : Off (fun q => (Value.slice Ak k ck).ownBlock = some q) wr w4 := ((Off.refl _ _).alloc _).grown g4 fun q hq _ => hq; have bt4 := bp.off oA (fun hq => by have := ogR.lt _ hq; omega); have cc := bt4.cell 4; have cf := bt4.frozen 4)
                  have oS : Off (fun q => q = gp) w4 (w4.setCell ⟨gp, 4, none⟩ (.slice A' (k + 1) c')) := (Off.refl (fun k => k = gp) _).setCell (p := ⟨gp, 4, none⟩) (fun _ => rfl) _
                  have bt5 := bt4.set 4 (.slice A' (k + 1) c')
                  have og5 := og4.off RuP.mn oS (fun q (hq : q = gp) => .inl (by omega))
                  have hr5 := (hr.offG ogR oA (by decide) (by omega)).offB bt4 oS (by decide) (by omega)
                  have ho5 := (ho.trans oA (fun q h1 hq => by have := ogR.lt _ hq; omega)).trans oS (fun q _ (hq : q = gp) => .inr hq)
                  rw [show (itS whenS snw kw).2 = (ruleS s_k).2 from by rw [HRU.out]] at hr5
                  go_roundw
                  case rel => exact ⟨k + 1, A', c', by go_num, by omega, bt5, by rw [HITk.out]; exact og5, by rw [HITk.out]; exact hr5, ho5⟩
                  case measure => simp [intOf]; omega
    · have dltk : decide ((k : Int) < (nr : Int)) = false := by simp; omega
      obtain rfl : k = nr := by omega
      have hoL := ho
      clear ho
      replace bz := bz.off hoL (by omega)
      have ho := hoS.trans hoL (fun q h1 (hq : q = p ∨ q = gp) => by omega)
      clear hoS hoL
      have hRs : pA4 l = itS ruleS snr k := by unfold pA4 rowS; rw [HSnr.out, HNnr.out]
      have cx0 := bp.cell 0
      have cx1 := bp.cell 1
      have cx2 := bp.cell 2
      have cx3 := bp.cell 3
      have cx4 := bp.cell 4
      have HRS := Lib.hid hRs
      clear hRs
      have HGZ : Hid (w.heap.size = gz) := Lib.hid hgz
      go_wp2_with (first | (refine store_blk bz rfl 38 (.tmp 2) (.tmp 145) rfl rfl (us := [.int .u64 ((pA0 l).1 : Int), .string (strB (pA1 l).1), .int .u64 ((pA2 l).1 : Int), .int .i64 ((pA3 l).1 : Int), .slice Ak k ck]) rfl HI.out rfl rfl ?_; intro w9 k9 g9))
      have o9 : Off (fun k => k = gz) wr w9 := (Off.refl _ _).grown g9 fun q hq _ => by injection hq with hq; exact hq.symm
      have og9 := ogR.off RuP.mn o9 (fun q (hq : q = gz) => .inl (by omega))
      have hr9 := hr.offB bz o9 (by decide) (by omega)
      have ho9 := ho.trans o9 (fun q h1 (hq : q = gz) => by omega)
      refine bodyPost_ret (k9.sized rfl _ rfl Tryz.underlying38 HI.out) rfl ⟨_, rfl, ⟨_, rfl, by rw [show (readPo l).rules = (itS ruleS snr k).1 from by rw [← HRS.out]; rfl]; exact og9.inloG RuP.mn (by omega)⟩, by rw [HRS.out]; exact hr9, ho9⟩
end Go.Proofs.YtdbjihpdfiipcaaGreat
namespace Go.Proofs.YtdbjihpdfiipcaaGreat
open Go.RowKit Go.Sort
set_option linter.unusedVariables false
set_option linter.unusedSimpArgs false
set_option maxRecDepth 100000 in
set_option maxHeartbeats 8000000 in
theorem rRead_any (A : Option Addr) (n c : Nat) (l : List UInt8) (w : World) (r : RdB w w.heap.size A n l) (hn : n ≤ 1099511627776) :
    Calls Tryz.prog 26 #[.slice A n c] w fun e w' => ∃ cs : List Value, e = .returned (.tuple #[.agg cs.toArray, .int .i64 (decE l : Int)]) ∧ PoP (mineW w.heap.size none w') w'.heap.size cs (decP l) ∧ Below w.heap.size w w' := by
  have hln : l.length = n := r.1
  have hi : (Tryz.prog.info? 38).map (·.size) = some 5 := by kernel_rfl
  have HI := Lib.hid hi; clear hi
  obtain ⟨eV, heV⟩ : ∃ x, decE l = x := ⟨_, rfl⟩
  obtain ⟨pV, hpV⟩ : ∃ x, decP l = x := ⟨_, rfl⟩
  rw [heV, hpV]
  have HEV := Lib.hid heV; have HPV := Lib.hid hpV
  clear heV hpV
  go_enter Tryz.func26, Tryz.ntmps26
  go_upto_region 1 with fail
  refine abs (fun x => Blk x w.heap.size 38 [.int .u64 0, .string ⟨#[]⟩, .int .u64 0, .int .i64 0, .slice none 0 0] ∧ Below w.heap.size w x) ⟨Blk.newAt rfl _ #[.int .u64 0, .string ⟨#[]⟩, .int .u64 0, .int .i64 0, .slice none 0 0], (Below.refl _ _).alloc (Nat.le_refl _) _⟩ ?_
  rintro u0 ⟨bz, f0⟩
  have r0 := (r.below f0).more f0.size
  have r1 := r0.below ((Below.refl _ u0).alloc (Nat.le_refl _) (.cells #[] 5))
  obtain ⟨gz, hgz⟩ : ∃ x, w.heap.size = x := ⟨_, rfl⟩
  rw [hgz] at bz
  go_upto_region 2 with (at_builtin; go_must (refine appendG T23 rfl rfl rfl (OwnB.of_blk (l := []) (Blk.of_new u0 _ _) (Nat.zero_le _) rfl (by simp [maxLen])) rfl r1 (by omega) (Nat.zero_le _) ?_); intro A' c' w1 o1 g1 e1)
  rw [Nat.zero_add, List.nil_append] at *
  have f1 : Below u0.heap.size u0 w1 := Off.below (((Off.refl (isB (some ⟨u0.heap.size, 0, none⟩)) u0).alloc (.cells #[] 5)).trans g1 fun _ _ h => h) (Nat.le_refl _) (fun k hk => by obtain ⟨x, hx, rfl⟩ := hk; injection hx with hx; subst hx; exact Nat.le_refl _)
  refine abs (fun x => RmE x w1.heap.size ⟨l, false⟩ ∧ Below w1.heap.size w1 x) ⟨⟨by show l.length ≤ _; omega, A', c', by show Rm _ _ A' l.length c' ⟨l, false⟩; rw [hln]; exact ⟨Blk.newAt rfl _ #[.slice A' n c', .bool false], o1.alloc _⟩⟩, (Below.refl _ _).alloc (Nat.le_refl _) _⟩ ?_
  rintro u1 ⟨hr, f2⟩
  have fu : Below u0.heap.size u0 u1 := f1.trans (f2.mono f1.size)
  have bz1 := bz.below fu bz.lt
  generalize hgp : w1.heap.size = p at *
  have hzp : gz < p := by have := bz.lt; have := f1.size; omega
  have hu0 : u0.heap.size ≤ p := by have := f1.size; omega
  clear r0 r1 o1 g1 e1 f1 f2 hgp bz
  go_wp2_with fail
  refine (rTake_any p l u1 hr).mono ?_
  rintro e u2 ⟨cs, rfl, hP, hr2, o2⟩
  have hpl := hr2.plt
  have bz2 := bz1.off o2 (by omega)
  obtain ⟨v, hcs, hv⟩ := hP
  obtain ⟨A5, n5, c5, rfl, q1, q2, q3⟩ := hv
  have hP : PoP (mineW u1.heap.size none u2) u2.heap.size cs (readPo l) := ⟨_, hcs, ⟨A5, n5, c5, rfl, q1, q2, q3⟩⟩
  have HPP := Lib.hid hP
  clear hP q1 q2 q3
  subst hcs
  generalize hi1 : (readPo l).id = i1 at *
  generalize hs2 : strB (readPo l).ns = s2 at *
  generalize hi3 : (readPo l).service = i3 at *
  generalize hi4 : (readPo l).deny = i4 at *
  clear hi1 hs2 hi3 hi4
  obtain ⟨g5, hg5⟩ : ∃ x, u2.heap.size = x := ⟨_, rfl⟩
  go_upto_region 3 with fail
  refine abs (fun x => Blk x g5 38 [.int .u64 (i1 : Int), .string s2, .int .u64 (i3 : Int), .int .i64 i4, .slice A5 n5 c5] ∧ Below u2.heap.size u2 x) ⟨Blk.newAt hg5 _ #[.int .u64 (i1 : Int), .string s2, .int .u64 (i3 : Int), .int .i64 i4, .slice A5 n5 c5], (Below.refl _ _).alloc (Nat.le_refl _) _⟩ ?_
  rintro u3 ⟨bp, f3⟩
  have hr3 := hr2.same f3
  have bz3 := bz2.below f3 bz2.lt
  have hg5p : p < g5 := by omega
  have hu1 : u1.heap.size ≤ g5 := by have := o2.size; omega
  have hzu : p < u1.heap.size := hr.plt
  clear hg5 bz1 bz2
  have o3 : Off (fun k => k = p) u1 u3 := o2.trans (Off.of_all f3) fun _ _ h => h.elim
  have hE := mEnd_any p (pA4 l).2 u3 hr3
  obtain ⟨bad, hbad⟩ : ∃ x, readBad l = x := ⟨_, rfl⟩
  have hbd : ((pA4 l).2.st || !(pA4 l).2.l.isEmpty) = bad := hbad
  rw [hbd] at hE
  have z3 : Off (fun k => k < u1.heap.size ∨ u2.heap.size ≤ k) u2 u3 := (Off.of_all f3).mono fun _ _ h => h.elim
  have fin : ∀ u, Off (fun k => k = p ∨ k = gz) u3 u → PoP (mineW w.heap.size none u) u.heap.size [.int .u64 (i1 : Int), .string s2, .int .u64 (i3 : Int), .int .i64 i4, .slice A5 n5 c5] (readPo l) := fun u hu => by
    have z := z3.trans hu (fun k h1 (h2 : k = p ∨ k = gz) => by omega)
    exact PoP.mn _ _ _ _ _ _ z.size (Sub.off z (Nat.le_refl _) (by have := fu.size; have := f0.size; omega) (fun q h1 _ h2 (h3 : q < u1.heap.size ∨ u2.heap.size ≤ q) => by omega) (fun _ h => by cases h)) HPP.out
  have below : ∀ u, Off (fun k => k = p ∨ k = gz) u3 u → Below w.heap.size w u := fun u hu => (f0.trans (fu.mono f0.size)).trans (Off.below (X := fun k => gz ≤ k) ((o3.mono fun k _ (h : k = p) => by omega).trans hu fun k h1 (h2 : k = p ∨ k = gz) => by omega) (by have := fu.size; have := f0.size; omega) (fun k h => by omega))
  have FIN := Lib.hid fin; have BEL := Lib.hid below
  clear fin below o2
  go_wp2_with fail
  refine hE.mono ?_
  rintro e w6 ⟨rfl, h6, o6⟩
  have kp6 := bp.off o6 (by omega)
  have kz6 := bz3.off o6 (by omega)
  have o6s := o6.size
  clear hE
  have c0 := kp6.cell 0
  have c1 := kp6.cell 1
  have c2 := kp6.cell 2
  have c3 := kp6.cell 3
  have c4 := kp6.cell 4
  cases bad
  rotate_left
  · have hno : decOk l = false := by unfold decOk; rw [hbad]; rfl
    have hE2 : decE l = 2 := by unfold decE; rw [hno]; rfl
    have hP2 : decP l = poZero := by unfold decP; rw [hno]; rfl
    obtain rfl : eV = 2 := by rw [← HEV.out]; exact hE2
    obtain rfl : pV = poZero := by rw [← HPV.out]; exact hP2
    go_wp2_with (first | (refine store_blk kz6 rfl 38 (.tmp 2) (.tmp 20) rfl rfl (us := [.int .u64 0, .string ⟨#[]⟩, .int .u64 0, .int .i64 0, .slice none 0 0]) rfl HI.out rfl rfl ?_; intro w9 k9 g9))
    have o9 : Off (fun k => k = gz) w6 w9 := (Off.refl _ _).grown g9 fun k hk _ => by injection hk with hk; exact hk.symm
    refine bodyPost_ret (k9.sizedT rfl _ rfl Tryz.underlying38 HI.out) rfl ⟨[.int .u64 0, .string ⟨#[]⟩, .int .u64 0, .int .i64 0, .slice none 0 0], rfl, ⟨_, rfl, nilG⟩, BEL.out _ ((o6.mono fun k _ (h : k = p) => .inl h).trans o9 fun k _ (h : k = gz) => .inr h)⟩
  · have hP6 : PoP w6 w6.heap.size [.int .u64 (i1 : Int), .string s2, .int .u64 (i3 : Int), .int .i64 i4, .slice A5 n5 c5] (readPo l) := PoP.mn _ _ _ _ _ _ (Nat.le_refl _) (Sub.out _ _ _ _) (FIN.out w6 (o6.mono fun k _ (h : k = p) => .inl h))
    have hM := rmay12_any (readPo l) _ w6 hP6 (readPo_ok l)
    obtain ⟨m, hm⟩ : ∃ x, poMay (readPo l) = x := ⟨_, rfl⟩
    rw [hm] at hM
    have hok : decOk l = m := by unfold decOk; rw [hbad, hm]; rfl
    go_wp2_with fail
    refine hM.mono ?_
    rintro e w7 ⟨rfl, f7⟩
    have kp7 := kp6.below f7 kp6.lt
    have kz7 := kz6.below f7 kz6.lt
    have o7 : Off (fun k => k = p ∨ k = gz) u3 w7 := (o6.mono fun k _ (h : k = p) => .inl h).trans (Off.of_all f7) fun _ _ h => h.elim
    clear c0 c1 c2 c3 c4 hM
    cases m
    · have hE2 : decE l = 2 := by unfold decE; rw [hok]; rfl
      have hP2 : decP l = poZero := by unfold decP; rw [hok]; rfl
      obtain rfl : eV = 2 := by rw [← HEV.out]; exact hE2
      obtain rfl : pV = poZero := by rw [← HPV.out]; exact hP2
      go_wp2_with (first | (refine store_blk kz7 rfl 38 (.tmp 2) (.tmp 20) rfl rfl (us := [.int .u64 0, .string ⟨#[]⟩, .int .u64 0, .int .i64 0, .slice none 0 0]) rfl HI.out rfl rfl ?_; intro w9 k9 g9))
      have o9 : Off (fun k => k = gz) w7 w9 := (Off.refl _ _).grown g9 fun k hk _ => by injection hk with hk; exact hk.symm
      refine bodyPost_ret (k9.sizedT rfl _ rfl Tryz.underlying38 HI.out) rfl ⟨[.int .u64 0, .string ⟨#[]⟩, .int .u64 0, .int .i64 0, .slice none 0 0], rfl, ⟨_, rfl, nilG⟩, BEL.out _ (o7.trans o9 fun k _ (h : k = gz) => .inr h)⟩
    · have hE2 : decE l = 0 := by unfold decE; rw [hok]; rfl
      have hP2 : decP l = readPo l := by unfold decP; rw [hok]; rfl
      obtain rfl : eV = 0 := by rw [← HEV.out]; exact hE2
      obtain rfl : pV = readPo l := by rw [← HPV.out]; exact hP2
      have c0 := kp7.cell 0
      have c1 := kp7.cell 1
      have c2 := kp7.cell 2
      have c3 := kp7.cell 3
      have c4 := kp7.cell 4
      go_wp2_with (first | (refine store_blk kz7 rfl 38 (.tmp 2) (.tmp 21) rfl rfl (us := [.int .u64 (i1 : Int), .string s2, .int .u64 (i3 : Int), .int .i64 i4, .slice A5 n5 c5]) rfl HI.out rfl rfl ?_; intro w9 k9 g9))
      have o9 : Off (fun k => k = gz) w7 w9 := (Off.refl _ _).grown g9 fun k hk _ => by injection hk with hk; exact hk.symm
      have oz := o7.trans o9 fun k _ (h : k = gz) => .inr h
      refine bodyPost_ret (k9.sizedT rfl _ rfl Tryz.underlying38 HI.out) rfl ⟨_, rfl, FIN.out _ oz, BEL.out _ oz⟩
end Go.Proofs.YtdbjihpdfiipcaaGreat
