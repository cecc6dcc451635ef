/- answers: is a field that is read what was written? No condition but sizes. -/
import Derived.Test.YtdblgjecbmebjaaCodeAwake
import Derived.Test.YtdblgjecbmebjaaOrder
namespace Go.Proofs.Ytdblgjecbmebjaa
open Go.RowKit
set_option linter.unusedVariables false
def ansS (f : Fd) (s : RS) : Bool × RS :=
  match fk f with
  | 0 => (decide ((takeS findU8 0 s).1 = f.n % 256), (takeS findU8 0 s).2)
  | 1 => (decide ((takeS findU32 0 s).1 = f.n % 4294967296), (takeS findU32 0 s).2)
  | 2 => (decide ((takeS findShort 0 s).1 = f.n), (takeS findShort 0 s).2)
  | 3 => (decide ((takeS (findText (f.s.length + f.more % 256)) [] s).1 = f.s), (takeS (findText (f.s.length + f.more % 256)) [] s).2)
  | _ => (decide ((takeS (findRaw f.s.length) [] s).1 = f.s), (takeS (findRaw f.s.length) [] s).2)
theorem beq_u8 (a n : Nat) : ((a : Int) == IntKind.u8.wrap (n : Int)) = decide (a = n % 256) := by
  rw [Bool.eq_iff_iff]
  simp [IntKind.wrap, IntKind.bits, IntKind.signed]
  omega
theorem beq_u32 (a n : Nat) : ((a : Int) == IntKind.u32.wrap (n : Int)) = decide (a = n % 4294967296) := by
  rw [Bool.eq_iff_iff]
  simp [IntKind.wrap, IntKind.bits, IntKind.signed]
  omega
theorem beq_nat (a n : Nat) : ((a : Int) == (n : Int)) = decide (a = n) := by
  rw [Bool.eq_iff_iff]
  simp
  omega
theorem beq_list (a b : List UInt8) : (a == b) = decide (a = b) := by
  rw [Bool.eq_iff_iff]
  simp
set_option maxRecDepth 100000 in
set_option maxHeartbeats 4000000 in
theorem answers_any (p b : Nat) (s : RS) (f : Fd) (w : World) (h : Rr w p b s) (hsz : s.l.length ≤ 140737488355328) (hok : Fok f) (hfs : f.s.length ≤ 140737488355328) :
    Calls Try.prog 37 #[.pointer (some ⟨p, 0, none⟩), .agg f.cells.toArray] w fun e w' => e = .returned (.bool (ansS f s).1) ∧ Rr w' p b (ansS f s).2 ∧ Off (fun k => k = p) w w' := by
  have hp := h.plt
  have hbits := bits_and255 f.more
  have hm := Int.emod_nonneg f.more (show (256 : Int) ≠ 0 by omega)
  have hm2 := Int.emod_lt_of_pos f.more (show (0 : Int) < 256 by omega)
  have zs := strB_size f.s
  go_enter Try.func37, Try.ntmps37
  simp only [Fd.cells]
  go_wp2_with fail
  refine absC (fun w1 => Blk w1 w.heap.size 32 f.cells ∧ Rr w1 p b s ∧ Off (fun k => k = p) w w1) ⟨Blk.newAt rfl _ _, h.below ((Below.refl _ w).alloc (Nat.le_refl _) _), (Off.refl _ _).alloc _⟩ ?_
  rintro w1 ⟨k1, h1, d1⟩
  refine (kind_any f w1).mono ?_
  rintro e w2 ⟨rfl, f2⟩
  replace k1 := k1.below f2 k1.lt
  replace h1 := h1.below f2
  replace d1 := d1.trans (Off.of_all f2) (fun _ _ h => h.elim)
  clear f2 h
  have c2 : w2.cell? ⟨w.heap.size, 2, none⟩ = some (.int .i64 f.more) := k1.cell 2
  have c3 : w2.cell? ⟨w.heap.size, 3, none⟩ = some (.int .u64 f.n) := k1.cell 3
  have c4 : w2.cell? ⟨w.heap.size, 4, none⟩ = some (.string (strB f.s)) := k1.cell 4
  have hgl := k1.lt
  clear k1
  have keep : ∀ u v : World, (u.cell? ⟨w.heap.size, 2, none⟩ = some (.int .i64 f.more) ∧ u.cell? ⟨w.heap.size, 3, none⟩ = some (.int .u64 f.n) ∧ u.cell? ⟨w.heap.size, 4, none⟩ = some (.string (strB f.s)) ∧ w.heap.size < u.heap.size) → Off (fun k => k = p) u v →
      (v.cell? ⟨w.heap.size, 2, none⟩ = some (.int .i64 f.more) ∧ v.cell? ⟨w.heap.size, 3, none⟩ = some (.int .u64 f.n) ∧ v.cell? ⟨w.heap.size, 4, none⟩ = some (.string (strB f.s)) ∧ w.heap.size < v.heap.size) := fun u v ⟨h2, h3, h4, h5⟩ o =>
    have hne : ¬ (w.heap.size = p) := by omega
    ⟨(o.cell (p := ⟨w.heap.size, 2, none⟩) h5 hne).trans h2, (o.cell (p := ⟨w.heap.size, 3, none⟩) h5 hne).trans h3, (o.cell (p := ⟨w.heap.size, 4, none⟩) h5 hne).trans h4, Nat.lt_of_lt_of_le h5 o.size⟩
  have Keep := Lib.hid keep
  clear keep
  have hS : w2.drew.cell? ⟨w.heap.size, 2, none⟩ = some (.int .i64 f.more) ∧ w2.drew.cell? ⟨w.heap.size, 3, none⟩ = some (.int .u64 f.n) ∧ w2.drew.cell? ⟨w.heap.size, 4, none⟩ = some (.string (strB f.s)) ∧ w.heap.size < w2.drew.heap.size := ⟨c2, c3, c4, hgl⟩
  have HS := Lib.hid hS
  clear hS
  have h1d : Rr w2.drew p b s := h1
  have d1d : Off (fun k => k = p) w w2.drew := d1.drew
  clear h1 d1
  have hk := fk_lt f
  generalize hK : fk f = K at *
  have HK := Lib.hid hK
  clear hK
  rcases K with _ | _ | _ | _ | _ | K
  · go_wp2_with fail
    refine wp_region_order (fun u => u.cell? ⟨w.heap.size, 2, none⟩ = some (.int .i64 f.more) ∧ u.cell? ⟨w.heap.size, 3, none⟩ = some (.int .u64 f.n) ∧ u.cell? ⟨w.heap.size, 4, none⟩ = some (.string (strB f.s)) ∧ w.heap.size < u.heap.size) 6 [(0,0), (2,0), (3,0), (4,0), (1,1), (5,0), (6,2)] (by kernel_rfl) (by kernel_rfl) ?_
    simp only [pick, List.filterMap_cons, List.filterMap_nil, List.getElem?_cons_zero, List.getElem?_cons_succ, Option.map_some]
    refine wpF_take (v := ?_) HS.out rfl ?_ (fun _ _ _ h => h) ?_
    rotate_left
    · intro w' hS'
      obtain ⟨c2, c3, c4, hgl⟩ := hS'
      go_simp <;> rfl
    go_simp
    refine wpF_take (v := ?_) HS.out rfl ?_ (fun _ _ _ h => h) ?_
    rotate_left
    · intro w' hS'
      obtain ⟨c2, c3, c4, hgl⟩ := hS'
      go_simp <;> rfl
    go_simp
    refine wpF_take (v := ?_) HS.out rfl ?_ (fun _ _ _ h => h) ?_
    rotate_left
    · intro w' hS'
      obtain ⟨c2, c3, c4, hgl⟩ := hS'
      go_simp <;> rfl
    go_simp
    refine wpF_take (v := ?_) HS.out rfl ?_ (fun _ _ _ h => h) ?_
    rotate_left
    · intro w' hS'
      obtain ⟨c2, c3, c4, hgl⟩ := hS'
      go_simp <;> rfl
    go_simp
    refine wpF_only rfl (fun K hK => ?_)
    go_wp2_with fail
    refine (rU8_any p b s _ h1d).mono ?_
    rintro e w3 ⟨rfl, R3, g3⟩
    have hS3 := Keep.out _ _ HS.out g3
    have han : ansS f s = (decide ((takeS findU8 0 s).1 = f.n % 256), (takeS findU8 0 s).2) := by rw [ansS, HK.out]; rfl
    have Han := Lib.hid han
    clear han
    generalize takeS findU8 0 s = q at *
    go_wp2_with fail
    refine ⟨fun _ => hS3, ?_⟩
    go_simp
    refine wpF_take (v := .bool (decide (q.1 = f.n % 256))) hS3 rfl (fun w' _ => ?_) (fun _ _ _ h => h) ?_
    · go_simp
      exact beq_u8 _ _
    go_simp
    refine wpF_only rfl (fun K hK => ?_)
    go_wp2_with fail
    refine ⟨fun h => absurd h (by omega), wpF_nil ?_⟩
    go_wp2_with fail
    go_ret
    rw [Han.out]
    exact ⟨rfl, R3, d1d.trans g3 fun _ _ h => h⟩
  · go_wp2_with fail
    refine wp_region_order (fun u => u.cell? ⟨w.heap.size, 2, none⟩ = some (.int .i64 f.more) ∧ u.cell? ⟨w.heap.size, 3, none⟩ = some (.int .u64 f.n) ∧ u.cell? ⟨w.heap.size, 4, none⟩ = some (.string (strB f.s)) ∧ w.heap.size < u.heap.size) 6 [(0,0), (2,0), (3,0), (4,0), (1,1), (5,0), (6,2)] (by kernel_rfl) (by kernel_rfl) ?_
    simp only [pick, List.filterMap_cons, List.filterMap_nil, List.getElem?_cons_zero, List.getElem?_cons_succ, Option.map_some]
    refine wpF_take (v := ?_) HS.out rfl ?_ (fun _ _ _ h => h) ?_
    rotate_left
    · intro w' hS'
      obtain ⟨c2, c3, c4, hgl⟩ := hS'
      go_simp <;> rfl
    go_simp
    refine wpF_take (v := ?_) HS.out rfl ?_ (fun _ _ _ h => h) ?_
    rotate_left
    · intro w' hS'
      obtain ⟨c2, c3, c4, hgl⟩ := hS'
      go_simp <;> rfl
    go_simp
    refine wpF_take (v := ?_) HS.out rfl ?_ (fun _ _ _ h => h) ?_
    rotate_left
    · intro w' hS'
      obtain ⟨c2, c3, c4, hgl⟩ := hS'
      go_simp <;> rfl
    go_simp
    refine wpF_take (v := ?_) HS.out rfl ?_ (fun _ _ _ h => h) ?_
    rotate_left
    · intro w' hS'
      obtain ⟨c2, c3, c4, hgl⟩ := hS'
      go_simp <;> rfl
    go_simp
    refine wpF_only rfl (fun K hK => ?_)
    go_wp2_with fail
    refine (rU32_any p b s _ h1d).mono ?_
    rintro e w3 ⟨rfl, R3, g3⟩
    have hS3 := Keep.out _ _ HS.out g3
    have han : ansS f s = (decide ((takeS findU32 0 s).1 = f.n % 4294967296), (takeS findU32 0 s).2) := by rw [ansS, HK.out]; rfl
    have Han := Lib.hid han
    clear han
    generalize takeS findU32 0 s = q at *
    go_wp2_with fail
    refine ⟨fun _ => hS3, ?_⟩
    go_simp
    refine wpF_take (v := .bool (decide (q.1 = f.n % 4294967296))) hS3 rfl (fun w' _ => ?_) (fun _ _ _ h => h) ?_
    · go_simp
      exact beq_u32 _ _
    go_simp
    refine wpF_only rfl (fun K hK => ?_)
    go_wp2_with fail
    refine ⟨fun h => absurd h (by omega), wpF_nil ?_⟩
    go_wp2_with fail
    go_ret
    rw [Han.out]
    exact ⟨rfl, R3, d1d.trans g3 fun _ _ h => h⟩
  · go_wp2_with fail
    refine wp_region_order (fun u => u.cell? ⟨w.heap.size, 2, none⟩ = some (.int .i64 f.more) ∧ u.cell? ⟨w.heap.size, 3, none⟩ = some (.int .u64 f.n) ∧ u.cell? ⟨w.heap.size, 4, none⟩ = some (.string (strB f.s)) ∧ w.heap.size < u.heap.size) 5 [(0,0), (2,0), (3,0), (1,1), (4,0), (5,2)] (by kernel_rfl) (by kernel_rfl) ?_
    simp only [pick, List.filterMap_cons, List.filterMap_nil, List.getElem?_cons_zero, List.getElem?_cons_succ, Option.map_some]
    refine wpF_take (v := ?_) HS.out rfl ?_ (fun _ _ _ h => h) ?_
    rotate_left
    · intro w' hS'
      obtain ⟨c2, c3, c4, hgl⟩ := hS'
      go_simp <;> rfl
    go_simp
    refine wpF_take (v := ?_) HS.out rfl ?_ (fun _ _ _ h => h) ?_
    rotate_left
    · intro w' hS'
      obtain ⟨c2, c3, c4, hgl⟩ := hS'
      go_simp <;> rfl
    go_simp
    refine wpF_take (v := ?_) HS.out rfl ?_ (fun _ _ _ h => h) ?_
    rotate_left
    · intro w' hS'
      obtain ⟨c2, c3, c4, hgl⟩ := hS'
      go_simp <;> rfl
    go_simp
    refine wpF_only rfl (fun K hK => ?_)
    go_wp2_with fail
    refine (rUint_any p b s _ h1d).mono ?_
    rintro e w3 ⟨rfl, R3, g3⟩
    have hS3 := Keep.out _ _ HS.out g3
    have han : ansS f s = (decide ((takeS findShort 0 s).1 = f.n), (takeS findShort 0 s).2) := by rw [ansS, HK.out]; rfl
    have Han := Lib.hid han
    clear han
    generalize takeS findShort 0 s = q at *
    go_wp2_with fail
    refine ⟨fun _ => hS3, ?_⟩
    go_simp
    refine wpF_take (v := .bool (decide (q.1 = f.n))) hS3 rfl (fun w' _ => ?_) (fun _ _ _ h => h) ?_
    · go_simp
      exact beq_nat _ _
    go_simp
    refine wpF_only rfl (fun K hK => ?_)
    go_wp2_with fail
    refine ⟨fun h => absurd h (by omega), wpF_nil ?_⟩
    go_wp2_with fail
    go_ret
    rw [Han.out]
    exact ⟨rfl, R3, d1d.trans g3 fun _ _ h => h⟩
  · go_wp2_with fail
    refine wp_region_order (fun u => u.cell? ⟨w.heap.size, 2, none⟩ = some (.int .i64 f.more) ∧ u.cell? ⟨w.heap.size, 3, none⟩ = some (.int .u64 f.n) ∧ u.cell? ⟨w.heap.size, 4, none⟩ = some (.string (strB f.s)) ∧ w.heap.size < u.heap.size) 12 [(0,0), (1,0), (2,0), (3,0), (4,0), (5,0), (6,0), (7,0), (9,0), (10,0), (8,1), (11,0), (12,2)] (by kernel_rfl) (by kernel_rfl) ?_
    simp only [pick, List.filterMap_cons, List.filterMap_nil, List.getElem?_cons_zero, List.getElem?_cons_succ, Option.map_some]
    refine wpF_take (v := ?_) HS.out rfl ?_ (fun _ _ _ h => h) ?_
    rotate_left
    · intro w' hS'
      obtain ⟨c2, c3, c4, hgl⟩ := hS'
      go_simp <;> rfl
    go_simp
    refine wpF_take (v := ?_) HS.out rfl ?_ (fun _ _ _ h => h) ?_
    rotate_left
    · intro w' hS'
      obtain ⟨c2, c3, c4, hgl⟩ := hS'
      go_simp <;> rfl
    go_simp
    refine wpF_take (v := ?_) HS.out rfl ?_ (fun _ _ _ h => h) ?_
    rotate_left
    · intro w' hS'
      obtain ⟨c2, c3, c4, hgl⟩ := hS'
      go_simp <;> rfl
    go_simp
    refine wpF_take (v := ?_) HS.out rfl ?_ (fun _ _ _ h => h) ?_
    rotate_left
    · intro w' hS'
      obtain ⟨c2, c3, c4, hgl⟩ := hS'
      go_simp <;> rfl
    go_simp
    refine wpF_take (v := ?_) HS.out rfl ?_ (fun _ _ _ h => h) ?_
    rotate_left
    · intro w' hS'
      obtain ⟨c2, c3, c4, hgl⟩ := hS'
      go_simp <;> rfl
    go_simp
    refine wpF_take (v := ?_) HS.out rfl ?_ (fun _ _ _ h => h) ?_
    rotate_left
    · intro w' hS'
      obtain ⟨c2, c3, c4, hgl⟩ := hS'
      go_simp <;> rfl
    go_simp
    refine wpF_take (v := ?_) HS.out rfl ?_ (fun _ _ _ h => h) ?_
    rotate_left
    · intro w' hS'
      obtain ⟨c2, c3, c4, hgl⟩ := hS'
      go_simp <;> rfl
    go_simp
    refine wpF_take (v := ?_) HS.out rfl ?_ (fun _ _ _ h => h) ?_
    rotate_left
    · intro w' hS'
      obtain ⟨c2, c3, c4, hgl⟩ := hS'
      go_simp <;> rfl
    go_simp
    refine wpF_take (v := ?_) HS.out rfl ?_ (fun _ _ _ h => h) ?_
    rotate_left
    · intro w' hS'
      obtain ⟨c2, c3, c4, hgl⟩ := hS'
      go_simp <;> rfl
    go_simp
    refine wpF_take (v := ?_) HS.out rfl ?_ (fun _ _ _ h => h) ?_
    rotate_left
    · intro w' hS'
      obtain ⟨c2, c3, c4, hgl⟩ := hS'
      go_simp <;> rfl
    go_simp
    refine wpF_only rfl (fun K hK => ?_)
    go_wp2_with fail
    refine (rText_any p b s (f.s.length + f.more % 256) _ h1d hsz (by omega) (by omega)).mono ?_
    rintro e w3 ⟨rfl, R3, g3⟩
    have hS3 := Keep.out _ _ HS.out g3
    have han : ansS f s = (decide ((takeS (findText (f.s.length + f.more % 256)) [] s).1 = f.s), (takeS (findText (f.s.length + f.more % 256)) [] s).2) := by rw [ansS, HK.out]; rfl
    have Han := Lib.hid han
    clear han
    generalize takeS (findText (f.s.length + f.more % 256)) [] s = q at *
    go_wp2_with fail
    refine ⟨fun _ => hS3, ?_⟩
    go_simp
    refine wpF_take (v := .bool (decide (q.1 = f.s))) hS3 rfl (fun w' _ => ?_) (fun _ _ _ h => h) ?_
    · go_simp
      exact beq_list _ _
    go_simp
    refine wpF_only rfl (fun K hK => ?_)
    go_wp2_with fail
    refine ⟨fun h => absurd h (by omega), wpF_nil ?_⟩
    go_wp2_with fail
    go_ret
    rw [Han.out]
    exact ⟨rfl, R3, d1d.trans g3 fun _ _ h => h⟩
  · go_wp2_with fail
    refine wp_region_order (fun u => u.cell? ⟨w.heap.size, 2, none⟩ = some (.int .i64 f.more) ∧ u.cell? ⟨w.heap.size, 3, none⟩ = some (.int .u64 f.n) ∧ u.cell? ⟨w.heap.size, 4, none⟩ = some (.string (strB f.s)) ∧ w.heap.size < u.heap.size) 9 [(0,0), (1,0), (2,0), (3,0), (6,0), (7,0), (4,1), (5,1), (8,0), (9,2)] (by kernel_rfl) (by kernel_rfl) ?_
    simp only [pick, List.filterMap_cons, List.filterMap_nil, List.getElem?_cons_zero, List.getElem?_cons_succ, Option.map_some]
    refine wpF_take (v := ?_) HS.out rfl ?_ (fun _ _ _ h => h) ?_
    rotate_left
    · intro w' hS'
      obtain ⟨c2, c3, c4, hgl⟩ := hS'
      go_simp <;> rfl
    go_simp
    refine wpF_take (v := ?_) HS.out rfl ?_ (fun _ _ _ h => h) ?_
    rotate_left
    · intro w' hS'
      obtain ⟨c2, c3, c4, hgl⟩ := hS'
      go_simp <;> rfl
    go_simp
    refine wpF_take (v := ?_) HS.out rfl ?_ (fun _ _ _ h => h) ?_
    rotate_left
    · intro w' hS'
      obtain ⟨c2, c3, c4, hgl⟩ := hS'
      go_simp <;> rfl
    go_simp
    refine wpF_take (v := ?_) HS.out rfl ?_ (fun _ _ _ h => h) ?_
    rotate_left
    · intro w' hS'
      obtain ⟨c2, c3, c4, hgl⟩ := hS'
      go_simp <;> rfl
    go_simp
    refine wpF_take (v := ?_) HS.out rfl ?_ (fun _ _ _ h => h) ?_
    rotate_left
    · intro w' hS'
      obtain ⟨c2, c3, c4, hgl⟩ := hS'
      go_simp <;> rfl
    go_simp
    refine wpF_take (v := ?_) HS.out rfl ?_ (fun _ _ _ h => h) ?_
    rotate_left
    · intro w' hS'
      obtain ⟨c2, c3, c4, hgl⟩ := hS'
      go_simp <;> rfl
    go_simp
    refine wpF_only rfl (fun K hK => ?_)
    go_wp2_with fail
    refine (rRaw_any p b s (f.s.length : Nat) _ h1d hsz).mono ?_
    rintro e w3 ⟨A3, n3, c3', rfl, o3, R3, g3⟩
    have hS3 := Keep.out _ _ HS.out g3
    have han : ansS f s = (decide ((takeS (findRaw f.s.length) [] s).1 = f.s), (takeS (findRaw f.s.length) [] s).2) := by rw [ansS, HK.out]; rfl
    have Han := Lib.hid han
    clear han
    generalize takeS (findRaw (f.s.length : Nat)) [] s = q at *
    have k3 : (convert 28 9 (.slice A3 n3 c3')).run Try.prog w3 = .ok (.string (strB q.1)) w3 := o3.str
    go_wp2_with fail
    refine ⟨fun _ => hS3, ?_⟩
    go_simp
    refine wpF_only rfl (fun K hK => ?_)
    go_wp2_with fail
    first | refine ⟨fun _ => hS3, ?_⟩ | skip
    go_simp
    refine wpF_take (v := .bool (decide (q.1 = f.s))) hS3 rfl (fun w' _ => ?_) (fun _ _ _ h => h) ?_
    · go_simp
      exact beq_list _ _
    go_simp
    refine wpF_only rfl (fun K hK => ?_)
    go_wp2_with fail
    refine ⟨fun h => absurd h (by omega), wpF_nil ?_⟩
    go_wp2_with fail
    go_ret
    rw [Han.out]
    exact ⟨rfl, R3, d1d.trans g3 fun _ _ h => h⟩
  · omega
end Go.Proofs.Ytdblgjecbmebjaa
