/- The law CodeShort, walked. No condition. -/
import Derived.Test.YtdblgjecbmebjaaCodeAwake
import Derived.Test.YtdblgjecbmebjaaLebLaw
namespace Go.Proofs.Ytdblgjecbmebjaa
open Go.RowKit
set_option linter.unusedVariables false
def fU (x : Nat) : Fd := ⟨2, 0, 0, x, []⟩
theorem bytesOf_fU (x : Nat) : bytesOf [fU x] = leb x := by
  have h : fbytes (fU x) = leb x := by rw [fbytes, show fk (fU x) = 2 from rfl]; rfl
  simp [bytesOf, h]
theorem RdF.one (w : World) (f : Fd) (g : Nat) (hg : w.heap.size = g) : RdF (w.alloc (.cells f.cells.toArray 32)) (w.alloc (.cells f.cells.toArray 32)).heap.size (some ⟨g, 0, none⟩) 1 [f] := by
  subst hg
  refine ⟨rfl, fun _ => ⟨w.heap.size, 0, rfl, by simp, fun j hj i v hv => ?_⟩⟩
  obtain rfl : j = 0 := by simpa using hj
  have k := Blk.of_new w 32 f.cells
  have h2 := (k.cell i).trans hv
  simpa using h2
set_option maxRecDepth 100000 in
set_option maxHeartbeats 2000000 in
theorem codeShort_walk (w : World) (x : Nat) (hx : x < 18446744073709551616) (y : Nat) (hy : y < 18446744073709551616) :
    Calls Try.prog 4 #[.int .u64 x, .int .u64 y] w fun e w' => e = .returned (.bool true) ∧ Below w.heap.size w w' := by
  go_enter Try.func4, Try.ntmps4
  go_wp2_with fail
  refine (written_any (some ⟨w.heap.size, 0, none⟩) 1 1 [fU x] _ (RdF.one w (fU x) _ rfl) (by simp [Fok, fU]; omega) (by simp [totN, fsz, fU]) (by omega)).mono ?_
  rintro e w1 ⟨A1, c1, rfl, o1, f1⟩
  rw [bytesOf_fU] at o1 ⊢
  replace f1 : Below w.heap.size w w1 := ((Below.refl w.heap.size w).alloc (Nat.le_refl _) _).trans (f1.mono (by simp))
  go_wp2_with fail
  refine (written_any (some ⟨w1.heap.size, 0, none⟩) 1 1 [fU y] _ (RdF.one w1 (fU y) _ rfl) (by simp [Fok, fU]; omega) (by simp [totN, fsz, fU]) (by omega)).mono ?_
  rintro e w2 ⟨A2, c2, rfl, o2, f2⟩
  rw [bytesOf_fU] at o2 ⊢
  replace f2 : Below w1.heap.size w1 w2 := ((Below.refl w1.heap.size w1).alloc (Nat.le_refl _) _).trans (f2.mono (by simp))
  have r1 := (o1.rd.below f2).more f2.size
  have r2 := o2.rd
  have hc1 := o1.cap
  have hc2 := o2.cap
  have F := f1.trans (f2.mono f1.size)
  clear o1 o2 f1 f2
  have lx := leb_length x hx
  have ly := leb_length y hy
  have gx := grp_le x hx
  have gy := grp_le y hy
  have px := grp_pos x hx
  have py := grp_pos y hy
  have ox := leb_one x hx
  have oy := leb_one y hy
  by_cases hxy : y < x
  · have d1 : decide ((y : Int) < (x : Int)) = true := by simp; omega
    have m := grp_mono y x (by omega) hx
    have tk := leb_take y x hy hx (by omega)
    generalize leb x = Lx at *
    generalize leb y = Ly at *
    generalize hnx : Lx.length = nx at *
    generalize hny : Ly.length = ny at *
    have hm : ny ≤ nx := by omega
    have e1 : decide (nx < ny) = false := by simp; omega
    have e2 : decide ((10 : Int) < (nx : Int)) = false := by simp; omega
    have e3 : ((nx : Int) == 1) = decide ((x : Int) < 128) := by rw [Bool.eq_iff_iff]; simp; omega
    have e4 : ((ny : Int) == 0) = false := by simp; omega
    have e5 : ¬ Lx.take ny = Ly := fun h => by
      have := tk.1 h
      omega
    have e6 : ((y : Int) == (x : Int)) = false := by simp; omega
    clear lx ly gx gy px py ox oy m tk hnx hny
    go_wp2_with fail
    refine wp_region_order (fun u => Below w2.heap.size w2 u) 15 [(0,0), (1,0), (2,0), (5,0), (6,0), (8,0), (9,0), (10,0), (3,1), (4,0), (7,0), (11,0), (12,0), (13,1), (14,0), (15,2)] (by kernel_rfl) (by kernel_rfl) ?_
    simp only [pick, List.filterMap_cons, List.filterMap_nil, List.getElem?_cons_zero, List.getElem?_cons_succ, Option.map_some]
    have hS : Below w2.heap.size w2 w2.drew := (Below.refl _ _).drew
    refine wpF_take (v := ?_) hS rfl ?_ (fun _ _ _ h => h) ?_
    rotate_left
    · intro w' hS'
      obtain _ := hS'
      go_simp <;> rfl
    go_simp
    refine wpF_take (v := ?_) hS rfl ?_ (fun _ _ _ h => h) ?_
    rotate_left
    · intro w' hS'
      obtain _ := hS'
      go_simp <;> rfl
    go_simp
    refine wpF_take (v := ?_) hS rfl ?_ (fun _ _ _ h => h) ?_
    rotate_left
    · intro w' hS'
      obtain _ := hS'
      go_simp <;> rfl
    go_simp
    refine wpF_take (v := ?_) hS rfl ?_ (fun _ _ _ h => h) ?_
    rotate_left
    · intro w' hS'
      obtain _ := hS'
      go_simp <;> rfl
    go_simp
    refine wpF_take (v := .string (strB Ly)) hS rfl (fun w' hS' => ?_) (fun _ _ _ h => h) ?_
    · have := run_str T23 (r2.below hS') c2 _ Try.underlying9
      go_simp <;> rw [this]
    go_simp
    refine wpF_take (v := ?_) hS rfl ?_ (fun _ _ _ h => h) ?_
    rotate_left
    · intro w' hS'
      obtain _ := hS'
      go_simp <;> rfl
    go_simp
    refine wpF_take (v := ?_) hS rfl ?_ (fun _ _ _ h => h) ?_
    rotate_left
    · intro w' hS'
      obtain _ := hS'
      go_simp <;> rfl
    go_simp
    refine wpF_take (v := .bool false) hS rfl (fun w' hS' => by go_simp) (fun _ _ _ h => h) ?_
    go_simp
    refine wpF_only rfl (fun K hK => wp_slice_h T23 rfl rfl rfl r1 hm hc1 (fun A3 r3 => ?_))
    refine hK _ _ ⟨fun _ => hS, ?_⟩
    go_simp
    refine wpF_take (v := .string (strB (Lx.take ny))) hS rfl (fun w' hS' => ?_) (fun _ _ _ h => h) ?_
    · have := run_str T23 (r3.below hS') c1 _ Try.underlying9
      go_simp <;> rw [this]
    go_simp
    refine wpF_take (v := .bool false) hS rfl (fun w' hS' => by go_simp) (fun _ _ _ h => h) ?_
    go_simp
    refine wpF_take (v := .bool true) hS rfl (fun w' hS' => by go_simp) (fun _ _ _ h => h) ?_
    go_simp
    refine wpF_take (v := ?_) hS rfl ?_ (fun _ _ _ h => h) ?_
    rotate_left
    · intro w' hS'
      obtain _ := hS'
      go_simp <;> rfl
    go_simp
    refine wpF_only rfl (fun K hK => ?_)
    go_wp2_with fail
    refine (awake3_any _).mono ?_
    rintro e w3 ⟨rfl, f3⟩
    have hS3 : Below w2.heap.size w2 w3 := (Below.refl w2.heap.size w2).drew.trans f3
    clear f3
    go_wp2_with fail
    refine ⟨fun _ => hS3, ?_⟩
    go_simp
    refine wpF_take (v := ?_) hS3 rfl ?_ (fun _ _ _ h => h) ?_
    rotate_left
    · intro w' hS'
      obtain _ := hS'
      go_simp <;> rfl
    go_simp
    refine wpF_only rfl (fun K hK => ?_)
    go_wp2_with fail
    refine ⟨fun h => absurd h (by omega), wpF_nil ?_⟩
    go_wp2_with fail
    go_ret
    exact ⟨rfl, F.trans (hS3.mono F.size)⟩
  · have d1 : decide ((y : Int) < (x : Int)) = false := by simp; omega
    by_cases hxe : x = y
    · have m := grp_mono x y (by omega) hy
      have tk := leb_take x y hx hy (by omega)
      generalize leb x = Lx at *
      generalize leb y = Ly at *
      generalize hnx : Lx.length = nx at *
      generalize hny : Ly.length = ny at *
      have hm : nx ≤ ny := by omega
      have e1 : decide (ny < nx) = false := by simp; omega
      have e2 : decide ((10 : Int) < (ny : Int)) = false := by simp; omega
      have e3 : ((ny : Int) == 1) = decide ((y : Int) < 128) := by rw [Bool.eq_iff_iff]; simp; omega
      have e4 : ((nx : Int) == 0) = false := by simp; omega
      have e5 : Ly.take nx = Lx := tk.2 (by omega)
      have e6 : ((x : Int) == (y : Int)) = true := by simp; omega
      clear lx ly gx gy px py ox oy m tk hnx hny
      go_wp2_with fail
      refine wp_region_order (fun u => Below w2.heap.size w2 u) 15 [(0,0), (1,0), (2,0), (5,0), (6,0), (8,0), (9,0), (10,0), (3,1), (4,0), (7,0), (11,0), (12,0), (13,1), (14,0), (15,2)] (by kernel_rfl) (by kernel_rfl) ?_
      simp only [pick, List.filterMap_cons, List.filterMap_nil, List.getElem?_cons_zero, List.getElem?_cons_succ, Option.map_some]
      have hS : Below w2.heap.size w2 w2.drew := (Below.refl _ _).drew
      refine wpF_take (v := ?_) hS rfl ?_ (fun _ _ _ h => h) ?_
      rotate_left
      · intro w' hS'
        obtain _ := hS'
        go_simp <;> rfl
      go_simp
      refine wpF_take (v := ?_) hS rfl ?_ (fun _ _ _ h => h) ?_
      rotate_left
      · intro w' hS'
        obtain _ := hS'
        go_simp <;> rfl
      go_simp
      refine wpF_take (v := ?_) hS rfl ?_ (fun _ _ _ h => h) ?_
      rotate_left
      · intro w' hS'
        obtain _ := hS'
        go_simp <;> rfl
      go_simp
      refine wpF_take (v := ?_) hS rfl ?_ (fun _ _ _ h => h) ?_
      rotate_left
      · intro w' hS'
        obtain _ := hS'
        go_simp <;> rfl
      go_simp
      refine wpF_take (v := .string (strB Lx)) hS rfl (fun w' hS' => ?_) (fun _ _ _ h => h) ?_
      · have := run_str T23 (r1.below hS') c1 _ Try.underlying9
        go_simp <;> rw [this]
      go_simp
      refine wpF_take (v := ?_) hS rfl ?_ (fun _ _ _ h => h) ?_
      rotate_left
      · intro w' hS'
        obtain _ := hS'
        go_simp <;> rfl
      go_simp
      refine wpF_take (v := ?_) hS rfl ?_ (fun _ _ _ h => h) ?_
      rotate_left
      · intro w' hS'
        obtain _ := hS'
        go_simp <;> rfl
      go_simp
      refine wpF_take (v := .bool true) hS rfl (fun w' hS' => by go_simp) (fun _ _ _ h => h) ?_
      go_simp
      refine wpF_only rfl (fun K hK => wp_slice_h T23 rfl rfl rfl r2 hm hc2 (fun A3 r3 => ?_))
      refine hK _ _ ⟨fun _ => hS, ?_⟩
      go_simp
      refine wpF_take (v := .string (strB (Ly.take nx))) hS rfl (fun w' hS' => ?_) (fun _ _ _ h => h) ?_
      · have := run_str T23 (r3.below hS') c2 _ Try.underlying9
        go_simp <;> rw [this]
      go_simp
      refine wpF_take (v := .bool true) hS rfl (fun w' hS' => by go_simp) (fun _ _ _ h => h) ?_
      go_simp
      refine wpF_take (v := .bool true) hS rfl (fun w' hS' => by go_simp) (fun _ _ _ h => h) ?_
      go_simp
      refine wpF_take (v := ?_) hS rfl ?_ (fun _ _ _ h => h) ?_
      rotate_left
      · intro w' hS'
        obtain _ := hS'
        go_simp <;> rfl
      go_simp
      refine wpF_only rfl (fun K hK => ?_)
      go_wp2_with fail
      refine (awake3_any _).mono ?_
      rintro e w3 ⟨rfl, f3⟩
      have hS3 : Below w2.heap.size w2 w3 := (Below.refl w2.heap.size w2).drew.trans f3
      clear f3
      go_wp2_with fail
      refine ⟨fun _ => hS3, ?_⟩
      go_simp
      refine wpF_take (v := ?_) hS3 rfl ?_ (fun _ _ _ h => h) ?_
      rotate_left
      · intro w' hS'
        obtain _ := hS'
        go_simp <;> rfl
      go_simp
      refine wpF_only rfl (fun K hK => ?_)
      go_wp2_with fail
      refine ⟨fun h => absurd h (by omega), wpF_nil ?_⟩
      go_wp2_with fail
      go_ret
      exact ⟨rfl, F.trans (hS3.mono F.size)⟩
    · have m := grp_mono x y (by omega) hy
      have tk := leb_take x y hx hy (by omega)
      generalize leb x = Lx at *
      generalize leb y = Ly at *
      generalize hnx : Lx.length = nx at *
      generalize hny : Ly.length = ny at *
      have hm : nx ≤ ny := by omega
      have e1 : decide (ny < nx) = false := by simp; omega
      have e2 : decide ((10 : Int) < (ny : Int)) = false := by simp; omega
      have e3 : ((ny : Int) == 1) = decide ((y : Int) < 128) := by rw [Bool.eq_iff_iff]; simp; omega
      have e4 : ((nx : Int) == 0) = false := by simp; omega
      have e5 : ¬ Ly.take nx = Lx := fun h => by
        have := tk.1 h
        omega
      have e6 : ((x : Int) == (y : Int)) = false := by simp; omega
      clear lx ly gx gy px py ox oy m tk hnx hny
      go_wp2_with fail
      refine wp_region_order (fun u => Below w2.heap.size w2 u) 15 [(0,0), (1,0), (2,0), (5,0), (6,0), (8,0), (9,0), (10,0), (3,1), (4,0), (7,0), (11,0), (12,0), (13,1), (14,0), (15,2)] (by kernel_rfl) (by kernel_rfl) ?_
      simp only [pick, List.filterMap_cons, List.filterMap_nil, List.getElem?_cons_zero, List.getElem?_cons_succ, Option.map_some]
      have hS : Below w2.heap.size w2 w2.drew := (Below.refl _ _).drew
      refine wpF_take (v := ?_) hS rfl ?_ (fun _ _ _ h => h) ?_
      rotate_left
      · intro w' hS'
        obtain _ := hS'
        go_simp <;> rfl
      go_simp
      refine wpF_take (v := ?_) hS rfl ?_ (fun _ _ _ h => h) ?_
      rotate_left
      · intro w' hS'
        obtain _ := hS'
        go_simp <;> rfl
      go_simp
      refine wpF_take (v := ?_) hS rfl ?_ (fun _ _ _ h => h) ?_
      rotate_left
      · intro w' hS'
        obtain _ := hS'
        go_simp <;> rfl
      go_simp
      refine wpF_take (v := ?_) hS rfl ?_ (fun _ _ _ h => h) ?_
      rotate_left
      · intro w' hS'
        obtain _ := hS'
        go_simp <;> rfl
      go_simp
      refine wpF_take (v := .string (strB Lx)) hS rfl (fun w' hS' => ?_) (fun _ _ _ h => h) ?_
      · have := run_str T23 (r1.below hS') c1 _ Try.underlying9
        go_simp <;> rw [this]
      go_simp
      refine wpF_take (v := ?_) hS rfl ?_ (fun _ _ _ h => h) ?_
      rotate_left
      · intro w' hS'
        obtain _ := hS'
        go_simp <;> rfl
      go_simp
      refine wpF_take (v := ?_) hS rfl ?_ (fun _ _ _ h => h) ?_
      rotate_left
      · intro w' hS'
        obtain _ := hS'
        go_simp <;> rfl
      go_simp
      refine wpF_take (v := .bool false) hS rfl (fun w' hS' => by go_simp) (fun _ _ _ h => h) ?_
      go_simp
      refine wpF_only rfl (fun K hK => wp_slice_h T23 rfl rfl rfl r2 hm hc2 (fun A3 r3 => ?_))
      refine hK _ _ ⟨fun _ => hS, ?_⟩
      go_simp
      refine wpF_take (v := .string (strB (Ly.take nx))) hS rfl (fun w' hS' => ?_) (fun _ _ _ h => h) ?_
      · have := run_str T23 (r3.below hS') c2 _ Try.underlying9
        go_simp <;> rw [this]
      go_simp
      refine wpF_take (v := .bool false) hS rfl (fun w' hS' => by go_simp) (fun _ _ _ h => h) ?_
      go_simp
      refine wpF_take (v := .bool true) hS rfl (fun w' hS' => by go_simp) (fun _ _ _ h => h) ?_
      go_simp
      refine wpF_take (v := ?_) hS rfl ?_ (fun _ _ _ h => h) ?_
      rotate_left
      · intro w' hS'
        obtain _ := hS'
        go_simp <;> rfl
      go_simp
      refine wpF_only rfl (fun K hK => ?_)
      go_wp2_with fail
      refine (awake3_any _).mono ?_
      rintro e w3 ⟨rfl, f3⟩
      have hS3 : Below w2.heap.size w2 w3 := (Below.refl w2.heap.size w2).drew.trans f3
      clear f3
      go_wp2_with fail
      refine ⟨fun _ => hS3, ?_⟩
      go_simp
      refine wpF_take (v := ?_) hS3 rfl ?_ (fun _ _ _ h => h) ?_
      rotate_left
      · intro w' hS'
        obtain _ := hS'
        go_simp <;> rfl
      go_simp
      refine wpF_only rfl (fun K hK => ?_)
      go_wp2_with fail
      refine ⟨fun h => absurd h (by omega), wpF_nil ?_⟩
      go_wp2_with fail
      go_ret
      exact ⟨rfl, F.trans (hS3.mono F.size)⟩
end Go.Proofs.Ytdblgjecbmebjaa
