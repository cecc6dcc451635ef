/- name.Parse walked. Conditions: the text is at most 10^6 bytes; the library's variable MaxLen holds some number. -/
import Derived.Test.YtopemhdoccgjmaaParseLaw
import Derived.Test.YtopemhdoccgjmaaShelf
namespace Go.Proofs.Ytopemhdoccgjmaa
open Go.RowKit
set_option linter.unusedVariables false
/-- What the laws' walks ask of a world: the library's variable holds a number. -/
def LibW (w : World) : Prop := ∃ m : Int, w.cell? ⟨0, 0, none⟩ = some (.int .i64 m)
theorem LibW.lt {w : World} (h : LibW w) : 0 < w.heap.size := by
  obtain ⟨m, hm⟩ := h
  exact World.block_lt_of_cell? w _ hm
theorem LibW.below {w w' : World} (h : LibW w) {B : Nat} (hB : 0 < B) (hb : Below B w w') : LibW w' := by
  obtain ⟨m, hm⟩ := h
  exact ⟨m, (hb.cell (p := ⟨0, 0, none⟩) hB).trans hm⟩
theorem cutPrefix_any (l : List UInt8) (w : World) :
    Calls Try.prog 22 #[.string (strB l), .string ⟨#[115, 112, 105, 102, 102, 101, 58, 47, 47, 109, 101, 115, 104, 47, 110, 115, 47]⟩] w fun e w' => e = .returned (.tuple #[.string (strB (Lib.trimPrefix l PRE)), .bool (Lib.hasPrefix l PRE)]) ∧ w' = w :=
  strings_CutPrefix (strB l) ⟨#[115, 112, 105, 102, 102, 101, 58, 47, 47, 109, 101, 115, 104, 47, 110, 115, 47]⟩ w
theorem cut_any (l : List UInt8) (w : World) (h : LibW w) (hl : l.length < 4294967281) :
    Calls Try.prog 23 #[.string (strB l), .string ⟨#[47, 115, 97, 47]⟩] w fun e w' => e = .returned (.tuple #[.string (strB (Lib.cut l BET).1), .string (strB (Lib.cut l BET).2.1), .bool (Lib.cut l BET).2.2]) ∧ Below w.heap.size w w' := by
  obtain ⟨m, hm⟩ := h
  refine (strings_Cut (strB l) ⟨#[47, 115, 97, 47]⟩ m w (by rw [strB_size]; exact hl) hm).mono ?_
  rintro e w' ⟨rfl, n, rfl⟩
  exact ⟨rfl, belowN (Below.refl _ w) n⟩
theorem Blk.sizedT {w : World} {g t : Nat} {cs : List Value} (h : Blk w g t cs) {fn : Func} {p u : Tmp} {ty : TypeId} (hf : fn.results = #[.cell p ty, .tmp u]) (tmps : Array Value) {P : Program} (hp : tmps.getD p undef = .pointer (some ⟨g, 0, none⟩)) {d : TypeDesc}
    (hu : P.underlying ty = some d) (hi : (P.info? ty).map (·.size) = some cs.length) (hd : d.isRow = true := by rfl) : (results fn tmps).run P w = .ok (.tuple #[.agg cs.toArray, tmps.getD u undef]) w := by
  have hp' : tmps[p]?.getD undef = .pointer (some ⟨g, 0, none⟩) := by simpa using hp
  have h1 : (loadVar ty ⟨g, 0, none⟩).run P w = .ok (.agg cs.toArray) w := by
    cases d <;> first | exact run_loadVar_row (P := P) w g t ty cs.toArray (0, 0) _ h hu rfl (by simpa using hi) | cases hd
  simp [results, hf, hp', asAddr, h1]
def psV : Option (List UInt8 × List UInt8) → Value
  | some (ns, sa) => .tuple #[nmV ns sa, .int .i64 0]
  | none => .tuple #[nmV [] [], .int .i64 2]
theorem trim_len (l p : List UInt8) : (Lib.trimPrefix l p).length ≤ l.length := by
  unfold Lib.trimPrefix
  split
  · rw [List.length_drop]; omega
  · exact Nat.le_refl _
theorem cut_len (l p : List UInt8) : (Lib.cut l p).1.length ≤ l.length ∧ (Lib.cut l p).2.1.length ≤ l.length := by
  unfold Lib.cut
  split
  · simp only [List.length_take, List.length_drop]; omega
  · simp
set_option maxRecDepth 100000 in
set_option maxHeartbeats 1000000 in
theorem parse_any (l : List UInt8) (hl : l.length ≤ 1000000) (w : World) (hL : LibW w) :
    Calls Try.prog 9 #[.string (strB l)] w fun e w' => e = .returned (psV (parseP l)) ∧ Below w.heap.size w w' := by
  have hi : (Try.prog.info? 24).map (·.size) = some 2 := by kernel_rfl
  have Hi := Lib.hid hi
  clear hi
  have h1 := trim_len l PRE
  have h2 := cut_len (Lib.trimPrefix l PRE) BET
  have hP : parseP l = (if Lib.hasPrefix l PRE && (Lib.cut (Lib.trimPrefix l PRE) BET).2.2 && mayN (Lib.cut (Lib.trimPrefix l PRE) BET).1 (Lib.cut (Lib.trimPrefix l PRE) BET).2.1 then some ((Lib.cut (Lib.trimPrefix l PRE) BET).1, (Lib.cut (Lib.trimPrefix l PRE) BET).2.1) else none) := rfl
  have HP := Lib.hid hP
  clear hP
  have hcp := fun w => cutPrefix_any l w
  have hct := fun w (h : LibW w) => cut_any (Lib.trimPrefix l PRE) w h (by omega)
  generalize Lib.hasPrefix l PRE = b1 at *
  generalize Lib.trimPrefix l PRE = rest at *
  generalize Lib.cut rest BET = C at *
  obtain ⟨ns, sa, b2⟩ := C
  simp only at h2 hct HP
  have hm := fun w => may_any ns sa (by omega) (by omega) w
  unfold nmV at hm
  have base : ∀ w1, Blk w1 w.heap.size 24 [.string (strB []), .string (strB [])] → True := fun _ _ => trivial
  go_enter Try.func9, Try.ntmps9
  go_wp2_with fail
  refine absC (fun w1 => Blk w1 w.heap.size 24 [.string (strB []), .string (strB [])] ∧ LibW w1 ∧ Below w.heap.size w w1) ⟨Blk.newAt rfl _ _, hL.below hL.lt ((Below.refl _ w).alloc (Nat.le_refl _) _), (Below.refl _ w).alloc (Nat.le_refl _) _⟩ ?_
  rintro w1 ⟨kz, L1, f1⟩
  refine (hcp w1).mono ?_
  rintro e w2 ⟨rfl, rfl⟩
  go_wp2_with fail
  refine (hct w2 L1).mono ?_
  rintro e w3 ⟨rfl, f3⟩
  replace kz := kz.below f3 kz.lt
  have F3 := f1.trans (f3.mono f1.size)
  clear hcp hct f3 f1 L1 base
  have kz4 := kz.alloc (.cells #[.string (strB ns), .string (strB sa)] 24)
  have k9 := Blk.of_new w3 24 [.string (strB ns), .string (strB sa)]
  have F4 : Below w.heap.size w (w3.alloc (.cells #[.string (strB ns), .string (strB sa)] 24)) := F3.alloc F3.size _
  have lz := kz.lt
  have HN0 : (b1 && b2 && mayN ns sa) = false → parseP l = none := fun h => by rw [HP.out, h]; rfl
  have HS0 : (b1 && b2 && mayN ns sa) = true → parseP l = some (ns, sa) := fun h => by rw [HP.out, h]; rfl
  have HN1 := Lib.hid HN0
  have HS1 := Lib.hid HS0
  clear HN0 HS0
  cases b1
  · have HN := Lib.hid (HN1.out rfl)
    go_wp2_with (first | (refine store_blk kz4 rfl 24 (.tmp 2) (.tmp 33) rfl rfl (us := [.string (strB []), .string (strB [])]) rfl Hi.out rfl rfl ?_; intro w9 k10 hg))
    refine bodyPost_ret (k10.sizedT rfl _ rfl Try.underlying24 Hi.out) rfl ⟨?_, F4.grown hg F4.size (by simp)⟩
    rw [HN.out]
    rfl
  cases b2
  · have HN := Lib.hid (HN1.out rfl)
    go_wp2_with (first | (refine store_blk kz4 rfl 24 (.tmp 2) (.tmp 33) rfl rfl (us := [.string (strB []), .string (strB [])]) rfl Hi.out rfl rfl ?_; intro w9 k10 hg))
    refine bodyPost_ret (k10.sizedT rfl _ rfl Try.underlying24 Hi.out) rfl ⟨?_, F4.grown hg F4.size (by simp)⟩
    rw [HN.out]
    rfl
  go_wp2_with fail
  refine (hm _).mono ?_
  rintro e w5 ⟨rfl, f5⟩
  have lz4 := kz4.lt
  have l9 := k9.lt
  replace kz4 := kz4.below f5 lz4
  replace k9 := k9.below f5 l9
  have F5 := F4.trans (f5.mono F4.size)
  clear f5 hm F4 kz
  cases hb : mayN ns sa
  · have HN := Lib.hid (HN1.out hb)
    go_wp2_with (first | (refine store_blk kz4 rfl 24 (.tmp 2) (.tmp 33) rfl rfl (us := [.string (strB []), .string (strB [])]) rfl Hi.out rfl rfl ?_; intro w9 k10 hg))
    refine bodyPost_ret (k10.sizedT rfl _ rfl Try.underlying24 Hi.out) rfl ⟨?_, F5.grown hg F5.size (by simp)⟩
    rw [HN.out]
    rfl
  · have HS := Lib.hid (HS1.out hb)
    go_wp2_with (first | (refine load_blk k9 rfl 24 (.tmp 9) rfl rfl Try.underlying24 Hi.out ?_) | (refine store_blk kz4 rfl 24 (.tmp 2) (.tmp 32) rfl rfl (us := [.string (strB ns), .string (strB sa)]) rfl Hi.out rfl rfl ?_; intro w9 k10 hg))
    refine bodyPost_ret (k10.sizedT rfl _ rfl Try.underlying24 Hi.out) rfl ⟨?_, F5.grown hg F5.size (by simp)⟩
    rw [HS.out]
    rfl
end Go.Proofs.Ytopemhdoccgjmaa
