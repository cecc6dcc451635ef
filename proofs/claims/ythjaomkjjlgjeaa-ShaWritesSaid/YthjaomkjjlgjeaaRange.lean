/- A range over an iterator that never ends by itself: the caller's invariant bounds the rounds. 'Counts': the iterator's contract: its k-th element is enc k; it is handed a J that says 'k < N'. 'wpIn_count': the caller's law: each round is gone through at its own k; the loop is left by a 'return'. -/
import Derived.RangeFuncNested
import Derived.RangeFuncCalls
import Derived.Test.YthjaomkjjlgjeaaBase
namespace Go.Proofs.Ythjaomkjjlgjeaa
open Go.RowKit

/-- The iterator gf: whatever a round keeps of J k, and J bounds k, the k-th element is enc k; it ends only where a round has said 'no more'. -/
def Counts (F : Fence) (n : Nat) (P : Program) (gf : Nat) (lb : Array Value) (enc : Nat → Array Value) (N : Nat) (w : World) : Prop :=
  ∀ (l : Nat) (J Jx : Nat → World → Prop) (W : World), Below w.heap.size w W → AbidesFrom W.heap.size J → AbidesFrom W.heap.size Jx → (∀ k W1, J k W1 → k < N) →
    (∀ k W1, J k W1 → YieldAt F (n - 1) P l (enc k) W1 fun e W' => (e = .returned (.bool true) ∧ J (k + 1) W') ∨ (e = .returned (.bool false) ∧ Jx k W')) →
    J 0 W → CallsIn F n P gf (#[.func (.yield l) #[] #[]] ++ lb) W fun e W' => (∃ v, e = .returned v) ∧ ∃ k, Jx k W'

/-- How a round's body is left. -/
def roundLeft (B : Nat) (I Ix : Nat → World → Prop) (k : Nat) (W : World) (e : Exit) (_ : Act) (W' : World) : Prop :=
  KeepsFrom B W W' ∧ ((e = .normal ∧ I (k + 1) W') ∨ (e = .ret ∧ Ix k W'))

theorem wpIn_count {F : Fence} {n : Nat} {P : Program} {g : Operand} {ps : Array Tmp} {assign body : Code} {Q : Exit → Act → World → Prop} {a : Act} {w : World}
    (hro : F.round = none) (h1 : 1 ≤ n) {gf : Nat} {lb : Array Value} (hg : a.eval g = .func (.func gf) #[] lb) (hFg : F.fn gf) (eg : ∀ args w, (callFunc gf args).run P w = .ok (.enter gf args) w)
    {enc : Nat → Array Value} {N : Nat} (hseq : Counts F (n - 1) P gf lb enc N w) (hps : ∀ k, (enc k).size = ps.size)
    (I Ix : Nat → World → Prop) (hI : OwnFrom w.heap.size I) (hIx : OwnFrom w.heap.size Ix) (h0 : I 0 w) (hN : ∀ k W, I k W → k < N) (a₁ : Nat → Act)
    (hassign : ∀ (l k : Nat) (W : World) (K : Act → World → Prop), K (a₁ k) W →
      assign.wpIn (F.inRound l) (n - 1 - 1) P (Exit.then K (fun _ _ _ => False)) { tmps := (ps.zip (enc k)).foldl (fun t (p, v) => t.setIfInBounds p v) a.tmps, defers := [] } W)
    (hbody : ∀ (l k : Nat) (W : World), I k W → body.wpIn (F.inRound l) (n - 1 - 1) P (roundLeft w.heap.size I Ix k W) (a₁ k) W)
    (hstop : ∀ (D k : Nat) (W : World), w.heap.size ≤ D → Ix k W → W.heap[D]? = some (.deferred (some [])) → Code.ret.wpIn F n P Q { a with defers := { target := .collected D, args := #[] } :: a.defers } W) :
    (Code.rangeFunc g ps assign body).wpIn F n P Q a w := by
  refine wpIn_rangeFunc fun fn hfn => ?_
  rw [hro]
  obtain ⟨rc, hrc⟩ : ∃ rc : LoopState → Option Code → Loop, rc = fun s j => { state := s, pending := j, fn, tmps := a.tmps, params := ps, assign, body, defers := w.heap.size } := ⟨_, rfl⟩
  have hpend : ∀ s j, (rc s j).pending = j := fun s j => by rw [hrc]
  have hst : ∀ s j, (rc s j).state = s := fun s j => by rw [hrc]
  have hset : ∀ s j s', ({ rc s j with state := s' } : Loop) = rc s' j := fun s j s' => by rw [hrc]
  have hset2 : ∀ s j s' j', ({ rc s j with state := s', pending := j' } : Loop) = rc s' j' := fun s j s' j' => by rw [hrc]
  obtain ⟨W1, hW1⟩ : ∃ W1, (w.alloc (.deferred (some []))).alloc (.loop (rc .ready none)) = W1 := ⟨_, rfl⟩
  have hsz : W1.heap.size = w.heap.size + 2 := by rw [← hW1]; simp
  have hl1 : W1.heap[w.heap.size + 1]? = some (.loop (rc .ready none)) := by
    rw [← hW1]; have h := World.alloc_heap_new (w.alloc (.deferred (some []))) (.loop (rc .ready none)); rwa [World.size_alloc] at h
  have hd1 : W1.heap[w.heap.size]? = some (.deferred (some [])) := by
    rw [← hW1]; exact (Below.heap_alloc _ _ _ (by simp)).trans (World.alloc_heap_new w _)
  have hb1 : Below w.heap.size w W1 := by rw [← hW1]; exact ((Below.refl _ w).alloc (Nat.le_refl _) _).alloc (by simp) _
  -- the block of the loop's record turns: what lies beside it stays
  have turn : ∀ {J : Nat → World → Prop} {k : Nat} {W : World} {o : Loop} (o' : Obj), OwnFrom w.heap.size J → J k W → W.heap[w.heap.size + 1]? = some (.loop o) → J k (W.putObj (w.heap.size + 1) o') :=
    fun o' hJ h hl => hJ.putObj o' h (by omega) hl rfl
  have mark : ∀ {W : World} (o' : Obj), W.heap[w.heap.size]? = some (.deferred (some [])) → (W.putObj (w.heap.size + 1) o').heap[w.heap.size]? = some (.deferred (some [])) :=
    fun o' h => (World.putObj_heap_other (by omega)).trans h
  have self : ∀ {W : World} {o : Loop} (o' : Obj), W.heap[w.heap.size + 1]? = some (.loop o) → (W.putObj (w.heap.size + 1) o').heap[w.heap.size + 1]? = some o' :=
    fun o' h => World.putObj_heap_same (Array.getElem?_eq_some_iff.1 h).1
  have walks : ∀ {A B : World} {row : Option Nat}, (∀ r, row = some r → W1.heap.size ≤ r ∧ ∃ o : Obj, A.heap[r]? = some o ∧ o.isWalk = true) → (∀ r, row = some r → w.heap.size ≤ r ∧ ∃ o : Obj, A.heap[r]? = some o ∧ o.isCells = false) :=
    fun h r e => by obtain ⟨hB, o, ho, hw⟩ := h r e; exact ⟨by omega, o, ho, Obj.not_cells_of_walk hw⟩
  refine ⟨w.heap.size + 1, [{ target := .collected w.heap.size, args := #[] }], W1, { target := .fn (.func gf) lb, args := #[.func (.yield (w.heap.size + 1)) #[] #[]] }, W1, gf,
    #[.func (.yield (w.heap.size + 1)) #[] #[]] ++ lb, W1, ?_, ?_, ?_, ?_, fun _ => h1, ?_⟩
  · rw [← hW1, hrc]; exact run_enterLoop_outer _ _ _ _ _
  · simp only [resolve, hg]
    simp [go_sem]
  · intro f' h; simp [Target.leads] at h; subst h; exact hFg
  · simp [invoke, go_sem, eg]
  refine (hseq (w.heap.size + 1)
    (fun k W => I k W ∧ W.heap[w.heap.size + 1]? = some (.loop (rc .ready none)) ∧ W.heap[w.heap.size]? = some (.deferred (some [])))
    (fun k W => Ix k W ∧ W.heap[w.heap.size + 1]? = some (.loop (rc .done (some .ret))) ∧ W.heap[w.heap.size]? = some (.deferred (some []))) W1 hb1
    (fun s A B row h hg' hr => ⟨hI s A B row h.1 hg' (walks (B := B) hr), (grownBy_keeps hg' (fun r e => (hr r e).2) h.2.1 rfl).trans h.2.1, (grownBy_keeps hg' (fun r e => (hr r e).2) h.2.2 rfl).trans h.2.2⟩)
    (fun s A B row h hg' hr => ⟨hIx s A B row h.1 hg' (walks (B := B) hr), (grownBy_keeps hg' (fun r e => (hr r e).2) h.2.1 rfl).trans h.2.1, (grownBy_keeps hg' (fun r e => (hr r e).2) h.2.2 rfl).trans h.2.2⟩)
    (fun k W h => hN k W h.1) ?_ ⟨by rw [← hW1]; exact hI.alloc _ (hI.alloc _ h0), hl1, hd1⟩).mono ?_
  · -- a round
    rintro k W ⟨hi, hl, hd⟩
    have hy := run_yield (P := P) (args := enc k) hl (by rw [hrc]; exact hps k)
    have hb : (Instr.beginRound (w.heap.size + 1)).run P W = .ok () (W.putObj (w.heap.size + 1) (.loop (rc .busy none))) := by
      rw [run_beginRound hl (hst _ _), hset]
    rw [show (rc .ready none).fn = fn by rw [hrc], show (rc .ready none).params = ps by rw [hrc], show (rc .ready none).tmps = a.tmps by rw [hrc], show (rc .ready none).assign = assign by rw [hrc], show (rc .ready none).body = body by rw [hrc]] at hy
    refine ⟨fn, _, assign, body, hy, roundIn_of_wpIn hfn (hassign _ k W _ ⟨_, hb, ?_⟩)⟩
    have hl2 := self (.loop (rc .busy none)) hl
    have hd2 := mark (.loop (rc .busy none)) hd
    refine wpIn_mono (hbody _ k _ (turn _ hI hi hl)) ?_
    rintro e a3 W3 ⟨hk3, h3⟩
    have hl3 := hk3.same _ _ (by omega) hl2 rfl
    have hd3 := hk3.same _ _ (Nat.le_refl _) hd2 rfl
    rcases h3 with ⟨rfl, h3⟩ | ⟨rfl, h3⟩
    · refine ⟨.bool true, _, ?_, .inl ⟨rfl, turn (.loop (rc .ready none)) hI h3 hl3, self _ hl3, mark _ hd3⟩⟩
      rw [run_endRound none hl3]
      simp [hset2]
    · refine ⟨.bool false, _, ?_, .inr ⟨rfl, turn (.loop (rc .done (some .ret))) hIx h3 hl3, self _ hl3, mark _ hd3⟩⟩
      rw [run_endRound (some .ret) hl3]
      simp [hset2]
  · -- behind the iterator
    rintro e W2 ⟨⟨v, rfl⟩, k, hi, hl, hd⟩
    refine ⟨some .ret, _, by rw [run_endLoop hl (by rw [hst]; simp), hpend], hstop _ k _ (Nat.le_refl _) (turn _ hIx hi hl) (mark _ hd)⟩
end Go.Proofs.Ythjaomkjjlgjeaa
