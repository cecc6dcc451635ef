/- append of rows as an operation of a drawn region. No condition. -/
import Derived.Test.YtddfgalofngoiaaGreatDoorRowR
namespace Go.Proofs.YtddfgalofngoiaaGreatDoor
open Go.RowKit
set_option linter.unusedVariables false
theorem wp_appendRow {α : Type} {enc : α → List Value} {k : Nat} {P : Program} {t e : TypeId} {bytes : Nat} {z : Value} (T : RowTy P t e k bytes z) (hk : ∀ x, (enc x).length = k) (h1 : ∀ x, ∀ v ∈ enc x, v.oneCell' = true) {o : Oper} {a : Act} {K : Act → World → Prop} {Q : Exit → Act → World → Prop} {w0 w : World}
    {s x : Operand} (ho : o.op = .call { callee := .builtin .append, args := #[s, x], argTypes := #[t, t] })
    {base : Nat} {A : Option Addr} {n c : Nat} {L : List α} (hs : a.eval s = .slice A n c) (hown : OwnR enc k w base e (.slice A n c) L)
    {B : Nat} {A2 : Option Addr} {m c2 : Nat} {L2 : List α} (hx : a.eval x = .slice A2 m c2) (hr : RdR enc k w B A2 m L2) (hlen : (n + m) * bytes ≤ 140737488355328) (hmax : n + m ≤ maxLen) (hB : Below base w0 w) (hbase : base ≤ w0.heap.size)
    (h : ∀ A' c' w', OwnR enc k w' base e (.slice A' (n + m) c') (L ++ L2) → Below base w0 w' → w.grownBy w' (Value.slice A n c).ownBlock → K (a.put o.dst (.slice A' (n + m) c')) w') :
    o.wp P a w K Q := by
  obtain ⟨A', c', w', hrun, h2, h3⟩ := run_appendRow T hk h1 o.type hown hr c2 hlen hmax (Nat.le_trans hbase hB.size)
  unfold Oper.wp execOp
  simp only [ho, resolve, invoke, builtin, Sem.run_bind, Sem.run_pure, Result.andThen_ok, List.map_toArray, List.map_cons, List.map_nil, hs, hx, hrun]
  exact h A' c' w' h2 (hB.grown h3 (Nat.le_trans hbase hB.size) (fun k hk => (World.ownsRow.lt hown k hk).1)) h3
end Go.Proofs.YtddfgalofngoiaaGreatDoor
