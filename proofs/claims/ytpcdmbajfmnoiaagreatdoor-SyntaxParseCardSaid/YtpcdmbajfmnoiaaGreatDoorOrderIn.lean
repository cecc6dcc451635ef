/- A drawn region within a round of a range over a function, gone through as anywhere: an order that the prover names. No condition. -/
import Derived.Test.YtpcdmbajfmnoiaaGreatDoorOrder
import Derived.RangeFuncNested
import Derived.RangeFuncCalls
import Derived.OwnWalkIn
import Derived.OrdersIn
namespace Go.Proofs.YtpcdmbajfmnoiaaGreatDoor
set_option linter.unusedVariables false
set_option linter.unusedSimpArgs false
open Go.RowKit
section
variable {P:Program} {ops:Array Oper} {Q:Exit→Act→World→Prop} {l n:Nat}
def noDeferB(ops:Array Oper):Bool:=ops.all fun o=>match o.op with| .defer _=>false|_=>true
theorem noDefer_spec(h:noDeferB ops=true){i:Nat}{o:Oper}(hi:ops[i]?=some o):∀c,o.op≠ .defer c:=by
 intro c hc
 unfold noDeferB at h
 rw[Array.all_eq_true'] at h
 have:=h o (Array.mem_of_getElem? hi)
 rw[hc] at this
 cases this
theorem op_in_round{o:Oper}{a:Act}{w:World}{K:Act→World→Prop}(hd:∀c,o.op≠ .defer c)(h:o.wp P a w K Q):o.wpIn (Fence.wide.inRound l) n P a w K Q:=by
 unfold Oper.wpIn
 refine⟨fun _ _=>trivial,?_⟩
 rw[Oper.semAt_eq _ _ _ hd]
 unfold Oper.wp at h
 cases hr:(execOp a.eval o).run P w with
 | ok nx w' =>
  rw[hr] at h
  cases nx with
  | value v=>exact h
  | skip=>exact h
  | defer d=>exact h
  | enter f args=>exact⟨fun hh=>(by cases hh),(CallsIn.inRound l (callsIn_wide.2 h))⟩
  | row row args=>exact⟨fun hh=>(by cases hh),fun c cs _=>let ⟨v,w',r,s⟩:=h c cs;⟨v,w',r,(stepsIn_wide (P:=P)).2 s⟩⟩
  | _=>exact h.elim
 | halt x w' =>
  rw[hr] at h
  cases x<;>first|exact h|exact h.elim
theorem wpAnyIn_of_wpAny{md:Region.Mode}(hd:noDeferB ops=true)(hQ:¬LetsOut Q):∀(fuel:Nat)(listed:Array Bool)(a:Act)(w:World),wpAny P md ops Q fuel listed a w→wpAnyIn (Fence.wide.inRound l) n P md ops Q fuel listed a w
 | 0,_,_,_,h=>h
 | fuel+1,listed,a,w,h=>⟨h.1,fun i hi=>by
   have h1:=h.2 i hi
   unfold wpOp at h1
   unfold wpOpIn
   cases ho:ops[i]? with
   | none=>rw[ho] at h1;exact wpAnyIn_of_wpAny hd hQ fuel _ _ _ h1
   | some o =>
    rw[ho] at h1
    simp only at h1 ⊢
    split
    ·rename_i hw
     rw[if_pos hw] at h1
     rcases h1 with h1|⟨_,h1⟩
     ·exact op_in_round (noDefer_spec hd ho) (Oper.wp_mono (fun a' w' h'=>wpAnyIn_of_wpAny hd hQ fuel _ a' w' h') h1)
     exact absurd h1 hQ
    rename_i hw
    rw[if_neg hw] at h1
    exact⟨fun _ _=>trivial,wpAnyIn_of_wpAny hd hQ fuel _ _ _ h1⟩⟩
theorem wpIn_region_order{id:Nat}{ls:List Oper}{a:Act}{w:World}(S:World→Prop)(last:Nat)(r:List (Nat×Nat))(hm:P.follows .mixedOrders=true)
  (hB:(Region.noSelect ls.toArray&&orderB ls.toArray last r (Array.replicate ls.toArray.size false)&&r.length==ls.toArray.size&&noDeferB ls.toArray)=true)
  (h:wpF P ls.toArray (fun e a w=>e≠ .outgrown∧Q e a w) S (pick ls r) a w.drew):(Code.region id ls.toArray true).wpIn (Fence.wide.inRound l) n P Q a w:=by
 simp only[Bool.and_eq_true,beq_iff_eq] at hB
 obtain⟨⟨⟨hs,hB⟩,hl⟩,hd⟩:=hB
 refine wpIn_mono (Q:=fun e a w=>e≠ .outgrown∧Q e a w) ?_ fun e a w h=>h.2
 refine wpIn_region_any hm (wpAnyIn_of_wpAny hd (fun h=>by obtain⟨_,_,h,_⟩:=h;exact h rfl) _ _ _ _ (wpAny_of_wpS (S:=S) (last:=last) _ _ _ _ ?_))
 have:=wpS_of_wpF hs r _ a _ hB h
 rwa [hl] at this
end
end Go.Proofs.YtpcdmbajfmnoiaaGreatDoor
