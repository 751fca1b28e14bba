import Derived.Test.YtnmhgehpddipdaaGreatDoorYAC
import Derived.Test.YtnmhgehpddipdaaGreatDoorYAD
import Derived.RangeFuncCalls
import Derived.OrdersIn
import Derived.TacticsIn
set_option linter.unusedSimpArgs false
set_option linter.unusedVariables false
namespace Go.Cof
open Go.RowKit
def plainB(ops:List Oper):Bool:=ops.all λo=>match o.op with| .defer _=>false|_=>true
theorem plainB_at{ops:List Oper}(h:plainB ops=true){i:Nat}{o:Oper}(ho:ops.toArray[i]? =some o):∀c,o.op≠ .defer c:=by
 intro c hc
 have hm:o∈ops:=List.mem_of_getElem? (by simpa using ho)
 have:=List.all_eq_true.1 h o hm
 rw[hc]at this
 cases this
section
variable {P:Program}
end
section
variable {P:Program}{l n:Nat}{a:Act}{w:World}{Q:Exit->Act->World->Prop}
theorem rowsIn_of{row:String}{args:Array Value}{R:Value->World->Prop}(h:Rows P row args w R):RowsIn (Fence.wide.inRound l) n P row args w R:=by
 intro c cs _
 obtain⟨v,w',hr,hs⟩:=h c cs
 exact⟨v,w',hr,stepsIn_wide.2 hs⟩
theorem uponIn_of{o:Oper}{next:Act->World->Prop}{r:Result Next}(h:o.upon P a next Q r):o.uponIn (Fence.wide.inRound l) n P a next Q r:=by
 unfold Oper.upon at h
 unfold Oper.uponIn
 split at h
 ·exact h
 ·exact h
 ·exact h
 ·exact⟨λx=>by simp[Fence.wide]at x,CallsIn.inRound l (callsIn_wide.2 h)⟩
 ·exact⟨λx=>by simp[Fence.wide]at x,rowsIn_of h⟩
 ·exact h
 ·exact h.elim
theorem wpIn_of{o:Oper}{next:Act->World->Prop}(hd:∀c,o.op≠ .defer c)(h:o.wp P a w next Q):o.wpIn (Fence.wide.inRound l) n P a w next Q:=by
 refine⟨λ_ _=>trivial,?_⟩
 rw[Oper.semAt_eq _ _ _ hd]
 exact uponIn_of h
theorem wpAnyIn_of{md:Region.Mode}{ops:List Oper}(hp:plainB ops=true)(hlo:¬LetsOut Q):∀(g:Nat) (done:Array Bool) (a:Act) (w:World),wpAny P md ops.toArray Q g done a w->wpAnyIn (Fence.wide.inRound l) n P md ops.toArray Q g done a w
 | 0,_,_,_,h=>h
 | g+1,done,a,w,h=>by
  refine⟨h.1,λi hi=> ?_⟩
  have h1:=h.2 i hi
  unfold wpOpIn
  unfold wpOp at h1
  split
  ·rename_i hn
   rw[hn]at h1
   exact wpAnyIn_of hp hlo g _ a w h1
  ·rename_i o ho
   rw[ho]at h1
   dsimp only at h1
   split
   ·rename_i hw
    rw[if_pos hw]at h1
    rcases h1 with h1|h1
    ·exact wpIn_of (plainB_at hp ho) (Oper.wp_mono (λa w hh=>wpAnyIn_of hp hlo g _ a w hh) h1)
    ·exact absurd h1.2 hlo
   ·rename_i hw
    rw[if_neg hw]at h1
    exact⟨λ_ _=>trivial,wpAnyIn_of hp hlo g _ _ w h1⟩
end
inductive Plan
 | row (R:List Nat)
 | fork (i:Nat) (p:Plan) (j:Nat) (q:Plan)
def Plan.len:Plan->Nat
 | .row R=>R.length
 | .fork _ p _ _=>p.len+1
section
variable {P:Program}
def planB(md:Region.Mode)(ops:Array Oper):Plan->Array Bool->Bool
 | .row R,done=>rowB md ops R done
 | .fork i p j q,done=>decide (Region.ready md ops done= [i,j])&&planB md ops p (done.setIfInBounds i true)&&planB md ops q (done.setIfInBounds j true)&&decide (p.len=q.len)
def wpPlan(P:Program)(ops:Array Oper)(Q:Exit->Act->World->Prop):Plan->Act->World->Prop
 | .row R,a,w=>wpList P ops Q (pickL ops R) a w
 | .fork i p j q,a,w=>wpList P ops (Exit.then (wpPlan P ops Q p) Q) (pickL ops [i]) a w∧wpList P ops (Exit.then (wpPlan P ops Q q) Q) (pickL ops [j]) a w
theorem wpOp_of_list{ops:Array Oper}{Q:Exit->Act->World->Prop}{K:Act->World->Prop}{i:Nat}{o:Oper}(ho:ops[i]? =some o){a:Act}{w:World}(h:wpList P ops (Exit.then K Q) (pickL ops [i]) a w):wpOp P ops Q i K a w:=by
 unfold wpOp
 simp only[pickL,ho,wpList]at h⊢
 split
 ·rename_i hw
  rw[if_pos hw]at h
  rcases h with h|⟨h1,h2⟩
  ·left
   unfold Oper.wp at*
   generalize (execOp a.eval o).run P w=r at*
   cases r with
   | ok n w'=>
    cases n<;>simp only[Oper.upon]at h⊢ <;>first|exact h|(refine Calls.mono h λe w'' he=> ?_;cases e<;>first|exact he|(obtain⟨a2,w2,h3⟩:=he;exact⟨a2,w2,h3⟩))
   | halt x w'=>cases x<;>simp only[Oper.upon]at h⊢;exact h
  ·right
   obtain⟨a2,w2,h3⟩:=h2
   exact⟨h1,a2,w2,h3⟩
 ·rename_i hw
  rw[if_neg hw]at h
  exact h
theorem wpAny_of_plan{md:Region.Mode}{ops:Array Oper}{Q:Exit->Act->World->Prop} :∀(p:Plan) (done:Array Bool) (a:Act) (w:World),planB md ops p done=true->wpPlan P ops Q p a w->wpAny P md ops Q p.len done a w
 | .row R,done,a,w,hB,h=>wpAny_of_row R done a w hB h
 | .fork i p j q,done,a,w,hB,h=>by
  simp only[planB,Bool.and_eq_true,decide_eq_true_eq]at hB
  obtain⟨⟨⟨hr,hp⟩,hq⟩,hl⟩:=hB
  refine⟨λh1=>(by rw[hr]at h1;cases h1),λk hk=> ?_⟩
  obtain⟨_,o,ho,_⟩:=mem_ready.1 hk
  rw[hr]at hk
  have hk':k=i∨k=j:=by simpa using hk
  rcases hk' with rfl|rfl
  ·exact wpOp_mono (λa' w' h'=>wpAny_of_plan p _ a' w' hp h') (wpOp_of_list ho h.1)
  ·exact wpOp_mono (λa' w' h'=>by have:=wpAny_of_plan q _ a' w' hq h';rwa [<-hl]at this) (wpOp_of_list ho h.2)
end
section
variable {P:Program}{l n:Nat}{a:Act}{w:World}{Q:Exit->Act->World->Prop}
def erPlanB(md:Region.Mode)(ops:Array Oper)(S:List Nat)(p:Plan):Bool:=
 Region.noSelect ops&&earlyOk md ops S (Array.replicate ops.size false)&&planB md ops p (marked S (Array.replicate ops.size false))&&decide (S.length+p.len=ops.size)
theorem wpEarly_mono{ops:Array Oper} :∀(L:List Oper) (Z Z':Act->Prop) (a:Act),(∀a,Z a->Z' a)->wpEarly P ops Z L a->wpEarly P ops Z' L a:=by
 intro L
 induction L with
 | nil=>intro Z Z' a hz h;exact hz a h
 | cons o L ih=>
  intro Z Z' a hz h
  unfold wpEarly at h⊢
  split at h
  ·rename_i hw
   rw[if_pos hw]
   obtain⟨v,hv,hk⟩:=h
   exact⟨v,hv,ih Z Z' _ hz hk⟩
  ·rename_i hw
   rw[if_neg hw]
   exact ih Z Z' _ hz h
theorem wpAny_of_erPlan{ops:Array Oper}(S:List Nat)(p:Plan)(hB:erPlanB .any ops S p=true)(hQ:∀c (a:Act) d v w,Q (.panic c) (a.put d v) w->Q (.panic c) a w)
  (h:wpEarly P ops (λa'=>wpPlan P ops Q p a' w) (pickL ops S) a):wpAny P .any ops Q ops.size (Array.replicate ops.size false) a w:=by
 simp only[erPlanB,Bool.and_eq_true,decide_eq_true_eq]at hB
 obtain⟨⟨⟨hns,he⟩,hp⟩,hl⟩:=hB
 have H:=wpAny_early (md:= .any) (P:=P) (ops:=ops) (Q:=Q) (w:=w) hns hQ (g:=p.len) S (Array.replicate ops.size false) a he (wpEarly_mono _ _ _ a (λa' h'=>wpAny_of_plan p _ a' w hp h') h)
 rwa [hl]at H
theorem wpIn_region_plan{id:Nat}{ops:List Oper}(S:List Nat)(p:Plan)(hm:P.follows .mixedOrders=true)(hB:erPlanB .any ops.toArray S p=true)(hp:plainB ops=true)(hlo:¬LetsOut Q)(hQ:∀c (a:Act) d v w,Q (.panic c) (a.put d v) w->Q (.panic c) a w)
  (h:wpEarly P ops.toArray (λa'=>wpPlan P ops.toArray Q p a' w.drew) (pickL ops.toArray S) a):(Code.region id ops.toArray true).wpIn (Fence.wide.inRound l) n P Q a w:=by
 refine wpIn_region_any hm ?_
 refine wpAnyIn_of hp hlo _ _ _ _ ?_
 exact wpAny_of_erPlan S p hB hQ h
theorem wp_region_plan{id:Nat}{ops:List Oper}(S:List Nat)(p:Plan)(hm:P.follows .mixedOrders=true)(hB:erPlanB .any ops.toArray S p=true)(hQ:∀c (a:Act) d v w,Q (.panic c) (a.put d v) w->Q (.panic c) a w)
  (h:wpEarly P ops.toArray (λa'=>wpPlan P ops.toArray Q p a' w.drew) (pickL ops.toArray S) a):(Code.region id ops.toArray true).wp P Q a w:=by
 refine wp_region_any hm ?_
 exact wpAny_of_erPlan S p hB hQ h
end
end Go.Cof
