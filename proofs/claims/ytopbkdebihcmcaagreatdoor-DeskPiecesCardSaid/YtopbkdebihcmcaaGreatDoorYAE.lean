import Derived.Test.YtopbkdebihcmcaaGreatDoorYAD
import Derived.RangeFuncCalls
import Derived.OrdersIn
set_option linter.unusedSimpArgs false
set_option linter.unusedVariables false
namespace Go.Proofs.YtopbkdebihcmcaaGreatDoor
open Go.RowKit
set_option maxRecDepth 100000
set_option maxHeartbeats 16000000
def za6(ops:List Oper):Bool:=ops.all λo=>match o.op with| .defer _=>false|_=>true
theorem zd6{ops:List Oper}(h:za6 ops=true){i:Nat}{o:Oper}(ho:ops.toArray[i]? =some o):∀c,o.op≠ .defer c:=by intro c hc;have hm:o∈ops:=bg (by simpa using ho);have:=gQ.1 h o hm;rw[hc]at this;cases this
section
variable {P:Program}
end
section
variable {P:Program}{l n:Nat}{a:Act}{w:World}{Q:Exit->Act->World->Prop}
theorem zdZ{row:String}{args:Array Value}{R:Value->World->Prop}(h:Rows P row args w R):RowsIn (Fence.wide.inRound l) n P row args w R:=by intro c cs _;obtain⟨v,w',hr,hs⟩:=h c cs;exact⟨v,w',hr,stepsIn_wide.2 hs⟩
theorem zdE{o:Oper}{next:Act->World->Prop}{r:Result Next}(h:o.upon P a next Q r):o.uponIn (Fence.wide.inRound l) n P a next Q r:=by
 unfold Oper.upon at h;unfold Oper.uponIn;split at h
 ·exact h
 ·exact h
 ·exact h
 ·exact⟨λx=>by simp[Fence.wide]at x,CallsIn.inRound l (fF.2 h)⟩
 ·exact⟨λx=>by simp[Fence.wide]at x,zdZ h⟩
 ·exact h
 ·exact h.elim
theorem ziw{o:Oper}{next:Act->World->Prop}(hd:∀c,o.op≠ .defer c)(h:o.wp P a w next Q):o.wpIn (Fence.wide.inRound l) n P a w next Q:=by refine⟨λ_ _=>trivial,?_⟩;rw[Oper.semAt_eq _ _ _ hd];exact zdE h
theorem EL{md:Region.Mode}{ops:List Oper}(hp:za6 ops=true)(hlo:¬LetsOut Q):∀(g:Nat) (done:Array Bool) (a:Act) (w:World),wpAny P md ops.toArray Q g done a w->wpAnyIn (Fence.wide.inRound l) n P md ops.toArray Q g done a w
 | 0,_,_,_,h=>h
 | g+1,done,a,w,h=>by
  refine⟨h.1,λi hi=> ?_⟩;have h1:=h.2 i hi;unfold wpOpIn;unfold wpOp at h1;split
  ·rename_i hn;rw[hn]at h1;exact EL hp hlo g _ a w h1
  ·rename_i o ho;rw[ho]at h1;dsimp only at h1;split
   ·rename_i hw;rw[aP hw]at h1;rcases h1 with h1|h1
    ·exact ziw (zd6 hp ho) (Oper.wp_mono (λa w hh=>EL hp hlo g _ a w hh) h1)
    ·exact absurd h1.2 hlo
   ·rename_i hw;rw[aB hw]at h1;exact⟨λ_ _=>trivial,EL hp hlo g _ _ w h1⟩
end
inductive QE
 | row (R:List Nat)
 | fork (i:Nat) (p:QE) (j:Nat) (q:QE)
def QE.len:QE->Nat
 | .row R=>R.length
 | .fork _ p _ _=>p.len+1
section
variable {P:Program}
def Yw(md:Region.Mode)(ops:Array Oper):QE->Array Bool->Bool
 | .row R,done=>rowB md ops R done
 | .fork i p j q,done=>decide (Region.ready md ops done= [i,j])&&Yw md ops p (done.setIfInBounds i true)&&Yw md ops q (done.setIfInBounds j true)&&decide (p.len=q.len)
def zO(P:Program)(ops:Array Oper)(Q:Exit->Act->World->Prop):QE->Act->World->Prop
 | .row R,a,w=>wpList P ops Q (nR ops R) a w
 | .fork i p j q,a,w=>wpList P ops (Exit.then (zO P ops Q p) Q) (nR ops [i]) a w∧wpList P ops (Exit.then (zO P ops Q q) Q) (nR ops [j]) a w
theorem Le{ops:Array Oper}{Q:Exit->Act->World->Prop}{K:Act->World->Prop}{i:Nat}{o:Oper}(ho:ops[i]? =some o){a:Act}{w:World}(h:wpList P ops (Exit.then K Q) (nR ops [i]) a w):wpOp P ops Q i K a w:=by
 unfold wpOp;simp only[nR,ho,wpList]at h⊢;split
 ·rename_i hw;rw[aP hw]at h;rcases h with h|⟨h1,h2⟩
  ·left;unfold Oper.wp at*;generalize (execOp a.eval o).run P w=r at*;cases r with
   | ok n w'=>
    cases n<;>simp only[Oper.upon]at h⊢ <;>first|exact h|(refine Calls.mono h λe w'' he=> ?_;cases e<;>first|exact he|(obtain⟨a2,w2,h3⟩:=he;exact⟨a2,w2,h3⟩))
   | halt x w'=>cases x<;>simp only[Oper.upon]at h⊢;exact h
  ·right;obtain⟨a2,w2,h3⟩:=h2;exact⟨h1,a2,w2,h3⟩
 ·rename_i hw;rw[aB hw]at h;exact h
theorem Dx{md:Region.Mode}{ops:Array Oper}{Q:Exit->Act->World->Prop} :∀(p:QE) (done:Array Bool) (a:Act) (w:World),Yw md ops p done=true->zO P ops Q p a w->wpAny P md ops Q p.len done a w
 | .row R,done,a,w,hB,h=>Lh R done a w hB h
 | .fork i p j q,done,a,w,hB,h=>by
  simp only[Yw,aZ,aS]at hB;obtain⟨⟨⟨hr,hp⟩,hq⟩,hl⟩:=hB;refine⟨λh1=>(by rw[hr]at h1;cases h1),λk hk=> ?_⟩;obtain⟨_,o,ho,_⟩:=mem_ready.1 hk;rw[hr]at hk;have hk':k=i∨k=j:=by simpa using hk
  rcases hk' with rfl|rfl
  ·exact wpOp_mono (λa' w' h'=>Dx p _ a' w' hp h') (Le ho h.1)
  ·exact wpOp_mono (λa' w' h'=>by have:=Dx q _ a' w' hq h';rwa [<-hl]at this) (Le ho h.2)
end
section
variable {P:Program}{l n:Nat}{a:Act}{w:World}{Q:Exit->Act->World->Prop}
def Qp(md:Region.Mode)(ops:Array Oper)(S:List Nat)(p:QE):Bool:=
 Region.noSelect ops&&EI md ops S (Array.replicate ops.size false)&&Yw md ops p (marked S (Array.replicate ops.size false))&&decide (S.length+p.len=ops.size)
theorem Xq{ops:Array Oper} :∀(L:List Oper) (Z Z':Act->Prop) (a:Act),(∀a,Z a->Z' a)->uk P ops Z L a->uk P ops Z' L a:=by
 intro L
 induction L with
 | nil=>intro Z Z' a hz h;exact hz a h
 | cons o L ih=>
  intro Z Z' a hz h;unfold uk at h⊢;split at h
  ·rename_i hw;rw[aP hw];obtain⟨v,hv,hk⟩:=h;exact⟨v,hv,ih Z Z' _ hz hk⟩
  ·rename_i hw;rw[aB hw];exact ih Z Z' _ hz h
theorem Fv{ops:Array Oper}(S:List Nat)(p:QE)(hB:Qp .any ops S p=true)(hQ:∀c (a:Act) d v w,Q (.panic c) (a.put d v) w->Q (.panic c) a w)
  (h:uk P ops (λa'=>zO P ops Q p a' w) (nR ops S) a):wpAny P .any ops Q ops.size (Array.replicate ops.size false) a w:=by
 simp only[Qp,aZ,aS]at hB;obtain⟨⟨⟨hns,he⟩,hp⟩,hl⟩:=hB;have H:=Oy (md:= .any) (P:=P) (ops:=ops) (Q:=Q) (w:=w) hns hQ (g:=p.len) S (Array.replicate ops.size false) a he (Xq _ _ _ a (λa' h'=>Dx p _ a' w hp h') h)
 rwa [hl]at H
theorem Oa{id:Nat}{ops:List Oper}(S:List Nat)(p:QE)(hm:P.follows .mixedOrders=true)(hB:Qp .any ops.toArray S p=true)(hp:za6 ops=true)(hlo:¬LetsOut Q)(hQ:∀c (a:Act) d v w,Q (.panic c) (a.put d v) w->Q (.panic c) a w)
  (h:uk P ops.toArray (λa'=>zO P ops.toArray Q p a' w.drew) (nR ops.toArray S) a):(Code.region id ops.toArray true).wpIn (Fence.wide.inRound l) n P Q a w:=by
 refine wpIn_region_any hm ?_;refine EL hp hlo _ _ _ _ ?_;exact Fv S p hB hQ h
theorem TI{id:Nat}{ops:List Oper}(S:List Nat)(p:QE)(hm:P.follows .mixedOrders=true)(hB:Qp .any ops.toArray S p=true)(hQ:∀c (a:Act) d v w,Q (.panic c) (a.put d v) w->Q (.panic c) a w)
  (h:uk P ops.toArray (λa'=>zO P ops.toArray Q p a' w.drew) (nR ops.toArray S) a):(Code.region id ops.toArray true).wp P Q a w:=by
 refine wp_region_any hm ?_;exact Fv S p hB hQ h
end
end Go.Proofs.YtopbkdebihcmcaaGreatDoor
