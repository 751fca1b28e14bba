import Derived.Test.YtbcmmbeadgiiiaaGreatDoorYAD
import Derived.RangeFuncCalls
import Derived.OrdersIn
set_option linter.all false
namespace Go.Proofs.YtbcmmbeadgiiiaaGreatDoor
open Go.RowKit
set_option maxRecDepth 100000
set_option maxHeartbeats 16000000
variable{ops:Array Oper}{Q:Exit->Act->ax->Prop}{i:Nat}
def zi1(ops:List Oper):Bool:=ops.all λo=>match o.op with| .defer _=>false|_=>true
def zmr{ops:List Oper}(h:zi1 ops=true){o:Oper}(ho:ops.toArray[i]? =some o):∀c,o.op≠ .defer c:=by intro c hc;have hm:o∈ops:=bG (by simpa using ho);have:=gV.1 h o hm;rw[hc]at this;cases this
section
variable {P:Program}
end
section
variable {P:Program}{l n:Nat}{a:Act}{w:ax}{Q:Exit->Act->ax->Prop}
def zmi{row:String}{args:Array ay}{R:ay->ax->Prop}(h:Rows P row args w R):RowsIn (Fence.wide.inRound l) n P row args w R:=by intro c cs _;obtain⟨v,w',hr,hs⟩:=h c cs;exact⟨v,w',hr,stepsIn_wide.2 hs⟩
def zlL{o:Oper}{next:Act->ax->Prop}{r:Result Next}(h:o.upon P a next Q r):o.uponIn (Fence.wide.inRound l) n P a next Q r:=by
 unfold Oper.upon at h;unfold Oper.uponIn;split at h
 ·exact h
 ·exact h
 ·exact h
 ·exact⟨λx=>by simp[Fence.wide]at x,CallsIn.inRound l (lI.2 h)⟩
 ·exact⟨λx=>by simp[Fence.wide]at x,zmi h⟩
 ·exact h
 exact h.elim
def zq2{o:Oper}{next:Act->ax->Prop}(hd:∀c,o.op≠ .defer c)(h:o.wp P a w next Q):o.wpIn (Fence.wide.inRound l) n P a w next Q:=by refine⟨λ_ _=>trivial,?_⟩;rw[Oper.semAt_eq _ _ _ hd];exact zlL h
def MZ{md:Region.Mode}{ops:List Oper}(hp:zi1 ops=true)(BA:¬LetsOut Q):∀(g:Nat) (done:Array Bool) (a:Act) (w:ax),wpAny P md ops.toArray Q g done a w->wpAnyIn (Fence.wide.inRound l) n P md ops.toArray Q g done a w
 | 0,_,_,_,h=>h
 | g+1,done,a,w,h=>by
  refine⟨h.1,λi hi=> ?_⟩;have h1:=h.2 i hi;unfold wpOpIn;unfold wpOp at h1;split
  ·rename_i hn;rw[hn]at h1;exact MZ hp BA g _ a w h1
  rename_i o ho;rw[ho]at h1;dsimp only at h1;split
  ·rename_i hw;rw[bu hw]at h1;rcases h1 with h1|h1
   ·exact zq2 (zmr hp ho) (Oper.wp_mono (λa w hh=>MZ hp BA g _ a w hh) h1)
   exact absurd h1.2 BA
  rename_i hw;rw[aV hw]at h1;exact⟨λ_ _=>trivial,MZ hp BA g _ _ w h1⟩
end
inductive Zz
 | row (R:List Nat)
 | fork (i:Nat) (p:Zz) (j:Nat) (q:Zz)
def Zz.len:Zz->Nat
 | .row R=>R.length
 | .fork _ p _ _=>p.len+1
section
variable {P:Program}
def zfY(md:Region.Mode)(ops:Array Oper):Zz->Array Bool->Bool
 | .row R,done=>zk8 md ops R done
 | .fork i p j q,done=>decide (Region.ready md ops done= [i,j])&&zfY md ops p (done.setIfInBounds i true)&&zfY md ops q (done.setIfInBounds j true)&&decide (p.len=q.len)
def BI(P:Program)(ops:Array Oper)(Q:Exit->Act->ax->Prop):Zz->Act->ax->Prop
 | .row R,a,w=>wpList P ops Q (qC ops R) a w
 | .fork i p j q,a,w=>wpList P ops (Exit.then (BI P ops Q p) Q) (qC ops [i]) a w∧wpList P ops (Exit.then (BI P ops Q q) Q) (qC ops [j]) a w
def UC{K:Act->ax->Prop}{o:Oper}(ho:ops[i]? =some o){a:Act}{w:ax}(h:wpList P ops (Exit.then K Q) (qC ops [i]) a w):wpOp P ops Q i K a w:=by
 unfold wpOp;simp only[qC,ho,wpList]at h⊢;split
 ·rename_i hw;rw[bu hw]at h;rcases h with h|⟨h1,h2⟩
  ·left;unfold Oper.wp at*;generalize (execOp a.eval o).run P w=r at*;cases r with
   | ok n w'=>
    cases n<;>simp only[Oper.upon]at h⊢ <;>first|exact h|(refine Calls.m h λe w'' he=> ?_;cases e<;>first|exact he|(obtain⟨a2,w2,h3⟩:=he;exact⟨a2,w2,h3⟩))
   | halt x w'=>cases x<;>simp only[Oper.upon]at h⊢;exact h
  right;obtain⟨a2,w2,h3⟩:=h2;exact⟨h1,a2,w2,h3⟩
 rename_i hw;rw[aV hw]at h;exact h
def Jy{md:Region.Mode} :∀(p:Zz) (done:Array Bool) (a:Act) (w:ax),zfY md ops p done=true->BI P ops Q p a w->wpAny P md ops Q p.len done a w
 | .row R,done,a,w,hB,h=>NH R done a w hB h
 | .fork i p j q,done,a,w,hB,h=>by
  simp only[zfY,bI,aW]at hB;obtain⟨⟨⟨hr,hp⟩,hq⟩,hl⟩:=hB;refine⟨λh1=>(by rw[hr]at h1;cases h1),λk hk=> ?_⟩;obtain⟨_,o,ho,_⟩:=mem_ready.1 hk;rw[hr]at hk;have hk':k=i∨k=j:=by simpa using hk
  rcases hk' with rfl|rfl
  ·exact wpOp_mono (λa' w' h'=>Jy p _ a' w' hp h') (UC ho h.1)
  exact wpOp_mono (λa' w' h'=>by have:=Jy q _ a' w' hq h';rwa [<-hl]at this) (UC ho h.2)
end
section
variable {P:Program}{l n:Nat}{a:Act}{w:ax}{Q:Exit->Act->ax->Prop}
def Za(md:Region.Mode)(ops:Array Oper)(S:List Nat)(p:Zz):Bool:=
 Region.noSelect ops&&I9 md ops S (Array.replicate ops.size false)&&zfY md ops p (marked S (Array.replicate ops.size false))&&decide (S.length+p.len=ops.size)
def zeL :∀(L:List Oper) (Z Z':Act->Prop) (a:Act),(∀a,Z a->Z' a)->wL P ops Z L a->wL P ops Z' L a:=by
 intro L
 induction L with
 | nil=>intro Z Z' a hz h;exact hz a h
 | cons o L ih=>
  intro Z Z' a hz h;unfold wL at h⊢;split at h
  ·rename_i hw;rw[bu hw];obtain⟨v,hv,hk⟩:=h;exact⟨v,hv,ih Z Z' _ hz hk⟩
  rename_i hw;rw[aV hw];exact ih Z Z' _ hz h
def Oc(S:List Nat)(p:Zz)(hB:Za .any ops S p=true)(hQ:∀c (a:Act) d v w,Q (.panic c) (a.put d v) w->Q (.panic c) a w)
  (h:wL P ops (λa'=>BI P ops Q p a' w) (qC ops S) a):wpAny P .any ops Q ops.size (Array.replicate ops.size false) a w:=by
 simp only[Za,bI,aW]at hB;obtain⟨⟨⟨zY,he⟩,hp⟩,hl⟩:=hB;have H:=Pz (md:= .any) (P:=P) (ops:=ops) (Q:=Q) (w:=w) zY hQ (g:=p.len) S (Array.replicate ops.size false) a he (zeL _ _ _ a (λa' h'=>Jy p _ a' w hp h') h)
 rwa [hl]at H
def WS{id:Nat}{ops:List Oper}(S:List Nat)(p:Zz)(hm:P.follows .mixedOrders=true)(hB:Za .any ops.toArray S p=true)(hp:zi1 ops=true)(BA:¬LetsOut Q)(hQ:∀c (a:Act) d v w,Q (.panic c) (a.put d v) w->Q (.panic c) a w)
  (h:wL P ops.toArray (λa'=>BI P ops.toArray Q p a' w.drew) (qC ops.toArray S) a):(Code.region id ops.toArray true).wpIn (Fence.wide.inRound l) n P Q a w:=by
 refine wpIn_region_any hm ?_;refine MZ hp BA _ _ _ _ ?_;exact Oc S p hB hQ h
def PY{id:Nat}{ops:List Oper}(S:List Nat)(p:Zz)(hm:P.follows .mixedOrders=true)(hB:Za .any ops.toArray S p=true)(hQ:∀c (a:Act) d v w,Q (.panic c) (a.put d v) w->Q (.panic c) a w)
  (h:wL P ops.toArray (λa'=>BI P ops.toArray Q p a' w.drew) (qC ops.toArray S) a):(Code.region id ops.toArray true).wp P Q a w:=by
 refine wp_region_any hm ?_;exact Oc S p hB hQ h
end
