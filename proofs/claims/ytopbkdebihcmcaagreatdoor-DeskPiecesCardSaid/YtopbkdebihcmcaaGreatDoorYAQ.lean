import Derived.Test.YtopbkdebihcmcaaGreatDoorYAE
import Derived.Test.YtopbkdebihcmcaaGreatDoorYAK
import Derived.RangeFuncNested
import Derived.RangeFuncBound
import Derived.Shelf.RegionOpen
import Derived.OwnWalkIn
import Derived.LoopNIn
import Derived.LoopIn
set_option linter.unusedSimpArgs false
set_option linter.unusedVariables false
namespace Go.Proofs.YtopbkdebihcmcaaGreatDoor
open Go.RowKit
set_option maxRecDepth 100000
set_option maxHeartbeats 16000000
def zh{m:Nat}(h:0<m)(j:Nat):Fin m:=⟨j % m,iM _ h⟩
section
open Go.Shelf
attribute [local go_sem] jF
theorem ze4(n:Nat)(hn:1<=n)(l Bs Bn g off cap len m:Nat)(Kp:World->World->Prop)(kr:∀A,Kp A A)(kt:∀A B C,Kp A B->Kp B C->Kp A C)(kd:∀A n,Kp A (A.drewN n))(ks:∀A B,Kp A B->B.cell? ⟨Bs,0,none⟩=A.cell? ⟨Bs,0,none⟩)(kn:∀A B,Kp A B->B.cell? ⟨Bn,0,none⟩=A.cell? ⟨Bn,0,none⟩)(hlen:len=2*m)(hmx:len<=1000000)(hcap:len<=cap)(hm0:0<m)(J Jx:List (Fin m)->World->Prop)(hJ:∀s W W',J s W->W.grownBy W' none->J s W')
  (hY:∀pre x W,J pre W->pre.length<m->YieldAt Fence.wide (n-1) Tryz.prog l #[.slice (some ⟨g,off+2*x.1,none⟩) 2 2] W λe W'=>
   (e= .returned (.bool true)∧J (pre++ [x]) W'∧Kp W W')∨(e= .returned (.bool false)∧Jx (pre++ [x]) W'))
  (W:World) (hBs:W.cell? ⟨Bs,0,none⟩=some (.slice (some ⟨g,off,none⟩) len cap)) (hBn:W.cell? ⟨Bn,0,none⟩=some (.int .i64 2)) (h0:J [] W):
  CallsIn Fence.wide n Tryz.prog 255 #[.func (.yield l) #[] #[],.pointer (some ⟨Bs,0,none⟩),.pointer (some ⟨Bn,0,none⟩)] W λe W'=>(∃v,e= .returned v)∧
   ((∃ys,ys=upto (zh hm0) m∧J ys W')∨(∃pre,(∃k,k<=m∧pre=upto (zh hm0) k)∧Jx pre W')):=by
 refine kY Tryz.func255 rfl trivial ?_ rfl;simp only[Tryz.ntmps255,bT,aK,bI,Nat.reduceAdd,Nat.reduceSub,fP,fQ,ig,gm,fK,dI];have Hlen:=Lib.hid hlen;clear hlen;gi_wp2
 gi_loopw [4] (λi wr=>∃k:Nat,k<=m∧i= .int .i64 (2*k:Nat)∧J (upto (zh hm0) k) wr∧Kp W wr)
  (λi _=>len-(intOf i).toNat)
 case atStart=>exact⟨0,dL _,rfl,h0,kr _⟩
 case round=>
  obtain⟨k,hk,rfl,hJs,hnx⟩:=hrel;have hc1:wr.cell? ⟨Bs,0,none⟩=some (.slice (some ⟨g,off,none⟩) len cap):=(ks _ _ hnx).trans hBs;have hc2:wr.cell? ⟨Bn,0,none⟩=some (.int .i64 2):=(kn _ _ hnx).trans hBn;by_cases hlt:k<m
  ·obtain⟨i,hi⟩:∃i,i=2*k:=⟨_,rfl⟩
   have hx:zh hm0 k=⟨k,hlt⟩:=by unfold zh;exact Fin.ext (jw hlt)
   rw[<-hi];have Hi:=Lib.hid hi;have hil:(i:Int)<len:=by have:=Hlen.out;omega
   have hil0:(i:Int)<=len:=by omega
   have hic:(i:Int)<=cap:=by omega
   have hic2:(i:Int)+2<=cap:=by have:=Hlen.out;omega
   have hmin:¬((len-i:Nat):Int)<2:=by have:=Hlen.out;omega
   have Hx:=Lib.hid hx;have e1:IntKind.i64.wrap ((i:Int)+2)=(i:Int)+2:=aW _ (by omega);have e2:(0:Int)<=(i:Int)+2:=by omega
   have e3:((i:Int)+2).toNat=i+2:=by omega
   clear hi hx hBs hBn;gi_wp2;refine wpIn_wide.2 ?_;refine Ox (λw'=>∃m,w'=wr.drewN m) (by kernel_rfl) (by kernel_rfl) ⟨1,rfl⟩ ?_
   repeat(quiet_step (fail))
   have hmn:(if ((len-i:Nat):Int)<2 then((len-i:Nat):Int)else 2)=2:=aB (by omega);rw[hmn];refine dF ?_;rintro _ ⟨nq,rfl⟩;have hJ2:=hJ _ _ (wr.drewN nq) hJs ⟨rfl,rfl,rfl,aF _,λ_ _ _=>rfl⟩;have hnx2:Kp W (wr.drewN nq):=kt _ _ _ hnx (kd _ _);obtain⟨fn,tmps,assign,body,hy,hR⟩:=hY _ (zh hm0 k) (wr.drewN nq) hJ2 (by rw[upto_length];exact hlt);rw[Hx.out]at hy;dsimp only at hy;rw[<-Hi.out]at hy;clear hmn;gi_wp2;refine hR.mono ?_;rw[<-upto_succ];rintro e W3 (⟨rfl,hJ3,hk3⟩|⟨rfl,hJx3⟩)
   ·have hk4:=kt _ _ _ hnx2 hk3;have hc3:W3.cell? ⟨Bn,0,none⟩=some (.int .i64 2):=(kn _ _ hk3).trans hc2;gi_wp2;go_roundw
    case rel=>exact⟨k+1,by omega,by have:=Hi.out;go_num,hJ3,hk4⟩
    case measure=>have:=Hi.out;have:=Hlen.out;simp[intOf];omega
   ·gi_wp2;refine dW (jm rfl _ _ _) rfl ?_;exact⟨⟨_,rfl⟩,.inr ⟨_,⟨k+1,by omega,rfl⟩,hJx3⟩⟩
  ·obtain rfl:k=m:=by omega
   have hd:¬((2*k:Nat):Int)<len:=by have:=Hlen.out;omega
   have hd2:decide (((2*k:Nat):Int)<len)=false:=by simpa using hd
   gi_wp2;go_end0;exact⟨⟨_,rfl⟩,.inl hJs⟩
theorem zhT(n:Nat)(a:Option Addr)(len cap:Nat)(w:World):
  CallsIn Fence.wide n Tryz.prog 221 #[.slice a len cap,.int .i64 2] w λe w'=>e= .returned (.func (.func 255) #[] #[.pointer (some ⟨w.heap.size,0,none⟩),.pointer (some ⟨w.heap.size+1,0,none⟩)])∧w'=(w.alloc (.cells #[.slice a len cap] 28)).alloc (.cells #[.int .i64 2] 3):=by
 refine kY Tryz.func221 rfl trivial ?_ rfl;simp only[Tryz.ntmps221,bT,aK,bI,Nat.reduceAdd,Nat.reduceSub,fP,fQ,ig,gm,fK,dI];gi_wp2;go_ret;exact⟨rfl,rfl⟩
theorem zay(n:Nat)(hn:1<=n)(Bs Bn g off cap len m:Nat)(Kp:World->World->Prop)(kr:∀A,Kp A A)(kt:∀A B C,Kp A B->Kp B C->Kp A C)(kd:∀A n,Kp A (A.drewN n))(ks:∀A B,Kp A B->B.cell? ⟨Bs,0,none⟩=A.cell? ⟨Bs,0,none⟩)(kn:∀A B,Kp A B->B.cell? ⟨Bn,0,none⟩=A.cell? ⟨Bn,0,none⟩)
  (hlen:len=2*m) (hmx:len<=1000000) (hcap:len<=cap) (hm0:0<m) (w:World) (hBs:w.cell? ⟨Bs,0,none⟩=some (.slice (some ⟨g,off,none⟩) len cap)) (hBn:w.cell? ⟨Bn,0,none⟩=some (.int .i64 2)) (hb1:Bs<w.heap.size) (hb2:Bn<w.heap.size):
  SeqStopsK Fence.wide n Tryz.prog 255 #[.pointer (some ⟨Bs,0,none⟩),.pointer (some ⟨Bn,0,none⟩)] (λx:Fin m=> #[Value.slice (some ⟨g,off+2*x.1,none⟩) 2 2]) Kp (λys=>ys=upto (zh hm0) m)
   (λpre=>∃k,k<=m∧pre=upto (zh hm0) k) m w:=λl J Jx W hW aJ _ hY h0=>
 ze4 n hn l Bs Bn g off cap len m Kp kr kt kd ks kn hlen hmx hcap hm0 J Jx (λs A B h hg=>aJ s A B none h hg (λr e=>by cases e)) hY W ((hW.cell (p:=⟨Bs,0,none⟩) hb1).trans hBs) ((hW.cell (p:=⟨Bn,0,none⟩) hb2).trans hBn) h0
end
def uX(b0 n₀:Nat)(A B:World):Prop:=A.heap.size<=B.heap.size∧∀k,k<n₀->k≠b0->B.heap[k]? =A.heap[k]?
theorem uX.refl(b0 n₀:Nat)(A:World):uX b0 n₀ A A:=⟨aF _,λ_ _ _=>rfl⟩
theorem uX.trans{b0 n₀:Nat}{A B C:World}(h:uX b0 n₀ A B)(k:uX b0 n₀ B C):uX b0 n₀ A C:=
 ⟨bH h.1 k.1,λi hi hb=>(k.2 i hi hb).trans (h.2 i hi hb)⟩
theorem uX.drewN{b0 n₀:Nat}(A:World)(n:Nat):uX b0 n₀ A (A.drewN n):=⟨aF _,λ_ _ _=>rfl⟩
theorem uX.cell{b0 n₀:Nat}{A B:World}(h:uX b0 n₀ A B){b:Nat}(hb:b<n₀)(hne:b≠b0):B.cell? ⟨b,0,none⟩=A.cell? ⟨b,0,none⟩:=by simp only[World.cell?,h.2 b hb hne]
theorem uX.putObj{b0 n₀:Nat}{w:World}(hn:n₀<=w.heap.size)(W:World)(l:Nat)(o o':Obj)(hl:w.heap.size<=l)(h:W.heap[l]? =some o)(_:o.isCells=false)(_:o.isWalk=false):uX b0 n₀ W (W.putObj l o'):=
 ⟨(grownBy_putObj' W l o').size,λk hk _=>World.putObj_heap_other (by omega)⟩
theorem uX.za7{b0 n₀:Nat}{S:Nat->Prop}{A B:World}(h:Keep S A B)(hs:n₀<=A.heap.size)(hS:∀k,k<n₀->S k->k=b0):uX b0 n₀ A B:=
 ⟨h.size,λk hk hne=>h.block k (by omega) (λhx=>hne (hS k hk hx))⟩
theorem KeepsFrom.za7{Bf:Nat}{S:Nat->Prop}{A B:World}(h:Keep S A B)(hS:∀k o,S k->A.heap[k]? =some o->o.isCells=true):KeepsFrom Bf A B:=
 (show KeepsOthers A B from⟨h.size,λk o hk ho=>by
  have hlt:=lt_of_heap hk;by_cases hx:S k
  ·rw[hS k o hx hk]at ho;cases ho
  ·exact(h.block k hlt hx).trans hk⟩).from _
theorem O1{A B:World}{base:Nat}{e:TypeId}{size:Nat}{v:Value}{n:Nat}{xs:List Value}(h:nV A base e size v n xs){row:Option Nat}(hg:A.grownBy B row)(hr:∀r,row=some r->∃o:Obj,A.heap[r]? =some o∧o.isCells=false):nV B base e size v n xs:=by
 refine⟨h.1,?_⟩;rcases h.2 with h2|⟨g,cap,cur,fz,hv,hb,hh,r⟩
 ·exact .inl h2
 ·refine .inr ⟨g,cap,cur,fz,hv,hb,(hg.block g (lt_of_heap hh) (λe'=> ?_)).trans hh,r⟩;obtain⟨o,ho,hc⟩:=hr g e'.symm;rw[hh]at ho;cases ho;cases hc
def xQ(l:List af){m:Nat}(x:Fin m):af:=mk2 (l.getD (2*x.1) ⟨#[]⟩) (l.getD (2*x.1+1) ⟨#[]⟩)
theorem zbP(l:List af)(m:Nat)(hm:0<m)(hl:l.length=2*m):(upto (zh hm) m).map (xQ l)=upL l:=by rw[upto,fU,upL,hl,show 2*m/2=m by omega];refine iP λj hj=> ?_;have hjm:j<m:=iO.1 hj;show xQ l (zh hm j)=_;rw[xQ,zh];simp only[jw hjm]
section
open Go.Shelf
attribute [local go_sem] jF
def UpI(w:World)(l:List af)(m:Nat)(pre:List (Fin m))(W:World):Prop:=
 ∃v,Boxed W w.heap.size 28 v∧nV W (w.heap.size+3) 9 1 v pre.length (strCells (pre.map (xQ l)))∧Keep nM w W∧w.heap.size+3<=W.heap.size
theorem ziC(w:World)(l:List af)(m Bf:Nat)(hB:w.heap.size<=Bf):OwnFrom Bf (λpre W=>UpI w l m pre W):=by rintro pre A B row ⟨v,hb,ho,hK,hs⟩ hg hr;refine⟨v,hb.kept hg (λe=> ?_),O1 ho hg (λr e=>(hr r e).2),hK.grown hg (λk e=> .inr (bH hB (hr k e).1)),bH hs hg.size⟩;obtain⟨_,o,h1,h2⟩:=hr _ e.symm;rw[show A.heap[w.heap.size]? =_ from hb]at h1;cases h1;cases h2
theorem WZ{w W w4 w5:World}{l:List af}{m Bf:Nat}{pre:List (Fin m)}{x:Fin m}{v5 v6:Value}{x0 x1:af}{o:Obj}(d0:Boxed W w.heap.size 28 v5)(own:nV W (w.heap.size+3) 9 1 v5 pre.length (strCells (pre.map (xQ l))))
  (K:Keep nM w W) (hs:w.heap.size+3<=W.heap.size) (K4:Keep nM W w4) (Ai:nV w5 (w.heap.size+3) 9 1 v6 (pre.length+1) (strCells (pre.map (xQ l))++ [.string (mk2 x0 x1)])) (hg:(w4.alloc o).grownBy w5 v5.ownBlock) (hp:xQ l x=mk2 x0 x1):
  Boxed w5 w.heap.size 28 v5∧KeepsFrom Bf W (w5.setCell ⟨w.heap.size,0,none⟩ v6)∧uX w.heap.size (w.heap.size+3) W (w5.setCell ⟨w.heap.size,0,none⟩ v6)∧UpI w l m (pre++ [x]) (w5.setCell ⟨w.heap.size,0,none⟩ v6):=by
 have hold:∀k,v5.ownBlock=some k->w.heap.size+3<=k:=λk hk=>(own.lt k hk).1;have K5:Keep (λk=>v5.ownBlock=some k) W w5:=(K4.mono (S':=λk=>v5.ownBlock=some k) (λ_ _ h=>h.elim)).alloc o|>.grown hg (λk hk=> .inl hk);have d5:Boxed w5 w.heap.size 28 v5:=K5.heap d0 (λh=>by have:=hold _ h;omega);have K5':Keep (λk=>k=w.heap.size∨v5.ownBlock=some k) W w5:=K5.mono (λ_ _ h=>Or.inr h);have K6:=K5'.setCell (p:=⟨w.heap.size,0,none⟩) (.inl (Or.inl rfl)) v6;have hsz:=K5.size;refine⟨d5,KeepsFrom.za7 K6 ?_,uX.za7 K6 hs ?_,v6,d5.set v6,?_,?_,?_⟩
 ·rintro k o' (rfl|hk) ho
  ·rw[show W.heap[w.heap.size]? =_ from d0]at ho;cases ho;rfl
  ·rcases own.2 with⟨hv,_⟩|⟨g,cap,cur,fz,hv,_,hh,_⟩
   ·rw[hv]at hk;cases hk
   ·rw[hv]at hk;obtain rfl:g=k:=aH hk;rw[hh]at ho;cases ho;rfl
 ·rintro k hk (rfl|h)
  ·rfl
  ·have:=hold k h;omega
 ·have h2:=Ai.keep ((ah (nY w.heap.size) w5).set1 0 v6) (λb hb h=>by
   have:=(Ai.lt b hb).1
   have:b=w.heap.size:=h
   omega)
  rw[ay,di,P6];show nV _ _ _ _ _ _ (_++strCells [xQ l x]);rw[hp];exact h2
 ·exact(K.trans K5 (λi hi hx=>by have:=hold i hx;omega)).setCell (p:=⟨w.heap.size,0,none⟩) (.inr (aF _)) v6
 ·simp only[World.size_setCell];omega
theorem zlg(p:Option Addr)(len cap:Nat)(l:List af)(w:World)(V:oG w)(T:Strs w (.slice p len cap) l)(hcap:len<=cap)(m:Nat)(hm:0<m)(hl:l.length=2*m)(hmx:l.length<=1000)(hall:∀s∈l,s.size=16):
  Calls Tryz.prog 181 #[.slice p len cap] w λe w'=>∃g c,e= .returned (.slice (some ⟨g,0,none⟩) m c)∧m<=c∧w.heap.size<=g∧Strs w' (.slice (some ⟨g,0,none⟩) m c) (upL l)∧Keep nM w w':=by
 obtain⟨b,off,rfl,hlen,hb,hcell⟩:=T.at (by omega);subst hlen;refine(fF (n:=4)).1 ?_;have hro:(Fence.wide).round=none:=rfl;have h1:1<=4:=by omega
 refine callsIn_of_wp_marks Tryz.func181 rfl trivial ?_ hro;simp only[Tryz.ntmps181,bT,aK,bI,Nat.reduceAdd,Nat.reduceSub,fP,fQ,ig,gm,fK,dI];obtain⟨n,hn⟩:∃n,n=l.length:=⟨_,rfl⟩
 rw[<-hn]at T hcap⊢;have Hn:=Lib.hid hn;have Hl:=Lib.hid hl;clear hn hl
 gi_wp2_with (refine⟨trivial,?_⟩;gi_at_call 221;refine(zhT _ _ _ _ _).mono ?_;rintro e w' ⟨rfl,rfl⟩)
 have b0:=((Boxed.new w 28 (.slice none 0 0)).alloc (.cells #[.slice (some ⟨b,off,none⟩) n cap] 28)).alloc (.cells #[.int .i64 2] 3);have b1:=(Boxed.new (w.alloc (.cells #[.slice none 0 0] 28)) 28 (.slice (some ⟨b,off,none⟩) n cap)).alloc (.cells #[.int .i64 2] 3);have b2:=Boxed.new ((w.alloc (.cells #[.slice none 0 0] 28)).alloc (.cells #[.slice (some ⟨b,off,none⟩) n cap] 28)) 3 (.int .i64 2);simp only[eP]at b1 b2;have hK0:Keep nM w (((w.alloc (.cells #[.slice none 0 0] 28)).alloc (.cells #[.slice (some ⟨b,off,none⟩) n cap] 28)).alloc (.cells #[.int .i64 2] 3)):=(((ah nM w).alloc _).alloc _).alloc _;have hsz:(((w.alloc (.cells #[.slice none 0 0] 28)).alloc (.cells #[.slice (some ⟨b,off,none⟩) n cap] 28)).alloc (.cells #[.int .i64 2] 3)).heap.size=w.heap.size+3:=by simp
 obtain⟨W0,hW0⟩:∃W0,(((w.alloc (.cells #[.slice none 0 0] 28)).alloc (.cells #[.slice (some ⟨b,off,none⟩) n cap] 28)).alloc (.cells #[.int .i64 2] 3))=W0:=⟨_,rfl⟩
 rw[hW0]at b0 b1 b2 hK0 hsz⊢;clear hW0;refine wpIn_rangeFunc_ownH hro h1 (gf:=255) (lb:= #[.pointer (some ⟨w.heap.size+1,0,none⟩),.pointer (some ⟨w.heap.size+1+1,0,none⟩)]) rfl trivial (enters_of Tryz.func255 (by kernel_rfl) rfl)
  (zay (4-1) (by omega) (w.heap.size+1) (w.heap.size+1+1) b off cap n m (uX w.heap.size (w.heap.size+3)) (uX.refl _ _) (λ_ _ _ h k=>h.trans k) uX.drewN (λ_ _ h=>h.cell (by omega) (by omega)) (λ_ _ h=>h.cell (by omega) (by omega)) (by rw[Hn.out,Hl.out]) (by rw[Hn.out];omega) hcap hm W0 b1.cell b2.cell (by omega) (by omega))
  (λh k=>h.trans k) (uX.putObj (by omega)) (lG _ _) (λ_=>rfl)
  (UpI w l m) (λ_ _ _=>False) (ziC w l m _ (by omega)) (λc=>λs A B row h _ _=>h)
  ⟨.slice none 0 0,b0,nV.nil _ _ _ _,hK0,by omega⟩
  (λx a' W=>a'= { tmps:= #[.slice (some ⟨b,off,none⟩) n cap,undef,.slice none 0 0,.pointer (some ⟨w.heap.size,0,none⟩),.slice (some ⟨b,off+2*x.1,none⟩) 2 2,.slice (some ⟨b,off,none⟩) n cap,.func (.func 255) #[] #[.pointer (some ⟨w.heap.size+1,0,none⟩),.pointer (some ⟨w.heap.size+1+1,0,none⟩)],.slice (some ⟨b,off+2*x.1,none⟩) 2 2,undef,undef,undef,undef,undef,undef],defers:= [] })
  (λx a' s A B row h _ _=>h)
  ?assign ?body ?done ?stop
 case assign=>
  rintro l2 pre x W K hI hK;gi_wp2;exact hK _ _ (KeepsFrom.refl _ _) (uX.refl _ _ _) hI rfl
 case body=>
  rintro l2 pre x a' W hl2 ⟨r,hr⟩ ⟨v5,d0,own,K,hs⟩ rfl hlt;obtain⟨q,hq⟩:∃q,q=2*x.1:=⟨_,rfl⟩
  have hqn:q+1<n:=by have:=x.2;have:=Hn.out;have:=Hl.out;omega
  rw[<-hq];obtain⟨x0,hx0⟩:∃y,y=l.getD q ⟨#[]⟩:=⟨_,rfl⟩
  obtain⟨x1,hx1⟩:∃y,y=l.getD (q+1) ⟨#[]⟩:=⟨_,rfl⟩
  have a16:∀i,i<n->(l.getD i ⟨#[]⟩).size=16:=λi hi=>by rw[ax,aC (by rw[<-Hn.out];exact hi)];exact hall _ (fD _)
  have hs0:x0.size=16:=by rw[hx0];exact a16 _ (by omega)
  have hs1:x1.size=16:=by rw[hx1];exact a16 _ (by omega)
  have hc0:=hcell q (by rw[<-Hn.out];omega);have hc1:=hcell (q+1) (by rw[<-Hn.out];omega);rw[<-hx0]at hc0;rw[<-hx1]at hc1;have hpm:xQ l x=mk2 x0 x1:=by rw[xQ,<-hq,<-hx0,<-hx1]
  have hS:∀X:Ext W,Strs (W.ext X) (.slice (some ⟨b,off+q,none⟩) 2 2) [x0,x1]:=λX=>by
   have K2:=K.nK (qA W X);refine .inr ⟨b,off+q,2,rfl,dA hb K2.size,λi hi=> ?_⟩
   have:i=0∨i=1:=by simp at hi;omega
   rcases this with rfl|rfl
   ·exact(K2.cell (p:=⟨b,off+q,none⟩) hb (λx=>x)).trans hc0
   ·exact(K2.cell (p:=⟨b,off+q+1,none⟩) hb (λx=>x)).trans hc1
  have hmk:=λX:Ext W=>xC 117 (by omega) _ [x0,x1] (W.ext X) (V.keep (K.nK (qA W X)) (λx=>x)) (hS X) (ziE x0 x1 (by omega) (by omega)) (by simp);have hd:∀X:Ext W,(W.ext X).cell? ⟨w.heap.size,0,none⟩=some v5:=λX=>((qA W X).cell (p:=⟨w.heap.size,0,none⟩) d0.lt (λx=>x)).trans d0.cell;have Hpm:=Lib.hid hpm;have d0c:=d0.cell;have d0l:=d0.lt;clear hS hx0 hx1 hc0 hc1 hpm a16;obtain⟨i0,hi0,hz0,hz1,hz2⟩:=kG Po;have hpl:pre.length<=1000:=by have:=Hl.out;omega
  clear hq hcell hall T b0 b1 b2 V hr hm hmx;refine wpIn_block ?_;refine Oa [1] (.fork 0 (.row [2,3,4,5]) 2 (.fork 0 (.row [3,4,5]) 3 (.row [0,4,5]))) (by kernel_rfl) (by kernel_rfl) (by rfl) (by rintro⟨_,_,h⟩;exact h) (λc a d v w h=>by cases d<;>exact h) ?_;simp only[nR,aj,ak,au];refine zy (λK hK=> ?_);go_simp;refine hK _ ?_;clear hK K;refine AO ?_;have hmd:=hmk ⟨W.drew,(ah nM W).drew⟩;have Hmd:=Lib.hid hmd;clear hmk hmd hd;refine⟨?_,?_⟩
  ·simp only[nR,aj,ak,au];go_wp2_with fail;simp only[zO,nR,aj,ak,au];go_wp2_with (first|(go_at_call 13;refine Hmd.out.mono ?_;rw[zf5];rintro e w4 ⟨rfl,K4'⟩;have K4:Keep nM W w4:=((ah nM W).drew).nK K4')|(refine yE _ rfl (.tmp 8) (.tmp 11) 28 rfl (w.heap.size+3) 9 i0 (.string ⟨#[]⟩) 1 16 Tryz.underlying28 hi0 hz0 hz1 hz2 rfl (by decide) _ pre.length (strCells (pre.map (xQ l))) rfl ((own.keep K4 (λ_ _ x=>x)).alloc _) ⟨w4.heap.size,0,none⟩ 1 1 [.string (mk2 x0 x1)] rfl rfl (qj _ _ _) (by intro u hu;obtain rfl:=bD.1 hu;rfl) (by unfold maxLen;omega) (by omega) (by have:=K4.size;simp;omega) ?_;intro v6 w5 Ai QY zf1;obtain⟨g6,cap6,rfl,-,-⟩:=Ai.some (Nat.succ_pos _);obtain⟨d5,g1,g2,g3⟩:=WZ (Bf:=W0.heap.size) (x:=x) d0 own K hs K4 Ai QY Hpm.out;have c5:=d5.cell;have f5:=d5.frozen));exact⟨g1,g2,g3⟩
  ·simp only[nR,aj,ak,au];go_wp2_with (first|(go_at_call 13;refine Hmd.out.mono ?_;rw[zf5];rintro e w4 ⟨rfl,K4'⟩;have K4:Keep nM W w4:=((ah nM W).drew).nK K4';have c4:w4.cell? ⟨w.heap.size,0,none⟩=some v5:=(K4.cell (p:=⟨w.heap.size,0,none⟩) d0l (λx=>x)).trans d0c;have l4:w.heap.size<w4.heap.size:=dA d0l K4.size));refine⟨?_,?_⟩
   ·simp only[nR,aj,ak,au];go_wp2_with fail;simp only[zO,nR,aj,ak,au];go_wp2_with (refine yE _ rfl (.tmp 8) (.tmp 11) 28 rfl (w.heap.size+3) 9 i0 (.string ⟨#[]⟩) 1 16 Tryz.underlying28 hi0 hz0 hz1 hz2 rfl (by decide) _ pre.length (strCells (pre.map (xQ l))) rfl ((own.keep K4 (λ_ _ x=>x)).alloc _) ⟨w4.heap.size,0,none⟩ 1 1 [.string (mk2 x0 x1)] rfl rfl (qj _ _ _) (by intro u hu;obtain rfl:=bD.1 hu;rfl) (by unfold maxLen;omega) (by omega) (by have:=K4.size;simp;omega) ?_;intro v6 w5 Ai QY zf1;obtain⟨g6,cap6,rfl,-,-⟩:=Ai.some (Nat.succ_pos _);obtain⟨d5,g1,g2,g3⟩:=WZ (Bf:=W0.heap.size) (x:=x) d0 own K hs K4 Ai QY Hpm.out;have c5:=d5.cell;have f5:=d5.frozen);exact⟨g1,g2,g3⟩
   ·simp only[nR,aj,ak,au];go_wp2_with fail;simp only[zO,nR,aj,ak,au];have c4b:(w4.alloc (.cells #[.string (mk2 x0 x1)] 9)).cell? ⟨w.heap.size,0,none⟩=some v5:=(((ah nM w4).alloc _).cell (p:=⟨w.heap.size,0,none⟩) l4 (λx=>x)).trans c4;go_wp2_with (refine yE _ rfl (.tmp 8) (.tmp 11) 28 rfl (w.heap.size+3) 9 i0 (.string ⟨#[]⟩) 1 16 Tryz.underlying28 hi0 hz0 hz1 hz2 rfl (by decide) _ pre.length (strCells (pre.map (xQ l))) rfl ((own.keep K4 (λ_ _ x=>x)).alloc _) ⟨w4.heap.size,0,none⟩ 1 1 [.string (mk2 x0 x1)] rfl rfl (qj _ _ _) (by intro u hu;obtain rfl:=bD.1 hu;rfl) (by unfold maxLen;omega) (by omega) (by have:=K4.size;simp;omega) ?_;intro v6 w5 Ai QY zf1;obtain⟨g6,cap6,rfl,-,-⟩:=Ai.some (Nat.succ_pos _);obtain⟨d5,g1,g2,g3⟩:=WZ (Bf:=W0.heap.size) (x:=x) d0 own K hs K4 Ai QY Hpm.out;have c5:=d5.cell;have f5:=d5.frozen);exact⟨g1,g2,g3⟩
 case done=>
  rintro D xs W hD rfl ⟨v5,d0,own,K,hs⟩ hW;have c0:=d0.cell;rw[upto_length,zbP l m hm Hl.out]at own;obtain⟨g,c,rfl,hg,hc⟩:=own.some hm;gi_wp2;have hg2:=grownBy_putObj' W D (.deferred none);have zoL:=O1 own hg2 (λr e=>by cases e;exact⟨_,hW,rfl⟩);have hul:(upL l).length=m:=by rw[zcG,Hl.out];omega
  have T2:Strs (W.putObj D (.deferred none)) (.slice (some ⟨g,0,none⟩) m c) (upL l):=Kq (by rw[hul];exact zoL);have K2:=K.grown hg2 (λk e=> .inr (by cases e;omega));refine⟨by simp,.inl ⟨_,_,rfl,run_takeDeferred hW,?_⟩⟩;refine⟨.slice (some ⟨g,0,none⟩) m c,?_,g,c,rfl,hc,by omega,T2,K2⟩;simp[results,Tryz.f181,go_sem]
 case stop=>
  rintro D c pre W hD _ h;exact h.elim
end
end Go.Proofs.YtopbkdebihcmcaaGreatDoor
