import Derived.Test.YtbcmmbeadgiiiaaGreatDoorYAE
import Derived.Test.YtbcmmbeadgiiiaaGreatDoorYAH
import Derived.RangeFuncNested
import Derived.RangeFuncBound
import Derived.Shelf.RegionOpen
import Derived.OwnWalkIn
import Derived.LoopNIn
import Derived.LoopIn
set_option linter.all false
namespace Go.Proofs.YtbcmmbeadgiiiaaGreatDoor
open Go.RowKit Tryz
set_option maxRecDepth 100000
set_option maxHeartbeats 16000000
variable{Bf Bv b0:Nat}{S:Nat->Prop}{A B w:ax}
def Ej{m:Nat}(h:0<m)(j:Nat):Fin m:=⟨j % m,jh _ h⟩
section
open Go.Shelf
attribute [local go_sem] pI
def zmS(n:Nat)(hn:1<=n)(l Bs Bn g off cap len m:Nat)(Kp:ax->ax->Prop)(kr:∀A,Kp A A)(kt:∀A B C,Kp A B->Kp B C->Kp A C)(kd:∀A n,Kp A (A.drewN n))(ks:∀A B,Kp A B->B.cell? ⟨Bs,0,none⟩=A.cell? ⟨Bs,0,none⟩)(kn:∀A B,Kp A B->B.cell? ⟨Bn,0,none⟩=A.cell? ⟨Bn,0,none⟩)(hlen:len=2*m)(hmx:len<=1000000)(Ci:len<=cap)(hm0:0<m)(J Jx:List (Fin m)->ax->Prop)(hJ:∀s W W',J s W->W.grownBy W' none->J s W')
  (hY:∀pre x W,J pre W->pre.length<m->YieldAt Fence.wide (n-1) prog l #[.slice (some ⟨g,off+2*x.1,none⟩) 2 2] W λe W'=>
   (e= .returned (.bool true)∧J (pre++ [x]) W'∧Kp W W')∨(e= .returned (.bool false)∧Jx (pre++ [x]) W'))
  (W:ax) (hBs:W.cell? ⟨Bs,0,none⟩=some (.slice (some ⟨g,off,none⟩) len cap)) (hBn:W.cell? ⟨Bn,0,none⟩=some (.int .i64 2)) (h0:J [] W):
  CallsIn Fence.wide n prog 318 #[.func (.yield l) #[] #[],.pointer (some ⟨Bs,0,none⟩),.pointer (some ⟨Bn,0,none⟩)] W λe W'=>(∃v,e= .returned v)∧
   ((∃ys,ys=upto (Ej hm0) m∧J ys W')∨(∃pre,(∃k,k<=m∧pre=upto (Ej hm0) k)∧Jx pre W')):=by
 refine oZ func318 rfl trivial ?_ rfl;simp only[ntmps318,bZ,bf,cZ,Nat.reduceAdd,Nat.reduceSub,jQ,jR,kH,jV,fZ,fV];have yM:=ag hlen;clear hlen;gi_wp2
 gi_loopw [4] (λi wr=>∃k:Nat,k<=m∧i= .int .i64 (2*k:Nat)∧J (upto (Ej hm0) k) wr∧Kp W wr)
  (λi _=>len-(intOf i).toNat)
 case atStart=>exact⟨0,fP _,rfl,h0,kr _⟩
 case round=>
  obtain⟨k,hk,rfl,hJs,Bl⟩:=hrel;have Zp:wr.cell? ⟨Bs,0,none⟩=some (.slice (some ⟨g,off,none⟩) len cap):=(ks _ _ Bl).t hBs;have Oo:wr.cell? ⟨Bn,0,none⟩=some (.int .i64 2):=(kn _ _ Bl).t hBn;by_cases rE:k<m
  ·obtain⟨i,hi⟩:=aj (2*k);have hx:Ej hm0 k=⟨k,rE⟩:=by unfold Ej;exact Fin.ext (jM rE)
   rw[<-hi];have Hi:=ag hi;have hil:(i:Int)<len:=by have:=yM.o;omega
   have hil0:(i:Int)<=len:=by omega
   have hic:(i:Int)<=cap:=by omega
   have hic2:(i:Int)+2<=cap:=by have:=yM.o;omega
   have zwf:¬((len-i:Nat):Int)<2:=by have:=yM.o;omega
   have Hx:=ag hx;have e1:IntKind.i64.wrap ((i:Int)+2)=(i:Int)+2:=aY _ (by omega);have e2:(0:Int)<=(i:Int)+2:=by omega
   have e3:((i:Int)+2).toNat=i+2:=by omega
   clear hi hx hBs hBn;gi_wp2;refine wpIn_wide.2 ?_;refine Xw (λw'=>∃m,w'=wr.drewN m) (by kernel_rfl) (by kernel_rfl) ⟨1,rfl⟩ ?_
   repeat(quiet_step (fail))
   have hmn:(if ((len-i:Nat):Int)<2 then((len-i:Nat):Int)else 2)=2:=aV (by omega);rw[hmn];refine dP ?_;rintro _ ⟨nq,rfl⟩;have hJ2:=hJ _ _ (wr.drewN nq) hJs ⟨rfl,rfl,rfl,aS _,λ_ _ _=>rfl⟩;have zzB:Kp W (wr.drewN nq):=kt _ _ _ Bl (kd _ _);obtain⟨fn,tmps,assign,body,hy,hR⟩:=hY _ (Ej hm0 k) (wr.drewN nq) hJ2 (by rw[PD];exact rE);rw[Hx.o]at hy;dsimp only at hy;rw[<-Hi.o]at hy;clear hmn;gi_wp2;refine hR.m ?_;rw[<-VP];rintro e W3 (⟨rfl,hJ3,hk3⟩|⟨rfl,zt9⟩)
   ·have hk4:=kt _ _ _ zzB hk3;have hc3:W3.cell? ⟨Bn,0,none⟩=some (.int .i64 2):=(kn _ _ hk3).t Oo;gi_wp2;go_roundw
    case rel=>exact⟨k+1,by omega,by have:=Hi.o;go_num,hJ3,hk4⟩
    have:=Hi.o;have:=yM.o;simp[intOf];omega
   gi_wp2;refine eF (lQ rfl _ _ _) rfl ?_;exact⟨⟨_,rfl⟩,.inr ⟨_,⟨k+1,by omega,rfl⟩,zt9⟩⟩
  obtain rfl:k=m:=by omega
  have hd:¬((2*k:Nat):Int)<len:=by have:=yM.o;omega
  have FK:decide (((2*k:Nat):Int)<len)=false:=by simpa using hd
  gi_wp2;go_end0;exact⟨⟨_,rfl⟩,.inl hJs⟩
def zqd(n:Nat)(a:Option Addr)(len cap:Nat)(w:ax):
  CallsIn Fence.wide n prog 277 #[.slice a len cap,.int .i64 2] w λe w'=>e= .returned (.func (.func 318) #[] #[.pointer (some ⟨w.heap.size,0,none⟩),.pointer (some ⟨w.heap.size+1,0,none⟩)])∧w'=(w.alloc (.cells #[.slice a len cap] 88)).alloc (.cells #[.int .i64 2] 3):=by
 refine oZ func277 rfl trivial ?_ rfl;simp only[ntmps277,bZ,bf,cZ,Nat.reduceAdd,Nat.reduceSub,jQ,jR,kH,jV,fZ,fV];gi_wp2;go_ret;exact⟨rfl,rfl⟩
def zii(n:Nat)(hn:1<=n)(Bs Bn g off cap len m:Nat)(Kp:ax->ax->Prop)(kr:∀A,Kp A A)(kt:∀A B C,Kp A B->Kp B C->Kp A C)(kd:∀A n,Kp A (A.drewN n))(ks:∀A B,Kp A B->B.cell? ⟨Bs,0,none⟩=A.cell? ⟨Bs,0,none⟩)(kn:∀A B,Kp A B->B.cell? ⟨Bn,0,none⟩=A.cell? ⟨Bn,0,none⟩)
  (hlen:len=2*m) (hmx:len<=1000000) (Ci:len<=cap) (hm0:0<m) (w:ax) (hBs:w.cell? ⟨Bs,0,none⟩=some (.slice (some ⟨g,off,none⟩) len cap)) (hBn:w.cell? ⟨Bn,0,none⟩=some (.int .i64 2)) (hb1:Bs<w.heap.size) (zC:Bn<w.heap.size):
  SeqStopsK Fence.wide n prog 318 #[.pointer (some ⟨Bs,0,none⟩),.pointer (some ⟨Bn,0,none⟩)] (λx:Fin m=> #[Value.slice (some ⟨g,off+2*x.1,none⟩) 2 2]) Kp (λys=>ys=upto (Ej hm0) m)
   (λpre=>∃k,k<=m∧pre=upto (Ej hm0) k) m w:=λl J Jx W hW aJ _ hY h0=>
 zmS n hn l Bs Bn g off cap len m Kp kr kt kd ks kn hlen hmx Ci hm0 J Jx (λs A B h hg=>aJ s A B none h hg (λr e=>by cases e)) hY W ((hW.cell (p:=⟨Bs,0,none⟩) hb1).t hBs) ((hW.cell (p:=⟨Bn,0,none⟩) zC).t hBn) h0
end
def zk(b0 Bv:Nat)(A B:ax):Prop:=A.heap.size<=B.heap.size∧∀k,k<Bv->k≠b0->B.heap[k]? =A.heap[k]?
def zk.refl(b0 Bv:Nat)(A:ax):zk b0 Bv A A:=⟨aS _,λ_ _ _=>rfl⟩
def zk.t{C:ax}(h:zk b0 Bv A B)(k:zk b0 Bv B C):zk b0 Bv A C:=
 ⟨bQ h.1 k.1,λi hi hb=>(k.2 i hi hb).t (h.2 i hi hb)⟩
def zk.drewN(A:ax)(n:Nat):zk b0 Bv A (A.drewN n):=⟨aS _,λ_ _ _=>rfl⟩
def zk.cell(h:zk b0 Bv A B){b:Nat}(hb:b<Bv)(Bc:b≠b0):B.cell? ⟨b,0,none⟩=A.cell? ⟨b,0,none⟩:=by simp only[World.cell?,h.2 b hb Bc]
def zk.putObj(hn:Bv<=w.heap.size)(W:ax)(l:Nat)(o o':Obj)(hl:w.heap.size<=l)(h:W.heap[l]? =some o)(_:o.isCells=false)(_:o.isWalk=false):zk b0 Bv W (W.putObj l o'):=
 ⟨(grownBy_putObj' W l o').size,λk hk _=>World.putObj_heap_other (by omega)⟩
def zk.zi3(h:Keep S A B)(hs:Bv<=A.heap.size)(hS:∀k,k<Bv->S k->k=b0):zk b0 Bv A B:=
 ⟨h.size,λk hk Bc=>h.block k (by omega) (λhx=>Bc (hS k hk hx))⟩
def KeepsFrom.zi3(h:Keep S A B)(hS:∀k o,S k->A.heap[k]? =some o->o.isCells=true):KeepsFrom Bf A B:=
 (show KeepsOthers A B from⟨h.size,λk o hk ho=>by
  have rE:=lt_of_heap hk;by_cases hx:S k
  ·rw[hS k o hx hk]at ho;cases ho
  exact(h.block k rE hx).t hk⟩).from _
def X0{base:Nat}{e:aB}{size:Nat}{v:ay}{n:Nat}{xs:List ay}(h:qF A base e size v n xs){row:Option Nat}(hg:A.grownBy B row)(hr:∀r,row=some r->∃o:Obj,A.heap[r]? =some o∧o.isCells=false):qF B base e size v n xs:=by
 refine⟨h.1,?_⟩;rcases h.2 with h2|⟨g,cap,cur,fz,hv,hb,hh,r⟩
 ·exact .inl h2
 refine .inr ⟨g,cap,cur,fz,hv,hb,(hg.block g (lt_of_heap hh) (λe'=> ?_)).t hh,r⟩;obtain⟨o,ho,hc⟩:=hr g e'.s;rw[hh]at ho;cases ho;cases hc
def Cm(l:List af){m:Nat}(x:Fin m):af:=mk2 (l.getD (2*x.1) ⟨#[]⟩) (l.getD (2*x.1+1) ⟨#[]⟩)
def zjG(l:List af)(m:Nat)(hm:0<m)(hl:l.length=2*m):(upto (Ej hm) m).map (Cm l)=upL l:=by rw[upto,iy,upL,hl,show 2*m/2=m by omega];refine gU λj hj=> ?_;have hjm:j<m:=iJ.1 hj;show Cm l (Ej hm j)=_;rw[Cm,Ej];simp only[jM hjm]
section
open Go.Shelf
attribute [local go_sem] pI
def UpI(w:ax)(l:List af)(m:Nat)(pre:List (Fin m))(W:ax):Prop:=
 ∃v,Boxed W w.heap.size 88 v∧qF W (w.heap.size+3) 9 1 v pre.length (strCells (pre.map (Cm l)))∧ak w W∧w.heap.size+3<=W.heap.size
def zq8(w:ax)(l:List af)(m Bf:Nat)(hB:w.heap.size<=Bf):OwnFrom Bf (λpre W=>UpI w l m pre W):=by rintro pre A B row ⟨v,hb,ho,hK,hs⟩ hg hr;refine⟨v,hb.kept hg (λe=> ?_),X0 ho hg (λr e=>(hr r e).2),hK.grown hg (λk e=> .inr (bQ hB (hr k e).1)),bQ hs hg.size⟩;obtain⟨_,o,h1,h2⟩:=hr _ e.s;rw[show A.heap[w.heap.size]? =_ from hb]at h1;cases h1;cases h2
def zet{W w4 w5:ax}{l:List af}{m:Nat}{pre:List (Fin m)}{x:Fin m}{v5 v6:ay}{x0 x1:af}{o:Obj}(d0:Boxed W w.heap.size 88 v5)(own:qF W (w.heap.size+3) 9 1 v5 pre.length (strCells (pre.map (Cm l))))
  (K:ak w W) (hs:w.heap.size+3<=W.heap.size) (K4:ak W w4) (xq:qF w5 (w.heap.size+3) 9 1 v6 (pre.length+1) (strCells (pre.map (Cm l))++ [.string (mk2 x0 x1)])) (hg:(w4.alloc o).grownBy w5 v5.ownBlock) (hp:Cm l x=mk2 x0 x1):
  Boxed w5 w.heap.size 88 v5∧KeepsFrom Bf W (w5.setCell ⟨w.heap.size,0,none⟩ v6)∧zk w.heap.size (w.heap.size+3) W (w5.setCell ⟨w.heap.size,0,none⟩ v6)∧UpI w l m (pre++ [x]) (w5.setCell ⟨w.heap.size,0,none⟩ v6):=by
 have hold:∀k,v5.ownBlock=some k->w.heap.size+3<=k:=λk hk=>(own.lt k hk).1;have K5:Keep (λk=>v5.ownBlock=some k) W w5:=(K4.m (S':=λk=>v5.ownBlock=some k) (λ_ _ h=>h.elim)).alloc o|>.grown hg (λk hk=> .inl hk);have d5:Boxed w5 w.heap.size 88 v5:=K5.heap d0 (λh=>by have:=hold _ h;omega);have K5':Keep (λk=>k=w.heap.size∨v5.ownBlock=some k) W w5:=K5.m (λ_ _ h=>Or.inr h);have K6:=K5'.setCell (p:=⟨w.heap.size,0,none⟩) (.inl (Or.inl rfl)) v6;have uF:=K5.size;refine⟨d5,KeepsFrom.zi3 K6 ?_,zk.zi3 K6 hs ?_,v6,d5.set v6,?_,?_,?_⟩
 ·rintro k o' (rfl|hk) ho
  ·rw[show W.heap[w.heap.size]? =_ from d0]at ho;cases ho;rfl
  rcases own.2 with⟨hv,_⟩|⟨g,cap,cur,fz,hv,_,hh,_⟩
  ·rw[hv]at hk;cases hk
  rw[hv]at hk;obtain rfl:g=k:=aU hk;rw[hh]at ho;cases ho;rfl
 ·rintro k hk (rfl|h)
  ·rfl
  have:=hold k h;omega
 ·have h2:=xq.qm ((ah (qJ w.heap.size) w5).tK 0 v6) (λb hb h=>by
   have:=(xq.lt b hb).1
   have:b=w.heap.size:=h
   omega)
  rw[aN,dK,AB];show qF _ _ _ _ _ _ (_++strCells [Cm l x]);rw[hp];exact h2
 ·exact(K.t K5 (λi hi hx=>by have:=hold i hx;omega)).setCell (p:=⟨w.heap.size,0,none⟩) (.inr (aS _)) v6
 ·simp only[World.size_setCell];omega
def zuF(p:Option Addr)(len cap:Nat)(l:List af)(w:ax)(V:rF w)(T:Strs w (.slice p len cap) l)(Ci:len<=cap)(m:Nat)(hm:0<m)(hl:l.length=2*m)(hmx:l.length<=1000)(vz:∀s∈l,s.size=16):
  ae 222 #[.slice p len cap] w λe w'=>∃g c,e= .returned (.slice (some ⟨g,0,none⟩) m c)∧m<=c∧w.heap.size<=g∧Strs w' (.slice (some ⟨g,0,none⟩) m c) (upL l)∧ak w w':=by
 obtain⟨b,off,rfl,hlen,hb,uw⟩:=T.at (by omega);subst hlen;refine(lI (n:=4)).1 ?_;have hro:(Fence.wide).round=none:=rfl;have h1:1<=4:=by omega
 refine callsIn_of_wp_marks func222 rfl trivial ?_ hro;simp only[ntmps222,bZ,bf,cZ,Nat.reduceAdd,Nat.reduceSub,jQ,jR,kH,jV,fZ,fV];obtain⟨n,hn⟩:=aj l.length;rw[<-hn]at T Ci⊢;have Hn:=ag hn;have Hl:=ag hl;clear hn hl
 gi_wp2_with (refine⟨trivial,?_⟩;gi_at_call 277;refine(zqd _ _ _ _ _).m ?_;rintro e w' ⟨rfl,rfl⟩)
 have b0:=((Boxed.new w 88 (.slice none 0 0)).alloc (.cells #[.slice (some ⟨b,off,none⟩) n cap] 88)).alloc (.cells #[.int .i64 2] 3);have b1:=(Boxed.new (w.alloc (.cells #[.slice none 0 0] 88)) 88 (.slice (some ⟨b,off,none⟩) n cap)).alloc (.cells #[.int .i64 2] 3);have b2:=Boxed.new ((w.alloc (.cells #[.slice none 0 0] 88)).alloc (.cells #[.slice (some ⟨b,off,none⟩) n cap] 88)) 3 (.int .i64 2);simp only[lZ]at b1 b2;have hK0:ak w (((w.alloc (.cells #[.slice none 0 0] 88)).alloc (.cells #[.slice (some ⟨b,off,none⟩) n cap] 88)).alloc (.cells #[.int .i64 2] 3)):=(((ah qw w).alloc _).alloc _).alloc _;have uF:(((w.alloc (.cells #[.slice none 0 0] 88)).alloc (.cells #[.slice (some ⟨b,off,none⟩) n cap] 88)).alloc (.cells #[.int .i64 2] 3)).heap.size=w.heap.size+3:=by simp
 obtain⟨W0,hW0⟩:= @exists_eq' _ ((((w.alloc (.cells #[.slice none 0 0] 88)).alloc (.cells #[.slice (some ⟨b,off,none⟩) n cap] 88)).alloc (.cells #[.int .i64 2] 3)));rw[hW0]at b0 b1 b2 hK0 uF⊢;clear hW0;refine wpIn_rangeFunc_ownH hro h1 (gf:=318) (lb:= #[.pointer (some ⟨w.heap.size+1,0,none⟩),.pointer (some ⟨w.heap.size+1+1,0,none⟩)]) rfl trivial (enters_of func318 (by kernel_rfl) rfl)
  (zii (4-1) (by omega) (w.heap.size+1) (w.heap.size+1+1) b off cap n m (zk w.heap.size (w.heap.size+3)) (zk.refl _ _) (λ_ _ _ h k=>h.t k) zk.drewN (λ_ _ h=>h.cell (by omega) (by omega)) (λ_ _ h=>h.cell (by omega) (by omega)) (by rw[Hn.o,Hl.o]) (by rw[Hn.o];omega) Ci hm W0 b1.cell b2.cell (by omega) (by omega))
  (λh k=>h.t k) (zk.putObj (by omega)) (nY _ _) (λ_=>rfl)
  (UpI w l m) (λ_ _ _=>False) (zq8 w l m _ (by omega)) (λc=>λs A B row h _ _=>h)
  ⟨.slice none 0 0,b0,qF.nil _ _ _ _,hK0,by omega⟩
  (λx a' W=>a'= { tmps:= #[.slice (some ⟨b,off,none⟩) n cap,undef,.slice none 0 0,.pointer (some ⟨w.heap.size,0,none⟩),.slice (some ⟨b,off+2*x.1,none⟩) 2 2,.slice (some ⟨b,off,none⟩) n cap,.func (.func 318) #[] #[.pointer (some ⟨w.heap.size+1,0,none⟩),.pointer (some ⟨w.heap.size+1+1,0,none⟩)],.slice (some ⟨b,off+2*x.1,none⟩) 2 2,undef,undef,undef,undef,undef,undef],defers:= [] })
  (λx a' s A B row h _ _=>h)
  ?assign ?body ?done ?stop
 case assign=>
  rintro l2 pre x W K hI hK;gi_wp2;exact hK _ _ (KeepsFrom.refl _ _) (zk.refl _ _ _) hI rfl
 case body=>
  rintro l2 pre x a' W hl2 ⟨r,hr⟩ ⟨v5,d0,own,K,hs⟩ rfl rE;obtain⟨q,hq⟩:=aj (2*x.1);have hqn:q+1<n:=by have:=x.2;have:=Hn.o;have:=Hl.o;omega
  rw[<-hq];obtain⟨x0,hx0⟩:=aj (l.getD q ⟨#[]⟩);obtain⟨x1,Qd⟩:=aj (l.getD (q+1) ⟨#[]⟩);have a16:∀i,i<n->(l.getD i ⟨#[]⟩).size=16:=λi hi=>by rw[aG,aK (by rw[<-Hn.o];exact hi)];exact vz _ (fO _)
  have Vg:x0.size=16:=by rw[hx0];exact a16 _ (by omega)
  have Ro:x1.size=16:=by rw[Qd];exact a16 _ (by omega)
  have hc0:=uw q (by rw[<-Hn.o];omega);have Zp:=uw (q+1) (by rw[<-Hn.o];omega);rw[<-hx0]at hc0;rw[<-Qd]at Zp;have Xc:Cm l x=mk2 x0 x1:=by rw[Cm,<-hq,<-hx0,<-Qd]
  have hS:∀X:Ext W,Strs (W.ext X) (.slice (some ⟨b,off+q,none⟩) 2 2) [x0,x1]:=λX=>by
   have K2:=K.qo (rZ W X);refine .inr ⟨b,off+q,2,rfl,dH hb K2.size,λi hi=> ?_⟩
   have:i=0∨i=1:=by simp at hi;omega
   rcases this with rfl|rfl
   ·exact(K2.cell (p:=⟨b,off+q,none⟩) hb id).t hc0
   exact(K2.cell (p:=⟨b,off+q+1,none⟩) hb id).t Zp
  have EU:=λX:Ext W=>Ep 117 (by omega) _ [x0,x1] (W.ext X) (V.qm (K.qo (rZ W X)) id) (hS X) (zkA x0 x1 (by omega) (by omega)) (by simp);have hd:∀X:Ext W,(W.ext X).cell? ⟨w.heap.size,0,none⟩=some v5:=λX=>((rZ W X).cell (p:=⟨w.heap.size,0,none⟩) d0.lt id).t d0.cell;have Hpm:=ag Xc;have d0c:=d0.cell;have d0l:=d0.lt;clear hS hx0 Qd hc0 Zp Xc a16;obtain⟨i0,zM,Ba,D9,D6⟩:=iC BP;have LP:pre.length<=1000:=by have:=Hl.o;omega
  clear hq uw vz T b0 b1 b2 V hr hm hmx;refine wpIn_block ?_;refine WS [1] (.fork 0 (.row [2,3,4,5]) 2 (.fork 0 (.row [3,4,5]) 3 (.row [0,4,5]))) (by kernel_rfl) (by kernel_rfl) (by rfl) (by rintro⟨_,_,h⟩;exact h) (λc a d v w h=>by cases d<;>exact h) ?_;simp only[qC,aF,aH,aI];refine xy (λK hK=> ?_);go_simp;refine hK _ ?_;clear hK K;refine yf ?_;have hmd:=EU ⟨W.drew,(ah qw W).drew⟩;have Hmd:=ag hmd;clear EU hmd hd;refine⟨?_,?_⟩
  ·simp only[qC,aF,aH,aI];go_wp2_with fail;simp only[BI,qC,aF,aH,aI];go_wp2_with (first|(go_at_call 152;refine Hmd.o.m ?_;rw[zi4];rintro e w4 ⟨rfl,K4'⟩;have K4:ak W w4:=((ah qw W).drew).qo K4')|(refine rY _ rfl (.tmp 8) (.tmp 11) 88 rfl (w.heap.size+3) 9 i0 (.string ⟨#[]⟩) 1 16 gu zM Ba D9 D6 rfl (by decide) _ pre.length (strCells (pre.map (Cm l))) rfl ((own.qm K4 (λ_ _ x=>x)).alloc _) ⟨w4.heap.size,0,none⟩ 1 1 [.string (mk2 x0 x1)] rfl rfl (rJ _ _ _) (by intro u hu;obtain rfl:=bJ.1 hu;rfl) (by unfold maxLen;omega) (by omega) (by have:=K4.size;simp;omega) ?_;intro v6 w5 xq zH zG;obtain⟨g6,ziP,rfl,-,-⟩:=xq.some (Nat.succ_pos _);obtain⟨d5,g1,g2,g3⟩:=zet (Bf:=W0.heap.size) (x:=x) d0 own K hs K4 xq zH Hpm.o;have c5:=d5.cell;have f5:=d5.frozen));exact⟨g1,g2,g3⟩
  simp only[qC,aF,aH,aI];go_wp2_with (first|(go_at_call 152;refine Hmd.o.m ?_;rw[zi4];rintro e w4 ⟨rfl,K4'⟩;have K4:ak W w4:=((ah qw W).drew).qo K4';have c4:w4.cell? ⟨w.heap.size,0,none⟩=some v5:=(K4.cell (p:=⟨w.heap.size,0,none⟩) d0l id).t d0c;have l4:w.heap.size<w4.heap.size:=dH d0l K4.size));refine⟨?_,?_⟩
  ·simp only[qC,aF,aH,aI];go_wp2_with fail;simp only[BI,qC,aF,aH,aI];go_wp2_with (refine rY _ rfl (.tmp 8) (.tmp 11) 88 rfl (w.heap.size+3) 9 i0 (.string ⟨#[]⟩) 1 16 gu zM Ba D9 D6 rfl (by decide) _ pre.length (strCells (pre.map (Cm l))) rfl ((own.qm K4 (λ_ _ x=>x)).alloc _) ⟨w4.heap.size,0,none⟩ 1 1 [.string (mk2 x0 x1)] rfl rfl (rJ _ _ _) (by intro u hu;obtain rfl:=bJ.1 hu;rfl) (by unfold maxLen;omega) (by omega) (by have:=K4.size;simp;omega) ?_;intro v6 w5 xq zH zG;obtain⟨g6,ziP,rfl,-,-⟩:=xq.some (Nat.succ_pos _);obtain⟨d5,g1,g2,g3⟩:=zet (Bf:=W0.heap.size) (x:=x) d0 own K hs K4 xq zH Hpm.o;have c5:=d5.cell;have f5:=d5.frozen);exact⟨g1,g2,g3⟩
  simp only[qC,aF,aH,aI];go_wp2_with fail;simp only[BI,qC,aF,aH,aI];have c4b:(w4.alloc (.cells #[.string (mk2 x0 x1)] 9)).cell? ⟨w.heap.size,0,none⟩=some v5:=(((ah qw w4).alloc _).cell (p:=⟨w.heap.size,0,none⟩) l4 id).t c4;go_wp2_with (refine rY _ rfl (.tmp 8) (.tmp 11) 88 rfl (w.heap.size+3) 9 i0 (.string ⟨#[]⟩) 1 16 gu zM Ba D9 D6 rfl (by decide) _ pre.length (strCells (pre.map (Cm l))) rfl ((own.qm K4 (λ_ _ x=>x)).alloc _) ⟨w4.heap.size,0,none⟩ 1 1 [.string (mk2 x0 x1)] rfl rfl (rJ _ _ _) (by intro u hu;obtain rfl:=bJ.1 hu;rfl) (by unfold maxLen;omega) (by omega) (by have:=K4.size;simp;omega) ?_;intro v6 w5 xq zH zG;obtain⟨g6,ziP,rfl,-,-⟩:=xq.some (Nat.succ_pos _);obtain⟨d5,g1,g2,g3⟩:=zet (Bf:=W0.heap.size) (x:=x) d0 own K hs K4 xq zH Hpm.o;have c5:=d5.cell;have f5:=d5.frozen);exact⟨g1,g2,g3⟩
 case done=>
  rintro D xs W hD rfl ⟨v5,d0,own,K,hs⟩ hW;have c0:=d0.cell;rw[PD,zjG l m hm Hl.o]at own;obtain⟨g,c,rfl,hg,hc⟩:=own.some hm;gi_wp2;have hg2:=grownBy_putObj' W D (.deferred none);have Vs:=X0 own hg2 (λr e=>by cases e;exact⟨_,hW,rfl⟩);have hul:(upL l).length=m:=by rw[zkz,Hl.o];omega
  have T2:Strs (W.putObj D (.deferred none)) (.slice (some ⟨g,0,none⟩) m c) (upL l):=J6 (by rw[hul];exact Vs);have K2:=K.grown hg2 (λk e=> .inr (by cases e;omega));refine⟨by simp,.inl ⟨_,_,rfl,run_takeDeferred hW,?_⟩⟩;refine⟨.slice (some ⟨g,0,none⟩) m c,?_,g,c,rfl,hc,by omega,T2,K2⟩;simp[results,f222,go_sem]
 case stop=>
  rintro D c pre W hD _ h;exact h.elim
end
