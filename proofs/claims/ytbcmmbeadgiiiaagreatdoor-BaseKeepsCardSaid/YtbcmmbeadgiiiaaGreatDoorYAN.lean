import Derived.Test.YtbcmmbeadgiiiaaGreatDoorYAK
import Derived.RangeFuncNested
import Derived.RangeFuncBound
import Derived.Shelf.RegionOpen
import Derived.OwnWalkIn
import Derived.LoopNIn
import Derived.LoopIn
set_option linter.all false
namespace Go.Proofs.YtbcmmbeadgiiiaaGreatDoor
open Go.RowKit Tryz
set_option maxRecDepth 100000
set_option maxHeartbeats 16000000
variable{qR:Int}{wait:List (Nat×af)}{qy:List af}{D S:Nat}{w:ax}{wv:ay}
def DI(l:List (Nat×af))(j:Nat):Nat×Nat×af:=(l.length-1-j,l.getD (l.length-1-j) (0,⟨#[]⟩))
section
open Go.Shelf
attribute [local go_sem] pI
def zqi(F:Fence)(n:Nat)(hF:F.fn 272)(hro:F.round=none)(hn:1<=n)(l Bs Bv g cap:Nat)(zs:List (Nat×af))(hz:zs.length<=1000000)(hb:g<Bv)(J Jx:List (Nat×Nat×af)->ax->Prop)
  (hY:∀pre x W,J pre W->pre.length<zs.length->YieldAt F (n-1) prog l #[.int .i64 (x.1:Int),.agg #[.int .i64 (x.2.1:Int),.string x.2.2]] W λe W'=>
   (e= .returned (.bool true)∧J (pre++ [x]) W'∧Below Bv W W')∨(e= .returned (.bool false)∧Jx (pre++ [x]) W'))
  (W:ax) (hBs:W.cell? ⟨Bs,0,none⟩=some (.slice (some ⟨g,0,none⟩) zs.length cap)) (hB2:Bs<Bv) (hc:∀j,j<zs.length->W.cell? ⟨g,j*2,none⟩=some (.int .i64 ((zs.getD j (0,⟨#[]⟩)).1:Int))∧W.cell? ⟨g,j*2+1,none⟩=some (.string (zs.getD j (0,⟨#[]⟩)).2)) (h0:J [] W):
  CallsIn F n prog 272 #[.func (.yield l) #[] #[],.pointer (some ⟨Bs,0,none⟩)] W λe W'=>(∃v,e= .returned v)∧
   ((∃ys,ys=upto (DI zs) zs.length∧J ys W')∨(∃pre,(∃k,k<=zs.length∧pre=upto (DI zs) k)∧Jx pre W')):=by
 obtain⟨m,hm⟩:=aj zs.length;rw[<-hm]at hz hBs hY hc;rw[<-hm];have Hm:=ag hm;clear hm;refine oZ func272 rfl hF ?_ hro;simp only[ntmps272,bZ,bf,cZ,Nat.reduceAdd,Nat.reduceSub,jQ,jR,kH,jV,fZ,fV];gi_wp2
 gi_loopw [3] (λi wr=>∃k:Nat,k<=m∧i= .int .i64 ((m:Int)-1-k)∧J (upto (DI zs) k) wr∧Below Bv W wr)
  (λi _=>(intOf i+1).toNat)
 case atStart=>exact⟨0,fP _,by simp,h0,nY _ _⟩
 case round=>
  obtain⟨k,hk,rfl,hJs,Bl⟩:=hrel;have Zp:wr.cell? ⟨Bs,0,none⟩=some (.slice (some ⟨g,0,none⟩) m cap):=(Bl.cell (p:=⟨Bs,0,none⟩) hB2).t hBs;by_cases rE:k<m
  ·obtain⟨j,hj⟩:∃j:Nat,j=m-1-k:=⟨_,rfl⟩
   have IG:(m:Int)-1-k=(j:Int):=by omega
   have hjm:(j:Int)<m:=by omega
   have hj0:(0:Int)<=j:=by omega
   have Ru:=hc j (by omega);have hca:wr.cell? ⟨g,j*2,none⟩=some (.int .i64 ((zs.getD j (0,⟨#[]⟩)).1:Int)):=(Bl.cell (p:=⟨g,j*2,none⟩) hb).t Ru.1;have hcb:wr.cell? ⟨g,j*2+1,none⟩=some (.string (zs.getD j (0,⟨#[]⟩)).2):=(Bl.cell (p:=⟨g,j*2+1,none⟩) hb).t Ru.2;have hx:DI zs k=(j,zs.getD j (0,⟨#[]⟩)):=by rw[DI,<-Hm.o,<-hj]
   obtain⟨⟨q,s⟩,hq⟩:∃x,x=zs.getD j (0,⟨#[]⟩):=⟨_,rfl⟩
   rw[<-hq]at hca hcb hx;obtain⟨fn,tmps,assign,body,hy,hR⟩:=hY _ (j,q,s) wr hJs (by rw[PD];exact rE);dsimp only at hy hca hcb;have Hx:=ag hx;have Hj:=ag hj;have Hq:=ag hq;have Hji:=ag IG;rw[IG];clear hx hj hq IG Ru hc hBs;gi_wp2;refine hR.m ?_;rw[<-Hx.o,<-VP];rintro e W3 (⟨rfl,hJ3,hk3⟩|⟨rfl,zt9⟩)
   ·gi_wp2;have tN:(j:Int)-1=(m:Int)-1-((k+1:Nat):Int):=by have:=Hji.o;omega
    go_roundw
    case rel=>exact⟨k+1,by omega,by rw[tN],hJ3,Bl.t hk3⟩
    simp[intOf]
   gi_wp2;refine eF (lQ rfl _ _ _) rfl ?_;exact⟨⟨_,rfl⟩,.inr ⟨_,⟨k+1,by omega,rfl⟩,zt9⟩⟩
  obtain rfl:k=m:=by omega
  have hd:decide ((0:Int)<=(k:Int)-1-k)=false:=by simp;omega
  gi_wp2;go_end0;exact⟨⟨_,rfl⟩,.inl ⟨_,rfl,hJs⟩⟩
def zfx(F:Fence)(n:Nat)(hF:F.fn 272)(hro:F.round=none)(l Bs c:Nat)(p:Option Addr)(J:List (Nat×Nat×af)->ax->Prop)(W:ax)(hBs:W.cell? ⟨Bs,0,none⟩=some (.slice p 0 c))(h0:J [] W):
  CallsIn F n prog 272 #[.func (.yield l) #[] #[],.pointer (some ⟨Bs,0,none⟩)] W λe W'=>(∃v,e= .returned v)∧J [] W':=by
 refine oZ func272 rfl hF ?_ hro;simp only[ntmps272,bZ,bf,cZ,Nat.reduceAdd,Nat.reduceSub,jQ,jR,kH,jV,fZ,fV];gi_wp2
 gi_loopw [3] (λi wr=>i= .int .i64 (-1)∧J [] wr) (λ_ _=>0)
 case atStart=>exact⟨rfl,h0⟩
 case round=>
  obtain⟨rfl,hJs⟩:=hrel;gi_wp2;go_end0;exact⟨⟨_,rfl⟩,hJs⟩
def zr6(F:Fence)(n:Nat)(hF:F.fn 216)(hro:F.round=none)(a:Option Addr)(len cap:Nat)(w:ax):
  CallsIn F n prog 216 #[.slice a len cap] w λe w'=>e= .returned (.func (.func 272) #[] #[.pointer (some ⟨w.heap.size,0,none⟩)])∧w'=w.alloc (.cells #[.slice a len cap] 94):=by
 refine oZ func216 rfl hF ?_ hro;simp only[ntmps216,bZ,bf,cZ,Nat.reduceAdd,Nat.reduceSub,jQ,jR,kH,jV,fZ,fV];gi_wp2;go_ret;exact⟨rfl,rfl⟩
def Kv(Bv:Nat)(W:ax)(sv:ay)(zs:List (Nat×af)):Prop:=
 (zs= []∧∃p c,sv= .slice p 0 c)∨∃g cap,sv= .slice (some ⟨g,0,none⟩) zs.length cap∧g<Bv∧∀j,j<zs.length->W.cell? ⟨g,j*2,none⟩=some (.int .i64 ((zs.getD j (0,⟨#[]⟩)).1:Int))∧W.cell? ⟨g,j*2+1,none⟩=some (.string (zs.getD j (0,⟨#[]⟩)).2)
def Kv.below{Bv:Nat}{A B:ax}(h:Below Bv A B){sv:ay}{zs:List (Nat×af)} :Kv Bv A sv zs->Kv Bv B sv zs
 | .inl e=> .inl e
 | .inr ⟨g,cap,e,hb,hc⟩=> .inr ⟨g,cap,e,hb,λj hj=>⟨(h.cell (p:=⟨g,j*2,none⟩) hb).t (hc j hj).1,(h.cell (p:=⟨g,j*2+1,none⟩) hb).t (hc j hj).2⟩⟩
def vW.zoL(h:vW w D S wv qy wait qR):Kv w.heap.size w wv wait:=by
 have hw:=h.waits;by_cases h0:wait= []
 ·subst h0;rcases hw.2 with⟨hv,_⟩|⟨g,cap,cur,fz,hv,_⟩
  ·exact .inl ⟨rfl,_,_,hv⟩
  exact .inl ⟨rfl,_,_,hv⟩
 have zlg:0<wait.length:=pM.2 h0;obtain⟨g,cap,hv,_⟩:=hw.some zlg;have rE:=(hw.lt g (by rw[hv];rfl)).2;have uw:=hw.cells (g:=g) (by rw[hv];rfl);have Dz:∀m,(⟨g,0,none⟩:Addr).add m=⟨g,m,none⟩:=λm=>by unfold Addr.add;split<;>simp_all
 refine .inr ⟨g,cap,hv,rE,λj hj=> ?_⟩;have hcw:=UD wait j hj;exact⟨by rw[jA,<-Dz];exact uw _ _ hcw.1,by rw[jA,<-Dz];exact uw _ _ hcw.2⟩
def zkc(F:Fence)(n:Nat)(hF:F.fn 272)(hro:F.round=none)(hn:1<=n)(Bs Bv:Nat)(sv:ay)(zs:List (Nat×af))(hz:zs.length<=1000000)(w:ax)(hBs:Bs<Bv)(zsv:Bv<=w.heap.size)
  (hc:w.cell? ⟨Bs,0,none⟩=some sv) (hI:Kv Bv w sv zs):
  SeqStopsK F n prog 272 #[.pointer (some ⟨Bs,0,none⟩)] (λx:Nat×Nat×af=> #[Value.int .i64 (x.1:Int),Value.agg #[Value.int .i64 (x.2.1:Int),Value.string x.2.2]]) (Below Bv) (λys=>ys=upto (DI zs) zs.length)
   (λpre=>∃k,k<=zs.length∧pre=upto (DI zs) k) zs.length w:=λl J Jx W hW _ _ hY h0=>by
 have Zq:=(hW.cell (p:=⟨Bs,0,none⟩) (dH hBs zsv)).t hc;rcases hI.below (hW.m zsv)with⟨rfl,p,c,rfl⟩|⟨g,cap,rfl,hb,zu⟩
 ·exact(zfx F n hF hro l Bs c p J W Zq h0).m λe W' ⟨he,hj⟩=>⟨he,.inl ⟨_,rfl,hj⟩⟩
 ·exact zqi F n hF hro hn l Bs Bv g cap zs hz hb J Jx hY W Zq hBs zu h0
end
def Yt(qy:List af)(l:List (Nat×af))(q m:Nat)(hm:m<=l.length)(h:∀j,m<=j->j<l.length->(l.getD j (0,⟨#[]⟩)).1≠q):(sQ qy l).getD q ⟨#[]⟩=(sQ qy (l.take m)).getD q ⟨#[]⟩:=by
 have key:∀d,m+d<=l.length->(sQ qy (l.take (m+d))).getD q ⟨#[]⟩=(sQ qy (l.take m)).getD q ⟨#[]⟩:=by
  intro d
  induction d with
  | zero=>intro _;rfl
  | succ d ih=>
   intro hd;rw[<-ih (by omega),<-kT,F6 qy l (m+d) (by omega),aG,o9 (h (m+d) (by omega) (by omega)),aG]
 have:=key (l.length-m) (by omega)
 rwa [show m+(l.length-m)=l.length by omega,bg (aS _)]at this
def zkd(qy:List af)(l:List (Nat×af))(q m:Nat)(s:af)(hm:m<l.length)(hq:q<qy.length)(h:l.getD m (0,⟨#[]⟩)=(q,s)):(sQ qy (l.take (m+1))).getD q ⟨#[]⟩=s:=by rw[F6 qy l m hm,h,aG,mG (by rw[DU];exact hq)];rfl
section
open Go.Shelf
attribute [local go_sem] pI
def zkH(h:vW w D S wv qy wait qR)(k:Nat)(hk:k<66):
  ae 149 #[.pointer (some ⟨D,0,none⟩),.int .i64 k] w (au (.tuple #[.string ((sQ qy wait).getD k ⟨#[]⟩),.nilIface]) w):=by
 obtain⟨p,c,hpc⟩:∃p c,wv= .slice p wait.length c:=by
  rcases h.waits.2 with⟨hv,h0⟩|⟨g,cap,cur,fz,hv,_⟩
  ·exact⟨_,_,by rw[hv,h0]⟩
  exact⟨_,_,hv⟩
 subst hpc;have hWA:=h.zoL;refine(lI (n:=3)).1 ?_;have hro:(Fence.wide).round=none:=rfl;have h1:1<=3:=by omega
 refine callsIn_of_wp_marks func149 rfl trivial ?_ hro;simp only[ntmps149,bZ,bf,cZ,Nat.reduceAdd,Nat.reduceSub,jQ,jR,kH,jV,fZ,fV];have cw:=h.BH.1;have hD:D<w.heap.size:=by obtain⟨c,h2,_⟩:=h.head;exact lt_of_heap h2
 have hS:S<w.heap.size:=by obtain⟨c,h2,_⟩:=h.row;exact lt_of_heap h2
 have cw3:∀o1 o2 o3,(((w.alloc o1).alloc o2).alloc o3).cell? ⟨D,1,none⟩=some (.slice p wait.length c):=λo1 o2 o3=>((((ah qw w).alloc o1).alloc o2).alloc o3).cell (p:=⟨D,1,none⟩) hD id|>.trans cw;have c0:decide ((k:Int)<0)=false:=by simp
 have c1:decide ((66:Int)<=k)=false:=by simp;omega
 gi_wp2_with (refine⟨trivial,?_⟩;gi_at_call 216;refine(zr6 Fence.wide _ trivial hro _ _ _ _).m ?_;rintro e w' ⟨rfl,rfl⟩)
 have b3:=(((Boxed.new w 3 (.int .i64 (k:Int))).alloc (.cells #[.string ⟨#[]⟩] 9)).alloc (.cells #[.nilIface] 40)).alloc (.cells #[.slice p wait.length c] 94);have b4:=((Boxed.new (w.alloc (.cells #[.int .i64 (k:Int)] 3)) 9 (.string ⟨#[]⟩)).alloc (.cells #[.nilIface] 40)).alloc (.cells #[.slice p wait.length c] 94);have b5:=(Boxed.new ((w.alloc (.cells #[.int .i64 (k:Int)] 3)).alloc (.cells #[.string ⟨#[]⟩] 9)) 40 .nilIface).alloc (.cells #[.slice p wait.length c] 94);have b6:=Boxed.new (((w.alloc (.cells #[.int .i64 (k:Int)] 3)).alloc (.cells #[.string ⟨#[]⟩] 9)).alloc (.cells #[.nilIface] 40)) 94 (.slice p wait.length c);simp only[lZ]at b3 b4 b5 b6;have hB0:Below w.heap.size w ((((w.alloc (.cells #[.int .i64 (k:Int)] 3)).alloc (.cells #[.string ⟨#[]⟩] 9)).alloc (.cells #[.nilIface] 40)).alloc (.cells #[.slice p wait.length c] 94)):=((((nY _ w).alloc (aS _) _).alloc (by simp) _).alloc (by simp;omega) _).alloc (by simp;omega) _;have uF:((((w.alloc (.cells #[.int .i64 (k:Int)] 3)).alloc (.cells #[.string ⟨#[]⟩] 9)).alloc (.cells #[.nilIface] 40)).alloc (.cells #[.slice p wait.length c] 94)).heap.size=w.heap.size+4:=by simp
 obtain⟨W0,hW0⟩:= @exists_eq' _ ((((w.alloc (.cells #[.int .i64 (k:Int)] 3)).alloc (.cells #[.string ⟨#[]⟩] 9)).alloc (.cells #[.nilIface] 40)).alloc (.cells #[.slice p wait.length c] 94));rw[hW0]at b3 b4 b5 b6 hB0 uF⊢;clear hW0;have zAa:Kv (w.heap.size+4) W0 (.slice p wait.length c) wait:=by
  rcases hWA.below hB0 with e|⟨g,cap,e,hb,hc⟩
  ·exact .inl e
  exact .inr ⟨g,cap,e,by omega,hc⟩
 refine wpIn_rangeFunc_ownH hro h1 (gf:=272) (lb:= #[.pointer (some ⟨w.heap.size+1+1+1,0,none⟩)]) rfl trivial (enters_of func272 (by kernel_rfl) rfl)
  (zkc Fence.wide (3-1) trivial hro (by omega) (w.heap.size+1+1+1) (w.heap.size+4) (.slice p wait.length c) wait h.small W0 (by omega) (by omega) b6.cell zAa) belowK_t (belowK_b (by omega)) (nY _ _) (λ_=>rfl)
  (λpre W=>((∀x∈pre,x.2.1≠k)∧Boxed W w.heap.size 3 (.int .i64 (k:Int))∧Boxed W (w.heap.size+1) 9 (.string ⟨#[]⟩)∧Boxed W (w.heap.size+1+1) 40 .nilIface)∧Below (w.heap.size+4) W0 W)
  (λc pre W=>(c= .ret∧∃ini last,pre=ini++ [last]∧(∀x∈ini,x.2.1≠k)∧last.2.1=k∧Boxed W (w.heap.size+1) 9 (.string last.2.2)∧Boxed W (w.heap.size+1+1) 40 .nilIface)∧Below w.heap.size w W)
  (OwnFrom.and (Own.from (λs A B row hs hg hr=>⟨hs.1,boxed_own _ _ (λ(_:Unit)=>Value.int .i64 (k:Int)) () A B row hs.2.1 hg hr,boxed_own _ _ (λ(_:Unit)=>Value.string ⟨#[]⟩) () A B row hs.2.2.1 hg hr,boxed_own _ _ (λ(_:Unit)=>Value.nilIface) () A B row hs.2.2.2 hg hr⟩) _) (ownFrom_below (by omega) (by omega)))
  (λc=>OwnFrom.and (Own.from (λs A B row hs hg hr=>by obtain⟨hc,ini,last,e1,e2,e3,e4,e5⟩:=hs;exact⟨hc,ini,last,e1,e2,e3,boxed_own _ _ (λ(_:Unit)=>Value.string last.2.2) () A B row e4 hg hr,boxed_own _ _ (λ(_:Unit)=>Value.nilIface) () A B row e5 hg hr⟩) _) (ownFrom_below (aS _) (by omega)))
  ⟨⟨λx hx=>by simp at hx,b3,b4,b5⟩,nY _ _⟩
  (λx a' W=>∃Bx,w.heap.size+3<Bx∧W.heap[Bx]? =some (.cells #[.int .i64 (x.2.1:Int),.string x.2.2] 289 (0,0))∧a'= { tmps:= #[.pointer (some ⟨D,0,none⟩),.int .i64 (k:Int),undef,.pointer (some ⟨w.heap.size,0,none⟩),.pointer (some ⟨w.heap.size+1,0,none⟩),.pointer (some ⟨w.heap.size+1+1,0,none⟩),undef,.pointer (some ⟨Bx,0,none⟩),.int .i64 (k:Int),.bool false,.bool false,.int .i64 (k:Int),.bool false,.bool false,undef,.pointer (some ⟨D,0,none⟩),.pointer (some ⟨D,0,none⟩),.pointer (some ⟨D,1,none⟩),.slice p wait.length c,.func (.func 272) #[] #[.pointer (some ⟨w.heap.size+1+1+1,0,none⟩)],.int .i64 (x.1:Int),.agg #[.int .i64 (x.2.1:Int),.string x.2.2],undef,undef,undef,undef,undef,undef,undef,undef,undef,undef,undef,undef,undef],defers:= [] })
  (λx a' _ X Y row hs hg hr=>by obtain⟨Bx,g1,g2,g3⟩:=hs;refine⟨Bx,g1,(hg.block Bx (lt_of_heap g2) (λe'=> ?_)).t g2,g3⟩;obtain⟨_,o,ho,hc⟩:=hr Bx e'.s;rw[g2]at ho;cases ho;cases hc)
  ?assign ?body ?done ?stop
 case assign=>
  rintro l pre x W K ⟨⟨h0,d3,d4,d5⟩,hB1⟩ hK;gi_wp2;have Ro:w.heap.size+4<=W.heap.size:=by have:=hB1.size;omega
  exact hK _ _ ((KeepsOthers.alloc _ _).from _) ((nY _ W).alloc Ro _) ⟨⟨h0,d3.alloc _,d4.alloc _,d5.alloc _⟩,hB1.alloc Ro _⟩ ⟨W.heap.size,by omega,aQ W _,rfl⟩
 case body=>
  rintro l pre x a' W hl ⟨r,hr⟩ ⟨⟨h0,d3,d4,d5⟩,hB1⟩ ⟨Bx,hBx,bX,rfl⟩ rE;have x0:W.cell? ⟨Bx,0,none⟩=some (.int .i64 (x.2.1:Int)):=by simp[World.cell?,bX]
  have x1:W.cell? ⟨Bx,1,none⟩=some (.string x.2.2):=by simp[World.cell?,bX]
  have c3:=d3.cell;have c4:=d4.cell;have c5:=d5.cell;have f4:=d4.frozen;have f5:=d5.frozen;have hsW:=hB1.size;by_cases hx:x.2.1=k
  ·have hxb:((x.2.1:Int)==(k:Int))=true:=by simp[hx]
   have Hx:=ag hx;clear hx;gi_wp2;exact⟨((KeepsOthers.setCell _ _ _).trans (KeepsOthers.setCell _ _ _)).from _,⟨rfl,pre,x,rfl,h0,Hx.o,(d4.set _).other (by omega) _,(d5.other (by omega) _).set _⟩,(((hB0.trans (hB1.m (by omega))).setCell (p:=⟨w.heap.size+1,0,none⟩) (by simp) _)).setCell (p:=⟨w.heap.size+1+1,0,none⟩) (by simp;omega) _⟩
  have hxb:((x.2.1:Int)==(k:Int))=false:=by simp;omega
  have Hx:=ag hx;clear hx;gi_wp2;exact⟨KeepsFrom.refl _ _,nY _ _,⟨λy hy=>(dX.1 hy).elim (h0 y) (λe=>by simp at e;subst e;exact Hx.o),d3,d4,d5⟩,hB1⟩
 case done=>
  rintro D' ys W hD' rfl ⟨⟨h0,d3,d4,d5⟩,hB1⟩ hK;have hBW:=hB0.t (hB1.m (by omega));have Zr:=h.block k hk;obtain⟨cS,hcS,hcS2⟩:=h.BH.2;have g0:W.cell? ⟨D,0,none⟩=some (.slice (some ⟨S,0,none⟩) 66 cS):=(hBW.cell (p:=⟨D,0,none⟩) hD).t hcS;have g1:W.cell? ⟨S,k,none⟩=some (.string (qy.getD k ⟨#[]⟩)):=(hBW.cell (p:=⟨S,k,none⟩) hS).t Zr.1;have c3:=d3.cell;have c4:=d4.cell;have c5:=d5.cell;have f4:=d4.frozen;have f5:=d5.frozen;have k1:(k:Int)<66:=by omega
  gi_wp2
  gi_region
  gi_wp2;have hK':=((KeepsOthers.setCell W ⟨w.heap.size+1,0,none⟩ (.string (qy[k]?.getD ⟨#[]⟩))).trans (KeepsOthers.setCell _ ⟨w.heap.size+1+1,0,none⟩ .nilIface)).same D' _ hK rfl;obtain⟨W2,hW2⟩:=aj (((W.setCell ⟨w.heap.size+1,0,none⟩ (.string (qy[k]?.getD ⟨#[]⟩))).setCell ⟨w.heap.size+1+1,0,none⟩ .nilIface).drew);have hK2:W2.heap[D']? =some (.deferred (some [])):=by rw[hW2];exact hK'
  have hB2:Below w.heap.size w W2:=by rw[hW2];exact((hBW.setCell (p:=⟨w.heap.size+1,0,none⟩) (by simp) _).setCell (p:=⟨w.heap.size+1+1,0,none⟩) (by simp;omega) _).drew
  have b42:Boxed W2 (w.heap.size+1) 9 (.string (qy[k]?.getD ⟨#[]⟩)):=by rw[hW2];exact(d4.set _).other (by omega) _
  have b52:Boxed W2 (w.heap.size+1+1) 40 .nilIface:=by rw[hW2];exact(d5.other (by omega) _).set _
  rw[<-hW2];clear hW2;have hc4:=cell_kept b42.cell (grownBy_putObj' _ D' (.deferred none)) (λr e=>by cases e;exact⟨_,hK2,rfl⟩);have hc5:=cell_kept b52.cell (grownBy_putObj' _ D' (.deferred none)) (λr e=>by cases e;exact⟨_,hK2,rfl⟩);refine⟨by simp,.inl ⟨_,_,rfl,run_takeDeferred hK2,?_⟩⟩;have tN:qy[k]?.getD ⟨#[]⟩=(sQ qy wait).getD k ⟨#[]⟩:=by
   rw[Yt qy wait k 0 (fP _) (λj _ hj=> ?_),dD,<-aG]
   ·rfl
   have:=h0 (DI wait (wait.length-1-j)) (by simp only[upto,bY,iJ];exact⟨_,by omega,rfl⟩)
   rwa [DI,show wait.length-1-(wait.length-1-j)=j by omega]at this
  refine⟨.tuple #[.string (qy[k]?.getD ⟨#[]⟩),.nilIface],?_,by rw[tN],Keep.Em (hB2.t (belowK_b (w:=w) (aS _) W2 D' _ _ (by omega) hK2 rfl rfl))⟩;simp[results,f149,go_sem,hc4,hc5]
 case stop=>
  rintro D' c' pre W hD' ⟨m,hm,rfl⟩ ⟨⟨rfl,ini,last,e1,e2,e3,d4,d5⟩,hBW⟩ hK;gi_wp2;have hc4:=cell_kept d4.cell (grownBy_putObj' _ D' (.deferred none)) (λr e=>by cases e;exact⟨_,hK,rfl⟩);have hc5:=cell_kept d5.cell (grownBy_putObj' _ D' (.deferred none)) (λr e=>by cases e;exact⟨_,hK,rfl⟩);refine⟨by simp,.inl ⟨_,_,rfl,run_takeDeferred hK,?_⟩⟩;obtain⟨m',rfl⟩:∃m',m=m'+1:=by
   cases m with
   | zero=>simp[upto]at e1
   | succ m'=>exact⟨m',rfl⟩
  rw[VP]at e1;obtain⟨rfl,e5⟩:=List.append_inj' e1 rfl;obtain rfl:DI wait m'=last:=by simpa using e5
  have tN:(DI wait m').2.2=(sQ qy wait).getD k ⟨#[]⟩:=by
   have hx:wait.getD (wait.length-1-m') (0,⟨#[]⟩)=(k,(DI wait m').2.2):=by rw[<-e3];rfl
   rw[Yt qy wait k (wait.length-1-m'+1) (by omega) (λj h1 hj=> ?_),zkd qy wait k (wait.length-1-m') _ (by omega) (by rw[h.len];exact hk) hx];have:=e2 (DI wait (wait.length-1-j)) (by simp only[upto,bY,iJ];exact⟨_,by omega,rfl⟩)
   rwa [DI,show wait.length-1-(wait.length-1-j)=j by omega]at this
  refine⟨.tuple #[.string (DI wait m').2.2,.nilIface],?_,by rw[tN],Keep.Em (hBW.t (belowK_b (w:=w) (aS _) W D' _ _ (by omega) hK rfl rfl))⟩;simp[results,f149,go_sem,hc4,hc5]
end
