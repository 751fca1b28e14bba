import Derived.Test.YtopbkdebihcmcaaGreatDoorYAO
import Derived.RangeFuncNested
import Derived.RangeFuncBound
import Derived.Shelf.RegionOpen
import Derived.OwnWalkIn
import Derived.LoopNIn
import Derived.LoopIn
set_option linter.unusedSimpArgs false
set_option linter.unusedVariables false
namespace Go.Proofs.YtopbkdebihcmcaaGreatDoor
open Go.RowKit
set_option maxRecDepth 100000
set_option maxHeartbeats 16000000
def yK(l:List (Nat×af))(j:Nat):Nat×Nat×af:=(l.length-1-j,l.getD (l.length-1-j) (0,⟨#[]⟩))
section
open Go.Shelf
attribute [local go_sem] jF
theorem zhV(F:Fence)(n:Nat)(hF:F.fn 210)(hro:F.round=none)(hn:1<=n)(l Bs n₀ g cap:Nat)(zs:List (Nat×af))(hz:zs.length<=1000000)(hb:g<n₀)(J Jx:List (Nat×Nat×af)->World->Prop)
  (hY:∀pre x W,J pre W->pre.length<zs.length->YieldAt F (n-1) Tryz.prog l #[.int .i64 (x.1:Int),.agg #[.int .i64 (x.2.1:Int),.string x.2.2]] W λe W'=>
   (e= .returned (.bool true)∧J (pre++ [x]) W'∧Below n₀ W W')∨(e= .returned (.bool false)∧Jx (pre++ [x]) W'))
  (W:World) (hBs:W.cell? ⟨Bs,0,none⟩=some (.slice (some ⟨g,0,none⟩) zs.length cap)) (hB2:Bs<n₀) (hc:∀j,j<zs.length->W.cell? ⟨g,j*2,none⟩=some (.int .i64 ((zs.getD j (0,⟨#[]⟩)).1:Int))∧W.cell? ⟨g,j*2+1,none⟩=some (.string (zs.getD j (0,⟨#[]⟩)).2)) (h0:J [] W):
  CallsIn F n Tryz.prog 210 #[.func (.yield l) #[] #[],.pointer (some ⟨Bs,0,none⟩)] W λe W'=>(∃v,e= .returned v)∧
   ((∃ys,ys=upto (yK zs) zs.length∧J ys W')∨(∃pre,(∃k,k<=zs.length∧pre=upto (yK zs) k)∧Jx pre W')):=by
 obtain⟨m,hm⟩:∃m,m=zs.length:=⟨_,rfl⟩
 rw[<-hm]at hz hBs hY hc;rw[<-hm];have Hm:=ag hm;clear hm;refine kY Tryz.func210 rfl hF ?_ hro;simp only[Tryz.ntmps210,bT,aK,bI,Nat.reduceAdd,Nat.reduceSub,fP,fQ,ig,gm,fK,dI];gi_wp2
 gi_loopw [3] (λi wr=>∃k:Nat,k<=m∧i= .int .i64 ((m:Int)-1-k)∧J (upto (yK zs) k) wr∧Below n₀ W wr)
  (λi _=>(intOf i+1).toNat)
 case atStart=>exact⟨0,dL _,by simp,h0,lG _ _⟩
 case round=>
  obtain⟨k,hk,rfl,hJs,hnx⟩:=hrel;have hc1:wr.cell? ⟨Bs,0,none⟩=some (.slice (some ⟨g,0,none⟩) m cap):=(hnx.cell (p:=⟨Bs,0,none⟩) hB2).trans hBs;by_cases hlt:k<m
  ·obtain⟨j,hj⟩:∃j:Nat,j=m-1-k:=⟨_,rfl⟩
   have hji:(m:Int)-1-k=(j:Int):=by omega
   have hjm:(j:Int)<m:=by omega
   have hj0:(0:Int)<=j:=by omega
   have hcx:=hc j (by omega);have hca:wr.cell? ⟨g,j*2,none⟩=some (.int .i64 ((zs.getD j (0,⟨#[]⟩)).1:Int)):=(hnx.cell (p:=⟨g,j*2,none⟩) hb).trans hcx.1;have hcb:wr.cell? ⟨g,j*2+1,none⟩=some (.string (zs.getD j (0,⟨#[]⟩)).2):=(hnx.cell (p:=⟨g,j*2+1,none⟩) hb).trans hcx.2;have hx:yK zs k=(j,zs.getD j (0,⟨#[]⟩)):=by rw[yK,<-Hm.out,<-hj]
   obtain⟨⟨q,s⟩,hq⟩:∃x,x=zs.getD j (0,⟨#[]⟩):=⟨_,rfl⟩
   rw[<-hq]at hca hcb hx;obtain⟨fn,tmps,assign,body,hy,hR⟩:=hY _ (j,q,s) wr hJs (by rw[upto_length];exact hlt);dsimp only at hy hca hcb;have Hx:=ag hx;have Hj:=ag hj;have Hq:=ag hq;have Hji:=ag hji;rw[hji];clear hx hj hq hji hcx hc hBs;gi_wp2;refine hR.mono ?_;rw[<-Hx.out,<-upto_succ];rintro e W3 (⟨rfl,hJ3,hk3⟩|⟨rfl,hJx3⟩)
   ·gi_wp2;have hfin:(j:Int)-1=(m:Int)-1-((k+1:Nat):Int):=by have:=Hji.out;omega
    go_roundw
    case rel=>exact⟨k+1,by omega,by rw[hfin],hJ3,hnx.trans hk3⟩
    case measure=>simp[intOf]
   ·gi_wp2;refine dW (jm rfl _ _ _) rfl ?_;exact⟨⟨_,rfl⟩,.inr ⟨_,⟨k+1,by omega,rfl⟩,hJx3⟩⟩
  ·obtain rfl:k=m:=by omega
   have hd:decide ((0:Int)<=(k:Int)-1-k)=false:=by simp;omega
   gi_wp2;go_end0;exact⟨⟨_,rfl⟩,.inl ⟨_,rfl,hJs⟩⟩
theorem Yb(F:Fence)(n:Nat)(hF:F.fn 210)(hro:F.round=none)(l Bs c:Nat)(p:Option Addr)(J:List (Nat×Nat×af)->World->Prop)(W:World)(hBs:W.cell? ⟨Bs,0,none⟩=some (.slice p 0 c))(h0:J [] W):
  CallsIn F n Tryz.prog 210 #[.func (.yield l) #[] #[],.pointer (some ⟨Bs,0,none⟩)] W λe W'=>(∃v,e= .returned v)∧J [] W':=by
 refine kY Tryz.func210 rfl hF ?_ hro;simp only[Tryz.ntmps210,bT,aK,bI,Nat.reduceAdd,Nat.reduceSub,fP,fQ,ig,gm,fK,dI];gi_wp2
 gi_loopw [3] (λi wr=>i= .int .i64 (-1)∧J [] wr) (λ_ _=>0)
 case atStart=>exact⟨rfl,h0⟩
 case round=>
  obtain⟨rfl,hJs⟩:=hrel;gi_wp2;go_end0;exact⟨⟨_,rfl⟩,hJs⟩
theorem zjn(F:Fence)(n:Nat)(hF:F.fn 174)(hro:F.round=none)(a:Option Addr)(len cap:Nat)(w:World):
  CallsIn F n Tryz.prog 174 #[.slice a len cap] w λe w'=>e= .returned (.func (.func 210) #[] #[.pointer (some ⟨w.heap.size,0,none⟩)])∧w'=w.alloc (.cells #[.slice a len cap] 62):=by
 refine kY Tryz.func174 rfl hF ?_ hro;simp only[Tryz.ntmps174,bT,aK,bI,Nat.reduceAdd,Nat.reduceSub,fP,fQ,ig,gm,fK,dI];gi_wp2;go_ret;exact⟨rfl,rfl⟩
def DW(n₀:Nat)(W:World)(sv:Value)(zs:List (Nat×af)):Prop:=
 (zs= []∧∃p c,sv= .slice p 0 c)∨∃g cap,sv= .slice (some ⟨g,0,none⟩) zs.length cap∧g<n₀∧∀j,j<zs.length->W.cell? ⟨g,j*2,none⟩=some (.int .i64 ((zs.getD j (0,⟨#[]⟩)).1:Int))∧W.cell? ⟨g,j*2+1,none⟩=some (.string (zs.getD j (0,⟨#[]⟩)).2)
theorem DW.below{n₀:Nat}{A B:World}(h:Below n₀ A B){sv:Value}{zs:List (Nat×af)} :DW n₀ A sv zs->DW n₀ B sv zs
 | .inl e=> .inl e
 | .inr ⟨g,cap,e,hb,hc⟩=> .inr ⟨g,cap,e,hb,λj hj=>⟨(h.cell (p:=⟨g,j*2,none⟩) hb).trans (hc j hj).1,(h.cell (p:=⟨g,j*2+1,none⟩) hb).trans (hc j hj).2⟩⟩
theorem qm.zgm{w:World}{D S:Nat}{wv:Value}{sure:List af}{wait:List (Nat×af)}{oD:Int}(h:qm w D S wv sure wait oD):DW w.heap.size w wv wait:=by
 have hw:=h.waits;by_cases h0:wait= []
 ·subst h0;rcases hw.2 with⟨hv,_⟩|⟨g,cap,cur,fz,hv,_⟩
  ·exact .inl ⟨rfl,_,_,hv⟩
  ·exact .inl ⟨rfl,_,_,hv⟩
 ·have hpos:0<wait.length:=kV.2 h0;obtain⟨g,cap,hv,_⟩:=hw.some hpos;have hlt:=(hw.lt g (by rw[hv];rfl)).2;have hcell:=hw.cells (g:=g) (by rw[hv];rfl);have hadd:∀m,(⟨g,0,none⟩:Addr).add m=⟨g,m,none⟩:=λm=>by unfold Addr.add;split<;>simp_all
  refine .inr ⟨g,cap,hv,hlt,λj hj=> ?_⟩;have hcw:=E8 wait j hj;exact⟨by rw[gG,<-hadd];exact hcell _ _ hcw.1,by rw[gG,<-hadd];exact hcell _ _ hcw.2⟩
theorem zct(F:Fence)(n:Nat)(hF:F.fn 210)(hro:F.round=none)(hn:1<=n)(Bs n₀:Nat)(sv:Value)(zs:List (Nat×af))(hz:zs.length<=1000000)(w:World)(hBs:Bs<n₀)(hn₀:n₀<=w.heap.size)
  (hc:w.cell? ⟨Bs,0,none⟩=some sv) (hI:DW n₀ w sv zs):
  SeqStopsK F n Tryz.prog 210 #[.pointer (some ⟨Bs,0,none⟩)] (λx:Nat×Nat×af=> #[Value.int .i64 (x.1:Int),Value.agg #[Value.int .i64 (x.2.1:Int),Value.string x.2.2]]) (Below n₀) (λys=>ys=upto (yK zs) zs.length)
   (λpre=>∃k,k<=zs.length∧pre=upto (yK zs) k) zs.length w:=λl J Jx W hW _ _ hY h0=>by
 have hc':=(hW.cell (p:=⟨Bs,0,none⟩) (dA hBs hn₀)).trans hc;rcases hI.below (hW.mono hn₀)with⟨rfl,p,c,rfl⟩|⟨g,cap,rfl,hb,hcs⟩
 ·exact(Yb F n hF hro l Bs c p J W hc' h0).mono λe W' ⟨he,hj⟩=>⟨he,.inl ⟨_,rfl,hj⟩⟩
 ·exact zhV F n hF hro hn l Bs n₀ g cap zs hz hb J Jx hY W hc' hBs hcs h0
end
theorem PQ(sure:List af)(l:List (Nat×af))(q m:Nat)(hm:m<=l.length)(h:∀j,m<=j->j<l.length->(l.getD j (0,⟨#[]⟩)).1≠q):(qx sure l).getD q ⟨#[]⟩=(qx sure (l.take m)).getD q ⟨#[]⟩:=by
 have key:∀d,m+d<=l.length->(qx sure (l.take (m+d))).getD q ⟨#[]⟩=(qx sure (l.take m)).getD q ⟨#[]⟩:=by
  intro d
  induction d with
  | zero=>intro _;rfl
  | succ d ih=>
   intro hd;rw[<-ih (by omega),<-Nat.add_assoc,G6 sure l (m+d) (by omega),ax,mf (h (m+d) (by omega) (by omega)),ax]
 have:=key (l.length-m) (by omega)
 rwa [show m+(l.length-m)=l.length by omega,aV (aF _)]at this
theorem zcu(sure:List af)(l:List (Nat×af))(q m:Nat)(s:af)(hm:m<l.length)(hq:q<sure.length)(h:l.getD m (0,⟨#[]⟩)=(q,s)):(qx sure (l.take (m+1))).getD q ⟨#[]⟩=s:=by rw[G6 sure l m hm,h,ax,jW (by rw[yQ];exact hq)];rfl
section
open Go.Shelf
attribute [local go_sem] jF
theorem zcL{w:World}{D S:Nat}{wv:Value}{sure:List af}{wait:List (Nat×af)}{oD:Int}(h:qm w D S wv sure wait oD)(k:Nat)(hk:k<66):
  ae 129 #[.pointer (some ⟨D,0,none⟩),.int .i64 k] w λe w'=>e= .returned (.tuple #[.string ((qx sure wait).getD k ⟨#[]⟩),.nilIface])∧Keep nM w w':=by
 obtain⟨p,c,hpc⟩:∃p c,wv= .slice p wait.length c:=by
  rcases h.waits.2 with⟨hv,h0⟩|⟨g,cap,cur,fz,hv,_⟩
  ·exact⟨_,_,by rw[hv,h0]⟩
  ·exact⟨_,_,hv⟩
 subst hpc;have hWA:=h.zgm;refine(fF (n:=3)).1 ?_;have hro:(Fence.wide).round=none:=rfl;have h1:1<=3:=by omega
 refine callsIn_of_wp_marks Tryz.func129 rfl trivial ?_ hro;simp only[Tryz.ntmps129,bT,aK,bI,Nat.reduceAdd,Nat.reduceSub,fP,fQ,ig,gm,fK,dI];have cw:=h.cell1.1;have hD:D<w.heap.size:=by obtain⟨c,h2,_⟩:=h.head;exact lt_of_heap h2
 have hS:S<w.heap.size:=by obtain⟨c,h2,_⟩:=h.row;exact lt_of_heap h2
 have cw3:∀o1 o2 o3,(((w.alloc o1).alloc o2).alloc o3).cell? ⟨D,1,none⟩=some (.slice p wait.length c):=λo1 o2 o3=>((((ah nM w).alloc o1).alloc o2).alloc o3).cell (p:=⟨D,1,none⟩) hD (λx=>x)|>.trans cw;have c0:decide ((k:Int)<0)=false:=by simp
 have c1:decide ((66:Int)<=k)=false:=by simp;omega
 gi_wp2_with (refine⟨trivial,?_⟩;gi_at_call 174;refine(zjn Fence.wide _ trivial hro _ _ _ _).mono ?_;rintro e w' ⟨rfl,rfl⟩)
 have b3:=(((Boxed.new w 3 (.int .i64 (k:Int))).alloc (.cells #[.string ⟨#[]⟩] 9)).alloc (.cells #[.nilIface] 41)).alloc (.cells #[.slice p wait.length c] 62);have b4:=((Boxed.new (w.alloc (.cells #[.int .i64 (k:Int)] 3)) 9 (.string ⟨#[]⟩)).alloc (.cells #[.nilIface] 41)).alloc (.cells #[.slice p wait.length c] 62);have b5:=(Boxed.new ((w.alloc (.cells #[.int .i64 (k:Int)] 3)).alloc (.cells #[.string ⟨#[]⟩] 9)) 41 .nilIface).alloc (.cells #[.slice p wait.length c] 62);have b6:=Boxed.new (((w.alloc (.cells #[.int .i64 (k:Int)] 3)).alloc (.cells #[.string ⟨#[]⟩] 9)).alloc (.cells #[.nilIface] 41)) 62 (.slice p wait.length c);simp only[eP]at b3 b4 b5 b6;have hB0:Below w.heap.size w ((((w.alloc (.cells #[.int .i64 (k:Int)] 3)).alloc (.cells #[.string ⟨#[]⟩] 9)).alloc (.cells #[.nilIface] 41)).alloc (.cells #[.slice p wait.length c] 62)):=((((lG _ w).alloc (aF _) _).alloc (by simp) _).alloc (by simp;omega) _).alloc (by simp;omega) _;have hsz:((((w.alloc (.cells #[.int .i64 (k:Int)] 3)).alloc (.cells #[.string ⟨#[]⟩] 9)).alloc (.cells #[.nilIface] 41)).alloc (.cells #[.slice p wait.length c] 62)).heap.size=w.heap.size+4:=by simp
 obtain⟨W0,hW0⟩:∃W0,(((w.alloc (.cells #[.int .i64 (k:Int)] 3)).alloc (.cells #[.string ⟨#[]⟩] 9)).alloc (.cells #[.nilIface] 41)).alloc (.cells #[.slice p wait.length c] 62)=W0:=⟨_,rfl⟩
 rw[hW0]at b3 b4 b5 b6 hB0 hsz⊢;clear hW0;have zpc:DW (w.heap.size+4) W0 (.slice p wait.length c) wait:=by
  rcases hWA.below hB0 with e|⟨g,cap,e,hb,hc⟩
  ·exact .inl e
  ·exact .inr ⟨g,cap,e,by omega,hc⟩
 refine wpIn_rangeFunc_ownH hro h1 (gf:=210) (lb:= #[.pointer (some ⟨w.heap.size+1+1+1,0,none⟩)]) rfl trivial (enters_of Tryz.func210 (by kernel_rfl) rfl)
  (zct Fence.wide (3-1) trivial hro (by omega) (w.heap.size+1+1+1) (w.heap.size+4) (.slice p wait.length c) wait h.small W0 (by omega) (by omega) b6.cell zpc) belowK_t (belowK_b (by omega)) (lG _ _) (λ_=>rfl)
  (λpre W=>((∀x∈pre,x.2.1≠k)∧Boxed W w.heap.size 3 (.int .i64 (k:Int))∧Boxed W (w.heap.size+1) 9 (.string ⟨#[]⟩)∧Boxed W (w.heap.size+1+1) 41 .nilIface)∧Below (w.heap.size+4) W0 W)
  (λc pre W=>(c= .ret∧∃ini last,pre=ini++ [last]∧(∀x∈ini,x.2.1≠k)∧last.2.1=k∧Boxed W (w.heap.size+1) 9 (.string last.2.2)∧Boxed W (w.heap.size+1+1) 41 .nilIface)∧Below w.heap.size w W)
  (OwnFrom.and (Own.from (λs A B row hs hg hr=>⟨hs.1,boxed_own _ _ (λ(_:Unit)=>Value.int .i64 (k:Int)) () A B row hs.2.1 hg hr,boxed_own _ _ (λ(_:Unit)=>Value.string ⟨#[]⟩) () A B row hs.2.2.1 hg hr,boxed_own _ _ (λ(_:Unit)=>Value.nilIface) () A B row hs.2.2.2 hg hr⟩) _) (ownFrom_below (by omega) (by omega)))
  (λc=>OwnFrom.and (Own.from (λs A B row hs hg hr=>by obtain⟨hc,ini,last,e1,e2,e3,e4,e5⟩:=hs;exact⟨hc,ini,last,e1,e2,e3,boxed_own _ _ (λ(_:Unit)=>Value.string last.2.2) () A B row e4 hg hr,boxed_own _ _ (λ(_:Unit)=>Value.nilIface) () A B row e5 hg hr⟩) _) (ownFrom_below (aF _) (by omega)))
  ⟨⟨λx hx=>by simp at hx,b3,b4,b5⟩,lG _ _⟩
  (λx a' W=>∃Bx,w.heap.size+3<Bx∧W.heap[Bx]? =some (.cells #[.int .i64 (x.2.1:Int),.string x.2.2] 172 (0,0))∧a'= { tmps:= #[.pointer (some ⟨D,0,none⟩),.int .i64 (k:Int),undef,.pointer (some ⟨w.heap.size,0,none⟩),.pointer (some ⟨w.heap.size+1,0,none⟩),.pointer (some ⟨w.heap.size+1+1,0,none⟩),undef,.pointer (some ⟨Bx,0,none⟩),.int .i64 (k:Int),.bool false,.bool false,.int .i64 (k:Int),.bool false,.bool false,undef,.pointer (some ⟨D,0,none⟩),.pointer (some ⟨D,0,none⟩),.pointer (some ⟨D,1,none⟩),.slice p wait.length c,.func (.func 210) #[] #[.pointer (some ⟨w.heap.size+1+1+1,0,none⟩)],.int .i64 (x.1:Int),.agg #[.int .i64 (x.2.1:Int),.string x.2.2],undef,undef,undef,undef,undef,undef,undef,undef,undef,undef,undef,undef,undef],defers:= [] })
  (λx a' _ X Y row hs hg hr=>by obtain⟨Bx,g1,g2,g3⟩:=hs;refine⟨Bx,g1,(hg.block Bx (lt_of_heap g2) (λe'=> ?_)).trans g2,g3⟩;obtain⟨_,o,ho,hc⟩:=hr Bx e'.symm;rw[g2]at ho;cases ho;cases hc)
  ?assign ?body ?done ?stop
 case assign=>
  rintro l pre x W K ⟨⟨h0,d3,d4,d5⟩,hB1⟩ hK;gi_wp2;have hs1:w.heap.size+4<=W.heap.size:=by have:=hB1.size;omega
  exact hK _ _ ((KeepsOthers.alloc _ _).from _) ((lG _ W).alloc hs1 _) ⟨⟨h0,d3.alloc _,d4.alloc _,d5.alloc _⟩,hB1.alloc hs1 _⟩ ⟨W.heap.size,by omega,aG W _,rfl⟩
 case body=>
  rintro l pre x a' W hl ⟨r,hr⟩ ⟨⟨h0,d3,d4,d5⟩,hB1⟩ ⟨Bx,hBx,bX,rfl⟩ hlt;have x0:W.cell? ⟨Bx,0,none⟩=some (.int .i64 (x.2.1:Int)):=by simp[World.cell?,bX]
  have x1:W.cell? ⟨Bx,1,none⟩=some (.string x.2.2):=by simp[World.cell?,bX]
  have c3:=d3.cell;have c4:=d4.cell;have c5:=d5.cell;have f4:=d4.frozen;have f5:=d5.frozen;have hsW:=hB1.size;by_cases hx:x.2.1=k
  ·have hxb:((x.2.1:Int)==(k:Int))=true:=by simp[hx]
   have Hx:=ag hx;clear hx;gi_wp2;exact⟨((KeepsOthers.setCell _ _ _).trans (KeepsOthers.setCell _ _ _)).from _,⟨rfl,pre,x,rfl,h0,Hx.out,(d4.set _).other (by omega) _,(d5.other (by omega) _).set _⟩,(((hB0.trans (hB1.mono (by omega))).setCell (p:=⟨w.heap.size+1,0,none⟩) (by simp) _)).setCell (p:=⟨w.heap.size+1+1,0,none⟩) (by simp;omega) _⟩
  ·have hxb:((x.2.1:Int)==(k:Int))=false:=by simp;omega
   have Hx:=ag hx;clear hx;gi_wp2;exact⟨KeepsFrom.refl _ _,lG _ _,⟨λy hy=>(dG.1 hy).elim (h0 y) (λe=>by simp at e;subst e;exact Hx.out),d3,d4,d5⟩,hB1⟩
 case done=>
  rintro D' ys W hD' rfl ⟨⟨h0,d3,d4,d5⟩,hB1⟩ hK;have hBW:=hB0.trans (hB1.mono (by omega));have hbl:=h.block k hk;obtain⟨cS,hcS,hcS2⟩:=h.cell1.2;have g0:W.cell? ⟨D,0,none⟩=some (.slice (some ⟨S,0,none⟩) 66 cS):=(hBW.cell (p:=⟨D,0,none⟩) hD).trans hcS;have g1:W.cell? ⟨S,k,none⟩=some (.string (sure.getD k ⟨#[]⟩)):=(hBW.cell (p:=⟨S,k,none⟩) hS).trans hbl.1;have c3:=d3.cell;have c4:=d4.cell;have c5:=d5.cell;have f4:=d4.frozen;have f5:=d5.frozen;have k1:(k:Int)<66:=by omega
  gi_wp2
  gi_region
  gi_wp2;have hK':=((KeepsOthers.setCell W ⟨w.heap.size+1,0,none⟩ (.string (sure[k]?.getD ⟨#[]⟩))).trans (KeepsOthers.setCell _ ⟨w.heap.size+1+1,0,none⟩ .nilIface)).same D' _ hK rfl;obtain⟨W2,hW2⟩:∃W2,W2=((W.setCell ⟨w.heap.size+1,0,none⟩ (.string (sure[k]?.getD ⟨#[]⟩))).setCell ⟨w.heap.size+1+1,0,none⟩ .nilIface).drew:=⟨_,rfl⟩
  have hK2:W2.heap[D']? =some (.deferred (some [])):=by rw[hW2];exact hK'
  have hB2:Below w.heap.size w W2:=by rw[hW2];exact((hBW.setCell (p:=⟨w.heap.size+1,0,none⟩) (by simp) _).setCell (p:=⟨w.heap.size+1+1,0,none⟩) (by simp;omega) _).drew
  have b42:Boxed W2 (w.heap.size+1) 9 (.string (sure[k]?.getD ⟨#[]⟩)):=by rw[hW2];exact(d4.set _).other (by omega) _
  have b52:Boxed W2 (w.heap.size+1+1) 41 .nilIface:=by rw[hW2];exact(d5.other (by omega) _).set _
  rw[<-hW2];clear hW2;have hc4:=cell_kept b42.cell (grownBy_putObj' _ D' (.deferred none)) (λr e=>by cases e;exact⟨_,hK2,rfl⟩);have hc5:=cell_kept b52.cell (grownBy_putObj' _ D' (.deferred none)) (λr e=>by cases e;exact⟨_,hK2,rfl⟩);refine⟨by simp,.inl ⟨_,_,rfl,run_takeDeferred hK2,?_⟩⟩;have hfin:sure[k]?.getD ⟨#[]⟩=(qx sure wait).getD k ⟨#[]⟩:=by
   rw[PQ sure wait k 0 (dL _) (λj _ hj=> ?_),bZ,<-ax]
   ·rfl
   ·have:=h0 (yK wait (wait.length-1-j)) (by simp only[upto,bf,iO];exact⟨_,by omega,rfl⟩)
    rwa [yK,show wait.length-1-(wait.length-1-j)=j by omega]at this
  refine⟨.tuple #[.string (sure[k]?.getD ⟨#[]⟩),.nilIface],?_,by rw[hfin],Keep.vg (hB2.trans (belowK_b (w:=w) (aF _) W2 D' _ _ (by omega) hK2 rfl rfl))⟩;simp[results,Tryz.f129,go_sem,hc4,hc5]
 case stop=>
  rintro D' c' pre W hD' ⟨m,hm,rfl⟩ ⟨⟨rfl,ini,last,e1,e2,e3,d4,d5⟩,hBW⟩ hK;gi_wp2;have hc4:=cell_kept d4.cell (grownBy_putObj' _ D' (.deferred none)) (λr e=>by cases e;exact⟨_,hK,rfl⟩);have hc5:=cell_kept d5.cell (grownBy_putObj' _ D' (.deferred none)) (λr e=>by cases e;exact⟨_,hK,rfl⟩);refine⟨by simp,.inl ⟨_,_,rfl,run_takeDeferred hK,?_⟩⟩;obtain⟨m',rfl⟩:∃m',m=m'+1:=by
   cases m with
   | zero=>simp[upto]at e1
   | succ m'=>exact⟨m',rfl⟩
  rw[upto_succ]at e1;obtain⟨rfl,e5⟩:=List.append_inj' e1 rfl;obtain rfl:yK wait m'=last:=by simpa using e5
  have hfin:(yK wait m').2.2=(qx sure wait).getD k ⟨#[]⟩:=by
   have hx:wait.getD (wait.length-1-m') (0,⟨#[]⟩)=(k,(yK wait m').2.2):=by rw[<-e3];rfl
   rw[PQ sure wait k (wait.length-1-m'+1) (by omega) (λj h1 hj=> ?_),zcu sure wait k (wait.length-1-m') _ (by omega) (by rw[h.len];exact hk) hx];have:=e2 (yK wait (wait.length-1-j)) (by simp only[upto,bf,iO];exact⟨_,by omega,rfl⟩)
   rwa [yK,show wait.length-1-(wait.length-1-j)=j by omega]at this
  refine⟨.tuple #[.string (yK wait m').2.2,.nilIface],?_,by rw[hfin],Keep.vg (hBW.trans (belowK_b (w:=w) (aF _) W D' _ _ (by omega) hK rfl rfl))⟩;simp[results,Tryz.f129,go_sem,hc4,hc5]
end
end Go.Proofs.YtopbkdebihcmcaaGreatDoor
