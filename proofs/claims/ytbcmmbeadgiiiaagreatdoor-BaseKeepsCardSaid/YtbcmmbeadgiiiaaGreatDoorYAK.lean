import Derived.Test.YtbcmmbeadgiiiaaGreatDoorYAH
import Derived.Test.YtbcmmbeadgiiiaaGreatDoorYAJ
import Derived.Deep.RegionLaw
import Derived.Deep.MidRow
set_option linter.all false
namespace Go.Proofs.YtbcmmbeadgiiiaaGreatDoor
open Go.RowKit Tryz
set_option maxRecDepth 100000
set_option maxHeartbeats 16000000
variable{n qR:Int}{wait:List (Nat×af)}{qy:List af}{B D S:Nat}{X:Nat->Prop}{w w':ax}{wv:ay}
def zO:af:=uu (List.replicate 256 0)
def Fj:zO.size=256:=by rw[zO,rH,bP]
def yu(l:List (Nat×af)):List ay:=l.flatMap λp=> [.int .i64 (p.1:Int),.string p.2]
def WU(a b:List (Nat×af)):yu (a++b)=yu a++yu b:=by simp[yu]
def JA{P:Program}{ops:Array Oper}{o:Oper}{a:Act}{K:Act->ax->Prop}{Q:Exit->Act->ax->Prop}{E:Prop}(hg:o.guard=none)(s x:Operand)(t:aB)
  (ho:o.op= .call { callee:= .builtin .append,args:= #[s,x],argTypes:= #[t,t] })
  (base:Nat) (e:aB) (i:TypeInfo) (z:ay) (size bytes:Nat) (ht:P.underlying t=some (.slice e)) (hi:P.info? e=some i) (hz:i.zero=some z)
  (NY:i.size=size) (hby:i.bytes=bytes) (hzs:z.cells.size=size) (uF:0<size) (v:ay) (n:Nat) (xs:List ay) (hs:a.eval s=v) (ru:qF w base e size v n xs)
  (ad:Addr) (m c:Nat) (news:List ay) (hx:a.eval x= .slice (some ad) m c) (hl:news.length=m*size) (TS:∀j u,news[j]? =some u->w.cell? (ad.add j)=some u) (h1:∀u∈news,u.oneCell'=true)
  (h63:n+m<=maxLen) (Gi:(n+m)*bytes<=140737488355328) (Ee:base<=w.heap.size)
  (h:∀v' w',qF w' base e size v' (n+m) (xs++news)->w.grownBy w' v.ownBlock->(v'.ownBlock=v.ownBlock∨∀b,v'.ownBlock=some b->w.heap.size<=b)->K (a.put o.dst v') w'):
  if Region.wanted o (yielded ops a.tmps)=true then Oper.wp P o a w K Q else E:=by
 have hw:Region.wanted o (yielded ops a.tmps)=true:=by simp[Region.wanted,hg]
 rw[bu hw];obtain⟨v',w',hr,h2,h3,h4⟩:=NJ (P:=P) w base t o.type e i z size bytes ht hi hz NY hby hzs uF v n xs ru ad m c news hl TS h1 h63 Gi Ee;unfold Oper.wp execOp;simp only[ho,resolve,invoke,builtin,lJ,Sem.run_pure,mQ,fH,bH,dh,hs,hx,hr];exact h v' w' h2 h3 h4
def zrN:(madeCells (Value.cells (.int .u8 0)) (256*1)).toList=DV (List.replicate 256 0):=by show(madeCells #[Value.int .u8 0] (256*1)).toList=_;rw[toList_madeCells_one,mi,DV,pW];rfl
def zgq(w:ax):ae 36 #[] w (au (.string zO) w):=by obtain⟨i0,zM,Ba,D9,D6⟩:=iC Ud;have hl:(List.replicate 256 0).length=256:=bP;go_enter func36,ntmps36;go_wp2_with (first|(refine wpList_make_full _ rfl _ _ 153 rfl w.heap.size 5 i0 (.int .u8 0) 1 dG zM Ba D9 .i64 .i64 256 256 256 rfl rfl rfl rfl (by rw[D6];decide) (by decide) (aS _) ?_;intro w1 ztk xO;rw[zrN]at ztk;have NT:=BU (P:=prog) (l:=List.replicate 256 0) (by rw[hl];exact ztk) dG eQ bK;rw[<-zO]at NT;clear hl ztk));go_ret;exact⟨rfl,(ah qw w).grown xO (λc hc=>by cases hc)⟩
structure vW(w:ax)(D S:Nat)(wv:ay)(qy:List af)(wait:List (Nat×af))(qR:Int):Prop where
 head:∃c,w.heap[D]? =some (.cells #[.slice (some ⟨S,0,none⟩) 66 c,wv,.int .i64 qR] 96 (0,0))∧66<=c
 row:∃cur,w.heap[S]? =some (.cells cur 9 (0,0))∧cur.toList.take 66=strCells qy
 waits:qF w 0 289 2 wv wait.length (yu wait)
 len:qy.length=66
 lo: -1<=qR
 hi:qR<=9223372036854775807
 apart:S≠D∧(∀b,wv.ownBlock=some b->b≠D∧b≠S)
 small:wait.length<=1000000
 ats:∀p,p∈wait->p.1<66
def xN(D S:Nat)(wv:ay):Nat->Prop:=λb=>b=D∨b=S∨wv.ownBlock=some b
def vW.qm(h:vW w D S wv qy wait qR)(hk:Keep X w w')(hn:∀b,xN D S wv b->¬X b):vW w' D S wv qy wait qR:=by obtain⟨c,h1,h2⟩:=h.head;obtain⟨cur,h3,h4⟩:=h.row;exact⟨⟨c,hk.heap h1 (hn D (.inl rfl)),h2⟩,⟨cur,hk.heap h3 (hn S (.inr (.inl rfl))),h4⟩,h.waits.qm hk (λb hb=>hn b (.inr (.inr hb))),h.len,h.lo,h.hi,h.apart,h.small,h.ats⟩
def x9(qR:Int):Int:=if 0<qR then qR-1 else qR
def vW.zcX(h:vW w D S wv qy wait qR):w.cell? ⟨D,2,none⟩=some (.int .i64 qR)∧∀i,w.frozen? ⟨D,i,none⟩=false:=by obtain⟨c,h1,_⟩:=h.head;exact⟨by simp[World.cell?,h1],λi=>by simp[World.frozen?,h1]⟩
def vW.BH(h:vW w D S wv qy wait qR):w.cell? ⟨D,1,none⟩=some wv∧∃c,w.cell? ⟨D,0,none⟩=some (.slice (some ⟨S,0,none⟩) 66 c)∧66<=c:=by obtain⟨c,h1,h2⟩:=h.head;exact⟨by simp[World.cell?,h1],c,by simp[World.cell?,h1],h2⟩
def vW.zeB(h:vW w D S wv qy wait qR)(f:Int)(h0: -1<=f)(h1:f<=9223372036854775807):
  vW (w.setCell ⟨D,2,none⟩ (.int .i64 f)) D S wv qy wait f:=by
 have K:Keep (qJ D) w (w.setCell ⟨D,2,none⟩ (.int .i64 f)):=(ah _ _).tK _ _;obtain⟨c,h2,h3⟩:=h.head;obtain⟨cur,h4,h5⟩:=h.row;refine⟨⟨c,?_,h3⟩,⟨cur,K.heap h4 h.apart.1,h5⟩,h.waits.qm K (λb hb=>(h.apart.2 b hb).1),h.len,h0,h1,h.apart,h.small,h.ats⟩;have rE:=lt_of_heap h2;have h':w.heap[D]= .cells #[.slice (some ⟨S,0,none⟩) 66 c,wv,.int .i64 qR] 96 (0,0):=by simpa [dQ rE]using h2
 show(w.heap.modify D _)[D]? =_;rw[dQ (by simpa using rE),fQ,h'];rfl
def vW.zrn(h:vW w D S wv qy wait qR)(zV:ay)(Ed:List (Nat×af))
  (hw:qF w 0 289 2 zV Ed.length (yu Ed)) (ha:∀b,zV.ownBlock=some b->b≠D∧b≠S) (hs:Ed.length<=1000000) (NU:∀p,p∈Ed->p.1<66):
  vW (w.setCell ⟨D,1,none⟩ zV) D S zV qy Ed qR:=by
 have K:Keep (qJ D) w (w.setCell ⟨D,1,none⟩ zV):=(ah _ _).tK _ _;obtain⟨c,h2,h3⟩:=h.head;obtain⟨cur,h4,h5⟩:=h.row;refine⟨⟨c,?_,h3⟩,⟨cur,K.heap h4 h.apart.1,h5⟩,hw.qm K (λb hb=>(ha b hb).1),h.len,h.lo,h.hi,⟨h.apart.1,ha⟩,hs,NU⟩;have rE:=lt_of_heap h2;have h':w.heap[D]= .cells #[.slice (some ⟨S,0,none⟩) 66 c,wv,.int .i64 qR] 96 (0,0):=by simpa [dQ rE]using h2
 show(w.heap.modify D _)[D]? =_;rw[dQ (by simpa using rE),fQ,h'];rfl
def vW.append{w2 w3:ax}{zV:ay}{Ed:List (Nat×af)}(h:vW w2 D S wv qy wait qR)(K3:Keep (λb=>wv.ownBlock=some b) w2 w3)
  (own:qF w3 0 289 2 zV Ed.length (yu Ed)) (hw:zV.ownBlock=wv.ownBlock∨∀b,zV.ownBlock=some b->w2.heap.size<=b) (hs:Ed.length<=1000000) (NU:∀p,p∈Ed->p.1<66):
  vW (w3.setCell ⟨D,1,none⟩ zV) D S zV qy Ed qR∧Keep (xN D S wv) w2 (w3.setCell ⟨D,1,none⟩ zV):=by
 have K:Keep (qJ D) w3 (w3.setCell ⟨D,1,none⟩ zV):=(ah _ _).tK _ _;obtain⟨c,h2,h3⟩:=h.head;obtain⟨cur,h4,h5⟩:=h.row;have hD:=lt_of_heap h2;have hS:=lt_of_heap h4;have h2':=K3.heap h2 (λhb=>(h.apart.2 D hb).1 rfl);have h4':=K3.heap h4 (λhb=>(h.apart.2 S hb).2 rfl);have ha:∀b,zV.ownBlock=some b->b≠D∧b≠S:=by
  intro b hb;rcases hw with hw|hw
  ·exact h.apart.2 b (hw▸hb)
  have:=hw b hb;omega
 refine⟨⟨⟨c,?_,h3⟩,⟨cur,K.heap h4' h.apart.1,h5⟩,own.qm K (λb hb=>(ha b hb).1),h.len,h.lo,h.hi,⟨h.apart.1,ha⟩,hs,NU⟩,(K3.m (λb _ hb=>Or.inr (Or.inr hb))).t K (λb _ hb=>Or.inl hb)⟩;have rE:=lt_of_heap h2';have h':w3.heap[D]= .cells #[.slice (some ⟨S,0,none⟩) 66 c,wv,.int .i64 qR] 96 (0,0):=by simpa [dQ rE]using h2'
 show(w3.heap.modify D _)[D]? =_;rw[dQ (by simpa using rE),fQ,h'];rfl
def Uy(h:vW w D S wv qy wait qR):
  ae 251 #[.pointer (some ⟨D,0,none⟩)] w λe w'=>e= .returned (.bool (decide (qR≠0)))∧vW w' D S wv qy wait (x9 qR)∧Keep (qJ D) w w':=by
 obtain⟨c2,f2⟩:=h.zcX;have f2':=f2 2;have BA:=h.lo;have hhi:=h.hi;clear f2;by_cases hp:0<qR
 ·have e1:decide (qR≠0)=true:=by simp;omega
  have e2:x9 qR=qR-1:=bu hp;have hd:=h.zeB (qR-1) (by omega) (by omega);rw[e1,e2];clear e1 e2;go_enter func251,ntmps251;go_wp2_with fail;go_ret;exact⟨rfl,hd,(ah _ _).tK _ _⟩
 ·have e2:x9 qR=qR:=aV hp;rw[e2];have j1:qR<=0:=by omega
  clear e2 hp;by_cases hz:qR=0
  ·subst hz;go_enter func251,ntmps251;go_wp2_with fail;go_ret;exact⟨rfl,h,ah _ _⟩
  have e1:decide (qR≠0)=true:=by simp;omega
  have j2:qR<0:=by omega
  rw[e1];clear e1 hz;go_enter func251,ntmps251;go_wp2_with fail;go_ret;exact⟨rfl,h,ah _ _⟩
def BD(s:af):af:=s++zO.extract s.size zO.size
def VY(s:af)(h:s.size<=256):(BD s).size=256:=by rw[BD,dN,fK,Fj];omega
def zj4:(prog.info? 289).map (λi=>(i.zero,i.size,i.bytes))=some (some (.agg #[.int .i64 0,.string ⟨#[]⟩]),2,24):=by kernel_rfl
def zoM(h:vW w D S wv qy wait qR)(k:Nat)(s:af)(hk:k<66)(hs:s.size<=256)(hf:qR≠0)(hw:wait.length<1000000):
  ae 192 #[.pointer (some ⟨D,0,none⟩),.int .i64 k,.string s] w λe w'=>e= .returned .nilIface∧(∃zV,vW w' D S zV qy (wait++ [(k,BD s)]) (x9 qR)∧(zV.ownBlock=wv.ownBlock∨∀b,zV.ownBlock=some b->w.heap.size<=b))∧Keep (xN D S wv) w w':=by
 have hf1:decide (qR≠0)=true:=by simp;exact hf
 have j1:(k:Int)<66:=by omega
 have j2:(s.size:Int)<=256:=by omega
 have hb:=Uy h;rw[hf1]at hb;have Hf:=ag hf;clear hf hf1;go_enter func192,ntmps192;go_wp2_with fail;refine hb.m ?_;clear hb;rintro e w1 ⟨rfl,h1,K1⟩;go_wp2_with fail;obtain⟨cw,c,cs,hc⟩:=h1.BH;have G8:¬(9223372036854775807<s.size+(zO.extract s.size zO.size).size):=by rw[fK,Fj];omega
 have hzs:zO.size=256:=Fj;obtain⟨i0,zM,Ba,D9,D6⟩:=iC zj4;have Vw:D<w1.heap.size:=by obtain⟨c,h2,_⟩:=h1.head;exact lt_of_heap h2
 have f1:=h1.zcX.2 1
 go_region_law (first
  | (go_simp;go_at_call 36;refine(zgq _).m ?_;rintro e w2 ⟨rfl,LQ⟩;have K2:ak w1 w2:=((ah qw w1).drew).qo LQ;have cw2:=(K2.cell (p:=⟨D,1,none⟩) Vw (λx=>x)).t cw;have hD2:D<w2.heap.size:=dH Vw K2.size)
  | (refine JA rfl _ _ 94 rfl 0 289 i0 (.agg #[.int .i64 0,.string ⟨#[]⟩]) 2 24 underlying94 zM Ba D9 D6 rfl (by decide) wv wait.length (yu wait) rfl ((h1.waits.qm K2 (λ_ _ x=>x)).alloc _) ⟨w2.heap.size,0,none⟩ 1 1 [.int .i64 k,.string (BD s)] rfl rfl (rJ _ _ _) (by intro u hu;simp only[dO,iT,lN]at hu;rcases hu with rfl|rfl<;>rfl) (by unfold maxLen;omega) (by omega) (fP _) ?_;intro v3 w3 Zt ZV zei;have K3:Keep (λb=>wv.ownBlock=some b) w2 w3:=((ah _ w2).alloc _).grown ZV (λc hc=> .inl hc);have c3:=(K3.cell (p:=⟨D,1,none⟩) (dH Vw K2.size) (λhb=>(h1.apart.2 D hb).1 rfl)).t cw2;have f3:=(K3.frozen (p:=⟨D,1,none⟩) (dH Vw K2.size) (λhb=>(h1.apart.2 D hb).1 rfl)).t ((K2.frozen (p:=⟨D,1,none⟩) Vw (λx=>x)).t f1);obtain⟨g3,ziQ,rfl,_,_⟩:=Zt.some (by omega)))
 all_goals
  have Ou:qF w3 0 289 2 (.slice (some ⟨g3,0,none⟩) (wait.length+1) ziQ) (wait++ [(k,BD s)]).length (yu (wait++ [(k,BD s)])):=by rw[aN,WU];exact Zt
  have hwh:(Value.slice (some ⟨g3,0,none⟩) (wait.length+1) ziQ).ownBlock=wv.ownBlock∨∀b,(Value.slice (some ⟨g3,0,none⟩) (wait.length+1) ziQ).ownBlock=some b->w2.heap.size<=b:=
   zei.imp id (λhh b hb=>by have:=hh b hb;simp at this;omega)
  obtain⟨hd,Xf⟩:=(h1.qm K2 (λ_ _ x=>x)).append K3 Ou hwh (by rw[aN];simp;omega) (λp hp=>by rcases dX.1 hp with hp|hp;exact h1.ats p hp;obtain rfl:=bJ.1 hp;exact hk);have zd3:=K1.size;have TE:=K2.size;clear Zt Ou zei ZV;go_wp2_with fail;go_ret;exact⟨rfl,⟨_,hd,hwh.imp id (λhh b hb=>bQ (bQ zd3 TE) (hh b hb))⟩,((K1.m (λb _ hb=>Or.inl hb)).qo K2).then Xf⟩
def zhi(h:vW w D S wv qy wait 0)(k:Nat)(s:af)(hk:k<66)(hs:s.size<=256):
  ae 192 #[.pointer (some ⟨D,0,none⟩),.int .i64 k,.string s] w λe w'=>e= .returned (.iface 34 (.int .i64 14))∧vW w' D S wv qy wait 0∧Keep (qJ D) w w':=by
 have j1:(k:Int)<66:=by omega
 have j2:(s.size:Int)<=256:=by omega
 have hb:=Uy h;rw[show decide ((0:Int)≠0)=false from rfl,show x9 0=0 from rfl]at hb;go_enter func192,ntmps192;go_wp2_with fail;refine hb.m ?_;clear hb;rintro e w1 ⟨rfl,h1,K1⟩;go_wp2_with fail;go_ret;exact⟨rfl,h1,K1⟩
def um(w:ax)(B:Nat)(n:Int):Prop:=w.heap[B]? =some (.cells #[.int .i64 n] 32 (0,0))
def um.qm(h:um w B n)(hk:Keep X w w')(hn:¬X B):um w' B n:=hk.heap h hn
def um.cell(h:um w B n):w.cell? ⟨B,0,none⟩=some (.int .i64 n)∧w.frozen? ⟨B,0,none⟩=false:=by unfold um at h;exact⟨by simp[World.cell?,h],by simp[World.frozen?,h]⟩
def um.set(h:um w B n)(m:Int):um (w.setCell ⟨B,0,none⟩ (.int .i64 m)) B m:=by
 have rE:=lt_of_heap h;unfold um at*;have h':w.heap[B]= .cells #[.int .i64 n] 32 (0,0):=by simpa [dQ rE]using h
 show(w.heap.modify B _)[B]? =_;rw[dQ (by simpa using rE),fQ,h'];rfl
def zrS(h:um w B n):ae 89 #[.pointer (some ⟨B,0,none⟩)] w λe w'=>e= .returned (.int .i64 n)∧w'=w:=by obtain⟨c,f⟩:=h.cell;go_enter func89,ntmps89;go_wp2;go_ret;exact⟨rfl,rfl⟩
def zdl(h:um w B n)(m:Int)(hm:n<m):ae 92 #[.pointer (some ⟨B,0,none⟩),.int .i64 m] w λe w'=>e= .returned .nilIface∧um w' B m∧Keep (qJ B) w w':=by obtain⟨c,f⟩:=h.cell;have hs:=h.set m;go_enter func92,ntmps92;go_wp2;go_ret;exact⟨rfl,hs,(ah _ _).tK _ _⟩
def zpu(h:um w B n)(m:Int)(hm:m<=n):ae 92 #[.pointer (some ⟨B,0,none⟩),.int .i64 m] w λe w'=>e= .returned (.iface 34 (.int .i64 10))∧w'=w:=by obtain⟨c,f⟩:=h.cell;go_enter func92,ntmps92;go_wp2;go_ret;exact⟨rfl,rfl⟩
def sQ(qy:List af)(l:List (Nat×af)):List af:=l.foldl (λacc p=>acc.set p.1 p.2) qy
def DU(l:List (Nat×af)):∀qy:List af,(sQ qy l).length=qy.length:=by
 induction l with
 | nil=>intro qy;rfl
 | cons p l ih=>intro qy;rw[sQ,dY,<-sQ,ih,fC]
def F6(qy:List af)(l:List (Nat×af))(k:Nat)(hk:k<l.length):sQ qy (l.take (k+1))=(sQ qy (l.take k)).set (l.getD k (0,⟨#[]⟩)).1 (l.getD k (0,⟨#[]⟩)).2:=by
 have e:l.take (k+1)=l.take k++ [l.getD k (0,⟨#[]⟩)]:=by rw[aZ hk,aG,aK hk];rfl
 rw[e,sQ,sQ,iL];rfl
def UD(l:List (Nat×af)):∀(k:Nat),k<l.length->(yu l)[2*k]? =some (.int .i64 ((l.getD k (0,⟨#[]⟩)).1:Int))∧(yu l)[2*k+1]? =some (.string (l.getD k (0,⟨#[]⟩)).2):=by
 induction l with
 | nil=>intro k hk;simp at hk
 | cons p l ih=>
  intro k hk;cases k with
  | zero=>exact⟨rfl,rfl⟩
  | succ k=>
   have h:=ih k (by simpa using hk);have e:yu (p::l)= .int .i64 (p.1:Int):: .string p.2::yu l:=rfl;rw[e,show 2*(k+1)=2*k+1+1 by omega,show 2*k+1+1+1=(2*k+1)+1+1 by omega]
   simpa using h
def vW.zeA(h:vW w D S wv qy wait qR)(i:Nat)(_:i<66)(s:af):
  vW (w.setCell ⟨S,i,none⟩ (.string s)) D S wv (qy.set i s) wait qR:=by
 have K:Keep (qJ S) w (w.setCell ⟨S,i,none⟩ (.string s)):=(ah _ _).tK _ _;obtain⟨c,h2,h3⟩:=h.head;obtain⟨cur,h4,h5⟩:=h.row;have zu:66<=cur.size:=by have:=dB List.length h5;rw[dJ,strCells,aP,h.len,pJ]at this;omega
 refine⟨⟨c,K.heap h2 (λe=>h.apart.1 e.s),h3⟩,⟨cur.setIfInBounds i (.string s),?_,?_⟩,h.waits.qm K (λb hb=>(h.apart.2 b hb).2),by rw[fC];exact h.len,h.lo,h.hi,h.apart,h.small,h.ats⟩
 ·have rE:=lt_of_heap h4;have h':w.heap[S]= .cells cur 9 (0,0):=by simpa [dQ rE]using h4
  show(w.heap.modify S _)[S]? =_;rw[dQ (by simpa using rE),fQ,h'];rfl
 ·rw[Array.toList_setIfInBounds,List.take_set,h5,strCells,strCells,kR]
def vW.block(h:vW w D S wv qy wait qR)(i:Nat)(hi:i<66):
  w.cell? ⟨S,i,none⟩=some (.string (qy.getD i ⟨#[]⟩))∧w.frozen? ⟨S,i,none⟩=false:=by
 obtain⟨cur,h4,h5⟩:=h.row;refine⟨?_,by simp[World.frozen?,h4]⟩;rw[aO w S i cur 9 (0,0) h4];have h1:(cur.toList.take 66)[i]? =(strCells qy)[i]? :=by rw[h5]
 rw[gJ,bu hi]at h1;simp only[lD]at h1;rw[h1,strCells,aX,aG,aK (by rw[h.len];exact hi)];rfl
def zrm(h:vW w D S wv qy wait qR)(hf:qR≠0):
  ae 193 #[.pointer (some ⟨D,0,none⟩)] w λe w'=>e= .returned .nilIface∧vW w' D S (.slice none 0 0) (sQ qy wait) [] (x9 qR)∧Keep (xN D S wv) w w':=by
 obtain⟨p,c,hpc⟩:∃p c,wv= .slice p wait.length c:=by
  rcases h.waits.2 with⟨hv,h0⟩|⟨g,cap,cur,fz,hv,_⟩
  ·exact⟨_,_,by rw[hv,h0]⟩
  exact⟨_,_,hv⟩
 subst hpc;obtain⟨n,hn⟩:=aj wait.length;rw[<-hn]at h;rw[<-hn];have hn6:n<=1000000:=by rw[hn];exact h.small
 have Hn:=ag hn;clear hn;have hb:=Uy h;rw[show decide (qR≠0)=true by simp;exact hf]at hb;have Hf:=ag hf;clear hf;go_enter func193,ntmps193;go_wp2_with fail;refine hb.m ?_;clear hb;rintro e w1 ⟨rfl,h1,K1⟩;have cw:=h1.BH.1;go_wp2_with fail;refine qW (λw2=>vW w2 D S (.slice p n c) (sQ qy (wait.take 0)) wait (x9 qR)∧Keep (xN D S (.slice p n c)) w w2) ⟨h1,K1.m (λb _ hb=>Or.inl hb)⟩ ?_;clear cw h1 K1;intro w2 Gp
 go_loopw [14] (λi wr=>∃k:Nat,k<=n∧i= .int .i64 k∧vW wr D S (.slice p n c) (sQ qy (wait.take k)) wait (x9 qR)∧Keep (xN D S (.slice p n c)) w wr) (λi _=>n-(intOf i).toNat)
 case atStart=>exact⟨0,by omega,rfl,Gp⟩
 case round=>
  clear Gp w2;obtain⟨k,hk,rfl,hd,K⟩:=hrel;by_cases rE:k<n
  ·have j1:decide (k<n)=true:=by simp;omega
   have hw':=hd.waits;rw[<-Hn.o]at hw';obtain⟨g,cap,hv,_⟩:=hw'.some (by omega);cases hv;obtain⟨x,hx⟩:=aj (wait.getD k (0,⟨#[]⟩));obtain⟨q,s⟩:=x;have hq:q<66:=by
    have hm:(q,s)∈wait:=by rw[hx,aG,aK (by rw[<-Hn.o];exact rE)];exact fO _
    exact hd.ats _ hm
   have hcw:=UD wait k (by rw[<-Hn.o];exact rE);rw[<-hx]at hcw;have Xj:=F6 qy wait k (by rw[<-Hn.o];exact rE);rw[<-hx]at Xj;have uw:=hd.waits.cells (g:=g) rfl;have Dz:∀m,(⟨g,0,none⟩:Addr).add m=⟨g,m,none⟩:=λm=>by unfold Addr.add;split<;>simp_all
   have cq:wr.cell? ⟨g,k*2,none⟩=some (.int .i64 (q:Int)):=by rw[jA,<-Dz];exact uw _ _ hcw.1
   have cs:wr.cell? ⟨g,k*2+1,none⟩=some (.string s):=by rw[jA,<-Dz];exact uw _ _ hcw.2
   clear Dz hw';have Hap:=ag Xj;have Hx:=ag hx;clear uw hcw Xj hx;have hqi:(q:Int)<66:=by omega
   obtain⟨cS,hc0,hcS⟩:=hd.BH.2;obtain⟨cb,fb⟩:=hd.block q hq;have zlm:D<wr.heap.size:=by obtain⟨c,h2,_⟩:=hd.head;exact lt_of_heap h2
   have LY:S<wr.heap.size:=by obtain⟨c,h2,_⟩:=hd.row;exact lt_of_heap h2
   go_wp2_with fail;refine qV 9 (by kernel_rfl) (by kernel_rfl) ?_;simp only[dE,dD,dA,dF]
   repeat(quiet_step (fail))
   refine dP ?_;intro nq;go_wp2_with fail;have Kx:ak wr ((wr.alloc (.cells #[.int .i64 (q:Int),.string s] 289)).drewN nq):=((ah qw wr).alloc _).drewN nq;have FK:=(hd.qm Kx (λ_ _ x=>x)).zeA q hq s;rw[<-Hap.o]at FK;exact⟨⟨k+1,by omega,by go_num,FK,(K.qo Kx).setCell (p:=⟨S,q,none⟩) (.inl (Or.inr (Or.inl rfl))) _⟩,by simp[intOf];omega⟩
  have hkn:wait.take k=wait:=bg (by rw[<-Hn.o];omega);rw[hkn]at hd;have j1:decide (k<n)=false:=by simp;omega
  have c1:=hd.BH.1;have f1:=hd.zcX.2 1;have FK:=hd.zrn (.slice none 0 0) [] (qF.nil _ _ _ _) (λb hb=>by cases hb) (fP _) (λp hp=>by cases hp);clear hkn rE hk;go_wp2_with fail;go_ret;exact⟨rfl,FK,K.setCell (p:=⟨D,1,none⟩) (.inl (Or.inl rfl)) _⟩
def zjk(h:vW w D S wv qy wait 0):
  ae 193 #[.pointer (some ⟨D,0,none⟩)] w λe w'=>e= .returned (.iface 34 (.int .i64 14))∧vW w' D S wv qy wait 0∧Keep (qJ D) w w':=by
 have hb:=Uy h;rw[show decide ((0:Int)≠0)=false from rfl,show x9 0=0 from rfl]at hb;go_enter func193,ntmps193;go_wp2_with fail;refine hb.m ?_;clear hb;rintro e w1 ⟨rfl,h1,K1⟩;go_wp2_with fail;go_ret;exact⟨rfl,h1,K1⟩
def wO(qy:List af)(wait:List (Nat×af))(keeps:List Bool):Nat->List af
 | 0=>qy
 | k+1=>if keeps.getD k false then(wO qy wait keeps k).set (wait.getD k (0,⟨#[]⟩)).1 (wait.getD k (0,⟨#[]⟩)).2 else wO qy wait keeps k
