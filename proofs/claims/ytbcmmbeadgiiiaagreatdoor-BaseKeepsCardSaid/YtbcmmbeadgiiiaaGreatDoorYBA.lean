import Derived.Test.YtbcmmbeadgiiiaaGreatDoorYAV
import Derived.Test.YtbcmmbeadgiiiaaGreatDoorYAZ
set_option linter.all false
namespace Go.Proofs.YtbcmmbeadgiiiaaGreatDoor
open Go.RowKit Tryz
set_option maxRecDepth 100000
set_option maxHeartbeats 16000000
def zdb(f:Nat->Option af):∀k,(uK f k).length<=k
 | 0=>aS _
 | k+1=>by
  have h:=zdb f k;rw[uK,aN];cases f k with
  | none=>simp;omega
  | some t=>simp;omega
def D8.zsl{w w':ax}{mo:Option Nat}{nm:Nat}{M:List Entry}(h:D8 w mo nm M){S:Nat->Prop}(hk:Keep S w w')(hn:∀b,mo=some b->¬S b):D8 w' mo nm M:=by
 cases mo with
 | none=>exact h
 | some mb=>
  obtain⟨es,clock,h1,h2⟩:=h;exact⟨es,clock,hk.heap h1 (hn mb rfl),h2⟩
structure zkt(VB B X T S E RN C:Nat)(mo:Option Nat)(b:Nat):Prop where
 vb:b≠VB
 v:b≠B
 x:b≠X
 t:b≠T
 s:b≠S
 e:b≠E
 r:b≠RN
 c:b≠C
 m:mo≠some b
structure TJ(wb wr:ax)(VB B X T S E RN D C:Nat)(mo:Option Nat)(nm:Nat)(M:List Entry)(base:Nat)(V:qI)(sn:List Int)(ep rf n:Int)(f:Nat->Option af)(qy:List af)(sv av0 tv0:ay)(k kl:Nat)(lv av tv:ay):Prop where
 vb:wr.heap[VB]? =some (.cells #[.pointer (some ⟨B,0,none⟩)] 59 (0,0))
 vr:uS wr B RN D C V sn
 xr:wr.heap[X]? =some (.cells (qG ⟨rf,ep,uB V.now.qx (uK f k),V.now.root⟩).toArray 66 (0,0))
 tx:ES wr T (ui V.texts (uK f k))
 ix:Gy wr S (xY rf sn (uK f k))
 er:wr.heap[E]? =some (.cells #[.int .i64 0] 34 (0,0))
 dv:xC wr D sv av tv qy (wrV (CQ V.secret ep) rf V.now.qx (uK f k)) (-1)
 own:qF wr base 9 1 lv kl (strCells (Dt rf sn V.texts f kl))
 mp:D8 wr mo nm M
 rr:D7 wr RN
 cc:QU wr C n
 qm:Keep (RB D sv av0 tv0) wb wr
 big:base<=wr.heap.size
 far:∀b,RB D sv av tv b->zkt VB B X T S E RN C mo b∧lv.ownBlock≠some b∧(RB D sv av0 tv0 b∨base<=b)
 ap:∀b,(b=T∨b=S∨b=X)->b≠VB∧b≠B∧b≠E∧b≠RN∧b≠C∧mo≠some b∧wb.heap.size<=b∧b<base
 bb:wb.heap.size<=base
section
variable {wb wr wc w4 w5:ax}{VB B X T S E RN D C:Nat}{mo:Option Nat}{nm:Nat}{M:List Entry}{base:Nat}{V:qI}{sn:List Int}{ep rf n:Int}{f:Nat->Option af}{qy:List af}{sv av0 tv0:ay}{k kl:Nat}{lv av tv:ay}
def TJ.skip(h:TJ wb wr VB B X T S E RN D C mo nm M base V sn ep rf n f qy sv av0 tv0 k kl lv av tv)(hf:f k=none):TJ wb wr VB B X T S E RN D C mo nm M base V sn ep rf n f qy sv av0 tv0 (k+1) kl lv av tv:=by have e:=Sv hf;exact⟨h.vb,h.vr,by rw[e];exact h.xr,by rw[e];exact h.tx,by rw[e];exact h.ix,h.er,by rw[e];exact h.dv,h.own,h.mp,h.rr,h.cc,h.qm,h.big,h.far,h.ap,h.bb⟩
def TJ.tell(h:TJ wb wr VB B X T S E RN D C mo nm M base V sn ep rf n f qy sv av0 tv0 k kl lv av tv)(hk:k<32){t:af}(hf:f k=some t)
  (KK:Keep (λb=>b=T∨b=S∨b=X) wr wc) (hX:wc.heap[X]? =some (.cells (qG ⟨rf,ep,uB V.now.qx (uK f (k+1)),V.now.root⟩).toArray 66 (0,0)))
  (hT:ES wc T ((ui V.texts (uK f k)).set k t)) (hS:Gy wc S ((xY rf sn (uK f k)).set k rf)) (K4:ak wc w4) {Ql Tt:ay}
  (hd:xC w5 D sv Ql Tt qy (wrV (CQ V.secret ep) rf V.now.qx (uK f k)++ [(vI k (!V.now.qx.getD k false),BD (IW (CQ V.secret ep) (k:Int) rf t))]) (-1))
  (ma:Mov w4 av Ql) (mt:Mov w4 tv Tt) (K5:Keep (RB D sv av tv) w4 w5):
  TJ wb w5 VB B X T S E RN D C mo nm M base V sn ep rf n f qy sv av0 tv0 (k+1) kl lv Ql Tt:=by
 have e:=Ik hf;have KC:Keep (RB D sv av tv) wc w5:=K4.yw.then K5;have KA:Keep (λb=>(b=T∨b=S∨b=X)∨RB D sv av tv b) wr w5:=(KK.m λ_ _ hx=> .inl hx).t KC (λ_ _ hx=> .inr hx);have nf:∀b,RB D sv av tv b->zkt VB B X T S E RN C mo b:=λb hb=>(h.far b hb).1;have no:∀b,(b=T∨b=S∨b=X)∨RB D sv av tv b->b≠VB∧b≠B∧b≠E∧b≠RN∧b≠C∧mo≠some b:=by
  rintro b (hb|hb)
  ·have:=h.ap b hb;exact⟨this.1,this.2.1,this.2.2.1,this.2.2.2.1,this.2.2.2.2.1,this.2.2.2.2.2.1⟩
  have:=nf b hb;exact⟨this.vb,this.v,this.e,this.r,this.c,this.m⟩
 have BA:∀b,lv.ownBlock=some b->¬((b=T∨b=S∨b=X)∨RB D sv av tv b):=by
  rintro b hb (hs|hs)
  ·have h1:=(h.own.lt b hb).1;have h2:=(h.ap b hs).2.2.2.2.2.2.2;omega
  exact(h.far b hs).2.1 hb
 have z:wr.heap.size<=w4.heap.size:=bQ KK.size K4.size;refine⟨KA.heap h.vb (λhs=>(no _ hs).1 rfl),h.vr.qm KA (λhs=>(no _ hs).2.1 rfl),KC.heap hX (λhs=>(nf _ hs).x rfl),?_,?_,KA.heap h.er (λhs=>(no _ hs).2.2.1 rfl),?_,h.own.qm KA BA,h.mp.zsl KA (λb hb hs=>(no _ hs).2.2.2.2.2 hb),h.rr.qm KA (λhs=>(no _ hs).2.2.2.1 rfl),h.cc.qm KA (λhs=>(no _ hs).2.2.2.2.1 rfl),?_,bQ h.big (bQ z K5.size),?_,h.ap,h.bb⟩
 ·have:=hT.qm KC (λhs=>(nf _ hs).t rfl);rw[e,ui,iL,<-ui];exact this
 ·have:=hS.qm KC (λhs=>(nf _ hs).s rfl);rw[e,P9];exact this
 ·rw[e,wrV,dK,<-wrV];exact hd
 ·refine h.qm.t KA λb hb hs=> ?_;rcases hs with hs|hs
  ·have:=(h.ap b hs).2.2.2.2.2.2.1;omega
  rcases(h.far b hs).2.2 with h1|h1
  ·exact h1
  have:=h.bb;omega
 ·intro b hb;rcases zgP ma mt b hb with h1|h1
  ·exact h.far b h1
  have l1:=lt_of_heap h.vb;have l2:=h.vr.lt;have l3:=lt_of_heap h.xr;have l4:=lt_of_heap h.tx.1;have l5:=lt_of_heap h.ix.1;have l6:=lt_of_heap h.er;have l7:=h.rr.lt;have l8:=lt_of_heap h.cc;have l9:=h.big;exact⟨⟨by omega,by omega,by omega,by omega,by omega,by omega,by omega,by omega,λe=>by have:=h.mp.lt b e;omega⟩,λe=>by have:=(h.own.lt b e).2;omega,.inr (by omega)⟩
def TJ.mark(h:TJ wb wr VB B X T S E RN D C mo nm M base V sn ep rf n f qy sv av0 tv0 (k+1) k lv av tv){lv':ay}(K:Keep (λb=>lv.ownBlock=some b) wr w5)(hm:Mov wr lv lv')
  (ho:qF w5 base 9 1 lv' (k+1) (strCells (Dt rf sn V.texts f (k+1)))):
  TJ wb w5 VB B X T S E RN D C mo nm M base V sn ep rf n f qy sv av0 tv0 (k+1) (k+1) lv' av tv:=by
 have BA:∀b,lv.ownBlock=some b->base<=b:=λb hb=>(h.own.lt b hb).1;have l0:∀ {b:Nat} {c:Array ay} {ty:aB} {fz:Nat×Nat},wr.heap[b]? =some (.cells c ty fz)->ty≠9->lv.ownBlock≠some b:=λhb ht e=>by obtain⟨c,fz,h2⟩:=tV h.own e;exact ht (rD hb h2)
 refine⟨K.heap h.vb (l0 h.vb (by decide)),h.vr.qm K (l0 h.vr.row (by decide)),K.heap h.xr (l0 h.xr (by decide)),h.tx.qm K (l0 h.tx.1 (by decide)),h.ix.qm K (l0 h.ix.1 (by decide)),K.heap h.er (l0 h.er (by decide)),h.dv.qm K (λb hb e=>(h.far b hb).2.1 e),ho,h.mp.zsl K (λb hb e=> ?_),h.rr.qm K (l0 h.rr (by decide)),h.cc.qm K (l0 h.cc (by decide)),h.qm.t K (λb hb e=>by have:=BA b e;have:=h.bb;omega),bQ h.big K.size,λb hb=>⟨(h.far b hb).1,λe=> ?_,(h.far b hb).2.2⟩,h.ap,h.bb⟩
 ·obtain⟨c,fz,h2⟩:=tV h.own e;exact h.mp.xI h2 hb
 ·rcases hm with hm|hm
  ·exact(h.far b hb).2.1 (hm▸e)
  have h1:=hm b e;have h2:=xC.lt (r:=(qy,_,-1)) h.dv b hb;omega
structure Zy(wb wr:ax)(VB B X T S E RN D C:Nat)(V:qI)(sn:List Int)(x:uX)(tl:List af)(sl:List Int)(n:Int)(qy:List af)(wait:List (Nat×af))(sv av0 tv0 av tv:ay):Prop where
 vb:wr.heap[VB]? =some (.cells #[.pointer (some ⟨B,0,none⟩)] 59 (0,0))
 vr:uS wr B RN D C V sn
 xr:wr.heap[X]? =some (.cells (qG x).toArray 66 (0,0))
 tx:ES wr T tl
 ix:Gy wr S sl
 er:wr.heap[E]? =some (.cells #[.int .i64 0] 34 (0,0))
 dv:xC wr D sv av tv qy wait (-1)
 rr:D7 wr RN
 cc:QU wr C n
 qm:Keep (RB D sv av0 tv0) wb wr
 far:∀b,RB D sv av tv b->zkt VB B X T S E RN C none b∧(RB D sv av0 tv0 b∨wb.heap.size<=b)
 nx:wb.heap.size<=X
def TJ.zy7(h:TJ wb wr VB B X T S E RN D C mo nm M base V sn ep rf n f qy sv av0 tv0 k kl lv av tv):Zy wb wr VB B X T S E RN D C V sn ⟨rf,ep,uB V.now.qx (uK f k),V.now.root⟩ (ui V.texts (uK f k)) (xY rf sn (uK f k)) n qy (wrV (CQ V.secret ep) rf V.now.qx (uK f k)) sv av0 tv0 av tv:=
 ⟨h.vb,h.vr,h.xr,h.tx,h.ix,h.er,h.dv,h.rr,h.cc,h.qm,λb hb=>by obtain⟨h1,_,h3⟩:=h.far b hb;exact⟨⟨h1.vb,h1.v,h1.x,h1.t,h1.s,h1.e,h1.r,h1.c,λe=>by cases e⟩,h3.imp id λh9=>bQ h.bb h9⟩,(h.ap X (.inr (.inr rfl))).2.2.2.2.2.2.1⟩
variable {x:uX}{tl:List af}{sl:List Int}{wait zsc:List (Nat×af)}{zsd:List af}{av2 tv2:ay}
def Zy.rV(h:Zy wb wr VB B X T S E RN D C V sn x tl sl n qy wait sv av0 tv0 av tv)(K:ak wr wc):Zy wb wc VB B X T S E RN D C V sn x tl sl n qy wait sv av0 tv0 av tv:=
 ⟨K.heap h.vb (λx=>x),h.vr.qm K (λx=>x),K.heap h.xr (λx=>x),h.tx.qm K (λx=>x),h.ix.qm K (λx=>x),K.heap h.er (λx=>x),h.dv.qm K (λ_ _ x=>x),h.rr.qm K (λx=>x),h.cc.qm K (λx=>x),h.qm.qo K,h.far,h.nx⟩
def Zy.dev(h:Zy wb wr VB B X T S E RN D C V sn x tl sl n qy wait sv av0 tv0 av tv)(K:Keep (RB D sv av tv) wr wc)(ma:Mov wr av av2)(mt:Mov wr tv tv2)(hd:xC wc D sv av2 tv2 zsd zsc (-1)):Zy wb wc VB B X T S E RN D C V sn x tl sl n zsd zsc sv av0 tv0 av2 tv2:=by
 have nf:∀b,RB D sv av tv b->zkt VB B X T S E RN C none b:=λb hb=>(h.far b hb).1;refine⟨K.heap h.vb (λhs=>(nf _ hs).vb rfl),h.vr.qm K (λhs=>(nf _ hs).v rfl),K.heap h.xr (λhs=>(nf _ hs).x rfl),h.tx.qm K (λhs=>(nf _ hs).t rfl),h.ix.qm K (λhs=>(nf _ hs).s rfl),K.heap h.er (λhs=>(nf _ hs).e rfl),hd,h.rr.qm K (λhs=>(nf _ hs).r rfl),h.cc.qm K (λhs=>(nf _ hs).c rfl),h.qm.t K (λb hb hs=> ?_),λb hb=> ?_,h.nx⟩
 ·rcases(h.far b hs).2 with h1|h1
  ·exact h1
  omega
 rcases zgP ma mt b hb with h1|h1
 ·exact h.far b h1
 have l1:=lt_of_heap h.vb;have l2:=h.vr.lt;have l3:=lt_of_heap h.xr;have l4:=lt_of_heap h.tx.1;have l5:=lt_of_heap h.ix.1;have l6:=lt_of_heap h.er;have l7:=h.rr.lt;have l8:=lt_of_heap h.cc;have l9:=h.qm.size;exact⟨⟨by omega,by omega,by omega,by omega,by omega,by omega,by omega,by omega,λe=>by cases e⟩,.inr (by omega)⟩
theorem Zy.root(h:Zy wb wr VB B X T S E RN D C V sn x tl sl n qy wait sv av0 tv0 av tv)(hx:x.qx.length=32)(r:af):Zy wb (wr.setCell ⟨X,34,none⟩ (.string r)) VB B X T S E RN D C V sn { x with root:=r } tl sl n qy wait sv av0 tv0 av tv:=by
 have K:Keep (qJ X) wr (wr.setCell ⟨X,34,none⟩ (.string r)):=(ah _ _).tK 34 _;have l0:∀ {b:Nat} {c:Array ay} {ty:aB} {fz:Nat×Nat},wr.heap[b]? =some (.cells c ty fz)->ty≠66->¬qJ X b:=λhb ht e=>by have e:_=X:=e;subst e;exact ht (rD hb h.xr)
 refine⟨K.heap h.vb (l0 h.vb (by decide)),h.vr.qm K (l0 h.vr.row (by decide)),?_,h.tx.qm K (l0 h.tx.1 (by decide)),h.ix.qm K (l0 h.ix.1 (by decide)),K.heap h.er (l0 h.er (by decide)),h.dv.qm K (λb hb e=>(h.far b hb).1.x e),h.rr.qm K (l0 h.rr (by decide)),h.cc.qm K (l0 h.cc (by decide)),h.qm.t K (λb hb e=>by have h1:b=X:=e;have:=h.nx;omega),h.far,h.nx⟩;rw[qK h.xr,fJ,qG,iE _ _ (by simp[hx]),aN,aP,hx];rfl
end
def ZY(VB B:Nat)(cv:Array ay)(w:ax):Prop:=w.heap[VB]? =some (.cells #[.pointer (some ⟨B,0,none⟩)] 59 (0,0))∧w.heap[B]? =some (.cells cv 70 (0,0))
def Zh(X k:Nat)(c:Int)(b:Bool)(w:ax):Prop:=w.cell? ⟨X,0,none⟩=some (.int .i64 c)∧w.cell? ⟨X,2+k,none⟩=some (.bool b)
def zkh(all:Bool)(M:List Entry)(T:List af)(k:Nat):Option af:=if all then some (T.getD k ⟨#[]⟩)else match getM M (k:Int)with
 | none=>none
 | some t=>if t=T.getD k ⟨#[]⟩then none else some t
def Zf(VB B C X:Nat)(rf:Int)(w:ax):Prop:=w.cell? ⟨VB,0,none⟩=some (.pointer (some ⟨B,0,none⟩))∧w.cell? ⟨B,2,none⟩=some (.pointer (some ⟨C,0,none⟩))∧w.cell? ⟨X,0,none⟩=some (.int .i64 rf)
def Ze(VB B X T S:Nat)(cx ct cs:Array ay)(w:ax):Prop:=w.cell? ⟨VB,0,none⟩=some (.pointer (some ⟨B,0,none⟩))∧w.heap[X]? =some (.cells cx 66 (0,0))∧w.heap[T]? =some (.cells ct 67 (0,0))∧w.heap[S]? =some (.cells cs 68 (0,0))
def Zg(VB B RN X:Nat)(cx:Array ay)(w:ax):Prop:=w.cell? ⟨VB,0,none⟩=some (.pointer (some ⟨B,0,none⟩))∧w.cell? ⟨B,0,none⟩=some (.pointer (some ⟨RN,0,none⟩))∧w.heap[X]? =some (.cells cx 66 (0,0))
def MW(VB B RN S T k:Nat)(v:Int)(t:af)(w:ax):Prop:=w.cell? ⟨VB,0,none⟩=some (.pointer (some ⟨B,0,none⟩))∧w.cell? ⟨B,0,none⟩=some (.pointer (some ⟨RN,0,none⟩))∧w.cell? ⟨S,k,none⟩=some (.int .i64 v)∧w.cell? ⟨T,k,none⟩=some (.string t)
def Qx(VB B RN X:Nat)(rf ep:Int)(w:ax):Prop:=w.cell? ⟨VB,0,none⟩=some (.pointer (some ⟨B,0,none⟩))∧w.cell? ⟨B,0,none⟩=some (.pointer (some ⟨RN,0,none⟩))∧w.cell? ⟨X,0,none⟩=some (.int .i64 rf)∧w.cell? ⟨X,1,none⟩=some (.int .i64 ep)
def XO{w:ax}{B RN D C:Nat}{V:qI}{sn:List Int}(h:uS w B RN D C V sn)(hdd:V.dead=false)(mo:Option Nat)(all:Bool)(hc0:0<=V.now.count)(Zp:V.now.count<1000000)(he0:1<=V.now.qB)(he1:V.now.qB<1000000)(nm:Nat)(M:List Entry)(n:Int)(sv av tv:ay)(qy:List af)(hM:D8 w mo nm M)(hd:xC w D sv av tv qy [] (-1))(hcc:QU w C n)(RR:D7 w RN)(Jo:∀b,RB D sv av tv b->b≠B∧b≠RN∧b≠C∧mo≠some b)(f:Nat->Option af)(hf:∀k,k<32->f k=zkh all M V.texts k)(hf2:∀k t,k<32->f k=some t->t.size<=200)(ht2:∀s∈V.texts,s.size<=200)(hs:V.secret.size<=1000)(EU:V.marks=marksOf sn V.texts)(ep:Int)(hep:ep=if all then V.now.qB+1 else V.now.qB):
  ae 23 #[.pointer (some ⟨B,0,none⟩),.map mo,.bool all] w λe w'=>e= .returned (.int .i64 0)∧(∃CU,uS w' B RN D C (xG V ep (uK f 32)) CU∧(xG V ep (uK f 32)).marks=marksOf CU (xG V ep (uK f 32)).texts∧xC w' D sv (.slice none 0 0) (.slice none 0 0) (DX V qy ep (uK f 32)) [] (-1)∧QU w' C (V.now.count+1)∧∀b,RB D sv (.slice none 0 0) (.slice none 0 0) b->RB D sv av tv b∨w.heap.size<=b)∧Keep (λb=>(b=B∨b=C)∨RB D sv av tv b) w w':=by
 obtain⟨cv,NT⟩:=aj ((rP RN D C V sn).toArray);obtain⟨cx,Ru⟩:=aj ((qG V.now).toArray);obtain⟨ct,Vj⟩:=aj ((V.texts.map Value.string).toArray);obtain⟨cs,zu⟩:=aj ((sn.map (Value.int .i64)).toArray);obtain⟨cz,JL⟩:=aj ((qG sZ).toArray);obtain⟨ctz,znZ⟩:=aj (((List.replicate 32 (⟨#[]⟩:af)).map Value.string).toArray);obtain⟨csz,zn1⟩:=aj (((List.replicate 32 (0:Int)).map (Value.int .i64)).toArray);have Qr:=Qr;have Qs:=Qs;rw[<-znZ]at Qr;rw[<-zn1]at Qs;have zz1:ctz.size=32:=by rw[znZ];rfl
 have zz3:csz.size=32:=by rw[zn1];rfl
 have yh:=xP;have AP:=Au;rw[<-JL]at AP;rw[show tH sZ= .agg cz by rw[JL];rfl]at yh;have hxl:cx.size=35:=by rw[Ru,bZ];exact uk _ h.lens.qx
 have zd8:ct.size=32:=by rw[Vj,bZ,aP,h.lens.texts]
 have ziI:cs.size=32:=by rw[zu,bZ,aP,h.lens.since]
 have xu:cx.all (·.oneCell')=true:=by rw[Ru];exact sU _
 have zf5:ct.all (·.oneCell')=true:=by rw[Vj];exact Ub _
 have zf4:cs.all (·.oneCell')=true:=by rw[zu];exact zeD _
 have QP:(prog.info? 66).map (·.size)=some cx.size:=by rw[hxl];exact sK
 have znw:(prog.info? 67).map (·.size)=some ct.size:=by rw[zd8];exact Wu
 have znx:(prog.info? 68).map (·.size)=some cs.size:=by rw[ziI];exact Wv
 have pX:∀(j:Nat) (v:ay),cx[j]? =some v->cv[4+j]? =some v:=λj v hj=>by
  have Tv:j<35:=by rw[<-hxl];exact(iI.1 hj).1
  rw[NT,aF,zuP h.lens j Tv,<-aF,<-Ru];exact hj
 have pT:∀(j:Nat) (v:ay),ct[j]? =some v->cv[39+j]? =some v:=λj v hj=>by
  have Tv:j<32:=by rw[<-zd8];exact(iI.1 hj).1
  rw[NT,aF,zkF h.lens j Tv,<-hj,Vj,aF,aX,aK (by rw[h.lens.texts];exact Tv)];simp[aG,h.lens.texts,Tv]
 have pS:∀(j:Nat) (v:ay),cs[j]? =some v->cv[71+j]? =some v:=λj v hj=>by
  have Tv:j<32:=by rw[<-ziI];exact(iI.1 hj).1
  rw[NT,aF,zpn h.lens j Tv,<-hj,zu,aF,aX,aK (by rw[h.lens.since];exact Tv)];simp[aG,h.lens.since,Tv]
 have uU:=h.row;rw[<-NT]at uU;have EJ:=ag yh;have Gf:=ag QP;have zlD:=ag znw;have zlE:=ag znx;have HpX:=ag pX;have HpT:=ag pT;have HpS:=ag pS;have zsW:=h.dead;rw[hdd]at zsW;have rE:=h.lt;have zw6:C<w.heap.size:=lt_of_heap hcc;have znt:RN<w.heap.size:=RR.lt;have Vw:∀b,RB D sv av tv b->b<w.heap.size:=xC.lt (r:=(qy,[],-1)) hd;have zBl:=ag Vw;have HM:=ag hM;have Hd:=ag hd;have Hcc:=ag hcc;have HR:=ag RR;have znA:=ag Jo;have Hf:=ag hf;have Hf2:=ag hf2;have Hs:=ag hs;have Ht2:=ag ht2;obtain⟨is0,zzS,zzj,zzi,zzh⟩:=iC BP;have Hmk:=ag EU;have Hep:=ag hep;have Hne:Hid (1<=ep∧ep<=1000000):=ag (by rw[hep];split<;>omega);clear hM hd hcc RR Jo Vw hf hf2 ht2 hs EU hep;have HV:=ag h;have Hcx:=ag Ru;have Hct:=ag Vj;have Hcs:=ag zu;clear Ru Vj zu JL znZ zn1 NT yh QP znw znx pX pT pS h;go_enter func23,ntmps23;go_upto_region 3 with(fail)
 obtain⟨VB,hVB⟩:=aj w.heap.size;have hvb:=aQ w (.cells #[.pointer (some ⟨B,0,none⟩)] 59);have K1:ak w (w.alloc (.cells #[.pointer (some ⟨B,0,none⟩)] 59)):=(ah _ _).alloc _;obtain⟨w1,vF⟩:=aj (w.alloc (.cells #[.pointer (some ⟨B,0,none⟩)] 59));rw[<-vF]at hvb K1⊢;rw[<-hVB]at hvb⊢;have HVB:=ag hVB;clear vF zsW hVB;have hr1:=K1.heap uU (λx=>x);have L3:ZY VB B cv w1:=⟨hvb,hr1⟩
 have hC4:∀ {W:ax},ak w1 W->ZY VB B cv W:=λK=>⟨K.heap L3.1 (λx=>x),K.heap L3.2 (λx=>x)⟩
 have l0:∀x:wE (ZY VB B cv),x.w.cell? ⟨VB,0,none⟩=some (.pointer (some ⟨B,0,none⟩)):=λx=>by rw[aO _ _ _ _ _ (0,0) x.h.1];rfl
 go_cut [7,8,9] (λxv tv sv wx=>∃X T S,xv= .pointer (some ⟨X,0,none⟩)∧tv= .pointer (some ⟨T,0,none⟩)∧sv= .pointer (some ⟨S,0,none⟩)∧Hid (wx.heap[X]? =some (.cells cx 66 (0,0))∧wx.heap[T]? =some (.cells ct 67 (0,0))∧wx.heap[S]? =some (.cells cs 68 (0,0)))∧Hid (w1.heap.size<=X∧w1.heap.size<=T∧w1.heap.size<=S∧X≠T∧X≠S∧T≠S)∧Hid (ak w1 wx))
 case first=>
  as_aux_lemma=>
   refine zL (ZY VB B cv) (.rd 0 (.rd 1 (.rd 2 (.rd 3 (.rd 4 (.rd 5 (.rd 6 (.rd 7 (.rd 8 (.rd 9 (.rd 10 (.rd 11 (.alt 12 (.alt 13 (.alt 14 (.alt 15 (.alt 16 (.alt 17 .fin .no) .no) .no) .no) (.alt 14 (.alt 13 (.alt 15 (.alt 16 (.alt 17 .fin .no) .no) .no) .no) .no)) (.alt 13 (.alt 12 (.alt 14 (.alt 15 (.alt 16 (.alt 17 .fin .no) .no) .no) .no) (.alt 14 (.alt 12 (.alt 15 (.alt 16 (.alt 17 .fin .no) .no) .no) .no) .no)) (.alt 14 (.alt 12 (.alt 13 (.alt 15 (.alt 16 (.alt 17 .fin .no) .no) .no) .no) (.alt 13 (.alt 12 (.alt 15 (.alt 16 (.alt 17 .fin .no) .no) .no) .no) .no)) .no))))))))))))))) (by kernel_rfl) (by kernel_rfl) (λc a d v w h=>by cases d<;>exact h) ?_;obtain⟨wd,zqs⟩:=aj w1.drew;have hwd:ak w1 wd:=by rw[zqs];exact(ah _ _).drew
   have zzn:wd.heap.size=w1.heap.size:=by rw[zqs];rfl
   rw[<-zqs];clear zqs;have hC3:∀ {W:ax},ak wd W->ZY VB B cv W:=λK=>hC4 (hwd.qo K)
   iterate 3 (unfold wC;simp only[qC,aF,aH,aI];refine qp (λK hK=> ?_);go_simp;(first|refine⟨_,λ_=>rfl,hK _ ?_⟩|refine hK _ ?_);clear hK K)
   unfold wC;simp only[qC,aF,aH,aI];refine rO (by rfl) 66 (.tmp 27) rfl B 4 rfl 70 cv (0,0) cx _ (λy=>y.h.2) HpX.o dM rfl Gf.o ?_;refine tY ?_
   iterate 3 (unfold wC;simp only[qC,aF,aH,aI];refine qp (λK hK=> ?_);go_simp;(first|refine⟨_,λ_=>rfl,hK _ ?_⟩|refine hK _ ?_);clear hK K)
   unfold wC;simp only[qC,aF,aH,aI];refine rO (by rfl) 67 (.tmp 31) rfl B 39 rfl 70 cv (0,0) ct _ (λy=>y.h.2) HpT.o kL rfl zlD.o ?_;refine tY ?_
   iterate 3 (unfold wC;simp only[qC,aF,aH,aI];refine qp (λK hK=> ?_);go_simp;(first|refine⟨_,λ_=>rfl,hK _ ?_⟩|refine hK _ ?_);clear hK K)
   unfold wC;simp only[qC,aF,aH,aI];refine rO (by rfl) 68 (.tmp 35) rfl B 71 rfl 70 cv (0,0) cs _ (λy=>y.h.2) HpS.o underlying68 rfl zlE.o ?_;refine tY ?_;refine zja _ ⟨EJ.o,_,rfl,rfl,rfl,rfl⟩ ⟨Qr,_,rfl,rfl,rfl,rfl⟩ ⟨Qs,_,rfl,rfl,rfl,rfl⟩ (by decide) (λW K=>hC3 K) ?_;intro X T S y3 hor hX hT hS hJ;have Vu:w1.heap.size<=X∧w1.heap.size<=T∧w1.heap.size<=S∧X≠T∧X≠S∧T≠S:=by rw[<-zzn];exact hor
   go_simp;unfold wC;simp only[qC,aF,aH,aI];refine⟨hC3 hJ,?_,trivial⟩;go_wp2_with (refine qL rfl 66 (.tmp 7) (.tmp 28) rfl X 66 cz cx rfl rfl hX Gf.o 35 AP hxl xu ?_;refine qQ (λw9=>w9.heap[X]? =some (.cells cx 66 (0,0))∧w9.heap[T]? =some (.cells ctz 67 (0,0))∧w9.heap[S]? =some (.cells csz 68 (0,0))∧ak w1 w9) ⟨qO (c':=cx) hX,(gm _ _ _ _ (Ne.s Vu.2.2.2.1)).t hT,(gm _ _ _ _ (Ne.s Vu.2.2.2.2.1)).t hS,(hwd.qo hJ).setRow (g:=X) (.inr Vu.1) cx⟩ ?_;clear hX hT hS;rintro y4 ⟨hX,hT,hS,Y4⟩);unfold wC;simp only[qC,aF,aH,aI];refine⟨hC4 Y4,?_,trivial⟩;go_wp2_with (refine qL rfl 67 (.tmp 8) (.tmp 32) rfl T 67 ctz ct rfl rfl hT zlD.o 32 zz1 zd8 zf5 ?_;refine qQ (λw9=>w9.heap[X]? =some (.cells cx 66 (0,0))∧w9.heap[T]? =some (.cells ct 67 (0,0))∧w9.heap[S]? =some (.cells csz 68 (0,0))∧ak w1 w9) ⟨(gm _ _ _ _ Vu.2.2.2.1).t hX,qO (c':=ct) hT,(gm _ _ _ _ (Ne.s Vu.2.2.2.2.2)).t hS,Y4.setRow (g:=T) (.inr Vu.2.1) ct⟩ ?_;clear hX hT hS;rintro y5 ⟨hX,hT,hS,Y5⟩);unfold wC;simp only[qC,aF,aH,aI];refine⟨hC4 Y5,?_,trivial⟩;go_wp2_with (refine qL rfl 68 (.tmp 9) (.tmp 36) rfl S 68 csz cs rfl rfl hS zlE.o 32 zz3 ziI zf4 ?_;refine qQ (λw9=>w9.heap[X]? =some (.cells cx 66 (0,0))∧w9.heap[T]? =some (.cells ct 67 (0,0))∧w9.heap[S]? =some (.cells cs 68 (0,0))∧ak w1 w9) ⟨(gm _ _ _ _ Vu.2.2.2.2.1).t hX,(gm _ _ _ _ Vu.2.2.2.2.2).t hT,qO (c':=cs) hS,Y5.setRow (g:=S) (.inr Vu.2.2.1) cs⟩ ?_;clear hX hT hS;rintro y6 ⟨hX,hT,hS,Y6⟩);unfold wC;go_wp2_with fail;go_meet
   exact⟨X,T,S,rfl,rfl,rfl,ag ⟨hX,hT,hS⟩,ag Vu,ag Y6⟩
 case rest=>
 obtain⟨X,T,S,rfl,rfl,rfl,hXr,Vu,Y⟩:=hcut;obtain⟨w2,rfl⟩:=aj wc;obtain⟨hX,hT,hS⟩:=hXr.o;have hXs:w2.heap[X]? =some (.cells (qG V.now).toArray 66 (0,0)):=by rw[<-Hcx.o];exact hX
 have x0:w2.cell? ⟨X,0,none⟩=some (.int .i64 V.now.count):=by rw[aO _ _ _ _ _ (0,0) hXs];rfl
 have x1:w2.cell? ⟨X,1,none⟩=some (.int .i64 V.now.qB):=by rw[aO _ _ _ _ _ (0,0) hXs];rfl
 have fx:=bU hXs 0;obtain⟨cn,hcn⟩:=aj V.now.count;obtain⟨en,hen⟩:=aj V.now.qB;rw[<-hcn]at x0;rw[<-hen]at x1;have e1:IntKind.i64.wrap (cn+1)=cn+1:=by rw[wrap_small _ (by omega) (by omega)]
 have e2:IntKind.i64.wrap (en+1)=en+1:=by rw[wrap_small _ (by omega) (by omega)]
 have HXs:=ag hXs;have NV:=ag hT;have HSs:=ag hS;have Hcn:=ag hcn;have Hen:=ag hen;clear hX hT hS hXs hcn hen
 go_upto_if 41 with(fail)
 have JM:(w2.setCell ⟨X,0,none⟩ (.int .i64 (cn+1))).heap[X]? =some (.cells (qG { V.now with count:=V.now.count+1 }).toArray 66 (0,0)):=by rw[qK HXs.o,Hcn.o];rfl
 have K3:Keep (qJ X) w2 (w2.setCell ⟨X,0,none⟩ (.int .i64 (cn+1))):=(ah (qJ X) w2).tK 0 _;obtain⟨w3,IM⟩:=aj (w2.setCell ⟨X,0,none⟩ (.int .i64 (cn+1)));rw[<-IM]at JM K3⊢;have x1':w3.cell? ⟨X,1,none⟩=some (.int .i64 en):=by rw[aO _ _ _ _ _ (0,0) JM,Hen.o];rfl
 have fx':=bU JM 1;have Rz:=ag JM;clear IM JM x0 x1 fx e1
 go_cut [] (λwx=>Hid (wx.heap[X]? =some (.cells (qG { V.now with count:=V.now.count+1,qB:=ep }).toArray 66 (0,0)))∧Hid (Keep (qJ X) w2 wx))
 case first=>
  cases all with
  | true=>
   go_wp2_with fail;go_meet
   exact⟨ag (by rw[qK Rz.o,Hep.o,Hen.o];rfl),ag (K3.tK 1 _)⟩
  | false=>
   go_wp2_with fail;go_meet
   exact⟨ag (by rw[Hep.o];exact Rz.o),ag K3⟩
 case rest=>
 obtain⟨Rx,hK4⟩:=hcut;obtain⟨w4,rfl⟩:=aj wc;clear Rz K3 x1' fx' e2;go_upto_region 10 with(fail)
 obtain⟨E,hE⟩:=aj w4.heap.size;refine qW (λw5=>w5.heap[w4.heap.size]? =some (.cells #[.int .i64 0] 34 (0,0))∧ak w4 w5) ⟨aQ w4 _,(ah qw w4).alloc _⟩ ?_;rintro w5 ⟨hEr,K5⟩;rw[<-hE]at hEr⊢;obtain⟨rf,TC⟩:=aj (V.now.count+1);obtain⟨base,Ee⟩:=aj w5.heap.size;have z1:=K1.size;have z0:w.heap.size<w1.heap.size:=by have:=lt_of_heap hvb;rw[HVB.o]at this;exact this
 have z2:=Y.o.size;have z4:=hK4.o.size;have z5:=lt_of_heap hEr;have z6:=lt_of_heap HXs.o;have z7:=lt_of_heap NV.o;have z8:=lt_of_heap HSs.o;obtain⟨o1,o2,o3,o4,o5,o6⟩:=Vu.o;have zuA:Hid (X≠T∧X≠S∧T≠S):=ag ⟨o4,o5,o6⟩;have ziF:=D8.lt HM.o;have KA:ak w w2:=K1.qo Y.o;have KB:ak w w4:=KA.t hK4.o (λb hb e=>by have h9:b=X:=e;omega);have KC:ak w w5:=KB.qo K5;have k4:ak w1 w4:=Y.o.t hK4.o (λb hb e=>by have h9:b=X:=e;omega);have T0:TJ w w5 VB B X T S E RN D C mo nm M base V sn ep rf n f qy sv av tv 0 0 (.slice none 0 0) av tv:=
  ⟨(k4.qo K5).heap hvb (λx=>x),HV.o.qm KC (λx=>x),by rw[TC];exact K5.heap Rx.o (λx=>x),⟨by have q:=K5.heap (hK4.o.heap NV.o (λe=>o4 (Eq.s e))) (λx=>x);rw[Hct.o]at q;exact q,HV.o.lens.texts⟩,⟨by have q:=K5.heap (hK4.o.heap HSs.o (λe=>o5 (Eq.s e))) (λx=>x);rw[Hcs.o]at q;exact q,HV.o.lens.since⟩,hEr,Hd.o.qm KC (λ_ _ x=>x),qF.nil _ _ _ _,D8.qm HM.o KC,HR.o.qm KC (λx=>x),Hcc.o.qm KC (λx=>x),KC.yw,by rw[Ee];exact aS _,λb hb=>by have h1:=zBl.o b hb;obtain⟨f1,f2,f3,f4⟩:=znA.o b hb;have h2:=HVB.o;exact⟨⟨by omega,f1,by omega,by omega,by omega,by omega,f2,f3,f4⟩,(λe=>by cases e),.inl hb⟩,(by rintro b (rfl|rfl|rfl)<;>(have h2:=HVB.o;exact⟨by omega,by omega,by omega,by omega,by omega,λe=>by have:=ziF _ e;omega,by omega,by omega⟩)),by omega⟩
 have HT0:=ag T0;have HKC:=ag KC;have JX:=ag TC;have ztc:=ag Ee;clear T0 KC k4 KB KA K5 hE TC Ee Rx hK4 HXs NV HSs Y Vu hEr ziF hvb hr1 L3 l0 uU hC4 HpX HpT HpS Gf zlD zlE EJ xu zf5 zf4 Qr Qs hXr K1;go_wp2_with fail
 go_loopw [47,12] (λiv lv wr=>∃(k:Nat) (Ql Tt:ay),iv= .int .i64 k∧k<=32∧Hid (TJ w wr VB B X T S E RN D C mo nm M base V sn ep rf n f qy sv av tv k k lv Ql Tt)) (λiv _ _=>32-(intOf iv).toNat)
 case atStart=>exact⟨0,av,tv,rfl,by omega,HT0⟩
 case round=>
  obtain⟨k,Ql,Tt,rfl,hk,hW⟩:=hrel;by_cases uD:k<32
  ·have j1:(k:Int)<32:=by omega
   obtain⟨wo,rfl⟩:=aj wr;have NS:=D8.znL hW.o.mp (k:Int) (by simp[Lit.wf,show IntKind.i64.min= -9223372036854775808 from rfl,show IntKind.i64.max=9223372036854775807 from rfl];omega);obtain⟨t0,ht0⟩:=aj ((getM M (k:Int)).getD ⟨#[]⟩);obtain⟨b0,Vd⟩:=aj ((getM M (k:Int)).isSome);rw[<-ht0,<-Vd]at NS;obtain⟨tk,htk⟩:=aj (V.texts.getD k ⟨#[]⟩);have ctk:wo.cell? ⟨T,k,none⟩=some (.string tk):=by rw[hW.o.tx.cell k uD,Y1 HV.o.lens.texts f k uD k (by omega),aV (qj _),htk]
   have Ht0:=ag ht0;have Hb0:=ag Vd;have Htk:=ag htk;clear ht0 Vd htk
   go_upto_if 56 with(fail)
   clear NS
   go_cut [14,15] (λtv bv wx=>∃t b,tv= .string t∧bv= .bool b∧wx=wo∧Hid (t=(if all then tk else t0)∧b=(all||b0)))
   case first=>
    cases all with
    | true=>
     go_wp2_with fail;go_meet
     exact⟨_,_,rfl,rfl,rfl,ag ⟨rfl,rfl⟩⟩
    | false=>
     go_wp2_with fail;go_meet
     exact⟨_,_,rfl,rfl,rfl,ag ⟨rfl,rfl⟩⟩
   case rest=>
   obtain⟨t,b,rfl,rfl,Yw,htb⟩:=hcut;subst wc;obtain⟨hte,hbe⟩:=htb.o;have zvU:(t.toList==tk.toList)=decide (t=tk):=by
    by_cases e:t=tk
    ·rw[bF e,e];exact fF _
    rw[cO e];have:=CJ e;unfold zQ at this;exact this
   obtain⟨sm,TA⟩:=aj (decide (t=tk));rw[<-TA]at zvU;obtain⟨go,hgo⟩:=aj ((b&&(all|| !sm)));have hfk:f k=if go then some t else none:=by
    rw[Hf.o k uD,hgo,zkh,hbe];have h1:=Htk.o;cases all with
    | true=>
     rw[hte,h1];rfl
    | false=>
     have h2:=Ht0.o;have h3:=Hb0.o;cases hg:getM M (k:Int)with
     | none=>rw[hg]at h3;rw[h3];rfl
     | some u=>
      rw[hg]at h2 h3;have h4:t=u:=hte.t h2;rw[h3,TA,h4,h1];by_cases e:u=V.texts.getD k ⟨#[]⟩
      ·simp[e]
      simp[e]
   have Hfk:=ag hfk;have Hgo:=ag hgo;clear hfk hte hbe TA hgo;go_upto_region 16 with(fail)
   go_cut [70] (λgv wx=>gv= .bool go∧wx=wo)
   case first=>
    cases b<;>cases all<;>cases sm
    all_goals
     go_wp2_with fail;go_meet
    all_goals exact⟨by rw[Hgo.o];rfl,rfl⟩
   case rest=>
   obtain⟨rfl,Yw⟩:=hcut;subst wc;clear zvU ctk htb
   go_upto_if 70 with(fail)
   go_cut [] (λwx=>∃av2 tv2,Hid (TJ w wx VB B X T S E RN D C mo nm M base V sn ep rf n f qy sv av tv (k+1) k u12 av2 tv2))
   case first=>
    cases go with
    | false=>
     go_wp2_with fail;go_meet
     exact⟨Ql,Tt,ag (hW.o.skip Hfk.o)⟩
    | true=>
     as_aux_lemma=>
      have hft:f k=some t:=Hfk.o;have Hft:=ag hft;clear hft Hfk Hgo Hb0 Ht0;have c0:wo.cell? ⟨X,0,none⟩=some (.int .i64 rf):=by rw[aO _ _ _ _ _ (0,0) hW.o.xr];rfl
      obtain⟨sd,IP⟩:=aj (V.now.qx.getD k false);have znQ:(uB V.now.qx (uK f k)).getD k false=sd:=by rw[Jb k _ _ (λp hp e=>by have:=((zda k).1 hp).1;omega),IP]
      have c2:wo.cell? ⟨X,2+k,none⟩=some (.bool sd):=by rw[aO _ _ _ _ _ (0,0) hW.o.xr,<-znQ];exact yg ⟨rf,ep,uB V.now.qx (uK f k),V.now.root⟩ k (by rw[show(⟨rf,ep,uB V.now.qx (uK f k),V.now.root⟩:uX).qx=uB V.now.qx (uK f k)from rfl,zU,HV.o.lens.qx];exact uD)
      have zn8:=ag znQ;have Hsd:=ag IP;clear znQ IP;have l1:∀x:wE (Zh X k rf sd),x.w.cell? ⟨X,0,none⟩=some (.int .i64 rf):=λx=>x.h.1;have l2:∀x:wE (Zh X k rf sd),x.w.cell? ⟨X,2+k,none⟩=some (.bool sd):=λx=>x.h.2;have L17:Zh X k rf sd wo:=⟨c0,c2⟩
      have fT:=bU hW.o.tx.1 k;have fS:=bU hW.o.ix.1 k;have fX:=bU hW.o.xr (2+k);have tT:=hW.o.tx.cell k uD;have tS:=hW.o.ix.cell k uD;go_wp2_with fail;refine qX (Zh X k rf sd) [(true,0),(true,1),(true,2),(true,3),(true,4),(true,5),(true,6),(true,7),(true,8),(true,9),(true,10),(true,11),(true,15),(false,12),(true,13),(false,14),(true,16),(false,17)] ?_;simp only[uy,qC,aF,aH,aI]
      repeat(refine qp (λK hK=> ?_);go_simp;(first|refine⟨_,λ_=>rfl,hK _ ?_⟩|refine hK _ ?_);clear hK K)
      clear l1 l2;refine⟨L17,?_⟩;go_wp2_with fail;have hg:=hW.o;have dXT:X≠T:=zuA.o.1;have dXS:X≠S:=zuA.o.2.1;have dTS:T≠S:=zuA.o.2.2;have Ka:Keep (qJ T) wo (wo.setCell ⟨T,k,none⟩ (.string t)).drew:=((ah (qJ T) wo).tK k _).drew;have hTa:ES (wo.setCell ⟨T,k,none⟩ (.string t)).drew T ((ui V.texts (uK f k)).set k t):=(hg.tx.set k t).qm (ah qw _).drew (λx=>x);obtain⟨wa,YP⟩:=aj ((wo.setCell ⟨T,k,none⟩ (.string t)).drew);rw[<-YP]at Ka hTa⊢;clear YP
      repeat(refine qp (λK hK=> ?_);go_simp;(first|refine⟨_,λ_=>rfl,hK _ ?_⟩|refine hK _ ?_);clear hK K)
      refine⟨⟨(Ka.cell (p:=⟨X,0,none⟩) (Lib.lt_of_cell c0) (λe=>dXT e)).t c0,(Ka.cell (p:=⟨X,2+k,none⟩) (Lib.lt_of_cell c2) (λe=>dXT e)).t c2⟩,?_⟩;have hSa:=hg.ix.qm Ka (λe=>dTS (Eq.s e));have hXa:=Ka.heap hg.xr (λe=>dXT e);have fS2:=bU hSa.1 k;have tS2:=hSa.cell k uD;clear fT fS fX tT tS c0 c2;go_wp2_with fail;have Kb:Keep (qJ S) wa (wa.setCell ⟨S,k,none⟩ (.int .i64 rf)):=(ah (qJ S) wa).tK k _;have hSb:=hSa.set k rf;have hTb:=hTa.qm Kb (λe=>dTS e);have hXb:=Kb.heap hXa (λe=>dXS e);obtain⟨wb,hwb⟩:=aj (wa.setCell ⟨S,k,none⟩ (.int .i64 rf));rw[<-hwb]at Kb hSb hTb hXb⊢;clear hwb
      repeat(refine qp (λK hK=> ?_);go_simp;(first|refine⟨_,λ_=>rfl,hK _ ?_⟩|refine hK _ ?_);clear hK K)
      have c0:wb.cell? ⟨X,0,none⟩=some (.int .i64 rf):=by rw[aO _ _ _ _ _ (0,0) hXb];rfl
      have c2:wb.cell? ⟨X,2+k,none⟩=some (.bool sd):=by rw[aO _ _ _ _ _ (0,0) hXb,<-zn8.o];exact yg ⟨rf,ep,uB V.now.qx (uK f k),V.now.root⟩ k (by rw[show(⟨rf,ep,uB V.now.qx (uK f k),V.now.root⟩:uX).qx=uB V.now.qx (uK f k)from rfl,zU,HV.o.lens.qx];exact uD)
      have fX:=bU hXb (2+k);refine⟨⟨c0,c2⟩,?_⟩;go_upto_region 18 with(fail)
      have Kc:Keep (qJ X) wb (wb.setCell ⟨X,2+k,none⟩ (.bool !sd)):=(ah (qJ X) wb).tK (2+k) _;have hXc:(wb.setCell ⟨X,2+k,none⟩ (.bool !sd)).heap[X]? =some (.cells (qG ⟨rf,ep,uB V.now.qx (uK f (k+1)),V.now.root⟩).toArray 66 (0,0)):=by rw[qK hXb,GM _ _ _ _ _ _ (by rw[zU,HV.o.lens.qx];exact uD),Ik Hft.o,uB,uB,iL,<-uB];rw[dY,iw,zn8.o]
      have hTc:=hTb.qm Kc (λe=>dXT e.s);have hSc:=hSb.qm Kc (λe=>dXS e.s);obtain⟨wv,hwv⟩:=aj (wb.setCell ⟨X,2+k,none⟩ (.bool !sd));rw[<-hwv]at Kc hXc hTc hSc⊢;have KK:Keep (λb=>b=T∨b=S∨b=X) wo wv:=((Ka.m (λb _ e=> .inl e)).t Kb (λb _ e=> .inr (.inl e))).t Kc (λb _ e=> .inr (.inr e));clear hwv Ka Kb Kc hTa hTb hSa hSb hXa hXb c0 c2 fX;have c2:wv.cell? ⟨X,2+k,none⟩=some (.bool !sd):=by
       have e9:(uB V.now.qx (uK f (k+1))).getD k false= !sd:=by rw[Ik Hft.o,uB,iL,dY,iw,<-uB,wR,bu ⟨rfl,by rw[zU,HV.o.lens.qx];exact uD⟩,zn8.o]
       rw[aO _ _ _ _ _ (0,0) hXc,<-e9];exact yg ⟨rf,ep,uB V.now.qx (uK f (k+1)),V.now.root⟩ k (by rw[show(⟨rf,ep,uB V.now.qx (uK f (k+1)),V.now.root⟩:uX).qx=uB V.now.qx (uK f (k+1))from rfl,zU,HV.o.lens.qx];exact uD)
      go_upto_region 19 with(fail)
      obtain⟨AT,hAT⟩:=aj wv.heap.size;refine qW (λw9=>w9.heap[wv.heap.size]? =some (.cells #[.int .i64 (2+2*(k:Int))] 3 (0,0))∧ak wv w9) ⟨aQ wv _,(ah qw wv).alloc _⟩ ?_;rintro wd ⟨zls,Kd⟩;rw[<-hAT]at zls⊢;have HAT:=ag hAT;clear hAT;have c2d:=(Kd.cell (p:=⟨X,2+k,none⟩) (Lib.lt_of_cell c2) (λx=>x)).t c2;have cat:wd.cell? ⟨AT,0,none⟩=some (.int .i64 (2+2*(k:Int))):=by rw[aO _ _ _ _ _ (0,0) zls];rfl
      have fat:=bU zls 0;clear c2
      go_upto_if 92 with(fail)
      obtain⟨sn2,ztw⟩:=aj (!sd);rw[<-ztw]at c2d⊢;have zAF:=ag ztw;clear ztw
      go_cut [] (λwx=>Hid (wx.heap[AT]? =some (.cells #[.int .i64 ((vI k sn2:Nat):Int)] 3 (0,0)))∧Hid (ak wv wx))
      case first=>
       cases sn2 with
       | true=>
        go_wp2_with fail;go_meet
        refine⟨ag ?_,ag ?_⟩
        ·rw[qK zls];rfl
        exact Kd.setCell (p:=⟨AT,0,none⟩) (.inr (by rw[HAT.o];exact aS _)) _
       | false=>
        go_wp2_with fail;go_meet
        exact⟨ag (by rw[zls];simp[vI]),ag Kd⟩
      case rest=>
      obtain⟨zAk,hKd⟩:=hcut;obtain⟨wx,rfl⟩:=aj wc;clear zls cat fat c2d Kd;have ap:=hW.o.ap;have KX:Keep (λb=>b=T∨b=S∨b=X) wo wx:=KK.qo hKd.o;have hVx:uS wx B RN D C V sn:=hW.o.vr.qm KX (λh=>(ap _ h).2.1 rfl);have hRx:D7 wx RN:=hW.o.rr.qm KX (λh=>(ap _ h).2.2.2.1 rfl);have hBx:=KX.heap hW.o.vb (λh=>(ap _ h).1 rfl);have hXx:=hKd.o.heap hXc (λx=>x);obtain⟨key,zq⟩:=aj (CQ V.secret ep);obtain⟨sl,Zm⟩:=aj (IW key (k:Int) rf t);have zw3:∀W,ak wx W->ae 61 #[.pointer (some ⟨B,0,none⟩),.int .i64 ep] W (au (.string key) W):=λW K=>by rw[zq];exact zaU (hVx.qm K (λx=>x)) Hs.o (hRx.qm K (λx=>x)) ep
      have zwQ:∀W,ak wx W->ae 60 #[.pointer (some ⟨RN,0,none⟩),.string key,.int .i64 (k:Int),.int .i64 rf,.string t] W (au (.tuple #[.string sl,.int .i64 0]) W):=λW K=>by rw[Zm];exact zjy RN key k rf t (by rw[zq];exact QK _ _) (by omega) (by omega) (by rw[JX.o];omega) (by rw[JX.o];omega) (Hf2.o k t uD Hft.o) W (hRx.qm K (λx=>x))
      have v0:wx.cell? ⟨VB,0,none⟩=some (.pointer (some ⟨B,0,none⟩)):=by rw[aO _ _ _ _ _ (0,0) hBx];rfl
      have v1:=hVx.yK;have v2:wx.cell? ⟨X,0,none⟩=some (.int .i64 rf):=by rw[aO _ _ _ _ _ (0,0) hXx];rfl
      have v3:wx.cell? ⟨X,1,none⟩=some (.int .i64 ep):=by rw[aO _ _ _ _ _ (0,0) hXx];rfl
      have Vy:∀ {W:ax},ak wx W->Qx VB B RN X rf ep W:=λK=>⟨(K.cell (p:=⟨VB,0,none⟩) (Lib.lt_of_cell v0) (λx=>x)).t v0,(K.cell (p:=⟨B,0,none⟩) (Lib.lt_of_cell v1) (λx=>x)).t v1,(K.cell (p:=⟨X,0,none⟩) (Lib.lt_of_cell v2) (λx=>x)).t v2,(K.cell (p:=⟨X,1,none⟩) (Lib.lt_of_cell v3) (λx=>x)).t v3⟩
      have zxS:=ag zw3;have zuz:=ag zwQ;have ziU:=ag zq;have Hsl:=ag Zm;have HVx:=ag hVx;have HBx:=ag hBx;have HKX:=ag KX;have HKK:=ag KK;have HXc:=ag hXc;have HTc:=ag hTc;have HSc:=ag hSc;have l0:∀x:wE (Qx VB B RN X rf ep),x.w.cell? ⟨VB,0,none⟩=some (.pointer (some ⟨B,0,none⟩)):=λx=>x.h.1;have l1:∀x:wE (Qx VB B RN X rf ep),x.w.cell? ⟨B,0,none⟩=some (.pointer (some ⟨RN,0,none⟩)):=λx=>x.h.2.1;have l2:∀x:wE (Qx VB B RN X rf ep),x.w.cell? ⟨X,0,none⟩=some (.int .i64 rf):=λx=>x.h.2.2.1;have l3:∀x:wE (Qx VB B RN X rf ep),x.w.cell? ⟨X,1,none⟩=some (.int .i64 ep):=λx=>x.h.2.2.2;clear zw3 zwQ zq Zm hVx hRx hBx hXx KX KK hXc hTc hSc v0 v1 v2 v3;go_upto_region 21 with(fail)
      go_cut [17] (λbv wz=>∃SB,bv= .pointer (some ⟨SB,0,none⟩)∧Hid (wz.heap[SB]? =some (.cells #[.string sl] 9 (0,0)))∧Hid (wx.heap.size<=SB)∧Hid (ak wx wz))
      case first=>
       refine zL (Qx VB B RN X rf ep) (.rd 0 (.rd 1 (.rd 2 (.rd 3 (.rd 4 (.rd 5 (.rd 6 (.rd 8 (.rd 9 (.rd 10 (.rd 11 (.alt 7 (.alt 12 (.rd 13 (.rd 14 (.rd 15 (.alt 16 (.alt 17 (.alt 18 .fin .no) .no) .no)))) (.alt 16 (.alt 12 (.rd 13 (.rd 14 (.rd 15 (.alt 17 (.alt 18 .fin .no) .no)))) .no) .no)) (.alt 16 (.alt 7 (.alt 12 (.rd 13 (.rd 14 (.rd 15 (.alt 17 (.alt 18 .fin .no) .no)))) .no) .no) .no))))))))))))) (by kernel_rfl) (by kernel_rfl) (λc a d v w h=>by cases d<;>exact h) ?_
       iterate 11 (unfold wC;simp only[qC,aF,aH,aI];refine qp (λK hK=> ?_);go_simp;(first|refine⟨_,λ_=>rfl,hK _ ?_⟩|refine hK _ ?_);clear hK K)
       unfold wC;simp only[qC,aF,aH,aI];refine⟨Vy ((ah qw wx).drew),?_,?_⟩
       ·go_wp2_with fail;refine(zxS.o _ (ah qw wx).drew).m ?_;rintro e z1 ⟨rfl,Z10⟩;have Z1:=(ah qw wx).drew.qo Z10;go_wp2_with fail;unfold wC;simp only[qC,aF,aH,aI];refine⟨Vy Z1,?_,?_,trivial⟩
        ·go_wp2_with fail;refine(zuz.o _ Z1).m ?_;rintro e z2 ⟨rfl,Z20⟩;have Z2:=Z1.qo Z20;go_wp2_with fail
         iterate 3 (unfold wC;simp only[qC,aF,aH,aI];refine qp (λK hK=> ?_);go_simp;(first|refine⟨_,λ_=>rfl,hK _ ?_⟩|refine hK _ ?_);clear hK K)
         unfold wC;simp only[qC,aF,aH,aI];refine⟨Vy Z2,?_,trivial⟩;go_wp2_with fail;obtain⟨SB,Eb⟩:=aj z2.heap.size;have TB:=aQ z2 (.cells #[.string ⟨#[]⟩] 9);have Z3:=Z2.alloc (.cells #[.string ⟨#[]⟩] 9);obtain⟨z3,zd0⟩:=aj (z2.alloc (.cells #[.string ⟨#[]⟩] 9));rw[<-Eb,<-zd0]at TB;rw[<-zd0]at Z3;rw[<-Eb,<-zd0];have FN:=Z2.size;rw[<-Eb]at FN;clear Eb zd0;have cS:=aO z3 SB 0 _ _ (0,0) TB;have fS:=bU TB 0;unfold wC;simp only[qC,aF,aH,aI];refine⟨Vy Z3,?_,trivial⟩;go_wp2_with fail;have hZ:(z3.setCell ⟨SB,0,none⟩ (.string sl)).heap[SB]? =some (.cells #[.string sl] 9 (0,0)):=by rw[qK TB];rfl
         have KZ:=Z3.setCell (p:=⟨SB,0,none⟩) (.inr FN) (.string sl);obtain⟨wz,Yv⟩:=aj (z3.setCell ⟨SB,0,none⟩ (.string sl));rw[<-Yv]at hZ KZ⊢;clear Yv cS fS;unfold wC;simp only[qC,aF,aH,aI];refine⟨Vy KZ,?_,trivial⟩;go_wp2_with fail;unfold wC;go_wp2_with fail;go_meet
         exact⟨SB,rfl,ag hZ,ag FN,ag KZ⟩
        (try simp only[qC,aF,aH,aI]);go_wp2_with fail;obtain⟨SB,Eb⟩:=aj z1.heap.size;have QO:=aQ z1 (.cells #[.string ⟨#[]⟩] 9);have Z2:=Z1.alloc (.cells #[.string ⟨#[]⟩] 9);obtain⟨z2,zd1⟩:=aj (z1.alloc (.cells #[.string ⟨#[]⟩] 9));rw[<-Eb,<-zd1]at QO;rw[<-zd1]at Z2;rw[<-Eb,<-zd1];have FN:=Z1.size;rw[<-Eb]at FN;clear Eb zd1;unfold wC;simp only[qC,aF,aH,aI];refine⟨Vy Z2,?_,trivial⟩;go_wp2_with fail;refine(zuz.o _ Z2).m ?_;rintro e z3 ⟨rfl,Z30⟩;have Z3:=Z2.qo Z30;go_wp2_with fail;have TB:=Z30.heap QO (λx=>x)
        iterate 3 (unfold wC;simp only[qC,aF,aH,aI];refine qp (λK hK=> ?_);go_simp;(first|refine⟨_,λ_=>rfl,hK _ ?_⟩|refine hK _ ?_);clear hK K)
        have cS:=aO z3 SB 0 _ _ (0,0) TB;have fS:=bU TB 0;unfold wC;simp only[qC,aF,aH,aI];refine⟨Vy Z3,?_,trivial⟩;go_wp2_with fail;have hZ:(z3.setCell ⟨SB,0,none⟩ (.string sl)).heap[SB]? =some (.cells #[.string sl] 9 (0,0)):=by rw[qK TB];rfl
        have KZ:=Z3.setCell (p:=⟨SB,0,none⟩) (.inr FN) (.string sl);obtain⟨wz,Yv⟩:=aj (z3.setCell ⟨SB,0,none⟩ (.string sl));rw[<-Yv]at hZ KZ⊢;clear Yv cS fS;unfold wC;simp only[qC,aF,aH,aI];refine⟨Vy KZ,?_,trivial⟩;go_wp2_with fail;unfold wC;go_wp2_with fail;go_meet
        exact⟨SB,rfl,ag hZ,ag FN,ag KZ⟩
       unfold wC;simp only[qC,aF,aH,aI];refine⟨?_,trivial⟩;go_wp2_with fail;obtain⟨SB,Eb⟩:=aj wx.heap.size;have hS1:((wx.alloc (.cells #[.string ⟨#[]⟩] 9)).drew).heap[wx.heap.size]? =some (.cells #[.string ⟨#[]⟩] 9 (0,0)):=aQ wx (.cells #[.string ⟨#[]⟩] 9);have Z1:=((ah qw wx).alloc (.cells #[.string ⟨#[]⟩] 9)).drew;obtain⟨z1,zd2⟩:=aj ((wx.alloc (.cells #[.string ⟨#[]⟩] 9)).drew);rw[<-Eb,<-zd2]at hS1;rw[<-zd2]at Z1;rw[<-Eb,<-zd2];have FN:wx.heap.size<=SB:=by rw[Eb];exact aS _
       clear Eb zd2;unfold wC;simp only[qC,aF,aH,aI];refine⟨Vy Z1,?_,trivial⟩;go_wp2_with fail;refine(zxS.o _ Z1).m ?_;rintro e z2 ⟨rfl,Z20⟩;have Z2:=Z1.qo Z20;go_wp2_with fail;have QO:=Z20.heap hS1 (λx=>x);unfold wC;simp only[qC,aF,aH,aI];refine⟨Vy Z2,?_,trivial⟩;go_wp2_with fail;refine(zuz.o _ Z2).m ?_;rintro e z3 ⟨rfl,Z30⟩;have Z3:=Z2.qo Z30;go_wp2_with fail;have TB:=Z30.heap QO (λx=>x)
       iterate 3 (unfold wC;simp only[qC,aF,aH,aI];refine qp (λK hK=> ?_);go_simp;(first|refine⟨_,λ_=>rfl,hK _ ?_⟩|refine hK _ ?_);clear hK K)
       have cS:=aO z3 SB 0 _ _ (0,0) TB;have fS:=bU TB 0;unfold wC;simp only[qC,aF,aH,aI];refine⟨Vy Z3,?_,trivial⟩;go_wp2_with fail;have hZ:(z3.setCell ⟨SB,0,none⟩ (.string sl)).heap[SB]? =some (.cells #[.string sl] 9 (0,0)):=by rw[qK TB];rfl
       have KZ:=Z3.setCell (p:=⟨SB,0,none⟩) (.inr FN) (.string sl);obtain⟨wz,Yv⟩:=aj (z3.setCell ⟨SB,0,none⟩ (.string sl));rw[<-Yv]at hZ KZ⊢;clear Yv cS fS;unfold wC;simp only[qC,aF,aH,aI];refine⟨Vy KZ,?_,trivial⟩;go_wp2_with fail;unfold wC;go_wp2_with fail;go_meet
       exact⟨SB,rfl,ag hZ,ag FN,ag KZ⟩
      case rest=>
      obtain⟨SB,rfl,hSB,FN,hKz⟩:=hcut;obtain⟨wz,rfl⟩:=aj wc;clear l0 l1 l2 l3 Vy;obtain⟨dT,hdT⟩:=aj wz.drew;have KZ:ak wx dT:=by rw[hdT];exact hKz.o.drew
      have KV:ak wv dT:=hKd.o.qo KZ;have KZo:Keep (λb=>b=T∨b=S∨b=X) wo dT:=HKX.o.qo KZ;have hdv:xC dT D sv Ql Tt qy (wrV (CQ V.secret ep) rf V.now.qx (uK f k)) (-1):=hW.o.dv.qm KZo (λb hb h=>(by
       have h1:=(hW.o.far b hb).1;rcases h with h|h|h
       ·exact h1.t h
       ·exact h1.s h
       exact h1.x h))
      have zln:∀b,RB D sv Ql Tt b->b<wo.heap.size:=xC.lt (r:=(qy,_,-1)) hW.o.dv;have zty:sl.size<=256:=by rw[Hsl.o,Nl _ _ _ _ (Hf2.o k t uD Hft.o)];omega
      have LP:=Ff uD sn2;have hWr:=XN hdv (vI k sn2) sl LP zty (by decide) (by rw[wrV,aP];have:=zdb f k;omega);have zx:wo.heap.size<=wx.heap.size:=HKX.o.size;have zv:wo.heap.size<=AT:=by rw[HAT.o];exact HKK.o.size
      have l22:Jv VB B D AT SB (vI k sn2) sl dT:=⟨by rw[aO _ _ _ _ _ (0,0) (KZ.heap HBx.o (λx=>x))];rfl,(HVx.o.qm KZ (λx=>x)).dev,by rw[aO _ _ _ _ _ (0,0) (KZ.heap zAk.o (λx=>x))];rfl,by rw[aO _ _ _ _ _ (0,0) (show dT.heap[SB]? =_ by rw[hdT];exact hSB.o)];rfl⟩
      have hKR:∀w',Keep (RB D sv Ql Tt) dT w'->Jv VB B D AT SB (vI k sn2) sl w':=λw' K=>⟨(K.cell (p:=⟨VB,0,none⟩) (Lib.lt_of_cell l22.1) (λh=>(hW.o.far _ h).1.vb rfl)).t l22.1,(K.cell (p:=⟨B,1,none⟩) (Lib.lt_of_cell l22.2.1) (λh=>(hW.o.far _ h).1.v rfl)).t l22.2.1,(K.cell (p:=⟨AT,0,none⟩) (Lib.lt_of_cell l22.2.2.1) (λh=>by have h9:=zln AT h;omega)).t l22.2.2.1,(K.cell (p:=⟨SB,0,none⟩) (Lib.lt_of_cell l22.2.2.2) (λh=>by have h9:=zln SB h;have:=FN.o;omega)).t l22.2.2.2⟩
      have hEz:dT.heap[E]? =some (.cells #[.int .i64 0] 34 (0,0)):=KZo.heap hW.o.er (λh=>(hW.o.ap _ h).2.2.1 rfl);have hKE:∀w',Keep (RB D sv Ql Tt) dT w'->w'.heap[E]? =some (.cells #[.int .i64 0] 34 (0,0)):=λw' K=>K.heap hEz (λh=>(hW.o.far _ h).1.e rfl);have zwm:Jv VB B D AT SB (vI k sn2) sl wz:=by rw[hdT]at l22;exact l22
      have hEw:wz.heap[E]? =some (.cells #[.int .i64 0] 34 (0,0)):=by rw[hdT]at hEz;exact hEz
      rw[hdT]at hWr;have hDo:=Nj (bd:= #[]) (lb:= #[.pointer (some ⟨VB,0,none⟩),.pointer (some ⟨AT,0,none⟩),.pointer (some ⟨SB,0,none⟩)]) hEw (enters_of func62 (by kernel_rfl) rfl) (zl3 zwm hWr (λw' h=>hKR w' (by rw[hdT];exact h.2))) (λw' h=>hKE w' (by rw[hdT];exact h.2));have HDo:=ag hDo;have HdT:=ag hdT;have HKV:=ag KV;have HKE:=ag hKE;clear hDo hdT KV hKE hKR hWr hEw zwm hEz l22 zv zx LP zty zln hdv KZo KZ;go_wp2_with fail;refine HDo.o.m ?_;rintro e w5 ⟨rfl,w6,⟨⟨av2,tv2,FK,ma,mt⟩,K5⟩,hw5⟩;rw[<-HdT.o]at ma mt K5;have hw6:w5=w6:=by rw[hw5];exact wF (HKE.o w6 K5) rfl
      subst hw6;rw[zAF.o,Hsd.o,Hsl.o,ziU.o]at FK;have GI:=hW.o.tell uD Hft.o HKK.o HXc.o HTc.o HSc.o HKV.o FK ma mt K5;have zce:=ag GI;clear GI FK ma mt K5 hw5 HDo HKE HKV;go_wp2_with fail;go_meet
      exact⟨av2,tv2,zce⟩
   case rest=>
   as_aux_lemma=>
    obtain⟨av2,tv2,hW2⟩:=hcut;obtain⟨wm,rfl⟩:=aj wc;obtain⟨vk,hvk⟩:=aj ((xY rf sn (uK f (k+1))).getD k 0);obtain⟨tx,htx⟩:=aj ((ui V.texts (uK f (k+1))).getD k ⟨#[]⟩);have v0:wm.cell? ⟨VB,0,none⟩=some (.pointer (some ⟨B,0,none⟩)):=by rw[aO _ _ _ _ _ (0,0) hW2.o.vb];rfl
    have v1:=hW2.o.vr.yK;have v2:=hW2.o.ix.cell k uD;have v3:=hW2.o.tx.cell k uD;rw[<-hvk]at v2;rw[<-htx]at v3;rw[zae HV.o.lens.since f k uD (k+1) (by omega)]at hvk;rw[Y1 HV.o.lens.texts f k uD (k+1) (by omega),bu (by omega)]at htx;have zvR:tx.size<=1000:=by
     rw[htx];cases h9:f k with
     | some t9=>exact bQ (Hf2.o k t9 uD h9) (by omega)
     | none=>
      refine bQ (Ht2.o _ ?_) (by omega:200<=1000);rw[Option.getD_none,aG,aK (by rw[HV.o.lens.texts];exact uD)];exact fO _
    obtain⟨mk,EU⟩:=aj (uI (k:Int) vk tx);have Xc:∀W,ak wm W->ae 64 #[.pointer (some ⟨RN,0,none⟩),.int .i64 (k:Int),.int .i64 vk,.string tx] W (au (.string mk) W):=λW K=>by rw[EU];exact Gm RN k vk tx zvR W (hW2.o.rr.qm K (λx=>x))
    have hmu:strCells (Dt rf sn V.texts f (k+1))=strCells (Dt rf sn V.texts f k)++strCells [mk]:=by
     rw[zfh,AB,EU,hvk,htx];by_cases h9:(f k).isSome=true
     ·rw[bu h9,bu ⟨by omega,h9⟩]
     rw[aV h9,aV (λx=>h9 x.2)]
    have zqM:∀ {W:ax},ak wm W->MW VB B RN S T k vk tx W:=λK=>⟨(K.cell (p:=⟨VB,0,none⟩) (Lib.lt_of_cell v0) (λx=>x)).t v0,(K.cell (p:=⟨B,0,none⟩) (Lib.lt_of_cell v1) (λx=>x)).t v1,(K.cell (p:=⟨S,k,none⟩) (Lib.lt_of_cell v2) (λx=>x)).t v2,(K.cell (p:=⟨T,k,none⟩) (Lib.lt_of_cell v3) (λx=>x)).t v3⟩
    have l0:∀x:wE (MW VB B RN S T k vk tx),x.w.cell? ⟨VB,0,none⟩=some (.pointer (some ⟨B,0,none⟩)):=λx=>x.h.1;have l1:∀x:wE (MW VB B RN S T k vk tx),x.w.cell? ⟨B,0,none⟩=some (.pointer (some ⟨RN,0,none⟩)):=λx=>x.h.2.1;have l2:∀x:wE (MW VB B RN S T k vk tx),x.w.cell? ⟨S,k,none⟩=some (.int .i64 vk):=λx=>x.h.2.2.1;have l3:∀x:wE (MW VB B RN S T k vk tx),x.w.cell? ⟨T,k,none⟩=some (.string tx):=λx=>x.h.2.2.2;have Hpm:=ag Xc;have Hmu:=ag hmu;have L23:=zqM (ah qw wm);have hO4:=hW2.o.own;have zqI:=hW2.o.big;obtain⟨lv,hlv⟩:=aj u12;rw[<-hlv]at hO4 hW2⊢;clear hlv Xc hmu EU hvk htx v0 v1 v2 v3 zvR;go_wp2_with fail;refine qX (MW VB B RN S T k vk tx) [(true,0),(true,1),(true,2),(true,3),(true,4),(true,5),(true,6),(true,7),(true,8),(true,9),(true,10),(true,11),(false,12),(false,13),(false,14),(false,15)] ?_;simp only[uy,qC,aF,aH,aI]
    repeat(refine qp (λK hK=> ?_);go_simp;(first|refine⟨_,λ_=>rfl,hK _ ?_⟩|refine hK _ ?_);clear hK K)
    clear l0 l1 l2 l3;refine⟨L23,?_⟩;go_wp2_with fail;refine(Hpm.o _ (ah qw wm).drew).m ?_;rintro e w5 ⟨rfl,K5⟩;have K5:=(ah qw wm).drew.qo K5;go_wp2_with fail;refine⟨zqM K5,?_⟩;go_wp2_with fail;refine⟨zqM (K5.alloc _),?_⟩;have zf3:=hO4.qm K5 (λ_ _ x=>x);have zi8:base<=w5.heap.size:=bQ zqI K5.size;refine rY _ rfl (.tmp 114) (.tmp 127) 88 rfl base 9 is0 (.string ⟨#[]⟩) 1 16 gu zzS zzj zzi zzh rfl (by decide) lv k (strCells (Dt rf sn V.texts f k)) rfl (zf3.alloc (.cells #[.string mk] 9)) ⟨w5.heap.size,0,none⟩ 1 1 [.string mk] rfl rfl (zkS w5 mk 9) (λu hu=>by obtain rfl:=bJ.1 hu;rfl) (by unfold maxLen;omega) (by omega) (by show base<=(w5.heap.push _).size;rw[dW];omega) ?_;intro lv2 w6 EH hgr Si;have Vm:Keep (λb=>lv.ownBlock=some b) wm w6:=((K5.alloc (.cells #[.string mk] 9)).yw).grown hgr (λb hb=> .inl hb);have m2:Mov wm lv lv2:=Si.imp id (λhh b hb=>by have h1:=hh b hb;have h2:=K5.size;have h3:(w5.alloc (.cells #[.string mk] 9)).heap.size=w5.heap.size+1:=dW _;omega);have hL6:MW VB B RN S T k vk tx w6:=by
     have n0:∀ {b:Nat} {c:Array ay} {ty:aB} {fz:Nat×Nat},wm.heap[b]? =some (.cells c ty fz)->ty≠9->lv.ownBlock≠some b:=λhb ht e=>by obtain⟨c,fz,h2⟩:=tV hO4 e;exact ht (rD hb h2)
     exact⟨(Vm.cell (p:=⟨VB,0,none⟩) (Lib.lt_of_cell L23.1) (n0 hW2.o.vb (by decide))).t L23.1,(Vm.cell (p:=⟨B,0,none⟩) (Lib.lt_of_cell L23.2.1) (n0 hW2.o.vr.row (by decide))).t L23.2.1,(Vm.cell (p:=⟨S,k,none⟩) (Lib.lt_of_cell L23.2.2.1) (n0 hW2.o.ix.1 (by decide))).t L23.2.2.1,(Vm.cell (p:=⟨T,k,none⟩) (Lib.lt_of_cell L23.2.2.2) (n0 hW2.o.tx.1 (by decide))).t L23.2.2.2⟩
    have Bl:=hW2.o.mark Vm m2 (by rw[Hmu.o];exact EH);have JS:=ag Bl;clear Bl EH hgr Si m2 Vm zf3 K5 L23 zqM;go_wp2_with fail;refine⟨hL6,?_⟩;go_wp2_with fail;exact⟨⟨k+1,av2,tv2,by go_num,by omega,JS⟩,by simp[intOf];omega⟩
  as_aux_lemma=>
   obtain rfl:k=32:=by omega
   have j1:¬((32:Nat):Int)<32:=by omega
   obtain⟨wo,rfl⟩:=aj wr;obtain⟨lv,hlv⟩:=aj u12;rw[<-hlv]at hW⊢;obtain⟨W,hWd⟩:=aj (uK f 32);have Vl:=hW.o.zy7;have hlf:∀b,lv.ownBlock=some b->¬RB D sv Ql Tt b:=λb hb h=>(hW.o.far b h).2.1 hb;have hO0:=hW.o.own;obtain⟨ms,Jl⟩:=aj (Dt rf sn V.texts f 32);rw[<-Jl]at hO0;have hml:ms.length=32:=by rw[Jl,Dt,aP,List.length_range]
   have hmt:ms=CB rf V.marks W:=by rw[Jl,hWd,Hmk.o];exact zh4 rf HV.o.lens.since HV.o.lens.texts f
   rw[<-hWd]at Vl;have hSy:=zaS Vl.dv (by decide);have hKE:∀w',Keep (RB D sv Ql Tt) wo w'->w'.heap[E]? =some (.cells #[.int .i64 0] 34 (0,0)):=λw' K=>K.heap Vl.er (λh=>(Vl.far _ h).1.e rfl);have hDo:=Nj (g:=65) (bd:= #[.pointer (some ⟨D,0,none⟩)]) (lb:= #[]) Vl.er (enters_of func65 (by kernel_rfl) rfl) hSy (λw' h=>hKE w' h.2);have v0:wo.cell? ⟨VB,0,none⟩=some (.pointer (some ⟨B,0,none⟩)):=by rw[aO _ _ _ _ _ (0,0) Vl.vb];rfl
   have v1:=Vl.vr.dev;have HX0:=ag Vl;have HDo:=ag hDo;have HKE:=ag hKE;have HO0:=ag hO0;have Hlf:=ag hlf;have Hml:=ag hml;have Hmt:=ag hmt;have HWd:=ag hWd;clear hlv Vl hDo hKE hSy hO0 hlf hml hmt Jl hWd hW;go_wp2_with fail;refine HDo.o.m ?_;rintro e w5 ⟨rfl,w6,⟨FK,K5⟩,hw5⟩;have hw6:w5=w6:=by rw[hw5];exact wF (HKE.o w6 K5) rfl
   subst hw6;have Tz:=HX0.o.dev K5 zem zem FK;obtain⟨zW,QS⟩:=aj (sQ qy (wrV (CQ V.secret ep) rf V.now.qx W));rw[<-QS]at Tz;have hO1:=HO0.o.qm K5 Hlf.o;have hRo:=XP RN lv ms w5 Tz.rr (J6 (by rw[Hml.o];exact hO1)) (by have:=Hml.o;omega);obtain⟨rt,hrt⟩:=aj (vS ms);rw[<-hrt]at hRo;have y0:w5.cell? ⟨VB,0,none⟩=some (.pointer (some ⟨B,0,none⟩)):=by rw[aO _ _ _ _ _ (0,0) Tz.vb];rfl
   have y1:=Tz.vr.yK;have HX1:=ag Tz;have zus:=ag QS;have HRo:=ag hRo;have Hrt:=ag hrt;clear v0 v1 Tz QS FK K5 hw5 hO1 hRo hrt HX0 HO0 HDo HKE Hlf;go_wp2_with fail;refine HRo.o.m ?_;rintro e w6 ⟨rfl,K6⟩;have YW:=HX1.o.rV K6;have Zk:(uB V.now.qx W).length=32:=(zU _ _).t HV.o.lens.qx;have x34:w6.cell? ⟨X,34,none⟩=some (.string V.now.root):=by rw[aO _ _ _ _ _ (0,0) YW.xr,qG,aF,bT (by simp[Zk]),aN,aP,Zk];rfl
   have fX:=bU YW.xr 34;have Hxs:=ag Zk;have HX2:=ag YW;clear YW y0 y1 K6 Zk HX1 HRo;go_upto_region 27 with(fail)
   have JM:=HX2.o.root Hxs.o rt;obtain⟨w7,hw7⟩:=aj (w6.setCell ⟨X,34,none⟩ (.string rt));rw[<-hw7]at JM⊢;obtain⟨x4,hx4⟩:∃x:uX,x=⟨rf,ep,uB V.now.qx W,rt⟩:=⟨_,rfl⟩
   have JM:Zy w w7 VB B X T S E RN D C V sn x4 (ui V.texts W) (xY rf sn W) n zW [] sv av tv (.slice none 0 0) (.slice none 0 0):=by rw[hx4];exact JM
   have zna:x4.qx.length=32:=by rw[hx4];exact Hxs.o
   have zvI:x4.count=rf:=by rw[hx4]
   obtain⟨cx4,znm⟩:=aj ((qG x4).toArray);obtain⟨zk7,znP⟩:=aj (vV V.secret);obtain⟨sw,Yx⟩:=aj (Cf zk7 x4);obtain⟨se,hse⟩:=aj (RF zk7 x4);have ztn:cx4.size=35:=by rw[znm,bZ];exact uk _ zna
   have zw8:(prog.info? 66).map (·.size)=some cx4.size:=by rw[ztn];exact sK
   have hSK:∀W',ak w7 W'->ae 68 #[.pointer (some ⟨B,0,none⟩)] W' (au (.string zk7) W'):=λW' K=>by rw[znP];exact Oi (JM.vr.qm K (λx=>x)) Hs.o (JM.rr.qm K (λx=>x))
   have hSW:∀W',ak w7 W'->ae 67 #[.pointer (some ⟨RN,0,none⟩),.string zk7,.agg cx4] W' (au (.tuple #[.string sw,.int .i64 se]) W'):=λW' K=>by rw[Yx,hse,show Value.agg cx4=tH x4 by rw[znm];rfl];exact Oj RN zk7 x4 zna W' (JM.rr.qm K (λx=>x))
   have hXr:=JM.xr;rw[<-znm]at hXr;have y0:w7.cell? ⟨VB,0,none⟩=some (.pointer (some ⟨B,0,none⟩)):=by rw[aO _ _ _ _ _ (0,0) JM.vb];rfl
   have y1:=JM.vr.yK;have Vx:∀ {W':ax},ak w7 W'->Zg VB B RN X cx4 W':=λK=>⟨(K.cell (p:=⟨VB,0,none⟩) (Lib.lt_of_cell y0) (λx=>x)).t y0,(K.cell (p:=⟨B,0,none⟩) (Lib.lt_of_cell y1) (λx=>x)).t y1,K.heap hXr (λx=>x)⟩
   have l0:∀x:wE (Zg VB B RN X cx4),x.w.cell? ⟨VB,0,none⟩=some (.pointer (some ⟨B,0,none⟩)):=λx=>x.h.1;have l1:∀x:wE (Zg VB B RN X cx4),x.w.cell? ⟨B,0,none⟩=some (.pointer (some ⟨RN,0,none⟩)):=λx=>x.h.2.1;have zvY:sw.size<=256:=by
    rw[Yx];cases hm9:uV zk7 x4 with
    | true=>rw[QA zna hm9];omega
    | false=>rw[Cf,hm9];exact fP _
   have Rz:=ag JM;have HSK:=ag hSK;have HSW:=ag hSW;have Hx4:=ag hx4;have zxm:=ag zvI;have zuv:=ag znm;have zyO:=ag znP;have Hsw:=ag Yx;have zAC:=ag zvY;have zuC:=ag zw8;have zxl:=ag (And.intro zna ztn);clear JM hSK hSW hx4 znm znP Yx hse zvY zw8 zna ztn hXr y0 y1 hw7 x34 fX HX2 zvI
   go_cut [19] (λbv wz=>∃SB,bv= .pointer (some ⟨SB,0,none⟩)∧Hid (wz.heap[SB]? =some (.cells #[.string sw] 9 (0,0)))∧Hid (w7.heap.size<=SB)∧Hid (ak w7 wz))
   case first=>
    refine zL (Zg VB B RN X cx4) (.rd 0 (.rd 1 (.rd 2 (.rd 3 (.rd 4 (.rd 6 (.alt 5 (.alt 7 (.rd 8 (.rd 9 (.rd 10 (.alt 11 (.alt 12 (.alt 13 .fin .no) .no) .no)))) (.alt 11 (.alt 7 (.rd 8 (.rd 9 (.rd 10 (.alt 12 (.alt 13 .fin .no) .no)))) .no) .no)) (.alt 11 (.alt 5 (.alt 7 (.rd 8 (.rd 9 (.rd 10 (.alt 12 (.alt 13 .fin .no) .no)))) .no) .no) .no)))))))) (by kernel_rfl) (by kernel_rfl) (λc a d v w h=>by cases d<;>exact h) ?_
    iterate 5 (unfold wC;simp only[qC,aF,aH,aI];refine qp (λK hK=> ?_);go_simp;(first|refine⟨_,λ_=>rfl,hK _ ?_⟩|refine hK _ ?_);clear hK K)
    unfold wC;simp only[qC,aF,aH,aI];refine rO (by rfl) 66 (.tmp 7) rfl X 0 rfl 66 cx4 (0,0) cx4 _ (λy=>y.h.2.2) (λj v hv=>by rw[eH];exact hv) dM rfl zuC.o ?_;refine tY ?_;unfold wC;simp only[qC,aF,aH,aI];refine⟨Vx ((ah qw w7).drew),?_,?_⟩
    ·go_wp2_with fail;refine(HSK.o _ (ah qw w7).drew).m ?_;rintro e z1 ⟨rfl,Z10⟩;have Z1:=(ah qw w7).drew.qo Z10;go_wp2_with fail;unfold wC;simp only[qC,aF,aH,aI];refine⟨Vx Z1,?_,?_,trivial⟩
     ·go_wp2_with fail;refine(HSW.o _ Z1).m ?_;rintro e z2 ⟨rfl,Z20⟩;have Z2:=Z1.qo Z20;go_wp2_with fail
      iterate 3 (unfold wC;simp only[qC,aF,aH,aI];refine qp (λK hK=> ?_);go_simp;(first|refine⟨_,λ_=>rfl,hK _ ?_⟩|refine hK _ ?_);clear hK K)
      unfold wC;simp only[qC,aF,aH,aI];refine⟨Vx Z2,?_,trivial⟩;go_wp2_with fail;obtain⟨SB,Eb⟩:=aj z2.heap.size;have TB:=aQ z2 (.cells #[.string ⟨#[]⟩] 9);have Z3:=Z2.alloc (.cells #[.string ⟨#[]⟩] 9);obtain⟨z3,zd0⟩:=aj (z2.alloc (.cells #[.string ⟨#[]⟩] 9));rw[<-Eb,<-zd0]at TB;rw[<-zd0]at Z3;rw[<-Eb,<-zd0];have FN:=Z2.size;rw[<-Eb]at FN;clear Eb zd0;have cS:=aO z3 SB 0 _ _ (0,0) TB;have fS:=bU TB 0;unfold wC;simp only[qC,aF,aH,aI];refine⟨Vx Z3,?_,trivial⟩;go_wp2_with fail;have hZ:(z3.setCell ⟨SB,0,none⟩ (.string sw)).heap[SB]? =some (.cells #[.string sw] 9 (0,0)):=by rw[qK TB];rfl
      have KZ:=Z3.setCell (p:=⟨SB,0,none⟩) (.inr FN) (.string sw);obtain⟨wz,Yv⟩:=aj (z3.setCell ⟨SB,0,none⟩ (.string sw));rw[<-Yv]at hZ KZ⊢;clear Yv cS fS;unfold wC;simp only[qC,aF,aH,aI];refine⟨Vx KZ,?_,trivial⟩;go_wp2_with fail;unfold wC;go_wp2_with fail;go_meet
      exact⟨SB,rfl,ag hZ,ag FN,ag KZ⟩
     (try simp only[qC,aF,aH,aI]);go_wp2_with fail;obtain⟨SB,Eb⟩:=aj z1.heap.size;have QO:=aQ z1 (.cells #[.string ⟨#[]⟩] 9);have Z2:=Z1.alloc (.cells #[.string ⟨#[]⟩] 9);obtain⟨z2,zd1⟩:=aj (z1.alloc (.cells #[.string ⟨#[]⟩] 9));rw[<-Eb,<-zd1]at QO;rw[<-zd1]at Z2;rw[<-Eb,<-zd1];have FN:=Z1.size;rw[<-Eb]at FN;clear Eb zd1;unfold wC;simp only[qC,aF,aH,aI];refine⟨Vx Z2,?_,trivial⟩;go_wp2_with fail;refine(HSW.o _ Z2).m ?_;rintro e z3 ⟨rfl,Z30⟩;have Z3:=Z2.qo Z30;go_wp2_with fail;have TB:=Z30.heap QO (λx=>x)
     iterate 3 (unfold wC;simp only[qC,aF,aH,aI];refine qp (λK hK=> ?_);go_simp;(first|refine⟨_,λ_=>rfl,hK _ ?_⟩|refine hK _ ?_);clear hK K)
     have cS:=aO z3 SB 0 _ _ (0,0) TB;have fS:=bU TB 0;unfold wC;simp only[qC,aF,aH,aI];refine⟨Vx Z3,?_,trivial⟩;go_wp2_with fail;have hZ:(z3.setCell ⟨SB,0,none⟩ (.string sw)).heap[SB]? =some (.cells #[.string sw] 9 (0,0)):=by rw[qK TB];rfl
     have KZ:=Z3.setCell (p:=⟨SB,0,none⟩) (.inr FN) (.string sw);obtain⟨wz,Yv⟩:=aj (z3.setCell ⟨SB,0,none⟩ (.string sw));rw[<-Yv]at hZ KZ⊢;clear Yv cS fS;unfold wC;simp only[qC,aF,aH,aI];refine⟨Vx KZ,?_,trivial⟩;go_wp2_with fail;unfold wC;go_wp2_with fail;go_meet
     exact⟨SB,rfl,ag hZ,ag FN,ag KZ⟩
    unfold wC;simp only[qC,aF,aH,aI];refine⟨?_,trivial⟩;go_wp2_with fail;obtain⟨SB,Eb⟩:=aj w7.heap.size;have hS1:((w7.alloc (.cells #[.string ⟨#[]⟩] 9)).drew).heap[w7.heap.size]? =some (.cells #[.string ⟨#[]⟩] 9 (0,0)):=aQ w7 (.cells #[.string ⟨#[]⟩] 9);have Z1:=((ah qw w7).alloc (.cells #[.string ⟨#[]⟩] 9)).drew;obtain⟨z1,zd2⟩:=aj ((w7.alloc (.cells #[.string ⟨#[]⟩] 9)).drew);rw[<-Eb,<-zd2]at hS1;rw[<-zd2]at Z1;rw[<-Eb,<-zd2];have FN:w7.heap.size<=SB:=by rw[Eb];exact aS _
    clear Eb zd2;unfold wC;simp only[qC,aF,aH,aI];refine⟨Vx Z1,?_,trivial⟩;go_wp2_with fail;refine(HSK.o _ Z1).m ?_;rintro e z2 ⟨rfl,Z20⟩;have Z2:=Z1.qo Z20;go_wp2_with fail;have QO:=Z20.heap hS1 (λx=>x);unfold wC;simp only[qC,aF,aH,aI];refine⟨Vx Z2,?_,trivial⟩;go_wp2_with fail;refine(HSW.o _ Z2).m ?_;rintro e z3 ⟨rfl,Z30⟩;have Z3:=Z2.qo Z30;go_wp2_with fail;have TB:=Z30.heap QO (λx=>x)
    iterate 3 (unfold wC;simp only[qC,aF,aH,aI];refine qp (λK hK=> ?_);go_simp;(first|refine⟨_,λ_=>rfl,hK _ ?_⟩|refine hK _ ?_);clear hK K)
    have cS:=aO z3 SB 0 _ _ (0,0) TB;have fS:=bU TB 0;unfold wC;simp only[qC,aF,aH,aI];refine⟨Vx Z3,?_,trivial⟩;go_wp2_with fail;have hZ:(z3.setCell ⟨SB,0,none⟩ (.string sw)).heap[SB]? =some (.cells #[.string sw] 9 (0,0)):=by rw[qK TB];rfl
    have KZ:=Z3.setCell (p:=⟨SB,0,none⟩) (.inr FN) (.string sw);obtain⟨wz,Yv⟩:=aj (z3.setCell ⟨SB,0,none⟩ (.string sw));rw[<-Yv]at hZ KZ⊢;clear Yv cS fS;unfold wC;simp only[qC,aF,aH,aI];refine⟨Vx KZ,?_,trivial⟩;go_wp2_with fail;unfold wC;go_wp2_with fail;go_meet
    exact⟨SB,rfl,ag hZ,ag FN,ag KZ⟩
   case rest=>
   obtain⟨SB,rfl,hSB,FN,hKz⟩:=hcut;obtain⟨wz,rfl⟩:=aj wc;clear l0 l1 Vx;have Rx:=Rz.o.rV hKz.o;obtain⟨q,hq⟩:∃q:Nat,q=(rf % 2).toNat:=⟨_,rfl⟩
   have hvp:0<=rf:=by rw[JX.o];omega
   have NR:Int.tmod rf 2=q:=by rw[Int.tmod_eq_emod_of_nonneg hvp,hq];omega
   have ziD:q<66:=by omega
   have hXd:=Rx.rV (ah qw wz).drew;have hWr:=XN hXd.dv q sw ziD zAC.o (by decide) (by simp);have hz:∀w',ak wz w'->MN VB B D X SB rf sw w':=λw' K=>⟨by rw[aO _ _ _ _ _ (0,0) (K.heap Rx.vb (λx=>x))];rfl,(Rx.vr.qm K (λx=>x)).dev,by rw[aO _ _ _ _ _ (0,0) (K.heap Rx.xr (λx=>x)),<-zxm.o];rfl,by rw[aO _ _ _ _ _ (0,0) (K.heap hSB.o (λx=>x))];rfl⟩
   have hSf:¬RB D sv (.slice none 0 0) (.slice none 0 0) SB:=λh=>by have h9:=xC.lt (r:=(zW,[],-1)) Rz.o.dv SB h;have:=FN.o;omega
   have hR3:∀w',Keep (RB D sv (.slice none 0 0) (.slice none 0 0)) wz.drew w'->MN VB B D X SB rf sw w':=λw' K=>by have h3:=hz wz.drew (ah qw wz).drew;exact⟨(K.cell (p:=⟨VB,0,none⟩) (Lib.lt_of_cell h3.1) (λh=>(hXd.far _ h).1.vb rfl)).t h3.1,(K.cell (p:=⟨B,1,none⟩) (Lib.lt_of_cell h3.2.1) (λh=>(hXd.far _ h).1.v rfl)).t h3.2.1,(K.cell (p:=⟨X,0,none⟩) (Lib.lt_of_cell h3.2.2.1) (λh=>(hXd.far _ h).1.x rfl)).t h3.2.2.1,(K.cell (p:=⟨SB,0,none⟩) (Lib.lt_of_cell h3.2.2.2) hSf).t h3.2.2.2⟩
   have hKE:∀w',Keep (RB D sv (.slice none 0 0) (.slice none 0 0)) wz.drew w'->w'.heap[E]? =some (.cells #[.int .i64 0] 34 (0,0)):=λw' K=>K.heap hXd.er (λh=>(hXd.far _ h).1.e rfl);have hDo:=Nj (bd:= #[]) (lb:= #[.pointer (some ⟨VB,0,none⟩),.pointer (some ⟨X,0,none⟩),.pointer (some ⟨SB,0,none⟩)]) Rx.er (enters_of func69 (by kernel_rfl) rfl) (zl2 (hz wz (ah _ _)) NR hWr (λw' h=>hR3 w' h.2)) (λw' h=>hKE w' h.2);have HDo:=ag hDo;have HKE:=ag hKE;have HXd:=ag hXd;have Hq:=ag hq;clear Rx hDo hKE hXd hWr hz hR3 hq NR hSf hSB FN Rz HSK HSW hKz;go_wp2_with fail;refine HDo.o.m ?_;rintro e w5 ⟨rfl,w6,⟨⟨av2,tv2,FK,ma,mt⟩,K5⟩,hw5⟩;have hw6:w5=w6:=by rw[hw5];exact wF (HKE.o w6 K5) rfl
   subst hw6;have Oz:=HXd.o.dev K5 ma mt FK;have hSy:=zaS Oz.dv (by decide);have zt7:∀w',Keep (RB D sv av2 tv2) w5 w'->w'.heap[E]? =some (.cells #[.int .i64 0] 34 (0,0)):=λw' K=>K.heap Oz.er (λh=>(Oz.far _ h).1.e rfl);have zw5:=Nj (g:=65) (bd:= #[.pointer (some ⟨D,0,none⟩)]) (lb:= #[]) Oz.er (enters_of func65 (by kernel_rfl) rfl) hSy (λw' h=>zt7 w' h.2);have v0:w5.cell? ⟨VB,0,none⟩=some (.pointer (some ⟨B,0,none⟩)):=by rw[aO _ _ _ _ _ (0,0) Oz.vb];rfl
   have v1:=Oz.vr.dev;have HX5:=ag Oz;have zxV:=ag zw5;have zxQ:=ag zt7;clear Oz zw5 zt7 hSy FK ma mt K5 hw5 HDo HKE HXd;go_wp2_with fail;refine zxV.o.m ?_;rintro e w6 ⟨rfl,w7',⟨Zo,K7⟩,hw7⟩;have hw8:w6=w7':=by rw[hw7];exact wF (zxQ.o w7' K7) rfl
   subst hw8;have QX:=HX5.o.dev K7 zem zem Zo;have z0:w6.cell? ⟨E,0,none⟩=some (.int .i64 0):=by rw[aO _ _ _ _ _ (0,0) QX.er];rfl
   have z1:w6.cell? ⟨VB,0,none⟩=some (.pointer (some ⟨B,0,none⟩)):=by rw[aO _ _ _ _ _ (0,0) QX.vb];rfl
   have z2:=QX.vr.Ea;have z3:w6.cell? ⟨X,0,none⟩=some (.int .i64 rf):=by rw[aO _ _ _ _ _ (0,0) QX.xr,<-zxm.o];rfl
   have z4:=QX.cc.cell;have z5:w6.frozen? ⟨C,0,none⟩=false:=bU QX.cc 0;have HX6:=ag QX;clear v0 v1 QX Zo K7 hw7 HX5 zxV zxQ;have l0:∀x:wE (Zf VB B C X rf),x.w.cell? ⟨VB,0,none⟩=some (.pointer (some ⟨B,0,none⟩)):=λx=>x.h.1;have l1:∀x:wE (Zf VB B C X rf),x.w.cell? ⟨B,2,none⟩=some (.pointer (some ⟨C,0,none⟩)):=λx=>x.h.2.1;have l2:∀x:wE (Zf VB B C X rf),x.w.cell? ⟨X,0,none⟩=some (.int .i64 rf):=λx=>x.h.2.2;go_wp2_with fail;refine qX (Zf VB B C X rf) [(true,0),(true,1),(true,2),(true,3),(true,4),(true,5),(true,6),(false,7)] ?_;simp only[uy,qC,aF,aH,aI]
   repeat(refine qp (λK hK=> ?_);go_simp;(first|refine⟨_,λ_=>rfl,hK _ ?_⟩|refine hK _ ?_);clear hK K)
   clear l0 l1 l2;refine⟨⟨z1,z2,z3⟩,?_⟩;go_wp2_with fail;obtain⟨w8,hw8⟩:=aj ((w6.setCell ⟨C,0,none⟩ (.int .i64 rf)).drew);have K8:Keep (qJ C) w6 w8:=by rw[hw8];exact((ah (qJ C) w6).tK 0 _).drew
   have n8:∀ {b:Nat} {c:Array ay} {ty:aB} {fz:Nat×Nat},w6.heap[b]? =some (.cells c ty fz)->ty≠3->¬qJ C b:=λhb ht e=>by have e:_=C:=e;subst e;exact ht (rD hb HX6.o.cc)
   have hC8:QU w8 C rf:=by rw[hw8];show(w6.setCell ⟨C,0,none⟩ (.int .i64 rf)).heap[C]? =_;rw[qK HX6.o.cc];rfl
   have hV8:=HX6.o.vr.qm K8 (n8 HX6.o.vr.row (by decide));have hB8:=K8.heap HX6.o.vb (n8 HX6.o.vb (by decide));have hX8:=K8.heap HX6.o.xr (n8 HX6.o.xr (by decide));have hT8:=HX6.o.tx.qm K8 (n8 HX6.o.tx.1 (by decide));have hS8:=HX6.o.ix.qm K8 (n8 HX6.o.ix.1 (by decide));have hD8:=HX6.o.dv.qm K8 (λb hb e=>(HX6.o.far b hb).1.c e);have hKw:Keep (λb=>(b=B∨b=C)∨RB D sv av tv b) w w8:=(HX6.o.qm.m λ_ _ h=> .inr h).t K8 (λb _ e=> .inl (.inr e));rw[<-hw8];obtain⟨ct4,zno⟩:=aj (((ui V.texts W).map Value.string).toArray);obtain⟨cs4,znp⟩:=aj (((xY rf sn W).map (Value.int .i64)).toArray);have hTl:=hT8.2;have hSl:=hS8.2;have zn0:ct4.size=32:=by rw[zno,bZ,aP,hTl]
   have zn2:cs4.size=32:=by rw[znp,bZ,aP,hSl]
   have zsS:(prog.info? 67).map (·.size)=some ct4.size:=by rw[zn0];exact Wu
   have zsU:(prog.info? 68).map (·.size)=some cs4.size:=by rw[zn2];exact Wv
   have Rt:cx4.all (·.oneCell')=true:=by rw[zuv.o];exact sU _
   have OC:ct4.all (·.oneCell')=true:=by rw[zno];exact Ub _
   have Dw:cs4.all (·.oneCell')=true:=by rw[znp];exact zeD _
   rw[<-zuv.o]at hX8;have hT9:=hT8.1;rw[<-zno]at hT9;have hS9:=hS8.1;rw[<-znp]at hS9;have b8:w8.cell? ⟨VB,0,none⟩=some (.pointer (some ⟨B,0,none⟩)):=by rw[aO _ _ _ _ _ (0,0) hB8];rfl
   have L34:Ze VB B X T S cx4 ct4 cs4 w8:=⟨b8,hX8,hT9,hS9⟩
   have nB:∀ {b:Nat} {c:Array ay} {ty:aB} {fz:Nat×Nat},w8.heap[b]? =some (.cells c ty fz)->ty≠70->¬qJ B b:=λhb ht e=>by have e:_=B:=e;subst e;exact ht (rD hb hV8.row)
   have zsL:∀W',Keep (qJ B) w8 W'->Ze VB B X T S cx4 ct4 cs4 W':=λW' K=>⟨(K.cell (p:=⟨VB,0,none⟩) (lt_of_heap hB8) (nB hB8 (by decide))).t b8,K.heap hX8 (nB hX8 (by decide)),K.heap hT9 (nB hT9 (by decide)),K.heap hS9 (nB hS9 (by decide))⟩
   have hdB:∀b,RB D sv (.slice none 0 0) (.slice none 0 0) b->b≠B:=λb hb=>(HX6.o.far b hb).1.v;have zsI:∀b,RB D sv (.slice none 0 0) (.slice none 0 0) b->RB D sv av tv b∨w.heap.size<=b:=λb hb=>(HX6.o.far b hb).2;have hdr:ak w8 w8.drew:=(ah _ _).drew;have zwL:=hV8.qm hdr (λx=>x);have Ro:∀W' V' CU,uS W' B RN D C V' CU->uS (W'.setRow B (vU (rP RN D C V' CU).toArray 4 cx4)) B RN D C { V' with now:=x4 } CU:=λW' V' CU h=>by rw[zuv.o];exact h.zh zxl.o.1
   have JO:∀W' V' CU,uS W' B RN D C V' CU->uS (W'.setRow B (vU (rP RN D C V' CU).toArray 39 ct4)) B RN D C { V' with texts:=ui V.texts W } CU:=λW' V' CU h=>by rw[zno];exact h.zgF hTl
   have hs3:∀W' V' CU,uS W' B RN D C V' CU->uS (W'.setRow B (vU (rP RN D C V' CU).toArray 71 cs4)) B RN D C V' (xY rf sn W):=λW' V' CU h=>by rw[znp];exact h.zgG hSl
   have hlen:∀V' CU,Fa V' CU->(rP RN D C V' CU).toArray.size=104:=λV' CU h=>by rw[bZ,Jd h]
   have l0:∀x:wE (Ze VB B X T S cx4 ct4 cs4),x.w.cell? ⟨VB,0,none⟩=some (.pointer (some ⟨B,0,none⟩)):=λx=>x.h.1;have Hs1:=ag Ro;have Hs2:=ag JO;have Hs3:=ag hs3;have yM:=ag hlen;have zte:=ag zsS;have ztf:=ag zsU;have Hn:=ag (And.intro Rt (And.intro OC Dw));have zxK:=ag (And.intro zn0 zn2);have Hcl:=ag zsL;have HD8:=ag hD8;have HC8:=ag hC8;have HKw:=ag hKw;have HdB:=ag hdB;have zy1:=ag zsI;have zuy:=ag zwL;have zBh:=ag L34;have HCB:Hid (C≠B):=ag (λe=>by subst e;exact absurd (rD hV8.row hC8) (by decide))
   clear Ro JO hs3 hlen zsS zsU Rt OC Dw zn0 zn2 zsL hD8 hC8 hKw hdB zsI zwL L34 zno znp hTl hSl hT8 hS8 hT9 hS9 hX8 hB8 hV8 b8 nB n8 K8 hw8 z0 z1 z2 z3 z4 z5 HX6 hdr;refine qX (Ze VB B X T S cx4 ct4 cs4) [(true,0),(true,1),(true,2),(true,3),(true,4),(true,5),(true,6),(true,7),(false,8),(true,9),(true,10),(false,11),(true,12),(true,13),(false,14)] ?_;simp only[uy,qC,aF,aH,aI]
   iterate 3 (refine qp (λK hK=> ?_);go_simp;(first|refine⟨_,λ_=>rfl,hK _ ?_⟩|refine hK _ ?_);clear hK K)
   refine rO (by rfl) 66 (.tmp 7) rfl X 0 rfl 66 cx4 (0,0) cx4 _ (λy=>y.h.2.1) (λj v hv=>by rw[eH];exact hv) dM rfl zuC.o ?_;refine tY ?_;refine rO (by rfl) 67 (.tmp 8) rfl T 0 rfl 67 ct4 (0,0) ct4 _ (λy=>y.h.2.2.1) (λj v hv=>by rw[eH];exact hv) kL rfl zte.o ?_;refine tY ?_;refine rO (by rfl) 68 (.tmp 9) rfl S 0 rfl 68 cs4 (0,0) cs4 _ (λy=>y.h.2.2.2) (λj v hv=>by rw[eH];exact hv) underlying68 rfl ztf.o ?_;refine tY ?_
   iterate 2 (refine qp (λK hK=> ?_);go_simp;(first|refine⟨_,λ_=>rfl,hK _ ?_⟩|refine hK _ ?_);clear hK K)
   refine⟨zBh.o,?_⟩;refine uG rfl 66 (.tmp 188) (.tmp 184) rfl B 4 70 (rP RN D C V sn).toArray cx4 rfl rfl zuy.o.row zuC.o (by rw[yM.o _ _ zuy.o.lens,zxl.o.2];omega) Hn.o.1 ?_;refine qQ (λW'=>uS W' B RN D C { V with now:=x4 } sn∧Keep (qJ B) w8 W') ⟨Hs1.o _ _ _ zuy.o,(ah (qJ B) w8).drew.setRow (g:=B) (.inl rfl) _⟩ ?_;rintro w9 ⟨V9,K9⟩;go_wp2_with fail
   iterate 2 (refine qp (λK hK=> ?_);go_simp;(first|refine⟨_,λ_=>rfl,hK _ ?_⟩|refine hK _ ?_);clear hK K)
   refine⟨Hcl.o _ K9,?_⟩;refine uG rfl 67 (.tmp 190) (.tmp 185) rfl B 39 70 (rP RN D C { V with now:=x4 } sn).toArray ct4 rfl rfl V9.row zte.o (by rw[yM.o _ _ V9.lens,zxK.o.1];omega) Hn.o.2.1 ?_;refine qQ (λW'=>uS W' B RN D C { V with now:=x4,texts:=ui V.texts W } sn∧Keep (qJ B) w8 W') ⟨Hs2.o _ _ _ V9,K9.setRow (g:=B) (.inl rfl) _⟩ ?_;clear V9 K9;rintro w9 ⟨V9,K9⟩;go_wp2_with fail
   iterate 2 (refine qp (λK hK=> ?_);go_simp;(first|refine⟨_,λ_=>rfl,hK _ ?_⟩|refine hK _ ?_);clear hK K)
   refine⟨Hcl.o _ K9,?_⟩;refine uG rfl 68 (.tmp 192) (.tmp 186) rfl B 71 70 (rP RN D C { V with now:=x4,texts:=ui V.texts W } sn).toArray cs4 rfl rfl V9.row ztf.o (by rw[yM.o _ _ V9.lens,zxK.o.2];omega) Hn.o.2.2 ?_;refine qQ (λW'=>uS W' B RN D C { V with now:=x4,texts:=ui V.texts W } (xY rf sn W)∧Keep (qJ B) w8 W') ⟨Hs3.o _ _ _ V9,K9.setRow (g:=B) (.inl rfl) _⟩ ?_;clear V9 K9;rintro w9 ⟨V9,K9⟩;go_wp2_with fail;go_ret;rw[<-HWd.o];have e9:x4=(xG V ep W).now:=by rw[Hx4.o,Hrt.o,Hmt.o,JX.o];rfl
   refine⟨rfl,⟨xY rf sn W,V9.zvC rfl e9 rfl rfl,?_,?_,?_,zy1.o⟩,HKw.o.t K9 (λb _ e=> .inl (.inl e))⟩
   ·have e7:=PO rf W HV.o.lens.since HV.o.lens.texts;rw[<-Hmk.o]at e7;rw[JX.o]at e7⊢;exact e7
   ·have h9:=HD8.o.qm K9 (λb hb e=>HdB.o b hb e);have e8:DX V qy ep W=sQ zW ([]++ [(q,BD sw)]):=by
     rw[DX,zdX,zus.o,Hq.o,Hsw.o,zyO.o,e9,JX.o];rfl
    rw[e8];exact h9
   rw[<-JX.o];exact HC8.o.qm K9 (λe=>HCB.o e)
