import Derived.Test.YtbcmmbeadgiiiaaGreatDoorYAV
import Derived.Test.YtbcmmbeadgiiiaaGreatDoorYBC
set_option linter.all false
namespace Go.Proofs.YtbcmmbeadgiiiaaGreatDoor
open Go.RowKit Tryz
set_option maxRecDepth 100000
set_option maxHeartbeats 16000000
variable{c:Array ay}{e:Ending}{xs:List ay}{l:List qP}{L:List vP}{B BB base mb n nm nw qE wb:Nat}{S:Nat->Prop}{f:Nat×Nat}{ty:aB}{w w':ax}{v:ay}{x:qP}
def cellOf(h:w.heap[B]? =some (.cells c ty f))(i:Nat)(hv:c[i]? =some v):w.cell? ⟨B,i,none⟩=some v:=by simp[World.cell?,h,hv]
def Ox(w:ax)(v:ay):Option ay->Prop
 | none=>v= .pointer none
 | some x=>∃(b:Nat) (a t c:ay) (f:Nat×Nat),v= .pointer (some ⟨b,0,none⟩)∧x= .agg #[a,t,c]∧w.heap[b]? =some (.cells #[a,t,c] 45 f)
def Ox.qm{o:Option ay}(h:Ox w v o)(hk:Keep S w w')(hS:∀i,i<w.heap.size->¬S i):Ox w' v o:=by
 cases o with
 | none=>exact h
 | some x=>
  obtain⟨b,a,t,c,f,h1,h2,h3⟩:=h;exact⟨b,a,t,c,f,h1,h2,hk.heap h3 (hS b (lt_of_heap h3))⟩
def zft{na:Nat}{A W:List vP}{vv dv cv:ay}(g:ay->Option ay)
  (Ce:∀w:ax,sF w mb na A->ae 102 #[.map (some mb)] w λe w'=>e= .returned (.map (some w.heap.size))∧sF w' w.heap.size na A∧ak w w'∧w'.heap.size=w.heap.size+1)
  (hB:w.heap[B]? =some (.cells #[vv,dv,.map (some mb),.map (some wb),cv] ty f)) (hA:sF w mb na A) (hW:sF w wb nw W) (hg:∀p∈W,Ox w p.2 (g p.2)) (TA:na+W.length<1000000):
  ae 47 #[.pointer (some ⟨B,0,none⟩)] w λe w'=>∃n,n<=na+W.length∧e= .returned (.map (some w.heap.size))∧sF w' w.heap.size n (OU A (W.map λp=>(p.1,g p.2)))∧ak w w':=by
 have zea:=lt_of_heap hB;have Oo:∀w':ax,ak w w'->w'.cell? ⟨B,2,none⟩=some (.map (some mb)):=λw' K=>by have:=K.heap hB id;exact cellOf this 2 rfl
 have hc3:∀w':ax,ak w w'->w'.cell? ⟨B,3,none⟩=some (.map (some wb)):=λw' K=>by have:=K.heap hB id;exact cellOf this 3 rfl
 have c2:=Oo w (ah _ _);go_enter func47,ntmps47;go_wp2_with fail;refine(Ce w hA).m ?_;rintro e w1 ⟨rfl,YB,K1,Ro⟩;have c3:=hc3 w1 K1;have hW1:=hW.qm K1 id;obtain⟨nb,GG⟩:=aj w.heap.size;rw[<-GG]at YB;have hwb:wb<nb:=by rw[GG];exact hW.lt
 have hBn:B<nb:=by rw[GG];exact zea
 go_wp2_with (first|(at_range;refine zbz rfl oh _ rfl rfl hW1 ?_;intro w2 zqx K2 JO));(try go_frame);rw[<-GG];obtain⟨ib,hib⟩:=aj w1.heap.size;rw[<-hib]at zqx⊢;have hni:nb<ib:=by omega
 have hV:(W.map λp=>(p.1,g p.2)).Pairwise (λp q=>p.1≠q.1):=by rw[fE];exact hW.TN
 have hAr:=hA.rising;have YA:=YB.qm K2 id;have uF:Maps.size (encS W)=W.length:=aP ..;have KN:ak w w2:=K1.qo K2;rw[uF]at zqx;have QR:=ag GG;have Hib:=ag hib;have Hss:Hid (w2.heap.size=ib+1):=ag (by omega);have Hws:Hid (w.heap.size<=nb):=ag (by omega);clear GG hib Ro JO c2 c3 uF
 go_loopw [] (λwr=>∃(left:Lit->Bool) (Ea n:Nat) (L:List vP),Hid (Et wr wb ib nw W left Ea)∧Hid (sF wr nb n L)∧Hid (VL A (W.map λp=>(p.1,g p.2)) left L)∧Hid (n+Ea<=na+W.length)∧Hid (Keep (λi=>i=ib∨i=nb) w2 wr)) (λwr=>wr.rangeLeft wb ib)
 case atStart=>
  refine⟨_,_,na,A,ag zqx,ag YA,ag ⟨hAr,λp hp hl=> ?_,λk _=>rfl⟩,ag (aS _),ag (ah _ _)⟩;obtain⟨q,hq,rfl⟩:=bY.1 hp;exfalso;have h1:Maps.has (encS W) (zbY q.1)=(zt W q.1).isSome:=Ut W q.1;rw[zas hW.TN (v:=q.2) hq]at h1;rw[h1]at hl;cases hl
 case round=>
  clear zqx YA;obtain⟨left,Ea,n,L,hrg,hmr,hov,hn,hK⟩:=hrel;obtain⟨wo,rfl⟩:=aj wr;have zb5:=hrg.o;go_wp2_with (first|(at_next;refine zch rfl _ rfl rfl zb5 ?_ ?_))
  ·intro Va;have tN:=hov.o.finish hAr hV Va;have hmo:=hmr.o;rw[tN]at hmo;have Ko:ak w wo:=(KN.yw.then hK.o).m (λi hi e=>by have:=Hws.o;omega);have Dw:n<=na+W.length:=by have:=hn.o;omega
   clear hov hrg zb5 hK Va tN hmr hn;go_wp2_with fail;go_ret;exact⟨n,Dw,by rw[<-QR.o];rfl,by rw[<-QR.o];exact hmo,Ko⟩
  intro x c w3 YE hxc Zk hlx ziC rE K3 hs3 hen;have ztE:=hov.o.step hV (p:=(x,g c)) (bY.2 ⟨(x,c),hxc,rfl⟩);have hm3:sF w3 nb n L:=hmr.o.qm K3 (λe=>by have h1:nb=ib:=e;omega);have K23:=hK.o.t (K3.m (λi hi e=> .inl e)) (λi hi e=>e);have hP3:Ox w3 c (g c):=(hg _ hxc).qm (KN.yw.then K23) (λi hi e=>by have:=Hws.o;omega);have YS:=zb5.left_eq;have hn3:n+YE+1<=na+W.length:=by have:=hn.o;omega
  have hlen:1<=W.length:=List.length_pos_of_mem hxc;clear hrg zb5 hK hmr hov hn K3;have zqT:=ag ziC;have zqU:=ag ztE;have zxR:=ag K23;have Hn3:=ag hn3;cases YU:g c with
  | none=>
   rw[YU]at hP3 zqU;obtain rfl:c= .pointer none:=hP3;obtain⟨w4,hdel,hm4,K4⟩:=hm3.drop iP x Zk 0;clear ziC ztE K23 hn3;go_wp2_with fail;go_roundw
   case rel=>exact⟨_,YE,n,_,ag (zqT.o.qm K4 (λe=>by have h1:wb=nb:=e;omega) (λe=>by have h1:ib=nb:=e;omega)),ag hm4,zqU,ag (by have:=Hn3.o;omega),ag (zxR.o.t K4 (λi hi e=> .inr e))⟩
   rw[(zqT.o.qm K4 (λe=>by have h1:wb=nb:=e;omega) (λe=>by have h1:ib=nb:=e;omega)).left_eq,YS];exact rE
  | some v=>
   rw[YU]at hP3 zqU;obtain⟨b,a,t,d,fb,rfl,rfl,hb⟩:=hP3;have c0:=cellOf hb 0 rfl;have c1:=cellOf hb 1 rfl;have c2:=cellOf hb 2 rfl;obtain⟨w4,hupd,hm4,K4⟩:=hm3.update iP (by unfold maxLen;omega) x Zk (.agg #[a,t,d]);clear ziC ztE K23 hn3;go_wp2_with fail;go_roundw
   case rel=>exact⟨_,YE,(n+1),_,ag (zqT.o.qm K4 (λe=>by have h1:wb=nb:=e;omega) (λe=>by have h1:ib=nb:=e;omega)),ag hm4,zqU,ag (by have:=Hn3.o;omega),ag (zxR.o.t K4 (λi hi e=> .inr e))⟩
   rw[(zqT.o.qm K4 (λe=>by have h1:wb=nb:=e;omega) (λe=>by have h1:ib=nb:=e;omega)).left_eq,YS];exact rE
section
variable [Inhabited Bd]
def yL(x:qP):ay:= .agg (rC x).toArray
def zla(w:ax):ay->Option ay
 | .pointer (some a)=>match w.heap[a.block]? with
  | some (.cells c _ _)=>some (.agg c)
  | _=>none
 | _=>none
def Ox.at{o:Option ay}(h:Ox w v o):zla w v=o:=by
 cases o with
 | none=>rw[show v= .pointer none from h];rfl
 | some x=>
  obtain⟨b,a,t,c,f,rfl,rfl,h3⟩:=h;simp[zla,h3]
abbrev Aa:=af×qP
abbrev zS:=af×(ay×Option qP)
def wV(W:List zS):List (af×Option qP):=wH Prod.snd W
def Sm(W:List zS):List (af×Option sW):=wH (Option.map qA) (wV W)
def BK(L:List Aa):List (af×sW):=wH qA L
def Nr(L:List Aa)(W:List zS):BK (uY L (wV W))=uY (BK L) (Sm W):=(Wh qA (wV W) L).s
def zqk(L:List Aa)(W:List zS):wH yL (uY L (wV W))=OU (wH yL L) (wH (Option.map yL) (wV W)):=by rw[<-zkR];exact(Wh yL (wV W) L).s
def yc(w:ax)(x:qP):Prop:=vM w x.av x.ns∧O8 w x.av
def yc.qm(h:yc w x)(hk:Keep S w w')(hS:∀b c t f,S b->w.heap[b]? =some (.cells c t f)->t≠3):yc w' x:=by
 have hn:∀b,x.av.ownBlock=some b->¬S b:=λb hb hs=>by obtain⟨-,cs,fz,hc⟩:=h.2 b hb;exact hS b _ _ _ hs hc rfl
 exact⟨h.1.qm hk hn,λb hb=>by obtain⟨hlb,cs,fz,hc⟩:=h.2 b hb;exact⟨hlb,cs,fz,hk.heap hc (hn b hb)⟩⟩
structure Z4(t:aB):Prop where
 int:t≠3
 item:t≠45
 cells:t≠206
 ptr:t≠208
 cell:t≠219
def Gl(w:ax)(S:Nat->Prop):Prop:=∀b c t f,S b->w.heap[b]? =some (.cells c t f)->Z4 t
def Gl.none(w:ax):Gl w qw:=λ_ _ _ _ h=>h.elim
def Ox.zsk{o:Option ay}(h:Ox w v o)(hk:Keep S w w')(hS:Gl w S):Ox w' v o:=by
 cases o with
 | none=>exact h
 | some x=>
  obtain⟨b,a,t,c,f,h1,h2,h3⟩:=h;exact⟨b,a,t,c,f,h1,h2,hk.heap h3 (λhs=>(hS b _ _ _ hs h3).item rfl)⟩
def QG{e:aB}{size:Nat}(h:qF w base e size v n xs)(hk:Keep S w w')(hS:∀b c f,S b->w.heap[b]? =some (.cells c e f)->False):qF w' base e size v n xs:=
 h.qm hk λb hb hs=>by obtain⟨c,f,hh⟩:=tV h hb;exact hS b c f hs hh
def zij{C:Nat}{bs:List (Nat×ay)}{cs:List Cell}(h:uh w base C qE v bs cs)(K:Keep S w w')(hS:Gl w S):uh w' base C qE v bs cs:=
 ⟨K.heap h.head (λhs=>(hS _ _ _ _ hs h.head).cells rfl),QG h.row K (λb c f hs hh=>(hS b c _ f hs hh).ptr rfl),h.len,λi b c hb hc=>by have h1:=h.cell i b c hb hc;exact⟨K.heap h1.1 (λhs=>(hS _ _ _ _ hs h1.1).cell rfl),h1.2.1,QG h1.2.2 K (λb c f hs hh=>(hS b c _ f hs hh).item rfl)⟩,h.ptr,h.own,h.low⟩
structure FP(w:ax)(mb wb nm nw:Nat)(L:List Aa)(W:List zS):Prop where
 now:sF w mb nm (wH yL L)
 wait:sF w wb nw (wH Prod.fst W)
 apart:mb≠wb
 items:∀p∈L,yc w p.2
 waits:∀p∈W,Ox w p.2.1 (p.2.2.map yL)∧∀x,p.2.2=some x->yc w x
structure Gz(w:ax)(CC:Nat)(qE:Nat)(L:List Aa):Prop where
 cells:∃base cv bs l,uh w base CC qE cv bs (Eg l)∧(∀x∈l,yc w x)∧l.map qA=L.map (λp=>qA p.2)
def Le(B qE mb wb:Nat)(c:ay):Array ay:= #[.pointer (some ⟨B,0,none⟩),.int .i64 qE,.map (some mb),.map (some wb),c]
def su(w:ax)(BB B qE mb wb:Nat)(c:ay):Prop:=w.heap[BB]? =some (.cells (Le B qE mb wb c) 109 (0,0))
abbrev wB(w:ax)(BB B qE mb wb CC:Nat):Prop:=su w BB B qE mb wb (.pointer (some ⟨CC,0,none⟩))
section
variable {w w':ax}{mb wb nm nw CC qE:Nat}{L:List Aa}{W:List zS}{S:Nat->Prop}
def FP.qm(h:FP w mb wb nm nw L W)(hk:Keep S w w')(hS:Gl w S)(h1:¬S mb)(h2:¬S wb):FP w' mb wb nm nw L W:=
 ⟨h.now.qm hk h1,h.wait.qm hk h2,h.apart,λp hp=>(h.items p hp).qm hk (λb c t f hs hh=>(hS b c t f hs hh).int),λp hp=>⟨(h.waits p hp).1.zsk hk hS,λx hx=>((h.waits p hp).2 x hx).qm hk (λb c t f hs hh=>(hS b c t f hs hh).int)⟩⟩
def FP.rV(h:FP w mb wb nm nw L W)(hk:ak w w'):FP w' mb wb nm nw L W:=h.qm hk (Gl.none w) id id
def Gz.qm(h:Gz w CC qE L)(hk:Keep S w w')(hS:Gl w S):Gz w' CC qE L:=by obtain⟨base,cv,bs,l,h1,h2,h3⟩:=h.cells;exact⟨base,cv,bs,l,zij h1 hk hS,λx hx=>(h2 x hx).qm hk (λb c t f hs hh=>(hS b c t f hs hh).int),h3⟩
def Gz.rV(h:Gz w CC qE L)(hk:ak w w'):Gz w' CC qE L:=h.qm hk (Gl.none w)
end
def zjL{b:Nat}{t:aB}(h:w.heap[b]? =some (.cells c t f))(ht:Z4 t):Gl w (qJ b):=λb' c' t' f' hs hh=>by obtain rfl:b'=b:=hs;rw[rD hh h];exact ht
def QJ(h:sF w mb n L):Gl w (qJ mb):=λb c t f hs hh=>by obtain rfl:b=mb:=hs;exact absurd rfl (h.xI hh)
def zl9{M:List vP}(h:sF w mb n L)(e:L=M):sF w mb n M:=e▸h
end
def JI{l:List Int}(N:vM w v l)(h0:0<l.length)(hl:l.length<=1000000):
  ae 48 #[v] w λe w'=>∃v',e= .returned v'∧qF w' w.heap.size 3 1 v' l.length (l.map (Value.int .i64))∧ak w w':=by
 obtain⟨p,c,rfl⟩:=N.len;obtain⟨b,off,rfl,-,hb,hc⟩:=N.at h0;refine(slices_Clone_int b off l.length c l w (aS _) (by omega) hc).m ?_;rintro e w' ⟨v',rfl,uU,_,Zr⟩;refine⟨v',rfl,?_,Keep.Em Zr⟩;have:=qF.of uU
 rwa [bg (aS _)]at this
def S9 [Inhabited Bd](h:qF w base 3 1 v n xs)(hb:loB<=base):O8 w v:=λg hg=>⟨bQ hb (h.lt g hg).1,tV h hg⟩
section
variable [Inhabited Bd]
def zgS(L:List Aa):(wH yL L).map (·.1)=L.map (·.1):=by rw[wH,iy];rfl
structure Py(w:ax)(base:Nat)(v:ay)(l:List qP)(L:List Aa):Prop where
 row:qF w base 45 3 v l.length (l.flatMap rC)
 same:l.map qA=L.map (λp=>qA p.2)
 yK:∀x∈l,yc w x
def Py.items{L:List Aa}(h:Py w base v l L):zT w v l:=⟨uT.yw zf h.row,λx hx=>(h.yK x hx).1⟩
def Py.len{L:List Aa}(h:Py w base v l L):l.length=L.length:=by
 have:=dB List.length h.same
 simpa using this
structure Ic(L:List Aa):Prop where
 few:L.length<=1000
 name:∀p∈L,p.1.size<=1000
 some:∀p∈L,0<p.2.ns.length
 le:∀p∈L,p.2.ns.length<=8
 num:∀p∈L,DW p.2.ns
def Ic.nil:Ic []:=⟨by simp,(λp hp=>by cases hp),(λp hp=>by cases hp),(λp hp=>by cases hp),(λp hp=>by cases hp)⟩
end
section
variable [Inhabited Bd]
def Rn(BA:loB<=w.heap.size){c0:ay}{L:List Aa}
  (hB:su w BB B qE mb wb c0) (hA:sF w mb nm (wH yL L)) (hI:∀p∈L,yc w p.2) (hs:Ic L):
  ae 28 #[.pointer (some ⟨BB,0,none⟩)] w λe w'=>(∃v l,e= .returned v∧Py w' w.heap.size v l L)∧ak w w':=by
 have Oo:∀w':ax,ak w w'->w'.cell? ⟨BB,2,none⟩=some (.map (some mb)):=λw' K=>cellOf (K.heap hB id) 2 rfl;have c2:=Oo w (ah _ _);have zea:=lt_of_heap hB;have zf7:=(lI (n:=5)).1 (U0 (some mb) w);have H5:=(lI (n:=5)).1 (P8 hA (by rw[wH,aP];have:=hs.few;omega));have zgn:=ag zf7;have I4:=ag H5;clear zf7 H5;go_enter func28,ntmps28;go_wp2_with fail;refine zgn.o.m ?_;rintro e w' ⟨rfl,rfl⟩;go_wp2_with fail;refine I4.o.m ?_;rintro e w1 ⟨v,ss,rfl,hS,uU,Zv,hb⟩;have hr:=hA.rising;have hss:ss.length=((wH yL L).map (·.1)).length:=by rw[hS.length_eq,PI,zds]
 rw[UI hr hS,X7,hss,zgS]at uU;have own:=qF.of uU;have yx:Strs w1 v (L.map (·.1)):=J6 own;have K1:ak w w1:=((ah qw w).alloc (.cells #[.map (some mb)] 105)).qo ⟨hb.os,hb.tape,hb.output,hb.size,λi hi _=>hb.block i hi⟩;obtain⟨N,hN⟩:=aj (L.map (·.1));rw[<-hN]at yx own;obtain⟨p,c,rfl⟩:=yx.len;obtain⟨m,hm⟩:=aj N.length;have hmL:m=L.length:=by rw[hm,hN,aP]
 rw[<-hm]at yx⊢;have HN:=ag hN;have Hm:=ag hm;have HmL:=ag hmL;have Jm:=ag yx;obtain⟨i0,zM,Ba,Vg,Vd⟩:=Fg;clear hN uU Zv hS hss hm hmL own yx hb c2 hr;go_wp2_with fail;have HA:=ag hA;have HI:=ag hI;have Hhc:=ag Oo;have Lu:=ag K1;clear hA hI Oo K1 zgn I4
 go_loopw [3,14] (λlv iv wr=>∃(k:Nat) (o:ay) (l:List qP),k<=m∧iv= .int .i64 k∧o=lv∧Hid (l.length=k)∧Hid (l.map qA=(L.take k).map (λp=>qA p.2))∧Hid (qF wr w1.heap.size 45 3 o k (l.flatMap rC))∧Hid (∀x∈l,yc wr x)∧Hid (ak w1 wr)) (λ_ iv _=>m-(intOf iv).toNat)
 case atStart=>exact⟨0,_,[],by omega,rfl,rfl,ag rfl,ag (by rw[dD];rfl),ag (qF.nil _ _ _ _),ag (λx hx=>by cases hx),ag (ah _ _)⟩
 case round=>
  obtain⟨k,o,l,hk,rfl,rfl,hll,IY,hO,FM,K⟩:=hrel;obtain⟨wo,rfl⟩:=aj wr;have KW:=Lu.o.qo K.o;by_cases rE:k<m
  ·have j1:(k:Int)<m:=by omega
   have Tr:=Jm.o.qm K.o (λ_ _ x=>x);obtain⟨b,off,rfl,-,hb,uw⟩:=Tr.at (by rw[<-Hm.o];omega);have QN:=uw k (by rw[<-Hm.o];exact rE);obtain⟨q,hq⟩:∃q,L[k]? =some q:=⟨_,aK (by have:=HmL.o;omega)⟩
   have Zn:q∈L:=bG hq;have hnk:N.getD k ⟨#[]⟩=q.1:=by rw[HN.o,aG,aX,hq];rfl
   rw[hnk]at QN;have hAo:=HA.o.qm KW id;have Jn:zt (wH yL L) q.1=some (yL q.2):=zas hAo.TN (bY.2 ⟨q,Zn,rfl⟩);have NR:=(HI.o q Zn).qm KW (λ_ _ _ _ h=>h.elim);have hqn:=hs.some q Zn;have hq8:=hs.le q Zn;have znU:=hs.name q Zn;obtain⟨nm,x⟩:=q;simp only at QN Jn NR hqn hq8 znU;have ztI:nm.size<=maxLen:=by unfold maxLen;omega
   have NS:=hAo.look iP nm ztI (oW wo);rw[Jn,nN]at NS;obtain⟨xn,xt,xa,xs⟩:=x;obtain⟨pa,ca,hpa⟩:=NR.1.len;simp only at hpa hqn hq8;subst hpa;simp only[yL,rC]at NS;have b2:=Hhc.o _ KW;have KA:ak wo (wo.alloc (.cells #[.string xn,.string xt,.slice pa xs.length ca] 45)):=(ah _ _).alloc _;have Ce:=JI (NR.1.qm KA (λ_ _ x=>x)) hqn (by simp only;omega);simp only at Ce;have HX:=aQ wo (.cells #[.string xn,.string xt,.slice pa xs.length ca] 45);obtain⟨X,hX⟩:=aj wo.heap.size;obtain⟨wa,YP⟩:=aj (wo.alloc (.cells #[.string xn,.string xt,.slice pa xs.length ca] 45));rw[<-YP]at Ce HX KA;rw[<-hX]at HX;have a2:wa.cell? ⟨X,2,none⟩=some (.slice pa xs.length ca):=cellOf HX 2 rfl;have Hcl:=ag Ce;have Hwa:=ag YP;have HXX:=ag hX;have HHX:=ag HX;have HKA:=ag KA;have Hq:=ag hq;clear Ce YP hX HX KA hq Zn hnk Jn hAo Tr uw NR;go_wp2_with fail;rw[<-HXX.o,<-Hwa.o];obtain⟨nl,CV⟩:=aj xs.length;rw[<-CV]at Hcl a2 HHX Hwa⊢;have Ot:=ag CV;clear CV;go_wp2_with fail;refine Hcl.o.m ?_;rintro e w3 ⟨v3,rfl,O3,K3⟩;have Rz:=K3.heap HHX.o id;obtain⟨ps,cs,hps⟩:=yJ O3;subst hps;have d2:w3.cell? ⟨X,2,none⟩=some (.slice pa nl ca):=cellOf Rz 2 rfl;have f2:w3.frozen? ⟨X,2,none⟩=false:=bU Rz 2;have HX4:(w3.setCell ⟨X,2,none⟩ (.slice ps nl cs)).heap[X]? =some (.cells #[.string xn,.string xt,.slice ps nl cs] 45 (0,0)):=wG (i:=2) Rz _;have K4:Keep (qJ X) w3 (w3.setCell ⟨X,2,none⟩ (.slice ps nl cs)):=(ah _ _).tK 2 _;obtain⟨w4,LC⟩:=aj (w3.setCell ⟨X,2,none⟩ (.slice ps nl cs));rw[<-LC]at HX4 K4;have e0:w4.cell? ⟨X,0,none⟩=some (.string xn):=cellOf HX4 0 rfl;have e1:w4.cell? ⟨X,1,none⟩=some (.string xt):=cellOf HX4 1 rfl;have e2:w4.cell? ⟨X,2,none⟩=some (.slice ps nl cs):=cellOf HX4 2 rfl;have Hw4:=ag LC;have HO3:=ag O3;have Qm:=ag K3;have HK4:=ag K4;clear LC O3 K3 K4 Rz Hcl a2;go_upto_region 7 with(fail)
   rw[<-Hw4.o];clear d2 f2;have HOn:Hid (qF w4 w1.heap.size 45 3 o k (l.flatMap rC)∧(∀x∈l,yc w4 x)∧yc w4 ⟨xn,xt,.slice ps nl cs,xs⟩∧ak w1 w4):=by
    have zfJ:wo.heap.size<=X:=by rw[HXX.o];exact aS _
    have KK:Keep (qJ X) wo w4:=((HKA.o.qo Qm.o).yw).then HK4.o;have hnX:∀b c t f,qJ X b->wo.heap[b]? =some (.cells c t f)->t≠3:=λb c t f hb hh=>by have h1:b=X:=hb;have h2:=lt_of_heap hh;omega
    refine⟨hO.o.qm KK (λb hb e=> ?_),λx hx=>(FM.o x hx).qm KK hnX,?_,?_⟩
    ·have h1:b=X:=e;have h2:=(hO.o.lt b hb).2;omega
    ·have h3:yc w3 ⟨xn,xt,.slice ps nl cs,xs⟩:=⟨J7 (by rw[<-Ot.o];exact HO3.o),S9 HO3.o (bQ BA (KW.qo HKA.o).size)⟩
     refine h3.qm HK4.o λb c t f hb hh=> ?_;have h1:b=X:=hb;subst h1;have h5:=Qm.o.heap HHX.o id;rw[rD hh h5];decide
    refine(K.o.t KK λi hi e=> ?_);have h1:i=X:=e;have:=K.o.size;omega
   have znd:w1.heap.size<=w4.heap.size:=HOn.o.2.2.2.size;have zoy:k<1000:=by have:=HmL.o;have:=hs.few;omega
   have HK:=ag K.o;go_wp2_with (at_builtin;refine tC _ rfl _ _ 49 rfl w1.heap.size 45 i0 _ 3 56 kK zM Ba Vg Vd rfl (by decide) o _ _ rfl (HOn.o.1.alloc _) ⟨w4.heap.size,0,none⟩ 1 1 [.string xn,.string xt,.slice ps nl cs] rfl rfl (rJ _ _ _) (Am xn xt ps nl cs) (by unfold maxLen;omega) (by omega) (by simp;omega) ?_;intro v' w5 II xh);have KG:Keep (λb=>o.ownBlock=some b) w4 w5:=(((ah qw w4).alloc (.cells #[.string xn,.string xt,.slice ps nl cs] 45)).yw).t ((ah _ _).grown xh (λb hb=> .inl hb)) (λi hi h=>h);have hoT:∀b c t f,(λb=>o.ownBlock=some b) b->w4.heap[b]? =some (.cells c t f)->t≠3:=λb c t f hb hh=>by obtain⟨c',f',h2⟩:=tV HOn.o.1 hb;rw[rD hh h2];decide
   refine⟨⟨k+1,v',l++ [⟨xn,xt,.slice ps nl cs,xs⟩],by omega,by go_num,rfl,ag ?_,ag ?_,ag ?_,ag ?_,ag ?_⟩,by simp[intOf];omega⟩
   ·rw[aN,hll.o];rfl
   ·have h1:=aT.1 Hq.o;rw[aZ h1.1,h1.2,dK,dK,IY.o];rfl
   ·rw[dU];exact II
   ·intro x hx;rcases dX.1 hx with hx|hx
    ·exact(HOn.o.2.1 x hx).qm KG hoT
    rw[bJ.1 hx];exact HOn.o.2.2.1.qm KG hoT
   refine HK.o.t (((HKA.o.qo Qm.o).yw (S:=λb=>b=X∨o.ownBlock=some b)).t ((HK4.o.m (λi hi h=> .inl h)).t (KG.m (λi hi h=> .inr h)) (λi hi h=>h)) (λi hi h=>h)) (λi hi h=> ?_);rcases h with h|h
   ·have:=HXX.o;have:=HK.o.size;omega
   have h2:=(hO.o.lt i h).1;omega
  obtain rfl:k=m:=by omega
  have j1:¬(k:Int)<k:=by omega
  have hOo:=hO.o;have hN:L.take k=L:=bg (by rw[<-HmL.o];exact aS _);have TA:=IY.o;rw[hN]at TA;have zzK:=hll.o;subst zzK;have Hsm:=ag TA;have HOo:=ag hOo;have HKW:=ag KW;clear hO TA IY hN hOo KW K;go_wp2_with fail;go_ret;exact⟨⟨o,rfl,l,⟨HOo.o.down Lu.o.size,Hsm.o,FM.o⟩⟩,HKW.o⟩
end
section
variable [Inhabited Bd]
section
variable {w w':ax}{BB B qE mb wb CC nm nw:Nat}{c:ay}{L:List Aa}{W:List zS}{S:Nat->Prop}
def su.qm(h:su w BB B qE mb wb c)(hk:Keep S w w')(hn:¬S BB):su w' BB B qE mb wb c:=hk.heap h hn
def su.rV(h:su w BB B qE mb wb c)(hk:ak w w'):su w' BB B qE mb wb c:=hk.heap h id
def su.lt(h:su w BB B qE mb wb c):BB<w.heap.size:=lt_of_heap h
def su.tK(h:su w BB B qE mb wb c)(d:Nat):su (w.setCell ⟨BB,1,none⟩ (.int .i64 d)) BB B d mb wb c:=wG (i:=1) h _
def su.zzb(h:su w BB B qE mb wb c)(m:Nat):su (w.setCell ⟨BB,2,none⟩ (.map (some m))) BB B qE m wb c:=wG (i:=2) h _
def su.zza(h:su w BB B qE mb wb c)(m:Nat):su (w.setCell ⟨BB,3,none⟩ (.map (some m))) BB B qE mb m c:=wG (i:=3) h _
def su.zy9(h:su w BB B qE mb wb c)(C:Nat):wB (w.setCell ⟨BB,4,none⟩ (.pointer (some ⟨C,0,none⟩))) BB B qE mb wb C:=wG (i:=4) h _
def su.cell0(h:su w BB B qE mb wb c):w.cell? ⟨BB,0,none⟩=some (.pointer (some ⟨B,0,none⟩)):=cellOf h 0 rfl
def su.BH(h:su w BB B qE mb wb c):w.cell? ⟨BB,1,none⟩=some (.int .i64 qE):=cellOf h 1 rfl
def su.zcX(h:su w BB B qE mb wb c):w.cell? ⟨BB,2,none⟩=some (.map (some mb)):=cellOf h 2 rfl
def su.zgg(h:su w BB B qE mb wb c):w.cell? ⟨BB,3,none⟩=some (.map (some wb)):=cellOf h 3 rfl
def su.zsV(h:su w BB B qE mb wb c):w.cell? ⟨BB,4,none⟩=some c:=cellOf h 4 rfl
def su.free(h:su w BB B qE mb wb c)(i:Nat):w.frozen? ⟨BB,i,none⟩=false:=bU h i
def su.other(h:su w BB B qE mb wb c):Gl w (qJ BB):=zjL h ⟨by decide,by decide,by decide,by decide,by decide⟩
def FP.setRow(h:FP w mb wb nm nw L W)(hB:su w BB B qE mb wb c)(hk:Keep (qJ BB) w w'):FP w' mb wb nm nw L W:=h.qm hk hB.other (λe=>h.now.xI hB e) (λe=>h.wait.xI hB e)
def Gz.setRow{zxb C':Nat}(h:Gz w C' zxb L)(hB:su w BB B qE mb wb c)(hk:Keep (qJ BB) w w'):Gz w' C' zxb L:=h.qm hk hB.other
def zkL{w:ax}{base:Nat}{v:ay}{l:List qP}(h:l.map qA=L.map (λp=>qA p.2)):∀x∈l,∃p∈L,qA x=qA p.2:=λx hx=>by have h1:qA x∈l.map qA:=bY.2 ⟨x,hx,rfl⟩;rw[h]at h1;obtain⟨p,hp,e⟩:=bY.1 h1;exact⟨p,hp,e.s⟩
end
end
section
variable [Inhabited Bd]
def FH(BA:loB<=w.heap.size){c0:ay}{L:List Aa}
  (hB:su w BB B qE mb wb c0) (hA:sF w mb nm (wH yL L)) (hI:∀p∈L,yc w p.2) (hs:Ic L):
  ae 43 #[.pointer (some ⟨BB,0,none⟩)] w λe w'=>e= .returned (.tuple #[])∧(∃C,wB w' BB B qE mb wb C∧Gz w' C qE L)∧Keep (qJ BB) w w':=by
 have c1:=hB.BH;have KD:ak w w.drew:=(ah qw w).drew;have hit:=Rn (w:=w.drew) BA (hB.rV KD) (hA.qm KD id) (λp hp=>(hI p hp).qm KD (λ_ _ _ _ h=>h.elim)) hs;have Hit:=ag hit;have HI:=ag hI;have HA:=ag hA;have HB:=ag hB;have rE:=hB.lt;clear hit hI hA hB;go_enter func43,ntmps43;have l1:∀x:wE (λW:ax=>W.cell? ⟨BB,1,none⟩=some (.int .i64 qE)),x.w.cell? ⟨BB,1,none⟩=some (.int .i64 qE):=λx=>x.h;refine qX (λW:ax=>W.cell? ⟨BB,1,none⟩=some (.int .i64 qE)) [(true,0),(true,1),(true,2),(true,3),(true,4),(true,5),(false,6),(false,7),(true,8),(true,9),(false,10)] ?_;simp only[uy,qC,aF,aH,aI]
 repeat(refine qp (λK hK=> ?_);go_simp;(first|refine⟨_,λ_=>rfl,hK _ ?_⟩|refine hK _ ?_);clear hK K)
 refine⟨c1,?_⟩;clear l1;go_wp2_with fail;refine Hit.o.m ?_;rintro e w1 ⟨⟨v,l,rfl,hO⟩,K1⟩;have KW1:ak w w1:=KD.qo K1;have hll:=hO.len;have GI:=zff qE v l w1 hO.items (by rw[hll];exact hs.few) (λx hx=>by obtain⟨p,hp,e⟩:=zkL (w:=w) (base:=0) (v:=v) hO.same x hx;have e2:x.ns=p.2.ns:=dB (λq:sW=>q.2.2) e;rw[e2];exact⟨hs.num p hp,hs.le p hp⟩)
 have zce:=ag GI;have HO:=ag hO;have Lu:=ag KW1;have b1:=(HB.o.rV KW1).BH;clear GI hO KW1 K1 hll c1 Hit;go_wp2_with fail;refine⟨b1,?_⟩;go_wp2_with fail;refine zce.o.m ?_;rintro e w2 ⟨C,cv,bs,rfl,hC,K2⟩;have KW2:=Lu.o.qo K2;have HB2:=HB.o.rV KW2;have b2:=HB2.BH;have b4:=HB2.zsV;have f4:=HB2.free 4;have HCs:=ag hC;have Xo:=ag K2;clear hC K2 zce b1;go_wp2_with fail
 repeat(refine qp (λK hK=> ?_);go_simp;(first|refine⟨_,λ_=>rfl,hK _ ?_⟩|refine hK _ ?_);clear hK K)
 refine⟨b2,?_⟩;go_wp2_with fail;refine bodyPost_end (lQ rfl _ _ _) rfl ?_;have KS:Keep (qJ BB) w2 (w2.setCell ⟨BB,4,none⟩ (.pointer (some ⟨C,0,none⟩))):=(ah _ _).tK 4 _;have hCC:Gz w2 C qE L:=⟨_,_,_,_,HCs.o,λx hx=>(HO.o.yK x hx).qm Xo.o (λ_ _ _ _ h=>h.elim),HO.o.same⟩
 refine⟨rfl,⟨C,HB2.zy9 C,hCC.setRow HB2 KS⟩,KW2.yw.then KS⟩
end
section
variable [Inhabited Bd]
section
variable {w:ax}{BB B qE mb wb CC nm nw:Nat}{L:List Aa}{W:List zS}
def U3(hB:wB w BB B qE mb wb CC):
  ae 19 #[.pointer (some ⟨BB,0,none⟩)] w λe w'=>e= .returned (.tuple #[])∧wB w' BB B qE mb w.heap.size CC∧sF w' w.heap.size 0 []∧Keep (qJ BB) w w':=by
 have b3:=hB.zgg;have f3:=hB.free 3;have rE:=hB.lt;have hmm:= @run_makeMap prog;have KA:ak w (w.alloc (Obj.map #[] 0)):=(ah _ _).alloc _;have b3':=(hB.rV KA).zgg;have f3':=(hB.rV KA).free 3;go_enter func19,ntmps19;go_wp2_with fail;refine bodyPost_end (lQ rfl _ _ _) rfl ?_;have e:(w.setCell ⟨BB,3,none⟩ (.map (some w.heap.size))).heap.size=w.heap.size:=by simp[World.setCell]
 have m1:=sF.made (w.setCell ⟨BB,3,none⟩ (.map (some w.heap.size)));rw[e]at m1;exact⟨rfl,(hB.zza w.heap.size).rV ((ah _ _).alloc _),m1,((ah (qJ BB) w).tK 3 _).qo ((ah _ _).alloc _)⟩
def ziv(hB:wB w BB B qE mb wb CC):
  ae 24 #[.pointer (some ⟨BB,0,none⟩)] w (au (.int .i64 qE) w):=by
 have b1:=hB.BH;go_enter func24,ntmps24;go_wp2_with fail;go_ret;exact⟨rfl,ah _ _⟩
def zfv(BA:loB<=w.heap.size)(d:Int)(hB:wB w BB B 0 mb wb CC)(hA:sF w mb nm (wH yL ([]:List Aa)))(hd:1<=d∧d<=8):
  ae 12 #[.pointer (some ⟨BB,0,none⟩),.int .i64 d] w λe w'=>e= .returned .nilIface∧(∃C,wB w' BB B d.toNat mb wb C∧Gz w' C d.toNat [])∧Keep (qJ BB) w w':=by
 have b1:=hB.BH;have f1:=hB.free 1;obtain⟨q,rfl⟩:∃q:Nat,d=q:=⟨d.toNat,by omega⟩
 have hq:q≠0:=by omega
 have j1:¬(q:Int)<1:=by omega
 have j2:¬(8:Int)<q:=by omega
 have RJ:=hB.tK q;have KS:Keep (qJ BB) w (w.setCell ⟨BB,1,none⟩ (.int .i64 q)):=(ah _ _).tK 1 _;have OL:=FH (bQ BA KS.size) (L:= []) RJ (hA.qm KS (λe=>hA.xI hB e)) (λp hp=>by cases hp) Ic.nil;have RZ:=ag OL;have HKS:=ag KS;clear OL RJ KS;rw[kJ];go_enter func12,ntmps12;go_wp2_with fail;refine RZ.o.m ?_;rintro e w2 ⟨rfl,hC,K2⟩;have HC:=ag hC;have Xo:=ag K2;clear hC K2 RZ;go_wp2_with fail;go_ret;exact⟨rfl,HC.o,HKS.o.then Xo.o⟩
def zbS(d:Int)(hB:wB w BB B qE mb wb CC)(hd:qE≠0):
  ae 12 #[.pointer (some ⟨BB,0,none⟩),.int .i64 d] w (au (qY 6) w):=by
 have b1:=hB.BH;have hn:((qE:Nat):Int)≠0:=by omega
 go_enter func12,ntmps12;go_wp2_with fail;go_ret;exact⟨rfl,ah _ _⟩
def zfu(d:Int)(hB:wB w BB B 0 mb wb CC)(hd:d<1∨8<d):
  ae 12 #[.pointer (some ⟨BB,0,none⟩),.int .i64 d] w (au (qY 1) w):=by
 have b1:=hB.BH;rcases hd with hd|hd
 ·go_enter func12,ntmps12;go_wp2_with fail;go_ret;exact⟨rfl,ah _ _⟩
 ·have j1:¬d<1:=by omega
  go_enter func12,ntmps12;go_wp2_with fail;go_ret;exact⟨rfl,ah _ _⟩
end
end
section
variable [Inhabited Bd]
def zlI{W:List zS}(h:∀p∈W,Ox w p.2.1 (p.2.2.map yL)):(wH Prod.fst W).map (λp=>(p.1,zla w p.2))=wH (Option.map yL) (wV W):=by
 unfold wH wV wH;rw[iy,iy];refine gU λp hp=> ?_;show(p.1,zla w p.2.1)=(p.1,p.2.2.map yL)
 rw[(h p hp).at]
def Uu(L:List Aa)(k:af):zt (wH yL L) k=(uM L k).map yL:=zav yL L k
def zaj(W:List zS)(k:af)(v:ay)(o:Option qP):zdW (wH Prod.fst W) k v=wH Prod.fst (yQ W k (v,o)):=by rw[<-zi0];exact Pm Prod.fst W k (v,o)
def zlJ(W:List zS)(k:af)(v:ay)(o:Option qP):wV (yQ W k (v,o))=yQ (wV W) k o:=(Pm Prod.snd W k (v,o)).s
def zaW(W:List zS)(k:af)(v:ay)(o:Option qP):Sm (yQ W k (v,o))=yQ (Sm W) k (o.map qA):=by unfold Sm;rw[zlJ];exact(Pm (Option.map qA) (wV W) k o).s
def Ih{α β:Type}(f:α->β)(L:List (af×α)):(wH f L).length=L.length:=aP ..
def zgV{α β:Type}{f:α->β}{L:List (af×α)}{p:af×β}(h:p∈wH f L):∃q∈L,p=(q.1,f q.2):=by obtain⟨q,hq,rfl⟩:=bY.1 h;exact⟨q,hq,rfl⟩
def We{L:List Aa}{W:List zS}(R:FP w mb wb nm nw L W):∀p∈uY L (wV W),yc w p.2:=
 Wj (λ_ x=>yc w x) (wV W) (λp hp=>R.items p hp) (λp hp x hx=>by obtain⟨q,hq,rfl⟩:=zgV hp;exact(R.waits q hq).2 x hx)
end
section
variable [Inhabited Bd]
section
variable {w:ax}{BB B qE mb wb CC nm nw:Nat}{L:List Aa}{W:List zS}
def JK(hB:wB w BB B qE mb wb CC)(R:FP w mb wb nm nw L W)(TA:nm+nw<1000000):
  ae 47 #[.pointer (some ⟨BB,0,none⟩)] w λe w'=>∃n,n<=nm+nw∧e= .returned (.map (some w.heap.size))∧sF w' w.heap.size n (wH yL (uY L (wV W)))∧ak w w':=by
 have hl:=R.wait.len;rw[Ih]at hl;refine(zft (zla w) (λw' h=>zfp h) hB R.now R.wait (λp hp=> ?_) (by rw[Ih];omega)).m ?_
 ·obtain⟨q,hq,rfl⟩:=zgV hp;have h:=(R.waits q hq).1;show Ox w q.2.1 (zla w q.2.1);rw[h.at];exact h
 ·rintro e w' ⟨n,hn,he,hm,K⟩;rw[Ih]at hn;refine⟨n,by omega,he,zl9 hm ?_,K⟩;rw[zlI (λp hp=>(R.waits p hp).1),zqk]
end
section
variable {w:ax}{BB B qE mb wb CC nm nw:Nat}{L:List Aa}{W:List zS}
def zcK(x:qP)(hB:wB w BB B 0 mb wb CC):
  ae 14 #[.pointer (some ⟨BB,0,none⟩),yL x] w (au (qY 6) w):=by
 have KA:ak w (w.alloc (.cells (rC x).toArray 45)):=(ah _ _).alloc _;have b1:=(hB.rV KA).BH;unfold yL;obtain⟨nm,tg,av,ns⟩:=x;simp only[rC]at KA b1⊢;go_enter func14,ntmps14;go_wp2_with fail;go_ret;exact⟨rfl,KA⟩
def ziT(BB X qE:Nat)(a b c:ay)(W:ax):Prop:=W.cell? ⟨BB,1,none⟩=some (.int .i64 qE)∧W.cell? ⟨X,0,none⟩=some a∧W.cell? ⟨X,1,none⟩=some b∧W.cell? ⟨X,2,none⟩=some c
def zfO(BB X wb:Nat)(a:ay)(W:ax):Prop:=W.cell? ⟨BB,3,none⟩=some (.map (some wb))∧W.cell? ⟨X,0,none⟩=some a
def Ah(w w':ax)(qE wb nw:Nat)(L:List Aa)(W:List zS)(x:qP)(e:Ending):Prop:=
 if OV x qE=false then e= .returned (qY 1)∧ak w w'
 else if uM (uY L (wV W)) x.name=none∧(uY L (wV W)).length=60 then e= .returned (qY 12)∧ak w w'
 else e= .returned .nilIface∧Keep (qJ wb) w w'∧∃X av,w.heap.size<=X∧sF w' wb (nw+1) (wH Prod.fst (yQ W x.name (.pointer (some ⟨X,0,none⟩),some ⟨x.name,x.tag,av,x.ns⟩)))∧w'.heap[X]? =some (.cells (rC ⟨x.name,x.tag,av,x.ns⟩).toArray 45 (0,0))∧yc w' ⟨x.name,x.tag,av,x.ns⟩
def Ah.arg{w:ax}(h:OV x qE=false)(he:e= .returned (qY 1))(K:ak w w'):Ah w w' qE wb nw L W x e:=by unfold Ah;rw[bu h];exact⟨he,K⟩
def Ah.full{w:ax}{NX:List Aa}(hN:NX=uY L (wV W))(h:OV x qE=true)(h1:uM NX x.name=none)(h2:NX.length=60)(he:e= .returned (qY 12))(K:ak w w'):Ah w w' qE wb nw L W x e:=by subst hN;unfold Ah;rw[aV (by rw[h];decide),bu ⟨h1,h2⟩];exact⟨he,K⟩
def Ah.ok{w:ax}{NX:List Aa}(hN:NX=uY L (wV W))(h:OV x qE=true)(h1:¬(uM NX x.name=none∧NX.length=60))(he:e= .returned .nilIface∧Keep (qJ wb) w w'∧∃X av,w.heap.size<=X∧sF w' wb (nw+1) (wH Prod.fst (yQ W x.name (.pointer (some ⟨X,0,none⟩),some ⟨x.name,x.tag,av,x.ns⟩)))∧w'.heap[X]? =some (.cells (rC ⟨x.name,x.tag,av,x.ns⟩).toArray 45 (0,0))∧yc w' ⟨x.name,x.tag,av,x.ns⟩):Ah w w' qE wb nw L W x e:=by subst hN;unfold Ah;rw[aV (by rw[h];decide),aV h1];exact he
def ziu(BA:loB<=w.heap.size)(x:qP)(N:vM w x.av x.ns)(hl:x.ns.length<=1000000)(hB:wB w BB B qE mb wb CC)(hR:FP w mb wb nm nw L W)(TA:nm+nw<1000000)(hd:qE≠0):
  ae 14 #[.pointer (some ⟨BB,0,none⟩),yL x] w λe w'=>Ah w w' qE wb nw L W x e:=by
 have QV:=Rk x qE ((w.alloc (.cells (rC x).toArray 45)).drew) (N.qm (((ah qw w).alloc _).drew) (λ_ _ x=>x)) hl;have Bl:=N.len;unfold yL;obtain⟨nn,tg,av,ns⟩:=x;simp only[rC]at QV Bl⊢;obtain⟨pa,ca,rfl⟩:=Bl;have KA:ak w (w.alloc (.cells #[.string nn,.string tg,.slice pa ns.length ca] 45)):=(ah _ _).alloc _;have b1:=(hB.rV KA).BH;have n0:((qE:Nat):Int)≠0:=by omega
 have hX:=aQ w (.cells #[.string nn,.string tg,.slice pa ns.length ca] 45);obtain⟨R,hRR⟩:=aj (OV ⟨nn,tg,.slice pa ns.length ca,ns⟩ qE);rw[<-hRR]at QV;have zv9:R=true->0<ns.length∧ns.length<=8∧nn.size<=1000:=by intro h;rw[h]at hRR;have h2:=hRR.s;simp only[OV,zF,bI,aW]at h2;omega
 obtain⟨nl,CV⟩:=aj ns.length;rw[<-CV]at QV KA b1 hX⊢;obtain⟨X,hXX⟩:=aj w.heap.size;obtain⟨wa,YP⟩:=aj (w.alloc (.cells #[.string nn,.string tg,.slice pa nl ca] 45));have Ot:=ag CV;have HRR:=ag hRR;have zur:=ag zv9;clear CV hRR zv9;go_enter func14,ntmps14;go_wp2_with fail;rw[<-YP]at b1 QV KA hX;rw[<-hXX]at hX;rw[<-YP,<-hXX];have Hri:=ag QV;have HKA:=ag KA;have HXX:=ag hXX;have HX:=ag hX;have c0:wa.cell? ⟨X,0,none⟩=some (.string nn):=cellOf hX 0 rfl;have c1:wa.cell? ⟨X,1,none⟩=some (.string tg):=cellOf hX 1 rfl;have c2:wa.cell? ⟨X,2,none⟩=some (.slice pa nl ca):=cellOf hX 2 rfl;clear YP hXX QV KA hX;have L1:ziT BB X qE (.string nn) (.string tg) (.slice pa nl ca) wa:=⟨b1,c0,c1,c2⟩
 have l1:∀x:wE (ziT BB X qE (.string nn) (.string tg) (.slice pa nl ca)),x.w.cell? ⟨BB,1,none⟩=some (.int .i64 qE):=λx=>x.h.1;have l2:∀x:wE (ziT BB X qE (.string nn) (.string tg) (.slice pa nl ca)),x.w.cell? ⟨X,0,none⟩=some (.string nn):=λx=>x.h.2.1;have l3:∀x:wE (ziT BB X qE (.string nn) (.string tg) (.slice pa nl ca)),x.w.cell? ⟨X,1,none⟩=some (.string tg):=λx=>x.h.2.2.1;have l4:∀x:wE (ziT BB X qE (.string nn) (.string tg) (.slice pa nl ca)),x.w.cell? ⟨X,2,none⟩=some (.slice pa nl ca):=λx=>x.h.2.2.2;refine qX (ziT BB X qE (.string nn) (.string tg) (.slice pa nl ca)) [(true,0),(true,1),(true,2),(true,3),(true,4),(false,5),(true,6),(false,7)] ?_;simp only[uy,qC,aF,aH,aI]
 repeat(refine qp (λK hK=> ?_);go_simp;(first|refine⟨_,λ_=>rfl,hK _ ?_⟩|refine hK _ ?_);clear hK K)
 refine⟨L1,?_⟩;clear l1 l2 l3 l4;go_wp2_with fail;refine Hri.o.m ?_;rintro e w1 ⟨rfl,K1⟩;have KW1:ak w w1:=(HKA.o.drew).qo K1;have KX1:ak wa w1:=((ah qw wa).drew).qo K1;have L2:ziT BB X qE (.string nn) (.string tg) (.slice pa nl ca) w1:=⟨(KX1.cell (p:=⟨BB,1,none⟩) (Lib.lt_of_cell b1) id).t b1,(KX1.cell (p:=⟨X,0,none⟩) (Lib.lt_of_cell c0) id).t c0,(KX1.cell (p:=⟨X,1,none⟩) (Lib.lt_of_cell c1) id).t c1,(KX1.cell (p:=⟨X,2,none⟩) (Lib.lt_of_cell c2) id).t c2⟩
 have zqZ:=ag KW1;have HL2:=ag L2;have HX1:=ag (KX1.heap HX.o id);clear L1 L2 KX1 KW1 K1 Hri b1 c0 c1 c2 HX;cases R with
 | false=>
  go_wp2_with fail
  repeat(refine qp (λK hK=> ?_);go_simp;(first|refine⟨_,λ_=>rfl,hK _ ?_⟩|refine hK _ ?_);clear hK K)
  refine⟨HL2.o,?_⟩;go_wp2_with fail;go_ret;exact Ah.arg HRR.o.s rfl zqZ.o
 | true=>
  have hB1:=hB.rV zqZ.o;have hR1:=hR.rV zqZ.o;have Bl:=JK hB1 hR1 TA;have IE:=hR.wait;have JS:=ag Bl;have HB:=ag hB;have HR:=ag hR;clear hB1 hR1 Bl hB hR;go_wp2_with fail
  repeat(refine qp (λK hK=> ?_);go_simp;(first|refine⟨_,λ_=>rfl,hK _ ?_⟩|refine hK _ ?_);clear hK K)
  refine⟨HL2.o,?_⟩;go_wp2_with fail;refine JS.o.m ?_;rintro e w2 ⟨na,hna,rfl,hA,K2⟩;have TL:=ag (zqZ.o.qo K2);have HX2:=ag (K2.heap HX1.o id);obtain⟨nb,GG⟩:=aj w1.heap.size;rw[<-GG]at hA⊢;have ztH:nn.size<=maxLen:=by have:=(zur.o (by first|rfl|trivial)).2.2;unfold maxLen;omega
  obtain⟨NX,hNX⟩:=aj (uY L (wV W));have hnn:=We HR.o;rw[<-hNX]at hA hnn;obtain⟨T,hT⟩:=aj ((uM NX nn).isSome);obtain⟨a0,a1,p2,n2,cc2,hu⟩:∃a0 a1 p2 n2 cc2,(zt (wH yL NX) nn).getD (.agg #[.string ⟨#[]⟩,.string ⟨#[]⟩,.slice none 0 0])= .agg #[.string a0,.string a1,.slice p2 n2 cc2]:=by
   rw[Uu];cases hg:uM NX nn with
   | none=>exact⟨_,_,_,_,_,rfl⟩
   | some y=>
    obtain⟨p3,c3,h3⟩:=(hnn _ (Un hg)).1.len;exact⟨y.name,y.tag,p3,_,c3,by rw[gW,nN,yL,rC,h3]⟩
  have NS:=hA.look_ok iP nn ztH (oW w2);rw[hu,Uu,Option.isSome_map,<-hT]at NS;have hA3:=hA.qm ((ah qw w2).alloc (.cells #[.string a0,.string a1,.slice p2 n2 cc2] 45)) id;have hlen:=λty=>hA3.size iP ty;obtain⟨m,hm⟩:=aj NX.length;rw[Ih,<-hm]at hlen;have d0:w2.cell? ⟨X,0,none⟩=some (.string nn):=cellOf HX2.o 0 rfl;have HNX:=ag hNX;have HT:=ag hT;have Hm:=ag hm;clear hNX hT hm hu hnn hA hA3 GG K2 JS IE;cases T with
  | true=>
   have hHC:¬(uM NX nn=none∧NX.length=60):=by
    rintro⟨h1,h2⟩;have h3:=HT.o;have h4:=Hm.o;rw[h1]at h3
    first|exact H60.o (h4.t h2)|cases h3
   have HC:=ag hHC;clear hHC;go_upto_region 9 with(fail)
   have KZ:ak w2 (w2.alloc (.cells #[.string a0,.string a1,.slice p2 n2 cc2] 45)):=(ah _ _).alloc _;obtain⟨Z,hZ⟩:=aj w2.heap.size;obtain⟨wz,Yv⟩:=aj (w2.alloc (.cells #[.string a0,.string a1,.slice p2 n2 cc2] 45));rw[<-Yv]at KZ;have HXz:=KZ.heap HX2.o id;have KWZ:=TL.o.qo KZ;have Nz:=N.qm KWZ (λ_ _ x=>x);have GG:=zur.o (by first|rfl|trivial);have Ce:=JI Nz GG.1 (by omega);rw[<-Ot.o]at Ce;have z2:wz.cell? ⟨X,2,none⟩=some (.slice pa nl ca):=cellOf HXz 2 rfl;rw[<-Yv,<-hZ];have Hcl:=ag Ce;have HXZ:=ag HXz;have znE:=ag KWZ;clear Yv hZ KZ Nz Ce HXz KWZ hlen NS d0;go_wp2_with fail;refine Hcl.o.m ?_;rintro e w3 ⟨v3,rfl,O3,K3⟩;obtain⟨ps,cs,hps⟩:=yJ O3;subst hps;have Rz:=K3.heap HXZ.o id;have y2:w3.cell? ⟨X,2,none⟩=some (.slice pa nl ca):=cellOf Rz 2 rfl;have f2:w3.frozen? ⟨X,2,none⟩=false:=bU Rz 2;have HX4:(w3.setCell ⟨X,2,none⟩ (.slice ps nl cs)).heap[X]? =some (.cells #[.string nn,.string tg,.slice ps nl cs] 45 (0,0)):=wG (i:=2) Rz _;have K4:Keep (qJ X) w3 (w3.setCell ⟨X,2,none⟩ (.slice ps nl cs)):=(ah _ _).tK 2 _;have KW3:=znE.o.qo K3;have zfJ:w.heap.size<=X:=by rw[HXX.o];exact aS _
   have hN3:yc w3 ⟨nn,tg,.slice ps nl cs,ns⟩:=⟨J7 (by rw[<-Ot.o];exact O3),S9 O3 (bQ BA znE.o.size)⟩
   have hN4:=hN3.qm K4 (λb c t f hb hh=>by have h1:b=X:=hb;subst h1;rw[rD hh Rz];decide)
   have KW4:ak w (w3.setCell ⟨X,2,none⟩ (.slice ps nl cs)):=(KW3.yw (S:=qJ X)).then K4|>.m (λi hi h=>by have h1:i=X:=h;omega);have HN4:=ag hN4;have ZC:=ag KW4;have HX4:=ag HX4;obtain⟨w4,LC⟩:=aj (w3.setCell ⟨X,2,none⟩ (.slice ps nl cs));rw[<-LC]at HN4 ZC HX4;have Hw4:=ag LC;clear LC O3 K3 Rz K4 KW3 hN3 hN4 KW4 Hcl z2;go_upto_region 10 with(fail)
   rw[<-Hw4.o];clear y2 f2 Hw4;have L4:zfO BB X wb (.string nn) w4:=⟨(HB.o.rV ZC.o).zgg,cellOf HX4.o 0 rfl⟩
   have l1:∀x:wE (zfO BB X wb (.string nn)),x.w.cell? ⟨BB,3,none⟩=some (.map (some wb)):=λx=>x.h.1;have l2:∀x:wE (zfO BB X wb (.string nn)),x.w.cell? ⟨X,0,none⟩=some (.string nn):=λx=>x.h.2;refine qX (zfO BB X wb (.string nn)) [(true,0),(true,1),(true,2),(true,3),(true,4),(true,5),(false,6)] ?_;simp only[uy,qC,aF,aH,aI]
   repeat(refine qp (λK hK=> ?_);go_simp;(first|refine⟨_,λ_=>rfl,hK _ ?_⟩|refine hK _ ?_);clear hK K)
   refine⟨L4,?_⟩;clear l1 l2;have KD:ak w4 w4.drew:=(ah qw w4).drew;have hnw:nw<maxLen:=by unfold maxLen;omega
   obtain⟨w5,hup,Xe,K5⟩:=((HR.o.wait.qm ZC.o id).qm KD id).update oh hnw nn ztH (.pointer (some ⟨X,0,none⟩));rw[zaj W nn (.pointer (some ⟨X,0,none⟩)) (some ⟨nn,tg,.slice ps nl cs,ns⟩)]at Xe;have Hm5:=ag Xe;have HK5:=ag K5;clear Xe K5 KD L4;go_wp2_with fail;go_ret;have IE:=HR.o.wait;have ztJ:X≠wb:=λe=>by have h1:=IE.lt;have h2:=HXX.o;omega
   refine Ah.ok HNX.o HRR.o.s HC.o ⟨rfl,(ZC.o.drew.yw).then HK5.o,X,.slice ps nl cs,by rw[HXX.o];exact aS _,Hm5.o,?_,?_⟩
   ·exact HK5.o.heap (show w4.drew.heap[X]? =_ from HX4.o) ztJ
   refine(HN4.o.qm ((ah qw w4).drew) (λ_ _ _ _ h=>h.elim)).qm HK5.o (λb c t f hb hh=> ?_);have h1:b=wb:=hb;subst h1;exact absurd rfl (((IE.qm ZC.o id).qm ((ah qw w4).drew) id).xI hh)
  | false=>
   by_cases h60:m=60
   ·have j60:(m:Int)=60:=by omega
    have H60:=ag h60;clear h60;go_wp2_with fail;go_ret;have hg:uM NX nn=none:=by
     have h3:=HT.o;cases hx:uM NX nn with
     | none=>rfl
     | some y=>rw[hx]at h3;cases h3
    exact Ah.full HNX.o HRR.o.s hg (Hm.o.s.t H60.o) rfl (TL.o.qo ((ah _ _).alloc _))
   have j60:¬(m:Int)=60:=by omega
   have H60:=ag h60;clear h60;have hHC:¬(uM NX nn=none∧NX.length=60):=by
    rintro⟨h1,h2⟩;have h3:=HT.o;have h4:=Hm.o;rw[h1]at h3
    first|exact H60.o (h4.t h2)|cases h3
   have HC:=ag hHC;clear hHC;go_upto_region 9 with(fail)
   have KZ:ak w2 (w2.alloc (.cells #[.string a0,.string a1,.slice p2 n2 cc2] 45)):=(ah _ _).alloc _;obtain⟨Z,hZ⟩:=aj w2.heap.size;obtain⟨wz,Yv⟩:=aj (w2.alloc (.cells #[.string a0,.string a1,.slice p2 n2 cc2] 45));rw[<-Yv]at KZ;have HXz:=KZ.heap HX2.o id;have KWZ:=TL.o.qo KZ;have Nz:=N.qm KWZ (λ_ _ x=>x);have GG:=zur.o (by first|rfl|trivial);have Ce:=JI Nz GG.1 (by omega);rw[<-Ot.o]at Ce;have z2:wz.cell? ⟨X,2,none⟩=some (.slice pa nl ca):=cellOf HXz 2 rfl;rw[<-Yv,<-hZ];have Hcl:=ag Ce;have HXZ:=ag HXz;have znE:=ag KWZ;clear Yv hZ KZ Nz Ce HXz KWZ hlen NS d0;go_wp2_with fail;refine Hcl.o.m ?_;rintro e w3 ⟨v3,rfl,O3,K3⟩;obtain⟨ps,cs,hps⟩:=yJ O3;subst hps;have Rz:=K3.heap HXZ.o id;have y2:w3.cell? ⟨X,2,none⟩=some (.slice pa nl ca):=cellOf Rz 2 rfl;have f2:w3.frozen? ⟨X,2,none⟩=false:=bU Rz 2;have HX4:(w3.setCell ⟨X,2,none⟩ (.slice ps nl cs)).heap[X]? =some (.cells #[.string nn,.string tg,.slice ps nl cs] 45 (0,0)):=wG (i:=2) Rz _;have K4:Keep (qJ X) w3 (w3.setCell ⟨X,2,none⟩ (.slice ps nl cs)):=(ah _ _).tK 2 _;have KW3:=znE.o.qo K3;have zfJ:w.heap.size<=X:=by rw[HXX.o];exact aS _
   have hN3:yc w3 ⟨nn,tg,.slice ps nl cs,ns⟩:=⟨J7 (by rw[<-Ot.o];exact O3),S9 O3 (bQ BA znE.o.size)⟩
   have hN4:=hN3.qm K4 (λb c t f hb hh=>by have h1:b=X:=hb;subst h1;rw[rD hh Rz];decide)
   have KW4:ak w (w3.setCell ⟨X,2,none⟩ (.slice ps nl cs)):=(KW3.yw (S:=qJ X)).then K4|>.m (λi hi h=>by have h1:i=X:=h;omega);have HN4:=ag hN4;have ZC:=ag KW4;have HX4:=ag HX4;obtain⟨w4,LC⟩:=aj (w3.setCell ⟨X,2,none⟩ (.slice ps nl cs));rw[<-LC]at HN4 ZC HX4;have Hw4:=ag LC;clear LC O3 K3 Rz K4 KW3 hN3 hN4 KW4 Hcl z2;go_upto_region 10 with(fail)
   rw[<-Hw4.o];clear y2 f2 Hw4;have L4:zfO BB X wb (.string nn) w4:=⟨(HB.o.rV ZC.o).zgg,cellOf HX4.o 0 rfl⟩
   have l1:∀x:wE (zfO BB X wb (.string nn)),x.w.cell? ⟨BB,3,none⟩=some (.map (some wb)):=λx=>x.h.1;have l2:∀x:wE (zfO BB X wb (.string nn)),x.w.cell? ⟨X,0,none⟩=some (.string nn):=λx=>x.h.2;refine qX (zfO BB X wb (.string nn)) [(true,0),(true,1),(true,2),(true,3),(true,4),(true,5),(false,6)] ?_;simp only[uy,qC,aF,aH,aI]
   repeat(refine qp (λK hK=> ?_);go_simp;(first|refine⟨_,λ_=>rfl,hK _ ?_⟩|refine hK _ ?_);clear hK K)
   refine⟨L4,?_⟩;clear l1 l2;have KD:ak w4 w4.drew:=(ah qw w4).drew;have hnw:nw<maxLen:=by unfold maxLen;omega
   obtain⟨w5,hup,Xe,K5⟩:=((HR.o.wait.qm ZC.o id).qm KD id).update oh hnw nn ztH (.pointer (some ⟨X,0,none⟩));rw[zaj W nn (.pointer (some ⟨X,0,none⟩)) (some ⟨nn,tg,.slice ps nl cs,ns⟩)]at Xe;have Hm5:=ag Xe;have HK5:=ag K5;clear Xe K5 KD L4;go_wp2_with fail;go_ret;have IE:=HR.o.wait;have ztJ:X≠wb:=λe=>by have h1:=IE.lt;have h2:=HXX.o;omega
   refine Ah.ok HNX.o HRR.o.s HC.o ⟨rfl,(ZC.o.drew.yw).then HK5.o,X,.slice ps nl cs,by rw[HXX.o];exact aS _,Hm5.o,?_,?_⟩
   ·exact HK5.o.heap (show w4.drew.heap[X]? =_ from HX4.o) ztJ
   refine(HN4.o.qm ((ah qw w4).drew) (λ_ _ _ _ h=>h.elim)).qm HK5.o (λb c t f hb hh=> ?_);have h1:b=wb:=hb;subst h1;exact absurd rfl (((IE.qm ZC.o id).qm ((ah qw w4).drew) id).xI hh)
def Zj(w w':ax)(wb nw:Nat)(L:List Aa)(W:List zS)(k:af)(e:Ending):Prop:=
 if uM (uY L (wV W)) k=none then e= .returned (qY 7)∧ak w w'
 else e= .returned .nilIface∧Keep (qJ wb) w w'∧sF w' wb (nw+1) (wH Prod.fst (yQ W k (.pointer none,none)))
def ziw(k:af)(hk:k.size<=maxLen)(hB:wB w BB B qE mb wb CC)(hR:FP w mb wb nm nw L W)(TA:nm+nw<1000000):
  ae 16 #[.pointer (some ⟨BB,0,none⟩),.string k] w λe w'=>Zj w w' wb nw L W k e:=by
 have Bl:=JK hB hR TA;have JS:=ag Bl;clear Bl;go_enter func16,ntmps16;go_wp2_with fail;refine JS.o.m ?_;rintro e w2 ⟨na,hna,rfl,hA,K2⟩;obtain⟨nb,GG⟩:=aj w.heap.size;rw[<-GG]at hA⊢;obtain⟨NX,hNX⟩:=aj (uY L (wV W));have hnn:=We hR;rw[<-hNX]at hA hnn;obtain⟨T,hT⟩:=aj ((uM NX k).isSome);obtain⟨a0,a1,p2,n2,cc2,hu⟩:∃a0 a1 p2 n2 cc2,(zt (wH yL NX) k).getD (.agg #[.string ⟨#[]⟩,.string ⟨#[]⟩,.slice none 0 0])= .agg #[.string a0,.string a1,.slice p2 n2 cc2]:=by
  rw[Uu];cases hg:uM NX k with
  | none=>exact⟨_,_,_,_,_,rfl⟩
  | some y=>
   obtain⟨p3,c3,h3⟩:=(hnn _ (Un hg)).1.len;exact⟨y.name,y.tag,p3,_,c3,by rw[gW,nN,yL,rC,h3]⟩
 have NS:=hA.look_ok iP k hk (oW w2);rw[hu,Uu,Option.isSome_map,<-hT]at NS;have HNX:=ag hNX;have HT:=ag hT;have HB:=ag hB;have HR:=ag hR;have KZ:ak w2 (w2.alloc (.cells #[.string a0,.string a1,.slice p2 n2 cc2] 45)):=(ah _ _).alloc _;have KW:=K2.qo KZ;have b3:=(hB.rV KW).zgg;have hnw:nw<maxLen:=by unfold maxLen;omega
 obtain⟨w5,hup,Xe,K5⟩:=(hR.wait.qm KW id).update oh hnw k hk (.pointer none);rw[zaj W k (.pointer none) none]at Xe;have Hm5:=ag Xe;have HK5:=ag K5;have HKW:=ag KW;clear hNX hT hu hnn hA GG K2 JS hB hR Xe K5 KZ KW;cases T with
 | false=>
  go_wp2_with fail;go_ret;have hg:uM NX k=none:=by
   have h3:=HT.o;cases hx:uM NX k with
   | none=>rfl
   | some y=>rw[hx]at h3;cases h3
  unfold Zj;rw[<-HNX.o,bu hg];exact⟨rfl,HKW.o⟩
 | true=>
  go_wp2_with fail;go_ret;have hg:uM NX k≠none:=by intro hx;have h3:=HT.o;rw[hx]at h3;cases h3
  unfold Zj;rw[<-HNX.o,aV hg];exact⟨rfl,HKW.o.yw.then HK5.o,Hm5.o⟩
end
end
section
variable [Inhabited Bd]
def zfW(tag:af)(x:sW):Bool:=decide (tag=⟨#[]⟩)||decide (x.2.1=tag)
def zeo(at_:List Int)(x:sW):sJ:=(x.1,TF x.2.2 at_)
def zk5(l:List sW)(at_:List Int)(k:Int)(tag:af):List sJ:=(vC ((l.filter (zfW tag)).map (zeo at_))).take k.toNat
def zoj(l:List qP)(at_:List Int)(k:Int)(tag:af):xg l at_ k tag=zk5 (l.map qA) at_ k tag:=by unfold xg zk5 uo;rw[mM,iy];rfl
end
section
open Go.Sort Go.Shelf
variable [Inhabited Bd]
def Ew(w w':ax)(qE:Nat)(l:List sW)(at_:List Int)(k:Int)(tag:af)(e:Ending):Prop:=
 if qE=0 then e= .returned (.tuple #[.slice none 0 0,.int .i64 0,qY 6])
 else if EI qE at_ k=false then e= .returned (.tuple #[.slice none 0 0,.int .i64 0,qY 1])
 else∃(v':ay) (looked:Nat),e= .returned (.tuple #[v',.int .i64 looked,.nilIface])∧uT w' v' 2 xw (zk5 l at_ k tag)∧looked<=l.length∧∀b,v'.ownBlock=some b->w.heap.size<=b
def zfo(s:af)(hs:s.size<=1000000)(w:ax):ae 74 #[.string s] w (au (.string s) w):=by have hc:=stringslite_Clone s w (by omega);have Hc:=ag hc;clear hc;go_enter func74,ntmps74;go_wp2_with fail;refine Hc.o.m ?_;rintro e w1 ⟨rfl,hb⟩;go_wp2_with fail;go_ret;exact⟨rfl,Keep.Em hb⟩
def zgo(BB CC:Nat)(W:ax):Prop:=W.cell? ⟨BB,4,none⟩=some (.pointer (some ⟨CC,0,none⟩))
section
variable {w:ax}{BB B qE mb wb CC nm nw:Nat}{L:List Aa}
def zbT(hB:wB w BB B 0 mb wb CC)(va:ay)(k:Int)(tag:af):
  ae 29 #[.pointer (some ⟨BB,0,none⟩),va,.int .i64 k,.string tag] w (au (.tuple #[.slice none 0 0,.int .i64 0,qY 6]) w):=by
 have b1:=hB.BH;go_enter func29,ntmps29;go_wp2_with fail
 go_ret3
 exact⟨rfl,ah _ _⟩
def Yr(hB:wB w BB B qE mb wb CC)(hd:qE≠0)(va:ay)(k:Int)(tag:af)(ht:tag.size<=1000000)(R:ax->ay->ay->ay->Prop)
  (hT:∀W,ak w W->ae 73 #[.pointer (some ⟨CC,0,none⟩),va,.int .i64 k,.string tag] W λe w'=>∃a b c,e= .returned (.tuple #[a,b,c])∧R w' a b c∧ak W w'):
  ae 29 #[.pointer (some ⟨BB,0,none⟩),va,.int .i64 k,.string tag] w λe w'=>∃a b c,e= .returned (.tuple #[a,b,c])∧R w' a b c∧ak w w':=by
 have b1:=hB.BH;have b4:zgo BB CC w:=hB.zsV;have rE:=hB.lt;have n0:((qE:Nat):Int)≠0:=by omega
 have HT:=ag hT;clear hT;go_enter func29,ntmps29;go_wp2_with fail;have l1:∀x:wE (zgo BB CC),x.w.cell? ⟨BB,4,none⟩=some (.pointer (some ⟨CC,0,none⟩)):=λx=>x.h;refine qX (zgo BB CC) [(true,0),(true,1),(true,2),(true,3),(true,4),(true,5),(true,6),(false,7),(false,8),(true,9),(true,10),(true,11),(true,12),(true,13),(false,14)] ?_;simp only[uy,qC,aF,aH,aI]
 repeat(refine qp (λK hK=> ?_);go_simp;(first|refine⟨_,λ_=>rfl,hK _ ?_⟩|refine hK _ ?_);clear hK K)
 clear l1;refine⟨b4,?_⟩;go_wp2_with fail;refine(zfo tag ht _).m ?_;rintro e w1 ⟨rfl,K1⟩;have KW1:ak w w1:=((ah qw w).drew).qo K1;have b4':zgo BB CC w1:=(KW1.cell (p:=⟨BB,4,none⟩) rE id).t b4;go_wp2_with fail;refine⟨b4',?_⟩;go_wp2_with fail;refine(HT.o _ KW1).m ?_;rintro e w2 ⟨x0,x1,x2,rfl,hR,K2⟩;have zAp:zgo BB CC w2:=(K2.cell (p:=⟨BB,4,none⟩) (dH rE KW1.size) id).t b4';have HRR:=ag hR;have HK:=ag (KW1.qo K2);clear hR K2 K1 KW1 HT;go_wp2_with fail
 repeat(refine qp (λK hK=> ?_);go_simp;(first|refine⟨_,λ_=>rfl,hK _ ?_⟩|refine hK _ ?_);clear hK K)
 refine⟨zAp,?_⟩;go_wp2_with fail
 go_ret3
 exact⟨_,_,_,rfl,HRR.o,HK.o⟩
def zfw(hB:wB w BB B qE mb wb CC)(hC:Gz w CC qE L)(hl:L.length<=1000)(hd8:qE<=8)(hL:∀p∈L,DW p.2.ns∧p.2.ns.length=qE){va:ay}{at_:List Int}(N:vM w va at_)(ha:at_.length<=1000000)(k:Int)(tag:af)(ht:tag.size<=1000000):
  ae 29 #[.pointer (some ⟨BB,0,none⟩),va,.int .i64 k,.string tag] w λe w'=>Ew w w' qE (L.map λp=>qA p.2) at_ k tag e∧ak w w':=by
 by_cases h0:qE=0
 ·subst h0;refine(zbT hB va k tag).m ?_;rintro e w' ⟨rfl,K⟩;exact⟨by unfold Ew;rw[bu rfl],K⟩
 obtain⟨base,cv,bs,l,VH,FM,IY⟩:=hC.cells;have hll:l.length=L.length:=by have:=dB List.length IY;simpa using this
 cases zd9:EI qE at_ k with
 | false=>
  refine(Yr hB h0 va k tag ht (λw' a b c=>a= .slice none 0 0∧b= .int .i64 0∧c=qY 1) (λW K=> ?_)).m ?_
  ·refine(zil CC qE cv va at_ k tag W (K.heap VH.head id) (N.qm K (λ_ _ x=>x)) ha zd9).m ?_;rintro e w' ⟨he,rfl⟩;exact⟨_,_,_,he,⟨rfl,rfl,rfl⟩,ah _ _⟩
  rintro e w' ⟨a,b,c,rfl,⟨rfl,rfl,rfl⟩,K⟩;refine⟨?_,K⟩;unfold Ew;rw[aV h0,bu zd9]
 | true=>
  have hq:=zd9;simp only[EI,bI,aW,eU]at hq;have NU:DW at_:=by intro n hn;have h1:=hq.1.1.2;rw[jT]at h1;have:=h1 n hn;simp only[CY,fA,aW,not_or]at this;omega
  have hA:zgp l at_ qE:=⟨NU,by omega,hd8,λx hx=>by obtain⟨p,hp,e⟩:=zkL (w:=w) (base:=0) (v:=va) IY x hx;have e2:x.ns=p.2.ns:=dB (λq:sW=>q.2.2) e;rw[e2];exact hL p hp⟩
  refine(Yr hB h0 va k tag ht (λw' a b c=>∃looked:Nat,b= .int .i64 looked∧c= .nilIface∧uT w' a 2 xw (xg l at_ k tag)∧looked<=l.length∧∀b,a.ownBlock=some b->w.heap.size<=b) (λW K=> ?_)).m ?_
  ·refine(zfq CC qE cv va bs _ l at_ k tag base W (VH.rV K) (zdO l) hA (N.qm K (λ_ _ x=>x)) (λx hx=>((FM x hx).qm K (λ_ _ _ _ h=>h.elim)).1) (by omega) zd9).m ?_;rintro e w' ⟨v',looked,he,hr,NS,hnw,K2⟩;exact⟨_,_,_,he,⟨looked,rfl,rfl,hr,NS,λb hb=>bQ K.size (hnw b hb)⟩,K2⟩
  rintro e w' ⟨a,b,c,rfl,⟨looked,rfl,rfl,hr,NS,hnw⟩,K⟩;refine⟨?_,K⟩;unfold Ew;rw[aV h0,aV (by rw[zd9];decide)];rw[zoj,IY]at hr;exact⟨a,looked,rfl,hr,by rw[aP];omega,hnw⟩
end
end
section
open Go.Sort
def ltI(x y:qP):Bool:=decide (x.name.data.toList<y.name.data.toList)
def zey:SWO ltI where
 irrefl:=λx=>cO (zaI _)
 trans:=λx y z h1 h2=>bF (QB (fM h1) (fM h2))
 ntrans:=λx y z h1 h2=>by
  have g1:=iD h1;have g2:=iD h2;refine cO λh=> ?_;by_cases f:y.name.data.toList<x.name.data.toList
  ·exact g2 (QB f h)
  rw[VQ g1 f]at h;exact g2 h
def zif(hx:∃p n c,x.av= .slice p n c):∀v∈rC x,v.oneCell'=true:=by obtain⟨p,n,c,h⟩:=hx;intro v hv;rw[rC,h]at hv;exact Am _ _ _ _ _ v hv
end
section
open Go.Shelf Go.Lib Go.Sort
noncomputable def slT:TypeInfo:=(prog.info? 49).get (by kernel_rfl)
noncomputable def slE:TypeInfo:=(prog.info? 45).get (by kernel_rfl)
def zhP(vH off c Bs size:Nat)(W:ax)(G:Nat->af)(hs:W.cell? ⟨Bs,0,none⟩=some (.slice (some ⟨vH,off,none⟩) size c))
  (hc:∀t,t<size->W.cell? ⟨vH,off+t*3,none⟩=some (.string (G t))) (i j:Nat) (hi:i<size) (hj:j<size) (uF:size<4611686018427387904):
  ae 52 #[.int .i64 i,.int .i64 j,.pointer (some ⟨Bs,0,none⟩)] W λe w'=>e= .returned (.bool (decide ((G i).data.toList<(G j).data.toList)))∧∃q,w'=W.drewN q:=by
 have ci:=hc i hi;have cj:=hc j hj;go_enter func52,ntmps52;go_wp2
 go_quiet (fail)
 go_wp2;go_ret;refine⟨?_,nq,rfl⟩;show Ending.returned (.bool (Op.bytesLess (G i).toList (G j).toList))=_;rw[Qq,dI,dI]
def slK(n:Nat):Lib.swapperK n slE 25=if n=0 then 1 else if n=1 then 2 else 9:=by
 have a:slE.hasPointers=true:=by kernel_rfl
 have b:slE.bytes=56:=by kernel_rfl
 simp[Lib.swapperK,a,b]
abbrev SlI:= { x:qP//∃p n c,x.av= .slice p n c }
instance:Inhabited SlI:=⟨⟨⟨⟨#[]⟩,⟨#[]⟩,.slice none 0 0,[]⟩,none,0,0,rfl⟩⟩
def zBo(x:SlI):List ay:=rC x.1
def zhN(v:ay)(l:List qP)(base Bs:Nat)(w:ax)(h:qF w base 45 3 v l.length (l.flatMap rC))(hl:l.length<=1000000)(h0:0<l.length)(Qi:∀x∈l,∃p n c,x.av= .slice p n c)
  (hBs:w.cell? ⟨Bs,0,none⟩=some v) (Bc:v.ownBlock≠some Bs):
  ae 51 #[.iface 49 v,.func (.func 52) #[] #[.pointer (some ⟨Bs,0,none⟩)]] w λe w'=>e= .returned (.tuple #[])∧∃d:List qP,d.Perm l∧d.Pairwise (λx y=>ltI y x=false)∧qF w' base 45 3 v l.length (d.flatMap rC)∧Keep (λb=>v.ownBlock=some b) w w':=by
 have hB1:=Lib.lt_of_cell hBs;obtain⟨L,rfl⟩:∃L:List SlI,l=L.map Subtype.val:=⟨l.pmap (λx hx=>⟨x,hx⟩) Qi,by rw[List.map_pmap];simp⟩
 have hfl:∀M:List SlI,(M.map Subtype.val).flatMap rC=M.flatMap zBo:=λM=>by rw[List.flatMap_map];rfl
 rw[hfl,aP]at h;rw[aP]at hl h0⊢;have h9:=h;obtain⟨hlen,hh⟩:=h9;rcases hh with⟨rfl,hn⟩|⟨g,cap,cur,fz,rfl,hb,hg,_⟩
 ·rw[hn]at h0;exact absurd h0 (qj _)
 have hgl:=Go.Proofs.YtbcmmbeadgiiiaaGreatDoor.lt_of_heap hg;have hs:L.toArray.size=L.length:=by simp
 by_cases h1:L.length<=1
 ·have e1:L.length=1:=by omega
  refine(Any.sort_Slice_tiny (P:=prog) { laysGg6 with } 49 45 slT slE (by kernel_rfl) (by kernel_rfl) (by kernel_rfl) (by kernel_rfl) 25 (λ_=>by kernel_rfl) _ L.length cap h1 168 (by rw[e1,slK];kernel_rfl) (.func 52) #[] #[.pointer (some ⟨Bs,0,none⟩)] w).m ?_;rintro e w' ⟨he,os,rfl⟩;have K:ak w (grow w os):=Gr.qm ⟨0,os,by rw[World.drewN_zero]⟩;refine⟨he,_,kC _,?_,by rw[hfl];exact h.qm K (λ_ _ x=>x),K.yw⟩;obtain⟨x,rfl⟩:=List.length_eq_one_iff.1 e1;exact lV ..
 ·have hH:=HoldsK.yw (enc:=zBo) (λ_=>rfl) h;have zzF:Bs≠g:=λe=>Bc (by rw[e];rfl);have zyu:LessReadsK prog 52 #[.pointer (some ⟨Bs,0,none⟩)] zBo 3 (λx y=>ltI x.1 y.1) g 0 L.toArray.size w:=by
   intro m os dk IP i j hi hj;have e:sortWorldK zBo 3 w g 0 m dk os=putRowK zBo 3 (grow (Sort.ahead w m) os) g 0 dk:=by unfold sortWorldK;rw[putRowK_grow _ _ (Sort.ahead w m) _ g 0 _ hgl]
   have hHg:HoldsK zBo 3 (grow (Sort.ahead w m) os) g 0 L.toArray:=holdsK_grow _ _ _ _ g 0 _ hgl (holdsK_ahead _ _ _ _ _ _ _ hH);refine zhP g 0 cap Bs L.length _ (λt=>dk[t]!.1.name) ?_ (λt ht=> ?_) i j (by omega) (by omega) (by omega)
   ·rw[e,cell?_putRowK_other _ _ _ g 0 dk _ (by exact zzF),cell?_grow _ _ _ (by exact hB1)];exact hBs
   ·rw[e];exact((holdsK_putRowK _ _ _ g 0 _ dk hHg IP).cell (i:=t) (c:=0) (by omega) (by omega)).1
  have IJ:=Any.sort_Slice_cells_sorted (P:=prog) { laysGg6 with } 49 45 slT slE (by kernel_rfl) (by kernel_rfl) (by kernel_rfl) (by kernel_rfl) 25 (λ_=>by kernel_rfl) zBo 3 (λ_=>rfl) (by kernel_rfl) (λ_=>by kernel_rfl)
   (λx=>zif x.2) (λx y=>ltI x.1 y.1) ⟨λx=>zey.irrefl x.1,λx y z=>zey.trans x.1 y.1 z.1,λx y z=>zey.ntrans x.1 y.1 z.1⟩ 52 _
   (enters_of func52 (by kernel_rfl) rfl) g 0 cap L.toArray (by omega) (by omega) 175 (by rw[slK,aV (by omega),aV (by omega)];kernel_rfl) false
   (λargs W=>gG func175 (by kernel_rfl) (by kernel_rfl) (by kernel_rfl) (e:=Extern.ReflectliteSwapper.swap false) (by kernel_rfl) args W) w zyu hH hgl
  rw[hs]at IJ;refine IJ.m ?_;rintro e w' ⟨he,d',n,os,hp,hd,rfl⟩;have IQ:d'.size=L.length:=by rw[hp.1,hs]
  have hp2:d'.toList.Perm L:=by
   have:=hp.2.2;rw[<-IQ,og]at this;rw[IQ,<-hs,og]at this
   simpa using this
  refine⟨he,d'.toList.map Subtype.val,hp2.map _,?_,by rw[hfl];exact SV (m:=n) (os:=os) (λ_=>rfl) h IQ,(PK (enc:=zBo) (k:=3) (m:=n) (os:=os) (d':=d') hgl).m λi _ hi=>by rw[show i=g from hi];rfl⟩;rw[fE,iO];intro i j hi hj hij;have h2:=hd i j (fP _) hij (by rw[<-IQ];exact hj);rw[oM d' i (by exact hi),oM d' j (by exact hj)]at h2;exact h2
end
