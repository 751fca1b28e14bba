import Derived.Test.YtopbkdebihcmcaaGreatDoorYAI
import Derived.Test.YtopbkdebihcmcaaGreatDoorYAK
import Derived.Test.YtopbkdebihcmcaaGreatDoorYAY
import Derived.Test.YtopbkdebihcmcaaGreatDoorYBI
import Derived.Test.YtopbkdebihcmcaaGreatDoorYBO
set_option linter.unusedSimpArgs false
set_option linter.unusedVariables false
namespace Go.Proofs.YtopbkdebihcmcaaGreatDoor
open Go.RowKit
set_option maxRecDepth 100000
set_option maxHeartbeats 16000000
def uN(x:oK):Value:= .agg (pO x).toArray
def zdi(w:World):Value->Option Value
 | .pointer (some a)=>match w.heap[a.block]? with
  | some (.cells c _ _)=>some (.agg c)
  | _=>none
 | _=>none
theorem Jh.at{w:World}{v:Value}{o:Option Value}(h:Jh w v o):zdi w v=o:=by
 cases o with
 | none=>rw[show v= .pointer none from h];rfl
 | some x=>
  obtain⟨b,a,t,c,f,rfl,rfl,h3⟩:=h;simp[zdi,h3]
abbrev vO:=af×oK
abbrev wF:=af×(Value×Option oK)
def sK(W:List wF):List (af×Option oK):=rQ Prod.snd W
def plainW(W:List wF):List (af×Option pR):=rQ (Option.map nZ) (sK W)
def vU(L:List vO):List (af×pR):=rQ nZ L
theorem ES(L:List vO)(W:List wF):vU (qC L (sK W))=qC (vU L) (plainW W):=(NM nZ (sK W) L).symm
theorem zhX(L:List vO)(W:List wF):rQ uN (qC L (sK W))=FU (rQ uN L) (rQ (Option.map uN) (sK W)):=by rw[<-zcV];exact(NM uN (sK W) L).symm
def uO(w:World)(x:oK):Prop:=Nums w x.av x.ns∧Gn w x.av
theorem uO.keep{w w':World}{x:oK}(h:uO w x){S:Nat->Prop}(hk:Keep S w w')(hS:∀b c t f,S b->w.heap[b]? =some (.cells c t f)->t≠3):uO w' x:=by
 have hn:∀b,x.av.ownBlock=some b->¬S b:=λb hb hs=>by obtain⟨cs,fz,hc⟩:=h.2 b hb;exact hS b _ _ _ hs hc rfl
 exact⟨h.1.keep hk hn,λb hb=>by obtain⟨cs,fz,hc⟩:=h.2 b hb;exact⟨cs,fz,hk.heap hc (hn b hb)⟩⟩
structure Q5(t:TypeId):Prop where
 int:t≠3
 item:t≠101
 cells:t≠199
 ptr:t≠202
 cell:t≠204
def wS(w:World)(S:Nat->Prop):Prop:=∀b c t f,S b->w.heap[b]? =some (.cells c t f)->Q5 t
theorem wS.none(w:World):wS w nM:=λ_ _ _ _ h=>h.elim
theorem Jh.zjA{w w':World}{v:Value}{o:Option Value}(h:Jh w v o){S:Nat->Prop}(hk:Keep S w w')(hS:wS w S):Jh w' v o:=by
 cases o with
 | none=>exact h
 | some x=>
  obtain⟨b,a,t,c,f,h1,h2,h3⟩:=h;exact⟨b,a,t,c,f,h1,h2,hk.heap h3 (λhs=>(hS b _ _ _ hs h3).item rfl)⟩
theorem VH{w w':World}{base:Nat}{e:TypeId}{size:Nat}{v:Value}{n:Nat}{xs:List Value}(h:nV w base e size v n xs){S:Nat->Prop}(hk:Keep S w w')(hS:∀b c f,S b->w.heap[b]? =some (.cells c e f)->False):nV w' base e size v n xs:=
 h.keep hk λb hb hs=>by obtain⟨c,f,hh⟩:=uh h hb;exact hS b c f hs hh
theorem zaz{w w':World}{base C nS:Nat}{v:Value}{bs:List (Nat×Value)}{cs:List Cell}(h:pW w base C nS v bs cs){S:Nat->Prop}(K:Keep S w w')(hS:wS w S):pW w' base C nS v bs cs:=
 ⟨K.heap h.head (λhs=>(hS _ _ _ _ hs h.head).cells rfl),VH h.row K (λb c f hs hh=>(hS b c _ f hs hh).ptr rfl),h.len,λi b c hb hc=>by have h1:=h.cell i b c hb hc;exact⟨K.heap h1.1 (λhs=>(hS _ _ _ _ hs h1.1).cell rfl),h1.2.1,VH h1.2.2 K (λb c f hs hh=>(hS b c _ f hs hh).item rfl)⟩,h.ptr,h.own,h.low⟩
structure Au(w:World)(mb wb nm nw:Nat)(L:List vO)(W:List wF):Prop where
 now:oJ w mb nm (rQ uN L)
 wait:oJ w wb nw (rQ Prod.fst W)
 apart:mb≠wb
 items:∀p∈L,uO w p.2
 waits:∀p∈W,Jh w p.2.1 (p.2.2.map uN)∧∀x,p.2.2=some x->uO w x
structure BA(w:World)(CC:Nat)(nS:Nat)(L:List vO):Prop where
 cells:∃base cv bs l,pW w base CC nS cv bs (y9 l)∧(∀x∈l,uO w x)∧l.map nZ=L.map (λp=>nZ p.2)
def D7(B nS mb wb:Nat)(c:Value):Array Value:= #[.pointer (some ⟨B,0,none⟩),.int .i64 nS,.map (some mb),.map (some wb),c]
def oV(w:World)(BB B nS mb wb:Nat)(c:Value):Prop:=w.heap[BB]? =some (.cells (D7 B nS mb wb c) 93 (0,0))
abbrev rZ(w:World)(BB B nS mb wb CC:Nat):Prop:=oV w BB B nS mb wb (.pointer (some ⟨CC,0,none⟩))
section
variable {w w':World}{mb wb nm nw CC nS:Nat}{L:List vO}{W:List wF}{S:Nat->Prop}
theorem Au.keep(h:Au w mb wb nm nw L W)(hk:Keep S w w')(hS:wS w S)(h1:¬S mb)(h2:¬S wb):Au w' mb wb nm nw L W:=
 ⟨h.now.keep hk h1,h.wait.keep hk h2,h.apart,λp hp=>(h.items p hp).keep hk (λb c t f hs hh=>(hS b c t f hs hh).int),λp hp=>⟨(h.waits p hp).1.zjA hk hS,λx hx=>((h.waits p hp).2 x hx).keep hk (λb c t f hs hh=>(hS b c t f hs hh).int)⟩⟩
theorem Au.oz(h:Au w mb wb nm nw L W)(hk:Keep nM w w'):Au w' mb wb nm nw L W:=h.keep hk (wS.none w) (λx=>x) (λx=>x)
theorem BA.keep(h:BA w CC nS L)(hk:Keep S w w')(hS:wS w S):BA w' CC nS L:=by obtain⟨base,cv,bs,l,h1,h2,h3⟩:=h.cells;exact⟨base,cv,bs,l,zaz h1 hk hS,λx hx=>(h2 x hx).keep hk (λb c t f hs hh=>(hS b c t f hs hh).int),h3⟩
theorem BA.oz(h:BA w CC nS L)(hk:Keep nM w w'):BA w' CC nS L:=h.keep hk (wS.none w)
end
theorem SN{w:World}{b:Nat}{c:Array Value}{t:TypeId}{f:Nat×Nat}(h:w.heap[b]? =some (.cells c t f))(ht:Q5 t):wS w (nY b):=λb' c' t' f' hs hh=>by obtain rfl:b'=b:=hs;rw[oN hh h];exact ht
theorem Iy{w:World}{mb n:Nat}{L:List rD}(h:oJ w mb n L):wS w (nY mb):=λb c t f hs hh=>by obtain rfl:b=mb:=hs;exact absurd rfl (h.row_ne hh)
theorem zdO{w:World}{mb n:Nat}{L M:List rD}(h:oJ w mb n L)(e:L=M):oJ w mb n M:=e▸h
theorem DI{w:World}{v:Value}{l:List Int}(N:Nums w v l)(h0:0<l.length)(hl:l.length<=1000000):
  ae 121 #[v] w λe w'=>∃v',e= .returned v'∧nV w' w.heap.size 3 1 v' l.length (l.map (Value.int .i64))∧Keep nM w w':=by
 obtain⟨p,c,rfl⟩:=N.len;obtain⟨b,off,rfl,-,hb,hc⟩:=N.at h0;refine(Tryz.slices_Clone_int b off l.length c l w (aF _) (by omega) hc).mono ?_;rintro e w' ⟨v',rfl,hrow,_,hbl⟩;refine⟨v',rfl,?_,Keep.vg hbl⟩;have:=nV.of hrow
 rwa [aV (aF _)]at this
theorem Jy{w:World}{base:Nat}{v:Value}{n:Nat}{xs:List Value}(h:nV w base 3 1 v n xs):Gn w v:=λg hg=>uh h hg
theorem Y8(L:List vO):(rQ uN L).map (·.1)=L.map (·.1):=by rw[rQ,fU];rfl
structure GI(w:World)(base:Nat)(v:Value)(l:List oK)(L:List vO):Prop where
 row:nV w base 101 3 v l.length (l.flatMap pO)
 same:l.map nZ=L.map (λp=>nZ p.2)
 nums:∀x∈l,uO w x
theorem GI.items{w:World}{base:Nat}{v:Value}{l:List oK}{L:List vO}(h:GI w base v l L):Items w v l:=⟨sQ.vN AY h.row,λx hx=>(h.nums x hx).1⟩
theorem GI.len{w:World}{base:Nat}{v:Value}{l:List oK}{L:List vO}(h:GI w base v l L):l.length=L.length:=by
 have:=dK List.length h.same
 simpa using this
structure Ce(L:List vO):Prop where
 few:L.length<=1000
 name:∀p∈L,p.1.size<=1000
 some:∀p∈L,0<p.2.ns.length
 le:∀p∈L,p.2.ns.length<=8
 num:∀p∈L,yT p.2.ns
theorem Ce.nil:Ce []:=⟨by simp,(λp hp=>by cases hp),(λp hp=>by cases hp),(λp hp=>by cases hp),(λp hp=>by cases hp)⟩
theorem Jb{w:World}{BB B nS mb wb nm:Nat}{c0:Value}{L:List vO}
  (hB:oV w BB B nS mb wb c0) (hA:oJ w mb nm (rQ uN L)) (hI:∀p∈L,uO w p.2) (hs:Ce L):
  ae 78 #[.pointer (some ⟨BB,0,none⟩)] w λe w'=>(∃v l,e= .returned v∧GI w' w.heap.size v l L)∧Keep nM w w':=by
 have hc2:∀w':World,Keep nM w w'->w'.cell? ⟨BB,2,none⟩=some (.map (some mb)):=λw' K=>cellOf (K.heap hB (λx=>x)) 2 rfl;have c2:=hc2 w (ah _ _);have hBlt:=lt_of_heap hB;have hkeys:=(fF (n:=5)).1 (LY (some mb) w);have hsort:=(fF (n:=5)).1 (Ia hA (by rw[rQ,aI];have:=hs.few;omega));have YH:=ag hkeys;have Fq:=ag hsort;clear hkeys hsort;go_enter Tryz.func78,Tryz.ntmps78;go_wp2_with fail;refine YH.out.mono ?_;rintro e w' ⟨rfl,rfl⟩;go_wp2_with fail;refine Fq.out.mono ?_;rintro e w1 ⟨v,ss,rfl,hS,hrow,hnil,hb⟩;have hr:=hA.rising;have hss:ss.length=((rQ uN L).map (·.1)).length:=by rw[hS.length_eq,GM,VP]
 rw[Ls hr hS,O7,hss,Y8]at hrow;have own:=nV.of hrow;have hst:Strs w1 v (L.map (·.1)):=Kq own;have K1:Keep nM w w1:=((ah nM w).alloc (.cells #[.map (some mb)] 89)).nK ⟨hb.os,hb.tape,hb.output,hb.size,λi hi _=>hb.block i hi⟩;obtain⟨N,hN⟩:∃N,N=L.map (·.1):=⟨_,rfl⟩
 rw[<-hN]at hst own;obtain⟨p,c,rfl⟩:=hst.len;obtain⟨m,hm⟩:∃m,m=N.length:=⟨_,rfl⟩
 have hmL:m=L.length:=by rw[hm,hN,aI]
 rw[<-hm]at hst⊢;have HN:=ag hN;have Hm:=ag hm;have HmL:=ag hmL;have Hst:=ag hst;obtain⟨i0,hi0,hz0,hs0,hb0⟩:=Iz;clear hN hrow hnil hS hss hm hmL own hst hb c2 hr;go_wp2_with fail;have HA:=ag hA;have HI:=ag hI;have Hhc:=ag hc2;have BU:=ag K1;clear hA hI hc2 K1 YH Fq
 go_loopw [3,14] (λlv iv wr=>∃(k:Nat) (o:Value) (l:List oK),k<=m∧iv= .int .i64 k∧o=lv∧Hid (l.length=k)∧Hid (l.map nZ=(L.take k).map (λp=>nZ p.2))∧Hid (nV wr w1.heap.size 101 3 o k (l.flatMap pO))∧Hid (∀x∈l,uO wr x)∧Hid (Keep nM w1 wr)) (λ_ iv _=>m-(intOf iv).toNat)
 case atStart=>exact⟨0,_,[],by omega,rfl,rfl,ag rfl,ag (by rw[bZ];rfl),ag (nV.nil _ _ _ _),ag (λx hx=>by cases hx),ag (ah _ _)⟩
 case round=>
  obtain⟨k,o,l,hk,rfl,rfl,hll,hsame,hO,hnum,K⟩:=hrel;obtain⟨wo,rfl⟩:∃wo,wo=wr:=⟨_,rfl⟩
  have KW:=BU.out.nK K.out;by_cases hlt:k<m
  ·have j1:(k:Int)<m:=by omega
   have Tr:=Hst.out.keep K.out (λ_ _ x=>x);obtain⟨b,off,rfl,-,hb,hcell⟩:=Tr.at (by rw[<-Hm.out];omega);have hck:=hcell k (by rw[<-Hm.out];exact hlt);obtain⟨q,hq⟩:∃q,L[k]? =some q:=⟨_,aC (by have:=HmL.out;omega)⟩
   have hqm:q∈L:=bg hq;have hnk:N.getD k ⟨#[]⟩=q.1:=by rw[HN.out,ax,bC,hq];rfl
   rw[hnk]at hck;have hAo:=HA.out.keep KW (λx=>x);have hget:uM (rQ uN L) q.1=some (uN q.2):=Rt hAo.pairs (bf.2 ⟨q,hqm,rfl⟩);have hq2:=(HI.out q hqm).keep KW (λ_ _ _ _ h=>h.elim);have hqn:=hs.some q hqm;have hq8:=hs.le q hqm;have zfK:=hs.name q hqm;obtain⟨nm,x⟩:=q;simp only at hck hget hq2 hqn hq8 zfK;have zkG:nm.size<=maxLen:=by unfold maxLen;omega
   have hlk:=hAo.look Tryz.underlying89 nm zkG (Tryz.zeroValue101 wo);rw[hget,kT]at hlk;obtain⟨xn,xt,xa,xs⟩:=x;obtain⟨pa,ca,hpa⟩:=hq2.1.len;simp only at hpa hqn hq8;subst hpa;simp only[uN,pO]at hlk;have b2:=Hhc.out _ KW;have KA:Keep nM wo (wo.alloc (.cells #[.string xn,.string xt,.slice pa xs.length ca] 101)):=(ah _ _).alloc _;have hcl:=DI (hq2.1.keep KA (λ_ _ x=>x)) hqn (by simp only;omega);simp only at hcl;have HX:=aG wo (.cells #[.string xn,.string xt,.slice pa xs.length ca] 101);obtain⟨X,hX⟩:∃X,X=wo.heap.size:=⟨_,rfl⟩
   obtain⟨wa,hwa⟩:∃wa,wa=wo.alloc (.cells #[.string xn,.string xt,.slice pa xs.length ca] 101):=⟨_,rfl⟩
   rw[<-hwa]at hcl HX KA;rw[<-hX]at HX;have a2:wa.cell? ⟨X,2,none⟩=some (.slice pa xs.length ca):=cellOf HX 2 rfl;have Hcl:=ag hcl;have Hwa:=ag hwa;have HXX:=ag hX;have HHX:=ag HX;have HKA:=ag KA;have Hq:=ag hq;clear hcl hwa hX HX KA hq hqm hnk hget hAo Tr hcell hq2;go_wp2_with fail;rw[<-HXX.out,<-Hwa.out];obtain⟨nl,hnl⟩:∃m,m=xs.length:=⟨_,rfl⟩
   rw[<-hnl]at Hcl a2 HHX Hwa⊢;have Hnl:=ag hnl;clear hnl;go_wp2_with fail;refine Hcl.out.mono ?_;rintro e w3 ⟨v3,rfl,O3,K3⟩;have U5:=K3.heap HHX.out (λx=>x);obtain⟨ps,cs,hps⟩:=uD O3;subst hps;have d2:w3.cell? ⟨X,2,none⟩=some (.slice pa nl ca):=cellOf U5 2 rfl;have f2:w3.frozen? ⟨X,2,none⟩=false:=dZ U5 2;have Yh:(w3.setCell ⟨X,2,none⟩ (.slice ps nl cs)).heap[X]? =some (.cells #[.string xn,.string xt,.slice ps nl cs] 101 (0,0)):=rW (i:=2) U5 _;have K4:Keep (nY X) w3 (w3.setCell ⟨X,2,none⟩ (.slice ps nl cs)):=(ah _ _).set1 2 _;obtain⟨w4,hw4⟩:∃w4,w4=w3.setCell ⟨X,2,none⟩ (.slice ps nl cs):=⟨_,rfl⟩
   rw[<-hw4]at Yh K4;have e0:w4.cell? ⟨X,0,none⟩=some (.string xn):=cellOf Yh 0 rfl;have e1:w4.cell? ⟨X,1,none⟩=some (.string xt):=cellOf Yh 1 rfl;have e2:w4.cell? ⟨X,2,none⟩=some (.slice ps nl cs):=cellOf Yh 2 rfl;have Hw4:=ag hw4;have HO3:=ag O3;have Uk:=ag K3;have HK4:=ag K4;clear hw4 O3 K3 K4 U5 Hcl a2;go_upto_region 7 with(fail)
   rw[<-Hw4.out];clear d2 f2;have HOn:Hid (nV w4 w1.heap.size 101 3 o k (l.flatMap pO)∧(∀x∈l,uO w4 x)∧uO w4 ⟨xn,xt,.slice ps nl cs,xs⟩∧Keep nM w1 w4):=by
    have hXlt:wo.heap.size<=X:=by rw[HXX.out];exact aF _
    have KK:Keep (nY X) wo w4:=((HKA.out.nK Uk.out).vN).then HK4.out;have hnX:∀b c t f,nY X b->wo.heap[b]? =some (.cells c t f)->t≠3:=λb c t f hb hh=>by have h1:b=X:=hb;have h2:=lt_of_heap hh;omega
    refine⟨hO.out.keep KK (λb hb e=> ?_),λx hx=>(hnum.out x hx).keep KK hnX,?_,?_⟩
    ·have h1:b=X:=e;have h2:=(hO.out.lt b hb).2;omega
    ·have h3:uO w3 ⟨xn,xt,.slice ps nl cs,xs⟩:=⟨yu (by rw[<-Hnl.out];exact HO3.out),Jy HO3.out⟩
     refine h3.keep HK4.out λb c t f hb hh=> ?_;have h1:b=X:=hb;subst h1;have h5:=Uk.out.heap HHX.out (λx=>x);rw[oN hh h5];decide
    ·refine(K.out.trans KK λi hi e=> ?_);have h1:i=X:=e;have:=K.out.size;omega
   have zfo:w1.heap.size<=w4.heap.size:=HOn.out.2.2.2.size;have zge:k<1000:=by have:=HmL.out;have:=hs.few;omega
   have HK:=ag K.out;go_wp2_with (at_builtin;refine qc _ rfl _ _ 96 rfl w1.heap.size 101 i0 _ 3 56 Tryz.underlying96 hi0 hz0 hs0 hb0 rfl (by decide) o _ _ rfl (HOn.out.1.alloc _) ⟨w4.heap.size,0,none⟩ 1 1 [.string xn,.string xt,.slice ps nl cs] rfl rfl (qj _ _ _) (Fg xn xt ps nl cs) (by unfold maxLen;omega) (by omega) (by simp;omega) ?_;intro v' w5 own' hgrow);have KG:Keep (λb=>o.ownBlock=some b) w4 w5:=(((ah nM w4).alloc (.cells #[.string xn,.string xt,.slice ps nl cs] 101)).vN).trans ((ah _ _).grown hgrow (λb hb=> .inl hb)) (λi hi h=>h);have hoT:∀b c t f,(λb=>o.ownBlock=some b) b->w4.heap[b]? =some (.cells c t f)->t≠3:=λb c t f hb hh=>by obtain⟨c',f',h2⟩:=uh HOn.out.1 hb;rw[oN hh h2];decide
   refine⟨⟨k+1,v',l++ [⟨xn,xt,.slice ps nl cs,xs⟩],by omega,by go_num,rfl,ag ?_,ag ?_,ag ?_,ag ?_,ag ?_⟩,by simp[intOf];omega⟩
   ·rw[ay,hll.out];rfl
   ·have h1:=aN.1 Hq.out;rw[aT h1.1,h1.2,di,di,hsame.out];rfl
   ·rw[cZ];exact own'
   ·intro x hx;rcases dG.1 hx with hx|hx
    ·exact(HOn.out.2.1 x hx).keep KG hoT
    ·rw[bD.1 hx];exact HOn.out.2.2.1.keep KG hoT
   ·refine HK.out.trans (((HKA.out.nK Uk.out).vN (S:=λb=>b=X∨o.ownBlock=some b)).trans ((HK4.out.mono (λi hi h=> .inl h)).trans (KG.mono (λi hi h=> .inr h)) (λi hi h=>h)) (λi hi h=>h)) (λi hi h=> ?_);rcases h with h|h
    ·have:=HXX.out;have:=HK.out.size;omega
    ·have h2:=(hO.out.lt i h).1;omega
  ·obtain rfl:k=m:=by omega
   have j1:¬(k:Int)<k:=by omega
   have hOo:=hO.out;have hN:L.take k=L:=aV (by rw[<-HmL.out];exact aF _);have hsm:=hsame.out;rw[hN]at hsm;have zo0:=hll.out;subst zo0;have Hsm:=ag hsm;have HOo:=ag hOo;have MN:=ag KW;clear hO hsm hsame hN hOo KW K;go_wp2_with fail;go_ret;exact⟨⟨o,rfl,l,⟨HOo.out.down BU.out.size,Hsm.out,hnum.out⟩⟩,MN.out⟩
section
variable {w w':World}{BB B nS mb wb CC nm nw:Nat}{c:Value}{L:List vO}{W:List wF}{S:Nat->Prop}
theorem oV.keep(h:oV w BB B nS mb wb c)(hk:Keep S w w')(hn:¬S BB):oV w' BB B nS mb wb c:=hk.heap h hn
theorem oV.oz(h:oV w BB B nS mb wb c)(hk:Keep nM w w'):oV w' BB B nS mb wb c:=hk.heap h (λx=>x)
theorem oV.lt(h:oV w BB B nS mb wb c):BB<w.heap.size:=lt_of_heap h
theorem oV.set1(h:oV w BB B nS mb wb c)(d:Nat):oV (w.setCell ⟨BB,1,none⟩ (.int .i64 d)) BB B d mb wb c:=rW (i:=1) h _
theorem oV.set2(h:oV w BB B nS mb wb c)(m:Nat):oV (w.setCell ⟨BB,2,none⟩ (.map (some m))) BB B nS m wb c:=rW (i:=2) h _
theorem oV.zj8(h:oV w BB B nS mb wb c)(m:Nat):oV (w.setCell ⟨BB,3,none⟩ (.map (some m))) BB B nS mb m c:=rW (i:=3) h _
theorem oV.zj7(h:oV w BB B nS mb wb c)(C:Nat):rZ (w.setCell ⟨BB,4,none⟩ (.pointer (some ⟨C,0,none⟩))) BB B nS mb wb C:=rW (i:=4) h _
theorem oV.cell0(h:oV w BB B nS mb wb c):w.cell? ⟨BB,0,none⟩=some (.pointer (some ⟨B,0,none⟩)):=cellOf h 0 rfl
theorem oV.cell1(h:oV w BB B nS mb wb c):w.cell? ⟨BB,1,none⟩=some (.int .i64 nS):=cellOf h 1 rfl
theorem oV.cell2(h:oV w BB B nS mb wb c):w.cell? ⟨BB,2,none⟩=some (.map (some mb)):=cellOf h 2 rfl
theorem oV.QN(h:oV w BB B nS mb wb c):w.cell? ⟨BB,3,none⟩=some (.map (some wb)):=cellOf h 3 rfl
theorem oV.YB(h:oV w BB B nS mb wb c):w.cell? ⟨BB,4,none⟩=some c:=cellOf h 4 rfl
theorem oV.free(h:oV w BB B nS mb wb c)(i:Nat):w.frozen? ⟨BB,i,none⟩=false:=dZ h i
theorem oV.other(h:oV w BB B nS mb wb c):wS w (nY BB):=SN h ⟨by decide,by decide,by decide,by decide,by decide⟩
theorem Au.setRow(h:Au w mb wb nm nw L W)(hB:oV w BB B nS mb wb c)(hk:Keep (nY BB) w w'):Au w' mb wb nm nw L W:=h.keep hk hB.other (λe=>h.now.row_ne hB e) (λe=>h.wait.row_ne hB e)
theorem BA.setRow{zm1 C':Nat}(h:BA w C' zm1 L)(hB:oV w BB B nS mb wb c)(hk:Keep (nY BB) w w'):BA w' C' zm1 L:=h.keep hk hB.other
theorem zcO{w:World}{base:Nat}{v:Value}{l:List oK}(h:l.map nZ=L.map (λp=>nZ p.2)):∀x∈l,∃p∈L,nZ x=nZ p.2:=λx hx=>by have h1:nZ x∈l.map nZ:=bf.2 ⟨x,hx,rfl⟩;rw[h]at h1;obtain⟨p,hp,e⟩:=bf.1 h1;exact⟨p,hp,e.symm⟩
end
theorem Ah{w:World}{BB B nS mb wb nm:Nat}{c0:Value}{L:List vO}
  (hB:oV w BB B nS mb wb c0) (hA:oJ w mb nm (rQ uN L)) (hI:∀p∈L,uO w p.2) (hs:Ce L):
  ae 60 #[.pointer (some ⟨BB,0,none⟩)] w λe w'=>e= .returned (.tuple #[])∧(∃C,rZ w' BB B nS mb wb C∧BA w' C nS L)∧Keep (nY BB) w w':=by
 have c1:=hB.cell1;have KD:Keep nM w w.drew:=(ah nM w).drew;have hit:=Jb (w:=w.drew) (hB.oz KD) (hA.keep KD (λx=>x)) (λp hp=>(hI p hp).keep KD (λ_ _ _ _ h=>h.elim)) hs;have Hit:=ag hit;have HI:=ag hI;have HA:=ag hA;have HB:=ag hB;have hlt:=hB.lt;clear hit hI hA hB;go_enter Tryz.func60,Tryz.ntmps60;have l1:∀x:rE (λW:World=>W.cell? ⟨BB,1,none⟩=some (.int .i64 nS)),x.w.cell? ⟨BB,1,none⟩=some (.int .i64 nS):=λx=>x.h;refine nO (λW:World=>W.cell? ⟨BB,1,none⟩=some (.int .i64 nS)) [(true,0),(true,1),(true,2),(true,3),(true,4),(true,5),(false,6),(false,7),(true,8),(true,9),(false,10)] (by kernel_rfl) (by kernel_rfl) (λc a d v w h=>by cases d<;>exact h) ?_;simp only[oQ,nR,aj,ak,au]
 repeat(refine nJ (λK hK=> ?_);go_simp;first|(refine⟨_,λ_=>rfl,hK _ ?_⟩;clear hK K;refine nH ?_)|(refine hK _ ?_;clear hK K;refine nH ?_))
 refine⟨c1,?_⟩;clear l1;go_wp2_with fail;refine Hit.out.mono ?_;rintro e w1 ⟨⟨v,l,rfl,hO⟩,K1⟩;have KW1:Keep nM w w1:=KD.nK K1;have hll:=hO.len;have hnew:=XP nS v l w1 hO.items (by rw[hll];exact hs.few) (λx hx=>by obtain⟨p,hp,e⟩:=zcO (w:=w) (base:=0) (v:=v) hO.same x hx;have e2:x.ns=p.2.ns:=dK (λq:pR=>q.2.2) e;rw[e2];exact⟨hs.num p hp,hs.le p hp⟩)
 have znl:=ag hnew;have HO:=ag hO;have BU:=ag KW1;have b1:=(HB.out.oz KW1).cell1;clear hnew hO KW1 K1 hll c1 Hit;go_wp2_with fail;refine⟨b1,?_⟩;go_wp2_with fail;refine znl.out.mono ?_;rintro e w2 ⟨C,cv,bs,rfl,hC,K2⟩;have KW2:=BU.out.nK K2;have HB2:=HB.out.oz KW2;have b2:=HB2.cell1;have b4:=HB2.YB;have f4:=HB2.free 4;have HCs:=ag hC;have Jc:=ag K2;clear hC K2 znl b1;go_wp2_with fail
 repeat(refine nJ (λK hK=> ?_);go_simp;first|(refine⟨_,λ_=>rfl,hK _ ?_⟩;clear hK K;refine nH ?_)|(refine hK _ ?_;clear hK K;refine nH ?_))
 refine⟨b2,?_⟩;go_wp2_with fail;refine mP (jm rfl _ _ _) rfl ?_;have KS:Keep (nY BB) w2 (w2.setCell ⟨BB,4,none⟩ (.pointer (some ⟨C,0,none⟩))):=(ah _ _).set1 4 _;have hCC:BA w2 C nS L:=⟨_,_,_,_,HCs.out,λx hx=>(HO.out.nums x hx).keep Jc.out (λ_ _ _ _ h=>h.elim),HO.out.same⟩
 refine⟨rfl,⟨C,HB2.zj7 C,hCC.setRow HB2 KS⟩,KW2.vN.then KS⟩
section
variable {w:World}{BB B nS mb wb CC nm nw:Nat}{L:List vO}{W:List wF}
theorem Me(hB:rZ w BB B nS mb wb CC):
  ae 84 #[.pointer (some ⟨BB,0,none⟩)] w λe w'=>e= .returned (.tuple #[])∧rZ w' BB B nS mb w.heap.size CC∧oJ w' w.heap.size 0 []∧Keep (nY BB) w w':=by
 have b3:=hB.QN;have f3:=hB.free 3;have hlt:=hB.lt;have hmm:= @run_makeMap Tryz.prog;have KA:Keep nM w (w.alloc (Obj.map #[] 0)):=(ah _ _).alloc _;have b3':=(hB.oz KA).QN;have f3':=(hB.oz KA).free 3;go_enter Tryz.func84,Tryz.ntmps84;go_wp2_with fail;refine mP (jm rfl _ _ _) rfl ?_;have e:(w.setCell ⟨BB,3,none⟩ (.map (some w.heap.size))).heap.size=w.heap.size:=by simp[World.setCell]
 have m1:=oJ.made (w.setCell ⟨BB,3,none⟩ (.map (some w.heap.size)));rw[e]at m1;exact⟨rfl,(hB.zj8 w.heap.size).oz ((ah _ _).alloc _),m1,((ah (nY BB) w).set1 3 _).nK ((ah _ _).alloc _)⟩
theorem X8(d:Int)(hB:rZ w BB B 0 mb wb CC)(hA:oJ w mb nm (rQ uN ([]:List vO)))(hd:1<=d∧d<=8):
  ae 80 #[.pointer (some ⟨BB,0,none⟩),.int .i64 d] w λe w'=>e= .returned .nilIface∧(∃C,rZ w' BB B d.toNat mb wb C∧BA w' C d.toNat [])∧Keep (nY BB) w w':=by
 have b1:=hB.cell1;have f1:=hB.free 1;obtain⟨q,rfl⟩:∃q:Nat,d=q:=⟨d.toNat,by omega⟩
 have hq:q≠0:=by omega
 have j1:¬(q:Int)<1:=by omega
 have j2:¬(8:Int)<q:=by omega
 have hset:=hB.set1 q;have KS:Keep (nY BB) w (w.setCell ⟨BB,1,none⟩ (.int .i64 q)):=(ah _ _).set1 1 _;have hidx:=Ah (L:= []) hset (hA.keep KS (λe=>hA.row_ne hB e)) (λp hp=>by cases hp) Ce.nil;have MZ:=ag hidx;have HKS:=ag KS;clear hidx hset KS;rw[jf];go_enter Tryz.func80,Tryz.ntmps80;go_wp2_with fail;refine MZ.out.mono ?_;rintro e w2 ⟨rfl,hC,K2⟩;have HC:=ag hC;have Jc:=ag K2;clear hC K2 MZ;go_wp2_with fail;go_ret;exact⟨rfl,HC.out,HKS.out.then Jc.out⟩
theorem Ub(d:Int)(hB:rZ w BB B nS mb wb CC)(hd:nS≠0):
  ae 80 #[.pointer (some ⟨BB,0,none⟩),.int .i64 d] w λe w'=>e= .returned (errVal 6)∧Keep nM w w':=by
 have b1:=hB.cell1;have hn:((nS:Nat):Int)≠0:=by omega
 go_enter Tryz.func80,Tryz.ntmps80;go_wp2_with fail;go_ret;exact⟨rfl,ah _ _⟩
theorem X7(d:Int)(hB:rZ w BB B 0 mb wb CC)(hd:d<1∨8<d):
  ae 80 #[.pointer (some ⟨BB,0,none⟩),.int .i64 d] w λe w'=>e= .returned (errVal 1)∧Keep nM w w':=by
 have b1:=hB.cell1;rcases hd with hd|hd
 ·go_enter Tryz.func80,Tryz.ntmps80;go_wp2_with fail;go_ret;exact⟨rfl,ah _ _⟩
 ·have j1:¬d<1:=by omega
  go_enter Tryz.func80,Tryz.ntmps80;go_wp2_with fail;go_ret;exact⟨rfl,ah _ _⟩
end
theorem zdB{w:World}{W:List wF}(h:∀p∈W,Jh w p.2.1 (p.2.2.map uN)):(rQ Prod.fst W).map (λp=>(p.1,zdi w p.2))=rQ (Option.map uN) (sK W):=by
 unfold rQ sK rQ;rw[fU,fU];refine iP λp hp=> ?_;show(p.1,zdi w p.2.1)=(p.1,p.2.2.map uN)
 rw[(h p hp).at]
theorem KL(L:List vO)(k:af):uM (rQ uN L) k=(qQ L k).map uN:=Rx uN L k
theorem Rn(W:List wF)(k:af)(v:Value)(o:Option oK):yV (rQ Prod.fst W) k v=rQ Prod.fst (xN W k (v,o)):=by rw[<-za5];exact Gu Prod.fst W k (v,o)
theorem zdC(W:List wF)(k:af)(v:Value)(o:Option oK):sK (xN W k (v,o))=xN (sK W) k o:=(Gu Prod.snd W k (v,o)).symm
theorem SC(W:List wF)(k:af)(v:Value)(o:Option oK):plainW (xN W k (v,o))=xN (plainW W) k (o.map nZ):=by unfold plainW;rw[zdC];exact(Gu (Option.map nZ) (sK W) k o).symm
theorem CE{α β:Type}(f:α->β)(L:List (af×α)):(rQ f L).length=L.length:=aI ..
theorem Zc{α β:Type}{f:α->β}{L:List (af×α)}{p:af×β}(h:p∈rQ f L):∃q∈L,p=(q.1,f q.2):=by obtain⟨q,hq,rfl⟩:=bf.1 h;exact⟨q,hq,rfl⟩
theorem NL{w:World}{mb wb nm nw:Nat}{L:List vO}{W:List wF}(R:Au w mb wb nm nw L W):∀p∈qC L (sK W),uO w p.2:=
 NP (λ_ x=>uO w x) (sK W) (λp hp=>R.items p hp) (λp hp x hx=>by obtain⟨q,hq,rfl⟩:=Zc hp;exact(R.waits q hq).2 x hx)
section
variable {w:World}{BB B nS mb wb CC nm nw:Nat}{L:List vO}{W:List wF}
theorem DK(hB:rZ w BB B nS mb wb CC)(R:Au w mb wb nm nw L W)(hsm:nm+nw<1000000):
  ae 111 #[.pointer (some ⟨BB,0,none⟩)] w λe w'=>∃n,n<=nm+nw∧e= .returned (.map (some w.heap.size))∧oJ w' w.heap.size n (rQ uN (qC L (sK W)))∧Keep nM w w':=by
 have hl:=R.wait.len;rw[CE]at hl;refine(X6 (zdi w) (λw' h=>X0 h) hB R.now R.wait (λp hp=> ?_) (by rw[CE];omega)).mono ?_
 ·obtain⟨q,hq,rfl⟩:=Zc hp;have h:=(R.waits q hq).1;show Jh w q.2.1 (zdi w q.2.1);rw[h.at];exact h
 ·rintro e w' ⟨n,hn,he,hm,K⟩;rw[CE]at hn;refine⟨n,by omega,he,zdO hm ?_,K⟩;rw[zdB (λp hp=>(R.waits p hp).1),zhX]
end
section
variable {w:World}{BB B nS mb wb CC nm nw:Nat}{L:List vO}{W:List wF}
theorem U1(x:oK)(hB:rZ w BB B 0 mb wb CC):
  ae 81 #[.pointer (some ⟨BB,0,none⟩),uN x] w λe w'=>e= .returned (errVal 6)∧Keep nM w w':=by
 have KA:Keep nM w (w.alloc (.cells (pO x).toArray 101)):=(ah _ _).alloc _;have b1:=(hB.oz KA).cell1;unfold uN;obtain⟨nm,tg,av,ns⟩:=x;simp only[pO]at KA b1⊢;go_enter Tryz.func81,Tryz.ntmps81;go_wp2_with fail;go_ret;exact⟨rfl,KA⟩
def zaV(BB X nS:Nat)(a b c:Value)(W:World):Prop:=W.cell? ⟨BB,1,none⟩=some (.int .i64 nS)∧W.cell? ⟨X,0,none⟩=some a∧W.cell? ⟨X,1,none⟩=some b∧W.cell? ⟨X,2,none⟩=some c
def Yq(BB X wb:Nat)(a:Value)(W:World):Prop:=W.cell? ⟨BB,3,none⟩=some (.map (some wb))∧W.cell? ⟨X,0,none⟩=some a
def PutSaid(w w':World)(nS wb nw:Nat)(L:List vO)(W:List wF)(x:oK)(e:Ending):Prop:=
 if DU x nS=false then e= .returned (errVal 1)∧Keep nM w w'
 else if qQ (qC L (sK W)) x.name=none∧(qC L (sK W)).length=60 then e= .returned (errVal 12)∧Keep nM w w'
 else e= .returned .nilIface∧Keep (nY wb) w w'∧∃X av,w.heap.size<=X∧oJ w' wb (nw+1) (rQ Prod.fst (xN W x.name (.pointer (some ⟨X,0,none⟩),some ⟨x.name,x.tag,av,x.ns⟩)))∧w'.heap[X]? =some (.cells (pO ⟨x.name,x.tag,av,x.ns⟩).toArray 101 (0,0))∧uO w' ⟨x.name,x.tag,av,x.ns⟩
theorem PutSaid.arg{w w':World}{x:oK}{e:Ending}(h:DU x nS=false)(he:e= .returned (errVal 1))(K:Keep nM w w'):PutSaid w w' nS wb nw L W x e:=by unfold PutSaid;rw[aP h];exact⟨he,K⟩
theorem PutSaid.full{w w':World}{x:oK}{e:Ending}{NX:List vO}(hN:NX=qC L (sK W))(h:DU x nS=true)(h1:qQ NX x.name=none)(h2:NX.length=60)(he:e= .returned (errVal 12))(K:Keep nM w w'):PutSaid w w' nS wb nw L W x e:=by subst hN;unfold PutSaid;rw[aB (by rw[h];decide),aP ⟨h1,h2⟩];exact⟨he,K⟩
theorem PutSaid.ok{w w':World}{x:oK}{e:Ending}{NX:List vO}(hN:NX=qC L (sK W))(h:DU x nS=true)(h1:¬(qQ NX x.name=none∧NX.length=60))(he:e= .returned .nilIface∧Keep (nY wb) w w'∧∃X av,w.heap.size<=X∧oJ w' wb (nw+1) (rQ Prod.fst (xN W x.name (.pointer (some ⟨X,0,none⟩),some ⟨x.name,x.tag,av,x.ns⟩)))∧w'.heap[X]? =some (.cells (pO ⟨x.name,x.tag,av,x.ns⟩).toArray 101 (0,0))∧uO w' ⟨x.name,x.tag,av,x.ns⟩):PutSaid w w' nS wb nw L W x e:=by subst hN;unfold PutSaid;rw[aB (by rw[h];decide),aB h1];exact he
theorem zaH(x:oK)(N:Nums w x.av x.ns)(hl:x.ns.length<=1000000)(hB:rZ w BB B nS mb wb CC)(hR:Au w mb wb nm nw L W)(hsm:nm+nw<1000000)(hd:nS≠0):
  ae 81 #[.pointer (some ⟨BB,0,none⟩),uN x] w λe w'=>PutSaid w w' nS wb nw L W x e:=by
 have Ue:=I9 x nS ((w.alloc (.cells (pO x).toArray 101)).drew) (N.keep (((ah nM w).alloc _).drew) (λ_ _ x=>x)) hl;have hnx:=N.len;unfold uN;obtain⟨nn,tg,av,ns⟩:=x;simp only[pO]at Ue hnx⊢;obtain⟨pa,ca,rfl⟩:=hnx;have KA:Keep nM w (w.alloc (.cells #[.string nn,.string tg,.slice pa ns.length ca] 101)):=(ah _ _).alloc _;have b1:=(hB.oz KA).cell1;have n0:((nS:Nat):Int)≠0:=by omega
 have hX:=aG w (.cells #[.string nn,.string tg,.slice pa ns.length ca] 101);obtain⟨R,hRR⟩:∃R,R=DU ⟨nn,tg,.slice pa ns.length ca,ns⟩ nS:=⟨_,rfl⟩
 rw[<-hRR]at Ue;have hns0:R=true->0<ns.length∧ns.length<=8∧nn.size<=1000:=by intro h;rw[h]at hRR;have h2:=hRR.symm;simp only[DU,nameB,aZ,aS]at h2;omega
 obtain⟨nl,hnl⟩:∃m,m=ns.length:=⟨_,rfl⟩
 rw[<-hnl]at Ue KA b1 hX⊢;obtain⟨X,hXX⟩:∃X,X=w.heap.size:=⟨_,rfl⟩
 obtain⟨wa,hwa⟩:∃wa,wa=w.alloc (.cells #[.string nn,.string tg,.slice pa nl ca] 101):=⟨_,rfl⟩
 have Hnl:=ag hnl;have HRR:=ag hRR;have zla:=ag hns0;clear hnl hRR hns0;go_enter Tryz.func81,Tryz.ntmps81;go_wp2_with fail;rw[<-hwa]at b1 Ue KA hX;rw[<-hXX]at hX;rw[<-hwa,<-hXX];have Hri:=ag Ue;have HKA:=ag KA;have HXX:=ag hXX;have HX:=ag hX;have c0:wa.cell? ⟨X,0,none⟩=some (.string nn):=cellOf hX 0 rfl;have c1:wa.cell? ⟨X,1,none⟩=some (.string tg):=cellOf hX 1 rfl;have c2:wa.cell? ⟨X,2,none⟩=some (.slice pa nl ca):=cellOf hX 2 rfl;clear hwa hXX Ue KA hX;have L1:zaV BB X nS (.string nn) (.string tg) (.slice pa nl ca) wa:=⟨b1,c0,c1,c2⟩
 have l1:∀x:rE (zaV BB X nS (.string nn) (.string tg) (.slice pa nl ca)),x.w.cell? ⟨BB,1,none⟩=some (.int .i64 nS):=λx=>x.h.1;have l2:∀x:rE (zaV BB X nS (.string nn) (.string tg) (.slice pa nl ca)),x.w.cell? ⟨X,0,none⟩=some (.string nn):=λx=>x.h.2.1;have l3:∀x:rE (zaV BB X nS (.string nn) (.string tg) (.slice pa nl ca)),x.w.cell? ⟨X,1,none⟩=some (.string tg):=λx=>x.h.2.2.1;have l4:∀x:rE (zaV BB X nS (.string nn) (.string tg) (.slice pa nl ca)),x.w.cell? ⟨X,2,none⟩=some (.slice pa nl ca):=λx=>x.h.2.2.2;refine nO (zaV BB X nS (.string nn) (.string tg) (.slice pa nl ca)) [(true,0),(true,1),(true,2),(true,3),(true,4),(false,5),(true,6),(false,7)] (by kernel_rfl) (by kernel_rfl) (λc a d v w h=>by cases d<;>exact h) ?_;simp only[oQ,nR,aj,ak,au]
 repeat(refine nJ (λK hK=> ?_);go_simp;first|(refine⟨_,λ_=>rfl,hK _ ?_⟩;clear hK K;refine nH ?_)|(refine hK _ ?_;clear hK K;refine nH ?_))
 refine⟨L1,?_⟩;clear l1 l2 l3 l4;go_wp2_with fail;refine Hri.out.mono ?_;rintro e w1 ⟨rfl,K1⟩;have KW1:Keep nM w w1:=(HKA.out.drew).nK K1;have KX1:Keep nM wa w1:=((ah nM wa).drew).nK K1;have L2:zaV BB X nS (.string nn) (.string tg) (.slice pa nl ca) w1:=⟨(KX1.cell (p:=⟨BB,1,none⟩) (Lib.lt_of_cell b1) (λx=>x)).trans b1,(KX1.cell (p:=⟨X,0,none⟩) (Lib.lt_of_cell c0) (λx=>x)).trans c0,(KX1.cell (p:=⟨X,1,none⟩) (Lib.lt_of_cell c1) (λx=>x)).trans c1,(KX1.cell (p:=⟨X,2,none⟩) (Lib.lt_of_cell c2) (λx=>x)).trans c2⟩
 have ziu:=ag KW1;have HL2:=ag L2;have HX1:=ag (KX1.heap HX.out (λx=>x));clear L1 L2 KX1 KW1 K1 Hri b1 c0 c1 c2 HX;cases R with
 | false=>
  go_wp2_with fail
  repeat(refine nJ (λK hK=> ?_);go_simp;first|(refine⟨_,λ_=>rfl,hK _ ?_⟩;clear hK K;refine nH ?_)|(refine hK _ ?_;clear hK K;refine nH ?_))
  refine⟨HL2.out,?_⟩;go_wp2_with fail;go_ret;exact PutSaid.arg HRR.out.symm rfl ziu.out
 | true=>
  have hB1:=hB.oz ziu.out;have hR1:=hR.oz ziu.out;have hnx:=DK hB1 hR1 hsm;have hwt:=hR.wait;have MO:=ag hnx;have HB:=ag hB;have HR:=ag hR;clear hB1 hR1 hnx hB hR;go_wp2_with fail
  repeat(refine nJ (λK hK=> ?_);go_simp;first|(refine⟨_,λ_=>rfl,hK _ ?_⟩;clear hK K;refine nH ?_)|(refine hK _ ?_;clear hK K;refine nH ?_))
  refine⟨HL2.out,?_⟩;go_wp2_with fail;refine MO.out.mono ?_;rintro e w2 ⟨na,hna,rfl,hA,K2⟩;have zlf:=ag (ziu.out.nK K2);have HX2:=ag (K2.heap HX1.out (λx=>x));obtain⟨nb,hnb⟩:∃b,b=w1.heap.size:=⟨_,rfl⟩
  rw[<-hnb]at hA⊢;have zkF:nn.size<=maxLen:=by have:=(zla.out (by first|rfl|trivial)).2.2;unfold maxLen;omega
  obtain⟨NX,hNX⟩:∃N,N=qC L (sK W):=⟨_,rfl⟩
  have hnn:=NL HR.out;rw[<-hNX]at hA hnn;obtain⟨T,hT⟩:∃T,T=(qQ NX nn).isSome:=⟨_,rfl⟩
  obtain⟨a0,a1,p2,n2,Wu,hu⟩:∃a0 a1 p2 n2 Wu,(uM (rQ uN NX) nn).getD (.agg #[.string ⟨#[]⟩,.string ⟨#[]⟩,.slice none 0 0])= .agg #[.string a0,.string a1,.slice p2 n2 Wu]:=by
   rw[KL];cases hg:qQ NX nn with
   | none=>exact⟨_,_,_,_,_,rfl⟩
   | some y=>
    obtain⟨p3,c3,h3⟩:=(hnn _ (Ky hg)).1.len;exact⟨y.name,y.tag,p3,_,c3,by rw[eQ,kT,uN,pO,h3]⟩
  have hlk:=hA.look_ok Tryz.underlying89 nn zkF (Tryz.zeroValue101 w2);rw[hu,KL,Option.isSome_map,<-hT]at hlk;have hA3:=hA.keep ((ah nM w2).alloc (.cells #[.string a0,.string a1,.slice p2 n2 Wu] 101)) (λx=>x);have hlen:=λty=>hA3.size Tryz.underlying89 ty;obtain⟨m,hm⟩:∃m,m=NX.length:=⟨_,rfl⟩
  rw[CE,<-hm]at hlen;have d0:w2.cell? ⟨X,0,none⟩=some (.string nn):=cellOf HX2.out 0 rfl;have HNX:=ag hNX;have HT:=ag hT;have Hm:=ag hm;clear hNX hT hm hu hnn hA hA3 hnb K2 MO hwt;cases T with
  | true=>
   have hHC:¬(qQ NX nn=none∧NX.length=60):=by
    rintro⟨h1,h2⟩;have h3:=HT.out;have h4:=Hm.out;rw[h1]at h3
    first|exact H60.out (h4.trans h2)|cases h3
   have HC:=ag hHC;clear hHC;go_upto_region 9 with(fail)
   have KZ:Keep nM w2 (w2.alloc (.cells #[.string a0,.string a1,.slice p2 n2 Wu] 101)):=(ah _ _).alloc _;obtain⟨Z,hZ⟩:∃Z,Z=w2.heap.size:=⟨_,rfl⟩
   obtain⟨wz,hwz⟩:∃wz,wz=w2.alloc (.cells #[.string a0,.string a1,.slice p2 n2 Wu] 101):=⟨_,rfl⟩
   rw[<-hwz]at KZ;have HXz:=KZ.heap HX2.out (λx=>x);have KWZ:=zlf.out.nK KZ;have Nz:=N.keep KWZ (λ_ _ x=>x);have hnb:=zla.out (by first|rfl|trivial);have hcl:=DI Nz hnb.1 (by omega);rw[<-Hnl.out]at hcl;have z2:wz.cell? ⟨X,2,none⟩=some (.slice pa nl ca):=cellOf HXz 2 rfl;rw[<-hwz,<-hZ];have Hcl:=ag hcl;have HXZ:=ag HXz;have zle:=ag KWZ;clear hwz hZ KZ Nz hcl HXz KWZ hlen hlk d0;go_wp2_with fail;refine Hcl.out.mono ?_;rintro e w3 ⟨v3,rfl,O3,K3⟩;obtain⟨ps,cs,hps⟩:=uD O3;subst hps;have U5:=K3.heap HXZ.out (λx=>x);have y2:w3.cell? ⟨X,2,none⟩=some (.slice pa nl ca):=cellOf U5 2 rfl;have f2:w3.frozen? ⟨X,2,none⟩=false:=dZ U5 2;have Yh:(w3.setCell ⟨X,2,none⟩ (.slice ps nl cs)).heap[X]? =some (.cells #[.string nn,.string tg,.slice ps nl cs] 101 (0,0)):=rW (i:=2) U5 _;have K4:Keep (nY X) w3 (w3.setCell ⟨X,2,none⟩ (.slice ps nl cs)):=(ah _ _).set1 2 _;have KW3:=zle.out.nK K3;have hXlt:w.heap.size<=X:=by rw[HXX.out];exact aF _
   have hN3:uO w3 ⟨nn,tg,.slice ps nl cs,ns⟩:=⟨yu (by rw[<-Hnl.out];exact O3),Jy O3⟩
   have hN4:=hN3.keep K4 (λb c t f hb hh=>by have h1:b=X:=hb;subst h1;rw[oN hh U5];decide)
   have KW4:Keep nM w (w3.setCell ⟨X,2,none⟩ (.slice ps nl cs)):=(KW3.vN (S:=nY X)).then K4|>.mono (λi hi h=>by have h1:i=X:=h;omega);have HN4:=ag hN4;have QG:=ag KW4;have Yh:=ag Yh;obtain⟨w4,hw4⟩:∃w4,w4=w3.setCell ⟨X,2,none⟩ (.slice ps nl cs):=⟨_,rfl⟩
   rw[<-hw4]at HN4 QG Yh;have Hw4:=ag hw4;clear hw4 O3 K3 U5 K4 KW3 hN3 hN4 KW4 Hcl z2;go_upto_region 10 with(fail)
   rw[<-Hw4.out];clear y2 f2 Hw4;have L4:Yq BB X wb (.string nn) w4:=⟨(HB.out.oz QG.out).QN,cellOf Yh.out 0 rfl⟩
   have l1:∀x:rE (Yq BB X wb (.string nn)),x.w.cell? ⟨BB,3,none⟩=some (.map (some wb)):=λx=>x.h.1;have l2:∀x:rE (Yq BB X wb (.string nn)),x.w.cell? ⟨X,0,none⟩=some (.string nn):=λx=>x.h.2;refine nO (Yq BB X wb (.string nn)) [(true,0),(true,1),(true,2),(true,3),(true,4),(true,5),(false,6)] (by kernel_rfl) (by kernel_rfl) (λc a d v w h=>by cases d<;>exact h) ?_;simp only[oQ,nR,aj,ak,au]
   repeat(refine nJ (λK hK=> ?_);go_simp;first|(refine⟨_,λ_=>rfl,hK _ ?_⟩;clear hK K;refine nH ?_)|(refine hK _ ?_;clear hK K;refine nH ?_))
   refine⟨L4,?_⟩;clear l1 l2;have KD:Keep nM w4 w4.drew:=(ah nM w4).drew;have hnw:nw<maxLen:=by unfold maxLen;omega
   obtain⟨w5,hup,Ui,K5⟩:=((HR.out.wait.keep QG.out (λx=>x)).keep KD (λx=>x)).update Tryz.underlying90 hnw nn zkF (.pointer (some ⟨X,0,none⟩));rw[Rn W nn (.pointer (some ⟨X,0,none⟩)) (some ⟨nn,tg,.slice ps nl cs,ns⟩)]at Ui;have Hm5:=ag Ui;have HK5:=ag K5;clear Ui K5 KD L4;go_wp2_with fail;go_ret;have hwt:=HR.out.wait;have zkH:X≠wb:=λe=>by have h1:=hwt.lt;have h2:=HXX.out;omega
   refine PutSaid.ok HNX.out HRR.out.symm HC.out ⟨rfl,(QG.out.drew.vN).then HK5.out,X,.slice ps nl cs,by rw[HXX.out];exact aF _,Hm5.out,?_,?_⟩
   ·exact HK5.out.heap (show w4.drew.heap[X]? =_ from Yh.out) zkH
   ·refine(HN4.out.keep ((ah nM w4).drew) (λ_ _ _ _ h=>h.elim)).keep HK5.out (λb c t f hb hh=> ?_);have h1:b=wb:=hb;subst h1;exact absurd rfl (((hwt.keep QG.out (λx=>x)).keep ((ah nM w4).drew) (λx=>x)).row_ne hh)
  | false=>
   by_cases h60:m=60
   ·have j60:(m:Int)=60:=by omega
    have H60:=ag h60;clear h60;go_wp2_with fail;go_ret;have hg:qQ NX nn=none:=by
     have h3:=HT.out;cases hx:qQ NX nn with
     | none=>rfl
     | some y=>rw[hx]at h3;cases h3
    exact PutSaid.full HNX.out HRR.out.symm hg (Hm.out.symm.trans H60.out) rfl (zlf.out.nK ((ah _ _).alloc _))
   have j60:¬(m:Int)=60:=by omega
   have H60:=ag h60;clear h60;have hHC:¬(qQ NX nn=none∧NX.length=60):=by
    rintro⟨h1,h2⟩;have h3:=HT.out;have h4:=Hm.out;rw[h1]at h3
    first|exact H60.out (h4.trans h2)|cases h3
   have HC:=ag hHC;clear hHC;go_upto_region 9 with(fail)
   have KZ:Keep nM w2 (w2.alloc (.cells #[.string a0,.string a1,.slice p2 n2 Wu] 101)):=(ah _ _).alloc _;obtain⟨Z,hZ⟩:∃Z,Z=w2.heap.size:=⟨_,rfl⟩
   obtain⟨wz,hwz⟩:∃wz,wz=w2.alloc (.cells #[.string a0,.string a1,.slice p2 n2 Wu] 101):=⟨_,rfl⟩
   rw[<-hwz]at KZ;have HXz:=KZ.heap HX2.out (λx=>x);have KWZ:=zlf.out.nK KZ;have Nz:=N.keep KWZ (λ_ _ x=>x);have hnb:=zla.out (by first|rfl|trivial);have hcl:=DI Nz hnb.1 (by omega);rw[<-Hnl.out]at hcl;have z2:wz.cell? ⟨X,2,none⟩=some (.slice pa nl ca):=cellOf HXz 2 rfl;rw[<-hwz,<-hZ];have Hcl:=ag hcl;have HXZ:=ag HXz;have zle:=ag KWZ;clear hwz hZ KZ Nz hcl HXz KWZ hlen hlk d0;go_wp2_with fail;refine Hcl.out.mono ?_;rintro e w3 ⟨v3,rfl,O3,K3⟩;obtain⟨ps,cs,hps⟩:=uD O3;subst hps;have U5:=K3.heap HXZ.out (λx=>x);have y2:w3.cell? ⟨X,2,none⟩=some (.slice pa nl ca):=cellOf U5 2 rfl;have f2:w3.frozen? ⟨X,2,none⟩=false:=dZ U5 2;have Yh:(w3.setCell ⟨X,2,none⟩ (.slice ps nl cs)).heap[X]? =some (.cells #[.string nn,.string tg,.slice ps nl cs] 101 (0,0)):=rW (i:=2) U5 _;have K4:Keep (nY X) w3 (w3.setCell ⟨X,2,none⟩ (.slice ps nl cs)):=(ah _ _).set1 2 _;have KW3:=zle.out.nK K3;have hXlt:w.heap.size<=X:=by rw[HXX.out];exact aF _
   have hN3:uO w3 ⟨nn,tg,.slice ps nl cs,ns⟩:=⟨yu (by rw[<-Hnl.out];exact O3),Jy O3⟩
   have hN4:=hN3.keep K4 (λb c t f hb hh=>by have h1:b=X:=hb;subst h1;rw[oN hh U5];decide)
   have KW4:Keep nM w (w3.setCell ⟨X,2,none⟩ (.slice ps nl cs)):=(KW3.vN (S:=nY X)).then K4|>.mono (λi hi h=>by have h1:i=X:=h;omega);have HN4:=ag hN4;have QG:=ag KW4;have Yh:=ag Yh;obtain⟨w4,hw4⟩:∃w4,w4=w3.setCell ⟨X,2,none⟩ (.slice ps nl cs):=⟨_,rfl⟩
   rw[<-hw4]at HN4 QG Yh;have Hw4:=ag hw4;clear hw4 O3 K3 U5 K4 KW3 hN3 hN4 KW4 Hcl z2;go_upto_region 10 with(fail)
   rw[<-Hw4.out];clear y2 f2 Hw4;have L4:Yq BB X wb (.string nn) w4:=⟨(HB.out.oz QG.out).QN,cellOf Yh.out 0 rfl⟩
   have l1:∀x:rE (Yq BB X wb (.string nn)),x.w.cell? ⟨BB,3,none⟩=some (.map (some wb)):=λx=>x.h.1;have l2:∀x:rE (Yq BB X wb (.string nn)),x.w.cell? ⟨X,0,none⟩=some (.string nn):=λx=>x.h.2;refine nO (Yq BB X wb (.string nn)) [(true,0),(true,1),(true,2),(true,3),(true,4),(true,5),(false,6)] (by kernel_rfl) (by kernel_rfl) (λc a d v w h=>by cases d<;>exact h) ?_;simp only[oQ,nR,aj,ak,au]
   repeat(refine nJ (λK hK=> ?_);go_simp;first|(refine⟨_,λ_=>rfl,hK _ ?_⟩;clear hK K;refine nH ?_)|(refine hK _ ?_;clear hK K;refine nH ?_))
   refine⟨L4,?_⟩;clear l1 l2;have KD:Keep nM w4 w4.drew:=(ah nM w4).drew;have hnw:nw<maxLen:=by unfold maxLen;omega
   obtain⟨w5,hup,Ui,K5⟩:=((HR.out.wait.keep QG.out (λx=>x)).keep KD (λx=>x)).update Tryz.underlying90 hnw nn zkF (.pointer (some ⟨X,0,none⟩));rw[Rn W nn (.pointer (some ⟨X,0,none⟩)) (some ⟨nn,tg,.slice ps nl cs,ns⟩)]at Ui;have Hm5:=ag Ui;have HK5:=ag K5;clear Ui K5 KD L4;go_wp2_with fail;go_ret;have hwt:=HR.out.wait;have zkH:X≠wb:=λe=>by have h1:=hwt.lt;have h2:=HXX.out;omega
   refine PutSaid.ok HNX.out HRR.out.symm HC.out ⟨rfl,(QG.out.drew.vN).then HK5.out,X,.slice ps nl cs,by rw[HXX.out];exact aF _,Hm5.out,?_,?_⟩
   ·exact HK5.out.heap (show w4.drew.heap[X]? =_ from Yh.out) zkH
   ·refine(HN4.out.keep ((ah nM w4).drew) (λ_ _ _ _ h=>h.elim)).keep HK5.out (λb c t f hb hh=> ?_);have h1:b=wb:=hb;subst h1;exact absurd rfl (((hwt.keep QG.out (λx=>x)).keep ((ah nM w4).drew) (λx=>x)).row_ne hh)
def DelSaid(w w':World)(wb nw:Nat)(L:List vO)(W:List wF)(k:af)(e:Ending):Prop:=
 if qQ (qC L (sK W)) k=none then e= .returned (errVal 7)∧Keep nM w w'
 else e= .returned .nilIface∧Keep (nY wb) w w'∧oJ w' wb (nw+1) (rQ Prod.fst (xN W k (.pointer none,none)))
theorem zaI(k:af)(hk:k.size<=maxLen)(hB:rZ w BB B nS mb wb CC)(hR:Au w mb wb nm nw L W)(hsm:nm+nw<1000000):
  ae 71 #[.pointer (some ⟨BB,0,none⟩),.string k] w λe w'=>DelSaid w w' wb nw L W k e:=by
 have hnx:=DK hB hR hsm;have MO:=ag hnx;clear hnx;go_enter Tryz.func71,Tryz.ntmps71;go_wp2_with fail;refine MO.out.mono ?_;rintro e w2 ⟨na,hna,rfl,hA,K2⟩;obtain⟨nb,hnb⟩:∃b,b=w.heap.size:=⟨_,rfl⟩
 rw[<-hnb]at hA⊢;obtain⟨NX,hNX⟩:∃N,N=qC L (sK W):=⟨_,rfl⟩
 have hnn:=NL hR;rw[<-hNX]at hA hnn;obtain⟨T,hT⟩:∃T,T=(qQ NX k).isSome:=⟨_,rfl⟩
 obtain⟨a0,a1,p2,n2,Wu,hu⟩:∃a0 a1 p2 n2 Wu,(uM (rQ uN NX) k).getD (.agg #[.string ⟨#[]⟩,.string ⟨#[]⟩,.slice none 0 0])= .agg #[.string a0,.string a1,.slice p2 n2 Wu]:=by
  rw[KL];cases hg:qQ NX k with
  | none=>exact⟨_,_,_,_,_,rfl⟩
  | some y=>
   obtain⟨p3,c3,h3⟩:=(hnn _ (Ky hg)).1.len;exact⟨y.name,y.tag,p3,_,c3,by rw[eQ,kT,uN,pO,h3]⟩
 have hlk:=hA.look_ok Tryz.underlying89 k hk (Tryz.zeroValue101 w2);rw[hu,KL,Option.isSome_map,<-hT]at hlk;have HNX:=ag hNX;have HT:=ag hT;have HB:=ag hB;have HR:=ag hR;have KZ:Keep nM w2 (w2.alloc (.cells #[.string a0,.string a1,.slice p2 n2 Wu] 101)):=(ah _ _).alloc _;have KW:=K2.nK KZ;have b3:=(hB.oz KW).QN;have hnw:nw<maxLen:=by unfold maxLen;omega
 obtain⟨w5,hup,Ui,K5⟩:=(hR.wait.keep KW (λx=>x)).update Tryz.underlying90 hnw k hk (.pointer none);rw[Rn W k (.pointer none) none]at Ui;have Hm5:=ag Ui;have HK5:=ag K5;have MN:=ag KW;clear hNX hT hu hnn hA hnb K2 MO hB hR Ui K5 KZ KW;cases T with
 | false=>
  go_wp2_with fail;go_ret;have hg:qQ NX k=none:=by
   have h3:=HT.out;cases hx:qQ NX k with
   | none=>rfl
   | some y=>rw[hx]at h3;cases h3
  unfold DelSaid;rw[<-HNX.out,aP hg];exact⟨rfl,MN.out⟩
 | true=>
  go_wp2_with fail;go_ret;have hg:qQ NX k≠none:=by intro hx;have h3:=HT.out;rw[hx]at h3;cases h3
  unfold DelSaid;rw[<-HNX.out,aB hg];exact⟨rfl,MN.out.vN.then HK5.out,Hm5.out⟩
end
def zcw(tag:af)(x:pR):Bool:=decide (tag=⟨#[]⟩)||decide (x.2.1=tag)
def za9(at_:List Int)(x:pR):rU:=(x.1,PX x.2.2 at_)
def FH(l:List pR)(at_:List Int)(k:Int)(tag:af):List rU:=(sU ((l.filter (zcw tag)).map (za9 at_))).take k.toNat
theorem zlj(l:List oK)(at_:List Int)(k:Int)(tag:af):tV l at_ k tag=FH (l.map nZ) at_ k tag:=by unfold tV FH qN;rw[List.filter_map,fU];rfl
section
open Go.Sort Go.Shelf
def tJ(w w':World)(nS:Nat)(l:List pR)(at_:List Int)(k:Int)(tag:af)(e:Ending):Prop:=
 if nS=0 then e= .returned (.tuple #[.slice none 0 0,.int .i64 0,errVal 6])
 else if DN nS at_ k=false then e= .returned (.tuple #[.slice none 0 0,.int .i64 0,errVal 1])
 else∃(v':Value) (looked:Nat),e= .returned (.tuple #[v',.int .i64 looked,.nilIface])∧sQ w' v' 2 yG (FH l at_ k tag)∧looked<=l.length∧∀b,v'.ownBlock=some b->w.heap.size<=b
theorem XZ(s:af)(hs:s.size<=1000000)(w:World):ae 118 #[.string s] w λe w'=>e= .returned (.string s)∧Keep nM w w':=by have hc:=Tryz.stringslite_Clone s w (by omega);have Hc:=ag hc;clear hc;go_enter Tryz.func118,Tryz.ntmps118;go_wp2_with fail;refine Hc.out.mono ?_;rintro e w1 ⟨rfl,hb⟩;go_wp2_with fail;go_ret;exact⟨rfl,Keep.vg hb⟩
def YI(BB CC:Nat)(W:World):Prop:=W.cell? ⟨BB,4,none⟩=some (.pointer (some ⟨CC,0,none⟩))
section
variable {w:World}{BB B nS mb wb CC nm nw:Nat}{L:List vO}
theorem Uc(hB:rZ w BB B 0 mb wb CC)(va:Value)(k:Int)(tag:af):
  ae 74 #[.pointer (some ⟨BB,0,none⟩),va,.int .i64 k,.string tag] w λe w'=>e= .returned (.tuple #[.slice none 0 0,.int .i64 0,errVal 6])∧Keep nM w w':=by
 have b1:=hB.cell1;go_enter Tryz.func74,Tryz.ntmps74;go_wp2_with fail
 go_ret3
 exact⟨rfl,ah _ _⟩
theorem PO(hB:rZ w BB B nS mb wb CC)(hd:nS≠0)(va:Value)(k:Int)(tag:af)(ht:tag.size<=1000000)(R:World->Value->Value->Value->Prop)
  (hT:∀W,Keep nM w W->ae 117 #[.pointer (some ⟨CC,0,none⟩),va,.int .i64 k,.string tag] W λe w'=>∃a b c,e= .returned (.tuple #[a,b,c])∧R w' a b c∧Keep nM W w'):
  ae 74 #[.pointer (some ⟨BB,0,none⟩),va,.int .i64 k,.string tag] w λe w'=>∃a b c,e= .returned (.tuple #[a,b,c])∧R w' a b c∧Keep nM w w':=by
 have b1:=hB.cell1;have b4:YI BB CC w:=hB.YB;have hlt:=hB.lt;have n0:((nS:Nat):Int)≠0:=by omega
 have HT:=ag hT;clear hT;go_enter Tryz.func74,Tryz.ntmps74;go_wp2_with fail;have l1:∀x:rE (YI BB CC),x.w.cell? ⟨BB,4,none⟩=some (.pointer (some ⟨CC,0,none⟩)):=λx=>x.h;refine nO (YI BB CC) [(true,0),(true,1),(true,2),(true,3),(true,4),(true,5),(true,6),(false,7),(false,8),(true,9),(true,10),(true,11),(true,12),(true,13),(false,14)] (by kernel_rfl) (by kernel_rfl) (λc a d v w h=>by cases d<;>exact h) ?_;simp only[oQ,nR,aj,ak,au]
 repeat(refine nJ (λK hK=> ?_);go_simp;first|(refine⟨_,λ_=>rfl,hK _ ?_⟩;clear hK K;refine nH ?_)|(refine hK _ ?_;clear hK K;refine nH ?_))
 clear l1;refine⟨b4,?_⟩;go_wp2_with fail;refine(XZ tag ht _).mono ?_;rintro e w1 ⟨rfl,K1⟩;have KW1:Keep nM w w1:=((ah nM w).drew).nK K1;have b4':YI BB CC w1:=(KW1.cell (p:=⟨BB,4,none⟩) hlt (λx=>x)).trans b4;go_wp2_with fail;refine⟨b4',?_⟩;go_wp2_with fail;refine(HT.out _ KW1).mono ?_;rintro e w2 ⟨x0,x1,x2,rfl,hR,K2⟩;have zpl:YI BB CC w2:=(K2.cell (p:=⟨BB,4,none⟩) (dA hlt KW1.size) (λx=>x)).trans b4';have HRR:=ag hR;have HK:=ag (KW1.nK K2);clear hR K2 K1 KW1 HT;go_wp2_with fail
 repeat(refine nJ (λK hK=> ?_);go_simp;first|(refine⟨_,λ_=>rfl,hK _ ?_⟩;clear hK K;refine nH ?_)|(refine hK _ ?_;clear hK K;refine nH ?_))
 refine⟨zpl,?_⟩;go_wp2_with fail
 go_ret3
 exact⟨_,_,_,rfl,HRR.out,HK.out⟩
theorem X9(hB:rZ w BB B nS mb wb CC)(hC:BA w CC nS L)(hl:L.length<=1000)(hd8:nS<=8)(hL:∀p∈L,yT p.2.ns∧p.2.ns.length=nS){va:Value}{at_:List Int}(N:Nums w va at_)(ha:at_.length<=1000000)(k:Int)(tag:af)(ht:tag.size<=1000000):
  ae 74 #[.pointer (some ⟨BB,0,none⟩),va,.int .i64 k,.string tag] w λe w'=>tJ w w' nS (L.map λp=>nZ p.2) at_ k tag e∧Keep nM w w':=by
 by_cases h0:nS=0
 ·subst h0;refine(Uc hB va k tag).mono ?_;rintro e w' ⟨rfl,K⟩;exact⟨by unfold tJ;rw[aP rfl],K⟩
 obtain⟨base,cv,bs,l,hcells,hnum,hsame⟩:=hC.cells;have hll:l.length=L.length:=by have:=dK List.length hsame;simpa using this
 cases hask:DN nS at_ k with
 | false=>
  refine(PO hB h0 va k tag ht (λw' a b c=>a= .slice none 0 0∧b= .int .i64 0∧c=errVal 1) (λW K=> ?_)).mono ?_
  ·refine(zaA CC nS cv va at_ k tag W (K.heap hcells.head (λx=>x)) (N.keep K (λ_ _ x=>x)) ha hask).mono ?_;rintro e w' ⟨he,rfl⟩;exact⟨_,_,_,he,⟨rfl,rfl,rfl⟩,ah _ _⟩
  ·rintro e w' ⟨a,b,c,rfl,⟨rfl,rfl,rfl⟩,K⟩;refine⟨?_,K⟩;unfold tJ;rw[aB h0,aP hask]
 | true=>
  have hq:=hask;simp only[DN,aZ,aS,eY]at hq;have hat:yT at_:=by intro n hn;have h1:=hq.1.1.2;rw[je]at h1;have:=h1 n hn;simp only[BD,dP,aS,not_or]at this;omega
  have hA:YJ l at_ nS:=⟨hat,by omega,hd8,λx hx=>by obtain⟨p,hp,e⟩:=zcO (w:=w) (base:=0) (v:=va) hsame x hx;have e2:x.ns=p.2.ns:=dK (λq:pR=>q.2.2) e;rw[e2];exact hL p hp⟩
  refine(PO hB h0 va k tag ht (λw' a b c=>∃looked:Nat,b= .int .i64 looked∧c= .nilIface∧sQ w' a 2 yG (tV l at_ k tag)∧looked<=l.length∧∀b,a.ownBlock=some b->w.heap.size<=b) (λW K=> ?_)).mono ?_
  ·refine(X3 CC nS cv va bs _ l at_ k tag base W (hcells.oz K) (Wl l) hA (N.keep K (λ_ _ x=>x)) (λx hx=>((hnum x hx).keep K (λ_ _ _ _ h=>h.elim)).1) (by omega) hask).mono ?_;rintro e w' ⟨v',looked,he,hr,hlk,hnw,K2⟩;exact⟨_,_,_,he,⟨looked,rfl,rfl,hr,hlk,λb hb=>bH K.size (hnw b hb)⟩,K2⟩
  ·rintro e w' ⟨a,b,c,rfl,⟨looked,rfl,rfl,hr,hlk,hnw⟩,K⟩;refine⟨?_,K⟩;unfold tJ;rw[aB h0,aB (by rw[hask];decide)];rw[zlj,hsame]at hr;exact⟨a,looked,rfl,hr,by rw[aI];omega,hnw⟩
end
end
end Go.Proofs.YtopbkdebihcmcaaGreatDoor
