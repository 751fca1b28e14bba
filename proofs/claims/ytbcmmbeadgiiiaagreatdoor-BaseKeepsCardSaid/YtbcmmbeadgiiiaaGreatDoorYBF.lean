import Derived.Test.YtbcmmbeadgiiiaaGreatDoorYBA
import Derived.Test.YtbcmmbeadgiiiaaGreatDoorYBE
set_option linter.all false
namespace Go.Proofs.YtbcmmbeadgiiiaaGreatDoor
open Go.RowKit Tryz
set_option maxRecDepth 100000
set_option maxHeartbeats 16000000
variable{c:Array ay}{N:List (af×sW)}{CU at_:List Int}{T ZG qy:List af}{L Nw' Nx':List qP}{l:List sW}{W:List zS}{B BB C D RN S k' mb n nm qE wb:Nat}{I J:Nat->Prop}{f:Nat×Nat}{w w' w0 w2:ax}{av nv' sv tv v va wv xv':ay}{V V':qI}{b b':sH}{d:vN}
section
variable [Inhabited Bd]
def zab{n:Int}(h:VN w0 w B D C S wv V d n):Gl w (VB B D C S wv):=by
 rintro b c t f (hs|rfl|rfl) hh
 ·obtain⟨c',t',f',h1,h2⟩:=Kt h.dev b hs;rw[rD hh h1];rcases h2 with h2|h2|h2<;>rw[h2]<;>exact⟨by decide,by decide,by decide,by decide,by decide⟩
 ·rw[rD hh h.G9.row];exact⟨by decide,by decide,by decide,by decide,by decide⟩
 rw[rD hh h.Ea];exact⟨by decide,by decide,by decide,by decide,by decide⟩
def ZT{n:Int}(h:VN w0 w B D C S wv V d n){L:List vP}(hm:sF w mb nm L):¬VB B D C S wv mb:=by
 rintro(hs|rfl|rfl)
 ·obtain⟨c',t',f',h1,h2⟩:=Kt h.dev mb hs;exact hm.xI h1 rfl
 ·exact hm.xI h.G9.row rfl
 exact hm.xI h.Ea rfl
def Sj{n:Int}(h:VN w0 w B D C S wv V d n){b:Nat}(hb:w.heap[b]? =some (.cells c 109 f)):¬VB B D C S wv b:=by
 rintro(hs|rfl|rfl)
 ·obtain⟨c',t',f',h1,h2⟩:=Kt h.dev b hs;have:=rD hb h1;rw[<-this]at h2;rcases h2 with h2|h2|h2<;>exact absurd h2 (by decide)
 ·exact absurd (rD hb h.G9.row) (by decide)
 exact absurd (rD hb h.Ea) (by decide)
end
section
variable [Inhabited Bd]
section
variable {w:ax}{BB B qE mb wb CC nm nw:Nat}{L:List Aa}{W:List zS}
def zcN(hB:wB w BB B qE mb wb CC)(hV:qU w B D C V):
  ae 25 #[.pointer (some ⟨BB,0,none⟩)] w (au (.int .i64 V.now.count) w):=by
 have b0:=hB.cell0;have hc:=zbC hV;have Hc:=ag hc;clear hc;go_enter func25,ntmps25;go_wp2_with fail;refine Hc.o.m ?_;rintro e w1 ⟨rfl,vF⟩;subst w1;go_wp2_with fail;go_ret;exact⟨rfl,ah _ _⟩
def zbB(h:qU w B D C V):
  ae 71 #[.pointer (some ⟨B,0,none⟩)] w λe w'=>e= .returned (.int .i64 V.now.qB)∧w'=w:=by
 have c:=h.qB;have rE:=h.lt;obtain⟨T,hT⟩:=aj V.now.qB;rw[<-hT]at c⊢;clear hT h;go_enter func71,ntmps71;go_wp2_with fail;go_ret;exact⟨rfl,rfl⟩
def zcM(hB:wB w BB B qE mb wb CC)(hV:qU w B D C V):
  ae 26 #[.pointer (some ⟨BB,0,none⟩)] w (au (.int .i64 V.now.qB) w):=by
 have b0:=hB.cell0;have hc:=zbB hV;have Hc:=ag hc;clear hc;go_enter func26,ntmps26;go_wp2_with fail;refine Hc.o.m ?_;rintro e w1 ⟨rfl,vF⟩;subst w1;go_wp2_with fail;go_ret;exact⟨rfl,ah _ _⟩
end
end
section
variable [Inhabited Bd]
def PL(L:List Aa):rU (BK L)=L.map (λp=>qA p.2):=by unfold rU BK wH;rw[iy];rfl
end
section
variable [Inhabited Bd]
def zkg(w0 w w':ax)(BB B D C S qE:Nat)(wv:ay)(secret:af)(V:qI)(d:vN)(n:Nat)(L:List Aa)(nm:Nat)(W:List (Nat×af))(e:Ending):Prop:=
 ∃zV d',Gx w wv zV∧((e= .returned .nilIface∧VN w0 w' B D C S zV (xG V V.now.qB W) d' ((n+1:Nat):Int)∧xR secret (xG V V.now.qB W) d'.qy (n+1)∧d'.wait= []∧(d.qR<0->d'.qR=d.qR)∧(∃mb' wb' CC' nm',w.heap.size<=mb'∧w.heap.size<=wb'∧nm'<=nm∧wB w' BB B qE mb' wb' CC'∧FP w' mb' wb' nm' 0 L []∧Gz w' CC' qE L))∨
  (e= .returned (qY 14)∧VN w0 w' B D C S zV (VC V) d' n∧0<=d.qR∧∀keeps,xR secret V (wO d'.qy d'.wait keeps d'.wait.length) n∨xR secret (xG V V.now.qB W) (wO d'.qy d'.wait keeps d'.wait.length) (n+1)))
def zbU(BA:loB<=w.heap.size){CC nw:Nat}{secret:af}{L:List Aa}
  (hB:wB w BB B qE mb wb CC) (hR:FP w mb wb nm nw L W) (hv:VN w0 w B D C S wv V d n) (hBB:w0.heap.size<=BB) (hi:xR secret V d.qy n) (hw:d.wait= []) (hn:n<1000) (yR:secret.size<=1000) (RV:rF w0) (PV:CS w0)
  (hs:Ic (uY L (wV W))) (hp:uZ qE ((uY L (wV W)).map (λp=>qA p.2))=true) (TA:nm+nw<1000000):
  ae 20 #[.pointer (some ⟨BB,0,none⟩)] w λe w'=>
   zkg w0 w w' BB B D C S qE wv secret V d n (uY L (wV W)) (nm+nw) (uf (ug (uC ⟨(xW qE ((uY L (wV W)).map (λp=>qA p.2))).toArray⟩) 32) (zi V)) e∧Keep (λb=>VB B D C S wv b∨b=BB) w w':=by
 obtain⟨NX,hNX⟩:=aj (uY L (wV W));have hnn:=We hR;have Bl:=JK hB hR TA;rw[<-hNX]at hs hp hnn Bl⊢;have HNX:=ag hNX;clear hNX;obtain⟨S',hS'⟩:∃s:af,s=⟨(xW qE (NX.map (λp=>qA p.2))).toArray⟩:=⟨_,rfl⟩
 rw[<-hS'];have HS:=ag hS';clear hS';have hdim:1<=qE∧qE<=8:=by simp only[uZ,bI,aW]at hp;omega
 have hd0:((qE:Nat):Int)≠0:=by omega
 have b1:=hB.BH;have rE:=hB.lt;have hfew:=hs.few;have JS:=ag Bl;clear Bl;go_enter func20,ntmps20;go_wp2_with fail;refine JS.o.m ?_;rintro e w1 ⟨na,hna,rfl,hA,K1⟩;obtain⟨nb,GG⟩:=aj w.heap.size;rw[<-GG]at hA⊢;have QR:=ag GG;have Lu:=ag K1;have zf7:=(lI (n:=5)).1 (U0 (some nb) w1);have H5:=(lI (n:=5)).1 (P8 hA (by rw[wH,aP];omega));have zgn:=ag zf7;have I4:=ag H5;have b11:=(hB.rV K1).BH;clear zf7 H5 GG K1 JS;go_wp2_with fail;refine zgn.o.m ?_;rintro e w' ⟨rfl,rfl⟩;go_wp2_with fail;refine I4.o.m ?_;rintro e w2 ⟨v,ss,rfl,hS,uU,Zv,hb⟩;have hr:=hA.rising;have hss:ss.length=((wH yL NX).map (·.1)).length:=by rw[hS.length_eq,PI,zds]
 rw[UI hr hS,X7,hss,zgS]at uU;have own:=qF.of uU;have yx:Strs w2 v (NX.map (·.1)):=J6 own;have K2:ak w w2:=(Lu.o.alloc (.cells #[.map (some nb)] 105)).qo ⟨hb.os,hb.tape,hb.output,hb.size,λi hi _=>hb.block i hi⟩;have FB:ak w1 w2:=((ah qw w1).alloc (.cells #[.map (some nb)] 105)).qo ⟨hb.os,hb.tape,hb.output,hb.size,λi hi _=>hb.block i hi⟩;obtain⟨N,hN⟩:=aj (NX.map (·.1));rw[<-hN]at yx own;obtain⟨p,c,rfl⟩:=yx.len;obtain⟨m,hm⟩:=aj N.length;have hmL:m=NX.length:=by rw[hm,hN,aP]
 rw[<-hm]at yx⊢;have HN:=ag hN;have Hm:=ag hm;have HmL:=ag hmL;have Jm:=ag yx;have HA:=ag (hA.qm FB id);have Xo:=ag K2;obtain⟨i0,zM,Ba,Vg,Vd⟩:=Fg;clear hN uU Zv hS hss hm hmL own yx hb hr K2 FB zgn I4 hA b1 b11;go_wp2_with fail;have Hnn:=ag hnn;clear hnn
 go_loopw [4,25] (λlv iv wr=>∃(k:Nat) (o:ay),k<=m∧iv= .int .i64 k∧o=lv∧Hid (qF wr w2.heap.size 45 3 o k (((NX.take k).map (·.2)).flatMap rC))∧Hid (ak w2 wr)) (λ_ iv _=>m-(intOf iv).toNat)
 case atStart=>exact⟨0,_,by omega,rfl,rfl,ag (by rw[dD];exact qF.nil _ _ _ _),ag (ah _ _)⟩
 case round=>
  obtain⟨k,o,hk,rfl,rfl,hO,K⟩:=hrel;obtain⟨wo,rfl⟩:=aj wr;by_cases rE:k<m
  ·have j1:(k:Int)<m:=by omega
   have Tr:=Jm.o.qm K.o (λ_ _ x=>x);obtain⟨b,off,rfl,-,hb,uw⟩:=Tr.at (by rw[<-Hm.o];omega);have QN:=uw k (by rw[<-Hm.o];exact rE);obtain⟨q,hq⟩:∃q,NX[k]? =some q:=⟨_,aK (by have:=HmL.o;omega)⟩
   have Zn:q∈NX:=bG hq;have hnk:N.getD k ⟨#[]⟩=q.1:=by rw[HN.o,aG,aX,hq];rfl
   rw[hnk]at QN;have hAo:=HA.o.qm K.o id;have Jn:zt (wH yL NX) q.1=some (yL q.2):=zas hAo.TN (bY.2 ⟨q,Zn,rfl⟩);have NR:=(Hnn.o q Zn).1.len;have znU:=hs.name q Zn;have htk:(NX.take (k+1)).map (·.2)=(NX.take k).map (·.2)++ [q.2]:=by have h1:=aT.1 hq;rw[aZ h1.1,h1.2,dK];rfl
   obtain⟨nm,x⟩:=q;simp only at QN Jn NR znU htk;have ztI:nm.size<=maxLen:=by unfold maxLen;omega
   have NS:=hAo.look iP nm ztI (oW wo);rw[Jn,nN]at NS;obtain⟨xn,xt,xa,xs⟩:=x;obtain⟨pa,ca,hpa⟩:=NR;simp only at hpa;subst hpa;simp only[yL,rC]at NS;obtain⟨nl,CV⟩:=aj xs.length;have hxe:rC ⟨xn,xt,.slice pa xs.length ca,xs⟩= [.string xn,.string xt,.slice pa nl ca]:=by rw[CV];rfl
   rw[<-CV]at NS;have zoy:k<1000:=by have:=HmL.o;omega
   have Htk:=ag htk;have Hxe:=ag hxe;have HK:=ag K.o;clear htk hxe CV hq Zn hnk Jn hAo Tr uw;go_wp2_with (at_builtin;refine tC _ rfl _ _ 49 rfl w2.heap.size 45 i0 _ 3 56 kK zM Ba Vg Vd rfl (by decide) o _ _ rfl (hO.o.alloc _) ⟨wo.heap.size,0,none⟩ 1 1 [.string xn,.string xt,.slice pa nl ca] rfl rfl (rJ _ _ _) (Am xn xt pa nl ca) (by unfold maxLen;omega) (by omega) (by have:=HK.o.size;simp;omega) ?_;intro v' w' II xh);have KN:ak w2 w':=(HK.o.alloc (.cells #[.string xn,.string xt,.slice pa nl ca] 45)).grown xh (λb hb=> .inr (hO.o.lt b hb).1);refine⟨⟨k+1,v',by omega,by go_num,rfl,ag ?_,ag KN⟩,by simp[intOf];omega⟩;rw[Htk.o,dU];have e: [(⟨xn,xt,.slice pa xs.length ca,xs⟩:qP)].flatMap rC= [.string xn,.string xt,.slice pa nl ca]:=by rw[dZ,ku,dS,Hxe.o]
   rw[e];exact II
  obtain⟨q,hq⟩:=aj m;obtain rfl:k=m:=by omega
  have j1:¬(k:Int)<k:=by omega
  have hOo:=hO.o;have hN:NX.take k=NX:=bg (by rw[<-HmL.o];exact aS _);rw[hN]at hOo;obtain⟨IL,hIL⟩:=aj (NX.map (·.2));have zua:IL.map qA=NX.map (λp=>qA p.2):=by rw[hIL,iy];rfl
  have znv:IL.length=k:=by rw[hIL,aP];exact HmL.o.s
  rw[<-hIL]at hOo;have KWo:=Xo.o.qo K.o;have zAt:ak w wo:=KWo;have hit:zT wo o IL:=⟨uT.yw zf (by rw[znv];exact hOo),λx hx=>by rw[hIL]at hx;obtain⟨p,hp,rfl⟩:=bY.1 hx;exact(Hnn.o p hp).1.qm KWo (λ_ _ x=>x)⟩
  obtain⟨po,co,rfl⟩:=hit.rows.len;have Rq:=zdm qE (.slice po IL.length co) IL wo hit (by rw[znv];unfold maxLen;have:=HmL.o;omega) (λx hx=>by rw[hIL]at hx;obtain⟨p,hp,rfl⟩:=bY.1 hx;have:=hs.le p hp;omega) (PV.qm (hv.qm.qo KWo) id)
  have e1:Js qE IL=S':=by rw[Js,zua,bu hp,HS.o]
  have e2:H9 qE IL= .nilIface:=by rw[H9,zua,bu hp]
  rw[e1,e2]at Rq;have uF:S'.size<=6400:=by rw[HS.o];exact SK hp
  have b1:=(hB.rV KWo).BH;rw[znv]at Rq⊢;have HILl:=ag znv;have Hpr:=ag Rq;have zBi:=ag KWo;have HB:=ag hB;have HR:=ag hR;have HV:=ag hv;have HA2:=ag (HA.o.qm K.o id);clear Rq znv e1 e2 hit hOo hO K hN hq KWo zAt hIL zua hB hR hv;go_upto_region 10 with(fail)
  clear j1;go_wp2_with fail;refine Hpr.o.m ?_;rintro e w3 ⟨rfl,K3⟩;have ZE:=ag (zBi.o.qo K3);have HA3:=ag (HA2.o.qm K3 id);clear Hpr b1 K3;have hmm:= @run_makeMap prog;go_upto_region 14 with(fail)
  clear hmm;obtain⟨ms,Jl⟩:=aj w3.heap.size;obtain⟨w4,LC⟩:=aj (w3.alloc (Obj.map #[] 0));have m0:yB w4 ms 0 (ug (uC S') 0):=by rw[LC,Jl];exact nU _ _ _ _
  have K4:ak w3 w4:=by rw[LC];exact(ah _ _).alloc _
  rw[<-LC,<-Jl];have Hms:=ag Jl;have HK4:=ag K4;obtain⟨s0,ztA⟩:=aj (Gs S' 0);have ztB:S'=s0:=by rw[ztA,zjX]
  have Hsz:=ag uF;have Hs0:=ag ztA;clear Jl LC K4 ztA uF;go_upto_region 15 with(fail)
  rw[ztB];have Hs00:=ag ztB;clear ztB
  go_loopw [7,49] (λsv iv wr=>∃(j:Nat) (s:af),j<=32∧iv= .int .i64 j∧sv= .string s∧Hid (s=Gs S' j)∧Hid (yB wr ms j (ug (uC S') j))∧Hid (ak w3 wr)) (λ_ iv _=>32-(intOf iv).toNat)
  ·exact⟨0,s0,by omega,rfl,rfl,Hs0,ag m0,HK4⟩
  obtain⟨j,s,hj,rfl,rfl,hse,hmr,KR⟩:=hrel;obtain⟨wp,rfl⟩:=aj wr;by_cases zzP:j<32
  ·have j2:(j:Int)<32:=by omega
   have hs6:s.size<=6400:=by rw[hse.o,zjY];have:=Hsz.o;omega
   obtain⟨nn,hnn⟩:=aj (min s.size 200);have zwf:min (s.size:Int) 200=(nn:Int):=by omega
   have hcut:=zmF S' j;rw[<-hse.o,<-hnn]at hcut;have zzE:nn<=s.size:=by omega
   have hch:=F5 S' j;have Jn:(uC S').getD j ⟨#[]⟩=E5 S' j:=by rw[uC,aG,aX,kP zzP];rfl
   obtain⟨ck,QN⟩:=aj (E5 S' j);rw[<-QN]at hcut hch Jn;obtain⟨sn,hsn⟩:=aj (Gs S' (j+1));rw[<-hsn]at hcut;have hsl1:∀W:ax,(Instr.slice 9 (.string s) none (some (.int .i64 nn)) none).run prog W= .ok (.string ck) W:=λW=>by rw[run_slice_string_h (ht:=bK) (h0:=by omega) (h2:=by omega),kJ,hcut.1]
   have zty:∀W:ax,(Instr.slice 9 (.string s) (some (.int .i64 nn)) none none).run prog W= .ok (.string sn) W:=λW=>by rw[run_slice_string_l (ht:=bK) (h0:=by omega) (h1:=by omega),kJ,hcut.2]
   have KD:ak wp wp.drew:=(ah qw wp).drew;have hmo:yB wp.drew ms j (ug (uC S') j):=World.ownsMap.kept hmr.o (zj0 KD none) (by simp);obtain⟨v0,w5,st,w6,hme,hes,hm6,hg6⟩:=yB.entry hmo (by unfold maxLen;omega) j (by omega) ck (by unfold maxLen;omega);rw[<-Jn,SQ]at hm6;have Hm6:=ag hm6;have HK6:=ag ((KR.o.qo KD).grown hg6 (λq hq=> .inr (by have h1:=aU hq;have:=Hms.o;omega)));have Hsn:=ag hsn;clear hm6 hg6 hmo KD Jn hch hcut QN hsn hnn hs6 zzE;go_upto_region 18 with(fail)
   refine qX (λ_=>True) [(true,0),(true,1),(true,2),(true,3),(true,4),(true,5),(true,6),(true,7),(false,8),(true,9),(false,10),(false,11)] ?_;simp only[uy,qC,aF,aH,aI]
   repeat(refine qp (λK hK=> ?_);go_simp;(first|refine⟨_,λ_=>rfl,hK _ ?_⟩|refine hK _ ?_);clear hK K)
   refine⟨trivial,?_⟩;go_wp2_with fail
   repeat(refine qp (λK hK=> ?_);go_simp;(first|refine⟨_,λ_=>rfl,hK _ ?_⟩|refine hK _ ?_);clear hK K)
   refine⟨trivial,?_⟩;go_wp2_with fail;refine⟨trivial,?_⟩;go_wp2_with fail;refine⟨⟨j+1,sn,by omega,by go_num,rfl,Hsn,Hm6,HK6⟩,by simp[intOf];omega⟩
  obtain⟨q,hq⟩:∃q:Nat,q=32:=⟨_,rfl⟩
  obtain rfl:j=q:=by omega
  have j2:¬(j:Int)<32:=by omega
  have ziG:=hmr.o;rw[hq]at ziG;have KWp:=ZE.o.qo KR.o;have hvp:=HV.o.rV KWp;have hBp:=HB.o.rV KWp;have b0:=hBp.cell0;have zf0:=zrj hvp rfl hi hw hn yR RV ziG (by omega) (D5 (λs hs=>by obtain⟨i,_,rfl⟩:=bY.1 hs;exact F5 S' i) (by simp[uC]))
  have zkv:=ag zf0;have zfU:=ag KWp;have HAp:=ag (HA3.o.qm KR.o id);clear zf0 ziG hmr hq hvp KWp m0;go_upto_region 20 with(fail)
  clear j2;go_wp2_with fail;refine zkv.o.m ?_;rintro e w7 ⟨⟨zV,d',hmv,zzw⟩,K7⟩;have zwc:Gx w wv zV:=hmv.imp (λh=>h) (λh b hb=>bQ zfU.o.size (h b hb));have Hmv:=ag zwc;have HK7:=ag K7;have hBv:=Sj HV.o HB.o;have HBv:=ag hBv;have HBp:=ag hBp;clear hmv zwc zkv b0 hBv hBp;rcases zzw with⟨he,hvn,hinv,zyk,zcR,zsG⟩|⟨he,hvn,hf0,Xg⟩
  ·subst he;have B7:=HBp.o.qm HK7.o HBv.o;have hlt7:=B7.lt;have b2:=B7.zcX;have f2:=B7.free 2;have B8:=B7.zzb nb;have K8:Keep (qJ BB) w7 (w7.setCell ⟨BB,2,none⟩ (.map (some nb))):=(ah _ _).tK 2 _;obtain⟨w8,hw8⟩:=aj (w7.setCell ⟨BB,2,none⟩ (.map (some nb)));rw[<-hw8]at B8 K8;have hVO:=zab (HV.o.rV zfU.o);have A7:=HAp.o.qm HK7.o (ZT (HV.o.rV zfU.o) HAp.o);have A8:=A7.qm K8 (λe=>A7.xI B7 e);have N8:∀p∈NX,yc w8 p.2:=λp hp=>((((Hnn.o p hp).qm zfU.o (λ_ _ _ _ h=>h.elim)).qm HK7.o (λb c t f h hh=>(hVO b c t f h hh).int)).qm K8 (λb c t f h hh=>(B7.other b c t f h hh).int))
   have zvQ:=U3 B8;have Hw8:=ag hw8;have HK8:=ag K8;have HA8:=ag A8;have HN8:=ag N8;have HB8:=ag B8;have HB7:=ag B7;have zxp:=ag zvQ;have Hvn:=ag hvn;have zuu:=ag hinv;have Hw':=ag zcR;have Hfu:=ag zsG;clear hw8 K8 A7 A8 N8 hVO zvQ hvn hinv zyk zcR zsG B8 B7;go_upto_region 24 with(fail)
   rw[<-Hw8.o];clear b2 f2;go_wp2_with fail;refine zxp.o.m ?_;rintro e w9 ⟨rfl,B9,M9,K9⟩;have N9:∀p∈NX,yc w9 p.2:=λp hp=>(HN8.o p hp).qm K9 (λb c t f h hh=>(HB8.o.other b c t f h hh).int);have A9:=HA8.o.qm K9 (λe=>HA8.o.xI HB8.o e);have OL:=FH (bQ BA (bQ (bQ (bQ zfU.o.size HK7.o.size) HK8.o.size) K9.size)) B9 A9 N9 hs;have HB9:=ag B9;have HM9:=ag M9;have HK9:=ag K9;have HA9:=ag A9;have HN9:=ag N9;have RZ:=ag OL;clear B9 M9 K9 A9 N9 OL zxp;go_wp2_with fail;refine RZ.o.m ?_;rintro e wz ⟨rfl,hC,Kz⟩;obtain⟨C',BZ,CZ⟩:=hC;have HBZ:=ag BZ;have HCZ:=ag CZ;have HKz:=ag Kz;clear BZ CZ Kz RZ;go_wp2_with fail;go_ret;have KB:Keep (qJ BB) w7 wz:=(HK8.o.then HK9.o).then HKz.o;have zyj:w7.heap.size<=w8.heap.size:=HK8.o.size;have rE:BB<w.heap.size:=HB.o.lt;have zzl:w.heap.size<=w7.heap.size:=bQ zfU.o.size HK7.o.size;have hvz:VN w0 wz B D C S zV (xG V V.now.qB (uf (ug (uC S') 32) (zi V))) d' ((n+1:Nat):Int):=Hvn.o.o KB (λb hb e=>by have h1:b=BB:=e;subst h1;exact Sj Hvn.o HB7.o hb) (λb hb e=>by have h1:b=BB:=e;omega)
   have hAz:=HA9.o.qm HKz.o (λe=>HA9.o.xI HB9.o e);have hMz:=HM9.o.qm HKz.o (λe=>HM9.o.xI HB9.o e);have hNz:∀p∈NX,yc wz p.2:=λp hp=>(HN9.o p hp).qm HKz.o (λb c t f h hh=>(HB9.o.other b c t f h hh).int);have hnbw:nb<w8.heap.size:=HA8.o.lt;refine⟨⟨zV,d',Hmv.o,.inl ⟨rfl,hvz,zuu.o,Hw'.o,Hfu.o,nb,w8.heap.size,C',na,by rw[QR.o];exact aS _,bQ zzl zyj,hna,HBZ.o,⟨hAz,hMz,by omega,hNz,(λp hp=>by cases hp)⟩,HCZ.o⟩⟩,?_⟩;refine((zfU.o.yw).t (HK7.o.m (S':=λb=>VB B D C S wv b∨b=BB) (λi hi h=> .inl h)) (λi hi h=>h)).t (KB.m (S':=λb=>VB B D C S wv b∨b=BB) (λi hi h=> .inr h)) (λi hi h=>h)
  have he':e= .returned (.iface 34 (.int .i64 14)):=he;subst he';have Hvn:=ag hvn;have Hcr:=ag Xg;have HK7:=ag K7;clear he hvn Xg K7;go_wp2_with fail;go_ret;refine⟨⟨zV,d',Hmv.o,.inr ⟨rfl,Hvn.o,hf0,Hcr.o⟩⟩,(zfU.o.yw).t HK7.o (λi hi h=> .inl h)⟩
end
section
variable [Inhabited Bd]
def EO(L:List qP):List Aa:=L.map λx=>(x.name,x)
def zim(a b:List UInt8)(h:a<b):bytesBefore a b=true:=by
 cases hb:bytesBefore a b with
 | true=>rfl
 | false=>
  exfalso;by_cases e:a=b
  ·subst e;exact List.lt_irrefl _ h
  exact List.lt_asymm h (FZ _ _ (bytes_total a b e hb))
def zaO:∀ {l:List sW},yC l=true->l.Pairwise λx y=>Qk x.1 y.1=true
 | [],_=>List.Pairwise.nil
 | [x],_=>lV ..
 | x::y::l,h=>by
  rw[yC,bI]at h;have ih:=zaO h.2;have h1:Qk x.1 y.1=true:=zim _ _ (fM h.1);refine dR.2 ⟨λz hz=> ?_,ih⟩;rcases dO.1 hz with rfl|hz
  ·exact h1
  exact bytes_trans _ _ _ h1 ((dR.1 ih).1 z hz)
def zh2(h:yC (L.map qA)=true):wK (EO L):=by have h1:=zaO h;rw[fE]at h1;unfold wK EO;rw[fE];exact h1
def zmn{α:Type}{A:List (af×α)}{k:af}{v:α}(h:wK (A++ [(k,v)])):yQ A k v=A++ [(k,v)]:=by
 have hA:wK A:=(pF.1 h).1;have hk:∀p∈A,p.1≠k:=λp hp=>VJ ((pF.1 h).2.2 p hp _ (bJ.2 rfl));refine SG (FX hA k v) h λj=> ?_;rw[zau];unfold uM;rw[List.find?_append];by_cases e:j=k
 ·subst e
  have:A.find? (λp=>decide (p.1=j))=none:=by
   rw[jf];intro p hp
   simpa using hk p hp
  rw[bu rfl,this];simp
 rw[aV e];cases hf:A.find? (λp=>decide (p.1=j))with
 | some p=>simp
 | none=>
  have:¬k=j:=λx=>e x.s
  simp[this]
def MG(T:List af):Nat->af
 | 0=>⟨#[]⟩
 | k+1=>MG T k++T.getD k ⟨#[]⟩
def XA(T:List af):∀k,k<=T.length->(MG T k).data.toList=Bg (T.take k)
 | 0,_=>by rw[dD];rfl
 | k+1,h=>by
  rw[MG,aZ (by omega),Bg,dU,<-Bg,<-XA T k (by omega)];have e:T.getD k ⟨#[]⟩=T[k]:=by simp[aG,show k<T.length by omega]
  rw[e];simp[eY]
def Xz{T:List af}(h:∀s∈T,s.size<=200):∀k,k<=T.length->(MG T k).size<=200*k
 | 0,_=>aS _
 | k+1,hk=>by
  have h1:=Xz h k (by omega);have h2:(T.getD k ⟨#[]⟩).size<=200:=by rw[aG,aK (by omega)];exact h _ (fO _)
  have h3:(MG T (k+1)).size=(MG T k).size+(T.getD k ⟨#[]⟩).size:=by rw[MG,dN]
  omega
def zhx{d:Int}(h:uZ d (L.map qA)=true):Ic (EO L):=by
 simp only[uZ,bI,aW]at h;obtain⟨⟨⟨⟨h1,h2⟩,h3⟩,h4⟩,h5⟩:=h;have vz:∀p∈EO L,p.1=p.2.name∧uJ (qA p.2) d=true:=λp hp=>by obtain⟨x,hx,rfl⟩:=bY.1 hp;exact⟨rfl,gV.1 h4 _ (bY.2 ⟨x,hx,rfl⟩)⟩
 have hb:∀p∈EO L,zF p.2.name=true∧(p.2.ns.length:Int)=d∧p.2.ns.any CY=false:=λp hp=>by have h6:=(vz p hp).2;simp only[uJ,qA,bI,fA,aW,eU]at h6;exact⟨h6.1.1.1.1.1,fM h6.1.2,h6.2⟩
 refine⟨?_,λp hp=> ?_,λp hp=> ?_,λp hp=> ?_,λp hp=> ?_⟩
 ·rw[EO,aP];rw[aP]at h3;omega
 ·rw[(vz p hp).1];have:=Nu (hb p hp).1;omega
 ·have:=(hb p hp).2.1;omega
 ·have:=(hb p hp).2.1;omega
 intro n hn;have h7:=(hb p hp).2.2;rw[jT]at h7;have:=h7 n hn;simp only[CY,fA,aW,not_or]at this;omega
def zjN(L:List qP)(j:Nat)(x:qP)(hx:L[j]? =some x):EO (L.take (j+1))=EO (L.take j)++ [(x.name,x)]:=by have h1:=aT.1 hx;rw[aZ h1.1,h1.2,EO,dK];rfl
def zjt{d:Nat}{q:Option Addr}(h:uT w v 3 rC L)(hB:su w BB B d mb wb (.pointer q))(K:Keep (qJ BB) w w'):uT w' v 3 rC L:=by
 cases L with
 | nil=>
  obtain⟨p,c,hv⟩:=h.len;exact .inl ⟨rfl,p,c,hv⟩
 | cons x l=>
  refine h.qm K λb hb e=> ?_;have e:b=BB:=e;subst e;rcases h with⟨h,_⟩|⟨b2,off,c,hv,_,uw⟩
  ·cases h
  rw[hv]at hb;obtain rfl:b2=b:=aU hb;have h1:=uw 0 x rfl 0 _ rfl;rw[aO _ _ _ _ _ (0,0) hB,oz]at h1;simp only[iY]at h1;unfold Le at h1;rcases off with _|_|_|_|_|off<;>simp at h1
def zjs{M:List vP}(h:uT w v 3 rC L)(hm:sF w mb n M)(K:Keep (qJ mb) w w'):uT w' v 3 rC L:=by
 cases L with
 | nil=>
  obtain⟨p,c,hv⟩:=h.len;exact .inl ⟨rfl,p,c,hv⟩
 | cons x l=>
  refine h.qm K λb hb e=> ?_;have e:b=mb:=e;subst e;rcases h with⟨h,_⟩|⟨b2,off,c,hv,_,uw⟩
  ·cases h
  rw[hv]at hb;obtain rfl:b2=b:=aU hb;have h1:=uw 0 x rfl 0 _ rfl;obtain⟨es,clock,h2,_⟩:=hm;simp[World.cell?,h2]at h1
def zc0(BB Z mb:Nat)(a b c:ay)(W:ax):Prop:=W.cell? ⟨BB,2,none⟩=some (.map (some mb))∧W.cell? ⟨Z,0,none⟩=some a∧W.cell? ⟨Z,1,none⟩=some b∧W.cell? ⟨Z,2,none⟩=some c
end
section
variable [Inhabited Bd]
def zeI(w0 w w':ax)(D C S:Nat)(wv:ay)(V:qI)(d:vN)(m:Int)(qE:Nat)(l:List sW)(e:Ending):Prop:=
 ∃BB B mb wb CC nm L,e= .returned (.tuple #[.pointer (some ⟨BB,0,none⟩),.nilIface])∧w.heap.size<=BB∧w.heap.size<=mb∧w.heap.size<=wb∧w.heap.size<=B∧nm<=60∧VN w0 w' B D C S wv V d m∧wB w' BB B qE mb wb CC∧FP w' mb wb nm 0 L []∧Gz w' CC qE L∧BK L=l.map λx=>(x.1,x)
def Lj(w0 w w':ax)(D C S:Nat)(wv:ay)(V:qI)(d:vN)(m:Int)(e:Ending):Prop:=
 if Bg V.texts= []then zeI w0 w w' D C S wv V d m 0 [] e
 else match DD (Bg V.texts)with
  | some (qE,l)=>zeI w0 w w' D C S wv V d m qE.toNat l e
  | none=>e= .returned (.tuple #[.pointer none,qY 15])∧wY w' D S wv d∧um w' C m
def zfs(BA:loB<=w.heap.size)(hd:wY w D S wv d)(hkw:ak w0 w)(ru:∀b,xN D S wv b∨b=C->w0.heap.size<=b)(hc:um w C n)(hn:n<1000000)(hb:∀i,i<66->(d.now.getD i ⟨#[]⟩).size=256){secret:af}(hs:secret.size=16)(R:rF w0)(IV:yZ w0){m:Int}(ho:IX secret d.now n=some (V,m))
  (hT:V.texts.length=32) (ht:∀s∈V.texts,s.size<=200):
  ae 9 #[.pointer (some ⟨D,0,none⟩),.pointer (some ⟨C,0,none⟩),.string secret] w λe w'=>Lj w0 w w' D C S wv V d m e∧Keep (qJ C) w w':=by
 have hvo:=zrD hd hkw ru hc hn hb hs R ho;have Hvo:=ag hvo;clear hvo;go_enter func9,ntmps9;go_wp2_with fail;refine Hvo.o.m ?_;rintro e w1 ⟨⟨B,hB,rfl,hv⟩,K1⟩;have Hv:=ag hv;have Lu:=ag K1;have hmm:= @run_makeMap prog;clear hv K1 Hvo;go_upto_region 5 with(fail)
 clear hmm;obtain⟨mb,Qe⟩:=aj w1.heap.size;obtain⟨wb,hwb⟩:=aj (w1.heap.size+1);obtain⟨BB,hBB⟩:=aj (w1.heap.size+1+1);obtain⟨wx,Yw⟩:=aj (((w1.alloc (Obj.map #[] 0)).alloc (Obj.map #[] 0)).alloc (.cells (Le B 0 mb wb (.pointer none)) 109));have K2:ak w1 wx:=by rw[Yw];exact(((ah _ _).alloc _).alloc _).alloc _
 have s1:(w1.alloc (Obj.map #[] 0)).heap.size=w1.heap.size+1:=by simp
 have s2:((w1.alloc (Obj.map #[] 0)).alloc (Obj.map #[] 0)).heap.size=w1.heap.size+1+1:=by simp
 have M1:sF wx mb 0 (wH yL (EO ([]:List qP))):=by rw[Yw,Qe];exact(sF.made w1).qm (((ah qw _).alloc _).alloc _) id
 have M2:sF wx wb 0 (wH Prod.fst ([]:List zS)):=by have h:=sF.made (w1.alloc (Obj.map #[] 0));rw[s1,<-hwb]at h;rw[Yw];exact h.qm ((ah qw _).alloc _) id
 have B1:su wx BB B 0 mb wb (.pointer none):=by have h:=aQ ((w1.alloc (Obj.map #[] 0)).alloc (Obj.map #[] 0)) (.cells (Le B 0 mb wb (.pointer none)) 109);rw[s2,<-hBB]at h;rw[Yw];exact h
 have zts:=Yw;rw[Le,Qe,hwb,show((0:Nat):Int)=0 from rfl]at zts;rw[<-zts,<-hBB,<-hwb,<-Qe];have HM1:=ag M1;have HM2:=ag M2;have HB1:=ag B1;have Xo:=ag K2;have Hmb:=ag Qe;have Hwb:=ag hwb;have HBB:=ag hBB;clear Yw zts s1 s2 M1 M2 B1 K2 Qe hwb hBB;have HT:=ag hT;clear hT;go_wp2_with fail
 go_loopw [11,35] (λtv iv wr=>∃(k:Nat) (s:af),k<=32∧iv= .int .i64 k∧tv= .string s∧Hid (s=MG V.texts k)∧Hid (ak wx wr)) (λ_ iv _=>32-(intOf iv).toNat)
 case atStart=>exact⟨0,_,by omega,rfl,rfl,ag rfl,ag (ah _ _)⟩
 case round=>
  obtain⟨k,s,hk,rfl,rfl,hse,KR⟩:=hrel;obtain⟨wo,rfl⟩:=aj wr;have hv:=Hv.o.rV (Xo.o.qo KR.o);have uF:=Xz ht k (by rw[HT.o];exact hk);rw[<-hse.o]at uF;by_cases rE:k<32
  ·have j1:(k:Int)<32:=by omega
   have Jn:=zeN hv.G9 k rE;obtain⟨g,hg⟩:=aj (V.texts.getD k ⟨#[]⟩);have hgs:g.size<=200:=by rw[hg,aG,aK (by rw[HT.o];exact rE)];exact ht _ (fO _)
   rw[<-hg]at Jn;have G8:¬(9223372036854775807<s.size+g.size):=by omega
   have zA2:=ag Jn;have Hg:=ag hg;clear Jn hg hv uF hgs;go_wp2_with fail;refine zA2.o.m ?_;rintro e w' ⟨rfl,hw'⟩;subst w';go_wp2_with fail;refine⟨⟨k+1,s++g,by omega,by go_num,rfl,ag (by rw[MG,<-hse.o,<-Hg.o]),KR⟩,by simp[intOf];omega⟩
  obtain⟨q,hq⟩:∃q:Nat,q=32:=⟨_,rfl⟩
  obtain rfl:k=q:=by omega
  have j1:¬(k:Int)<32:=by omega
  have zf8:Bg V.texts=s.data.toList:=by rw[hse.o,XA V.texts k (by rw[HT.o,hq];exact aS _),bg (by rw[HT.o,hq];exact aS _)]
  have zc3:=ag zf8;have Hq:=ag hq;have Hv1:=ag hv;have hB1:=HB1.o.rV KR.o;have hM1:=HM1.o.qm KR.o id;have HB2:=ag hB1;have hKw:Keep (qJ C) w wo:=(Lu.o.qo Xo.o).qo KR.o;have HKw:=ag hKw;have HMm:=ag hM1;clear zf8 hq hse hv hB1 hKw hM1;by_cases Vg:s=⟨#[]⟩
  ·have OL:=FH (bQ BA HKw.o.size) HB2.o HMm.o (λp hp=>by cases hp) Ic.nil;have RZ:=ag OL;clear OL;subst Vg;go_wp2_with fail;refine RZ.o.m ?_;rintro e w3 ⟨rfl,⟨C',hBz,hCz⟩,Kz⟩;have HBz:=ag hBz;have HCz:=ag hCz;have HKz:=ag Kz;clear hBz hCz Kz RZ;go_wp2_with fail
   go_ret2
   have zd3:w.heap.size<=w1.heap.size:=Lu.o.size;have hw0:w0.heap.size<=w.heap.size:=hkw.size;have hvz:=Hv1.o.o HKz.o (λb hb e=>by have h1:b=BB:=e;subst h1;exact Sj Hv1.o HB2.o hb) (λb hb e=>by have h1:b=BB:=e;have:=HBB.o;omega)
   have zcR:=(HM2.o.qm KR.o id).qm HKz.o (λe=>(HM2.o.qm KR.o id).xI HB2.o e);refine⟨?_,HKw.o.t HKz.o (λi hi e=>by have h1:i=BB:=e;have:=HBB.o;omega)⟩;unfold Lj;rw[bu (by rw[zc3.o])];refine⟨BB,B,mb,wb,C',0,[],rfl,by have:=HBB.o;omega,by have:=Hmb.o;omega,by have:=Hwb.o;omega,hB,by omega,hvz,HBz.o,⟨HMm.o.qm HKz.o (λe=>HMm.o.xI HB2.o e),zcR,by have:=Hmb.o;have:=Hwb.o;omega,(λp hp=>by cases hp),(λp hp=>by cases hp)⟩,HCz.o,rfl⟩
  have zzZ:s.toList.isEmpty=false:=by
   cases h:s.toList with
   | nil=>exact absurd (toList_inj (by rw[h,dI])) Vg
   | cons _ _=>rfl
  have zzq:s.size<=1000000:=by have:=Hq.o;omega
  have zfF:=zmu s wo (bQ BA HKw.o.size) zzq (IV.qm Hv1.o.qm);have zlB:=ag zfF;clear zfF;go_wp2_with fail;refine zlB.o.m ?_;rintro e w3 ⟨H7,K3⟩;unfold CO at H7;have Qm:=ag K3;have Bc:Bg V.texts≠ []:=λh=>Vg (by rw[zc3.o]at h;exact jk (iR.1 h))
  have Hne:=ag Bc;clear zlB K3 Bc;cases hpt:DD s.data.toList with
  | none=>
   rw[hpt]at H7;have H7:e= .returned (.tuple #[.int .i64 0,.slice none 0 0,.iface 34 (.int .i64 3)]):=H7;subst H7;have Hpt:=ag hpt;clear hpt;go_wp2_with fail
   go_ret2
   refine⟨?_,HKw.o.qo Qm.o⟩;unfold Lj;rw[aV Hne.o,zc3.o,Hpt.o];exact⟨rfl,Hv1.o.dev.qm Qm.o (λ_ _ x=>x),Hv1.o.Ea.qm Qm.o id⟩
  | some r=>
   obtain⟨dm,l⟩:=r;rw[hpt]at H7;obtain⟨v,L,rfl,hLp,hit,hir⟩:=H7;have zgd:=zhT hpt;subst hLp;have zN:=zgd.1;have zot:=zhx zN;obtain⟨dn,hdn⟩:∃dn:Nat,dm=dn:=⟨dm.toNat,by simp only[uZ,bI,aW]at zN;omega⟩
   subst hdn;have zss:yC (L.map qA)=true:=by simp only[uZ,bI]at zN;exact zN.2
   have hrs:=zh2 zss;have zqC:L.length<=60:=by simp only[uZ,bI,aW,aP]at zN;omega
   obtain⟨p,c,rfl⟩:=hit.rows.len;obtain⟨q2,NR⟩:=aj L.length;have TR:=hit.rows;rw[<-NR]at TR zqC⊢;have zsw:∀x∈L,yc w3 x:=λx hx=>⟨hit.yK x hx,hir x hx⟩
   have B3:=HB2.o.rV Qm.o;have f1:=B3.free 1;have b1:=B3.BH;have B4:=B3.tK dn;have K4:Keep (qJ BB) w3 (w3.setCell ⟨BB,1,none⟩ (.int .i64 dn)):=(ah _ _).tK 1 _;have M3:=HMm.o.qm Qm.o id;have M4:=M3.qm K4 (λe=>M3.xI B3 e);have R4:=zjt TR B3 K4;have N4:∀x∈L,yc (w3.setCell ⟨BB,1,none⟩ (.int .i64 dn)) x:=λx hx=>(zsw x hx).qm K4 (λb c t f h hh=>(B3.other b c t f h hh).int);obtain⟨w4,LC⟩:=aj (w3.setCell ⟨BB,1,none⟩ (.int .i64 dn));rw[<-LC]at B4 K4 M4 R4 N4;have Hw4:=ag LC;have HB3:=ag B3;have HB4:=ag B4;have HK4:=ag K4;have HM4:=ag M4;have HR4:=ag R4;have HN4:=ag N4;have Hq2:=ag NR;have Hrs:=ag hrs;have Hpt:=ag hpt;clear LC B3 B4 K4 M3 M4 R4 N4 NR hrs zgd zss hit hir zsw TR hpt;have hokd:=ag zN;clear zN;go_upto_region 19 with(fail)
   rw[<-Hw4.o];clear f1 b1;go_wp2_with fail
   go_loopw [68] (λiv wr=>∃j:Nat,j<=q2∧iv= .int .i64 j∧Hid (sF wr mb j (wH yL (EO (L.take j))))∧Hid (Keep (qJ mb) w4 wr)) (λiv _=>q2-(intOf iv).toNat)
   ·exact⟨0,by omega,rfl,HM4,ag (ah _ _)⟩
   obtain⟨j,hj,rfl,hmj,KJ⟩:=hrel;obtain⟨wj,rfl⟩:=aj wr;have hBM:BB≠mb:=by have:=HBB.o;have:=Hmb.o;omega
   have hRj:=zjs HR4.o HM4.o KJ.o;by_cases LY:j<q2
   ·have j2:(j:Int)<q2:=by omega
    obtain⟨b,off,rfl,-,hb,uw⟩:=hRj.at (by rw[<-Hq2.o];omega);obtain⟨x,hx⟩:∃x,L[j]? =some x:=⟨_,aK (by rw[<-Hq2.o];exact LY)⟩
    have ET:=uw j x hx;have Ls:x∈L:=bG hx;have htk:=zjN L j x hx;have hxn:=(HN4.o x Ls).1.len;have Zk:x.name.size<=maxLen:=by have:=zot.name (x.name,x) (bY.2 ⟨x,Ls,rfl⟩);simp only at this;unfold maxLen;omega
    have hrj:wK (EO (L.take j)++ [(x.name,x)]):=by rw[<-htk];exact List.Pairwise.sublist ((List.take_sublist _ _).map _) Hrs.o
    have zfE:zdW (wH yL (EO (L.take j))) x.name (yL x)=wH yL (EO (L.take (j+1))):=by rw[<-zi0,Pm,zmn hrj,htk]
    obtain⟨nm,tg,av,ns⟩:=x;simp only at hxn Zk;obtain⟨pa,ca,rfl⟩:=hxn;have c0:wj.cell? ⟨b,off+j*3,none⟩=some (.string nm):=ET 0 _ rfl;have c1:wj.cell? ⟨b,off+j*3+1,none⟩=some (.string tg):=ET 1 _ rfl;have c2:wj.cell? ⟨b,off+j*3+2,none⟩=some (.slice pa ns.length ca):=ET 2 _ rfl;obtain⟨nl,CV⟩:=aj ns.length;have zqJ:yL ⟨nm,tg,.slice pa ns.length ca,ns⟩= .agg #[.string nm,.string tg,.slice pa nl ca]:=by rw[CV];rfl
    rw[zqJ]at zfE;rw[<-CV]at c2;simp only at zfE;have KA:ak wj (wj.alloc (.cells #[.string nm,.string tg,.slice pa nl ca] 45)):=(ah _ _).alloc _;have hBj:=(HB4.o.qm KJ.o hBM).rV KA;have hZ:=aQ wj (.cells #[.string nm,.string tg,.slice pa nl ca] 45);have LZ:zc0 BB wj.heap.size mb (.string nm) (.string tg) (.slice pa nl ca) (wj.alloc (.cells #[.string nm,.string tg,.slice pa nl ca] 45)):=⟨hBj.zcX,cellOf hZ 0 rfl,cellOf hZ 1 rfl,cellOf hZ 2 rfl⟩
    obtain⟨Z,hZe⟩:=aj wj.heap.size;rw[<-hZe]at LZ;have zAL:=ag zfE;have HKA:=ag KA;have HLZ:=ag LZ;have HZe:=ag hZe;clear zfE KA hBj hZ LZ uw ET hx Ls htk hrj CV zqJ hRj;clear hZe;go_upto_region 22 with(fail)
    rw[<-HZe.o];have l1:∀x:wE (zc0 BB Z mb (.string nm) (.string tg) (.slice pa nl ca)),x.w.cell? ⟨BB,2,none⟩=some (.map (some mb)):=λx=>x.h.1;have l2:∀x:wE (zc0 BB Z mb (.string nm) (.string tg) (.slice pa nl ca)),x.w.cell? ⟨Z,0,none⟩=some (.string nm):=λx=>x.h.2.1;have l3:∀x:wE (zc0 BB Z mb (.string nm) (.string tg) (.slice pa nl ca)),x.w.cell? ⟨Z,1,none⟩=some (.string tg):=λx=>x.h.2.2.1;have l4:∀x:wE (zc0 BB Z mb (.string nm) (.string tg) (.slice pa nl ca)),x.w.cell? ⟨Z,2,none⟩=some (.slice pa nl ca):=λx=>x.h.2.2.2;refine qX (zc0 BB Z mb (.string nm) (.string tg) (.slice pa nl ca)) [(true,0),(true,1),(true,2),(true,3),(true,4),(true,5),(true,6),(false,7)] ?_;simp only[uy,qC,aF,aH,aI]
    repeat(refine qp (λK hK=> ?_);go_simp;(first|refine⟨_,λ_=>rfl,hK _ ?_⟩|refine hK _ ?_);clear hK K)
    refine⟨HLZ.o,?_⟩;clear l1 l2 l3 l4;have KZD:=HKA.o.drew;obtain⟨w5,hup,Xe,K5⟩:=(hmj.o.qm KZD id).update iP (by unfold maxLen;omega) nm Zk (.agg #[.string nm,.string tg,.slice pa nl ca]);rw[zAL.o]at Xe;have Hm5:=ag Xe;have HK5:=ag (KJ.o.t ((KZD.yw).then K5) (λi hi h=>h));clear Xe K5 KZD;go_wp2_with fail;exact⟨⟨j+1,by omega,by go_num,Hm5,HK5⟩,by simp[intOf];omega⟩
   obtain rfl:j=q2:=by omega
   have j2:¬(j:Int)<j:=by omega
   have hmo:=hmj.o;rw[bg (by rw[<-Hq2.o];exact aS _)]at hmo;have hBj:=HB4.o.qm KJ.o hBM;have hOM:=QJ HM4.o;have hNj:∀p∈EO L,yc wj p.2:=λp hp=>by obtain⟨x,hx,rfl⟩:=bY.1 hp;exact(HN4.o x hx).qm KJ.o (λb c t f h hh=>(hOM b c t f h hh).int)
   have OL:=FH (bQ BA (bQ HKw.o.size (bQ Qm.o.size (bQ HK4.o.size KJ.o.size)))) hBj hmo hNj zot;have HBj:=ag hBj;have Hmo:=ag hmo;have HNj:=ag hNj;have RZ:=ag OL;clear hmj OL hBj hmo hNj hRj hOM;go_upto_region 24 with(fail)
   clear j2;go_wp2_with fail;refine RZ.o.m ?_;rintro e wz ⟨rfl,⟨C',hBz,hCz⟩,Kz⟩;have HBz:=ag hBz;have HCz:=ag hCz;have HKz:=ag Kz;clear hBz hCz Kz RZ;go_wp2_with fail
   go_ret2
   have zd3:w.heap.size<=w1.heap.size:=Lu.o.size;have hw0:w0.heap.size<=w.heap.size:=hkw.size;have KS:Keep (λb=>b=BB∨b=mb) w3 wz:=((HK4.o.m (S':=λb=>b=BB∨b=mb) (λi hi h=> .inl h)).t (KJ.o.m (S':=λb=>b=BB∨b=mb) (λi hi h=> .inr h)) (λi hi h=>h)).t (HKz.o.m (S':=λb=>b=BB∨b=mb) (λi hi h=> .inl h)) (λi hi h=>h);have hv3:=Hv1.o.rV Qm.o;have hm3:=HMm.o.qm Qm.o id;have hvz:=hv3.o KS (λb hb e=>by
    rcases e with e|e
    ·rw[e]at hb;exact Sj hv3 HB3.o hb
    rw[e]at hb;exact ZT hv3 hm3 hb) (λb hb e=>by have:=HBB.o;have:=Hmb.o;rcases e with e|e<;>omega)
   have IM:=(HM2.o.qm KR.o id).qm Qm.o id;have zcR:=IM.qm KS (λe=>by
    rcases e with e|e
    ·exact IM.xI HB3.o e
    have:=Hmb.o;have:=Hwb.o;omega)
   have zyq:=Hmo.o.qm HKz.o (λe=>Hmo.o.xI HBj.o e);have hNz:∀p∈EO L,yc wz p.2:=λp hp=>(HNj.o p hp).qm HKz.o (λb c t f h hh=>(HBj.o.other b c t f h hh).int);refine⟨?_,(HKw.o.qo Qm.o).t KS (λi hi e=>by have:=HBB.o;have:=Hmb.o;rcases e with e|e<;>omega)⟩;unfold Lj;rw[aV Hne.o,zc3.o,Hpt.o];refine⟨BB,B,mb,wb,C',j,EO L,rfl,by have:=HBB.o;omega,by have:=Hmb.o;omega,by have:=Hwb.o;omega,hB,by omega,hvz,HBz.o,⟨zyq,zcR,by have:=Hmb.o;have:=Hwb.o;omega,hNz,(λp hp=>by cases hp)⟩,HCz.o,?_⟩;simp[BK,wH,EO,Function.comp_def,qA]
end
section
variable [Inhabited Bd]
def zco{X:List af}(hT:T.length=32):MQ X (ug T 32)=T:=by refine Uw ⟨#[]⟩ ((FW _ _).t hT.s) λi hi=> ?_;rw[FW]at hi;rw[Sz _ _ i hi,Dj (xA T 32) (Fp.2 ⟨i,hi,rfl⟩)];rfl
def zmq{L:List Aa}{p:Aa}(h:p∈L):(p.1,qA p.2)∈BK L:=bY.2 ⟨p,h,rfl⟩
def zgE{L:List Aa}{qE:Int}(e:BK L=N)(hl:N.length<=60)(hN:∀p∈N,p.1=p.2.1∧uJ p.2 qE=true):
  Ic L∧(∀p∈L,p.1=p.2.name)∧∀p∈L,DW p.2.ns∧(p.2.ns.length:Int)=qE:=by
 have hb:∀p∈L,p.1=p.2.name∧zF p.2.name=true∧(p.2.ns.length:Int)=qE∧p.2.ns.any CY=false∧1<=qE∧qE<=8:=λp hp=>by have h:=hN (p.1,qA p.2) (by rw[<-e];exact zmq hp);have h6:=h.2;simp only[uJ,qA,bI,fA,aW,eU]at h6;exact⟨h.1,h6.1.1.1.1.1,fM h6.1.2,h6.2,h6.1.1.1.2,h6.1.1.2⟩
 have FM:∀p∈L,DW p.2.ns:=λp hp n hn=>by have h7:=(hb p hp).2.2.2.1;rw[jT]at h7;have:=h7 n hn;simp only[CY,fA,aW,not_or]at this;omega
 refine⟨⟨?_,λp hp=> ?_,λp hp=> ?_,λp hp=> ?_,FM⟩,λp hp=>(hb p hp).1,λp hp=>⟨FM p hp,(hb p hp).2.2.1⟩⟩
 ·have:=dB List.length e;rw[BK,Ih]at this;omega
 ·rw[(hb p hp).1];have:=Nu (hb p hp).2.1;omega
 ·have:=(hb p hp).2.2.1;have:=(hb p hp).2.2.2.2.1;omega
 ·have:=(hb p hp).2.2.1;have:=(hb p hp).2.2.2.2.2;omega
def F9.shape(h:F9 b){L:List Aa}(e:BK L=b.now):Ic L∧(∀p∈L,p.1=p.2.name)∧∀p∈L,DW p.2.ns∧(p.2.ns.length:Int)=b.qE:=zgE e h.len h.now
def F9.zuN(h:F9 b){L:List Aa}(e:BK L=b.now)(e2:Sm W=b.wait):Ic (uY L (wV W))∧(∀p∈uY L (wV W),p.1=p.2.name)∧∀p∈uY L (wV W),DW p.2.ns∧(p.2.ns.length:Int)=b.qE:=
 zgE (N:=b.next) (by rw[Nr,e,e2];rfl) h.zb2 h.FC
end
section
variable [Inhabited Bd]
structure Jw(w0 w:ax)(P:Nat->Prop)(BB D C:Nat)(V:qI)(d:vN)(n:Int)(b:sH)(k B S:Nat)(wv:ay)(mb wb CC nm nw:Nat)(L:List Aa)(W:List zS):Prop where
 vn:VN w0 w B D C S wv V d n
 row:wB w BB B b.qE mb wb CC
 rd:FP w mb wb nm nw L W
 cs:Gz w CC b.qE L
 en:BK L=b.now
 ew:Sm W=b.wait
 ok:F9 b
 room:nm+nw<=k
 blocks:∀x,P x↔(VB B D C S wv x∨x=BB∨x=wb)
 zbZ:w0.heap.size<=BB
 zlb:w0.heap.size<=wb
def vX(w0 w:ax)(P:Nat->Prop)(BB D C:Nat)(V:qI)(d:vN)(n:Int)(b:sH)(k:Nat):Prop:=
 ∃B S wv mb wb CC nm nw L W,Jw w0 w P BB D C V d n b k B S wv mb wb CC nm nw L W
def Grow(w:ax)(P P':Nat->Prop):Prop:=∀x,P' x->P x∨w.heap.size<=x
def Grow.refl(w:ax)(P:Nat->Prop):Grow w P P:=λx h=> .inl h
section
variable {w0 w w':ax}{P:Nat->Prop}{BB D C:Nat}{V:qI}{d:vN}{n:Int}{b:sH}{k:Nat}{B S:Nat}{wv:ay}{mb wb CC nm nw:Nat}{L:List Aa}{W:List zS}
def Jw.rV(h:Jw w0 w P BB D C V d n b k B S wv mb wb CC nm nw L W)(hk:ak w w'):Jw w0 w' P BB D C V d n b k B S wv mb wb CC nm nw L W:=
 ⟨h.vn.rV hk,h.row.rV hk,h.rd.rV hk,h.cs.rV hk,h.en,h.ew,h.ok,h.room,h.blocks,h.zbZ,h.zlb⟩
def vX.rV(h:vX w0 w P BB D C V d n b k)(hk:ak w w'):vX w0 w' P BB D C V d n b k:=by obtain⟨B,S,wv,mb,wb,CC,nm,nw,L,W,h⟩:=h;exact⟨B,S,wv,mb,wb,CC,nm,nw,L,W,h.rV hk⟩
def vX.ok(h:vX w0 w P BB D C V d n b k):F9 b:=by obtain⟨B,S,wv,mb,wb,CC,nm,nw,L,W,h⟩:=h;exact h.ok
def vX.qm(h:vX w0 w P BB D C V d n b k):ak w0 w:=by obtain⟨B,S,wv,mb,wb,CC,nm,nw,L,W,h⟩:=h;exact h.vn.qm
def vX.more(h:vX w0 w P BB D C V d n b k)(hk:k<=k'):vX w0 w P BB D C V d n b k':=by obtain⟨B,S,wv,mb,wb,CC,nm,nw,L,W,h⟩:=h;exact⟨B,S,wv,mb,wb,CC,nm,nw,L,W,{ h with room:=bQ h.room hk }⟩
def Jw.waited(h:Jw w0 w P BB D C V d n b k B S wv mb wb CC nm nw L W)(hk:Keep (qJ wb) w w'){nw':Nat}{W':List zS}(hw:sF w' wb nw' (wH Prod.fst W'))(hp:∀p∈W',Ox w' p.2.1 (p.2.2.map yL)∧∀x,p.2.2=some x->yc w' x)
  (hd:b'.qE=b.qE) (hn:b'.now=b.now) (he:Sm W'=b'.wait) (zN:F9 b') (hr:nm+nw'<=k'):Jw w0 w' P BB D C V d n b' k' B S wv mb wb CC nm nw' L W':=by
 have hO:=QJ h.rd.wait;have hvb:=ZT h.vn h.rd.wait;have Bc:BB≠wb:=λe=>h.rd.wait.xI h.row e.s;exact⟨h.vn.o hk (λx hx e=>by have h1:x=wb:=e;rw[h1]at hx;exact hvb hx) (λx hx e=>by have h1:x=wb:=e;have:=h.zlb;omega),by rw[hd];exact h.row.qm hk Bc,
  ⟨h.rd.now.qm hk h.rd.apart,hw,h.rd.apart,λp hp=>(h.rd.items p hp).qm hk (λb c t f hs hh=>(hO b c t f hs hh).int),hp⟩,by rw[hd];exact h.cs.qm hk hO,by rw[hn];exact h.en,he,zN,hr,h.blocks,h.zbZ,h.zlb⟩
def Jw.zaE(h:Jw w0 w P BB D C V d n b k B S wv mb wb CC nm nw L W)(hk:Keep (qJ wb) w w'):∀p∈W,Ox w' p.2.1 (p.2.2.map yL)∧∀x,p.2.2=some x->yc w' x:=λp hp=>by have hO:=QJ h.rd.wait;exact⟨(h.rd.waits p hp).1.zsk hk hO,λx hx=>((h.rd.waits p hp).2 x hx).qm hk (λb c t f hs hh=>(hO b c t f hs hh).int)⟩
def zx5(BA:loB<=w.heap.size)(h:vX w0 w P BB D C V d n b k)(hk:k<900000)(x:qP)(N:vM w x.av x.ns)(hl:x.ns.length<=1000000):
  ae 14 #[.pointer (some ⟨BB,0,none⟩),yL x] w λe w'=>e= .returned (qY (zZ b (qA x)).1)∧vX w0 w' P BB D C V d n (zZ b (qA x)).2 (k+1)∧Keep P w w':=by
 obtain⟨B,S,wv,mb,wb,CC,nm,nw,L,W,h⟩:=h;by_cases h0:b.qE=0
 ·have uU:=h.row;rw[h0]at uU;refine(zcK x uU).m ?_;rintro e w' ⟨rfl,K⟩;have e1:zZ b (qA x)=(6,b):=by rw[zZ,bu h0]
  rw[e1];exact⟨rfl,vX.more ⟨B,S,wv,mb,wb,CC,nm,nw,L,W,h.rV K⟩ (Nat.le_succ k),K.yw⟩
 ·refine(ziu BA x N hl h.row h.rd (by have:=h.room;omega) h0).m ?_;rintro e w' hs;unfold Ah at hs;have Bl:BK (uY L (wV W))=b.next:=by rw[Nr,h.en,h.ew];rfl
  have hgn:uM b.next x.name=(uM (uY L (wV W)) x.name).map qA:=by rw[<-Bl];exact zav qA _ _
  have hln:b.next.length=(uY L (wV W)).length:=by rw[<-Bl,BK,Ih]
  split at hs
  ·rename_i hx;obtain⟨rfl,K⟩:=hs;have e1:zZ b (qA x)=(1,b):=by rw[zZ,aV h0,bu (show uJ (qA x) b.qE=false from hx)]
   rw[e1];exact⟨rfl,vX.more ⟨B,S,wv,mb,wb,CC,nm,nw,L,W,h.rV K⟩ (Nat.le_succ k),K.yw⟩
  rename_i hx;split at hs
  ·rename_i hf;obtain⟨rfl,K⟩:=hs;have e1:zZ b (qA x)=(12,b):=by
    rw[zZ,aV h0,aV (show¬uJ (qA x) b.qE=false from hx),bu];exact⟨by show uM b.next x.name=none;rw[hgn,hf.1];rfl,by rw[hln];exact hf.2⟩
   rw[e1];exact⟨rfl,vX.more ⟨B,S,wv,mb,wb,CC,nm,nw,L,W,h.rV K⟩ (Nat.le_succ k),K.yw⟩
  rename_i hf;obtain⟨rfl,K,X,av,hX,hm,hXh,hN⟩:=hs;have e1:zZ b (qA x)=(0,{ b with wait:=yQ b.wait x.name (some (qA x)) }):=by
   rw[zZ,aV h0,aV (show¬uJ (qA x) b.qE=false from hx),aV]
   ·rfl
   ·rintro⟨h1,h2⟩;refine hf ⟨?_,by rw[<-hln];exact h2⟩;have h1:uM b.next x.name=none:=h1;rw[hgn]at h1;cases hq:uM (uY L (wV W)) x.name with
    | none=>rfl
    | some y=>rw[hq]at h1;cases h1
  have zN:=h.ok.put (qA x);rw[e1]at zN⊢;have hO:=QJ h.rd.wait;refine⟨rfl,⟨B,S,wv,mb,wb,CC,nm,nw+1,L,_,h.waited (b':= { b with wait:=yQ b.wait x.name (some (qA x)) }) (k':=k+1) K hm (λp hp=> ?_) rfl rfl ?_ zN (by have:=h.room;omega)⟩,K.m (λi hi e=>by have h1:i=wb:=e;rw[h1];exact(h.blocks wb).2 (.inr (.inr rfl)))⟩
  ·rcases Po hp with rfl|hp
   ·refine⟨⟨X,.string x.name,.string x.tag,av,(0,0),rfl,rfl,hXh⟩,λy hy=> ?_⟩;obtain rfl:=aU hy;exact hN
   exact h.zaE K p hp.1
  rw[zaW,h.ew];rfl
def zyI(h:vX w0 w P BB D C V d n b k)(hk:k<900000)(q:af)(hq:q.size<=maxLen):
  ae 16 #[.pointer (some ⟨BB,0,none⟩),.string q] w λe w'=>e= .returned (qY (EX b q).1)∧vX w0 w' P BB D C V d n (EX b q).2 (k+1)∧Keep P w w':=by
 obtain⟨B,S,wv,mb,wb,CC,nm,nw,L,W,h⟩:=h;refine(ziw q hq h.row h.rd (by have:=h.room;omega)).m ?_;rintro e w' hs;unfold Zj at hs;have Bl:BK (uY L (wV W))=b.next:=by rw[Nr,h.en,h.ew];rfl
 have hgn:uM b.next q=(uM (uY L (wV W)) q).map qA:=by rw[<-Bl];exact zav qA _ _
 split at hs
 ·rename_i hf;obtain⟨rfl,K⟩:=hs;have e1:EX b q=(7,b):=by rw[EX,bu (by rw[hgn,hf];rfl)]
  rw[e1];exact⟨rfl,vX.more ⟨B,S,wv,mb,wb,CC,nm,nw,L,W,h.rV K⟩ (Nat.le_succ k),K.yw⟩
 ·rename_i hf;obtain⟨rfl,K,hm⟩:=hs;have e1:EX b q=(0,{ b with wait:=yQ b.wait q none }):=by
   rw[EX,aV];intro h1;rw[hgn]at h1;cases hx:uM (uY L (wV W)) q with
   | none=>exact hf hx
   | some y=>rw[hx]at h1;cases h1
  have zN:=h.ok.del q;rw[e1]at zN⊢;refine⟨rfl,⟨B,S,wv,mb,wb,CC,nm,nw+1,L,_,h.waited (b':= { b with wait:=yQ b.wait q none }) (k':=k+1) K hm (λp hp=> ?_) rfl rfl ?_ zN (by have:=h.room;omega)⟩,K.m (λi hi e=>by have h1:i=wb:=e;rw[h1];exact(h.blocks wb).2 (.inr (.inr rfl)))⟩
  ·rcases Po hp with rfl|hp
   ·exact⟨rfl,λy hy=>by cases hy⟩
   exact h.zaE K p hp.1
  ·rw[zaW,h.ew];rfl
def zuI(h:vX w0 w P BB D C V d n b k):
  ae 19 #[.pointer (some ⟨BB,0,none⟩)] w λe w'=>e= .returned (.tuple #[])∧(∃P',vX w0 w' P' BB D C V d n (ZF b) k∧Grow w P P')∧Keep P w w':=by
 obtain⟨B,S,wv,mb,wb,CC,nm,nw,L,W,h⟩:=h;refine(U3 h.row).m ?_;rintro e w' ⟨rfl,hB,hM,K⟩;have hO:=h.row.other;have uF:w0.heap.size<=w.heap.size:=h.vn.qm.size;have rE:=h.row.lt;have hN:Jw w0 w' (λx=>VB B D C S wv x∨x=BB∨x=w.heap.size) BB D C V d n (ZF b) k B S wv mb w.heap.size CC nm 0 L []:=
  ⟨h.vn.o K (λx hx e=>by have h1:x=BB:=e;rw[h1]at hx;exact Sj h.vn h.row hx) (λx hx e=>by have h1:x=BB:=e;have:=h.zbZ;omega),hB,
   ⟨h.rd.now.qm K (λe=>h.rd.now.xI h.row e),hM,by have:=h.rd.now.lt;omega,λp hp=>(h.rd.items p hp).qm K (λb c t f hs hh=>(hO b c t f hs hh).int),(λp hp=>by cases hp)⟩,
   h.cs.qm K hO,h.en,rfl,h.ok.zy6,by have:=h.room;omega,λx=>Iff.rfl,h.zbZ,uF⟩
 refine⟨rfl,⟨_,⟨B,S,wv,mb,w.heap.size,CC,nm,0,L,[],hN⟩,λx hx=> ?_⟩,K.m (λi hi e=>(h.blocks i).2 (.inr (.inl e)))⟩;rcases hx with hx|rfl|rfl
 ·exact .inl ((h.blocks x).2 (.inl hx))
 ·exact .inl ((h.blocks x).2 (.inr (.inl rfl)))
 ·exact .inr (aS _)
def zrY(h:vX w0 w P BB D C V d n b k):
  ae 25 #[.pointer (some ⟨BB,0,none⟩)] w (au (.int .i64 V.now.count) w):=by
 obtain⟨B,S,wv,mb,wb,CC,nm,nw,L,W,h⟩:=h;exact zcN h.row h.vn.G9
def zrO(BA:loB<=w.heap.size)(h:vX w0 w P BB D C V d n b k):
  ae 28 #[.pointer (some ⟨BB,0,none⟩)] w λe w'=>(∃(v:ay) (l:List qP),e= .returned v∧qF w' w.heap.size 45 3 v l.length (l.flatMap rC)∧l.map qA=rU b.now∧∀x∈l,yc w' x)∧ak w w':=by
 obtain⟨B,S,wv,mb,wb,CC,nm,nw,L,W,h⟩:=h;have hs:=h.ok.shape h.en;refine(Rn BA h.row h.rd.now h.rd.items hs.1).m ?_;rintro e w' ⟨⟨v,l,he,ho⟩,K⟩;refine⟨⟨v,l,he,ho.row,?_,ho.yK⟩,K⟩;rw[ho.same,<-h.en,PL]
def zve(h:vX w0 w P BB D C V d n b k)(N:vM w va at_)(ha:at_.length<=1000000)(q:Int)(tag:af)(ht:tag.size<=1000000):
  ae 29 #[.pointer (some ⟨BB,0,none⟩),va,.int .i64 q,.string tag] w λe w'=>Ew w w' b.qE (rU b.now) at_ q tag e∧ak w w':=by
 obtain⟨B,S,wv,mb,wb,CC,nm,nw,L,W,h⟩:=h;have hs:=h.ok.shape h.en;have hf:=zfw h.row h.cs hs.1.few h.ok.eight (λp hp=>⟨(hs.2.2 p hp).1,by have:=(hs.2.2 p hp).2;omega⟩) N ha q tag ht
 rwa [show(L.map λp=>qA p.2)=rU b.now by rw[<-h.en,PL]]at hf
def zu5(BA:loB<=w.heap.size)(h:vX w0 w P BB D C V d n b k)(q:Int):
  ae 12 #[.pointer (some ⟨BB,0,none⟩),.int .i64 q] w λe w'=>e= .returned (qY (yz b q).1)∧vX w0 w' P BB D C V d n (yz b q).2 k∧Keep P w w':=by
 obtain⟨B,S,wv,mb,wb,CC,nm,nw,L,W,h⟩:=h;by_cases h0:b.qE=0
 ·by_cases hq:q<1∨8<q
  ·have uU:=h.row;rw[h0]at uU;refine(zfu q uU hq).m ?_;rintro e w' ⟨rfl,K⟩;have e1:yz b q=(1,b):=by rw[yz,aV (by omega),bu hq]
   rw[e1];exact⟨rfl,⟨B,S,wv,mb,wb,CC,nm,nw,L,W,h.rV K⟩,K.yw⟩
  have uU:=h.row;rw[h0]at uU;have hL:L= []:=by
   have h1:=h.en;rw[(h.ok.zero h0).1]at h1;have:=dB List.length h1;rw[BK,Ih]at this;exact dV this
  have zli:=h.rd.now;rw[hL]at zli;refine(zfv BA q uU zli (by omega)).m ?_;rintro e w' ⟨rfl,⟨C',hB,hC⟩,K⟩;have e1:yz b q=(0,{ b with qE:=q.toNat }):=by rw[yz,aV (by omega),aV hq]
  have zN:=h.ok.make q;rw[e1]at zN⊢;have hO:=h.row.other;refine⟨rfl,⟨B,S,wv,mb,wb,C',nm,nw,L,W,⟨h.vn.o K (λx hx e=>by have h1:x=BB:=e;rw[h1]at hx;exact Sj h.vn h.row hx) (λx hx e=>by have h1:x=BB:=e;have:=h.zbZ;omega),hB,h.rd.setRow h.row K,by rw[hL];exact hC,h.en,h.ew,zN,h.room,h.blocks,h.zbZ,h.zlb⟩⟩,K.m (λi hi e=>(h.blocks i).2 (.inr (.inl e)))⟩
 ·refine(zbS q h.row h0).m ?_;rintro e w' ⟨rfl,K⟩;have e1:yz b q=(6,b):=by rw[yz,bu h0]
  rw[e1];exact⟨rfl,⟨B,S,wv,mb,wb,CC,nm,nw,L,W,h.rV K⟩,K.yw⟩
end
end
section
variable [Inhabited Bd]
def zj2(h:∀p∈N,p.1=p.2.1):(rU N).map (λx=>(x.1,x))=N:=by
 unfold rU;rw[iy]
 conv=>rhs;rw[<-List.map_id N]
 refine gU λp hp=> ?_;show(p.2.1,p.2)=p;rw[<-h p hp]
def zh0(h:F9 b)(T:List af):F9 (uP b T):=by
 unfold uP;split
 ·exact⟨List.Pairwise.nil,List.Pairwise.nil,(λp hp=>by cases hp),(λp hp=>by cases hp),by simp,by simp[sH.next,uY],λ_=>⟨rfl,rfl⟩,by simp⟩
 exact⟨h.rn,List.Pairwise.nil,h.now,(λp hp=>by cases hp),h.len,h.len,λe=>⟨(h.zero e).1,rfl⟩,h.eight⟩
end
section
variable [Inhabited Bd]
section
variable {w0 w w':ax}{P:Nat->Prop}{BB D C:Nat}{V:qI}{d:vN}{n':Int}{b:sH}{k:Nat}{B S:Nat}{wv:ay}{mb wb CC nm nw:Nat}{L:List Aa}{W:List zS}
def zit(hB:wB w BB B qE mb wb CC){R:ay->ax->Prop}(hT:ae 58 #[.pointer (some ⟨B,0,none⟩)] w λe w'=>∃v,e= .returned v∧R v w'):
  ae 22 #[.pointer (some ⟨BB,0,none⟩)] w λe w'=>∃v,e= .returned v∧R v w':=by
 have b0:=hB.cell0;have HT:=ag hT;clear hT;go_enter func22,ntmps22;go_wp2_with fail;refine HT.o.m ?_;rintro e w1 ⟨v,rfl,hR⟩;have HR:=ag hR;clear hR HT;go_wp2_with fail;go_ret;exact⟨v,rfl,HR.o⟩
def Xa(hB:wB w BB B 0 mb wb CC):
  ae 20 #[.pointer (some ⟨BB,0,none⟩)] w (au (qY 6) w):=by
 have b1:=hB.BH;go_enter func20,ntmps20;go_wp2_with fail;go_ret;exact⟨rfl,ah _ _⟩
def zsY(w0 w w':ax)(P:Nat->Prop)(BB D C:Nat)(secret:af)(V:qI)(d:vN)(n:Nat)(b':sH)(k:Nat)(ev:ay)(Q:qI->Prop):Prop:=
 (ev= .nilIface∧∃V' d' P',vX w0 w' P' BB D C V' d' ((n+1:Nat):Int) b' k∧Grow w P P'∧xR secret V' d'.qy (n+1)∧d'.wait= []∧VE V'.texts b'∧(d.qR<0->d'.qR=d.qR)∧Q V')∨
 (ev=qY 14∧0<=d.qR∧∃B S zV d',VN w0 w' B D C S zV (VC V) d' n∧(∀x,VB B D C S zV x->P x∨w.heap.size<=x)∧
  ∀keeps,xR secret V (wO d'.qy d'.wait keeps d'.wait.length) n∨∃V2,xR secret V2 (wO d'.qy d'.wait keeps d'.wait.length) (n+1)∧VE V2.texts b'∧Q V2)
def zom(BA:loB<=w.heap.size)(hd:wY w D S wv d)(hkw:ak w0 w)(ru:∀b,xN D S wv b∨b=C->w0.heap.size<=b)(hc:um w C n)(hn:n<1000000)(hb:∀i,i<66->(d.now.getD i ⟨#[]⟩).size=256){secret:af}(hs:secret.size=16)(R:rF w0)(IV:yZ w0){m:Int}(ho:IX secret d.now n=some (V,m))
  (hT:V.texts.length=32) (ht:∀s∈V.texts,s.size<=200) (zN:F9 b) (H7:VE V.texts b):
  ae 9 #[.pointer (some ⟨D,0,none⟩),.pointer (some ⟨C,0,none⟩),.string secret] w λe w'=>(∃BB P',e= .returned (.tuple #[.pointer (some ⟨BB,0,none⟩),.nilIface])∧vX w0 w' P' BB D C V d m (uP b V.texts) 60∧∀x,P' x->xN D S wv x∨x=C∨w.heap.size<=x)∧Keep (qJ C) w w':=by
 refine(zfs BA hd hkw ru hc hn hb hs R IV ho hT ht).m ?_;rintro e w' ⟨h,K⟩;refine⟨?_,K⟩;have zzA:=zh0 zN V.texts;have fin:∀(qE:Nat) (l:List sW),uP b V.texts=⟨qE,l.map (λx=>(x.1,x)),[]⟩->zeI w0 w w' D C S wv V d m qE l e->∃BB P',e= .returned (.tuple #[.pointer (some ⟨BB,0,none⟩),.nilIface])∧vX w0 w' P' BB D C V d m (uP b V.texts) 60∧∀x,P' x->xN D S wv x∨x=C∨w.heap.size<=x:=by
  intro qE l hbe ⟨BB,B,mb,wb,CC,nm,L,he,h1,h2,h3,h4,h5,hv,hB,hR,hC,hL⟩;have hws:=hkw.size;refine⟨BB,λx=>VB B D C S wv x∨x=BB∨x=wb,he,⟨B,S,wv,mb,wb,CC,nm,0,L,[],⟨hv,by rw[hbe];exact hB,hR,by rw[hbe];exact hC,by rw[hbe];exact hL,by rw[hbe];rfl,zzA,by omega,λx=>Iff.rfl,by omega,by omega⟩⟩,λx hx=> ?_⟩;rcases hx with(hx|hx|hx)|hx|hx
  ·exact .inl hx
  ·exact .inr (.inr (by omega))
  ·exact .inr (.inl hx)
  ·exact .inr (.inr (by omega))
  exact .inr (.inr (by omega))
 unfold Lj at h;split at h
 ·rename_i hj;refine fin 0 [] ?_ h;rw[uP,bu hj];rfl
 ·rename_i hj;rcases H7 with⟨h1,_⟩|⟨h1,h2⟩
  ·exact absurd h1 hj
  have YQ:=zhS (VV h1 zN.eight zN.rn zN.len zN.now);rw[<-h2]at YQ;rw[YQ]at h;refine fin b.qE (rU b.now) ?_ (by simpa using h);rw[uP,aV hj,zj2 (λp hp=>(zN.now p hp).1)]
end
end
section
variable [Inhabited Bd]
section
variable {w0 w w':ax}{P:Nat->Prop}{BB D C:Nat}{V:qI}{d:vN}{n':Int}{b:sH}{k:Nat}{B S:Nat}{wv:ay}{mb wb CC nm nw:Nat}{L:List Aa}{W:List zS}
def zuK(hn':n'=n)(h:vX w0 w P BB D C V d n' b k){secret:af}(hi:xR secret V d.qy n)(hw:d.wait= [])(hn:n<1000)(yR:secret.size<=1000)(R:rF w0)(H7:VE V.texts b):
  ae 22 #[.pointer (some ⟨BB,0,none⟩)] w λe w'=>∃ev,e= .returned ev∧zsY w0 w w' P BB D C secret V d n b k ev (λV'=>V'=xG V (V.now.qB+1) (uf (ug V.texts 32) (λ_=>true)))∧Keep P w w':=by
 obtain⟨B,S,wv,mb,wb,CC,nm,nw,L,W,h⟩:=h;subst hn';refine zit h.row ((zrg h.vn rfl hi hw hn yR R).m ?_);rintro e w' ⟨ht,K⟩;have KP:Keep P w w':=K.m λi _ hx=>(h.blocks i).2 (.inl hx);have htx:(xG V (V.now.qB+1) (uf (ug V.texts 32) (λ_=>true))).texts=V.texts:=by show ui V.texts _=_;rw[XR hi.texts (xA _ _) (D5 hi.t200 hi.texts) (λi s _ ho=>by cases ho),zeO hi.texts]
 obtain⟨zV,d',hm,⟨he,hv,hinv,hs,IE,hf⟩|⟨he,hv,hf,hc⟩⟩:=ht
 ·refine⟨_,he,.inl ⟨rfl,_,d',λx=>VB B D C S zV x∨x=BB∨x=wb,⟨B,S,zV,mb,wb,CC,nm,nw,L,W,⟨hv,h.row.qm K (Sj h.vn h.row),h.rd.qm K (zab h.vn) (ZT h.vn h.rd.now) (ZT h.vn h.rd.wait),h.cs.qm K (zab h.vn),h.en,h.ew,h.ok,h.room,λx=>Iff.rfl,h.zbZ,h.zlb⟩⟩,λx hx=> ?_,hinv,IE,by rw[htx];exact H7,hf,rfl⟩,KP⟩;rcases hx with hx|hx|hx
  ·exact(Pg hm x hx).imp (λhx=>(h.blocks x).2 (.inl hx)) (λhx=>hx)
  ·exact .inl ((h.blocks x).2 (.inr (.inl hx)))
  exact .inl ((h.blocks x).2 (.inr (.inr hx)))
 ·refine⟨_,he,.inr ⟨rfl,hf,B,S,zV,d',hv,λx hx=>(Pg hm x hx).imp (λhx=>(h.blocks x).2 (.inl hx)) (λhx=>hx),λkeeps=> ?_⟩,KP⟩;rcases hc keeps with hc|hc
  ·exact .inl hc
  exact .inr ⟨_,hc,by rw[htx];exact H7,rfl⟩
def zqb(BA:loB<=w.heap.size)(hn':n'=n)(h:vX w0 w P BB D C V d n' b k)(hk:k<900000){secret:af}(hi:xR secret V d.qy n)(hw:d.wait= [])(hn:n<1000)(yR:secret.size<=1000)(R:rF w0)(PV:CS w0):
  ae 20 #[.pointer (some ⟨BB,0,none⟩)] w λe w'=>∃ev,e= .returned ev∧((b.qE=0∧ev=qY 6∧vX w0 w' P BB D C V d n b k)∨(b.qE≠0∧zsY w0 w w' P BB D C secret V d n (zcW b) k ev (λV'=>V'=xG V V.now.qB (uf (ug (uC (Hu b)) 32) (zi V)))))∧Keep P w w':=by
 obtain⟨B,S,wv,mb,wb,CC,nm,nw,L,W,h⟩:=h;subst hn';by_cases h0:b.qE=0
 ·have uU:=h.row;rw[h0]at uU;refine(Xa uU).m ?_;rintro e w' ⟨rfl,K⟩;exact⟨_,rfl,.inl ⟨h0,rfl,⟨B,S,wv,mb,wb,CC,nm,nw,L,W,h.rV K⟩⟩,K.yw⟩
 ·have Bl:BK (uY L (wV W))=b.next:=by rw[Nr,h.en,h.ew];rfl
  have hpi:(uY L (wV W)).map (λp=>qA p.2)=rU b.next:=by rw[<-Bl,PL]
  have zzx:=h.ok.print (by omega);have JO:=h.ok.zuN h.en h.ew;have hro:=h.room;refine(zbU BA h.row h.rd h.vn h.zbZ hi hw hn yR R PV JO.1 (by rw[hpi];exact zzx) (by omega)).m ?_;rintro e w' ⟨ht,K⟩;rw[hpi]at ht;have htb:(⟨(xW b.qE (rU b.next)).toArray⟩:af)=Hu b:=rfl;rw[htb]at ht;have LP:(uC (Hu b)).length=32:=by simp[uC]
  have Yz:∀s∈uC (Hu b),s.size<=200:=λs hs=>by obtain⟨i,_,rfl⟩:=bY.1 hs;exact F5 _ i
  have KP:Keep P w w':=K.m λi _ hx=>(h.blocks i).2 (hx.imp id (λx=> .inl x));have htx:(xG V V.now.qB (uf (ug (uC (Hu b)) 32) (zi V))).texts=uC (Hu b):=by show ui V.texts _=_;rw[XR hi.texts (xA _ _) (D5 Yz LP) (λi s _ ho=>zhZ ho),zco LP]
  have IP:=zme h.ok (show 1<=b.qE by omega);obtain⟨zV,d',hm,⟨he,hv,hinv,IE,hf,mb',wb',CC',nm',h1,h2,h3,Ry,hR',hC'⟩|⟨he,hv,hf,hc⟩⟩:=ht
  ·have hws:=h.vn.qm.size;refine⟨_,he,.inr ⟨h0,.inl ⟨rfl,_,d',λx=>VB B D C S zV x∨x=BB∨x=wb',⟨B,S,zV,mb',wb',CC',nm',0,_,[],⟨hv,Ry,hR',hC',Bl,rfl,h.ok.done,by omega,λx=>Iff.rfl,h.zbZ,by omega⟩⟩,λx hx=> ?_,hinv,IE,by rw[htx];exact IP,hf,rfl⟩⟩,KP⟩;rcases hx with hx|hx|hx
   ·exact(Pg hm x hx).imp (λhx=>(h.blocks x).2 (.inl hx)) (λhx=>hx)
   ·exact .inl ((h.blocks x).2 (.inr (.inl hx)))
   exact .inr (by omega)
  refine⟨_,he,.inr ⟨h0,.inr ⟨rfl,hf,B,S,zV,d',hv,λx hx=>(Pg hm x hx).imp (λhx=>(h.blocks x).2 (.inl hx)) (λhx=>hx),λkeeps=> ?_⟩⟩,KP⟩;rcases hc keeps with hc|hc
  ·exact .inl hc
  exact .inr ⟨_,hc,by rw[htx];exact IP,rfl⟩
end
def RW(BB B C D:Nat)(sv av tv:ay):Nat->Prop:=λg=>g=BB∨g=B∨g=C∨RB D sv av tv g
structure RIt(w:ax)(I:Nat->Prop)(v:ay)(L:List qP)(l:List sW):Prop where
 items:zT w v L
 eq:L.map qA=l
 own:∀g,v.ownBlock=some g->I g
 av:∀x∈L,∀g,x.av.ownBlock=some g->I g
def RIt.qm(h:RIt w I v L l){S:Nat->Prop}(K:Keep S w w')(hn:∀g,I g->¬S g):RIt w' I v L l:=
 ⟨⟨h.items.rows.qm K (λg hg=>hn g (h.own g hg)),λx hx=>(h.items.yK x hx).qm K (λg hg=>hn g (h.av x hx g hg))⟩,h.eq,h.own,h.av⟩
def RIt.m(h:RIt w I v L l)(hj:∀g,I g->J g):RIt w J v L l:=⟨h.items,h.eq,λg hg=>hj g (h.own g hg),λx hx g hg=>hj g (h.av x hx g hg)⟩
def RIt.len(h:RIt w I v L l):L.length=l.length:=by rw[<-h.eq,aP]
structure Ap(w:ax)(I:Nat->Prop)(BB B RN D C:Nat)(sn:List Int)(sv av tv nv xv:ay)(Nw Nx:List qP)(V:qI)(qy:List af)(n:Int)(b:sH):Prop where
 row:wW w BB B b.qE nv xv
 vr:uS w B RN D C V sn
 mks:V.marks=marksOf sn V.texts
 dv:xC w D sv av tv qy [] (-1)
 cc:QU w C n
 rr:D7 w RN
 now:RIt w I nv Nw (rU b.now)
 nxt:RIt w I xv Nx (rU b.next)
 ir:I RN
 ap:∀g,I g->g<w.heap.size∧¬RW BB B C D sv av tv g
 dv0:∀g,RB D sv av tv g->g≠BB∧g≠B∧g≠C
 bc:BB≠B∧BB≠C∧B≠C
section
variable {w w':ax}{I:Nat->Prop}{BB B RN D C:Nat}{sn:List Int}{sv av tv nv xv:ay}{Nw Nx:List qP}{V:qI}{qy:List af}{n:Int}{b:sH}
def Ap.lt(h:Ap w I BB B RN D C sn sv av tv nv xv Nw Nx V qy n b):∀g,I g∨RW BB B C D sv av tv g->g<w.heap.size:=by
 rintro g (hg|rfl|rfl|rfl|hg)
 ·exact(h.ap g hg).1
 ·exact lt_of_heap h.row
 ·exact h.vr.lt
 ·exact lt_of_heap h.cc
 exact xC.lt (r:=(qy,[],-1)) h.dv g hg
def Ap.qm(h:Ap w I BB B RN D C sn sv av tv nv xv Nw Nx V qy n b){S:Nat->Prop}(K:Keep S w w')(hn:∀g,I g∨RW BB B C D sv av tv g->¬S g):Ap w' I BB B RN D C sn sv av tv nv xv Nw Nx V qy n b:=
 ⟨h.row.qm K (hn _ (.inr (.inl rfl))),h.vr.qm K (hn _ (.inr (.inr (.inl rfl)))),h.mks,h.dv.qm K (λg hg=>hn g (.inr (.inr (.inr (.inr hg))))),h.cc.qm K (hn _ (.inr (.inr (.inr (.inl rfl))))),h.rr.qm K (hn _ (.inl h.ir)),h.now.qm K (λg hg=>hn g (.inl hg)),h.nxt.qm K (λg hg=>hn g (.inl hg)),h.ir,λg hg=>⟨dH (h.ap g hg).1 K.size,(h.ap g hg).2⟩,h.dv0,h.bc⟩
def Ap.head(h:Ap w I BB B RN D C sn sv av tv nv xv Nw Nx V qy n b)(K:Keep (qJ BB) w w')(hr:wW w' BB B b'.qE nv' xv')(hnw:RIt w' J nv' Nw' (rU b'.now))(Bl:RIt w' J xv' Nx' (rU b'.next))(hJ:∀g,J g->I g∨(w.heap.size<=g∧g<w'.heap.size))(hJ2:∀g,I g->J g):
  Ap w' J BB B RN D C sn sv av tv nv' xv' Nw' Nx' V qy n b':=by
 have nb:∀g,g≠BB->¬qJ BB g:=λg hg e=>hg e;refine⟨hr,h.vr.qm K (nb _ (Ne.s h.bc.1)),h.mks,h.dv.qm K (λg hg=>nb g (h.dv0 g hg).1),h.cc.qm K (nb _ (Ne.s h.bc.2.1)),h.rr.qm K (λe=>(h.ap RN h.ir).2 (.inl e)),hnw,Bl,hJ2 _ h.ir,λg hg=> ?_,h.dv0,h.bc⟩;rcases hJ g hg with hg|hg
 ·exact⟨dH (h.ap g hg).1 K.size,(h.ap g hg).2⟩
 ·exact⟨hg.2,λhx=>by have:=h.lt g (.inr hx);omega⟩
def zh6(b:sH)(m:Int):(yz b m).2.now=b.now∧(yz b m).2.next=b.next:=by
 unfold yz;split
 ·exact⟨rfl,rfl⟩
 split<;>exact⟨rfl,rfl⟩
def zu4(h:Ap w I BB B RN D C sn sv av tv nv xv Nw Nx V qy n b)(m:Int):ae 13 #[.pointer (some ⟨BB,0,none⟩),.int .i64 m] w λe w'=>e= .returned (.int .i64 (yz b m).1)∧Ap w' I BB B RN D C sn sv av tv nv xv Nw Nx V qy n (yz b m).2∧Keep (qJ BB) w w':=by refine(zhL h.row m b rfl).m ?_;rintro e w' ⟨he,hr,K⟩;obtain⟨h1,h2⟩:=zh6 b m;have hn:∀g,I g->¬qJ BB g:=λg hg e=>(h.ap g hg).2 (.inl e);exact⟨he,h.head K hr (by rw[h1];exact h.now.qm K hn) (by rw[h2];exact h.nxt.qm K hn) (λg hg=> .inl hg) (λg hg=>hg),K⟩
def zuH(h:Ap w I BB B RN D C sn sv av tv nv xv Nw Nx V qy n b):ae 18 #[.pointer (some ⟨BB,0,none⟩)] w λe w'=>e= .returned (.tuple #[])∧Ap w' I BB B RN D C sn sv av tv nv nv Nw Nw V qy n (ZF b)∧Keep (qJ BB) w w':=by obtain⟨p,c,hv⟩:=h.now.items.rows.len;refine(zhH h.row ⟨p,_,c,hv⟩).m ?_;rintro e w' ⟨he,hr,K⟩;have hn:∀g,I g->¬qJ BB g:=λg hg e=>(h.ap g hg).2 (.inl e);exact⟨he,h.head K hr (h.now.qm K hn) (h.now.qm K hn) (λg hg=> .inl hg) (λg hg=>hg),K⟩
def zuk(w w':ax)(I:Nat->Prop):Nat->Prop:=λg=>I g∨(w.heap.size<=g∧g<w'.heap.size)
def zyH(h:Ap w I BB B RN D C sn sv av tv nv xv Nw Nx V qy n b)(ok:F9 b)(k:af):ae 17 #[.pointer (some ⟨BB,0,none⟩),.string k] w λe w'=>e= .returned (.int .i64 (EX b k).1)∧(∃xv' Nx',Ap w' (zuk w w' I) BB B RN D C sn sv av tv nv xv' Nw Nx' V qy n (EX b k).2)∧Keep (qJ BB) w w':=by
 have hl:Nx.length<=60:=by rw[h.nxt.len,rU,aP];exact ok.zb2
 refine(zjB h.row Nx h.nxt.items hl k).m ?_;rintro e w' ⟨hd,K⟩;have hn:∀g,I g->¬qJ BB g:=λg hg e=>(h.ap g hg).2 (.inl e);have hp:(Dy Nx k).map qA=zI (rU b.next) k:=by rw[za4,h.nxt.eq]
 have hlen:(Dy Nx k).length=(zI (rU b.next) k).length:=by rw[<-hp,aP]
 have zb8:=zrX ok k;rw[<-hlen,<-h.nxt.len]at zb8;by_cases hg:uM b.next k=none
 ·rw[bu (zb8.2 hg)]at hd;have e1:EX b k=(7,b):=by unfold EX;rw[bu hg]
  rw[e1];exact⟨hd.1,⟨xv,Nx,h.head K (h.row.qm hd.2 id) ((h.now.qm K hn).m λg hg=> .inl hg) ((h.nxt.qm K hn).m λg hg=> .inl hg) (λg hg=>hg) (λg hg=> .inl hg)⟩,K⟩
 rw[aV (λe=>hg (zb8.1 e))]at hd;obtain⟨he,v',hr,hO⟩:=hd;obtain⟨e1,e2⟩:=zp7 ok k hg;have e3:(EX b k).2.qE=b.qE∧(EX b k).2.now=b.now:=by unfold EX;rw[aV hg];exact⟨rfl,rfl⟩
 have ha:∀x∈Dy Nx k,x∈Nx:=λx hx=>(gy.1 hx).1;refine⟨by rw[e1];exact he,⟨v',Dy Nx k,h.head K (by rw[e3.1];exact hr) (by rw[e3.2];exact(h.now.qm K hn).m λg hg=> .inl hg) ⟨⟨uT.yw zf hO,λx hx=>(h.nxt.qm K hn).items.yK x (ha x hx)⟩,by rw[e2];exact hp,λg hg=> .inr (hO.lt g hg),λx hx g hg=> .inl (h.nxt.av x (ha x hx) g hg)⟩ (λg hg=>hg) (λg hg=> .inl hg)⟩,K⟩
def zx4(h:Ap w I BB B RN D C sn sv av tv nv xv Nw Nx V qy n b)(ok:F9 b)(x:qP)(N:vM w x.av x.ns)(hx:x.ns.length<=1000000)(Qd:x.name.size<=1000000)(Vf:x.tag.size<=1000000):ae 15 #[.pointer (some ⟨BB,0,none⟩),.agg (rC x).toArray] w λe w'=>e= .returned (.int .i64 (zZ b (qA x)).1)∧(∃xv' Nx',Ap w' (zuk w w' I) BB B RN D C sn sv av tv nv xv' Nw Nx' V qy n (zZ b (qA x)).2)∧Keep (qJ BB) w w':=by
 have hl:Nx.length<=60:=by rw[h.nxt.len,rU,aP];exact ok.zb2
 refine(zjz h.row ok.eight Nx h.nxt.items hl x N hx Qd Vf).m ?_;rintro e w' ⟨hd,K⟩;have hn:∀g,I g->¬qJ BB g:=λg hg e=>(h.ap g hg).2 (.inl e);have hp:(Dy Nx x.name).map qA=zI (rU b.next) (qA x).1:=by rw[za4,h.nxt.eq];rfl
 have hlen:(Dy Nx x.name).length=(zI (rU b.next) (qA x).1).length:=by rw[<-hp,aP]
 have same:ak w w'->Ap w' (zuk w w' I) BB B RN D C sn sv av tv nv xv Nw Nx V qy n b:=λK0=>
  h.head K (h.row.qm K0 id) ((h.now.qm K hn).m λg hg=> .inl hg) ((h.nxt.qm K hn).m λg hg=> .inl hg) (λg hg=>hg) (λg hg=> .inl hg)
 unfold zcb at hd;by_cases h0:b.qE=0
 ·rw[bu h0]at hd;have e1:zZ b (qA x)=(6,b):=by unfold zZ;rw[bu h0]
  rw[e1];exact⟨hd.1,⟨_,_,same hd.2⟩,K⟩
 rw[aV h0]at hd;by_cases h1:uJ (qA x) b.qE=false
 ·rw[bu h1]at hd;have e1:zZ b (qA x)=(1,b):=by unfold zZ;rw[aV h0,bu h1]
  rw[e1];exact⟨hd.1,⟨_,_,same hd.2⟩,K⟩
 rw[aV h1]at hd;have h1':uJ (qA x) b.qE=true:=by simpa using h1
 by_cases h2:60<=(Dy Nx x.name).length
 ·rw[bu h2]at hd;rw[hlen]at h2;rw[zpx ok (qA x) h0 h1' h2];exact⟨hd.1,⟨_,_,same hd.2⟩,K⟩
 rw[aV h2]at hd;obtain⟨he,v',y,d,hr,hy,hny,hyo,hdp,IQ,hO⟩:=hd;rw[hlen]at h2;obtain⟨e1,e2⟩:=zpw ok (qA x) h0 h1' (by omega);have hq:uM b.next (qA x).1=none∧b.next.length=60->False:=λ⟨q1,q2⟩=>by
  rw[AU (λp hp=>(ok.FC p hp).1),WG q1,rU,aP]at h2;omega
 have e3:(zZ b (qA x)).2.qE=b.qE∧(zZ b (qA x)).2.now=b.now:=by unfold zZ;rw[aV h0,aV h1,aV hq];exact⟨rfl,rfl⟩
 have ZL:(d.map qA).Perm (rU (yQ b.next (qA x).1 (qA x))):=by refine(hdp.map qA).t ?_;rw[dK,hp,bH,dh,hy];exact zpv ok (qA x)
 have zd6:=ok.put (qA x);have zvc:d.map qA=rU (zZ b (qA x)).2.next:=by
  rw[e2];have Bl:(zZ b (qA x)).2.next=yQ b.next (qA x).1 (qA x):=by
   have:zZ b (qA x)=(0,{ b with wait:=yQ b.wait (qA x).1 (some (qA x)) }):=by unfold zZ;rw[aV h0,aV h1,aV hq]
   rw[this];exact KT ok _ _
  rw[<-Bl]at ZL⊢;refine zl8 zd6.Fq (λp hp=>(zd6.FC p hp).1) ZL ?_;rw[fE];refine IQ.imp fun {p q} hpq=> ?_
  have h9:=iD hpq;show Qk q.name p.name=false;cases hb:Qk q.name p.name with
  | false=>rfl
  | true=>exact absurd (FZ _ _ hb) h9
 have zfG:∀z∈d,z∈Nx∨z=y:=λz hz=>by
  rcases dX.1 (hdp.mem_iff.1 hz)with h9|h9
  ·exact .inl (gy.1 h9).1
  exact .inr (bJ.1 h9)
 refine⟨by rw[e1];exact he,⟨v',d,h.head K (by rw[e3.1];exact hr) (by rw[e3.2];exact(h.now.qm K hn).m λg hg=> .inl hg) ⟨⟨uT.yw zf hO,λz hz=> ?_⟩,zvc,λg hg=> .inr (hO.lt g hg),λz hz g hg=> ?_⟩ (λg hg=>hg) (λg hg=> .inl hg)⟩,K⟩
 ·rcases zfG z hz with h9|rfl
  ·exact(h.nxt.qm K hn).items.yK z h9
  exact hny.1
 rcases zfG z hz with h9|rfl
 ·exact .inl (h.nxt.av z h9 g hg)
 refine .inr ⟨hyo g hg,?_⟩;obtain⟨c9,f9,h9⟩:=hny.2 g hg;exact lt_of_heap h9
end
section
variable {w w':ax}{I:Nat->Prop}{BB B RN D C:Nat}{sn:List Int}{sv av tv nv xv:ay}{Nw Nx:List qP}{V:qI}{qy:List af}{n:Int}{b:sH}
def Ap.told(h:Ap w I BB B RN D C sn sv av tv nv xv Nw Nx V qy n b){Ql Tt:ay}{n':Int}(K:Keep (λg=>(g=B∨g=C)∨RB D sv av tv g) w w')(hv:uS w' B RN D C V' CU)(hm:V'.marks=marksOf CU V'.texts)(hd:xC w' D sv Ql Tt ZG [] (-1))(hc:QU w' C n')(GI:∀g,RB D sv Ql Tt g->RB D sv av tv g∨w.heap.size<=g):
  Ap w' I BB B RN D C CU sv Ql Tt nv xv Nw Nx V' ZG n' b:=by
 have hI:∀g,I g->¬((g=B∨g=C)∨RB D sv av tv g):=λg hg e=>by
  rcases e with(e|e)|e
  ·exact(h.ap g hg).2 (.inr (.inl e))
  ·exact(h.ap g hg).2 (.inr (.inr (.inl e)))
  exact(h.ap g hg).2 (.inr (.inr (.inr e)))
 have l1:BB<w.heap.size:=lt_of_heap h.row;have l2:B<w.heap.size:=h.vr.lt;have l3:C<w.heap.size:=lt_of_heap h.cc;refine⟨h.row.qm K (λe=> ?_),hv,hm,hd,hc,h.rr.qm K (hI _ h.ir),h.now.qm K hI,h.nxt.qm K hI,h.ir,λg hg=>⟨dH (h.ap g hg).1 K.size,λe=> ?_⟩,λg hg=> ?_,h.bc⟩
 ·rcases e with(e|e)|e
  ·exact h.bc.1 e
  ·exact h.bc.2.1 e
  exact(h.dv0 _ e).1 rfl
 ·rcases e with e|e|e|e
  ·exact(h.ap g hg).2 (.inl e)
  ·exact(h.ap g hg).2 (.inr (.inl e))
  ·exact(h.ap g hg).2 (.inr (.inr (.inl e)))
  rcases GI g e with e|e
  ·exact(h.ap g hg).2 (.inr (.inr (.inr e)))
  have:=(h.ap g hg).1;omega
 ·rcases GI g hg with e|e
  ·exact h.dv0 g e
  exact⟨by omega,by omega,by omega⟩
def Ap.far(h:Ap w I BB B RN D C sn sv av tv nv xv Nw Nx V qy n b):∀g,RB D sv av tv g->g≠B∧g≠RN∧g≠C:=λg hg=>⟨(h.dv0 g hg).2.1,λe=>(h.ap RN h.ir).2 (.inr (.inr (.inr (e▸hg)))),(h.dv0 g hg).2.2⟩
def zuJ{secret:af}{m:Nat}(h:Ap w I BB B RN D C sn sv av tv nv xv Nw Nx V qy m b)(hi:xR secret V qy m)(hn:m<1000)(yR:secret.size<=1000):
  ae 23 #[.pointer (some ⟨B,0,none⟩),.map none,.bool true] w λe w'=>e= .returned (.int .i64 0)∧(∃CU,Ap w' I BB B RN D C CU sv (.slice none 0 0) (.slice none 0 0) nv xv Nw Nx (xG V (V.now.qB+1) (uf (ug V.texts 32) (λ_=>true))) (DX V qy (V.now.qB+1) (uf (ug V.texts 32) (λ_=>true))) ((m+1:Nat):Int) b)∧xR secret (xG V (V.now.qB+1) (uf (ug V.texts 32) (λ_=>true))) (DX V qy (V.now.qB+1) (uf (ug V.texts 32) (λ_=>true))) (m+1)∧Keep (λg=>(g=B∨g=C)∨RB D sv av tv g) w w':=by
 have e1:=hi.ep1;have e2:=hi.ep2;have e3:=hi.Ea;have ht:=Xy V.texts (λ_=>true) (λk=>some (V.texts.getD k ⟨#[]⟩)) (λk _=>rfl);have hinv:=Ur hi (by omega) (Iq (o:=λ_=>true) (xA V.texts 32) (D5 hi.t200 hi.texts)) (ep:=V.now.qB+1) (.inr ⟨rfl,zaZ⟩);refine(XO h.vr hi.alive none true (by omega) (by omega) e1 (by omega) 0 [] m sv av tv qy rfl h.dv h.cc h.rr (λg hg=>⟨(h.far g hg).1,(h.far g hg).2.1,(h.far g hg).2.2,λe=>by cases e⟩) (λk=>some (V.texts.getD k ⟨#[]⟩)) (λk _=>rfl) (λk t hk e=> ?_) hi.t200 (by rw[hi.sec];exact yR) h.mks (V.now.qB+1) rfl).m ?_
 ·obtain rfl:V.texts.getD k ⟨#[]⟩=t:=aU e;rw[aG,aK (by rw[hi.texts];exact hk)];exact hi.t200 _ (fO _)
 ·rintro e w' ⟨he,⟨CU,hv,hm,hd,hc,GI⟩,K⟩;rw[ht]at hv hm hd;exact⟨he,⟨CU,h.told K hv hm hd (by rw[show((m+1:Nat):Int)=V.now.count+1 by omega];exact hc) GI⟩,hinv,K⟩
end
end
def zmR(s:af)(i:Nat):s.extract (min (200*i) s.size) (min (200*i+200) s.size)=E5 s i:=by
 apply jk;apply kW;intro k;rw[E5];simp only[ByteArray.data_extract,Array.getElem?_extract];have hs:s.data.size=s.size:=rfl;by_cases h:k<min (min (200*i+200) s.size) s.data.size-min (200*i) s.size
 ·rw[bu h,bu (by omega)]
  congr 1
  omega
 rw[aV h];by_cases h2:k<min (200*i+200) s.data.size-200*i
 ·exfalso;omega
 rw[aV h2]
def yB.set{M:List Entry}(h:yB w mb n M)(hn:n<maxLen)(k:Nat)(hk:k<=1000000)(s:af)(hs:s.size<=maxLen):
  ∃w2,(Instr.mapUpdate 130 (.map (some mb)) (.int .i64 k) (.string s)).run prog w= .ok () w2∧
   w2.ownsMap prog 3 (plainElem prog 9) mb (n+1) ((JW M).put (.int .i64 k) (.lit (.string s.data.toList)))∧w.grownBy w2 (some mb):=by
 have zq:keyOf prog 3 (.int .i64 k)=some (.int .i64 k):=mP fG (by simp[Lit.wf,show IntKind.i64.min= -9223372036854775808 from rfl,show IntKind.i64.max=9223372036854775807 from rfl];omega);have TD:plainElem (H:=Unit) prog 9 (.string s)=some (.lit (.string s.data.toList),[]):=by simp[plainElem,bK,hs]
 exact o7 h zdY iZ hn zq TD
section
variable {w w':ax}{I:Nat->Prop}{BB B RN D C:Nat}{sn:List Int}{sv av tv nv xv:ay}{Nw Nx:List qP}{V:qI}{qy:List af}{b:sH}
def zmQ{n:Int}(h:Ap w I BB B RN D C sn sv av tv nv xv Nw Nx V qy n b)(h0:b.qE=0):
  ae 21 #[.pointer (some ⟨BB,0,none⟩)] w λe w'=>e= .returned (.int .i64 6)∧w'=w:=by
 have c1:=h.row.c1;rw[show(b.qE:Int)=0 by omega]at c1;clear h h0;go_enter func21,ntmps21;go_wp2_with fail;go_ret;exact⟨rfl,rfl⟩
def zqa{secret:af}{m:Nat}(h:Ap w I BB B RN D C sn sv av tv nv xv Nw Nx V qy m b)(ok:F9 b)(h0:b.qE≠0)(hi:xR secret V qy m)(hn:m<1000)(yR:secret.size<=1000)(T:CS w):
  ae 21 #[.pointer (some ⟨BB,0,none⟩)] w λe w'=>e= .returned (.int .i64 0)∧(∃CU,Ap w' I BB B RN D C CU sv (.slice none 0 0) (.slice none 0 0) xv xv Nx Nx (xG V V.now.qB (uf (ug (uC (Hu b)) 32) (zi V))) (DX V qy V.now.qB (uf (ug (uC (Hu b)) 32) (zi V))) ((m+1:Nat):Int) (zcW b))∧xR secret (xG V V.now.qB (uf (ug (uC (Hu b)) 32) (zi V))) (DX V qy V.now.qB (uf (ug (uC (Hu b)) 32) (zi V))) (m+1)∧Keep (RW BB B C D sv av tv) w w':=by
 have e1:=hi.ep1;have e2:=hi.ep2;have e3:=hi.Ea;have Rq:=λW (K:ak w W)=>UQ b.qE xv Nx W (h.nxt.qm K (λ_ _ x=>x)).items (by rw[h.nxt.eq];exact ok.print (by omega)) (T.qm K id);obtain⟨S,hS⟩:=aj (Hu b);rw[h.nxt.eq,show(⟨(xW b.qE (rU b.next)).toArray⟩:af)=S from hS.s]at Rq;have hSz:S.size<=6400:=by rw[hS];exact ok.text (by omega)
 have LP:(uC S).length=32:=by simp[uC]
 have Yz:∀s∈uC S,s.size<=200:=λs hs=>by obtain⟨i,_,rfl⟩:=bY.1 hs;exact F5 _ i
 obtain⟨f,hf⟩:∃f:Nat->Option af,f=zkh false (ug (uC S) 32) V.texts:=⟨_,rfl⟩
 have hfk:∀k,k<32->f k=if zi V ((k:Int),(uC S).getD k ⟨#[]⟩)then some ((uC S).getD k ⟨#[]⟩)else none:=λk hk=>by
  rw[hf,zkh,aV (by decide),Dj (xA _ _) (Fp.2 ⟨k,hk,rfl⟩)];show(if (uC S).getD k ⟨#[]⟩=V.texts.getD k ⟨#[]⟩then none else some ((uC S).getD k ⟨#[]⟩))=_;have e9:zi V ((k:Int),(uC S).getD k ⟨#[]⟩)= !decide ((uC S).getD k ⟨#[]⟩=V.texts.getD k ⟨#[]⟩):=by rw[zi,kJ,<-zqP]
  rw[e9];by_cases e:(uC S).getD k ⟨#[]⟩=V.texts.getD k ⟨#[]⟩
  ·rw[bu e,bF e];rfl
  rw[aV e,cO e];rfl
 have ht:=Xy (uC S) (zi V) f hfk;have hf2:∀k t,k<32->f k=some t->t.size<=200:=λk t hk e=>by
  rw[hfk k hk]at e;split at e
  ·obtain rfl:=aU e;rw[aG,aK (by rw[LP];exact hk)];exact Yz _ (fO _)
  cases e
 have hinv:=Ur hi (by omega) (Iq (o:=zi V) (xA (uC S) 32) (D5 Yz LP)) (ep:=V.now.qB) (.inl rfl);obtain⟨W,hW⟩:=aj (uf (ug (uC S) 32) (zi V));rw[<-hW]at ht hinv;rw[<-hS,<-hW];have zf0:∀(w4:ax) (mb nm:Nat),ak w w4->w.heap.size<=mb->yB w4 mb nm (ug (uC S) 32)->ae 23 #[.pointer (some ⟨B,0,none⟩),.map (some mb),.bool false] w4 λe w'=>e= .returned (.int .i64 0)∧(∃CU,Ap w' I BB B RN D C CU sv (.slice none 0 0) (.slice none 0 0) nv xv Nw Nx (xG V V.now.qB W) (DX V qy V.now.qB W) ((m+1:Nat):Int) b)∧Keep (λg=>(g=B∨g=C)∨RB D sv av tv g) w4 w':=λw4 mb nm K hb hM=>by
  have h4:=h.qm K (λ_ _ x=>x);refine(XO h4.vr hi.alive (some mb) false (by omega) (by omega) e1 (by omega) nm (ug (uC S) 32) m sv av tv qy hM h4.dv h4.cc h4.rr (λg hg=>⟨(h4.far g hg).1,(h4.far g hg).2.1,(h4.far g hg).2.2,λe=> ?_⟩) f (λk hk=>by rw[hf]) hf2 hi.t200 (by rw[hi.sec];exact yR) h4.mks V.now.qB rfl).m ?_
  ·have h9:=h.lt g (.inr (.inr (.inr (.inr hg))));have h8:mb=g:=aU e;omega
  rintro e w' ⟨he,⟨CU,hv,hm,hd,hc,GI⟩,K'⟩;rw[ht]at hv hm hd;exact⟨he,⟨CU,h4.told K' hv hm hd (by rw[show((m+1:Nat):Int)=V.now.count+1 by omega];exact hc) GI⟩,K'⟩
 have Hpr:=ag Rq;have zkv:=ag zf0;have H:=ag h;have zuu:=ag hinv;have zwB:∀i,i<32->(uC S).getD i ⟨#[]⟩=E5 S i:=λi hi=>by rw[uC,aG,aX,kP hi];rfl
 have zuw:=ag zwB;have c1:=h.row.c1;have c3:=h.row.c3;have z0:((b.qE:Int)==0)=false:=by rw[eu];omega
 have zea:BB<w.heap.size:=lt_of_heap h.row;obtain⟨px,cx,hxv⟩:=h.nxt.items.rows.len;have Hxv:=ag hxv;clear Rq zf0 h hi hinv ht hf hfk hf2 LP Yz hS hW ok T e1 e2 e3 zwB hxv h0;go_enter func21,ntmps21;go_upto_region 3 with(fail)
 have zlA:=ag (λY:Ext w=>Hpr.o (w.ext Y) (rZ w Y))
 go_cut [3] (λsv wz=>sv= .string S∧Hid (ak w wz))
 case first=>
  refine rX (by kernel_rfl) (by kernel_rfl) ?_
  repeat((with_reducible refine jK (λK hK=> ?_));go_simp;first|(refine hK _ ?_;clear hK K)|(apply Exists.intro;refine⟨λ_=> ?_,hK _ ?_⟩;(go_at_call 57;exact vw _ (zlA.o _));clear hK K))
  refine dP ?_;intro Y;go_wp2_with fail;go_meet
  exact⟨rfl,ag (rZ w Y)⟩
 case rest=>
 obtain⟨rfl,hK1⟩:=hcut;obtain⟨w1,rfl⟩:=aj wc;have hmm:= @run_makeMap prog;go_upto_region 5 with(fail)
 clear hmm;obtain⟨mb,Qe⟩:=aj w1.heap.size;obtain⟨w2,Gp⟩:=aj (w1.alloc (Obj.map #[] 0));have m0:yB w2 mb 0 (ug (uC S) 0):=by rw[Gp,Qe];exact nU _ _ _ _
 have K2:ak w w2:=by rw[Gp];exact hK1.o.alloc _
 rw[<-Gp,<-Qe];have Hmb:Hid (w.heap.size<=mb):=ag (by rw[Qe];exact hK1.o.size);have Xo:=ag K2;clear Qe Gp K2;go_wp2_with fail
 go_loopw [28] (λiv wr=>∃i:Nat,iv= .int .i64 i∧i<=32∧Hid (yB wr mb i (ug (uC S) i))∧Hid (ak w wr)) (λiv _=>32-(intOf iv).toNat)
 case atStart=>exact⟨0,rfl,by omega,ag m0,Xo⟩
 case round=>
  obtain⟨i,rfl,hi,hM,hKr⟩:=hrel;obtain⟨wo,rfl⟩:=aj wr;clear m0 Xo;by_cases rE:i<32
  ·have j1:(i:Int)<32:=by omega
   obtain⟨lo,BA⟩:=aj (min (200*i) S.size);obtain⟨up,hup⟩:=aj (min (200*i+200) S.size);have QN:=zmR S i;rw[<-BA,<-hup]at QN;have zu:=F5 S i;obtain⟨ck,ztZ⟩:=aj (E5 S i);rw[<-ztZ]at QN zu;have Zm:∀W:ax,(Instr.slice 9 (.string S) (some (.int .i64 lo)) (some (.int .i64 up)) none).run prog W= .ok (.string ck) W:=λW=>by rw[run_slice_string (h:=bK) (h0:=by omega) (h1:=by omega) (h2:=by omega),kJ,kJ,QN]
   obtain⟨w5,RJ,Xe,hg5⟩:=yB.set hM.o (by unfold maxLen;omega) i (by omega) ck (by unfold maxLen;omega);rw[show ck=(uC S).getD i ⟨#[]⟩by rw[zuw.o i rE,ztZ]]at Xe;rw[SQ]at Xe;have Hm5:=ag Xe;have HK5:=ag (hKr.o.grown hg5 (λq hq=> .inr (by have h1:=aU hq;have:=Hmb.o;omega)));have q1:IntKind.i64.wrap ((i:Int)*200)=((200*i:Nat):Int):=by rw[aY _ (by omega)];omega
   have q2:IntKind.i64.wrap (((i:Int)+1)*200)=((200*i+200:Nat):Int):=by rw[aY _ (by omega)];omega
   obtain⟨a1,ha1⟩:=aj (200*i);obtain⟨a2,ha2⟩:=aj (200*i+200);rw[<-ha1]at q1 BA;rw[<-ha2]at q2 hup;have Hlo:=ag BA;have Hup:=ag hup;clear BA hup QN ztZ Xe hg5 ha1 ha2
   go_upto_if 39 with(fail)
   go_cut [7] (λQl wx=>Ql= .int .i64 lo∧wx=wo)
   case first=>
    by_cases hc:S.size<a1
    ·have jc:(S.size:Int)<a1:=by omega
     have e9:lo=S.size:=by have:=Hlo.o;omega
     have He9:=ag e9;clear hc e9;go_wp2_with fail;go_meet
     exact⟨by rw[He9.o],rfl⟩
    have jc:¬(S.size:Int)<a1:=by omega
    have e9:lo=a1:=by have:=Hlo.o;omega
    have He9:=ag e9;clear hc e9;go_wp2_with fail;go_meet
    exact⟨by rw[He9.o],rfl⟩
   case rest=>
   obtain⟨rfl,Yw⟩:=hcut;subst wc
   go_upto_if 45 with(fail)
   go_cut [8] (λQl wx=>Ql= .int .i64 up∧wx=wo)
   case first=>
    by_cases hc:S.size<a2
    ·have jc:(S.size:Int)<a2:=by omega
     have e9:up=S.size:=by have:=Hup.o;omega
     have He9:=ag e9;clear hc e9;go_wp2_with fail;go_meet
     exact⟨by rw[He9.o],rfl⟩
    have jc:¬(S.size:Int)<a2:=by omega
    have e9:up=a2:=by have:=Hup.o;omega
    have He9:=ag e9;clear hc e9;go_wp2_with fail;go_meet
    exact⟨by rw[He9.o],rfl⟩
   case rest=>
   obtain⟨rfl,Yw⟩:=hcut;subst wc;go_wp2_with fail;exact⟨⟨i+1,by go_num,by omega,Hm5,HK5⟩,by simp[intOf];omega⟩
  obtain rfl:i=32:=by omega
  have j1:¬((32:Nat):Int)<32:=by omega
  have hT:=zkv.o wo mb 32 hKr.o Hmb.o hM.o;have hR:=H.o.qm hKr.o (λ_ _ x=>x);have b0:=hR.row.c0;have HT:=ag hT;have HR:=ag hR;clear hT hR hM;go_wp2_with fail;refine HT.o.m ?_;rintro e w6 ⟨rfl,⟨CU,hR6⟩,K6⟩;have d3:=hR6.row.c3;have d2:=hR6.row.c2;have f2:=hR6.row.fr 2;have Zk:=Hxv.o;rw[Zk]at d3;have HR6:=ag hR6;have HK6:=ag K6;clear hR6 K6 Zk HT;go_wp2_with fail;go_ret;have KB:Keep (qJ BB) w6 (w6.setCell ⟨BB,2,none⟩ xv):=(ah _ _).tK 2 _;have hn9:∀g,I g->¬qJ BB g:=λg hg e=>(HR6.o.ap g hg).2 (.inl e);rw[<-Hxv.o];refine⟨rfl,⟨CU,HR6.o.head KB (HR6.o.row.zh xv) (HR6.o.nxt.qm KB hn9) (HR6.o.nxt.qm KB hn9) (λg hg=> .inl hg) (λg hg=>hg)⟩,zuu.o,?_⟩;exact((hKr.o.yw (S:=RW BB B C D sv av tv)).then (HK6.o.m λg _ hg=>by
   rcases hg with(e|e)|e
   ·exact .inr (.inl e)
   ·exact .inr (.inr (.inl e))
   exact .inr (.inr (.inr e)))).then (KB.m λg _ hg=> .inl hg)
end
section
open Go.Lib
def Wq:∀T:List af,Lib.join (T.map (·.data.toList)) []=Bg T
 | []=>rfl
 | [t]=>by simp[Lib.join,Bg,List.intercalate]
 | t::u::T=>by have h:=Wq (u::T);unfold Lib.join Bg at*;simp only[bH,List.intercalate,List.intersperse_cons_cons,List.flatten_cons,fZ,dZ]at*;rw[h]
def zgW:∀T:List af,(∀s∈T,s.size<=200)->(Bg T).length<=200*T.length
 | [],_=>aS _
 | t::T,h=>by rw[Bg,dZ,aN,<-Bg,bf];have h1:=h t bW;have h2:=zgW T λs hs=>h s (bD _ hs);have h3:t.data.toList.length=t.size:=rfl;omega
end
def zqf(B:Nat):prog.built 61 [(0,.pointer (some ⟨B,0,none⟩))]=some #[.pointer (some ⟨B,0,none⟩),.int .i64 0,.slice none 0 0,.slice none 0 0]:=by kernel_rfl
def zpC{sn:List Int}{nv:ay}{Nw:List qP}{n:Int}(h2:w.heap.size<=w2.heap.size)(hBB:w.heap.size<=BB∧BB<w2.heap.size)(hB:w.heap.size<=B∧B<w2.heap.size∧BB≠B)(rE:C<w.heap.size∧(∀g,RB D sv av tv g->g<w.heap.size)∧RN<w.heap.size)(hdc:(∀g,RB D sv av tv g->g≠C∧g≠RN)∧C≠RN)
  (K:Keep (qJ BB) w2 w') (hr:wW w' BB B b.qE nv nv) (hv:uS w2 B RN D C V sn) (hm:V.marks=marksOf sn V.texts) (hd:xC w2 D sv av tv qy [] (-1)) (hc:QU w2 C n) (rr:D7 w2 RN) (hI:zT w' nv Nw) (he:Nw.map qA=rU b.now) (Bl:b.next=b.now) (ho:∀g,nv.ownBlock=some g->w2.heap.size<=g∧g<w'.heap.size) (ha:∀x∈Nw,∀g,x.av.ownBlock=some g->w2.heap.size<=g∧g<w'.heap.size):
  ∃I,Ap w' I BB B RN D C sn sv av tv nv nv Nw Nw V qy n b∧∀g,I g∨g=BB∨g=B->g=RN∨w.heap.size<=g:=by
 obtain⟨l1,l2,l3⟩:=rE;have nb:∀g,g≠BB->¬qJ BB g:=λg hg e=>hg e;have hit:RIt w' (λg=>g=RN∨(w2.heap.size<=g∧g<w'.heap.size)) nv Nw (rU b.now):=⟨hI,he,λg hg=> .inr (ho g hg),λx hx g hg=> .inr (ha x hx g hg)⟩
 refine⟨λg=>g=RN∨(w2.heap.size<=g∧g<w'.heap.size),⟨hr,hv.qm K (nb _ (Ne.s hB.2.2)),hm,hd.qm K (λg hg=>nb g (by have:=l2 g hg;omega)),hc.qm K (nb _ (by omega)),rr.qm K (nb _ (by omega)),hit,by rw[Bl];exact hit,.inl rfl,λg hg=> ?_,λg hg=>⟨by have:=l2 g hg;omega,by have:=l2 g hg;omega,(hdc.1 g hg).1⟩,⟨hB.2.2,by omega,by omega⟩⟩,λg hg=> ?_⟩
 ·have hk:=K.size;rcases hg with rfl|hg
  ·refine⟨by omega,?_⟩;rintro(e|e|e|e)
   ·omega
   ·omega
   ·exact hdc.2 e.s
   exact(hdc.1 _ e).2 rfl
  refine⟨hg.2,?_⟩;rintro(e|e|e|e)
  ·omega
  ·omega
  ·omega
  have:=l2 _ e;omega
 ·rcases hg with(hg|hg)|hg|hg
  ·exact .inl hg
  ·exact .inr (by omega)
  ·exact .inr (by omega)
  exact .inr (by omega)
def zkM{secret:af}{m:Nat}(hd:xC w D sv av tv qy [] (-1))(hc:QU w C m)(RR:D7 w RN)(hi:xR secret V qy m)(hn:m<1000)(hs:secret.size=16)(ok:F9 b)(said:VE V.texts b)(VA:yZ w)(hdc:∀g,RB D sv av tv g->g≠C∧g≠RN)(Xg:C≠RN):
  ae 8 #[.pointer (some ⟨RN,0,none⟩),.pointer (some ⟨D,0,none⟩),.pointer (some ⟨C,0,none⟩),.string secret] w λe w'=>(∃BB B sn nv Nw I,e= .returned (.tuple #[.pointer (some ⟨BB,0,none⟩),.int .i64 0])∧Ap w' I BB B RN D C sn sv av tv nv nv Nw Nw V qy m (uP b V.texts)∧∀g,I g∨g=BB∨g=B->g=RN∨w.heap.size<=g)∧ak w w':=by
 have FI:=zhI (wait:= []) (qR:= -1) (show xR secret V (sQ qy []) m from hi) hd hc hs RR (by omega);have hC:C<w.heap.size:=lt_of_heap hc;have hD:=xC.lt (r:=(qy,[],-1)) hd;have hR:=RR.lt;obtain⟨S,hS⟩:∃S:af,S=⟨(Bg V.texts).toArray⟩:=⟨_,rfl⟩
 have hSl:S.data.toList=Bg V.texts:=by rw[hS]
 have Hop:=ag FI;have Hd:=ag hd;have Hc:=ag hc;have HR:=ag RR;have HT:=ag (And.intro hi.texts hi.t200);have HV:=ag VA;have Hlt:=ag (And.intro hC (And.intro hD hR));have Hdc:=ag (And.intro hdc Xg);have HS:=ag (And.intro hS hSl);have Xn:=ag (And.intro ok said);clear FI hd hc RR hi VA hC hD hR hdc Xg hS hSl ok said hs;go_enter func8,ntmps8;go_wp2_with fail;refine Hop.o.m ?_;rintro e w1 ⟨⟨B,sn,rfl,hB,hV,EU⟩,K1⟩;have hbb:=zqf B;have HV1:=ag hV;have HB:=ag hB;have Hmk:=ag EU;have Lu:=ag K1;clear hV hB EU K1 Hop;go_upto_region 5 with(fail)
 obtain⟨BB,hBB⟩:=aj w1.heap.size;have uU:=aQ w1 (.cells #[.pointer (some ⟨B,0,none⟩),.int .i64 0,.slice none 0 0,.slice none 0 0] 61);have FB:=(ah qw w1).alloc (.cells #[.pointer (some ⟨B,0,none⟩),.int .i64 0,.slice none 0 0,.slice none 0 0] 61);obtain⟨w2,Gp⟩:=aj (w1.alloc (.cells #[.pointer (some ⟨B,0,none⟩),.int .i64 0,.slice none 0 0,.slice none 0 0] 61));have z12:w2.heap.size=w1.heap.size+1:=by rw[Gp];exact dW _
 rw[<-Gp]at uU FB;rw[<-hBB]at uU;rw[<-Gp,<-hBB];have uU:wW w2 BB B 0 (.slice none 0 0) (.slice none 0 0):=uU;have hV2:=HV1.o.qm FB id;have KW2:ak w w2:=Lu.o.qo FB;have zf8:∀W,ak w2 W->ae 38 #[.slice (some ⟨B,39,none⟩) 32 32,.string ⟨#[]⟩] W (au (.string S) W):=λW K=>by
  have h9:=strings_Join B 39 32 V.texts ⟨#[]⟩ W (λj x hj=>by
   have Tv:=aT.1 hj;rw[(hV2.qm K id).text j (by rw[<-HT.o.1];exact Tv.1),aG,hj];rfl) (dH hV2.lt K.size) (by rw[HT.o.1];omega) (by rw[HT.o.1];omega) (by
   rw[show(⟨#[]⟩:af).data.toList= []from rfl,Wq];have:=zgW V.texts HT.o.2;rw[HT.o.1]at this;omega)
  rw[HT.o.1,show(⟨#[]⟩:af).data.toList= []from rfl,Wq,<-HS.o.1]at h9;exact h9.m λe w' h=>⟨h.1,Keep.Em h.2⟩
 have xM:Hid (w.heap.size<=w2.heap.size∧(w.heap.size<=BB∧BB<w2.heap.size)∧(w.heap.size<=B∧B<w2.heap.size∧BB≠B)):=ag (by have h1:=Lu.o.size;have h2:=HB.o;have h3:=HV1.o.lt;refine⟨by omega,by omega,by omega,by omega,by omega⟩)
 have zc3:=ag zf8;have HV2:=ag hV2;have TL:=ag KW2;have RY:=ag uU;have hB2:B<w2.heap.size:=hV2.lt;clear hbb hBB Gp z12 FB zf8 hV2 KW2 uU HV1;go_wp2_with fail;refine(zc3.o _ (ah _ _)).m ?_;rintro e w3 ⟨rfl,K3⟩;have hr3:=RY.o.qm K3 id;have hV3:=HV2.o.qm K3 id;have KW3:=TL.o.qo K3;have z3:=K3.size;obtain⟨q1,q2,q3⟩:=xM.o;obtain⟨l1,l2,l3⟩:=Hlt.o;have Zo:=Hd.o.qm KW3 (λ_ _ x=>x);have hc3:=Hc.o.qm KW3 id;have hR3:=HR.o.qm KW3 id;have Bl:(uP b V.texts).next=(uP b V.texts).now:=by unfold uP;split<;>rfl
 have fin:∀(w':ax) (nv:ay) (Nw:List qP),Keep (qJ BB) w3 w'->wW w' BB B (uP b V.texts).qE nv nv->zT w' nv Nw->Nw.map qA=rU (uP b V.texts).now->(∀g,nv.ownBlock=some g->w3.heap.size<=g∧g<w'.heap.size)->(∀x∈Nw,∀g,x.av.ownBlock=some g->w3.heap.size<=g∧g<w'.heap.size)->(∃I,Ap w' I BB B RN D C sn sv av tv nv nv Nw Nw V qy m (uP b V.texts)∧∀g,I g∨g=BB∨g=B->g=RN∨w.heap.size<=g)∧ak w w':=λw' nv Nw K hr hI he ho ha=>
  ⟨zpC (w:=w) (w2:=w3) (by omega) ⟨by omega,by omega⟩ ⟨by omega,by omega,q3.2.2⟩ Hlt.o Hdc.o K hr hV3 Hmk.o Zo hc3 hR3 hI he Bl ho ha,KW3.t K (λg hg e=>by have h9:g=BB:=e;omega)⟩
 have c2:=hr3.c2;have c3:=hr3.c3;have f3:=hr3.fr 3;have zB3:BB<w3.heap.size:=lt_of_heap hr3;obtain⟨E,hE⟩:=aj (decide (Bg V.texts= []));have zzZ:S.toList.isEmpty=E:=by rw[dI,HS.o.2,hE];cases Bg V.texts<;>rfl
 have zs8:=ag fin;have HE:=ag hE;have Hr3:=ag hr3;have ZE:=ag KW3;clear fin Zo hc3 hR3 Bl hV3 hE hr3 KW3 l1 l2 l3 q1 q2 q3;cases E with
 | true=>
  have hj:=fM HE.o.s;have e0:uP b V.texts=⟨0,[],[]⟩:=by rw[uP,bu hj]
  have He0:=ag e0;clear e0 hj;go_wp2_with fail
  go_ret2
  have hF:=zs8.o (w3.setCell ⟨BB,3,none⟩ (.slice none 0 0)) (.slice none 0 0) [] ((ah _ _).tK 3 _) (by rw[He0.o];exact Hr3.o.Uc _) ⟨.inl ⟨rfl,none,0,rfl⟩,λx hx=>by cases hx⟩ (by rw[He0.o];rfl) (λg hg=>by cases hg) (λx hx=>by cases hx);obtain⟨⟨I,hI,hg⟩,K⟩:=hF;exact⟨⟨BB,B,sn,_,[],I,rfl,hI,hg⟩,K⟩
 | false=>
  have hj:=iD HE.o.s;have e0:uP b V.texts=⟨b.qE,b.now,[]⟩:=by rw[uP,aV hj]
  have IP:1<=b.qE∧Bg V.texts=xW b.qE (rU b.now):=by
   rcases Xn.o.2 with h|h
   ·exact absurd h.1 hj
   exact h
  have hp:=ze6 b.qE (rU b.now) (VV IP.1 Xn.o.1.eight Xn.o.1.rn Xn.o.1.len Xn.o.1.now) S (by rw[HS.o.2];exact IP.2) w3 (HV.o.qm ZE.o);have Hp:=ag hp;have He0:=ag e0;clear e0 hj IP hp c2 c3 f3;go_wp2_with fail;refine Hp.o.m ?_;rintro e w4 ⟨⟨v,L,rfl,hL,hP⟩,K4⟩;obtain⟨pv,cv,rfl⟩:=yJ hP.own;have hr4:=Hr3.o.qm K4 id;have f1:=hr4.fr 1;have f2:=hr4.fr 2;have f3:=hr4.fr 3;have d1:=hr4.c1;have d2:=hr4.c2;have d3:=hr4.c3;have HP:=ag hP;have HL:=ag hL;have Hr4:=ag hr4;obtain⟨nl,CV⟩:=aj L.length;rw[<-CV];have Ot:=ag CV;clear hP hL hr4 CV;go_wp2_with fail
  go_ret2
  have KB:=((((K4.yw (S:=qJ BB)).tK 1 (.int .i64 b.qE)).tK 2 (.slice pv nl cv)).tK 3 (.slice pv nl cv))
  have GG:∀g,w3.heap.size<=g->¬qJ BB g:=λg hg e=>by have h9:g=BB:=e;omega
  have KB4:Keep (qJ BB) w4 (((w4.setCell ⟨BB,1,none⟩ (.int .i64 b.qE)).setCell ⟨BB,2,none⟩ (.slice pv nl cv)).setCell ⟨BB,3,none⟩ (.slice pv nl cv)):=(((ah _ _).tK 1 _).tK 2 _).tK 3 _;have ru:=HP.o.own;rw[<-Ot.o]at ru;have hit:=HP.o.items;rw[<-Ot.o]at hit;have z4:=KB4.size;have hF:=zs8.o _ (.slice pv nl cv) L KB (by rw[He0.o];exact((Hr4.o.zok b.qE).zh _).Uc _) ⟨hit.rows.qm KB4 (λg hg=>GG g (ru.lt g hg).1),λx hx=>(hit.yK x hx).qm KB4 (λg hg=>GG g ((HP.o.yK x hx).2 g hg))⟩ (by rw[He0.o];exact HL.o) (λg hg=>by have:=ru.lt g hg;omega) (λx hx g hg=>by have h1:=(HP.o.yK x hx).2 g hg;obtain⟨c9,f9,h9⟩:=(HP.o.yK x hx).1.2 g hg;have:=lt_of_heap h9;omega)
  obtain⟨⟨I,hI,hg⟩,K⟩:=hF;exact⟨⟨BB,B,sn,_,L,I,rfl,hI,hg⟩,K⟩
def RI:sH:=⟨0,[],[]⟩
def zkQ:F9 RI:=⟨List.Pairwise.nil,List.Pairwise.nil,(λp hp=>by cases hp),(λp hp=>by cases hp),by simp[RI],by simp[RI,sH.next,uY],λ_=>⟨rfl,rfl⟩,by simp[RI]⟩
def zbk:Bg (yS OG).texts= []:=by
 show Bg (List.replicate 32 ⟨#[]⟩)= []
 rfl
def SE:VE (yS OG).texts RI:= .inl ⟨zbk,rfl⟩
def za6:uP RI (yS OG).texts=RI:=by rw[uP,bu zbk];rfl
def zjR(h:F9 b){x:sW}(hx:x∈rU b.now):x.2.2.length<=8:=by obtain⟨p,hp,rfl⟩:=bY.1 hx;have h1:=(h.now p hp).2;have h2:=h.eight;simp only[uJ,bI,fA,aW,eU]at h1;have h3:=h1.1.2;omega
def Yc(h:F9 b){l:List qP}(e:l.map qA=rU b.now):l.length<=60∧l.length=b.now.length∧∀x∈l,x.ns.length<=8:=by have h1:=dB List.length e;rw[aP,rU,aP]at h1;refine⟨by have:=h.len;omega,h1,λx hx=> ?_⟩;have h2:qA x∈rU b.now:=e▸bY.2 ⟨x,hx,rfl⟩;exact zjR h h2
section
variable [Inhabited Bd]
def VM(w:ax)(S:Nat->Prop):Prop:=∀b c t f,S b->w.heap[b]? =some (.cells c t f)->Z4 t∨(t=3∧b<loB)
section
variable {w0 w w':ax}{S:Nat->Prop}
def VM.ne(h:VM w S){b:Nat}{t:aB}(hs:S b)(hh:w.heap[b]? =some (.cells c t f))(ht:¬Z4 t)(hi:t≠3):False:=by
 rcases h b c t f hs hh with h1|h1
 ·exact ht h1
 exact hi h1.1
def yc.ZI{x:qP}(h:yc w x)(hk:Keep S w w')(hS:VM w S):yc w' x:=by
 have hn:∀b,x.av.ownBlock=some b->¬S b:=λb hb hs=>by
  obtain⟨hl,cs,fz,hc⟩:=h.2 b hb;rcases hS b _ _ _ hs hc with h1|h1
  ·exact h1.int rfl
  omega
 exact⟨h.1.qm hk hn,λb hb=>by obtain⟨hl,cs,fz,hc⟩:=h.2 b hb;exact⟨hl,cs,fz,hk.heap hc (hn b hb)⟩⟩
def Ox.ZI{o:Option ay}(h:Ox w v o)(hk:Keep S w w')(hS:VM w S):Ox w' v o:=by
 cases o with
 | none=>exact h
 | some x=>
  obtain⟨b,a,t,c,f,h1,h2,h3⟩:=h;exact⟨b,a,t,c,f,h1,h2,hk.heap h3 (λhs=>hS.ne hs h3 (λh=>h.item rfl) (by decide))⟩
def zik{base:Nat}{bs:List (Nat×ay)}{cs:List Cell}(h:uh w base C qE v bs cs)(K:Keep S w w')(hS:VM w S):uh w' base C qE v bs cs:=
 ⟨K.heap h.head (λhs=>hS.ne hs h.head (λh=>h.cells rfl) (by decide)),QG h.row K (λb c f hs hh=>hS.ne hs hh (λh=>h.ptr rfl) (by decide)),h.len,λi b c hb hc=>by have h1:=h.cell i b c hb hc;exact⟨K.heap h1.1 (λhs=>hS.ne hs h1.1 (λh=>h.cell rfl) (by decide)),h1.2.1,QG h1.2.2 K (λb c f hs hh=>hS.ne hs hh (λh=>h.item rfl) (by decide))⟩,h.ptr,h.own,h.low⟩
end
end
section
variable [Inhabited Bd]
structure zaB(w:ax):Prop where
 rounds:rF w
 items:yZ w
 Zx:Fe w
section
variable {w0 w w':ax}{S:Nat->Prop}
variable {P:Nat->Prop}{BB D C:Nat}{V:qI}{d:vN}{n:Int}{b:sH}{k:Nat}
def vX.lt(h:vX w0 w P BB D C V d n b k):∀x,P x->x<w.heap.size:=by
 obtain⟨B,S,wv,mb,wb,CC,nm,nw,L,W,h⟩:=h;intro x hx;rcases(h.blocks x).1 hx with hx|rfl|rfl
 ·exact h.vn.lt x hx
 ·exact h.row.lt
 exact h.rd.wait.lt
def vX.ZI(h:vX w0 w P BB D C V d n b k)(hk:Keep S w w')(hX:VM w S)(h1:∀x,P x->¬S x)(h2:∀x,S x->∃c t f,w.heap[x]? =some (.cells c t f))(h3:∀x,x<w0.heap.size->¬S x):vX w0 w' P BB D C V d n b k:=by
 obtain⟨B,S',wv,mb,wb,CC,nm,nw,L,W,h⟩:=h;obtain⟨base,cv,bs,l,q1,q2,q3⟩:=h.cs.cells;exact⟨B,S',wv,mb,wb,CC,nm,nw,L,W,h.vn.o hk (λx hx=>h1 x ((h.blocks x).2 (.inl hx))) h3,h.row.qm hk (h1 BB ((h.blocks BB).2 (.inr (.inl rfl)))),
  ⟨h.rd.now.qm hk (λe=>by obtain⟨c,t,f,hc⟩:=h2 _ e;exact h.rd.now.xI hc rfl),h.rd.wait.qm hk (h1 wb ((h.blocks wb).2 (.inr (.inr rfl)))),h.rd.apart,λp hp=>(h.rd.items p hp).ZI hk hX,λp hp=>⟨(h.rd.waits p hp).1.ZI hk hX,λx hx=>((h.rd.waits p hp).2 x hx).ZI hk hX⟩⟩,
  ⟨base,cv,bs,l,zik q1 hk hX,λx hx=>(q2 x hx).ZI hk hX,q3⟩,h.en,h.ew,h.ok,h.room,h.blocks,h.zbZ,h.zlb⟩
def zyG(h:vX w0 w P BB D C V d n b k):
  ae 24 #[.pointer (some ⟨BB,0,none⟩)] w (au (.int .i64 b.qE) w):=by
 obtain⟨B,S,wv,mb,wb,CC,nm,nw,L,W,h⟩:=h;exact ziv h.row
def zrU(h:vX w0 w P BB D C V d n b k):
  ae 26 #[.pointer (some ⟨BB,0,none⟩)] w (au (.int .i64 V.now.qB) w):=by
 obtain⟨B,S,wv,mb,wb,CC,nm,nw,L,W,h⟩:=h;exact zcM h.row h.vn.G9
end
abbrev JV:ay:= .slice none 0 0
abbrev RQ(BR B CR DR:Nat)(sv:ay):Nat->Prop:=RW BR B CR DR sv JV JV
structure QZ(w0 w:ax)(BB D C BR B RN DR CR X:Nat)(xs:Option (List ay))(V:qI)(n:Nat)(b:sH)(k:Nat)(V2:qI)(n2:Nat)(b2:sH)(P I:Nat->Prop)(d:vN)(sn:List Int)(sv nv xv:ay)(Nw Nx:List qP)(qy:List af):Prop where
 base:vX w0 w P BB D C V d n b k
 inv:xR OG V d.qy n
 wait:d.wait= []
 qR:d.qR<0
 said:VE V.texts b
 rb:Ap w I BR B RN DR CR sn sv JV JV nv xv Nw Nx V2 qy n2 b2
 zdV:xR OG V2 qy n2
 apart:∀x,P x->¬(I x∨RQ BR B CR DR sv x)
 new:∀x,I x∨RQ BR B CR DR sv x->w0.heap.size<=x
 cl:CR<loB
 lo:loB<=w.heap.size
 xr:∀l,xs=some l->w.heap[X]? =some (.cells l.toArray 47 (0,0))∧¬P X∧¬(I X∨RQ BR B CR DR sv X)
def zBp(w0 w:ax)(BB D C BR B RN DR CR X:Nat)(xs:Option (List ay))(V:qI)(n:Nat)(b:sH)(k:Nat)(V2:qI)(n2:Nat)(b2:sH):Prop:=
 ∃P I d sn sv nv xv Nw Nx qy,QZ w0 w BB D C BR B RN DR CR X xs V n b k V2 n2 b2 P I d sn sv nv xv Nw Nx qy
section
variable {w0 w w':ax}{BB D C BR B RN DR CR X:Nat}{xs:Option (List ay)}{V:qI}{n:Nat}{b:sH}{k:Nat}{V2:qI}{n2:Nat}{b2:sH}{P I:Nat->Prop}{d:vN}{sn:List Int}{sv nv xv:ay}{Nw Nx:List qP}{qy:List af}
def Ap.rows(h:Ap w I BR B RN DR CR sn sv JV JV nv xv Nw Nx V2 qy n2 b2):∀g,RQ BR B CR DR sv g->∃c t f,w.heap[g]? =some (.cells c t f)∧(Z4 t∨(t=3∧g=CR)):=by
 rintro g (rfl|rfl|rfl|rfl|hg|hg|hg)
 ·exact⟨_,_,_,h.row,.inl ⟨by decide,by decide,by decide,by decide,by decide⟩⟩
 ·exact⟨_,_,_,h.vr.row,.inl ⟨by decide,by decide,by decide,by decide,by decide⟩⟩
 ·exact⟨_,_,_,h.cc,.inr ⟨rfl,rfl⟩⟩
 ·exact⟨_,_,_,h.dv.head,.inl ⟨by decide,by decide,by decide,by decide,by decide⟩⟩
 ·obtain⟨c,f,hh⟩:=tV h.dv.row hg;exact⟨c,_,f,hh,.inl ⟨by decide,by decide,by decide,by decide,by decide⟩⟩
 ·cases hg
 cases hg
def QZ.prog(h:QZ w0 w BB D C BR B RN DR CR X xs V n b k V2 n2 b2 P I d sn sv nv xv Nw Nx qy){P':Nat->Prop}{BB':Nat}{d':vN}{n':Nat}(hb:vX w0 w' P' BB' D C V' d' n' b' k')(hg:Grow w P P')(K:Keep P w w')(hi:xR OG V' d'.qy n')(hw:d'.wait= [])(hf:d'.qR<0)(hs:VE V'.texts b'):
  QZ w0 w' BB' D C BR B RN DR CR X xs V' n' b' k' V2 n2 b2 P' I d' sn sv nv xv Nw Nx qy:=by
 have zzt:∀g,I g∨RQ BR B CR DR sv g->¬P g:=λg hg hp=>h.apart g hp hg;refine⟨hb,hi,hw,hf,hs,h.rb.qm K zzt,h.zdV,λx hx hr=> ?_,h.new,h.cl,bQ h.lo K.size,λl hl=> ?_⟩
 ·rcases hg x hx with hx|hx
  ·exact h.apart x hx hr
  have:=h.rb.lt x hr;omega
 ·obtain⟨h1,h2,h3⟩:=h.xr l hl;refine⟨K.heap h1 h2,λhx=> ?_,h3⟩;rcases hg X hx with hx|hx
  ·exact h2 hx
  have:=lt_of_heap h1;omega
def QZ.ref(h:QZ w0 w BB D C BR B RN DR CR X xs V n b k V2 n2 b2 P I d sn sv nv xv Nw Nx qy){I':Nat->Prop}{Ve B':Nat}{V2':qI}{n2':Nat}{b2':sH}(hr:Ap w' I' Ve B' RN DR CR CU sv JV JV nv' xv' Nw' Nx' V2' ZG n2' b2')(hi:xR OG V2' ZG n2')(hI:∀g,I' g∨g=Ve∨g=B'->(I g∨RQ BR B CR DR sv g)∨w.heap.size<=g)(K:Keep (RQ BR B CR DR sv) w w'):
  QZ w0 w' BB D C Ve B' RN DR CR X xs V n b k V2' n2' b2' P I' d CU sv nv' xv' Nw' Nx' ZG:=by
 have hI2:∀g,I' g∨RQ Ve B' CR DR sv g->(I g∨RQ BR B CR DR sv g)∨w.heap.size<=g:=by
  rintro g (hg|hg|hg|hg|hg)
  ·exact hI g (.inl hg)
  ·exact hI g (.inr (.inl hg))
  ·exact hI g (.inr (.inr hg))
  ·exact .inl (.inr (.inr (.inr (.inl hg))))
  exact .inl (.inr (.inr (.inr (.inr hg))))
 have Vh:=h.base.qm.size;refine⟨h.base.ZI K (λg c t f hg hh=> ?_) (λx hp hg=>h.apart x hp (.inr hg)) (λx hx=> ?_) (λx hx hg=>by have:=h.new x (.inr hg);omega),h.inv,h.wait,h.qR,h.said,hr,hi,λx hx hr=> ?_,λx hx=> ?_,h.cl,bQ h.lo K.size,λl hl=> ?_⟩
 ·obtain⟨c',t',f',h1,h2⟩:=h.rb.rows g hg;obtain rfl:=rD hh h1;exact h2.imp id (λ⟨x1,x2⟩=>⟨x1,x2▸h.cl⟩)
 ·obtain⟨c',t',f',h1,h2⟩:=h.rb.rows x hx;exact⟨_,_,_,h1⟩
 ·rcases hI2 x hr with hr|hr
  ·exact h.apart x hx hr
  have:=h.base.lt x hx;omega
 ·rcases hI2 x hx with hx|hx
  ·exact h.new x hx
  omega
 ·obtain⟨h1,h2,h3⟩:=h.xr l hl;refine⟨K.heap h1 (λe=>h3 (.inr e)),h2,λhx=> ?_⟩;rcases hI2 X hx with hx|hx
  ·exact h3 hx
  have:=lt_of_heap h1;omega
def QZ.rV(h:QZ w0 w BB D C BR B RN DR CR X xs V n b k V2 n2 b2 P I d sn sv nv xv Nw Nx qy)(K:ak w w'):QZ w0 w' BB D C BR B RN DR CR X xs V n b k V2 n2 b2 P I d sn sv nv xv Nw Nx qy:=
 h.prog (h.base.rV K) (Grow.refl w P) K.yw h.inv h.wait h.qR h.said
def zBp.rV(h:zBp w0 w BB D C BR B RN DR CR X xs V n b k V2 n2 b2)(K:ak w w'):zBp w0 w' BB D C BR B RN DR CR X xs V n b k V2 n2 b2:=by obtain⟨P,I,d,sn,sv,nv,xv,Nw,Nx,qy,h⟩:=h;exact⟨P,I,d,sn,sv,nv,xv,Nw,Nx,qy,h.rV K⟩
def zBp.qm(h:zBp w0 w BB D C BR B RN DR CR X xs V n b k V2 n2 b2):ak w0 w:=by obtain⟨P,I,d,sn,sv,nv,xv,Nw,Nx,qy,h⟩:=h;exact h.base.qm
def zBp.ok(h:zBp w0 w BB D C BR B RN DR CR X xs V n b k V2 n2 b2):F9 b:=by obtain⟨P,I,d,sn,sv,nv,xv,Nw,Nx,qy,h⟩:=h;exact h.base.ok
def zBp.row(h:zBp w0 w BB D C BR B RN DR CR X xs V n b k V2 n2 b2){l:List ay}(e:xs=some l):w.heap[X]? =some (.cells l.toArray 47 (0,0)):=by obtain⟨P,I,d,sn,sv,nv,xv,Nw,Nx,qy,h⟩:=h;exact(h.xr l e).1
def zBp.drop(h:zBp w0 w BB D C BR B RN DR CR X xs V n b k V2 n2 b2)(Y:Nat):zBp w0 w BB D C BR B RN DR CR Y none V n b k V2 n2 b2:=by obtain⟨P,I,d,sn,sv,nv,xv,Nw,Nx,qy,h⟩:=h;exact⟨P,I,d,sn,sv,nv,xv,Nw,Nx,qy,{ h with xr:=λl e=>by cases e }⟩
def zBp.zAn(h:zBp w0 w BB D C BR B RN DR CR X xs V n b k V2 n2 b2)(l:List ay):zBp w0 (w.alloc (.cells l.toArray 47)) BB D C BR B RN DR CR w.heap.size (some l) V n b k V2 n2 b2:=by obtain⟨P,I,d,sn,sv,nv,xv,Nw,Nx,qy,h⟩:=h;have h2:=h.rV ((ah qw w).alloc (.cells l.toArray 47));refine⟨P,I,d,sn,sv,nv,xv,Nw,Nx,qy,{ h2 with xr:=λl' e=> ?_ }⟩;cases e;exact⟨aQ w _,λhp=>by have:=h.base.lt _ hp;omega,λhp=>by have:=h.rb.lt _ hp;omega⟩
def zjW(b:sH)(m:Int)(h:VE T b):VE T (yz b m).2:=by
 unfold yz;split
 ·exact h
 split
 ·exact h
 rename_i h0 _;rcases h with h|h
 ·exact .inl h
 exact absurd h.1 (by omega)
def zoX(h:zBp w0 w BB D C BR B RN DR CR X xs V n b k V2 n2 b2)(m:Int):ae 12 #[.pointer (some ⟨BB,0,none⟩),.int .i64 m] w λe w'=>e= .returned (qY (yz b m).1)∧zBp w0 w' BB D C BR B RN DR CR X xs V n (yz b m).2 k V2 n2 b2:=by obtain⟨P,I,d,sn,sv,nv,xv,Nw,Nx,qy,h⟩:=h;refine(zu5 h.lo h.base m).m ?_;rintro e w' ⟨he,hb,K⟩;exact⟨he,P,I,d,sn,sv,nv,xv,Nw,Nx,qy,h.prog hb (Grow.refl w P) K h.inv h.wait h.qR (zjW b m h.said)⟩
def zrb(h:zBp w0 w BB D C BR B RN DR CR X xs V n b k V2 n2 b2)(hk:k<900000)(x:qP)(N:vM w0 x.av x.ns)(hl:x.ns.length<=1000000):ae 14 #[.pointer (some ⟨BB,0,none⟩),yL x] w λe w'=>e= .returned (qY (zZ b (qA x)).1)∧zBp w0 w' BB D C BR B RN DR CR X xs V n (zZ b (qA x)).2 (k+1) V2 n2 b2:=by
 obtain⟨P,I,d,sn,sv,nv,xv,Nw,Nx,qy,h⟩:=h;refine(zx5 h.lo h.base hk x (N.qm h.base.qm (λ_ _ x=>x)) hl).m ?_;rintro e w' ⟨he,hb,K⟩;refine⟨he,P,I,d,sn,sv,nv,xv,Nw,Nx,qy,h.prog hb (Grow.refl w P) K h.inv h.wait h.qR ?_⟩;unfold zZ;split
 ·exact h.said
 split
 ·exact h.said
 split
 ·exact h.said
 exact h.said
def zre(h:zBp w0 w BB D C BR B RN DR CR X xs V n b k V2 n2 b2)(hk:k<900000)(q:af)(hq:q.size<=maxLen):ae 16 #[.pointer (some ⟨BB,0,none⟩),.string q] w λe w'=>e= .returned (qY (EX b q).1)∧zBp w0 w' BB D C BR B RN DR CR X xs V n (EX b q).2 (k+1) V2 n2 b2:=by
 obtain⟨P,I,d,sn,sv,nv,xv,Nw,Nx,qy,h⟩:=h;refine(zyI h.base hk q hq).m ?_;rintro e w' ⟨he,hb,K⟩;refine⟨he,P,I,d,sn,sv,nv,xv,Nw,Nx,qy,h.prog hb (Grow.refl w P) K h.inv h.wait h.qR ?_⟩;unfold EX;split
 ·exact h.said
 exact h.said
def zgu(h:zBp w0 w BB D C BR B RN DR CR X xs V n b k V2 n2 b2):ae 19 #[.pointer (some ⟨BB,0,none⟩)] w λe w'=>e= .returned (.tuple #[])∧zBp w0 w' BB D C BR B RN DR CR X xs V n (ZF b) k V2 n2 b2:=by obtain⟨P,I,d,sn,sv,nv,xv,Nw,Nx,qy,h⟩:=h;refine(zuI h.base).m ?_;rintro e w' ⟨he,⟨P',hb,hg⟩,K⟩;exact⟨he,P',I,d,sn,sv,nv,xv,Nw,Nx,qy,h.prog hb hg K h.inv h.wait h.qR h.said⟩
abbrev znG(V:qI):qI:=xG V (V.now.qB+1) (uf (ug V.texts 32) (λ_=>true))
def ziM(V:qI)(b:sH):qI:=if b.qE=0 then V else xG V V.now.qB (uf (ug (uC (Hu b)) 32) (zi V))
def zfM(n:Nat)(b:sH):Nat:=if b.qE=0 then n else n+1
def ziO(b:sH):sH:=if b.qE=0 then b else zcW b
def ziN(b:sH):Int:=if b.qE=0 then 6 else 0
def zoU(h:zBp w0 w BB D C BR B RN DR CR X xs V n b k V2 n2 b2)(hn:n<1000)(R:rF w0):ae 22 #[.pointer (some ⟨BB,0,none⟩)] w λe w'=>e= .returned (qY 0)∧zBp w0 w' BB D C BR B RN DR CR X xs (znG V) (n+1) b k V2 n2 b2:=by
 obtain⟨P,I,d,sn,sv,nv,xv,Nw,Nx,qy,h⟩:=h;refine(zuK rfl h.base h.inv h.wait hn (by decide) R h.said).m ?_;rintro e w' ⟨ev,he,ht,K⟩;rcases ht with⟨rfl,V',d',P',hb,hg,hi,hw,hs,hf,rfl⟩|⟨_,hf,_⟩
 ·exact⟨he,P',I,d',sn,sv,nv,xv,Nw,Nx,qy,h.prog hb hg K hi hw (by rw[hf h.qR];exact h.qR) hs⟩
 exact absurd h.qR (by omega)
def zrf(h:zBp w0 w BB D C BR B RN DR CR X xs V n b k V2 n2 b2)(hk:k<900000)(hn:n<1000)(R:rF w0)(T:CS w0):ae 20 #[.pointer (some ⟨BB,0,none⟩)] w λe w'=>e= .returned (qY (ziN b))∧zBp w0 w' BB D C BR B RN DR CR X xs (ziM V b) (zfM n b) (ziO b) k V2 n2 b2:=by
 obtain⟨P,I,d,sn,sv,nv,xv,Nw,Nx,qy,h⟩:=h;refine(zqb h.lo rfl h.base hk h.inv h.wait hn (by decide) R T).m ?_;rintro e w' ⟨ev,he,ht,K⟩;rcases ht with⟨h0,rfl,hb⟩|⟨h0,ht⟩
 ·unfold ziN ziM zfM ziO;rw[bu h0,bu h0,bu h0,bu h0];exact⟨he,P,I,d,sn,sv,nv,xv,Nw,Nx,qy,h.prog hb (Grow.refl w P) K h.inv h.wait h.qR h.said⟩
 unfold ziN ziM zfM ziO;rw[aV h0,aV h0,aV h0,aV h0];rcases ht with⟨rfl,V',d',P',hb,hg,hi,hw,hs,hf,rfl⟩|⟨_,hf,_⟩
 ·exact⟨he,P',I,d',sn,sv,nv,xv,Nw,Nx,qy,h.prog hb hg K hi hw (by rw[hf h.qR];exact h.qR) hs⟩
 exact absurd h.qR (by omega)
def zlS(h:zBp w0 w BB D C BR B RN DR CR X xs V n b k V2 n2 b2)(m:Int):ae 13 #[.pointer (some ⟨BR,0,none⟩),.int .i64 m] w λe w'=>e= .returned (.int .i64 (yz b2 m).1)∧zBp w0 w' BB D C BR B RN DR CR X xs V n b k V2 n2 (yz b2 m).2:=by obtain⟨P,I,d,sn,sv,nv,xv,Nw,Nx,qy,h⟩:=h;refine(zu4 h.rb m).m ?_;rintro e w' ⟨he,hb,K⟩;exact⟨he,P,I,d,sn,sv,nv,xv,Nw,Nx,qy,h.ref hb h.zdV (λg hg=> .inl (hg.imp id (λx=>x.imp id .inl))) (K.m λg _ hg=> .inl hg)⟩
def zoV(h:zBp w0 w BB D C BR B RN DR CR X xs V n b k V2 n2 b2)(ok:F9 b2)(x:qP)(N:vM w0 x.av x.ns)(hx:x.ns.length<=1000000)(Qd:x.name.size<=1000000)(Vf:x.tag.size<=1000000):ae 15 #[.pointer (some ⟨BR,0,none⟩),yL x] w λe w'=>e= .returned (.int .i64 (zZ b2 (qA x)).1)∧zBp w0 w' BB D C BR B RN DR CR X xs V n b k V2 n2 (zZ b2 (qA x)).2:=by
 obtain⟨P,I,d,sn,sv,nv,xv,Nw,Nx,qy,h⟩:=h;refine(zx4 h.rb ok x (N.qm h.base.qm (λ_ _ x=>x)) hx Qd Vf).m ?_;rintro e w' ⟨he,⟨xv',Nx',hb⟩,K⟩;exact⟨he,P,_,d,sn,sv,nv,xv',Nw,Nx',qy,h.ref hb h.zdV (λg hg=>by
  rcases hg with(hg|hg)|hg|hg
  ·exact .inl (.inl hg)
  ·exact .inr hg.1
  ·exact .inl (.inr (.inl hg))
  exact .inl (.inr (.inr (.inl hg)))) (K.m λg _ hg=> .inl hg)⟩
def zoZ(h:zBp w0 w BB D C BR B RN DR CR X xs V n b k V2 n2 b2)(ok:F9 b2)(q:af):ae 17 #[.pointer (some ⟨BR,0,none⟩),.string q] w λe w'=>e= .returned (.int .i64 (EX b2 q).1)∧zBp w0 w' BB D C BR B RN DR CR X xs V n b k V2 n2 (EX b2 q).2:=by
 obtain⟨P,I,d,sn,sv,nv,xv,Nw,Nx,qy,h⟩:=h;refine(zyH h.rb ok q).m ?_;rintro e w' ⟨he,⟨xv',Nx',hb⟩,K⟩;exact⟨he,P,_,d,sn,sv,nv,xv',Nw,Nx',qy,h.ref hb h.zdV (λg hg=>by
  rcases hg with(hg|hg)|hg|hg
  ·exact .inl (.inl hg)
  ·exact .inr hg.1
  ·exact .inl (.inr (.inl hg))
  exact .inl (.inr (.inr (.inl hg)))) (K.m λg _ hg=> .inl hg)⟩
def zlP(h:zBp w0 w BB D C BR B RN DR CR X xs V n b k V2 n2 b2):ae 18 #[.pointer (some ⟨BR,0,none⟩)] w λe w'=>e= .returned (.tuple #[])∧zBp w0 w' BB D C BR B RN DR CR X xs V n b k V2 n2 (ZF b2):=by obtain⟨P,I,d,sn,sv,nv,xv,Nw,Nx,qy,h⟩:=h;refine(zuH h.rb).m ?_;rintro e w' ⟨he,hb,K⟩;exact⟨he,P,I,d,sn,sv,nv,nv,Nw,Nw,qy,h.ref hb h.zdV (λg hg=> .inl (hg.imp id (λx=>x.imp id .inl))) (K.m λg _ hg=> .inl hg)⟩
def zlQ(h:zBp w0 w BB D C BR B RN DR CR X xs V n b k V2 n2 b2)(hn:n2<1000):ae 23 #[.pointer (some ⟨B,0,none⟩),.map none,.bool true] w λe w'=>e= .returned (.int .i64 0)∧zBp w0 w' BB D C BR B RN DR CR X xs V n b k (znG V2) (n2+1) b2:=by
 obtain⟨P,I,d,sn,sv,nv,xv,Nw,Nx,qy,h⟩:=h;refine(zuJ h.rb h.zdV hn (by decide)).m ?_;rintro e w' ⟨he,⟨CU,hb⟩,hi,K⟩;exact⟨he,P,I,d,CU,sv,nv,xv,Nw,Nx,_,h.ref hb hi (λg hg=> .inl (hg.imp id (λx=>x.imp id .inl))) (K.m λg _ hg=>by
  rcases hg with(hg|hg)|hg
  ·exact .inr (.inl hg)
  ·exact .inr (.inr (.inl hg))
  exact .inr (.inr (.inr hg)))⟩
def zo0(h:zBp w0 w BB D C BR B RN DR CR X xs V n b k V2 n2 b2)(ok:F9 b2)(hn:n2<1000)(T:CS w0):ae 21 #[.pointer (some ⟨BR,0,none⟩)] w λe w'=>e= .returned (.int .i64 (ziN b2))∧zBp w0 w' BB D C BR B RN DR CR X xs V n b k (ziM V2 b2) (zfM n2 b2) (ziO b2):=by
 obtain⟨P,I,d,sn,sv,nv,xv,Nw,Nx,qy,h⟩:=h;by_cases h0:b2.qE=0
 ·unfold ziN ziM zfM ziO;rw[bu h0,bu h0,bu h0,bu h0];refine(zmQ h.rb h0).m ?_;rintro e w' ⟨he,rfl⟩;exact⟨he,P,I,d,sn,sv,nv,xv,Nw,Nx,qy,h⟩
 unfold ziN ziM zfM ziO;rw[aV h0,aV h0,aV h0,aV h0];refine(zqa h.rb ok h0 h.zdV hn (by decide) (T.qm h.base.qm id)).m ?_;rintro e w' ⟨he,⟨CU,hb⟩,hi,K⟩;exact⟨he,P,I,d,CU,sv,xv,xv,Nx,Nx,_,h.ref hb hi (λg hg=> .inl (hg.imp id (λx=>x.imp id .inl))) K⟩
def Ap.zvp(h:Ap w I BR B RN DR CR sn sv JV JV nv xv Nw Nx V2 qy n2 b2):(∀g,RB DR sv JV JV g->g≠CR∧g≠RN)∧CR≠RN:=
 ⟨λg hg=>⟨(h.dv0 g hg).2.2,(h.far g hg).2.1⟩,λe=>(h.ap RN h.ir).2 (.inr (.inr (.inl e.s)))⟩
def zlR(h:zBp w0 w BB D C BR B RN DR CR X xs V n b k V n b)(hn:n<1000)(IV:yZ w0):ae 8 #[.pointer (some ⟨RN,0,none⟩),.pointer (some ⟨DR,0,none⟩),.pointer (some ⟨CR,0,none⟩),.string OG] w λe w'=>∃Ve B',e= .returned (.tuple #[.pointer (some ⟨Ve,0,none⟩),.int .i64 0])∧zBp w0 w' BB D C Ve B' RN DR CR X xs V n b k V n (uP b V.texts):=by obtain⟨P,I,d,sn,sv,nv,xv,Nw,Nx,qy,h⟩:=h;obtain⟨q1,q2⟩:=h.rb.zvp;refine(zkM h.rb.dv h.rb.cc h.rb.rr h.zdV hn (by decide) h.base.ok h.said (IV.qm h.base.qm) q1 q2).m ?_;rintro e w' ⟨⟨Ve,B',CU,nv',Nw',I',he,hr,hI⟩,K⟩;exact⟨Ve,B',he,P,I',d,CU,sv,nv',nv',Nw',Nw',qy,h.ref hr h.zdV (λg hg=>(hI g hg).imp (λe=> .inl (by rw[e];exact h.rb.ir)) id) K.yw⟩
def zmd(h:VE T b):VE T (uP b T):=by
 unfold uP;split
 ·rename_i hj;exact .inl ⟨hj,rfl⟩
 rename_i hj;rcases h with h|h
 ·exact absurd h.1 hj
 exact .inr h
def zoW(h:zBp w0 w BB D C BR B RN DR CR X xs V n b k V2 n2 b2)(hn:n<1000)(G:zaB w0):ae 9 #[.pointer (some ⟨D,0,none⟩),.pointer (some ⟨C,0,none⟩),.string OG] w λe w'=>∃BB',e= .returned (.tuple #[.pointer (some ⟨BB',0,none⟩),.nilIface])∧zBp w0 w' BB' D C BR B RN DR CR X xs V n (uP b V.texts) 60 V2 n2 b2:=by
 obtain⟨P,I,⟨ds,dw,df⟩,sn,sv,nv,xv,Nw,Nx,qy,h⟩:=h;have hw:dw= []:=h.wait;subst hw;obtain⟨B9,S,wv,mb,wb,CC,nm,nw,L,W,hb⟩:=h.base;refine(zom (b:=b) h.lo hb.vn.dev hb.vn.qm (λx hx=>hx.elim (λe=>hb.vn.own x (.inl e)) (λe=>hb.vn.own x (.inr (.inr e)))) hb.vn.Ea (by omega) h.inv.bsz (by decide) G.rounds G.items (zgX h.inv) h.inv.texts h.inv.t200 h.base.ok h.said).m ?_;rintro e w' ⟨⟨BB',P',he,JQ,hg⟩,K⟩;have hC:P C:=(hb.blocks C).2 (.inl (.inr (.inr rfl)));refine⟨BB',he,P',I,⟨ds,[],df⟩,sn,sv,nv,xv,Nw,Nx,qy,h.prog JQ (λx hx=> ?_) (K.m λg _ e=>by have e:g=C:=e;rw[e];exact hC) h.inv rfl h.qR (zmd h.said)⟩;rcases hg x hx with hx|hx|hx
 ·exact .inl ((hb.blocks x).2 (.inl (.inl hx)))
 ·exact .inl (by rw[hx];exact hC)
 exact .inr hx
def zlU{w6:ax}(hRN:w0.heap.size<=RN∧RN<w2.heap.size)(hRB:∀g,RB DR sv JV JV g->w0.heap.size<=g∧g<w2.heap.size)(Gp:w0.heap.size<=w2.heap.size)(hDv:∀g,xN D S JV g->w2.heap.size<=g∧g<C)(hC:w2.heap.size<=C∧C<CR)(hCR:CR<loB)(BA:loB<=w.heap.size)(h6:w.heap.size<=w6.heap.size)(hr:Ap w6 I BR B RN DR CR sn sv JV JV nv nv Nw Nw (yS OG) IU 0 RI)(hI:∀g,I g∨g=BR∨g=B->g=RN∨w.heap.size<=g)(hb:vX w0 w' P BB D C (yS OG) ⟨IU,[],-1⟩ ((0:Nat):Int) RI 60)(hP:∀x,P x->xN D S JV x∨x=C∨w6.heap.size<=x)(K:Keep (qJ C) w6 w'):
  zBp w0 w' BB D C BR B RN DR CR 0 none (yS OG) 0 RI 60 (yS OG) 0 RI:=by
 have zM:=zdA OG IU bP zgD;have vz:∀g,I g∨RQ BR B CR DR sv g->(w0.heap.size<=g∧g<w2.heap.size)∨g=CR∨(w.heap.size<=g∧g<w6.heap.size):=by
  have hs:∀g,I g∨g=BR∨g=B->g<w6.heap.size->(w0.heap.size<=g∧g<w2.heap.size)∨g=CR∨(w.heap.size<=g∧g<w6.heap.size):=λg hg hl=>by
   rcases hI g hg with e|e
   ·exact .inl (by rw[e];exact hRN)
   exact .inr (.inr ⟨e,hl⟩)
  intro g hg;have hl:=hr.lt g hg;rcases hg with hg|hg|hg|hg|hg
  ·exact hs g (.inl hg) hl
  ·exact hs g (.inr (.inl hg)) hl
  ·exact hs g (.inr (.inr hg)) hl
  ·exact .inr (.inl hg)
  exact .inl (hRB g hg)
 refine⟨P,I,_,sn,sv,nv,nv,Nw,Nw,IU,⟨hb,zM,rfl,by show(-1:Int)<0;omega,SE,hr.qm K (λg hg e=> ?_),zM,λx hx hr=> ?_,λx hx=> ?_,hCR,by have:=K.size;omega,λl e=>by cases e⟩⟩
 ·have e:g=C:=e;rcases vz g hg with h|h|h<;>omega
 ·rcases vz x hr with h|h|h
  ·rcases hP x hx with e|e|e
   ·have:=hDv x e;omega
   ·omega
   omega
  ·rcases hP x hx with e|e|e
   ·have:=hDv x e;omega
   ·omega
   omega
  rcases hP x hx with e|e|e
  ·have:=hDv x e;omega
  ·omega
  omega
 ·rcases vz x hx with h|h|h<;>omega
def zca(BR B:Nat)(V:qI)(qE:Nat)(nv:ay)(w:ax):Prop:=w.cell? ⟨BR,0,none⟩=some (.pointer (some ⟨B,0,none⟩))∧w.cell? ⟨BR,1,none⟩=some (.int .i64 qE)∧w.cell? ⟨BR,2,none⟩=some nv∧w.cell? ⟨B,4,none⟩=some (.int .i64 V.now.count)∧w.cell? ⟨B,5,none⟩=some (.int .i64 V.now.qB)
def zBp.see(h:zBp w0 w BB D C BR B RN DR CR X xs V n b k V2 n2 b2):∃p c l,(∀w',ak w w'->zca BR B V2 b2.qE (.slice p l.length c) w')∧zT w (.slice p l.length c) l∧l.map qA=rU b2.now:=by obtain⟨P,I,d,sn,sv,nv,xv,Nw,Nx,qy,h⟩:=h;obtain⟨p,c,rfl⟩:=h.rb.now.items.rows.len;refine⟨p,c,Nw,λw' K=> ?_,h.rb.now.items,h.rb.now.eq⟩;have h2:=h.rb.qm K (λ_ _ x=>x);exact⟨h2.row.c0,h2.row.c1,h2.row.c2,h2.vr.count,h2.vr.qB⟩
def zBp.Y0(h:zBp w0 w BB D C BR B RN DR CR X xs V n b k V2 n2 b2):w.cell? ⟨BR,0,none⟩=some (.pointer (some ⟨B,0,none⟩)):=by obtain⟨P,I,d,sn,sv,nv,xv,Nw,Nx,qy,h⟩:=h;exact h.rb.row.c0
def zrd(h:zBp w0 w BB D C BR B RN DR CR X xs V n b k V2 n2 b2):ae 24 #[.pointer (some ⟨BB,0,none⟩)] w (au (.int .i64 b.qE) w):=by obtain⟨P,I,d,sn,sv,nv,xv,Nw,Nx,qy,h⟩:=h;exact zyG h.base
def zlW(h:zBp w0 w BB D C BR B RN DR CR X xs V n b k V2 n2 b2):ae 25 #[.pointer (some ⟨BB,0,none⟩)] w (au (.int .i64 V.now.count) w):=by obtain⟨P,I,d,sn,sv,nv,xv,Nw,Nx,qy,h⟩:=h;exact zrY h.base
def zlV(h:zBp w0 w BB D C BR B RN DR CR X xs V n b k V2 n2 b2):ae 26 #[.pointer (some ⟨BB,0,none⟩)] w (au (.int .i64 V.now.qB) w):=by obtain⟨P,I,d,sn,sv,nv,xv,Nw,Nx,qy,h⟩:=h;exact zrU h.base
def zlT(h:zBp w0 w BB D C BR B RN DR CR X xs V n b k V2 n2 b2):ae 28 #[.pointer (some ⟨BB,0,none⟩)] w λe w'=>∃v l,e= .returned v∧zT w' v l∧l.map qA=rU b.now∧ak w w':=by obtain⟨P,I,d,sn,sv,nv,xv,Nw,Nx,qy,h⟩:=h;refine(zrO h.lo h.base).m ?_;rintro e w' ⟨⟨v,l,he,hv,hl,hn⟩,K⟩;exact⟨v,l,he,⟨uT.yw zf hv,λx hx=>(hn x hx).1⟩,hl,K⟩
def zoY(h:zBp w0 w BB D C BR B RN DR CR X xs V n b k V2 n2 b2)(N:vM w0 va at_)(ha:at_.length<=1000000)(q:Int)(tag:af)(ht:tag.size<=1000000):ae 29 #[.pointer (some ⟨BB,0,none⟩),va,.int .i64 q,.string tag] w λe w'=>Ew w w' b.qE (rU b.now) at_ q tag e∧ak w w':=by obtain⟨P,I,d,sn,sv,nv,xv,Nw,Nx,qy,h⟩:=h;exact zve h.base (N.qm h.base.qm (λ_ _ x=>x)) ha q tag ht
end
end
section
open Go.Sort Go.Shelf
def zdz{a b c x y:ay} :∀j v,(#[a,b,c]:Array ay)[j]? =some v->(#[x,y,a,b,c]:Array ay)[2+j]? =some v
 | 0,_,h=>h
 | 1,_,h=>h
 | 2,_,h=>h
 | _+3,_,h=>by simp at h
end
def zT.rV{l:List qP}(I:zT w v l)(K:ak w w'):zT w' v l:=⟨I.rows.qm K (λ_ _ x=>x),λx hx=>(I.yK x hx).qm K (λ_ _ x=>x)⟩
def zmL [Inhabited Bd]{k:Int}{tag:af}{e:Ending}(hs:Ew w w' qE l at_ k tag e)(h0:qE≠0){B:Bool}(hB:EI qE at_ k=B):
  ∃(v':ay) (lk:Nat),e= .returned (.tuple #[v',.int .i64 lk,qY (zlx B)])∧uT w' v' 2 xw (zqQ B (zk5 l at_ k tag)):=by
 unfold Ew at hs;rw[aV h0,hB]at hs;cases B with
 | false=>
  rw[bu rfl]at hs;exact⟨_,0,hs,zgJ _ _ _⟩
 | true=>
  rw[aV (by decide)]at hs;obtain⟨v',lk,he,hr,hl,hnw⟩:=hs;exact⟨v',lk,he,hr⟩
def zo7(l:List sW)(at_:List Int)(k:Int)(tag:af)(B:Bool):(zqQ B (zk5 l at_ k tag)).length<=l.length:=by
 cases B with
 | false=>exact fP _
 | true=>
  show((vC ((l.filter (zfW tag)).map (zeo at_))).take k.toNat).length<=l.length;have h1:(vC ((l.filter (zfW tag)).map (zeo at_))).length=((l.filter (zfW tag)).map (zeo at_)).length:=oP _;rw[dJ,h1,aP];have:=gQ (zfW tag) l;omega
def zcL(v:ay)(l:List TZ)(I:zoI w v l)(hl:l.length<=maxLen)(F8:∀x∈l,x.name.size<=maxLen)(va:ay)(at_:List Int)(N:vM w va at_)(ha:at_.length<=maxLen)(q:Int)(tag:af)(ht:tag.size<=maxLen)(G:zaB w):
  ae 3 #[v,va,.int .i64 q,.string tag] w (au (.bool true) w):=by
 obtain⟨p0,c0,rfl⟩:=I.rows.len;obtain⟨pa,ca,rfl⟩:=N.len;have TR:=I.rows;obtain⟨m,hm⟩:=aj l.length;obtain⟨n,hn⟩:=aj at_.length;obtain⟨bt,hbt⟩:=aj (decide (60<tag.size));have hlg:=λw=>zaq tag bt hbt w;rw[<-hm]at TR hl⊢;rw[<-hn]at N ha⊢;have hmx:(m:Int)<=9223372036854775807:=by unfold maxLen at hl;omega
 have Bl:(n:Int)<=9223372036854775807:=by unfold maxLen at ha;omega
 have Hlg:=ag hlg;have HG:=ag G;have HN:=ag N;have zyR:=ag TR;have Hm:=ag hm;have Hn:=ag hn;have zef:=ag I.yK;have Hnm:=ag F8;have Hbt:=ag hbt;clear hlg G N TR hm hn I F8 hbt hl ha;go_enter func3,ntmps3;by_cases h90:m<=90;rotate_left
 ·have j1:(90:Int)<m:=by omega
  go_wp2_with fail;go_ret;exact⟨rfl,ah _ _⟩
 have j1:¬(90:Int)<m:=by omega
 by_cases h12:n<=12
 rotate_left
 ·have j2:(12:Int)<n:=by omega
  go_wp2_with fail;go_ret;exact⟨rfl,ah _ _⟩
 have j2:¬(12:Int)<n:=by omega
 cases bt with
 | true=>
  go_wp2_with fail;refine(Hlg.o _).m ?_;rintro e w1 ⟨rfl,vF⟩;subst w1;go_wp2_with fail;go_ret;exact⟨rfl,ah _ _⟩
 | false=>
 go_wp2_with fail;refine(Hlg.o _).m ?_;rintro e w1 ⟨rfl,vF⟩;subst w1;clear Hlg;obtain⟨RN,hRN⟩:=aj w.heap.size;have Bc:=zrJ w;rw[<-hRN]at Bc;have Hne:=ag Bc;have HRN:=ag hRN;clear Bc hRN;go_wp2_with fail;refine Hne.o.m ?_;rintro e w1 ⟨rfl,hR1,K1⟩;obtain⟨DR,hDR⟩:=aj w1.heap.size;have hrd:=zjA w1;rw[<-hDR]at hrd;have Hrd:=ag hrd;have HDR:=ag hDR;clear hrd hDR;go_wp2_with fail;refine Hrd.o.m ?_;rintro e w2 ⟨sv,rfl,hD2,hsv,K2⟩;go_wp2_with fail;refine(zx9 _).m ?_;rintro e w3 ⟨D,S,rfl,hD3⟩;obtain⟨C,hC⟩:=aj w3.heap.size;obtain⟨CR,hCR⟩:=aj ((w3.alloc (.cells #[.int .i64 0] 32)).heap.size);obtain⟨w5,hw5⟩:=aj ((w3.alloc (.cells #[.int .i64 0] 32)).alloc (.cells #[.int .i64 0] 3));have e4:(w3.alloc (.cells #[.int .i64 0] 32)).heap.size=w3.heap.size+1:=dW _;have e5:w5.heap.size=w3.heap.size+2:=by rw[hw5];show(Array.push _ _).size=_;rw[dW,e4]
 obtain⟨inst,BA⟩:∃inst:Inhabited Bd,@loB inst=w5.heap.size:=⟨⟨⟨w5.heap.size⟩⟩,rfl⟩
 have Xk:ak w3 w5:=by rw[hw5];exact((ah _ _).alloc _).alloc _
 have hc5:um w5 C 0:=by rw[hw5,hC];exact((ah qw (w3.alloc (.cells #[.int .i64 0] 32))).alloc _).heap (aQ w3 _) id
 have hr5:QU w5 CR 0:=by rw[hw5,hCR];exact aQ _ _
 have K02:ak w w2:=K1.qo K2;have K23:=hD3.qm;have hRN:=HRN.o;have hDR:=HDR.o;have z1:w.heap.size<w1.heap.size:=by have h1:=hR1.lt;omega
 have Hz:Hid (w.heap.size<=RN∧RN<w2.heap.size∧w2.heap.size<=w3.heap.size∧w.heap.size<=DR∧C=w3.heap.size∧CR=w3.heap.size+1∧w5.heap.size=w3.heap.size+2∧w.heap.size<=w2.heap.size∧DR≠RN):=ag (by have h1:=K2.size;have h2:=K23.size;have h3:=K1.size;rw[e4]at hCR;exact⟨by omega,by omega,by omega,by omega,by omega,by omega,by omega,by omega,by omega⟩)
 have zs6:=ag hD3.lt;have zob:=ag hD3.own;have HRB:=ag (xC.lt (r:=(IU,[],-1)) hD2);have HR5:=ag (hR1.qm (K2.qo (K23.qo Xk)) id);have zxy:=ag (hD2.qm (K23.qo Xk) (λ_ _ x=>x));have HD5:=ag (hD3.dev.qm Xk (λ_ _ x=>x));have HK5:=ag (K02.qo (K23.qo Xk));have Hc5:=ag hc5;have Hr5:=ag hr5;have Hsv:=ag hsv;have HC:=ag hC;have HCR:=ag (hCR.t e4);have Hw5:=ag hw5;have Hlo:=ag BA;clear hC hCR hw5 BA hRN hDR hR1 K1 hD2 hsv K2 hD3 e4 e5 Xk hc5 hr5 K02 K23 z1 Hne Hrd;go_upto_region 7 with(fail)
 rw[<-Hw5.o,<-HCR.o,<-HC.o];have zM:=zdA OG IU bP zgD;have FI:=zkM (b:=RI) (m:=0) zxy.o Hr5.o HR5.o zM (by omega) (by decide) zkQ SE (HG.o.items.qm HK5.o) (λg hg=>by
  have h1:=Hz.o;have h2:=HRB.o g hg;rcases hg with hg|hg|hg|hg
  ·exact⟨by omega,by omega⟩
  ·have h3:=Hsv.o g hg;have h4:=HDR.o;have h5:=HRN.o;exact⟨by omega,by omega⟩
  ·cases hg
  cases hg) (by have h1:=Hz.o;omega)
 rw[za6]at FI;have Hop:=ag FI;clear FI;go_wp2_with fail;refine Hop.o.m ?_;rintro e w6 ⟨⟨BR,B,sn,nv,Nw,I,rfl,hrb,hI⟩,K6⟩;have FI:=zom (b:=RI) (d:=⟨IU,[],-1⟩) (w:=w6) (w0:=w) (by rw[Hlo.o];exact K6.size) (HD5.o.qm K6 (λ_ _ x=>x)) (HK5.o.qo K6) (λg hg=>by
  have h1:=Hz.o;rcases hg with hg|hg
  ·have:=zob.o g hg;omega
  omega) (n:=0) (Hc5.o.qm K6 id) (by omega) zM.bsz (by decide) HG.o.rounds HG.o.items (zgX zM) zM.texts zM.t200 zkQ SE
 rw[za6]at FI;have zxA:=ag FI;have Hrb:=ag hrb;have HI:=ag hI;have HK6:=ag K6;clear FI hrb hI K6 Hop;go_wp2_with fail;refine zxA.o.m ?_;rintro e w7 ⟨⟨BB,P,rfl,hb,hP⟩,K7⟩;have zwU:∀g,RB DR sv JV JV g->w.heap.size<=g∧g<w2.heap.size:=λg hg=>by
  have h1:=Hz.o;have h2:=HRB.o g hg;rcases hg with hg|hg|hg|hg
  ·omega
  ·have:=Hsv.o g hg;omega
  ·cases hg
  cases hg
 have hT:zBp w w7 BB D C BR B RN DR CR 0 none (yS OG) 0 RI 60 (yS OG) 0 RI:=zlU (w:=w5) (w2:=w2) (w6:=w6) (S:=S) (by have h1:=Hz.o;omega) zwU (by have h1:=Hz.o;omega) (λg hg=>⟨zob.o g hg,by have h1:=Hz.o;have h2:=zs6.o g hg;omega⟩) (by have h1:=Hz.o;omega) (by have h1:=Hz.o;rw[Hlo.o];omega) (by rw[Hlo.o];exact aS _) HK6.o.size Hrb.o HI.o hb hP K7;clear zwU;have HT:=ag hT;clear hT hb hP K7 zM HI Hrb HK6 zxA Hz Hlo HCR HC Hw5 HRN HDR zs6 zob HRB HR5 zxy HD5 HK5 Hc5 Hr5 Hsv;go_wp2_with fail
 go_loopw [14,16,18] (λav bv iv wr=>∃(i BR B BB n k:Nat) (V:qI) (b:sH),av= .pointer (some ⟨BR,0,none⟩)∧bv= .pointer (some ⟨BB,0,none⟩)∧iv= .int .i64 i∧i<=m∧n<=i∧k<=60+i∧Hid (zBp w wr BB D C BR B RN DR CR 0 none V n b k V n b)) (λ_ _ iv _=>m-(intOf iv).toNat)
 case atStart=>exact⟨0,BR,B,BB,0,60,_,_,rfl,rfl,rfl,by omega,by omega,by omega,HT⟩
 case round=>
  obtain⟨i,Ve,B',BB',n',k,V,b,rfl,rfl,rfl,hi,hn',hk,hT⟩:=hrel;by_cases rE:i<m
  ·have i1:(i:Int)<m:=by omega
   obtain⟨wo,rfl⟩:=aj wr;have Ir:=zyR.o.qm hT.o.qm (λ_ _ x=>x);obtain⟨rb,off,rfl,-,hrb,uw⟩:=Ir.at (by rw[<-Hm.o];omega);obtain⟨x,hx⟩:∃x,l[i]? =some x:=⟨_,aK (by rw[<-Hm.o];exact rE)⟩
   have ET:=uw i x hx;have Ls:x∈l:=bG hx;have hxn:=zef.o x Ls;have Zk:=Hnm.o x Ls;obtain⟨wh,nu,nm,tg,av,ns⟩:=x;simp only at hxn Zk;obtain⟨px,cx,rfl⟩:=hxn.len;have x0:wo.cell? ⟨rb,off+i*5,none⟩=some (.int .i64 wh):=ET 0 _ rfl;have x1:wo.cell? ⟨rb,off+i*5+1,none⟩=some (.int .i64 nu):=ET 1 _ rfl;have x2:wo.cell? ⟨rb,off+i*5+2,none⟩=some (.string nm):=ET 2 _ rfl;have x3:wo.cell? ⟨rb,off+i*5+3,none⟩=some (.string tg):=ET 3 _ rfl;have x4:wo.cell? ⟨rb,off+i*5+4,none⟩=some (.slice px ns.length cx):=ET 4 _ rfl;obtain⟨nl,CV⟩:=aj ns.length;rw[<-CV]at x4 hxn;obtain⟨X,hX⟩:=aj wo.heap.size;have hTx:=hT.o.zAn [.int .i64 wh,.int .i64 nu,.string nm,.string tg,.slice px nl cx];obtain⟨wa,YP⟩:=aj (wo.alloc (.cells #[.int .i64 wh,.int .i64 nu,.string nm,.string tg,.slice px nl cx] 47));have hTx:zBp w wa BB' D C Ve B' RN DR CR X (some [.int .i64 wh,.int .i64 nu,.string nm,.string tg,.slice px nl cx]) V n' b k V n' b:=by rw[YP,hX];exact hTx
   have uU:=hTx.row rfl;have y0:wa.cell? ⟨X,0,none⟩=some (.int .i64 wh):=cellOf uU 0 rfl;have y1:wa.cell? ⟨X,1,none⟩=some (.int .i64 nu):=cellOf uU 1 rfl;have y2:wa.cell? ⟨X,2,none⟩=some (.string nm):=cellOf uU 2 rfl;have y3:wa.cell? ⟨X,3,none⟩=some (.string tg):=cellOf uU 3 rfl;have y4:wa.cell? ⟨X,4,none⟩=some (.slice px nl cx):=cellOf uU 4 rfl;have HT2:=ag hTx;have Hwa:=ag YP;have HX:=ag hX;have Hxn:=ag hxn;have Ot:=ag CV;clear ET uw hx Ls Ir hTx YP hX hxn CV hT uU;go_upto_region 15 with(fail)
   rw[<-Hwa.o,<-HX.o];have hsh:=zmb (.slice (some ⟨wa.heap.size,0,none⟩) 1 1) [⟨nm,tg,.slice px nl cx,ns⟩] (wa.alloc (.cells #[.string nm,.string tg,.slice px nl cx] 45)) ⟨uT.lit (enc:=rC) (k:=3) zf [⟨nm,tg,.slice px nl cx,ns⟩],λx hx=>by obtain rfl:=bJ.1 hx;exact Hxn.o.qm (HT2.o.qm.alloc _) (λ_ _ x=>x)⟩ (by show 1<=_;unfold maxLen;omega)
   have Hsh:=ag hsh;clear hsh;go_wp2_with fail;refine Hsh.o.m ?_;rintro e w1 ⟨⟨bs,rfl,hbs⟩,vF⟩;subst w1;cases bs with
   | false=>
    go_wp2_with fail;go_ret;exact⟨rfl,HT2.o.qm.alloc _⟩
   | true=>
   have zN:=hbs rfl;have NV:=ag (HT2.o.rV ((ah qw wa).alloc (.cells #[.string nm,.string tg,.slice px nl cx] 45)));have Xn:=ag zN;clear hbs zN Hsh HT2;go_upto_region 17 with(fail)
   obtain⟨wd,hwd⟩:=aj (wa.alloc (.cells #[.string nm,.string tg,.slice px nl cx] 45));have NV:=NV.o;rw[<-hwd]at NV⊢;have NV:=ag NV;clear hwd x0 x1 x2 x3 x4 y0 y1 y2 y3 y4 Hwa HX hrb;have RY:=NV.o.row rfl;have y0:wd.cell? ⟨X,0,none⟩=some (.int .i64 wh):=cellOf RY 0 rfl;have y1:wd.cell? ⟨X,1,none⟩=some (.int .i64 nu):=cellOf RY 1 rfl;have y2:wd.cell? ⟨X,2,none⟩=some (.string nm):=cellOf RY 2 rfl;have y3:wd.cell? ⟨X,3,none⟩=some (.string tg):=cellOf RY 3 rfl;have y4:wd.cell? ⟨X,4,none⟩=some (.slice px nl cx):=cellOf RY 4 rfl;clear RY
   go_upto_block 2 with(fail)
   go_cut [14,16] (λav bv wx=>∃(BR B BB n2 k2:Nat) (V2:qI) (b2:sH),av= .pointer (some ⟨BR,0,none⟩)∧bv= .pointer (some ⟨BB,0,none⟩)∧n2<=i+1∧k2<=60+(i+1)∧Hid (zBp w wx BB D C BR B RN DR CR X none V2 n2 b2 k2 V2 n2 b2))
   ·go_upto_region 18 with(fail)
    by_cases h0:wh=0
    ·as_aux_lemma=>
      subst h0;have l1:∀x:wE (λW:ax=>W.heap[X]? =some (.cells #[.int .i64 0,.int .i64 nu,.string nm,.string tg,.slice px nl cx] 47 (0,0))),x.w.cell? ⟨X,1,none⟩=some (.int .i64 nu):=λx=>cellOf x.h 1 rfl;go_upto_region 19 with(fail)
      refine qX (λW:ax=>W.heap[X]? =some (.cells #[.int .i64 0,.int .i64 nu,.string nm,.string tg,.slice px nl cx] 47 (0,0))) [(true,0),(true,1),(true,2),(true,4),(true,5),(true,6),(false,3),(false,7),(false,8),(false,9)] ?_;simp only[uy,qC,aF,aH,aI]
      repeat(refine qp (λK hK=> ?_);go_simp;(first|refine⟨_,λ_=>rfl,hK _ ?_⟩|refine hK _ ?_);clear hK K)
      refine⟨(NV.o.row rfl),?_⟩;go_wp2_with fail;have hd:=NV.o.rV (ah qw wd).drew;obtain⟨cd,hcd⟩:=aj ((yz b nu).1);obtain⟨b3,Vk⟩:=aj ((yz b nu).2);obtain⟨ev,Oy⟩:=aj (qY cd);have hp:=zoX hd nu;rw[<-hcd,<-Vk,<-Oy]at hp;refine hp.m ?_;rintro e w2 ⟨rfl,OD⟩;have hC2:=(OD.row rfl)
      have hr:=zlS OD nu;rw[<-hcd,<-Vk]at hr;have Hr:=ag hr;have Hev:=ag Oy;clear hp hr Oy y0 y1 y2 y3 y4 OD hd;clear hcd Vk;go_wp2_with fail;refine⟨hC2,?_⟩;clear hC2;go_wp2_with fail;refine Hr.o.m ?_;rintro e w3 ⟨rfl,Oq⟩;have hC3:=(Oq.row rfl)
      have QW:=Ij cd cd w3 (HG.o.Zx.qm Oq.qm id);rw[<-Hev.o,show(cd==cd)=true from fF cd]at QW;have Hba:=ag QW;have HT3:=ag Oq;clear QW Oq Hr;go_wp2_with fail;refine⟨hC3,?_⟩;clear hC3;go_wp2_with fail;refine Hba.o.m ?_;rintro e w4 ⟨rfl,K4⟩;have OA:=HT3.o.rV K4;have hC4:=(OA.row rfl)
      have HT4:=ag (OA.drop X);clear K4 Hba HT3 OA;go_wp2_with fail;refine⟨hC4,?_⟩;clear hC4;go_wp2_with fail;go_meet
      exact⟨Ve,B',BB',n',_,V,b3,rfl,rfl,by omega,by omega,HT4⟩
    by_cases h1:wh=1
    ·as_aux_lemma=>
      subst h1;have zY:ns.length<=1000000:=by have:=(Xn.o.each _ bW).2.2;simp only at this;omega
      have uF:=Xn.o.each _ bW;simp only at uF;have Hns:=ag zY;have Hsz:=ag uF;clear zY uF;go_upto_region 22 with(fail)
      refine qX (λW:ax=>W.heap[X]? =some (.cells #[.int .i64 1,.int .i64 nu,.string nm,.string tg,.slice px nl cx] 47 (0,0))) [(true,0),(true,1),(true,2),(true,4),(true,5),(true,6),(false,3),(false,7),(false,8),(false,9)] ?_;simp only[uy,qC,aF,aH,aI]
      iterate 2 (refine qp (λK hK=> ?_);go_simp;(first|refine⟨_,λ_=>rfl,hK _ ?_⟩|refine hK _ ?_);clear hK K)
      refine rO (by rfl) 45 (.tmp 88) rfl X 2 rfl 47 #[.int .i64 1,.int .i64 nu,.string nm,.string tg,.slice px nl cx] (0,0) #[.string nm,.string tg,.slice px nl cx] _ (λy=>y.h) zdz oO rfl (by kernel_rfl) ?_;refine tY ?_
      iterate 2 (refine qp (λK hK=> ?_);go_simp;(first|refine⟨_,λ_=>rfl,hK _ ?_⟩|refine hK _ ?_);clear hK K)
      refine rO (by rfl) 45 (.tmp 92) rfl X 2 rfl 47 #[.int .i64 1,.int .i64 nu,.string nm,.string tg,.slice px nl cx] (0,0) #[.string nm,.string tg,.slice px nl cx] _ (λy=>y.h) zdz oO rfl (by kernel_rfl) ?_;refine tY ?_;refine⟨(NV.o.row rfl),?_⟩;go_wp2_with fail;have hd:=NV.o.rV (ah qw wd).drew;have hxn:vM w (.slice px nl cx) ns:=Hxn.o;obtain⟨cd,hcd⟩:=aj ((zZ b (qA ⟨nm,tg,.slice px nl cx,ns⟩)).1);obtain⟨b3,Vk⟩:=aj ((zZ b (qA ⟨nm,tg,.slice px nl cx,ns⟩)).2);obtain⟨ev,Oy⟩:=aj (qY cd);have hp:=zrb hd (by omega) ⟨nm,tg,.slice px nl cx,ns⟩ hxn Hns.o;rw[<-hcd,<-Vk,<-Oy]at hp;simp only[yL,rC]at hp;refine hp.m ?_;rintro e w2 ⟨rfl,OD⟩;have hC2:=(OD.row rfl)
      have hr:=zoV OD NV.o.ok ⟨nm,tg,.slice px nl cx,ns⟩ hxn Hns.o (by have:=Hsz.o.1;show nm.size<=_;omega) (by have:=Hsz.o.2.1;show tg.size<=_;omega);rw[<-hcd,<-Vk]at hr;simp only[yL,rC]at hr;have Hr:=ag hr;have Hev:=ag Oy;clear hp hr Oy y0 y1 y2 y3 y4 OD hd;clear hcd Vk;go_wp2_with fail;refine⟨hC2,?_⟩;clear hC2;go_wp2_with fail;refine Hr.o.m ?_;rintro e w3 ⟨rfl,Oq⟩;have hC3:=(Oq.row rfl)
      have QW:=Ij cd cd w3 (HG.o.Zx.qm Oq.qm id);rw[<-Hev.o,show(cd==cd)=true from fF cd]at QW;have Hba:=ag QW;have HT3:=ag Oq;clear QW Oq Hr;go_wp2_with fail;refine⟨hC3,?_⟩;clear hC3;go_wp2_with fail;refine Hba.o.m ?_;rintro e w4 ⟨rfl,K4⟩;have OA:=HT3.o.rV K4;have hC4:=(OA.row rfl)
      have HT4:=ag (OA.drop X);clear K4 Hba HT3 OA;go_wp2_with fail;refine⟨hC4,?_⟩;clear hC4;go_wp2_with fail;go_meet
      exact⟨Ve,B',BB',n',_,V,b3,rfl,rfl,by omega,by omega,HT4⟩
    by_cases h2:wh=2
    ·as_aux_lemma=>
      subst h2;have l2:∀x:wE (λW:ax=>W.heap[X]? =some (.cells #[.int .i64 2,.int .i64 nu,.string nm,.string tg,.slice px nl cx] 47 (0,0))),x.w.cell? ⟨X,2,none⟩=some (.string nm):=λx=>cellOf x.h 2 rfl;have uF:=(Xn.o.each _ bW).1;simp only at uF;have Hsz:=ag uF;clear uF;go_upto_region 25 with(fail)
      refine qX (λW:ax=>W.heap[X]? =some (.cells #[.int .i64 2,.int .i64 nu,.string nm,.string tg,.slice px nl cx] 47 (0,0))) [(true,0),(true,1),(true,2),(true,3),(true,5),(true,6),(true,7),(true,8),(false,4),(false,9),(false,10),(false,11)] ?_;simp only[uy,qC,aF,aH,aI]
      repeat(refine qp (λK hK=> ?_);go_simp;(first|refine⟨_,λ_=>rfl,hK _ ?_⟩|refine hK _ ?_);clear hK K)
      refine⟨(NV.o.row rfl),?_⟩;go_wp2_with fail;have hd:=NV.o.rV (ah qw wd).drew;obtain⟨cd,hcd⟩:=aj ((EX b nm).1);obtain⟨b3,Vk⟩:=aj ((EX b nm).2);obtain⟨ev,Oy⟩:=aj (qY cd);have hp:=zre hd (by omega) nm (by have:=Hsz.o;unfold maxLen;omega);rw[<-hcd,<-Vk,<-Oy]at hp;refine hp.m ?_;rintro e w2 ⟨rfl,OD⟩;have hC2:=(OD.row rfl)
      have hr:=zoZ OD NV.o.ok nm;rw[<-hcd,<-Vk]at hr;have Hr:=ag hr;have Hev:=ag Oy;clear hp hr Oy y0 y1 y2 y3 y4 OD hd;clear hcd Vk;go_wp2_with fail;refine⟨hC2,?_⟩;clear hC2;go_wp2_with fail;refine Hr.o.m ?_;rintro e w3 ⟨rfl,Oq⟩;have hC3:=(Oq.row rfl)
      have QW:=Ij cd cd w3 (HG.o.Zx.qm Oq.qm id);rw[<-Hev.o,show(cd==cd)=true from fF cd]at QW;have Hba:=ag QW;have HT3:=ag Oq;clear QW Oq Hr;go_wp2_with fail;refine⟨hC3,?_⟩;clear hC3;go_wp2_with fail;refine Hba.o.m ?_;rintro e w4 ⟨rfl,K4⟩;have OA:=HT3.o.rV K4;have hC4:=(OA.row rfl)
      have HT4:=ag (OA.drop X);clear K4 Hba HT3 OA;go_wp2_with fail;refine⟨hC4,?_⟩;clear hC4;go_wp2_with fail;go_meet
      exact⟨Ve,B',BB',n',_,V,b3,rfl,rfl,by omega,by omega,HT4⟩
    by_cases h3:wh=3
    ·as_aux_lemma=>
      subst h3;have hp:=zgu NV.o;obtain⟨b3,Vk⟩:=aj (ZF b);rw[<-Vk]at hp;have Hp:=ag hp;have Hb3:=ag Vk;clear hp Vk;go_wp2_with fail;have hpU:=zlP NV.o;refine hpU.m ?_;rintro e w2 ⟨rfl,OD⟩;have hp:=zgu OD;rw[<-Hb3.o]at hp OD;have Hp2:=ag hp;clear hp hpU Hp OD y0 y1 y2 y3 y4;go_wp2_with fail;refine Hp2.o.m ?_;rintro e w3 ⟨rfl,Oq⟩;have HT4:=ag (Oq.drop X);clear Hp2 Oq;go_wp2_with fail;go_meet
      exact⟨Ve,B',BB',n',_,V,b3,rfl,rfl,by omega,by omega,HT4⟩
    by_cases h4:wh=4
    ·as_aux_lemma=>
      subst h4;go_wp2_with fail;have hd:=NV.o;obtain⟨cd,hcd⟩:=aj (ziN b);obtain⟨b3,Vk⟩:=aj (ziO b);obtain⟨V3,hV3⟩:=aj (ziM V b);obtain⟨n3,hn3⟩:=aj (zfM n' b);have hn4:n3<=n'+1:=by rw[hn3];unfold zfM;split<;>omega
      obtain⟨ev,Oy⟩:=aj (qY cd);have hp:=zrf hd (by omega) (by omega) HG.o.rounds HG.o.items.pow;rw[<-hcd,<-Vk,<-hV3,<-hn3,<-Oy]at hp;refine hp.m ?_;rintro e w2 ⟨rfl,OD⟩;have hr:=zo0 OD NV.o.ok (by omega) HG.o.items.pow;rw[<-hcd,<-Vk,<-hV3,<-hn3]at hr;have Hr:=ag hr;have Hev:=ag Oy;clear hp hr Oy y0 y1 y2 y3 y4 OD hd;clear hcd Vk hV3 hn3;go_wp2_with fail;go_wp2_with fail;refine Hr.o.m ?_;rintro e w3 ⟨rfl,Oq⟩;have QW:=Ij cd cd w3 (HG.o.Zx.qm Oq.qm id);rw[<-Hev.o,show(cd==cd)=true from fF cd]at QW;have Hba:=ag QW;have HT3:=ag Oq;clear QW Oq Hr;go_wp2_with fail;go_wp2_with fail;refine Hba.o.m ?_;rintro e w4 ⟨rfl,K4⟩;have OA:=HT3.o.rV K4;have HT4:=ag (OA.drop X);clear K4 Hba HT3 OA;go_wp2_with fail;go_wp2_with fail;go_meet
      exact⟨Ve,B',BB',n3,_,V3,b3,rfl,rfl,by omega,by omega,HT4⟩
    by_cases h5:wh=5
    ·as_aux_lemma=>
      subst h5;have l0:∀x:wE (λW:ax=>W.cell? ⟨Ve,0,none⟩=some (.pointer (some ⟨B',0,none⟩))),x.w.cell? ⟨Ve,0,none⟩=some (.pointer (some ⟨B',0,none⟩)):=λx=>x.h;go_upto_region 34 with(fail)
      refine qX (λW:ax=>W.cell? ⟨Ve,0,none⟩=some (.pointer (some ⟨B',0,none⟩))) [(true,0),(true,2),(true,3),(true,4),(true,5),(false,1),(false,6),(false,7),(false,8)] ?_;simp only[uy,qC,aF,aH,aI]
      repeat(refine qp (λK hK=> ?_);go_simp;(first|refine⟨_,λ_=>rfl,hK _ ?_⟩|refine hK _ ?_);clear hK K)
      refine⟨NV.o.Y0,?_⟩;go_wp2_with fail;have hd:=NV.o.rV (ah qw wd).drew;obtain⟨cd,hcd⟩:=aj ((0:Int));obtain⟨V3,hV3⟩:=aj (znG V);obtain⟨ev,Oy⟩:=aj (qY cd);have hp:=zoU hd (by omega) HG.o.rounds;rw[<-hcd,<-hV3,<-Oy]at hp;refine hp.m ?_;rintro e w2 ⟨rfl,OD⟩;have hC2:=OD.Y0;have hr:=zlQ OD (by omega);rw[<-hcd,<-hV3]at hr;have Hr:=ag hr;have Hev:=ag Oy;clear hp hr Oy y0 y1 y2 y3 y4 OD hd;clear hcd hV3;go_wp2_with fail;refine⟨hC2,?_⟩;clear hC2;go_wp2_with fail;refine Hr.o.m ?_;rintro e w3 ⟨rfl,Oq⟩;have hC3:=Oq.Y0;have QW:=Ij cd cd w3 (HG.o.Zx.qm Oq.qm id);rw[<-Hev.o,show(cd==cd)=true from fF cd]at QW;have Hba:=ag QW;have HT3:=ag Oq;clear QW Oq Hr;go_wp2_with fail;refine⟨hC3,?_⟩;clear hC3;go_wp2_with fail;refine Hba.o.m ?_;rintro e w4 ⟨rfl,K4⟩;have OA:=HT3.o.rV K4;have hC4:=OA.Y0;have HT4:=ag (OA.drop X);clear K4 Hba HT3 OA;go_wp2_with fail;refine⟨hC4,?_⟩;clear hC4;go_wp2_with fail;go_meet
      exact⟨Ve,B',BB',n'+1,_,V3,b,rfl,rfl,by omega,by omega,HT4⟩
    by_cases h6:wh=6
    ·as_aux_lemma=>
      subst h6;have hp:=zlR NV.o (by omega) HG.o.items;have Hp:=ag hp;clear hp y1 y2 y3 y4;go_wp2_with fail;refine Hp.o.m ?_;rintro e w2 ⟨BR2,B2,rfl,OD⟩;have hp:=zoW OD (by omega) HG.o;obtain⟨b3,Vk⟩:=aj (uP b V.texts);rw[<-Vk]at hp;have Hp2:=ag hp;clear hp OD Hp y0 Vk;go_wp2_with fail;refine Hp2.o.m ?_;rintro e w3 ⟨BB2,rfl,Oq⟩;have HT4:=ag (Oq.drop X);clear Hp2 Oq;go_wp2_with fail;go_meet
      exact⟨BR2,B2,BB2,n',60,V,b3,rfl,rfl,by omega,by omega,HT4⟩
    as_aux_lemma=>
     have HT4:=ag (NV.o.drop X);clear y1 y2 y3 y4;go_wp2_with fail;go_meet
     exact⟨Ve,B',BB',n',k,V,b,rfl,rfl,by omega,by omega,HT4⟩
   as_aux_lemma=>
    obtain⟨BR2,B2,BB2,n2,k2,V2,b2,rfl,rfl,Dw,Xf,hT⟩:=hcut;obtain⟨wb,rfl⟩:=aj wc;obtain⟨pn,cn,Ln,ziA,hIt,LP⟩:=hT.o.see;obtain⟨z,hz⟩:=aj Ln.length;rw[<-hz]at hIt ziA;have l0:∀x:wE (zca BR2 B2 V2 b2.qE (.slice pn z cn)),x.w.cell? ⟨BR2,0,none⟩=some (.pointer (some ⟨B2,0,none⟩)):=λx=>x.h.1;have l1:∀x:wE (zca BR2 B2 V2 b2.qE (.slice pn z cn)),x.w.cell? ⟨BR2,1,none⟩=some (.int .i64 b2.qE):=λx=>x.h.2.1;have l2:∀x:wE (zca BR2 B2 V2 b2.qE (.slice pn z cn)),x.w.cell? ⟨BR2,2,none⟩=some (.slice pn z cn):=λx=>x.h.2.2.1;have l3:∀x:wE (zca BR2 B2 V2 b2.qE (.slice pn z cn)),x.w.cell? ⟨B2,4,none⟩=some (.int .i64 V2.now.count):=λx=>x.h.2.2.2.1;have l4:∀x:wE (zca BR2 B2 V2 b2.qE (.slice pn z cn)),x.w.cell? ⟨B2,5,none⟩=some (.int .i64 V2.now.qB):=λx=>x.h.2.2.2.2;have zcd:=ag ziA;have HIt:=ag hIt;have Hpl:=ag LP;have Hz:=ag hz;clear ziA hIt LP hz y0 y1 y2 y3 y4 NV;go_upto_region 41 with(fail)
    refine qX (zca BR2 B2 V2 b2.qE (.slice pn z cn)) [(true,0),(true,2),(true,3),(true,4),(true,5),(false,1),(true,6),(true,7),(true,8),(true,10),(true,11),(true,12),(true,13),(true,14),(true,15),(true,16),(true,17),(false,9),(true,18),(true,19),(true,20),(true,21),(true,23),(true,24),(true,25),(true,26),(true,27),(true,28),(true,29),(true,30),(false,22),(true,31),(true,32),(true,33),(true,34),(true,36),(true,37),(true,38),(true,39),(false,35),(false,40),(true,41),(false,42)] ?_;simp only[uy,qC,aF,aH,aI]
    repeat(refine qp (λK hK=> ?_);go_simp;(first|refine⟨_,λ_=>rfl,hK _ ?_⟩|refine hK _ ?_);clear hK K)
    refine⟨zcd.o _ (ah qw wb).drew,?_⟩;have hT1:=hT.o.rV (ah qw wb).drew;have hd1:=zrd hT1;have Hd1:=ag hd1;have HT1:=ag hT1;have HK0:=ag (ah qw wb).drew;clear hd1 hT1;go_wp2_with fail;refine Hd1.o.m ?_;rintro e w1 ⟨rfl,kk⟩;have Lu:=ag (HK0.o.qo kk);have OD:=HT1.o.rV kk;have FK:=zlW OD;have Hd2:=ag FK;have HT2:=ag OD;have L1:=zcd.o w1 Lu.o;clear FK OD HT1 Hd1 kk HK0;go_wp2_with fail
    repeat(refine qp (λK hK=> ?_);go_simp;(first|refine⟨_,λ_=>rfl,hK _ ?_⟩|refine hK _ ?_);clear hK K)
    refine⟨L1,?_⟩;clear L1;go_wp2_with fail;refine Hd2.o.m ?_;rintro e w2 ⟨rfl,kk⟩;have Xo:=ag (Lu.o.qo kk);have Oq:=HT2.o.rV kk;have Zo:=zlV Oq;have Hd3:=ag Zo;have HT3:=ag Oq;have L2:=zcd.o w2 Xo.o;clear Zo Oq HT2 Hd2 kk Lu;go_wp2_with fail
    repeat(refine qp (λK hK=> ?_);go_simp;(first|refine⟨_,λ_=>rfl,hK _ ?_⟩|refine hK _ ?_);clear hK K)
    refine⟨L2,?_⟩;clear L2;go_wp2_with fail;refine Hd3.o.m ?_;rintro e w3 ⟨rfl,kk⟩;have Qm:=ag (Xo.o.qo kk);have OA:=HT3.o.rV kk;have hd4:=zlT OA;have Xn:=ag OA.ok;have Hd4:=ag hd4;have HT4:=ag OA;have L3:=zcd.o w3 Qm.o;clear hd4 OA HT3 Hd3 kk Xo;go_wp2_with fail
    repeat(refine qp (λK hK=> ?_);go_simp;(first|refine⟨_,λ_=>rfl,hK _ ?_⟩|refine hK _ ?_);clear hK K)
    refine⟨L3,?_⟩;clear L3;go_wp2_with fail;refine Hd4.o.m ?_;rintro e w4 ⟨v4,M,rfl,hI4,hM,kk⟩;obtain⟨p4,c4,rfl⟩:=hI4.rows.len;obtain⟨z4,hz4⟩:=aj M.length;have hsh:=Yc Xn.o hM;have HK4:=ag (Qm.o.qo kk);have hT5:=HT4.o.rV kk;have L4:=zcd.o w4 HK4.o;have hsi:=zcx _ _ M Ln w4 hI4 (HIt.o.rV HK4.o) (hM.t Hpl.o.s) (by have:=hsh.1;omega) (λx hx=>by have:=hsh.2.2 x hx;omega);rw[<-hz4]at hsi⊢;have Hsi:=ag hsi;have HT5:=ag hT5;clear hsi hT5 HT4 Hd4 kk Qm hsh hI4 hM hz4 Xn;go_wp2_with fail
    repeat(refine qp (λK hK=> ?_);go_simp;(first|refine⟨_,λ_=>rfl,hK _ ?_⟩|refine hK _ ?_);clear hK K)
    refine⟨L4,?_⟩;clear L4;go_wp2_with fail;refine Hsi.o.m ?_;rintro e w5 ⟨rfl,kk⟩;have hT6:=HT5.o.rV kk;have L5:=zcd.o w5 (HK4.o.qo kk);have HT6:=ag (hT6.drop 0);clear hT6 HT5 Hsi kk HK4;go_wp2_with fail
    repeat(refine qp (λK hK=> ?_);go_simp;(first|refine⟨_,λ_=>rfl,hK _ ?_⟩|refine hK _ ?_);clear hK K)
    refine⟨L5,?_⟩;clear L5;go_wp2_with fail;exact⟨⟨i+1,BR2,B2,BB2,n2,k2,V2,b2,rfl,rfl,by go_num,by omega,by omega,by omega,HT6⟩,by simp[intOf];omega⟩
  have i1:¬(i:Int)<m:=by omega
  as_aux_lemma=>
   obtain⟨wo,rfl⟩:=aj wr;have zN:=hT.o.ok;obtain⟨pn,cn,Ln,ziA,hIt,LP⟩:=hT.o.see;obtain⟨zqC,-,hl8⟩:=Yc zN LP;obtain⟨z,hz⟩:=aj Ln.length;rw[<-hz]at hIt ziA;have hfi:=zoY hT.o HN.o (by rw[<-Hn.o];omega) q tag (by have:=iD Hbt.o.s;omega);have Hfi:=ag hfi;have zcd:=ag ziA;have HIt:=ag hIt;have Hpl:=ag LP;have Hz:=ag hz;have Hl:=ag zqC;have Hl8:=ag hl8;have HK:=ag hT.o.qm;clear hfi ziA hIt LP hz zqC hl8 zN;go_wp2_with fail;refine Hfi.o.m ?_;rintro e w1 ⟨hf,K1⟩;have Lu:=ag K1;have c1:w1.cell? ⟨Ve,1,none⟩=some (.int .i64 b.qE):=(zcd.o w1 K1).2.1;by_cases h0:b.qE=0
   ·unfold Ew at hf;rw[bu h0]at hf;rw[h0]at c1;have c1:w1.cell? ⟨Ve,1,none⟩=some (.int .i64 0):=c1;obtain⟨ev,Oy⟩:=aj (qY 6);have QW:=Ij 6 6 w1 (HG.o.Zx.qm (HK.o.qo K1) id);rw[<-Oy,show((6:Int)==6)=true from rfl]at QW;rw[<-Oy]at hf;subst hf;have Hba:=ag QW;clear QW Oy K1 Hfi h0;go_wp2_with fail;refine Hba.o.m ?_;rintro e w2 ⟨rfl,K2⟩;have Xo:=ag K2;clear K2 Hba;go_wp2_with fail;go_ret;exact⟨rfl,HK.o.qo (Lu.o.qo Xo.o)⟩
   obtain⟨Q,hQ⟩:= @exists_eq' _ (EI b.qE at_ q);obtain⟨vf,lk,rfl,hrf⟩:=zmL hf h0 hQ;obtain⟨T,hTe⟩:=aj (zqQ Q (zk5 (rU b.now) at_ q tag));rw[<-hTe]at hrf;have hTl:T.length<=1000000:=by
    have h1:=zo7 (rU b.now) at_ q tag Q;have h2:=dB List.length Hpl.o;rw[aP]at h2;have:=Hl.o;rw[hTe];omega
   obtain⟨pf,cf,rfl⟩:=hrf.len;obtain⟨nf,hnf⟩:=aj T.length;rw[<-hnf]at hrf⊢;obtain⟨ev,Oy⟩:=aj (qY (zlx Q));rw[<-Oy];have hTR:=λw2 (K:ak w1 w2)=>zlZ Q b.qE _ Ln _ at_ q tag hQ w2 (HIt.o.rV (Lu.o.qo K)) (HN.o.qm (HK.o.qo (Lu.o.qo K)) (λ_ _ x=>x)) (by have:=Hl.o;omega) (by rw[<-Hn.o];omega) (λx hx=>by have:=Hl8.o x hx;omega);rw[zoj,Hpl.o,<-hTe]at hTR;obtain⟨er,her⟩:=aj (zlx Q);have QW:=λw2 (K:ak w1 w2)=>Ij (zlx Q) (zlx Q) w2 (HG.o.Zx.qm (HK.o.qo (Lu.o.qo K)) id);simp only[fF,<-Oy]at QW;rw[<-her]at hTR;simp only[<-her]at QW;have j0:¬(b.qE:Int)=0:=by omega
   have Hrf:=ag hrf;have HTl:=ag hTl;have Hnf:=ag hnf;have HTR:=ag hTR;have Hba:=ag QW;clear hrf hTl hnf hTR QW her Oy hTe hQ hf K1 Hfi h0;have l1:∀x:wE (zca Ve B' V b.qE (.slice pn z cn)),x.w.cell? ⟨Ve,1,none⟩=some (.int .i64 b.qE):=λx=>x.h.2.1;have l2:∀x:wE (zca Ve B' V b.qE (.slice pn z cn)),x.w.cell? ⟨Ve,2,none⟩=some (.slice pn z cn):=λx=>x.h.2.2.1;go_upto_region 46 with(fail)
   refine qX (zca Ve B' V b.qE (.slice pn z cn)) [(true,0),(true,1),(true,2),(true,3),(true,4),(true,5),(true,6),(true,7),(true,8),(true,9),(true,10),(false,11),(true,12),(true,13),(true,14),(true,15),(false,16)] ?_;simp only[uy,qC,aF,aH,aI]
   repeat(refine qp (λK hK=> ?_);go_simp;(first|refine⟨_,λ_=>rfl,hK _ ?_⟩|refine hK _ ?_);clear hK K)
   refine⟨zcd.o _ Lu.o.drew,?_⟩;go_wp2_with fail;refine(HTR.o _ (ah qw w1).drew).m ?_;rintro e w2 ⟨v2,rfl,hr2,K2⟩;obtain⟨p2,c2,rfl⟩:=hr2.len;rw[<-Hnf.o]at hr2⊢;have Xo:=ag ((ah qw w1).drew.qo K2);have L2:=zcd.o w2 (Lu.o.qo Xo.o);have hsf:=λw3 (K:ak w2 w3)=>zcy _ _ T w3 (Hrf.o.qm (Xo.o.qo K) (λ_ _ x=>x)) (hr2.qm K (λ_ _ x=>x)) HTl.o;have Hsf:=ag hsf;clear hsf hr2 K2 HTR;go_wp2_with fail
   repeat(refine qp (λK hK=> ?_);go_simp;(first|refine⟨_,λ_=>rfl,hK _ ?_⟩|refine hK _ ?_);clear hK K)
   refine⟨L2,?_⟩;clear L2;go_wp2_with fail;refine(Hba.o _ Xo.o).m ?_;rintro e w3 ⟨rfl,K3⟩;have Qm:=ag K3;clear K3;go_wp2_with fail;refine(Hsf.o _ Qm.o).m ?_;rintro e w4 ⟨rfl,q4,rfl⟩;go_wp2_with fail;go_ret;exact⟨rfl,HK.o.qo (Lu.o.qo (Xo.o.qo (Qm.o.drewN q4)))⟩
