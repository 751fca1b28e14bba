import Derived.Test.YtopbkdebihcmcaaGreatDoorYBD
import Derived.Test.YtopbkdebihcmcaaGreatDoorYBN
import Derived.Test.YtopbkdebihcmcaaGreatDoorYBP
set_option linter.unusedSimpArgs false
set_option linter.unusedVariables false
namespace Go.Proofs.YtopbkdebihcmcaaGreatDoor
open Go.RowKit
set_option maxRecDepth 100000
set_option maxHeartbeats 16000000
theorem Ci{w0 w:World}{B D C S:Nat}{wv:Value}{V:nT}{d:pG}{n:Int}(h:VN w0 w B D C S wv V d n):wS w (VB B D C S wv):=by
 rintro b c t f (hs|rfl|rfl) hh
 ·obtain⟨c',t',f',h1,h2⟩:=wJ h.dev b hs;rw[oN hh h1];rcases h2 with h2|h2|h2<;>rw[h2]<;>exact⟨by decide,by decide,by decide,by decide,by decide⟩
 ·rw[oN hh h.yX.row];exact⟨by decide,by decide,by decide,by decide,by decide⟩
 ·rw[oN hh h.cnt];exact⟨by decide,by decide,by decide,by decide,by decide⟩
theorem Eo{w0 w:World}{B D C S:Nat}{wv:Value}{V:nT}{d:pG}{n:Int}(h:VN w0 w B D C S wv V d n){mb nm:Nat}{L:List rD}(hm:oJ w mb nm L):¬VB B D C S wv mb:=by
 rintro(hs|rfl|rfl)
 ·obtain⟨c',t',f',h1,h2⟩:=wJ h.dev mb hs;exact hm.row_ne h1 rfl
 ·exact hm.row_ne h.yX.row rfl
 ·exact hm.row_ne h.cnt rfl
theorem En{w0 w:World}{B D C S:Nat}{wv:Value}{V:nT}{d:pG}{n:Int}(h:VN w0 w B D C S wv V d n){b:Nat}{c:Array Value}{f:Nat×Nat}(hb:w.heap[b]? =some (.cells c 93 f)):¬VB B D C S wv b:=by
 rintro(hs|rfl|rfl)
 ·obtain⟨c',t',f',h1,h2⟩:=wJ h.dev b hs;have:=oN hb h1;rw[<-this]at h2;rcases h2 with h2|h2|h2<;>exact absurd h2 (by decide)
 ·exact absurd (oN hb h.yX.row) (by decide)
 ·exact absurd (oN hb h.cnt) (by decide)
section
variable {w:World}{BB B nS mb wb CC nm nw:Nat}{L:List vO}{W:List wF}
theorem U3{D C:Nat}{V:nT}(hB:rZ w BB B nS mb wb CC)(hV:og w B D C V):
  ae 69 #[.pointer (some ⟨BB,0,none⟩)] w λe w'=>e= .returned (.int .i64 V.now.count)∧Keep nM w w':=by
 have b0:=hB.cell0;have hc:=TN hV;have Hc:=ag hc;clear hc;go_enter Tryz.func69,Tryz.ntmps69;go_wp2_with fail;refine Hc.out.mono ?_;rintro e w1 ⟨rfl,hw1⟩;subst w1;go_wp2_with fail;go_ret;exact⟨rfl,ah _ _⟩
theorem TM{D C:Nat}{V:nT}(h:og w B D C V):
  ae 116 #[.pointer (some ⟨B,0,none⟩)] w λe w'=>e= .returned (.int .i64 V.now.nP)∧w'=w:=by
 have c:=h.nP;have hlt:=h.lt;obtain⟨T,hT⟩:∃T,T=V.now.nP:=⟨_,rfl⟩
 rw[<-hT]at c⊢;clear hT h;go_enter Tryz.func116,Tryz.ntmps116;go_wp2_with fail;go_ret;exact⟨rfl,rfl⟩
theorem U2{D C:Nat}{V:nT}(hB:rZ w BB B nS mb wb CC)(hV:og w B D C V):
  ae 72 #[.pointer (some ⟨BB,0,none⟩)] w λe w'=>e= .returned (.int .i64 V.now.nP)∧Keep nM w w':=by
 have b0:=hB.cell0;have hc:=TM hV;have Hc:=ag hc;clear hc;go_enter Tryz.func72,Tryz.ntmps72;go_wp2_with fail;refine Hc.out.mono ?_;rintro e w1 ⟨rfl,hw1⟩;subst w1;go_wp2_with fail;go_ret;exact⟨rfl,ah _ _⟩
end
theorem GR(L:List vO):o9 (vU L)=L.map (λp=>nZ p.2):=by unfold o9 vU rQ;rw[fU];rfl
def zaL(w0 w w':World)(BB B D C S nS:Nat)(wv:Value)(V:nT)(d:pG)(n:Int)(L:List vO)(nm:Nat)(W:List (Nat×af))(e:Ending):Prop:=
 ∃wv',zL w wv wv'∧VN w0 w' B D C S wv' (vY V d n V.now.nP W).v (vY V d n V.now.nP W).dev (vY V d n V.now.nP W).n∧e= .returned (errVal (vY V d n V.now.nP W).err)∧
  ((vY V d n V.now.nP W).err=0->∃mb' wb' CC' nm',w.heap.size<=mb'∧w.heap.size<=wb'∧nm'<=nm∧rZ w' BB B nS mb' wb' CC'∧Au w' mb' wb' nm' 0 L []∧BA w' CC' nS L)∧
  ((vY V d n V.now.nP W).err≠0->Keep (VB B D C S wv) w w')
theorem Ya{w0 w:World}{BB B D C S nS mb wb CC nm nw:Nat}{wv:Value}{V:nT}{d:pG}{n:Int}{L:List vO}{W:List wF}
  (hB:rZ w BB B nS mb wb CC) (hR:Au w mb wb nm nw L W) (hv:VN w0 w B D C S wv V d n) (hBB:w0.heap.size<=BB) {N:Int} (hV:Qv N V) (hNN:N<1000000) (hw:d.wait.length<=800000) (RV:oG w0) (PV:uH w0)
  (hs:Ce (qC L (sK W))) (hp:qJ nS ((qC L (sK W)).map (λp=>nZ p.2))=true) (hsm:nm+nw<1000000):
  ae 68 #[.pointer (some ⟨BB,0,none⟩)] w λe w'=>
   zaL w0 w w' BB B D C S nS wv V d n (qC L (sK W)) (nm+nw) (qE (qG (uz ⟨(uT nS ((qC L (sK W)).map (λp=>nZ p.2))).toArray⟩) 32) (y8 V)) e∧Keep (λb=>VB B D C S wv b∨b=BB) w w':=by
 obtain⟨NX,hNX⟩:∃N,N=qC L (sK W):=⟨_,rfl⟩
 have hnn:=NL hR;have hnx:=DK hB hR hsm;rw[<-hNX]at hs hp hnn hnx⊢;have HNX:=ag hNX;clear hNX;obtain⟨S',hS'⟩:∃s:af,s=⟨(uT nS (NX.map (λp=>nZ p.2))).toArray⟩:=⟨_,rfl⟩
 rw[<-hS'];have HS:=ag hS';obtain⟨tg,FC⟩:∃t,t=vY V d n V.now.nP (qE (qG (uz S') 32) (y8 V)):=⟨_,rfl⟩
 have Htg:=ag FC;clear hS' FC;have zdm:1<=nS∧nS<=8:=by simp only[qJ,aZ,aS]at hp;omega
 have hd0:((nS:Nat):Int)≠0:=by omega
 have b1:=hB.cell1;have hlt:=hB.lt;have hfew:=hs.few;have MO:=ag hnx;clear hnx;go_enter Tryz.func68,Tryz.ntmps68;go_wp2_with fail;refine MO.out.mono ?_;rintro e w1 ⟨na,hna,rfl,hA,K1⟩;obtain⟨nb,hnb⟩:∃b,b=w.heap.size:=⟨_,rfl⟩
 rw[<-hnb]at hA⊢;have MP:=ag hnb;have BU:=ag K1;have hkeys:=(fF (n:=5)).1 (LY (some nb) w1);have hsort:=(fF (n:=5)).1 (Ia hA (by rw[rQ,aI];omega));have YH:=ag hkeys;have Fq:=ag hsort;have b11:=(hB.oz K1).cell1;clear hkeys hsort hnb K1 MO;go_wp2_with fail;refine YH.out.mono ?_;rintro e w' ⟨rfl,rfl⟩;go_wp2_with fail;refine Fq.out.mono ?_;rintro e w2 ⟨v,ss,rfl,hS,hrow,hnil,hb⟩;have hr:=hA.rising;have hss:ss.length=((rQ uN NX).map (·.1)).length:=by rw[hS.length_eq,GM,VP]
 rw[Ls hr hS,O7,hss,Y8]at hrow;have own:=nV.of hrow;have hst:Strs w2 v (NX.map (·.1)):=Kq own;have K2:Keep nM w w2:=(BU.out.alloc (.cells #[.map (some nb)] 89)).nK ⟨hb.os,hb.tape,hb.output,hb.size,λi hi _=>hb.block i hi⟩;have FD:Keep nM w1 w2:=((ah nM w1).alloc (.cells #[.map (some nb)] 89)).nK ⟨hb.os,hb.tape,hb.output,hb.size,λi hi _=>hb.block i hi⟩;obtain⟨N,hN⟩:∃N,N=NX.map (·.1):=⟨_,rfl⟩
 rw[<-hN]at hst own;obtain⟨p,c,rfl⟩:=hst.len;obtain⟨m,hm⟩:∃m,m=N.length:=⟨_,rfl⟩
 have hmL:m=NX.length:=by rw[hm,hN,aI]
 rw[<-hm]at hst⊢;have HN:=ag hN;have Hm:=ag hm;have HmL:=ag hmL;have Hst:=ag hst;have HA:=ag (hA.keep FD (λx=>x));have Jc:=ag K2;obtain⟨i0,hi0,hz0,hs0,hb0⟩:=Iz;clear hN hrow hnil hS hss hm hmL own hst hb hr K2 FD YH Fq hA b1 b11;go_wp2_with fail;have Hnn:=ag hnn;clear hnn
 go_loopw [4,25] (λlv iv wr=>∃(k:Nat) (o:Value),k<=m∧iv= .int .i64 k∧o=lv∧Hid (nV wr w2.heap.size 101 3 o k (((NX.take k).map (·.2)).flatMap pO))∧Hid (Keep nM w2 wr)) (λ_ iv _=>m-(intOf iv).toNat)
 case atStart=>exact⟨0,_,by omega,rfl,rfl,ag (by rw[bZ];exact nV.nil _ _ _ _),ag (ah _ _)⟩
 case round=>
  obtain⟨k,o,hk,rfl,rfl,hO,K⟩:=hrel;obtain⟨wo,rfl⟩:∃wo,wo=wr:=⟨_,rfl⟩
  by_cases hlt:k<m
  ·have j1:(k:Int)<m:=by omega
   have Tr:=Hst.out.keep K.out (λ_ _ x=>x);obtain⟨b,off,rfl,-,hb,hcell⟩:=Tr.at (by rw[<-Hm.out];omega);have hck:=hcell k (by rw[<-Hm.out];exact hlt);obtain⟨q,hq⟩:∃q,NX[k]? =some q:=⟨_,aC (by have:=HmL.out;omega)⟩
   have hqm:q∈NX:=bg hq;have hnk:N.getD k ⟨#[]⟩=q.1:=by rw[HN.out,ax,bC,hq];rfl
   rw[hnk]at hck;have hAo:=HA.out.keep K.out (λx=>x);have hget:uM (rQ uN NX) q.1=some (uN q.2):=Rt hAo.pairs (bf.2 ⟨q,hqm,rfl⟩);have hq2:=(Hnn.out q hqm).1.len;have zfK:=hs.name q hqm;have htk:(NX.take (k+1)).map (·.2)=(NX.take k).map (·.2)++ [q.2]:=by have h1:=aN.1 hq;rw[aT h1.1,h1.2,di];rfl
   obtain⟨nm,x⟩:=q;simp only at hck hget hq2 zfK htk;have zkG:nm.size<=maxLen:=by unfold maxLen;omega
   have hlk:=hAo.look Tryz.underlying89 nm zkG (Tryz.zeroValue101 wo);rw[hget,kT]at hlk;obtain⟨xn,xt,xa,xs⟩:=x;obtain⟨pa,ca,hpa⟩:=hq2;simp only at hpa;subst hpa;simp only[uN,pO]at hlk;obtain⟨nl,hnl⟩:∃m,m=xs.length:=⟨_,rfl⟩
   have hxe:pO ⟨xn,xt,.slice pa xs.length ca,xs⟩= [.string xn,.string xt,.slice pa nl ca]:=by rw[hnl];rfl
   rw[<-hnl]at hlk;have zge:k<1000:=by have:=HmL.out;omega
   have Htk:=ag htk;have Hxe:=ag hxe;have HK:=ag K.out;clear htk hxe hnl hq hqm hnk hget hAo Tr hcell;go_wp2_with (at_builtin;refine qc _ rfl _ _ 96 rfl w2.heap.size 101 i0 _ 3 56 Tryz.underlying96 hi0 hz0 hs0 hb0 rfl (by decide) o _ _ rfl (hO.out.alloc _) ⟨wo.heap.size,0,none⟩ 1 1 [.string xn,.string xt,.slice pa nl ca] rfl rfl (qj _ _ _) (Fg xn xt pa nl ca) (by unfold maxLen;omega) (by omega) (by have:=HK.out.size;simp;omega) ?_;intro v' w' own' hgrow);have KN:Keep nM w2 w':=(HK.out.alloc (.cells #[.string xn,.string xt,.slice pa nl ca] 101)).grown hgrow (λb hb=> .inr (hO.out.lt b hb).1);refine⟨⟨k+1,v',by omega,by go_num,rfl,ag ?_,ag KN⟩,by simp[intOf];omega⟩;rw[Htk.out,cZ];have e: [(⟨xn,xt,.slice pa xs.length ca,xs⟩:oK)].flatMap pO= [.string xn,.string xt,.slice pa nl ca]:=by rw[df,iY,dJ,Hxe.out]
   rw[e];exact own'
  ·obtain⟨q,hq⟩:∃q,q=m:=⟨_,rfl⟩
   obtain rfl:k=m:=by omega
   have j1:¬(k:Int)<k:=by omega
   have hOo:=hO.out;have hN:NX.take k=NX:=aV (by rw[<-HmL.out];exact aF _);rw[hN]at hOo;obtain⟨IL,hIL⟩:∃l,l=NX.map (·.2):=⟨_,rfl⟩
   have zk1:IL.map nZ=NX.map (λp=>nZ p.2):=by rw[hIL,fU];rfl
   have zfw:IL.length=k:=by rw[hIL,aI];exact HmL.out.symm
   rw[<-hIL]at hOo;have KWo:=Jc.out.nK K.out;have zpo:Keep nM w wo:=KWo;have hit:Items wo o IL:=⟨sQ.vN AY (by rw[zfw];exact hOo),λx hx=>by rw[hIL]at hx;obtain⟨p,hp,rfl⟩:=bf.1 hx;exact(Hnn.out p hp).1.keep KWo (λ_ _ x=>x)⟩
   obtain⟨po,co,rfl⟩:=hit.rows.len;have hpr:=print_any nS (.slice po IL.length co) IL wo hit (by rw[zfw];unfold maxLen;have:=HmL.out;omega) (λx hx=>by rw[hIL]at hx;obtain⟨p,hp,rfl⟩:=bf.1 hx;have:=hs.le p hp;omega) (PV.keep (hv.keep.nK KWo) (λx=>x))
   have e1:Dw nS IL=S':=by rw[Dw,zk1,aP hp,HS.out]
   have e2:Cb nS IL= .nilIface:=by rw[Cb,zk1,aP hp]
   rw[e1,e2]at hpr;have hsz:S'.size<=6400:=by rw[HS.out];exact SA hp
   have b1:=(hB.oz KWo).cell1;rw[zfw]at hpr⊢;have HILl:=ag zfw;have Hpr:=ag hpr;have zp6:=ag KWo;have HB:=ag hB;have HR:=ag hR;have HV:=ag hv;have HA2:=ag (HA.out.keep K.out (λx=>x));clear hpr zfw e1 e2 hit hOo hO K hN hq KWo zpo hIL zk1 hB hR hv;go_upto_region 10 with(fail)
   clear j1;go_wp2_with fail;refine Hpr.out.mono ?_;rintro e w3 ⟨rfl,K3⟩;have zp7:=ag (zp6.out.nK K3);have HA3:=ag (HA2.out.keep K3 (λx=>x));clear Hpr b1 K3;have hmm:= @run_makeMap Tryz.prog;go_upto_region 14 with(fail)
   clear hmm;obtain⟨ms,hms⟩:∃b,b=w3.heap.size:=⟨_,rfl⟩
   obtain⟨w4,hw4⟩:∃w4,w4=w3.alloc (Obj.map #[] 0):=⟨_,rfl⟩
   have m0:yl w4 ms 0 (qG (uz S') 0):=by rw[hw4,hms];exact World.ownsMap_made _ _ _ _
   have K4:Keep nM w3 w4:=by rw[hw4];exact(ah _ _).alloc _
   rw[<-hw4,<-hms];have Hms:=ag hms;have HK4:=ag K4;obtain⟨s0,zkB⟩:∃s,s=leftB S' 0:=⟨_,rfl⟩
   have zkC:S'=s0:=by rw[zkB,zb5]
   have Hsz:=ag hsz;have Hs0:=ag zkB;clear hms hw4 K4 zkB hsz;go_upto_region 15 with(fail)
   rw[zkC];have Hs00:=ag zkC;clear zkC
   go_loopw [7,49] (λsv iv wr=>∃(j:Nat) (s:af),j<=32∧iv= .int .i64 j∧sv= .string s∧Hid (s=leftB S' j)∧Hid (yl wr ms j (qG (uz S') j))∧Hid (Keep nM w3 wr)) (λ_ iv _=>32-(intOf iv).toNat)
   case atStart=>exact⟨0,s0,by omega,rfl,rfl,Hs0,ag m0,HK4⟩
   case round=>
    obtain⟨j,s,hj,rfl,rfl,hse,hmr,KR⟩:=hrel;obtain⟨wp,rfl⟩:∃wp,wp=wr:=⟨_,rfl⟩
    by_cases zo3:j<32
    ·have j2:(j:Int)<32:=by omega
     have hs6:s.size<=6400:=by rw[hse.out,zb6];have:=Hsz.out;omega
     obtain⟨nn,hnn⟩:∃nn,nn=min s.size 200:=⟨_,rfl⟩
     have hmin:min (s.size:Int) 200=(nn:Int):=by omega
     have hcut:=zel S' j;rw[<-hse.out,<-hnn]at hcut;have zoW:nn<=s.size:=by omega
     have hch:=GY S' j;have hget:(uz S').getD j ⟨#[]⟩=Ez S' j:=by rw[uz,ax,bC,kX zo3];rfl
     obtain⟨ck,hck⟩:∃c,c=Ez S' j:=⟨_,rfl⟩
     rw[<-hck]at hcut hch hget;obtain⟨sn,hsn⟩:∃c,c=leftB S' (j+1):=⟨_,rfl⟩
     rw[<-hsn]at hcut;have hsl1:∀W:World,(Instr.slice 9 (.string s) none (some (.int .i64 nn)) none).run Tryz.prog W= .ok (.string ck) W:=λW=>by rw[run_slice_string_h (ht:=Tryz.underlying9) (h0:=by omega) (h2:=by omega),jf,hcut.1]
     have hsl2:∀W:World,(Instr.slice 9 (.string s) (some (.int .i64 nn)) none none).run Tryz.prog W= .ok (.string sn) W:=λW=>by rw[run_slice_string_l (ht:=Tryz.underlying9) (h0:=by omega) (h1:=by omega),jf,hcut.2]
     have KD:Keep nM wp wp.drew:=(ah nM wp).drew;have hmo:yl wp.drew ms j (qG (uz S') j):=World.ownsMap.kept hmr.out (zb8 KD none) (by simp);obtain⟨v0,w5,st,w6,hme,hes,hm6,hg6⟩:=yl.entry hmo (by unfold maxLen;omega) j (by omega) ck (by unfold maxLen;omega);rw[<-hget,SH]at hm6;have Hm6:=ag hm6;have HK6:=ag ((KR.out.nK KD).grown hg6 (λq hq=> .inr (by have h1:=aH hq;have:=Hms.out;omega)));have Hsn:=ag hsn;clear hm6 hg6 hmo KD hget hch hcut hck hsn hnn hs6 zoW;go_upto_region 18 with(fail)
     refine nO (λ_=>True) [(true,0),(true,1),(true,2),(true,3),(true,4),(true,5),(true,6),(true,7),(false,8),(true,9),(false,10),(false,11)] (by kernel_rfl) (by kernel_rfl) (λc a d v w h=>by cases d<;>exact h) ?_;simp only[oQ,nR,aj,ak,au]
     repeat(refine nJ (λK hK=> ?_);go_simp;first|(refine⟨_,λ_=>rfl,hK _ ?_⟩;clear hK K;refine nH ?_)|(refine hK _ ?_;clear hK K;refine nH ?_))
     refine⟨trivial,?_⟩;go_wp2_with fail
     repeat(refine nJ (λK hK=> ?_);go_simp;first|(refine⟨_,λ_=>rfl,hK _ ?_⟩;clear hK K;refine nH ?_)|(refine hK _ ?_;clear hK K;refine nH ?_))
     refine⟨trivial,?_⟩;go_wp2_with fail;refine⟨trivial,?_⟩;go_wp2_with fail;refine⟨⟨j+1,sn,by omega,by go_num,rfl,Hsn,Hm6,HK6⟩,by simp[intOf];omega⟩
    ·obtain⟨q,hq⟩:∃q:Nat,q=32:=⟨_,rfl⟩
     obtain rfl:j=q:=by omega
     have j2:¬(j:Int)<32:=by omega
     have zaQ:=hmr.out;rw[hq]at zaQ;have KWp:=zp7.out.nK KR.out;have hvp:=HV.out.oz KWp;have hBp:=HB.out.oz KWp;have b0:=hBp.cell0;have zcz:=zlk hvp hV hNN hw RV zaQ (by omega) (vS (λs hs=>by obtain⟨i,_,rfl⟩:=bf.1 hs;exact GY S' i) (by simp[uz]))
     unfold YD at zcz;rw[<-Htg.out]at zcz;have zjW:=ag zcz;have Yu:=ag KWp;have HAp:=ag (HA3.out.keep KR.out (λx=>x));clear zcz zaQ hmr hq hvp KWp m0;go_upto_region 20 with(fail)
     clear j2;go_wp2_with fail;refine zjW.out.mono ?_;rintro e w7 ⟨⟨he,wv',hmv,hvn⟩,K7⟩;have zmm:zL w wv wv':=hmv.imp (λh=>h) (λh b hb=>bH Yu.out.size (h b hb));have Hmv:=ag zmm;have HK7:=ag K7;have hBv:=En HV.out HB.out;have HBv:=ag hBv;have HBp:=ag hBp;clear hmv zmm zjW b0 hBv hBp;by_cases her:tg.err=0
     ·have he:e= .returned .nilIface:=by rw[he,errVal,aP her]
      subst he;have B7:=HBp.out.keep HK7.out HBv.out;have hlt7:=B7.lt;have b2:=B7.cell2;have f2:=B7.free 2;have B8:=B7.set2 nb;have K8:Keep (nY BB) w7 (w7.setCell ⟨BB,2,none⟩ (.map (some nb))):=(ah _ _).set1 2 _;obtain⟨w8,hw8⟩:∃w8,w8=w7.setCell ⟨BB,2,none⟩ (.map (some nb)):=⟨_,rfl⟩
      rw[<-hw8]at B8 K8;have hVO:=Ci (HV.out.oz Yu.out);have A7:=HAp.out.keep HK7.out (Eo (HV.out.oz Yu.out) HAp.out);have A8:=A7.keep K8 (λe=>A7.row_ne B7 e);have N8:∀p∈NX,uO w8 p.2:=λp hp=>((((Hnn.out p hp).keep Yu.out (λ_ _ _ _ h=>h.elim)).keep HK7.out (λb c t f h hh=>(hVO b c t f h hh).int)).keep K8 (λb c t f h hh=>(B7.other b c t f h hh).int))
      have zma:=Me B8;have Hw8:=ag hw8;have HK8:=ag K8;have HA8:=ag A8;have HN8:=ag N8;have HB8:=ag B8;have HB7:=ag B7;have zna:=ag zma;have Hvn:=ag hvn;clear hw8 K8 A7 A8 N8 hVO zma hvn B8 B7;go_upto_region 24 with(fail)
      rw[<-Hw8.out];clear b2 f2;go_wp2_with fail;refine zna.out.mono ?_;rintro e w9 ⟨rfl,B9,M9,K9⟩;have N9:∀p∈NX,uO w9 p.2:=λp hp=>(HN8.out p hp).keep K9 (λb c t f h hh=>(HB8.out.other b c t f h hh).int);have A9:=HA8.out.keep K9 (λe=>HA8.out.row_ne HB8.out e);have hidx:=Ah B9 A9 N9 hs;have HB9:=ag B9;have HM9:=ag M9;have HK9:=ag K9;have HA9:=ag A9;have HN9:=ag N9;have MZ:=ag hidx;clear B9 M9 K9 A9 N9 hidx zna;go_wp2_with fail;refine MZ.out.mono ?_;rintro e wz ⟨rfl,hC,Kz⟩;obtain⟨C',BZ,CZ⟩:=hC;have HBZ:=ag BZ;have HCZ:=ag CZ;have HKz:=ag Kz;clear BZ CZ Kz MZ;go_wp2_with fail;go_ret;have KB:Keep (nY BB) w7 wz:=(HK8.out.then HK9.out).then HKz.out;have znR:w7.heap.size<=w8.heap.size:=HK8.out.size;have hlt:BB<w.heap.size:=HB.out.lt;have zoN:w.heap.size<=w7.heap.size:=bH Yu.out.size HK7.out.size;have hvz:VN w0 wz B D C S wv' tg.v tg.dev tg.n:=Hvn.out.out KB (λb hb e=>by have h1:b=BB:=e;subst h1;exact En Hvn.out HB7.out hb) (λb hb e=>by have h1:b=BB:=e;omega)
      have hAz:=HA9.out.keep HKz.out (λe=>HA9.out.row_ne HB9.out e);have hMz:=HM9.out.keep HKz.out (λe=>HM9.out.row_ne HB9.out e);have hNz:∀p∈NX,uO wz p.2:=λp hp=>(HN9.out p hp).keep HKz.out (λb c t f h hh=>(HB9.out.other b c t f h hh).int);have hnbw:nb<w8.heap.size:=HA8.out.lt;refine⟨⟨wv',Hmv.out,by rw[<-Htg.out];exact hvz,by rw[<-Htg.out,errVal,aP her];rfl,λ_=>⟨nb,w8.heap.size,C',na,by rw[MP.out];exact aF _,bH zoN znR,hna,HBZ.out,⟨hAz,hMz,by omega,hNz,(λp hp=>by cases hp)⟩,HCZ.out⟩,λh=>absurd (by rw[<-Htg.out];exact her) h⟩,?_⟩;refine((Yu.out.vN).trans (HK7.out.mono (S':=λb=>VB B D C S wv b∨b=BB) (λi hi h=> .inl h)) (λi hi h=>h)).trans (KB.mono (S':=λb=>VB B D C S wv b∨b=BB) (λi hi h=> .inr h)) (λi hi h=>h)
     ·have he':e= .returned (.iface 51 (.int .i64 tg.err)):=by rw[he,errVal,aB her]
      subst he';have Hvn:=ag hvn;have HK7:=ag K7;clear he hvn K7;go_wp2_with fail;go_ret;refine⟨⟨wv',Hmv.out,by rw[<-Htg.out];exact Hvn.out,by rw[<-Htg.out,errVal,aB her];rfl,λh=>absurd (by rw[Htg.out];exact h) her,λ_=>(Yu.out.vN).trans HK7.out (λi hi h=>h)⟩,(Yu.out.vN).trans HK7.out (λi hi h=> .inl h)⟩
def zI(L:List oK):List vO:=L.map λx=>(x.name,x)
theorem zaC(a b:List UInt8)(h:a<b):bytesBefore a b=true:=by
 cases hb:bytesBefore a b with
 | true=>rfl
 | false=>
  exfalso;by_cases e:a=b
  ·subst e;exact List.lt_irrefl _ h
  ·exact List.lt_asymm h (Dn _ _ (bytes_total a b e hb))
theorem Jp:∀ {l:List pR},uw l=true->l.Pairwise λx y=>JF x.1 y.1=true
 | [],_=>List.Pairwise.nil
 | [x],_=>lH ..
 | x::y::l,h=>by
  rw[uw,aZ]at h;have ih:=Jp h.2;have h1:JF x.1 y.1=true:=zaC _ _ (gy h.1);refine bU.2 ⟨λz hz=> ?_,ih⟩;rcases bK.1 hz with rfl|hz
  ·exact h1
  ·exact bytes_trans _ _ _ h1 ((bU.1 ih).1 z hz)
theorem zah{L:List oK}(h:uw (L.map nZ)=true):rX (zI L):=by have h1:=Jp h;rw[dR]at h1;unfold rX zI;rw[dR];exact h1
theorem zd2{α:Type}{A:List (af×α)}{k:af}{v:α}(h:rX (A++ [(k,v)])):xN A k v=A++ [(k,v)]:=by
 have hA:rX A:=(mr.1 h).1;have hk:∀p∈A,p.1≠k:=λp hp=>WV ((mr.1 h).2.2 p hp _ (bD.2 rfl));refine Jq (AX hA k v) h λj=> ?_;rw[Rw];unfold qQ;rw[List.find?_append];by_cases e:j=k
 ·subst e
  have:A.find? (λp=>decide (p.1=j))=none:=by
   rw[iH];intro p hp
   simpa using hk p hp
  rw[aP rfl,this];simp
 ·rw[aB e];cases hf:A.find? (λp=>decide (p.1=j))with
  | some p=>simp
  | none=>
   have:¬k=j:=λx=>e x.symm
   simp[this]
def Ep(T:List af):Nat->af
 | 0=>⟨#[]⟩
 | k+1=>Ep T k++T.getD k ⟨#[]⟩
theorem OA(T:List af):∀k,k<=T.length->(Ep T k).data.toList=Df (T.take k)
 | 0,_=>by rw[bZ];rfl
 | k+1,h=>by
  rw[Ep,aT (by omega),Df,cZ,<-Df,<-OA T k (by omega)];have e:T.getD k ⟨#[]⟩=T[k]:=by simp[ax,show k<T.length by omega]
  rw[e];simp[dQ]
theorem Oz{T:List af}(h:∀s∈T,s.size<=200):∀k,k<=T.length->(Ep T k).size<=200*k
 | 0,_=>aF _
 | k+1,hk=>by
  have h1:=Oz h k (by omega);have h2:(T.getD k ⟨#[]⟩).size<=200:=by rw[ax,aC (by omega)];exact h _ (fD _)
  have h3:(Ep T (k+1)).size=(Ep T k).size+(T.getD k ⟨#[]⟩).size:=by rw[Ep,aX]
  omega
theorem ZW{L:List oK}{d:Int}(h:qJ d (L.map nZ)=true):Ce (zI L):=by
 simp only[qJ,aZ,aS]at h;obtain⟨⟨⟨⟨h1,h2⟩,h3⟩,h4⟩,h5⟩:=h;have hall:∀p∈zI L,p.1=p.2.name∧qM (nZ p.2) d=true:=λp hp=>by obtain⟨x,hx,rfl⟩:=bf.1 hp;exact⟨rfl,gQ.1 h4 _ (bf.2 ⟨x,hx,rfl⟩)⟩
 have hb:∀p∈zI L,nameB p.2.name=true∧(p.2.ns.length:Int)=d∧p.2.ns.any BD=false:=λp hp=>by have h6:=(hall p hp).2;simp only[qM,nZ,aZ,dP,aS,eY]at h6;exact⟨h6.1.1.1.1.1,gy h6.1.2,h6.2⟩
 refine⟨?_,λp hp=> ?_,λp hp=> ?_,λp hp=> ?_,λp hp=> ?_⟩
 ·rw[zI,aI];rw[aI]at h3;omega
 ·rw[(hall p hp).1];have:=CP (hb p hp).1;omega
 ·have:=(hb p hp).2.1;omega
 ·have:=(hb p hp).2.1;omega
 ·intro n hn;have h7:=(hb p hp).2.2;rw[je]at h7;have:=h7 n hn;simp only[BD,dP,aS,not_or]at this;omega
theorem zbW(L:List oK)(j:Nat)(x:oK)(hx:L[j]? =some x):zI (L.take (j+1))=zI (L.take j)++ [(x.name,x)]:=by have h1:=aN.1 hx;rw[aT h1.1,h1.2,zI,di];rfl
theorem zbH{w w':World}{BB B d mb wb:Nat}{q:Option Addr}{v:Value}{L:List oK}(h:sQ w v 3 pO L)(hB:oV w BB B d mb wb (.pointer q))(K:Keep (nY BB) w w'):sQ w' v 3 pO L:=by
 cases L with
 | nil=>
  obtain⟨p,c,hv⟩:=h.len;exact .inl ⟨rfl,p,c,hv⟩
 | cons x l=>
  refine h.keep K λb hb e=> ?_;have e:b=BB:=e;subst e;rcases h with⟨h,_⟩|⟨b2,off,c,hv,_,hcell⟩
  ·cases h
  ·rw[hv]at hb;obtain rfl:b2=b:=aH hb;have h1:=hcell 0 x rfl 0 _ rfl;rw[aO _ _ _ _ _ (0,0) hB,mO]at h1;simp only[jL]at h1;unfold D7 at h1;rcases off with _|_|_|_|_|off<;>simp at h1
theorem zbG{w w':World}{mb n:Nat}{M:List rD}{v:Value}{L:List oK}(h:sQ w v 3 pO L)(hm:oJ w mb n M)(K:Keep (nY mb) w w'):sQ w' v 3 pO L:=by
 cases L with
 | nil=>
  obtain⟨p,c,hv⟩:=h.len;exact .inl ⟨rfl,p,c,hv⟩
 | cons x l=>
  refine h.keep K λb hb e=> ?_;have e:b=mb:=e;subst e;rcases h with⟨h,_⟩|⟨b2,off,c,hv,_,hcell⟩
  ·cases h
  ·rw[hv]at hb;obtain rfl:b2=b:=aH hb;have h1:=hcell 0 x rfl 0 _ rfl;obtain⟨es,clock,h2,_⟩:=hm;simp[World.cell?,h2]at h1
def Vd(BB Z mb:Nat)(a b c:Value)(W:World):Prop:=W.cell? ⟨BB,2,none⟩=some (.map (some mb))∧W.cell? ⟨Z,0,none⟩=some a∧W.cell? ⟨Z,1,none⟩=some b∧W.cell? ⟨Z,2,none⟩=some c
def Qu(w0 w w':World)(D C S:Nat)(wv:Value)(V:nT)(d:pG)(m:Int)(nS:Nat)(l:List pR)(e:Ending):Prop:=
 ∃BB B mb wb CC nm L,e= .returned (.tuple #[.pointer (some ⟨BB,0,none⟩),.nilIface])∧w.heap.size<=BB∧w.heap.size<=mb∧w.heap.size<=wb∧w.heap.size<=B∧nm<=60∧VN w0 w' B D C S wv V d m∧rZ w' BB B nS mb wb CC∧Au w' mb wb nm 0 L []∧BA w' CC nS L∧vU L=l.map λx=>(x.1,x)
def zW(w0 w w':World)(D C S:Nat)(wv:Value)(V:nT)(d:pG)(m:Int)(e:Ending):Prop:=
 if Df V.texts= []then Qu w0 w w' D C S wv V d m 0 [] e
 else match x8 (Df V.texts)with
  | some (nS,l)=>Qu w0 w w' D C S wv V d m nS.toNat l e
  | none=>e= .returned (.tuple #[.pointer none,errVal 15])∧qi w' D S wv d∧oL w' C m
theorem MC{w0 w:World}{D C S:Nat}{wv:Value}{d:pG}(hd:qi w D S wv d)(hkw:Keep nM w0 w)(hown:∀b,qg D S wv b∨b=C->w0.heap.size<=b){n:Nat}(hc:oL w C n)(hn:n<1000000)(hb:∀i,i<66->(d.now.getD i ⟨#[]⟩).size=256){secret:af}(hs:secret.size=16)(R:oG w0)(IV:wK w0){V:nT}{m:Int}(ho:yS secret d.now n=some (V,m))
  (hT:V.texts.length=32) (ht:∀s∈V.texts,s.size<=200):
  ae 28 #[.pointer (some ⟨D,0,none⟩),.pointer (some ⟨C,0,none⟩),.string secret] w λe w'=>zW w0 w w' D C S wv V d m e∧Keep (nY C) w w':=by
 have hvo:=ziS hd hkw hown hc hn hb hs R ho;have Hvo:=ag hvo;clear hvo;go_enter Tryz.func28,Tryz.ntmps28;go_wp2_with fail;refine Hvo.out.mono ?_;rintro e w1 ⟨⟨B,hB,rfl,hv⟩,K1⟩;have Hv:=ag hv;have BU:=ag K1;have hmm:= @run_makeMap Tryz.prog;clear hv K1 Hvo;go_upto_region 5 with(fail)
 clear hmm;obtain⟨mb,hmb⟩:∃b,b=w1.heap.size:=⟨_,rfl⟩
 obtain⟨wb,hwb⟩:∃b,b=w1.heap.size+1:=⟨_,rfl⟩
 obtain⟨BB,hBB⟩:∃b,b=w1.heap.size+1+1:=⟨_,rfl⟩
 obtain⟨wx,hwx⟩:∃wx,wx=((w1.alloc (Obj.map #[] 0)).alloc (Obj.map #[] 0)).alloc (.cells (D7 B 0 mb wb (.pointer none)) 93):=⟨_,rfl⟩
 have K2:Keep nM w1 wx:=by rw[hwx];exact(((ah _ _).alloc _).alloc _).alloc _
 have s1:(w1.alloc (Obj.map #[] 0)).heap.size=w1.heap.size+1:=by simp
 have s2:((w1.alloc (Obj.map #[] 0)).alloc (Obj.map #[] 0)).heap.size=w1.heap.size+1+1:=by simp
 have M1:oJ wx mb 0 (rQ uN (zI ([]:List oK))):=by rw[hwx,hmb];exact(oJ.made w1).keep (((ah nM _).alloc _).alloc _) (λx=>x)
 have M2:oJ wx wb 0 (rQ Prod.fst ([]:List wF)):=by have h:=oJ.made (w1.alloc (Obj.map #[] 0));rw[s1,<-hwb]at h;rw[hwx];exact h.keep ((ah nM _).alloc _) (λx=>x)
 have B1:oV wx BB B 0 mb wb (.pointer none):=by have h:=aG ((w1.alloc (Obj.map #[] 0)).alloc (Obj.map #[] 0)) (.cells (D7 B 0 mb wb (.pointer none)) 93);rw[s2,<-hBB]at h;rw[hwx];exact h
 have zkx:=hwx;rw[D7,hmb,hwb,show((0:Nat):Int)=0 from rfl]at zkx;rw[<-zkx,<-hBB,<-hwb,<-hmb];have HM1:=ag M1;have HM2:=ag M2;have HB1:=ag B1;have Jc:=ag K2;have Hmb:=ag hmb;have Hwb:=ag hwb;have HBB:=ag hBB;clear hwx zkx s1 s2 M1 M2 B1 K2 hmb hwb hBB;have HT:=ag hT;clear hT;go_wp2_with fail
 go_loopw [11,35] (λtv iv wr=>∃(k:Nat) (s:af),k<=32∧iv= .int .i64 k∧tv= .string s∧Hid (s=Ep V.texts k)∧Hid (Keep nM wx wr)) (λ_ iv _=>32-(intOf iv).toNat)
 case atStart=>exact⟨0,_,by omega,rfl,rfl,ag rfl,ag (ah _ _)⟩
 case round=>
  obtain⟨k,s,hk,rfl,rfl,hse,KR⟩:=hrel;obtain⟨wo,rfl⟩:∃wo,wo=wr:=⟨_,rfl⟩
  have hv:=Hv.out.oz (Jc.out.nK KR.out);have hsz:=Oz ht k (by rw[HT.out];exact hk);rw[<-hse.out]at hsz;by_cases hlt:k<32
  ·have j1:(k:Int)<32:=by omega
   have hget:=Xt hv.yX k hlt;obtain⟨g,hg⟩:∃g,g=V.texts.getD k ⟨#[]⟩:=⟨_,rfl⟩
   have hgs:g.size<=200:=by rw[hg,ax,aC (by rw[HT.out];exact hlt)];exact ht _ (fD _)
   rw[<-hg]at hget;have FM:¬(9223372036854775807<s.size+g.size):=by omega
   have zpQ:=ag hget;have Hg:=ag hg;clear hget hg hv hsz hgs;go_wp2_with fail;refine zpQ.out.mono ?_;rintro e w' ⟨rfl,hw'⟩;subst w';go_wp2_with fail;refine⟨⟨k+1,s++g,by omega,by go_num,rfl,ag (by rw[Ep,<-hse.out,<-Hg.out]),KR⟩,by simp[intOf];omega⟩
  ·obtain⟨q,hq⟩:∃q:Nat,q=32:=⟨_,rfl⟩
   obtain rfl:k=q:=by omega
   have j1:¬(k:Int)<32:=by omega
   have zjQ:Df V.texts=s.data.toList:=by rw[hse.out,OA V.texts k (by rw[HT.out,hq];exact aF _),aV (by rw[HT.out,hq];exact aF _)]
   have zcD:=ag zjQ;have Hq:=ag hq;have Hv1:=ag hv;have hB1:=HB1.out.oz KR.out;have hM1:=HM1.out.keep KR.out (λx=>x);have HB2:=ag hB1;have hKw:Keep (nY C) w wo:=(BU.out.nK Jc.out).nK KR.out;have HKw:=ag hKw;have HMm:=ag hM1;clear zjQ hq hse hv hB1 hKw hM1;by_cases hs0:s=⟨#[]⟩
   ·have hidx:=Ah HB2.out HMm.out (λp hp=>by cases hp) Ce.nil;have MZ:=ag hidx;clear hidx;subst hs0;go_wp2_with fail;refine MZ.out.mono ?_;rintro e w3 ⟨rfl,⟨C',hBz,hCz⟩,Kz⟩;have HBz:=ag hBz;have HCz:=ag hCz;have HKz:=ag Kz;clear hBz hCz Kz MZ;go_wp2_with fail
    go_ret2
    have hsz1:w.heap.size<=w1.heap.size:=BU.out.size;have hw0:w0.heap.size<=w.heap.size:=hkw.size;have hvz:=Hv1.out.out HKz.out (λb hb e=>by have h1:b=BB:=e;subst h1;exact En Hv1.out HB2.out hb) (λb hb e=>by have h1:b=BB:=e;have:=HBB.out;omega)
    have zfI:=(HM2.out.keep KR.out (λx=>x)).keep HKz.out (λe=>(HM2.out.keep KR.out (λx=>x)).row_ne HB2.out e);refine⟨?_,HKw.out.trans HKz.out (λi hi e=>by have h1:i=BB:=e;have:=HBB.out;omega)⟩;unfold zW;rw[aP (by rw[zcD.out])];refine⟨BB,B,mb,wb,C',0,[],rfl,by have:=HBB.out;omega,by have:=Hmb.out;omega,by have:=Hwb.out;omega,hB,by omega,hvz,HBz.out,⟨HMm.out.keep HKz.out (λe=>HMm.out.row_ne HB2.out e),zfI,by have:=Hmb.out;have:=Hwb.out;omega,(λp hp=>by cases hp),(λp hp=>by cases hp)⟩,HCz.out,rfl⟩
   ·have hemp:s.toList.isEmpty=false:=by
     cases h:s.toList with
     | nil=>exact absurd (toList_inj (by rw[h,bQ])) hs0
     | cons _ _=>rfl
    have zoP:s.size<=1000000:=by have:=Hq.out;omega
    have zfq:=parse_any s wo zoP (IV.keep Hv1.out.keep);have zdt:=ag zfq;clear zfq;go_wp2_with fail;refine zdt.out.mono ?_;rintro e w3 ⟨hsaid,K3⟩;unfold xW at hsaid;have Uk:=ag K3;have hne:Df V.texts≠ []:=λh=>hs0 (by rw[zcD.out]at h;exact iD (gU.1 h))
    have Hne:=ag hne;clear zdt K3 hne;cases hpt:x8 s.data.toList with
    | none=>
     rw[hpt]at hsaid;have hsaid:e= .returned (.tuple #[.int .i64 0,.slice none 0 0,.iface 51 (.int .i64 3)]):=hsaid;subst hsaid;have Hpt:=ag hpt;clear hpt;go_wp2_with fail
     go_ret2
     refine⟨?_,HKw.out.nK Uk.out⟩;unfold zW;rw[aB Hne.out,zcD.out,Hpt.out];exact⟨rfl,Hv1.out.dev.keep Uk.out (λ_ _ x=>x),Hv1.out.cnt.keep Uk.out (λx=>x)⟩
    | some r=>
     obtain⟨dm,l⟩:=r;rw[hpt]at hsaid;obtain⟨v,L,rfl,hLp,hit,hir⟩:=hsaid;have hback:=OV hpt;subst hLp;have hok:=hback.1;have hshape:=ZW hok;obtain⟨dn,hdn⟩:∃dn:Nat,dm=dn:=⟨dm.toNat,by simp only[qJ,aZ,aS]at hok;omega⟩
     subst hdn;have hrise:uw (L.map nZ)=true:=by simp only[qJ,aZ]at hok;exact hok.2
     have hrs:=zah hrise;have zo1:L.length<=60:=by simp only[qJ,aZ,aS,aI]at hok;omega
     obtain⟨p,c,rfl⟩:=hit.rows.len;obtain⟨q2,hq2⟩:∃q2,q2=L.length:=⟨_,rfl⟩
     have hrows:=hit.rows;rw[<-hq2]at hrows zo1⊢;have zjI:∀x∈L,uO w3 x:=λx hx=>⟨hit.nums x hx,hir x hx⟩
     have B3:=HB2.out.oz Uk.out;have f1:=B3.free 1;have b1:=B3.cell1;have B4:=B3.set1 dn;have K4:Keep (nY BB) w3 (w3.setCell ⟨BB,1,none⟩ (.int .i64 dn)):=(ah _ _).set1 1 _;have M3:=HMm.out.keep Uk.out (λx=>x);have M4:=M3.keep K4 (λe=>M3.row_ne B3 e);have R4:=zbH hrows B3 K4;have N4:∀x∈L,uO (w3.setCell ⟨BB,1,none⟩ (.int .i64 dn)) x:=λx hx=>(zjI x hx).keep K4 (λb c t f h hh=>(B3.other b c t f h hh).int);obtain⟨w4,hw4⟩:∃w4,w4=w3.setCell ⟨BB,1,none⟩ (.int .i64 dn):=⟨_,rfl⟩
     rw[<-hw4]at B4 K4 M4 R4 N4;have Hw4:=ag hw4;have HB3:=ag B3;have HB4:=ag B4;have HK4:=ag K4;have HM4:=ag M4;have HR4:=ag R4;have HN4:=ag N4;have Hq2:=ag hq2;have Hrs:=ag hrs;have Hpt:=ag hpt;clear hw4 B3 B4 K4 M3 M4 R4 N4 hq2 hrs hback hrise hit hir zjI hrows hpt;have hokd:=ag hok;clear hok;go_upto_region 19 with(fail)
     rw[<-Hw4.out];clear f1 b1;go_wp2_with fail
     go_loopw [68] (λiv wr=>∃j:Nat,j<=q2∧iv= .int .i64 j∧Hid (oJ wr mb j (rQ uN (zI (L.take j))))∧Hid (Keep (nY mb) w4 wr)) (λiv _=>q2-(intOf iv).toNat)
     case atStart=>exact⟨0,by omega,rfl,HM4,ag (ah _ _)⟩
     case round=>
      obtain⟨j,hj,rfl,hmj,KJ⟩:=hrel;obtain⟨wj,rfl⟩:∃wj,wj=wr:=⟨_,rfl⟩
      have hBM:BB≠mb:=by have:=HBB.out;have:=Hmb.out;omega
      have hRj:=zbG HR4.out HM4.out KJ.out;by_cases hlt2:j<q2
      ·have j2:(j:Int)<q2:=by omega
       obtain⟨b,off,rfl,-,hb,hcell⟩:=hRj.at (by rw[<-Hq2.out];omega);obtain⟨x,hx⟩:∃x,L[j]? =some x:=⟨_,aC (by rw[<-Hq2.out];exact hlt2)⟩
       have hra:=hcell j x hx;have hxm:x∈L:=bg hx;have htk:=zbW L j x hx;have hxn:=(HN4.out x hxm).1.len;have hxs:x.name.size<=maxLen:=by have:=hshape.name (x.name,x) (bf.2 ⟨x,hxm,rfl⟩);simp only at this;unfold maxLen;omega
       have hrj:rX (zI (L.take j)++ [(x.name,x)]):=by rw[<-htk];exact List.Pairwise.sublist ((List.take_sublist _ _).map _) Hrs.out
       have hput:yV (rQ uN (zI (L.take j))) x.name (uN x)=rQ uN (zI (L.take (j+1))):=by rw[<-za5,Gu,zd2 hrj,htk]
       obtain⟨nm,tg,av,ns⟩:=x;simp only at hxn hxs;obtain⟨pa,ca,rfl⟩:=hxn;have c0:wj.cell? ⟨b,off+j*3,none⟩=some (.string nm):=hra 0 _ rfl;have c1:wj.cell? ⟨b,off+j*3+1,none⟩=some (.string tg):=hra 1 _ rfl;have c2:wj.cell? ⟨b,off+j*3+2,none⟩=some (.slice pa ns.length ca):=hra 2 _ rfl;obtain⟨nl,hnl⟩:∃n,n=ns.length:=⟨_,rfl⟩
       have hagg:uN ⟨nm,tg,.slice pa ns.length ca,ns⟩= .agg #[.string nm,.string tg,.slice pa nl ca]:=by rw[hnl];rfl
       rw[hagg]at hput;rw[<-hnl]at c2;simp only at hput;have KA:Keep nM wj (wj.alloc (.cells #[.string nm,.string tg,.slice pa nl ca] 101)):=(ah _ _).alloc _;have hBj:=(HB4.out.keep KJ.out hBM).oz KA;have hZ:=aG wj (.cells #[.string nm,.string tg,.slice pa nl ca] 101);have LZ:Vd BB wj.heap.size mb (.string nm) (.string tg) (.slice pa nl ca) (wj.alloc (.cells #[.string nm,.string tg,.slice pa nl ca] 101)):=⟨hBj.cell2,cellOf hZ 0 rfl,cellOf hZ 1 rfl,cellOf hZ 2 rfl⟩
       obtain⟨Z,hZe⟩:∃Z,Z=wj.heap.size:=⟨_,rfl⟩
       rw[<-hZe]at LZ;have WJ:=ag hput;have HKA:=ag KA;have HLZ:=ag LZ;have HZe:=ag hZe;clear hput KA hBj hZ LZ hcell hra hx hxm htk hrj hnl hagg hRj;clear hZe;go_upto_region 22 with(fail)
       rw[<-HZe.out];have l1:∀x:rE (Vd BB Z mb (.string nm) (.string tg) (.slice pa nl ca)),x.w.cell? ⟨BB,2,none⟩=some (.map (some mb)):=λx=>x.h.1;have l2:∀x:rE (Vd BB Z mb (.string nm) (.string tg) (.slice pa nl ca)),x.w.cell? ⟨Z,0,none⟩=some (.string nm):=λx=>x.h.2.1;have l3:∀x:rE (Vd BB Z mb (.string nm) (.string tg) (.slice pa nl ca)),x.w.cell? ⟨Z,1,none⟩=some (.string tg):=λx=>x.h.2.2.1;have l4:∀x:rE (Vd BB Z mb (.string nm) (.string tg) (.slice pa nl ca)),x.w.cell? ⟨Z,2,none⟩=some (.slice pa nl ca):=λx=>x.h.2.2.2;refine nO (Vd BB Z mb (.string nm) (.string tg) (.slice pa nl ca)) [(true,0),(true,1),(true,2),(true,3),(true,4),(true,5),(true,6),(false,7)] (by kernel_rfl) (by kernel_rfl) (λc a d v w h=>by cases d<;>exact h) ?_;simp only[oQ,nR,aj,ak,au]
       repeat(refine nJ (λK hK=> ?_);go_simp;first|(refine⟨_,λ_=>rfl,hK _ ?_⟩;clear hK K;refine nH ?_)|(refine hK _ ?_;clear hK K;refine nH ?_))
       refine⟨HLZ.out,?_⟩;clear l1 l2 l3 l4;have KZD:=HKA.out.drew;obtain⟨w5,hup,Ui,K5⟩:=(hmj.out.keep KZD (λx=>x)).update Tryz.underlying89 (by unfold maxLen;omega) nm hxs (.agg #[.string nm,.string tg,.slice pa nl ca]);rw[WJ.out]at Ui;have Hm5:=ag Ui;have HK5:=ag (KJ.out.trans ((KZD.vN).then K5) (λi hi h=>h));clear Ui K5 KZD;go_wp2_with fail;exact⟨⟨j+1,by omega,by go_num,Hm5,HK5⟩,by simp[intOf];omega⟩
      ·obtain rfl:j=q2:=by omega
       have j2:¬(j:Int)<j:=by omega
       have hmo:=hmj.out;rw[aV (by rw[<-Hq2.out];exact aF _)]at hmo;have hBj:=HB4.out.keep KJ.out hBM;have hOM:=Iy HM4.out;have hNj:∀p∈zI L,uO wj p.2:=λp hp=>by obtain⟨x,hx,rfl⟩:=bf.1 hp;exact(HN4.out x hx).keep KJ.out (λb c t f h hh=>(hOM b c t f h hh).int)
       have hidx:=Ah hBj hmo hNj hshape;have HBj:=ag hBj;have Hmo:=ag hmo;have HNj:=ag hNj;have MZ:=ag hidx;clear hmj hidx hBj hmo hNj hRj hOM;go_upto_region 24 with(fail)
       clear j2;go_wp2_with fail;refine MZ.out.mono ?_;rintro e wz ⟨rfl,⟨C',hBz,hCz⟩,Kz⟩;have HBz:=ag hBz;have HCz:=ag hCz;have HKz:=ag Kz;clear hBz hCz Kz MZ;go_wp2_with fail
       go_ret2
       have hsz1:w.heap.size<=w1.heap.size:=BU.out.size;have hw0:w0.heap.size<=w.heap.size:=hkw.size;have KS:Keep (λb=>b=BB∨b=mb) w3 wz:=((HK4.out.mono (S':=λb=>b=BB∨b=mb) (λi hi h=> .inl h)).trans (KJ.out.mono (S':=λb=>b=BB∨b=mb) (λi hi h=> .inr h)) (λi hi h=>h)).trans (HKz.out.mono (S':=λb=>b=BB∨b=mb) (λi hi h=> .inl h)) (λi hi h=>h);have hv3:=Hv1.out.oz Uk.out;have hm3:=HMm.out.keep Uk.out (λx=>x);have hvz:=hv3.out KS (λb hb e=>by
        rcases e with e|e
        ·rw[e]at hb;exact En hv3 HB3.out hb
        ·rw[e]at hb;exact Eo hv3 hm3 hb) (λb hb e=>by have:=HBB.out;have:=Hmb.out;rcases e with e|e<;>omega)
       have hw3:=(HM2.out.keep KR.out (λx=>x)).keep Uk.out (λx=>x);have zfI:=hw3.keep KS (λe=>by
        rcases e with e|e
        ·exact hw3.row_ne HB3.out e
        ·have:=Hmb.out;have:=Hwb.out;omega)
       have znX:=Hmo.out.keep HKz.out (λe=>Hmo.out.row_ne HBj.out e);have hNz:∀p∈zI L,uO wz p.2:=λp hp=>(HNj.out p hp).keep HKz.out (λb c t f h hh=>(HBj.out.other b c t f h hh).int);refine⟨?_,(HKw.out.nK Uk.out).trans KS (λi hi e=>by have:=HBB.out;have:=Hmb.out;rcases e with e|e<;>omega)⟩;unfold zW;rw[aB Hne.out,zcD.out,Hpt.out];refine⟨BB,B,mb,wb,C',j,zI L,rfl,by have:=HBB.out;omega,by have:=Hmb.out;omega,by have:=Hwb.out;omega,hB,by omega,hvz,HBz.out,⟨znX,zfI,by have:=Hmb.out;have:=Hwb.out;omega,hNz,(λp hp=>by cases hp)⟩,HCz.out,?_⟩;simp[vU,rQ,zI,Function.comp_def,nZ]
theorem UC{X T:List af}(hT:T.length=32):textsOf X (qG T 32)=T:=by refine RD ⟨#[]⟩ ((AU _ _).trans hT.symm) λi hi=> ?_;rw[AU]at hi;rw[Jn _ _ i hi,AL (um T 32) (ET.2 ⟨i,hi,rfl⟩)];rfl
theorem zd5{L:List vO}{p:vO}(h:p∈L):(p.1,nZ p.2)∈vU L:=bf.2 ⟨p,h,rfl⟩
theorem Y0{L:List vO}{N:List (af×pR)}{nS:Int}(e:vU L=N)(hl:N.length<=60)(hN:∀p∈N,p.1=p.2.1∧qM p.2 nS=true):
  Ce L∧(∀p∈L,p.1=p.2.name)∧∀p∈L,yT p.2.ns∧(p.2.ns.length:Int)=nS:=by
 have hb:∀p∈L,p.1=p.2.name∧nameB p.2.name=true∧(p.2.ns.length:Int)=nS∧p.2.ns.any BD=false∧1<=nS∧nS<=8:=λp hp=>by have h:=hN (p.1,nZ p.2) (by rw[<-e];exact zd5 hp);have h6:=h.2;simp only[qM,nZ,aZ,dP,aS,eY]at h6;exact⟨h.1,h6.1.1.1.1.1,gy h6.1.2,h6.2,h6.1.1.1.2,h6.1.1.2⟩
 have hnum:∀p∈L,yT p.2.ns:=λp hp n hn=>by have h7:=(hb p hp).2.2.2.1;rw[je]at h7;have:=h7 n hn;simp only[BD,dP,aS,not_or]at this;omega
 refine⟨⟨?_,λp hp=> ?_,λp hp=> ?_,λp hp=> ?_,hnum⟩,λp hp=>(hb p hp).1,λp hp=>⟨hnum p hp,(hb p hp).2.2.1⟩⟩
 ·have:=dK List.length e;rw[vU,CE]at this;omega
 ·rw[(hb p hp).1];have:=CP (hb p hp).2.1;omega
 ·have:=(hb p hp).2.2.1;have:=(hb p hp).2.2.2.2.1;omega
 ·have:=(hb p hp).2.2.1;have:=(hb p hp).2.2.2.2.2;omega
theorem Ed.shape{b:oZ}(h:Ed b){L:List vO}(e:vU L=b.now):Ce L∧(∀p∈L,p.1=p.2.name)∧∀p∈L,yT p.2.ns∧(p.2.ns.length:Int)=b.nS:=Y0 e h.len h.now
theorem Ed.shape2{b:oZ}(h:Ed b){L:List vO}{W:List wF}(e:vU L=b.now)(e2:plainW W=b.wait):Ce (qC L (sK W))∧(∀p∈qC L (sK W),p.1=p.2.name)∧∀p∈qC L (sK W),yT p.2.ns∧(p.2.ns.length:Int)=b.nS:=
 Y0 (N:=b.next) (by rw[ES,e,e2];rfl) h.zaN h.Xf
structure zV(w0 w:World)(P:Nat->Prop)(BB D C:Nat)(V:nT)(d:pG)(n:Int)(b:oZ)(k B S:Nat)(wv:Value)(mb wb CC nm nw:Nat)(L:List vO)(W:List wF):Prop where
 vn:VN w0 w B D C S wv V d n
 row:rZ w BB B b.nS mb wb CC
 rd:Au w mb wb nm nw L W
 cs:BA w CC b.nS L
 en:vU L=b.now
 ew:plainW W=b.wait
 ok:Ed b
 room:nm+nw<=k
 blocks:∀x,P x↔(VB B D C S wv x∨x=BB∨x=wb)
 MR:w0.heap.size<=BB
 WC:w0.heap.size<=wb
def pq(w0 w:World)(P:Nat->Prop)(BB D C:Nat)(V:nT)(d:pG)(n:Int)(b:oZ)(k:Nat):Prop:=
 ∃B S wv mb wb CC nm nw L W,zV w0 w P BB D C V d n b k B S wv mb wb CC nm nw L W
def Grow(w:World)(P P':Nat->Prop):Prop:=∀x,P' x->P x∨w.heap.size<=x
theorem Grow.refl(w:World)(P:Nat->Prop):Grow w P P:=λx h=> .inl h
section
variable {w0 w w':World}{P:Nat->Prop}{BB D C:Nat}{V:nT}{d:pG}{n:Int}{b:oZ}{k:Nat}{B S:Nat}{wv:Value}{mb wb CC nm nw:Nat}{L:List vO}{W:List wF}
theorem zV.oz(h:zV w0 w P BB D C V d n b k B S wv mb wb CC nm nw L W)(hk:Keep nM w w'):zV w0 w' P BB D C V d n b k B S wv mb wb CC nm nw L W:=
 ⟨h.vn.oz hk,h.row.oz hk,h.rd.oz hk,h.cs.oz hk,h.en,h.ew,h.ok,h.room,h.blocks,h.MR,h.WC⟩
theorem pq.oz(h:pq w0 w P BB D C V d n b k)(hk:Keep nM w w'):pq w0 w' P BB D C V d n b k:=by obtain⟨B,S,wv,mb,wb,CC,nm,nw,L,W,h⟩:=h;exact⟨B,S,wv,mb,wb,CC,nm,nw,L,W,h.oz hk⟩
theorem pq.ok(h:pq w0 w P BB D C V d n b k):Ed b:=by obtain⟨B,S,wv,mb,wb,CC,nm,nw,L,W,h⟩:=h;exact h.ok
theorem pq.keep(h:pq w0 w P BB D C V d n b k):Keep nM w0 w:=by obtain⟨B,S,wv,mb,wb,CC,nm,nw,L,W,h⟩:=h;exact h.vn.keep
theorem pq.new(h:pq w0 w P BB D C V d n b k):∀x,P x->w0.heap.size<=x:=by
 obtain⟨B,S,wv,mb,wb,CC,nm,nw,L,W,h⟩:=h;intro x hx;rcases(h.blocks x).1 hx with hx|rfl|rfl
 ·exact h.vn.own x hx
 ·exact h.MR
 ·exact h.WC
theorem pq.more(h:pq w0 w P BB D C V d n b k){k':Nat}(hk:k<=k'):pq w0 w P BB D C V d n b k':=by obtain⟨B,S,wv,mb,wb,CC,nm,nw,L,W,h⟩:=h;exact⟨B,S,wv,mb,wb,CC,nm,nw,L,W,{ h with room:=bH h.room hk }⟩
theorem zV.VY(h:zV w0 w P BB D C V d n b k B S wv mb wb CC nm nw L W){X:Nat->Prop}(hk:Keep X w w')(hX:wS w X)(h1:∀x,P x->¬X x)(h2:¬X mb)(h3:∀x,x<w0.heap.size->¬X x):zV w0 w' P BB D C V d n b k B S wv mb wb CC nm nw L W:=
 ⟨h.vn.out hk (λx hx=>h1 x ((h.blocks x).2 (.inl hx))) h3,h.row.keep hk (h1 BB ((h.blocks BB).2 (.inr (.inl rfl)))),h.rd.keep hk hX h2 (h1 wb ((h.blocks wb).2 (.inr (.inr rfl)))),h.cs.keep hk hX,h.en,h.ew,h.ok,h.room,h.blocks,h.MR,h.WC⟩
theorem zV.waited(h:zV w0 w P BB D C V d n b k B S wv mb wb CC nm nw L W)(hk:Keep (nY wb) w w'){b':oZ}{nw':Nat}{W':List wF}(hw:oJ w' wb nw' (rQ Prod.fst W'))(hp:∀p∈W',Jh w' p.2.1 (p.2.2.map uN)∧∀x,p.2.2=some x->uO w' x)
  (hd:b'.nS=b.nS) (hn:b'.now=b.now) (he:plainW W'=b'.wait) (hok:Ed b') {k':Nat} (hr:nm+nw'<=k'):zV w0 w' P BB D C V d n b' k' B S wv mb wb CC nm nw' L W':=by
 have hO:=Iy h.rd.wait;have hvb:=Eo h.vn h.rd.wait;have hne:BB≠wb:=λe=>h.rd.wait.row_ne h.row e.symm;exact⟨h.vn.out hk (λx hx e=>by have h1:x=wb:=e;rw[h1]at hx;exact hvb hx) (λx hx e=>by have h1:x=wb:=e;have:=h.WC;omega),by rw[hd];exact h.row.keep hk hne,
  ⟨h.rd.now.keep hk h.rd.apart,hw,h.rd.apart,λp hp=>(h.rd.items p hp).keep hk (λb c t f hs hh=>(hO b c t f hs hh).int),hp⟩,by rw[hd];exact h.cs.keep hk hO,by rw[hn];exact h.en,he,hok,hr,h.blocks,h.MR,h.WC⟩
theorem zV.RI(h:zV w0 w P BB D C V d n b k B S wv mb wb CC nm nw L W)(hk:Keep (nY wb) w w'):∀p∈W,Jh w' p.2.1 (p.2.2.map uN)∧∀x,p.2.2=some x->uO w' x:=λp hp=>by have hO:=Iy h.rd.wait;exact⟨(h.rd.waits p hp).1.zjA hk hO,λx hx=>((h.rd.waits p hp).2 x hx).keep hk (λb c t f hs hh=>(hO b c t f hs hh).int)⟩
theorem zjw(h:pq w0 w P BB D C V d n b k)(hk:k<900000)(x:oK)(N:Nums w x.av x.ns)(hl:x.ns.length<=1000000):
  ae 81 #[.pointer (some ⟨BB,0,none⟩),uN x] w λe w'=>e= .returned (errVal (xY b (nZ x)).1)∧pq w0 w' P BB D C V d n (xY b (nZ x)).2 (k+1)∧Keep P w w':=by
 obtain⟨B,S,wv,mb,wb,CC,nm,nw,L,W,h⟩:=h;by_cases h0:b.nS=0
 ·have hrow:=h.row;rw[h0]at hrow;refine(U1 x hrow).mono ?_;rintro e w' ⟨rfl,K⟩;have e1:xY b (nZ x)=(6,b):=by rw[xY,aP h0]
  rw[e1];exact⟨rfl,pq.more ⟨B,S,wv,mb,wb,CC,nm,nw,L,W,h.oz K⟩ (ik k),K.vN⟩
 ·refine(zaH x N hl h.row h.rd (by have:=h.room;omega) h0).mono ?_;rintro e w' hs;unfold PutSaid at hs;have hnx:vU (qC L (sK W))=b.next:=by rw[ES,h.en,h.ew];rfl
  have hgn:qQ b.next x.name=(qQ (qC L (sK W)) x.name).map nZ:=by rw[<-hnx];exact Rx nZ _ _
  have hln:b.next.length=(qC L (sK W)).length:=by rw[<-hnx,vU,CE]
  split at hs
  ·rename_i hx;obtain⟨rfl,K⟩:=hs;have e1:xY b (nZ x)=(1,b):=by rw[xY,aB h0,aP (show qM (nZ x) b.nS=false from hx)]
   rw[e1];exact⟨rfl,pq.more ⟨B,S,wv,mb,wb,CC,nm,nw,L,W,h.oz K⟩ (ik k),K.vN⟩
  ·rename_i hx;split at hs
   ·rename_i hf;obtain⟨rfl,K⟩:=hs;have e1:xY b (nZ x)=(12,b):=by
     rw[xY,aB h0,aB (show¬qM (nZ x) b.nS=false from hx),aP];exact⟨by show qQ b.next x.name=none;rw[hgn,hf.1];rfl,by rw[hln];exact hf.2⟩
    rw[e1];exact⟨rfl,pq.more ⟨B,S,wv,mb,wb,CC,nm,nw,L,W,h.oz K⟩ (ik k),K.vN⟩
   ·rename_i hf;obtain⟨rfl,K,X,av,hX,hm,hXh,hN⟩:=hs;have e1:xY b (nZ x)=(0,{ b with wait:=xN b.wait x.name (some (nZ x)) }):=by
     rw[xY,aB h0,aB (show¬qM (nZ x) b.nS=false from hx),aB]
     ·rfl
     ·rintro⟨h1,h2⟩;refine hf ⟨?_,by rw[<-hln];exact h2⟩;have h1:qQ b.next x.name=none:=h1;rw[hgn]at h1;cases hq:qQ (qC L (sK W)) x.name with
      | none=>rfl
      | some y=>rw[hq]at h1;cases h1
    have hok:=h.ok.put (nZ x);rw[e1]at hok⊢;have hO:=Iy h.rd.wait;refine⟨rfl,⟨B,S,wv,mb,wb,CC,nm,nw+1,L,_,h.waited (b':= { b with wait:=xN b.wait x.name (some (nZ x)) }) (k':=k+1) K hm (λp hp=> ?_) rfl rfl ?_ hok (by have:=h.room;omega)⟩,K.mono (λi hi e=>by have h1:i=wb:=e;rw[h1];exact(h.blocks wb).2 (.inr (.inr rfl)))⟩
    ·rcases Gw hp with rfl|hp
     ·refine⟨⟨X,.string x.name,.string x.tag,av,(0,0),rfl,rfl,hXh⟩,λy hy=> ?_⟩;obtain rfl:=aH hy;exact hN
     ·exact h.RI K p hp.1
    ·rw[SC,h.ew];rfl
theorem zn7(h:pq w0 w P BB D C V d n b k)(hk:k<900000)(q:af)(hq:q.size<=maxLen):
  ae 71 #[.pointer (some ⟨BB,0,none⟩),.string q] w λe w'=>e= .returned (errVal (C9 b q).1)∧pq w0 w' P BB D C V d n (C9 b q).2 (k+1)∧Keep P w w':=by
 obtain⟨B,S,wv,mb,wb,CC,nm,nw,L,W,h⟩:=h;refine(zaI q hq h.row h.rd (by have:=h.room;omega)).mono ?_;rintro e w' hs;unfold DelSaid at hs;have hnx:vU (qC L (sK W))=b.next:=by rw[ES,h.en,h.ew];rfl
 have hgn:qQ b.next q=(qQ (qC L (sK W)) q).map nZ:=by rw[<-hnx];exact Rx nZ _ _
 split at hs
 ·rename_i hf;obtain⟨rfl,K⟩:=hs;have e1:C9 b q=(7,b):=by rw[C9,aP (by rw[hgn,hf];rfl)]
  rw[e1];exact⟨rfl,pq.more ⟨B,S,wv,mb,wb,CC,nm,nw,L,W,h.oz K⟩ (ik k),K.vN⟩
 ·rename_i hf;obtain⟨rfl,K,hm⟩:=hs;have e1:C9 b q=(0,{ b with wait:=xN b.wait q none }):=by
   rw[C9,aB];intro h1;rw[hgn]at h1;cases hx:qQ (qC L (sK W)) q with
   | none=>exact hf hx
   | some y=>rw[hx]at h1;cases h1
  have hok:=h.ok.del q;rw[e1]at hok⊢;refine⟨rfl,⟨B,S,wv,mb,wb,CC,nm,nw+1,L,_,h.waited (b':= { b with wait:=xN b.wait q none }) (k':=k+1) K hm (λp hp=> ?_) rfl rfl ?_ hok (by have:=h.room;omega)⟩,K.mono (λi hi e=>by have h1:i=wb:=e;rw[h1];exact(h.blocks wb).2 (.inr (.inr rfl)))⟩
  ·rcases Gw hp with rfl|hp
   ·exact⟨rfl,λy hy=>by cases hy⟩
   ·exact h.RI K p hp.1
  ·rw[SC,h.ew];rfl
theorem wS.mono{w:World}{S S':Nat->Prop}(h:wS w S)(hs:∀x,S' x->S x):wS w S':=λb c t f hb hh=>h b c t f (hs b hb) hh
theorem zlh(h:pq w0 w P BB D C V d n b k):
  ae 84 #[.pointer (some ⟨BB,0,none⟩)] w λe w'=>e= .returned (.tuple #[])∧(∃P',pq w0 w' P' BB D C V d n (Om b) k∧Grow w P P')∧Keep P w w':=by
 obtain⟨B,S,wv,mb,wb,CC,nm,nw,L,W,h⟩:=h;refine(Me h.row).mono ?_;rintro e w' ⟨rfl,hB,hM,K⟩;have hO:=h.row.other;have hsz:w0.heap.size<=w.heap.size:=h.vn.keep.size;have hlt:=h.row.lt;have hN:zV w0 w' (λx=>VB B D C S wv x∨x=BB∨x=w.heap.size) BB D C V d n (Om b) k B S wv mb w.heap.size CC nm 0 L []:=
  ⟨h.vn.out K (λx hx e=>by have h1:x=BB:=e;rw[h1]at hx;exact En h.vn h.row hx) (λx hx e=>by have h1:x=BB:=e;have:=h.MR;omega),hB,
   ⟨h.rd.now.keep K (λe=>h.rd.now.row_ne h.row e),hM,by have:=h.rd.now.lt;omega,λp hp=>(h.rd.items p hp).keep K (λb c t f hs hh=>(hO b c t f hs hh).int),(λp hp=>by cases hp)⟩,
   h.cs.keep K hO,h.en,rfl,h.ok.zow,by have:=h.room;omega,λx=>kU,h.MR,hsz⟩
 refine⟨rfl,⟨_,⟨B,S,wv,mb,w.heap.size,CC,nm,0,L,[],hN⟩,λx hx=> ?_⟩,K.mono (λi hi e=>(h.blocks i).2 (.inr (.inl e)))⟩;rcases hx with hx|rfl|rfl
 ·exact .inl ((h.blocks x).2 (.inl hx))
 ·exact .inl ((h.blocks x).2 (.inr (.inl rfl)))
 ·exact .inr (aF _)
theorem Qq(h:pq w0 w P BB D C V d n b k):
  ae 69 #[.pointer (some ⟨BB,0,none⟩)] w λe w'=>e= .returned (.int .i64 V.now.count)∧Keep nM w w':=by
 obtain⟨B,S,wv,mb,wb,CC,nm,nw,L,W,h⟩:=h;exact U3 h.row h.vn.yX
theorem zi0(h:pq w0 w P BB D C V d n b k):
  ae 78 #[.pointer (some ⟨BB,0,none⟩)] w λe w'=>(∃(v:Value) (l:List oK),e= .returned v∧nV w' w.heap.size 101 3 v l.length (l.flatMap pO)∧l.map nZ=o9 b.now∧∀x∈l,uO w' x)∧Keep nM w w':=by
 obtain⟨B,S,wv,mb,wb,CC,nm,nw,L,W,h⟩:=h;have hs:=h.ok.shape h.en;refine(Jb h.row h.rd.now h.rd.items hs.1).mono ?_;rintro e w' ⟨⟨v,l,he,ho⟩,K⟩;refine⟨⟨v,l,he,ho.row,?_,ho.nums⟩,K⟩;rw[ho.same,<-h.en,GR]
theorem zgg(h:pq w0 w P BB D C V d n b k){va:Value}{at_:List Int}(N:Nums w va at_)(ha:at_.length<=1000000)(q:Int)(tag:af)(ht:tag.size<=1000000):
  ae 74 #[.pointer (some ⟨BB,0,none⟩),va,.int .i64 q,.string tag] w λe w'=>tJ w w' b.nS (o9 b.now) at_ q tag e∧Keep nM w w':=by
 obtain⟨B,S,wv,mb,wb,CC,nm,nw,L,W,h⟩:=h;have hs:=h.ok.shape h.en;have hf:=X9 h.row h.cs hs.1.few h.ok.eight (λp hp=>⟨(hs.2.2 p hp).1,by have:=(hs.2.2 p hp).2;omega⟩) N ha q tag ht
 rwa [show(L.map λp=>nZ p.2)=o9 b.now by rw[<-h.en,GR]]at hf
theorem zlx(h:pq w0 w P BB D C V d n b k)(q:Int):
  ae 80 #[.pointer (some ⟨BB,0,none⟩),.int .i64 q] w λe w'=>e= .returned (errVal (vZ b q).1)∧pq w0 w' P BB D C V d n (vZ b q).2 k∧Keep P w w':=by
 obtain⟨B,S,wv,mb,wb,CC,nm,nw,L,W,h⟩:=h;by_cases h0:b.nS=0
 ·by_cases hq:q<1∨8<q
  ·have hrow:=h.row;rw[h0]at hrow;refine(X7 q hrow hq).mono ?_;rintro e w' ⟨rfl,K⟩;have e1:vZ b q=(1,b):=by rw[vZ,aB (by omega),aP hq]
   rw[e1];exact⟨rfl,⟨B,S,wv,mb,wb,CC,nm,nw,L,W,h.oz K⟩,K.vN⟩
  ·have hrow:=h.row;rw[h0]at hrow;have hL:L= []:=by
    have h1:=h.en;rw[(h.ok.zero h0).1]at h1;have:=dK List.length h1;rw[vU,CE]at this;exact aU this
   have zh6:=h.rd.now;rw[hL]at zh6;refine(X8 q hrow zh6 (by omega)).mono ?_;rintro e w' ⟨rfl,⟨C',hB,hC⟩,K⟩;have e1:vZ b q=(0,{ b with nS:=q.toNat }):=by rw[vZ,aB (by omega),aB hq]
   have hok:=h.ok.make q;rw[e1]at hok⊢;have hO:=h.row.other;refine⟨rfl,⟨B,S,wv,mb,wb,C',nm,nw,L,W,⟨h.vn.out K (λx hx e=>by have h1:x=BB:=e;rw[h1]at hx;exact En h.vn h.row hx) (λx hx e=>by have h1:x=BB:=e;have:=h.MR;omega),hB,h.rd.setRow h.row K,by rw[hL];exact hC,h.en,h.ew,hok,h.room,h.blocks,h.MR,h.WC⟩⟩,K.mono (λi hi e=>(h.blocks i).2 (.inr (.inl e)))⟩
 ·refine(Ub q h.row h0).mono ?_;rintro e w' ⟨rfl,K⟩;have e1:vZ b q=(6,b):=by rw[vZ,aP h0]
  rw[e1];exact⟨rfl,⟨B,S,wv,mb,wb,CC,nm,nw,L,W,h.oz K⟩,K.vN⟩
end
theorem zb9{N:List (af×pR)}(h:∀p∈N,p.1=p.2.1):(o9 N).map (λx=>(x.1,x))=N:=by
 unfold o9;rw[fU]
 conv=>rhs;rw[<-List.map_id N]
 refine iP λp hp=> ?_;show(p.2.1,p.2)=p;rw[<-h p hp]
theorem zad{b:oZ}(h:Ed b)(T:List af):Ed (Az b T):=by
 unfold Az;split
 ·exact⟨List.Pairwise.nil,List.Pairwise.nil,(λp hp=>by cases hp),(λp hp=>by cases hp),by simp,by simp[oZ.next,qC],λ_=>⟨rfl,rfl⟩,by simp⟩
 ·exact⟨h.rn,List.Pairwise.nil,h.now,(λp hp=>by cases hp),h.len,h.len,λe=>⟨(h.zero e).1,rfl⟩,h.eight⟩
section
variable {w0 w w':World}{P:Nat->Prop}{BB D C:Nat}{V:nT}{d:pG}{n':Int}{b:oZ}{k:Nat}{B S:Nat}{wv:Value}{mb wb CC nm nw:Nat}{L:List vO}{W:List wF}
theorem zaG{nS:Nat}(hB:rZ w BB B nS mb wb CC){R:Value->World->Prop}(hT:ae 124 #[.pointer (some ⟨B,0,none⟩)] w λe w'=>∃v,e= .returned v∧R v w'):
  ae 83 #[.pointer (some ⟨BB,0,none⟩)] w λe w'=>∃v,e= .returned v∧R v w':=by
 have b0:=hB.cell0;have HT:=ag hT;clear hT;go_enter Tryz.func83,Tryz.ntmps83;go_wp2_with fail;refine HT.out.mono ?_;rintro e w1 ⟨v,rfl,hR⟩;have HR:=ag hR;clear hR HT;go_wp2_with fail;go_ret;exact⟨v,rfl,HR.out⟩
theorem Oj(hB:rZ w BB B 0 mb wb CC):
  ae 68 #[.pointer (some ⟨BB,0,none⟩)] w λe w'=>e= .returned (errVal 6)∧Keep nM w w':=by
 have b1:=hB.cell1;go_enter Tryz.func68,Tryz.ntmps68;go_wp2_with fail;go_ret;exact⟨rfl,ah _ _⟩
theorem zlw(hd:qi w D S wv d)(hkw:Keep nM w0 w)(hown:∀b,qg D S wv b∨b=C->w0.heap.size<=b){n:Nat}(hc:oL w C n)(hn:n<1000000)(hb:∀i,i<66->(d.now.getD i ⟨#[]⟩).size=256){secret:af}(hs:secret.size=16)(R:oG w0)(IV:wK w0){m:Int}(ho:yS secret d.now n=some (V,m))
  (hT:V.texts.length=32) (ht:∀s∈V.texts,s.size<=200) (hok:Ed b) (hsaid:Said V.texts b):
  ae 28 #[.pointer (some ⟨D,0,none⟩),.pointer (some ⟨C,0,none⟩),.string secret] w λe w'=>(∃BB P',e= .returned (.tuple #[.pointer (some ⟨BB,0,none⟩),.nilIface])∧pq w0 w' P' BB D C V d m (Az b V.texts) 60∧∀x,P' x->qg D S wv x∨x=C∨w.heap.size<=x)∧Keep (nY C) w w':=by
 refine(MC hd hkw hown hc hn hb hs R IV ho hT ht).mono ?_;rintro e w' ⟨h,K⟩;refine⟨?_,K⟩;have zoU:=zad hok V.texts;have fin:∀(nS:Nat) (l:List pR),Az b V.texts=⟨nS,l.map (λx=>(x.1,x)),[]⟩->Qu w0 w w' D C S wv V d m nS l e->∃BB P',e= .returned (.tuple #[.pointer (some ⟨BB,0,none⟩),.nilIface])∧pq w0 w' P' BB D C V d m (Az b V.texts) 60∧∀x,P' x->qg D S wv x∨x=C∨w.heap.size<=x:=by
  intro nS l hbe ⟨BB,B,mb,wb,CC,nm,L,he,h1,h2,h3,h4,h5,hv,hB,hR,hC,hL⟩;have hws:=hkw.size;refine⟨BB,λx=>VB B D C S wv x∨x=BB∨x=wb,he,⟨B,S,wv,mb,wb,CC,nm,0,L,[],⟨hv,by rw[hbe];exact hB,hR,by rw[hbe];exact hC,by rw[hbe];exact hL,by rw[hbe];rfl,zoU,by omega,λx=>kU,by omega,by omega⟩⟩,λx hx=> ?_⟩;rcases hx with(hx|hx|hx)|hx|hx
  ·exact .inl hx
  ·exact .inr (.inr (by omega))
  ·exact .inr (.inl hx)
  ·exact .inr (.inr (by omega))
  ·exact .inr (.inr (by omega))
 unfold zW at h;split at h
 ·rename_i hj;refine fin 0 [] ?_ h;rw[Az,aP hj];rfl
 ·rename_i hj;rcases hsaid with⟨h1,_⟩|⟨h1,h2⟩
  ·exact absurd h1 hj
  ·have hpp:=OU (VE h1 hok.eight hok.rn hok.len hok.now);rw[<-h2]at hpp;rw[hpp]at h;refine fin b.nS (o9 b.now) ?_ (by simpa using h);rw[Az,aB hj,zb9 (λp hp=>(hok.now p hp).1)]
end
def tK(V:nT)(d:pG)(n:Int):Told:=vY V d n (V.now.nP+1) (qE (qG V.texts 32) (λ_=>true))
def pX(V:nT)(d:pG)(n:Int)(b:oZ):Told:=vY V d n V.now.nP (qE (qG (uz (Bj b)) 32) (y8 V))
def Ad(T:List af):Option oZ:=
 if Df T= []then some ⟨0,[],[]⟩else match x8 (Df T)with
  | some (nS,l)=>some ⟨nS.toNat,l.map λx=>(x.1,x),[]⟩
  | none=>none
theorem zbU{T:List af}{b:oZ}(h:Ad T=some b):Ed b:=by
 unfold Ad at h;split at h
 ·obtain rfl:=aH h;exact⟨List.Pairwise.nil,List.Pairwise.nil,(λp hp=>by cases hp),(λp hp=>by cases hp),by simp,by simp[oZ.next,qC],λ_=>⟨rfl,rfl⟩,by simp⟩
 ·split at h
  ·rename_i nS l hp;obtain rfl:=aH h;have hb:=(OV hp).1;simp only[qJ,aZ,aS]at hb;obtain⟨⟨⟨⟨h1,h2⟩,h3⟩,h4⟩,h5⟩:=hb;have hd:((nS.toNat:Nat):Int)=nS:=by omega
   have hr:rX (l.map λx=>(x.1,x)):=by unfold rX;rw[dR];exact Jp h5
   refine⟨hr,List.Pairwise.nil,λp hp=> ?_,(λp hp=>by cases hp),by rw[aI];exact h3,by show(qC _ []).length<=60;show(l.map _).length<=60;rw[aI];exact h3,λe=> ?_,by show nS.toNat<=8;omega⟩
   ·obtain⟨x,hx,rfl⟩:=bf.1 hp;exact⟨rfl,by show qM x (nS.toNat:Int)=true;rw[hd];exact gQ.1 h4 x hx⟩
   ·have e:nS.toNat=0:=e;omega
  ·cases h
theorem OW(b:oZ):(∀s∈uz (Bj b),s.size<=200)∧(uz (Bj b)).length=32:=by refine⟨λs hs=> ?_,by simp[uz]⟩;obtain⟨i,_,rfl⟩:=bf.1 hs;exact GY _ i
theorem OZ(M:List Entry)(o:Entry->Bool):(qE M o).length<=M.length:=by rw[qE,aI,Aj,kz,aI];exact iq ..
theorem zgu{M:Nat}{N:Int}{V:nT}{d:pG}{n:Int}(hV:Qv N V)(h:vC M d):Qv (N+1) (tK V d n).v∧vC (M+33) (tK V d n).dev∧((tK V d n).n=n∨(tK V d n).n=V.now.count+1):=by
 have hw:=CO (o:=λ_=>true) (um V.texts 32) (vS hV.t200 hV.texts);have hl:=OZ (qG V.texts 32) (λ_=>true);have hl2:(qG V.texts 32).length=32:=by simp[qG]
 obtain⟨h1,h2,h3⟩:=YS (n:=n) (ep:=V.now.nP+1) hV h hw.small;exact⟨h1,h2.mono (by omega),h3⟩
theorem zco{M:Nat}{N:Int}{V:nT}{d:pG}{n:Int}(b:oZ)(hV:Qv N V)(h:vC M d):Qv (N+1) (pX V d n b).v∧vC (M+33) (pX V d n b).dev∧((pX V d n b).n=n∨(pX V d n b).n=V.now.count+1):=by
 obtain⟨p1,p2⟩:=OW b;have hw:=CO (o:=y8 V) (um (uz (Bj b)) 32) (vS p1 p2);have hl:=OZ (qG (uz (Bj b)) 32) (y8 V);have hl2:(qG (uz (Bj b)) 32).length=32:=by simp[qG]
 obtain⟨h1,h2,h3⟩:=YS (n:=n) (ep:=V.now.nP) hV h hw.small;exact⟨h1,h2.mono (by omega),h3⟩
section
variable {w0 w w':World}{P:Nat->Prop}{BB D C:Nat}{V:nT}{d:pG}{n:Int}{b:oZ}{k:Nat}
theorem ziF(h:pq w0 w P BB D C V d n b k){N:Int}(hV:Qv N V)(hN:N<1000000)(hw:d.wait.length<=800000)(R:oG w0):
  ae 83 #[.pointer (some ⟨BB,0,none⟩)] w λe w'=>e= .returned (errVal (tK V d n).err)∧(∃P',pq w0 w' P' BB D C (tK V d n).v (tK V d n).dev (tK V d n).n b k∧Grow w P P')∧Keep P w w':=by
 obtain⟨B,S,wv,mb,wb,CC,nm,nw,L,W,h⟩:=h;refine(zaG (R:=λv w'=>v=errVal (tK V d n).err∧(∃wv',zL w wv wv'∧VN w0 w' B D C S wv' (tK V d n).v (tK V d n).dev (tK V d n).n)∧Keep (VB B D C S wv) w w') h.row ((zli h.vn hV hN hw R).mono ?_)).mono ?_
 ·rintro e w' ⟨⟨he,hm⟩,K⟩;exact⟨_,he,rfl,hm,K⟩
 ·rintro e w' ⟨v,rfl,rfl,⟨wv',hm,hv⟩,K⟩;have KP:Keep P w w':=K.mono λi _ hx=>(h.blocks i).2 (.inl hx);refine⟨rfl,⟨λx=>VB B D C S wv' x∨x=BB∨x=wb,⟨B,S,wv',mb,wb,CC,nm,nw,L,W,⟨hv,h.row.keep K (En h.vn h.row),h.rd.keep K (Ci h.vn) (Eo h.vn h.rd.now) (Eo h.vn h.rd.wait),h.cs.keep K (Ci h.vn),h.en,h.ew,h.ok,h.room,λx=>kU,h.MR,h.WC⟩⟩,λx hx=> ?_⟩,KP⟩;rcases hx with hx|hx|hx
  ·exact(Gp hm x hx).imp (λhx=>(h.blocks x).2 (.inl hx)) (λhx=>hx)
  ·exact .inl ((h.blocks x).2 (.inr (.inl hx)))
  ·exact .inl ((h.blocks x).2 (.inr (.inr hx)))
theorem zeW(h:pq w0 w P BB D C V d n b k)(hk:k<900000)(h0:b.nS≠0){N:Int}(hV:Qv N V)(hN:N<1000000)(hw:d.wait.length<=800000)(R:oG w0)(PV:uH w0):
  ae 68 #[.pointer (some ⟨BB,0,none⟩)] w λe w'=>e= .returned (errVal (pX V d n b).err)∧(∃P',pq w0 w' P' BB D C (pX V d n b).v (pX V d n b).dev (pX V d n b).n (if (pX V d n b).err=0 then Ot b else b) k∧Grow w P P')∧Keep P w w':=by
 obtain⟨B,S,wv,mb,wb,CC,nm,nw,L,W,h⟩:=h;have hnx:vU (qC L (sK W))=b.next:=by rw[ES,h.en,h.ew];rfl
 have hpi:(qC L (sK W)).map (λp=>nZ p.2)=o9 b.next:=by rw[<-hnx,GR]
 have zoS:=h.ok.print (by omega);have hs2:=h.ok.shape2 h.en h.ew;have hro:=h.room;refine(Ya h.row h.rd h.vn h.MR hV hN hw R PV hs2.1 (by rw[hpi];exact zoS) (by omega)).mono ?_;rintro e w' ⟨ht,K⟩;rw[hpi]at ht;have htb:(⟨(uT b.nS (o9 b.next)).toArray⟩:af)=Bj b:=rfl;rw[htb]at ht;have KP:Keep P w w':=K.mono λi _ hx=>(h.blocks i).2 (hx.imp (λx=>x) (λx=> .inl x));obtain⟨wv',hm,hv,he,hok,hbad⟩:=ht;obtain⟨t,ht⟩:∃t,t=pX V d n b:=⟨_,rfl⟩
 have ht2:t=vY V d n V.now.nP (qE (qG (uz (Bj b)) 32) (y8 V)):=ht;rw[<-ht2]at hv he hok hbad;rw[<-ht];have hws:=h.vn.keep.size;refine⟨he,?_,KP⟩;by_cases h1:t.err=0
 ·obtain⟨mb',wb',CC',nm',h1',h2,h3,hB',hR',hC'⟩:=hok h1;rw[aP h1];refine⟨λx=>VB B D C S wv' x∨x=BB∨x=wb',⟨B,S,wv',mb',wb',CC',nm',0,_,[],⟨hv,hB',hR',hC',hnx,rfl,h.ok.done,by omega,λx=>kU,h.MR,by omega⟩⟩,λx hx=> ?_⟩;rcases hx with hx|hx|hx
  ·exact(Gp hm x hx).imp (λhx=>(h.blocks x).2 (.inl hx)) (λhx=>hx)
  ·exact .inl ((h.blocks x).2 (.inr (.inl hx)))
  ·exact .inr (by omega)
 ·rw[aB h1];have K:=hbad h1;refine⟨λx=>VB B D C S wv' x∨x=BB∨x=wb,⟨B,S,wv',mb,wb,CC,nm,nw,L,W,⟨hv,h.row.keep K (En h.vn h.row),h.rd.keep K (Ci h.vn) (Eo h.vn h.rd.now) (Eo h.vn h.rd.wait),h.cs.keep K (Ci h.vn),h.en,h.ew,h.ok,h.room,λx=>kU,h.MR,h.WC⟩⟩,λx hx=> ?_⟩;rcases hx with hx|hx|hx
  ·exact(Gp hm x hx).imp (λhx=>(h.blocks x).2 (.inl hx)) (λhx=>hx)
  ·exact .inl ((h.blocks x).2 (.inr (.inl hx)))
  ·exact .inl ((h.blocks x).2 (.inr (.inr hx)))
theorem zcP{S:Nat}{wv:Value}(hd:qi w D S wv d)(hkw:Keep nM w0 w)(hown:∀b,qg D S wv b∨b=C->w0.heap.size<=b){n:Nat}(hc:oL w C n)(hn:n<1000000)(hb:∀i,i<66->(d.now.getD i ⟨#[]⟩).size=256){secret:af}(hs:secret.size=16)(R:oG w0)(IV:wK w0){m:Int}(ho:yS secret d.now n=some (V,m)){N:Int}(hV:Qv N V):
  ae 28 #[.pointer (some ⟨D,0,none⟩),.pointer (some ⟨C,0,none⟩),.string secret] w λe w'=>(match Ad V.texts with
   | some b=>∃BB P',e= .returned (.tuple #[.pointer (some ⟨BB,0,none⟩),.nilIface])∧pq w0 w' P' BB D C V d m b 60∧∀x,P' x->qg D S wv x∨x=C∨w.heap.size<=x
   | none=>e= .returned (.tuple #[.pointer none,errVal 15])∧qi w' D S wv d∧oL w' C m)∧Keep (nY C) w w':=by
 refine(MC hd hkw hown hc hn hb hs R IV ho hV.texts hV.t200).mono ?_;rintro e w' ⟨h,K⟩;refine⟨?_,K⟩;have fin:∀(nS:Nat) (l:List pR),Ed ⟨nS,l.map (λx=>(x.1,x)),[]⟩->Qu w0 w w' D C S wv V d m nS l e->∃BB P',e= .returned (.tuple #[.pointer (some ⟨BB,0,none⟩),.nilIface])∧pq w0 w' P' BB D C V d m ⟨nS,l.map (λx=>(x.1,x)),[]⟩ 60∧∀x,P' x->qg D S wv x∨x=C∨w.heap.size<=x:=by
  intro nS l hok ⟨BB,B,mb,wb,CC,nm,L,he,h1,h2,h3,h4,h5,hv,hB,hR,hC,hL⟩;have hws:=hkw.size;refine⟨BB,λx=>VB B D C S wv x∨x=BB∨x=wb,he,⟨B,S,wv,mb,wb,CC,nm,0,L,[],⟨hv,hB,hR,hC,hL,rfl,hok,by omega,λx=>kU,by omega,by omega⟩⟩,λx hx=> ?_⟩;rcases hx with(hx|hx|hx)|hx|hx
  ·exact .inl hx
  ·exact .inr (.inr (by omega))
  ·exact .inr (.inl hx)
  ·exact .inr (.inr (by omega))
  ·exact .inr (.inr (by omega))
 cases ho:Ad V.texts with
 | some b=>
  have hok:=zbU ho;unfold Ad at ho;unfold zW at h;split at ho
  ·rename_i hj;rw[aP hj]at h;obtain rfl:=aH ho;exact fin 0 [] hok h
  ·rename_i hj;rw[aB hj]at h;split at ho
   ·rename_i nS l hp;rw[hp]at h;obtain rfl:=aH ho;exact fin _ _ hok h
   ·cases ho
 | none=>
  unfold Ad at ho;unfold zW at h;split at ho
  ·cases ho
  ·rename_i hj;rw[aB hj]at h;split at ho
   ·cases ho
   ·rename_i hp;rw[hp]at h;exact h
end
structure LawSt(w0 w:World)(P:Nat->Prop)(BB D C:Nat)(V:nT)(d:pG)(n:Nat)(b:oZ)(k zh1 zcv:Nat)(Ln Lt:List vO):Prop where
 base:pq w0 w P BB D C V d n b k
 inv:InvV zoz V d.sure n
 wait:d.wait= []
 said:Said V.texts b
 now:∃q,q<=200∧oJ w zh1 q (rQ uN Ln)
 thn:∃q,q<=200∧oJ w zcv q (rQ uN Lt)
 Je:∀p∈Ln,Nums w0 p.2.av p.2.ns∧p.2.ns.length<=1000000
 yU:∀p∈Lt,Nums w0 p.2.av p.2.ns∧p.2.ns.length<=1000000
 eqN:vU Ln=b.now
 eqT:vU Lt=b.next
 sepN:¬P zh1
 sepT:¬P zcv
 newN:w0.heap.size<=zh1
 newT:w0.heap.size<=zcv
section
variable {w0 w w':World}{P:Nat->Prop}{BB D C:Nat}{V:nT}{d:pG}{n:Nat}{b:oZ}{k zh1 zcv:Nat}{Ln Lt:List vO}
theorem pq.lt(h:pq w0 w P BB D C V d n b k):∀x,P x->x<w.heap.size:=by
 obtain⟨B,S,wv,mb,wb,CC,nm,nw,L,W,h⟩:=h;intro x hx;rcases(h.blocks x).1 hx with hx|rfl|rfl
 ·exact h.vn.lt x hx
 ·exact h.row.lt
 ·exact h.rd.wait.lt
end
def II:oZ:=⟨0,[],[]⟩
theorem ziW:Ed II:=⟨List.Pairwise.nil,List.Pairwise.nil,(λp hp=>by cases hp),(λp hp=>by cases hp),by simp[II],by simp[II,oZ.next,qC],λ_=>⟨rfl,rfl⟩,by simp[II]⟩
structure pM(w:World):Prop where
 rounds:oG w
 items:wK w
 errs:ErrVar w
def ou(n:Int):Value:= .iface 53 (.agg #[.int .i64 n])
theorem Gv(w:World):ae 23 #[.nilIface] w λe w'=>e= .returned (.tuple #[])∧w'=w:=by go_enter Tryz.func23,Tryz.ntmps23;go_wp2_with fail;exact mP (jm rfl _ _ _) rfl ⟨rfl,rfl⟩
theorem sZ(n:Int)(w:World)(hg:ErrVar w):ae 23 #[.iface 51 (.int .i64 n)] w λe w'=>e= .panicked [{ v:=ou n,recovered:=false }]∧Keep nM w w':=by have ht:=zbi n w hg;have Ht:=ag ht;clear ht hg;go_enter Tryz.func23,Tryz.ntmps23;go_wp2_with fail;refine Ht.out.mono ?_;rintro e w' ⟨rfl,K⟩;go_wp2_with fail;exact⟨rfl,rfl,K⟩
theorem pz(p:Option Addr)(k c:Nat)(w:World):ae 11 #[.slice p k c,.int .i64 k] w λe w'=>e= .returned (.tuple #[])∧w'=w:=by go_enter Tryz.func11,Tryz.ntmps11;go_wp2_with fail;exact mP (jm rfl _ _ _) rfl ⟨rfl,rfl⟩
def zeR(D C:Nat)(bv:Value)(secret:af)(iv:Value):Array Value:= #[.pointer (some ⟨D,0,none⟩),.pointer (some ⟨C,0,none⟩),bv,.string secret,iv]
def qh(w:World)(DD D C:Nat)(bv:Value)(secret:af)(iv:Value):Prop:=w.heap[DD]? =some (.cells (zeR D C bv secret iv) 30 (0,0))
section
variable {w w':World}{DD D C:Nat}{bv iv:Value}{secret:af}
theorem qh.cell0(h:qh w DD D C bv secret iv):w.cell? ⟨DD,0,none⟩=some (.pointer (some ⟨D,0,none⟩)):=cellOf h 0 rfl
theorem qh.cell1(h:qh w DD D C bv secret iv):w.cell? ⟨DD,1,none⟩=some (.pointer (some ⟨C,0,none⟩)):=cellOf h 1 rfl
theorem qh.cell2(h:qh w DD D C bv secret iv):w.cell? ⟨DD,2,none⟩=some bv:=cellOf h 2 rfl
theorem qh.QN(h:qh w DD D C bv secret iv):w.cell? ⟨DD,3,none⟩=some (.string secret):=cellOf h 3 rfl
theorem qh.YB(h:qh w DD D C bv secret iv):w.cell? ⟨DD,4,none⟩=some iv:=cellOf h 4 rfl
theorem qh.keep(h:qh w DD D C bv secret iv){S:Nat->Prop}(hk:Keep S w w')(hn:¬S DD):qh w' DD D C bv secret iv:=hk.heap h hn
theorem sS{BB:Nat}(h:qh w DD D C (.pointer (some ⟨BB,0,none⟩)) secret iv):ae 67 #[.pointer (some ⟨DD,0,none⟩)] w λe w'=>e= .returned (.pointer (some ⟨BB,0,none⟩))∧w'=w:=by have c2:=h.cell2;go_enter Tryz.func67,Tryz.ntmps67;go_wp2_with fail;go_ret;exact⟨rfl,rfl⟩
theorem qO(h:qh w DD D C (.pointer none) secret iv)(hg:ErrVar w):ae 67 #[.pointer (some ⟨DD,0,none⟩)] w λe w'=>e= .panicked [{ v:=ou 8,recovered:=false }]∧Keep nM w w':=by have c2:=h.cell2;have hm:=sZ 8 w hg;have Hm:=ag hm;clear hm hg h;go_enter Tryz.func67,Tryz.ntmps67;go_wp2_with fail;refine Hm.out.mono ?_;rintro e w1 ⟨rfl,K1⟩;go_wp2_with fail;exact⟨rfl,rfl,K1⟩
end
structure Ov(w0 w:World)(P:Nat->Prop)(DD BB D C:Nat)(secret:af)(V:nT)(d:pG)(n:Nat)(b:oZ)(k:Nat)(iv:Value)(img:List af):Prop where
 base:pq w0 w P BB D C V d n b k
 row:qh w DD D C (.pointer (some ⟨BB,0,none⟩)) secret iv
 sep:¬P DD
 new:w0.heap.size<=DD
 image:Strs w iv img
 zku:∀g,iv.ownBlock=some g->¬P g∧g≠DD∧g<w.heap.size
 inv:InvV secret V d.sure n
 wait:d.wait= []
 oD:d.oD<0
 said:Said V.texts b
section
variable {w0 w w':World}{P:Nat->Prop}{DD BB D C:Nat}{secret:af}{V:nT}{d:pG}{n:Nat}{b:oZ}{k:Nat}{iv:Value}{img:List af}
theorem Ov.oz(h:Ov w0 w P DD BB D C secret V d n b k iv img)(K:Keep nM w w'):Ov w0 w' P DD BB D C secret V d n b k iv img:=
 ⟨h.base.oz K,h.row.keep K (λx=>x),h.sep,h.new,h.image.keep K (λ_ _ x=>x),λg hg=>⟨(h.zku g hg).1,(h.zku g hg).2.1,dA (h.zku g hg).2.2 K.size⟩,h.inv,h.wait,h.oD,h.said⟩
theorem qh.lt{bv:Value}(h:qh w DD D C bv secret iv):DD<w.heap.size:=lt_of_heap h
def Xg:af:=⟨#[109,97,107,101]⟩
def QU:af:=⟨#[112,117,116]⟩
def Rq:af:=⟨#[105,109,97,103,101]⟩
def za8:af:=⟨#[108,97,121]⟩
end
def AgC(DD D C:Nat)(secret:af)(W:World):Prop:=W.cell? ⟨DD,0,none⟩=some (.pointer (some ⟨D,0,none⟩))∧W.cell? ⟨DD,1,none⟩=some (.pointer (some ⟨C,0,none⟩))∧W.cell? ⟨DD,3,none⟩=some (.string secret)
theorem qh.agC{w:World}{DD D C:Nat}{bv iv:Value}{secret:af}(h:qh w DD D C bv secret iv):AgC DD D C secret w:=⟨h.cell0,h.cell1,h.QN⟩
theorem qh.Qk{w:World}{DD D C:Nat}{bv iv:Value}{secret:af}(h:qh w DD D C bv secret iv)(v:Value):qh (w.setCell ⟨DD,2,none⟩ v) DD D C v secret iv:=by show(w.setCell ⟨DD,2,none⟩ _).heap[DD]? =_;rw[oM h];rfl
theorem qh.frozen{w:World}{DD D C:Nat}{bv iv:Value}{secret:af}(h:qh w DD D C bv secret iv)(i:Nat):w.frozen? ⟨DD,i,none⟩=false:=by have h2:w.heap[DD]? =some (.cells _ _ (0,0)):=h;simp[World.frozen?,h2]
section
variable {w:World}{DD D C:Nat}{bv iv:Value}{secret:af}
theorem ZB{R:Nat->World->Prop}(hr:qh w DD D C bv secret iv)(hC:DD≠C)
  (hOp:∀W,Keep nM (w.setCell ⟨DD,2,none⟩ (.pointer none)) W->ae 28 #[.pointer (some ⟨D,0,none⟩),.pointer (some ⟨C,0,none⟩),.string secret] W λe W'=>∃BB,e= .returned (.tuple #[.pointer (some ⟨BB,0,none⟩),.nilIface])∧R BB W'∧Keep (nY C) W W'):
  ae 14 #[.pointer (some ⟨DD,0,none⟩)] w λe w'=>e= .returned (.tuple #[])∧∃BB W',R BB W'∧Keep (nY C) (w.setCell ⟨DD,2,none⟩ (.pointer none)) W'∧qh W' DD D C (.pointer none) secret iv∧w'=W'.setCell ⟨DD,2,none⟩ (.pointer (some ⟨BB,0,none⟩)):=by
 have hc2:=hr.cell2;have hf2:=hr.frozen 2;have hr1:=hr.Qk (.pointer none);have HR:=ag hr1;have HOp:=ag hOp;clear hOp hr hr1;go_enter Tryz.func14,Tryz.ntmps14;go_wp2_with fail;have a1:=HR.out.agC;obtain⟨w1,hw1⟩:∃w1,w1=w.setCell ⟨DD,2,none⟩ (.pointer none):=⟨_,rfl⟩
 rw[<-hw1]at a1 HR HOp⊢;have l1:∀x:rE (AgC DD D C secret),x.w.cell? ⟨DD,0,none⟩=some (.pointer (some ⟨D,0,none⟩)):=λx=>x.h.1;have l2:∀x:rE (AgC DD D C secret),x.w.cell? ⟨DD,1,none⟩=some (.pointer (some ⟨C,0,none⟩)):=λx=>x.h.2.1;have l3:∀x:rE (AgC DD D C secret),x.w.cell? ⟨DD,3,none⟩=some (.string secret):=λx=>x.h.2.2;have Hw1:=ag hw1;clear hc2 hf2 hw1;refine nO (AgC DD D C secret) [(true,0),(true,1),(true,2),(true,3),(true,4),(true,5),(true,6),(true,7),(true,8),(true,9),(true,10),(true,11),(false,12),(true,13),(true,14),(true,15),(true,16),(false,17)] (by kernel_rfl) (by kernel_rfl) (λc a d v w h=>by cases d<;>exact h) ?_;simp only[oQ,nR,aj,ak,au]
 repeat(refine nJ (λK hK=> ?_);go_simp;first|(refine⟨_,λ_=>rfl,hK _ ?_⟩;clear hK K;refine nH ?_)|(refine hK _ ?_;clear hK K;refine nH ?_))
 clear l1 l2 l3;refine⟨a1,?_⟩;go_wp2_with fail;refine(HOp.out _ ((ah nM w1).drew)).mono ?_;rintro e w2 ⟨BB,rfl,hR,K2⟩;have Fj:Keep (nY C) w1 w2:=((ah nM w1).drew.vN (S:=nY C)).then K2;have hr2:=HR.out.keep Fj (λe=>hC e);have a2:=hr2.agC;have HR2:=ag hr2;have HK:=ag Fj;have HRR:=ag hR;clear hR K2 Fj hr2 HOp a1;go_wp2_with fail
 repeat(refine nJ (λK hK=> ?_);go_simp;first|(refine⟨_,λ_=>rfl,hK _ ?_⟩;clear hK K;refine nH ?_)|(refine hK _ ?_;clear hK K;refine nH ?_))
 refine⟨a2,?_⟩;go_wp2_with fail;refine(Gv _).mono ?_;rintro e w3 ⟨rfl,hw3⟩;subst w3;have hc2:=HR2.out.cell2;have hf2:=HR2.out.frozen 2;go_wp2_with fail;exact mP (jm rfl _ _ _) rfl ⟨rfl,BB,w2,HRR.out,by rw[<-Hw1.out];exact HK.out,HR2.out,rfl⟩
theorem Wq{R:World->Prop}(hRK:∀a b,R a->Keep nM a b->R b)(hr:qh w DD D C bv secret iv)(hC:DD≠C)
  (hOp:∀W,Keep nM (w.setCell ⟨DD,2,none⟩ (.pointer none)) W->ae 28 #[.pointer (some ⟨D,0,none⟩),.pointer (some ⟨C,0,none⟩),.string secret] W λe W'=>e= .returned (.tuple #[.pointer none,errVal 15])∧ErrVar W'∧R W'∧Keep (nY C) W W'):
  ae 14 #[.pointer (some ⟨DD,0,none⟩)] w λe w'=>e= .panicked [{ v:=ou 15,recovered:=false }]∧qh w' DD D C (.pointer none) secret iv∧R w'∧Keep (λi=>i=DD∨i=C) w w':=by
 have hc2:=hr.cell2;have hf2:=hr.frozen 2;have hr1:=hr.Qk (.pointer none);have HR:=ag hr1;have HRK:=ag hRK;have HOp:=ag hOp;have K0:Keep (λi=>i=DD∨i=C) w (w.setCell ⟨DD,2,none⟩ (.pointer none)):=(ah _ _).setCell (p:=⟨DD,2,none⟩) (.inl (Or.inl rfl)) _;have HK0:=ag K0;clear hOp hr hr1 K0 hRK;go_enter Tryz.func14,Tryz.ntmps14;go_wp2_with fail;have a1:=HR.out.agC;obtain⟨w1,hw1⟩:∃w1,w1=w.setCell ⟨DD,2,none⟩ (.pointer none):=⟨_,rfl⟩
 rw[<-hw1]at a1 HR HOp HK0⊢;have l1:∀x:rE (AgC DD D C secret),x.w.cell? ⟨DD,0,none⟩=some (.pointer (some ⟨D,0,none⟩)):=λx=>x.h.1;have l2:∀x:rE (AgC DD D C secret),x.w.cell? ⟨DD,1,none⟩=some (.pointer (some ⟨C,0,none⟩)):=λx=>x.h.2.1;have l3:∀x:rE (AgC DD D C secret),x.w.cell? ⟨DD,3,none⟩=some (.string secret):=λx=>x.h.2.2;clear hc2 hf2 hw1;refine nO (AgC DD D C secret) [(true,0),(true,1),(true,2),(true,3),(true,4),(true,5),(true,6),(true,7),(true,8),(true,9),(true,10),(true,11),(false,12),(true,13),(true,14),(true,15),(true,16),(false,17)] (by kernel_rfl) (by kernel_rfl) (λc a d v w h=>by cases d<;>exact h) ?_;simp only[oQ,nR,aj,ak,au]
 repeat(refine nJ (λK hK=> ?_);go_simp;first|(refine⟨_,λ_=>rfl,hK _ ?_⟩;clear hK K;refine nH ?_)|(refine hK _ ?_;clear hK K;refine nH ?_))
 clear l1 l2 l3;refine⟨a1,?_⟩;go_wp2_with fail;refine(HOp.out _ ((ah nM w1).drew)).mono ?_;rintro e w2 ⟨rfl,hE,hR,K2⟩;have Fj:Keep (nY C) w1 w2:=((ah nM w1).drew.vN (S:=nY C)).then K2;have hr2:=HR.out.keep Fj (λe=>hC e);have a2:=hr2.agC;have HR2:=ag hr2;have HK:=ag (HK0.out.then (Fj.mono (λi _ e=>Or.inr e)));have hm:=sZ 15 w2 hE;have Hm:=ag hm;have HRR:=ag hR;rw[show errVal 15= .iface 51 (.int .i64 15)from rfl];clear hE K2 Fj hr2 HOp a1 hm hR;go_wp2_with fail
 repeat(refine nJ (λK hK=> ?_);go_simp;first|(refine⟨_,λ_=>rfl,hK _ ?_⟩;clear hK K;refine nH ?_)|(refine hK _ ?_;clear hK K;refine nH ?_))
 refine⟨a2,?_⟩;go_wp2_with fail;refine Hm.out.mono ?_;rintro e w3 ⟨rfl,K3⟩;go_wp2_with fail;exact⟨rfl,rfl,HR2.out.keep K3 (λx=>x),HRK.out _ _ HRR.out K3,HK.out.nK K3⟩
theorem X5{S:Nat}{wv:Value}{d:pG}(hd:qi w D S wv d){n:Nat}(hc:oL w C n)(hn:n<1000000)(hb:∀i,i<66->(d.now.getD i ⟨#[]⟩).size=256)(hs:secret.size=16)(R:oG w)(ho:yS secret d.now n=none):
  ae 28 #[.pointer (some ⟨D,0,none⟩),.pointer (some ⟨C,0,none⟩),.string secret] w λe w'=>e= .returned (.tuple #[.pointer none,errVal 15])∧oL w' C n∧Keep (nY C) w w':=by
 have hv:=IX hd hb n (by omega) hc secret hs R;rw[ho]at hv;have Hv:=ag hv;clear hv hd hc hb R ho;go_enter Tryz.func28,Tryz.ntmps28;go_wp2_with fail;refine Hv.out.mono ?_;rintro e w1 ⟨⟨rfl,hc⟩,K⟩;rw[show errVal 15= .iface 51 (.int .i64 15)from rfl];go_wp2_with fail
 go_ret2
 exact⟨rfl,hc,K⟩
end
theorem zf{w:World}{p:Option Addr}{m c:Nat}{l:List af}(S:Strs w (.slice p m c) l)(hm:m=l.length)(h0:0<m):∃g off,p=some ⟨g,off,none⟩∧g<w.heap.size∧∀i,i<m->w.cell? ⟨g,off+i,none⟩=some (.string (l.getD i ⟨#[]⟩)):=by
 rcases S with⟨h1,_⟩|⟨g,off,c',hv,hg,hc⟩
 ·rw[h1]at hm;simp at hm;omega
 ·cases hv;exact⟨g,off,rfl,hg,λi hi=>hc i (by omega)⟩
theorem zeq(z:Int):∀u∈ [Value.int .i64 z],u.oneCell'=true:=by
 intro u hu;obtain rfl:u= .int .i64 z:=by simpa using hu
 rfl
def nN(G off:Nat)(a b:af)(W:World):Prop:=W.cell? ⟨G,off,none⟩=some (.string a)∧W.cell? ⟨G,off+1,none⟩=some (.string b)
section
variable {w0 w w':World}{P:Nat->Prop}{DD BB D C:Nat}{secret:af}{V:nT}{d:pG}{n:Nat}{b:oZ}{k:Nat}{iv:Value}{img:List af}
structure zj5(w0 w:World)(P:Nat->Prop)(DD D C:Nat)(secret:af)(bv iv:Value)(B:List af)(n:Nat):Prop where
 row:qh w DD D C bv secret iv
 dev:∃(S:Nat) (wv:Value) (fu:Int),qi w D S wv ⟨B,[],fu⟩∧∀b,P b↔(qg D S wv b∨b=C)
 cnt:oL w C n
 keep:Keep nM w0 w
 own:∀b,P b->w0.heap.size<=b
 sep:¬P DD
 new:w0.heap.size<=DD
def zik(DD D:Nat)(iv:Value)(W:World):Prop:=W.cell? ⟨DD,0,none⟩=some (.pointer (some ⟨D,0,none⟩))∧W.cell? ⟨DD,4,none⟩=some iv
end
def BR(DD f:Nat):Value:= .func (.func f) #[.pointer (some ⟨DD,0,none⟩)] #[]
def xu(DD:Nat):List rD:=
 yV (yV (yV (yV (yV (yV (yV (yV (yV (yV (yV (yV (yV (yV (yV (yV (yV (yV (yV (yV ([]) ⟨#[98,108,111,99,107]⟩ (BR DD 35)) ⟨#[99,111,109,109,105,116]⟩ (BR DD 36)) ⟨#[99,111,117,110,116]⟩ (BR DD 37)) ⟨#[99,114,97,115,104]⟩ (BR DD 38)) ⟨#[100,101,108]⟩ (BR DD 39)) ⟨#[101,112,111,99,104]⟩ (BR DD 40)) ⟨#[102,105,110,100]⟩ (BR DD 41)) ⟨#[102,117,115,101]⟩ (BR DD 42)) ⟨#[104,101,108,112]⟩ (BR DD 43)) ⟨#[105,109,97,103,101]⟩ (BR DD 44)) ⟨#[105,116,101,109,115]⟩ (BR DD 45)) ⟨#[108,97,121]⟩ (BR DD 46)) ⟨#[109,97,107,101]⟩ (BR DD 47)) ⟨#[110,101,119]⟩ (BR DD 5)) ⟨#[111,112,101,110]⟩ (BR DD 48)) ⟨#[112,117,116]⟩ (BR DD 49)) ⟨#[115,112,111,105,108]⟩ (BR DD 50)) ⟨#[115,117,109]⟩ (BR DD 51)) ⟨#[116,117,114,110]⟩ (BR DD 52)) ⟨#[117,110,100,111]⟩ (BR DD 53)
def qy(DD:Nat)(name:af):Value:=(uM (xu DD) name).getD .nilFunc
theorem zav(DD:Nat):qy DD ⟨#[99,111,109,109,105,116]⟩=BR DD 36:=by
 unfold qy xu;simp only[ru]
 repeat(first|rw[aP rfl]|rw[aB (by decide)])
 rfl
theorem zci(DD:Nat):qy DD ⟨#[105,109,97,103,101]⟩=BR DD 44:=by
 unfold qy xu;simp only[ru]
 repeat(first|rw[aP rfl]|rw[aB (by decide)])
 rfl
theorem zch(DD:Nat):qy DD ⟨#[105,116,101,109,115]⟩=BR DD 45:=by
 unfold qy xu;simp only[ru]
 repeat(first|rw[aP rfl]|rw[aB (by decide)])
 rfl
theorem zhB(DD:Nat):qy DD ⟨#[108,97,121]⟩=BR DD 46:=by
 unfold qy xu;simp only[ru]
 repeat(first|rw[aP rfl]|rw[aB (by decide)])
 rfl
theorem zeN(DD:Nat):qy DD ⟨#[109,97,107,101]⟩=BR DD 47:=by
 unfold qy xu;simp only[ru]
 repeat(first|rw[aP rfl]|rw[aB (by decide)])
 rfl
theorem zeL(DD:Nat):qy DD ⟨#[111,112,101,110]⟩=BR DD 48:=by
 unfold qy xu;simp only[ru]
 repeat(first|rw[aP rfl]|rw[aB (by decide)])
 rfl
theorem zhz(DD:Nat):qy DD ⟨#[112,117,116]⟩=BR DD 49:=by
 unfold qy xu;simp only[ru]
 repeat(first|rw[aP rfl]|rw[aB (by decide)])
 rfl
theorem Xm(DD:Nat)(name:af)(hn:name.size<=maxLen)(w:World):ae 22 #[.pointer (some ⟨DD,0,none⟩),.string name] w λe w'=>e= .returned (qy DD name)∧Keep nM w w':=by
 have hmf:∀(fn:Fn) (first cap:Array Value) (w:World),(Instr.makeFunc fn first cap).run Tryz.prog w= .ok (.func fn first cap) w:=λ_ _ _ _=>rfl;have hmm:= @run_makeMap Tryz.prog;have M0:oJ (w.alloc (Obj.map #[] 0)) w.heap.size 0 []:=oJ.made w;have K0:Keep nM w (w.alloc (Obj.map #[] 0)):=(ah _ _).alloc _;have HK0:=ag K0;obtain⟨w1,r1,M1,K1⟩:=M0.update Tryz.underlying76 (by unfold maxLen;omega) ⟨#[98,108,111,99,107]⟩ (by decide) (.func (.func 35) #[.pointer (some ⟨DD,0,none⟩)] #[]);obtain⟨w2,r2,M2,K2⟩:=M1.update Tryz.underlying76 (by unfold maxLen;omega) ⟨#[99,111,109,109,105,116]⟩ (by decide) (.func (.func 36) #[.pointer (some ⟨DD,0,none⟩)] #[]);obtain⟨w3,r3,M3,K3⟩:=M2.update Tryz.underlying76 (by unfold maxLen;omega) ⟨#[99,111,117,110,116]⟩ (by decide) (.func (.func 37) #[.pointer (some ⟨DD,0,none⟩)] #[]);obtain⟨w4,r4,M4,K4⟩:=M3.update Tryz.underlying76 (by unfold maxLen;omega) ⟨#[99,114,97,115,104]⟩ (by decide) (.func (.func 38) #[.pointer (some ⟨DD,0,none⟩)] #[]);obtain⟨w5,r5,M5,K5⟩:=M4.update Tryz.underlying76 (by unfold maxLen;omega) ⟨#[100,101,108]⟩ (by decide) (.func (.func 39) #[.pointer (some ⟨DD,0,none⟩)] #[]);obtain⟨w6,r6,M6,K6⟩:=M5.update Tryz.underlying76 (by unfold maxLen;omega) ⟨#[101,112,111,99,104]⟩ (by decide) (.func (.func 40) #[.pointer (some ⟨DD,0,none⟩)] #[]);obtain⟨w7,r7,M7,K7⟩:=M6.update Tryz.underlying76 (by unfold maxLen;omega) ⟨#[102,105,110,100]⟩ (by decide) (.func (.func 41) #[.pointer (some ⟨DD,0,none⟩)] #[]);obtain⟨w8,r8,M8,K8⟩:=M7.update Tryz.underlying76 (by unfold maxLen;omega) ⟨#[102,117,115,101]⟩ (by decide) (.func (.func 42) #[.pointer (some ⟨DD,0,none⟩)] #[]);obtain⟨w9,r9,M9,K9⟩:=M8.update Tryz.underlying76 (by unfold maxLen;omega) ⟨#[104,101,108,112]⟩ (by decide) (.func (.func 43) #[.pointer (some ⟨DD,0,none⟩)] #[]);obtain⟨w10,r10,M10,K10⟩:=M9.update Tryz.underlying76 (by unfold maxLen;omega) ⟨#[105,109,97,103,101]⟩ (by decide) (.func (.func 44) #[.pointer (some ⟨DD,0,none⟩)] #[]);obtain⟨Ud,r11,M11,K11⟩:=M10.update Tryz.underlying76 (by unfold maxLen;omega) ⟨#[105,116,101,109,115]⟩ (by decide) (.func (.func 45) #[.pointer (some ⟨DD,0,none⟩)] #[]);obtain⟨w12,r12,M12,FD⟩:=M11.update Tryz.underlying76 (by unfold maxLen;omega) ⟨#[108,97,121]⟩ (by decide) (.func (.func 46) #[.pointer (some ⟨DD,0,none⟩)] #[]);obtain⟨w13,r13,M13,K13⟩:=M12.update Tryz.underlying76 (by unfold maxLen;omega) ⟨#[109,97,107,101]⟩ (by decide) (.func (.func 47) #[.pointer (some ⟨DD,0,none⟩)] #[]);obtain⟨w14,r14,M14,K14⟩:=M13.update Tryz.underlying76 (by unfold maxLen;omega) ⟨#[110,101,119]⟩ (by decide) (.func (.func 5) #[.pointer (some ⟨DD,0,none⟩)] #[]);obtain⟨w15,r15,M15,K15⟩:=M14.update Tryz.underlying76 (by unfold maxLen;omega) ⟨#[111,112,101,110]⟩ (by decide) (.func (.func 48) #[.pointer (some ⟨DD,0,none⟩)] #[]);obtain⟨w16,r16,M16,K16⟩:=M15.update Tryz.underlying76 (by unfold maxLen;omega) ⟨#[112,117,116]⟩ (by decide) (.func (.func 49) #[.pointer (some ⟨DD,0,none⟩)] #[]);obtain⟨w17,r17,M17,K17⟩:=M16.update Tryz.underlying76 (by unfold maxLen;omega) ⟨#[115,112,111,105,108]⟩ (by decide) (.func (.func 50) #[.pointer (some ⟨DD,0,none⟩)] #[]);obtain⟨w18,r18,M18,K18⟩:=M17.update Tryz.underlying76 (by unfold maxLen;omega) ⟨#[115,117,109]⟩ (by decide) (.func (.func 51) #[.pointer (some ⟨DD,0,none⟩)] #[]);obtain⟨w19,r19,M19,K19⟩:=M18.update Tryz.underlying76 (by unfold maxLen;omega) ⟨#[116,117,114,110]⟩ (by decide) (.func (.func 52) #[.pointer (some ⟨DD,0,none⟩)] #[]);obtain⟨w20,r20,M20,K20⟩:=M19.update Tryz.underlying76 (by unfold maxLen;omega) ⟨#[117,110,100,111]⟩ (by decide) (.func (.func 53) #[.pointer (some ⟨DD,0,none⟩)] #[]);have hlk:=M20.look Tryz.underlying76 name hn (Tryz.zeroValue31 w20);have hd:(uM (xu DD) name).getD .nilFunc=qy DD name:=rfl;have KF:Keep (nY w.heap.size) (w.alloc (Obj.map #[] 0)) w20:=(((((((((((((((((((K1.then K2).then K3).then K4).then K5).then K6).then K7).then K8).then K9).then K10).then K11).then FD).then K13).then K14).then K15).then K16).then K17).then K18).then K19).then K20)
 have HKF:=ag KF;have Hhd:=ag hd;have hlk:(Instr.lookup 76 (.map (some w.heap.size)) (.string name) false).run Tryz.prog w20= .ok (qy DD name) w20:=hlk;clear M0 M1 M2 M3 M4 M5 M6 M7 M8 M9 M10 M11 M12 M13 M14 M15 M16 M17 M18 M19 M20 K0 K1 K2 K3 K4 K5 K6 K7 K8 K9 K10 K11 FD K13 K14 K15 K16 K17 K18 K19 K20 KF hd;go_enter Tryz.func22,Tryz.ntmps22;go_wp2_with fail;go_ret;exact⟨rfl,HK0.out.trans HKF.out (λi hi e=>by have e:i=w.heap.size:=e;omega)⟩
def Wy(wd:af):af:=txt (mark 100 [bs wd])
def Ij:af:=Wy ⟨#[]⟩
structure qW(w wc:World)(DD:Nat)(c0 c1 c2 c3 c4:Value):Prop where
 keep:Keep (nY DD) w wc
 row:wc.heap[DD]? =some (.cells #[c0,c1,c2,c3,c4] 30 (0,0))
section
variable {w wc wd:World}{DD:Nat}{c0 c1 c2 c3 c4:Value}
theorem qW.oz(h:qW w wc DD c0 c1 c2 c3 c4)(K:Keep nM wc wd):qW w wd DD c0 c1 c2 c3 c4:=⟨h.keep.nK K,K.heap h.row (λx=>x)⟩
theorem qW.frozen(h:qW w wc DD c0 c1 c2 c3 c4)(i:Nat):wc.frozen? ⟨DD,i,none⟩=false:=by simp[World.frozen?,h.row]
theorem qW.cell(h:qW w wc DD c0 c1 c2 c3 c4)(i:Nat)(v:Value)(hv:(#[c0,c1,c2,c3,c4]:Array Value)[i]? =some v):wc.cell? ⟨DD,i,none⟩=some v:=cellOf h.row i hv
theorem qW.Qx(i:Nat)(v:Value):Keep (nY DD) wc (wc.setCell ⟨DD,i,none⟩ v):=(ah _ _).setCell (p:=⟨DD,i,none⟩) (.inl (show nY DD DD from rfl)) _
theorem qW.set0(h:qW w wc DD c0 c1 c2 c3 c4)(v:Value):qW w (wc.setCell ⟨DD,0,none⟩ v) DD v c1 c2 c3 c4:=⟨h.keep.then (qW.Qx 0 v),by rw[oM h.row];rfl⟩
theorem qW.set1(h:qW w wc DD c0 c1 c2 c3 c4)(v:Value):qW w (wc.setCell ⟨DD,1,none⟩ v) DD c0 v c2 c3 c4:=⟨h.keep.then (qW.Qx 1 v),by rw[oM h.row];rfl⟩
theorem qW.zj8(h:qW w wc DD c0 c1 c2 c3 c4)(v:Value):qW w (wc.setCell ⟨DD,3,none⟩ v) DD c0 c1 c2 v c4:=⟨h.keep.then (qW.Qx 3 v),by rw[oM h.row];rfl⟩
theorem qW.zj7(h:qW w wc DD c0 c1 c2 c3 c4)(v:Value):qW w (wc.setCell ⟨DD,4,none⟩ v) DD c0 c1 c2 c3 v:=⟨h.keep.then (qW.Qx 4 v),by rw[oM h.row];rfl⟩
end
structure zlT(w wc:World)(DD:Nat)(c2:Value)(sec:af)(D S C:Nat):Prop where
 part:qW w wc DD (.pointer (some ⟨D,0,none⟩)) (.pointer (some ⟨C,0,none⟩)) c2 (.string sec) (.slice none 0 0)
 dev:qm wc D S (.slice none 0 0) wU [] (-1)
 cnt:oL wc C 0
 loD:w.heap.size<=D
 loS:w.heap.size<=S
 Yi:w.heap.size<=C
theorem J9{w:World}{G:Nat}{s:af}(h:w.heap[G]? =some (.cells #[.string s] 9 (0,0))):Strs w (.slice (some ⟨G,0,none⟩) 1 1) [s]:=
 .inr ⟨G,0,1,rfl,lt_of_heap h,λi hi=>by
  obtain rfl:i=0:=by simp at hi;omega
  exact cellOf h 0 rfl⟩
def WS:af:=⟨#[110,101,119]⟩
theorem DY(wd:af):(Wy wd).size=16:=by rw[Wy,oU,AB]
def Ie(wd:af)(g off:Nat)(W:World):Prop:=W.cell? ⟨g,off,none⟩=some (.string wd)
theorem Pz{wz w:World}{DD g off c:Nat}{v0 v1 v2 v3 v4:Value}(wd:af)(hwd:wd.size<=30000)(hDD:w.heap[DD]? =some (.cells #[v0,v1,v2,v3,v4] 30 (0,0)))(hg:w.cell? ⟨g,off,none⟩=some (.string wd))(hgD:g≠DD)(zh2:Keep nM wz w)(hDz:wz.heap.size<=DD)(G0:pM wz)(R:oG w)(hRD:¬nY DD 0):
  ae 5 #[.pointer (some ⟨DD,0,none⟩),.slice (some ⟨g,off,none⟩) 1 c] w λe w'=>e= .returned (.string WS)∧(∃BB D C P',Ov wz w' P' DD BB D C (Wy wd) (uU (Wy wd)) ⟨wU,[],-1⟩ 0 II 60 (.slice none 0 0) []∧∀x,P' x->w.heap.size<=x)∧Keep (nY DD) w w':=by
 have hmt:(pV 100 ([wd].map bs)).length<=100000:=by simp only[bF,dB,pV,dO,jT,ay,aK,bI,yx,bs_len];omega
 obtain⟨sec,zF⟩:∃sec,sec=Wy wd:=⟨_,rfl⟩
 have zoQ:sec.size=16:=by rw[zF,DY]
 have hse:txt (mark 100 ([wd].map bs))=sec:=zF.symm;rw[<-zF];clear zF;have HKz:=ag zh2;have HG0:=ag G0;clear zh2 G0;have F0:qW w w DD v0 v1 v2 v3 v4:=⟨ah _ _,hDD⟩
 obtain⟨w0,hw0⟩:∃x,x=w.drew:=⟨_,rfl⟩
 have a0:Ie wd g off w0:=by rw[hw0];exact hg
 have F0:qW w w0 DD v0 v1 v2 v3 v4:=F0.oz (by rw[hw0];exact(ah nM w).drew);have zmu:DD<w.heap.size:=lt_of_heap hDD;have l1:∀x:rE (Ie wd g off),x.w.cell? ⟨g,off,none⟩=some (.string wd):=λx=>x.h;have n0:0<1:=by decide
 go_enter Tryz.func5,Tryz.ntmps5;go_wp2_with fail;refine(pz _ 1 c w).mono ?_;rintro e w1 ⟨rfl,hw1⟩;subst w1;go_wp2_with fail
 go_cut [] (λwr=>∃D S C,Hid (zlT w wr DD v2 sec D S C))
 case first=>
  refine TG (Ie wd g off) (.rd 0 (.rd 1 (.rd 2 (.rd 3 (.rd 5 (.rd 7 (.rd 8 (.rd 9 (.alt 4 (.alt 6 (.alt 10 (.alt 11 (.rd 12 (.rd 13 (.alt 14 (.rd 15 (.rd 16 (.alt 17 (.rd 18 (.rd 19 (.alt 20 (.rd 21 (.rd 22 (.alt 23 .fin .no))) .no))) .no))) .no))) .no) .no) (.alt 10 (.alt 6 (.alt 11 (.rd 12 (.rd 13 (.alt 14 (.rd 15 (.rd 16 (.alt 17 (.rd 18 (.rd 19 (.alt 20 (.rd 21 (.rd 22 (.alt 23 .fin .no))) .no))) .no))) .no))) .no) (.alt 11 (.rd 12 (.rd 13 (.alt 6 (.alt 14 (.rd 15 (.rd 16 (.alt 17 (.rd 18 (.rd 19 (.alt 20 (.rd 21 (.rd 22 (.alt 23 .fin .no))) .no))) .no))) .no) (.alt 14 (.alt 6 (.rd 15 (.rd 16 (.alt 17 (.rd 18 (.rd 19 (.alt 20 (.rd 21 (.rd 22 (.alt 23 .fin .no))) .no))) .no))) .no) .no)))) .no)) .no)) (.alt 6 (.alt 4 (.alt 10 (.alt 11 (.rd 12 (.rd 13 (.alt 14 (.rd 15 (.rd 16 (.alt 17 (.rd 18 (.rd 19 (.alt 20 (.rd 21 (.rd 22 (.alt 23 .fin .no))) .no))) .no))) .no))) .no) .no) (.alt 10 (.alt 4 (.alt 11 (.rd 12 (.rd 13 (.alt 14 (.rd 15 (.rd 16 (.alt 17 (.rd 18 (.rd 19 (.alt 20 (.rd 21 (.rd 22 (.alt 23 .fin .no))) .no))) .no))) .no))) .no) .no) .no)) (.alt 10 (.alt 4 (.alt 6 (.alt 11 (.rd 12 (.rd 13 (.alt 14 (.rd 15 (.rd 16 (.alt 17 (.rd 18 (.rd 19 (.alt 20 (.rd 21 (.rd 22 (.alt 23 .fin .no))) .no))) .no))) .no))) .no) (.alt 11 (.rd 12 (.rd 13 (.alt 6 (.alt 14 (.rd 15 (.rd 16 (.alt 17 (.rd 18 (.rd 19 (.alt 20 (.rd 21 (.rd 22 (.alt 23 .fin .no))) .no))) .no))) .no) (.alt 14 (.alt 6 (.rd 15 (.rd 16 (.alt 17 (.rd 18 (.rd 19 (.alt 20 (.rd 21 (.rd 22 (.alt 23 .fin .no))) .no))) .no))) .no) .no)))) .no)) (.alt 6 (.alt 4 (.alt 11 (.rd 12 (.rd 13 (.alt 14 (.rd 15 (.rd 16 (.alt 17 (.rd 18 (.rd 19 (.alt 20 (.rd 21 (.rd 22 (.alt 23 .fin .no))) .no))) .no))) .no))) .no) .no) .no)) .no))))))))))) (by kernel_rfl) (by kernel_rfl) (λc a d v w h=>by cases d<;>exact h) ?_;rw[<-hw0];clear hw0
  iterate 8 (unfold IK;simp only[nR,aj,ak,au];refine nJ (λK hK=> ?_);go_simp;first|(refine⟨_,λ_=>rfl,hK _ ?_⟩;clear hK K;refine nH ?_)|(refine hK _ ?_;clear hK K;refine nH ?_))
  have m:=trivial
  all_goals (
   clear m;unfold IK;simp only[nR,aj,ak,au];refine⟨a0,?_,?_,?_,trivial⟩
   focus
    (try simp only[nR,aj,ak,au]);go_wp2_with fail;refine(EX _).mono ?_;rintro e w1 ⟨D,S,rfl,hd1,h1,h2,K1⟩;have h1:w.heap.size<=D:=bH F0.keep.size h1;have h2:w.heap.size<=S:=bH F0.keep.size h2;have hdD:∀b,qg D S (.slice none 0 0) b->b≠DD:=λb hb e=>hb.elim (λe1=>by omega) (λhb=>hb.elim (λe1=>by omega) (λe1=>by cases e1));have F1:=F0.oz K1;have a1:Ie wd g off w1:=(K1.cell (p:=⟨g,off,none⟩) (Lib.lt_of_cell a0) (λx=>x)).trans a0;clear F0 a0;go_wp2_with fail;have m4:=trivial
   rotate_left
   focus
    (try simp only[nR,aj,ak,au]);go_wp2_with fail;obtain⟨w1,hw1⟩:∃x,x=w0.alloc (.cells #[.int .i64 0] 48):=⟨_,rfl⟩
    obtain⟨C,hC⟩:∃x,x=w0.heap.size:=⟨_,rfl⟩
    rw[<-hw1,<-hC];have K1:Keep nM w0 w1:=by rw[hw1];exact(ah _ _).alloc _
    have nC:w1.heap[C]? =some (Obj.cells #[.int .i64 0] 48 (0,0)):=by rw[hw1,hC];exact aG _ _
    have Yi:w.heap.size<=C:=by rw[hC];exact F0.keep.size
    have hCD:C≠DD:=by omega
    have F1:=F0.oz K1;have a1:Ie wd g off w1:=(K1.cell (p:=⟨g,off,none⟩) (Lib.lt_of_cell a0) (λx=>x)).trans a0;clear F0 a0;have hc1:oL w1 C 0:=nC;have hcD:=hCD;have h3:=Yi;clear hw1 hC nC;have m6:=trivial
   rotate_left
   focus
    (try simp only[nR,aj,ak,au]);go_wp2_with fail;obtain⟨w1,hw1⟩:∃x,x=w0.alloc (.cells #[.string wd] 9):=⟨_,rfl⟩
    obtain⟨G,hG⟩:∃x,x=w0.heap.size:=⟨_,rfl⟩
    rw[<-hw1,<-hG];have K1:Keep nM w0 w1:=by rw[hw1];exact(ah _ _).alloc _
    have nG:w1.heap[G]? =some (Obj.cells #[.string wd] 9 (0,0)):=by rw[hw1,hG];exact aG _ _
    have loG:w.heap.size<=G:=by rw[hG];exact F0.keep.size
    have hGD:G≠DD:=by omega
    have F1:=F0.oz K1;have a1:Ie wd g off w1:=(K1.cell (p:=⟨g,off,none⟩) (Lib.lt_of_cell a0) (λx=>x)).trans a0;clear F0 a0;have hs1:Strs w1 (.slice (some ⟨G,0,none⟩) 1 1) [wd]:=J9 nG;have hsD:∀b,(Value.slice (some ⟨G,0,none⟩) 1 1).ownBlock=some b->b≠DD:=λb hb e=>hGD ((aH hb).trans e);clear hw1 hG nG;have m10:=trivial
   rotate_left)
  all_goals first
    | (
    clear m4;unfold IK;simp only[nR,aj,ak,au];refine⟨a1,?_,?_,trivial⟩
    focus
     (try simp only[nR,aj,ak,au]);go_wp2_with fail;obtain⟨w2,hw2⟩:∃x,x=w1.alloc (.cells #[.int .i64 0] 48):=⟨_,rfl⟩
     obtain⟨C,hC⟩:∃x,x=w1.heap.size:=⟨_,rfl⟩
     rw[<-hw2,<-hC];have K2:Keep nM w1 w2:=by rw[hw2];exact(ah _ _).alloc _
     have nC:w2.heap[C]? =some (Obj.cells #[.int .i64 0] 48 (0,0)):=by rw[hw2,hC];exact aG _ _
     have Yi:w.heap.size<=C:=by rw[hC];exact F1.keep.size
     have hCD:C≠DD:=by omega
     have F2:=F1.oz K2;have a2:Ie wd g off w2:=(K2.cell (p:=⟨g,off,none⟩) (Lib.lt_of_cell a1) (λx=>x)).trans a1;have hd2:=hd1.keep K2 (λ_ _ x=>x);clear F1 a1 hd1;have hc2:oL w2 C 0:=nC;have hcD:=hCD;have h3:=Yi;clear hw2 hC nC;have zl2:=trivial
    rotate_left
    focus
     (try simp only[nR,aj,ak,au]);go_wp2_with fail;obtain⟨w2,hw2⟩:∃x,x=w1.alloc (.cells #[.string wd] 9):=⟨_,rfl⟩
     obtain⟨G,hG⟩:∃x,x=w1.heap.size:=⟨_,rfl⟩
     rw[<-hw2,<-hG];have K2:Keep nM w1 w2:=by rw[hw2];exact(ah _ _).alloc _
     have nG:w2.heap[G]? =some (Obj.cells #[.string wd] 9 (0,0)):=by rw[hw2,hG];exact aG _ _
     have loG:w.heap.size<=G:=by rw[hG];exact F1.keep.size
     have hGD:G≠DD:=by omega
     have F2:=F1.oz K2;have a2:Ie wd g off w2:=(K2.cell (p:=⟨g,off,none⟩) (Lib.lt_of_cell a1) (λx=>x)).trans a1;have hd2:=hd1.keep K2 (λ_ _ x=>x);clear F1 a1 hd1;have hs2:Strs w2 (.slice (some ⟨G,0,none⟩) 1 1) [wd]:=J9 nG;have hsD:∀b,(Value.slice (some ⟨G,0,none⟩) 1 1).ownBlock=some b->b≠DD:=λb hb e=>hGD ((aH hb).trans e);clear hw2 hG nG;have zjz:=trivial
    rotate_left)
    | (
    clear m6;unfold IK;simp only[nR,aj,ak,au];refine⟨a1,?_,?_,trivial⟩
    focus
     (try simp only[nR,aj,ak,au]);go_wp2_with fail;refine(EX _).mono ?_;rintro e w2 ⟨D,S,rfl,hd2,h1,h2,K2⟩;have h1:w.heap.size<=D:=bH F1.keep.size h1;have h2:w.heap.size<=S:=bH F1.keep.size h2;have hdD:∀b,qg D S (.slice none 0 0) b->b≠DD:=λb hb e=>hb.elim (λe1=>by omega) (λhb=>hb.elim (λe1=>by omega) (λe1=>by cases e1));have F2:=F1.oz K2;have a2:Ie wd g off w2:=(K2.cell (p:=⟨g,off,none⟩) (Lib.lt_of_cell a1) (λx=>x)).trans a1;have hc2:=hc1.keep K2 (λx=>x);clear F1 a1 hc1;go_wp2_with fail;have zl2:=trivial
    rotate_left
    focus
     (try simp only[nR,aj,ak,au]);go_wp2_with fail;obtain⟨w2,hw2⟩:∃x,x=w1.alloc (.cells #[.string wd] 9):=⟨_,rfl⟩
     obtain⟨G,hG⟩:∃x,x=w1.heap.size:=⟨_,rfl⟩
     rw[<-hw2,<-hG];have K2:Keep nM w1 w2:=by rw[hw2];exact(ah _ _).alloc _
     have nG:w2.heap[G]? =some (Obj.cells #[.string wd] 9 (0,0)):=by rw[hw2,hG];exact aG _ _
     have loG:w.heap.size<=G:=by rw[hG];exact F1.keep.size
     have hGD:G≠DD:=by omega
     have F2:=F1.oz K2;have a2:Ie wd g off w2:=(K2.cell (p:=⟨g,off,none⟩) (Lib.lt_of_cell a1) (λx=>x)).trans a1;have hc2:=hc1.keep K2 (λx=>x);clear F1 a1 hc1;have hs2:Strs w2 (.slice (some ⟨G,0,none⟩) 1 1) [wd]:=J9 nG;have hsD:∀b,(Value.slice (some ⟨G,0,none⟩) 1 1).ownBlock=some b->b≠DD:=λb hb e=>hGD ((aH hb).trans e);clear hw2 hG nG;have zjy:=trivial
    rotate_left)
    | (
    clear m10;unfold IK;simp only[nR,aj,ak,au];refine⟨a1,?_,?_,trivial⟩
    focus
     (try simp only[nR,aj,ak,au]);go_wp2_with fail;refine(EX _).mono ?_;rintro e w2 ⟨D,S,rfl,hd2,h1,h2,K2⟩;have h1:w.heap.size<=D:=bH F1.keep.size h1;have h2:w.heap.size<=S:=bH F1.keep.size h2;have hdD:∀b,qg D S (.slice none 0 0) b->b≠DD:=λb hb e=>hb.elim (λe1=>by omega) (λhb=>hb.elim (λe1=>by omega) (λe1=>by cases e1));have F2:=F1.oz K2;have a2:Ie wd g off w2:=(K2.cell (p:=⟨g,off,none⟩) (Lib.lt_of_cell a1) (λx=>x)).trans a1;have hs2:=hs1.keep K2 (λ_ _ x=>x);clear F1 a1 hs1;go_wp2_with fail;have zjz:=trivial
    rotate_left
    focus
     (try simp only[nR,aj,ak,au]);go_wp2_with fail;obtain⟨w2,hw2⟩:∃x,x=w1.alloc (.cells #[.int .i64 0] 48):=⟨_,rfl⟩
     obtain⟨C,hC⟩:∃x,x=w1.heap.size:=⟨_,rfl⟩
     rw[<-hw2,<-hC];have K2:Keep nM w1 w2:=by rw[hw2];exact(ah _ _).alloc _
     have nC:w2.heap[C]? =some (Obj.cells #[.int .i64 0] 48 (0,0)):=by rw[hw2,hC];exact aG _ _
     have Yi:w.heap.size<=C:=by rw[hC];exact F1.keep.size
     have hCD:C≠DD:=by omega
     have F2:=F1.oz K2;have a2:Ie wd g off w2:=(K2.cell (p:=⟨g,off,none⟩) (Lib.lt_of_cell a1) (λx=>x)).trans a1;have hs2:=hs1.keep K2 (λ_ _ x=>x);clear F1 a1 hs1;have hc2:oL w2 C 0:=nC;have hcD:=hCD;have h3:=Yi;clear hw2 hC nC;have zjy:=trivial
    rotate_left)
  all_goals first
    | (
    clear zl2;unfold IK;simp only[nR,aj,ak,au];refine⟨a2,?_,trivial⟩;go_wp2_with fail;obtain⟨w3,hw3⟩:∃x,x=w2.alloc (.cells #[.string wd] 9):=⟨_,rfl⟩
    obtain⟨G,hG⟩:∃x,x=w2.heap.size:=⟨_,rfl⟩
    rw[<-hw3,<-hG];have K3:Keep nM w2 w3:=by rw[hw3];exact(ah _ _).alloc _
    have nG:w3.heap[G]? =some (Obj.cells #[.string wd] 9 (0,0)):=by rw[hw3,hG];exact aG _ _
    have loG:w.heap.size<=G:=by rw[hG];exact F2.keep.size
    have hGD:G≠DD:=by omega
    have F3:=F2.oz K3;have a3:Ie wd g off w3:=(K3.cell (p:=⟨g,off,none⟩) (Lib.lt_of_cell a2) (λx=>x)).trans a2;have hd3:=hd2.keep K3 (λ_ _ x=>x);have hc3:=hc2.keep K3 (λx=>x);clear F2 a2 hd2 hc2;have hs3:Strs w3 (.slice (some ⟨G,0,none⟩) 1 1) [wd]:=J9 nG;have hsD:∀b,(Value.slice (some ⟨G,0,none⟩) 1 1).ownBlock=some b->b≠DD:=λb hb e=>hGD ((aH hb).trans e);clear hw3 hG nG;have Xh:=trivial)
    | (
    clear zjz;unfold IK;simp only[nR,aj,ak,au];refine⟨a2,?_,?_,trivial⟩
    focus
     (try simp only[nR,aj,ak,au]);go_wp2_with fail;obtain⟨w3,hw3⟩:∃x,x=w2.alloc (.cells #[.int .i64 0] 48):=⟨_,rfl⟩
     obtain⟨C,hC⟩:∃x,x=w2.heap.size:=⟨_,rfl⟩
     rw[<-hw3,<-hC];have K3:Keep nM w2 w3:=by rw[hw3];exact(ah _ _).alloc _
     have nC:w3.heap[C]? =some (Obj.cells #[.int .i64 0] 48 (0,0)):=by rw[hw3,hC];exact aG _ _
     have Yi:w.heap.size<=C:=by rw[hC];exact F2.keep.size
     have hCD:C≠DD:=by omega
     have F3:=F2.oz K3;have a3:Ie wd g off w3:=(K3.cell (p:=⟨g,off,none⟩) (Lib.lt_of_cell a2) (λx=>x)).trans a2;have hd3:=hd2.keep K3 (λ_ _ x=>x);have hs3:=hs2.keep K3 (λ_ _ x=>x);clear F2 a2 hd2 hs2;have hc3:oL w3 C 0:=nC;have hcD:=hCD;have h3:=Yi;clear hw3 hC nC;have Xh:=trivial
    rotate_left
    focus
     (try simp only[nR,aj,ak,au]);go_wp2_with fail;refine(xC 100 (by decide) _ [wd] _ (R.keep F2.keep hRD) hs2 hmt (by simp)).mono ?_;rintro e w3 ⟨rfl,K3⟩;rw[hse];have F3:=F2.oz K3;have a3:Ie wd g off w3:=(K3.cell (p:=⟨g,off,none⟩) (Lib.lt_of_cell a2) (λx=>x)).trans a2;have hd3:=hd2.keep K3 (λ_ _ x=>x);clear F2 a2 hd2 hs2;go_wp2_with fail
     iterate 2 (unfold IK;simp only[nR,aj,ak,au];refine nJ (λK hK=> ?_);go_simp;first|(refine⟨_,λ_=>rfl,hK _ ?_⟩;clear hK K;refine nH ?_)|(refine hK _ ?_;clear hK K;refine nH ?_))
     have zg7:=trivial
    rotate_left)
    | (
    clear zjy;unfold IK;simp only[nR,aj,ak,au];refine⟨a2,?_,trivial⟩;go_wp2_with fail;refine(EX _).mono ?_;rintro e w3 ⟨D,S,rfl,hd3,h1,h2,K3⟩;have h1:w.heap.size<=D:=bH F2.keep.size h1;have h2:w.heap.size<=S:=bH F2.keep.size h2;have hdD:∀b,qg D S (.slice none 0 0) b->b≠DD:=λb hb e=>hb.elim (λe1=>by omega) (λhb=>hb.elim (λe1=>by omega) (λe1=>by cases e1));have F3:=F2.oz K3;have a3:Ie wd g off w3:=(K3.cell (p:=⟨g,off,none⟩) (Lib.lt_of_cell a2) (λx=>x)).trans a2;have hc3:=hc2.keep K3 (λx=>x);have hs3:=hs2.keep K3 (λ_ _ x=>x);clear F2 a2 hc2 hs2;go_wp2_with fail;have Xh:=trivial)
  all_goals first
    | (
    clear Xh;unfold IK;simp only[nR,aj,ak,au];refine⟨a3,?_,trivial⟩;go_wp2_with fail;refine(xC 100 (by decide) _ [wd] _ (R.keep F3.keep hRD) hs3 hmt (by simp)).mono ?_;rintro e w4 ⟨rfl,K4⟩;rw[hse];have F4:=F3.oz K4;have a4:Ie wd g off w4:=(K4.cell (p:=⟨g,off,none⟩) (Lib.lt_of_cell a3) (λx=>x)).trans a3;have hd4:=hd3.keep K4 (λ_ _ x=>x);have hc4:=hc3.keep K4 (λx=>x);clear F3 a3 hd3 hc3 hs3;go_wp2_with fail
    iterate 2 (unfold IK;simp only[nR,aj,ak,au];refine nJ (λK hK=> ?_);go_simp;first|(refine⟨_,λ_=>rfl,hK _ ?_⟩;clear hK K;refine nH ?_)|(refine hK _ ?_;clear hK K;refine nH ?_))
    have SX:=trivial)
    | (
    clear zg7;unfold IK;simp only[nR,aj,ak,au];refine⟨a3,?_,?_,trivial⟩
    focus
     (try simp only[nR,aj,ak,au]);go_wp2_with fail;obtain⟨w4,hw4⟩:∃x,x=w3.alloc (.cells #[.int .i64 0] 48):=⟨_,rfl⟩
     obtain⟨C,hC⟩:∃x,x=w3.heap.size:=⟨_,rfl⟩
     rw[<-hw4,<-hC];have K4:Keep nM w3 w4:=by rw[hw4];exact(ah _ _).alloc _
     have nC:w4.heap[C]? =some (Obj.cells #[.int .i64 0] 48 (0,0)):=by rw[hw4,hC];exact aG _ _
     have Yi:w.heap.size<=C:=by rw[hC];exact F3.keep.size
     have hCD:C≠DD:=by omega
     have F4:=F3.oz K4;have a4:Ie wd g off w4:=(K4.cell (p:=⟨g,off,none⟩) (Lib.lt_of_cell a3) (λx=>x)).trans a3;have hd4:=hd3.keep K4 (λ_ _ x=>x);clear F3 a3 hd3;have hc4:oL w4 C 0:=nC;have hcD:=hCD;have h3:=Yi;clear hw4 hC nC;have SX:=trivial
    rotate_left
    focus
     (try simp only[nR,aj,ak,au]);have c0:=F3.cell 0 _ rfl;have z0:=F3.frozen 0;go_wp2_with fail;obtain⟨w4,hw4⟩:∃x,x=w3.setCell ⟨DD,0,none⟩ (.pointer (some ⟨D,0,none⟩)):=⟨_,rfl⟩
     rw[<-hw4];have K4:Keep (nY DD) w3 w4:=by rw[hw4];exact qW.Qx 0 _
     have F4:=F3.set0 (.pointer (some ⟨D,0,none⟩));rw[<-hw4]at F4;have a4:Ie wd g off w4:=(K4.cell (p:=⟨g,off,none⟩) (Lib.lt_of_cell a3) (λe=>hgD e)).trans a3;have hd4:=hd3.keep K4 (λb hb e=>hdD b hb e);clear F3 a3 hd3;clear hw4 c0 z0;have zai:=trivial
    rotate_left)
  all_goals first
    | (
    clear SX;unfold IK;simp only[nR,aj,ak,au];refine⟨a4,?_,trivial⟩;have c0:=F4.cell 0 _ rfl;have z0:=F4.frozen 0;go_wp2_with fail;obtain⟨w5,hw5⟩:∃x,x=w4.setCell ⟨DD,0,none⟩ (.pointer (some ⟨D,0,none⟩)):=⟨_,rfl⟩
    rw[<-hw5];have K5:Keep (nY DD) w4 w5:=by rw[hw5];exact qW.Qx 0 _
    have F5:=F4.set0 (.pointer (some ⟨D,0,none⟩));rw[<-hw5]at F5;have a5:Ie wd g off w5:=(K5.cell (p:=⟨g,off,none⟩) (Lib.lt_of_cell a4) (λe=>hgD e)).trans a4;have hd5:=hd4.keep K5 (λb hb e=>hdD b hb e);have hc5:=hc4.keep K5 (λe=>hcD e);clear F4 a4 hd4 hc4;clear hw5 c0 z0
    iterate 2 (unfold IK;simp only[nR,aj,ak,au];refine nJ (λK hK=> ?_);go_simp;first|(refine⟨_,λ_=>rfl,hK _ ?_⟩;clear hK K;refine nH ?_)|(refine hK _ ?_;clear hK K;refine nH ?_))
    have I8:=trivial)
    | (
    clear zai;unfold IK;simp only[nR,aj,ak,au];refine⟨a4,?_,trivial⟩;go_wp2_with fail;obtain⟨w5,hw5⟩:∃x,x=w4.alloc (.cells #[.int .i64 0] 48):=⟨_,rfl⟩
    obtain⟨C,hC⟩:∃x,x=w4.heap.size:=⟨_,rfl⟩
    rw[<-hw5,<-hC];have K5:Keep nM w4 w5:=by rw[hw5];exact(ah _ _).alloc _
    have nC:w5.heap[C]? =some (Obj.cells #[.int .i64 0] 48 (0,0)):=by rw[hw5,hC];exact aG _ _
    have Yi:w.heap.size<=C:=by rw[hC];exact F4.keep.size
    have hCD:C≠DD:=by omega
    have F5:=F4.oz K5;have a5:Ie wd g off w5:=(K5.cell (p:=⟨g,off,none⟩) (Lib.lt_of_cell a4) (λx=>x)).trans a4;have hd5:=hd4.keep K5 (λ_ _ x=>x);clear F4 a4 hd4;have hc5:oL w5 C 0:=nC;have hcD:=hCD;have h3:=Yi;clear hw5 hC nC
    iterate 2 (unfold IK;simp only[nR,aj,ak,au];refine nJ (λK hK=> ?_);go_simp;first|(refine⟨_,λ_=>rfl,hK _ ?_⟩;clear hK K;refine nH ?_)|(refine hK _ ?_;clear hK K;refine nH ?_))
    have I8:=trivial)
  all_goals (
   clear I8;unfold IK;simp only[nR,aj,ak,au];refine⟨a5,?_,trivial⟩;have c1:=F5.cell 1 _ rfl;have z1:=F5.frozen 1;go_wp2_with fail;obtain⟨w6,hw6⟩:∃x,x=w5.setCell ⟨DD,1,none⟩ (.pointer (some ⟨C,0,none⟩)):=⟨_,rfl⟩
   rw[<-hw6];have K6:Keep (nY DD) w5 w6:=by rw[hw6];exact qW.Qx 1 _
   have F6:=F5.set1 (.pointer (some ⟨C,0,none⟩));rw[<-hw6]at F6;have a6:Ie wd g off w6:=(K6.cell (p:=⟨g,off,none⟩) (Lib.lt_of_cell a5) (λe=>hgD e)).trans a5;have hd6:=hd5.keep K6 (λb hb e=>hdD b hb e);have hc6:=hc5.keep K6 (λe=>hcD e);clear F5 a5 hd5 hc5;clear hw6 c1 z1
   iterate 2 (unfold IK;simp only[nR,aj,ak,au];refine nJ (λK hK=> ?_);go_simp;first|(refine⟨_,λ_=>rfl,hK _ ?_⟩;clear hK K;refine nH ?_)|(refine hK _ ?_;clear hK K;refine nH ?_))
   have Og:=trivial)
  all_goals (
   clear Og;unfold IK;simp only[nR,aj,ak,au];refine⟨a6,?_,trivial⟩;have c3:=F6.cell 3 _ rfl;have z3:=F6.frozen 3;go_wp2_with fail;obtain⟨w7,hw7⟩:∃x,x=w6.setCell ⟨DD,3,none⟩ (.string sec):=⟨_,rfl⟩
   rw[<-hw7];have K7:Keep (nY DD) w6 w7:=by rw[hw7];exact qW.Qx 3 _
   have F7:=F6.zj8 (.string sec);rw[<-hw7]at F7;have a7:Ie wd g off w7:=(K7.cell (p:=⟨g,off,none⟩) (Lib.lt_of_cell a6) (λe=>hgD e)).trans a6;have hd7:=hd6.keep K7 (λb hb e=>hdD b hb e);have hc7:=hc6.keep K7 (λe=>hcD e);clear F6 a6 hd6 hc6;clear hw7 c3 z3
   iterate 2 (unfold IK;simp only[nR,aj,ak,au];refine nJ (λK hK=> ?_);go_simp;first|(refine⟨_,λ_=>rfl,hK _ ?_⟩;clear hK K;refine nH ?_)|(refine hK _ ?_;clear hK K;refine nH ?_))
   have IJ:=trivial)
  all_goals (
   clear IJ;unfold IK;simp only[nR,aj,ak,au];refine⟨a7,?_,trivial⟩;have c4:=F7.cell 4 _ rfl;have z4:=F7.frozen 4;go_wp2_with fail;obtain⟨w8,hw8⟩:∃x,x=w7.setCell ⟨DD,4,none⟩ (.slice none 0 0):=⟨_,rfl⟩
   rw[<-hw8];have K8:Keep (nY DD) w7 w8:=by rw[hw8];exact qW.Qx 4 _
   have F8:=F7.zj7 (.slice none 0 0);rw[<-hw8]at F8;have a8:Ie wd g off w8:=(K8.cell (p:=⟨g,off,none⟩) (Lib.lt_of_cell a7) (λe=>hgD e)).trans a7;have hd8:=hd7.keep K8 (λb hb e=>hdD b hb e);have hc8:=hc7.keep K8 (λe=>hcD e);clear F7 a7 hd7 hc7;clear hw8 c4 z4;unfold IK;go_wp2_with fail;go_meet
   case rel=>exact⟨D,S,C,ag ⟨F8,hd8,hc8,h1,h2,h3⟩⟩)
 case rest=>
  obtain⟨D,S,C,hF⟩:=hcut;have hrow:qh wc DD D C v2 sec (.slice none 0 0):=hF.out.part.row;have zmk:DD≠C:=λe=>by have:=hF.out.Yi;have:=lt_of_heap hDD;omega
  have hi:=NT sec wU bP YZ;have hsz:wz.heap.size<=w.heap.size:=HKz.out.size;have zmu:=lt_of_heap hDD;have hag:=ZB (R:=λBB W'=>∃P',pq wz W' P' BB D C (uU sec) ⟨wU,[],-1⟩ ((0:Nat):Int) II 60∧¬P' DD∧∀x,P' x->w.heap.size<=x) hrow zmk (λW KW=>by
   have KD:Keep (nY DD) wc W:=(qW.Qx 2 (.pointer none)).nK KW;have hd:=hF.out.dev.keep KD (λb hb e=>by
    have e:b=DD:=e;have:=hF.out.loD;have:=hF.out.loS;rcases hb with hb|hb|hb
    ·omega
    ·omega
    ·cases hb)
   have hc:=hF.out.cnt.keep KD (λe=>zmk e.symm);have hK:Keep nM wz W:=(HKz.out.trans (hF.out.part.keep.then KD) (λi hi e=>by have e:i=DD:=e;omega))
   have hsep:∀b,qg D S (.slice none 0 0) b∨b=C->wz.heap.size<=b:=λb hb=>by
    have:=hF.out.loD;have:=hF.out.loS;have:=hF.out.Yi;rcases hb with(hb|hb|hb)|hb
    ·omega
    ·omega
    ·cases hb
    ·omega
   have ho:=zlw (b:=II) (d:=⟨wU,[],-1⟩) hd hK hsep (n:=0) hc (by omega) hi.bsz zoQ HG0.out.rounds HG0.out.items (Zf hi) hi.texts hi.t200 ziW (.inl ⟨rfl,rfl⟩);rw[show Az II (uU sec).texts=II from rfl]at ho;refine ho.mono ?_;rintro e W' ⟨⟨BB,P',he,hb,hP⟩,K⟩;refine⟨BB,he,⟨P',hb,λhx=> ?_,λx hx=> ?_⟩,K⟩;rotate_left
   ·have h1:=hF.out.loD;have h2:=hF.out.loS;have h3:=hF.out.Yi;have h4:=KD.size;have h5:=hF.out.part.keep.size;rcases hP x hx with(hx|hx|hx)|hx|hx
    ·omega
    ·omega
    ·cases hx
    ·omega
    ·omega
   have h1:=hF.out.loD;have h2:=hF.out.loS;have h3:=hF.out.Yi;have h4:=KD.size;have h5:=hF.out.part.keep.size;rcases hP DD hx with(hx|hx|hx)|hx|hx
   ·omega
   ·omega
   ·cases hx
   ·omega
   ·omega)
  have HF:=ag hF.out;have Hag:=ag hag;clear hag hF hi;go_wp2_with fail;refine Hag.out.mono ?_;rintro e w' ⟨rfl,BB,W',⟨P',hb,hnP,hPn⟩,KW,hr2,rfl⟩;have KS:Keep (nY DD) W' (W'.setCell ⟨DD,2,none⟩ (.pointer (some ⟨BB,0,none⟩))):=(ah _ _).setCell (p:=⟨DD,2,none⟩) (.inl (show nY DD DD from rfl)) _;have hOD:wS W' (nY DD):=SN hr2 ⟨by decide,by decide,by decide,by decide,by decide⟩;obtain⟨B,S',wv,mb,wb,CC,nm,nw,L,W,hbi⟩:=hb;have zmp:¬nY DD mb:=λe=>by have e:mb=DD:=e;exact hbi.rd.now.row_ne hr2 e
  have zmK:=hbi.VY KS hOD (λx hx e=>by have e:x=DD:=e;subst e;exact hnP hx) zmp (λx hx e=>by have e:x=DD:=e;omega);have hDS:Ov wz (W'.setCell ⟨DD,2,none⟩ (.pointer (some ⟨BB,0,none⟩))) P' DD BB D C sec (uU sec) ⟨wU,[],-1⟩ 0 II 60 (.slice none 0 0) []:=
   ⟨⟨B,S',wv,mb,wb,CC,nm,nw,L,W,zmK⟩,hr2.Qk _,hnP,hDz,.inl ⟨rfl,none,0,rfl⟩,(λq hq=>by cases hq),NT sec wU bP YZ,rfl,by decide,.inl ⟨rfl,rfl⟩⟩
  have KF:Keep (nY DD) w (W'.setCell ⟨DD,2,none⟩ (.pointer (some ⟨BB,0,none⟩))):=((HF.out.part.keep.then (qW.Qx 2 (.pointer none))).trans KW (λi hi e=>by have e:i=C:=e;have:=HF.out.Yi;omega)).then KS;have HDS:=ag hDS;have HKF:=ag KF;clear hDS KF KS KW hbi zmK hOD zmp;go_wp2_with fail;go_ret;exact⟨rfl,⟨BB,D,C,P',HDS.out,hPn⟩,HKF.out⟩
theorem UZ{wz w:World}{DD g off c:Nat}(hDD:w.heap[DD]? =some (.cells #[.pointer none,.pointer none,.pointer none,.string ⟨#[]⟩,.slice none 0 0] 30 (0,0)))(hg:w.cell? ⟨g,off,none⟩=some (.string ⟨#[]⟩))(hgD:g≠DD)(zh2:Keep nM wz w)(hDz:wz.heap.size<=DD)(G0:pM wz)(R:oG w)(hRD:¬nY DD 0):
  ae 5 #[.pointer (some ⟨DD,0,none⟩),.slice (some ⟨g,off,none⟩) 1 c] w λe w'=>e= .returned (.string WS)∧(∃BB D C P',Ov wz w' P' DD BB D C Ij (uU Ij) ⟨wU,[],-1⟩ 0 II 60 (.slice none 0 0) [])∧Keep (nY DD) w w':=
 (Pz ⟨#[]⟩ (by decide) hDD hg hgD zh2 hDz G0 R hRD).mono λ_ _ ⟨h1,⟨BB,D,C,P',h2,_⟩,h3⟩=>⟨h1,⟨BB,D,C,P',h2⟩,h3⟩
def uG(n:Int):af:=⟨#[101,114,114,111,114,32]⟩++⟨(Lib.itoa n).toArray⟩
theorem catch_idle(p:Addr)(w:World):
  CallsD Tryz.prog 18 #[.pointer (some p)] .returning w λe u' w'=>e= .returned (.tuple #[])∧u'= .returning∧w'=w:=by
 refine callsD_of_wpS Tryz.func18 rfl λc₀ cs hu=> ?_;apply wpS_seq;apply wpS_region;simp[wpOpsS,go_sem,recoverD,hu,Tryz.ntmps18,Exit.thenS];refine wpS_of_wp ?_;have ht:(#[Value.pointer (some p)]++((Array.replicate 18 undef).setIfInBounds 3 (Value.nilIface)).setIfInBounds 0 (Value.nilIface):Array Value)= #[.pointer (some p),.nilIface,undef,undef,.nilIface,undef,undef,undef,undef,undef,undef,undef,undef,undef,undef,undef,undef,undef,undef]:=by simp[Array.replicate,kW]
 rw[ht];clear ht;generalize hQ:(λe a' w'=>bodyPostS _ _ _ _ _ e a' _ w')=Q;have HQ:=ag hQ;clear hQ;go_wp2_with fail;rw[<-HQ.out];cases c₀
 simp_all [bodyPostS,results,Tryz.results18]
theorem catch_panicking(X:Nat)(old:Value)(n:Int)(hn: -10000<n∧n<10000)(older:List PanicEntry)(w:World)(hx:w.heap[X]? =some (.cells #[old] 9 (0,0)))(T:uH w):
  CallsD Tryz.prog 18 #[.pointer (some ⟨X,0,none⟩)] (.panicking ({ v:=ou n,recovered:=false } ::older)) w λe u' w'=>
   e= .returned (.tuple #[])∧u'= .panicking ({ v:=ou n,recovered:=true } ::older)∧∃w1,Keep nM w w1∧w'=w1.setCell ⟨X,0,none⟩ (.string (uG n)):=by
 unfold ou;have hta:∀w,(Instr.typeAssert (.iface 53 (.agg #[.int .i64 n])) 20 53 true).run Tryz.prog w= .ok (.tuple #[.agg #[.int .i64 n],.bool true]) w:=λw=>by kernel_rfl
 have xZ:=λw1 (K:Keep nM w w1)=>uS n (by omega) (by omega) w1 (T.keep K (λx=>x));obtain⟨it,hit⟩:∃it:af,it=⟨(Lib.itoa n).toArray⟩:=⟨_,rfl⟩
 rw[<-hit]at xZ;have hlen:it.size<=30:=by have h5:=xE n hn;rw[hit];show(Lib.itoa n).length<=30;omega
 have FM:¬(9223372036854775807<(⟨#[101,114,114,111,114,32]⟩:af).size+it.size):=by
  have:(⟨#[101,114,114,111,114,32]⟩:af).size=6:=rfl
  omega
 have Ej:=ag xZ;have Hit:=ag hit;clear xZ hit hlen T;refine callsD_of_wpS Tryz.func18 rfl λc₀ cs hu=> ?_;apply wpS_seq;apply wpS_region;simp[wpOpsS,go_sem,recoverD,hu,Tryz.ntmps18,Exit.thenS];refine wpS_of_wp ?_;have ht:(#[Value.pointer (some ⟨X,0,none⟩)]++((Array.replicate 18 undef).setIfInBounds 3 (Value.iface 53 (.agg #[.int .i64 n]))).setIfInBounds 0 (Value.iface 53 (.agg #[.int .i64 n])):Array Value)= #[.pointer (some ⟨X,0,none⟩),.iface 53 (.agg #[.int .i64 n]),undef,undef,.iface 53 (.agg #[.int .i64 n]),undef,undef,undef,undef,undef,undef,undef,undef,undef,undef,undef,undef,undef,undef]:=by simp[Array.replicate,kW]
 rw[ht];clear ht;generalize hQ:(λe a' w'=>bodyPostS _ _ _ _ _ e a' _ w')=Q;have HQ:=ag hQ;clear hQ;go_wp2_with fail;have KA:Keep nM w (w.alloc (.cells #[.int .i64 n] 53)):=(ah _ _).alloc _;refine(Ej.out _ KA).mono ?_;rintro e w2 ⟨rfl,K2⟩;have hx2:=(KA.nK K2).heap hx (λx=>x);have hc2:w2.cell? ⟨X,0,none⟩=some old:=cellOf hx2 0 rfl;have hf2:w2.frozen? ⟨X,0,none⟩=false:=by simp[World.frozen?,hx2]
 have Jc:=ag (KA.nK K2);clear Ej KA K2 hx hx2 hta;go_wp2_with fail;rw[<-HQ.out];cases c₀
 simp_all [bodyPostS,results,Tryz.results18]
 exact⟨w2,Jc.out,by rw[uG,<-Hit.out]⟩
def Ji(x:Nat):Bool:=decide ((x:Int)=32)
theorem zgE(w:World):PredAt Tryz.prog 21 #[] encR Ji w:=by intro W x hb;unfold FnGives;show Calls _ _ #[.int .i32 x] _ _;go_enter Tryz.func21,Tryz.ntmps21;go_wp2_with fail;go_ret;exact⟨by unfold Ji;rfl,0,rfl⟩
def qK(s:af):List af:=Lib.goFieldsP Ji s
theorem EZ(s:af)(hs:s.size<=1000000)(w:World):
  ae 20 #[.string s,.func (.func 21) #[] #[]] w λe w'=>∃g,e= .returned (.slice (some ⟨g,0,none⟩) (qK s).length (qK s).length)∧w.heap.size<=g∧Strs w' (.slice (some ⟨g,0,none⟩) (qK s).length (qK s).length) (qK s)∧Keep nM w w':=by
 refine(Tryz.strings_FieldsFunc 21 #[] (enters_of Tryz.func21 (by kernel_rfl) rfl) Ji s w (by omega) (zgE w)).mono ?_;rintro e w' ⟨g,rfl,hg,hown,hb⟩;have hN:=nV.of hown;refine⟨g,rfl,hg,?_,Keep.vg hb⟩;exact Kq hN
theorem Gs{w:World}{p:Option Addr}{m c:Nat}{x:af}{l:List af}(S:Strs w (.slice p m c) (x::l)):∃g off,p=some ⟨g,off,none⟩∧g<w.heap.size∧∀i,i<l.length+1->w.cell? ⟨g,off+i,none⟩=some (.string ((x::l).getD i ⟨#[]⟩)):=by
 rcases S with⟨h1,_⟩|⟨g,off,c',hv,hg,hc⟩
 ·cases h1
 ·cases hv;exact⟨g,off,rfl,hg,λi hi=>hc i (by simpa using hi)⟩
def wW(w:World)(X:Nat):Prop:=w.heap[X]? =some (.cells #[.string ⟨#[]⟩] 9 (0,0))
theorem ziZ{w:World}{DD F:Nat}{s name r:af}{rest:List af}{S:Nat->Prop}{R:World->Prop}(hs:s.size<=1000000)(hW:qK s=name::rest)(hn:name.size<=maxLen)(uj:rest.length<=1000000)(hdo:qy DD name=BR DD F)(eF:∀args w,(callFunc F args).run Tryz.prog w= .ok (.enter F args) w)
  (hSX:¬S w.heap.size)
  (QB:∀w1,Keep nM w w1->wW w1 w.heap.size->∀q c,Strs w1 (.slice q rest.length c) rest->rest.length<=c->(∀x,(Value.slice q rest.length c).ownBlock=some x->w.heap.size<x)->
   ae F #[.pointer (some ⟨DD,0,none⟩),.slice q rest.length c] w1 λe w2=>e= .returned (.string r)∧R w2∧Keep S w1 w2)
  (hR:∀w2 v,wW w2 w.heap.size->R w2->R (w2.setCell ⟨w.heap.size,0,none⟩ (.string v))):
  ae 9 #[.pointer (some ⟨DD,0,none⟩),.string s] w λe w'=>e= .returned (.string r)∧R w'∧Keep S w w':=by
 have hmf:∀(fn:Fn) (first cap:Array Value) (w:World),(Instr.makeFunc fn first cap).run Tryz.prog w= .ok (.func fn first cap) w:=λ_ _ _ _=>rfl;have hbn:∀w,(binOp .eql 31 (.func (.func F) #[.pointer (some ⟨DD,0,none⟩)] #[]) .nilFunc).run Tryz.prog w= .ok (.bool false) w:=λw=>by kernel_rfl
 obtain⟨m,hm⟩:∃m,m=rest.length:=⟨_,rfl⟩
 obtain⟨N,hN⟩:∃N,N=m+1:=⟨_,rfl⟩
 have hWl:(qK s).length=N:=by rw[hW,hN,hm];rfl
 have Yd:=λw1=>EZ s hs w1;simp only[hWl]at Yd;rw[hW]at Yd;rw[<-hm]at QB uj;have Hff:=ag Yd;have WL:=ag QB;have HR:=ag hR;have Hm:=ag hm;have HN:=ag hN;have Hdo:=ag hdo;have HSX:=ag hSX;clear Yd QB hR hm hdo hW hWl hSX hN;go_enter_defers Tryz.func9,Tryz.ntmps9;go_wp2_with fail;obtain⟨X,hX⟩:∃X,X=w.heap.size:=⟨_,rfl⟩
 have hO0:wW (w.alloc (.cells #[.string ⟨#[]⟩] 9)) X:=by rw[hX];exact aG w _
 have K0:Keep nM w (w.alloc (.cells #[.string ⟨#[]⟩] 9)):=(ah _ _).alloc _;refine(Hff.out _).mono ?_;rintro e w1 ⟨g,rfl,hg,hst,K1⟩;have hgX:X<g:=by
  have:(w.alloc (.cells #[.string ⟨#[]⟩] 9)).heap.size=w.heap.size+1:=by simp
  omega
 have hO1:wW w1 X:=K1.heap hO0 (λx=>x);have K01:=K0.nK K1;have hc0:w1.cell? ⟨g,0,none⟩=some (.string name):=by obtain⟨g',off,h1,_,h3⟩:=Gs hst;cases h1;exact h3 0 (by omega)
 have hrest:Strs w1 (.slice (some ⟨g,1,none⟩) m m) rest:=by
  obtain⟨g',off,h1,h2,h3⟩:=Gs hst;cases h1;by_cases h0:rest= []
  ·exact .inl ⟨h0,_,_,by rw[Hm.out,h0];rfl⟩
  ·refine .inr ⟨g,1,m,by rw[<-Hm.out],h2,λi hi=> ?_⟩;have h4:=h3 (i+1) (by have:=Hm.out;omega);rw[show 0+(i+1)=1+i by omega]at h4;rw[h4];rfl
 have hdd:=Xm DD name hn w1;rw[Hdo.out,BR]at hdd;have Hdd:=ag hdd;have HX:=ag hX;have HO1:=ag hO1;have HK:=ag K01;have YF:=ag hrest;have hj0:¬N=0:=by have:=HN.out;omega
 have hj1:0<N:=by omega
 have hj2:1<=N:=by omega
 have hj3:((N:Int)==0)=false:=by simp;omega
 have hj4:(1:Int)<=N:=by omega
 have hj5:(0:Int)<N:=by omega
 have HgX:=ag hgX;clear hdd hX hO0 hO1 K0 K1 K01 hrest hst hgX Hff;go_wp2_with fail;refine Hdd.out.mono ?_;rintro e w2 ⟨rfl,K2⟩;have Jc:=ag (HK.out.nK K2);have HO2:Hid (wW w2 X):=ag (K2.heap HO1.out (λx=>x));have zbe:=ag (YF.out.keep K2 (λ_ _ x=>x));clear Hdd K2 HK HO1 YF hc0;by_cases h1:N=1
 ·have hm0:m=0:=by have:=HN.out;omega
  have hr0:rest= []:=aU (by rw[<-Hm.out];exact hm0);have hcm:=WL.out w2 Jc.out (by rw[<-HX.out];exact HO2.out) (some ⟨g,0,none⟩) 0 (.inl ⟨hr0,_,_,by rw[hm0]⟩) (by omega) (λx hx=>by obtain rfl:g=x:=aH hx;have:=HX.out;have:=HgX.out;omega);rw[hm0]at hcm;have Ug:=ag hcm;clear hcm hm0 hr0 WL hj0 hj1 hj2 hj3 hj4 hj5;subst h1;go_wp2_with fail;refine Ug.out.mono ?_;rintro e w3 ⟨rfl,hR3,K3⟩;have hO3:wW w3 X:=K3.heap HO2.out (by rw[HX.out];exact HSX.out);rw[HX.out]at hO3;have c3:w3.cell? ⟨w.heap.size,0,none⟩=some (.string ⟨#[]⟩):=cellOf hO3 0 rfl;have f3:w3.frozen? ⟨w.heap.size,0,none⟩=false:=by have h2:w3.heap[w.heap.size]? =some (.cells _ _ (0,0)):=hO3;simp[World.frozen?,h2]
  have hR4:=HR.out w3 r hO3 hR3;have KF:Keep S w (w3.setCell ⟨w.heap.size,0,none⟩ (.string r)):=((Jc.out.vN (S:=S)).then K3).setCell (p:=⟨w.heap.size,0,none⟩) (.inr (show w.heap.size<=w.heap.size from aF _)) _;have HR4:=ag hR4;have HKF:=ag KF;have c4:(w3.setCell ⟨w.heap.size,0,none⟩ (.string r)).cell? ⟨w.heap.size,0,none⟩=some (.string r):=fZ _ _ _ c3;clear Ug hO3 hR3 K3 hR4 KF;go_wp2_with fail;refine mD (f:=18) (args:= #[.pointer (some ⟨w.heap.size,0,none⟩)]) (by simp) (by simp[go_sem]) ?_;refine(catch_idle ⟨w.heap.size,0,none⟩ _).mono ?_;rintro e u' w4 ⟨rfl,rfl,rfl⟩;simp[Leaves,settle,results,Tryz.results9,go_sem,c4];exact⟨HR4.out,HKF.out⟩
 ·have hcm:=WL.out w2 Jc.out (by rw[<-HX.out];exact HO2.out) (some ⟨g,1,none⟩) m zbe.out (by omega) (λx hx=>by obtain rfl:g=x:=aH hx;have:=HX.out;have:=HgX.out;omega);have hN1:N-1=m:=by have:=HN.out;omega
  rw[<-hN1]at hcm;have Ug:=ag hcm;have h11:¬1=N:=λe=>h1 e.symm;clear hcm WL hN1;go_wp2_with fail;refine Ug.out.mono ?_;rintro e w3 ⟨rfl,hR3,K3⟩;have hO3:wW w3 X:=K3.heap HO2.out (by rw[HX.out];exact HSX.out);rw[HX.out]at hO3;have c3:w3.cell? ⟨w.heap.size,0,none⟩=some (.string ⟨#[]⟩):=cellOf hO3 0 rfl;have f3:w3.frozen? ⟨w.heap.size,0,none⟩=false:=by have h2:w3.heap[w.heap.size]? =some (.cells _ _ (0,0)):=hO3;simp[World.frozen?,h2]
  have hR4:=HR.out w3 r hO3 hR3;have KF:Keep S w (w3.setCell ⟨w.heap.size,0,none⟩ (.string r)):=((Jc.out.vN (S:=S)).then K3).setCell (p:=⟨w.heap.size,0,none⟩) (.inr (show w.heap.size<=w.heap.size from aF _)) _;have HR4:=ag hR4;have HKF:=ag KF;have c4:(w3.setCell ⟨w.heap.size,0,none⟩ (.string r)).cell? ⟨w.heap.size,0,none⟩=some (.string r):=fZ _ _ _ c3;clear Ug hO3 hR3 K3 hR4 KF;go_wp2_with fail;refine mD (f:=18) (args:= #[.pointer (some ⟨w.heap.size,0,none⟩)]) (by simp) (by simp[go_sem]) ?_;refine(catch_idle ⟨w.heap.size,0,none⟩ _).mono ?_;rintro e u' w4 ⟨rfl,rfl,rfl⟩;simp[Leaves,settle,results,Tryz.results9,go_sem,c4];exact⟨HR4.out,HKF.out⟩
theorem zg9{w:World}{DD F:Nat}{s name:af}(n:Int)(hn9: -10000<n∧n<10000)(T:uH w){rest:List af}{S:Nat->Prop}{R:World->Prop}(hs:s.size<=1000000)(hW:qK s=name::rest)(hn:name.size<=maxLen)(uj:rest.length<=1000000)(hdo:qy DD name=BR DD F)(eF:∀args w,(callFunc F args).run Tryz.prog w= .ok (.enter F args) w)
  (hSX:¬S w.heap.size)
  (QB:∀w1,Keep nM w w1->wW w1 w.heap.size->∀q c,Strs w1 (.slice q rest.length c) rest->rest.length<=c->(∀x,(Value.slice q rest.length c).ownBlock=some x->w.heap.size<x)->
   ae F #[.pointer (some ⟨DD,0,none⟩),.slice q rest.length c] w1 λe w2=>e= .panicked [{ v:=ou n,recovered:=false }]∧R w2∧Keep S w1 w2)
  (hRK:∀a b,R a->Keep nM a b->R b) (hT:¬S 5)
  (hR:∀w2 v,wW w2 w.heap.size->R w2->R (w2.setCell ⟨w.heap.size,0,none⟩ (.string v))):
  ae 9 #[.pointer (some ⟨DD,0,none⟩),.string s] w λe w'=>e= .returned (.string (uG n))∧R w'∧Keep S w w':=by
 have hmf:∀(fn:Fn) (first cap:Array Value) (w:World),(Instr.makeFunc fn first cap).run Tryz.prog w= .ok (.func fn first cap) w:=λ_ _ _ _=>rfl;have hbn:∀w,(binOp .eql 31 (.func (.func F) #[.pointer (some ⟨DD,0,none⟩)] #[]) .nilFunc).run Tryz.prog w= .ok (.bool false) w:=λw=>by kernel_rfl
 obtain⟨m,hm⟩:∃m,m=rest.length:=⟨_,rfl⟩
 obtain⟨N,hN⟩:∃N,N=m+1:=⟨_,rfl⟩
 have hWl:(qK s).length=N:=by rw[hW,hN,hm];rfl
 have Yd:=λw1=>EZ s hs w1;simp only[hWl]at Yd;rw[hW]at Yd;rw[<-hm]at QB uj;have Hff:=ag Yd;have WL:=ag QB;have HR:=ag hR;have HRK:=ag hRK;have HTT:=ag T;have Hm:=ag hm;have HN:=ag hN;have Hdo:=ag hdo;have HSX:=ag hSX;clear Yd QB hR hRK T hm hdo hW hWl hSX hN;go_enter_defers Tryz.func9,Tryz.ntmps9;go_wp2_with fail;obtain⟨X,hX⟩:∃X,X=w.heap.size:=⟨_,rfl⟩
 have hO0:wW (w.alloc (.cells #[.string ⟨#[]⟩] 9)) X:=by rw[hX];exact aG w _
 have K0:Keep nM w (w.alloc (.cells #[.string ⟨#[]⟩] 9)):=(ah _ _).alloc _;refine(Hff.out _).mono ?_;rintro e w1 ⟨g,rfl,hg,hst,K1⟩;have hgX:X<g:=by
  have:(w.alloc (.cells #[.string ⟨#[]⟩] 9)).heap.size=w.heap.size+1:=by simp
  omega
 have hO1:wW w1 X:=K1.heap hO0 (λx=>x);have K01:=K0.nK K1;have hc0:w1.cell? ⟨g,0,none⟩=some (.string name):=by obtain⟨g',off,h1,_,h3⟩:=Gs hst;cases h1;exact h3 0 (by omega)
 have hrest:Strs w1 (.slice (some ⟨g,1,none⟩) m m) rest:=by
  obtain⟨g',off,h1,h2,h3⟩:=Gs hst;cases h1;by_cases h0:rest= []
  ·exact .inl ⟨h0,_,_,by rw[Hm.out,h0];rfl⟩
  ·refine .inr ⟨g,1,m,by rw[<-Hm.out],h2,λi hi=> ?_⟩;have h4:=h3 (i+1) (by have:=Hm.out;omega);rw[show 0+(i+1)=1+i by omega]at h4;rw[h4];rfl
 have hdd:=Xm DD name hn w1;rw[Hdo.out,BR]at hdd;have Hdd:=ag hdd;have HX:=ag hX;have HO1:=ag hO1;have HK:=ag K01;have YF:=ag hrest;have hj0:¬N=0:=by have:=HN.out;omega
 have hj1:0<N:=by omega
 have hj2:1<=N:=by omega
 have hj3:((N:Int)==0)=false:=by simp;omega
 have hj4:(1:Int)<=N:=by omega
 have hj5:(0:Int)<N:=by omega
 have HgX:=ag hgX;clear hdd hX hO0 hO1 K0 K1 K01 hrest hst hgX Hff;go_wp2_with fail;refine Hdd.out.mono ?_;rintro e w2 ⟨rfl,K2⟩;have Jc:=ag (HK.out.nK K2);have HO2:Hid (wW w2 X):=ag (K2.heap HO1.out (λx=>x));have zbe:=ag (YF.out.keep K2 (λ_ _ x=>x));clear Hdd K2 HK HO1 YF hc0;by_cases h1:N=1
 ·have hm0:m=0:=by have:=HN.out;omega
  have hr0:rest= []:=aU (by rw[<-Hm.out];exact hm0);have hcm:=WL.out w2 Jc.out (by rw[<-HX.out];exact HO2.out) (some ⟨g,0,none⟩) 0 (.inl ⟨hr0,_,_,by rw[hm0]⟩) (by omega) (λx hx=>by obtain rfl:g=x:=aH hx;have:=HX.out;have:=HgX.out;omega);rw[hm0]at hcm;have Ug:=ag hcm;clear hcm hm0 hr0 WL hj0 hj1 hj2 hj3 hj4 hj5;subst h1;go_wp2_with fail;refine Ug.out.mono ?_;rintro e w3 ⟨rfl,hR3,K3⟩;have hO3:wW w3 X:=K3.heap HO2.out (by rw[HX.out];exact HSX.out);rw[HX.out]at hO3;have hRK:=HRK.out;have KW:=(Jc.out.vN (S:=S)).then K3;have hT3:uH w3:=HTT.out.keep KW hT;have HR3:=ag hR3;have HO3:=ag hO3;have MN:=ag KW;clear Ug hO3 hR3 K3 KW hRK;go_wp2_with fail;refine mD (f:=18) (args:= #[.pointer (some ⟨w.heap.size,0,none⟩)]) (by simp) (by simp[go_sem]) ?_;refine(catch_panicking w.heap.size (.string ⟨#[]⟩) n hn9 [] w3 HO3.out hT3).mono ?_;rintro e u' w4 ⟨rfl,rfl,w5,K5,rfl⟩;have hO5:wW w5 w.heap.size:=K5.heap HO3.out (λx=>x);have c5:w5.cell? ⟨w.heap.size,0,none⟩=some (.string ⟨#[]⟩):=cellOf hO5 0 rfl;have hR4:=HR.out w5 (uG n) hO5 (HRK.out w3 w5 HR3.out K5);have KF:Keep S w (w5.setCell ⟨w.heap.size,0,none⟩ (.string (uG n))):=((MN.out.nK K5)).setCell (p:=⟨w.heap.size,0,none⟩) (.inr (show w.heap.size<=w.heap.size from aF _)) _;have c4:(w5.setCell ⟨w.heap.size,0,none⟩ (.string (uG n))).cell? ⟨w.heap.size,0,none⟩=some (.string (uG n)):=fZ _ _ _ c5;simp[Leaves,settle,results,Tryz.results9,go_sem,c4];exact⟨hR4,KF⟩
 ·have hcm:=WL.out w2 Jc.out (by rw[<-HX.out];exact HO2.out) (some ⟨g,1,none⟩) m zbe.out (by omega) (λx hx=>by obtain rfl:g=x:=aH hx;have:=HX.out;have:=HgX.out;omega);have hN1:N-1=m:=by have:=HN.out;omega
  rw[<-hN1]at hcm;have Ug:=ag hcm;have h11:¬1=N:=λe=>h1 e.symm;clear hcm WL hN1;go_wp2_with fail;refine Ug.out.mono ?_;rintro e w3 ⟨rfl,hR3,K3⟩;have hO3:wW w3 X:=K3.heap HO2.out (by rw[HX.out];exact HSX.out);rw[HX.out]at hO3;have hRK:=HRK.out;have KW:=(Jc.out.vN (S:=S)).then K3;have hT3:uH w3:=HTT.out.keep KW hT;have HR3:=ag hR3;have HO3:=ag hO3;have MN:=ag KW;clear Ug hO3 hR3 K3 KW hRK;go_wp2_with fail;refine mD (f:=18) (args:= #[.pointer (some ⟨w.heap.size,0,none⟩)]) (by simp) (by simp[go_sem]) ?_;refine(catch_panicking w.heap.size (.string ⟨#[]⟩) n hn9 [] w3 HO3.out hT3).mono ?_;rintro e u' w4 ⟨rfl,rfl,w5,K5,rfl⟩;have hO5:wW w5 w.heap.size:=K5.heap HO3.out (λx=>x);have c5:w5.cell? ⟨w.heap.size,0,none⟩=some (.string ⟨#[]⟩):=cellOf hO5 0 rfl;have hR4:=HR.out w5 (uG n) hO5 (HRK.out w3 w5 HR3.out K5);have KF:Keep S w (w5.setCell ⟨w.heap.size,0,none⟩ (.string (uG n))):=((MN.out.nK K5)).setCell (p:=⟨w.heap.size,0,none⟩) (.inr (show w.heap.size<=w.heap.size from aF _)) _;have c4:(w5.setCell ⟨w.heap.size,0,none⟩ (.string (uG n))).cell? ⟨w.heap.size,0,none⟩=some (.string (uG n)):=fZ _ _ _ c5;simp[Leaves,settle,results,Tryz.results9,go_sem,c4];exact⟨hR4,KF⟩
structure oI where
 dev:pG
 n:Int
 base:Option (nT×oZ)
 secret:af
 image:List af
abbrev Ans:=Except Int af
def yg(s:af):Option Int:=yU s.data.toList
def wV:List af->Option (List Int)
 | []=>some []
 | s::r=>match yg s with
  | none=>none
  | some v=>match wV r with
   | none=>none
   | some l=>some (v::l)
def Dq(n:Int):af:=⟨(Lib.itoa n).toArray⟩
def tH(st:oI):Int×oI:=
 match yS st.secret st.dev.now st.n with
 | none=>(15,{ st with base:=none })
 | some (V,m)=>match Ad V.texts with
  | none=>(15,{ st with base:=none,n:=m })
  | some b=>(0,{ st with base:=some (V,b),n:=m })
def MQ(w:af):oI:=⟨⟨wU,[],-1⟩,0,some (uU (Wy w),II),Wy w,[]⟩
def JS(st:oI):List af->Ans×oI
 | [w]=>(.ok WS,MQ w)
 | _=>(.error 3,st)
def vV(st:oI):List af->Ans×oI
 | [w]=>match yg w with
  | none=>(.error 3,st)
  | some n=>match st.base with
   | none=>(.error 8,st)
   | some (V,b)=>if (vZ b n).1=0 then(.ok Xg,{ st with base:=some (V,(vZ b n).2) })else(.error (vZ b n).1,st)
 | _=>(.error 3,st)
def tagV(w:af):af:=⟨(Lib.trimPrefix w.data.toList [45]).toArray⟩
def uF(st:oI):List af->Ans×oI
 | a::t::r=>match wV r with
  | none=>(.error 3,st)
  | some l=>match st.base with
   | none=>(.error 8,st)
   | some (V,b)=>if (xY b (a,tagV t,l)).1=0 then(.ok QU,{ st with base:=some (V,(xY b (a,tagV t,l)).2) })else(.error (xY b (a,tagV t,l)).1,st)
 | _=>(.error 3,st)
def zba:af:=⟨#[100,101,108]⟩
def Bv(st:oI):List af->Ans×oI
 | [w]=>match st.base with
  | none=>(.error 8,st)
  | some (V,b)=>if (C9 b w).1=0 then(.ok zba,{ st with base:=some (V,(C9 b w).2) })else(.error (C9 b w).1,st)
 | _=>(.error 3,st)
def Xa:af:=⟨#[117,110,100,111]⟩
def Bd(st:oI):List af->Ans×oI
 | []=>match st.base with
  | none=>(.error 8,st)
  | some (V,b)=>(.ok Xa,{ st with base:=some (V,Om b) })
 | _=>(.error 3,st)
def rM(st:oI):List af->Ans×oI
 | []=>match st.base with
  | none=>(.error 8,st)
  | some (V,b)=>if b.nS=0 then(.error 6,st)else
   if (pX V st.dev st.n b).err=0 then(.ok (⟨#[99,111,109,109,105,116,32]⟩++Dq (pX V st.dev st.n b).v.now.count),{ st with base:=some ((pX V st.dev st.n b).v,Ot b),dev:=(pX V st.dev st.n b).dev,n:=(pX V st.dev st.n b).n })
   else(.error (pX V st.dev st.n b).err,{ st with base:=some ((pX V st.dev st.n b).v,b),dev:=(pX V st.dev st.n b).dev,n:=(pX V st.dev st.n b).n })
 | _=>(.error 3,st)
def wR(st:oI):List af->Ans×oI
 | []=>match st.base with
  | none=>(.error 8,st)
  | some (V,b)=>((if (tK V st.dev st.n).err=0 then .ok (⟨#[116,117,114,110,32]⟩++Dq (tK V st.dev st.n).v.now.nP)else .error (tK V st.dev st.n).err),{ st with base:=some ((tK V st.dev st.n).v,b),dev:=(tK V st.dev st.n).dev,n:=(tK V st.dev st.n).n })
 | _=>(.error 3,st)
def yC(st:oI):List af->Ans×oI
 | []=>match st.base with
  | none=>(.error 8,st)
  | some (V,b)=>(.ok (⟨#[99,111,117,110,116,32]⟩++Dq V.now.count),st)
 | _=>(.error 3,st)
def xe(st:oI):List af->Ans×oI
 | []=>match st.base with
  | none=>(.error 8,st)
  | some (V,b)=>(.ok (⟨#[101,112,111,99,104,32]⟩++Dq V.now.nP),st)
 | _=>(.error 3,st)
def Af(x:pR):List UInt8:=32::x.1.data.toList++58::x.2.1.data.toList++x.2.2.flatMap λn=>44::Lib.itoa n
def Gy(l:List pR):af:=⟨([105,116,101,109,115]++l.flatMap Af).toArray⟩
def xR(st:oI):List af->Ans×oI
 | []=>match st.base with
  | none=>(.error 8,st)
  | some (V,b)=>(.ok (Gy (o9 b.now)),st)
 | _=>(.error 3,st)
def ui(x:af×Int):List UInt8:=32::x.1.data.toList++58::Lib.itoa x.2
def wZ(l:List (af×Int)):af:=⟨([102,105,110,100]++l.flatMap ui).toArray⟩
def qH(st:oI):List af->Ans×oI
 | a::t::r=>match yg a with
  | none=>(.error 3,st)
  | some k=>match wV r with
   | none=>(.error 3,st)
   | some l=>match st.base with
    | none=>(.error 8,st)
    | some (V,b)=>if b.nS=0 then(.error 6,st)else if DN b.nS l k=false then(.error 1,st)else(.ok (wZ (FH (o9 b.now) l k (tagV t))),st)
 | _=>(.error 3,st)
def zaU(st:oI):Int:=match st.base with
 | none=>0
 | some (V,_)=>V.now.count
def yf(st:oI):List af->Ans×oI
 | []=>((if (tH st).1=0 then .ok (⟨#[111,112,101,110,32]⟩++Dq (zaU (tH st).2))else .error (tH st).1),(tH st).2)
 | _=>(.error 3,st)
def Xk:af:=⟨#[102,117,115,101]⟩
def Be(st:oI):List af->Ans×oI
 | [w]=>match yg w with
  | none=>(.error 3,st)
  | some n=>(.ok Xk,{ st with dev:=⟨st.dev.sure,st.dev.wait,max n (-1)⟩ })
 | _=>(.error 3,st)
def Es(s:af):Nat->Nat->List Nat
 | 0,_=> []
 | f+1,p=>if p<s.size then(Utf8.decode s p).1::Es s f (p+(Utf8.decode s p).2)else []
def Nj(w:af):List Bool:=(Es w w.size 0).map λc=>decide (c=49)
def Gl(st:oI)(w:af):oI:= { st with dev:=⟨qo st.dev.sure st.dev.wait (Nj w) st.dev.wait.length,[],-1⟩ }
def xg(st:oI):List af->Ans×oI
 | [w]=>((if (tH (Gl st w)).1=0 then .ok (⟨#[99,114,97,115,104,32]⟩++Dq (zaU (tH (Gl st w)).2))else .error (tH (Gl st w)).1),(tH (Gl st w)).2)
 | _=>(.error 3,st)
def BI(st:oI):List af->Ans×oI
 | []=>(.ok Rq,{ st with image:=st.dev.sure })
 | _=>(.error 3,st)
def JU(st:oI):List af->Ans×oI
 | []=>(.ok za8,{ st with dev:=⟨FI st.image,[],st.dev.oD⟩ })
 | _=>(.error 3,st)
section
variable {w0 w w':World}{P:Nat->Prop}{DD BB D C:Nat}{secret:af}{V:nT}{d:pG}{n:Nat}{b:oZ}{k:Nat}{iv:Value}{img:List af}
def Own(w0 w:World)(P:Nat->Prop)(DD:Nat)(iv:Value)(x:Nat):Prop:=w0.heap.size<=x∧x≠DD∧¬P x∧(∀g,iv.ownBlock=some g->g≠x)∧(∀c t f,w.heap[x]? =some (.cells c t f)->Q5 t)∧∀q L,¬oJ w x q L
theorem zj5.Qm{B:List af}{bv:Value}(h:zj5 w0 w P DD D C secret bv iv B n):∀x c f,P x->w.heap[x]? =some (.cells c 5 f)->False:=by
 obtain⟨S,wv,fu,hd,h1⟩:=h.dev;intro x c f hx hh;rcases(h1 x).1 hx with hx|rfl
 ·obtain⟨c',t',f',e5,e6⟩:=wJ hd x hx;rw[<-oN hh e5]at e6;rcases e6 with e6|e6|e6<;>exact absurd e6 (by decide)
 ·exact absurd (oN hh h.cnt) (by decide)
theorem pq.Qm{n':Int}(h:pq w0 w P BB D C V d n' b k):∀x c f,P x->w.heap[x]? =some (.cells c 5 f)->False:=by
 obtain⟨B,S,wv,mb,wb,CC,nm,nw,L,W,h⟩:=h;intro x c f hx hh;rcases(h.blocks x).1 hx with(hx|rfl|rfl)|rfl|rfl
 ·obtain⟨c',t',f',h1,h2⟩:=wJ h.vn.dev x hx;rw[<-oN hh h1]at h2;rcases h2 with h2|h2|h2<;>exact absurd h2 (by decide)
 ·exact absurd (oN hh h.vn.yX.row) (by decide)
 ·exact absurd (oN hh h.vn.cnt) (by decide)
 ·exact absurd (oN hh h.row) (by decide)
 ·exact h.rd.wait.row_ne hh rfl
end
def IG(an:List af):List UInt8:=an.flatMap λa=>a.data.toList++ [10]
theorem zd8{an:List af}{k:Nat}(h:k<an.length):IG (an.take (k+1))=IG (an.take k)++(an[k]++⟨#[10]⟩:af).data.toList:=by rw[IG,IG,List.take_add_one,cZ,aC h];simp
theorem zjr(a:af):(a++⟨#[10]⟩:af).data.toList.length=a.size+1:=by have h:(a++⟨#[10]⟩:af).size=a.size+1:=aX;exact h
section
open Go.Shelf
attribute [local go_sem] jF
def Free(w W:World)(Q:Nat->Prop)(x:Nat):Prop:=w.heap.size<=x∧¬Q x∧(∀c t f,W.heap[x]? =some (.cells c t f)->Q5 t)∧∀q L,¬oJ W x q L
structure SesSt(w:World)(ls an:List af)(St:Nat->(Nat->Prop)->Nat->World->Prop):Prop where
 start:∀W BB D C P DD,Ov w W P DD BB D C Ij (uU Ij) ⟨wU,[],-1⟩ 0 II 60 (.slice none 0 0) []->St 0 (λx=>P x∨x=DD) DD W
 line:∀k Q DD W,k<ls.length->Keep nM w W->St k Q DD W->ae 9 #[.pointer (some ⟨DD,0,none⟩),.string (ls.getD k ⟨#[]⟩)] W λe W'=>e= .returned (.string (an.getD k ⟨#[]⟩))∧(∃Q',St (k+1) Q' DD W'∧Grow W Q Q')∧Keep Q W W'
 other:∀k Q DD W W' X,St k Q DD W->Keep X W W'->(∀x,X x->x<W.heap.size->Free w W Q x)->St k Q DD W'
 own:∀k Q DD W,St k Q DD W->∀x,Q x->w.heap.size<=x∧x<W.heap.size
 bytes:∀k Q DD W,St k Q DD W->∀x c f,Q x->W.heap[x]? =some (.cells c 5 f)->False
theorem pq.znK{w0 w:World}{P:Nat->Prop}{BB D C:Nat}{V:nT}{d:pG}{n:Int}{b:oZ}{k:Nat}(h:pq w0 w P BB D C V d n b k):∀x c f,P x->w.heap[x]? =some (.cells c 24 f)->False:=by
 obtain⟨B,S,wv,mb,wb,CC,nm,nw,L,W,h⟩:=h;intro x c f hx hh;rcases(h.blocks x).1 hx with(hx|rfl|rfl)|rfl|rfl
 ·obtain⟨c',t',f',h1,h2⟩:=wJ h.vn.dev x hx;rw[<-oN hh h1]at h2;rcases h2 with h2|h2|h2<;>exact absurd h2 (by decide)
 ·exact absurd (oN hh h.vn.yX.row) (by decide)
 ·exact absurd (oN hh h.vn.cnt) (by decide)
 ·exact absurd (oN hh h.row) (by decide)
 ·exact h.rd.wait.row_ne hh rfl
end
structure QP(w:World)(T:World->(Nat->Prop)->Prop):Prop where
 other:∀W W' Q X,T W Q->Keep X W W'->(∀x,X x->x<W.heap.size->Free w W Q x)->T W' Q
 own:∀W Q,T W Q->∀x,Q x->w.heap.size<=x∧x<W.heap.size
 bytes:∀W Q,T W Q->∀x c f,Q x->W.heap[x]? =some (.cells c 5 f)->False
theorem QP.oz{w:World}{T:World->(Nat->Prop)->Prop}(S:QP w T){W W':World}{Q:Nat->Prop}(h:T W Q)(K:Keep nM W W'):T W' Q:=S.other _ _ _ _ h K λ_ x=>x.elim
section
variable {w W:World}{DD:Nat}{Q:Nat->Prop}{T T':World->(Nat->Prop)->Prop}
theorem Y6(hw:w.heap.size<=W.heap.size){w2:World}{Q':Nat->Prop}(hQ:∀x,Q x->x<W.heap.size)(hg:∀x,Q' x->Q x∨W.heap.size<x)(hO:wW w2 W.heap.size):∀x,nY W.heap.size x->x<w2.heap.size->Free w w2 Q' x:=by
 intro x hx hl;obtain rfl:x=W.heap.size:=hx;have h2:w2.heap[W.heap.size]? =some (.cells #[.string ⟨#[]⟩] 9 (0,0)):=hO;refine⟨hw,λhq=> ?_,λc t f hh=> ?_,λq M hm=> ?_⟩
 ·rcases hg _ hq with h|h
  ·have:=hQ _ h;omega
  ·omega
 ·rw[h2]at hh;cases hh;exact⟨by decide,by decide,by decide,by decide,by decide⟩
 ·obtain⟨es,cl,h8,_⟩:=hm;rw[h2]at h8;cases h8
theorem zgC(S:QP w T)(S':QP w T')(K0:Keep nM w W)(hT:T W Q){s name r:af}{F:Nat}{rest:List af}(hs:s.size<=1000000)(hW:qK s=name::rest)(hn:name.size<=maxLen)(uj:rest.length<=1000000)(hdo:qy DD name=BR DD F)(eF:∀args w,(callFunc F args).run Tryz.prog w= .ok (.enter F args) w)
  (QB:∀w1,T w1 Q->Keep nM w w1->∀q c,Strs w1 (.slice q rest.length c) rest->rest.length<=c->(∀x,(Value.slice q rest.length c).ownBlock=some x->¬Q x)->
   ae F #[.pointer (some ⟨DD,0,none⟩),.slice q rest.length c] w1 λe w2=>e= .returned (.string r)∧(∃Q',T' w2 Q'∧Grow w1 Q Q')∧Keep Q w1 w2):
  ae 9 #[.pointer (some ⟨DD,0,none⟩),.string s] W λe W'=>e= .returned (.string r)∧(∃Q',T' W' Q'∧Grow W Q Q')∧Keep Q W W':=by
 have hlt:=λx hx=>(S.own W Q hT x hx).2;refine(ziZ (r:=r) (S:=Q) (R:=λw2=>∃Q',T' w2 Q'∧∀x,Q' x->Q x∨W.heap.size<x) hs hW hn uj hdo eF (λhq=>by have:=hlt _ hq;omega) (λw1 K1 hO q c hst hc hx=> ?_) (λw2 v hO hR=> ?_)).mono ?_
 ·refine(QB w1 (S.oz hT K1) (K0.nK K1) q c hst hc (λx hb hq=>by have:=hx x hb;have:=hlt x hq;omega)).mono ?_;rintro e w2 ⟨he,⟨Q',h1,h2⟩,K⟩;have hl1:W.heap.size<w1.heap.size:=lt_of_heap hO;exact⟨he,⟨Q',h1,λx hx=>(h2 x hx).imp id (λh=>by omega)⟩,K⟩
 ·obtain⟨Q',h1,h2⟩:=hR;exact⟨Q',S'.other w2 _ Q' _ h1 ((ah (nY W.heap.size) w2).set1 0 (.string v)) (Y6 K0.size hlt h2 hO),h2⟩
 ·rintro e w' ⟨he,⟨Q',h1,h2⟩,K⟩;exact⟨he,⟨Q',h1,λx hx=>(h2 x hx).imp id (λh=>by omega)⟩,K⟩
theorem zdN(S:QP w T)(S':QP w T')(K0:Keep nM w W)(hT:T W Q)(G:uH w)(n:Int)(hn9: -10000<n∧n<10000){s name:af}{F:Nat}{rest:List af}(hs:s.size<=1000000)(hW:qK s=name::rest)(hn:name.size<=maxLen)(uj:rest.length<=1000000)(hdo:qy DD name=BR DD F)(eF:∀args w,(callFunc F args).run Tryz.prog w= .ok (.enter F args) w)
  (QB:∀w1,T w1 Q->Keep nM w w1->∀q c,Strs w1 (.slice q rest.length c) rest->rest.length<=c->(∀x,(Value.slice q rest.length c).ownBlock=some x->¬Q x)->
   ae F #[.pointer (some ⟨DD,0,none⟩),.slice q rest.length c] w1 λe w2=>e= .panicked [{ v:=ou n,recovered:=false }]∧(∃Q',T' w2 Q'∧Grow w1 Q Q')∧Keep Q w1 w2):
  ae 9 #[.pointer (some ⟨DD,0,none⟩),.string s] W λe W'=>e= .returned (.string (uG n))∧(∃Q',T' W' Q'∧Grow W Q Q')∧Keep Q W W':=by
 have hlt:=λx hx=>(S.own W Q hT x hx).2;refine(zg9 (S:=Q) (R:=λw2=>∃Q',T' w2 Q'∧∀x,Q' x->Q x∨W.heap.size<x) n hn9 (G.keep K0 (λx=>x)) hs hW hn uj hdo eF (λhq=>by have:=hlt _ hq;omega) (λw1 K1 hO q c hst hc hx=> ?_) (λa b hR K=> ?_) (λhq=>by have:=(S.own W Q hT _ hq).1;have:=G.lt;omega) (λw2 v hO hR=> ?_)).mono ?_
 ·refine(QB w1 (S.oz hT K1) (K0.nK K1) q c hst hc (λx hb hq=>by have:=hx x hb;have:=hlt x hq;omega)).mono ?_;rintro e w2 ⟨he,⟨Q',h1,h2⟩,K⟩;have hl1:W.heap.size<w1.heap.size:=lt_of_heap hO;exact⟨he,⟨Q',h1,λx hx=>(h2 x hx).imp id (λh=>by omega)⟩,K⟩
 ·obtain⟨Q',h1,h2⟩:=hR;exact⟨Q',S'.oz h1 K,h2⟩
 ·obtain⟨Q',h1,h2⟩:=hR;exact⟨Q',S'.other w2 _ Q' _ h1 ((ah (nY W.heap.size) w2).set1 0 (.string v)) (Y6 K0.size hlt h2 hO),h2⟩
 ·rintro e w' ⟨he,⟨Q',h1,h2⟩,K⟩;exact⟨he,⟨Q',h1,λx hx=>(h2 x hx).imp id (λh=>by omega)⟩,K⟩
end
structure uI(kk:Nat)(st:oI):Prop where
 dev:vC (34*kk) st.dev
 sec:st.secret.size=16
 n0:0<=st.n
 n1:st.n<=kk
 base:∀p,st.base=some p->Qv kk p.1
 len:st.image.length<=66
 img:∀s∈st.image,s.size<=256
theorem uI.mono{kk kk':Nat}{st:oI}(h:uI kk st)(hk:kk<=kk'):uI kk' st:=
 ⟨h.dev.mono (by omega),h.sec,h.n0,by have:=h.n1;omega,λp hp=>(h.base p hp).mono (by omega),h.len,h.img⟩
theorem uI.next{kk:Nat}{st:oI}(h:uI kk st){dev:pG}{n:Int}{base:Option (nT×oZ)}(hd:vC (34*kk+34) dev)(h0:0<=n)(h1:n<=kk+1)(hb:∀p,base=some p->Qv (kk+1) p.1):uI (kk+1) { st with dev:=dev,n:=n,base:=base } :=
 ⟨hd,h.sec,h0,by show n<=((kk+1:Nat):Int);omega,λp hp=>(hb p hp).mono (by omega),h.len,h.img⟩
theorem uI.Am{kk:Nat}{st:oI}(h:uI kk st){V:nT}{b:oZ}(hb:st.base=some (V,b))(b':oZ):uI (kk+1) { st with base:=some (V,b') } :=
 h.next (h.dev.mono (by omega)) h.n0 (by have:=h.n1;omega) (λp hp=>by obtain rfl:=aH hp;exact(h.base _ hb).mono (by omega))
structure JL(w0 w:World)(P:Nat->Prop)(DD:Nat)(iv:Value)(img:List af):Prop where
 strs:Strs w iv img
 own:∀g,iv.ownBlock=some g->w0.heap.size<=g∧¬P g∧g≠DD∧∃cs fz,w.heap[g]? =some (.cells cs 9 fz)
def uP(w0 w:World)(P:Nat->Prop)(D C:Nat)(bv:Value)(kk:Nat)(dev:pG)(n:Int)(base:Option (nT×oZ)):Prop:=match base with
 | none=>bv= .pointer none∧(∃S wv,qi w D S wv dev∧∀x,P x↔(qg D S wv x∨x=C))∧oL w C n∧Keep nM w0 w∧∀x,P x->w0.heap.size<=x
 | some p=>∃BB k,bv= .pointer (some ⟨BB,0,none⟩)∧pq w0 w P BB D C p.1 dev n p.2 k∧k<=60+kk
structure rf(w0 w:World)(P:Nat->Prop)(DD D C:Nat)(bv iv:Value)(kk:Nat)(st:oI):Prop where
 row:qh w DD D C bv st.secret iv
 body:uP w0 w P D C bv kk st.dev st.n st.base
 sep:¬P DD
 new:w0.heap.size<=DD
 img:JL w0 w P DD iv st.image
 ok:uI kk st
def Ar(w0:World)(DD kk:Nat)(st:oI)(w:World)(Q:Nat->Prop):Prop:=
 ∃P D C bv iv,rf w0 w P DD D C bv iv kk st∧∀x,Q x↔(P x∨x=DD∨iv.ownBlock=some x)
section
variable {w0 w w':World}{P P':Nat->Prop}{DD D C:Nat}{bv iv:Value}{kk:Nat}{dev zdp:pG}{n n':Int}{base:Option (nT×oZ)}{st:oI}{img:List af}
theorem pq.ltI{BB:Nat}{V:nT}{d:pG}{b:oZ}{k:Nat}(h:pq w0 w P BB D C V d n b k):∀x,P x->x<w.heap.size:=by
 obtain⟨B,S,wv,mb,wb,CC,nm,nw,L,W,h⟩:=h;intro x hx;rcases(h.blocks x).1 hx with hx|rfl|rfl
 ·exact h.vn.lt x hx
 ·exact h.row.lt
 ·exact h.rd.wait.lt
theorem Zu{S:Nat}{wv:Value}(h:qi w D S wv dev):∀x,qg D S wv x->x<w.heap.size:=λx hx=>by obtain⟨c',t',f',e5,e6⟩:=wJ h x hx;exact lt_of_heap e5
theorem uP.keep(h:uP w0 w P D C bv kk dev n base):Keep nM w0 w:=by
 cases base with
 | none=>exact h.2.2.2.1
 | some p=>obtain⟨BB,k,_,h,_⟩:=h;exact h.keep
theorem uP.new(h:uP w0 w P D C bv kk dev n base):∀x,P x->w0.heap.size<=x:=by
 cases base with
 | none=>exact h.2.2.2.2
 | some p=>obtain⟨BB,k,_,h,_⟩:=h;exact h.new
theorem uP.lt(h:uP w0 w P D C bv kk dev n base):∀x,P x->x<w.heap.size:=by
 cases base with
 | none=>
  obtain⟨_,⟨S,wv,hd,hP⟩,hc,_⟩:=h;intro x hx;rcases(hP x).1 hx with hx|rfl
  ·exact Zu hd x hx
  ·exact lt_of_heap hc
 | some p=>obtain⟨BB,k,_,h,_⟩:=h;exact h.ltI
theorem uP.Qm(h:uP w0 w P D C bv kk dev n base):∀x c f,P x->w.heap[x]? =some (.cells c 5 f)->False:=by
 cases base with
 | none=>
  obtain⟨_,⟨S,wv,hd,hP⟩,hc,_⟩:=h;intro x c f hx hh;rcases(hP x).1 hx with hx|rfl
  ·obtain⟨c',t',f',e5,e6⟩:=wJ hd x hx;rw[<-oN hh e5]at e6;rcases e6 with e6|e6|e6<;>exact absurd e6 (by decide)
  ·exact absurd (oN hh hc) (by decide)
 | some p=>obtain⟨BB,k,_,h,_⟩:=h;exact h.Qm
theorem uP.more(h:uP w0 w P D C bv kk dev n base){kk':Nat}(hk:kk<=kk'):uP w0 w P D C bv kk' dev n base:=by
 cases base with
 | none=>exact h
 | some p=>obtain⟨BB,k,h1,h2,h3⟩:=h;exact⟨BB,k,h1,h2,by omega⟩
theorem uP.other(h:uP w0 w P D C bv kk dev n base){X:Nat->Prop}(K:Keep X w w')(hX:∀x,X x->x<w.heap.size->w0.heap.size<=x∧¬P x∧(∀c t f,w.heap[x]? =some (.cells c t f)->Q5 t)∧∀q L,¬oJ w x q L):uP w0 w' P D C bv kk dev n base:=by
 have K2:Keep (λx=>X x∧x<w.heap.size) w w':=K.mono λi hi hx=>⟨hx,hi⟩
 have hw0:=h.keep.size;have hlt:=h.lt;cases base with
 | none=>
  obtain⟨h1,⟨S,wv,hd,hP⟩,hc,hk,hn⟩:=h;exact⟨h1,⟨S,wv,hd.keep K2 (λb hb hx=>(hX b hx.1 hx.2).2.1 ((hP b).2 (.inl hb))),hP⟩,hc.keep K2 (λhx=>(hX C hx.1 hx.2).2.1 ((hP C).2 (.inr rfl))),hk.trans K2 (λi hi hx=>by have:=(hX i hx.1 hx.2).1;omega),hn⟩
 | some p=>
  obtain⟨BB,k,h1,h,hk⟩:=h;obtain⟨B,S,wv,mb,wb,CC,nm,nw,L,W,hb⟩:=h;have hO:wS w (λx=>X x∧x<w.heap.size):=λy c t f hy hh=>(hX y hy.1 hy.2).2.2.1 c t f hh;refine⟨BB,k,h1,⟨B,S,wv,mb,wb,CC,nm,nw,L,W,hb.VY K2 hO (λx hx hy=>(hX x hy.1 hy.2).2.1 hx) (λhy=>(hX mb hy.1 hy.2).2.2.2 _ _ hb.rd.now) (λx hx hy=>by have:=(hX x hy.1 hy.2).1;omega)⟩,hk⟩
theorem uP.oz(h:uP w0 w P D C bv kk dev n base)(K:Keep nM w w'):uP w0 w' P D C bv kk dev n base:=h.other K λ_ x=>x.elim
theorem uP.cnt(h:uP w0 w P D C bv kk dev n base):oL w C n∧P C:=by
 cases base with
 | none=>exact⟨h.2.2.1,(by obtain⟨_,⟨S,wv,hd,hP⟩,_⟩:=h;exact(hP C).2 (.inr rfl))⟩
 | some p=>
  obtain⟨BB,k,_,⟨B,S,wv,mb,wb,CC,nm,nw,L,W,hb⟩,_⟩:=h;exact⟨hb.vn.cnt,(hb.blocks C).2 (.inl (.inr (.inr rfl)))⟩
theorem uP.device(h:uP w0 w P D C bv kk dev n base):∃S wv,qi w D S wv dev∧(∀x,qg D S wv x->P x)∧
  ∀ {w':World} {wv':Value} {zdp:pG},qi w' D S wv' zdp->zL w wv wv'->Keep (qg D S wv) w w'->∃P',uP w0 w' P' D C bv kk zdp n base∧Grow w P P'∧Keep P w w':=by
 cases base with
 | none=>
  obtain⟨h1,⟨S,wv,hd,hP⟩,hc,hk,hn⟩:=h;have hsz:=hk.size;refine⟨S,wv,hd,λx hx=>(hP x).2 (.inl hx),fun {w' wv' zdp} hd' hm K=> ?_⟩;have hg:Grow w P (λx=>qg D S wv' x∨x=C):=by
   rintro x ((rfl|rfl|hx)|rfl)
   ·exact .inl ((hP x).2 (.inl (.inl rfl)))
   ·exact .inl ((hP x).2 (.inl (.inr (.inl rfl))))
   ·rcases hm with hm|hm
    ·exact .inl ((hP x).2 (.inl (.inr (.inr (hm▸hx)))))
    ·exact .inr (hm x hx)
   ·exact .inl ((hP x).2 (.inr rfl))
  exact⟨λx=>qg D S wv' x∨x=C,⟨h1,⟨S,wv',hd',λx=>kU⟩,hc.keep K (λhx=>yP hd hc hx),hk.trans K (λi hi hx=>by have:=hn i ((hP i).2 (.inl hx));omega),λx hx=>(hg x hx).elim (hn x) (λh=>by omega)⟩,hg,K.mono λi _ hx=>(hP i).2 (.inl hx)⟩
 | some p=>
  obtain⟨BB,k,h1,⟨B,S,wv,mb,wb,CC,nm,nw,L,W,h⟩,hk⟩:=h;refine⟨S,wv,h.vn.dev,λx hx=>(h.blocks x).2 (.inl (.inl hx)),fun {w' wv' zdp} hd' hm K=> ?_⟩;have K':=K.mono (S':=VB B D C S wv) (λ_ _ x=> .inl x);have hv:=h.vn.step (h.vn.yX.keep K (λhb=>by obtain⟨c,t,f,h1,h2⟩:=wJ h.vn.dev B hb;rw[h.vn.yX.row]at h1;cases h1;rcases h2 with h2|h2|h2<;>exact absurd h2 (by decide))) hd' (h.vn.cnt.keep K (λhb=>yP h.vn.dev h.vn.cnt hb)) hm K'
  refine⟨λx=>VB B D C S wv' x∨x=BB∨x=wb,⟨BB,k,h1,⟨B,S,wv',mb,wb,CC,nm,nw,L,W,⟨hv,h.row.keep K' (En h.vn h.row),h.rd.keep K' (Ci h.vn) (Eo h.vn h.rd.now) (Eo h.vn h.rd.wait),h.cs.keep K' (Ci h.vn),h.en,h.ew,h.ok,h.room,λx=>kU,h.MR,h.WC⟩⟩,hk⟩,λx hx=> ?_,K'.mono λi _ hx=>(h.blocks i).2 (.inl hx)⟩;rcases hx with hx|hx|hx
  ·exact(Gp hm x hx).imp (λhx=>(h.blocks x).2 (.inl hx)) (λhx=>hx)
  ·exact .inl ((h.blocks x).2 (.inr (.inl hx)))
  ·exact .inl ((h.blocks x).2 (.inr (.inr hx)))
theorem JL.other(h:JL w0 w P DD iv img){X:Nat->Prop}(K:Keep X w w')(hX:∀g,iv.ownBlock=some g->g<w.heap.size->¬X g):JL w0 w' P DD iv img:=by
 refine⟨h.strs.keep K (λg hg hx=> ?_),λg hg=> ?_⟩
 ·obtain⟨_,_,_,cs,fz,h4⟩:=h.own g hg;exact hX g hg (lt_of_heap h4) hx
 ·obtain⟨h1,h2,h3,cs,fz,h4⟩:=h.own g hg;exact⟨h1,h2,h3,cs,fz,K.heap h4 (hX g hg (lt_of_heap h4))⟩
theorem JL.grow(h:JL w0 w P DD iv img)(hg:Grow w P P')(K:Keep P w w'):JL w0 w' P' DD iv img:=by refine⟨h.strs.keep K (λg hq hx=>(h.own g hq).2.1 hx),λg hq=> ?_⟩;obtain⟨h1,h2,h3,cs,fz,h4⟩:=h.own g hq;have hlt:=lt_of_heap h4;exact⟨h1,λhx=>(hg g hx).elim h2 (λh=>by omega),h3,cs,fz,K.heap h4 h2⟩
theorem JL.to(h:JL w0 w P DD iv img)(hg:Grow w P P'){X:Nat->Prop}(K:Keep X w w')(hX:∀g,iv.ownBlock=some g->g<w.heap.size->¬X g):JL w0 w' P' DD iv img:=by refine⟨(h.other K hX).strs,λg hq=> ?_⟩;obtain⟨h1,h2,h3,cs,fz,h4⟩:=h.own g hq;have hlt:=lt_of_heap h4;exact⟨h1,λhx=>(hg g hx).elim h2 (λh=>by omega),h3,cs,fz,K.heap h4 (hX g hq hlt)⟩
theorem JL.nil(w0 w:World)(P:Nat->Prop)(DD:Nat):JL w0 w P DD (.slice none 0 0) []:=⟨.inl ⟨rfl,_,_,rfl⟩,λg hg=>by cases hg⟩
theorem rf.oz(h:rf w0 w P DD D C bv iv kk st)(K:Keep nM w w'):rf w0 w' P DD D C bv iv kk st:=
 ⟨h.row.keep K (λx=>x),h.body.oz K,h.sep,h.new,h.img.other K (λ_ _ _ x=>x),h.ok⟩
theorem rf.step(h:rf w0 w P DD D C bv iv kk st){kk':Nat}{st':oI}(hb:uP w0 w' P' D C bv kk' st'.dev st'.n st'.base)(g:Grow w P P')(K:Keep P w w')(hs:st'.secret=st.secret)(hi:st'.image=st.image)(hok:uI kk' st'):rf w0 w' P' DD D C bv iv kk' st':=
 ⟨by rw[hs];exact h.row.keep K h.sep,hb,λhx=>(g DD hx).elim h.sep (λe=>by have:=h.row.lt;omega),h.new,by rw[hi];exact h.img.grow g K,hok⟩
def Done(w0:World)(DD kk:Nat)(st:oI)(w:World)(Q:Nat->Prop)(w':World):Prop:=(∃Q',Ar w0 DD kk st w' Q'∧Grow w Q Q')∧Keep Q w w'
theorem rf.done{Q:Nat->Prop}(hQ:∀x,Q x↔(P x∨x=DD∨iv.ownBlock=some x))(g:Grow w P P')(K:Keep P w w')(h:rf w0 w' P' DD D C bv iv kk st):Done w0 DD kk st w Q w':=by
 refine⟨⟨λx=>P' x∨x=DD∨iv.ownBlock=some x,⟨P',D,C,bv,iv,h,λx=>kU⟩,λx hx=> ?_⟩,K.mono λi _ hx=>(hQ i).2 (.inl hx)⟩;rcases hx with hx|hx|hx
 ·exact(g x hx).imp (λh=>(hQ x).2 (.inl h)) id
 ·exact .inl ((hQ x).2 (.inr (.inl hx)))
 ·exact .inl ((hQ x).2 (.inr (.inr hx)))
theorem vT(w0:World)(DD kk:Nat)(st:oI):QP w0 (Ar w0 DD kk st):=by
 refine⟨?_,?_,?_⟩
 ·rintro W W' Q X ⟨P,D,C,bv,iv,h,hQ⟩ K hX;have K2:Keep (λx=>X x∧x<W.heap.size) W W':=K.mono λi hi hx=>⟨hx,hi⟩
  refine⟨P,D,C,bv,iv,⟨h.row.keep K2 (λhx=>(hX DD hx.1 hx.2).2.1 ((hQ DD).2 (.inr (.inl rfl)))),h.body.other K (λx hx hl=> ?_),h.sep,h.new,h.img.other K2 (λg hg hl hx=>(hX g hx.1 hx.2).2.1 ((hQ g).2 (.inr (.inr hg)))),h.ok⟩,hQ⟩;obtain⟨h1,h2,h3,h4⟩:=hX x hx hl;exact⟨h1,λe=>h2 ((hQ x).2 (.inl e)),h3,h4⟩
 ·rintro W Q ⟨P,D,C,bv,iv,h,hQ⟩ x hx;rcases(hQ x).1 hx with hx|rfl|hx
  ·exact⟨h.body.new x hx,h.body.lt x hx⟩
  ·exact⟨h.new,h.row.lt⟩
  ·obtain⟨h1,_,_,cs,fz,h4⟩:=h.img.own x hx;exact⟨h1,lt_of_heap h4⟩
 ·rintro W Q ⟨P,D,C,bv,iv,h,hQ⟩ x c f hx hh;rcases(hQ x).1 hx with hx|rfl|hx
  ·exact h.body.Qm x c f hx hh
  ·exact absurd (oN hh h.row) (by decide)
  ·obtain⟨_,_,_,cs,fz,h4⟩:=h.img.own x hx;exact absurd (oN hh h4) (by decide)
theorem Ar.oz{Q:Nat->Prop}(h:Ar w0 DD kk st w Q)(K:Keep nM w w'):Ar w0 DD kk st w' Q:=(vT w0 DD kk st).oz h K
theorem rf.more(h:rf w0 w P DD D C bv iv kk st):rf w0 w P DD D C bv iv (kk+1) st:=
 ⟨h.row,h.body.more (ik _),h.sep,h.new,h.img,h.ok.mono (ik _)⟩
theorem Ar.more{Q:Nat->Prop}(h:Ar w0 DD kk st w Q):Ar w0 DD (kk+1) st w Q:=by obtain⟨P,D,C,bv,iv,h,hQ⟩:=h;exact⟨P,D,C,bv,iv,h.more,hQ⟩
theorem Ar.same{Q:Nat->Prop}(h:Ar w0 DD kk st w Q)(K:Keep nM w w'):Done w0 DD (kk+1) st w Q w':=⟨⟨Q,(h.oz K).more,Grow.refl _ _⟩,K.vN⟩
theorem Ar.keep{Q:Nat->Prop}(h:Ar w0 DD kk st w Q):Keep nM w0 w:=by obtain⟨P,D,C,bv,iv,h,hQ⟩:=h;exact h.body.keep
def WM(r:Ans)(e:Ending):Prop:=match r with
 | .ok t=>e= .returned (.string t)
 | .error k=>e= .panicked [{ v:=ou k,recovered:=false }]
def Ul(w0:World)(DD F:Nat)(doX:oI->List af->Ans×oI):Prop:=
 ∀(W:World) (Q:Nat->Prop) (st:oI) (kk:Nat) (rest:List af) (q:Option Addr) (c:Nat),Ar w0 DD kk st W Q->kk<=20100->Strs W (.slice q rest.length c) rest->rest.length<=c->rest.length<=20000->(∀s∈rest,s.size<=20000)->(rest.map ByteArray.size).sum+rest.length<=50000->(∀x,(Value.slice q rest.length c).ownBlock=some x->¬Q x)->
  ae F #[.pointer (some ⟨DD,0,none⟩),.slice q rest.length c] W λe w'=>WM (doX st rest).1 e∧Done w0 DD (kk+1) (doX st rest).2 W Q w'
end
theorem zl(n:Int)(w:World)(hg:ErrVar w):ae 23 #[errVal n] w λe w'=>(if n=0 then e= .returned (.tuple #[])else e= .panicked [{ v:=ou n,recovered:=false }])∧Keep nM w w':=by
 by_cases h:n=0
 ·have e1:errVal n= .nilIface:=by rw[errVal,aP h]
  rw[e1];refine(Gv w).mono ?_;rintro e w' ⟨rfl,rfl⟩;exact⟨by rw[aP h],ah _ _⟩
 ·have e1:errVal n= .iface 51 (.int .i64 n):=by rw[errVal,aB h]
  rw[e1];refine(sZ n w hg).mono ?_;rintro e w' ⟨rfl,K⟩;exact⟨by rw[aB h],K⟩
theorem rO(p:Option Addr)(k c n:Nat)(h:k≠n)(w:World)(hg:ErrVar w):ae 11 #[.slice p k c,.int .i64 n] w λe w'=>e= .panicked [{ v:=ou 3,recovered:=false }]∧Keep nM w w':=by
 have hm:=sZ 3 w hg;have Hm:=ag hm;have h1:¬(k:Int)=(n:Int):=by omega
 clear hm hg;go_enter Tryz.func11,Tryz.ntmps11;go_wp2_with fail;refine Hm.out.mono ?_;rintro e w1 ⟨rfl,K1⟩;go_wp2_with fail;exact⟨rfl,rfl,K1⟩
def JK(s:af)(e:Ending):Prop:=match yg s with
 | some v=>e= .returned (.int .i64 v)
 | none=>e= .panicked [{ v:=ou 3,recovered:=false }]
theorem CB(s:af)(hs:s.size<=1000000)(w:World)(T:uH w)(E:EJ w)(hg:ErrVar w):
  ae 65 #[.string s] w λe w'=>JK s e∧Keep nM w w':=by
 have hmu:=λw1 (K:Keep nM w w1)=>sZ 3 w1 (hg.keep K (λx=>x));have Hmu:=ag hmu;have hbad:∀(n:Int),yg s=none->ae 110 #[.string s] w (λe w'=>∃N,e= .returned (.tuple #[.int .i64 n,.iface 254 (.pointer (some ⟨N,0,none⟩))])∧Keep nM w w')->
   ae 65 #[.string s] w λe w'=>JK s e∧Keep nM w w':=by
  intro n hno hc;have HS:Hid (JK s (.panicked [{ v:=ou 3,recovered:=false }])):=ag (by unfold JK;rw[hno]);have Hc:=ag hc;clear hno hc hmu;go_enter Tryz.func65,Tryz.ntmps65;go_wp2_with fail;refine Hc.out.mono ?_;rintro e w1 ⟨N1,rfl,K1⟩;have hm:=Hmu.out w1 K1;have Hm:=ag hm;clear hm;go_wp2_with fail;refine Hm.out.mono ?_;rintro e w2 ⟨rfl,K2⟩;go_wp2_with fail;exact⟨rfl,HS.out,K1.nK K2⟩
 cases hA:Lib.atoiAll s.data.toList with
 | ok v=>
  have hc:=Tryz.strconv_Atoi_ok s (by omega) v hA w;have hvb:=Lib.atoiAll_bounds hA;obtain⟨it,hit⟩:∃it:af,it=⟨(Lib.itoa v).toArray⟩:=⟨_,rfl⟩
  have xZ:=λw1 (K:Keep nM w w1)=>uS v hvb.1 hvb.2 w1 (T.keep K (λx=>x));rw[<-hit]at xZ;have Du:it.data.toList=Lib.itoa v:=by rw[hit]
  by_cases e:Lib.itoa v=s.data.toList
  ·have hno:yg s=some v:=by rw[yg,yU,hA];show(if Lib.itoa v=s.data.toList then some v else none)=_;rw[aP e]
   have HS:Hid (JK s (.returned (.int .i64 v))):=ag (by unfold JK;rw[hno]);have hB:(it.toList==s.toList)=true:=by rw[bQ,bQ,Du,e];exact fV _
   have Ej:=ag xZ;have Hc:=ag hc;clear xZ hit Du hbad hA hc hmu hno e;go_enter Tryz.func65,Tryz.ntmps65;go_wp2_with fail;refine Hc.out.mono ?_;rintro e w1 ⟨rfl,hw1⟩;have K1:Keep nM w w1:=by
    rcases hw1 with rfl|⟨t,rfl⟩
    ·exact ah _ _
    ·exact Ju _ _ _
   clear hw1;go_wp2_with fail;refine(Ej.out _ K1).mono ?_;rintro e w2 ⟨rfl,K2⟩;go_wp2_with fail;go_ret;exact⟨HS.out,K1.nK K2⟩
  ·have hno:yg s=none:=by rw[yg,yU,hA];show(if Lib.itoa v=s.data.toList then some v else none)=_;rw[aB e]
   have HS:Hid (JK s (.panicked [{ v:=ou 3,recovered:=false }])):=ag (by unfold JK;rw[hno]);have hB:(it.toList==s.toList)=false:=by rw[bQ,bQ,Du];exact dS.2 e
   have Ej:=ag xZ;have Hc:=ag hc;clear xZ hit Du hbad hA hc hmu hno e;go_enter Tryz.func65,Tryz.ntmps65;go_wp2_with fail;refine Hc.out.mono ?_;rintro e w1 ⟨rfl,hw1⟩;have K1:Keep nM w w1:=by
    rcases hw1 with rfl|⟨t,rfl⟩
    ·exact ah _ _
    ·exact Ju _ _ _
   clear hw1;go_wp2_with fail;refine(Ej.out _ K1).mono ?_;rintro e w2 ⟨rfl,K2⟩;have hm:=Hmu.out w2 (K1.nK K2);have Hm:=ag hm;clear hm;go_wp2_with fail;refine Hm.out.mono ?_;rintro e w3 ⟨rfl,K3⟩;go_wp2_with fail;exact⟨rfl,HS.out,(K1.nK K2).nK K3⟩
 | range=>
  obtain⟨ev,hv,hev⟩:=E.range;refine hbad (Lib.atoiSat s.data.toList) (by rw[yg,yU,hA]) ?_;refine(Tryz.strconv_Atoi_range s (by omega) hA ev w hv hev).mono ?_;rintro e w' ⟨N,rfl,_,_,hb⟩;exact⟨N,rfl,Keep.vg hb⟩
 | _=>
  obtain⟨ev,hv,hev⟩:=E.form;refine hbad 0 (by rw[yg,yU,hA]) ?_;refine(Any.strconv_Atoi_syntax Tryz.laysC172 s (by omega) hA ev w hv hev).mono ?_;rintro e w' ⟨N,rfl,_,_,hb⟩;exact⟨N,rfl,Keep.vg hb⟩
theorem SQ:∀(l:List af) (k:Nat) (s:af) (zs:List Int) (v:Int),l[k]? =some s->wV (l.take k)=some zs->yg s=some v->wV (l.take (k+1))=some (zs++ [v])
 | [],k,s,zs,v,h,_,_=>by simp at h
 | t::l,0,s,zs,v,h,h1,h2=>by
  obtain rfl:t=s:=by simpa using h
  have h1:some []=some zs:=h1;obtain rfl:=aH h1;show wV [t]=_;rw[wV,h2];rfl
 | t::l,k+1,s,zs,v,h,h1,h2=>by
  rw[bY,wV]at h1;rw[bY,wV];cases ht:yg t with
  | none=>rw[ht]at h1;cases h1
  | some u=>
   rw[ht]at h1;cases hl:wV (l.take k)with
   | none=>rw[hl]at h1;cases h1
   | some ys=>
    rw[hl]at h1;have h1:some (u::ys)=some zs:=h1;obtain rfl:=aH h1;have ih:=SQ l k s ys v (by simpa using h) hl h2;simp only[ih];rfl
theorem VJ:∀(l:List af) (k:Nat) (s:af),l[k]? =some s->yg s=none->wV l=none
 | [],k,s,h,_=>by simp at h
 | t::l,0,s,h,h2=>by
  obtain rfl:t=s:=by simpa using h
  rw[wV,h2]
 | t::l,k+1,s,h,h2=>by
  rw[wV];cases ht:yg t with
  | none=>rfl
  | some u=>simp only[VJ l k s (by simpa using h) h2]
theorem D5:∀(l:List af) (zs:List Int),wV l=some zs->zs.length=l.length
 | [],zs,h=>by have h:some []=some zs:=h;rw[<-aH h];rfl
 | t::l,zs,h=>by
  rw[wV]at h;cases ht:yg t with
  | none=>rw[ht]at h;cases h
  | some u=>
   rw[ht]at h;cases hl:wV l with
   | none=>rw[hl]at h;cases h
   | some ys=>
    rw[hl]at h;have h:some (u::ys)=some zs:=h;rw[<-aH h,aK,aK,D5 l ys hl]
def IQ(w w':World)(l:List af)(e:Ending):Prop:=match wV l with
 | some zs=>∃v',e= .returned v'∧nV w' w.heap.size 3 1 v' l.length (zs.map (Value.int .i64))
 | none=>e= .panicked [{ v:=ou 3,recovered:=false }]
theorem Iu{w:World}{p:Option Addr}{m c:Nat}(l:List af)(hm:m=l.length)(hm6:m<=100000)(S:Strs w (.slice p m c) l)(hl:∀s∈l,s.size<=1000000)(T:uH w)(E:EJ w)(hg:ErrVar w):
  ae 73 #[.slice p m c] w λe w'=>IQ w w' l e∧Keep nM w w':=by
 obtain⟨i0,hi0,hz0,hs0,hb0⟩:=Zg;have HS:=ag S;have HT:=ag T;have HE:=ag E;have HG:=ag hg;have Hm:=ag hm;have Hl:=ag hl;clear S T hm E hg hl;go_enter Tryz.func73,Tryz.ntmps73;go_wp2_with fail
 go_loopw [3,8] (λlv iv wr=>∃(k:Nat) (o:Value) (zs:List Int),k<=m∧iv= .int .i64 k∧o=lv∧Hid (nV wr w.heap.size 3 1 o k (zs.map (Value.int .i64)))∧Hid (wV (l.take k)=some zs)∧Hid (Keep nM w wr)) (λ_ iv _=>m-(intOf iv).toNat)
 case atStart=>exact⟨0,_,[],by omega,rfl,rfl,ag (nV.nil _ _ _ _),ag rfl,ag (ah _ _)⟩
 case round=>
  obtain⟨k,o,zs,hk,rfl,rfl,hO,hz,K⟩:=hrel;obtain⟨wo,rfl⟩:∃wo,wo=wr:=⟨_,rfl⟩
  by_cases hlt:k<m
  ·have j1:(k:Int)<m:=by omega
   have S':=HS.out.keep K.out (λ_ _ x=>x);obtain⟨g,off,rfl,hg,hc⟩:=zf S' Hm.out (by omega);obtain⟨s,hs⟩:∃s,l[k]? =some s:=⟨_,aC (by have:=Hm.out;omega)⟩
   have hck:=hc k hlt;have hgd:l.getD k ⟨#[]⟩=s:=by rw[ax,hs];rfl
   rw[hgd]at hck;have hnum:=CB s (Hl.out s (bg hs)) wo (HT.out.keep K.out (λx=>x)) (HE.out.keep K.out (λx=>x) (λx=>x)) (HG.out.keep K.out (λx=>x));unfold JK at hnum;have Hs:=ag hs;have HK:=ag K.out;cases hv:yg s with
   | none=>
    rw[hv]at hnum;have tq:=ag hnum;have Hv:=ag hv;clear hnum hgd hs hv hc S' K;go_wp2_with fail;refine tq.out.mono ?_;rintro e w1 ⟨rfl,K1⟩;go_wp2_with fail;refine⟨rfl,?_,HK.out.nK K1⟩;unfold IQ;rw[VJ l k s Hs.out Hv.out]
   | some z=>
    rw[hv]at hnum;have tq:=ag hnum;have Hv:=ag hv;clear hnum hgd hs hv hc S' K;go_wp2_with fail;refine tq.out.mono ?_;rintro e w1 ⟨rfl,K1⟩;have HO1:=ag (hO.out.keep K1 (λ_ _ x=>x));have BU:=ag (HK.out.nK K1);clear tq K1 hO HK;go_wp2_with (at_builtin;refine qc _ rfl _ _ 99 rfl w.heap.size 3 i0 _ 1 8 Tryz.underlying99 hi0 hz0 hs0 hb0 rfl (by decide) o k _ rfl (HO1.out.alloc _) ⟨w1.heap.size,0,none⟩ 1 1 [.int .i64 z] rfl rfl (qj _ _ _) (zeq z) (by unfold maxLen;omega) (by omega) (by have:=BU.out.size;simp;omega) ?_;intro v' w' own' hgrow);have KN:Keep nM w w':=(BU.out.alloc (.cells #[.int .i64 z] 3)).grown hgrow (λb hb=> .inr (HO1.out.lt b hb).1);refine⟨⟨k+1,v',zs++ [z],by omega,by go_num,rfl,ag ?_,ag (SQ l k s zs z Hs.out hz.out Hv.out),ag KN⟩,by simp[intOf];omega⟩;rw[di];exact own'
  ·obtain rfl:k=m:=by omega
   have j1:¬(k:Int)<k:=by omega
   have hz':=hz.out;rw[aV (by rw[<-Hm.out];exact aF _)]at hz';have HN:Hid (∀e,e= .returned o->IQ w wo l e):=ag (λe he=>by unfold IQ;rw[hz'];exact⟨o,he,by rw[<-Hm.out];exact hO.out⟩)
   have HK:=ag K.out;clear hO hz hz' K;go_wp2_with fail;go_ret;exact⟨HN.out _ rfl,HK.out⟩
section
variable {w w':World}{DD D C:Nat}{bv iv:Value}{secret:af}
theorem RX{g off m:Nat}{a b:af}{l:List af}(hm:m=l.length)(hg:g<w.heap.size)(hc:∀i,i<m+2->w.cell? ⟨g,off+i,none⟩=some (.string ((a::b::l).getD i ⟨#[]⟩)))(c':Nat):Strs w (.slice (some ⟨g,off+2,none⟩) m c') l:=by
 by_cases h0:l= []
 ·subst h0;exact .inl ⟨rfl,_,_,by rw[hm];rfl⟩
 ·refine .inr ⟨g,off+2,c',by rw[hm],hg,λi hi=> ?_⟩;have h1:=hc (i+2) (by omega);rw[show off+2+i=off+(i+2)by omega,h1];rfl
end
theorem zcm(DD:Nat):qy DD ⟨#[98,108,111,99,107]⟩=BR DD 35:=by
 unfold qy xu;simp only[ru]
 repeat(first|rw[aP rfl]|rw[aB (by decide)])
 rfl
theorem zcl(DD:Nat):qy DD ⟨#[99,111,117,110,116]⟩=BR DD 37:=by
 unfold qy xu;simp only[ru]
 repeat(first|rw[aP rfl]|rw[aB (by decide)])
 rfl
theorem zck(DD:Nat):qy DD ⟨#[99,114,97,115,104]⟩=BR DD 38:=by
 unfold qy xu;simp only[ru]
 repeat(first|rw[aP rfl]|rw[aB (by decide)])
 rfl
theorem zhC(DD:Nat):qy DD ⟨#[100,101,108]⟩=BR DD 39:=by
 unfold qy xu;simp only[ru]
 repeat(first|rw[aP rfl]|rw[aB (by decide)])
 rfl
theorem zcj(DD:Nat):qy DD ⟨#[101,112,111,99,104]⟩=BR DD 40:=by
 unfold qy xu;simp only[ru]
 repeat(first|rw[aP rfl]|rw[aB (by decide)])
 rfl
theorem zeQ(DD:Nat):qy DD ⟨#[102,105,110,100]⟩=BR DD 41:=by
 unfold qy xu;simp only[ru]
 repeat(first|rw[aP rfl]|rw[aB (by decide)])
 rfl
theorem zeP(DD:Nat):qy DD ⟨#[102,117,115,101]⟩=BR DD 42:=by
 unfold qy xu;simp only[ru]
 repeat(first|rw[aP rfl]|rw[aB (by decide)])
 rfl
theorem zeO(DD:Nat):qy DD ⟨#[104,101,108,112]⟩=BR DD 43:=by
 unfold qy xu;simp only[ru]
 repeat(first|rw[aP rfl]|rw[aB (by decide)])
 rfl
theorem zhA(DD:Nat):qy DD ⟨#[110,101,119]⟩=BR DD 5:=by
 unfold qy xu;simp only[ru]
 repeat(first|rw[aP rfl]|rw[aB (by decide)])
 rfl
theorem zcg(DD:Nat):qy DD ⟨#[115,112,111,105,108]⟩=BR DD 50:=by
 unfold qy xu;simp only[ru]
 repeat(first|rw[aP rfl]|rw[aB (by decide)])
 rfl
theorem zhy(DD:Nat):qy DD ⟨#[115,117,109]⟩=BR DD 51:=by
 unfold qy xu;simp only[ru]
 repeat(first|rw[aP rfl]|rw[aB (by decide)])
 rfl
theorem zeK(DD:Nat):qy DD ⟨#[116,117,114,110]⟩=BR DD 52:=by
 unfold qy xu;simp only[ru]
 repeat(first|rw[aP rfl]|rw[aB (by decide)])
 rfl
theorem zeJ(DD:Nat):qy DD ⟨#[117,110,100,111]⟩=BR DD 53:=by
 unfold qy xu;simp only[ru]
 repeat(first|rw[aP rfl]|rw[aB (by decide)])
 rfl
theorem zeM(DD:Nat)(x:af)(h0:x≠⟨#[98,108,111,99,107]⟩)(h1:x≠⟨#[99,111,109,109,105,116]⟩)(h2:x≠⟨#[99,111,117,110,116]⟩)(h3:x≠⟨#[99,114,97,115,104]⟩)(h4:x≠⟨#[100,101,108]⟩)(h5:x≠⟨#[101,112,111,99,104]⟩)(h6:x≠⟨#[102,105,110,100]⟩)(h7:x≠⟨#[102,117,115,101]⟩)(h8:x≠⟨#[104,101,108,112]⟩)(h9:x≠⟨#[105,109,97,103,101]⟩)(h10:x≠⟨#[105,116,101,109,115]⟩)(h11:x≠⟨#[108,97,121]⟩)(h12:x≠⟨#[109,97,107,101]⟩)(h13:x≠⟨#[110,101,119]⟩)(h14:x≠⟨#[111,112,101,110]⟩)(h15:x≠⟨#[112,117,116]⟩)(h16:x≠⟨#[115,112,111,105,108]⟩)(h17:x≠⟨#[115,117,109]⟩)(h18:x≠⟨#[116,117,114,110]⟩)(h19:x≠⟨#[117,110,100,111]⟩):qy DD x= .nilFunc:=by unfold qy xu;simp only[ru];rw[aB h19,aB h18,aB h17,aB h16,aB h15,aB h14,aB h13,aB h12,aB h11,aB h10,aB h9,aB h8,aB h7,aB h6,aB h5,aB h4,aB h3,aB h2,aB h1,aB h0];rfl
def Oq:af:=⟨#[111,107]⟩
theorem zej{w:World}{DD:Nat}{s:af}(hs:s.size<=1000000)(hW:qK s= []):
  ae 9 #[.pointer (some ⟨DD,0,none⟩),.string s] w λe w'=>e= .returned (.string Oq)∧Keep nM w w':=by
 have hmf:∀(fn:Fn) (first cap:Array Value) (w:World),(Instr.makeFunc fn first cap).run Tryz.prog w= .ok (.func fn first cap) w:=λ_ _ _ _=>rfl;have Yd:=λw1=>EZ s hs w1;rw[hW]at Yd;have Hff:=ag Yd;clear Yd hW;go_enter_defers Tryz.func9,Tryz.ntmps9;go_wp2_with fail;have hO0:wW (w.alloc (.cells #[.string ⟨#[]⟩] 9)) w.heap.size:=aG w _;have K0:Keep nM w (w.alloc (.cells #[.string ⟨#[]⟩] 9)):=(ah _ _).alloc _;refine(Hff.out _).mono ?_;rintro e w1 ⟨g,rfl,hg,hst,K1⟩;have hO1:wW w1 w.heap.size:=K1.heap hO0 (λx=>x);have HK:=ag (K0.nK K1);have c3:w1.cell? ⟨w.heap.size,0,none⟩=some (.string ⟨#[]⟩):=cellOf hO1 0 rfl;have f3:w1.frozen? ⟨w.heap.size,0,none⟩=false:=by have h2:w1.heap[w.heap.size]? =some (.cells _ _ (0,0)):=hO1;simp[World.frozen?,h2]
 have KF:Keep nM w (w1.setCell ⟨w.heap.size,0,none⟩ (.string Oq)):=HK.out.setCell (p:=⟨w.heap.size,0,none⟩) (.inr (show w.heap.size<=w.heap.size from aF _)) _;have HKF:=ag KF;have c4:(w1.setCell ⟨w.heap.size,0,none⟩ (.string Oq)).cell? ⟨w.heap.size,0,none⟩=some (.string Oq):=fZ _ _ _ c3;clear hO0 K0 hO1 hst hg K1 Hff KF;go_wp2_with fail;refine mD (f:=18) (args:= #[.pointer (some ⟨w.heap.size,0,none⟩)]) (by simp) (by simp[go_sem]) ?_;refine(catch_idle ⟨w.heap.size,0,none⟩ _).mono ?_;rintro e u' w4 ⟨rfl,rfl,rfl⟩;unfold Oq at c4 HKF⊢;simp[Leaves,settle,results,Tryz.results9,go_sem,c4];exact HKF.out
theorem XR{w:World}{DD:Nat}{s name:af}(T:uH w)(E:ErrVar w){rest:List af}(hs:s.size<=1000000)(hW:qK s=name::rest)(hn:name.size<=maxLen)(uj:rest.length<=1000000)(hdo:qy DD name= .nilFunc):
  ae 9 #[.pointer (some ⟨DD,0,none⟩),.string s] w λe w'=>e= .returned (.string (uG 3))∧Keep nM w w':=by
 have hmf:∀(fn:Fn) (first cap:Array Value) (w:World),(Instr.makeFunc fn first cap).run Tryz.prog w= .ok (.func fn first cap) w:=λ_ _ _ _=>rfl;have hbn:∀w,(binOp .eql 31 .nilFunc .nilFunc).run Tryz.prog w= .ok (.bool true) w:=λw=>by kernel_rfl
 obtain⟨m,hm⟩:∃m,m=rest.length:=⟨_,rfl⟩
 obtain⟨N,hN⟩:∃N,N=m+1:=⟨_,rfl⟩
 have hWl:(qK s).length=N:=by rw[hW,hN,hm];rfl
 have Yd:=λw1=>EZ s hs w1;simp only[hWl]at Yd;rw[hW]at Yd;rw[<-hm]at uj;have Hff:=ag Yd;have HTT:=ag T;have HE:=ag E;have HN:=ag hN;have Hdo:=ag hdo;clear Yd T E hm hdo hW hWl hN;go_enter_defers Tryz.func9,Tryz.ntmps9;go_wp2_with fail;obtain⟨X,hX⟩:∃X,X=w.heap.size:=⟨_,rfl⟩
 have hO0:wW (w.alloc (.cells #[.string ⟨#[]⟩] 9)) X:=by rw[hX];exact aG w _
 have K0:Keep nM w (w.alloc (.cells #[.string ⟨#[]⟩] 9)):=(ah _ _).alloc _;refine(Hff.out _).mono ?_;rintro e w1 ⟨g,rfl,hg,hst,K1⟩;have hO1:wW w1 X:=K1.heap hO0 (λx=>x);have K01:=K0.nK K1;have hc0:w1.cell? ⟨g,0,none⟩=some (.string name):=by obtain⟨g',off,h1,_,h3⟩:=Gs hst;cases h1;exact h3 0 (by omega)
 have hdd:=Xm DD name hn w1;rw[Hdo.out]at hdd;have Hdd:=ag hdd;have HX:=ag hX;have HO1:=ag hO1;have HK:=ag K01;have hj0:¬N=0:=by have:=HN.out;omega
 have hj1:0<N:=by omega
 have hj2:1<=N:=by omega
 have hj3:((N:Int)==0)=false:=by simp;omega
 have hj4:(1:Int)<=N:=by omega
 have hj5:(0:Int)<N:=by omega
 clear hdd hX hO0 hO1 K0 K1 K01 hst Hff;go_wp2_with fail;refine Hdd.out.mono ?_;rintro e w2 ⟨rfl,K2⟩;have Jc:=ag (HK.out.nK K2);have HO2:Hid (wW w2 X):=ag (K2.heap HO1.out (λx=>x));clear Hdd K2 HK HO1 hc0;have hmu:=zl 3 w2 (HE.out.keep Jc.out (λx=>x));rw[show errVal 3= .iface 51 (.int .i64 3)from rfl]at hmu;have hmu:=hmu.mono (λe w9 hh=>show e= .panicked [{ v:=ou 3,recovered:=false }]∧Keep nM w2 w9 from⟨by have h5:=hh.1;rwa [aB (by decide)]at h5,hh.2⟩);have Hmu:=ag hmu;clear hmu;go_wp2_with fail;refine Hmu.out.mono ?_;rintro e w3 ⟨rfl,K3⟩;have hO3:wW w3 X:=K3.heap HO2.out (λx=>x);rw[HX.out]at hO3;have KW:=Jc.out.nK K3;have hT3:uH w3:=HTT.out.keep KW (λx=>x);have HO3:=ag hO3;have MN:=ag KW;clear Hmu hO3 K3 KW;go_wp2_with fail;refine mD (f:=18) (args:= #[.pointer (some ⟨w.heap.size,0,none⟩)]) (by simp) (by simp[go_sem]) ?_;refine(catch_panicking w.heap.size (.string ⟨#[]⟩) 3 (by decide) [] w3 HO3.out hT3).mono ?_;rintro e u' w4 ⟨rfl,rfl,w5,K5,rfl⟩;have hO5:wW w5 w.heap.size:=K5.heap HO3.out (λx=>x);have c5:w5.cell? ⟨w.heap.size,0,none⟩=some (.string ⟨#[]⟩):=cellOf hO5 0 rfl;have KF:Keep nM w (w5.setCell ⟨w.heap.size,0,none⟩ (.string (uG 3))):=((MN.out.nK K5)).setCell (p:=⟨w.heap.size,0,none⟩) (.inr (show w.heap.size<=w.heap.size from aF _)) _;have c4:(w5.setCell ⟨w.heap.size,0,none⟩ (.string (uG 3))).cell? ⟨w.heap.size,0,none⟩=some (.string (uG 3)):=fZ _ _ _ c5;simp[Leaves,settle,results,Tryz.results9,go_sem,c4];exact KF
end Go.Proofs.YtopbkdebihcmcaaGreatDoor
