import Derived.Test.YtopbkdebihcmcaaGreatDoorYBS
set_option linter.unusedSimpArgs false
set_option linter.unusedVariables false
namespace Go.Proofs.YtopbkdebihcmcaaGreatDoor
open Go.RowKit
set_option maxRecDepth 100000
set_option maxHeartbeats 16000000
def wt(l:List (Nat×Nat)):Nat:=(l.map λp=>p.2-p.1+1).sum
theorem zf0(l:List (Nat×Nat))(p:Nat×Nat):wt (l++ [p])=wt l+(p.2-p.1+1):=by unfold wt;rw[di,List.sum_append];simp
def WtI(s:af)(st:Option Nat)(acc:List (Nat×Nat)):Prop:=match st with
 | none=>wt acc<=s.size
 | some a=>wt acc<=a∧a<=s.size
theorem Gt(p:Nat->Bool)(s:af):∀(f pos:Nat) (st:Option Nat) (acc:List (Nat×Nat)),WtI s st acc->(st=none->wt acc<=pos)->(∀a,st=some a->a<=pos)->WtI s (Lib.spansFromP p s f pos st acc).2 (Lib.spansFromP p s f pos st acc).1
 | 0,pos,st,acc,h,_,_=>h
 | f+1,pos,st,acc,h,hn,ha=>by
  by_cases hp:pos<s.size
  ·have hd:=PG s pos hp;by_cases hs:p (Utf8.decode s pos).1=true
   ·cases st with
    | none=>
     rw[Lib.spansFromP,aP hp,aP hs];exact Gt p s f _ none acc h (λ_=>by have:=hn rfl;omega) (λa e=>by cases e)
    | some a=>
     rw[Lib.spansFromP,aP hp,aP hs];have h1:=ha a rfl;have h2:wt acc<=a∧a<=s.size:=h;have h3:=zf0 acc (a,pos);dsimp only at h3;refine Gt p s f _ none _ ?_ (λ_=>by omega) (λa e=>by cases e);show wt (acc++ [(a,pos)])<=s.size;omega
   ·cases st with
    | none=>
     rw[Lib.spansFromP,aP hp,aB hs];exact Gt p s f _ (some pos) acc ⟨hn rfl,by omega⟩ (λe=>by cases e) (λa e=>by cases e;omega)
    | some a=>
     rw[Lib.spansFromP,aP hp,aB hs];exact Gt p s f _ (some a) acc h (λe=>by cases e) (λb e=>by cases e;have:=ha a rfl;omega)
  ·rw[Lib.spansFromP_end _ _ _ _ _ _ hp];exact h
theorem zdb(s:af):∀l:List (Nat×Nat),((l.map λx=>s.extract x.1 x.2).map ByteArray.size).sum+(l.map λx=>s.extract x.1 x.2).length<=wt l
 | []=>aF _
 | x::l=>by
  have ih:=zdb s l;have h1:(s.extract x.1 x.2).size<=x.2-x.1:=by rw[dV];omega
  have h2:wt (x::l)=(x.2-x.1+1)+wt l:=rfl;simp only[bF,List.sum_cons,aK]at ih⊢;omega
theorem zdA(s:af):((qK s).map ByteArray.size).sum+(qK s).length<=s.size+1:=by
 unfold qK Lib.goFieldsP;refine bH (zdb s _) ?_;have h:=Gt Ji s s.size 0 none [] (dL _) (λ_=>aF _) (λa e=>by cases e);unfold Lib.spansOfP Lib.closeSpans;split
 ·rename_i a ha;rw[ha]at h;have h2:wt (Lib.spansFromP Ji s s.size 0 none []).1<=a∧a<=s.size:=h;rw[zf0];dsimp only;omega
 ·rename_i ha;rw[ha]at h;have h2:wt (Lib.spansFromP Ji s s.size 0 none []).1<=s.size:=h;omega
theorem OG:∀(l:List af) (x:af),x∈l->x.size<=(l.map ByteArray.size).sum
 | y::l,x,h=>by
  rw[bF,List.sum_cons];rcases bK.1 h with rfl|h
  ·omega
  ·have:=OG l x h;omega
theorem Pq{n:Int}(h: -10000<n∧n<10000):(uG n).size<=40000:=by unfold uG;rw[aX];have h2:(⟨(Lib.itoa n).toArray⟩:af).size=(Lib.itoa n).length:=rfl;have h3:=xE n h;rw[h2];have h4:(⟨#[101,114,114,111,114,32]⟩:af).size=6:=rfl;omega
theorem NR{st:oI}{s name:af}{rest:List af}{f:oI->List af->Ans×oI}(hw:qK s=name::rest)(hc:zN name=some f):ve st s=(zm4 (f st rest).1,(f st rest).2):=by unfold ve;rw[hw];dsimp only;rw[hc]
theorem NQ{st:oI}{s name:af}{rest:List af}(hw:qK s=name::rest)(hc:zN name=none):ve st s=(uG 3,st):=by unfold ve;rw[hw];dsimp only;rw[hc]
theorem VR{st:oI}{s:af}(hw:qK s= []):ve st s=(Oq,st):=by unfold ve;rw[hw]
section
variable {w0:World}{DD:Nat}
theorem Zv{kk:Nat}{st:oI}{W:World}{Q:Nat->Prop}(h:Ar w0 DD kk st W Q):uI kk st∧∀p,st.base=some p->Ed p.2:=by obtain⟨P,D,C,bv,iv,h,hQ⟩:=h;refine⟨h.ok,λp hp=> ?_⟩;obtain⟨V,b⟩:=p;obtain⟨BB,k,_,hB,_⟩:=sW h hp;exact hB.ok
theorem zly(G:pM w0){W:World}{Q:Nat->Prop}{st:oI}{kk:Nat}(hG:Ar w0 DD kk st W Q)(hkk:kk<=20100){s:af}(hs:s.size<=19000):
  ae 9 #[.pointer (some ⟨DD,0,none⟩),.string s] W λe W'=>e= .returned (.string (ve st s).1)∧(∃Q',Ar w0 DD (kk+1) (ve st s).2 W' Q'∧Grow W Q Q')∧Keep Q W W':=by
 have K0:=hG.keep;cases hw:qK s with
 | nil=>
  rw[VR hw];refine(zej (by omega) hw).mono ?_;rintro e W' ⟨rfl,K⟩;exact⟨rfl,hG.same K⟩
 | cons name rest=>
  have hsum:=zdA s;rw[hw]at hsum;simp only[bF,List.sum_cons,aK]at hsum;have hn:name.size<=maxLen:=by unfold maxLen;omega
  rcases Wj (DD:=DD) G name with⟨hc,hd⟩|⟨F,doX,hc,hd,hC,hE,hS,eF⟩
  ·rw[NQ hw hc];refine(XR (G.items.pow.keep K0 (λx=>x)) (G.errs.keep K0 (λx=>x)) (by omega) hw hn (by omega) hd).mono ?_;rintro e W' ⟨rfl,K⟩;exact⟨rfl,hG.same K⟩
  ·rw[NR hw hc];have hrs:∀x∈rest,x.size<=20000:=λx hx=>by have:=OG rest x hx;omega
   have hcm:=λw1 hT q c hst hc hx=>hC w1 Q st kk rest q c hT hkk hst hc (by omega) hrs (by omega) hx;cases ha:(doX st rest).1 with
   | ok t=>
    refine zgC (vT w0 DD kk st) (vT w0 DD (kk+1) (doX st rest).2) K0 hG (by omega) hw hn (by omega) hd eF (λw1 hT K q c hst hc hx=>(hcm w1 hT q c hst hc hx).mono ?_);rintro e w2 ⟨hA,hD⟩;rw[ha]at hA;exact⟨hA,hD⟩
   | error n=>
    refine zdN (vT w0 DD kk st) (vT w0 DD (kk+1) (doX st rest).2) K0 hG G.items.pow n (hE st rest n ha) (by omega) hw hn (by omega) hd eF (λw1 hT K q c hst hc hx=>(hcm w1 hT q c hst hc hx).mono ?_);rintro e w2 ⟨hA,hD⟩;rw[ha]at hA;exact⟨hA,hD⟩
theorem zei(G:pM w0){st:oI}{kk:Nat}{s:af}(h:uI kk st)(hB:∀p,st.base=some p->Ed p.2)(h2:uI (kk+1) (ve st s).2)(hkk:kk<=20100):(ve st s).1.size<=40000:=by
 cases hw:qK s with
 | nil=>
  rw[VR hw];show Oq.size<=40000;decide
 | cons name rest=>
  rcases Wj (DD:=0) G name with⟨hc,hd⟩|⟨F,doX,hc,hd,hC,hE,hS,eF⟩
  ·rw[NQ hw hc];exact Pq (by decide)
  ·rw[NR hw hc]at h2⊢;cases ha:(doX st rest).1 with
   | ok t=>exact hS kk st rest h hB h2 hkk t ha
   | error n=>exact Pq (hE st rest n ha)
end
section
open Go.Shelf
attribute [local go_sem] jF
structure zm6(w:World)(ls an:List af)(St:Nat->(Nat->Prop)->Nat->World->Prop):Prop where
 start:∀W BB D C P DD,Ov w W P DD BB D C Ij (uU Ij) ⟨wU,[],-1⟩ 0 II 60 (.slice none 0 0) []->St 0 (λx=>P x∨x=DD) DD W
 line:∀k Q DD W,k<ls.length->Keep nM w W->St k Q DD W->ae 9 #[.pointer (some ⟨DD,0,none⟩),.string (ls.getD k ⟨#[]⟩)] W λe W'=>e= .returned (.string (an.getD k ⟨#[]⟩))∧(∃Q',St (k+1) Q' DD W'∧Grow W Q Q')∧Keep Q W W'
 other:∀k Q DD W W' X,St k Q DD W->Keep X W W'->(∀x,X x->x<W.heap.size->Free w W Q x)->St k Q DD W'
 own:∀k Q DD W,St k Q DD W->∀x,Q x->w.heap.size<=x∧x<W.heap.size
 size:∀k Q DD W Q' W',k<ls.length->St k Q DD W->St (k+1) Q' DD W'->(an.getD k ⟨#[]⟩).size<=40000
 bytes:∀k Q DD W,St k Q DD W->∀x c f,Q x->W.heap[x]? =some (.cells c 5 f)->False
def zm5(w:World)(an:List af)(St:Nat->(Nat->Prop)->Nat->World->Prop)(DD b L:Nat)(k:Nat)(W:World):Prop:=
 ∃Q,St k Q DD W∧IsB b b (IG (an.take k)) W∧W.heap[DD+1]? =some (.cells #[.pointer (some ⟨DD,0,none⟩)] 24 (0,0))∧(∀x,Q x->x≠DD+1∧x≠b∧x≠b+1∧x≠b+2∧x≠b+3∧x≠L∧x≠L+1)∧Keep nM w W∧(L<=W.heap.size∧(IG (an.take k)).length<=k*40001)∧∃cs fz,W.heap[b+1]? =some (.cells cs 9 fz)∧W.heap[b+1+1]? =some (.cells #[.string JI] 9 (0,0))∧∃v,W.heap[b+1+2]? =some (.cells v 3 (0,0))
theorem XG{w:World}{St:Nat->(Nat->Prop)->Nat->World->Prop}(text:af)(ht:text.size<=20000)(ls an:List af)(hla:ls.length=an.length)(hne:ls≠ [])(htx:(⟨(Lib.trimSuffix text.data.toList JI.data.toList).toArray⟩:af)=rF ls)(hnl:∀x∈ls,(10:UInt8)∉x.data.toList)(hll:ls.length<=20001)(hMx:∃m,w.cell? ⟨3,0,none⟩=some (.int .i64 m))(G:pM w)(hT:zm6 w ls an St):
  ae 4 #[.string text] w λe w'=>e= .returned (.string ⟨(IG an).toArray⟩)∧Keep nM w w':=by
 refine(fF (n:=3)).1 ?_;have hro:(Fence.wide).round=none:=rfl;have h1:1<=3:=by omega
 have j0:¬(20000:Int)<(text.size:Int):=by omega
 refine callsIn_of_wp_marks Tryz.func4 rfl trivial ?_ hro;simp only[Tryz.ntmps4,bT,aK,bI,Nat.reduceAdd,Nat.reduceSub,fP,fQ,ig,gm,fK,dI];gi_wp2;obtain⟨DD,hDD⟩:∃x,x=w.heap.size:=⟨_,rfl⟩
 obtain⟨wA,hwA⟩:∃x,x=((w.alloc (.cells #[.pointer none,.pointer none,.pointer none,.string ⟨#[]⟩,.slice none 0 0] 30)).alloc (.cells #[.pointer (some ⟨w.heap.size,0,none⟩)] 24)).alloc (.cells #[.string ⟨#[]⟩] 9):=⟨_,rfl⟩
 have KA:Keep nM w wA:=by rw[hwA];exact(((ah _ _).alloc _).alloc _).alloc _
 have sA:wA.heap.size=DD+3:=by rw[hwA,hDD];simp
 have rA:wA.heap[DD]? =some (.cells #[.pointer none,.pointer none,.pointer none,.string ⟨#[]⟩,.slice none 0 0] 30 (0,0)):=by rw[hwA,hDD];exact(((ah nM _).alloc _).alloc _).heap (aG w _) (λx=>x)
 have tA:wA.heap[DD+1]? =some (.cells #[.pointer (some ⟨DD,0,none⟩)] 24 (0,0)):=by rw[hwA,hDD];have h2:=aG (w.alloc (.cells #[.pointer none,.pointer none,.pointer none,.string ⟨#[]⟩,.slice none 0 0] 30)) (.cells #[.pointer (some ⟨w.heap.size,0,none⟩)] 24);rw[eP]at h2;exact((ah nM _).alloc _).heap h2 (λx=>x)
 have gA:wA.cell? ⟨DD+2,0,none⟩=some (.string ⟨#[]⟩):=by rw[hwA,hDD];have h2:=aG ((w.alloc (.cells #[.pointer none,.pointer none,.pointer none,.string ⟨#[]⟩,.slice none 0 0] 30)).alloc (.cells #[.pointer (some ⟨w.heap.size,0,none⟩)] 24)) (.cells #[.string ⟨#[]⟩] 9);rw[eP,eP]at h2;exact cellOf h2 0 rfl
 rw[<-hwA,<-hDD,show DD+1+1=DD+2 from rfl];have hfr:=UZ (wz:=w) (w:=wA) (DD:=DD) (g:=DD+2) (off:=0) (c:=1) rA gA (by omega) KA (by omega) G (G.rounds.keep KA (λx=>x)) (λe=>by have e:0=DD:=e;have h5:0<w.heap.size:=dX (G.rounds 0 (by omega));omega);have Hfr:=ag hfr;have HG:=ag G;have HsA:=ag sA;have HDD:=ag hDD;have HKA:=ag KA;have HtA:=ag tA;clear hfr G rA gA tA KA hwA sA hDD;refine⟨trivial,?_⟩;refine(fF.2 Hfr.out).mono ?_;rintro e wB ⟨rfl,⟨BB,D,C,P,hS⟩,KB⟩;have HS:=ag hS;have HKB:=ag KB;have HtB:Hid (wB.heap[DD+1]? =some (.cells #[.pointer (some ⟨DD,0,none⟩)] 24 (0,0))):=ag (KB.heap HtA.out (λe=>by have e:DD+1=DD:=e;omega));clear hS KB Hfr HtA;gi_wp2;obtain⟨b,hb⟩:∃x,x=wB.heap.size:=⟨_,rfl⟩
 obtain⟨wC,hwC⟩:∃x,x=wB.alloc (.cells #[.pointer none,.slice none 0 0] 35):=⟨_,rfl⟩
 have KC:Keep nM wB wC:=by rw[hwC];exact(ah _ _).alloc _
 have sC:wC.heap.size=b+1:=by rw[hwC,hb];simp
 have iC:IsB b b [] wC:=by rw[hwC,hb];exact zc0 wB
 rw[<-hwC,<-hb];have hlB:DD+3<=b:=by rw[hb,<-HsA.out];exact HKB.out.size
 have HKC:=ag KC;have HsC:=ag sC;have HiC:=ag iC;have Hb:=ag hb;have HlB:=ag hlB;have Htx:=ag htx;have Hla:=ag hla;have Hne:=ag hne;clear KC sC iC hb hlB hwC htx hla hne;refine⟨trivial,?_⟩;refine(fF.2 (Tryz.strings_TrimSuffix text ⟨#[10]⟩ wC (by omega))).mono ?_;rintro e wC' ⟨rfl,hwC'⟩;subst wC';rw[show(⟨#[10]⟩:af)=JI from rfl,Htx.out];gi_wp2;rw[show(⟨#[10]⟩:af)=JI from rfl];refine⟨trivial,?_⟩;refine(fF.2 (XC (rF ls) JI wC)).mono ?_;rintro e wD ⟨rfl,hwD⟩;rw[HsC.out];have HwD:=ag hwD;clear hwD;gi_wp2;have HT:=ag hT;have Hnl:=ag hnl;clear hT hnl;have hsD:wD.heap.size=b+4:=by rw[HwD.out];simp[HsC.out]
 have KD:Keep nM wC wD:=by rw[HwD.out];exact(((ah _ _).alloc _).alloc _).alloc _
 have HsD:=ag hsD;have HKD:=ag KD;clear hsD KD;refine TK hro (by omega) (gf:=29) (lb:= #[.pointer (some ⟨b+1+1,0,none⟩),.pointer (some ⟨b+1,0,none⟩),.pointer (some ⟨b+1+2,0,none⟩)]) rfl trivial (enters_of Tryz.func29 (by kernel_rfl) rfl)
  (λk=> #[.string (ls.getD k ⟨#[]⟩)]) ls.length (λ_=>rfl) (zm5 w an St DD b (b+4)) (λA B=>∀x,x=b+1+1∨x=b+1∨x=b+1+2->B.heap[x]? =A.heap[x]?) (λh1 h2 x hx=>(h2 x hx).trans (h1 x hx)) ?k2 ?stable ?start ?seq ?round ?done
 case k2=>
  intro A B K hA x hx;rw[HsD.out]at hA;exact K.block x (by rcases hx with rfl|rfl|rfl<;>omega) (λe=>by have e:x=wD.heap.size+1:=e;rw[HsD.out]at e;rcases hx with rfl|rfl|rfl<;>omega)
 case stable=>
  rintro k A B ⟨Q,h1,h2,h3,h4,h5,h6,cs1,fz1,h7,h8,v3,h9⟩ K ⟨r,hr⟩;have hlw:=HDD.out;have hb0:=HlB.out;rw[HsD.out]at hr;have hne:∀x,nY (wD.heap.size+1) x->x=b+5:=λx e=>by have e:x=wD.heap.size+1:=e;rw[HsD.out]at e;omega
  refine⟨Q,HT.out.other k Q DD A B _ h1 K (λx hx _=> ?_),h2.keep K (λe=>by have:=hne _ e;omega) (λx _ _ hc e=> ?_),K.heap h3 (λe=>by have:=hne _ e;omega),h4,h5.trans K (λi hi e=>by have:=hne i e;omega),⟨bH h6.1 K.size,h6.2⟩,cs1,fz1,K.heap h7 (λe=>by have:=hne _ e;omega),K.heap h8 (λe=>by have:=hne _ e;omega),v3,K.heap h9 (λe=>by have:=hne _ e;omega)⟩
  ·obtain rfl:=hne x hx;refine⟨by omega,λhq=>(h4 _ hq).2.2.2.2.2.2 rfl,λc t f hh=> ?_,λq M hm=> ?_⟩
   ·rw[show b+5=b+4+1 from rfl,hr]at hh;cases hh
   ·obtain⟨es,cl,hz,_⟩:=hm;rw[show b+5=b+4+1 from rfl,hr]at hz;cases hz
  ·obtain⟨cs,fz,hh⟩:=hc;obtain rfl:=hne x e;rw[show b+5=b+4+1 from rfl,hr]at hh;cases hh
 case start=>
  intro B KE;have hb0:=HlB.out;have hb1:=Hb.out;have hlw:=HDD.out;have KB:Keep nM wB B:=(HKC.out.nK HKD.out).nK KE;have hS:=HS.out.oz KB;have hlt:∀x,P x->x<b:=λx hx=>by rw[hb1];exact HS.out.base.lt x hx
  have hbs:wD.heap[b+1+1]? =some (.cells #[.string JI] 9 (0,0))∧wD.heap[b+1+2]? =some (.cells #[.int .i64 0] 3 (0,0)):=by
   rw[HwD.out,<-HsC.out];constructor
   ·have h2:=aG (wC.alloc (.cells #[.string (rF ls)] 9)) (.cells #[.string JI] 9);rw[eP]at h2;exact((ah nM _).alloc _).heap h2 (λx=>x)
   ·have h2:=aG ((wC.alloc (.cells #[.string (rF ls)] 9)).alloc (.cells #[.string JI] 9)) (.cells #[.int .i64 0] 3);rw[eP,eP]at h2;exact h2
  refine⟨⟨λx=>P x∨x=DD,HT.out.start _ _ _ _ _ _ hS,?_,KB.heap HtB.out (λx=>x),λx hx=> ?_,?_,?_⟩,λx hx=> ?_⟩
  ·rw[bZ];exact HiC.out.oz (HKD.out.nK KE)
  ·rcases hx with hx|rfl
   ·have h1:=hlt x hx;refine⟨λe=> ?_,by omega,by omega,by omega,by omega,by omega,by omega⟩;subst e;exact HS.out.base.znK _ _ _ hx HtB.out
   ·refine⟨by omega,by omega,by omega,by omega,by omega,by omega,by omega⟩
  ·exact(HKA.out.trans HKB.out (λi hi e=>by have e:i=DD:=e;omega)).nK KB
  ·refine⟨⟨by rw[<-HsD.out];exact KE.size,by rw[mO];exact aF _⟩,#[.string (rF ls)],(0,0),KE.heap ?_ (λx=>x),KE.heap hbs.1 (λx=>x),_,KE.heap hbs.2 (λx=>x)⟩;rw[HwD.out,<-HsC.out];exact(((ah nM _).alloc _).alloc _).heap (aG wC _) (λx=>x)
  ·exact KE.block x (by rw[HsD.out];rcases hx with rfl|rfl|rfl<;>omega) (λx=>x)
 case seq=>
  intro J W1 hJ hY h0 hk0;have hsz:(rF ls).size<=1000000:=by
   rw[<-Htx.out,ByteArray.size];have h1:(Lib.trimSuffix text.data.toList JI.data.toList).length<=text.data.toList.length:=by unfold Lib.trimSuffix;split<;>simp
   have h2:text.data.toList.length=text.size:=rfl;simp only[bT];omega
  have hb0:=HlB.out;have c1:Boxed wD (b+1+1) 9 (.string JI):=by rw[HwD.out,<-HsC.out];have h2:=aG (wC.alloc (.cells #[.string (rF ls)] 9)) (.cells #[.string JI] 9);rw[eP]at h2;exact((ah nM _).alloc _).heap h2 (λx=>x)
  have c2:Boxed wD (b+1) 9 (.string (rF ls)):=by rw[HwD.out,<-HsC.out];exact(((ah nM _).alloc _).alloc _).heap (aG wC _) (λx=>x)
  have c3:Boxed wD (b+1+2) 3 (.int .i64 0):=by rw[HwD.out,<-HsC.out];have h2:=aG ((wC.alloc (.cells #[.string (rF ls)] 9)).alloc (.cells #[.string JI] 9)) (.cells #[.int .i64 0] 3);rw[eP,eP]at h2;exact h2
  refine zgD 2 (by omega) wD.heap.size (b+1+1) (b+1) (b+1+2) ls Hne.out Hnl.out hsz (by rw[HsD.out];omega) (zm5 w an St DD b (b+4)) J _ (λA B h x hx=>h x hx) hJ ?_ ?_ hY W1 h0 ((hk0 _ (.inl rfl)).trans c1) ((hk0 _ (.inr (.inl rfl))).trans c2) ((hk0 _ (.inr (.inr rfl))).trans c3)
  ·rintro k A v ⟨Q,h1,h2,h3,h4,h5,h6,cs1,fz1,h7,h8,v3,h9⟩;have K:Keep (nY (b+1)) A (A.setCell ⟨b+1,0,none⟩ v):=(ah _ _).set1 0 v;have hlw:=HDD.out;have hne:∀x,nY (b+1) x->x=b+1:=λx e=>e;refine⟨Q,HT.out.other k Q DD A _ _ h1 K (λx hx _=> ?_),h2.keep K (λe=>by have:=hne _ e;omega) (λx _ _ hc e=> ?_),K.heap h3 (λe=>by have:=hne _ e;omega),h4,h5.trans K (λi hi e=>by have:=hne i e;omega),⟨bH h6.1 K.size,h6.2⟩,_,_,oM h7 v,K.heap h8 (λe=>by have:=hne _ e;omega),v3,K.heap h9 (λe=>by have:=hne _ e;omega)⟩
   ·obtain rfl:=hne x hx;refine⟨by omega,λhq=>(h4 _ hq).2.2.1 rfl,λc t f hh=> ?_,λq M hm=> ?_⟩
    ·rw[h7]at hh;cases hh;exact⟨by decide,by decide,by decide,by decide,by decide⟩
    ·obtain⟨es,cl,hz,_⟩:=hm;rw[h7]at hz;cases hz
   ·obtain⟨cs,fz,hh⟩:=hc;obtain rfl:=hne x e;rw[h7]at hh;cases hh
  ·rintro k A ⟨Q,h1,h2,h3,h4,h5,h6,cs1,fz1,h7,h8,v3,h9⟩;obtain⟨m,hm⟩:=hMx;exact⟨m,(h5.cell (dX hm) (λx=>x)).trans hm⟩
 case done=>
  rintro W ⟨Q,h1,h2,h3,h4,h5,h6,cs1,fz1,h7,h8,v3,h9⟩ hd;have hb0:=HlB.out;have hlw:=HDD.out;rw[aV (by have:=Hla.out;omega)]at h2;have hstr:=Tryz.Builder_String_any_k b b _ W h2 (by omega);have zk7:=ag hstr;have H5:=ag h5;have H6:=ag h6;rw[HsD.out]at hd;have Hd:=ag hd;clear hstr h5 hd h2 h3 h7;gi_wp2;refine⟨trivial,(fF.2 zk7.out).mono ?_⟩;rintro e W2 ⟨rfl,-,hBl,hO⟩;have hd2:W2.heap[b+4]? =some (.deferred (some [])):=hO _ _ Hd.out (λe=>by cases e) (λc fz e=>by cases e);have K2:Keep nM w W2:=⟨hBl.os.trans H5.out.os,hBl.tape.trans H5.out.tape,hBl.output.trans H5.out.output,bH H5.out.size hBl.size,λi hi hn=>by rw[hBl.block i (by omega)];exact H5.out.block i hi hn⟩
  have Hd2:=ag hd2;have Jc:=ag K2;clear hd2 K2 hBl hO;rw[HsD.out];gi_wp2;refine⟨by simp,.inl ⟨_,_,rfl,run_takeDeferred Hd2.out,?_⟩⟩;refine⟨.string ⟨(IG an).toArray⟩,?_,rfl,Jc.out.trans (Dp W2 (b+3) _) (λi hi e=>by have e:i=b+3+1:=e;omega)⟩;simp[results,Tryz.f4,go_sem]
 case round=>
  intro k W hk hI hlt hr K hbody;have hkl:k<ls.length:=hk;gi_wp2;refine hbody _ W ⟨aF _,rfl,rfl⟩ (λx _=>rfl) hI ?_;clear hbody hI hlt hr;rintro W2 ⟨Q,h1,h2,h3,h4,h5,h6,cs1,fz1,h7,h8,v3,h9⟩ hlt2 ⟨r2,hr2⟩ hdf;have zfL:=HT.out.line k Q DD W2 hkl h5 h1;have hka:k<an.length:=Hla.out▸hkl;rw[show ls.getD k ⟨#[]⟩=ls[k]by simp[hkl],show an.getD k ⟨#[]⟩=an[k]by simp[hka]]at zfL;have zjZ:=ag zfL;have c3:=cellOf h3 0 rfl;have H1:=ag h1;have H2:=ag h2;have H3:=ag h3;have H4:=ag h4;have H5:=ag h5;have H6:=ag h6;have H7:=ag h7;have Hr:=ag hr2;have H8:=ag h8;have H9:=ag h9;rw[HsD.out]at hdf;have Hdf:=ag hdf;clear zfL h1 h2 h3 h4 h5 h6 h7 hr2 h8 h9 hdf;gi_wp2;refine⟨trivial,(CallsIn.inRound _ (fF.2 zjZ.out)).mono ?_⟩;rintro e W3 ⟨rfl,⟨Q',h1',hg⟩,K1⟩;have hb0:=HlB.out;have hsz2:b+5<W2.heap.size:=by rw[HsD.out]at hlt2;omega
  have iB:=H2.out.keep K1 (λe=>(H4.out _ e).2.1 rfl) (λx _ _ hc e=>by obtain⟨cs,fz,hh⟩:=hc;exact HT.out.bytes k Q DD W2 H1.out x _ _ e hh);have nQ:∀x,Q x->x≠DD+1∧x≠b∧x≠b+1∧x≠b+2∧x≠b+3∧x≠b+4∧x≠b+4+1:=H4.out;have nQ':∀x,Q' x->x≠DD+1∧x≠b∧x≠b+1∧x≠b+2∧x≠b+3∧x≠b+4∧x≠b+4+1:=λx hx=>(hg x hx).elim (nQ x) (λh=>by refine⟨by omega,by omega,by omega,by omega,by omega,by omega,by omega⟩);have t3:=K1.heap H3.out (λe=>(nQ _ e).1 rfl);have x3:=K1.heap H7.out (λe=>(nQ _ e).2.2.1 rfl);have kw3:Keep nM w W3:=H5.out.trans K1 (λi hi e=>by have:=(HT.out.own k Q DD W2 H1.out i e).1;omega);have zfo:an[k].size<=40000:=by
   have:=HT.out.size k Q DD W2 Q' W3 hkl H1.out h1'
   rwa [show an.getD k ⟨#[]⟩=an[k]by simp[hka]]at this
  have h62:=H6.out.2;have hle:(IG (an.take k)).length+(an[k].size+1)<=(k+1)*40001:=by rw[Nat.succ_mul];omega
  have hle2:(k+1)*40001<=900000000:=by omega
  have ha:an[k].size<=1000000:=by omega
  have HiB:=ag iB;have HnQ:=ag nQ;have znm:=ag nQ';have Ht3:=ag t3;have Hx3:=ag x3;have zpM:=ag kw3;have Hle:=ag (And.intro hle hle2);have H1':=ag h1';have BU:=ag K1;have zne:=ag hsz2;clear iB nQ nQ' t3 x3 kw3 hle hle2 zfo h62 h1' K1 hg hsz2 zjZ H1 H2 H3 H5 H6;gi_wp2;have hw4:=write_any b b _ (an[k]++⟨#[10]⟩) W3 HiB.out (by have h8:=Hle.out.1;have h9:=Hle.out.2;rw[aX,show(⟨#[10]⟩:af).size=1 from rfl];omega) (by have:=BU.out.size;have:=zne.out;omega);refine⟨trivial,(CallsIn.inRound _ (fF.2 hw4)).mono ?_⟩;rintro e W4 ⟨rfl,iB4,K4⟩;have s23:=BU.out.size;have hs2:=zne.out;have zpb:∃cs fz,W3.heap[b]? =some (.cells cs 35 fz):=by
   rcases HiB.out with⟨_,v,hh,_⟩|⟨_,v,hh,_⟩
   ·exact⟨_,_,hh⟩
   ·exact⟨_,_,hh⟩
  obtain⟨cb,fb,hcb⟩:=zpb;have hr3:W3.heap[b+4+1]? =some (.loop r2):=by have:=Hr.out;rw[HsD.out]at this;exact BU.out.heap this (λe=>(HnQ.out _ e).2.2.2.2.2.2 rfl)
  have z8:=BU.out.heap H8.out (λe=>(HnQ.out _ e).2.2.2.1 rfl);have z9:=BU.out.heap H9.out (λe=>(HnQ.out _ e).2.2.2.2.1 rfl);have nW:∀x,x=b+1∨x=b+1+1∨x=b+1+2∨x=b+4∨x=b+4+1->¬Wr b b W3 x:=by
   rintro x hx (e|⟨_,cs,fz,hh⟩)
   ·omega
   ·rcases hx with rfl|rfl|rfl|rfl|rfl
    ·rw[Hx3.out]at hh;cases hh
    ·rw[z8]at hh;cases hh
    ·rw[z9]at hh;cases hh
    ·rw[BU.out.heap Hdf.out (λe=>(HnQ.out _ e).2.2.2.2.2.1 rfl)]at hh;cases hh
    ·rw[hr3]at hh;cases hh
  have K24:∀x,x=b+1∨x=b+1+1∨x=b+1+2∨x=b+4∨x=b+4+1->W4.heap[x]? =W2.heap[x]? :=λx hx=>(K4.block x (by omega) (nW x hx)).trans (BU.out.block x (by omega) (λe=>by have:=HnQ.out x e;omega));have hout:IG (an.take (k+1))=IG (an.take k)++(an[k]++⟨#[10]⟩:af).data.toList:=zd8 hka;gi_wp2;rw[HsD.out];refine⟨⟨by have:=K4.size;omega,K24 _ (by omega),K24 _ (by omega)⟩,Q',?_,by rw[hout];exact iB4,?_,znm.out,?_,?_,cs1,fz1,(K4.block _ (by omega) (nW _ (by omega))).trans Hx3.out,(K4.block _ (by omega) (nW _ (by omega))).trans z8,v3,(K4.block _ (by omega) (nW _ (by omega))).trans z9⟩
  ·refine HT.out.other (k+1) Q' DD W3 W4 _ H1'.out K4 (λx hx _=> ?_);rcases hx with rfl|⟨hx,cs,fz,hh⟩
   ·refine⟨by have:=HDD.out;omega,λhq=>(znm.out _ hq).2.1 rfl,λc t f hh=> ?_,λq M hm=> ?_⟩
    ·rw[hcb]at hh;cases hh;exact⟨by decide,by decide,by decide,by decide,by decide⟩
    ·obtain⟨es,cl,h8,_⟩:=hm;rw[hcb]at h8;cases h8
   ·refine⟨by have:=HDD.out;omega,λhq=>HT.out.bytes _ _ _ _ H1'.out _ _ _ hq hh,λc t f h9=> ?_,λq M hm=> ?_⟩
    ·rw[hh]at h9;cases h9;exact⟨by decide,by decide,by decide,by decide,by decide⟩
    ·obtain⟨es,cl,h8,_⟩:=hm;rw[hh]at h8;cases h8
  ·refine K4.heap Ht3.out (λe=> ?_);rcases e with e|⟨e,_⟩<;>omega
  ·exact zpM.out.trans K4 (λi hi e=>by have:=HDD.out;rcases e with e|⟨e,_⟩<;>omega)
  ·refine⟨by have:=K4.size;omega,?_⟩;rw[hout,ay,zjr an[k]];exact Hle.out.1
end
theorem zoy(w:World)(G:pM w)(ls:List af)(hll:ls.length<=20001)(hls:∀s∈ls,s.size<=19000):zm6 w ls (Jd (MQ ⟨#[]⟩) ls) (λk Q DD W=>Ar w DD k (stV (MQ ⟨#[]⟩) (ls.take k)) W Q):=by
 refine⟨?_,?_,?_,?_,?_,?_⟩
 ·intro W BB D C P DD hS;refine⟨P,D,C,_,_,⟨hS.row,⟨BB,60,rfl,hS.base,by omega⟩,hS.sep,hS.new,JL.nil _ _ _ _,?_⟩,λx=>⟨λh=>h.elim .inl (λh=> .inr (.inl h)),λh=>h.elim .inl (λh=>h.elim .inr (λh=>by cases h))⟩⟩;refine⟨⟨by simp[MQ,wU,stV],λs hs=> ?_,λp hp=>(by cases hp),dL _⟩,DY _,jO _,by show(0:Int)<=_;omega,λp hp=> ?_,dL _,λs hs=>by cases hs⟩
  ·rw[kZ hs];exact tY
  ·obtain rfl:=aH hp;exact(Ry (DY _)).mono (by omega)
 ·intro k Q DD W hk K hG;have hat:=Xe ls (MQ ⟨#[]⟩) k hk;have hs:(ls.getD k ⟨#[]⟩).size<=19000:=by
   rw[show ls.getD k ⟨#[]⟩=ls[k]by simp[hk]];exact hls _ (fD hk)
  have h:=zly G hG (by omega) hs;rw[<-hat.1,<-hat.2]at h;exact h
 ·intro k Q DD W W' X hG K hX;exact(vT w DD k _).other W W' Q X hG K hX
 ·intro k Q DD W hG;exact(vT w DD k _).own W Q hG
 ·intro k Q DD W Q' W' hk hG hG';have hat:=Xe ls (MQ ⟨#[]⟩) k hk;obtain⟨h1,h2⟩:=Zv hG;obtain⟨h3,-⟩:=Zv hG';rw[hat.2]at h3;rw[hat.1];exact zei G h1 h2 h3 (by omega)
 ·intro k Q DD W hG;exact(vT w DD k _).bytes W Q hG
theorem zdX{w:World}(text:af)(ht:text.size<=19000)(ls:List af)(hne:ls≠ [])(htx:(⟨(Lib.trimSuffix text.data.toList JI.data.toList).toArray⟩:af)=rF ls)(hnl:∀x∈ls,(10:UInt8)∉x.data.toList)(hll:ls.length<=20001)(hls:∀s∈ls,s.size<=19000)(hMx:∃m,w.cell? ⟨3,0,none⟩=some (.int .i64 m))(G:pM w):
  ae 4 #[.string text] w λe w'=>e= .returned (.string ⟨(IG (Jd (MQ ⟨#[]⟩) ls)).toArray⟩)∧Keep nM w w':=
 XG text (by omega) ls (Jd (MQ ⟨#[]⟩) ls) (Y1 _ _).symm hne htx hnl hll hMx G (zoy w G ls hll hls)
def zkq:af:=⟨#[109,97,107,101,32,50]⟩
def zlX:af:=⟨#[109,97,107,101]⟩
theorem zoJ:qK zkq= [⟨#[109,97,107,101]⟩,⟨#[50]⟩]:=by kernel_rfl
def zkp:af:=⟨#[112,117,116,32,97,32,45,32,48,32,48]⟩
def zlW:af:=⟨#[112,117,116]⟩
theorem zoI:qK zkp= [⟨#[112,117,116]⟩,⟨#[97]⟩,⟨#[45]⟩,⟨#[48]⟩,⟨#[48]⟩]:=by kernel_rfl
def zko:af:=⟨#[112,117,116,32,98,32,116,32,51,32,52]⟩
def zlV:af:=⟨#[112,117,116]⟩
theorem zoH:qK zko= [⟨#[112,117,116]⟩,⟨#[98]⟩,⟨#[116]⟩,⟨#[51]⟩,⟨#[52]⟩]:=by kernel_rfl
def zkn:af:=⟨#[99,111,109,109,105,116]⟩
def zkf:af:=⟨#[99,111,109,109,105,116,32,49]⟩
theorem zoG:qK zkn= [⟨#[99,111,109,109,105,116]⟩]:=by kernel_rfl
def zkm:af:=⟨#[102,105,110,100,32,50,32,45,32,48,32,49]⟩
def zke:af:=⟨#[102,105,110,100,32,97,58,49,32,98,58,49,56]⟩
theorem zoF:qK zkm= [⟨#[102,105,110,100]⟩,⟨#[50]⟩,⟨#[45]⟩,⟨#[48]⟩,⟨#[49]⟩]:=by kernel_rfl
def zkl:af:=⟨#[102,105,110,100,32,50,32,116,32,48,32,48]⟩
def zkd:af:=⟨#[102,105,110,100,32,98,58,50,53]⟩
theorem zoE:qK zkl= [⟨#[102,105,110,100]⟩,⟨#[50]⟩,⟨#[116]⟩,⟨#[48]⟩,⟨#[48]⟩]:=by kernel_rfl
def zkk:af:=⟨#[116,117,114,110]⟩
def zkc:af:=⟨#[116,117,114,110,32,50]⟩
theorem zoD:qK zkk= [⟨#[116,117,114,110]⟩]:=by kernel_rfl
def zkj:af:=⟨#[111,112,101,110]⟩
def zkb:af:=⟨#[111,112,101,110,32,50]⟩
theorem zoC:qK zkj= [⟨#[111,112,101,110]⟩]:=by kernel_rfl
def zki:af:=⟨#[105,116,101,109,115]⟩
def zlU:af:=⟨#[105,116,101,109,115,32,97,58,44,48,44,48,32,98,58,116,44,51,44,52]⟩
theorem zoB:qK zki= [⟨#[105,116,101,109,115]⟩]:=by kernel_rfl
def zkh:af:=⟨#[101,112,111,99,104]⟩
def zka:af:=⟨#[101,112,111,99,104,32,50]⟩
theorem zoA:qK zkh= [⟨#[101,112,111,99,104]⟩]:=by kernel_rfl
def zfF:af:=⟨#[120]⟩
def zfE:af:=⟨#[101,114,114,111,114,32,51]⟩
theorem znF:qK zfF= [⟨#[120]⟩]:=by kernel_rfl
def zkg:List af:= [zkq,zkp,zko,zkn,zkm,zkl,zkk,zkj,zki,zkh,zfF]
def zj9:List af:= [zlX,zlW,zlV,zkf,zke,zkd,zkc,zkb,zlU,zka,zfE]
def pcA:pR:=(⟨#[97]⟩,⟨#[]⟩,[0,0])
def pcB:pR:=(⟨#[98]⟩,⟨#[116]⟩,[3,4])
def zlZ:oZ:=⟨2,[],[]⟩
def zlY:oZ:=⟨2,[],[(⟨#[97]⟩,some pcA)]⟩
def Ef:oZ:=⟨2,[],[(⟨#[97]⟩,some pcA),(⟨#[98]⟩,some pcB)]⟩
def yF:oZ:=⟨2,[(⟨#[97]⟩,pcA),(⟨#[98]⟩,pcB)],[]⟩
theorem wM{st:oI}{s name:af}{rest:List af}{f:oI->List af->Ans×oI}{t:af}{st':oI}(hw:qK s=name::rest)(hc:zN name=some f)(hf:f st rest=(.ok t,st')):ve st s=(t,st'):=by rw[NR hw hc,hf];rfl
section
variable {d:pG}{n:Int}{V:nT}{sec:af}{im:List af}
theorem pc0:ve ⟨d,n,some (V,II),sec,im⟩ zkq=(zlX,⟨d,n,some (V,zlZ),sec,im⟩):=
 wM zoJ (by kernel_rfl) (f:=vV) (by kernel_rfl)
theorem pc1:ve ⟨d,n,some (V,zlZ),sec,im⟩ zkp=(zlW,⟨d,n,some (V,zlY),sec,im⟩):=
 wM zoI (by kernel_rfl) (f:=uF) (by kernel_rfl)
theorem pc2:ve ⟨d,n,some (V,zlY),sec,im⟩ zko=(zlV,⟨d,n,some (V,Ef),sec,im⟩):=
 wM zoH (by kernel_rfl) (f:=uF) (by kernel_rfl)
theorem pc8:ve ⟨d,n,some (V,yF),sec,im⟩ zki=(zlU,⟨d,n,some (V,yF),sec,im⟩):=
 wM zoB (by kernel_rfl) (f:=xR) (by kernel_rfl)
theorem zoK:ve ⟨d,n,some (V,yF),sec,im⟩ zfF=(zfE,⟨d,n,some (V,yF),sec,im⟩):=by
 have h1:uG 3=zfE:=by kernel_rfl
 rw[NQ znF (by kernel_rfl),h1]
theorem pc4:ve ⟨d,n,some (V,yF),sec,im⟩ zkm=(zke,⟨d,n,some (V,yF),sec,im⟩):=by
 refine wM zoF (by kernel_rfl) (f:=qH) ?_;have h1:FH (o9 yF.now) [0,1] 2 (tagV ⟨#[45]⟩)= [(⟨#[97]⟩,1),(⟨#[98]⟩,18)]:=by
  have h2:((o9 yF.now).filter (zcw (tagV ⟨#[45]⟩))).map (za9 [0,1])= [(⟨#[97]⟩,1),(⟨#[98]⟩,18)]:=by kernel_rfl
  unfold FH sU;rw[h2,List.mergeSort_of_pairwise (by refine List.Pairwise.cons (λx hx=> ?_) (List.Pairwise.cons (λx hx=>by cases hx) List.Pairwise.nil);obtain rfl:=bD.1 hx;kernel_rfl)]
  rfl
 have h3:qH ⟨d,n,some (V,yF),sec,im⟩ [⟨#[50]⟩,⟨#[45]⟩,⟨#[48]⟩,⟨#[49]⟩]=(.ok (wZ (FH (o9 yF.now) [0,1] 2 (tagV ⟨#[45]⟩))),⟨d,n,some (V,yF),sec,im⟩):=by
  have e1:yg ⟨#[50]⟩=some 2:=by kernel_rfl
  have e2:wV [⟨#[48]⟩,⟨#[49]⟩]=some [0,1]:=by kernel_rfl
  simp only[qH,e1,e2];rw[aB (by decide),aB (by decide)]
 have h4:wZ [(⟨#[97]⟩,1),(⟨#[98]⟩,18)]=zke:=by kernel_rfl
 rw[h3,h1,h4]
theorem pc5:ve ⟨d,n,some (V,yF),sec,im⟩ zkl=(zkd,⟨d,n,some (V,yF),sec,im⟩):=by
 refine wM zoE (by kernel_rfl) (f:=qH) ?_;have h1:FH (o9 yF.now) [0,0] 2 (tagV ⟨#[116]⟩)= [(⟨#[98]⟩,25)]:=by
  have h2:((o9 yF.now).filter (zcw (tagV ⟨#[116]⟩))).map (za9 [0,0])= [(⟨#[98]⟩,25)]:=by kernel_rfl
  unfold FH sU;rw[h2,List.mergeSort_of_pairwise (List.Pairwise.cons (λx hx=>by cases hx) List.Pairwise.nil)];rfl
 have h3:qH ⟨d,n,some (V,yF),sec,im⟩ [⟨#[50]⟩,⟨#[116]⟩,⟨#[48]⟩,⟨#[48]⟩]=(.ok (wZ (FH (o9 yF.now) [0,0] 2 (tagV ⟨#[116]⟩))),⟨d,n,some (V,yF),sec,im⟩):=by
  have e1:yg ⟨#[50]⟩=some 2:=by kernel_rfl
  have e2:wV [⟨#[48]⟩,⟨#[48]⟩]=some [0,0]:=by kernel_rfl
  simp only[qH,e1,e2];rw[aB (by decide),aB (by decide)]
 have h4:wZ [(⟨#[98]⟩,25)]=zkd:=by kernel_rfl
 rw[h3,h1,h4]
end
section
variable {d:pG}{n:Nat}{V:nT}{sec:af}{im:List af}
theorem Zy(b:oZ)(hi:InvV sec V d.sure n)(hw:d.wait= [])(hn:n<1000)(hf:d.oD<0):
  (pX V d n b).err=0∧(pX V d n b).n=((n+1:Nat):Int)∧InvV sec (pX V d n b).v (pX V d n b).dev.sure (n+1)∧(pX V d n b).dev.wait= []∧(pX V d n b).dev.oD<0∧(pX V d n b).v.texts=uz (Bj b)∧(pX V d n b).v.now.nP=V.now.nP:=by
 obtain⟨p1,p2⟩:=OW b;have hW:=CO (o:=y8 V) (um (uz (Bj b)) 32) (vS p1 p2);have htx:(BX V V.now.nP (qE (qG (uz (Bj b)) 32) (y8 V))).texts=uz (Bj b):=by show vI V.texts _=_;rw[OM hi.texts (um _ _) (vS p1 p2) (λi s _ ho=>zac ho),UC p2]
 unfold pX vY;rw[aB (by rw[hi.alive];decide)];rcases Vk hi hw (by omega) hW (.inl rfl)with⟨h1,h2,h3,h4,h5,h6⟩|⟨_,_,_,h4,_⟩
 ·refine⟨h1,h2,?_,h5,by rw[h6 hf];exact hf,by rw[h3];exact htx,by rw[h3];rfl⟩;rw[h3,h4];exact Ro hi (by omega) hW (.inl rfl)
 ·omega
theorem zf3(hi:InvV sec V d.sure n)(hw:d.wait= [])(hn:n<1000)(hf:d.oD<0):
  (tK V d n).err=0∧(tK V d n).n=((n+1:Nat):Int)∧InvV sec (tK V d n).v (tK V d n).dev.sure (n+1)∧(tK V d n).dev.wait= []∧(tK V d n).dev.oD<0∧(tK V d n).v.texts=V.texts∧(tK V d n).v.now.nP=V.now.nP+1:=by
 have hW:=CO (o:=λ_=>true) (um V.texts 32) (vS hi.t200 hi.texts);have htx:(BX V (V.now.nP+1) (qE (qG V.texts 32) (λ_=>true))).texts=V.texts:=by show vI V.texts _=_;rw[OM hi.texts (um _ _) (vS hi.t200 hi.texts) (λi s _ ho=>by cases ho),Xu hi.texts]
 unfold tK vY;rw[aB (by rw[hi.alive];decide)];rcases Vk hi hw (by omega) hW (.inr ⟨rfl,SI⟩)with⟨h1,h2,h3,h4,h5,h6⟩|⟨_,_,_,h4,_⟩
 ·refine⟨h1,h2,?_,h5,by rw[h6 hf];exact hf,by rw[h3];exact htx,by rw[h3];rfl⟩;rw[h3,h4];exact Ro hi (by omega) hW (.inr ⟨rfl,SI⟩)
 ·omega
theorem zgX(hT:V.texts=uz (Bj Ef)):Ad V.texts=some yF:=by
 have hp:qJ Ef.nS (o9 Ef.next)=true:=by kernel_rfl
 have hl:(Bj Ef).size<=6400:=SA hp;have hj:Df V.texts=uT Ef.nS (o9 Ef.next):=by rw[hT,zam hl];simp[Bj]
 unfold Ad;rw[aB (by rw[hj];exact zd3 _ _),hj,OU hp];have h5:(⟨((Ef.nS:Nat):Int).toNat,(o9 Ef.next).map λx=>(x.1,x),[]⟩:oZ)=yF:=by kernel_rfl
 exact dK some h5
theorem pc3(hi:InvV sec V d.sure 0)(hw:d.wait= [])(hf:d.oD<0):ve ⟨d,0,some (V,Ef),sec,im⟩ zkn=(zkf,⟨(pX V d 0 Ef).dev,1,some ((pX V d 0 Ef).v,yF),sec,im⟩):=by
 obtain⟨h1,h2,h3,-⟩:=Zy (n:=0) Ef hi hw (by omega) hf;have hc:(pX V d 0 Ef).v.now.count=1:=h3.cnt;refine wM zoG (by kernel_rfl) (f:=rM) ?_;simp only[rM];have e0:((0:Nat):Int)=0:=rfl;rw[e0]at h1 h2;have h5:(⟨#[99,111,109,109,105,116,32]⟩++Dq 1:af)=zkf:=by kernel_rfl
 have h6:Ot Ef=yF:=by kernel_rfl
 rw[aB (by decide),aP h1,h2,hc,h5,h6];rfl
theorem pc6(hi:InvV sec V d.sure 1)(hw:d.wait= [])(hf:d.oD<0)(he:V.now.nP=1):ve ⟨d,1,some (V,yF),sec,im⟩ zkk=(zkc,⟨(tK V d 1).dev,2,some ((tK V d 1).v,yF),sec,im⟩):=by
 obtain⟨h1,h2,h3,-,-,-,h4⟩:=zf3 (n:=1) hi hw (by omega) hf;refine wM zoD (by kernel_rfl) (f:=wR) ?_;simp only[wR];have e0:((1:Nat):Int)=1:=rfl;rw[e0]at h1 h2 h4;have h5:(⟨#[116,117,114,110,32]⟩++Dq (1+1):af)=zkc:=by kernel_rfl
 rw[aP h1,h2,h4,he,h5];rfl
theorem pc7(hi:InvV sec V d.sure 2)(hw:d.wait= [])(hT:V.texts=uz (Bj Ef)):ve ⟨d,2,some (V,yF),sec,im⟩ zkj=(zkb,⟨d,2,some (V,yF),sec,im⟩):=by
 have ho:=Zf hi;have zh6:d.now=d.sure:=by show qx d.sure d.wait=d.sure;rw[hw];rfl
 have hag:tH ⟨d,2,some (V,yF),sec,im⟩=(0,⟨d,2,some (V,yF),sec,im⟩):=by unfold tH;dsimp only;rw[zh6,show(2:Int)=((2:Nat):Int)from rfl,ho];dsimp only;rw[zgX hT]
 have hc:V.now.count=2:=hi.cnt;refine wM zoC (by kernel_rfl) (f:=yf) ?_;have h5:(⟨#[111,112,101,110,32]⟩++Dq ((2:Nat):Int):af)=zkb:=by kernel_rfl
 have hc2:V.now.count=((2:Nat):Int):=hi.cnt;unfold yf;rw[hag];show((if (0:Int)=0 then Except.ok (⟨#[111,112,101,110,32]⟩++Dq V.now.count)else Except.error 0:Ans),(⟨d,2,some (V,yF),sec,im⟩:oI))=_;rw[aP rfl,hc2,h5]
theorem pc9(he:V.now.nP=2)(n:Int):ve ⟨d,n,some (V,yF),sec,im⟩ zkh=(zka,⟨d,n,some (V,yF),sec,im⟩):=by
 refine wM zoA (by kernel_rfl) (f:=xe) ?_;simp only[xe];have h5:(⟨#[101,112,111,99,104,32]⟩++Dq 2:af)=zka:=by kernel_rfl
 rw[he,h5]
end
theorem zls:Jd (MQ ⟨#[]⟩) zkg=zj9:=by
 obtain⟨sec,zF⟩:∃s,s=Wy ⟨#[]⟩:=⟨_,rfl⟩
 have hn:MQ ⟨#[]⟩=⟨⟨wU,[],-1⟩,0,some (uU sec,II),sec,[]⟩:=by rw[zF];rfl
 have hi0:InvV sec (uU sec) wU 0:=NT sec wU (by simp[wU]) (λi hi=>by rw[wU,ax,jg,aP hi];rfl);have he0:(uU sec).now.nP=1:=rfl;obtain⟨V,hV⟩:∃V,V=uU sec:=⟨_,rfl⟩
 rw[<-hV]at hi0 he0 hn;obtain⟨d,hd⟩:∃d:pG,d=⟨wU,[],-1⟩:=⟨_,rfl⟩
 have hds:d.sure=wU:=by rw[hd]
 have hdw:d.wait= []:=by rw[hd]
 have hdf:d.oD<0:=by rw[hd];show(-1:Int)<0;decide
 rw[<-hds]at hi0;rw[<-hd]at hn;rw[hn];obtain⟨c1,c2,c3,c4,c5,c6,c7⟩:=Zy (n:=0) Ef hi0 hdw (by omega) hdf;have e0:((0:Nat):Int)=0:=rfl;rw[e0]at c1 c2 c3 c4 c5 c6 c7;obtain⟨V1,hV1⟩:∃V',V'=(pX V d 0 Ef).v:=⟨_,rfl⟩
 obtain⟨d1,hd1⟩:∃V',V'=(pX V d 0 Ef).dev:=⟨_,rfl⟩
 have l3:=pc3 (im:= []) hi0 hdw hdf;rw[<-hV1,<-hd1]at l3 c3;rw[<-hd1]at c4 c5;rw[<-hV1]at c6 c7;rw[he0]at c7;obtain⟨t1,t2,t3,t4,t5,t6,t7⟩:=zf3 (n:=1) c3 c4 (by omega) c5;have e1:((1:Nat):Int)=1:=rfl;rw[e1]at t1 t2 t3 t4 t5 t6 t7;obtain⟨V2,hV2⟩:∃V,V=(tK V1 d1 1).v:=⟨_,rfl⟩
 obtain⟨d2,hd2⟩:∃V,V=(tK V1 d1 1).dev:=⟨_,rfl⟩
 have l6:=pc6 (im:= []) c3 c4 c5 c7;rw[<-hV2,<-hd2]at l6 t3;rw[<-hd2]at t4 t5;rw[<-hV2]at t6 t7;rw[c7]at t7;rw[c6]at t6;have l7:=pc7 (im:= []) t3 t4 t6;have l9:=pc9 (d:=d2) (sec:=sec) (im:= []) (V:=V2) t7 2;unfold zkg zj9;simp only[Jd,pc0,pc1,pc2,l3,pc4,pc5,l6,l7,pc8,l9,zoK]
def YA(c:UInt8):List (List UInt8)->List (List UInt8)
 | []=> [[c]]
 | x::l=>(c::x)::l
def U4:List UInt8->List (List UInt8)
 | []=> [[]]
 | c::r=>if c=10 then []::U4 r else YA c (U4 r)
theorem zhI(c:UInt8)(l:List (List UInt8)):YA c l≠ []:=by
 cases l with
 | nil=>exact λh=>by cases h
 | cons x l=>exact λh=>by cases h
theorem WR:∀l,U4 l≠ []
 | []=>λh=>by cases h
 | c::r=>by
  unfold U4;split
  ·exact λh=>by cases h
  ·exact zhI _ _
theorem zeU(c:UInt8){a:List (List UInt8)}(ha:a≠ [])(b:List (List UInt8)):YA c (a++b)=YA c a++b:=by
 cases a with
 | nil=>exact absurd rfl ha
 | cons x l=>rfl
theorem zcU:∀a b:List UInt8,U4 (a++10::b)=U4 a++U4 b
 | [],b=>by show U4 (10::b)= []::U4 b;simp[U4]
 | c::r,b=>by
  rw[dI,U4,U4,zcU r b];split
  ·rfl
  ·exact zeU c (WR r) _
theorem VL:∀l:List UInt8,(U4 l).length<=l.length+1∧∀x∈U4 l,(10:UInt8)∉x∧x.length<=l.length
 | []=>⟨by decide,λx hx=>by obtain rfl:=bD.1 hx;exact⟨by simp,aF _⟩⟩
 | c::r=>by
  obtain⟨h1,h2⟩:=VL r;unfold U4;split
  ·refine⟨by simp only[aK];omega,λx hx=> ?_⟩;rcases bK.1 hx with rfl|hx
   ·exact⟨by simp,dL _⟩
   ·have:=h2 x hx;exact⟨this.1,by simp only[aK];omega⟩
  ·rename_i hc;cases hn:U4 r with
   | nil=>exact absurd hn (WR r)
   | cons y l=>
    rw[hn]at h1 h2;refine⟨by simp only[YA,aK]at h1⊢;omega,λx hx=> ?_⟩;rcases bK.1 hx with rfl|hx
    ·have:=h2 y aY;refine⟨λh=> ?_,by simp only[aK];omega⟩;rcases bK.1 h with h|h
     ·exact hc h.symm
     ·exact this.1 h
    ·have:=h2 x (aQ _ hx);exact⟨this.1,by simp only[aK];omega⟩
theorem zja(x:af):(⟨#[]⟩:af)++x=x:=by apply iD;apply gU.1;rw[dQ,jR];rfl
def JH(x:List UInt8):af:=⟨x.toArray⟩
theorem Qg(a b:List UInt8):JH (a++b)=JH a++JH b:=by apply iD;apply gU.1;rw[dQ,jR];rfl
theorem Jv(x y:af)(r:List af):rF (x::y::r)=x++JI++rF (y::r):=rfl
theorem Zd:∀l:List UInt8,rF ((U4 l).map JH)=JH l
 | []=>rfl
 | c::r=>by
  have ih:=Zd r;unfold U4;cases hn:U4 r with
  | nil=>exact absurd hn (WR r)
  | cons y l=>
   rw[hn]at ih;split
   ·rename_i hc;subst hc;rw[bF,bF,Jv];rw[bF]at ih;rw[ih,show JH (10::r)=JH ([10]++r)from rfl,Qg,show JH []=⟨#[]⟩from rfl,show JH [10]=JI from rfl,zja]
   ·cases l with
    | nil=>
     have ih:JH y=JH r:=ih;have e:y=r:=by have:=dK (λb:af=>b.data.toList) ih;exact this
     subst e;rfl
    | cons z l=>
     rw[bF,bF,Jv]at ih;show rF (JH (c::y)::JH z::l.map JH)=_;rw[Jv,show JH (c::y)=JH ([c]++y)from rfl,Qg,show JH (c::r)=JH ([c]++r)from rfl,Qg,<-ih];rw[jX,jX,jX]
def stripL(l:List UInt8):List UInt8:=Lib.trimSuffix l [10]
def QW(l:List UInt8):List af:=(U4 (stripL l)).map JH
def Wx(l:List UInt8):List UInt8:=IG (Jd (MQ ⟨#[]⟩) (QW l))
theorem zbn(l:List UInt8):(stripL l).length<=l.length:=by
 unfold stripL Lib.trimSuffix;split
 ·rw[bG];omega
 ·exact aF _
theorem UY(a b:List UInt8):Lib.hasSuffix (a++b) b=true:=by unfold Lib.hasSuffix;simp
theorem Nv(a:List UInt8):stripL (a++ [10])=a:=by unfold stripL Lib.trimSuffix;rw[aP (UY _ _)];simp
theorem zbo(a b:List UInt8)(hb:b≠ []):stripL (a++10::b)=a++10::stripL b:=by
 rcases List.eq_nil_or_concat b with h|⟨c,x,h⟩
 ·exact absurd h hb
 ·rw[List.concat_eq_append]at h;subst h;by_cases hx:x=10
  ·subst hx;rw[show a++10::(c++ [10])=(a++10::c)++ [10]by simp,Nv,Nv]
  ·have hn:∀l:List UInt8,Lib.hasSuffix (l++ [x]) [10]=false:=λl=>by
    cases h:Lib.hasSuffix (l++ [x]) [10]with
    | false=>rfl
    | true=>
     obtain⟨t,ht⟩:=List.isSuffixOf_iff_suffix.1 h;have h2:=dK List.getLast? ht;simp at h2;exact absurd h2.symm hx
   unfold stripL Lib.trimSuffix;rw[show a++10::(c++ [x])=(a++10::c)++ [x]by simp,aB (by rw[hn];decide),aB (by rw[hn];decide)];simp
theorem zgM(a b:List UInt8):∃z,Wx (a++10::b)=Wx (a++ [10])++z:=by
 by_cases hb:b= []
 ·subst hb;exact⟨[],by simp⟩
 ·unfold Wx QW;rw[Nv,zbo a b hb,zcU,di,Y2,IG,IG,cZ];exact⟨_,rfl⟩
def Nh:List UInt8:= [109,97,107,101,32,50,10,112,117,116,32,97,32,45,32,48,32,48,10,112,117,116,32,98,32,116,32,51,32,52,10,99,111,109,109,105,116,10,102,105,110,100,32,50,32,45,32,48,32,49,10,102,105,110,100,32,50,32,116,32,48,32,48,10,116,117,114,110,10,111,112,101,110,10,105,116,101,109,115,10,101,112,111,99,104,10,120,10]
def zfG:List UInt8:= [109,97,107,101,10,112,117,116,10,112,117,116,10,99,111,109,109,105,116,32,49,10,102,105,110,100,32,97,58,49,32,98,58,49,56,10,102,105,110,100,32,98,58,50,53,10,116,117,114,110,32,50,10,111,112,101,110,32,50,10,105,116,101,109,115,32,97,58,44,48,44,48,32,98,58,116,44,51,44,52,10,101,112,111,99,104,32,50,10,101,114,114,111,114,32,51,10]
theorem zbD:Wx Nh=zfG:=by
 have h1:QW Nh=zkg:=by kernel_rfl
 have h2:IG zj9=zfG:=by kernel_rfl
 unfold Wx;rw[h1,zls,h2]
theorem ziM{w:World}(text:af)(ht:text.size<=19000)(hMx:∃m,w.cell? ⟨3,0,none⟩=some (.int .i64 m))(G:pM w):
  ae 4 #[.string text] w λe w'=>e= .returned (.string (JH (Wx text.data.toList)))∧Keep nM w w':=by
 have hz:text.data.toList.length=text.size:=rfl;have hs:=zbn text.data.toList;obtain⟨h1,h2⟩:=VL (stripL text.data.toList);refine zdX text ht (QW text.data.toList) (λh=> ?_) ?_ (λx hx=> ?_) ?_ (λx hx=> ?_) hMx G
 ·exact WR _ (List.map_eq_nil_iff.1 h)
 ·exact(Zd _).symm
 ·obtain⟨y,hy,rfl⟩:=bf.1 hx;exact(h2 y hy).1
 ·rw[QW,aI];omega
 ·obtain⟨y,hy,rfl⟩:=bf.1 hx;have:=(h2 y hy).2;show y.length<=_;omega
theorem TZ{w:World}(a b:af)(G:pM w):ae 3 #[.string a,.string b] w λe w'=>e= .returned (.bool true)∧Keep nM w w':=by
 have HG:=ag G;have BV:∀ {W:World},Keep nM w W->pM W:=λK=>⟨HG.out.rounds.keep K (λx=>x),HG.out.items.keep K,HG.out.errs.keep K (λx=>x)⟩
 have zaP:∀(t:af),t.size<=19000->∀w1,Keep nM w w1->ae 4 #[.string t] w1 λe w'=>e= .returned (.string (JH (Wx t.data.toList)))∧Keep nM w1 w':=λt ht w1 K=>ziM t ht (HG.out.items.keep K).max (BV K);by_cases h1:(1500:Int)<a.size
 ·clear HG BV zaP G;go_enter Tryz.func3,Tryz.ntmps3;go_wp2_with fail;go_ret;exact⟨rfl,ah _ _⟩
 by_cases h2:(1500:Int)<b.size
 ·clear HG BV zaP G;go_enter Tryz.func3,Tryz.ntmps3;go_wp2_with fail;go_ret;exact⟨rfl,ah _ _⟩
 have hs:IntKind.i64.wrap ((a.size:Int)+b.size)=((a.size+b.size:Nat):Int):=by rw[wrap_small _ (by omega) (by omega)];omega
 by_cases h3:(1500:Int)<((a.size+b.size:Nat):Int)
 ·clear HG BV zaP G;go_enter Tryz.func3,Tryz.ntmps3;go_wp2_with fail;go_ret;exact⟨rfl,ah _ _⟩
 have Hc:Hid (∀w1,Keep nM w w1->ae 4 #[.string ⟨#[109,97,107,101,32,50,10,112,117,116,32,97,32,45,32,48,32,48,10,112,117,116,32,98,32,116,32,51,32,52,10,99,111,109,109,105,116,10,102,105,110,100,32,50,32,45,32,48,32,49,10,102,105,110,100,32,50,32,116,32,48,32,48,10,116,117,114,110,10,111,112,101,110,10,105,116,101,109,115,10,101,112,111,99,104,10,120,10]⟩] w1 λe w'=>e= .returned (.string ⟨#[109,97,107,101,10,112,117,116,10,112,117,116,10,99,111,109,109,105,116,32,49,10,102,105,110,100,32,97,58,49,32,98,58,49,56,10,102,105,110,100,32,98,58,50,53,10,116,117,114,110,32,50,10,111,112,101,110,32,50,10,105,116,101,109,115,32,97,58,44,48,44,48,32,98,58,116,44,51,44,52,10,101,112,111,99,104,32,50,10,101,114,114,111,114,32,51,10]⟩)∧Keep nM w1 w'):=ag (λw1 K=>by
  have h:=zaP (JH Nh) (by decide) w1 K;have e:JH (Wx (JH Nh).data.toList)=JH zfG:=by have e1:(JH Nh).data.toList=Nh:=rfl;rw[e1,zbD]
  rw[e]at h;exact h)
 have e1:(a++⟨#[10]⟩:af).data.toList=a.data.toList++ [10]:=by rw[dQ,jR]
 have e2:(a++⟨#[10]⟩++b:af).data.toList=a.data.toList++10::b.data.toList:=by rw[dQ,jR,e1,bu];rfl
 have z1:(a++⟨#[10]⟩:af).size=a.size+1:=aX;have z2:(a++⟨#[10]⟩++b:af).size=a.size+1+b.size:=by rw[aX,z1]
 have hX:=zaP (a++⟨#[10]⟩) (by omega);have hY:=zaP (a++⟨#[10]⟩++b) (by omega);rw[e1]at hX;rw[e2]at hY;obtain⟨z,hz⟩:=zgM a.data.toList b.data.toList;rw[hz,Qg]at hY;obtain⟨X,hXX⟩:∃X,X=JH (Wx (a.data.toList++ [10])):=⟨_,rfl⟩
 rw[<-hXX]at hX hY;obtain⟨Y,hYY⟩:∃Y,Y=X++JH z:=⟨_,rfl⟩
 rw[<-hYY]at hY;have hYs:Y.size=X.size+(JH z).size:=by rw[hYY];exact aX
 have hle:(X.size:Int)<=Y.size:=by omega
 have hle2:X.size<=Y.size:=by omega
 have hex:Y.extract 0 X.size=X:=by
  rw[hYY];apply iD;apply gU.1;rw[ByteArray.data_extract,Array.toList_extract,dQ,jR]
  have:X.size=X.data.toList.length:=rfl
  rw[this];simp
 have hB:(X.toList==X.toList)=true:=fV _;have hc1:¬(9223372036854775807<a.size+(⟨#[10]⟩:af).size):=by have:(⟨#[10]⟩:af).size=1:=rfl;omega
 have hc2:¬(9223372036854775807<a.size+1+b.size):=by omega
 have hc3:¬(9223372036854775807<a.size+1):=by omega
 have HX:=ag hX;have HY:=ag hY;clear HG BV zaP G e1 e2 hX hY hz hXX hYY hYs;go_enter Tryz.func3,Tryz.ntmps3;go_wp2_with fail;refine(Hc.out _ (ah _ _)).mono ?_;rintro e w1 ⟨rfl,K1⟩;go_wp2_with fail;refine(HX.out _ K1).mono ?_;rintro e w2 ⟨rfl,K2⟩;go_wp2_with fail;refine(HY.out _ (K1.nK K2)).mono ?_;rintro e w3 ⟨rfl,K3⟩;go_wp2_with fail;go_ret;exact⟨rfl,(K1.nK K2).nK K3⟩
end Go.Proofs.YtopbkdebihcmcaaGreatDoor
