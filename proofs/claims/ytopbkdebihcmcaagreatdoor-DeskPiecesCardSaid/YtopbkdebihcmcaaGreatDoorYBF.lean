import Derived.Test.YtopbkdebihcmcaaGreatDoorYAG
import Derived.Test.YtopbkdebihcmcaaGreatDoorYAM
import Derived.Test.YtopbkdebihcmcaaGreatDoorYAT
import Derived.Test.YtopbkdebihcmcaaGreatDoorYAV
import Derived.Test.YtopbkdebihcmcaaGreatDoorYAZ
set_option linter.unusedSimpArgs false
set_option linter.unusedVariables false
namespace Go.Proofs.YtopbkdebihcmcaaGreatDoor
open Go.RowKit
set_option maxRecDepth 100000
set_option maxHeartbeats 16000000
section
open Go.Sort Go.Shelf
open Go.Proofs (ltOf)
structure oK where
 name:af
 tag:af
 av:Value
 ns:List Int
instance:Inhabited oK:=⟨⟨⟨#[]⟩,⟨#[]⟩,.slice none 0 0,[]⟩⟩
def pO(x:oK):List Value:= [.string x.name,.string x.tag,x.av]
structure Items(w:World)(v:Value)(l:List oK):Prop where
 rows:sQ w v 3 pO l
 nums:∀x∈l,Nums w x.av x.ns
def zj6(v:Value):Prop:=∀p n c,v= .slice p n c->n<=c
def Yk(tag:af)(x:oK):Bool:=decide (tag=⟨#[]⟩)||decide (x.tag=tag)
def WU(at_:List Int)(x:oK):rU:=(x.name,PX x.ns at_)
def qN(l:List oK)(at_:List Int)(tag:af):List rU:=(l.filter (Yk tag)).map (WU at_)
def sU(l:List rU):List rU:=l.mergeSort λx y=> !(ltOf yh) y x
def tV(l:List oK)(at_:List Int)(k:Int)(tag:af):List rU:=(sU (qN l at_ tag)).take k.toNat
end
section
open Go.Sort Go.Shelf
theorem wI(x:rU):(yG x).length=2:=rfl
theorem KO(x:rU):∀v∈yG x,v.oneCell'=true:=by intro v hv;simp only[yG,bK,iJ,jY]at hv;rcases hv with rfl|rfl<;>rfl
theorem zex(l:List rU):∀v∈l.flatMap yG,v.oneCell'=true:=by intro v hv;obtain⟨x,_,hx⟩:=kQ.1 hv;exact KO x v hx
theorem UK(g cap:Nat)(l:List rU)(base:Nat)(w:World)(h:nV w base 116 2 (.slice (some ⟨g,0,none⟩) l.length cap) l.length (l.flatMap yG))(hl:l.length<=1000000):
  ae 162 #[.slice (some ⟨g,0,none⟩) l.length cap,.func (.func 163) #[] #[]] w λe w'=>e= .returned (.tuple #[])∧sQ w' (.slice (some ⟨g,0,none⟩) l.length cap) 2 yG (sU l)∧Keep (nY g) w w':=by
 have hH:=HoldsK.vN wI h;have hg:g<w.heap.size:=by
  obtain⟨_,h⟩:=h;rcases h with⟨h,_⟩|⟨g',cap',cur,fz,hv,hb,hg,_⟩
  ·cases h
  ·cases hv
   exact lt_of_heap hg
 have eg:∀args w,(callFunc 163 args).run Tryz.prog w= .ok (.enter 163 args) w:=enters_of Tryz.func163 (by kernel_rfl) rfl;have hcmp:CmpLays Tryz.prog 163 #[] yG 2 yh g 0 l.toArray.size w:=λm os dk hdk x y=>(PI x y _).mono λe w' h=>⟨h.1,h.2⟩
 have hcon:=AnyQ.slices_SortFunc_total Tryz.sortFound 2 Tryz.isAgg116 Tryz.sizeOf116 yG wI KO yh Gq 163 #[] g 0 cap l.toArray w eg hcmp hH hg (by simp;omega) EO
 change ae 162 _ _ _ at hcon
 have hs:l.toArray.size=l.length:=by simp
 rw[hs]at hcon;refine hcon.mono ?_;rintro e w' ⟨he,n,os,rfl⟩;have hd:((l.toArray.toList.mergeSort λx y=> !(ltOf yh) y x).toArray).size=l.toArray.size:=by simp
 obtain⟨h1,h2⟩:=ZP (n:=n) (cap:=cap) (os:=os) wI hH hg hd;refine⟨he,?_,h2⟩;have e1:((l.toArray.toList.mergeSort λx y=> !(ltOf yh) y x).toArray).toList=sU l:=by simp[sU]
 rw[e1]at h1;have e2:(sU l).length=l.length:=by simp[sU]
 rw[e2]at h1;have e3:(l.toArray.toList.mergeSort λx y=> !(ltOf yh) y x).toArray=(sU l).toArray:=by simp[sU]
 exact h1
theorem NC:sU []= []:=by simp[sU]
theorem ZQ(v:Value)(l:List rU)(base:Nat)(w:World)(h:nV w base 116 2 v l.length (l.flatMap yG))(hl:l.length<=1000000):
  ae 162 #[v,.func (.func 163) #[] #[]] w λe w'=>e= .returned (.tuple #[])∧sQ w' v 2 yG (sU l)∧Keep (λb=>base<=b) w w':=by
 have h0:=h;obtain⟨hlen,h⟩:=h;rcases h with⟨rfl,hn⟩|⟨g,cap,cur,fz,rfl,hb,hg,_⟩
 ·have hn':l= []:=aU hn;subst hn';have hcon:=AnyF.slices_SortFunc_none { Tryz.sortFound with } none 0 (.func (.func 163) #[] #[]) w
  change ae 162 _ _ _ at hcon
  refine hcon.mono ?_;rintro e w' ⟨he,rfl⟩;exact⟨he,.inl ⟨NC,_,_,rfl⟩,ah _ _⟩
 ·refine(UK g cap l base w h0 hl).mono ?_;rintro e w' ⟨he,hr,hk⟩;exact⟨he,hr,hk.mono λi _ hi=>by rw[show i=g from hi];exact hb⟩
theorem zcc:(Tryz.prog.info? 116).map (λi=>(i.zero,i.size,i.bytes))=some (some (.agg #[.string ⟨#[]⟩,.int .i64 0]),2,24):=by kernel_rfl
theorem Tm:∃i,Tryz.prog.info? 116=some i∧i.zero=some (.agg #[.string ⟨#[]⟩,.int .i64 0])∧i.size=2∧i.bytes=24:=by
 have h:=zcc;cases hi:Tryz.prog.info? 116 with
 | none=>rw[hi]at h;cases h
 | some i=>
  rw[hi]at h;simp only[eQ,eU,iE]at h;exact⟨i,rfl,h.1,h.2.1,h.2.2⟩
theorem zat(l:List oK)(at_:List Int)(tag:af)(j:Nat)(x:oK)(hx:l[j]? =some x):qN (l.take (j+1)) at_ tag=qN (l.take j) at_ tag++(if Yk tag x then [WU at_ x]else []):=by
 have hj:=(aN.1 hx).1;have e:l.take (j+1)=l.take j++ [x]:=by rw[aT hj,(aN.1 hx).2]
 rw[qN,e,List.filter_append,di]
 congr 1
 by_cases h:Yk tag x=true
 ·simp[h]
 ·simp[h]
theorem Tn(l:List oK)(at_:List Int)(tag:af):(qN l at_ tag).length<=l.length:=by rw[qN,aI];exact iq _ _
theorem ziG(nS:Int)(v:Value)(l:List oK)(va:Value)(at_:List Int)(k:Int)(tag:af)(w:World)(I:Items w v l)(N:Nums w va at_)(hl:l.length<=1000)(ha:at_.length<=1000000)(hns:∀x∈l,x.ns.length<=1000000)(hn:DN nS at_ k=true):
  ae 161 #[.int .i64 nS,v,va,.int .i64 k,.string tag] w λe w'=>∃v',e= .returned (.tuple #[v',.nilIface])∧sQ w' v' 2 yG (tV l at_ k tag)∧((∀b,v'.ownBlock=some b->w.heap.size<=b)∧zj6 v')∧Keep nM w w':=by
 have h:=Xo nS va at_ k w N ha;rw[hn]at h;obtain⟨p,c,rfl⟩:=I.rows.len;obtain⟨n,hn2⟩:∃n,n=l.length:=⟨_,rfl⟩
 rw[<-hn2]at I hl;rw[<-hn2];have Hn:=ag hn2;have znv:=ag hn;obtain⟨i0,hi0,hz0,hs0,hb0⟩:=Tm;clear hn2 hn;go_enter Tryz.func161,Tryz.ntmps161;go_wp2_with fail;refine h.mono ?_;rintro e w' ⟨rfl,hw⟩;subst w';clear h;go_wp2_with fail
 go_loopw [12,23] (λov i wr=>∃(j:Nat) (o:Value),j<=n∧i= .int .i64 j∧o=ov∧Hid (nV wr w.heap.size 116 2 o (qN (l.take j) at_ tag).length ((qN (l.take j) at_ tag).flatMap yG))∧Keep nM w wr) (λ_ i _=>n-(intOf i).toNat)
 case atStart=>exact⟨0,_,by omega,rfl,rfl,ag (nV.nil _ _ _ _),ah _ _⟩
 case round=>
  obtain⟨j,o,hj,rfl,rfl,O,K⟩:=hrel;by_cases hlt:j<n
  ·have j1:(j:Int)<n:=by omega
   have Ir:=I.rows.keep K (λ_ _ x=>x);obtain⟨b,off,rfl,-,hb,hcell⟩:=Ir.at (by have:=Hn.out;omega);obtain⟨x,hx⟩:∃x,l[j]? =some x:=⟨_,aC (by have:=Hn.out;omega)⟩
   have hra:=hcell j x hx;have hxm:x∈l:=bg hx;have Nx:=(I.nums x hxm).keep K (λ_ _ x=>x);have Na:=N.keep K (λ_ _ x=>x);have hxl:=hns x hxm;have hsu:=zat l at_ tag j x hx;have MM:=ag hsu;obtain⟨nm,tg,av,ns⟩:=x;simp only at Nx hxl;have c0:wr.cell? ⟨b,off+j*3,none⟩=some (.string nm):=hra 0 _ rfl;have c1:wr.cell? ⟨b,off+j*3+1,none⟩=some (.string tg):=hra 1 _ rfl;have c2:wr.cell? ⟨b,off+j*3+2,none⟩=some av:=hra 2 _ rfl;clear hcell hsu hx hxm hra;obtain⟨pa,ca,rfl⟩:=Nx.len;have PW:=λq=>zi3 _ va ns at_ (((wr.alloc (.cells #[.string nm,.string tg,.slice pa ns.length ca] 101))).drewN q) (Nx.keep ((ah nM wr).alloc _|>.drewN q) (λ_ _ x=>x)) (Na.keep ((ah nM wr).alloc _|>.drewN q) (λ_ _ x=>x)) hxl ha;obtain⟨nl,hnl⟩:∃m,m=ns.length:=⟨_,rfl⟩
   obtain⟨fv,hfv⟩:∃f,f=WU at_ ⟨nm,tg,.slice pa ns.length ca,ns⟩:=⟨_,rfl⟩
   have zkN:fv.2=PX ns at_:=by rw[hfv];rfl
   have zo6:fv.1=nm:=by rw[hfv];rfl
   rw[<-hfv]at MM;rw[<-hnl]at c2 PW MM;obtain⟨fn,fd⟩:=fv;simp only at zo6 zkN;subst fn;rw[<-zkN]at PW;have zpR:=ag PW;clear PW hnl hfv zkN Nx Na hxl;by_cases hT:Yk tag ⟨nm,tg,.slice pa nl ca,ns⟩=true
   ·rw[hT,aP rfl]at MM;have hcase:tag.toList.isEmpty=true∨(tag.toList.isEmpty=false∧(@BEq.beq (List UInt8) (@List.instBEq UInt8 instBEqOfDecidableEq) tg.toList tag.toList)=true):=by
     cases he:tag.toList.isEmpty with
     | true=>exact .inl rfl
     | false=>
      refine .inr ⟨rfl,?_⟩;simp only[Yk,dP,aS]at hT;rcases hT with h|h
      ·rw[h,bQ]at he;cases he
      ·rw[h];exact fV _
    clear hT;rcases hcase with ht1|⟨ht1,ht2⟩
    all_goals
     go_wp2_with fail;refine yR 8 [0,1,3,5] (by kernel_rfl) (by kernel_rfl) (λc a d v w h=>by cases d<;>exact h) ?_;rw[show Et 8 [0,1,3,5]= [2,4,6,7]from rfl];simp only[nR,aj,ak,au,dh,cO]
     iterate 4 ((with_reducible refine zy (λK hK=> ?_));go_simp;refine hK _ ?_;clear hK K)
     with_reducible refine AO ?_
     iterate 4 ((with_reducible refine kM (λK hK=> ?_));go_simp;first|(refine hK _ ?_;clear hK K)|(apply Exists.intro;refine⟨λ_=> ?_,hK _ ?_⟩;(go_at_call 203;exact kF (zpR.out _));clear hK K))
     refine dF ?_;intro m;have hW1:nV ((wr.alloc (.cells #[.string nm,.string tg,.slice pa nl ca] 101)).drewN m) w.heap.size 116 2 o _ _:=(O.out.alloc _).drewN m;have hK1:Keep nM w ((wr.alloc (.cells #[.string nm,.string tg,.slice pa nl ca] 101)).drewN m):=(K.alloc _).drewN m;refine o8 (λw1=>nV w1 w.heap.size 116 2 o (qN (l.take j) at_ tag).length ((qN (l.take j) at_ tag).flatMap yG)∧Keep nM w w1) ⟨hW1,hK1⟩ ?_;rintro w1 ⟨hO1,hK⟩;clear hW1 hK1;have hfl:=Tn (l.take j) at_ tag;rw[bG]at hfl;go_wp2_with (at_builtin;refine qc _ rfl _ _ 112 rfl w.heap.size 116 i0 _ 2 24 Tryz.underlying112 hi0 hz0 hs0 hb0 rfl (by decide) o _ _ rfl (hO1.alloc _) ⟨w1.heap.size,0,none⟩ 1 1 [.string nm,.int .i64 fd] rfl rfl (qj _ _ _) (KO (nm,fd)) (by unfold maxLen;omega) (by omega) (by have:=hK.size;simp;omega) ?_;intro v' w' own' hgrow);have hK5:Keep nM w w':=((hK.alloc (.cells #[.string nm,.int .i64 fd] 116)).grown hgrow (λk hk=> .inr (hO1.lt k hk).1))
     refine⟨⟨j+1,_,by omega,by go_num,rfl,ag ?_,hK5⟩,by simp[intOf];omega⟩;rw[MM.out,ay,cZ];exact own'
   ·have hT':Yk tag ⟨nm,tg,.slice pa nl ca,ns⟩=false:=by simpa using hT
    rw[aB hT,dJ]at MM;have ht1:tag.toList.isEmpty=false:=by
     cases he:tag.toList.isEmpty with
     | false=>rfl
     | true=>
      exfalso;refine hT ?_
      have:tag=⟨#[]⟩:=toList_inj (by rw[List.isEmpty_iff.1 he,bQ])
      simp[Yk,this]
    have ht2:(@BEq.beq (List UInt8) (@List.instBEq UInt8 instBEqOfDecidableEq) tg.toList tag.toList)=false:=by rw[dS];intro h;refine hT ?_;simp[Yk,toList_inj h]
    clear hT hT';go_wp2_with fail;refine⟨⟨j+1,_,by omega,by go_num,rfl,ag ?_,K.alloc _⟩,by simp[intOf];omega⟩;rw[MM.out];exact O.out.alloc _
  ·obtain rfl:j=n:=by omega
   have hO:=O.out;have hN:List.take j l=l:=aV (by rw[<-Hn.out];exact aF _);rw[hN]at hO;obtain⟨F,hF⟩:∃F,F=qN l at_ tag:=⟨_,rfl⟩
   have hFl:F.length<=1000:=by have:=Tn l at_ tag;rw[hF];have:=Hn.out;omega
   have htop:tV l at_ k tag=(sU F).take k.toNat:=by rw[tV,hF]
   have zpt:=ag htop;rw[<-hF]at hO;have hk1:1<=k∧k<=60:=by have:=znv.out;simp only[DN,aZ,aS]at this;exact⟨this.1.2,this.2⟩
   obtain⟨po,co,rfl⟩:∃p c,o= .slice p F.length c:=(sQ.vN wI hO).len;have hso:=ZQ _ F w.heap.size wr hO (by omega);obtain⟨m,hm⟩:∃m,m=F.length:=⟨_,rfl⟩
   have hsl:(sU F).length=m:=by rw[hm];simp[sU]
   rw[<-hm]at hso hFl hO;rw[<-hm];have hcap:m<=co:=by
    obtain⟨_,h⟩:=hO;rcases h with⟨h,hn⟩|⟨g',cap',cur,fz,hv,_,_,_,hc,_⟩
    ·cases h;omega
    ·cases hv;exact hc
   have hob:∀b,(Value.slice po m co).ownBlock=some b->w.heap.size<=b:=λb hb=>(hO.lt b hb).1;have Hso:=ag hso;have Hsl:=ag hsl;clear hso hsl hm htop hF hO hN O znv;have he:tV l at_ k tag=(sU F).take (min k (m:Int)).toNat:=by
    rw[zpt.out];by_cases hmk:(m:Int)<k
    ·rw[aV (by rw[Hsl.out];omega),aV (by rw[Hsl.out];omega)]
    ·rw[show(min k (m:Int)).toNat=k.toNat by omega]
   have He:=ag he;clear he;go_wp2_with fail;refine Hso.out.mono ?_;rintro e w' ⟨rfl,hr,hK⟩;go_wp2_with fail
   go_ret2
   refine⟨.slice po (min k (m:Int)).toNat co,rfl,?_,⟨λb hb=>hob b (by cases po<;>exact hb),λp n c h=>by cases h;omega⟩,K.trans hK (λi hi hs=>absurd hi (nD.2 hs))⟩;rw[He.out];exact hr.take _ (by rw[Hsl.out];omega) co
end
section
open Go.Sort Go.Shelf
open Go.Proofs (ltOf)
theorem VU(a b c:rU)(h1:(!(ltOf yh) b a)=true)(h2:(!(ltOf yh) c b)=true):(!(ltOf yh) c a)=true:=by rw[eY]at h1 h2⊢;exact Gq.ntrans c b a h2 h1
theorem VV(a b:rU):((!(ltOf yh) b a)||(!(ltOf yh) a b))=true:=by
 cases h:ltOf yh b a with
 | false=>rfl
 | true=>
  have:ltOf yh a b=false:=by
   cases h2:ltOf yh a b with
   | false=>rfl
   | true=>
    have:=Gq.trans a b a h2 h;rw[Gq.irrefl]at this;cases this
  rw[this];rfl
theorem Bh(l:List rU):(sU l).Perm l:=gp _ _
theorem RZ(l:List rU):List.Pairwise (λa b=>(!(ltOf yh) b a)=true) (sU l):=lI VU VV l
theorem Jo{l l':List rU}(h:l.Perm l'):sU l=sU l':=by refine List.Perm.eq_of_pairwise ?_ (RZ l) (RZ l') (((Bh l).trans h).trans (Bh l').symm);intro a b _ _ h1 h2;rw[eY]at h1 h2;exact EO a b h2 h1
theorem ND(l:List rU):(sU l).length=l.length:=(Bh l).length_eq
theorem zau{l l':List oK}(h:l.Perm l')(at_:List Int)(tag:af):(qN l at_ tag).Perm (qN l' at_ tag):=(h.filter _).map _
theorem Vj{l l':List oK}(h:l.Perm l')(at_:List Int)(k:Int)(tag:af):tV l at_ k tag=tV l' at_ k tag:=by rw[tV,tV,Jo (zau h at_ tag)]
end
section
open Go.Sort Go.Shelf
open Go.Proofs (sortWorldK)
section
variable {α:Type}{enc:α->List Value}{k:Nat}{w:World}
theorem SL [Inhabited α]{base:Nat}{e:TypeId}{g cap n m:Nat}{xs:List Value}{d':Array α}{os:Array Obj}(hk:∀x,(enc x).length=k)(h:nV w base e k (.slice (some ⟨g,0,none⟩) n cap) n xs)(hs:d'.size=n):
  nV (sortWorldK enc k w g 0 m d' os) base e k (.slice (some ⟨g,0,none⟩) n cap) n (d'.toList.flatMap enc):=by
 obtain⟨hlen,h⟩:=h;refine⟨by rw[Gz hk];simp[hs],?_⟩;rcases h with⟨h,_⟩|⟨g',cap',cur,fz,hv,hb,hg,hcl,hn,hm,hsz,ht⟩
 ·cases h
 ·cases hv
  have hgl:=lt_of_heap hg;refine .inr ⟨g,cap,putCells id 0 (flatK enc k d') cur,fz,rfl,hb,?_,?_,hn,hm,?_,?_⟩
  ·show(Sort.grow (putRowK enc k (Sort.ahead w m) g 0 d') os).heap[g]? =_;rw[heap_grow_old _ _ (by show g<(w.heap.modify g _).size;rw[Array.size_modify];exact hgl)];show(w.heap.modify g (onCells _))[g]? =_;rw[gq,aP rfl,hg];rfl
  ·intro i hi;exact hcl i (by simpa [putCells]using hi)
  ·simpa [putCells]using hsz
  ·apply lT;intro t;have hcs:n*k<=cur.size:=by rw[hsz];exact jM k hn
   by_cases htt:t<n*k
   ·have hk0:0<k:=by rcases mV k with h|h;(subst h;simp at htt);exact h
    have hi:t/k<d'.size:=by rw[hs];exact Nat.div_lt_of_lt_mul (by rwa [gG]at htt)
    have hj:t % k<k:=iM _ hk0;have hsum:t/k*k+t % k=t:=by rw[gG];exact Nat.div_add_mod t k
    have h2:=flat_get hk d'.toList (t/k) (t % k) hj;rw[hsum]at h2;rw[fG,aP htt,h2,iU,putCells,Array.getElem?_mapIdx,bW (by omega),eQ,aP ⟨dL _,by rw[size_flatK,hs];omega⟩,Nat.sub_zero,get_flatK enc k d' t (by rw[hs];exact htt),iU,bW hi,Option.bind_some];have h3:d'[t/k]! =d'[t/k]:=by rw[getElem!_pos d' _ hi]
    rw[h3,aC (by rw[hk];exact hj)];show some ((enc d'[t/k])[t % k]!)=_;rw[List.getElem!_eq_getElem?_getD,aC (by rw[hk];exact hj)];rfl
   ·rw[fG,aB htt,fH (by rw[Gz hk];simp[hs];omega)]
theorem OE [Inhabited α]{g m:Nat}{d':Array α}{os:Array Obj}(hg:g<w.heap.size):Keep (nY g) w (sortWorldK enc k w g 0 m d' os):=by
 have hsz:(putRowK enc k (Sort.ahead w m) g 0 d').heap.size=w.heap.size:=size_putRow _ _ _ _ _;refine⟨rfl,rfl,rfl,?_,λb hb hn=> ?_⟩
 ·show w.heap.size<=(Sort.grow (putRowK enc k (Sort.ahead w m) g 0 d') os).heap.size;rw[size_grow,hsz];omega
 ·show(Sort.grow (putRowK enc k (Sort.ahead w m) g 0 d') os).heap[b]? =w.heap[b]?;rw[heap_grow_old _ _ (by rw[hsz];exact hb)];show(w.heap.modify g _)[b]? =_;rw[gq];rw[aB (λe=>hn e.symm)]
theorem nV.take{base:Nat}{e:TypeId}{g n cap:Nat}{xs:List Value}(h:nV w base e k (.slice (Option.some ⟨g,0,none⟩) n cap) n xs)(m:Nat)(hm:m<=n):nV w base e k (.slice (Option.some ⟨g,0,none⟩) m cap) m (xs.take (m*k)):=by
 obtain⟨hlen,h⟩:=h;refine⟨by rw[bG,hlen];exact ji (jM k hm),?_⟩;rcases h with⟨h,_⟩|⟨g',cap',cur,fz,hv,hb,hg,hcl,hn,hmx,hsz,ht⟩
 ·cases h
 ·cases hv
  refine .inr ⟨g,cap,cur,fz,rfl,hb,hg,hcl,bH hm hn,hmx,hsz,?_⟩;rw[<-ht,List.take_take,ji (jM k hm)]
theorem V4(hk:∀x,(enc x).length=k):∀(l:List α) (m:Nat),(l.flatMap enc).take (m*k)=(l.take m).flatMap enc
 | [],m=>by simp
 | x::l,0=>by simp
 | x::l,m+1=>by rw[df,bY,df,Nat.succ_mul,mM,<-hk x,List.take_length_add_append,hk x,V4 hk l m]
theorem Qa{P:Program}{t ty e:TypeId}{i:TypeInfo}(ht:P.underlying t=some (.slice e))(hi:P.info? e=some i)(p:Option Addr)(c:Nat):
  (Builtin.append_ #[t,t] ty #[.slice none 0 0,.slice p 0 c]).run P w= .ok (.slice none 0 0) w:=by
 cases p with
 | none=>simp[Builtin.append_,gK ht,sizeOf,typeInfo,hi,Builtin.lenOf,Addr.add_lit,storeCells,Builtin.firstCells]
 | some q=>
  have hld:(loadCells q 0).run P w= .ok #[] w:=by simp[loadCells,loadCellsFrom]
  simp[Builtin.append_,gK ht,sizeOf,typeInfo,hi,Builtin.lenOf,Addr.add_lit,Builtin.firstCells,hld,storeCells]
theorem Oe{P:Program}{t ty e:TypeId}{i:TypeInfo}(ht:P.underlying t=some (.slice e))(hi:P.info? e=some i)(g n cap:Nat)(hn:n<=cap)(p:Option Addr)(c:Nat):
  (Builtin.append_ #[t,t] ty #[.slice (some ⟨g,0,none⟩) n cap,.slice p 0 c]).run P w= .ok (.slice (some ⟨g,0,none⟩) n cap) w:=by
 cases p with
 | none=>simp[Builtin.append_,gK ht,sizeOf,typeInfo,hi,Builtin.lenOf,hn,Addr.add_lit,storeCells,Builtin.firstCells]
 | some q=>
  have hld:(loadCells q 0).run P w= .ok #[] w:=by simp[loadCells,loadCellsFrom]
  simp[Builtin.append_,gK ht,sizeOf,typeInfo,hi,Builtin.lenOf,hn,Addr.add_lit,Builtin.firstCells,hld,storeCells]
theorem JD{P:Program}{ops:Array Oper}{rest:List Oper}{o:Oper}{a:Act}{Q:Exit->Act->World->Prop}(hgd:o.guard=none)(s x:Operand)(t:TypeId)
  (ho:o.op= .call { callee:= .builtin .append,args:= #[s,x],argTypes:= #[t,t] })
  (base:Nat) (e:TypeId) (i:TypeInfo) (z:Value) (bytes:Nat) (ht:P.underlying t=some (.slice e)) (hi:P.info? e=some i) (hz:i.zero=some z)
  (hsize:i.size=k) (hby:i.bytes=bytes) (hzs:z.cells.size=k) (hsz:0<k) (hk:∀x,(enc x).length=k) (v:Value) (n:Nat) (xs:List Value) (hs:a.eval s=v) (hown:nV w base e k v n xs)
  (u:Value) (l:List α) (hx:a.eval x=u) (R:sQ w u k enc l) (h1:∀u∈l.flatMap enc,u.oneCell'=true)
  (h63:n+l.length<=maxLen) (hbytes:(n+l.length)*bytes<=140737488355328) (hbase:base<=w.heap.size)
  (h:∀v' w',nV w' base e k v' (n+l.length) (xs++l.flatMap enc)->Keep (λb=>base<=b) w w'->wpList P ops Q rest (a.put o.dst v') w'):wpList P ops Q (o::rest) a w:=by
 by_cases h0:l.length=0
 ·obtain rfl:l= []:=aU h0;obtain⟨p,c,rfl⟩:=R.len;rw[bI]at hx;refine wpList_plain hgd λK hK=> ?_;unfold Oper.wp execOp;have hr:(Builtin.append_ #[t,t] o.type #[v,.slice p 0 c]).run P w= .ok v w:=by
   rcases hown.2 with⟨hv,_⟩|⟨g2,cap2,cur,fz,hv,_,_,_,hc,_⟩
   ·rw[hv];exact Qa ht hi p c
   ·rw[hv];exact Oe ht hi g2 n cap2 hc p c
  simp only[ho,resolve,invoke,builtin,jG,Sem.run_pure,lQ,gW,bF,dB,hs,hx,hr];refine hK _ _ ?_;exact h v w (by rw[iY,dJ,bI,jL];exact hown) (ah _ _)
 ·obtain⟨p,c,rfl⟩:=R.len;obtain⟨b,off,rfl,_,_,hc⟩:=R.at (by omega);refine qc (w:=w) hgd s x t ho base e i z k bytes ht hi hz hsize hby hzs hsz v n xs hs hown ⟨b,off,none⟩ l.length c (l.flatMap enc) hx (Gz hk l) (λj u hu=> ?_) h1 h63 hbytes hbase ?_
  ·have hj:j<l.length*k:=by have:=(aN.1 hu).1;rwa [Gz hk]at this
   have hjk:j % k<k:=iM _ hsz;have hsum:j/k*k+j % k=j:=by rw[gG];exact Nat.div_add_mod j k
   have h2:=flat_get hk l (j/k) (j % k) hjk;rw[hsum,hu]at h2;cases hy:l[j/k]? with
   | none=>rw[hy]at h2;cases h2
   | some y=>
    rw[hy]at h2;have:=hc (j/k) y hy (j % k) u h2.symm;rw[show(⟨b,off,none⟩:Addr).add j=⟨b,off+j,none⟩by unfold Addr.add;split<;>simp_all]
    rwa [Nat.add_assoc,hsum]at this
  ·intro v' w' own hg;exact h v' w' own ((ah _ _).grown hg (λb hb=> .inl (hown.lt b hb).1))
end
end
section
open Go.Sort Go.Shelf
theorem TR(v:Value)(l:List rU)(base:Nat)(w:World)(h:nV w base 116 2 v l.length (l.flatMap yG))(hl:l.length<=1000000):
  ae 162 #[v,.func (.func 163) #[] #[]] w λe w'=>e= .returned (.tuple #[])∧nV w' base 116 2 v l.length ((sU l).flatMap yG)∧Keep (λb=>base<=b) w w':=by
 have h0:=h;obtain⟨hlen,h⟩:=h;rcases h with⟨rfl,hn⟩|⟨g,cap,cur,fz,rfl,hb,hg,_⟩
 ·have hn':l= []:=aU hn;subst hn';have hcon:=AnyF.slices_SortFunc_none { Tryz.sortFound with } none 0 (.func (.func 163) #[] #[]) w
  change ae 162 _ _ _ at hcon
  refine hcon.mono ?_;rintro e w' ⟨he,rfl⟩;exact⟨he,by rw[NC];exact h0,ah _ _⟩
 ·have hH:=HoldsK.vN wI h0;have hgl:=lt_of_heap hg;have eg:∀args w,(callFunc 163 args).run Tryz.prog w= .ok (.enter 163 args) w:=enters_of Tryz.func163 (by kernel_rfl) rfl;have hcmp:CmpLays Tryz.prog 163 #[] yG 2 yh g 0 l.toArray.size w:=λm os dk hdk x y=>(PI x y _).mono λe w' h=>⟨h.1,h.2⟩
  have hcon:=AnyQ.slices_SortFunc_total Tryz.sortFound 2 Tryz.isAgg116 Tryz.sizeOf116 yG wI KO yh Gq 163 #[] g 0 cap l.toArray w eg hcmp hH hgl (by simp;omega) EO
  change ae 162 _ _ _ at hcon
  have hs:l.toArray.size=l.length:=by simp
  rw[hs]at hcon;refine hcon.mono ?_;rintro e w' ⟨he,n,os,rfl⟩;have hd:((l.toArray.toList.mergeSort λx y=> !(ltOf yh) y x).toArray).size=l.length:=by simp
  have h1:=SL (m:=n) (os:=os) wI h0 hd;have h2:=OE (enc:=yG) (k:=2) (m:=n) (os:=os) (d':=(l.toArray.toList.mergeSort λx y=> !(ltOf yh) y x).toArray) hgl;refine⟨he,?_,h2.mono λi _ hi=>by rw[show i=g from hi];exact hb⟩;have e1:((l.toArray.toList.mergeSort λx y=> !(ltOf yh) y x).toArray).toList=sU l:=by simp[sU]
  rw[e1]at h1;exact h1
end
end Go.Proofs.YtopbkdebihcmcaaGreatDoor
