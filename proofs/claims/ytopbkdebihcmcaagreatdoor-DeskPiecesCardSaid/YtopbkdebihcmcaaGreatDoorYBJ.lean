import Derived.Test.YtopbkdebihcmcaaGreatDoorYAE
import Derived.Test.YtopbkdebihcmcaaGreatDoorYBG
set_option linter.unusedSimpArgs false
set_option linter.unusedVariables false
namespace Go.Proofs.YtopbkdebihcmcaaGreatDoor
open Go.RowKit
set_option maxRecDepth 100000
set_option maxHeartbeats 16000000
def zg(s:af)(t:Nat):List Bool:=(List.range 32).map λi=>decide (i<t)&&decide ((bs s).getD (18+i) 0=49)
theorem OI(s:af)(t:Nat):(zg s t).length=32:=by simp[zg]
theorem XE(s:af):zg s 0=List.replicate 32 false:=by show(List.range 32).map (λi=>decide (i<0)&&decide ((bs s).getD (18+i) 0=49))=_;simp only[Nat.not_lt_zero,decide_false,iL];rfl
theorem ZV(s:af):zg s 32=(List.range 32).map λi=>decide ((bs s).getD (18+i) 0=49):=by refine iP λi hi=> ?_;rw[bJ (iO.1 hi),iK]
theorem XF(s:af)(t:Nat):(zg s t).set t (decide ((bs s).getD (18+t) 0=49))=zg s (t+1):=by
 refine jy (by simp[zg]) λi h1 h2=> ?_;rw[List.getElem_set];simp only[zg,List.getElem_map,List.getElem_range];by_cases e:t=i
 ·subst e;rw[aP rfl,bJ (kS t),iK]
 ·rw[aB e]
  have:decide (i<t)=decide (i<t+1):=by rw[decide_eq_decide];omega
  rw[this]
theorem Lr(a b:Int)(l:List Bool)(r:af)(t:Nat)(v:Bool)(ht:t<l.length):(oq ⟨a,b,l,r⟩).toArray.setIfInBounds (2+t) (.bool v)=(oq ⟨a,b,l.set t v,r⟩).toArray:=by
 rw[fA]
 congr 1
 simp only[oq];rw[List.set_append_left _ _ (by simp;omega),iw _ _ (by simp),kL];simp
theorem Dz(x:rC)(t:Nat)(ht:t<x.sides.length):(oq x).toArray[2+t]? =some (.bool (x.sides.getD t false)):=by rw[aj,oq,bu,cu (by simp),dE (by simp[ht])];simp[ht]
theorem J8(key:af)(x:rC)(hx:x.sides.length=32)(ho:qL key x=true):(Dt key x).length=82:=by simp only[qL,JO,aZ,aS]at ho;have h5:x.root.size=16:=ho.2.2;rw[Dt,Aq,JR,ay,ay,ay,ay,ay,qB,ql,qB,ql,zG,aI,hx,bs_len,h5,mark,bG,yB];rfl
theorem PM(x:rC):Bytes (Aq x):=by
 rw[Aq,JR];refine bytes_append (bytes_append (bytes_append (bytes_append ?_ (sJ _)) (sJ _)) ?_) (zq _)
 ·intro x hx;simp only[bK,iJ,jY]at hx;rcases hx with rfl|rfl<;>decide
 ·intro y hy;simp only[zG,bf]at hy;obtain⟨b,_,rfl⟩:=hy;cases b<;>decide
theorem NI(key s:af)(hm:qL key (qI s)=true)(hs:82<=s.size):x9 key s=decide (bs s=Dt key (qI s)++List.replicate (s.size-82) 0):=by
 have hl:=J8 key (qI s) (uZ s) hm;rw[x9,hm,iK,jE,aZ,aS,aS,aS];constructor
 ·rintro⟨h1,h2⟩;rw[<-h1,<-h2,iy]
 ·intro h;have e1:=dK (List.take 82) h;have e2:=dK (List.drop 82) h;rw[fM hl]at e1;rw[iF hl]at e2;exact⟨e1,e2⟩
theorem oM{w:World}{B i:Nat}{cs:Array Value}{t:TypeId}{fr:Nat×Nat}(h:w.heap[B]? =some (.cells cs t fr))(v:Value):(w.setCell ⟨B,i,none⟩ v).heap[B]? =some (.cells (cs.setIfInBounds i v) t fr):=by
 have hlt:=lt_of_heap h;have h':w.heap[B]= .cells cs t fr:=by simpa [bW hlt]using h
 show(w.heap.modify B _)[B]? =_;rw[bW (by simpa using hlt),eu,h'];rfl
theorem heap_setCell_other{w:World}{B C i:Nat}{o:Option Obj}(h:w.heap[C]? =o)(hn:C≠B)(v:Value):(w.setCell ⟨B,i,none⟩ v).heap[C]? =o:=(Below.heap_setCell w ⟨B,i,none⟩ v C hn).trans h
theorem rP{P:Program}{w:World}{g:Nat}{t:TypeId}{cs cb:Array Value}(hg:w.heap[g]? =some (.cells cs t (0,0)))(hs:cs.size=cb.size)(h1:cb.all (·.oneCell')=true):
  (storeCells ⟨g,0,none⟩ cb.toList).run P w= .ok () (w.setRow g cb):=by
 have h:=xM P g 0 t (0,0) cb.toList 0 cs w hg (Clear.zero _) (by simp;omega) (λv hv=>Array.all_eq_true_iff_forall_mem.1 h1 v (by simpa using hv));simp only[jL,bZ,fK,dM,mG]at h;rw[h,lV (by simp;omega),dJ]
theorem zec(l:List Nat)(b:Nat):Je (l++ [b])=Je l*256+b:=by rw[Je,jK];rfl
theorem O5(n:Nat)(h:n<18446744073709551616):∀k,k<=8->Je (qU n k)=n/2^(8*(8-k))
 | 0,_=>by rw[qU];show 0=_;rw[Nat.div_eq_of_lt];exact h
 | k+1,hk=>by
  rw[qU,zec,O5 n h k (by omega)];have e:8*(8-k)=8*(7-k)+8:=by omega
  have e2:8*(8-(k+1))=8*(7-k):=by omega
  rw[e,e2,Nat.pow_add,<-Nat.div_div_eq_div_mul];generalize n/2^(8*(7-k))=q
  have:(2:Nat)^8=256:=rfl
  rw[this];omega
theorem NK(n:Nat)(h:n<18446744073709551616):Je (qB n)=n:=by rw[qB,O5 n h 8 (aF _)];show n/2^0=n;rw[Nat.pow_zero,Nat.div_one]
theorem YO(n:Int)(h0:0<=n)(h1:n<9223372036854775808):uf n=n.toNat:=by unfold uf;omega
theorem zbV(n:Nat)(h:n<9223372036854775808):zaM n=n:=by unfold zaM wrap64;omega
theorem Fe(n:Int)(h0:0<=n)(h1:n<9223372036854775808)(r:List Nat):zi (qB (uf n)++r)=n:=by rw[zi,fM (show(qB (uf n)).length=8 from ql _ 8),YO n h0 h1,NK _ (by omega),zbV _ (by omega)];omega
theorem zjl{n:Int}(h0:1<=n)(h1:n<9223372036854775808):qB (uf n)≠qB 0:=by intro e;have:=dK Je e;rw[YO n (by omega) h1,NK _ (by omega),NK 0 (by omega)]at this;omega
theorem zgl(key oh s:List Nat):xor key oh (xor key oh s)=s:=by
 apply jy (by rw[BG,BG]);intro i h1 h2;have e:(xor key oh (xor key oh s)).getD i 0=s.getD i 0:=by rw[YK _ _ _ _ (by rw[BG];exact h2),YK _ _ _ _ h2,Nat.xor_assoc,Nat.xor_self,Nat.xor_zero]
 simpa [ax,aC h1,aC h2]using e
theorem Rf:bs ug=List.replicate 256 0:=by rw[ug,qw];intro x hx;rw[(iW.1 hx).2];omega
theorem zcN(s:af)(h:s.size<=256):bs (BC s)=bs s++List.replicate (256-s.size) 0:=by rw[BC,tN,pY,Rf,tY,mJ,List.take_replicate,Nat.min_self]
theorem ZX(key:List Nat)(id pg:Int)(text:List Nat)(ht:Bytes text)(hl:text.length<=200):Bytes (IM key id pg text):=by
 intro x hx;rw[IM,EF]at hx;simp only[dG]at hx;rcases hx with((hx|hx)|hx)|hx
 ·exact sJ _ x hx
 ·exact LU _ _ _ _ x hx
 ·refine Ns _ _ _ ?_ x hx;intro y hy;rw[FX]at hy;simp only[dG,bD]at hy;rcases hy with(hy|hy)|hy
  ·omega
  ·exact ht y hy
  ·rw[(iW.1 hy).2];omega
 ·exact CG _ _ _ x hx
theorem zgO(key:af)(id pg:Int)(text:af)(h:text.size<=200):bs (Fp key id pg text)=IM (bs key) id pg (bs text):=
 qw (ZX _ _ _ _ (zq _) (by rw[bs_len];exact h))
theorem XH(key:af)(i pg:Int)(text:af)(ht:text.size<=200):∃z,bs (BC (Fp key i pg text))=qB (uf pg)++(xw (bs key) i pg (bs text)++(xor (bs key) (xw (bs key) i pg (bs text)) (FX (bs text))++(JJ (bs key) i (qB (uf pg)++xw (bs key) i pg (bs text)++xor (bs key) (xw (bs key) i pg (bs text)) (FX (bs text)))++z))):=by
 have hs:(Fp key i pg text).size<=256:=bH (Nat.le_of_eq (EP key i pg text ht)) (by decide);have hb:=zgO key i pg text ht;obtain⟨T,hT⟩:∃T,T=Fp key i pg text:=⟨_,rfl⟩
 rw[<-hT]at hs hb⊢;refine⟨List.replicate (256-T.size) 0,?_⟩;rw[zcN T hs,hb,IM,EF];simp only[bu]
theorem zae(key vb nc xx z:List Nat)(i:Int)(hvl:vb.length=8)(hnl:nc.length=12)(hx:xx.length=201):
  U6 key i (vb++(nc++(xx++(JJ key i (vb++nc++xx)++z))))∧QJ key (vb++(nc++(xx++(JJ key i (vb++nc++xx)++z))))=xor key nc xx:=by
 obtain⟨tg,FC⟩:∃x,x=JJ key i (vb++nc++xx):=⟨_,rfl⟩
 have htl:tg.length=16:=by rw[FC];exact Rh _ _ _
 rw[<-FC];obtain⟨S,e⟩:∃S,S=vb++(nc++(xx++(tg++z))):=⟨_,rfl⟩
 rw[<-e];have e2:S=(vb++nc++xx)++(tg++z):=by rw[e];simp only[bu]
 have e3:S=(vb++nc)++(xx++(tg++z)):=by rw[e];simp only[bu]
 have zl3:(vb++nc++xx).length=221:=by rw[ay,ay,hvl,hnl,hx]
 have l20:(vb++nc).length=20:=by rw[ay,hvl,hnl]
 have zpj:S.take 221=vb++nc++xx:=by rw[e2];exact fM zl3
 have hd:S.drop 221=tg++z:=by rw[e2];exact iF zl3
 have hd8:S.drop 8=nc++(xx++(tg++z)):=by rw[e];exact iF hvl
 have zo7:S.drop 20=xx++(tg++z):=by rw[e3];exact iF l20
 refine⟨?_,?_⟩
 ·show JJ _ _ _=_;rw[zpj,hd,fM htl,FC]
 ·rw[QJ,hd8,zo7,fM hnl,fM hx]
theorem zaa(key:af)(i:Nat)(pg:Int)(text:af)(hv:1<=pg)(hv2:pg<=1099511627776)(ht:text.size<=200):yc key i (BC (Fp key i pg text))=some (text,uy i pg text):=by
 have hl:(bs text).length<=200:=by rw[bs_len];exact ht
 obtain⟨z,hz⟩:=XH key i pg text ht;obtain⟨B,hB⟩:∃B,B=BC (Fp key i pg text):=⟨_,rfl⟩
 rw[<-hB]at hz⊢;clear hB;have hbl:=NW (bs text) hl;have h2:=zae (bs key) (qB (uf pg)) (xw (bs key) i pg (bs text)) (xor (bs key) (xw (bs key) i pg (bs text)) (FX (bs text))) z i (ql _ 8) (EW _ _ _ _) (by rw[BG,hbl]);rw[<-hz,zgl]at h2;have h8:(bs B).take 8=qB (uf pg):=by rw[hz];exact fM (ql _ 8)
 have htext:xB (bs key) (bs B)=bs text:=by rw[xB,h2.2,FX,bu];show List.take (min (bs text).length 200) (bs text++_)=_;rw[ji hl];exact fM rfl
 have Ur:zi (bs B)=pg:=by rw[hz];exact Fe pg (by omega) (by omega) _
 rw[yc,h8,aB (zjl hv (by omega)),aP h2.1,htext,Ur,zaZ]
theorem Z8(key:af)(i:Nat):yc key i ug=some (⟨#[]⟩,uy i 0 ⟨#[]⟩):=by
 have h:(bs ug).take 8=qB 0:=by rw[Rf];decide+kernel
 rw[yc,aP h]
theorem Vs{key:af}{x:rC}(h:qL key x=true):key.size=32∧1<=x.count∧x.count<=1099511627776∧1<=x.nP∧x.nP<=1099511627776∧x.root.size=16:=by simp only[qL,JO,aZ,aS]at h;omega
theorem zbm(key:af)(x:rC):Bytes (Dt key x):=by
 intro y hy;rw[Dt]at hy;rcases dG.1 hy with hy|hy
 ·exact PM x y hy
 ·exact uB _ _ y hy
theorem zcI{key:af}{x:rC}(hm:qL key x=true):bs (zC key x)=Dt key x:=by rw[zC,aP hm,qw (zbm key x)]
theorem Io{key:af}{x:rC}(hx:x.sides.length=32)(hm:qL key x=true):(zC key x).size=82:=by rw[<-bs_len,zcI hm,J8 key x hx hm]
theorem zdW(l:List Bool)(i:Nat)(h:i<l.length):decide ((zG l).getD i 0=49)=l.getD i false:=by rw[zG,ax,bC,ax,aC h];cases l[i]<;>rfl
theorem zbN(key:af)(x:rC)(hx:x.sides.length=32)(hm:qL key x=true)(s:af)(z:List Nat)(hs:bs s=Dt key x++z):qI s=x:=by
 obtain⟨h1,h2,h3,h4,h5,h6⟩:=Vs hm;obtain⟨c,e,sd,r⟩:=x;simp only at hx h2 h3 h4 h5 h6;have hb:bs s= [99,102]++(qB (uf c)++(qB (uf e)++(zG sd++(bs r++(mark 122 [bs key,Aq ⟨c,e,sd,r⟩]++z))))):=by rw[hs,Dt,Aq,JR];simp only[bu]
 have l1:(qB (uf c)).length=8:=ql _ 8;have l2:(qB (uf e)).length=8:=ql _ 8;have l3:(zG sd).length=32:=by rw[zG,aI,hx]
 have l4:(bs r).length=16:=by rw[bs_len,h6]
 have d2:(bs s).drop 2=qB (uf c)++(qB (uf e)++(zG sd++(bs r++(mark 122 [bs key,Aq ⟨c,e,sd,r⟩]++z)))):=by rw[hb];rfl
 have d10:(bs s).drop 10=qB (uf e)++(zG sd++(bs r++(mark 122 [bs key,Aq ⟨c,e,sd,r⟩]++z))):=by rw[show 10=2+8 by rfl,<-List.drop_drop,d2];exact iF l1
 have d18:(bs s).drop 18=zG sd++(bs r++(mark 122 [bs key,Aq ⟨c,e,sd,r⟩]++z)):=by rw[show 18=10+8 by rfl,<-List.drop_drop,d10];exact iF l2
 have d50:(bs s).drop 50=bs r++(mark 122 [bs key,Aq ⟨c,e,sd,r⟩]++z):=by rw[show 50=18+32 by rfl,<-List.drop_drop,d18];exact iF l3
 have hroot:s.extract 50 66=r:=by apply xy;rw[pY,d50];exact fM l4
 have zlE:((List.range 32).map λi=>decide ((bs s).getD (18+i) 0=49))=sd:=by
  apply jy (by simp[hx]);intro i i1 i2;rw[List.getElem_map,List.getElem_range];have hi:i<sd.length:=i2;have e1:(bs s).getD (18+i) 0=(zG sd).getD i 0:=by rw[ax,<-List.getElem?_drop,d18,dE (by omega),ax]
  rw[e1,zdW sd i hi,ax,aC hi];rfl
 rw[qI,hroot,zlE,d2,d10,Fe c (by omega) (by omega),Fe e (by omega) (by omega)]
theorem UQ(key:af)(x:rC)(hx:x.sides.length=32)(hm:qL key x=true):vG key (BC (zC key x))=0∧tC key (BC (zC key x))=x:=by
 have hk:=(Vs hm).1;have hw:=Io hx hm;have hsz:(BC (zC key x)).size=256:=Iq _ (by omega);have hb:bs (BC (zC key x))=Dt key x++List.replicate (256-82) 0:=by rw[zcN _ (by omega),zcI hm,hw]
 have hr:=zbN key x hx hm _ _ hb;have hp:x9 key (BC (zC key x))=true:=by rw[NI key _ (by rw[hr];exact hm) (by omega),hr,hb,hsz];simp
 rw[vG,tC,aP hk,aB (by omega),aP hp,aP ⟨hk,by omega,hp⟩];exact⟨rfl,hr⟩
theorem zgV{key s:af}(h:vG key s=0):key.size=32∧82<=s.size∧qL key (tC key s)=true∧(bs s).take 82=Dt key (tC key s):=by
 unfold vG at h;split at h
 ·rename_i hk;split at h
  ·cases h
  ·rename_i hs;split at h
   ·rename_i hp;have e:tC key s=qI s:=by rw[tC,aP ⟨hk,by omega,hp⟩]
    simp only[x9,aZ,aS]at hp;rw[e];exact⟨hk,by omega,hp.1.1,hp.1.2⟩
   ·cases h
 ·cases h
theorem zbQ(key:af):vG key ug≠0:=by
 intro h;obtain⟨_,_,_,h4⟩:=zgV h;have e:=dK (λl=>l.getD 0 7) h4;rw[Rf,Dt,Aq,JR]at e;simp only[dI,List.getD_cons_zero]at e;have e2:((List.replicate 256 0).take 82).getD 0 7=0:=by decide+kernel
 rw[e2]at e;cases e
theorem vJ{α:Type}(l:List α)(i j:Nat)(v d:α):(l.set i v).getD j d=if i=j∧j<l.length then v else l.getD j d:=by
 rw[ax,lM,ax];by_cases e:i=j
 ·subst e;by_cases h:i<l.length
  ·rw[aP rfl,aP h,aP ⟨rfl,h⟩];rfl
  ·rw[aP rfl,aB h,aB (λx=>h x.2),fH (by omega)]
 ·rw[aB e,aB (λx=>e x.1)]
theorem zZ(L:List af)(q:Nat):∀(W:List (Nat×af)) (L:List af),(∀p∈W,p.1≠q)->(qx L W).getD q ⟨#[]⟩=L.getD q ⟨#[]⟩
 | [],L,_=>rfl
 | p::W,L,h=>by rw[qx,dO,<-qx,zZ L q W _ (λx hx=>h x (aQ _ hx)),vJ,aB (λx=>h p (aY ..) x.1)]
theorem D8(q:Nat)(s:af):∀(W:List (Nat×af)) (L:List af),W.Pairwise (λp q=>p.1≠q.1)->(q,s)∈W->q<L.length->(qx L W).getD q ⟨#[]⟩=s
 | [],L,_,h,_=>by cases h
 | p::W,L,hp,h,hq=>by
  rw[qx,dO,<-qx];have hp1:=(bU.1 hp).1;rcases bK.1 h with h|h
  ·rw[zZ L q W _ (λx hx e=>hp1 x hx (by rw[<-h];exact e.symm)),vJ,aP ⟨by rw[<-h],hq⟩,<-h]
  ·exact D8 q s W _ (bU.1 hp).2 h (by rw[dN];exact hq)
structure zfS(B:List af)(ws:List (Nat×af))(B':List af):Prop where
 len:B'.length=B.length
 at_:∀q,B'.getD q ⟨#[]⟩=B.getD q ⟨#[]⟩∨∃s,(q,s)∈ws∧B'.getD q ⟨#[]⟩=s
theorem GV:∀(ws:List (Nat×af)) (B:List af),zfS B ws (qx B ws)
 | [],B=>⟨rfl,λq=> .inl rfl⟩
 | p::ws,B=>by
  have ih:=GV ws (B.set p.1 p.2);rw[qx,dO,<-qx];refine⟨by rw[ih.len,dN],λq=> ?_⟩;rcases ih.at_ q with h|⟨s,h1,h2⟩
  ·rw[h,vJ];split
   ·rename_i h3;exact .inr ⟨p.2,by rw[<-h3.1];exact aY ..,rfl⟩
   ·exact .inl rfl
  ·exact .inr ⟨s,aQ _ h1,h2⟩
theorem O8(B:List af)(ws:List (Nat×af))(keeps:List Bool):∀k,k<=ws.length->zfS B ws (qo B ws keeps k)
 | 0,_=>⟨rfl,λq=> .inl rfl⟩
 | k+1,hk=>by
  have ih:=O8 B ws keeps k (by omega);rw[qo];split
  ·refine⟨by rw[dN,ih.len],λq=> ?_⟩;rw[vJ];split
   ·rename_i h3;refine .inr ⟨_,?_,rfl⟩;have e:ws.getD k (0,⟨#[]⟩)=ws[k]:=by rw[ax,aC (by omega)];rfl
    rw[<-h3.1,e];exact fD _
   ·exact ih.at_ q
  ·exact ih
structure InvV(secret:af)(V:nT)(B:List af)(n:Nat):Prop where
 sec:V.secret=secret
 alive:V.dead=false
 cnt:V.now.count=n
 ep1:1<=V.now.nP
 ep2:V.now.nP<=n+1
 sides:V.now.sides.length=32
 texts:V.texts.length=32
 marks:V.marks.length=32
 m16:∀m∈V.marks,m.size=16
 t200:∀s∈V.texts,s.size<=200
 zk4:B.length=66
 bsz:∀i,i<66->(B.getD i ⟨#[]⟩).size=256
 pages:∀i,i<32->zT (Ba secret V.now.nP) B V.now.sides i=some (V.texts.getD i ⟨#[]⟩,V.marks.getD i ⟨#[]⟩)
 fresh:n=0->V=uU secret
 zjt:0<n->yI secret B n=some V.now
 root:0<n->rV V.marks=V.now.root
 old:∀c:Int,n<c->yI secret B c=none
theorem S9{α:Type}(l:List α)(d:α)(n:Nat)(h:l.length=n):(List.range n).map (λi=>l.getD i d)=l:=by apply jy (by simp[h]);intro i h1 h2;simp[ax,h2]
theorem zlD{secret:af}{V:nT}{B:List af}{n:Nat}(h:InvV secret V B n)(h0:0<n):vW secret B n=some V:=by
 obtain⟨m,hm⟩:∃m,m=32:=⟨_,rfl⟩
 have hp:=LP (λi=>(V.texts.getD i ⟨#[]⟩,V.marks.getD i ⟨#[]⟩)) m (by rw[hm];exact h.pages);have e1:((List.range m).map (λi=>(V.texts.getD i ⟨#[]⟩,V.marks.getD i ⟨#[]⟩))).map (·.1)=V.texts:=by rw[fU];exact S9 V.texts ⟨#[]⟩ m (by rw[hm];exact h.texts)
 have e2:((List.range m).map (λi=>(V.texts.getD i ⟨#[]⟩,V.marks.getD i ⟨#[]⟩))).map (·.2)=V.marks:=by rw[fU];exact S9 V.marks ⟨#[]⟩ m (by rw[hm];exact h.marks)
 obtain⟨L,hL⟩:∃L,L=(List.range m).map (λi=>(V.texts.getD i ⟨#[]⟩,V.marks.getD i ⟨#[]⟩)):=⟨_,rfl⟩
 rw[<-hL]at hp e1 e2;have hload:Ap secret B V.now=some (V.texts,V.marks):=by rw[hm]at hp;unfold Ap;rw[hp];show(if rV (L.map (·.2))=V.now.root then some (L.map (·.1),L.map (·.2))else none)=_;rw[e1,e2,aP (h.root h0)]
 have hV:(⟨secret,V.now,V.texts,V.marks,false⟩:nT)=V:=by have h1:=h.sec;have h2:=h.alive;obtain⟨a,b,c,d,e⟩:=V;simp only at h1 h2;subst h1;subst h2;rfl
 unfold vW;rw[h.zjt h0];show(Ap secret B V.now).map (λp=>(⟨secret,V.now,p.1,p.2,false⟩:nT))=some V;rw[hload];exact dK some hV
theorem zhc{secret:af}{V:nT}{B:List af}{n:Nat}(h:InvV secret V B n)(c:Int)(hc:n<c):vW secret B c=none:=by rw[vW,h.old c hc]
theorem Zf{secret:af}{V:nT}{B:List af}{n:Nat}(h:InvV secret V B n):yS secret B n=some (V,(n:Int)):=by
 rw[yS,zhc h _ (by omega)];by_cases e:n=0
 ·have:(n:Int)=0:=by omega
  simp only[this,if_true];rw[h.fresh e]
 ·have:¬(n:Int)=0:=by omega
  simp only[this,if_false];rw[zlD h (by omega)];rfl
theorem GL{secret:af}{B B':List af}{c:Int}(h:B'.getD (c % 2).toNat ⟨#[]⟩=B.getD (c % 2).toNat ⟨#[]⟩):yI secret B' c=yI secret B c:=by rw[yI,yI,h]
theorem NS{secret:af}{V:nT}{B B':List af}{n:Nat}{ws:List (Nat×af)}(h:InvV secret V B n)(hm:zfS B ws B')(hw:∀p∈ws,∃i,i<32∧p.1=tX i (!V.now.sides.getD i false)∧p.2.size=256):InvV secret V B' n:=by
 have hs:∀q,q<2->B'.getD q ⟨#[]⟩=B.getD q ⟨#[]⟩:=λq hq=>by
  rcases hm.at_ q with h1|⟨s,h1,_⟩
  ·exact h1
  ·obtain⟨i,hi,h2,_⟩:=hw _ h1;have h2:q=tX i (!V.now.sides.getD i false):=h2;have:=VF i (!V.now.sides.getD i false);omega
 refine⟨h.sec,h.alive,h.cnt,h.ep1,h.ep2,h.sides,h.texts,h.marks,h.m16,h.t200,by rw[hm.len];exact h.zk4,λi hi=> ?_,λi hi=> ?_,h.fresh,λh0=> ?_,h.root,λc hc=> ?_⟩
 ·rcases hm.at_ i with h1|⟨s,h1,h2⟩
  ·rw[h1];exact h.bsz i hi
  ·obtain⟨j,_,_,h3⟩:=hw _ h1;rw[h2];exact h3
 ·have e:B'.getD (tX i (V.now.sides.getD i false)) ⟨#[]⟩=B.getD (tX i (V.now.sides.getD i false)) ⟨#[]⟩:=by
   rcases hm.at_ (tX i (V.now.sides.getD i false))with h1|⟨s,h1,_⟩
   ·exact h1
   ·obtain⟨j,hj,h2,_⟩:=hw _ h1;have h3:=SE h2;obtain⟨h3,h4⟩:=h3;subst h3;cases hb:V.now.sides.getD i false<;>rw[hb]at h4<;>cases h4
  rw[zT,e];exact h.pages i hi
 ·rw[GL (hs _ (by omega))];exact h.zjt h0
 ·rw[GL (hs _ (by omega))];exact h.old c hc
theorem ZL(secret:af)(c:Int)(B:List af)(h:B.getD (c % 2).toNat ⟨#[]⟩=ug):yI secret B c=none:=by rw[yI,h,aB (λx=>zbQ _ x.1)]
theorem zbO(n:Nat)(h:n=32):((List.range n).map λ(i:Nat)=>uy (i:Int) 0 ⟨#[]⟩).length=32:=by simp[h]
theorem NT(secret:af)(B:List af)(hl:B.length=66)(hz:∀i,i<66->B.getD i ⟨#[]⟩=ug):InvV secret (uU secret) B 0:=by
 refine⟨rfl,rfl,rfl,jO 1,jO 1,bP,bP,zbO 32 rfl,λm hm=> ?_,λs hs=> ?_,hl,λi hi=> ?_,λi hi=> ?_,λ_=>rfl,λh=>absurd h (by omega),λh=>absurd h (by omega),λc hc=> ?_⟩
 ·obtain⟨i,_,rfl⟩:=bf.1 hm;exact xI _ _ _
 ·rw[(iW.1 hs).2];exact dL 200
 ·rw[hz i hi];exact tY
 ·rw[zT,hz _ (DZ hi _),Z8];have e1:(uU secret).texts.getD i ⟨#[]⟩=⟨#[]⟩:=by
   show(List.replicate 32 (⟨#[]⟩:af)).getD i ⟨#[]⟩=_;rw[ax,jg,aP hi];rfl
  have e2:(uU secret).marks.getD i ⟨#[]⟩=uy (i:Int) 0 ⟨#[]⟩:=by show((List.range 32).map λ(i:Nat)=>uy (i:Int) 0 ⟨#[]⟩).getD i ⟨#[]⟩=_;rw[ax,bC,kX hi];rfl
  rw[e1,e2]
 ·exact ZL _ _ _ (hz _ (by omega))
structure WOk(W:List (Nat×af)):Prop where
 ids:∀p∈W,p.1<32
 small:∀p∈W,p.2.size<=200
 apart:W.Pairwise (λp q=>p.1≠q.1)
def wrV(key:af)(pg:Int)(sides:List Bool)(W:List (Nat×af)):List (Nat×af):=W.map λp=>(tX p.1 (!sides.getD p.1 false),BC (Fp key p.1 pg p.2))
def yA(sides:List Bool)(W:List (Nat×af)):List Bool:=W.foldl (λl p=>l.set p.1 (!l.getD p.1 false)) sides
def Ae(pg:Int)(marks:List af)(W:List (Nat×af)):List af:=qx marks (W.map λp=>(p.1,uy p.1 pg p.2))
theorem OH:∀(W:List (Nat×af)) (sides:List Bool),(yA sides W).length=sides.length
 | [],_=>rfl
 | p::W,sides=>by rw[yA,dO,<-yA,OH W,dN]
theorem GN(q:Nat):∀(W:List (Nat×af)) (sides:List Bool),(∀p∈W,p.1≠q)->(yA sides W).getD q false=sides.getD q false
 | [],_,_=>rfl
 | p::W,sides,h=>by rw[yA,dO,<-yA,GN q W _ (λx hx=>h x (aQ _ hx)),vJ,aB (λx=>h p (aY ..) x.1)]
theorem Sj(q:Nat)(s:af):∀(W:List (Nat×af)) (sides:List Bool),W.Pairwise (λp q=>p.1≠q.1)->(q,s)∈W->q<sides.length->(yA sides W).getD q false= !sides.getD q false
 | [],_,_,h,_=>by cases h
 | p::W,sides,hp,h,hq=>by
  rw[yA,dO,<-yA];have hp1:=(bU.1 hp).1;rcases bK.1 h with h|h
  ·rw[GN q W _ (λx hx e=>hp1 x hx (by rw[<-h];exact e.symm)),vJ,aP ⟨by rw[<-h],hq⟩,<-h]
  ·rw[Sj q s W _ (bU.1 hp).2 h (by rw[dN];exact hq),vJ,aB (λx=>hp1 _ h x.1)]
theorem zdy(key:af)(pg:Int)(a b:List Bool)(W:List (Nat×af))(h:∀p∈W,a.getD p.1 false=b.getD p.1 false):wrV key pg a W=wrV key pg b W:=by rw[wrV,wrV];apply iP;intro p hp;rw[h p hp]
structure zlP(key:af)(pg:Int)(W:List (Nat×af))(st:xA)(r:xA×Bool)(k:Nat):Prop where
 le:k<=W.length
 sure:r.1.dev.sure=st.dev.sure
 wait:r.1.dev.wait=st.dev.wait++wrV key pg st.sides (W.take k)
 sides:r.1.sides=yA st.sides (W.take k)
 marks:r.1.marks=Ae pg st.marks (W.take k)
 all:r.2=true->k=W.length
 spent:r.2=false->r.1.dev.oD=0
 free:st.dev.oD<0->r.2=true∧r.1.dev.oD=st.dev.oD
 held:0<=st.dev.oD->0<=r.1.dev.oD
theorem Vo(key:af)(pg:Int):∀(W:List (Nat×af)) (st:xA),W.Pairwise (λp q=>p.1≠q.1)->∃k,zlP key pg W st (rJ key pg W st) k
 | [],st,_=>⟨0,aF _,rfl,(dJ _).symm,rfl,rfl,λ_=>rfl,λh=>absurd h (by simp[rJ]),λ_=>⟨rfl,rfl⟩,λh=>h⟩
 | p::W,st,hp=>by
  have hp1:=(bU.1 hp).1;rw[rJ];by_cases hf:st.dev.oD=0
  ·rw[aP hf];exact⟨0,by omega,rfl,(dJ _).symm,rfl,rfl,λh=>(by cases h),λ_=>hf,λh=>absurd h (by omega),λh=>h⟩
  ·rw[aB hf];obtain⟨k,h⟩:=Vo key pg W (uA key pg st p) (bU.1 hp).2;have hw:wrV key pg (uA key pg st p).sides (W.take k)=wrV key pg st.sides (W.take k):=by
    refine zdy _ _ _ _ _ λq hq=> ?_;show(st.sides.set p.1 (!st.sides.getD p.1 false)).getD q.1 false=_;rw[vJ,aB (λx=>hp1 q (dH hq) x.1)]
   have hbf:wE st.dev.oD<0↔st.dev.oD<0:=by unfold wE;split<;>omega
   refine⟨k+1,by have:=h.le;simp only[aK];omega,h.sure,?_,?_,?_,λe=>by rw[h.all e];rfl,h.spent,λe=> ?_,λe=> ?_⟩
   ·rw[h.wait,hw];show(st.dev.wait++ [_])++_=st.dev.wait++(_::_)
    rw[bu];rfl
   ·rw[h.sides];rfl
   ·rw[h.marks];rfl
   ·have h2:=h.free (show wE st.dev.oD<0 from hbf.2 e);refine⟨h2.1,h2.2.trans ?_⟩;show wE st.dev.oD=_;unfold wE;rw[aB (by omega)]
   ·exact h.held (show 0<=wE st.dev.oD by unfold wE;split<;>omega)
def BX(V:nT)(ep:Int)(W:List (Nat×af)):nT:=
 ⟨V.secret,⟨V.now.count+1,ep,yA V.now.sides W,rV (Ae (V.now.count+1) V.marks W)⟩,vI V.texts W,Ae (V.now.count+1) V.marks W,V.dead⟩
def Yl(V:nT)(B:List af)(ep:Int)(W:List (Nat×af)):List af:=qx B (wrV (Ba V.secret ep) (V.now.count+1) V.now.sides W)
def Am(V:nT)(B:List af)(ep:Int)(W:List (Nat×af)):List af:=(Yl V B ep W).set ((V.now.count+1) % 2).toNat (BC (zC (rH V.secret) (BX V ep W).now))
theorem WX{key:af}{pg:Int}{sides:List Bool}{W:List (Nat×af)}(hW:WOk W):∀p∈wrV key pg sides W,∃i,i<32∧p.1=tX i (!sides.getD i false)∧p.2.size=256:=by intro p hp;obtain⟨q,hq,rfl⟩:=bf.1 hp;refine⟨q.1,hW.ids q hq,rfl,Iq _ ?_⟩;rw[EP _ _ _ _ (hW.small q hq)];omega
theorem WOk.take{W:List (Nat×af)}(h:WOk W)(k:Nat):WOk (W.take k):=
 ⟨λp hp=>h.ids p (dH hp),λp hp=>h.small p (dH hp),h.apart.sublist (List.take_sublist k W)⟩
theorem zbJ{l:List af}(h:l.length=32)(h16:∀m∈l,m.size=16):(rV l).size=16:=by
 rw[rV,aP (AV.2 ⟨h,h16⟩)];have hl:(ups 4 l).length=2:=by rw[ziy,h]
 show((upL (ups 4 l)).getD 0 ⟨#[]⟩).size=16;rw[upL,hl];exact Za _ _
theorem dropWhile_nil{α:Type}(p:α->Bool):∀l:List α,(∀x∈l.dropWhile p,p x=true)->l.dropWhile p= []
 | [],_=>rfl
 | a::l,h=>by
  by_cases ha:p a=true
  ·rw[kH ha]at h⊢;exact dropWhile_nil p l h
  ·rw[List.dropWhile_cons_of_neg ha]at h;exact absurd (h a aY) ha
theorem DF{α:Type}(p:α->Bool):∀l:List α,l.dropWhile p= []->∀x∈l,p x=true
 | [],_=>λx hx=>by cases hx
 | a::l,h=>by
  by_cases ha:p a=true
  ·rw[kH ha]at h;intro x hx;rcases bK.1 hx with rfl|hx
   ·exact ha
   ·exact DF p l h x hx
  ·rw[List.dropWhile_cons_of_neg ha]at h;cases h
theorem Ec{α:Type}(p:α->Bool):∀l:List α,(∀x∈l,p x=true)->l.dropWhile p= []
 | [],_=>rfl
 | a::l,h=>by rw[kH (h a aY)];exact Ec p l λx hx=>h x (aQ _ hx)
theorem zdI(l:List UInt8)(c:UInt8):Lib.trimB l c= []↔∀x∈l,x=c:=by
 unfold Lib.trimB Lib.trimLeftB Lib.trimRightB;constructor
 ·intro h x hx;have h1:=DF _ _ h;have h2:=dropWhile_nil (· ==c) l.reverse λy hy=>h1 y (kR.2 hy);have h3:=DF _ _ h2 x (kR.2 hx)
  simpa using h3
 ·intro h;have h2:=Ec (· ==c) l.reverse λy hy=>by simpa using h y (kR.1 hy)
  rw[h2];rfl
theorem Vh(s:af):(⟨(Lib.trimB s.data.toList 0).toArray⟩:af)=⟨#[]⟩↔bs s=List.replicate s.size 0:=by
 have e:((⟨(Lib.trimB s.data.toList 0).toArray⟩:af)=⟨#[]⟩)↔Lib.trimB s.data.toList 0= []:=by
  constructor
  ·intro h;have:=dK (λb:af=>b.data.toList) h
   simpa using this
  ·intro h;rw[h]
 rw[e,zdI];rw[List.eq_replicate_iff];constructor
 ·intro h;refine⟨bs_len s,λx hx=> ?_⟩;simp only[bs,bf]at hx;obtain⟨y,hy,rfl⟩:=hx;rw[h y hy];rfl
 ·rintro⟨_,h⟩ x hx;have:=h x.toNat (by simp only[bs,bf];exact⟨x,hx,rfl⟩);exact UInt8.toNat_inj.1 this
theorem UG(key s:af)(hk:key.size=32)(hs:82<=s.size)(hs2:s.size<=1000)(hz:(bs s).drop 82≠List.replicate (s.size-82) 0)(w:World):
  ae 130 #[.string key,.string s] w λe w'=>e= .returned (.tuple #[ry qX,errVal 15])∧Keep nM w w':=by
 have j0:((key.size:Nat):Int)=32:=by omega
 have j1:decide ((s.size:Int)<82)=false:=by simp;omega
 have j2:(82:Int)<=s.size:=by omega
 obtain⟨D,hD⟩:∃D,D=s.extract 82 s.size:=⟨_,rfl⟩
 have hDs:D.size=s.size-82:=by rw[hD,dV];omega
 have htr:=λw=>Tryz.strings_Trim_one D 0 (by decide) w (by omega);obtain⟨T,hT⟩:∃T:af,T=⟨(Lib.trimB D.data.toList 0).toArray⟩:=⟨_,rfl⟩
 rw[<-hT]at htr;have hTn:T≠⟨#[]⟩:=λh=>hz (by have:=(Vh D).1 (hT.symm.trans h);rw[hDs,hD,pY,aV (by rw[gV,bs_len];exact aF _)]at this;exact this)
 rw[hD]at htr;have hTq:∀(w:World) (X:Ext w),ae 175 #[.string (s.extract 82 s.size),.string ⟨#[0]⟩] (w.ext X) λe w'=>e= .returned (.string T)∧Keep nM (w.ext X) w':=λw X=>(htr (w.ext X)).mono λe w' h=>⟨h.1,by rcases h.2 with rfl|rfl;exact ah _ _;exact(ah _ _).drew⟩
 have hT2:T.toList.isEmpty=false:=by
  cases h:T.toList with
  | nil=>exact absurd (xy (by rw[bs,<-bQ,h];rfl)) hTn
  | cons a l=>rfl
 have hin:=yN;have hbz:=zY;have hzl:=Cf;have hone:=qY qX;have FK:(Tryz.prog.info? 134).map (·.size)=some (oq qX).toArray.size:=by rw[hzl];exact qF
 rw[ry]at hin⊢;obtain⟨cz,hcz⟩:∃cz,cz=(oq qX).toArray:=⟨_,rfl⟩
 rw[<-hcz]at hin hbz hzl hone FK⊢;clear hcz htr hD hT hTn hz hDs;have Qw:=ag hin;have Hbz:=ag hbz;have JG:=ag FK;have Hq:=ag hTq;clear hin hbz FK hTq;go_enter Tryz.func130,Tryz.ntmps130;go_wp2_with (first|(refine oP rfl 134 rfl Qw.out ?_;refine o8 (λw9=>w9.heap[w.heap.size]? =some (.cells cz 134 (0,0))∧Keep nM w w9) ⟨aG w _,(ah nM w).alloc _⟩ ?_;rintro w9 ⟨hX9,K9⟩));refine qP (by kernel_rfl) (by kernel_rfl) ?_
 iterate 20 ((with_reducible refine kM (λK hK=> ?_));go_simp;first|(refine hK _ ?_;clear hK K)|(apply Exists.intro;refine⟨λ_=> ?_,hK _ ?_⟩;(go_at_call 175;exact uJ _ (Hq.out _ _));clear hK K))
 refine dF ?_;intro X;have hXX:=(qA w9 X).heap hX9 (λx=>x);have KX:=K9.nK (qA w9 X);go_wp2_with (first|(refine pU rfl 134 #[] rfl cz (by simpa using Hbz.out) ?_)|(refine oH rfl 134 (.tmp 4) (.tmp 36) rfl w.heap.size 134 cz cz rfl rfl hXX JG.out 35 hzl hzl hone ?_;have xO:=oO (c':=cz) hXX;have K10:=KX.setRow (g:=w.heap.size) (.inr (aF _)) cz;refine o8 (λw10=>w10.heap[w.heap.size]? =some (.cells cz 134 (0,0))∧Keep nM w w10) ⟨xO,K10⟩ ?_;clear xO K10;rintro w10 ⟨xO,K10⟩));exact dW (v:= .tuple #[.agg cz,errVal 15]) (qZ rfl _ w10 w.heap.size 134 cz (0,0) _ (errVal 15) rfl rfl xO Tryz.underlying134 rfl JG.out) rfl ⟨rfl,K10⟩
theorem UH(key s:af)(hk:key.size=32)(hs:82<=s.size)(hs2:s.size<=1000)(hz:(bs s).drop 82=List.replicate (s.size-82) 0)(w:World)(V:oG w):
  ae 130 #[.string key,.string s] w λe w'=>e= .returned (.tuple #[ry (tC key s),errVal (vG key s)])∧Keep nM w w':=by
 obtain⟨PV,hPV⟩:∃P,P=tC key s:=⟨_,rfl⟩
 obtain⟨PE,hPE⟩:∃P,P=vG key s:=⟨_,rfl⟩
 rw[<-hPV,<-hPE];rw[tC]at hPV;rw[vG,aP hk,aB (show¬s.size<82 by omega)]at hPE;have HPV:=ag hPV;have HPE:=ag hPE;clear hPV hPE;have j0:((key.size:Nat):Int)=32:=by omega
 have j1:decide ((s.size:Int)<82)=false:=by simp;omega
 have j2:(82:Int)<=s.size:=by omega
 have j3:(66:Int)<=s.size:=by omega
 obtain⟨D,hD⟩:∃D,D=s.extract 82 s.size:=⟨_,rfl⟩
 have hDs:D.size=s.size-82:=by rw[hD,dV];omega
 have htr:=λw=>Tryz.strings_Trim_one D 0 (by decide) w (by omega);obtain⟨T,hT⟩:∃T:af,T=⟨(Lib.trimB D.data.toList 0).toArray⟩:=⟨_,rfl⟩
 have hTn:T=⟨#[]⟩:=hT.trans ((Vh D).2 (by rw[hDs,hD,pY,aV (by rw[gV,bs_len];exact aF _),hz]));rw[<-hT,hTn,hD]at htr;obtain⟨M,hM⟩:∃M,M=s.extract 66 82:=⟨_,rfl⟩
 have hCs:(s.extract 0 66).size=66:=by rw[dV];omega
 have hml:(pV 122 ([key,s.extract 0 66].map bs)).length<=100000:=by simp[pV,qB,ql,bs_len];omega
 obtain⟨G,hG⟩:∃G,G=txt (mark 122 ([key,s.extract 0 66].map bs)):=⟨_,rfl⟩
 have e1:(2:Int)<=s.size:=by omega
 have e2:(10:Int)<=s.size:=by omega
 obtain⟨P2,hP2⟩:∃P,P=s.extract 2 s.size:=⟨_,rfl⟩
 obtain⟨P10,zkY⟩:∃P,P=s.extract 10 s.size:=⟨_,rfl⟩
 have b2:bs P2=(bs s).drop 2:=by rw[hP2,pY,aV (by rw[gV,bs_len];exact aF _)]
 have b10:bs P10=(bs s).drop 10:=by rw[zkY,pY,aV (by rw[gV,bs_len];exact aF _)]
 have s2:P2.size=s.size-2:=by rw[<-bs_len,b2,gV,bs_len]
 have s10:P10.size=s.size-10:=by rw[<-bs_len,b10,gV,bs_len]
 obtain⟨va,hva⟩:∃a,a=zi ((bs s).drop 2):=⟨_,rfl⟩
 obtain⟨vb,hvb⟩:∃a,a=zi ((bs s).drop 10):=⟨_,rfl⟩
 have hn2:=λw=>IZ P2 (by omega) (by omega) w;have zkI:=λw=>IZ P10 (by omega) (by omega) w;rw[b2,<-hva,hP2]at hn2;rw[b10,<-hvb,zkY]at zkI;have Hn2:=ag hn2;have zir:=ag zkI;have Hva:=ag hva;have Hvb:=ag hvb;clear hn2 zkI b2 b10 s2 s10 hP2 zkY hva hvb P2 P10;obtain⟨cb,hcb⟩:∃cb,cb=(oq ⟨va,vb,List.replicate 32 false,s.extract 50 66⟩).toArray:=⟨_,rfl⟩
 have hbu:=zfb va vb (s.extract 50 66);have hcbl:cb.size=35:=by rw[hcb,bT,rG _ (by simp)]
 have zaR:cb.all (·.oneCell')=true:=by rw[hcb];exact qY _
 rw[<-hcb]at hbu;have Hbu:=ag hbu;have Hcb:=ag hcb;have h35:(Tryz.prog.info? 134).map (·.size)=some cb.size:=by rw[hcbl];exact qF
 have JG:=ag h35;clear hbu hcb h35;have hin:=yN;have hzl:=Cf;rw[ry]at hin;obtain⟨cz,hcz⟩:∃cz,cz=(oq qX).toArray:=⟨_,rfl⟩
 rw[<-hcz]at hin hzl;have Qw:=ag hin;have Hcz:=ag hcz;have Htr:Hid (∀w:World,ae 175 #[.string (s.extract 82 s.size),.string ⟨#[0]⟩] w λe w'=>e= .returned (.string ⟨#[]⟩)∧Keep nM w w'):=ag λw=>(htr w).mono λe w' h=>⟨h.1,by rcases h.2 with rfl|rfl;exact ah _ _;exact(ah _ _).drew⟩
 have HM:=ag hM;have HG:=ag hG;have zpU:=ag hz;have Hml:=ag hml;clear hin hcz htr hM hG hz hT hTn hD hDs hml hCs D T;go_enter Tryz.func130,Tryz.ntmps130;go_wp2_with (first|(refine oP rfl 134 rfl Qw.out ?_;refine o8 (λw9=>w9.heap[w.heap.size]? =some (.cells cz 134 (0,0))∧Keep nM w w9) ⟨aG w _,(ah nM w).alloc _⟩ ?_;rintro w9 ⟨hX9,K9⟩))
 go_region_with (first|(go_at_call 175;refine(Htr.out _).mono ?_;rintro e w1 ⟨rfl,K1⟩)|(go_at_call 13;refine(xC 122 (by decide) _ [key,s.extract 0 66] _ (V.keep ((K9.drew.nK K1).alloc _) (λx=>x)) (Strs.lit (w:=w1) [key,s.extract 0 66]) Hml.out (by simp)).mono ?_;rw[<-HG.out];rintro e w2 ⟨rfl,K2⟩))
 have Fj:=((K9.drew.nK K1).alloc _).nK K2;have hX2:=K2.heap (Keep.heap ((ah nM _).alloc _) (K1.heap (show w9.drew.heap[w.heap.size]? =_ from hX9) (λx=>x)) (λx=>x)) (λx=>x);rw[<-HM.out];by_cases heq:G=M
 ·have hb2:zH G M=true:=by rw[heq];exact AQ M
  unfold zH at hb2;rw[hb2,ni];clear hb2 heq;go_simp;go_upto_region 5 with(fail)
  go_cut [6] (λyv wx=>∃Y,yv= .pointer (some ⟨Y,0,none⟩)∧w.heap.size<Y∧wx.heap[Y]? =some (.cells cb 134 (0,0))∧wx.heap[w.heap.size]? =some (.cells cz 134 (0,0))∧Keep nM w wx)
  case first=>
   have h2l:w.heap.size<w2.heap.size:=lt_of_heap hX2;have h2k:=Fj.size;refine TI [0,1,3,4,6,7] (.fork 2 (.fork 5 (.fork 8 (.row [9,10]) 9 (.row [8,10])) 9 (.row [5,8,10])) 9 (.row [2,5,8,10])) (by kernel_rfl) (by kernel_rfl) (λc a d v w h=>by cases d<;>exact h) ?_;simp only[nR,aj,ak,au]
   repeat(refine zy (λK hK=> ?_);go_simp;refine hK _ ?_;clear hK K)
   refine AO ?_;refine⟨?_,?_⟩
   ·simp only[nR,aj,ak,au];go_wp2_with fail;refine(Hn2.out _).mono ?_;rintro e wx ⟨rfl,hwx⟩;subst wx;go_wp2_with fail;refine⟨?_,?_⟩
    ·simp only[nR,aj,ak,au];go_wp2_with fail;refine(zir.out _).mono ?_;rintro e wx ⟨rfl,hwx⟩;subst wx;go_wp2_with fail;refine⟨?_,?_⟩
     ·simp only[nR,aj,ak,au];go_wp2_with (first|(refine oP rfl 134 rfl Qw.out ?_;refine o8 (λw12=>w12.heap[w2.heap.size]? =some (.cells cz 134 (0,0))∧w12.heap[w.heap.size]? =some (.cells cz 134 (0,0))∧Keep nM w w12) ⟨aG w2.drew _,((ah nM w2).drew.alloc _).heap hX2 (λx=>x),Fj.drew.alloc _⟩ ?_;rintro w12 ⟨FN,Jf,FD⟩;have hst:=rP (P:=Tryz.prog) FN (hzl.trans hcbl.symm) zaR;have WH:=oO (c':=cb) FN;have WI:=(jo w12 w2.heap.size w.heap.size cb (λe=>by omega)).trans Jf;have K13:=FD.setRow (g:=w2.heap.size) (.inr (by omega)) cb)|(refine pU rfl 134 #[(0,.tmp 40),(1,.tmp 43),(3,.tmp 45)] rfl cb (by simp only[gW,bF,dB,gZ];exact Hbu.out) ?_));simp only[zO,nR,aj,ak,au];go_wp2_with (first|(refine oP rfl 134 rfl Qw.out ?_;refine o8 (λw12=>w12.heap[w2.heap.size]? =some (.cells cz 134 (0,0))∧w12.heap[w.heap.size]? =some (.cells cz 134 (0,0))∧Keep nM w w12) ⟨aG w2.drew _,((ah nM w2).drew.alloc _).heap hX2 (λx=>x),Fj.drew.alloc _⟩ ?_;rintro w12 ⟨FN,Jf,FD⟩;have hst:=rP (P:=Tryz.prog) FN (hzl.trans hcbl.symm) zaR;have WH:=oO (c':=cb) FN;have WI:=(jo w12 w2.heap.size w.heap.size cb (λe=>by omega)).trans Jf;have K13:=FD.setRow (g:=w2.heap.size) (.inr (by omega)) cb)|(refine pU rfl 134 #[(0,.tmp 40),(1,.tmp 43),(3,.tmp 45)] rfl cb (by simp only[gW,bF,dB,gZ];exact Hbu.out) ?_));go_meet
      case rel=>exact⟨w2.heap.size,rfl,h2l,WH,WI,K13⟩
     ·simp only[nR,aj,ak,au];go_wp2_with (first|(refine oP rfl 134 rfl Qw.out ?_;refine o8 (λw12=>w12.heap[w2.heap.size]? =some (.cells cz 134 (0,0))∧w12.heap[w.heap.size]? =some (.cells cz 134 (0,0))∧Keep nM w w12) ⟨aG w2.drew _,((ah nM w2).drew.alloc _).heap hX2 (λx=>x),Fj.drew.alloc _⟩ ?_;rintro w12 ⟨FN,Jf,FD⟩;have hst:=rP (P:=Tryz.prog) FN (hzl.trans hcbl.symm) zaR;have WH:=oO (c':=cb) FN;have WI:=(jo w12 w2.heap.size w.heap.size cb (λe=>by omega)).trans Jf;have K13:=FD.setRow (g:=w2.heap.size) (.inr (by omega)) cb)|(refine pU rfl 134 #[(0,.tmp 40),(1,.tmp 43),(3,.tmp 45)] rfl cb (by simp only[gW,bF,dB,gZ];exact Hbu.out) ?_));simp only[zO,nR,aj,ak,au];go_wp2_with (first|(refine oP rfl 134 rfl Qw.out ?_;refine o8 (λw12=>w12.heap[w2.heap.size]? =some (.cells cz 134 (0,0))∧w12.heap[w.heap.size]? =some (.cells cz 134 (0,0))∧Keep nM w w12) ⟨aG w2.drew _,((ah nM w2).drew.alloc _).heap hX2 (λx=>x),Fj.drew.alloc _⟩ ?_;rintro w12 ⟨FN,Jf,FD⟩;have hst:=rP (P:=Tryz.prog) FN (hzl.trans hcbl.symm) zaR;have WH:=oO (c':=cb) FN;have WI:=(jo w12 w2.heap.size w.heap.size cb (λe=>by omega)).trans Jf;have K13:=FD.setRow (g:=w2.heap.size) (.inr (by omega)) cb)|(refine pU rfl 134 #[(0,.tmp 40),(1,.tmp 43),(3,.tmp 45)] rfl cb (by simp only[gW,bF,dB,gZ];exact Hbu.out) ?_));go_meet
      case rel=>exact⟨w2.heap.size,rfl,h2l,WH,WI,K13⟩
    ·simp only[nR,aj,ak,au];go_wp2_with (refine oP rfl 134 rfl Qw.out ?_;refine o8 (λw12=>w12.heap[w2.heap.size]? =some (.cells cz 134 (0,0))∧w12.heap[w.heap.size]? =some (.cells cz 134 (0,0))∧Keep nM w w12) ⟨aG w2.drew _,((ah nM w2).drew.alloc _).heap hX2 (λx=>x),Fj.drew.alloc _⟩ ?_;rintro w12 ⟨FN,Jf,FD⟩;have hst:=rP (P:=Tryz.prog) FN (hzl.trans hcbl.symm) zaR;have WH:=oO (c':=cb) FN;have WI:=(jo w12 w2.heap.size w.heap.size cb (λe=>by omega)).trans Jf;have K13:=FD.setRow (g:=w2.heap.size) (.inr (by omega)) cb);simp only[zO,nR,aj,ak,au];go_wp2_with fail;refine(zir.out _).mono ?_;rintro e wx ⟨rfl,hwx⟩;subst wx;go_wp2_with (refine pU rfl 134 #[(0,.tmp 40),(1,.tmp 43),(3,.tmp 45)] rfl cb (by simp only[gW,bF,dB,gZ];exact Hbu.out) ?_);go_meet
     case rel=>exact⟨w2.heap.size,rfl,h2l,WH,WI,K13⟩
   ·simp only[nR,aj,ak,au];go_wp2_with (refine oP rfl 134 rfl Qw.out ?_;refine o8 (λw12=>w12.heap[w2.heap.size]? =some (.cells cz 134 (0,0))∧w12.heap[w.heap.size]? =some (.cells cz 134 (0,0))∧Keep nM w w12) ⟨aG w2.drew _,((ah nM w2).drew.alloc _).heap hX2 (λx=>x),Fj.drew.alloc _⟩ ?_;rintro w12 ⟨FN,Jf,FD⟩;have hst:=rP (P:=Tryz.prog) FN (hzl.trans hcbl.symm) zaR;have WH:=oO (c':=cb) FN;have WI:=(jo w12 w2.heap.size w.heap.size cb (λe=>by omega)).trans Jf;have K13:=FD.setRow (g:=w2.heap.size) (.inr (by omega)) cb);simp only[zO,nR,aj,ak,au];go_wp2_with fail;refine(Hn2.out _).mono ?_;rintro e wx ⟨rfl,hwx⟩;subst wx;go_wp2_with fail;refine(zir.out _).mono ?_;rintro e wx ⟨rfl,hwx⟩;subst wx;go_wp2_with (refine pU rfl 134 #[(0,.tmp 40),(1,.tmp 43),(3,.tmp 45)] rfl cb (by simp only[gW,bF,dB,gZ];exact Hbu.out) ?_);go_meet
    case rel=>exact⟨w2.heap.size,rfl,h2l,WH,WI,K13⟩
  case rest=>
   obtain⟨Y,rfl,hYl,hY0,hX0,K0⟩:=hcut;rw[Hcb.out,<-XE s]at hY0;have HY0:=ag hY0;have HX0:=ag hX0;clear hY0 hX0;go_wp2_with fail
   go_loopw [7,47] (λ_ iv wr=>∃t:Nat,t<=32∧iv= .int .i64 t∧Hid (wr.heap[Y]? =some (.cells (oq ⟨va,vb,zg s t,s.extract 50 66⟩).toArray 134 (0,0)))∧Hid (wr.heap[w.heap.size]? =some (.cells cz 134 (0,0)))∧Keep nM w wr) (λ_ iv _=>32-(intOf iv).toNat)
   case atStart=>exact⟨0,by omega,rfl,HY0,HX0,K0⟩
   case round=>
    obtain⟨t,ht,rfl,hY,hX,K⟩:=hrel;by_cases hlt:t<32
    ·have j3:(t:Int)<32:=by omega
     have hks:18+t<s.size:=by omega
     have hki:(18:Int)+t<s.size:=by omega
     have cY:wr.cell? ⟨Y,2+t,none⟩=some (.bool ((zg s t).getD t false)):=by rw[aO wr Y (2+t) _ _ (0,0) hY.out];exact Dz _ t (by rw[OI];exact hlt)
     have fY:wr.frozen? ⟨Y,2+t,none⟩=false:=by have h:=hY.out;simp[World.frozen?,h]
     have hv:((s[18+t].toNat:Int)==49)=decide ((bs s).getD (18+t) 0=49):=by rw[bs_getD s _ hks,jE,jP,aS];omega
     have Hv:=ag hv;clear hv;go_wp2_with fail;refine⟨⟨t+1,by omega,by go_num,ag ?_,ag (heap_setCell_other hX.out (by omega) _),K.setCell (.inr (show w.heap.size<=Y by omega)) _⟩,by simp[intOf];omega⟩;rw[Hv.out,oM hY.out,Lr _ _ _ _ _ _ (by rw[OI];exact hlt),XF]
    ·obtain rfl:t=32:=by omega
     have hread:(⟨va,vb,zg s 32,s.extract 50 66⟩:rC)=qI s:=by rw[Hva.out,Hvb.out,ZV];rfl
     have hYr:=hY.out;rw[hread]at hYr;have hX5:=hX.out;have hwr:=λ(w:World) (R:oG w)=>Lm key (qI s) (uZ s) w R;have hone:=qY (qI s);have hoz:cz.all (·.oneCell')=true:=by rw[Hcz.out];exact qY _
     have hcl:(oq (qI s)).toArray.size=35:=by rw[bT];exact rG _ (uZ s)
     have zk3:(Tryz.prog.info? 134).map (·.size)=some (oq (qI s)).toArray.size:=by rw[hcl];exact qF
     have zfx:(Tryz.prog.info? 134).map (·.size)=some cz.size:=by rw[hzl];exact qF
     have hbz:Tryz.prog.built 134 []=some cz:=by rw[Hcz.out];exact zY
     have hvz:ry qX= .agg cz:=by rw[Hcz.out];rfl
     have hvr:ry (qI s)= .agg (oq (qI s)).toArray:=rfl;have hpb:=λhm=>NI key s hm hs;have hPV:=HPV.out;have hPE:=HPE.out;rw[hvr]at hwr;obtain⟨W,hW⟩:∃W,W=zC key (qI s):=⟨_,rfl⟩
     obtain⟨E,hE⟩:∃E,E=Wv key (qI s):=⟨_,rfl⟩
     rw[<-hW,<-hE]at hwr;rw[zC]at hW;rw[Wv]at hE;obtain⟨M,hM⟩:∃M,M=qL key (qI s):=⟨_,rfl⟩
     rw[<-hM]at hpb hW hE;have hMB:M=false->x9 key s=false:=λh=>by rw[x9,<-hM,h,iL,iL]
     have HM:Hid (M=true->qL key (qI s)=true):=ag (λh=>hM.symm.trans h);obtain⟨cr,hcr⟩:∃cr,cr=(oq (qI s)).toArray:=⟨_,rfl⟩
     rw[<-hcr]at hYr hwr hone hcl zk3 hvr;have Yg:=ag hwr;have Hz:=ag zfx;have Hr:=ag zk3;have Hbz:=ag hbz;have Hvr:=ag hvr;have Hvz:=ag hvz;have HhX:=ag hX5;clear hread hwr hcr hvr hvz hX5 zfx zk3 hbz HY0 HX0 K0 Hn2 zir Hbu Hcb zaR hcbl JG K9 hX9 Qw Hcz hlt ht hM K1 K2 Fj hX2 Htr Hml;go_wp2_with (first|(refine jD rfl 134 (.tmp 6) rfl Y rfl 134 cr (0,0) _ hYr Tryz.underlying134 rfl Hr.out ?_));have HhY:=ag hYr;have HV:=ag hPV;have HE:=ag hPE;clear hYr hPV hPE hX hY HPV HPE Hva Hvb;refine(Yg.out _ (V.keep K (λx=>x))).mono ?_;rintro e w5 ⟨rfl,K5⟩;have hX5:=K5.heap HhX.out (λx=>x);have Ye:=K5.heap HhY.out (λx=>x);have K6:=K.nK K5;clear Yg K5 HhX HhY K;cases M with
     | false=>
      have hB:=hMB rfl;have hfin:Ending.returned (.tuple #[.agg cz,errVal 15])= .returned (.tuple #[ry PV,errVal PE]):=by rw[HV.out,HE.out,hB,aB (λh=>by cases h.2.2),aB (λh=>by cases h),Hvz.out]
      have yH:=ag hfin;rw[aB (λh=>by cases h)]at hE hW;clear hB hfin HV HE Hvr Hvz hpb hMB;subst hE;subst hW;have he1:errVal 1= .iface 51 (.int .i64 1):=rfl;go_wp2_with (first|(refine pU rfl 134 #[] rfl cz (by simpa using Hbz.out) ?_)|(refine oH rfl 134 (.tmp 4) (.tmp 73) rfl w.heap.size 134 cz cz rfl rfl hX5 Hz.out 35 hzl hzl hoz ?_;have xO:=oO (c':=cz) hX5;have K10:=K6.setRow (g:=w.heap.size) (.inr (aF _)) cz;refine o8 (λw10=>w10.heap[w.heap.size]? =some (.cells cz 134 (0,0))∧Keep nM w w10) ⟨xO,K10⟩ ?_;clear xO K10;rintro w10 ⟨xO,K10⟩));exact dW (v:= .tuple #[.agg cz,errVal 15]) (qZ rfl _ w10 w.heap.size 134 cz (0,0) _ (errVal 15) rfl rfl xO Tryz.underlying134 rfl Hz.out) rfl ⟨yH.out,K10⟩
     | true=>
      rw[aP rfl]at hE hW;subst hE;have he0:errVal 0= .nilIface:=rfl;have hMt:=HM.out rfl;have hWl:=J8 key _ (uZ s) hMt;have hWb:bs W=Dt key (qI s):=by rw[hW,qw];rw[Dt];exact bytes_append (PM _) (uB _ _)
      have HWb:=ag hWb;have Hpb:=ag (hpb rfl);have hX6:=hX5;have Uf:=Ye;have K8:=K6;clear hW hpb hMB hWb hX5 Ye K6;by_cases heq:W=s.extract 0 82
      ·have hB:x9 key s=true:=by
        rw[Hpb.out,aS,<-HWb.out,<-zpU.out,heq,pY,cO,iy]
       have hb2:zH W (s.extract 0 82)=true:=by rw[<-heq];exact AQ W
       unfold zH at hb2;have hfin:Ending.returned (.tuple #[.agg cr,.nilIface])= .returned (.tuple #[ry PV,errVal PE]):=by rw[HV.out,HE.out,hB,aP ⟨hk,hs,rfl⟩,aP rfl,Hvr.out];rfl
       have yH:=ag hfin;clear heq hB hfin HV HE Hvr Hvz Hpb HWb;go_wp2_with (first|(refine jD rfl 134 (.tmp 6) rfl Y rfl 134 cr (0,0) _ Uf Tryz.underlying134 rfl Hr.out ?_)|(refine oH rfl 134 (.tmp 4) (.tmp 75) rfl w.heap.size 134 cz cr rfl rfl hX6 Hr.out 35 hzl hcl hone ?_;have xO:=oO (c':=cr) hX6;have K10:=K8.setRow (g:=w.heap.size) (.inr (aF _)) cr;refine o8 (λw10=>w10.heap[w.heap.size]? =some (.cells cr 134 (0,0))∧Keep nM w w10) ⟨xO,K10⟩ ?_;clear xO K10;rintro w10 ⟨xO,K10⟩));exact dW (v:= .tuple #[.agg cr,.nilIface]) (qZ rfl _ w10 w.heap.size 134 cr (0,0) _ .nilIface rfl rfl xO Tryz.underlying134 rfl Hr.out) rfl ⟨yH.out,K10⟩
      ·have hB:x9 key s=false:=by
        rw[Hpb.out,gJ];intro h;refine heq (xy ?_);rw[HWb.out,pY,cO,h,fM hWl]
       have hb2:zH W (s.extract 0 82)=false:=DX heq;unfold zH at hb2;have hfin:Ending.returned (.tuple #[.agg cz,errVal 15])= .returned (.tuple #[ry PV,errVal PE]):=by rw[HV.out,HE.out,hB,aB (λh=>by cases h.2.2),aB (λh=>by cases h),Hvz.out]
       have yH:=ag hfin;clear heq hB hfin HV HE Hvr Hvz Hpb HWb;go_wp2_with (first|(refine pU rfl 134 #[] rfl cz (by simpa using Hbz.out) ?_)|(refine oH rfl 134 (.tmp 4) (.tmp 73) rfl w.heap.size 134 cz cz rfl rfl hX6 Hz.out 35 hzl hzl hoz ?_;have xO:=oO (c':=cz) hX6;have K10:=K8.setRow (g:=w.heap.size) (.inr (aF _)) cz;refine o8 (λw10=>w10.heap[w.heap.size]? =some (.cells cz 134 (0,0))∧Keep nM w w10) ⟨xO,K10⟩ ?_;clear xO K10;rintro w10 ⟨xO,K10⟩));exact dW (v:= .tuple #[.agg cz,errVal 15]) (qZ rfl _ w10 w.heap.size 134 cz (0,0) _ (errVal 15) rfl rfl xO Tryz.underlying134 rfl Hz.out) rfl ⟨yH.out,K10⟩
 ·have hb2:=DX heq;unfold zH at hb2;have hB:x9 key s=false:=by
   cases hp:x9 key s with
   | false=>rfl
   | true=>
    exfalso;have hm:qL key (qI s)=true:=by rw[x9,aZ,aZ]at hp;exact hp.1.1
    have hl:=J8 key _ (uZ s) hm;rw[NI key s hm hs,aS]at hp;have hbl:(Aq (qI s)).length=66:=by rw[Dt,ay,mark,bG,yB]at hl;omega
    refine heq (xy ?_);have h66:(bs s).take 66=Aq (qI s):=by rw[hp,Dt,bu,fM hbl]
    rw[HG.out,qw (uB _ _),HM.out,pY,bF,bF,dB,pY,cO,h66,hp,Dt,bu,iF hbl,fM (by rw[mark,bG,yB];rfl)]
  have hfin:Ending.returned (.tuple #[.agg cz,errVal 15])= .returned (.tuple #[ry PV,errVal PE]):=by rw[HPV.out,HPE.out,hB,aB (λh=>by cases h.2.2),aB (λh=>by cases h),Hcz.out];rfl
  have yH:=ag hfin;have hbz:Tryz.prog.built 134 []=some cz:=by rw[Hcz.out];exact zY
  have hoz:cz.all (·.oneCell')=true:=by rw[Hcz.out];exact qY _
  have zfx:(Tryz.prog.info? 134).map (·.size)=some cz.size:=by rw[hzl];exact qF
  have Hbz:=ag hbz;have Hz5:=ag zfx;rw[hb2,lS];clear hB hfin heq hb2 hbz zfx;go_wp2_with (first|(refine pU rfl 134 #[] rfl cz (by simpa using Hbz.out) ?_)|(refine oH rfl 134 (.tmp 4) (.tmp 36) rfl w.heap.size 134 cz cz rfl rfl hX2 Hz5.out 35 hzl hzl hoz ?_;have xO:=oO (c':=cz) hX2;have K10:=Fj.setRow (g:=w.heap.size) (.inr (aF _)) cz;refine o8 (λw10=>w10.heap[w.heap.size]? =some (.cells cz 134 (0,0))∧Keep nM w w10) ⟨xO,K10⟩ ?_;clear xO K10;rintro w10 ⟨xO,K10⟩));exact dW (v:= .tuple #[.agg cz,errVal 15]) (qZ rfl _ w10 w.heap.size 134 cz (0,0) _ (errVal 15) rfl rfl xO Tryz.underlying134 rfl Hz5.out) rfl ⟨yH.out,K10⟩
theorem Xz(key s:af)(hs2:s.size<=1000)(w:World)(V:oG w):
  ae 130 #[.string key,.string s] w λe w'=>e= .returned (.tuple #[ry (tC key s),errVal (vG key s)])∧Keep nM w w':=by
 by_cases hk:key.size=32
 ·by_cases hs:s.size<82
  ·have h1:tC key s=qX:=by rw[tC,aB (by omega)]
   have h2:vG key s=15:=by rw[vG,aP hk,aP hs]
   rw[h1,h2];exact TP key s hk hs w
  ·by_cases hz:(bs s).drop 82=List.replicate (s.size-82) 0
   ·exact UH key s hk (by omega) hs2 hz w V
   ·have hB:x9 key s=false:=by rw[x9,bV hz,Bool.and_false]
    have h1:tC key s=qX:=by rw[tC,hB,aB (λh=>by cases h.2.2)]
    have h2:vG key s=15:=by rw[vG,aP hk,aB hs,hB,aB (λh=>by cases h)]
    rw[h1,h2];exact UG key s hk (by omega) hs2 hz w
 ·have h1:tC key s=qX:=by rw[tC,aB (by omega)]
  have h2:vG key s=1:=by rw[vG,aB hk]
  rw[h1,h2];exact Xy key s hk w
end Go.Proofs.YtopbkdebihcmcaaGreatDoor
