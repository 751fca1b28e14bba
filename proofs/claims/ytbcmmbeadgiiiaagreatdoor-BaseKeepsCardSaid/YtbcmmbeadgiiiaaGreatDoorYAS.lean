import Derived.Test.YtbcmmbeadgiiiaaGreatDoorYAJ
import Derived.Test.YtbcmmbeadgiiiaaGreatDoorYAO
import Derived.Test.YtbcmmbeadgiiiaaGreatDoorYAP
import Derived.Deep.MidRow
set_option linter.all false
namespace Go.Proofs.YtbcmmbeadgiiiaaGreatDoor
open Go.RowKit Tryz
set_option maxRecDepth 100000
set_option maxHeartbeats 16000000
variable{os:Array Obj}{xs:List ay}{l:List sJ}{base c cap g n:Nat}{p:Option Addr}{P:Program}{e ty:aB}
def I8(n x y:Int):Int:=wrap64 (n+wrap64 (wrap64 (x-y)*wrap64 (x-y)))
def zny:List (Int×Int)->Int->Int
 | [],n=>n
 | p::l,n=>zny l (I8 n p.1 p.2)
def TF(a b:List Int):Int:=zny (a.zip b) 0
def zdI:∀(l:List (Int×Int)) (p:Int×Int) (n:Int),zny (l++ [p]) n=I8 (zny l n) p.1 p.2
 | [],_,_=>rfl
 | q::l,p,n=>zdI l p (I8 n q.1 q.2)
def Jp(a b:List Int)(k:Nat):Int:=zny ((a.zip b).take k) 0
def WC(a b:List Int):Jp a b 0=0:=rfl
def La(a b:List Int)(k:Nat)(ha:k<a.length)(hb:k<b.length):Jp a b (k+1)=I8 (Jp a b k) (a.getD k 0) (b.getD k 0):=by
 have h:k<(a.zip b).length:=by rw[List.length_zip];omega
 unfold Jp;rw[aZ h,zdI,List.getElem_zip,aG,aG,aK ha,aK hb];rfl
def J9(a b:List Int)(k:Nat)(h:min a.length b.length<=k):Jp a b k=TF a b:=by unfold Jp TF;rw[bg (by rw[List.length_zip];omega)]
def zvf(pa pb:Option Addr)(ca cb na nb:Nat)(a b:List Int)(w:ax)(A:vM w (.slice pa na ca) a)(B:vM w (.slice pb nb cb) b)(hna:na=a.length)(GG:nb=b.length)(ha:na<=1000000)(hb:nb<=1000000)(hc:nb<na):
  ae 200 #[.slice pa na ca,.slice pb nb cb] w λe w'=>e= .returned (.int .i64 (TF a b))∧∃q,w'=w.drewN q:=by
 have Hna:=ag hna;have QR:=ag GG;have tN:=J9 a b nb (by omega);have xM:=ag tN;clear hna GG tN;go_enter func200,ntmps200;go_wp2_with fail
 go_loopw [5,12] (λn i wr=>∃k:Nat,k<=nb∧i= .int .i64 k∧n= .int .i64 (Jp a b k)∧∃q,wr=w.drewN q) (λ_ i _=>nb-(intOf i).toNat)
 case atStart=>exact⟨0,by omega,rfl,rfl,0,rfl⟩
 case round=>
  obtain⟨k,hk,rfl,rfl,q,rfl⟩:=hrel;by_cases rE:k<nb
  ·have j1:(k:Int)<nb:=by omega
   have k1:(k:Int)<na:=by omega
   have k2:(k:Int)<nb:=by omega
   obtain⟨bA,oA,rfl,_,hbA,Xh⟩:=A.at (by have:=Hna.o;omega);obtain⟨bB,oB,rfl,_,hbB,hcB⟩:=B.at (by have:=QR.o;omega);have cA:=Xh k (by have:=Hna.o;omega);have cB:=hcB k (by have:=QR.o;omega);have yx:=La a b k (by have:=Hna.o;omega) (by have:=QR.o;omega);obtain⟨x,hx⟩:=aj (a.getD k 0);obtain⟨y,hy⟩:=aj (b.getD k 0);obtain⟨f,hf⟩:=aj (Jp a b k);rw[<-hx]at cA yx;rw[<-hy]at cB yx;rw[<-hf]at yx⊢;unfold I8 at yx;have Jm:=ag yx;clear Xh hcB yx hx hy hf;go_wp2_with fail
   go_quiet (fail)
   go_wp2_with fail;exact⟨⟨k+1,by omega,by go_num,by rw[Jm.o],_,rfl⟩,by simp[intOf];omega⟩
  obtain rfl:k=nb:=by omega
  go_wp2_with fail;go_ret;exact⟨by rw[xM.o];rfl,_,rfl⟩
def zvh(pa pb:Option Addr)(ca cb na nb:Nat)(a b:List Int)(w:ax)(A:vM w (.slice pa na ca) a)(B:vM w (.slice pb nb cb) b)(hna:na=a.length)(GG:nb=b.length)(ha:na<=1000000)(hb:nb<=1000000)(hc:¬nb<na):
  ae 200 #[.slice pa na ca,.slice pb nb cb] w λe w'=>e= .returned (.int .i64 (TF a b))∧∃q,w'=w.drewN q:=by
 have Hna:=ag hna;have QR:=ag GG;have tN:=J9 a b na (by omega);have xM:=ag tN;clear hna GG tN;go_enter func200,ntmps200;go_wp2_with fail
 go_loopw [5,12] (λn i wr=>∃k:Nat,k<=na∧i= .int .i64 k∧n= .int .i64 (Jp a b k)∧∃q,wr=w.drewN q) (λ_ i _=>na-(intOf i).toNat)
 case atStart=>exact⟨0,by omega,rfl,rfl,0,rfl⟩
 case round=>
  obtain⟨k,hk,rfl,rfl,q,rfl⟩:=hrel;by_cases rE:k<na
  ·have j1:(k:Int)<na:=by omega
   have k1:(k:Int)<na:=by omega
   have k2:(k:Int)<nb:=by omega
   obtain⟨bA,oA,rfl,_,hbA,Xh⟩:=A.at (by have:=Hna.o;omega);obtain⟨bB,oB,rfl,_,hbB,hcB⟩:=B.at (by have:=QR.o;omega);have cA:=Xh k (by have:=Hna.o;omega);have cB:=hcB k (by have:=QR.o;omega);have yx:=La a b k (by have:=Hna.o;omega) (by have:=QR.o;omega);obtain⟨x,hx⟩:=aj (a.getD k 0);obtain⟨y,hy⟩:=aj (b.getD k 0);obtain⟨f,hf⟩:=aj (Jp a b k);rw[<-hx]at cA yx;rw[<-hy]at cB yx;rw[<-hf]at yx⊢;unfold I8 at yx;have Jm:=ag yx;clear Xh hcB yx hx hy hf;go_wp2_with fail
   go_quiet (fail)
   go_wp2_with fail;exact⟨⟨k+1,by omega,by go_num,by rw[Jm.o],_,rfl⟩,by simp[intOf];omega⟩
  obtain rfl:k=na:=by omega
  go_wp2_with fail;go_ret;exact⟨by rw[xM.o];rfl,_,rfl⟩
def zrT(va vb:ay)(a b:List Int)(w:ax)(A:vM w va a)(B:vM w vb b)(ha:a.length<=1000000)(hb:b.length<=1000000):
  ae 200 #[va,vb] w λe w'=>e= .returned (.int .i64 (TF a b))∧∃q,w'=w.drewN q:=by
 obtain⟨pa,ca,rfl⟩:=A.len;obtain⟨pb,cb,rfl⟩:=B.len;by_cases hc:b.length<a.length
 ·exact zvf pa pb ca cb _ _ a b w A B rfl rfl ha hb hc
 ·exact zvh pa pb ca cb _ _ a b w A B rfl rfl ha hb hc
def zfj(g:FuncId)(p:Int->Bool)(hp:∀s w,ae g #[.int .i64 s] w λe w'=>e= .returned (.bool (p s))∧w'=w)(eg:∀args w,(callFunc g args).run prog w= .ok (.enter g args) w)(v:ay)(l:List Int)(w:ax)(S:vM w v l)(hl:l.length<=1000000):
  ae 165 #[v,.func (.func g) #[] #[]] w λe w'=>(∃i:Int,e= .returned (.int .i64 i)∧decide (0<=i)=l.any p)∧w'=w:=by
 obtain⟨a,c,rfl⟩:=S.len;obtain⟨n,hn⟩:=aj l.length;rw[<-hn]at S hl;rw[<-hn];have Hn:=ag hn;clear hn;go_enter func165,ntmps165;go_wp2_with fail
 go_loop [8] (λi=>∃k:Nat,k<=n∧i= .int .i64 k∧(l.take k).any p=false) (λi=>n-(intOf i).toNat)
 case atStart=>exact⟨0,by omega,rfl,rfl⟩
 case round=>
  obtain⟨k,hk,rfl,OJ⟩:=hrel;by_cases rE:k<n
  ·have j1:decide (k<n)=true:=by simp;omega
   obtain⟨b,off,rfl,CV,hb,uw⟩:=S.at (by have:=Hn.o;omega);have QN:=uw k (by have:=Hn.o;omega);obtain⟨s,hs⟩:=aj (l.getD k 0);rw[<-hs]at QN;have Tu:(l.take (k+1)).any p=p s:=by rw[aZ (by have:=Hn.o;omega),List.any_append,OJ,hs,aG,aK (by have:=Hn.o;omega)];simp
   have Hks:=ag Tu;have zup:=ag OJ;have hj:(k:Int)<n:=by omega
   clear uw hs Tu OJ CV;go_wp2_with fail;refine(hp s w).m ?_;rintro e w' ⟨rfl,hw⟩;subst w';cases hps:p s with
   | true=>
    rw[hps]at Hks;clear hps;go_wp2_with fail;go_ret;refine⟨⟨(k:Int),rfl,?_⟩,rfl⟩;have h1:=Hks.o;rw[jm]at h1;obtain⟨y,hy,hpy⟩:=h1;have h2:l.any p=true:=jm.2 ⟨y,iq hy,hpy⟩;rw[h2];simp
   | false=>
    rw[hps]at Hks;clear hps;go_wp2_with fail;exact⟨⟨k+1,by omega,by go_num,Hks.o⟩,by simp[intOf];omega⟩
  obtain rfl:k=n:=by omega
  have vz:l.any p=false:=by rw[<-OJ,bg (by rw[<-Hn.o];exact aS _)]
  have j1:decide (k<k)=false:=by simp
  have zeh:=ag vz;clear vz OJ;go_wp2_with fail;go_ret;exact⟨⟨-1,rfl,by rw[zeh.o];rfl⟩,rfl⟩
def Ol(g:FuncId)(p:Int->Bool)(hp:∀s w,ae g #[.int .i64 s] w λe w'=>e= .returned (.bool (p s))∧w'=w)(eg:∀args w,(callFunc g args).run prog w= .ok (.enter g args) w)(v:ay)(l:List Int)(w:ax)(S:vM w v l)(hl:l.length<=1000000):
  ae 101 #[v,.func (.func g) #[] #[]] w λe w'=>e= .returned (.bool (l.any p))∧w'=w:=by
 have hi:=zfj g p hp eg v l w S hl;go_enter func101,ntmps101;go_wp2_with fail;refine hi.m ?_;rintro e w' ⟨⟨i,rfl,hii⟩,hw⟩;subst w';have Hii:=ag hii;clear hii hi;go_wp2_with fail;go_ret;refine⟨dB (λb=>Ending.returned (.bool b)) ?_,rfl⟩;rw[<-Hii.o]
def CY(n:Int):Bool:=decide (n< -1000)||decide (1000<n)
def zpY(n:Int)(w:ax):ae 197 #[.int .i64 n] w λe w'=>e= .returned (.bool (CY n))∧w'=w:=by
 by_cases h:n< -1000
 ·have hb:CY n=true:=by simp[CY,h]
  rw[hb];go_enter func197,ntmps197;go_wp2_with fail;go_ret;exact⟨rfl,rfl⟩
 have hb:CY n=decide (1000<n):=by simp[CY,h]
 rw[hb];have hd:decide (n< -1000)=false:=by simpa using h
 clear h hb;go_enter func197,ntmps197;go_wp2_with fail;go_ret;exact⟨rfl,rfl⟩
def EI(qE:Int)(l:List Int)(k:Int):Bool:=decide ((l.length:Int)=qE)&& !l.any CY&&decide (1<=k)&&decide (k<=60)
def zeH(qE:Int)(v:ay)(l:List Int)(k:Int)(w:ax)(S:vM w v l)(hl:l.length<=1000000):
  ae 126 #[.int .i64 qE,v,.int .i64 k] w λe w'=>e= .returned (.bool (EI qE l k))∧w'=w:=by
 have hc:=Ol 197 CY zpY (enters_of func197 (by kernel_rfl) rfl) v l w S hl;obtain⟨a,c,rfl⟩:=S.len;by_cases hd:(l.length:Int)=qE
 ·cases hb:l.any CY with
  | true=>
   have hr:EI qE l k=false:=by simp[EI,hb]
   rw[hr];rw[hb]at hc;have Hd:=ag hd;have FK:((l.length:Int)==qE)=true:=by simpa using hd
   clear hd hb hr;go_enter func126,ntmps126;go_wp2_with fail;refine hc.m ?_;rintro e w' ⟨rfl,hw⟩;subst w';go_wp2_with fail;go_ret;exact⟨rfl,rfl⟩
  | false=>
   have hr:EI qE l k=(decide (1<=k)&&decide (k<=60)):=by simp[EI,hb,hd]
   rw[hr];rw[hb]at hc;have FK:((l.length:Int)==qE)=true:=by simpa using hd
   by_cases h1:1<=k
   all_goals
    clear hd hb hr;go_enter func126,ntmps126;go_wp2_with fail;refine hc.m ?_;rintro e w' ⟨rfl,hw⟩;subst w';go_wp2_with fail;go_ret;exact⟨by first|(simp[h1];done)|(simp[h1];omega),rfl⟩
 ·have hr:EI qE l k=false:=by simp[EI,hd]
  rw[hr];have FK:((l.length:Int)==qE)=false:=by simpa using hd
  clear hd hr hc;go_enter func126,ntmps126;go_wp2_with fail;go_ret;exact⟨rfl,rfl⟩
section
open Go.Sort Go.Shelf
open Go.Proofs (sortWorldK)
section
variable {α:Type}{enc:α->List ay}{k:Nat}
def Es(hk:∀x,(enc x).length=k):∀(l:List α) (i j:Nat),j<k->(l.flatMap enc)[i*k+j]? =(l[i]?).bind λx=>(enc x)[j]?
 | [],i,j,_=>by simp
 | x::l,0,j,hj=>by rw[dZ,oz,eH,dL (by rw[hk];exact hj)];rfl
 | x::l,i+1,j,hj=>by rw[dZ,bT (by rw[hk,Nat.add_mul,Nat.one_mul];omega),hk,show(i+1)*k+j-k=i*k+j by rw[Nat.add_mul,Nat.one_mul];omega,Es hk l i j hj];rfl
def J8(hk:∀x,(enc x).length=k):∀l:List α,(l.flatMap enc).length=l.length*k
 | []=>by simp
 | x::l=>by rw[dZ,aN,hk,J8 hk l,bf,Nat.add_mul,Nat.one_mul];omega
def uT(w:ax)(v:ay)(k:Nat)(enc:α->List ay)(l:List α):Prop:=
 (l= []∧∃p c,v= .slice p 0 c)∨∃b off c,v= .slice (some ⟨b,off,none⟩) l.length c∧b<w.heap.size∧∀i x,l[i]? =some x->w.rangeAt b (off+i*k) (enc x)
variable {w w':ax}{v:ay}{l:List α}
def uT.len(h:uT w v k enc l):∃p c,v= .slice p l.length c:=by
 rcases h with⟨rfl,p,c,hv⟩|⟨B,off,c,hv,_⟩
 ·exact⟨p,c,hv⟩
 exact⟨_,c,hv⟩
def uT.at(h:uT w (.slice p n c) k enc l)(hl:0<l.length):∃b off,p=some ⟨b,off,none⟩∧n=l.length∧b<w.heap.size∧∀i x,l[i]? =some x->w.rangeAt b (off+i*k) (enc x):=by
 rcases h with⟨rfl,_⟩|⟨B,off,c,hv,hB,hc⟩
 ·simp at hl
 cases hv
 exact⟨B,off,rfl,rfl,hB,hc⟩
def uT.qm(h:uT w v k enc l){S:Nat->Prop}(hk:Keep S w w')(hn:∀b,v.ownBlock=some b->¬S b):uT w' v k enc l:=by
 rcases h with h|⟨B,off,c,hv,hB,hc⟩
 ·exact .inl h
 refine .inr ⟨B,off,c,hv,dH hB hk.size,λi x hi j u hu=> ?_⟩;rw[hk.cell (p:=⟨B,off+i*k+j,none⟩) hB (hn B (by rw[hv];rfl))];exact hc i x hi j u hu
def uT.take(h:uT w (.slice p n c) k enc l)(m:Nat)(hm:m<=l.length)(c':Nat):uT w (.slice p m c') k enc (l.take m):=by
 rcases h with⟨rfl,_⟩|⟨B,off,c,hv,hB,hc⟩
 ·obtain rfl:m=0:=by simpa using hm
  exact .inl ⟨by simp,_,_,rfl⟩
 cases hv
 refine .inr ⟨B,off,c',by rw[dJ];congr;omega,hB,λi x hi=>hc i x ?_⟩;rw[gJ]at hi;split at hi
 ·exact hi
 cases hi
def uT.lit{E:aB}(hk:∀x,(enc x).length=k)(l:List α):uT (w.alloc (.cells (l.flatMap enc).toArray E)) (.slice (some ⟨w.heap.size,0,none⟩) l.length l.length) k enc l:=by
 refine .inr ⟨w.heap.size,0,l.length,rfl,by simp,λi x hi j u hu=> ?_⟩;have hj:j<k:=by have:=(aT.1 hu).1;rwa [hk]at this
 rw[aO _ _ _ _ E (0,0) (aQ w _),aF,eH,Es hk l i j hj,hi];exact hu
def uT.yw(hk:∀x,(enc x).length=k)(h:qF w base e k v l.length (l.flatMap enc)):uT w v k enc l:=by
 obtain⟨hlen,h⟩:=h;rcases h with⟨rfl,hn⟩|⟨g,cap,cur,fz,rfl,hb,hg,Ce,hn,hm,hs,ht⟩
 ·exact .inl ⟨dV hn,_,_,rfl⟩
 refine .inr ⟨g,0,cap,rfl,lt_of_heap hg,λi x hi j u hu=> ?_⟩;have hj:j<k:=by have:=(aT.1 hu).1;rwa [hk]at this
 have hil:i<l.length:=(aT.1 hi).1;have zC:i*k+j<l.length*k:=by
  have:(i+1)*k<=l.length*k:=jO k hil
  rw[Nat.add_mul,Nat.one_mul]at this;omega
 rw[eH,aO w g _ cur e fz hg];have h1:(cur.toList.take (l.length*k))[i*k+j]? =some u:=by rw[ht,Es hk l i j hj,hi];exact hu
 rw[gJ,bu zC]at h1
 simpa using h1
def HoldsK.yw [Inhabited α](hk:∀x,(enc x).length=k)(h:qF w base e k (.slice (some ⟨g,0,none⟩) l.length cap) l.length (l.flatMap enc)):HoldsK enc k w g 0 l.toArray:=by
 obtain⟨hlen,h⟩:=h;rcases h with⟨h,_⟩|⟨g',TG,cur,fz,hv,hb,hg,Ce,hn,hm,hs,ht⟩
 ·cases h
 cases hv
 intro t htt;rw[size_flatK]at htt;have znc:t<l.length*k:=by simpa using htt
 have Vh:0<k:=by rcases lq k with h|h;(subst h;simp at znc);exact h
 have hi:t/k<l.length:=Nat.div_lt_of_lt_mul (by rwa [jA]at znc);have hj:t % k<k:=jh _ Vh;have zb4:t/k*k+t % k=t:=by rw[jA];exact Nat.div_add_mod t k
 rw[eH];constructor
 ·rw[aO w g _ cur e fz hg,get_flatK _ _ _ _ (by simpa using znc)];have h1:(cur.toList.take (l.length*k))[t]? =(l.flatMap enc)[t]? :=by rw[ht]
  rw[gJ,bu znc]at h1;have h2:=Es hk l (t/k) (t % k) hj;rw[zb4,aK hi]at h2;simp only[lD]at h1;rw[h1,h2];have h3:(l.toArray)[t/k]! =l[t/k]:=by simp[hi]
  rw[h3];show(enc l[t/k])[t % k]? =some (id (enc l[t/k])[t % k]!);rw[aK (by rw[hk];exact hj)];simp[hk,hj]
 have hc:=Ce t (by rw[hs];exact dH znc (jO k hn));obtain⟨lo,hi'⟩:=fz
 simpa [World.frozen?,hg]using hc
def zhv [Inhabited α]{d d':Array α}(hk:∀x,(enc x).length=k)(hH:HoldsK enc k w g 0 d)(hg:g<w.heap.size)(hs:d'.size=d.size):
  uT (sortWorldK enc k w g 0 n d' os) (.slice (some ⟨g,0,none⟩) d'.toList.length cap) k enc d'.toList∧Keep (qJ g) w (sortWorldK enc k w g 0 n d' os):=by
 have h1:HoldsK enc k (putRowK enc k (Sort.ahead w n) g 0 d') g 0 d':=holdsK_putRowK _ _ _ _ _ d d' (holdsK_ahead _ _ _ _ _ _ _ hH) hs;have uF:(putRowK enc k (Sort.ahead w n) g 0 d').heap.size=w.heap.size:=size_putRow _ _ _ _ _;have h2:HoldsK enc k (sortWorldK enc k w g 0 n d' os) g 0 d':=holdsK_grow _ _ _ _ _ _ _ (by rw[uF];exact hg) h1;refine⟨.inr ⟨g,0,cap,rfl,?_,λi x hi j u hu=> ?_⟩,⟨rfl,rfl,rfl,?_,λb hb hn=> ?_⟩⟩
 ·show g<(Sort.grow (putRowK enc k (Sort.ahead w n) g 0 d') os).heap.size;rw[size_grow,uF];omega
 ·have hj:j<k:=by have:=(aT.1 hu).1;rwa [hk]at this
  have hi':i<d'.size:=by have:=(aT.1 hi).1;simpa using this
  have hc:=h2.cell hi' hj;have e:d'[i]! =x:=by
   have:=(aT.1 hi).2;rw[oM d' i hi']
   simpa using this
  rw[e]at hc;have e2:(enc x)[j]! =u:=by rw[List.getElem!_eq_getElem?_getD,hu];rfl
  rw[e2]at hc;exact hc.1
 ·show w.heap.size<=(Sort.grow (putRowK enc k (Sort.ahead w n) g 0 d') os).heap.size;rw[size_grow,uF];omega
 ·show(Sort.grow (putRowK enc k (Sort.ahead w n) g 0 d') os).heap[b]? =w.heap[b]?;rw[heap_grow_old _ _ (by rw[uF];exact hb)];show(w.heap.modify g _)[b]? =_;rw[iU];rw[aV (λe=>hn e.s)]
end
end
structure TZ where
 zti:Int
 num:Int
 name:af
 tag:af
 av:ay
 ns:List Int
instance:Inhabited TZ:=⟨⟨0,0,⟨#[]⟩,⟨#[]⟩,.slice none 0 0,[]⟩⟩
def Ux(x:TZ):List ay:= [.int .i64 x.zti,.int .i64 x.num,.string x.name,.string x.tag,x.av]
structure zoI(w:ax)(v:ay)(l:List TZ):Prop where
 rows:uT w v 5 Ux l
 yK:∀x∈l,vM w x.av x.ns
section
open Go.Sort Go.Shelf
open Go.Proofs (ltOf)
structure qP where
 name:af
 tag:af
 av:ay
 ns:List Int
instance:Inhabited qP:=⟨⟨⟨#[]⟩,⟨#[]⟩,.slice none 0 0,[]⟩⟩
def rC(x:qP):List ay:= [.string x.name,.string x.tag,x.av]
structure zT(w:ax)(v:ay)(l:List qP):Prop where
 rows:uT w v 3 rC l
 yK:∀x∈l,vM w x.av x.ns
def ztg(v:ay):Prop:=∀p n c,v= .slice p n c->n<=c
def Vo(tag:af)(x:qP):Bool:=decide (tag=⟨#[]⟩)||decide (x.tag=tag)
def ZW(at_:List Int)(x:qP):sJ:=(x.name,TF x.ns at_)
def uo(l:List qP)(at_:List Int)(tag:af):List sJ:=(l.filter (Vo tag)).map (ZW at_)
def vC(l:List sJ):List sJ:=l.mergeSort λx y=> !(ltOf Bz) y x
def xg(l:List qP)(at_:List Int)(k:Int)(tag:af):List sJ:=(vC (uo l at_ tag)).take k.toNat
end
section
open Go.Sort Go.Shelf
def xm(x:sJ):(xw x).length=2:=rfl
def Kq(x:sJ):∀v∈xw x,v.oneCell'=true:=by intro v hv;simp only[xw,dO,iT,lN]at hv;rcases hv with rfl|rfl<;>rfl
def zdE(l:List sJ):∀v∈l.flatMap xw,v.oneCell'=true:=by intro v hv;obtain⟨x,_,hx⟩:=mf.1 hv;exact Kq x v hx
def zcv(g cap:Nat)(l:List sJ)(base:Nat)(w:ax)(h:qF w base 146 2 (.slice (some ⟨g,0,none⟩) l.length cap) l.length (l.flatMap xw))(hl:l.length<=1000000):
  ae 132 #[.slice (some ⟨g,0,none⟩) l.length cap,.func (.func 133) #[] #[]] w λe w'=>e= .returned (.tuple #[])∧uT w' (.slice (some ⟨g,0,none⟩) l.length cap) 2 xw (vC l)∧Keep (qJ g) w w':=by
 have hH:=HoldsK.yw xm h;have hg:g<w.heap.size:=by
  obtain⟨_,h⟩:=h;rcases h with⟨h,_⟩|⟨g',TG,cur,fz,hv,hb,hg,_⟩
  ·cases h
  cases hv
  exact lt_of_heap hg
 have eg:∀args w,(callFunc 133 args).run prog w= .ok (.enter 133 args) w:=enters_of func133 (by kernel_rfl) rfl;have ztX:CmpLays prog 133 #[] xw 2 Bz g 0 l.toArray.size w:=λm os dk JP x y=>(Ym x y _).m λe w' h=>⟨h.1,h.2⟩
 have IJ:=AnyQ.slices_SortFunc_total sortFound 2 isAgg146 sizeOf146 xw xm Kq Bz Ph 133 #[] g 0 cap l.toArray w eg ztX hH hg (by simp;omega) Nh
 change ae 132 _ _ _ at IJ
 have hs:l.toArray.size=l.length:=by simp
 rw[hs]at IJ;refine IJ.m ?_;rintro e w' ⟨he,n,os,rfl⟩;have hd:((l.toArray.toList.mergeSort λx y=> !(ltOf Bz) y x).toArray).size=l.toArray.size:=by simp
 obtain⟨h1,h2⟩:=zhv (n:=n) (cap:=cap) (os:=os) xm hH hg hd;refine⟨he,?_,h2⟩;have e1:((l.toArray.toList.mergeSort λx y=> !(ltOf Bz) y x).toArray).toList=vC l:=by simp[vC]
 rw[e1]at h1;have e2:(vC l).length=l.length:=by simp[vC]
 rw[e2]at h1;have e3:(l.toArray.toList.mergeSort λx y=> !(ltOf Bz) y x).toArray=(vC l).toArray:=by simp[vC]
 exact h1
def QD:vC []= []:=by simp[vC]
def zhw(v:ay)(l:List sJ)(base:Nat)(w:ax)(h:qF w base 146 2 v l.length (l.flatMap xw))(hl:l.length<=1000000):
  ae 132 #[v,.func (.func 133) #[] #[]] w λe w'=>e= .returned (.tuple #[])∧uT w' v 2 xw (vC l)∧Keep (λb=>base<=b) w w':=by
 have h0:=h;obtain⟨hlen,h⟩:=h;rcases h with⟨rfl,hn⟩|⟨g,cap,cur,fz,rfl,hb,hg,_⟩
 ·have hn':l= []:=dV hn;subst hn';have IJ:=AnyF.slices_SortFunc_none { sortFound with } none 0 (.func (.func 133) #[] #[]) w
  change ae 132 _ _ _ at IJ
  refine IJ.m ?_;rintro e w' ⟨he,rfl⟩;exact⟨he,.inl ⟨QD,_,_,rfl⟩,ah _ _⟩
 ·refine(zcv g cap l base w h0 hl).m ?_;rintro e w' ⟨he,hr,hk⟩;exact⟨he,hr,hk.m λi _ hi=>by rw[show i=g from hi];exact hb⟩
def zj5:(prog.info? 146).map (λi=>(i.zero,i.size,i.bytes))=some (some (.agg #[.string ⟨#[]⟩,.int .i64 0]),2,24):=by kernel_rfl
def Td:∃i,prog.info? 146=some i∧i.zero=some (.agg #[.string ⟨#[]⟩,.int .i64 0])∧i.size=2∧i.bytes=24:=by
 have h:=zj5;cases hi:prog.info? 146 with
 | none=>rw[hi]at h;cases h
 | some i=>
  rw[hi]at h;simp only[gW,jD,jH]at h;exact⟨i,rfl,h.1,h.2.1,h.2.2⟩
def Yg(l:List qP)(at_:List Int)(tag:af)(j:Nat)(x:qP)(hx:l[j]? =some x):uo (l.take (j+1)) at_ tag=uo (l.take j) at_ tag++(if Vo tag x then [ZW at_ x]else []):=by
 have hj:=(aT.1 hx).1;have e:l.take (j+1)=l.take j++ [x]:=by rw[aZ hj,(aT.1 hx).2]
 rw[uo,e,nZ,dK]
 congr 1
 by_cases h:Vo tag x=true
 ·simp[h]
 simp[h]
def Nv(l:List qP)(at_:List Int)(tag:af):(uo l at_ tag).length<=l.length:=by rw[uo,aP];exact gQ _ _
def zrh(qE:Int)(v:ay)(l:List qP)(va:ay)(at_:List Int)(k:Int)(tag:af)(w:ax)(I:zT w v l)(N:vM w va at_)(hl:l.length<=1000)(ha:at_.length<=1000000)(zY:∀x∈l,x.ns.length<=1000000)(hn:EI qE at_ k=true):
  ae 131 #[.int .i64 qE,v,va,.int .i64 k,.string tag] w λe w'=>∃v',e= .returned (.tuple #[v',.nilIface])∧uT w' v' 2 xw (xg l at_ k tag)∧((∀b,v'.ownBlock=some b->w.heap.size<=b)∧ztg v')∧ak w w':=by
 have h:=zeH qE va at_ k w N ha;rw[hn]at h;obtain⟨p,c,rfl⟩:=I.rows.len;obtain⟨n,Dw⟩:=aj l.length;rw[<-Dw]at I hl;rw[<-Dw];have Hn:=ag Dw;have zxN:=ag hn;obtain⟨i0,zM,Ba,Vg,Vd⟩:=Td;clear Dw hn;go_enter func131,ntmps131;go_wp2_with fail;refine h.m ?_;rintro e w' ⟨rfl,hw⟩;subst w';clear h;go_wp2_with fail
 go_loopw [12,23] (λov i wr=>∃(j:Nat) (o:ay),j<=n∧i= .int .i64 j∧o=ov∧Hid (qF wr w.heap.size 146 2 o (uo (l.take j) at_ tag).length ((uo (l.take j) at_ tag).flatMap xw))∧ak w wr) (λ_ i _=>n-(intOf i).toNat)
 case atStart=>exact⟨0,_,by omega,rfl,rfl,ag (qF.nil _ _ _ _),ah _ _⟩
 case round=>
  obtain⟨j,o,hj,rfl,rfl,O,K⟩:=hrel;by_cases rE:j<n
  ·have j1:(j:Int)<n:=by omega
   have Ir:=I.rows.qm K (λ_ _ x=>x);obtain⟨b,off,rfl,-,hb,uw⟩:=Ir.at (by have:=Hn.o;omega);obtain⟨x,hx⟩:∃x,l[j]? =some x:=⟨_,aK (by have:=Hn.o;omega)⟩
   have ET:=uw j x hx;have Ls:x∈l:=bG hx;have Nx:=(I.yK x Ls).qm K (λ_ _ x=>x);have Na:=N.qm K (λ_ _ x=>x);have hxl:=zY x Ls;have hsu:=Yg l at_ tag j x hx;have Xm:=ag hsu;obtain⟨nm,tg,av,ns⟩:=x;simp only at Nx hxl;have c0:wr.cell? ⟨b,off+j*3,none⟩=some (.string nm):=ET 0 _ rfl;have c1:wr.cell? ⟨b,off+j*3+1,none⟩=some (.string tg):=ET 1 _ rfl;have c2:wr.cell? ⟨b,off+j*3+2,none⟩=some av:=ET 2 _ rfl;clear uw hsu hx Ls ET;obtain⟨pa,ca,rfl⟩:=Nx.len;have Jo:=λq=>zrT _ va ns at_ (((wr.alloc (.cells #[.string nm,.string tg,.slice pa ns.length ca] 45))).drewN q) (Nx.qm ((ah qw wr).alloc _|>.drewN q) (λ_ _ x=>x)) (Na.qm ((ah qw wr).alloc _|>.drewN q) (λ_ _ x=>x)) hxl ha;obtain⟨nl,CV⟩:=aj ns.length;obtain⟨fv,hfv⟩:=aj (ZW at_ ⟨nm,tg,.slice pa ns.length ca,ns⟩);have ztT:fv.2=TF ns at_:=by rw[hfv];rfl
   have zzW:fv.1=nm:=by rw[hfv];rfl
   rw[<-hfv]at Xm;rw[<-CV]at c2 Jo Xm;obtain⟨fn,fd⟩:=fv;simp only at zzW ztT;subst fn;rw[<-ztT]at Jo;have znA:=ag Jo;clear Jo CV hfv ztT Nx Na hxl;by_cases hT:Vo tag ⟨nm,tg,.slice pa nl ca,ns⟩=true
   ·rw[hT,bu rfl]at Xm;have zgb:tag.toList.isEmpty=true∨(tag.toList.isEmpty=false∧(@BEq.beq (List UInt8) (@List.instBEq UInt8 instBEqOfDecidableEq) tg.toList tag.toList)=true):=by
     cases he:tag.toList.isEmpty with
     | true=>exact .inl rfl
     | false=>
      refine .inr ⟨rfl,?_⟩;simp only[Vo,fA,aW]at hT;rcases hT with h|h
      ·rw[h,dI]at he;cases he
      rw[h];exact fF _
    clear hT;rcases zgb with ht1|⟨ht1,ht2⟩
    all_goals
     go_wp2_with fail;refine yG 8 [0,1,3,5] (by kernel_rfl) (by kernel_rfl) (λc a d v w h=>by cases d<;>exact h) ?_;rw[show H8 8 [0,1,3,5]= [2,4,6,7]from rfl];simp only[qC,aF,aH,aI,dA,dF]
     iterate 4 ((with_reducible refine xy (λK hK=> ?_));go_simp;refine hK _ ?_;clear hK K)
     with_reducible refine yf ?_
     iterate 4 ((with_reducible refine jK (λK hK=> ?_));go_simp;first|(refine hK _ ?_;clear hK K)|(apply Exists.intro;refine⟨λ_=> ?_,hK _ ?_⟩;(go_at_call 200;exact kY (znA.o _));clear hK K))
     refine dP ?_;intro m;have hW1:qF ((wr.alloc (.cells #[.string nm,.string tg,.slice pa nl ca] 45)).drewN m) w.heap.size 146 2 o _ _:=(O.o.alloc _).drewN m;have hK1:ak w ((wr.alloc (.cells #[.string nm,.string tg,.slice pa nl ca] 45)).drewN m):=(K.alloc _).drewN m;refine qQ (λw1=>qF w1 w.heap.size 146 2 o (uo (l.take j) at_ tag).length ((uo (l.take j) at_ tag).flatMap xw)∧ak w w1) ⟨hW1,hK1⟩ ?_;rintro w1 ⟨hO1,hK⟩;clear hW1 hK1;have hfl:=Nv (l.take j) at_ tag;rw[dJ]at hfl;go_wp2_with (at_builtin;refine tC _ rfl _ _ 73 rfl w.heap.size 146 i0 _ 2 24 mV zM Ba Vg Vd rfl (by decide) o _ _ rfl (hO1.alloc _) ⟨w1.heap.size,0,none⟩ 1 1 [.string nm,.int .i64 fd] rfl rfl (rJ _ _ _) (Kq (nm,fd)) (by unfold maxLen;omega) (by omega) (by have:=hK.size;simp;omega) ?_;intro v' w' II xh);have hK5:ak w w':=((hK.alloc (.cells #[.string nm,.int .i64 fd] 146)).grown xh (λk hk=> .inr (hO1.lt k hk).1))
     refine⟨⟨j+1,_,by omega,by go_num,rfl,ag ?_,hK5⟩,by simp[intOf];omega⟩;rw[Xm.o,aN,dU];exact II
   have hT':Vo tag ⟨nm,tg,.slice pa nl ca,ns⟩=false:=by simpa using hT
   rw[aV hT,dS]at Xm;have ht1:tag.toList.isEmpty=false:=by
    cases he:tag.toList.isEmpty with
    | false=>rfl
    | true=>
     exfalso;refine hT ?_
     have:tag=⟨#[]⟩:=toList_inj (by rw[List.isEmpty_iff.1 he,dI])
     simp[Vo,this]
   have ht2:(@BEq.beq (List UInt8) (@List.instBEq UInt8 instBEqOfDecidableEq) tg.toList tag.toList)=false:=by rw[eu];intro h;refine hT ?_;simp[Vo,toList_inj h]
   clear hT hT';go_wp2_with fail;refine⟨⟨j+1,_,by omega,by go_num,rfl,ag ?_,K.alloc _⟩,by simp[intOf];omega⟩;rw[Xm.o];exact O.o.alloc _
  obtain rfl:j=n:=by omega
  have hO:=O.o;have hN:List.take j l=l:=bg (by rw[<-Hn.o];exact aS _);rw[hN]at hO;obtain⟨F,hF⟩:=aj (uo l at_ tag);have hFl:F.length<=1000:=by have:=Nv l at_ tag;rw[hF];have:=Hn.o;omega
  have zle:xg l at_ k tag=(vC F).take k.toNat:=by rw[xg,hF]
  have zAA:=ag zle;rw[<-hF]at hO;have hk1:1<=k∧k<=60:=by have:=zxN.o;simp only[EI,bI,aW]at this;exact⟨this.1.2,this.2⟩
  obtain⟨po,co,rfl⟩:∃p c,o= .slice p F.length c:=(uT.yw xm hO).len;have hso:=zhw _ F w.heap.size wr hO (by omega);obtain⟨m,hm⟩:=aj F.length;have Zm:(vC F).length=m:=by rw[hm];simp[vC]
  rw[<-hm]at hso hFl hO;rw[<-hm];have Ci:m<=co:=by
   obtain⟨_,h⟩:=hO;rcases h with⟨h,hn⟩|⟨g',TG,cur,fz,hv,_,_,_,hc,_⟩
   ·cases h;omega
   cases hv;exact hc
  have hob:∀b,(Value.slice po m co).ownBlock=some b->w.heap.size<=b:=λb hb=>(hO.lt b hb).1;have Hso:=ag hso;have Hsl:=ag Zm;clear hso Zm hm zle hF hO hN O zxN;have he:xg l at_ k tag=(vC F).take (min k (m:Int)).toNat:=by
   rw[zAA.o];by_cases EU:(m:Int)<k
   ·rw[bg (by rw[Hsl.o];omega),bg (by rw[Hsl.o];omega)]
   rw[show(min k (m:Int)).toNat=k.toNat by omega]
  have He:=ag he;clear he;go_wp2_with fail;refine Hso.o.m ?_;rintro e w' ⟨rfl,hr,hK⟩;go_wp2_with fail
  go_ret2
  refine⟨.slice po (min k (m:Int)).toNat co,rfl,?_,⟨λb hb=>hob b (by cases po<;>exact hb),λp n c h=>by cases h;omega⟩,K.t hK (λi hi hs=>absurd hi (oU.2 hs))⟩;rw[He.o];exact hr.take _ (by rw[Hsl.o];omega) co
end
section
open Go.Sort Go.Shelf
open Go.Proofs (ltOf)
def Wl(a b c:sJ)(h1:(!(ltOf Bz) b a)=true)(h2:(!(ltOf Bz) c b)=true):(!(ltOf Bz) c a)=true:=by rw[eU]at h1 h2⊢;exact Ph.ntrans c b a h2 h1
def Wn(a b:sJ):((!(ltOf Bz) b a)||(!(ltOf Bz) a b))=true:=by
 cases h:ltOf Bz b a with
 | false=>rfl
 | true=>
  have:ltOf Bz a b=false:=by
   cases h2:ltOf Bz a b with
   | false=>rfl
   | true=>
    have:=Ph.trans a b a h2 h;rw[Ph.irrefl]at this;cases this
  rw[this];rfl
def AL(l:List sJ):(vC l).Perm l:=jC _ _
def SA(l:List sJ):List.Pairwise (λa b=>(!(ltOf Bz) b a)=true) (vC l):=oq Wl Wn l
def Io{l':List sJ}(h:l.Perm l'):vC l=vC l':=by refine nP ?_ (SA l) (SA l') (((AL l).t h).t (AL l').s);intro a b _ _ h1 h2;rw[eU]at h1 h2;exact Nh a b h2 h1
def zcw(h:List.Pairwise (λa b=>(!(ltOf Bz) b a)=true) l):vC l=l:=List.mergeSort_of_pairwise h
def VT(l:List sJ):(vC l).length=l.length:=(AL l).length_eq
def zmC{x:sJ} :x∈vC l↔x∈l:=(AL l).mem_iff
def zie{l l':List qP}(h:l.Perm l')(at_:List Int)(tag:af):(uo l at_ tag).Perm (uo l' at_ tag):=(h.filter _).map _
def zc9{l l':List qP}(h:l.Perm l')(at_:List Int)(k:Int)(tag:af):xg l at_ k tag=xg l' at_ k tag:=by rw[xg,xg,Io (zie h at_ tag)]
end
section
open Go.Sort Go.Shelf
open Go.Proofs (sortWorldK)
section
variable {α:Type}{enc:α->List ay}{k:Nat}{w:ax}
def SV [Inhabited α]{m:Nat}{d':Array α}(hk:∀x,(enc x).length=k)(h:qF w base e k (.slice (some ⟨g,0,none⟩) n cap) n xs)(hs:d'.size=n):
  qF (sortWorldK enc k w g 0 m d' os) base e k (.slice (some ⟨g,0,none⟩) n cap) n (d'.toList.flatMap enc):=by
 obtain⟨hlen,h⟩:=h;refine⟨by rw[J8 hk];simp[hs],?_⟩;rcases h with⟨h,_⟩|⟨g',TG,cur,fz,hv,hb,hg,Ce,hn,hm,uF,ht⟩
 ·cases h
 ·cases hv
  have hgl:=lt_of_heap hg;refine .inr ⟨g,cap,putCells id 0 (flatK enc k d') cur,fz,rfl,hb,?_,?_,hn,hm,?_,?_⟩
  ·show(Sort.grow (putRowK enc k (Sort.ahead w m) g 0 d') os).heap[g]? =_;rw[heap_grow_old _ _ (by show g<(w.heap.modify g _).size;rw[Array.size_modify];exact hgl)];show(w.heap.modify g (onCells _))[g]? =_;rw[iU,bu rfl,hg];rfl
  ·intro i hi;exact Ce i (by simpa [putCells]using hi)
  ·simpa [putCells]using uF
  apply List.ext_getElem?;intro t;have zu:n*k<=cur.size:=by rw[uF];exact jO k hn
  by_cases htt:t<n*k
  ·have Vh:0<k:=by rcases lq k with h|h;(subst h;simp at htt);exact h
   have hi:t/k<d'.size:=by rw[hs];exact Nat.div_lt_of_lt_mul (by rwa [jA]at htt)
   have hj:t % k<k:=jh _ Vh;have zb4:t/k*k+t % k=t:=by rw[jA];exact Nat.div_add_mod t k
   have h2:=Es hk d'.toList (t/k) (t % k) hj;rw[zb4]at h2;rw[gJ,bu htt,h2,lD,putCells,Array.getElem?_mapIdx,dQ (by omega),gW,bu ⟨fP _,by rw[size_flatK,hs];omega⟩,Nat.sub_zero,get_flatK enc k d' t (by rw[hs];exact htt),lD,dQ hi,Option.bind_some];have h3:d'[t/k]! =d'[t/k]:=by rw[oM d' _ hi]
   rw[h3,aK (by rw[hk];exact hj)];show some ((enc d'[t/k])[t % k]!)=_;rw[List.getElem!_eq_getElem?_getD,aK (by rw[hk];exact hj)];rfl
  rw[gJ,aV htt,jF (by rw[J8 hk];simp[hs];omega)]
def PK [Inhabited α]{m:Nat}{d':Array α}(hg:g<w.heap.size):Keep (qJ g) w (sortWorldK enc k w g 0 m d' os):=by
 have uF:(putRowK enc k (Sort.ahead w m) g 0 d').heap.size=w.heap.size:=size_putRow _ _ _ _ _;refine⟨rfl,rfl,rfl,?_,λb hb hn=> ?_⟩
 ·show w.heap.size<=(Sort.grow (putRowK enc k (Sort.ahead w m) g 0 d') os).heap.size;rw[size_grow,uF];omega
 show(Sort.grow (putRowK enc k (Sort.ahead w m) g 0 d') os).heap[b]? =w.heap[b]?;rw[heap_grow_old _ _ (by rw[uF];exact hb)];show(w.heap.modify g _)[b]? =_;rw[iU];rw[aV (λe=>hn e.s)]
def qF.take(h:qF w base e k (.slice (Option.some ⟨g,0,none⟩) n cap) n xs)(m:Nat)(hm:m<=n):qF w base e k (.slice (Option.some ⟨g,0,none⟩) m cap) m (xs.take (m*k)):=by
 obtain⟨hlen,h⟩:=h;refine⟨by rw[dJ,hlen];exact kM (jO k hm),?_⟩;rcases h with⟨h,_⟩|⟨g',TG,cur,fz,hv,hb,hg,Ce,hn,hmx,uF,ht⟩
 ·cases h
 cases hv
 refine .inr ⟨g,cap,cur,fz,rfl,hb,hg,Ce,bQ hm hn,hmx,uF,?_⟩;rw[<-ht,List.take_take,kM (jO k hm)]
def WA(hk:∀x,(enc x).length=k):∀(l:List α) (m:Nat),(l.flatMap enc).take (m*k)=(l.take m).flatMap enc
 | [],m=>by simp
 | x::l,0=>by simp
 | x::l,m+1=>by rw[dZ,dE,dZ,Nat.succ_mul,oG,<-hk x,List.take_length_add_append,hk x,WA hk l m]
def YL{t:aB}{i:TypeInfo}(ht:P.underlying t=some (.slice e))(hi:P.info? e=some i)(p:Option Addr)(c:Nat):
  (Builtin.append_ #[t,t] ty #[.slice none 0 0,.slice p 0 c]).run P w= .ok (.slice none 0 0) w:=by
 cases p with
 | none=>simp[Builtin.append_,fU ht,sizeOf,typeInfo,hi,Builtin.lenOf,oH,storeCells,Builtin.firstCells]
 | some q=>
  have hld:(loadCells q 0).run P w= .ok #[] w:=by simp[loadCells,loadCellsFrom]
  simp[Builtin.append_,fU ht,sizeOf,typeInfo,hi,Builtin.lenOf,oH,Builtin.firstCells,hld,storeCells]
def WW{t:aB}{i:TypeInfo}(ht:P.underlying t=some (.slice e))(hi:P.info? e=some i)(g n cap:Nat)(hn:n<=cap)(p:Option Addr)(c:Nat):
  (Builtin.append_ #[t,t] ty #[.slice (some ⟨g,0,none⟩) n cap,.slice p 0 c]).run P w= .ok (.slice (some ⟨g,0,none⟩) n cap) w:=by
 cases p with
 | none=>simp[Builtin.append_,fU ht,sizeOf,typeInfo,hi,Builtin.lenOf,hn,oH,storeCells,Builtin.firstCells]
 | some q=>
  have hld:(loadCells q 0).run P w= .ok #[] w:=by simp[loadCells,loadCellsFrom]
  simp[Builtin.append_,fU ht,sizeOf,typeInfo,hi,Builtin.lenOf,hn,oH,Builtin.firstCells,hld,storeCells]
def Tm{ops:Array Oper}{rest:List Oper}{o:Oper}{a:Act}{Q:Exit->Act->ax->Prop}(hgd:o.guard=none)(s x:Operand)(t:aB)
  (ho:o.op= .call { callee:= .builtin .append,args:= #[s,x],argTypes:= #[t,t] })
  (base:Nat) (e:aB) (i:TypeInfo) (z:ay) (bytes:Nat) (ht:P.underlying t=some (.slice e)) (hi:P.info? e=some i) (hz:i.zero=some z)
  (NY:i.size=k) (hby:i.bytes=bytes) (hzs:z.cells.size=k) (uF:0<k) (hk:∀x,(enc x).length=k) (v:ay) (n:Nat) (xs:List ay) (hs:a.eval s=v) (ru:qF w base e k v n xs)
  (u:ay) (l:List α) (hx:a.eval x=u) (R:uT w u k enc l) (h1:∀u∈l.flatMap enc,u.oneCell'=true)
  (h63:n+l.length<=maxLen) (Gi:(n+l.length)*bytes<=140737488355328) (Ee:base<=w.heap.size)
  (h:∀v' w',qF w' base e k v' (n+l.length) (xs++l.flatMap enc)->Keep (λb=>base<=b) w w'->wpList P ops Q rest (a.put o.dst v') w'):wpList P ops Q (o::rest) a w:=by
 by_cases h0:l.length=0
 ·obtain rfl:l= []:=dV h0;obtain⟨p,c,rfl⟩:=R.len;rw[cZ]at hx;refine pR hgd λK hK=> ?_;unfold Oper.wp execOp;have hr:(Builtin.append_ #[t,t] o.type #[v,.slice p 0 c]).run P w= .ok v w:=by
   rcases ru.2 with⟨hv,_⟩|⟨g2,QT,cur,fz,hv,_,_,_,hc,_⟩
   ·rw[hv];exact YL ht hi p c
   ·rw[hv];exact WW ht hi g2 n QT hc p c
  simp only[ho,resolve,invoke,builtin,lJ,Sem.run_pure,mQ,fH,bH,dh,hs,hx,hr];refine hK _ _ ?_;exact h v w (by rw[ku,dS,cZ,iY];exact ru) (ah _ _)
 ·obtain⟨p,c,rfl⟩:=R.len;obtain⟨b,off,rfl,_,_,hc⟩:=R.at (by omega);refine tC (w:=w) hgd s x t ho base e i z k bytes ht hi hz NY hby hzs uF v n xs hs ru ⟨b,off,none⟩ l.length c (l.flatMap enc) hx (J8 hk l) (λj u hu=> ?_) h1 h63 Gi Ee ?_
  ·have hj:j<l.length*k:=by have:=(aT.1 hu).1;rwa [J8 hk]at this
   have YT:j % k<k:=jh _ uF;have zb4:j/k*k+j % k=j:=by rw[jA];exact Nat.div_add_mod j k
   have h2:=Es hk l (j/k) (j % k) YT;rw[zb4,hu]at h2;cases hy:l[j/k]? with
   | none=>rw[hy]at h2;cases h2
   | some y=>
    rw[hy]at h2;have:=hc (j/k) y hy (j % k) u h2.s;rw[show(⟨b,off,none⟩:Addr).add j=⟨b,off+j,none⟩by unfold Addr.add;split<;>simp_all]
    rwa [kT,zb4]at this
  intro v' w' own hg;exact h v' w' own ((ah _ _).grown hg (λb hb=> .inl (ru.lt b hb).1))
end
end
section
open Go.Sort Go.Shelf
def zbF(v:ay)(l:List sJ)(base:Nat)(w:ax)(h:qF w base 146 2 v l.length (l.flatMap xw))(hl:l.length<=1000000):
  ae 132 #[v,.func (.func 133) #[] #[]] w λe w'=>e= .returned (.tuple #[])∧qF w' base 146 2 v l.length ((vC l).flatMap xw)∧Keep (λb=>base<=b) w w':=by
 have h0:=h;obtain⟨hlen,h⟩:=h;rcases h with⟨rfl,hn⟩|⟨g,cap,cur,fz,rfl,hb,hg,_⟩
 ·have hn':l= []:=dV hn;subst hn';have IJ:=AnyF.slices_SortFunc_none { sortFound with } none 0 (.func (.func 133) #[] #[]) w
  change ae 132 _ _ _ at IJ
  refine IJ.m ?_;rintro e w' ⟨he,rfl⟩;exact⟨he,by rw[QD];exact h0,ah _ _⟩
 ·have hH:=HoldsK.yw xm h0;have hgl:=lt_of_heap hg;have eg:∀args w,(callFunc 133 args).run prog w= .ok (.enter 133 args) w:=enters_of func133 (by kernel_rfl) rfl;have ztX:CmpLays prog 133 #[] xw 2 Bz g 0 l.toArray.size w:=λm os dk JP x y=>(Ym x y _).m λe w' h=>⟨h.1,h.2⟩
  have IJ:=AnyQ.slices_SortFunc_total sortFound 2 isAgg146 sizeOf146 xw xm Kq Bz Ph 133 #[] g 0 cap l.toArray w eg ztX hH hgl (by simp;omega) Nh
  change ae 132 _ _ _ at IJ
  have hs:l.toArray.size=l.length:=by simp
  rw[hs]at IJ;refine IJ.m ?_;rintro e w' ⟨he,n,os,rfl⟩;have hd:((l.toArray.toList.mergeSort λx y=> !(ltOf Bz) y x).toArray).size=l.length:=by simp
  have h1:=SV (m:=n) (os:=os) xm h0 hd;have h2:=PK (enc:=xw) (k:=2) (m:=n) (os:=os) (d':=(l.toArray.toList.mergeSort λx y=> !(ltOf Bz) y x).toArray) hgl;refine⟨he,?_,h2.m λi _ hi=>by rw[show i=g from hi];exact hb⟩;have e1:((l.toArray.toList.mergeSort λx y=> !(ltOf Bz) y x).toArray).toList=vC l:=by simp[vC]
  rw[e1]at h1;exact h1
end
