import Derived.Sort.LotA
set_option linter.all false
namespace Go.Proofs.YtbcmmbeadgiiiaaGreatDoor
set_option maxRecDepth 100000
set_option maxHeartbeats 16000000
variable{a b e zW:Nat}
section
variable {α:Type}{le:α->α->Bool}
structure Tot(le:α->α->Bool):Prop where
 trans:∀a b c,le a b=true->le b c=true->le a c=true
 total:∀a b,(le a b||le b a)=true
 zxf:∀a b,le a b=true->le b a=true->a=b
def Tot.sorted(T:Tot le)(l:List α):List.Pairwise (λa b=>le a b=true) (l.mergeSort le):=List.pairwise_mergeSort T.trans T.total l
def Tot.uniq(T:Tot le){l l':List α}(h:l.Perm l')(h1:List.Pairwise (λa b=>le a b=true) l)(h2:List.Pairwise (λa b=>le a b=true) l'):l=l':=
 List.Perm.eq_of_pairwise (λa b _ _=>T.zxf a b) h1 h2 h
def Tot.perm(T:Tot le){l l':List α}(h:l.Perm l'):l.mergeSort le=l'.mergeSort le:=
 T.uniq (((List.mergeSort_perm l le).trans h).trans (List.mergeSort_perm l' le).symm) (T.sorted l) (T.sorted l')
def Tot.zoF(T:Tot le)(X R:List α)(k:Nat)(hk:k<=X.length)(h:∀x∈(X.mergeSort le).take k,∀r∈R,le x r=true):
  ((X++R).mergeSort le).take k=(X.mergeSort le).take k:=by
 obtain⟨S,hS⟩:= @exists_eq _ (X.mergeSort le);rw[<-hS]at h⊢;have hsp:List.Pairwise (λa b=>le a b=true) S:=by rw[hS];exact T.sorted X
 have Xc:S.Perm X:=by rw[hS];exact List.mergeSort_perm X le
 have hlen:S.length=X.length:=Xc.length_eq;have e:(X++R).mergeSort le=S.take k++((S.drop k++R).mergeSort le):=by
  refine T.uniq ?_ (T.sorted _) ?_
  ·refine(List.mergeSort_perm _ le).trans ?_;refine((Xc.symm.append_right R).trans ?_);have h1:S++R=S.take k++(S.drop k++R):=by rw[<-List.append_assoc,List.take_append_drop]
   rw[h1];exact(List.mergeSort_perm _ le).symm.append_left _
  rw[List.pairwise_append];refine⟨hsp.sublist (List.take_sublist _ _),T.sorted _,λa ha b hb=> ?_⟩;have zC:=(List.mergeSort_perm (S.drop k++R) le).mem_iff.1 hb;rcases List.mem_append.1 zC with zC|zC
  ·have h2:=hsp;rw[<-List.take_append_drop k S,List.pairwise_append]at h2;exact h2.2.2 a ha b zC
  exact h a ha b zC
 rw[e,List.take_append_of_le_length (by rw[List.length_take];omega),List.take_take,Nat.min_self]
def Tot.count(T:Tot le)(l:List α)(r:α)(k:Nat)(hs:List.Pairwise (λa b=>le a b=true) l)(hc:k<=l.countP (λx=>le x r)):∀x∈l.take k,le x r=true:=by
 induction l generalizing k with
 | nil=>intro x hx;simp at hx
 | cons y l ih=>
  intro x hx;cases k with
  | zero=>simp at hx
  | succ k=>
   have JO:=List.pairwise_cons.1 hs;have hy:le y r=true:=by
    cases hyr:le y r with
    | true=>rfl
    | false=>
     have h0:l.countP (λx=>le x r)=0:=by rw[List.countP_eq_zero];intro z hz hzr;have:=T.trans y z r (JO.1 z hz) hzr;rw[hyr]at this;cases this
     rw[List.countP_cons,h0,if_neg (by rw[hyr];decide)]at hc;omega
   rw[List.take_succ_cons]at hx;rcases List.mem_cons.1 hx with rfl|hx
   ·exact hy
   refine ih k JO.2 ?_ x hx;rw[List.countP_cons,if_pos hy]at hc;omega
def Tot.first(T:Tot le)(A B:List α)(k:Nat):(((A.mergeSort le).take k++B).mergeSort le).take k=((A++B).mergeSort le).take k:=by
 obtain⟨S,hS⟩:= @exists_eq _ (A.mergeSort le);rw[<-hS];have hsp:List.Pairwise (λa b=>le a b=true) S:=by rw[hS];exact T.sorted A
 have Xc:S.Perm A:=by rw[hS];exact List.mergeSort_perm A le
 have hlen:S.length=A.length:=Xc.length_eq;by_cases hk:k<=S.length
 ·have hp:(A++B).Perm ((S.take k++B)++S.drop k):=by
   refine(Xc.symm.append_right B).trans ?_;have h1:(S.take k++S.drop k)++B=S++B:=by rw[List.take_append_drop]
   rw[<-h1,List.append_assoc,List.append_assoc];exact(List.perm_append_comm).append_left _
  rw[T.perm hp];refine(T.zoF _ _ k (by rw[List.length_append,List.length_take];omega) λx hx r hr=> ?_).symm;refine T.count _ r k (T.sorted _) ?_ x hx;rw[(List.mergeSort_perm (S.take k++B) le).countP_eq,List.countP_append];have h2:=hsp;rw[<-List.take_append_drop k S,List.pairwise_append]at h2;have h3:(S.take k).countP (λx=>le x r)=(S.take k).length:=by rw[List.countP_eq_length];exact λa ha=>h2.2.2 a ha r hr
  rw[h3,List.length_take];omega
 rw[List.take_of_length_le (show S.length<=k by omega),T.perm (Xc.append_right B)]
end
section
open Go.Sort
variable {α:Type}[Inhabited α]
def swr(d:Array α)(a b:Nat):Nat->Array α
 | 0=>d
 | n+1=>swp (swr d a b n) (a+n) (b+n)
def Ig(d:Array α)(a b:Nat):∀n,(swr d a b n).size=d.size
 | 0=>rfl
 | n+1=>by rw[swr,swp_size,Ig d a b n]
def Y2(d:Array α)(a b:Nat):∀n,a+n<=b->b+n<=d.size->∀p,(swr d a b n)[p]! =if a<=p∧p<a+n then d[b+(p-a)]! else if b<=p∧p<b+n then d[a+(p-b)]! else d[p]!
 | 0,_,_,p=>by rw[swr,if_neg (by omega),if_neg (by omega)]
 | n+1,h1,h2,p=>by
  have ih:=Y2 d a b n (by omega) (by omega);rw[swr,swp_get _ (by rw[Ig];omega) (by rw[Ig];omega)];by_cases e1:p=b+n
  ·rw[if_pos e1,ih,if_neg (by omega),if_neg (by omega),if_neg (by omega),if_pos (by omega)]
   congr 1;omega
  rw[if_neg e1];by_cases e2:p=a+n
  ·rw[if_pos e2,ih,if_neg (by omega),if_neg (by omega),if_pos (by omega)]
   congr 1;omega
  rw[if_neg e2,ih];by_cases e3:a<=p∧p<a+n
  ·rw[if_pos e3,if_pos (by omega)]
  by_cases e4:b<=p∧p<b+n
  ·rw[if_neg e3,if_pos e4,if_neg (by omega),if_pos (by omega)]
  rw[if_neg e3,if_neg e4,if_neg (by omega),if_neg (by omega)]
def Ui(d:Array α)(a b lo hi:Nat):∀n,lo<=a->lo<=b->a+n<=hi->b+n<=hi->hi<=d.size->PermIn lo hi d (swr d a b n)
 | 0,_,_,_,_,_=>permIn_refl d lo hi
 | n+1,h1,h2,h3,h4,h5=>permIn_trans _ _ _ lo hi (Ui d a b lo hi n h1 h2 (by omega) (by omega) h5) (swp_permIn _ lo hi (a+n) (b+n) (by omega) (by omega) (by omega) (by omega) (by rw[Ig];exact h5))
structure Rot(d:Array α)(a m b:Nat)(d':Array α):Prop where
 perm:PermIn a b d d'
 fst:∀t,t<b-m->d'[a+t]! =d[m+t]!
 snd:∀t,t<m-a->d'[a+(b-m)+t]! =d[a+t]!
def zdU(d:Array α)(a m b p:Nat):α:=if p<a+(b-m)then d[m+(p-a)]! else d[a+(p-(a+(b-m)))]!
structure Gj(d:Array α)(a m b i j:Nat)(dk:Array α):Prop where
 perm:PermIn a b d dk
 hi:i<=m-a
 hj:j<=b-m
 left:∀p,a<=p->p<m-i->dk[p]! =zdU d a m b p
 right:∀p,m+j<=p->p<b->dk[p]! =zdU d a m b p
 fst:∀t,t<j->dk[m+t]! =zdU d a m b (m-i+t)
 snd:∀t,t<i->dk[m-i+t]! =zdU d a m b (m-i+j+t)
variable {d dk:Array α}{a m b i j:Nat}
def Gj.start(ham:a<=m)(Qe:m<=b):Gj d a m b (m-a) (b-m) d where
 perm:=permIn_refl d a b
 hi:=Nat.le_refl _
 hj:=Nat.le_refl _
 left:=λp h1 h2=>by omega
 right:=λp h1 h2=>by omega
 fst:=λt ht=>by rw[zdU,if_pos (by omega)];congr 1;omega
 snd:=λt ht=>by rw[zdU,if_neg (by omega)];congr 1;omega
def Gj.more(h:Gj d a m b i j dk)(ham:a<=m)(Qe:m<=b)(hb:b<=d.size)(hij:j<i):Gj d a m b (i-j) j (swr dk (m-i) m j):=by
 have hs:=h.perm.1;have hi:=h.hi;have hj:=h.hj;have g:=Y2 dk (m-i) m j (by omega) (by omega);refine⟨permIn_trans _ _ _ a b h.perm (Ui dk _ _ a b j (by omega) (by omega) (by omega) (by omega) (by omega)),by omega,by omega,λp h1 h2=> ?_,λp h1 h2=> ?_,λt ht=> ?_,λt ht=> ?_⟩
 ·rw[g];by_cases c:m-i<=p∧p<m-i+j
  ·rw[if_pos c,h.fst _ (by omega)];congr 1;omega
  rw[if_neg c,if_neg (by omega)];exact h.left p h1 (by omega)
 ·rw[g,if_neg (by omega),if_neg (by omega)];exact h.right p h1 h2
 ·rw[g,if_neg (by omega),if_pos (by omega),show m-i+(m+t-m)=m-i+t by omega,h.snd t (by omega)];congr 1;omega
 rw[g,if_neg (by omega),if_neg (by omega),show m-(i-j)+t=m-i+(j+t)by omega,h.snd _ (by omega)];congr 1;omega
def Gj.less(h:Gj d a m b i j dk)(ham:a<=m)(Qe:m<=b)(hb:b<=d.size)(hij:i<j):Gj d a m b i (j-i) (swr dk (m-i) (m+j-i) i):=by
 have hs:=h.perm.1;have hi:=h.hi;have hj:=h.hj;have g:=Y2 dk (m-i) (m+j-i) i (by omega) (by omega);refine⟨permIn_trans _ _ _ a b h.perm (Ui dk _ _ a b i (by omega) (by omega) (by omega) (by omega) (by omega)),by omega,by omega,λp h1 h2=> ?_,λp h1 h2=> ?_,λt ht=> ?_,λt ht=> ?_⟩
 ·rw[g,if_neg (by omega),if_neg (by omega)];exact h.left p h1 (by omega)
 ·rw[g,if_neg (by omega)];by_cases c:m+j-i<=p∧p<m+j-i+i
  ·rw[if_pos c,h.snd _ (by omega)];congr 1;omega
  rw[if_neg c];exact h.right p (by omega) h2
 ·rw[g,if_neg (by omega),if_neg (by omega),h.fst t (by omega)]
 rw[g,if_pos (by omega),show m+j-i+(m-i+t-(m-i))=m+(j-i+t)by omega,h.fst _ (by omega)];congr 1;omega
def Gj.stop(h:Gj d a m b i i dk)(ham:a<=m)(Qe:m<=b)(hb:b<=d.size):Rot d a m b (swr dk (m-i) m i):=by
 have hs:=h.perm.1;have hi:=h.hi;have hj:=h.hj;have g:=Y2 dk (m-i) m i (by omega) (by omega);have all:∀p,a<=p->p<b->(swr dk (m-i) m i)[p]! =zdU d a m b p:=by
  intro p h1 h2;rw[g];by_cases c:m-i<=p∧p<m-i+i
  ·rw[if_pos c,h.fst _ (by omega)];congr 1;omega
  rw[if_neg c];by_cases c2:m<=p∧p<m+i
  ·rw[if_pos c2,h.snd _ (by omega)];congr 1;omega
  rw[if_neg c2];by_cases c3:p<m
  ·exact h.left p h1 (by omega)
  exact h.right p (by omega) h2
 refine⟨permIn_trans _ _ _ a b h.perm (Ui dk _ _ a b i (by omega) (by omega) (by omega) (by omega) (by omega)),λt ht=> ?_,λt ht=> ?_⟩
 ·rw[all _ (by omega) (by omega),zdU,if_pos (by omega)];congr 1;omega
 rw[all _ (by omega) (by omega),zdU,if_neg (by omega)];congr 1;omega
def Rot.none(ham:a<=m)(Qe:m<=b)(h:¬(a<m∧m<b)):Rot d a m b d:=by
 refine⟨permIn_refl d a b,λt ht=> ?_,λt ht=> ?_⟩
 ·congr 1;omega
 congr 1;omega
section
variable {lt:α->α->Bool}
def QC(hS:SWO lt){d:Array α}{i j:Nat}(h:SortedIn lt a b d)(h1:a<=i)(h2:i<=j)(h3:j<b):lt d[j]! d[i]! =false:=by
 by_cases e:i=j
 ·subst e;exact hS.irrefl _
 exact h i j h1 (by omega) h3
structure Sym(lt:α->α->Bool)(a s zW e b:Nat)(d1:Array α):Prop where
 a1:SortedIn lt a s d1
 b1:SortedIn lt s zW d1
 a2:SortedIn lt zW e d1
 b2:SortedIn lt e b d1
 zks:∀x y,a<=x->x<zW->zW<=y->y<b->lt d1[y]! d1[x]! =false
def Ua(hS:SWO lt){d d1:Array α}{m s:Nat}(hA:SortedIn lt a m d)(hB:SortedIn lt m b d)(has:a<=s)(TA:s<=m)(hme:m<=e)(heb:e<=b)(hb:b<=d.size)(QS:zW=s+(e-m))
  (BA:a<s->e<b->lt d[e]! d[s-1]! =false) (hhi:s<m->m<e->lt d[e-1]! d[s]! =true) (R:Rot d s m e d1):Sym lt a s zW e b d1:=by
 subst QS;have out:∀p,p<s∨e<=p->d1[p]! =d[p]! :=R.perm.2.1;have f1:∀p,s<=p->p<s+(e-m)->d1[p]! =d[m+(p-s)]! :=λp h1 h2=>by
  have:=R.fst (p-s) (by omega)
  rwa [show s+(p-s)=p by omega]at this
 have f2:∀p,s+(e-m)<=p->p<e->d1[p]! =d[s+(p-(s+(e-m)))]! :=λp h1 h2=>by
  have:=R.snd (p-(s+(e-m))) (by omega)
  rwa [show s+(e-m)+(p-(s+(e-m)))=p by omega]at this
 refine⟨λi j h1 h2 h3=> ?_,λi j h1 h2 h3=> ?_,λi j h1 h2 h3=> ?_,λi j h1 h2 h3=> ?_,λx y h1 h2 h3 h4=> ?_⟩
 ·rw[out i (by omega),out j (by omega)];exact hA i j h1 h2 (by omega)
 ·rw[f1 i (by omega) (by omega),f1 j (by omega) (by omega)];exact hB _ _ (by omega) (by omega) (by omega)
 ·rw[f2 i (by omega) (by omega),f2 j (by omega) (by omega)];exact hA _ _ (by omega) (by omega) (by omega)
 ·rw[out i (by omega),out j (by omega)];exact hB i j (by omega) h2 (by omega)
 ·by_cases cx:x<s
  ·rw[out x (by omega)];by_cases cy:y<e
   ·rw[f2 y (by omega) (by omega)];exact hA _ _ h1 (by omega) (by omega)
   rw[out y (by omega)];have k:=BA (by omega) (by omega);exact hS.ntrans _ _ _ (hS.ntrans _ _ _ (QC hS hB (by omega) (show e<=y by omega) h4) k) (QC hS hA h1 (show x<=s-1 by omega) (by omega))
  rw[f1 x (by omega) (by omega)];by_cases cy:y<e
  ·rw[f2 y (by omega) (by omega)];have k:=hS.asymmA (hhi (by omega) (by omega));exact hS.ntrans _ _ _ (hS.ntrans _ _ _ (QC hS hA has (show s<=s+(y-(s+(e-m)))by omega) (by omega)) k) (QC hS hB (by omega) (show m+(x-s)<=e-1 by omega) (by omega))
  rw[out y (by omega)];exact hB _ _ (by omega) (by omega) (by omega)
def XF{d:Array α}{s:Nat}(h1:SortedIn lt a s d)(h2:SortedIn lt s b d)(has:a<=s)(hsb:s<=b)(h:¬(a<s∧s<b)):SortedIn lt a b d:=by
 by_cases e:a=s
 ·subst e;exact h2
 obtain rfl:s=b:=by omega
 exact h1
def Ja{d1 d2 d3:Array α}(ham:a<=zW)(Qe:zW<=b)(hb:b<=d1.size)(P1:PermIn a zW d1 d2)(S1:SortedIn lt a zW d2)(P2:PermIn zW b d2 d3)(S2:SortedIn lt zW b d3)
  (hc:∀x y,a<=x->x<zW->zW<=y->y<b->lt d1[y]! d1[x]! =false):PermIn a b d1 d3∧SortedIn lt a b d3:=by
 have s12:=P1.1;have s23:=P2.1;refine⟨permIn_trans _ _ _ a b (permIn_mono d1 d2 a zW a b (Nat.le_refl _) Qe hb P1) (permIn_mono d2 d3 zW b a b ham (Nat.le_refl _) (by omega) P2),λi j h1 h2 h3=> ?_⟩;by_cases cj:j<zW
 ·rw[P2.2.1 i (Or.inl (by omega)),P2.2.1 j (Or.inl cj)];exact S1 i j h1 h2 cj
 ·by_cases ci:zW<=i
  ·exact S2 i j ci h2 h3
  rw[P2.2.1 i (Or.inl (by omega))];have k1:∀y,zW<=y->y<b->lt d1[y]! d2[i]! =false:=λy hy1 hy2=>
   permIn_all d1 d2 a zW (λx=>lt d1[y]! x=false) (by omega) P1 (λx Qd Vf=>hc x y Qd Vf hy1 hy2) i h1 (by omega)
  exact permIn_all d2 d3 zW b (λy=>lt y d2[i]! =false) (by omega) P2 (λy hy1 hy2=>by rw[P1.2.1 y (Or.inr hy1)];exact k1 y hy1 hy2) j (by omega) h3
def zuL(hS:SWO lt){d d1:Array α}{m:Nat}(hma:m=a+1)(hB:SortedIn lt m b d)(hme:m<=e)(heb:e<=b)(hb:b<=d.size)
  (BA:e<b->lt d[e]! d[a]! =false) (hhi:m<e->lt d[e-1]! d[a]! =true) (R:Rot d a m e d1):PermIn a b d d1∧SortedIn lt a b d1:=by
 have M:=Ua hS (a:=a) (s:=a) (λi j h1 h2 h3=>by omega) hB (Nat.le_refl _) (by omega) hme heb hb rfl (λh=>by omega) (λ_ h=>hhi h) R;have s1:=R.perm.1;have JO:SortedIn lt (a+(e-m)) b d1:=by
  have f2:d1[a+(e-m)]! =d[a]! :=R.snd 0 (by omega);intro i j h1 h2 h3;by_cases ci:i=a+(e-m)
  ·rw[ci,f2,R.perm.2.1 j (Or.inr (by omega))];by_cases cj:e=j
   ·subst cj;exact BA h3
   exact hS.ntrans _ _ _ (hB e j (by omega) (by omega) h3) (BA (by omega))
  exact M.b2 i j (by omega) h2 h3
 exact⟨permIn_mono d d1 a e a b (Nat.le_refl _) heb hb R.perm,(Ja (by omega) (by omega) (by omega) (permIn_refl d1 _ _) M.b1 (permIn_refl d1 _ _) JO M.zks).2⟩
def zpc(hS:SWO lt){d d1:Array α}{m s:Nat}(Qe:b=m+1)(hA:SortedIn lt a m d)(has:a<=s)(TA:s<=m)(hb:b<=d.size)
  (BA:a<s->lt d[m]! d[s-1]! =false) (hhi:s<m->lt d[m]! d[s]! =true) (R:Rot d s m b d1):PermIn a b d d1∧SortedIn lt a b d1:=by
 have M:=Ua hS (b:=b) (e:=b) hA (λi j h1 h2 h3=>by omega) has TA (by omega) (Nat.le_refl _) hb rfl (λ_ h=>by omega) (λh _=>by rw[show b-1=m by omega];exact hhi h) R;have s1:=R.perm.1;have Ro:SortedIn lt a (s+(b-m)) d1:=by
  have f1:d1[s]! =d[m]! :=R.fst 0 (by omega);intro i j h1 h2 h3;by_cases cj:j=s
  ·rw[cj,f1,R.perm.2.1 i (Or.inl (by omega))];by_cases ci:i=s-1
   ·subst ci;exact BA (by omega)
   exact hS.ntrans _ _ _ (BA (by omega)) (hA i (s-1) h1 (by omega) (by omega))
  exact M.a1 i j h1 h2 (by omega)
 exact⟨permIn_mono d d1 s b a b has (Nat.le_refl _) hb R.perm,(Ja (by omega) (by omega) (by omega) (permIn_refl d1 _ _) Ro (permIn_refl d1 _ _) M.a2 M.zks).2⟩
def upN(d:Array α)(a:Nat):Nat->Array α
 | 0=>d
 | n+1=>swp (upN d a n) (a+n) (a+n+1)
def Ie(d:Array α)(a:Nat):∀n,(upN d a n).size=d.size
 | 0=>rfl
 | n+1=>by rw[upN,swp_size,Ie d a n]
def zeu(d:Array α)(a:Nat):∀n,a+n<d.size->∀p,(upN d a n)[p]! =if a<=p∧p<a+n then d[p+1]! else if p=a+n then d[a]! else d[p]!
 | 0,_,p=>by
  rw[upN,if_neg (by omega)];by_cases e:p=a+0
  ·rw[if_pos e,e];rfl
  rw[if_neg e]
 | n+1,h,p=>by
  have ih:=zeu d a n (by omega);rw[upN,swp_get _ (by rw[Ie];omega) (by rw[Ie];omega)];by_cases e1:p=a+n+1
  ·rw[if_pos e1,ih,if_neg (by omega),if_pos rfl,if_neg (by omega),if_pos (by omega)]
  rw[if_neg e1];by_cases e2:p=a+n
  ·rw[if_pos e2,ih,if_neg (by omega),if_neg (by omega),if_pos (by omega),e2]
  rw[if_neg e2,ih];by_cases e3:a<=p∧p<a+n
  ·rw[if_pos e3,if_pos (by omega)]
  rw[if_neg e3,if_neg e2,if_neg (by omega),if_neg (by omega)]
def zq6(d:Array α)(a n:Nat)(h:a+n<d.size):Rot d a (a+1) (a+n+1) (upN d a n):=by
 have perm:∀k,k<=n->PermIn a (a+n+1) d (upN d a k):=by
  intro k
  induction k with
  | zero=>intro _;exact permIn_refl d _ _
  | succ k ih=>intro hk;exact permIn_trans _ _ _ _ _ (ih (by omega)) (swp_permIn _ _ _ _ _ (by omega) (by omega) (by omega) (by omega) (by rw[Ie];omega))
 refine⟨perm n (Nat.le_refl _),λt ht=> ?_,λt ht=> ?_⟩
 ·rw[zeu d a n h,if_pos (by omega)];congr 1;omega
 rw[zeu d a n h,if_neg (by omega),if_pos (by omega)];congr 1;omega
def OY(d:Array α)(m:Nat):Nat->Array α
 | 0=>d
 | n+1=>swp (OY d m n) (m-n) (m-n-1)
def DT(d:Array α)(m:Nat):∀n,(OY d m n).size=d.size
 | 0=>rfl
 | n+1=>by rw[OY,swp_size,DT d m n]
def WE(d:Array α)(m:Nat)(hm:m<d.size):∀n,n<=m->∀p,(OY d m n)[p]! =if m-n<p∧p<=m then d[p-1]! else if p=m-n then d[m]! else d[p]!
 | 0,_,p=>by
  rw[OY,if_neg (by omega)];by_cases e:p=m-0
  ·rw[if_pos e,e];rfl
  rw[if_neg e]
 | n+1,h,p=>by
  have ih:=WE d m hm n (by omega);rw[OY,swp_get _ (by rw[DT];omega) (by rw[DT];omega)];by_cases e1:p=m-n-1
  ·rw[if_pos e1,ih,if_neg (by omega),if_pos rfl,if_neg (by omega),if_pos (by omega)]
  rw[if_neg e1];by_cases e2:p=m-n
  ·rw[if_pos e2,ih,if_neg (by omega),if_neg (by omega),if_pos (by omega),e2]
  rw[if_neg e2,ih];by_cases e3:m-n<p∧p<=m
  ·rw[if_pos e3,if_pos (by omega)]
  rw[if_neg e3,if_neg e2,if_neg (by omega),if_neg (by omega)]
def zmO(d:Array α)(m n:Nat)(h:m<d.size)(hn:n<=m):Rot d (m-n) m (m+1) (OY d m n):=by
 have perm:∀k,k<=n->PermIn (m-n) (m+1) d (OY d m k):=by
  intro k
  induction k with
  | zero=>intro _;exact permIn_refl d _ _
  | succ k ih=>intro hk;exact permIn_trans _ _ _ _ _ (ih (by omega)) (swp_permIn _ _ _ _ _ (by omega) (by omega) (by omega) (by omega) (by rw[DT];omega))
 refine⟨perm n (Nat.le_refl _),λt ht=> ?_,λt ht=> ?_⟩
 ·rw[WE d m h n hn,if_neg (by omega),if_pos (by omega)];congr 1;omega
 rw[WE d m h n hn,if_pos (by omega)];congr 1;omega
end
end
