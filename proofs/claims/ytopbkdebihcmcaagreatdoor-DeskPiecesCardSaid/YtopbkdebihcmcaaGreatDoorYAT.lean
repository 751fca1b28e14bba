import Derived.Test.YtopbkdebihcmcaaGreatDoorYAD
import Derived.Deep.MidRow
import Derived.Lib.Hide
import Derived.Shelf.SlSortCmp.NoneTotal
set_option linter.unusedSimpArgs false
set_option linter.unusedVariables false
namespace Go.Proofs.YtopbkdebihcmcaaGreatDoor
open Go.RowKit
set_option maxRecDepth 100000
set_option maxHeartbeats 16000000
section
open Go.Sort Go.Shelf
open Go.Proofs (sortWorldK)
section
variable {α:Type}{enc:α->List Value}{k:Nat}
theorem flat_get(hk:∀x,(enc x).length=k):∀(l:List α) (i j:Nat),j<k->(l.flatMap enc)[i*k+j]? =(l[i]?).bind λx=>(enc x)[j]?
 | [],i,j,_=>by simp
 | x::l,0,j,hj=>by rw[df,mO,dM,dE (by rw[hk];exact hj)];rfl
 | x::l,i+1,j,hj=>by rw[df,cu (by rw[hk,Nat.add_mul,Nat.one_mul];omega),hk,show(i+1)*k+j-k=i*k+j by rw[Nat.add_mul,Nat.one_mul];omega,flat_get hk l i j hj];rfl
theorem Gz(hk:∀x,(enc x).length=k):∀l:List α,(l.flatMap enc).length=l.length*k
 | []=>by simp
 | x::l=>by rw[df,ay,hk,Gz hk l,aK,Nat.add_mul,Nat.one_mul];omega
def sQ(w:World)(v:Value)(k:Nat)(enc:α->List Value)(l:List α):Prop:=
 (l= []∧∃p c,v= .slice p 0 c)∨∃b off c,v= .slice (some ⟨b,off,none⟩) l.length c∧b<w.heap.size∧∀i x,l[i]? =some x->w.rangeAt b (off+i*k) (enc x)
variable {w w':World}{v:Value}{l:List α}
theorem sQ.len(h:sQ w v k enc l):∃p c,v= .slice p l.length c:=by
 rcases h with⟨rfl,p,c,hv⟩|⟨B,off,c,hv,_⟩
 ·exact⟨p,c,hv⟩
 ·exact⟨_,c,hv⟩
theorem sQ.at{p:Option Addr}{n c:Nat}(h:sQ w (.slice p n c) k enc l)(hl:0<l.length):∃b off,p=some ⟨b,off,none⟩∧n=l.length∧b<w.heap.size∧∀i x,l[i]? =some x->w.rangeAt b (off+i*k) (enc x):=by
 rcases h with⟨rfl,_⟩|⟨B,off,c,hv,hB,hc⟩
 ·simp at hl
 ·cases hv
  exact⟨B,off,rfl,rfl,hB,hc⟩
theorem sQ.keep(h:sQ w v k enc l){S:Nat->Prop}(hk:Keep S w w')(hn:∀b,v.ownBlock=some b->¬S b):sQ w' v k enc l:=by
 rcases h with h|⟨B,off,c,hv,hB,hc⟩
 ·exact .inl h
 ·refine .inr ⟨B,off,c,hv,dA hB hk.size,λi x hi j u hu=> ?_⟩;rw[hk.cell (p:=⟨B,off+i*k+j,none⟩) hB (hn B (by rw[hv];rfl))];exact hc i x hi j u hu
theorem sQ.take{p:Option Addr}{n c:Nat}(h:sQ w (.slice p n c) k enc l)(m:Nat)(hm:m<=l.length)(c':Nat):sQ w (.slice p m c') k enc (l.take m):=by
 rcases h with⟨rfl,_⟩|⟨B,off,c,hv,hB,hc⟩
 ·obtain rfl:m=0:=by simpa using hm
  exact .inl ⟨by simp,_,_,rfl⟩
 ·cases hv
  refine .inr ⟨B,off,c',by rw[bG];congr;omega,hB,λi x hi=>hc i x ?_⟩;rw[fG]at hi;split at hi
  ·exact hi
  ·cases hi
theorem sQ.vN{base:Nat}{e:TypeId}(hk:∀x,(enc x).length=k)(h:nV w base e k v l.length (l.flatMap enc)):sQ w v k enc l:=by
 obtain⟨hlen,h⟩:=h;rcases h with⟨rfl,hn⟩|⟨g,cap,cur,fz,rfl,hb,hg,hcl,hn,hm,hs,ht⟩
 ·exact .inl ⟨aU hn,_,_,rfl⟩
 ·refine .inr ⟨g,0,cap,rfl,lt_of_heap hg,λi x hi j u hu=> ?_⟩;have hj:j<k:=by have:=(aN.1 hu).1;rwa [hk]at this
  have hil:i<l.length:=(aN.1 hi).1;have hb2:i*k+j<l.length*k:=by
   have:(i+1)*k<=l.length*k:=jM k hil
   rw[Nat.add_mul,Nat.one_mul]at this;omega
  rw[dM,aO w g _ cur e fz hg];have h1:(cur.toList.take (l.length*k))[i*k+j]? =some u:=by rw[ht,flat_get hk l i j hj,hi];exact hu
  rw[fG,aP hb2]at h1
  simpa using h1
theorem HoldsK.vN [Inhabited α]{base:Nat}{e:TypeId}{g cap:Nat}(hk:∀x,(enc x).length=k)(h:nV w base e k (.slice (some ⟨g,0,none⟩) l.length cap) l.length (l.flatMap enc)):HoldsK enc k w g 0 l.toArray:=by
 obtain⟨hlen,h⟩:=h;rcases h with⟨h,_⟩|⟨g',cap',cur,fz,hv,hb,hg,hcl,hn,hm,hs,ht⟩
 ·cases h
 ·cases hv
  intro t htt;rw[size_flatK]at htt;have zfm:t<l.length*k:=by simpa using htt
  have hk0:0<k:=by rcases mV k with h|h;(subst h;simp at zfm);exact h
  have hi:t/k<l.length:=Nat.div_lt_of_lt_mul (by rwa [gG]at zfm);have hj:t % k<k:=iM _ hk0;have hsum:t/k*k+t % k=t:=by rw[gG];exact Nat.div_add_mod t k
  rw[dM];constructor
  ·rw[aO w g _ cur e fz hg,get_flatK _ _ _ _ (by simpa using zfm)];have h1:(cur.toList.take (l.length*k))[t]? =(l.flatMap enc)[t]? :=by rw[ht]
   rw[fG,aP zfm]at h1;have h2:=flat_get hk l (t/k) (t % k) hj;rw[hsum,aC hi]at h2;simp only[iU]at h1;rw[h1,h2];have h3:(l.toArray)[t/k]! =l[t/k]:=by simp[hi]
   rw[h3];show(enc l[t/k])[t % k]? =some (id (enc l[t/k])[t % k]!);rw[aC (by rw[hk];exact hj)];simp[hk,hj]
  ·have hc:=hcl t (by rw[hs];exact dA zfm (jM k hn));obtain⟨lo,hi'⟩:=fz
   simpa [World.frozen?,hg]using hc
theorem ZP [Inhabited α]{g n cap:Nat}{d d':Array α}{os:Array Obj}(hk:∀x,(enc x).length=k)(hH:HoldsK enc k w g 0 d)(hg:g<w.heap.size)(hs:d'.size=d.size):
  sQ (sortWorldK enc k w g 0 n d' os) (.slice (some ⟨g,0,none⟩) d'.toList.length cap) k enc d'.toList∧Keep (nY g) w (sortWorldK enc k w g 0 n d' os):=by
 have h1:HoldsK enc k (putRowK enc k (Sort.ahead w n) g 0 d') g 0 d':=holdsK_putRowK _ _ _ _ _ d d' (holdsK_ahead _ _ _ _ _ _ _ hH) hs;have hsz:(putRowK enc k (Sort.ahead w n) g 0 d').heap.size=w.heap.size:=size_putRow _ _ _ _ _;have h2:HoldsK enc k (sortWorldK enc k w g 0 n d' os) g 0 d':=holdsK_grow _ _ _ _ _ _ _ (by rw[hsz];exact hg) h1;refine⟨.inr ⟨g,0,cap,rfl,?_,λi x hi j u hu=> ?_⟩,⟨rfl,rfl,rfl,?_,λb hb hn=> ?_⟩⟩
 ·show g<(Sort.grow (putRowK enc k (Sort.ahead w n) g 0 d') os).heap.size;rw[size_grow,hsz];omega
 ·have hj:j<k:=by have:=(aN.1 hu).1;rwa [hk]at this
  have hi':i<d'.size:=by have:=(aN.1 hi).1;simpa using this
  have hc:=h2.cell hi' hj;have e:d'[i]! =x:=by
   have:=(aN.1 hi).2;rw[getElem!_pos d' i hi']
   simpa using this
  rw[e]at hc;have e2:(enc x)[j]! =u:=by rw[List.getElem!_eq_getElem?_getD,hu];rfl
  rw[e2]at hc;exact hc.1
 ·show w.heap.size<=(Sort.grow (putRowK enc k (Sort.ahead w n) g 0 d') os).heap.size;rw[size_grow,hsz];omega
 ·show(Sort.grow (putRowK enc k (Sort.ahead w n) g 0 d') os).heap[b]? =w.heap[b]?;rw[heap_grow_old _ _ (by rw[hsz];exact hb)];show(w.heap.modify g _)[b]? =_;rw[gq];rw[aB (λe=>hn e.symm)]
end
end
end Go.Proofs.YtopbkdebihcmcaaGreatDoor
