import Derived.Test.YtnmhgehpddipdaaGreatDoorYAD
import Derived.Deep.MidRow
import Derived.Lib.Hide
import Derived.Shelf.SlSortCmp.NoneTotal
set_option linter.unusedSimpArgs false
set_option linter.unusedVariables false
namespace Go.Cof
open Go.RowKit Go.Sort Go.Shelf
open Go.Proofs (sortWorldK)
section
variable {α:Type}{enc:α->List Value}{k:Nat}
theorem flat_get(hk:∀x,(enc x).length=k):∀(l:List α) (i j:Nat),j<k->(l.flatMap enc)[i*k+j]? =(l[i]?).bind λx=>(enc x)[j]?
 | [],i,j,_=>by simp
 | x::l,0,j,hj=>by
  rw[List.flatMap_cons,Nat.zero_mul,Nat.zero_add,List.getElem?_append_left (by rw[hk];exact hj)]
  rfl
 | x::l,i+1,j,hj=>by
  rw[List.flatMap_cons,List.getElem?_append_right (by rw[hk,Nat.add_mul,Nat.one_mul];omega),hk,show(i+1)*k+j-k=i*k+j by rw[Nat.add_mul,Nat.one_mul];omega,flat_get hk l i j hj]
  rfl
theorem flat_len(hk:∀x,(enc x).length=k):∀l:List α,(l.flatMap enc).length=l.length*k
 | []=>by simp
 | x::l=>by rw[List.flatMap_cons,List.length_append,hk,flat_len hk l,List.length_cons,Nat.add_mul,Nat.one_mul];omega
def RowsK(w:World)(v:Value)(k:Nat)(enc:α->List Value)(l:List α):Prop:=
 (l= []∧∃p c,v= .slice p 0 c)∨∃b off c,v= .slice (some ⟨b,off,none⟩) l.length c∧b<w.heap.size∧∀i x,l[i]? =some x->w.rangeAt b (off+i*k) (enc x)
variable {w w':World}{v:Value}{l:List α}
theorem RowsK.len(h:RowsK w v k enc l):∃p c,v= .slice p l.length c:=by
 rcases h with⟨rfl,p,c,hv⟩|⟨B,off,c,hv,_⟩
 ·exact⟨p,c,hv⟩
 ·exact⟨_,c,hv⟩
theorem RowsK.at{p:Option Addr}{n c:Nat}(h:RowsK w (.slice p n c) k enc l)(hl:0<l.length):∃b off,p=some ⟨b,off,none⟩∧n=l.length∧b<w.heap.size∧∀i x,l[i]? =some x->w.rangeAt b (off+i*k) (enc x):=by
 rcases h with⟨rfl,_⟩|⟨B,off,c,hv,hB,hc⟩
 ·simp at hl
 ·cases hv
  exact⟨B,off,rfl,rfl,hB,hc⟩
theorem RowsK.keep(h:RowsK w v k enc l){S:Nat->Prop}(hk:Keep S w w')(hn:∀b,v.ownBlock=some b->¬S b):RowsK w' v k enc l:=by
 rcases h with h|⟨B,off,c,hv,hB,hc⟩
 ·exact .inl h
 ·refine .inr ⟨B,off,c,hv,Nat.lt_of_lt_of_le hB hk.size,λi x hi j u hu=> ?_⟩
  rw[hk.cell (p:=⟨B,off+i*k+j,none⟩) hB (hn B (by rw[hv];rfl))]
  exact hc i x hi j u hu
theorem RowsK.take{p:Option Addr}{n c:Nat}(h:RowsK w (.slice p n c) k enc l)(m:Nat)(hm:m<=l.length)(c':Nat):RowsK w (.slice p m c') k enc (l.take m):=by
 rcases h with⟨rfl,_⟩|⟨B,off,c,hv,hB,hc⟩
 ·obtain rfl:m=0:=by simpa using hm
  exact .inl ⟨by simp,_,_,rfl⟩
 ·cases hv
  refine .inr ⟨B,off,c',by rw[List.length_take];congr;omega,hB,λi x hi=>hc i x ?_⟩
  rw[List.getElem?_take]at hi
  split at hi
  ·exact hi
  ·cases hi
theorem RowsK.lit{E:TypeId}(hk:∀x,(enc x).length=k)(l:List α):RowsK (w.alloc (.cells (l.flatMap enc).toArray E)) (.slice (some ⟨w.heap.size,0,none⟩) l.length l.length) k enc l:=by
 refine .inr ⟨w.heap.size,0,l.length,rfl,by simp,λi x hi j u hu=> ?_⟩
 have hj:j<k:=by have:=(List.getElem?_eq_some_iff.1 hu).1;rwa [hk]at this
 rw[cell_of_row _ _ _ _ E (0,0) (heap_alloc_new w _),List.getElem?_toArray,Nat.zero_add,flat_get hk l i j hj,hi]
 exact hu
theorem RowsK.ofN{base:Nat}{e:TypeId}(hk:∀x,(enc x).length=k)(h:OwnsN w base e k v l.length (l.flatMap enc)):RowsK w v k enc l:=by
 obtain⟨hlen,h⟩:=h
 rcases h with⟨rfl,hn⟩|⟨g,cap,cur,fz,rfl,hb,hg,hcl,hn,hm,hs,ht⟩
 ·exact .inl ⟨List.eq_nil_of_length_eq_zero hn,_,_,rfl⟩
 ·refine .inr ⟨g,0,cap,rfl,lt_of_heap hg,λi x hi j u hu=> ?_⟩
  have hj:j<k:=by have:=(List.getElem?_eq_some_iff.1 hu).1;rwa [hk]at this
  have hil:i<l.length:=(List.getElem?_eq_some_iff.1 hi).1
  have hb2:i*k+j<l.length*k:=by
   have:(i+1)*k<=l.length*k:=Nat.mul_le_mul_right k hil
   rw[Nat.add_mul,Nat.one_mul]at this
   omega
  rw[Nat.zero_add,cell_of_row w g _ cur e fz hg]
  have h1:(cur.toList.take (l.length*k))[i*k+j]? =some u:=by rw[ht,flat_get hk l i j hj,hi];exact hu
  rw[List.getElem?_take,if_pos hb2]at h1
  simpa using h1
theorem HoldsK.ofN [Inhabited α]{base:Nat}{e:TypeId}{g cap:Nat}(hk:∀x,(enc x).length=k)(h:OwnsN w base e k (.slice (some ⟨g,0,none⟩) l.length cap) l.length (l.flatMap enc)):HoldsK enc k w g 0 l.toArray:=by
 obtain⟨hlen,h⟩:=h
 rcases h with⟨h,_⟩|⟨g',cap',cur,fz,hv,hb,hg,hcl,hn,hm,hs,ht⟩
 ·cases h
 ·cases hv
  intro t htt
  rw[size_flatK]at htt
  have htt':t<l.length*k:=by simpa using htt
  have hk0:0<k:=by rcases Nat.eq_zero_or_pos k with h|h;(subst h;simp at htt');exact h
  have hi:t/k<l.length:=Nat.div_lt_of_lt_mul (by rwa [Nat.mul_comm]at htt')
  have hj:t % k<k:=Nat.mod_lt _ hk0
  have hsum:t/k*k+t % k=t:=by rw[Nat.mul_comm];exact Nat.div_add_mod t k
  rw[Nat.zero_add]
  constructor
  ·rw[cell_of_row w g _ cur e fz hg,get_flatK _ _ _ _ (by simpa using htt')]
   have h1:(cur.toList.take (l.length*k))[t]? =(l.flatMap enc)[t]? :=by rw[ht]
   rw[List.getElem?_take,if_pos htt']at h1
   have h2:=flat_get hk l (t/k) (t % k) hj
   rw[hsum,List.getElem?_eq_getElem hi]at h2
   simp only[Array.getElem?_toList]at h1
   rw[h1,h2]
   have h3:(l.toArray)[t/k]! =l[t/k]:=by simp[hi]
   rw[h3]
   show(enc l[t/k])[t % k]? =some (id (enc l[t/k])[t % k]!)
   rw[List.getElem?_eq_getElem (by rw[hk];exact hj)]
   simp[hk,hj]
  ·have hc:=hcl t (by rw[hs];exact Nat.lt_of_lt_of_le htt' (Nat.mul_le_mul_right k hn))
   obtain⟨lo,hi'⟩:=fz
   simpa [World.frozen?,hg]using hc
theorem sorted_rows [Inhabited α]{g n cap:Nat}{d d':Array α}{os:Array Obj}(hk:∀x,(enc x).length=k)(hH:HoldsK enc k w g 0 d)(hg:g<w.heap.size)(hs:d'.size=d.size):
  RowsK (sortWorldK enc k w g 0 n d' os) (.slice (some ⟨g,0,none⟩) d'.toList.length cap) k enc d'.toList∧Keep (OneB g) w (sortWorldK enc k w g 0 n d' os):=by
 have h1:HoldsK enc k (putRowK enc k (Sort.ahead w n) g 0 d') g 0 d':=holdsK_putRowK _ _ _ _ _ d d' (holdsK_ahead _ _ _ _ _ _ _ hH) hs
 have hsz:(putRowK enc k (Sort.ahead w n) g 0 d').heap.size=w.heap.size:=size_putRow _ _ _ _ _
 have h2:HoldsK enc k (sortWorldK enc k w g 0 n d' os) g 0 d':=holdsK_grow _ _ _ _ _ _ _ (by rw[hsz];exact hg) h1
 refine⟨.inr ⟨g,0,cap,rfl,?_,λi x hi j u hu=> ?_⟩,⟨rfl,rfl,rfl,?_,λb hb hn=> ?_⟩⟩
 ·show g<(Sort.grow (putRowK enc k (Sort.ahead w n) g 0 d') os).heap.size
  rw[size_grow,hsz];omega
 ·have hj:j<k:=by have:=(List.getElem?_eq_some_iff.1 hu).1;rwa [hk]at this
  have hi':i<d'.size:=by have:=(List.getElem?_eq_some_iff.1 hi).1;simpa using this
  have hc:=h2.cell hi' hj
  have e:d'[i]! =x:=by
   have:=(List.getElem?_eq_some_iff.1 hi).2
   rw[getElem!_pos d' i hi']
   simpa using this
  rw[e]at hc
  have e2:(enc x)[j]! =u:=by
   rw[List.getElem!_eq_getElem?_getD,hu];rfl
  rw[e2]at hc
  exact hc.1
 ·show w.heap.size<=(Sort.grow (putRowK enc k (Sort.ahead w n) g 0 d') os).heap.size
  rw[size_grow,hsz];omega
 ·show(Sort.grow (putRowK enc k (Sort.ahead w n) g 0 d') os).heap[b]? =w.heap[b]?
  rw[heap_grow_old _ _ (by rw[hsz];exact hb)]
  show(w.heap.modify g _)[b]? =_
  rw[Array.getElem?_modify]
  rw[if_neg (λe=>hn e.symm)]
end
end Go.Cof
