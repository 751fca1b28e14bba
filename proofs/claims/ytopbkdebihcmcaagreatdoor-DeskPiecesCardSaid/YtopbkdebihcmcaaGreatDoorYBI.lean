import Derived.Test.YtopbkdebihcmcaaGreatDoorYBH
import Derived.Lib.SlKept
set_option linter.unusedSimpArgs false
set_option linter.unusedVariables false
namespace Go.Proofs.YtopbkdebihcmcaaGreatDoor
open Go.RowKit
set_option maxRecDepth 100000
set_option maxHeartbeats 16000000
section
variable {w:World}{base:Nat}{e:TypeId}{size:Nat}{v:Value}{n:Nat}{xs:List Value}
end
section
variable {α:Type}{enc:α->List Value}
end
section
open Go.Sort Go.Shelf
end
section
open Go.Sort Go.Shelf
def ptrs(bs:List (Nat×Value)):List Value:=bs.map λb=> .pointer (some ⟨b.1,0,none⟩)
structure pW(w:World)(base C:Nat)(nS:Nat)(v:Value)(bs:List (Nat×Value))(cs:List Cell):Prop where
 head:w.heap[C]? =some (.cells #[.int .i64 nS,v] 199 (0,0))
 row:nV w base 202 1 v bs.length (ptrs bs)
 len:bs.length=cs.length
 cell:∀(i:Nat) (b:Nat×Value) (c:Cell),bs[i]? =some b->cs[i]? =some c->w.heap[b.1]? =some (.cells (tu c.1++ [b.2]).toArray 204 (0,0))∧c.1.length=8∧nV w base 101 3 b.2 c.2.length (c.2.flatMap pO)
 ptr:∀(i j:Nat) (b b':Nat×Value),bs[i]? =some b->bs[j]? =some b'->b.1=b'.1->i=j
 own:∀(i j:Nat) (b b':Nat×Value) (g:Nat),bs[i]? =some b->bs[j]? =some b'->b.2.ownBlock=some g->b'.2.ownBlock=some g->i=j
 low:base<=C∧∀b∈bs,base<=b.1
theorem rW{w:World}{B i:Nat}{cur:Array Value}{E:TypeId}{fz:Nat×Nat}(h:w.heap[B]? =some (.cells cur E fz))(u:Value):(w.setCell ⟨B,i,none⟩ u).heap[B]? =some (.cells (cur.setIfInBounds i u) E fz):=by
 have hlt:=lt_of_heap h;have h':w.heap[B]= .cells cur E fz:=by simpa [bW hlt]using h
 show(w.heap.modify B _)[B]? =_;rw[bW (by simpa using hlt),eu,h'];rfl
theorem oN{w:World}{g:Nat}{c c':Array Value}{t t':TypeId}{f f':Nat×Nat}(h:w.heap[g]? =some (.cells c t f))(h':w.heap[g]? =some (.cells c' t' f')):t=t':=by rw[h]at h';have:=aH h';simp only[lu]at this;exact this.2.1
theorem uh{w:World}{base:Nat}{e:TypeId}{size:Nat}{v:Value}{n:Nat}{xs:List Value}(h:nV w base e size v n xs){g:Nat}(hg:v.ownBlock=some g):∃c f,w.heap[g]? =some (.cells c e f):=by
 rcases h.2 with⟨hv,_⟩|⟨g',cap,cur,fz,hv,_,hh,_⟩
 ·rw[hv]at hg;cases hg
 ·rw[hv]at hg;obtain rfl:g'=g:=aH hg;exact⟨_,_,hh⟩
section
variable {w w' W:World}{base C nS:Nat}{v v':Value}{bs:List (Nat×Value)}{cs:List Cell}
theorem pW.get(h:pW w base C nS v bs cs){i:Nat}{c:Cell}(hc:cs[i]? =some c):∃b,bs[i]? =some b:=by have:=(aN.1 hc).1;exact⟨_,aC (by rw[h.len];exact this)⟩
theorem pW.cellOf(h:pW w base C nS v bs cs){i:Nat}{b:Nat×Value}(hb:bs[i]? =some b):∃c,cs[i]? =some c:=by have:=(aN.1 hb).1;exact⟨_,aC (by rw[<-h.len];exact this)⟩
theorem pW.keep(h:pW w base C nS v bs cs){S:Nat->Prop}(K:Keep S w w')(hS:∀b,base<=b->b<w.heap.size->¬S b):pW w' base C nS v bs cs:=
 ⟨K.heap h.head (hS C h.low.1 (lt_of_heap h.head)),h.row.keep K (λb hb=>hS b (h.row.lt b hb).1 (h.row.lt b hb).2),h.len,λi b c hb hc=>by have h1:=h.cell i b c hb hc;exact⟨K.heap h1.1 (hS b.1 (h.low.2 b (bg hb)) (lt_of_heap h1.1)),h1.2.1,h1.2.2.keep K (λg hg=>hS g (h1.2.2.lt g hg).1 (h1.2.2.lt g hg).2)⟩,h.ptr,h.own,h.low⟩
theorem pW.oz(h:pW w base C nS v bs cs)(K:Keep nM w w'):pW w' base C nS v bs cs:=h.keep K (λ_ _ _ x=>x)
theorem pW.more(h:pW w base C nS v bs cs)(K:Keep nM w W)(hb:base<=w.heap.size){P:Nat}{m:List Int}(hP:w.heap.size<=P)(hPb:W.heap[P]? =some (.cells (tu m++ [Value.slice none 0 0]).toArray 204 (0,0)))(hm:m.length=8)
  (own':nV w' base 202 1 v' (bs.length+1) (ptrs bs++ [.pointer (some ⟨P,0,none⟩)])) (hg:W.grownBy w' v.ownBlock):
  pW (w'.setCell ⟨C,1,none⟩ v') base C nS v' (bs++ [(P,.slice none 0 0)]) (cs++ [(m,[])])∧Keep (λb=>base<=b) w (w'.setCell ⟨C,1,none⟩ v'):=by
 have hW:=h.oz K;have ne1:∀ {g:Nat} {c:Array Value} {t:TypeId} {f:Nat×Nat},W.heap[g]? =some (.cells c t f)->t≠202->w'.heap[g]? =some (.cells c t f):=by
  intro g c t f hgc ht;rw[hg.block g (lt_of_heap hgc) (λe=> ?_)]
  ·exact hgc
  ·obtain⟨c',f',hh⟩:=uh hW.row e.symm;exact ht (oN hgc hh)
 have hC':=ne1 hW.head (by decide);have hCl:=lt_of_heap hC';have KC:Keep (nY C) w' (w'.setCell ⟨C,1,none⟩ v'):=(ah (nY C) w').set1 1 v';have nC:∀ {g:Nat} {c:Array Value} {t:TypeId} {f:Nat×Nat},w'.heap[g]? =some (.cells c t f)->t≠199->g≠C:=by intro g c t f h1 ht e;subst e;exact ht (oN h1 hC')
 have hrow:∀g,v'.ownBlock=some g->¬nY C g:=λg hgv hgc=>by obtain⟨c',f',hh⟩:=uh own' hgv;exact nC hh (by decide) hgc
 have zmU:=ne1 hPb (by decide);refine⟨⟨?_,?_,by rw[ay,ay,h.len];rfl,?_,?_,?_,⟨h.low.1,λb hb'=> ?_⟩⟩,?_⟩
 ·have:=rW (i:=1) hC' v';exact this
 ·have:nV w' base 202 1 v' (bs++ [(P,Value.slice none 0 0)]).length (ptrs (bs++ [(P,Value.slice none 0 0)])):=by
   rw[ay,ptrs,di];exact own'
  exact this.keep KC hrow
 ·intro i b c hb' hc';by_cases hi:i<bs.length
  ·rw[dE hi]at hb';rw[dE (by rw[<-h.len];exact hi)]at hc';have h1:=hW.cell i b c hb' hc';refine⟨KC.heap (ne1 h1.1 (by decide)) (nC (ne1 h1.1 (by decide)) (by decide)),h1.2.1,?_⟩;have h2:nV w' base 101 3 b.2 c.2.length (c.2.flatMap pO):=by
    refine⟨h1.2.2.1,?_⟩;rcases h1.2.2.2 with h3|⟨g,cap,cur,fz,hv,hbg,hh,r⟩
    ·exact .inl h3
    ·exact .inr ⟨g,cap,cur,fz,hv,hbg,ne1 hh (by decide),r⟩
   exact h2.keep KC (λg hgv hgc=>by obtain⟨c',f',hh⟩:=uh h2 hgv;exact nC hh (by decide) hgc)
  ·rw[cu (by omega)]at hb';rw[cu (by rw[<-h.len];omega)]at hc';rw[<-h.len]at hc';obtain⟨k,hk⟩:∃k,k=i-bs.length:=⟨_,rfl⟩
   rw[<-hk]at hb' hc';cases k with
   | succ k=>simp at hb'
   | zero=>
    obtain rfl:(P,Value.slice none 0 0)=b:=by simpa using hb'
    obtain rfl:(m,[])=c:=by simpa using hc'
    exact⟨KC.heap zmU (nC zmU (by decide)),hm,nV.nil _ _ _ _⟩
 ·intro i j b b' h1 h2 e;have lt:∀(i:Nat) (b:Nat×Value),i<bs.length->(bs++ [(P,Value.slice none 0 0)])[i]? =some b->bs[i]? =some b∧b.1<w.heap.size:=by
   intro i b hi hb;rw[dE hi]at hb;obtain⟨c,hc⟩:=h.cellOf hb;exact⟨hb,lt_of_heap (h.cell i b c hb hc).1⟩
  have ge:∀(i:Nat) (b:Nat×Value),¬i<bs.length->(bs++ [(P,Value.slice none 0 0)])[i]? =some b->i=bs.length∧b.1=P:=by
   intro i b hi hb;have hl:=(aN.1 hb).1;rw[ay,gu]at hl;obtain rfl:i=bs.length:=by omega
   rw[cu (aF _),lU]at hb;obtain rfl:(P,Value.slice none 0 0)=b:=by simpa using hb
   exact⟨rfl,rfl⟩
  by_cases hi:i<bs.length<;>by_cases hj:j<bs.length
  ·exact h.ptr i j b b' (lt i b hi h1).1 (lt j b' hj h2).1 e
  ·have:=(lt i b hi h1).2;have:=(ge j b' hj h2).2;omega
  ·have:=(lt j b' hj h2).2;have:=(ge i b hi h1).2;omega
  ·have:=(ge i b hi h1).1;have:=(ge j b' hj h2).1;omega
 ·intro i j b b' g h1 h2 e1 e2;have old:∀(i:Nat) (b:Nat×Value),(bs++ [(P,Value.slice none 0 0)])[i]? =some b->b.2.ownBlock=some g->bs[i]? =some b:=by
   intro i b hb hg;by_cases hi:i<bs.length
   ·rwa [dE hi]at hb
   ·have hl:=(aN.1 hb).1;rw[ay,gu]at hl;obtain rfl:i=bs.length:=by omega
    rw[cu (aF _),lU]at hb;obtain rfl:(P,Value.slice none 0 0)=b:=by simpa using hb
    cases hg
  exact h.own i j b b' g (old i b h1 e1) (old j b' h2 e2) e1 e2
 ·rcases dG.1 hb' with hb'|hb'
  ·exact h.low.2 b hb'
  ·rw[bD.1 hb'];exact bH hb hP
 ·refine(K.vN.trans (S':=λb=>base<=b) ?_ (λi hi hs=>hs));exact((ah (λb=>base<=b) W).grown hg (λk hk=> .inl (hW.row.lt k hk).1)).setCell (p:=⟨C,1,none⟩) (.inl h.low.1) v'
theorem pW.put(h:pW w base C nS v bs cs)(K:Keep nM w W){k:Nat}{b:Nat×Value}{c:Cell}{x:oK}(hb:bs[k]? =some b)(hc:cs[k]? =some c)
  (own':nV w' base 101 3 v' (c.2.length+1) (c.2.flatMap pO++pO x)) (hg:W.grownBy w' b.2.ownBlock) (hv:v'.ownBlock=b.2.ownBlock∨∀g,v'.ownBlock=some g->W.heap.size<=g):
  pW (w'.setCell ⟨b.1,8,none⟩ v') base C nS v (bs.set k (b.1,v')) (zdh cs k x)∧Keep (λb=>base<=b) w (w'.setCell ⟨b.1,8,none⟩ v'):=by
 have hW:=h.oz K;have hbk:=hW.cell k b c hb hc;have ne1:∀ {g:Nat} {cc:Array Value} {t:TypeId} {f:Nat×Nat},W.heap[g]? =some (.cells cc t f)->t≠101->w'.heap[g]? =some (.cells cc t f):=by
  intro g cc t f hgc ht;rw[hg.block g (lt_of_heap hgc) (λe=> ?_)]
  ·exact hgc
  ·obtain⟨c',f',hh⟩:=uh hbk.2.2 e.symm;exact ht (oN hgc hh)
 have hB':=ne1 hbk.1 (by decide);have KB:Keep (nY b.1) w' (w'.setCell ⟨b.1,8,none⟩ v'):=(ah (nY b.1) w').set1 8 v';have nB:∀ {g:Nat} {cc:Array Value} {t:TypeId} {f:Nat×Nat},w'.heap[g]? =some (.cells cc t f)->t≠204->g≠b.1:=by intro g cc t f h1 ht e;subst e;exact ht (oN h1 hB')
 have hset:∀(i:Nat) (b':Nat×Value),(bs.set k (b.1,v'))[i]? =some b'->(i=k∧b'=(b.1,v'))∨(i≠k∧bs[i]? =some b'):=by
  intro i b' hb';rw[lM]at hb';by_cases e:k=i
  ·rw[aP e]at hb';split at hb'
   ·exact .inl ⟨e.symm,(aH hb').symm⟩
   ·cases hb'
  ·rw[aB e]at hb';exact .inr ⟨λh=>e h.symm,hb'⟩
 refine⟨⟨KB.heap (ne1 hW.head (by decide)) (nB (ne1 hW.head (by decide)) (by decide)),?_,by rw[dN,zdh,List.length_modify];exact h.len,?_,?_,?_,⟨h.low.1,λb' hb'=> ?_⟩⟩,?_⟩
 ·have e1:ptrs (bs.set k (b.1,v'))=ptrs bs:=by
   rw[ptrs,ptrs,kL];apply lT;intro i;rw[lM];split
   ·rename_i e;subst e;split
    ·rw[bC,hb];rfl
    ·rename_i hl;rw[fH (by omega)]
   ·rfl
  rw[dN,e1];have h1:nV w' base 202 1 v bs.length (ptrs bs):=by
   refine⟨hW.row.1,?_⟩;rcases hW.row.2 with h3|⟨g,cap,cur,fz,hv,hbg,hh,r⟩
   ·exact .inl h3
   ·exact .inr ⟨g,cap,cur,fz,hv,hbg,ne1 hh (by decide),r⟩
  exact h1.keep KB (λg hgv hgc=>by obtain⟨c',f',hh⟩:=uh h1 hgv;exact nB hh (by decide) hgc)
 ·intro i b' c' hb' hc';rcases hset i b' hb' with⟨rfl,rfl⟩|⟨hi,hb2⟩
  ·have hc2:c'=(c.1,c.2++ [x]):=by
    rw[zdh,List.getElem?_modify_eq,hc]at hc';exact(aH hc').symm
   subst hc2;refine⟨?_,hbk.2.1,?_⟩
   ·have h1:=rW (i:=8) hB' v';have e:(tu c.1++ [b.2]).toArray.setIfInBounds 8 v'=(tu c.1++ [v']).toArray:=by
     have hl:(tu c.1).length=8:=by rw[tu,aI];exact hbk.2.1
     rw[fA,iw _ _ (by omega),hl];rfl
    rwa [e]at h1
   ·have h1:nV w' base 101 3 v' (c.2++ [x]).length ((c.2++ [x]).flatMap pO):=by
     rw[ay,cZ,df,iY,dJ];exact own'
    exact h1.keep KB (λg hgv hgc=>by obtain⟨c',f',hh⟩:=uh h1 hgv;exact nB hh (by decide) hgc)
  ·have hc2:cs[i]? =some c':=by
    rw[zdh,List.getElem?_modify]at hc';split at hc'
    ·rename_i e;exact absurd e.symm hi
    ·simpa using hc'
   have h1:=hW.cell i b' c' hb2 hc2;refine⟨KB.heap (ne1 h1.1 (by decide)) (λe=>hi (h.ptr i k b' b hb2 hb e)),h1.2.1,?_⟩;have h2:nV w' base 101 3 b'.2 c'.2.length (c'.2.flatMap pO):=by
    refine⟨h1.2.2.1,?_⟩;rcases h1.2.2.2 with h3|⟨g,cap,cur,fz,hv2,hbg,hh,r⟩
    ·exact .inl h3
    ·refine .inr ⟨g,cap,cur,fz,hv2,hbg,?_,r⟩;rw[hg.block g (lt_of_heap hh) (λe=>hi (h.own i k b' b g hb2 hb (by rw[hv2];rfl) e.symm))];exact hh
   exact h2.keep KB (λg hgv hgc=>by obtain⟨c',f',hh⟩:=uh h2 hgv;exact nB hh (by decide) hgc)
 ·intro i j b1 b2 h1 h2 e;rcases hset i b1 h1 with⟨rfl,rfl⟩|⟨hi,h1'⟩<;>rcases hset j b2 h2 with⟨rfl,rfl⟩|⟨hj,h2'⟩
  ·rfl
  ·exact h.ptr _ _ b b2 hb h2' e
  ·exact h.ptr _ _ b1 b h1' hb e
  ·exact h.ptr _ _ b1 b2 h1' h2' e
 ·intro i j b1 b2 g h1 h2 e1 e2;have new:∀(i:Nat) (b':Nat×Value),bs[i]? =some b'->b'.2.ownBlock=some g->v'.ownBlock=some g->i=k:=by
   intro i b' hb' e1 e2;rcases hv with hv|hv
   ·exact h.own i k b' b g hb' hb e1 (hv▸e2)
   ·obtain⟨c',hc'⟩:=hW.cellOf hb';have:=((hW.cell i b' c' hb' hc').2.2.lt g e1).2;have:=hv g e2;omega
  rcases hset i b1 h1 with⟨rfl,rfl⟩|⟨hi,h1'⟩<;>rcases hset j b2 h2 with⟨rfl,rfl⟩|⟨hj,h2'⟩
  ·rfl
  ·exact(new j b2 h2' e2 e1).symm
  ·exact new i b1 h1' e1 e2
  ·exact h.own _ _ b1 b2 g h1' h2' e1 e2
 ·obtain⟨i,hi⟩:=iZ hb';rcases hset i b' hi with⟨_,rfl⟩|⟨_,h2⟩
  ·exact h.low.2 b (bg hb)
  ·exact h.low.2 b' (bg h2)
 ·refine(K.vN.trans (S':=λb=>base<=b) ?_ (λi hi hs=>hs));exact((ah (λb=>base<=b) W).grown hg (λk hk=> .inl (hbk.2.2.lt k hk).1)).setCell (p:=⟨b.1,8,none⟩) (.inl (h.low.2 b (bg hb))) v'
end
def WE(cs:List Cell)(m:List Int):Int:=if Yn cs m then(Uo cs m:Int)else-1
theorem zi1{cs:List Cell}{m:List Int}{k:Nat}{c:Cell}(hc:cs[k]? =some c)(he:c.1=m)(hno:∀j c,j<k->cs[j]? =some c->c.1≠m):WE cs m=k:=by
 have hk:=(aN.1 hc).1;have hck:=(aN.1 hc).2;have hh:Yn cs m=true:=iI.2 ⟨c,bg hc,by simpa using he⟩;rw[WE,aP hh]
 have:Uo cs m=k:=by
  unfold Uo;rw[List.findIdx_eq hk];refine⟨by rw[hck];simpa using he,λj hj=> ?_⟩
  simpa using hno j _ hj (aC (by omega))
 rw[this]
theorem UW(base C nS ab:Nat)(v:Value)(bs:List (Nat×Value))(cs:List Cell)(m:List Int)(w:World)(h:pW w base C nS v bs cs)(hm:m.length=8)(ha:w.heap[ab]? =some (.cells (tu m).toArray 200 (0,0)))(hl:cs.length<=1000):
  ae 138 #[v,.func (.func 139) #[] #[.pointer (some ⟨ab,0,none⟩)]] w λe w'=>e= .returned (.int .i64 (WE cs m))∧∃q,w'=w.drewN q:=by
 obtain⟨p,c,rfl⟩:∃p c,v= .slice p bs.length c:=by
  rcases h.row.2 with⟨hv,hn⟩|⟨g,cap,cur,fz,hv,_⟩
  ·exact⟨none,0,by rw[hv,hn]⟩
  ·exact⟨_,cap,hv⟩
 obtain⟨n,hn⟩:∃n,n=bs.length:=⟨_,rfl⟩
 have hn2:n=cs.length:=hn.trans h.len;rw[<-hn]at h⊢;have H:=ag h;have Hn:=ag hn;have Hn2:=ag hn2;have Ha:=ag ha;have zlF:n<=1000:=by omega
 clear h hn hn2 ha hl;go_enter Tryz.func138,Tryz.ntmps138;go_wp2_with fail
 go_loopw [8] (λiv wr=>∃k:Nat,k<=n∧iv= .int .i64 k∧Hid (∀j c,j<k->cs[j]? =some c->c.1≠m)∧∃q,wr=w.drewN q) (λiv _=>n-(intOf iv).toNat)
 case atStart=>exact⟨0,by omega,rfl,ag (λj c h=>by omega),0,rfl⟩
 case round=>
  obtain⟨k,hk,rfl,hno,q,rfl⟩:=hrel;by_cases hlt:k<n
  ·have k1:(k:Int)<n:=by omega
   obtain⟨x,hx⟩:∃x,cs[k]? =some x:=⟨_,aC (by have:=Hn2.out;omega)⟩
   obtain⟨b,hb⟩:=H.out.get hx;have hbc:=H.out.cell k b x hb hx;obtain⟨g,cap,hv,-,-⟩:=H.out.row.some (by have:=Hn.out;omega);cases hv;have ck:=H.out.row.cells rfl k (.pointer (some ⟨b.1,0,none⟩)) (by rw[ptrs,bC,hb];rfl);rw[show(⟨g,0,none⟩:Addr).add k=⟨g,k,none⟩by unfold Addr.add;split<;>simp_all]at ck;have hs:=XI b.1 ab x.1 m b.2 (w.drewN q) hbc.2.1 hm hbc.1 Ha.out;obtain⟨B,hB⟩:∃B,B=decide (x.1=m):=⟨_,rfl⟩
   rw[<-hB]at hs;obtain⟨bp,hbp⟩:∃bp,bp=b.1:=⟨_,rfl⟩
   rw[<-hbp]at ck hs;have Hs:=ag hs;have Hx:=ag hx;have HB:=ag hB;clear hs hx hB hbp hb hbc;go_wp2_with fail;refine Hs.out.mono ?_;rintro e w1 ⟨rfl,q1,rfl⟩;cases B with
   | true=>
    have he:=zi1 Hx.out (gy HB.out.symm) hno.out;have He:=ag he;clear he Hs;go_wp2_with fail;go_ret;exact⟨by rw[He.out];rfl,_,rfl⟩
   | false=>
    clear Hs;go_wp2_with fail;refine⟨⟨k+1,by omega,by go_num,ag (λj c hj hc=> ?_),_,rfl⟩,by simp[intOf];omega⟩;by_cases e:j=k
    ·subst e;rw[Hx.out]at hc;rw[<-aH hc];exact mZ HB.out.symm
    ·exact hno.out j c (by omega) hc
  ·obtain rfl:k=n:=by omega
   have he:WE cs m= -1:=by rw[WE,aB];intro hh;obtain⟨c,hc,e⟩:=iI.1 hh;obtain⟨j,hj⟩:=iZ hc;exact hno.out j c (by have:=(aN.1 hj).1;have:=Hn2.out;omega) hj (by simpa using e)
   have He:=ag he;clear he;go_wp2_with fail;go_ret;exact⟨by rw[He.out];rfl,_,rfl⟩
def yL(C A:Nat)(v:Value)(ms:List Value)(W:World):Prop:=W.cell? ⟨C,1,none⟩=some v∧∀j u,ms[j]? =some u->W.cell? ⟨A,j,none⟩=some u
theorem yL.alloc{C A:Nat}{v:Value}{ms:List Value}{W:World}(h:yL C A v ms W)(hC:C<W.heap.size)(hA:A<W.heap.size)(o:Obj):yL C A v ms (W.alloc o):=
 ⟨(((ah nM W).alloc o).cell (p:=⟨C,1,none⟩) hC (λx=>x)).trans h.1,λj u hu=>(((ah nM W).alloc o).cell (p:=⟨A,j,none⟩) hA (λx=>x)).trans (h.2 j u hu)⟩
def zU(L:List (Addr×Value))(W:World):Prop:=∀p∈L,W.cell? p.1=some p.2
theorem zU.alloc{L:List (Addr×Value)}{W:World}(h:zU L W)(hl:∀p∈L,p.1.block<W.heap.size)(o:Obj):zU L (W.alloc o):=λp hp=>(((ah nM W).alloc o).cell (p:=p.1) (hl p hp) (λx=>x)).trans (h p hp)
theorem ze5{cs:List Cell}{l:List oK}(h:yD cs l)(a:List Int):∀c∈vz cs a,c.2.length<=l.length:=by
 intro c hc;have key:∀(cs:List Cell),c∈cs->c.2.length<=(cs.flatMap (·.2)).length:=by
  intro cs hc
  induction cs with
  | nil=>cases hc
  | cons d cs ih=>
   rw[df,ay];rcases bK.1 hc with rfl|hc
   ·omega
   ·have:=ih hc;omega
 have hp:=h.perm.length_eq;unfold vz at hc;split at hc
 ·have:=key cs hc;omega
 ·rcases dG.1 hc with hc|hc
  ·have:=key cs hc;omega
  ·rw[bD.1 hc];exact dL _
theorem nV.sl{w:World}{base:Nat}{e:TypeId}{size:Nat}{v:Value}{n:Nat}{xs:List Value}(h:nV w base e size v n xs):∃p c,v= .slice p n c:=by
 rcases h.2 with⟨h,hn⟩|⟨_,_,_,_,h,_⟩
 ·exact⟨none,0,by rw[h,hn]⟩
 ·exact⟨_,_,h⟩
theorem Cells.Y3{w:World}{base C nS:Nat}{v:Value}{bs:List (Nat×Value)}{cs:List Cell}(h:pW w base C nS v bs cs):∃p c,v= .slice p bs.length c:=by
 rcases h.row.2 with⟨hv,hn⟩|⟨g,cap,cur,fz,hv,_⟩
 ·exact⟨none,0,by rw[hv,hn]⟩
 ·exact⟨_,cap,hv⟩
theorem pW.zhg{w w' W:World}{base C nS:Nat}{v:Value}{bs:List (Nat×Value)}{cs:List Cell}(h:pW w base C nS v bs cs)(K:Keep nM w W)(hg:W.grownBy w' v.ownBlock):w'.heap[C]? =some (.cells #[.int .i64 nS,v] 199 (0,0)):=by
 have hW:=h.oz K;rw[hg.block C (lt_of_heap hW.head) (λe=> ?_)]
 ·exact hW.head
 ·obtain⟨c',f',hh⟩:=uh hW.row e.symm;exact absurd (oN hW.head hh) (by decide)
theorem pW.zji{w w' W:World}{base C nS:Nat}{v:Value}{bs:List (Nat×Value)}{cs:List Cell}(h:pW w base C nS v bs cs)(K:Keep nM w W){k:Nat}{b:Nat×Value}{c:Cell}(hb:bs[k]? =some b)(hc:cs[k]? =some c)(hg:W.grownBy w' b.2.ownBlock):w'.heap[b.1]? =some (.cells (tu c.1++ [b.2]).toArray 204 (0,0)):=by
 have hW:=h.oz K;have hbk:=hW.cell k b c hb hc;rw[hg.block b.1 (lt_of_heap hbk.1) (λe=> ?_)]
 ·exact hbk.1
 ·obtain⟨c',f',hh⟩:=uh hbk.2.2 e.symm;exact absurd (oN hbk.1 hh) (by decide)
theorem ze6{w w':World}{b i:Nat}(h:w.heap[b]? =w'.heap[b]?):w.cell? ⟨b,i,none⟩=w'.cell? ⟨b,i,none⟩:=by unfold World.cell?;simp only[h]
theorem pW.other{w w' W:World}{base C nS:Nat}{v:Value}{bs:List (Nat×Value)}{cs:List Cell}(h:pW w base C nS v bs cs)(K:Keep nM w W){k:Nat}{b:Nat×Value}{c:Cell}(hb:bs[k]? =some b)(hc:cs[k]? =some c)(hg:W.grownBy w' b.2.ownBlock){g:Nat}{cc:Array Value}{t:TypeId}{f:Nat×Nat}(hgc:W.heap[g]? =some (.cells cc t f))(ht:t≠101):w'.heap[g]? =some (.cells cc t f):=by
 have hW:=h.oz K;have hbk:=hW.cell k b c hb hc;rw[hg.block g (lt_of_heap hgc) (λe=> ?_)]
 ·exact hgc
 ·obtain⟨c',f',hh⟩:=uh hbk.2.2 e.symm;exact absurd (oN hgc hh) ht
theorem pW.zet{w w' W:World}{base C nS:Nat}{v:Value}{bs:List (Nat×Value)}{cs:List Cell}(h:pW w base C nS v bs cs)(K:Keep nM w W){k:Nat}{b:Nat×Value}{c:Cell}(hb:bs[k]? =some b)(hc:cs[k]? =some c)(hg:W.grownBy w' b.2.ownBlock):w'.heap[C]? =some (.cells #[.int .i64 nS,v] 199 (0,0)):=h.other K hb hc hg (h.oz K).head (by decide)
theorem ze7:∃i,Tryz.prog.info? 202=some i∧i.zero=some (.pointer none)∧i.size=1∧i.bytes=8:=by
 have h:(Tryz.prog.info? 202).map (λi=>(i.zero,i.size,i.bytes))=some (some (.pointer none),1,8):=by kernel_rfl
 cases hi:Tryz.prog.info? 202 with
 | none=>rw[hi]at h;cases h
 | some i=>
  rw[hi]at h;simp only[eQ,eU,iE]at h;exact⟨i,rfl,h.1,h.2.1,h.2.2⟩
theorem XP(nS:Nat)(v:Value)(l:List oK)(w:World)(I:Items w v l)(hl:l.length<=1000)(hns:∀x∈l,yT x.ns∧x.ns.length<=8):
  ae 99 #[.int .i64 nS,v] w λe w'=>∃C cv bs,e= .returned (.pointer (some ⟨C,0,none⟩))∧pW w' w.heap.size C nS cv bs (y9 l)∧Keep nM w w':=by
 obtain⟨p,c,rfl⟩:=I.rows.len;obtain⟨n,hn2⟩:∃n,n=l.length:=⟨_,rfl⟩
 rw[<-hn2]at I hl;rw[<-hn2];have Hn:=ag hn2;have HI:=ag I;have Hns:=ag hns;obtain⟨i0,hi0,hz0,hs0,hb0⟩:=Iz;obtain⟨i1,hi1,hz1,hs1,hb1⟩:=ze7;have mixed:Tryz.prog.follows .mixedOrders=true:=by kernel_rfl
 have hC0:pW (w.alloc (.cells #[.int .i64 nS,.slice none 0 0] 199)) w.heap.size w.heap.size nS (.slice none 0 0) [] (y9 []):=
  ⟨aG w _,nV.nil _ _ _ _,rfl,λi b c h=>by simp at h,λi j b b' h=>by simp at h,λi j b b' g h=>by simp at h,aF _,λb h=>by cases h⟩
 have HC0:=ag hC0;have hK0:Keep nM w (w.alloc (.cells #[.int .i64 nS,.slice none 0 0] 199)):=(ah _ _).alloc _;obtain⟨w0,hw0⟩:∃w0,w0=w.alloc (.cells #[.int .i64 nS,.slice none 0 0] 199):=⟨_,rfl⟩
 obtain⟨C,hC⟩:∃C,C=w.heap.size:=⟨_,rfl⟩
 rw[<-hw0]at HC0 hK0;have Hw0:=ag hw0;have HC:=ag hC;have hHC:Hid (pW w0 w.heap.size C nS (.slice none 0 0) [] (y9 [])):=by rw[hC];exact HC0
 clear hn2 I hns hC0 HC0 hw0 hC;go_enter Tryz.func99,Tryz.ntmps99;go_wp2_with fail;rw[<-Hw0.out,<-HC.out]
 go_loopw [17] (λiv wr=>∃(j:Nat) (cv:Value) (bs:List (Nat×Value)),iv= .int .i64 j∧j<=n∧Hid (pW wr w.heap.size C nS cv bs (y9 (l.take j)))∧Keep nM w wr) (λiv _=>n-(intOf iv).toNat)
 case atStart=>exact⟨0,_,[],rfl,by omega,hHC,hK0⟩
 case round=>
  clear hHC hK0;obtain⟨j,cv,bs,rfl,hj,hH,K⟩:=hrel;obtain⟨wo,rfl⟩:∃wo,wo=wr:=⟨_,rfl⟩
  by_cases hlt:j<n
  ·have j1:(j:Int)<n:=by omega
   have zpG:Hid (∀b∈bs,∀g,b.2.ownBlock=some g->g<wo.heap.size):=ag (λb hb g hg=>by obtain⟨k,hk⟩:=iZ hb;obtain⟨c,hc⟩:=hH.out.cellOf hk;exact((hH.out.cell k b c hk hc).2.2.lt g hg).2)
   have Ir:Items wo _ l:=⟨HI.out.rows.keep K (λ_ _ x=>x),λx hx=>(HI.out.nums x hx).keep K (λ_ _ x=>x)⟩
   obtain⟨b,off,rfl,-,hb,hcell⟩:=Ir.rows.at (by have:=Hn.out;omega);obtain⟨x,hx⟩:∃x,l[j]? =some x:=⟨_,aC (by have:=Hn.out;omega)⟩
   have hra:=hcell j x hx;have hxm:x∈l:=bg hx;have Nx:=Ir.nums x hxm;have hxn:=Hns.out x hxm;have hsu:=PL l j x hx;have hok:=Wl (l.take j);have MM:=ag hsu;have Hok:=ag hok;obtain⟨nm,tg,av,ns⟩:=x;simp only at Nx hxn;have c0:wo.cell? ⟨b,off+j*3,none⟩=some (.string nm):=hra 0 _ rfl;have c1:wo.cell? ⟨b,off+j*3+1,none⟩=some (.string tg):=hra 1 _ rfl;have c2:wo.cell? ⟨b,off+j*3+2,none⟩=some av:=hra 2 _ rfl;obtain⟨pn,cn,rfl⟩:=Nx.len;obtain⟨nl,hnl⟩:∃nl,nl=ns.length:=⟨_,rfl⟩
   have zoX:nl<=8:=by rw[hnl];exact hxn.2
   have Hx:Hid (pO ⟨nm,tg,.slice pn ns.length cn,ns⟩= [.string nm,.string tg,.slice pn nl cn]):=ag (by rw[hnl];rfl);have hat:Hid (cellAt ⟨nm,tg,.slice pn ns.length cn,ns⟩=Uj ns nl):=ag (by rw[hnl];rfl);obtain⟨x,hxx⟩:∃x:oK,x=⟨nm,tg,.slice pn ns.length cn,ns⟩:=⟨_,rfl⟩
   rw[<-hxx]at MM Hx hat;rw[<-hnl]at c2 Nx;have MO:=ag Nx;have znk:=ag hxn.1;have Hnl:=ag hnl;clear hcell hra hx hsu hok hxn hnl hxx hxm Nx Ir;go_wp2_with fail;have gX:((wo.alloc (.cells #[.string nm,.string tg,.slice pn nl cn] 101)).alloc (.cells #[.int .i64 0,.int .i64 0,.int .i64 0,.int .i64 0,.int .i64 0,.int .i64 0,.int .i64 0,.int .i64 0] 200)).heap[wo.heap.size]? =some (.cells #[.string nm,.string tg,.slice pn nl cn] 101 (0,0)):=by rw[kK _ _ _ (by simp)];exact aG wo _
   have gA:((wo.alloc (.cells #[.string nm,.string tg,.slice pn nl cn] 101)).alloc (.cells #[.int .i64 0,.int .i64 0,.int .i64 0,.int .i64 0,.int .i64 0,.int .i64 0,.int .i64 0,.int .i64 0] 200)).heap[wo.heap.size+1]? =some (.cells (tu (Uj ns 0)).toArray 200 (0,0)):=by
    have h:=aG (wo.alloc (.cells #[.string nm,.string tg,.slice pn nl cn] 101)) (.cells #[.int .i64 0,.int .i64 0,.int .i64 0,.int .i64 0,.int .i64 0,.int .i64 0,.int .i64 0,.int .i64 0] 200);rw[show(wo.alloc (.cells #[.string nm,.string tg,.slice pn nl cn] 101)).heap.size=wo.heap.size+1 by simp]at h;rw[h];have e:Uj ns 0= [0,0,0,0,0,0,0,0]:=by rw[Uj,bZ];rfl
    rw[e];rfl
   have Ka:Keep nM wo ((wo.alloc (.cells #[.string nm,.string tg,.slice pn nl cn] 101)).alloc (.cells #[.int .i64 0,.int .i64 0,.int .i64 0,.int .i64 0,.int .i64 0,.int .i64 0,.int .i64 0,.int .i64 0] 200)):=((ah _ _).alloc _).alloc _;obtain⟨wa,hwa⟩:∃wa,wa=(wo.alloc (.cells #[.string nm,.string tg,.slice pn nl cn] 101)).alloc (.cells #[.int .i64 0,.int .i64 0,.int .i64 0,.int .i64 0,.int .i64 0,.int .i64 0,.int .i64 0,.int .i64 0] 200):=⟨_,rfl⟩
   obtain⟨X,hX⟩:∃X,X=wo.heap.size:=⟨_,rfl⟩
   obtain⟨A,hA⟩:∃A,A=X+1:=⟨_,rfl⟩
   rw[<-hwa,<-hX]at gX gA;rw[<-hwa]at Ka;rw[<-hwa,<-hX,<-hA];rw[<-hA]at gA;have HX:=ag hX;have HA:=ag hA;have Na:=MO.out.keep Ka (λ_ _ x=>x);have HNa:=ag Na;clear hwa hX hA c0 c1 c2 Na hb
   go_loopw [24] (λiv wx=>∃i:Nat,i<=nl∧iv= .int .i64 i∧Hid (wx.heap[A]? =some (.cells (tu (Uj ns i)).toArray 200 (0,0)))∧Keep (nY A) wa wx) (λiv _=>nl-(intOf iv).toNat)
   case atStart=>exact⟨0,by omega,rfl,ag gA,ah _ _⟩
   case round=>
    obtain⟨i,hi,rfl,hgA,Kx⟩:=hrel;by_cases hlt:i<nl
    ·have i1:(i:Int)<nl:=by omega
     have i8:(i:Int)<8:=by omega
     have Nx:=HNa.out.keep Kx (λb hb hS=>by
      have h1:b<wo.heap.size:=by
       rcases MO.out with⟨h,_⟩|⟨B,o',c',hv,hB,_⟩
       ·have:=Hnl.out;rw[h]at this;simp at this;omega
       ·rw[hv]at hb;obtain rfl:B=b:=aH hb;exact hB
      have h2:b=A:=hS;have:=HX.out;have:=HA.out;omega)
     obtain⟨bn,on,rfl,-,hbn,hcn⟩:=Nx.at (by have:=Hnl.out;omega);have cn':=hcn i (by have:=Hnl.out;omega);have hset:=zjo ns i (by have:=Hnl.out;omega) (by omega);have hnum:=xH znk.out i;have hal:=zdd ns i (by have:=Hnl.out;omega) (by omega);obtain⟨y,hy⟩:∃y,y=ns.getD i 0:=⟨_,rfl⟩
     rw[<-hy]at cn' hset hnum;have hdn:=λw=>zhw y hnum w;obtain⟨d,hd⟩:∃d,d=zK y:=⟨_,rfl⟩
     rw[<-hd]at hset hdn;have cA:wr.cell? ⟨A,i,none⟩=some (.int .i64 ((Uj ns i).getD i 0)):=by rw[aO _ _ _ _ _ (0,0) hgA.out,aj,tu,bC,ax,aC (by omega)];rfl
     have zA:wr.frozen? ⟨A,i,none⟩=false:=by unfold World.frozen?;simp only[hgA.out];rfl
     have zk8:=ag hset;have Hdn:=ag hdn;clear hcn hy hd hset hdn Nx hbn;go_wp2_with fail;refine(Hdn.out _).mono ?_;rintro e w1 ⟨rfl,hw1⟩;subst w1;go_wp2_with fail;refine⟨⟨i+1,by omega,by go_num,ag ?_,Kx.set1 i _⟩,by simp[intOf];omega⟩;rw[rW hgA.out,<-zk8.out,tu,tu,fA,kL]
    ·obtain rfl:i=nl:=by omega
     have Kr:Keep nM wo wr:=Ka.trans Kx (λi hi hs=>by have h2:i=A:=hs;have:=HX.out;have:=HA.out;omega);have hH2:=hH.out.oz Kr;have gX2:=Kx.heap gX (λhs=>by have h2:X=A:=hs;have:=HA.out;omega);have hm8:(Uj ns i).length=8:=zdd ns i (by have:=Hnl.out;omega) zoX;have hcl:(y9 (l.take j)).length<=1000:=by have:=Hok.out.len;rw[bG]at this;omega
     have hix:=UW w.heap.size C nS A cv bs _ (Uj ns i) wr hH2 hm8 hgA.out hcl;have e0:wr.cell? ⟨C,0,none⟩=some (.int .i64 nS):=by rw[aO _ _ _ _ _ (0,0) hH2.head];rfl
     have e1:wr.cell? ⟨C,1,none⟩=some cv:=by rw[aO _ _ _ _ _ (0,0) hH2.head];rfl
     obtain⟨pc,cc,rfl⟩:=Cells.Y3 hH2;obtain⟨nb,hnb⟩:∃nb,nb=bs.length:=⟨_,rfl⟩
     rw[<-hnb]at e1 hix hH2;have HH2:=ag hH2;have Hix:=ag hix;have MP:=ag hnb;have Kw:Keep nM w wr:=K.nK Kr;clear hH hix hnb hH2 Kx Ka gA Kr K;go_wp2_with fail;refine Hix.out.mono ?_;rintro e w1 ⟨rfl,q1,rfl⟩;have Hm8:=ag hm8;have Hcl:=ag hcl;have Hlen:Hid (∀c∈vz (y9 (l.take j)) (Uj ns i),c.2.length<=1000):=ag (λc hc=>by have:=ze5 Hok.out (Uj ns i) c hc;rw[bG]at this;omega);have HgX:=ag (show(wr.drewN q1).heap[X]? =_ from gX2);have HgA:=ag (show(wr.drewN q1).heap[A]? =_ from hgA.out);have HH3:=ag (HH2.out.oz ((ah nM wr).drewN q1));have Kw1:=Kw.drewN q1;obtain⟨wv,hwv⟩:∃wv,wv=wr.drewN q1:=⟨_,rfl⟩
     rw[<-hwv]at HgX HgA HH3 Kw1⊢;obtain⟨cs,hcs⟩:∃cs,cs=y9 (l.take j):=⟨_,rfl⟩
     obtain⟨m,hm⟩:∃m,m=Uj ns i:=⟨_,rfl⟩
     rw[<-hcs]at HH3 MM Hcl Hlen⊢;rw[<-hm]at HgA Hm8 hat Hlen⊢;clear hwv hcs hm gX gX2 hgA hm8 hcl HH2 Hix Kw e0 e1 MO HNa znk Hok;have hil:=zc1 cs m;obtain⟨kk,hkk⟩:∃kk,kk=Uo cs m:=⟨_,rfl⟩
     rw[<-hkk]at hil;have Hil:=ag hil;have Hkk:=ag hkk;have zge:kk<=1000:=by
      have h1:=hil.1;have h2:(vz cs m).length<=cs.length+1:=by
       unfold vz;split
       ·omega
       ·rw[ay,gu];exact aF _
      have:=Hcl.out;omega
     clear hil hkk;have HnX:∀b∈bs,b.2.ownBlock≠some X:=λb hb e=>by have:=zpG.out b hb X e;have:=HX.out;omega
     go_upto_if 41 with fail
     go_cut [11] (λkv wx=>∃(v2:Value) (bs2:List (Nat×Value)),kv= .int .i64 kk∧Hid (pW wx w.heap.size C nS v2 bs2 (vz cs m))∧Hid (wx.heap[X]? =some (.cells #[.string nm,.string tg,.slice pn i cn] 101 (0,0)))∧Hid (∀b∈bs2,b.2.ownBlock≠some X)∧Keep nM w wx)
     case first=>
      cases hhas:Yn cs m with
      | true=>
       have e1:WE cs m=kk:=by rw[WE,aP hhas,Hkk.out]
       have e2:vz cs m=cs:=by rw[vz,aP hhas]
       rw[e1];have HH4:Hid (pW wv w.heap.size C nS (.slice pc nb cc) bs (vz cs m)):=by rw[e2];exact HH3
       clear e1 e2;go_wp2_with fail;go_meet
       case rel=>exact⟨_,bs,rfl,HH4,HgX,ag HnX,Kw1⟩
      | false=>
       have e1:WE cs m= -1:=by rw[WE,aB (by rw[hhas];decide)]
       have e2:vz cs m=cs++ [(m,[])]:=by rw[vz,aB (by rw[hhas];decide)]
       have e3:kk=nb:=by
        rw[Hkk.out,MP.out,HH3.out.len];unfold Uo;rw[List.findIdx_eq_length];intro c' hc';rw[Yn,je]at hhas
        simpa using hhas c' hc'
       have E2:=ag e2;rw[e1];obtain⟨m0,m1,m2,m3,m4,m5,m6,m7,hme⟩:=eight m Hm8.out;have ca:∀j u,([Value.int .i64 m0,.int .i64 m1,.int .i64 m2,.int .i64 m3,.int .i64 m4,.int .i64 m5,.int .i64 m6,.int .i64 m7])[j]? =some u->wv.cell? ⟨A,j,none⟩=some u:=λj u hu=>by rw[aO _ _ j _ 200 (0,0) HgA.out,aj,hme];exact hu
       have q0:=ca 0 _ rfl;have q1:=ca 1 _ rfl;have q2:=ca 2 _ rfl;have q3:=ca 3 _ rfl;have q4:=ca 4 _ rfl;have q5:=ca 5 _ rfl;have q6:=ca 6 _ rfl;have q7:=ca 7 _ rfl;have d0:wv.cell? ⟨C,0,none⟩=some (.int .i64 nS):=by rw[aO _ _ _ _ _ (0,0) HH3.out.head];rfl
       have d1:wv.cell? ⟨C,1,none⟩=some (.slice pc nb cc):=by rw[aO _ _ _ _ _ (0,0) HH3.out.head];rfl
       have hsz1:(wv.alloc (.cells #[.int .i64 m0,.int .i64 m1,.int .i64 m2,.int .i64 m3,.int .i64 m4,.int .i64 m5,.int .i64 m6,.int .i64 m7,.slice none 0 0] 204)).heap.size=wv.heap.size+1:=by show(wv.heap.push _).size=_;rw[dY]
       have KW:Keep nM wv ((wv.alloc (.cells #[.int .i64 m0,.int .i64 m1,.int .i64 m2,.int .i64 m3,.int .i64 m4,.int .i64 m5,.int .i64 m6,.int .i64 m7,.slice none 0 0] 204)).alloc (.cells #[.pointer (some ⟨wv.heap.size,0,none⟩)] 202)).drew:=(((ah _ _).alloc _).alloc _).drew;have hPb:((wv.alloc (.cells #[.int .i64 m0,.int .i64 m1,.int .i64 m2,.int .i64 m3,.int .i64 m4,.int .i64 m5,.int .i64 m6,.int .i64 m7,.slice none 0 0] 204)).alloc (.cells #[.pointer (some ⟨wv.heap.size,0,none⟩)] 202)).drew.heap[wv.heap.size]? =some (.cells (tu m++ [Value.slice none 0 0]).toArray 204 (0,0)):=by show((wv.alloc (.cells #[.int .i64 m0,.int .i64 m1,.int .i64 m2,.int .i64 m3,.int .i64 m4,.int .i64 m5,.int .i64 m6,.int .i64 m7,.slice none 0 0] 204)).alloc (.cells #[.pointer (some ⟨wv.heap.size,0,none⟩)] 202)).heap[wv.heap.size]? =_;rw[kK _ _ _ (by rw[hsz1];omega),hme];exact aG wv _
       have hnw:=qj (wv.alloc (.cells #[.int .i64 m0,.int .i64 m1,.int .i64 m2,.int .i64 m3,.int .i64 m4,.int .i64 m5,.int .i64 m6,.int .i64 m7,.slice none 0 0] 204)) [.pointer (some ⟨wv.heap.size,0,none⟩)] 202;rw[hsz1]at hnw;have hCl:C<wv.heap.size:=lt_of_heap HH3.out.head;have hAl:A<wv.heap.size:=lt_of_heap HgA.out;have hnb1000:nb<=1000:=by have:=HH3.out.len;have:=Hcl.out;have:=MP.out;omega
       have hbase:=Kw1.size;have hrow:=(HH3.out.oz KW).row;rw[<-MP.out]at hrow;obtain⟨ms,hms⟩:∃ms,ms= [Value.int .i64 m0,.int .i64 m1,.int .i64 m2,.int .i64 m3,.int .i64 m4,.int .i64 m5,.int .i64 m6,.int .i64 m7]:=⟨_,rfl⟩
       have L0:yL C A (.slice pc nb cc) ms wv.drew:=by rw[hms];exact⟨d1,ca⟩
       have L1:=L0.alloc hCl hAl (.cells #[.int .i64 m0,.int .i64 m1,.int .i64 m2,.int .i64 m3,.int .i64 m4,.int .i64 m5,.int .i64 m6,.int .i64 m7,.slice none 0 0] 204);have L2:=L1.alloc (by rw[show(wv.drew.alloc (.cells #[.int .i64 m0,.int .i64 m1,.int .i64 m2,.int .i64 m3,.int .i64 m4,.int .i64 m5,.int .i64 m6,.int .i64 m7,.slice none 0 0] 204)).heap.size=wv.heap.size+1 from hsz1];omega) (by rw[show(wv.drew.alloc (.cells #[.int .i64 m0,.int .i64 m1,.int .i64 m2,.int .i64 m3,.int .i64 m4,.int .i64 m5,.int .i64 m6,.int .i64 m7,.slice none 0 0] 204)).heap.size=wv.heap.size+1 from hsz1];omega) (.cells #[.pointer (some ⟨wv.heap.size,0,none⟩)] 202);have HL0:=ag L0;have HL1:=ag L1;have HL2:=ag L2;have MN:=ag KW;have zds:=ag hrow;have Hnw:=ag hnw;have HPb:=ag hPb;have E3:=ag e3;have Hme:=ag hme;have Hca:=ag ca;have hx1:∀x:rE (yL C A (.slice pc nb cc) ms),x.w.cell? ⟨C,1,none⟩=some (.slice pc nb cc):=λx=>x.h.1;have hy0:∀x:rE (yL C A (.slice pc nb cc) ms),x.w.cell? ⟨A,0,none⟩=some (Value.int .i64 m0):=λx=>x.h.2 0 _ (by rw[hms];rfl);have hy1:∀x:rE (yL C A (.slice pc nb cc) ms),x.w.cell? ⟨A,1,none⟩=some (Value.int .i64 m1):=λx=>x.h.2 1 _ (by rw[hms];rfl);have hy2:∀x:rE (yL C A (.slice pc nb cc) ms),x.w.cell? ⟨A,2,none⟩=some (Value.int .i64 m2):=λx=>x.h.2 2 _ (by rw[hms];rfl);have hy3:∀x:rE (yL C A (.slice pc nb cc) ms),x.w.cell? ⟨A,3,none⟩=some (Value.int .i64 m3):=λx=>x.h.2 3 _ (by rw[hms];rfl);have hy4:∀x:rE (yL C A (.slice pc nb cc) ms),x.w.cell? ⟨A,4,none⟩=some (Value.int .i64 m4):=λx=>x.h.2 4 _ (by rw[hms];rfl);have hy5:∀x:rE (yL C A (.slice pc nb cc) ms),x.w.cell? ⟨A,5,none⟩=some (Value.int .i64 m5):=λx=>x.h.2 5 _ (by rw[hms];rfl);have hy6:∀x:rE (yL C A (.slice pc nb cc) ms),x.w.cell? ⟨A,6,none⟩=some (Value.int .i64 m6):=λx=>x.h.2 6 _ (by rw[hms];rfl);have hy7:∀x:rE (yL C A (.slice pc nb cc) ms),x.w.cell? ⟨A,7,none⟩=some (Value.int .i64 m7):=λx=>x.h.2 7 _ (by rw[hms];rfl);have Hms:=ag hms;clear hms hrow hnw hPb hme ca KW e1 e2 e3 hhas L0 L1 L2;go_upto_region 14 with(fail)
       refine xJ (yL C A (.slice pc nb cc) ms) [0,1,2,3,4,5,6] [7,8,9,10,11,12] (by kernel_rfl) (by kernel_rfl) (λc a d v w h=>by cases d<;>exact h) ?_;simp only[nR,aj,ak,au]
       repeat(refine nJ (λK hK=> ?_);go_simp;first|(refine⟨_,λ_=>rfl,hK _ ?_⟩;clear hK K)|(refine hK _ ?_;clear hK K))
       refine nH ?_;clear hx1 hy0 hy1 hy2 hy3 hy4 hy5 hy6 hy7;simp only[Em,nR,aj,ak,au];refine⟨HL0.out,?_⟩;go_wp2_with fail;refine⟨HL1.out,?_⟩;go_wp2_with fail;refine⟨HL2.out,?_⟩;refine qc _ rfl (.tmp 51) (.tmp 55) 197 rfl w.heap.size 202 i1 _ 1 8 Tryz.underlying197 hi1 hz1 hs1 hb1 rfl (by decide) (.slice pc nb cc) nb (ptrs bs) rfl zds.out ⟨wv.heap.size+1,0,none⟩ 1 1 [.pointer (some ⟨wv.heap.size,0,none⟩)] rfl rfl Hnw.out (by intro u hu;rw[bD.1 hu];rfl) (by unfold maxLen;omega) (by omega) (by have:=MN.out.size;omega) ?_;intro v' w' own' hg;have hCh:=HH3.out.zhg MN.out hg;have f1:w'.cell? ⟨C,1,none⟩=some (.slice pc nb cc):=by rw[aO _ _ _ _ _ (0,0) hCh];rfl
       have z1:w'.frozen? ⟨C,1,none⟩=false:=by unfold World.frozen?;simp only[hCh];rfl
       have hmore:=HH3.out.more MN.out hbase (aF _) HPb.out Hm8.out (by rw[<-MP.out];exact own') hg;have hXw:w'.heap[X]? =some (.cells #[.string nm,.string tg,.slice pn i cn] 101 (0,0)):=by
        have h1:=MN.out.heap HgX.out (λx=>x);rw[hg.block X (lt_of_heap h1) (λe=> ?_)]
        ·exact h1
        ·obtain⟨c',f',hh⟩:=uh zds.out e.symm;exact absurd (oN h1 hh) (by decide)
       have hXC:X≠C:=λe=>by have h1:=HgX.out;rw[e]at h1;exact absurd (oN h1 HH3.out.head) (by decide)
       have hXs:(w'.setCell ⟨C,1,none⟩ v').heap[X]? =some (.cells #[.string nm,.string tg,.slice pn i cn] 101 (0,0)):=by rw[Below.heap_setCell _ _ _ _ (by exact hXC)];exact hXw
       have zpn:Keep nM w (w'.setCell ⟨C,1,none⟩ v'):=Kw1.trans hmore.2 (λi hi hs=>absurd hi (nD.2 hs));obtain⟨pv,nv,cvv,rfl⟩:∃p n c,v'= .slice p n c:=by
        rcases own'.2 with⟨h,_⟩|⟨_,_,_,_,h,_⟩
        ·exact⟨_,_,_,h⟩
        ·exact⟨_,_,_,h⟩
       have HM:Hid (pW (w'.setCell ⟨C,1,none⟩ (.slice pv nv cvv)) w.heap.size C nS (.slice pv nv cvv) (bs++ [(wv.heap.size,.slice none 0 0)]) (vz cs m)):=by rw[E2.out];exact hmore.1
       have HXs:=ag hXs;have hAw:w'.heap[A]? =some (.cells (tu m).toArray 200 (0,0)):=by
        have h1:=MN.out.heap HgA.out (λx=>x);rw[hg.block A (lt_of_heap h1) (λe=> ?_)]
        ·exact h1
        ·obtain⟨c',f',hh⟩:=uh zds.out e.symm;exact absurd (oN h1 hh) (by decide)
       have HL3:Hid (yL C A (.slice pc nb cc) ms w'):=ag ⟨f1,λj u hu=>by rw[aO _ _ j _ 200 (0,0) hAw,aj,Hme.out,<-hu,Hms.out];rfl⟩
       clear own' hg hmore hXw hXC hXs hCh hbase hAw;go_wp2_with fail;refine⟨HL3.out,?_⟩;go_wp2_with fail;refine⟨HL3.out,?_⟩;go_wp2_with fail;refine⟨HL3.out,?_⟩;go_wp2_with fail;go_meet
       case rel=>
        refine⟨_,_,by rw[E3.out],HM,HXs,ag (λb hb=> ?_),zpn⟩;rcases dG.1 hb with hb|hb
        ·exact HnX b hb
        ·rw[bD.1 hb];intro e;cases e
     case rest=>
      obtain⟨v2,bs2,rfl,H2,zdv,zpF,Kw2⟩:=hcut;obtain⟨Wu,zdo⟩:∃c,(vz cs m)[kk]? =some c:=⟨_,aC Hil.out.1⟩
      have hcm:Wu.1=m:=by have:=Hil.out.2;rw[zdo]at this;simpa using this
      obtain⟨b2,hb2⟩:=H2.out.get zdo;have hbc:=H2.out.cell kk b2 Wu hb2 zdo;have zdn:=Hlen.out Wu (bg zdo);have hkb:kk<bs2.length:=(aN.1 hb2).1;obtain⟨g2,cap2,hv2,-,-⟩:=H2.out.row.some (by omega);have ckk:=H2.out.row.cells (by rw[hv2];rfl) kk (.pointer (some ⟨b2.1,0,none⟩)) (by rw[ptrs,bC,hb2];rfl);rw[show(⟨g2,0,none⟩:Addr).add kk=⟨g2,kk,none⟩by unfold Addr.add;split<;>simp_all]at ckk;obtain⟨n2,hn2⟩:∃n2,n2=bs2.length:=⟨_,rfl⟩
      rw[<-hn2]at hv2;obtain⟨bp,bv⟩:=b2;simp only at hbc ckk;obtain⟨pb,cb,hbv⟩:=nV.sl hbc.2.2;subst hbv hv2;obtain⟨nI,hnI⟩:∃x,x=Wu.2.length:=⟨_,rfl⟩
      rw[<-hnI]at hbc zdn hb2;have d1:wc.cell? ⟨C,1,none⟩=some (.slice (some ⟨g2,0,none⟩) n2 cap2):=by rw[aO _ _ _ _ _ (0,0) H2.out.head];rfl
      have d8:wc.cell? ⟨bp,8,none⟩=some (.slice pb nI cb):=by rw[aO _ _ _ _ _ (0,0) hbc.1,aj,cu (by rw[tu,aI,hbc.2.1];omega),tu,aI,hbc.2.1];rfl
      have x0:wc.cell? ⟨X,0,none⟩=some (.string nm):=by rw[aO _ _ _ _ _ (0,0) zdv.out];rfl
      have x1:wc.cell? ⟨X,1,none⟩=some (.string tg):=by rw[aO _ _ _ _ _ (0,0) zdv.out];rfl
      have x2:wc.cell? ⟨X,2,none⟩=some (.slice pn i cn):=by rw[aO _ _ _ _ _ (0,0) zdv.out];rfl
      have kk1:(kk:Int)<n2:=by omega
      obtain⟨L,hL⟩:∃L:List (Addr×Value),L= [(⟨C,1,none⟩,.slice (some ⟨g2,0,none⟩) n2 cap2),(⟨g2,kk,none⟩,.pointer (some ⟨bp,0,none⟩)),(⟨bp,8,none⟩,.slice pb nI cb),(⟨X,0,none⟩,.string nm),(⟨X,1,none⟩,.string tg),(⟨X,2,none⟩,.slice pn i cn)]:=⟨_,rfl⟩
      have l0:∀x:rE (zU L),x.w.cell? ⟨C,1,none⟩=some (.slice (some ⟨g2,0,none⟩) n2 cap2):=λx=>x.h (_,_) (by rw[hL];exact aY);have l1:∀x:rE (zU L),x.w.cell? ⟨g2,kk,none⟩=some (.pointer (some ⟨bp,0,none⟩)):=λx=>x.h (_,_) (by rw[hL];exact aQ _ aY);have l2:∀x:rE (zU L),x.w.cell? ⟨bp,8,none⟩=some (.slice pb nI cb):=λx=>x.h (_,_) (by rw[hL];exact aQ _ (aQ _ aY));have l3:∀x:rE (zU L),x.w.cell? ⟨X,0,none⟩=some (.string nm):=λx=>x.h (_,_) (by rw[hL];exact aQ _ (aQ _ (aQ _ aY)));have l4:∀x:rE (zU L),x.w.cell? ⟨X,1,none⟩=some (.string tg):=λx=>x.h (_,_) (by rw[hL];exact aQ _ (aQ _ (aQ _ (aQ _ aY))));have l5:∀x:rE (zU L),x.w.cell? ⟨X,2,none⟩=some (.slice pn i cn):=λx=>x.h (_,_) (by rw[hL];exact aQ _ (aQ _ (aQ _ (aQ _ (aQ _ aY)))));have mem:∀W:World,W.cell? ⟨C,1,none⟩=some (.slice (some ⟨g2,0,none⟩) n2 cap2)->W.cell? ⟨g2,kk,none⟩=some (.pointer (some ⟨bp,0,none⟩))->W.cell? ⟨bp,8,none⟩=some (.slice pb nI cb)->W.cell? ⟨X,0,none⟩=some (.string nm)->W.cell? ⟨X,1,none⟩=some (.string tg)->W.cell? ⟨X,2,none⟩=some (.slice pn i cn)->zU L W:=by intro W e0 e1 e2 e3 e4 e5 p hp;rw[hL]at hp;simp only[bK,lY,jY]at hp;rcases hp with rfl|rfl|rfl|rfl|rfl|rfl<;>assumption
      have L0:zU L wc.drew:=mem _ d1 ckk d8 x0 x1 x2;have hblk:∀p∈L,p.1.block<wc.heap.size:=by
       intro p hp;rw[hL]at hp;simp only[bK,lY,jY]at hp;rcases hp with rfl|rfl|rfl|rfl|rfl|rfl
       ·exact lt_of_heap H2.out.head
       ·exact(H2.out.row.lt g2 rfl).2
       ·exact lt_of_heap hbc.1
       all_goals exact lt_of_heap zdv.out
      have L1:=L0.alloc (o:= .cells #[.string nm,.string tg,.slice pn i cn] 101) hblk;have HL0:=ag L0;have HL1:=ag L1;have Yr:=ag mem;have Hbc:=ag hbc;have Hb2:=ag hb2;have zis:=ag zdo;have zpY:=ag ckk;have KW:Keep nM wc (wc.alloc (.cells #[.string nm,.string tg,.slice pn i cn] 101)).drew:=((ah _ _).alloc _).drew;have MN:=ag KW;have MX:=ag (hbc.2.2.keep KW (λ_ _ x=>x));have Hnw:Hid (∀j u,([Value.string nm,.string tg,.slice pn i cn])[j]? =some u->(wc.alloc (.cells #[.string nm,.string tg,.slice pn i cn] 101)).drew.cell? ((⟨wc.heap.size,0,none⟩:Addr).add j)=some u):=ag (qj wc [.string nm,.string tg,.slice pn i cn] 101);have HcI:=ag hnI;have HL:=ag hL;have zos:=ag Kw2.size;clear mem L0 L1 hbc hb2 zdo ckk KW hL hblk hnI;go_upto_region 15 with(fail)
      refine xJ (zU L) [0,1,2,3,4,5,6,7,8,9,10,11,12,13,14,15,16,17] [18,19,20,21,22] (by kernel_rfl) (by kernel_rfl) (λc a d v w h=>by cases d<;>exact h) ?_;simp only[nR,aj,ak,au]
      repeat(refine nJ (λK hK=> ?_);go_simp;first|(refine⟨_,λ_=>rfl,hK _ ?_⟩;clear hK K)|(refine hK _ ?_;clear hK K))
      refine nH ?_;clear l0 l1 l2 l3 l4 l5;simp only[Em,nR,aj,ak,au];refine⟨HL0.out,?_⟩;go_wp2_with fail;refine⟨HL1.out,?_⟩;refine yE _ rfl (.tmp 75) (.tmp 77) 96 rfl w.heap.size 101 i0 _ 3 56 Tryz.underlying96 hi0 hz0 hs0 hb0 rfl (by decide) (.slice pb nI cb) nI (Wu.2.flatMap pO) rfl MX.out ⟨wc.heap.size,0,none⟩ 1 1 [.string nm,.string tg,.slice pn i cn] rfl rfl Hnw.out (by intro u hu;simp only[bK,lY,jY]at hu;rcases hu with rfl|rfl|rfl<;>rfl) (by unfold maxLen;omega) (by omega) (by have:=MN.out.size;have:=zos.out;omega) ?_
      intro v' w' own' hg hwh;have zl0:nV w' w.heap.size 101 3 v' (Wu.2.length+1) (Wu.2.flatMap pO++pO x):=by rw[Hx.out,<-HcI.out];exact own'
      have hput:=H2.out.put MN.out Hb2.out zis.out zl0 hg (by
       rcases hwh with h|h
       ·exact .inl h
       ·exact .inr h)
      have hCh:=H2.out.zet MN.out Hb2.out zis.out hg;have hbp:=H2.out.zji MN.out Hb2.out zis.out hg;have e0:w'.cell? ⟨C,1,none⟩=some (.slice (some ⟨g2,0,none⟩) n2 cap2):=by rw[aO _ _ _ _ _ (0,0) hCh];rfl
      have e2:w'.cell? ⟨bp,8,none⟩=some (.slice pb nI cb):=by rw[aO _ _ _ _ _ (0,0) hbp,aj,cu (by rw[tu,aI,Hbc.out.2.1];omega),tu,aI,Hbc.out.2.1];rfl
      have z2:w'.frozen? ⟨bp,8,none⟩=false:=by unfold World.frozen?;simp only[hbp];rfl
      have eX:w'.cell? ⟨X,0,none⟩=some (.string nm)∧w'.cell? ⟨X,1,none⟩=some (.string tg)∧w'.cell? ⟨X,2,none⟩=some (.slice pn i cn):=by
       have hXb:X≠bp:=λe=>by have h1:=zdv.out;rw[e]at h1;exact absurd (oN h1 Hbc.out.1) (by decide)
       have hXi:w'.heap[X]? =some (.cells #[.string nm,.string tg,.slice pn i cn] 101 (0,0)):=by
        have h1:=MN.out.heap zdv.out (λx=>x);rw[hg.block X (lt_of_heap h1) (λe=> ?_)]
        ·exact h1
        ·exact zpF.out _ (bg Hb2.out) e.symm
       exact⟨by rw[aO _ _ _ _ _ (0,0) hXi];rfl,by rw[aO _ _ _ _ _ (0,0) hXi];rfl,by rw[aO _ _ _ _ _ (0,0) hXi];rfl⟩
      have eK:w'.cell? ⟨g2,kk,none⟩=some (.pointer (some ⟨bp,0,none⟩)):=by obtain⟨c',f',hh⟩:=uh H2.out.row (g:=g2) rfl;have h1:=H2.out.other MN.out Hb2.out zis.out hg (MN.out.heap hh (λx=>x)) (by decide);have h2:wc.cell? ⟨g2,kk,none⟩=w'.cell? ⟨g2,kk,none⟩:=ze6 (by rw[hh,h1]);rw[<-h2];exact zpY.out
      have L2:zU L w':=Yr.out w' e0 eK e2 eX.1 eX.2.1 eX.2.2;have HL2:=ag L2;obtain⟨pv,nv,cvv,rfl⟩:∃p n c,v'= .slice p n c:=by
       rcases own'.2 with⟨h,_⟩|⟨_,_,_,_,h,_⟩
       ·exact⟨_,_,_,h⟩
       ·exact⟨_,_,_,h⟩
      have HP:=ag hput.1;have KP:Keep nM w (w'.setCell ⟨bp,8,none⟩ (.slice pv nv cvv)):=Kw2.trans hput.2 (λi hi hs=>absurd hi (nD.2 hs));clear own' zl0 hg hwh hput hCh hbp e0 eX eK L2;go_wp2_with fail;refine⟨HL2.out,?_⟩;go_wp2_with fail;refine⟨HL2.out,?_⟩;go_wp2_with fail;refine⟨HL2.out,?_⟩;go_wp2_with fail;exact⟨⟨j+1,_,_,by go_num,by omega,by rw[MM.out,Yv,hat.out,<-Hkk.out];exact HP,KP⟩,by simp[intOf];omega⟩
  ·obtain rfl:j=n:=by omega
   have hN:List.take j l=l:=aV (by rw[<-Hn.out];exact aF _);rw[hN]at hH;go_wp2_with fail;go_ret;exact⟨C,_,bs,rfl,hH.out,K⟩
end
section
open Go.Sort Go.Shelf
open Go.Proofs (ltOf)
theorem WW(b i:Nat):(⟨b,0,none⟩:Addr).add i=⟨b,i,none⟩:=by unfold Addr.add;split<;>simp_all
def Apart(bs:List (Nat×Value)):Prop:=∀(i j:Nat) (b b':Nat×Value),bs[i]? =some b->bs[j]? =some b'->b.1=b'.1->i=j
def FV(cs:List Cell)(bs:List (Nat×Value))(at_:List Int)(nS:Nat):List uq:=(cs.zip bs).map λp=>(wQ p.1.1 at_ nS,p.2.1)
def sH(cs:List Cell)(bs:List (Nat×Value))(P:Nat):List oK:=match (cs.zip bs).find? λp=>decide (p.2.1=P)with
 | some p=>p.1.2
 | none=> []
section
variable {cs:List Cell}{bs:List (Nat×Value)}{l:List oK}{at_:List Int}{nS:Nat}
theorem DJ(ha:Apart bs){i:Nat}{b:Nat×Value}{c:Cell}(hb:bs[i]? =some b)(hc:cs[i]? =some c):sH cs bs b.1=c.2:=by
 have hz:(cs.zip bs)[i]? =some (c,b):=by rw[jC];exact⟨hc,hb⟩
 unfold sH;cases hf:(cs.zip bs).find? λp=>decide (p.2.1=b.1)with
 | none=>
  rw[iH]at hf;exact absurd (bJ (rfl:b.1=b.1)) (hf (c,b) (bg hz))
 | some p=>
  have hp:=lh hf;have hm:=iQ hf;obtain⟨j,hj⟩:=iZ hm;obtain⟨pc,pb⟩:=p;rw[jC]at hj;have:=ha j i pb b hj.2 hb (gy hp);subst this;rw[hc]at hj;obtain rfl:c=pc:=aH hj.1;rfl
theorem zc6(hl:bs.length=cs.length):(FV cs bs at_ nS).length=cs.length:=by rw[FV,aI,List.length_zip];omega
theorem zc7{i:Nat}{b:Nat×Value}{c:Cell}(hb:bs[i]? =some b)(hc:cs[i]? =some c):(FV cs bs at_ nS)[i]? =some (wQ c.1 at_ nS,b.1):=by
 have hz:(cs.zip bs)[i]? =some (c,b):=by rw[jC];exact⟨hc,hb⟩
 rw[FV,bC,hz];rfl
theorem zc5{e:uq}(he:e∈FV cs bs at_ nS):∃(i:Nat) (b:Nat×Value) (c:Cell),bs[i]? =some b∧cs[i]? =some c∧e=(wQ c.1 at_ nS,b.1):=by obtain⟨⟨c,b⟩,hm,rfl⟩:=bf.1 he;obtain⟨i,hi⟩:=iZ hm;rw[jC]at hi;exact⟨i,b,c,hi.2,hi.1,rfl⟩
theorem zey(ha:Apart bs)(hl:bs.length=cs.length):(FV cs bs at_ nS).flatMap (λe=>sH cs bs e.2)=cs.flatMap (·.2):=by
 have e:(FV cs bs at_ nS).map (λe=>sH cs bs e.2)=cs.map (·.2):=by
  apply lT;intro i;by_cases hi:i<cs.length
  ·have hc:cs[i]? =some cs[i]:=aC hi;have hb:bs[i]? =some bs[i]:=aC (by omega);rw[bC,zc7 hb hc,bC,hc];show some (sH cs bs bs[i].1)=some cs[i].2;rw[DJ ha hb hc]
  ·rw[fH (by rw[aI,zc6 hl];omega),fH (by rw[aI];omega)]
 rw[List.flatMap_def,List.flatMap_def,e]
structure YJ(l:List oK)(at_:List Int)(nS:Nat):Prop where
 num:yT at_
 len:at_.length=nS
 le:nS<=8
 ns:∀x∈l,yT x.ns∧x.ns.length=nS
theorem least_le(A:YJ l at_ nS){x:oK}(hx:x∈l):wQ (cellAt x) at_ nS<=PX x.ns at_:=by have h:=A.ns x hx;have h1:=VT x at_ h.1 A.num (by have:=A.le;omega) nS (by omega) (by have:=A.len;omega);rw[Rz x.ns at_ nS (by omega)]at h1;exact h1
theorem zlK(O:yD cs l)(A:YJ l at_ nS)(ha:Apart bs){e:uq}(he:e∈FV cs bs at_ nS):∀x∈sH cs bs e.2,e.1<=PX x.ns at_:=by obtain⟨i,b,c,hb,hc,rfl⟩:=zc5 he;intro x hx;rw[DJ ha hb hc]at hx;have hcm:=bg hc;have h1:=O.in_ c hcm x hx;have hxl:x∈l:=O.perm.mem_iff.1 (kQ.2 ⟨c,hcm,hx⟩);show wQ c.1 at_ nS<=_;rw[<-h1];exact least_le A hxl
def uo(cs:List Cell)(bs:List (Nat×Value))(D:List uq)(j:Nat):List oK:=(D.take j).flatMap λe=>sH cs bs e.2
structure Vf(D:List uq)(cs:List Cell)(bs:List (Nat×Value))(at_:List Int)(nS:Nat):Prop where
 perm:D.Perm (FV cs bs at_ nS)
 sort:List.Pairwise (λa b:uq=>a.1<=b.1) D
theorem Rl{D:List uq}(F:Vf D cs bs at_ nS)(O:yD cs l)(ha:Apart bs)(hl:bs.length=cs.length):(D.flatMap λe=>sH cs bs e.2).Perm l:=by refine(F.perm.flatMap_right _).trans ?_;rw[zey ha hl];exact O.perm
theorem zdY{D:List uq}{j:Nat}{y:uq}(hy:D[j]? =some y):uo cs bs D (j+1)=uo cs bs D j++sH cs bs y.2:=by have hj:=(aN.1 hy).1;rw[uo,aT hj,(aN.1 hy).2,cZ,uo];simp
theorem Ql{D:List uq}(F:Vf D cs bs at_ nS)(O:yD cs l)(ha:Apart bs)(hl:bs.length=cs.length)(j:Nat):(uo cs bs D j).length<=l.length:=by
 have h:=(Rl F O ha hl).length_eq;have e:D.flatMap (λe=>sH cs bs e.2)=uo cs bs D j++(D.drop j).flatMap (λe=>sH cs bs e.2):=by rw[uo,<-cZ,iy]
 rw[e,ay]at h;omega
theorem zgN{D:List uq}(F:Vf D cs bs at_ nS)(O:yD cs l)(ha:Apart bs)(hl:bs.length=cs.length)(k:Int)(tag:af):tV (uo cs bs D D.length) at_ k tag=tV l at_ k tag:=by rw[uo,lX];exact Vj (Rl F O ha hl) at_ k tag
theorem zbE{D:List uq}(F:Vf D cs bs at_ nS)(O:yD cs l)(A:YJ l at_ nS)(ha:Apart bs)(hl:bs.length=cs.length)(k:Int)(tag:af){j:Nat}{y:uq}(hy:D[j]? =some y)(hk:0<k.toNat)
  (hlen:(tV (uo cs bs D j) at_ k tag).length=k.toNat) (z:rU) (hz:(tV (uo cs bs D j) at_ k tag)[k.toNat-1]? =some z) (hlt:z.2<y.1):tV (uo cs bs D j) at_ k tag=tV l at_ k tag:=by
 have hj:=(aN.1 hy).1;have e:D.flatMap (λe=>sH cs bs e.2)=uo cs bs D j++(D.drop j).flatMap (λe=>sH cs bs e.2):=by rw[uo,<-cZ,iy]
 rw[<-Vj (Rl F O ha hl) at_ k tag,e];refine(zdJ _ _ at_ k tag hk hlen z hz ?_).symm;intro x hx;obtain⟨f,hf,hx⟩:=kQ.1 hx;have hfD:=List.mem_of_mem_drop hf;have h1:=zlK O A ha (F.perm.mem_iff.1 hfD) x hx;have h2:y.1<=f.1:=by
  rw[gY hj,(aN.1 hy).2]at hf;rcases bK.1 hf with rfl|hf
  ·exact jO _
  ·have hs:=F.sort;have e2:D=D.take j++y::D.drop (j+1):=by
    have:=(iy j D).symm
    rwa [gY hj,(aN.1 hy).2]at this
   rw[e2,mr]at hs;exact(bU.1 hs.2.1).1 f hf
 omega
theorem zhk{d d':Array uq}(hd:d.toList=FV cs bs at_ nS)(hp:PermIn 0 d.size d d')(hs:SortedIn (ltOf qf) 0 d.size d'):Vf d'.toList cs bs at_ nS:=by
 obtain⟨h1,_,h3⟩:=hp;refine⟨?_,?_⟩
 ·rw[<-hd];have e1:d'.extract 0 d.size=d':=by rw[<-h1,mX]
  have e2:d.extract 0 d.size=d:=mX
  rwa [e1,e2]at h3
 ·rw[iR];intro i j hi hj hij;have hi':i<d'.size:=by simpa using hi
  have hj':j<d'.size:=by simpa using hj
  have:=hs i j (dL _) hij (by omega);rw[getElem!_pos d' i hi',getElem!_pos d' j hj',zcy]at this;have:=mZ this;simp only[Array.getElem_toList];omega
end
end
section
open Go.Sort Go.Shelf
theorem zca(w:World):ae 240 #[.slice none 0 0,.int .i64 0,.int .i64 0,.func (.func 159) #[] #[]] w λe w'=>e= .returned (.tuple #[])∧w'=w:=by
 go_enter Tryz.func240,Tryz.ntmps240;go_wp2_with fail
 go_loopw [8] (λiv wr=>iv= .int .i64 1∧wr=w) (λ_ _=>0)
 case atStart=>exact⟨rfl,rfl⟩
 case round=>
  obtain⟨rfl,rfl⟩:=hrel;go_wp2_with fail;go_end0;exact⟨rfl,rfl⟩
theorem zbs(w:World):ae 201 #[.slice none 0 0,.int .i64 0,.func (.func 159) #[] #[]] w λe w'=>e= .returned (.tuple #[])∧w'=w:=by
 go_enter Tryz.func201,Tryz.ntmps201;go_wp2_with fail
 go_loopw [7,8] (λav bv wr=>av= .int .i64 0∧bv= .int .i64 20∧wr=w) (λ_ _ _=>0)
 case atStart=>exact⟨rfl,rfl,rfl⟩
 case round=>
  obtain⟨rfl,rfl,rfl⟩:=hrel;have h:=λw=>zca w;go_wp2_with fail;refine(h _).mono ?_;rintro e w1 ⟨rfl,rfl⟩;go_wp2_with fail
  go_loopw [6] (λbv wr=>bv= .int .i64 20∧wr=w1) (λ_ _=>0)
  case atStart=>exact⟨rfl,rfl⟩
  case round=>
   obtain⟨rfl,rfl⟩:=hrel;go_wp2_with fail;go_end0;exact⟨rfl,rfl⟩
theorem XD(v:Value)(d:List uq)(base:Nat)(w:World)(h:nV w base 220 2 v d.length (d.flatMap oW))(hl:d.length<=1000000):
  ae 158 #[v,.func (.func 159) #[] #[]] w λe w'=>e= .returned (.tuple #[])∧∃d':Array uq,(PermIn 0 d.length d.toArray d'∧SortedIn (ltOf qf) 0 d.length d')∧nV w' base 220 2 v d.length (d'.toList.flatMap oW)∧Keep (λb=>base<=b) w w':=by
 have h0:=h;obtain⟨hlen,h⟩:=h;rcases h with⟨rfl,hn⟩|⟨g,cap,cur,fz,rfl,hb,hg,_⟩
 ·obtain rfl:d= []:=aU hn;have h1:=zbs w;go_enter Tryz.func158,Tryz.ntmps158;go_wp2_with fail;refine h1.mono ?_;rintro e w' ⟨rfl,rfl⟩;go_wp2_with fail;go_end0;exact⟨rfl,#[],⟨⟨rfl,λi h=>rfl,by simp⟩,λi j _ _ h=>absurd h (by simp)⟩,h0,ah _ _⟩
 ·have hH:=HoldsK.vN CQ h0;have hgl:=lt_of_heap hg;have hs:d.toArray.size=d.length:=by simp
  have hcon:=TQ g cap d.toArray w (by omega) hH hgl;rw[hs]at hcon;refine hcon.mono ?_;rintro e w' ⟨he,d',hd,n,os,rfl⟩;refine⟨he,d',hd,?_,?_⟩
  ·exact SL (m:=n) (os:=os) CQ h0 (by have:=hd.1.1;omega)
  ·exact(OE (enc:=oW) (k:=2) (m:=n) (os:=os) (d':=d') hgl).mono λi _ hi=>by rw[show i=g from hi];exact hb
end
section
open Go.Sort Go.Shelf
theorem ze8(x:oK)(h:yT x.ns)(k:Nat): -4<=(cellAt x).getD k 0∧(cellAt x).getD k 0<=4:=by
 rw[ax];cases e:(cellAt x)[k]? with
 | none=>simp
 | some y=>
  have hy:y∈cellAt x:=bg e;rw[cellAt,Uj,dG]at hy;show-4<=y∧y<=4;rcases hy with hy|hy
  ·obtain⟨n,hn,rfl⟩:=bf.1 hy;exact zhx n (h n (dH hn))
  ·obtain⟨_,rfl⟩:=iW.1 hy;omega
theorem zgw(at_:List Int)(k:Int)(tag:af):tV [] at_ k tag= []:=by
 rw[tV]
 have:qN [] at_ tag= []:=rfl
 rw[this,Go.Proofs.YtopbkdebihcmcaaGreatDoor.NC,List.take_nil]
theorem YP(l:List oK)(at_:List Int)(k:Int)(tag:af):(tV l at_ k tag).length<=k.toNat:=by rw[tV,bG];omega
end
section
open Go.Sort Go.Shelf
theorem zhi:∃i,Tryz.prog.info? 220=some i∧i.zero=some (.agg #[.int .i64 0,.pointer none])∧i.size=2∧i.bytes=16:=by
 have h:(Tryz.prog.info? 220).map (λi=>(i.zero,i.size,i.bytes))=some (some (.agg #[.int .i64 0,.pointer none]),2,16):=by kernel_rfl
 cases hi:Tryz.prog.info? 220 with
 | none=>rw[hi]at h;cases h
 | some i=>
  rw[hi]at h;simp only[eQ,eU,iE]at h;exact⟨i,rfl,h.1,h.2.1,h.2.2⟩
theorem zaA(cb nS:Nat)(cv va:Value)(at_:List Int)(k:Int)(tag:af)(w:World)(hC:w.heap[cb]? =some (.cells #[.int .i64 nS,cv] 199 (0,0)))(N:Nums w va at_)(ha:at_.length<=1000000)(hn:DN nS at_ k=false):
  ae 117 #[.pointer (some ⟨cb,0,none⟩),va,.int .i64 k,.string tag] w λe w'=>e= .returned (.tuple #[.slice none 0 0,.int .i64 0,errVal 1])∧w'=w:=by
 have c0:w.cell? ⟨cb,0,none⟩=some (.int .i64 nS):=by rw[aO _ _ _ _ _ (0,0) hC];rfl
 have h:=Xo nS va at_ k w N ha;rw[hn]at h;clear hC;go_enter Tryz.func117,Tryz.ntmps117;go_wp2_with fail;refine h.mono ?_;rintro e w' ⟨rfl,hw⟩;subst w';go_wp2_with fail
 go_ret3
 exact⟨rfl,rfl⟩
theorem X3(cb nS:Nat)(cv va:Value)(bs:List (Nat×Value))(cs:List Cell)(l:List oK)(at_:List Int)(k:Int)(tag:af)(base:Nat)(w:World)(H:pW w base cb nS cv bs cs)(O:yD cs l)(A:YJ l at_ nS)(N:Nums w va at_)(hnum:∀x∈l,Nums w x.av x.ns)(hl:l.length<=1000)(hn:DN nS at_ k=true):
  ae 117 #[.pointer (some ⟨cb,0,none⟩),va,.int .i64 k,.string tag] w λe w'=>∃(v':Value) (looked:Nat),e= .returned (.tuple #[v',.int .i64 looked,.nilIface])∧sQ w' v' 2 yG (tV l at_ k tag)∧looked<=l.length∧(∀b,v'.ownBlock=some b->w.heap.size<=b)∧Keep nM w w':=by
 have c0:w.cell? ⟨cb,0,none⟩=some (.int .i64 nS):=by rw[aO _ _ _ _ _ (0,0) H.head];rfl
 have c1:w.cell? ⟨cb,1,none⟩=some cv:=by rw[aO _ _ _ _ _ (0,0) H.head];rfl
 have hda:=A.len;have hask:=Xo nS va at_ k w N (by have:=A.le;omega);rw[hn]at hask;have hk1:1<=k∧k<=60:=by simp only[DN,aZ,aS]at hn;omega
 obtain⟨K0,rfl⟩:∃K0:Nat,k=K0:=⟨k.toNat,by omega⟩
 have hK0:1<=K0∧K0<=60:=by omega
 have hap:Apart bs:=H.ptr;have hlen:=H.len;have hcs:=O.len;obtain⟨pc,cc,rfl⟩:=Cells.Y3 H;obtain⟨n,hnb⟩:∃n,n=bs.length:=⟨_,rfl⟩
 obtain⟨F,hF⟩:∃F,F=FV cs bs at_ nS:=⟨_,rfl⟩
 have hFl:F.length=n:=by rw[hF,zc6 hlen,hnb,hlen]
 rw[<-hnb]at c1 H;obtain⟨i0,hi0,hz0,hs0,hb0⟩:=zhi;have HH:=ag H;have HO:=ag O;have HA:=ag A;have HN:=ag N;have MP:=ag hnb;have HF:=ag hF;have HFl:=ag hFl;have Hlen:=ag hlen;have Hap:=ag hap;have Hn:=ag hn;have zlF:n<=1000:=by omega
 have tq:=ag hnum;clear H O A N hnb hF hFl hap hda hlen hcs hn hnum;go_enter Tryz.func117,Tryz.ntmps117;go_wp2_with fail;refine hask.mono ?_;rintro e w1 ⟨rfl,hw1⟩;subst w1;clear hask;go_wp2_with fail
 go_loopw [11,34] (λov iv wr=>∃(j:Nat) (o:Value),iv= .int .i64 j∧o=ov∧j<=n∧Hid (nV wr w.heap.size 220 2 o (F.take j).length ((F.take j).flatMap oW))∧Keep nM w wr) (λ_ iv _=>n-(intOf iv).toNat)
 case atStart=>exact⟨0,_,rfl,rfl,by omega,ag (nV.nil _ _ _ _),ah _ _⟩
 case round=>
  obtain⟨j,o,rfl,rfl,hj,hO,K⟩:=hrel;by_cases hlt:j<n
  ·have j1:(j:Int)<n:=by omega
   obtain⟨c,hc⟩:∃c,cs[j]? =some c:=⟨_,aC (by have:=Hlen.out;have:=MP.out;omega)⟩
   obtain⟨b,hb⟩:=HH.out.get hc;have Hr:=HH.out.oz K;have hbc:=Hr.cell j b c hb hc;obtain⟨g,cap,hv,-,-⟩:=Hr.row.some (by have:=MP.out;omega);cases hv;have ck:=Hr.row.cells rfl j (.pointer (some ⟨b.1,0,none⟩)) (by rw[ptrs,bC,hb];rfl);rw[WW]at ck;obtain⟨x,hx,hcx⟩:=HO.out.at_ c (bg hc);have hxn:=HA.out.ns x hx;have zia:=λq=>zem cb b.1 nS _ at_ c.1 b.2 va (wr.drewN q) hbc.2.1 (λk=>by rw[hcx];exact ze8 x hxn.1 k) HA.out.num HA.out.le HA.out.len (HN.out.keep (K.drewN q) (λ_ _ x=>x)) Hr.head hbc.1;have hfg:=zc7 (at_:=at_) (nS:=nS) hb hc;rw[<-HF.out]at hfg;obtain⟨bp,hbp⟩:∃bp,bp=b.1:=⟨_,rfl⟩
   obtain⟨ln,hln⟩:∃ln,ln=wQ c.1 at_ nS:=⟨_,rfl⟩
   rw[<-hbp]at ck zia hfg;rw[<-hln]at zia hfg;have Hfg:=ag hfg;have zjO:ae 157 #[.pointer (some ⟨cb,0,none⟩),.pointer (some ⟨bp,0,none⟩),va] wr λe w'=>e= .returned (.int .i64 ln)∧∃q,w'=wr.drewN q:=zia 0;clear zia hfg hbp hln hcx hxn hx hbc Hr hb hc;go_wp2_with fail;refine zjO.mono ?_;rintro e w2 ⟨rfl,q2,rfl⟩;clear zjO;have hown:nV ((wr.drewN q2).alloc (.cells #[.int .i64 ln,.pointer (some ⟨bp,0,none⟩)] 220)) w.heap.size 220 2 o (F.take j).length ((F.take j).flatMap oW):=(hO.out.drewN q2).alloc _;have hsz:=K.size;have hFj:(F.take j).length=j:=by rw[bG];have:=HFl.out;omega
   rw[hFj]at hown;go_wp2_with (refine qc _ rfl (.tmp 38) (.tmp 45) 217 rfl w.heap.size 220 i0 _ 2 16 Tryz.underlying217 hi0 hz0 hs0 hb0 rfl (by decide) _ j _ rfl hown ⟨wr.heap.size,0,none⟩ 1 1 [.int .i64 ln,.pointer (some ⟨bp,0,none⟩)] rfl rfl (qj (wr.drewN q2) _ _) (by intro u hu;simp only[bK,lY,jY]at hu;rcases hu with rfl|rfl<;>rfl) (by unfold maxLen;omega) (by omega) (by show w.heap.size<=(wr.heap.push _).size;rw[dY];omega) ?_;intro v' w' own' hg)
   have hK':Keep nM w w':=((K.drewN q2).alloc _).grown hg (λb hb=> .inr (hown.lt b hb).1);refine⟨⟨j+1,_,by go_num,rfl,by omega,ag ?_,hK'⟩,by simp[intOf];omega⟩;have e1:F.take (j+1)=F.take j++ [(ln,bp)]:=by
    have hj2:=(aN.1 Hfg.out)
    rw[aT hj2.1,hj2.2]
   rw[e1,ay,hFj,cZ,df,iY,dJ];exact own'
  ·obtain rfl:j=n:=by omega
   have hFt:F.take j=F:=aV (by have:=HFl.out;omega);have ho:=hO.out;rw[hFt]at ho;have hsort:=XD _ F w.heap.size wr ho (by have:=HFl.out;omega);have Fq:=ag hsort;obtain⟨po,co,rfl⟩:=nV.sl ho;have Ho:=ag ho;obtain⟨m,hm⟩:∃m,m=F.length:=⟨_,rfl⟩
   have hmj:m=j:=by rw[hm];exact HFl.out
   have hm1000:m<=1000:=by omega
   rw[<-hm]at Fq Ho;rw[<-hm];have Hm:=ag hm;have Hmj:=ag hmj;clear hO ho hsort hFt hm hmj;go_wp2_with fail;refine Fq.out.mono ?_;rintro e w2 ⟨rfl,d',⟨hdp,hds⟩,hown,K2⟩;have hFO:Vf d'.toList cs bs at_ nS:=zhk (d:=F.toArray) (by rw[<-HF.out]) (by rw[show F.toArray.size=m by rw[Hm.out];simp];exact hdp) (by rw[show F.toArray.size=m by rw[Hm.out];simp];exact hds);have hDl:d'.toList.length=m:=by have:=hdp.1;simp at this⊢;rw[this,Hm.out]
   obtain⟨D,hD⟩:∃D,D=d'.toList:=⟨_,rfl⟩
   rw[<-hD]at hFO hDl hown;have KD:Keep nM w w2:=K.trans K2 (λi hi hs=>absurd hi (nD.2 hs));have HFO:=ag hFO;have HDl:=ag hDl;have MX:=ag hown;clear hdp hds hFO hDl hown hD Fq Ho K2 K;go_wp2_with fail
   go_loopw [14,15,52] (λov lv iv wr=>∃(i:Nat) (o:Value),iv= .int .i64 i∧o=ov∧lv= .int .i64 (uo cs bs D i).length∧i<=m∧Hid (nV wr w2.heap.size 116 2 o (tV (uo cs bs D i) at_ K0 tag).length ((tV (uo cs bs D i) at_ K0 tag).flatMap yG))∧Keep nM w2 wr) (λ_ _ iv _=>m-(intOf iv).toNat)
   case atStart=>exact⟨0,_,rfl,rfl,by rw[uo,bZ];rfl,by omega,ag (by rw[uo,bZ,iY,zgw];exact nV.nil _ _ _ _),ah _ _⟩
   case round=>
    obtain⟨i,o,rfl,rfl,rfl,hi,hO,K⟩:=hrel;by_cases hlt:i<m
    ·have i1:(i:Int)<m:=by omega
     obtain⟨y,hy⟩:∃y,D[i]? =some y:=⟨_,aC (by have:=HDl.out;omega)⟩
     obtain⟨ci,b,c,hb,hc,hye⟩:=zc5 (HFO.out.perm.mem_iff.1 (bg hy));have hbi:sH cs bs y.2=c.2:=by rw[hye];exact DJ Hap.out hb hc
     have hsu:=zdY (cs:=cs) (bs:=bs) hy;rw[hbi]at hsu;have Kr:=KD.nK K;have Hr:=HH.out.oz Kr;have hbc:=Hr.cell ci b c hb hc;have hyp:y.2=b.1:=by rw[hye]
     have Ow:=MX.out.keep K (λ_ _ x=>x);obtain⟨g2,cap2,hv,-,-⟩:=Ow.some (by omega);cases hv;have hfy:∀t u,(oW y)[t]? =some u->(D.flatMap oW)[i*2+t]? =some u:=λt u hu=>by have ht:t<2:=(aN.1 hu).1;rw[flat_get CQ D i t ht,hy];exact hu
     have y0:=Ow.cells rfl (i*2+0) _ (hfy 0 _ rfl);have y1:=Ow.cells rfl (i*2+1) _ (hfy 1 _ rfl);rw[WW,jL]at y0;rw[WW]at y1;obtain⟨bp,bv⟩:=b;simp only at hbc hyp;obtain⟨pb,cb2,hbv⟩:=nV.sl hbc.2.2;obtain⟨nI,hnI⟩:∃x,x=c.2.length:=⟨_,rfl⟩
     rw[<-hnI]at hbv;subst hbv;have d8:wr.cell? ⟨bp,8,none⟩=some (.slice pb nI cb2):=by rw[aO _ _ _ _ _ (0,0) hbc.1,aj,cu (by rw[tu,aI,hbc.2.1];omega),tu,aI,hbc.2.1];rfl
     have e0:wr.cell? ⟨cb,0,none⟩=some (.int .i64 nS):=by rw[aO _ _ _ _ _ (0,0) Hr.head];rfl
     have hsub:∀x∈c.2,x∈l:=λx hx=>HO.out.perm.mem_iff.1 (kQ.2 ⟨c,bg hc,hx⟩);have hcl:c.2.length<=1000:=by have h1:=Ql HFO.out HO.out Hap.out Hlen.out (i+1);rw[hsu,ay]at h1;omega
     have hT:∀w3,Keep nM wr w3->ae 161 #[.int .i64 nS,.slice pb nI cb2,va,.int .i64 K0,.string tag] w3 λe w'=>∃v',e= .returned (.tuple #[v',.nilIface])∧sQ w' v' 2 yG (tV c.2 at_ K0 tag)∧((∀b,v'.ownBlock=some b->w3.heap.size<=b)∧zj6 v')∧Keep nM w3 w':=λw3 K3=>
      ziG nS _ c.2 va at_ K0 tag w3 ⟨sQ.vN AY (by have:=hbc.2.2.keep K3 (λ_ _ x=>x);rw[hnI]at this⊢;exact this),λx hx=>(tq.out x (hsub x hx)).keep (Kr.nK K3) (λ_ _ x=>x)⟩ (HN.out.keep (Kr.nK K3) (λ_ _ x=>x)) hcl (by have:=HA.out.len;have:=HA.out.le;omega) (λx hx=>by have:=HA.out.ns x (hsub x hx);have:=HA.out.le;omega) Hn.out
     obtain⟨yn,yp⟩:=y;simp only at hyp y0 y1;subst hyp;have HT:=ag hT;have MM:=ag hsu;have Hy:=ag hy;have Hbi:=ag hbi;have HnI:=ag hnI;have Hcl:=ag hcl;clear hT hsu hy hbi hnI hbc hsub hfy Ow hb hc hye Hr hcl;obtain⟨T,hT⟩:∃T,T=tV (uo cs bs D i) at_ K0 tag:=⟨_,rfl⟩
     have hO2:=hO.out;rw[<-hT]at hO2;have hTl:T.length<=K0:=by rw[hT];have:=YP (uo cs bs D i) at_ K0 tag;omega
     obtain⟨po2,co2,ho2⟩:=nV.sl hO2;obtain⟨tn,htn⟩:∃tn,tn=T.length:=⟨_,rfl⟩
     rw[<-htn]at hO2 ho2 hTl;subst ho2;have HT2:=ag hT;have Htn:=ag htn;have HO2:=ag hO2;have hw1:IntKind.i64.wrap ((K0:Int)-1)=((K0-1:Nat):Int):=by rw[aW _ (by omega)];omega
     clear hO hT htn
     go_upto_if 70 with fail
     go_cut [70] (λbv wx=>∃(Bo:Bool) (q:Nat),bv= .bool Bo∧wx=(wr.alloc (.cells #[.int .i64 yn,.pointer (some ⟨yp,0,none⟩)] 220)).drewN q∧Hid (Bo=true->tV (uo cs bs D i) at_ K0 tag=tV l at_ K0 tag))
     case first=>
      by_cases hfull:tn=K0
      ·have hz0:∃z,T[K0-1]? =some z:=⟨_,aC (by have:=Htn.out;omega)⟩
       obtain⟨z,hz⟩:=hz0;obtain⟨g3,cap3,hv3,-,-⟩:=hO2.some (by omega);cases hv3;have zc:=hO2.cells rfl ((K0-1)*2+1) (.int .i64 z.2) (by rw[flat_get wI T _ 1 (by omega),hz];rfl);rw[WW]at zc;obtain⟨zn,zd⟩:=z;simp only at zc;have zc2:=(((ah nM wr).alloc (.cells #[.int .i64 yn,.pointer (some ⟨yp,0,none⟩)] 220)).cell (p:=⟨g3,(K0-1)*2+1,none⟩) (hO2.lt g3 rfl).2 (λx=>x)).trans zc;have HZ:=ag hz;subst hfull;have hlt2:tn-1<tn:=by omega
       by_cases hbr:zd<yn
       ·clear hz hO2
        go_quiet (fail)
        go_wp2_with fail;have hstop:=zbE HFO.out HO.out HA.out Hap.out Hlen.out (tn:Int) tag Hy.out (by omega) (by rw[<-HT2.out,<-Htn.out];omega) (zn,zd) (by rw[<-HT2.out];exact HZ.out) hbr;go_meet
        case rel=>exact⟨true,_,rfl,rfl,ag (λ_=>hstop)⟩
       ·clear hz hO2
        go_quiet (fail)
        go_wp2_with fail;go_meet
        case rel=>exact⟨false,_,rfl,rfl,ag (λh=>by cases h)⟩
      ·clear hO2;have hne:¬((tn:Int)=K0):=by omega
       go_quiet (fail)
       go_wp2_with fail;go_meet
       case rel=>exact⟨false,_,rfl,rfl,ag (λh=>by cases h)⟩
     case rest=>
      obtain⟨Bo,q,rfl,rfl,HBo⟩:=hcut;have Kw:Keep nM wr ((wr.alloc (.cells #[.int .i64 yn,.pointer (some ⟨yp,0,none⟩)] 220)).drewN q):=((ah _ _).alloc _).drewN q;cases Bo with
      | true=>
       have hle:=Ql HFO.out HO.out Hap.out Hlen.out i;go_wp2_with fail
       go_ret3
       refine⟨_,_,rfl,?_,hle,λb hb=>bH KD.size (HO2.out.lt b hb).1,KD.nK (K.nK Kw)⟩;rw[<-HBo.out trivial,<-HT2.out];exact sQ.vN wI (by rw[<-Htn.out];exact HO2.out.keep Kw (λ_ _ x=>x))
      | false=>
      go_wp2_with fail;have f1:((wr.alloc (.cells #[.int .i64 yn,.pointer (some ⟨yp,0,none⟩)] 220)).drewN q).cell? ⟨wr.heap.size,1,none⟩=some (.pointer (some ⟨yp,0,none⟩)):=by show(wr.alloc (.cells #[.int .i64 yn,.pointer (some ⟨yp,0,none⟩)] 220)).cell? ⟨wr.heap.size,1,none⟩=_;rw[aO _ _ _ _ _ (0,0) (aG wr _)];rfl
      have hB:wr.heap.size<((wr.alloc (.cells #[.int .i64 yn,.pointer (some ⟨yp,0,none⟩)] 220)).drewN q).heap.size:=by show wr.heap.size<(wr.heap.push _).size;rw[dY];omega
      have hyl:yp<wr.heap.size:=Lib.lt_of_cell d8;have hcl0:cb<wr.heap.size:=Lib.lt_of_cell e0;obtain⟨w4,hw4⟩:∃w4,w4=(wr.alloc (.cells #[.int .i64 yn,.pointer (some ⟨yp,0,none⟩)] 220)).drewN q:=⟨_,rfl⟩
      obtain⟨B,hBe⟩:∃B,B=wr.heap.size:=⟨_,rfl⟩
      rw[<-hw4]at Kw f1 hB⊢;rw[<-hBe]at f1 hB⊢;have d8':=(Kw.cell (p:=⟨yp,8,none⟩) hyl (λx=>x)).trans d8;have e0':=(Kw.cell (p:=⟨cb,0,none⟩) hcl0 (λx=>x)).trans e0;have HKw:=ag Kw;have zl4:yp<w4.heap.size:=dA hyl Kw.size;have HO4:=ag (HO2.out.keep Kw (λ_ _ x=>x));clear hw4 hBe Kw d8 e0 hO2 y0 y1
      go_cut [18,19] (λmv ev wx=>ev= .nilIface∧Hid (sQ wx mv 2 yG (tV c.2 at_ K0 tag))∧Keep nM w4 wx)
      case first=>
       go_region_with (go_at_call 161;refine(HT.out _ (HKw.out.drewN 1)).mono ?_;rintro e w5 ⟨v5,rfl,R5,-,K5'⟩)
       all_goals (have zp4:=ag R5;clear R5;go_wp2_with fail;go_meet;exact⟨rfl,zp4,((ah nM w4).drewN 1).nK K5'⟩)
      case rest=>
      obtain⟨rfl,R5',K5⟩:=hcut;have R5:=R5'.out;obtain⟨v5,rfl⟩:∃v5,v5=u18:=⟨_,rfl⟩
      obtain⟨w5,rfl⟩:∃w5,w5=wc:=⟨_,rfl⟩
      clear R5';have f1':=(K5.cell (p:=⟨B,1,none⟩) hB (λx=>x)).trans f1;have d8'':=(K5.cell (p:=⟨yp,8,none⟩) zl4 (λx=>x)).trans d8';have HO5:=ag (HO4.out.keep K5 (λ_ _ x=>x));have HR5:=ag R5;have HK5:=ag (HKw.out.nK K5);have QK:(uo cs bs D i).length+nI=(uo cs bs D (i+1)).length:=by rw[MM.out,ay,<-HnI.out]
      have hsl:=Ql HFO.out HO.out Hap.out Hlen.out (i+1);have hwr:IntKind.i64.wrap (((uo cs bs D i).length:Int)+nI)=((uo cs bs D (i+1)).length:Int):=by rw[aW _ (by omega)];omega
      have Hsl:=ag hsl;have Hseen:=ag QK;clear f1 d8' e0' R5 K5 QK hsl HO4 HKw hB hyl zl4 hcl0;obtain⟨sn,hsn⟩:∃sn,sn=(uo cs bs D i).length:=⟨_,rfl⟩
      obtain⟨sn1,zkz⟩:∃sn,sn=(uo cs bs D (i+1)).length:=⟨_,rfl⟩
      rw[<-hsn,<-zkz]at hwr;rw[<-hsn];have zpw:=ag zkz;clear hsn zkz;obtain⟨C,hC⟩:∃C,C=tV c.2 at_ K0 tag:=⟨_,rfl⟩
      rw[<-hC]at HR5;have hCl:C.length<=K0:=by rw[hC];have:=YP c.2 at_ K0 tag;omega
      have HC:=ag hC;clear hC;obtain⟨i9,hi9,hz9,hs9,hb9⟩:=Tm;have zlH:w2.heap.size<=w5.heap.size:=bH K.size HK5.out.size;have X4:∀(a:Act) (ops:Array Oper) (rest:List Oper) (o:Oper) (Q:Exit->Act->World->Prop),o.guard=none->o.op= .call { callee:= .builtin .append,args:= #[.tmp 98,.tmp 99],argTypes:= #[112,112] }->a.eval (.tmp 98)= .slice po2 tn co2->a.eval (.tmp 99)=v5->
        (∀v6 w6,nV w6 w2.heap.size 116 2 v6 (T++C).length ((T++C).flatMap yG)->Keep (λb=>w2.heap.size<=b) w5 w6->wpList Tryz.prog ops Q rest (a.put o.dst v6) w6)->wpList Tryz.prog ops Q (o::rest) a w5:=by
       intro a ops rest o Q h1 h2 h3 h4 h5;refine JD h1 (.tmp 98) (.tmp 99) 112 h2 w2.heap.size 116 i9 _ 24 Tryz.underlying112 hi9 hz9 hs9 hb9 rfl (by decide) wI _ tn _ h3 HO5.out v5 C h4 HR5.out (zex C) (by unfold maxLen;omega) (by omega) zlH ?_;intro v6 w6 h6 h7;exact h5 v6 w6 (by rw[ay,<-Htn.out,cZ];exact h6) h7
      have Yh:=ag X4;clear X4;go_wp2_with (refine Yh.out _ _ _ _ _ rfl rfl rfl rfl ?_;intro v6 w6 WB K6);have hTC:(T++C).length<=1000000:=by rw[ay,<-Htn.out];omega
      have hso:=TR v6 (T++C) w2.heap.size w6 WB hTC;obtain⟨p6,c6,rfl⟩:=nV.sl WB;obtain⟨N6,hN6⟩:∃N6,N6=(T++C).length:=⟨_,rfl⟩
      rw[<-hN6]at WB hso;rw[<-hN6];have hcap6:N6<=c6:=by
       rcases WB.2 with⟨h,hn⟩|⟨_,_,_,_,h,_,_,_,hc,_⟩
       ·cases h;omega
       ·cases h;exact hc
      have Hso:=ag hso;have HN6:=ag hN6;have HK6:=ag (HK5.out.vN.trans (S':=λb=>w2.heap.size<=b) K6 (λ_ _ h=>h));clear hso WB hN6 K6;go_wp2_with fail;refine Hso.out.mono ?_;rintro e w7 ⟨rfl,zfk,K7⟩;have hmin:(min (K0:Int) N6)=((min K0 N6:Nat):Int):=by omega
      have hm6:min K0 N6<=c6:=by omega
      have htop:tV (uo cs bs D (i+1)) at_ K0 tag=(sU (T++C)).take (min K0 N6):=by rw[MM.out,<-zgv,<-HT2.out,<-HC.out];show(sU (T++C)).take K0=_;rw[<-List.take_take,aV (i:=N6) (by rw[ND,<-HN6.out];exact aF _)]
      have zl1:nV w7 w2.heap.size 116 2 (.slice p6 (min K0 N6) c6) (tV (uo cs bs D (i+1)) at_ K0 tag).length ((tV (uo cs bs D (i+1)) at_ K0 tag).flatMap yG):=by
       have hlen:(tV (uo cs bs D (i+1)) at_ K0 tag).length=min K0 N6:=by rw[htop,bG,ND,<-HN6.out];omega
       rw[hlen,htop,<-V4 wI];rcases zfk.2 with⟨h,hn⟩|⟨g7,_,_,_,h,_⟩
       ·cases h
        rw[hn,kP (dL _),mO,bZ];exact nV.nil _ _ _ _
       ·cases h
        exact zfk.take _ (by omega)
      have HE:=ag zl1;have KE:Keep nM w2 w7:=K.trans (HK6.out.trans K7 (λ_ _ h=>h)) (λi hi hs=>absurd hi (nD.2 hs));clear zfk K7 htop zl1;go_wp2_with fail;exact⟨⟨i+1,_,by go_num,rfl,by rw[<-zpw.out],by omega,HE,KE⟩,by simp[intOf];omega⟩
    ·obtain rfl:i=m:=by omega
     have hfin:=zgN HFO.out HO.out Hap.out Hlen.out (K0:Int) tag;rw[HDl.out]at hfin;have ho:=hO.out;rw[hfin]at ho;have hle:=Ql HFO.out HO.out Hap.out Hlen.out i;have hR:=sQ.vN wI ho;have hnw:∀b,o.ownBlock=some b->w.heap.size<=b:=λb hb=>bH KD.size (ho.lt b hb).1;have Hnw:=ag hnw;clear hnw;have Ho:=ag hR;clear hO ho hfin hR;go_wp2_with fail
     go_ret3
     exact⟨_,_,rfl,Ho.out,hle,Hnw.out,KD.nK K⟩
end
end Go.Proofs.YtopbkdebihcmcaaGreatDoor
