import Derived.Test.YtnmhgehpddipdaaGreatDoorYAC
import Derived.Test.YtnmhgehpddipdaaGreatDoorYBF
import Derived.Test.YtnmhgehpddipdaaGreatDoorYBH
import Derived.Lib.SlKept
import Derived.Lib.AtoiErrMem
import Derived.Deep.RegionWith
set_option linter.unusedSimpArgs false
set_option linter.unusedVariables false
namespace Go.Cof
open Go.RowKit
section
variable {w:World}{base:Nat}{e:TypeId}{size:Nat}{v:Value}{n:Nat}{xs:List Value}
end
section
variable {α:Type}{enc:α->List Value}
end
end Go.Cof
namespace Go.Proofs.YtnmhgehpddipdaaGreatDoor
open Go.RowKit Go.Cof Go.Sort Go.Shelf
end Go.Proofs.YtnmhgehpddipdaaGreatDoor
namespace Go.Proofs.YtnmhgehpddipdaaGreatDoor
open Go.RowKit Go.Cof Go.Sort Go.Shelf
def ptrs(bs:List (Nat×Value)):List Value:=bs.map λb=> .pointer (some ⟨b.1,0,none⟩)
structure CellsAt(w:World)(base C:Nat)(dim:Nat)(v:Value)(bs:List (Nat×Value))(cs:List Cell):Prop where
 head:w.heap[C]? =some (.cells #[.int .i64 dim,v] 163 (0,0))
 row:OwnsN w base 165 1 v bs.length (ptrs bs)
 len:bs.length=cs.length
 cell:∀(i:Nat) (b:Nat×Value) (c:Cell),bs[i]? =some b->cs[i]? =some c->w.heap[b.1]? =some (.cells (ints8 c.1++ [b.2]).toArray 175 (0,0))∧c.1.length=8∧OwnsN w base 47 3 b.2 c.2.length (c.2.flatMap encItem)
 ptr:∀(i j:Nat) (b b':Nat×Value),bs[i]? =some b->bs[j]? =some b'->b.1=b'.1->i=j
 own:∀(i j:Nat) (b b':Nat×Value) (g:Nat),bs[i]? =some b->bs[j]? =some b'->b.2.ownBlock=some g->b'.2.ownBlock=some g->i=j
 low:base<=C∧∀b∈bs,base<=b.1
theorem setCell_heap3{w:World}{B i:Nat}{cur:Array Value}{E:TypeId}{fz:Nat×Nat}(h:w.heap[B]? =some (.cells cur E fz))(u:Value):(w.setCell ⟨B,i,none⟩ u).heap[B]? =some (.cells (cur.setIfInBounds i u) E fz):=by
 have hlt:=lt_of_heap h
 have h':w.heap[B]= .cells cur E fz:=by simpa [Array.getElem?_eq_getElem hlt]using h
 show(w.heap.modify B _)[B]? =_
 rw[Array.getElem?_eq_getElem (by simpa using hlt),Array.getElem_modify_self,h']
 rfl
theorem two_types{w:World}{g:Nat}{c c':Array Value}{t t':TypeId}{f f':Nat×Nat}(h:w.heap[g]? =some (.cells c t f))(h':w.heap[g]? =some (.cells c' t' f')):t=t':=by
 rw[h]at h'
 have:=Option.some.inj h'
 simp only[Obj.cells.injEq]at this
 exact this.2.1
theorem own_type{w:World}{base:Nat}{e:TypeId}{size:Nat}{v:Value}{n:Nat}{xs:List Value}(h:OwnsN w base e size v n xs){g:Nat}(hg:v.ownBlock=some g):∃c f,w.heap[g]? =some (.cells c e f):=by
 rcases h.2 with⟨hv,_⟩|⟨g',cap,cur,fz,hv,_,hh,_⟩
 ·rw[hv]at hg;cases hg
 ·rw[hv]at hg
  obtain rfl:g'=g:=Option.some.inj hg
  exact⟨_,_,hh⟩
section
variable {w w' W:World}{base C dim:Nat}{v v':Value}{bs:List (Nat×Value)}{cs:List Cell}
theorem CellsAt.get(h:CellsAt w base C dim v bs cs){i:Nat}{c:Cell}(hc:cs[i]? =some c):∃b,bs[i]? =some b:=by
 have:=(List.getElem?_eq_some_iff.1 hc).1
 exact⟨_,List.getElem?_eq_getElem (by rw[h.len];exact this)⟩
theorem CellsAt.cellOf(h:CellsAt w base C dim v bs cs){i:Nat}{b:Nat×Value}(hb:bs[i]? =some b):∃c,cs[i]? =some c:=by
 have:=(List.getElem?_eq_some_iff.1 hb).1
 exact⟨_,List.getElem?_eq_getElem (by rw[<-h.len];exact this)⟩
theorem CellsAt.keep(h:CellsAt w base C dim v bs cs){S:Nat->Prop}(K:Keep S w w')(hS:∀b,base<=b->b<w.heap.size->¬S b):CellsAt w' base C dim v bs cs:=
 ⟨K.heap h.head (hS C h.low.1 (lt_of_heap h.head)),h.row.keep K (λb hb=>hS b (h.row.lt b hb).1 (h.row.lt b hb).2),h.len,λi b c hb hc=>by
  have h1:=h.cell i b c hb hc
  exact⟨K.heap h1.1 (hS b.1 (h.low.2 b (List.mem_of_getElem? hb)) (lt_of_heap h1.1)),h1.2.1,h1.2.2.keep K (λg hg=>hS g (h1.2.2.lt g hg).1 (h1.2.2.lt g hg).2)⟩,h.ptr,h.own,h.low⟩
theorem CellsAt.keepN(h:CellsAt w base C dim v bs cs)(K:Keep NoB w w'):CellsAt w' base C dim v bs cs:=h.keep K (λ_ _ _ x=>x)
theorem CellsAt.more(h:CellsAt w base C dim v bs cs)(K:Keep NoB w W)(hb:base<=w.heap.size){P:Nat}{m:List Int}(hP:w.heap.size<=P)(hPb:W.heap[P]? =some (.cells (ints8 m++ [Value.slice none 0 0]).toArray 175 (0,0)))(hm:m.length=8)
  (own':OwnsN w' base 165 1 v' (bs.length+1) (ptrs bs++ [.pointer (some ⟨P,0,none⟩)])) (hg:W.grownBy w' v.ownBlock):
  CellsAt (w'.setCell ⟨C,1,none⟩ v') base C dim v' (bs++ [(P,.slice none 0 0)]) (cs++ [(m,[])])∧Keep (λb=>base<=b) w (w'.setCell ⟨C,1,none⟩ v'):=by
 have hW:=h.keepN K
 have ne1:∀ {g:Nat} {c:Array Value} {t:TypeId} {f:Nat×Nat},W.heap[g]? =some (.cells c t f)->t≠165->w'.heap[g]? =some (.cells c t f):=by
  intro g c t f hgc ht
  rw[hg.block g (lt_of_heap hgc) (λe=> ?_)]
  ·exact hgc
  ·obtain⟨c',f',hh⟩:=own_type hW.row e.symm
   exact ht (two_types hgc hh)
 have hC':=ne1 hW.head (by decide)
 have hCl:=lt_of_heap hC'
 have KC:Keep (OneB C) w' (w'.setCell ⟨C,1,none⟩ v'):=(Keep.refl (OneB C) w').set1 1 v'
 have nC:∀ {g:Nat} {c:Array Value} {t:TypeId} {f:Nat×Nat},w'.heap[g]? =some (.cells c t f)->t≠163->g≠C:=by
  intro g c t f h1 ht e
  subst e
  exact ht (two_types h1 hC')
 have hrow:∀g,v'.ownBlock=some g->¬OneB C g:=λg hgv hgc=>by
  obtain⟨c',f',hh⟩:=own_type own' hgv
  exact nC hh (by decide) hgc
 have hPb':=ne1 hPb (by decide)
 refine⟨⟨?_,?_,by rw[List.length_append,List.length_append,h.len];rfl,?_,?_,?_,⟨h.low.1,λb hb'=> ?_⟩⟩,?_⟩
 ·have:=setCell_heap3 (i:=1) hC' v'
  exact this
 ·have:OwnsN w' base 165 1 v' (bs++ [(P,Value.slice none 0 0)]).length (ptrs (bs++ [(P,Value.slice none 0 0)])):=by
   rw[List.length_append,ptrs,List.map_append]
   exact own'
  exact this.keep KC hrow
 ·intro i b c hb' hc'
  by_cases hi:i<bs.length
  ·rw[List.getElem?_append_left hi]at hb'
   rw[List.getElem?_append_left (by rw[<-h.len];exact hi)]at hc'
   have h1:=hW.cell i b c hb' hc'
   refine⟨KC.heap (ne1 h1.1 (by decide)) (nC (ne1 h1.1 (by decide)) (by decide)),h1.2.1,?_⟩
   have h2:OwnsN w' base 47 3 b.2 c.2.length (c.2.flatMap encItem):=by
    refine⟨h1.2.2.1,?_⟩
    rcases h1.2.2.2 with h3|⟨g,cap,cur,fz,hv,hbg,hh,r⟩
    ·exact .inl h3
    ·exact .inr ⟨g,cap,cur,fz,hv,hbg,ne1 hh (by decide),r⟩
   exact h2.keep KC (λg hgv hgc=>by
    obtain⟨c',f',hh⟩:=own_type h2 hgv
    exact nC hh (by decide) hgc)
  ·rw[List.getElem?_append_right (by omega)]at hb'
   rw[List.getElem?_append_right (by rw[<-h.len];omega)]at hc'
   rw[<-h.len]at hc'
   obtain⟨k,hk⟩:∃k,k=i-bs.length:=⟨_,rfl⟩
   rw[<-hk]at hb' hc'
   cases k with
   | succ k=>simp at hb'
   | zero=>
    obtain rfl:(P,Value.slice none 0 0)=b:=by simpa using hb'
    obtain rfl:(m,[])=c:=by simpa using hc'
    exact⟨KC.heap hPb' (nC hPb' (by decide)),hm,OwnsN.nil _ _ _ _⟩
 ·intro i j b b' h1 h2 e
  have lt:∀(i:Nat) (b:Nat×Value),i<bs.length->(bs++ [(P,Value.slice none 0 0)])[i]? =some b->bs[i]? =some b∧b.1<w.heap.size:=by
   intro i b hi hb
   rw[List.getElem?_append_left hi]at hb
   obtain⟨c,hc⟩:=h.cellOf hb
   exact⟨hb,lt_of_heap (h.cell i b c hb hc).1⟩
  have ge:∀(i:Nat) (b:Nat×Value),¬i<bs.length->(bs++ [(P,Value.slice none 0 0)])[i]? =some b->i=bs.length∧b.1=P:=by
   intro i b hi hb
   have hl:=(List.getElem?_eq_some_iff.1 hb).1
   rw[List.length_append,List.length_singleton]at hl
   obtain rfl:i=bs.length:=by omega
   rw[List.getElem?_append_right (Nat.le_refl _),Nat.sub_self]at hb
   obtain rfl:(P,Value.slice none 0 0)=b:=by simpa using hb
   exact⟨rfl,rfl⟩
  by_cases hi:i<bs.length<;>by_cases hj:j<bs.length
  ·exact h.ptr i j b b' (lt i b hi h1).1 (lt j b' hj h2).1 e
  ·have:=(lt i b hi h1).2;have:=(ge j b' hj h2).2;omega
  ·have:=(lt j b' hj h2).2;have:=(ge i b hi h1).2;omega
  ·have:=(ge i b hi h1).1;have:=(ge j b' hj h2).1;omega
 ·intro i j b b' g h1 h2 e1 e2
  have old:∀(i:Nat) (b:Nat×Value),(bs++ [(P,Value.slice none 0 0)])[i]? =some b->b.2.ownBlock=some g->bs[i]? =some b:=by
   intro i b hb hg
   by_cases hi:i<bs.length
   ·rwa [List.getElem?_append_left hi]at hb
   ·have hl:=(List.getElem?_eq_some_iff.1 hb).1
    rw[List.length_append,List.length_singleton]at hl
    obtain rfl:i=bs.length:=by omega
    rw[List.getElem?_append_right (Nat.le_refl _),Nat.sub_self]at hb
    obtain rfl:(P,Value.slice none 0 0)=b:=by simpa using hb
    cases hg
  exact h.own i j b b' g (old i b h1 e1) (old j b' h2 e2) e1 e2
 ·rcases List.mem_append.1 hb' with hb'|hb'
  ·exact h.low.2 b hb'
  ·rw[List.mem_singleton.1 hb'];exact Nat.le_trans hb hP
 ·refine(K.ofN.trans (S':=λb=>base<=b) ?_ (λi hi hs=>hs))
  exact((Keep.refl (λb=>base<=b) W).grown hg (λk hk=> .inl (hW.row.lt k hk).1)).setCell (p:=⟨C,1,none⟩) (.inl h.low.1) v'
theorem CellsAt.put(h:CellsAt w base C dim v bs cs)(K:Keep NoB w W){k:Nat}{b:Nat×Value}{c:Cell}{x:ItemV}(hb:bs[k]? =some b)(hc:cs[k]? =some c)
  (own':OwnsN w' base 47 3 v' (c.2.length+1) (c.2.flatMap encItem++encItem x)) (hg:W.grownBy w' b.2.ownBlock) (hv:v'.ownBlock=b.2.ownBlock∨∀g,v'.ownBlock=some g->W.heap.size<=g):
  CellsAt (w'.setCell ⟨b.1,8,none⟩ v') base C dim v (bs.set k (b.1,v')) (putC cs k x)∧Keep (λb=>base<=b) w (w'.setCell ⟨b.1,8,none⟩ v'):=by
 have hW:=h.keepN K
 have hbk:=hW.cell k b c hb hc
 have ne1:∀ {g:Nat} {cc:Array Value} {t:TypeId} {f:Nat×Nat},W.heap[g]? =some (.cells cc t f)->t≠47->w'.heap[g]? =some (.cells cc t f):=by
  intro g cc t f hgc ht
  rw[hg.block g (lt_of_heap hgc) (λe=> ?_)]
  ·exact hgc
  ·obtain⟨c',f',hh⟩:=own_type hbk.2.2 e.symm
   exact ht (two_types hgc hh)
 have hB':=ne1 hbk.1 (by decide)
 have KB:Keep (OneB b.1) w' (w'.setCell ⟨b.1,8,none⟩ v'):=(Keep.refl (OneB b.1) w').set1 8 v'
 have nB:∀ {g:Nat} {cc:Array Value} {t:TypeId} {f:Nat×Nat},w'.heap[g]? =some (.cells cc t f)->t≠175->g≠b.1:=by
  intro g cc t f h1 ht e
  subst e
  exact ht (two_types h1 hB')
 have hset:∀(i:Nat) (b':Nat×Value),(bs.set k (b.1,v'))[i]? =some b'->(i=k∧b'=(b.1,v'))∨(i≠k∧bs[i]? =some b'):=by
  intro i b' hb'
  rw[List.getElem?_set]at hb'
  by_cases e:k=i
  ·rw[if_pos e]at hb'
   split at hb'
   ·exact .inl ⟨e.symm,(Option.some.inj hb').symm⟩
   ·cases hb'
  ·rw[if_neg e]at hb'
   exact .inr ⟨λh=>e h.symm,hb'⟩
 refine⟨⟨KB.heap (ne1 hW.head (by decide)) (nB (ne1 hW.head (by decide)) (by decide)),?_,by rw[List.length_set,putC,List.length_modify];exact h.len,?_,?_,?_,⟨h.low.1,λb' hb'=> ?_⟩⟩,?_⟩
 ·have e1:ptrs (bs.set k (b.1,v'))=ptrs bs:=by
   rw[ptrs,ptrs,List.map_set]
   apply List.ext_getElem?
   intro i
   rw[List.getElem?_set]
   split
   ·rename_i e
    subst e
    split
    ·rw[List.getElem?_map,hb];rfl
    ·rename_i hl
     rw[List.getElem?_eq_none (by omega)]
   ·rfl
  rw[List.length_set,e1]
  have h1:OwnsN w' base 165 1 v bs.length (ptrs bs):=by
   refine⟨hW.row.1,?_⟩
   rcases hW.row.2 with h3|⟨g,cap,cur,fz,hv,hbg,hh,r⟩
   ·exact .inl h3
   ·exact .inr ⟨g,cap,cur,fz,hv,hbg,ne1 hh (by decide),r⟩
  exact h1.keep KB (λg hgv hgc=>by
   obtain⟨c',f',hh⟩:=own_type h1 hgv
   exact nB hh (by decide) hgc)
 ·intro i b' c' hb' hc'
  rcases hset i b' hb' with⟨rfl,rfl⟩|⟨hi,hb2⟩
  ·have hc2:c'=(c.1,c.2++ [x]):=by
    rw[putC,List.getElem?_modify_eq,hc]at hc'
    exact(Option.some.inj hc').symm
   subst hc2
   refine⟨?_,hbk.2.1,?_⟩
   ·have h1:=setCell_heap3 (i:=8) hB' v'
    have e:(ints8 c.1++ [b.2]).toArray.setIfInBounds 8 v'=(ints8 c.1++ [v']).toArray:=by
     have hl:(ints8 c.1).length=8:=by rw[ints8,List.length_map];exact hbk.2.1
     rw[List.setIfInBounds_toArray,List.set_append_right _ _ (by omega),hl]
     rfl
    rwa [e]at h1
   ·have h1:OwnsN w' base 47 3 v' (c.2++ [x]).length ((c.2++ [x]).flatMap encItem):=by
     rw[List.length_append,List.flatMap_append,List.flatMap_cons,List.flatMap_nil,List.append_nil]
     exact own'
    exact h1.keep KB (λg hgv hgc=>by
     obtain⟨c',f',hh⟩:=own_type h1 hgv
     exact nB hh (by decide) hgc)
  ·have hc2:cs[i]? =some c':=by
    rw[putC,List.getElem?_modify]at hc'
    split at hc'
    ·rename_i e;exact absurd e.symm hi
    ·simpa using hc'
   have h1:=hW.cell i b' c' hb2 hc2
   refine⟨KB.heap (ne1 h1.1 (by decide)) (λe=>hi (h.ptr i k b' b hb2 hb e)),h1.2.1,?_⟩
   have h2:OwnsN w' base 47 3 b'.2 c'.2.length (c'.2.flatMap encItem):=by
    refine⟨h1.2.2.1,?_⟩
    rcases h1.2.2.2 with h3|⟨g,cap,cur,fz,hv2,hbg,hh,r⟩
    ·exact .inl h3
    ·refine .inr ⟨g,cap,cur,fz,hv2,hbg,?_,r⟩
     rw[hg.block g (lt_of_heap hh) (λe=>hi (h.own i k b' b g hb2 hb (by rw[hv2];rfl) e.symm))]
     exact hh
   exact h2.keep KB (λg hgv hgc=>by
    obtain⟨c',f',hh⟩:=own_type h2 hgv
    exact nB hh (by decide) hgc)
 ·intro i j b1 b2 h1 h2 e
  rcases hset i b1 h1 with⟨rfl,rfl⟩|⟨hi,h1'⟩<;>rcases hset j b2 h2 with⟨rfl,rfl⟩|⟨hj,h2'⟩
  ·rfl
  ·exact h.ptr _ _ b b2 hb h2' e
  ·exact h.ptr _ _ b1 b h1' hb e
  ·exact h.ptr _ _ b1 b2 h1' h2' e
 ·intro i j b1 b2 g h1 h2 e1 e2
  have new:∀(i:Nat) (b':Nat×Value),bs[i]? =some b'->b'.2.ownBlock=some g->v'.ownBlock=some g->i=k:=by
   intro i b' hb' e1 e2
   rcases hv with hv|hv
   ·exact h.own i k b' b g hb' hb e1 (hv▸e2)
   ·obtain⟨c',hc'⟩:=hW.cellOf hb'
    have:=((hW.cell i b' c' hb' hc').2.2.lt g e1).2
    have:=hv g e2
    omega
  rcases hset i b1 h1 with⟨rfl,rfl⟩|⟨hi,h1'⟩<;>rcases hset j b2 h2 with⟨rfl,rfl⟩|⟨hj,h2'⟩
  ·rfl
  ·exact(new j b2 h2' e2 e1).symm
  ·exact new i b1 h1' e1 e2
  ·exact h.own _ _ b1 b2 g h1' h2' e1 e2
 ·obtain⟨i,hi⟩:=List.getElem?_of_mem hb'
  rcases hset i b' hi with⟨_,rfl⟩|⟨_,h2⟩
  ·exact h.low.2 b (List.mem_of_getElem? hb)
  ·exact h.low.2 b' (List.mem_of_getElem? h2)
 ·refine(K.ofN.trans (S':=λb=>base<=b) ?_ (λi hi hs=>hs))
  exact((Keep.refl (λb=>base<=b) W).grown hg (λk hk=> .inl (hbk.2.2.lt k hk).1)).setCell (p:=⟨b.1,8,none⟩) (.inl (h.low.2 b (List.mem_of_getElem? hb))) v'
end
def idxI(cs:List Cell)(m:List Int):Int:=if hasC cs m then(idxC cs m:Int)else-1
theorem idxC_eq{cs:List Cell}{m:List Int}{k:Nat}{c:Cell}(hc:cs[k]? =some c)(he:c.1=m)(hno:∀j c,j<k->cs[j]? =some c->c.1≠m):idxI cs m=k:=by
 have hk:=(List.getElem?_eq_some_iff.1 hc).1
 have hck:=(List.getElem?_eq_some_iff.1 hc).2
 have hh:hasC cs m=true:=List.any_eq_true.2 ⟨c,List.mem_of_getElem? hc,by simpa using he⟩
 rw[idxI,if_pos hh]
 have:idxC cs m=k:=by
  unfold idxC
  rw[List.findIdx_eq hk]
  refine⟨by rw[hck];simpa using he,λj hj=> ?_⟩
  simpa using hno j _ hj (List.getElem?_eq_getElem (by omega))
 rw[this]
set_option maxRecDepth 100000 in
set_option maxHeartbeats 4000000 in
theorem indexCell_any(base C dim ab:Nat)(v:Value)(bs:List (Nat×Value))(cs:List Cell)(m:List Int)(w:World)(h:CellsAt w base C dim v bs cs)(hm:m.length=8)(ha:w.heap[ab]? =some (.cells (ints8 m).toArray 173 (0,0)))(hl:cs.length<=1000):
  Calls Tryz.prog 147 #[v,.func (.func 148) #[] #[.pointer (some ⟨ab,0,none⟩)]] w λe w'=>e= .returned (.int .i64 (idxI cs m))∧∃q,w'=w.drewN q:=by
 obtain⟨p,c,rfl⟩:∃p c,v= .slice p bs.length c:=by
  rcases h.row.2 with⟨hv,hn⟩|⟨g,cap,cur,fz,hv,_⟩
  ·exact⟨none,0,by rw[hv,hn]⟩
  ·exact⟨_,cap,hv⟩
 obtain⟨n,hn⟩:∃n,n=bs.length:=⟨_,rfl⟩
 have hn2:n=cs.length:=hn.trans h.len
 rw[<-hn]at h⊢
 have H:=Lib.hid h
 have Hn:=Lib.hid hn
 have Hn2:=Lib.hid hn2
 have Ha:=Lib.hid ha
 have hn1000:n<=1000:=by omega
 clear h hn hn2 ha hl
 go_enter Tryz.func147,Tryz.ntmps147
 go_wp2_with fail
 go_loopw [8] (λiv wr=>∃k:Nat,k<=n∧iv= .int .i64 k∧Hid (∀j c,j<k->cs[j]? =some c->c.1≠m)∧∃q,wr=w.drewN q) (λiv _=>n-(intOf iv).toNat)
 case atStart=>exact⟨0,by omega,rfl,Lib.hid (λj c h=>by omega),0,rfl⟩
 case round=>
  obtain⟨k,hk,rfl,hno,q,rfl⟩:=hrel
  by_cases hlt:k<n
  ·have k1:(k:Int)<n:=by omega
   obtain⟨x,hx⟩:∃x,cs[k]? =some x:=⟨_,List.getElem?_eq_getElem (by have:=Hn2.out;omega)⟩
   obtain⟨b,hb⟩:=H.out.get hx
   have hbc:=H.out.cell k b x hb hx
   obtain⟨g,cap,hv,-,-⟩:=H.out.row.some (by have:=Hn.out;omega)
   cases hv
   have ck:=H.out.row.cells rfl k (.pointer (some ⟨b.1,0,none⟩)) (by rw[ptrs,List.getElem?_map,hb];rfl)
   rw[show(⟨g,0,none⟩:Addr).add k=⟨g,k,none⟩by unfold Addr.add;split<;>simp_all]at ck
   have hs:=sameCell_any b.1 ab x.1 m b.2 (w.drewN q) hbc.2.1 hm hbc.1 Ha.out
   obtain⟨B,hB⟩:∃B,B=decide (x.1=m):=⟨_,rfl⟩
   rw[<-hB]at hs
   obtain⟨bp,hbp⟩:∃bp,bp=b.1:=⟨_,rfl⟩
   rw[<-hbp]at ck hs
   have Hs:=Lib.hid hs
   have Hx:=Lib.hid hx
   have HB:=Lib.hid hB
   clear hs hx hB hbp hb hbc
   go_wp2_with fail
   refine Hs.out.mono ?_
   rintro e w1 ⟨rfl,q1,rfl⟩
   cases B with
   | true=>
    have he:=idxC_eq Hx.out (of_decide_eq_true HB.out.symm) hno.out
    have He:=Lib.hid he
    clear he Hs
    go_wp2_with fail
    go_ret
    exact⟨by rw[He.out];rfl,_,rfl⟩
   | false=>
    clear Hs
    go_wp2_with fail
    refine⟨⟨k+1,by omega,by go_num,Lib.hid (λj c hj hc=> ?_),_,rfl⟩,by simp[intOf];omega⟩
    by_cases e:j=k
    ·subst e
     rw[Hx.out]at hc
     rw[<-Option.some.inj hc]
     exact of_decide_eq_false HB.out.symm
    ·exact hno.out j c (by omega) hc
  ·obtain rfl:k=n:=by omega
   have he:idxI cs m= -1:=by
    rw[idxI,if_neg]
    intro hh
    obtain⟨c,hc,e⟩:=List.any_eq_true.1 hh
    obtain⟨j,hj⟩:=List.getElem?_of_mem hc
    exact hno.out j c (by have:=(List.getElem?_eq_some_iff.1 hj).1;have:=Hn2.out;omega) hj (by simpa using e)
   have He:=Lib.hid he
   clear he
   go_wp2_with fail
   go_ret
   exact⟨by rw[He.out];rfl,_,rfl⟩
def LoadsC(C A:Nat)(v:Value)(ms:List Value)(W:World):Prop:=W.cell? ⟨C,1,none⟩=some v∧∀j u,ms[j]? =some u->W.cell? ⟨A,j,none⟩=some u
theorem LoadsC.alloc{C A:Nat}{v:Value}{ms:List Value}{W:World}(h:LoadsC C A v ms W)(hC:C<W.heap.size)(hA:A<W.heap.size)(o:Obj):LoadsC C A v ms (W.alloc o):=
 ⟨(((Keep.refl NoB W).alloc o).cell (p:=⟨C,1,none⟩) hC (λx=>x)).trans h.1,λj u hu=>(((Keep.refl NoB W).alloc o).cell (p:=⟨A,j,none⟩) hA (λx=>x)).trans (h.2 j u hu)⟩
def LoadsL(L:List (Addr×Value))(W:World):Prop:=∀p∈L,W.cell? p.1=some p.2
theorem LoadsL.alloc{L:List (Addr×Value)}{W:World}(h:LoadsL L W)(hl:∀p∈L,p.1.block<W.heap.size)(o:Obj):LoadsL L (W.alloc o):=λp hp=>(((Keep.refl NoB W).alloc o).cell (p:=p.1) (hl p hp) (λx=>x)).trans (h p hp)
theorem cells_len{cs:List Cell}{l:List ItemV}(h:CellsOk cs l)(a:List Int):∀c∈withC cs a,c.2.length<=l.length:=by
 intro c hc
 have key:∀(cs:List Cell),c∈cs->c.2.length<=(cs.flatMap (·.2)).length:=by
  intro cs hc
  induction cs with
  | nil=>cases hc
  | cons d cs ih=>
   rw[List.flatMap_cons,List.length_append]
   rcases List.mem_cons.1 hc with rfl|hc
   ·omega
   ·have:=ih hc;omega
 have hp:=h.perm.length_eq
 unfold withC at hc
 split at hc
 ·have:=key cs hc;omega
 ·rcases List.mem_append.1 hc with hc|hc
  ·have:=key cs hc;omega
  ·rw[List.mem_singleton.1 hc];exact Nat.zero_le _
theorem OwnsN.sl{w:World}{base:Nat}{e:TypeId}{size:Nat}{v:Value}{n:Nat}{xs:List Value}(h:OwnsN w base e size v n xs):∃p c,v= .slice p n c:=by
 rcases h.2 with⟨h,hn⟩|⟨_,_,_,_,h,_⟩
 ·exact⟨none,0,by rw[h,hn]⟩
 ·exact⟨_,_,h⟩
theorem Cells.rows_ptr{w:World}{base C dim:Nat}{v:Value}{bs:List (Nat×Value)}{cs:List Cell}(h:CellsAt w base C dim v bs cs):∃p c,v= .slice p bs.length c:=by
 rcases h.row.2 with⟨hv,hn⟩|⟨g,cap,cur,fz,hv,_⟩
 ·exact⟨none,0,by rw[hv,hn]⟩
 ·exact⟨_,cap,hv⟩
theorem CellsAt.headMore{w w' W:World}{base C dim:Nat}{v:Value}{bs:List (Nat×Value)}{cs:List Cell}(h:CellsAt w base C dim v bs cs)(K:Keep NoB w W)(hg:W.grownBy w' v.ownBlock):w'.heap[C]? =some (.cells #[.int .i64 dim,v] 163 (0,0)):=by
 have hW:=h.keepN K
 rw[hg.block C (lt_of_heap hW.head) (λe=> ?_)]
 ·exact hW.head
 ·obtain⟨c',f',hh⟩:=own_type hW.row e.symm
  exact absurd (two_types hW.head hh) (by decide)
theorem CellsAt.cellPut{w w' W:World}{base C dim:Nat}{v:Value}{bs:List (Nat×Value)}{cs:List Cell}(h:CellsAt w base C dim v bs cs)(K:Keep NoB w W){k:Nat}{b:Nat×Value}{c:Cell}(hb:bs[k]? =some b)(hc:cs[k]? =some c)(hg:W.grownBy w' b.2.ownBlock):w'.heap[b.1]? =some (.cells (ints8 c.1++ [b.2]).toArray 175 (0,0)):=by
 have hW:=h.keepN K
 have hbk:=hW.cell k b c hb hc
 rw[hg.block b.1 (lt_of_heap hbk.1) (λe=> ?_)]
 ·exact hbk.1
 ·obtain⟨c',f',hh⟩:=own_type hbk.2.2 e.symm
  exact absurd (two_types hbk.1 hh) (by decide)
theorem cell_same{w w':World}{b i:Nat}(h:w.heap[b]? =w'.heap[b]?):w.cell? ⟨b,i,none⟩=w'.cell? ⟨b,i,none⟩:=by
 unfold World.cell?
 simp only[h]
theorem CellsAt.other{w w' W:World}{base C dim:Nat}{v:Value}{bs:List (Nat×Value)}{cs:List Cell}(h:CellsAt w base C dim v bs cs)(K:Keep NoB w W){k:Nat}{b:Nat×Value}{c:Cell}(hb:bs[k]? =some b)(hc:cs[k]? =some c)(hg:W.grownBy w' b.2.ownBlock){g:Nat}{cc:Array Value}{t:TypeId}{f:Nat×Nat}(hgc:W.heap[g]? =some (.cells cc t f))(ht:t≠47):w'.heap[g]? =some (.cells cc t f):=by
 have hW:=h.keepN K
 have hbk:=hW.cell k b c hb hc
 rw[hg.block g (lt_of_heap hgc) (λe=> ?_)]
 ·exact hgc
 ·obtain⟨c',f',hh⟩:=own_type hbk.2.2 e.symm
  exact absurd (two_types hgc hh) ht
theorem CellsAt.headMore2{w w' W:World}{base C dim:Nat}{v:Value}{bs:List (Nat×Value)}{cs:List Cell}(h:CellsAt w base C dim v bs cs)(K:Keep NoB w W){k:Nat}{b:Nat×Value}{c:Cell}(hb:bs[k]? =some b)(hc:cs[k]? =some c)(hg:W.grownBy w' b.2.ownBlock):w'.heap[C]? =some (.cells #[.int .i64 dim,v] 163 (0,0)):=h.other K hb hc hg (h.keepN K).head (by decide)
theorem cell_info:∃i,Tryz.prog.info? 165=some i∧i.zero=some (.pointer none)∧i.size=1∧i.bytes=8:=by
 have h:(Tryz.prog.info? 165).map (λi=>(i.zero,i.size,i.bytes))=some (some (.pointer none),1,8):=by kernel_rfl
 cases hi:Tryz.prog.info? 165 with
 | none=>rw[hi]at h;cases h
 | some i=>
  rw[hi]at h
  simp only[Option.map_some,Option.some.injEq,Prod.mk.injEq]at h
  exact⟨i,rfl,h.1,h.2.1,h.2.2⟩
set_option maxRecDepth 100000 in
set_option maxHeartbeats 8000000 in
theorem newCells_any(dim:Nat)(v:Value)(l:List ItemV)(w:World)(I:Items w v l)(hl:l.length<=1000)(hns:∀x∈l,numOk x.ns∧x.ns.length<=8):
  Calls Tryz.prog 78 #[.int .i64 dim,v] w λe w'=>∃C cv bs,e= .returned (.pointer (some ⟨C,0,none⟩))∧CellsAt w' w.heap.size C dim cv bs (cellsL l)∧Keep NoB w w':=by
 obtain⟨p,c,rfl⟩:=I.rows.len
 obtain⟨n,hn2⟩:∃n,n=l.length:=⟨_,rfl⟩
 rw[<-hn2]at I hl
 rw[<-hn2]
 have Hn:=Lib.hid hn2
 have HI:=Lib.hid I
 have Hns:=Lib.hid hns
 obtain⟨i0,hi0,hz0,hs0,hb0⟩:=item_info
 obtain⟨i1,hi1,hz1,hs1,hb1⟩:=cell_info
 have mixed:Tryz.prog.follows .mixedOrders=true:=by kernel_rfl
 have hC0:CellsAt (w.alloc (.cells #[.int .i64 dim,.slice none 0 0] 163)) w.heap.size w.heap.size dim (.slice none 0 0) [] (cellsL []):=
  ⟨heap_alloc_new w _,OwnsN.nil _ _ _ _,rfl,λi b c h=>by simp at h,λi j b b' h=>by simp at h,λi j b b' g h=>by simp at h,Nat.le_refl _,λb h=>by cases h⟩
 have HC0:=Lib.hid hC0
 have hK0:Keep NoB w (w.alloc (.cells #[.int .i64 dim,.slice none 0 0] 163)):=(Keep.refl _ _).alloc _
 obtain⟨w0,hw0⟩:∃w0,w0=w.alloc (.cells #[.int .i64 dim,.slice none 0 0] 163):=⟨_,rfl⟩
 obtain⟨C,hC⟩:∃C,C=w.heap.size:=⟨_,rfl⟩
 rw[<-hw0]at HC0 hK0
 have Hw0:=Lib.hid hw0
 have HC:=Lib.hid hC
 have hHC:Hid (CellsAt w0 w.heap.size C dim (.slice none 0 0) [] (cellsL [])):=by rw[hC];exact HC0
 clear hn2 I hns hC0 HC0 hw0 hC
 go_enter Tryz.func78,Tryz.ntmps78
 go_wp2_with fail
 rw[<-Hw0.out,<-HC.out]
 go_loopw [17] (λiv wr=>∃(j:Nat) (cv:Value) (bs:List (Nat×Value)),iv= .int .i64 j∧j<=n∧Hid (CellsAt wr w.heap.size C dim cv bs (cellsL (l.take j)))∧Keep NoB w wr) (λiv _=>n-(intOf iv).toNat)
 case atStart=>exact⟨0,_,[],rfl,by omega,hHC,hK0⟩
 case round=>
  clear hHC hK0
  obtain⟨j,cv,bs,rfl,hj,hH,K⟩:=hrel
  obtain⟨wo,rfl⟩:∃wo,wo=wr:=⟨_,rfl⟩
  by_cases hlt:j<n
  ·have j1:(j:Int)<n:=by omega
   have HnX0:Hid (∀b∈bs,∀g,b.2.ownBlock=some g->g<wo.heap.size):=Lib.hid (λb hb g hg=>by
    obtain⟨k,hk⟩:=List.getElem?_of_mem hb
    obtain⟨c,hc⟩:=hH.out.cellOf hk
    exact((hH.out.cell k b c hk hc).2.2.lt g hg).2)
   have Ir:Items wo _ l:=⟨HI.out.rows.keep K (λ_ _ x=>x),λx hx=>(HI.out.nums x hx).keep K (λ_ _ x=>x)⟩
   obtain⟨b,off,rfl,-,hb,hcell⟩:=Ir.rows.at (by have:=Hn.out;omega)
   obtain⟨x,hx⟩:∃x,l[j]? =some x:=⟨_,List.getElem?_eq_getElem (by have:=Hn.out;omega)⟩
   have hra:=hcell j x hx
   have hxm:x∈l:=List.mem_of_getElem? hx
   have Nx:=Ir.nums x hxm
   have hxn:=Hns.out x hxm
   have hsu:=cellsL_succ l j x hx
   have hok:=cellsL_ok (l.take j)
   have Hsu:=Lib.hid hsu
   have Hok:=Lib.hid hok
   obtain⟨nm,tg,av,ns⟩:=x
   simp only at Nx hxn
   have c0:wo.cell? ⟨b,off+j*3,none⟩=some (.string nm):=hra 0 _ rfl
   have c1:wo.cell? ⟨b,off+j*3+1,none⟩=some (.string tg):=hra 1 _ rfl
   have c2:wo.cell? ⟨b,off+j*3+2,none⟩=some av:=hra 2 _ rfl
   obtain⟨pn,cn,rfl⟩:=Nx.len
   obtain⟨nl,hnl⟩:∃nl,nl=ns.length:=⟨_,rfl⟩
   have hnl8:nl<=8:=by rw[hnl];exact hxn.2
   have Hx:Hid (encItem ⟨nm,tg,.slice pn ns.length cn,ns⟩= [.string nm,.string tg,.slice pn nl cn]):=Lib.hid (by rw[hnl];rfl)
   have hat:Hid (cellAt ⟨nm,tg,.slice pn ns.length cn,ns⟩=atK ns nl):=Lib.hid (by rw[hnl];rfl)
   obtain⟨x,hxx⟩:∃x:ItemV,x=⟨nm,tg,.slice pn ns.length cn,ns⟩:=⟨_,rfl⟩
   rw[<-hxx]at Hsu Hx hat
   rw[<-hnl]at c2 Nx
   have Hnx:=Lib.hid Nx
   have Hnok:=Lib.hid hxn.1
   have Hnl:=Lib.hid hnl
   clear hcell hra hx hsu hok hxn hnl hxx hxm Nx Ir
   go_wp2_with fail
   have gX:((wo.alloc (.cells #[.string nm,.string tg,.slice pn nl cn] 47)).alloc (.cells #[.int .i64 0,.int .i64 0,.int .i64 0,.int .i64 0,.int .i64 0,.int .i64 0,.int .i64 0,.int .i64 0] 173)).heap[wo.heap.size]? =some (.cells #[.string nm,.string tg,.slice pn nl cn] 47 (0,0)):=by
    rw[Below.heap_alloc _ _ _ (by simp)];exact heap_alloc_new wo _
   have gA:((wo.alloc (.cells #[.string nm,.string tg,.slice pn nl cn] 47)).alloc (.cells #[.int .i64 0,.int .i64 0,.int .i64 0,.int .i64 0,.int .i64 0,.int .i64 0,.int .i64 0,.int .i64 0] 173)).heap[wo.heap.size+1]? =some (.cells (ints8 (atK ns 0)).toArray 173 (0,0)):=by
    have h:=heap_alloc_new (wo.alloc (.cells #[.string nm,.string tg,.slice pn nl cn] 47)) (.cells #[.int .i64 0,.int .i64 0,.int .i64 0,.int .i64 0,.int .i64 0,.int .i64 0,.int .i64 0,.int .i64 0] 173)
    rw[show(wo.alloc (.cells #[.string nm,.string tg,.slice pn nl cn] 47)).heap.size=wo.heap.size+1 by simp]at h
    rw[h]
    have e:atK ns 0= [0,0,0,0,0,0,0,0]:=by rw[atK,List.take_zero];rfl
    rw[e];rfl
   have Ka:Keep NoB wo ((wo.alloc (.cells #[.string nm,.string tg,.slice pn nl cn] 47)).alloc (.cells #[.int .i64 0,.int .i64 0,.int .i64 0,.int .i64 0,.int .i64 0,.int .i64 0,.int .i64 0,.int .i64 0] 173)):=((Keep.refl _ _).alloc _).alloc _
   obtain⟨wa,hwa⟩:∃wa,wa=(wo.alloc (.cells #[.string nm,.string tg,.slice pn nl cn] 47)).alloc (.cells #[.int .i64 0,.int .i64 0,.int .i64 0,.int .i64 0,.int .i64 0,.int .i64 0,.int .i64 0,.int .i64 0] 173):=⟨_,rfl⟩
   obtain⟨X,hX⟩:∃X,X=wo.heap.size:=⟨_,rfl⟩
   obtain⟨A,hA⟩:∃A,A=X+1:=⟨_,rfl⟩
   rw[<-hwa,<-hX]at gX gA
   rw[<-hwa]at Ka
   rw[<-hwa,<-hX,<-hA]
   rw[<-hA]at gA
   have HX:=Lib.hid hX
   have HA:=Lib.hid hA
   have Na:=Hnx.out.keep Ka (λ_ _ x=>x)
   have HNa:=Lib.hid Na
   clear hwa hX hA c0 c1 c2 Na hb
   go_loopw [24] (λiv wx=>∃i:Nat,i<=nl∧iv= .int .i64 i∧Hid (wx.heap[A]? =some (.cells (ints8 (atK ns i)).toArray 173 (0,0)))∧Keep (OneB A) wa wx) (λiv _=>nl-(intOf iv).toNat)
   case atStart=>exact⟨0,by omega,rfl,Lib.hid gA,Keep.refl _ _⟩
   case round=>
    obtain⟨i,hi,rfl,hgA,Kx⟩:=hrel
    by_cases hlt:i<nl
    ·have i1:(i:Int)<nl:=by omega
     have i8:(i:Int)<8:=by omega
     have Nx:=HNa.out.keep Kx (λb hb hS=>by
      have h1:b<wo.heap.size:=by
       rcases Hnx.out with⟨h,_⟩|⟨B,o',c',hv,hB,_⟩
       ·have:=Hnl.out;rw[h]at this;simp at this;omega
       ·rw[hv]at hb
        obtain rfl:B=b:=Option.some.inj hb
        exact hB
      have h2:b=A:=hS
      have:=HX.out;have:=HA.out;omega)
     obtain⟨bn,on,rfl,-,hbn,hcn⟩:=Nx.at (by have:=Hnl.out;omega)
     have cn':=hcn i (by have:=Hnl.out;omega)
     have hset:=atK_set ns i (by have:=Hnl.out;omega) (by omega)
     have hnum:=numOk_getD Hnok.out i
     have hal:=atK_len ns i (by have:=Hnl.out;omega) (by omega)
     obtain⟨y,hy⟩:∃y,y=ns.getD i 0:=⟨_,rfl⟩
     rw[<-hy]at cn' hset hnum
     have hdn:=λw=>down_any y hnum w
     obtain⟨d,hd⟩:∃d,d=downI y:=⟨_,rfl⟩
     rw[<-hd]at hset hdn
     have cA:wr.cell? ⟨A,i,none⟩=some (.int .i64 ((atK ns i).getD i 0)):=by
      rw[cell_of_row _ _ _ _ _ (0,0) hgA.out,List.getElem?_toArray,ints8,List.getElem?_map,List.getD_eq_getElem?_getD,List.getElem?_eq_getElem (by omega)]
      rfl
     have zA:wr.frozen? ⟨A,i,none⟩=false:=by unfold World.frozen?;simp only[hgA.out];rfl
     have Hset:=Lib.hid hset
     have Hdn:=Lib.hid hdn
     clear hcn hy hd hset hdn Nx hbn
     go_wp2_with fail
     refine(Hdn.out _).mono ?_
     rintro e w1 ⟨rfl,hw1⟩
     subst w1
     go_wp2_with fail
     refine⟨⟨i+1,by omega,by go_num,Lib.hid ?_,Kx.set1 i _⟩,by simp[intOf];omega⟩
     rw[setCell_heap3 hgA.out,<-Hset.out,ints8,ints8,List.setIfInBounds_toArray,List.map_set]
    ·obtain rfl:i=nl:=by omega
     have Kr:Keep NoB wo wr:=Ka.trans Kx (λi hi hs=>by have h2:i=A:=hs;have:=HX.out;have:=HA.out;omega)
     have hH2:=hH.out.keepN Kr
     have gX2:=Kx.heap gX (λhs=>by have h2:X=A:=hs;have:=HA.out;omega)
     have hm8:(atK ns i).length=8:=atK_len ns i (by have:=Hnl.out;omega) hnl8
     have hcl:(cellsL (l.take j)).length<=1000:=by have:=Hok.out.len;rw[List.length_take]at this;omega
     have hix:=indexCell_any w.heap.size C dim A cv bs _ (atK ns i) wr hH2 hm8 hgA.out hcl
     have e0:wr.cell? ⟨C,0,none⟩=some (.int .i64 dim):=by rw[cell_of_row _ _ _ _ _ (0,0) hH2.head];rfl
     have e1:wr.cell? ⟨C,1,none⟩=some cv:=by rw[cell_of_row _ _ _ _ _ (0,0) hH2.head];rfl
     obtain⟨pc,cc,rfl⟩:=Cells.rows_ptr hH2
     obtain⟨nb,hnb⟩:∃nb,nb=bs.length:=⟨_,rfl⟩
     rw[<-hnb]at e1 hix hH2
     have HH2:=Lib.hid hH2
     have Hix:=Lib.hid hix
     have Hnb:=Lib.hid hnb
     have Kw:Keep NoB w wr:=K.thenN Kr
     clear hH hix hnb hH2 Kx Ka gA Kr K
     go_wp2_with fail
     refine Hix.out.mono ?_
     rintro e w1 ⟨rfl,q1,rfl⟩
     have Hm8:=Lib.hid hm8
     have Hcl:=Lib.hid hcl
     have Hlen:Hid (∀c∈withC (cellsL (l.take j)) (atK ns i),c.2.length<=1000):=Lib.hid (λc hc=>by have:=cells_len Hok.out (atK ns i) c hc;rw[List.length_take]at this;omega)
     have HgX:=Lib.hid (show(wr.drewN q1).heap[X]? =_ from gX2)
     have HgA:=Lib.hid (show(wr.drewN q1).heap[A]? =_ from hgA.out)
     have HH3:=Lib.hid (HH2.out.keepN ((Keep.refl NoB wr).drewN q1))
     have Kw1:=Kw.drewN q1
     obtain⟨wv,hwv⟩:∃wv,wv=wr.drewN q1:=⟨_,rfl⟩
     rw[<-hwv]at HgX HgA HH3 Kw1⊢
     obtain⟨cs,hcs⟩:∃cs,cs=cellsL (l.take j):=⟨_,rfl⟩
     obtain⟨m,hm⟩:∃m,m=atK ns i:=⟨_,rfl⟩
     rw[<-hcs]at HH3 Hsu Hcl Hlen⊢
     rw[<-hm]at HgA Hm8 hat Hlen⊢
     clear hwv hcs hm gX gX2 hgA hm8 hcl HH2 Hix Kw e0 e1 Hnx HNa Hnok Hok
     have hil:=idxC_lt cs m
     obtain⟨kk,hkk⟩:∃kk,kk=idxC cs m:=⟨_,rfl⟩
     rw[<-hkk]at hil
     have Hil:=Lib.hid hil
     have Hkk:=Lib.hid hkk
     have hk1000:kk<=1000:=by
      have h1:=hil.1
      have h2:(withC cs m).length<=cs.length+1:=by
       unfold withC
       split
       ·omega
       ·rw[List.length_append,List.length_singleton];exact Nat.le_refl _
      have:=Hcl.out
      omega
     clear hil hkk
     have HnX:∀b∈bs,b.2.ownBlock≠some X:=λb hb e=>by have:=HnX0.out b hb X e;have:=HX.out;omega
     go_upto_if 41 with fail
     go_cut [11] (λkv wx=>∃(v2:Value) (bs2:List (Nat×Value)),kv= .int .i64 kk∧Hid (CellsAt wx w.heap.size C dim v2 bs2 (withC cs m))∧Hid (wx.heap[X]? =some (.cells #[.string nm,.string tg,.slice pn i cn] 47 (0,0)))∧Hid (∀b∈bs2,b.2.ownBlock≠some X)∧Keep NoB w wx)
     case first=>
      cases hhas:hasC cs m with
      | true=>
       have e1:idxI cs m=kk:=by rw[idxI,if_pos hhas,Hkk.out]
       have e2:withC cs m=cs:=by rw[withC,if_pos hhas]
       rw[e1]
       have HH4:Hid (CellsAt wv w.heap.size C dim (.slice pc nb cc) bs (withC cs m)):=by rw[e2];exact HH3
       clear e1 e2
       go_wp2_with fail
       go_meet
       case rel=>exact⟨_,bs,rfl,HH4,HgX,Lib.hid HnX,Kw1⟩
      | false=>
       have e1:idxI cs m= -1:=by rw[idxI,if_neg (by rw[hhas];decide)]
       have e2:withC cs m=cs++ [(m,[])]:=by rw[withC,if_neg (by rw[hhas];decide)]
       have e3:kk=nb:=by
        rw[Hkk.out,Hnb.out,HH3.out.len]
        unfold idxC
        rw[List.findIdx_eq_length]
        intro c' hc'
        rw[hasC,List.any_eq_false]at hhas
        simpa using hhas c' hc'
       have E2:=Lib.hid e2
       rw[e1]
       obtain⟨m0,m1,m2,m3,m4,m5,m6,m7,hme⟩:=eight m Hm8.out
       have ca:∀j u,([Value.int .i64 m0,.int .i64 m1,.int .i64 m2,.int .i64 m3,.int .i64 m4,.int .i64 m5,.int .i64 m6,.int .i64 m7])[j]? =some u->wv.cell? ⟨A,j,none⟩=some u:=λj u hu=>by
        rw[cell_of_row _ _ j _ 173 (0,0) HgA.out,List.getElem?_toArray,hme];exact hu
       have q0:=ca 0 _ rfl
       have q1:=ca 1 _ rfl
       have q2:=ca 2 _ rfl
       have q3:=ca 3 _ rfl
       have q4:=ca 4 _ rfl
       have q5:=ca 5 _ rfl
       have q6:=ca 6 _ rfl
       have q7:=ca 7 _ rfl
       have d0:wv.cell? ⟨C,0,none⟩=some (.int .i64 dim):=by rw[cell_of_row _ _ _ _ _ (0,0) HH3.out.head];rfl
       have d1:wv.cell? ⟨C,1,none⟩=some (.slice pc nb cc):=by rw[cell_of_row _ _ _ _ _ (0,0) HH3.out.head];rfl
       have hsz1:(wv.alloc (.cells #[.int .i64 m0,.int .i64 m1,.int .i64 m2,.int .i64 m3,.int .i64 m4,.int .i64 m5,.int .i64 m6,.int .i64 m7,.slice none 0 0] 175)).heap.size=wv.heap.size+1:=by show(wv.heap.push _).size=_;rw[Array.size_push]
       have KW:Keep NoB wv ((wv.alloc (.cells #[.int .i64 m0,.int .i64 m1,.int .i64 m2,.int .i64 m3,.int .i64 m4,.int .i64 m5,.int .i64 m6,.int .i64 m7,.slice none 0 0] 175)).alloc (.cells #[.pointer (some ⟨wv.heap.size,0,none⟩)] 165)).drew:=(((Keep.refl _ _).alloc _).alloc _).drew
       have hPb:((wv.alloc (.cells #[.int .i64 m0,.int .i64 m1,.int .i64 m2,.int .i64 m3,.int .i64 m4,.int .i64 m5,.int .i64 m6,.int .i64 m7,.slice none 0 0] 175)).alloc (.cells #[.pointer (some ⟨wv.heap.size,0,none⟩)] 165)).drew.heap[wv.heap.size]? =some (.cells (ints8 m++ [Value.slice none 0 0]).toArray 175 (0,0)):=by
        show((wv.alloc (.cells #[.int .i64 m0,.int .i64 m1,.int .i64 m2,.int .i64 m3,.int .i64 m4,.int .i64 m5,.int .i64 m6,.int .i64 m7,.slice none 0 0] 175)).alloc (.cells #[.pointer (some ⟨wv.heap.size,0,none⟩)] 165)).heap[wv.heap.size]? =_
        rw[Below.heap_alloc _ _ _ (by rw[hsz1];omega),hme]
        exact heap_alloc_new wv _
       have hnw:=cells_new (wv.alloc (.cells #[.int .i64 m0,.int .i64 m1,.int .i64 m2,.int .i64 m3,.int .i64 m4,.int .i64 m5,.int .i64 m6,.int .i64 m7,.slice none 0 0] 175)) [.pointer (some ⟨wv.heap.size,0,none⟩)] 165
       rw[hsz1]at hnw
       have hCl:C<wv.heap.size:=lt_of_heap HH3.out.head
       have hAl:A<wv.heap.size:=lt_of_heap HgA.out
       have hnb1000:nb<=1000:=by have:=HH3.out.len;have:=Hcl.out;have:=Hnb.out;omega
       have hbase:=Kw1.size
       have hrow:=(HH3.out.keepN KW).row
       rw[<-Hnb.out]at hrow
       obtain⟨ms,hms⟩:∃ms,ms= [Value.int .i64 m0,.int .i64 m1,.int .i64 m2,.int .i64 m3,.int .i64 m4,.int .i64 m5,.int .i64 m6,.int .i64 m7]:=⟨_,rfl⟩
       have L0:LoadsC C A (.slice pc nb cc) ms wv.drew:=by rw[hms];exact⟨d1,ca⟩
       have L1:=L0.alloc hCl hAl (.cells #[.int .i64 m0,.int .i64 m1,.int .i64 m2,.int .i64 m3,.int .i64 m4,.int .i64 m5,.int .i64 m6,.int .i64 m7,.slice none 0 0] 175)
       have L2:=L1.alloc (by rw[show(wv.drew.alloc (.cells #[.int .i64 m0,.int .i64 m1,.int .i64 m2,.int .i64 m3,.int .i64 m4,.int .i64 m5,.int .i64 m6,.int .i64 m7,.slice none 0 0] 175)).heap.size=wv.heap.size+1 from hsz1];omega) (by rw[show(wv.drew.alloc (.cells #[.int .i64 m0,.int .i64 m1,.int .i64 m2,.int .i64 m3,.int .i64 m4,.int .i64 m5,.int .i64 m6,.int .i64 m7,.slice none 0 0] 175)).heap.size=wv.heap.size+1 from hsz1];omega) (.cells #[.pointer (some ⟨wv.heap.size,0,none⟩)] 165)
       have HL0:=Lib.hid L0
       have HL1:=Lib.hid L1
       have HL2:=Lib.hid L2
       have HKW:=Lib.hid KW
       have Hrow:=Lib.hid hrow
       have Hnw:=Lib.hid hnw
       have HPb:=Lib.hid hPb
       have E3:=Lib.hid e3
       have Hme:=Lib.hid hme
       have Hca:=Lib.hid ca
       have hx1:∀x:InC (LoadsC C A (.slice pc nb cc) ms),x.w.cell? ⟨C,1,none⟩=some (.slice pc nb cc):=λx=>x.h.1
       have hy0:∀x:InC (LoadsC C A (.slice pc nb cc) ms),x.w.cell? ⟨A,0,none⟩=some (Value.int .i64 m0):=λx=>x.h.2 0 _ (by rw[hms];rfl)
       have hy1:∀x:InC (LoadsC C A (.slice pc nb cc) ms),x.w.cell? ⟨A,1,none⟩=some (Value.int .i64 m1):=λx=>x.h.2 1 _ (by rw[hms];rfl)
       have hy2:∀x:InC (LoadsC C A (.slice pc nb cc) ms),x.w.cell? ⟨A,2,none⟩=some (Value.int .i64 m2):=λx=>x.h.2 2 _ (by rw[hms];rfl)
       have hy3:∀x:InC (LoadsC C A (.slice pc nb cc) ms),x.w.cell? ⟨A,3,none⟩=some (Value.int .i64 m3):=λx=>x.h.2 3 _ (by rw[hms];rfl)
       have hy4:∀x:InC (LoadsC C A (.slice pc nb cc) ms),x.w.cell? ⟨A,4,none⟩=some (Value.int .i64 m4):=λx=>x.h.2 4 _ (by rw[hms];rfl)
       have hy5:∀x:InC (LoadsC C A (.slice pc nb cc) ms),x.w.cell? ⟨A,5,none⟩=some (Value.int .i64 m5):=λx=>x.h.2 5 _ (by rw[hms];rfl)
       have hy6:∀x:InC (LoadsC C A (.slice pc nb cc) ms),x.w.cell? ⟨A,6,none⟩=some (Value.int .i64 m6):=λx=>x.h.2 6 _ (by rw[hms];rfl)
       have hy7:∀x:InC (LoadsC C A (.slice pc nb cc) ms),x.w.cell? ⟨A,7,none⟩=some (Value.int .i64 m7):=λx=>x.h.2 7 _ (by rw[hms];rfl)
       have Hms:=Lib.hid hms
       clear hms hrow hnw hPb hme ca KW e1 e2 e3 hhas L0 L1 L2
       go_upto_region 14 with(fail)
       refine wp_region_take (LoadsC C A (.slice pc nb cc) ms) [0,1,2,3,4,5,6] [7,8,9,10,11,12] (by kernel_rfl) (by kernel_rfl) (λc a d v w h=>by cases d<;>exact h) ?_
       simp only[pickL,List.getElem?_toArray,List.getElem?_cons_succ,List.getElem?_cons_zero]
       repeat(refine wpEarlyC_step (λK hK=> ?_);go_simp;first|(refine⟨_,λ_=>rfl,hK _ ?_⟩;clear hK K)|(refine hK _ ?_;clear hK K))
       refine wpEarlyC_nil ?_
       clear hx1 hy0 hy1 hy2 hy3 hy4 hy5 hy6 hy7
       simp only[wpRowC,pickL,List.getElem?_toArray,List.getElem?_cons_succ,List.getElem?_cons_zero]
       refine⟨HL0.out,?_⟩
       go_wp2_with fail
       refine⟨HL1.out,?_⟩
       go_wp2_with fail
       refine⟨HL2.out,?_⟩
       refine wpList_append_n _ rfl (.tmp 51) (.tmp 55) 161 rfl w.heap.size 165 i1 _ 1 8 Tryz.underlying161 hi1 hz1 hs1 hb1 rfl (by decide) (.slice pc nb cc) nb (ptrs bs) rfl Hrow.out ⟨wv.heap.size+1,0,none⟩ 1 1 [.pointer (some ⟨wv.heap.size,0,none⟩)] rfl rfl Hnw.out (by intro u hu;rw[List.mem_singleton.1 hu];rfl) (by unfold maxLen;omega) (by omega) (by have:=HKW.out.size;omega) ?_
       intro v' w' own' hg
       have hCh:=HH3.out.headMore HKW.out hg
       have f1:w'.cell? ⟨C,1,none⟩=some (.slice pc nb cc):=by rw[cell_of_row _ _ _ _ _ (0,0) hCh];rfl
       have z1:w'.frozen? ⟨C,1,none⟩=false:=by unfold World.frozen?;simp only[hCh];rfl
       have hmore:=HH3.out.more HKW.out hbase (Nat.le_refl _) HPb.out Hm8.out (by rw[<-Hnb.out];exact own') hg
       have hXw:w'.heap[X]? =some (.cells #[.string nm,.string tg,.slice pn i cn] 47 (0,0)):=by
        have h1:=HKW.out.heap HgX.out (λx=>x)
        rw[hg.block X (lt_of_heap h1) (λe=> ?_)]
        ·exact h1
        ·obtain⟨c',f',hh⟩:=own_type Hrow.out e.symm
         exact absurd (two_types h1 hh) (by decide)
       have hXC:X≠C:=λe=>by
        have h1:=HgX.out
        rw[e]at h1
        exact absurd (two_types h1 HH3.out.head) (by decide)
       have hXs:(w'.setCell ⟨C,1,none⟩ v').heap[X]? =some (.cells #[.string nm,.string tg,.slice pn i cn] 47 (0,0)):=by
        rw[Below.heap_setCell _ _ _ _ (by exact hXC)];exact hXw
       have Kfin:Keep NoB w (w'.setCell ⟨C,1,none⟩ v'):=Kw1.trans hmore.2 (λi hi hs=>absurd hi (Nat.not_lt.2 hs))
       obtain⟨pv,nv,cvv,rfl⟩:∃p n c,v'= .slice p n c:=by
        rcases own'.2 with⟨h,_⟩|⟨_,_,_,_,h,_⟩
        ·exact⟨_,_,_,h⟩
        ·exact⟨_,_,_,h⟩
       have HM:Hid (CellsAt (w'.setCell ⟨C,1,none⟩ (.slice pv nv cvv)) w.heap.size C dim (.slice pv nv cvv) (bs++ [(wv.heap.size,.slice none 0 0)]) (withC cs m)):=by rw[E2.out];exact hmore.1
       have HXs:=Lib.hid hXs
       have hAw:w'.heap[A]? =some (.cells (ints8 m).toArray 173 (0,0)):=by
        have h1:=HKW.out.heap HgA.out (λx=>x)
        rw[hg.block A (lt_of_heap h1) (λe=> ?_)]
        ·exact h1
        ·obtain⟨c',f',hh⟩:=own_type Hrow.out e.symm
         exact absurd (two_types h1 hh) (by decide)
       have HL3:Hid (LoadsC C A (.slice pc nb cc) ms w'):=Lib.hid ⟨f1,λj u hu=>by
        rw[cell_of_row _ _ j _ 173 (0,0) hAw,List.getElem?_toArray,Hme.out,<-hu,Hms.out];rfl⟩
       clear own' hg hmore hXw hXC hXs hCh hbase hAw
       go_wp2_with fail
       refine⟨HL3.out,?_⟩
       go_wp2_with fail
       refine⟨HL3.out,?_⟩
       go_wp2_with fail
       refine⟨HL3.out,?_⟩
       go_wp2_with fail
       go_meet
       case rel=>
        refine⟨_,_,by rw[E3.out],HM,HXs,Lib.hid (λb hb=> ?_),Kfin⟩
        rcases List.mem_append.1 hb with hb|hb
        ·exact HnX b hb
        ·rw[List.mem_singleton.1 hb];intro e;cases e
     case rest=>
      obtain⟨v2,bs2,rfl,H2,HgX2,HnX2,Kw2⟩:=hcut
      obtain⟨cc2,hcc2⟩:∃c,(withC cs m)[kk]? =some c:=⟨_,List.getElem?_eq_getElem Hil.out.1⟩
      have hcm:cc2.1=m:=by have:=Hil.out.2;rw[hcc2]at this;simpa using this
      obtain⟨b2,hb2⟩:=H2.out.get hcc2
      have hbc:=H2.out.cell kk b2 cc2 hb2 hcc2
      have hcl2:=Hlen.out cc2 (List.mem_of_getElem? hcc2)
      have hkb:kk<bs2.length:=(List.getElem?_eq_some_iff.1 hb2).1
      obtain⟨g2,cap2,hv2,-,-⟩:=H2.out.row.some (by omega)
      have ckk:=H2.out.row.cells (by rw[hv2];rfl) kk (.pointer (some ⟨b2.1,0,none⟩)) (by rw[ptrs,List.getElem?_map,hb2];rfl)
      rw[show(⟨g2,0,none⟩:Addr).add kk=⟨g2,kk,none⟩by unfold Addr.add;split<;>simp_all]at ckk
      obtain⟨n2,hn2⟩:∃n2,n2=bs2.length:=⟨_,rfl⟩
      rw[<-hn2]at hv2
      obtain⟨bp,bv⟩:=b2
      simp only at hbc ckk
      obtain⟨pb,cb,hbv⟩:=OwnsN.sl hbc.2.2
      subst hbv hv2
      obtain⟨nI,hnI⟩:∃x,x=cc2.2.length:=⟨_,rfl⟩
      rw[<-hnI]at hbc hcl2 hb2
      have d1:wc.cell? ⟨C,1,none⟩=some (.slice (some ⟨g2,0,none⟩) n2 cap2):=by rw[cell_of_row _ _ _ _ _ (0,0) H2.out.head];rfl
      have d8:wc.cell? ⟨bp,8,none⟩=some (.slice pb nI cb):=by
       rw[cell_of_row _ _ _ _ _ (0,0) hbc.1,List.getElem?_toArray,List.getElem?_append_right (by rw[ints8,List.length_map,hbc.2.1];omega),ints8,List.length_map,hbc.2.1];rfl
      have x0:wc.cell? ⟨X,0,none⟩=some (.string nm):=by rw[cell_of_row _ _ _ _ _ (0,0) HgX2.out];rfl
      have x1:wc.cell? ⟨X,1,none⟩=some (.string tg):=by rw[cell_of_row _ _ _ _ _ (0,0) HgX2.out];rfl
      have x2:wc.cell? ⟨X,2,none⟩=some (.slice pn i cn):=by rw[cell_of_row _ _ _ _ _ (0,0) HgX2.out];rfl
      have kk1:(kk:Int)<n2:=by omega
      obtain⟨L,hL⟩:∃L:List (Addr×Value),L= [(⟨C,1,none⟩,.slice (some ⟨g2,0,none⟩) n2 cap2),(⟨g2,kk,none⟩,.pointer (some ⟨bp,0,none⟩)),(⟨bp,8,none⟩,.slice pb nI cb),(⟨X,0,none⟩,.string nm),(⟨X,1,none⟩,.string tg),(⟨X,2,none⟩,.slice pn i cn)]:=⟨_,rfl⟩
      have l0:∀x:InC (LoadsL L),x.w.cell? ⟨C,1,none⟩=some (.slice (some ⟨g2,0,none⟩) n2 cap2):=λx=>x.h (_,_) (by rw[hL];exact List.mem_cons_self)
      have l1:∀x:InC (LoadsL L),x.w.cell? ⟨g2,kk,none⟩=some (.pointer (some ⟨bp,0,none⟩)):=λx=>x.h (_,_) (by rw[hL];exact List.mem_cons_of_mem _ List.mem_cons_self)
      have l2:∀x:InC (LoadsL L),x.w.cell? ⟨bp,8,none⟩=some (.slice pb nI cb):=λx=>x.h (_,_) (by rw[hL];exact List.mem_cons_of_mem _ (List.mem_cons_of_mem _ List.mem_cons_self))
      have l3:∀x:InC (LoadsL L),x.w.cell? ⟨X,0,none⟩=some (.string nm):=λx=>x.h (_,_) (by rw[hL];exact List.mem_cons_of_mem _ (List.mem_cons_of_mem _ (List.mem_cons_of_mem _ List.mem_cons_self)))
      have l4:∀x:InC (LoadsL L),x.w.cell? ⟨X,1,none⟩=some (.string tg):=λx=>x.h (_,_) (by rw[hL];exact List.mem_cons_of_mem _ (List.mem_cons_of_mem _ (List.mem_cons_of_mem _ (List.mem_cons_of_mem _ List.mem_cons_self))))
      have l5:∀x:InC (LoadsL L),x.w.cell? ⟨X,2,none⟩=some (.slice pn i cn):=λx=>x.h (_,_) (by rw[hL];exact List.mem_cons_of_mem _ (List.mem_cons_of_mem _ (List.mem_cons_of_mem _ (List.mem_cons_of_mem _ (List.mem_cons_of_mem _ List.mem_cons_self)))))
      have mem:∀W:World,W.cell? ⟨C,1,none⟩=some (.slice (some ⟨g2,0,none⟩) n2 cap2)->W.cell? ⟨g2,kk,none⟩=some (.pointer (some ⟨bp,0,none⟩))->W.cell? ⟨bp,8,none⟩=some (.slice pb nI cb)->W.cell? ⟨X,0,none⟩=some (.string nm)->W.cell? ⟨X,1,none⟩=some (.string tg)->W.cell? ⟨X,2,none⟩=some (.slice pn i cn)->LoadsL L W:=by
       intro W e0 e1 e2 e3 e4 e5 p hp
       rw[hL]at hp
       simp only[List.mem_cons,List.mem_nil_iff,or_false]at hp
       rcases hp with rfl|rfl|rfl|rfl|rfl|rfl<;>assumption
      have L0:LoadsL L wc.drew:=mem _ d1 ckk d8 x0 x1 x2
      have hblk:∀p∈L,p.1.block<wc.heap.size:=by
       intro p hp
       rw[hL]at hp
       simp only[List.mem_cons,List.mem_nil_iff,or_false]at hp
       rcases hp with rfl|rfl|rfl|rfl|rfl|rfl
       ·exact lt_of_heap H2.out.head
       ·exact(H2.out.row.lt g2 rfl).2
       ·exact lt_of_heap hbc.1
       all_goals exact lt_of_heap HgX2.out
      have L1:=L0.alloc (o:= .cells #[.string nm,.string tg,.slice pn i cn] 47) hblk
      have HL0:=Lib.hid L0
      have HL1:=Lib.hid L1
      have Hmem:=Lib.hid mem
      have Hbc:=Lib.hid hbc
      have Hb2:=Lib.hid hb2
      have Hcc2:=Lib.hid hcc2
      have Hckk:=Lib.hid ckk
      have KW:Keep NoB wc (wc.alloc (.cells #[.string nm,.string tg,.slice pn i cn] 47)).drew:=((Keep.refl _ _).alloc _).drew
      have HKW:=Lib.hid KW
      have Hown:=Lib.hid (hbc.2.2.keep KW (λ_ _ x=>x))
      have Hnw:Hid (∀j u,([Value.string nm,.string tg,.slice pn i cn])[j]? =some u->(wc.alloc (.cells #[.string nm,.string tg,.slice pn i cn] 47)).drew.cell? ((⟨wc.heap.size,0,none⟩:Addr).add j)=some u):=Lib.hid (cells_new wc [.string nm,.string tg,.slice pn i cn] 47)
      have HcI:=Lib.hid hnI
      have HL:=Lib.hid hL
      have Hbase:=Lib.hid Kw2.size
      clear mem L0 L1 hbc hb2 hcc2 ckk KW hL hblk hnI
      go_upto_region 15 with(fail)
      refine wp_region_take (LoadsL L) [0,1,2,3,4,5,6,7,8,9,10,11,12,13,14,15,16,17] [18,19,20,21,22] (by kernel_rfl) (by kernel_rfl) (λc a d v w h=>by cases d<;>exact h) ?_
      simp only[pickL,List.getElem?_toArray,List.getElem?_cons_succ,List.getElem?_cons_zero]
      repeat(refine wpEarlyC_step (λK hK=> ?_);go_simp;first|(refine⟨_,λ_=>rfl,hK _ ?_⟩;clear hK K)|(refine hK _ ?_;clear hK K))
      refine wpEarlyC_nil ?_
      clear l0 l1 l2 l3 l4 l5
      simp only[wpRowC,pickL,List.getElem?_toArray,List.getElem?_cons_succ,List.getElem?_cons_zero]
      refine⟨HL0.out,?_⟩
      go_wp2_with fail
      refine⟨HL1.out,?_⟩
      refine wpList_append_s _ rfl (.tmp 75) (.tmp 77) 48 rfl w.heap.size 47 i0 _ 3 56 Tryz.underlying48 hi0 hz0 hs0 hb0 rfl (by decide) (.slice pb nI cb) nI (cc2.2.flatMap encItem) rfl Hown.out ⟨wc.heap.size,0,none⟩ 1 1 [.string nm,.string tg,.slice pn i cn] rfl rfl Hnw.out (by
       intro u hu
       simp only[List.mem_cons,List.mem_nil_iff,or_false]at hu
       rcases hu with rfl|rfl|rfl<;>rfl) (by unfold maxLen;omega) (by omega) (by have:=HKW.out.size;have:=Hbase.out;omega) ?_
      intro v' w' own' hg hwh
      have ownX:OwnsN w' w.heap.size 47 3 v' (cc2.2.length+1) (cc2.2.flatMap encItem++encItem x):=by rw[Hx.out,<-HcI.out];exact own'
      have hput:=H2.out.put HKW.out Hb2.out Hcc2.out ownX hg (by
       rcases hwh with h|h
       ·exact .inl h
       ·exact .inr h)
      have hCh:=H2.out.headMore2 HKW.out Hb2.out Hcc2.out hg
      have hbp:=H2.out.cellPut HKW.out Hb2.out Hcc2.out hg
      have e0:w'.cell? ⟨C,1,none⟩=some (.slice (some ⟨g2,0,none⟩) n2 cap2):=by rw[cell_of_row _ _ _ _ _ (0,0) hCh];rfl
      have e2:w'.cell? ⟨bp,8,none⟩=some (.slice pb nI cb):=by
       rw[cell_of_row _ _ _ _ _ (0,0) hbp,List.getElem?_toArray,List.getElem?_append_right (by rw[ints8,List.length_map,Hbc.out.2.1];omega),ints8,List.length_map,Hbc.out.2.1];rfl
      have z2:w'.frozen? ⟨bp,8,none⟩=false:=by unfold World.frozen?;simp only[hbp];rfl
      have eX:w'.cell? ⟨X,0,none⟩=some (.string nm)∧w'.cell? ⟨X,1,none⟩=some (.string tg)∧w'.cell? ⟨X,2,none⟩=some (.slice pn i cn):=by
       have hXb:X≠bp:=λe=>by
        have h1:=HgX2.out
        rw[e]at h1
        exact absurd (two_types h1 Hbc.out.1) (by decide)
       have hXi:w'.heap[X]? =some (.cells #[.string nm,.string tg,.slice pn i cn] 47 (0,0)):=by
        have h1:=HKW.out.heap HgX2.out (λx=>x)
        rw[hg.block X (lt_of_heap h1) (λe=> ?_)]
        ·exact h1
        ·exact HnX2.out _ (List.mem_of_getElem? Hb2.out) e.symm
       exact⟨by rw[cell_of_row _ _ _ _ _ (0,0) hXi];rfl,by rw[cell_of_row _ _ _ _ _ (0,0) hXi];rfl,by rw[cell_of_row _ _ _ _ _ (0,0) hXi];rfl⟩
      have eK:w'.cell? ⟨g2,kk,none⟩=some (.pointer (some ⟨bp,0,none⟩)):=by
       obtain⟨c',f',hh⟩:=own_type H2.out.row (g:=g2) rfl
       have h1:=H2.out.other HKW.out Hb2.out Hcc2.out hg (HKW.out.heap hh (λx=>x)) (by decide)
       have h2:wc.cell? ⟨g2,kk,none⟩=w'.cell? ⟨g2,kk,none⟩:=cell_same (by rw[hh,h1])
       rw[<-h2];exact Hckk.out
      have L2:LoadsL L w':=Hmem.out w' e0 eK e2 eX.1 eX.2.1 eX.2.2
      have HL2:=Lib.hid L2
      obtain⟨pv,nv,cvv,rfl⟩:∃p n c,v'= .slice p n c:=by
       rcases own'.2 with⟨h,_⟩|⟨_,_,_,_,h,_⟩
       ·exact⟨_,_,_,h⟩
       ·exact⟨_,_,_,h⟩
      have HP:=Lib.hid hput.1
      have KP:Keep NoB w (w'.setCell ⟨bp,8,none⟩ (.slice pv nv cvv)):=Kw2.trans hput.2 (λi hi hs=>absurd hi (Nat.not_lt.2 hs))
      clear own' ownX hg hwh hput hCh hbp e0 eX eK L2
      go_wp2_with fail
      refine⟨HL2.out,?_⟩
      go_wp2_with fail
      refine⟨HL2.out,?_⟩
      go_wp2_with fail
      refine⟨HL2.out,?_⟩
      go_wp2_with fail
      exact⟨⟨j+1,_,_,by go_num,by omega,by rw[Hsu.out,stepC,hat.out,<-Hkk.out];exact HP,KP⟩,by simp[intOf];omega⟩
  ·obtain rfl:j=n:=by omega
   have hN:List.take j l=l:=List.take_of_length_le (by rw[<-Hn.out];exact Nat.le_refl _)
   rw[hN]at hH
   go_wp2_with fail
   go_ret
   exact⟨C,_,bs,rfl,hH.out,K⟩
end Go.Proofs.YtnmhgehpddipdaaGreatDoor
namespace Go.Cof
open Go.RowKit Go.Sort Go.Shelf
open Go.Proofs (ltOf)
theorem addAtC(b i:Nat):(⟨b,0,none⟩:Addr).add i=⟨b,i,none⟩:=by unfold Addr.add;split<;>simp_all
def Apart(bs:List (Nat×Value)):Prop:=∀(i j:Nat) (b b':Nat×Value),bs[i]? =some b->bs[j]? =some b'->b.1=b'.1->i=j
def farOf(cs:List Cell)(bs:List (Nat×Value))(at_:List Int)(dim:Nat):List FarV:=(cs.zip bs).map λp=>(leastK p.1.1 at_ dim,p.2.1)
def blockItems(cs:List Cell)(bs:List (Nat×Value))(P:Nat):List ItemV:=match (cs.zip bs).find? λp=>decide (p.2.1=P)with
 | some p=>p.1.2
 | none=> []
section
variable {cs:List Cell}{bs:List (Nat×Value)}{l:List ItemV}{at_:List Int}{dim:Nat}
theorem blockItems_at(ha:Apart bs){i:Nat}{b:Nat×Value}{c:Cell}(hb:bs[i]? =some b)(hc:cs[i]? =some c):blockItems cs bs b.1=c.2:=by
 have hz:(cs.zip bs)[i]? =some (c,b):=by rw[List.getElem?_zip_eq_some];exact⟨hc,hb⟩
 unfold blockItems
 cases hf:(cs.zip bs).find? λp=>decide (p.2.1=b.1)with
 | none=>
  rw[List.find?_eq_none]at hf
  exact absurd (decide_eq_true (rfl:b.1=b.1)) (hf (c,b) (List.mem_of_getElem? hz))
 | some p=>
  have hp:=List.find?_some hf
  have hm:=List.mem_of_find?_eq_some hf
  obtain⟨j,hj⟩:=List.getElem?_of_mem hm
  obtain⟨pc,pb⟩:=p
  rw[List.getElem?_zip_eq_some]at hj
  have:=ha j i pb b hj.2 hb (of_decide_eq_true hp)
  subst this
  rw[hc]at hj
  obtain rfl:c=pc:=Option.some.inj hj.1
  rfl
theorem far_len(hl:bs.length=cs.length):(farOf cs bs at_ dim).length=cs.length:=by
 rw[farOf,List.length_map,List.length_zip];omega
theorem far_get{i:Nat}{b:Nat×Value}{c:Cell}(hb:bs[i]? =some b)(hc:cs[i]? =some c):(farOf cs bs at_ dim)[i]? =some (leastK c.1 at_ dim,b.1):=by
 have hz:(cs.zip bs)[i]? =some (c,b):=by rw[List.getElem?_zip_eq_some];exact⟨hc,hb⟩
 rw[farOf,List.getElem?_map,hz]
 rfl
theorem far_mem{e:FarV}(he:e∈farOf cs bs at_ dim):∃(i:Nat) (b:Nat×Value) (c:Cell),bs[i]? =some b∧cs[i]? =some c∧e=(leastK c.1 at_ dim,b.1):=by
 obtain⟨⟨c,b⟩,hm,rfl⟩:=List.mem_map.1 he
 obtain⟨i,hi⟩:=List.getElem?_of_mem hm
 rw[List.getElem?_zip_eq_some]at hi
 exact⟨i,b,c,hi.2,hi.1,rfl⟩
theorem far_items(ha:Apart bs)(hl:bs.length=cs.length):(farOf cs bs at_ dim).flatMap (λe=>blockItems cs bs e.2)=cs.flatMap (·.2):=by
 have e:(farOf cs bs at_ dim).map (λe=>blockItems cs bs e.2)=cs.map (·.2):=by
  apply List.ext_getElem?
  intro i
  by_cases hi:i<cs.length
  ·have hc:cs[i]? =some cs[i]:=List.getElem?_eq_getElem hi
   have hb:bs[i]? =some bs[i]:=List.getElem?_eq_getElem (by omega)
   rw[List.getElem?_map,far_get hb hc,List.getElem?_map,hc]
   show some (blockItems cs bs bs[i].1)=some cs[i].2
   rw[blockItems_at ha hb hc]
  ·rw[List.getElem?_eq_none (by rw[List.length_map,far_len hl];omega),List.getElem?_eq_none (by rw[List.length_map];omega)]
 rw[List.flatMap_def,List.flatMap_def,e]
structure AskOk(l:List ItemV)(at_:List Int)(dim:Nat):Prop where
 num:numOk at_
 len:at_.length=dim
 le:dim<=8
 ns:∀x∈l,numOk x.ns∧x.ns.length=dim
theorem least_le(A:AskOk l at_ dim){x:ItemV}(hx:x∈l):leastK (cellAt x) at_ dim<=farW x.ns at_:=by
 have h:=A.ns x hx
 have h1:=leastK_le x at_ h.1 A.num (by have:=A.le;omega) dim (by omega) (by have:=A.len;omega)
 rw[farK_all x.ns at_ dim (by omega)]at h1
 exact h1
theorem far_le(O:CellsOk cs l)(A:AskOk l at_ dim)(ha:Apart bs){e:FarV}(he:e∈farOf cs bs at_ dim):∀x∈blockItems cs bs e.2,e.1<=farW x.ns at_:=by
 obtain⟨i,b,c,hb,hc,rfl⟩:=far_mem he
 intro x hx
 rw[blockItems_at ha hb hc]at hx
 have hcm:=List.mem_of_getElem? hc
 have h1:=O.in_ c hcm x hx
 have hxl:x∈l:=O.perm.mem_iff.1 (List.mem_flatMap.2 ⟨c,hcm,hx⟩)
 show leastK c.1 at_ dim<=_
 rw[<-h1]
 exact least_le A hxl
def seenL(cs:List Cell)(bs:List (Nat×Value))(D:List FarV)(j:Nat):List ItemV:=(D.take j).flatMap λe=>blockItems cs bs e.2
structure FarOk(D:List FarV)(cs:List Cell)(bs:List (Nat×Value))(at_:List Int)(dim:Nat):Prop where
 perm:D.Perm (farOf cs bs at_ dim)
 sort:List.Pairwise (λa b:FarV=>a.1<=b.1) D
theorem seen_all{D:List FarV}(F:FarOk D cs bs at_ dim)(O:CellsOk cs l)(ha:Apart bs)(hl:bs.length=cs.length):(D.flatMap λe=>blockItems cs bs e.2).Perm l:=by
 refine(F.perm.flatMap_right _).trans ?_
 rw[far_items ha hl]
 exact O.perm
theorem seen_succ{D:List FarV}{j:Nat}{y:FarV}(hy:D[j]? =some y):seenL cs bs D (j+1)=seenL cs bs D j++blockItems cs bs y.2:=by
 have hj:=(List.getElem?_eq_some_iff.1 hy).1
 rw[seenL,List.take_succ_eq_append_getElem hj,(List.getElem?_eq_some_iff.1 hy).2,List.flatMap_append,seenL]
 simp
theorem seen_le{D:List FarV}(F:FarOk D cs bs at_ dim)(O:CellsOk cs l)(ha:Apart bs)(hl:bs.length=cs.length)(j:Nat):(seenL cs bs D j).length<=l.length:=by
 have h:=(seen_all F O ha hl).length_eq
 have e:D.flatMap (λe=>blockItems cs bs e.2)=seenL cs bs D j++(D.drop j).flatMap (λe=>blockItems cs bs e.2):=by
  rw[seenL,<-List.flatMap_append,List.take_append_drop]
 rw[e,List.length_append]at h
 omega
theorem seen_top{D:List FarV}(F:FarOk D cs bs at_ dim)(O:CellsOk cs l)(ha:Apart bs)(hl:bs.length=cs.length)(k:Int)(tag:ByteArray):topV (seenL cs bs D D.length) at_ k tag=topV l at_ k tag:=by
 rw[seenL,List.take_length]
 exact topV_perm (seen_all F O ha hl) at_ k tag
theorem seen_break{D:List FarV}(F:FarOk D cs bs at_ dim)(O:CellsOk cs l)(A:AskOk l at_ dim)(ha:Apart bs)(hl:bs.length=cs.length)(k:Int)(tag:ByteArray){j:Nat}{y:FarV}(hy:D[j]? =some y)(hk:0<k.toNat)
  (hlen:(topV (seenL cs bs D j) at_ k tag).length=k.toNat) (z:FoundV) (hz:(topV (seenL cs bs D j) at_ k tag)[k.toNat-1]? =some z) (hlt:z.2<y.1):topV (seenL cs bs D j) at_ k tag=topV l at_ k tag:=by
 have hj:=(List.getElem?_eq_some_iff.1 hy).1
 have e:D.flatMap (λe=>blockItems cs bs e.2)=seenL cs bs D j++(D.drop j).flatMap (λe=>blockItems cs bs e.2):=by
  rw[seenL,<-List.flatMap_append,List.take_append_drop]
 rw[<-topV_perm (seen_all F O ha hl) at_ k tag,e]
 refine(top_break _ _ at_ k tag hk hlen z hz ?_).symm
 intro x hx
 obtain⟨f,hf,hx⟩:=List.mem_flatMap.1 hx
 have hfD:=List.mem_of_mem_drop hf
 have h1:=far_le O A ha (F.perm.mem_iff.1 hfD) x hx
 have h2:y.1<=f.1:=by
  rw[List.drop_eq_getElem_cons hj,(List.getElem?_eq_some_iff.1 hy).2]at hf
  rcases List.mem_cons.1 hf with rfl|hf
  ·exact Int.le_refl _
  ·have hs:=F.sort
   have e2:D=D.take j++y::D.drop (j+1):=by
    have:=(List.take_append_drop j D).symm
    rwa [List.drop_eq_getElem_cons hj,(List.getElem?_eq_some_iff.1 hy).2]at this
   rw[e2,List.pairwise_append]at hs
   exact(List.pairwise_cons.1 hs.2.1).1 f hf
 omega
theorem farOk_of{d d':Array FarV}(hd:d.toList=farOf cs bs at_ dim)(hp:PermIn 0 d.size d d')(hs:SortedIn (ltOf cmpFar) 0 d.size d'):FarOk d'.toList cs bs at_ dim:=by
 obtain⟨h1,_,h3⟩:=hp
 refine⟨?_,?_⟩
 ·rw[<-hd]
  have e1:d'.extract 0 d.size=d':=by rw[<-h1,Array.extract_size]
  have e2:d.extract 0 d.size=d:=Array.extract_size
  rwa [e1,e2]at h3
 ·rw[List.pairwise_iff_getElem]
  intro i j hi hj hij
  have hi':i<d'.size:=by simpa using hi
  have hj':j<d'.size:=by simpa using hj
  have:=hs i j (Nat.zero_le _) hij (by omega)
  rw[getElem!_pos d' i hi',getElem!_pos d' j hj',ltFar]at this
  have:=of_decide_eq_false this
  simp only[Array.getElem_toList]
  omega
end
end Go.Cof
namespace Go.Proofs.YtnmhgehpddipdaaGreatDoor
open Go.RowKit Go.Cof Go.Sort Go.Shelf
theorem insFar_nil(w:World):Calls Tryz.prog 221 #[.slice none 0 0,.int .i64 0,.int .i64 0,.func (.func 94) #[] #[]] w λe w'=>e= .returned (.tuple #[])∧w'=w:=by
 go_enter Tryz.func221,Tryz.ntmps221
 go_wp2_with fail
 go_loopw [8] (λiv wr=>iv= .int .i64 1∧wr=w) (λ_ _=>0)
 case atStart=>exact⟨rfl,rfl⟩
 case round=>
  obtain⟨rfl,rfl⟩:=hrel
  go_wp2_with fail
  go_end0
  exact⟨rfl,rfl⟩
theorem stable_nil(w:World):Calls Tryz.prog 164 #[.slice none 0 0,.int .i64 0,.func (.func 94) #[] #[]] w λe w'=>e= .returned (.tuple #[])∧w'=w:=by
 go_enter Tryz.func164,Tryz.ntmps164
 go_wp2_with fail
 go_loopw [7,8] (λav bv wr=>av= .int .i64 0∧bv= .int .i64 20∧wr=w) (λ_ _ _=>0)
 case atStart=>exact⟨rfl,rfl,rfl⟩
 case round=>
  obtain⟨rfl,rfl,rfl⟩:=hrel
  have h:=λw=>insFar_nil w
  go_wp2_with fail
  refine(h _).mono ?_
  rintro e w1 ⟨rfl,rfl⟩
  go_wp2_with fail
  go_loopw [6] (λbv wr=>bv= .int .i64 20∧wr=w1) (λ_ _=>0)
  case atStart=>exact⟨rfl,rfl⟩
  case round=>
   obtain⟨rfl,rfl⟩:=hrel
   go_wp2_with fail
   go_end0
   exact⟨rfl,rfl⟩
theorem sortFarN_any(v:Value)(d:List FarV)(base:Nat)(w:World)(h:OwnsN w base 168 2 v d.length (d.flatMap encFar))(hl:d.length<=1000000):
  Calls Tryz.prog 93 #[v,.func (.func 94) #[] #[]] w λe w'=>e= .returned (.tuple #[])∧∃d':Array FarV,(PermIn 0 d.length d.toArray d'∧SortedIn (ltOf cmpFar) 0 d.length d')∧OwnsN w' base 168 2 v d.length (d'.toList.flatMap encFar)∧Keep (λb=>base<=b) w w':=by
 have h0:=h
 obtain⟨hlen,h⟩:=h
 rcases h with⟨rfl,hn⟩|⟨g,cap,cur,fz,rfl,hb,hg,_⟩
 ·obtain rfl:d= []:=List.eq_nil_of_length_eq_zero hn
  have h1:=stable_nil w
  go_enter Tryz.func93,Tryz.ntmps93
  go_wp2_with fail
  refine h1.mono ?_
  rintro e w' ⟨rfl,rfl⟩
  go_wp2_with fail
  go_end0
  exact⟨rfl,#[],⟨⟨rfl,λi h=>rfl,by simp⟩,λi j _ _ h=>absurd h (by simp)⟩,h0,Keep.refl _ _⟩
 ·have hH:=HoldsK.ofN encFar_len h0
  have hgl:=lt_of_heap hg
  have hs:d.toArray.size=d.length:=by simp
  have hcon:=sortStable_any g cap d.toArray w (by omega) hH hgl
  rw[hs]at hcon
  refine hcon.mono ?_
  rintro e w' ⟨he,d',hd,n,os,rfl⟩
  refine⟨he,d',hd,?_,?_⟩
  ·exact own_sorted (m:=n) (os:=os) encFar_len h0 (by have:=hd.1.1;omega)
  ·exact(sorted_keep (enc:=encFar) (k:=2) (m:=n) (os:=os) (d':=d') hgl).mono λi _ hi=>by rw[show i=g from hi];exact hb
end Go.Proofs.YtnmhgehpddipdaaGreatDoor
namespace Go.Cof
open Go.RowKit Go.Sort Go.Shelf
theorem cellAt_ok(x:ItemV)(h:numOk x.ns)(k:Nat): -4<=(cellAt x).getD k 0∧(cellAt x).getD k 0<=4:=by
 rw[List.getD_eq_getElem?_getD]
 cases e:(cellAt x)[k]? with
 | none=>simp
 | some y=>
  have hy:y∈cellAt x:=List.mem_of_getElem? e
  rw[cellAt,atK,List.mem_append]at hy
  show-4<=y∧y<=4
  rcases hy with hy|hy
  ·obtain⟨n,hn,rfl⟩:=List.mem_map.1 hy
   exact downI_in n (h n (List.mem_of_mem_take hn))
  ·obtain⟨_,rfl⟩:=List.mem_replicate.1 hy
   omega
theorem topV_nil(at_:List Int)(k:Int)(tag:ByteArray):topV [] at_ k tag= []:=by
 rw[topV]
 have:foundL [] at_ tag= []:=rfl
 rw[this,Go.Proofs.YtnmhgehpddipdaaGreatDoor.sortF_nil,List.take_nil]
theorem topV_len(l:List ItemV)(at_:List Int)(k:Int)(tag:ByteArray):(topV l at_ k tag).length<=k.toNat:=by
 rw[topV,List.length_take];omega
end Go.Cof
namespace Go.Proofs.YtnmhgehpddipdaaGreatDoor
open Go.RowKit Go.Cof Go.Sort Go.Shelf
theorem far_info:∃i,Tryz.prog.info? 168=some i∧i.zero=some (.agg #[.int .i64 0,.pointer none])∧i.size=2∧i.bytes=16:=by
 have h:(Tryz.prog.info? 168).map (λi=>(i.zero,i.size,i.bytes))=some (some (.agg #[.int .i64 0,.pointer none]),2,16):=by kernel_rfl
 cases hi:Tryz.prog.info? 168 with
 | none=>rw[hi]at h;cases h
 | some i=>
  rw[hi]at h
  simp only[Option.map_some,Option.some.injEq,Prod.mk.injEq]at h
  exact⟨i,rfl,h.1,h.2.1,h.2.2⟩
theorem cellsTop_no(cb dim:Nat)(cv va:Value)(at_:List Int)(k:Int)(tag:ByteArray)(w:World)(hC:w.heap[cb]? =some (.cells #[.int .i64 dim,cv] 163 (0,0)))(N:Nums w va at_)(ha:at_.length<=1000000)(hn:askB dim at_ k=false):
  Calls Tryz.prog 44 #[.pointer (some ⟨cb,0,none⟩),va,.int .i64 k,.string tag] w λe w'=>e= .returned (.tuple #[.slice none 0 0,.int .i64 0,errVal 1])∧w'=w:=by
 have c0:w.cell? ⟨cb,0,none⟩=some (.int .i64 dim):=by rw[cell_of_row _ _ _ _ _ (0,0) hC];rfl
 have h:=ask_any dim va at_ k w N ha
 rw[hn]at h
 clear hC
 go_enter Tryz.func44,Tryz.ntmps44
 go_wp2_with fail
 refine h.mono ?_
 rintro e w' ⟨rfl,hw⟩
 subst w'
 go_wp2_with fail
 go_ret3
 exact⟨rfl,rfl⟩
set_option maxRecDepth 100000 in
set_option maxHeartbeats 8000000 in
theorem cellsTop_own(cb dim:Nat)(cv va:Value)(bs:List (Nat×Value))(cs:List Cell)(l:List ItemV)(at_:List Int)(k:Int)(tag:ByteArray)(base:Nat)(w:World)(H:CellsAt w base cb dim cv bs cs)(O:CellsOk cs l)(A:AskOk l at_ dim)(N:Nums w va at_)(hnum:∀x∈l,Nums w x.av x.ns)(hl:l.length<=1000)(hn:askB dim at_ k=true):
  Calls Tryz.prog 44 #[.pointer (some ⟨cb,0,none⟩),va,.int .i64 k,.string tag] w λe w'=>∃(v':Value) (looked:Nat),e= .returned (.tuple #[v',.int .i64 looked,.nilIface])∧RowsK w' v' 2 encF (topV l at_ k tag)∧looked<=l.length∧(∀b,v'.ownBlock=some b->w.heap.size<=b)∧Keep NoB w w':=by
 have c0:w.cell? ⟨cb,0,none⟩=some (.int .i64 dim):=by rw[cell_of_row _ _ _ _ _ (0,0) H.head];rfl
 have c1:w.cell? ⟨cb,1,none⟩=some cv:=by rw[cell_of_row _ _ _ _ _ (0,0) H.head];rfl
 have hda:=A.len
 have hask:=ask_any dim va at_ k w N (by have:=A.le;omega)
 rw[hn]at hask
 have hk1:1<=k∧k<=60:=by
  simp only[askB,Bool.and_eq_true,decide_eq_true_eq]at hn
  omega
 obtain⟨K0,rfl⟩:∃K0:Nat,k=K0:=⟨k.toNat,by omega⟩
 have hK0:1<=K0∧K0<=60:=by omega
 have hap:Apart bs:=H.ptr
 have hlen:=H.len
 have hcs:=O.len
 obtain⟨pc,cc,rfl⟩:=Cells.rows_ptr H
 obtain⟨n,hnb⟩:∃n,n=bs.length:=⟨_,rfl⟩
 obtain⟨F,hF⟩:∃F,F=farOf cs bs at_ dim:=⟨_,rfl⟩
 have hFl:F.length=n:=by rw[hF,far_len hlen,hnb,hlen]
 rw[<-hnb]at c1 H
 obtain⟨i0,hi0,hz0,hs0,hb0⟩:=far_info
 have HH:=Lib.hid H
 have HO:=Lib.hid O
 have HA:=Lib.hid A
 have HN:=Lib.hid N
 have Hnb:=Lib.hid hnb
 have HF:=Lib.hid hF
 have HFl:=Lib.hid hFl
 have Hlen:=Lib.hid hlen
 have Hap:=Lib.hid hap
 have Hn:=Lib.hid hn
 have hn1000:n<=1000:=by omega
 have Hnum:=Lib.hid hnum
 clear H O A N hnb hF hFl hap hda hlen hcs hn hnum
 go_enter Tryz.func44,Tryz.ntmps44
 go_wp2_with fail
 refine hask.mono ?_
 rintro e w1 ⟨rfl,hw1⟩
 subst w1
 clear hask
 go_wp2_with fail
 go_loopw [11,34] (λov iv wr=>∃(j:Nat) (o:Value),iv= .int .i64 j∧o=ov∧j<=n∧Hid (OwnsN wr w.heap.size 168 2 o (F.take j).length ((F.take j).flatMap encFar))∧Keep NoB w wr) (λ_ iv _=>n-(intOf iv).toNat)
 case atStart=>exact⟨0,_,rfl,rfl,by omega,Lib.hid (OwnsN.nil _ _ _ _),Keep.refl _ _⟩
 case round=>
  obtain⟨j,o,rfl,rfl,hj,hO,K⟩:=hrel
  by_cases hlt:j<n
  ·have j1:(j:Int)<n:=by omega
   obtain⟨c,hc⟩:∃c,cs[j]? =some c:=⟨_,List.getElem?_eq_getElem (by have:=Hlen.out;have:=Hnb.out;omega)⟩
   obtain⟨b,hb⟩:=HH.out.get hc
   have Hr:=HH.out.keepN K
   have hbc:=Hr.cell j b c hb hc
   obtain⟨g,cap,hv,-,-⟩:=Hr.row.some (by have:=Hnb.out;omega)
   cases hv
   have ck:=Hr.row.cells rfl j (.pointer (some ⟨b.1,0,none⟩)) (by rw[ptrs,List.getElem?_map,hb];rfl)
   rw[addAtC]at ck
   obtain⟨x,hx,hcx⟩:=HO.out.at_ c (List.mem_of_getElem? hc)
   have hxn:=HA.out.ns x hx
   have hlst:=λq=>least_any cb b.1 dim _ at_ c.1 b.2 va (wr.drewN q) hbc.2.1 (λk=>by rw[hcx];exact cellAt_ok x hxn.1 k) HA.out.num HA.out.le HA.out.len (HN.out.keep (K.drewN q) (λ_ _ x=>x)) Hr.head hbc.1
   have hfg:=far_get (at_:=at_) (dim:=dim) hb hc
   rw[<-HF.out]at hfg
   obtain⟨bp,hbp⟩:∃bp,bp=b.1:=⟨_,rfl⟩
   obtain⟨ln,hln⟩:∃ln,ln=leastK c.1 at_ dim:=⟨_,rfl⟩
   rw[<-hbp]at ck hlst hfg
   rw[<-hln]at hlst hfg
   have Hfg:=Lib.hid hfg
   have hlst0:Calls Tryz.prog 92 #[.pointer (some ⟨cb,0,none⟩),.pointer (some ⟨bp,0,none⟩),va] wr λe w'=>e= .returned (.int .i64 ln)∧∃q,w'=wr.drewN q:=hlst 0
   clear hlst hfg hbp hln hcx hxn hx hbc Hr hb hc
   go_wp2_with fail
   refine hlst0.mono ?_
   rintro e w2 ⟨rfl,q2,rfl⟩
   clear hlst0
   have hown:OwnsN ((wr.drewN q2).alloc (.cells #[.int .i64 ln,.pointer (some ⟨bp,0,none⟩)] 168)) w.heap.size 168 2 o (F.take j).length ((F.take j).flatMap encFar):=(hO.out.drewN q2).alloc _
   have hsz:=K.size
   have hFj:(F.take j).length=j:=by rw[List.length_take];have:=HFl.out;omega
   rw[hFj]at hown
   go_wp2_with (refine wpList_append_n _ rfl (.tmp 38) (.tmp 45) 164 rfl w.heap.size 168 i0 _ 2 16 Tryz.underlying164 hi0 hz0 hs0 hb0 rfl (by decide) _ j _ rfl hown ⟨wr.heap.size,0,none⟩ 1 1 [.int .i64 ln,.pointer (some ⟨bp,0,none⟩)] rfl rfl (cells_new (wr.drewN q2) _ _) (by
    intro u hu
    simp only[List.mem_cons,List.mem_nil_iff,or_false]at hu
    rcases hu with rfl|rfl<;>rfl) (by unfold maxLen;omega) (by omega) (by show w.heap.size<=(wr.heap.push _).size;rw[Array.size_push];omega) ?_;intro v' w' own' hg)
   have hK':Keep NoB w w':=((K.drewN q2).alloc _).grown hg (λb hb=> .inr (hown.lt b hb).1)
   refine⟨⟨j+1,_,by go_num,rfl,by omega,Lib.hid ?_,hK'⟩,by simp[intOf];omega⟩
   have e1:F.take (j+1)=F.take j++ [(ln,bp)]:=by
    have hj2:=(List.getElem?_eq_some_iff.1 Hfg.out)
    rw[List.take_succ_eq_append_getElem hj2.1,hj2.2]
   rw[e1,List.length_append,hFj,List.flatMap_append,List.flatMap_cons,List.flatMap_nil,List.append_nil]
   exact own'
  ·obtain rfl:j=n:=by omega
   have hFt:F.take j=F:=List.take_of_length_le (by have:=HFl.out;omega)
   have ho:=hO.out
   rw[hFt]at ho
   have hsort:=sortFarN_any _ F w.heap.size wr ho (by have:=HFl.out;omega)
   have Hsort:=Lib.hid hsort
   obtain⟨po,co,rfl⟩:=OwnsN.sl ho
   have Ho:=Lib.hid ho
   obtain⟨m,hm⟩:∃m,m=F.length:=⟨_,rfl⟩
   have hmj:m=j:=by rw[hm];exact HFl.out
   have hm1000:m<=1000:=by omega
   rw[<-hm]at Hsort Ho
   rw[<-hm]
   have Hm:=Lib.hid hm
   have Hmj:=Lib.hid hmj
   clear hO ho hsort hFt hm hmj
   go_wp2_with fail
   refine Hsort.out.mono ?_
   rintro e w2 ⟨rfl,d',⟨hdp,hds⟩,hown,K2⟩
   have hFO:FarOk d'.toList cs bs at_ dim:=farOk_of (d:=F.toArray) (by rw[<-HF.out]) (by rw[show F.toArray.size=m by rw[Hm.out];simp];exact hdp) (by rw[show F.toArray.size=m by rw[Hm.out];simp];exact hds)
   have hDl:d'.toList.length=m:=by have:=hdp.1;simp at this⊢;rw[this,Hm.out]
   obtain⟨D,hD⟩:∃D,D=d'.toList:=⟨_,rfl⟩
   rw[<-hD]at hFO hDl hown
   have KD:Keep NoB w w2:=K.trans K2 (λi hi hs=>absurd hi (Nat.not_lt.2 hs))
   have HFO:=Lib.hid hFO
   have HDl:=Lib.hid hDl
   have Hown:=Lib.hid hown
   clear hdp hds hFO hDl hown hD Hsort Ho K2 K
   go_wp2_with fail
   go_loopw [14,15,52] (λov lv iv wr=>∃(i:Nat) (o:Value),iv= .int .i64 i∧o=ov∧lv= .int .i64 (seenL cs bs D i).length∧i<=m∧Hid (OwnsN wr w2.heap.size 55 2 o (topV (seenL cs bs D i) at_ K0 tag).length ((topV (seenL cs bs D i) at_ K0 tag).flatMap encF))∧Keep NoB w2 wr) (λ_ _ iv _=>m-(intOf iv).toNat)
   case atStart=>exact⟨0,_,rfl,rfl,by rw[seenL,List.take_zero];rfl,by omega,Lib.hid (by rw[seenL,List.take_zero,List.flatMap_nil,topV_nil];exact OwnsN.nil _ _ _ _),Keep.refl _ _⟩
   case round=>
    obtain⟨i,o,rfl,rfl,rfl,hi,hO,K⟩:=hrel
    by_cases hlt:i<m
    ·have i1:(i:Int)<m:=by omega
     obtain⟨y,hy⟩:∃y,D[i]? =some y:=⟨_,List.getElem?_eq_getElem (by have:=HDl.out;omega)⟩
     obtain⟨ci,b,c,hb,hc,hye⟩:=far_mem (HFO.out.perm.mem_iff.1 (List.mem_of_getElem? hy))
     have hbi:blockItems cs bs y.2=c.2:=by rw[hye];exact blockItems_at Hap.out hb hc
     have hsu:=seen_succ (cs:=cs) (bs:=bs) hy
     rw[hbi]at hsu
     have Kr:=KD.thenN K
     have Hr:=HH.out.keepN Kr
     have hbc:=Hr.cell ci b c hb hc
     have hyp:y.2=b.1:=by rw[hye]
     have Ow:=Hown.out.keep K (λ_ _ x=>x)
     obtain⟨g2,cap2,hv,-,-⟩:=Ow.some (by omega)
     cases hv
     have hfy:∀t u,(encFar y)[t]? =some u->(D.flatMap encFar)[i*2+t]? =some u:=λt u hu=>by
      have ht:t<2:=(List.getElem?_eq_some_iff.1 hu).1
      rw[flat_get encFar_len D i t ht,hy];exact hu
     have y0:=Ow.cells rfl (i*2+0) _ (hfy 0 _ rfl)
     have y1:=Ow.cells rfl (i*2+1) _ (hfy 1 _ rfl)
     rw[addAtC,Nat.add_zero]at y0
     rw[addAtC]at y1
     obtain⟨bp,bv⟩:=b
     simp only at hbc hyp
     obtain⟨pb,cb2,hbv⟩:=OwnsN.sl hbc.2.2
     obtain⟨nI,hnI⟩:∃x,x=c.2.length:=⟨_,rfl⟩
     rw[<-hnI]at hbv
     subst hbv
     have d8:wr.cell? ⟨bp,8,none⟩=some (.slice pb nI cb2):=by
      rw[cell_of_row _ _ _ _ _ (0,0) hbc.1,List.getElem?_toArray,List.getElem?_append_right (by rw[ints8,List.length_map,hbc.2.1];omega),ints8,List.length_map,hbc.2.1];rfl
     have e0:wr.cell? ⟨cb,0,none⟩=some (.int .i64 dim):=by rw[cell_of_row _ _ _ _ _ (0,0) Hr.head];rfl
     have hsub:∀x∈c.2,x∈l:=λx hx=>HO.out.perm.mem_iff.1 (List.mem_flatMap.2 ⟨c,List.mem_of_getElem? hc,hx⟩)
     have hcl:c.2.length<=1000:=by
      have h1:=seen_le HFO.out HO.out Hap.out Hlen.out (i+1)
      rw[hsu,List.length_append]at h1
      omega
     have hT:∀w3,Keep NoB wr w3->Calls Tryz.prog 96 #[.int .i64 dim,.slice pb nI cb2,va,.int .i64 K0,.string tag] w3 λe w'=>∃v',e= .returned (.tuple #[v',.nilIface])∧RowsK w' v' 2 encF (topV c.2 at_ K0 tag)∧((∀b,v'.ownBlock=some b->w3.heap.size<=b)∧CapOk v')∧Keep NoB w3 w':=λw3 K3=>
      top_yes dim _ c.2 va at_ K0 tag w3 ⟨RowsK.ofN encItem_len (by have:=hbc.2.2.keep K3 (λ_ _ x=>x);rw[hnI]at this⊢;exact this),λx hx=>(Hnum.out x (hsub x hx)).keep (Kr.thenN K3) (λ_ _ x=>x)⟩ (HN.out.keep (Kr.thenN K3) (λ_ _ x=>x)) hcl (by have:=HA.out.len;have:=HA.out.le;omega) (λx hx=>by have:=HA.out.ns x (hsub x hx);have:=HA.out.le;omega) Hn.out
     obtain⟨yn,yp⟩:=y
     simp only at hyp y0 y1
     subst hyp
     have HT:=Lib.hid hT
     have Hsu:=Lib.hid hsu
     have Hy:=Lib.hid hy
     have Hbi:=Lib.hid hbi
     have HnI:=Lib.hid hnI
     have Hcl:=Lib.hid hcl
     clear hT hsu hy hbi hnI hbc hsub hfy Ow hb hc hye Hr hcl
     obtain⟨T,hT⟩:∃T,T=topV (seenL cs bs D i) at_ K0 tag:=⟨_,rfl⟩
     have hO2:=hO.out
     rw[<-hT]at hO2
     have hTl:T.length<=K0:=by rw[hT];have:=topV_len (seenL cs bs D i) at_ K0 tag;omega
     obtain⟨po2,co2,ho2⟩:=OwnsN.sl hO2
     obtain⟨tn,htn⟩:∃tn,tn=T.length:=⟨_,rfl⟩
     rw[<-htn]at hO2 ho2 hTl
     subst ho2
     have HT2:=Lib.hid hT
     have Htn:=Lib.hid htn
     have HO2:=Lib.hid hO2
     have hw1:IntKind.i64.wrap ((K0:Int)-1)=((K0-1:Nat):Int):=by rw[IntWalk.i64_in _ (by omega)];omega
     clear hO hT htn
     go_upto_if 70 with fail
     go_cut [70] (λbv wx=>∃(Bo:Bool) (q:Nat),bv= .bool Bo∧wx=(wr.alloc (.cells #[.int .i64 yn,.pointer (some ⟨yp,0,none⟩)] 168)).drewN q∧Hid (Bo=true->topV (seenL cs bs D i) at_ K0 tag=topV l at_ K0 tag))
     case first=>
      by_cases hfull:tn=K0
      ·have hz0:∃z,T[K0-1]? =some z:=⟨_,List.getElem?_eq_getElem (by have:=Htn.out;omega)⟩
       obtain⟨z,hz⟩:=hz0
       obtain⟨g3,cap3,hv3,-,-⟩:=hO2.some (by omega)
       cases hv3
       have zc:=hO2.cells rfl ((K0-1)*2+1) (.int .i64 z.2) (by rw[flat_get encF_len T _ 1 (by omega),hz];rfl)
       rw[addAtC]at zc
       obtain⟨zn,zd⟩:=z
       simp only at zc
       have zc2:=(((Keep.refl NoB wr).alloc (.cells #[.int .i64 yn,.pointer (some ⟨yp,0,none⟩)] 168)).cell (p:=⟨g3,(K0-1)*2+1,none⟩) (hO2.lt g3 rfl).2 (λx=>x)).trans zc
       have HZ:=Lib.hid hz
       subst hfull
       have hlt2:tn-1<tn:=by omega
       by_cases hbr:zd<yn
       ·clear hz hO2
        go_quiet (fail)
        go_wp2_with fail
        have hstop:=seen_break HFO.out HO.out HA.out Hap.out Hlen.out (tn:Int) tag Hy.out (by omega) (by rw[<-HT2.out,<-Htn.out];omega) (zn,zd) (by rw[<-HT2.out];exact HZ.out) hbr
        go_meet
        case rel=>exact⟨true,_,rfl,rfl,Lib.hid (λ_=>hstop)⟩
       ·clear hz hO2
        go_quiet (fail)
        go_wp2_with fail
        go_meet
        case rel=>exact⟨false,_,rfl,rfl,Lib.hid (λh=>by cases h)⟩
      ·clear hO2
       have hne:¬((tn:Int)=K0):=by omega
       go_quiet (fail)
       go_wp2_with fail
       go_meet
       case rel=>exact⟨false,_,rfl,rfl,Lib.hid (λh=>by cases h)⟩
     case rest=>
      obtain⟨Bo,q,rfl,rfl,HBo⟩:=hcut
      have Kw:Keep NoB wr ((wr.alloc (.cells #[.int .i64 yn,.pointer (some ⟨yp,0,none⟩)] 168)).drewN q):=((Keep.refl _ _).alloc _).drewN q
      cases Bo with
      | true=>
       have hle:=seen_le HFO.out HO.out Hap.out Hlen.out i
       go_wp2_with fail
       go_ret3
       refine⟨_,_,rfl,?_,hle,λb hb=>Nat.le_trans KD.size (HO2.out.lt b hb).1,KD.thenN (K.thenN Kw)⟩
       rw[<-HBo.out trivial,<-HT2.out]
       exact RowsK.ofN encF_len (by rw[<-Htn.out];exact HO2.out.keep Kw (λ_ _ x=>x))
      | false=>
      go_wp2_with fail
      have f1:((wr.alloc (.cells #[.int .i64 yn,.pointer (some ⟨yp,0,none⟩)] 168)).drewN q).cell? ⟨wr.heap.size,1,none⟩=some (.pointer (some ⟨yp,0,none⟩)):=by
       show(wr.alloc (.cells #[.int .i64 yn,.pointer (some ⟨yp,0,none⟩)] 168)).cell? ⟨wr.heap.size,1,none⟩=_
       rw[cell_of_row _ _ _ _ _ (0,0) (heap_alloc_new wr _)];rfl
      have hB:wr.heap.size<((wr.alloc (.cells #[.int .i64 yn,.pointer (some ⟨yp,0,none⟩)] 168)).drewN q).heap.size:=by show wr.heap.size<(wr.heap.push _).size;rw[Array.size_push];omega
      have hyl:yp<wr.heap.size:=Lib.lt_of_cell d8
      have hcl0:cb<wr.heap.size:=Lib.lt_of_cell e0
      obtain⟨w4,hw4⟩:∃w4,w4=(wr.alloc (.cells #[.int .i64 yn,.pointer (some ⟨yp,0,none⟩)] 168)).drewN q:=⟨_,rfl⟩
      obtain⟨B,hBe⟩:∃B,B=wr.heap.size:=⟨_,rfl⟩
      rw[<-hw4]at Kw f1 hB⊢
      rw[<-hBe]at f1 hB⊢
      have d8':=(Kw.cell (p:=⟨yp,8,none⟩) hyl (λx=>x)).trans d8
      have e0':=(Kw.cell (p:=⟨cb,0,none⟩) hcl0 (λx=>x)).trans e0
      have HKw:=Lib.hid Kw
      have hyl4:yp<w4.heap.size:=Nat.lt_of_lt_of_le hyl Kw.size
      have HO4:=Lib.hid (HO2.out.keep Kw (λ_ _ x=>x))
      clear hw4 hBe Kw d8 e0 hO2 y0 y1
      go_cut [18,19] (λmv ev wx=>ev= .nilIface∧Hid (RowsK wx mv 2 encF (topV c.2 at_ K0 tag))∧Keep NoB w4 wx)
      case first=>
       go_region_with (go_at_call 96;refine(HT.out _ (HKw.out.drewN 1)).mono ?_;rintro e w5 ⟨v5,rfl,R5,-,K5'⟩)
       all_goals (have HR5':=Lib.hid R5;clear R5;go_wp2_with fail;go_meet;exact⟨rfl,HR5',((Keep.refl NoB w4).drewN 1).thenN K5'⟩)
      case rest=>
      obtain⟨rfl,R5',K5⟩:=hcut
      have R5:=R5'.out
      obtain⟨v5,rfl⟩:∃v5,v5=u18:=⟨_,rfl⟩
      obtain⟨w5,rfl⟩:∃w5,w5=wc:=⟨_,rfl⟩
      clear R5'
      have f1':=(K5.cell (p:=⟨B,1,none⟩) hB (λx=>x)).trans f1
      have d8'':=(K5.cell (p:=⟨yp,8,none⟩) hyl4 (λx=>x)).trans d8'
      have HO5:=Lib.hid (HO4.out.keep K5 (λ_ _ x=>x))
      have HR5:=Lib.hid R5
      have HK5:=Lib.hid (HKw.out.thenN K5)
      have hseen:(seenL cs bs D i).length+nI=(seenL cs bs D (i+1)).length:=by rw[Hsu.out,List.length_append,<-HnI.out]
      have hsl:=seen_le HFO.out HO.out Hap.out Hlen.out (i+1)
      have hwr:IntKind.i64.wrap (((seenL cs bs D i).length:Int)+nI)=((seenL cs bs D (i+1)).length:Int):=by rw[IntWalk.i64_in _ (by omega)];omega
      have Hsl:=Lib.hid hsl
      have Hseen:=Lib.hid hseen
      clear f1 d8' e0' R5 K5 hseen hsl HO4 HKw hB hyl hyl4 hcl0
      obtain⟨sn,hsn⟩:∃sn,sn=(seenL cs bs D i).length:=⟨_,rfl⟩
      obtain⟨sn1,hsn1⟩:∃sn,sn=(seenL cs bs D (i+1)).length:=⟨_,rfl⟩
      rw[<-hsn,<-hsn1]at hwr
      rw[<-hsn]
      have Hsn1:=Lib.hid hsn1
      clear hsn hsn1
      obtain⟨C,hC⟩:∃C,C=topV c.2 at_ K0 tag:=⟨_,rfl⟩
      rw[<-hC]at HR5
      have hCl:C.length<=K0:=by rw[hC];have:=topV_len c.2 at_ K0 tag;omega
      have HC:=Lib.hid hC
      clear hC
      obtain⟨i9,hi9,hz9,hs9,hb9⟩:=found_info
      have hbase5:w2.heap.size<=w5.heap.size:=Nat.le_trans K.size HK5.out.size
      have X4:∀(a:Act) (ops:Array Oper) (rest:List Oper) (o:Oper) (Q:Exit->Act->World->Prop),o.guard=none->o.op= .call { callee:= .builtin .append,args:= #[.tmp 98,.tmp 99],argTypes:= #[50,50] }->a.eval (.tmp 98)= .slice po2 tn co2->a.eval (.tmp 99)=v5->
        (∀v6 w6,OwnsN w6 w2.heap.size 55 2 v6 (T++C).length ((T++C).flatMap encF)->Keep (λb=>w2.heap.size<=b) w5 w6->wpList Tryz.prog ops Q rest (a.put o.dst v6) w6)->wpList Tryz.prog ops Q (o::rest) a w5:=by
       intro a ops rest o Q h1 h2 h3 h4 h5
       refine wpList_append_rows h1 (.tmp 98) (.tmp 99) 50 h2 w2.heap.size 55 i9 _ 24 Tryz.underlying50 hi9 hz9 hs9 hb9 rfl (by decide) encF_len _ tn _ h3 HO5.out v5 C h4 HR5.out (flatF_one C) (by unfold maxLen;omega) (by omega) hbase5 ?_
       intro v6 w6 h6 h7
       exact h5 v6 w6 (by rw[List.length_append,<-Htn.out,List.flatMap_append];exact h6) h7
      have HX4:=Lib.hid X4
      clear X4
      go_wp2_with (refine HX4.out _ _ _ _ _ rfl rfl rfl rfl ?_;intro v6 w6 own6 K6)
      have hTC:(T++C).length<=1000000:=by rw[List.length_append,<-Htn.out];omega
      have hso:=sortFoundN_any v6 (T++C) w2.heap.size w6 own6 hTC
      obtain⟨p6,c6,rfl⟩:=OwnsN.sl own6
      obtain⟨N6,hN6⟩:∃N6,N6=(T++C).length:=⟨_,rfl⟩
      rw[<-hN6]at own6 hso
      rw[<-hN6]
      have hcap6:N6<=c6:=by
       rcases own6.2 with⟨h,hn⟩|⟨_,_,_,_,h,_,_,_,hc,_⟩
       ·cases h;omega
       ·cases h;exact hc
      have Hso:=Lib.hid hso
      have HN6:=Lib.hid hN6
      have HK6:=Lib.hid (HK5.out.ofN.trans (S':=λb=>w2.heap.size<=b) K6 (λ_ _ h=>h))
      clear hso own6 hN6 K6
      go_wp2_with fail
      refine Hso.out.mono ?_
      rintro e w7 ⟨rfl,own7,K7⟩
      have hmin:(min (K0:Int) N6)=((min K0 N6:Nat):Int):=by omega
      have hm6:min K0 N6<=c6:=by omega
      have htop:topV (seenL cs bs D (i+1)) at_ K0 tag=(sortF (T++C)).take (min K0 N6):=by
       rw[Hsu.out,<-top_step,<-HT2.out,<-HC.out]
       show(sortF (T++C)).take K0=_
       rw[<-List.take_take,List.take_of_length_le (i:=N6) (by rw[sortF_len,<-HN6.out];exact Nat.le_refl _)]
      have ownE:OwnsN w7 w2.heap.size 55 2 (.slice p6 (min K0 N6) c6) (topV (seenL cs bs D (i+1)) at_ K0 tag).length ((topV (seenL cs bs D (i+1)) at_ K0 tag).flatMap encF):=by
       have hlen:(topV (seenL cs bs D (i+1)) at_ K0 tag).length=min K0 N6:=by rw[htop,List.length_take,sortF_len,<-HN6.out];omega
       rw[hlen,htop,<-flat_take encF_len]
       rcases own7.2 with⟨h,hn⟩|⟨g7,_,_,_,h,_⟩
       ·cases h
        rw[hn,Nat.min_eq_right (Nat.zero_le _),Nat.zero_mul,List.take_zero]
        exact OwnsN.nil _ _ _ _
       ·cases h
        exact own7.take _ (by omega)
      have HE:=Lib.hid ownE
      have KE:Keep NoB w2 w7:=K.trans (HK6.out.trans K7 (λ_ _ h=>h)) (λi hi hs=>absurd hi (Nat.not_lt.2 hs))
      clear own7 K7 htop ownE
      go_wp2_with fail
      exact⟨⟨i+1,_,by go_num,rfl,by rw[<-Hsn1.out],by omega,HE,KE⟩,by simp[intOf];omega⟩
    ·obtain rfl:i=m:=by omega
     have hfin:=seen_top HFO.out HO.out Hap.out Hlen.out (K0:Int) tag
     rw[HDl.out]at hfin
     have ho:=hO.out
     rw[hfin]at ho
     have hle:=seen_le HFO.out HO.out Hap.out Hlen.out i
     have hR:=RowsK.ofN encF_len ho
     have hnw:∀b,o.ownBlock=some b->w.heap.size<=b:=λb hb=>Nat.le_trans KD.size (ho.lt b hb).1
     have Hnw:=Lib.hid hnw
     clear hnw
     have Ho:=Lib.hid hR
     clear hO ho hfin hR
     go_wp2_with fail
     go_ret3
     exact⟨_,_,rfl,Ho.out,hle,Hnw.out,KD.thenN K⟩
end Go.Proofs.YtnmhgehpddipdaaGreatDoor
