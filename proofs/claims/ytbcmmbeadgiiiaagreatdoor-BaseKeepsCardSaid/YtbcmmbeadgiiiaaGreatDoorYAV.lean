import Derived.Test.YtbcmmbeadgiiiaaGreatDoorYAU
import Derived.Lib.SlKept
set_option linter.all false
namespace Go.Proofs.YtbcmmbeadgiiiaaGreatDoor
open Go.RowKit Tryz
set_option maxRecDepth 100000
set_option maxHeartbeats 16000000
variable{c:Cell}{cs:List Cell}{xs:List ay}{D:List yl}{C base g i j k n qE:Nat}{f:Nat×Nat}{b:Nat×ay}{e:aB}{W w w':ax}{v:ay}{x:qP}{y:yl}
def zaq(s:af)(b:Bool)(hb:b=decide (60<s.size))(w:ax):ae 4 #[.string s] w λe w'=>e= .returned (.bool b)∧w'=w:=by subst hb;go_enter func4,ntmps4;go_wp2;go_ret;exact⟨dB (λb=>Ending.returned (.bool b)) (by simp only[decide_eq_decide];omega),rfl⟩
section
variable {w:ax}{base:Nat}{e:aB}{size:Nat}{v:ay}{n:Nat}{xs:List ay}
end
section
variable {α:Type}{enc:α->List ay}
end
section
open Go.Sort Go.Shelf
end
section
open Go.Sort Go.Shelf
def Vp(bs:List (Nat×ay)):List ay:=bs.map λb=> .pointer (some ⟨b.1,0,none⟩)
structure uh(w:ax)(base C:Nat)(qE:Nat)(v:ay)(bs:List (Nat×ay))(cs:List Cell):Prop where
 head:w.heap[C]? =some (.cells #[.int .i64 qE,v] 206 (0,0))
 row:qF w base 208 1 v bs.length (Vp bs)
 len:bs.length=cs.length
 cell:∀(i:Nat) (b:Nat×ay) (c:Cell),bs[i]? =some b->cs[i]? =some c->w.heap[b.1]? =some (.cells (xH c.1++ [b.2]).toArray 219 (0,0))∧c.1.length=8∧qF w base 45 3 b.2 c.2.length (c.2.flatMap rC)
 ptr:∀(i j:Nat) (b b':Nat×ay),bs[i]? =some b->bs[j]? =some b'->b.1=b'.1->i=j
 own:∀(i j:Nat) (b b':Nat×ay) (g:Nat),bs[i]? =some b->bs[j]? =some b'->b.2.ownBlock=some g->b'.2.ownBlock=some g->i=j
 low:base<=C∧∀b∈bs,base<=b.1
def wG{B:Nat}{cur:Array ay}{E:aB}{fz:Nat×Nat}(h:w.heap[B]? =some (.cells cur E fz))(u:ay):(w.setCell ⟨B,i,none⟩ u).heap[B]? =some (.cells (cur.setIfInBounds i u) E fz):=by
 have rE:=lt_of_heap h;have h':w.heap[B]= .cells cur E fz:=by simpa [dQ rE]using h
 show(w.heap.modify B _)[B]? =_;rw[dQ (by simpa using rE),fQ,h'];rfl
def rD{c c':Array ay}{t t':aB}{f':Nat×Nat}(h:w.heap[g]? =some (.cells c t f))(h':w.heap[g]? =some (.cells c' t' f')):t=t':=by rw[h]at h';have:=aU h';simp only[nS]at this;exact this.2.1
def tV{size:Nat}(h:qF w base e size v n xs)(hg:v.ownBlock=some g):∃c f,w.heap[g]? =some (.cells c e f):=by
 rcases h.2 with⟨hv,_⟩|⟨g',cap,cur,fz,hv,_,hh,_⟩
 ·rw[hv]at hg;cases hg
 rw[hv]at hg;obtain rfl:g'=g:=aU hg;exact⟨_,_,hh⟩
section
variable {w w' W:ax}{base C qE:Nat}{v v':ay}{bs:List (Nat×ay)}{cs:List Cell}
def uh.get(h:uh w base C qE v bs cs)(hc:cs[i]? =some c):∃b,bs[i]? =some b:=by have:=(aT.1 hc).1;exact⟨_,aK (by rw[h.len];exact this)⟩
def uh.cellOf(h:uh w base C qE v bs cs)(hb:bs[i]? =some b):∃c,cs[i]? =some c:=by have:=(aT.1 hb).1;exact⟨_,aK (by rw[<-h.len];exact this)⟩
def uh.qm(h:uh w base C qE v bs cs){S:Nat->Prop}(K:Keep S w w')(hS:∀b,base<=b->b<w.heap.size->¬S b):uh w' base C qE v bs cs:=
 ⟨K.heap h.head (hS C h.low.1 (lt_of_heap h.head)),h.row.qm K (λb hb=>hS b (h.row.lt b hb).1 (h.row.lt b hb).2),h.len,λi b c hb hc=>by have h1:=h.cell i b c hb hc;exact⟨K.heap h1.1 (hS b.1 (h.low.2 b (bG hb)) (lt_of_heap h1.1)),h1.2.1,h1.2.2.qm K (λg hg=>hS g (h1.2.2.lt g hg).1 (h1.2.2.lt g hg).2)⟩,h.ptr,h.own,h.low⟩
def uh.rV(h:uh w base C qE v bs cs)(K:ak w w'):uh w' base C qE v bs cs:=h.qm K (λ_ _ _ x=>x)
def uh.more(h:uh w base C qE v bs cs)(K:ak w W)(hb:base<=w.heap.size){P:Nat}{m:List Int}(hP:w.heap.size<=P)(hPb:W.heap[P]? =some (.cells (xH m++ [Value.slice none 0 0]).toArray 219 (0,0)))(hm:m.length=8)
  (II:qF w' base 208 1 v' (bs.length+1) (Vp bs++ [.pointer (some ⟨P,0,none⟩)])) (hg:W.grownBy w' v.ownBlock):
  uh (w'.setCell ⟨C,1,none⟩ v') base C qE v' (bs++ [(P,.slice none 0 0)]) (cs++ [(m,[])])∧Keep (λb=>base<=b) w (w'.setCell ⟨C,1,none⟩ v'):=by
 have hW:=h.rV K;have ne1:∀ {g:Nat} {c:Array ay} {t:aB} {f:Nat×Nat},W.heap[g]? =some (.cells c t f)->t≠208->w'.heap[g]? =some (.cells c t f):=by
  intro g c t f YU ht;rw[hg.block g (lt_of_heap YU) (λe=> ?_)]
  ·exact YU
  obtain⟨c',f',hh⟩:=tV hW.row e.s;exact ht (rD YU hh)
 have hC':=ne1 hW.head (by decide);have hCl:=lt_of_heap hC';have KC:Keep (qJ C) w' (w'.setCell ⟨C,1,none⟩ v'):=(ah (qJ C) w').tK 1 v';have nC:∀ {g:Nat} {c:Array ay} {t:aB} {f:Nat×Nat},w'.heap[g]? =some (.cells c t f)->t≠206->g≠C:=by intro g c t f h1 ht e;subst e;exact ht (rD h1 hC')
 have uU:∀g,v'.ownBlock=some g->¬qJ C g:=λg hgv YU=>by obtain⟨c',f',hh⟩:=tV II hgv;exact nC hh (by decide) YU
 have zwX:=ne1 hPb (by decide);refine⟨⟨?_,?_,by rw[aN,aN,h.len];rfl,?_,?_,?_,⟨h.low.1,λb JQ=> ?_⟩⟩,?_⟩
 ·have:=wG (i:=1) hC' v';exact this
 ·have:qF w' base 208 1 v' (bs++ [(P,Value.slice none 0 0)]).length (Vp (bs++ [(P,Value.slice none 0 0)])):=by
   rw[aN,Vp,dK];exact II
  exact this.qm KC uU
 ·intro i b c JQ Zq;by_cases hi:i<bs.length
  ·rw[dL hi]at JQ;rw[dL (by rw[<-h.len];exact hi)]at Zq;have h1:=hW.cell i b c JQ Zq;refine⟨KC.heap (ne1 h1.1 (by decide)) (nC (ne1 h1.1 (by decide)) (by decide)),h1.2.1,?_⟩;have h2:qF w' base 45 3 b.2 c.2.length (c.2.flatMap rC):=by
    refine⟨h1.2.2.1,?_⟩;rcases h1.2.2.2 with h3|⟨g,cap,cur,fz,hv,hbg,hh,r⟩
    ·exact .inl h3
    ·exact .inr ⟨g,cap,cur,fz,hv,hbg,ne1 hh (by decide),r⟩
   exact h2.qm KC (λg hgv YU=>by obtain⟨c',f',hh⟩:=tV h2 hgv;exact nC hh (by decide) YU)
  rw[bT (by omega)]at JQ;rw[bT (by rw[<-h.len];omega)]at Zq;rw[<-h.len]at Zq;obtain⟨k,hk⟩:=aj (i-bs.length);rw[<-hk]at JQ Zq;cases k with
  | succ k=>simp at JQ
  | zero=>
   obtain rfl:(P,Value.slice none 0 0)=b:=by simpa using JQ
   obtain rfl:(m,[])=c:=by simpa using Zq
   exact⟨KC.heap zwX (nC zwX (by decide)),hm,qF.nil _ _ _ _⟩
 ·intro i j b b' h1 h2 e;have lt:∀(i:Nat) (b:Nat×ay),i<bs.length->(bs++ [(P,Value.slice none 0 0)])[i]? =some b->bs[i]? =some b∧b.1<w.heap.size:=by
   intro i b hi hb;rw[dL hi]at hb;obtain⟨c,hc⟩:=h.cellOf hb;exact⟨hb,lt_of_heap (h.cell i b c hb hc).1⟩
  have ge:∀(i:Nat) (b:Nat×ay),¬i<bs.length->(bs++ [(P,Value.slice none 0 0)])[i]? =some b->i=bs.length∧b.1=P:=by
   intro i b hi hb;have hl:=(aT.1 hb).1;rw[aN,iF]at hl;obtain rfl:i=bs.length:=by omega
   rw[bT (aS _),kz]at hb;obtain rfl:(P,Value.slice none 0 0)=b:=by simpa using hb
   exact⟨rfl,rfl⟩
  by_cases hi:i<bs.length<;>by_cases hj:j<bs.length
  ·exact h.ptr i j b b' (lt i b hi h1).1 (lt j b' hj h2).1 e
  ·have:=(lt i b hi h1).2;have:=(ge j b' hj h2).2;omega
  ·have:=(lt j b' hj h2).2;have:=(ge i b hi h1).2;omega
  ·have:=(ge i b hi h1).1;have:=(ge j b' hj h2).1;omega
 ·intro i j b b' g h1 h2 e1 e2;have old:∀(i:Nat) (b:Nat×ay),(bs++ [(P,Value.slice none 0 0)])[i]? =some b->b.2.ownBlock=some g->bs[i]? =some b:=by
   intro i b hb hg;by_cases hi:i<bs.length
   ·rwa [dL hi]at hb
   ·have hl:=(aT.1 hb).1;rw[aN,iF]at hl;obtain rfl:i=bs.length:=by omega
    rw[bT (aS _),kz]at hb;obtain rfl:(P,Value.slice none 0 0)=b:=by simpa using hb
    cases hg
  exact h.own i j b b' g (old i b h1 e1) (old j b' h2 e2) e1 e2
 ·rcases dX.1 JQ with JQ|JQ
  ·exact h.low.2 b JQ
  rw[bJ.1 JQ];exact bQ hb hP
 ·refine(K.yw.t (S':=λb=>base<=b) ?_ (λi hi hs=>hs));exact((ah (λb=>base<=b) W).grown hg (λk hk=> .inl (hW.row.lt k hk).1)).setCell (p:=⟨C,1,none⟩) (.inl h.low.1) v'
def uh.put(h:uh w base C qE v bs cs)(K:ak w W)(hb:bs[k]? =some b)(hc:cs[k]? =some c)
  (II:qF w' base 45 3 v' (c.2.length+1) (c.2.flatMap rC++rC x)) (hg:W.grownBy w' b.2.ownBlock) (hv:v'.ownBlock=b.2.ownBlock∨∀g,v'.ownBlock=some g->W.heap.size<=g):
  uh (w'.setCell ⟨b.1,8,none⟩ v') base C qE v (bs.set k (b.1,v')) (zk9 cs k x)∧Keep (λb=>base<=b) w (w'.setCell ⟨b.1,8,none⟩ v'):=by
 have hW:=h.rV K;have Vb:=hW.cell k b c hb hc;have ne1:∀ {g:Nat} {cc:Array ay} {t:aB} {f:Nat×Nat},W.heap[g]? =some (.cells cc t f)->t≠45->w'.heap[g]? =some (.cells cc t f):=by
  intro g cc t f YU ht;rw[hg.block g (lt_of_heap YU) (λe=> ?_)]
  ·exact YU
  obtain⟨c',f',hh⟩:=tV Vb.2.2 e.s;exact ht (rD YU hh)
 have Ry:=ne1 Vb.1 (by decide);have KB:Keep (qJ b.1) w' (w'.setCell ⟨b.1,8,none⟩ v'):=(ah (qJ b.1) w').tK 8 v';have nB:∀ {g:Nat} {cc:Array ay} {t:aB} {f:Nat×Nat},w'.heap[g]? =some (.cells cc t f)->t≠219->g≠b.1:=by intro g cc t f h1 ht e;subst e;exact ht (rD h1 Ry)
 have RJ:∀(i:Nat) (b':Nat×ay),(bs.set k (b.1,v'))[i]? =some b'->(i=k∧b'=(b.1,v'))∨(i≠k∧bs[i]? =some b'):=by
  intro i b' JQ;rw[oD]at JQ;by_cases e:k=i
  ·rw[bu e]at JQ;split at JQ
   ·exact .inl ⟨e.s,(aU JQ).s⟩
   cases JQ
  rw[aV e]at JQ;exact .inr ⟨λh=>e h.s,JQ⟩
 refine⟨⟨KB.heap (ne1 hW.head (by decide)) (nB (ne1 hW.head (by decide)) (by decide)),?_,by rw[fC,zk9,List.length_modify];exact h.len,?_,?_,?_,⟨h.low.1,λb' JQ=> ?_⟩⟩,?_⟩
 ·have e1:Vp (bs.set k (b.1,v'))=Vp bs:=by
   rw[Vp,Vp,kR];apply List.ext_getElem?;intro i;rw[oD];split
   ·rename_i e;subst e;split
    ·rw[aX,hb];rfl
    rename_i hl;rw[jF (by omega)]
   ·rfl
  rw[fC,e1];have h1:qF w' base 208 1 v bs.length (Vp bs):=by
   refine⟨hW.row.1,?_⟩;rcases hW.row.2 with h3|⟨g,cap,cur,fz,hv,hbg,hh,r⟩
   ·exact .inl h3
   exact .inr ⟨g,cap,cur,fz,hv,hbg,ne1 hh (by decide),r⟩
  exact h1.qm KB (λg hgv YU=>by obtain⟨c',f',hh⟩:=tV h1 hgv;exact nB hh (by decide) YU)
 ·intro i b' c' JQ Zq;rcases RJ i b' JQ with⟨rfl,rfl⟩|⟨hi,zC⟩
  ·have Oo:c'=(c.1,c.2++ [x]):=by
    rw[zk9,List.getElem?_modify_eq,hc]at Zq;exact(aU Zq).s
   subst Oo;refine⟨?_,Vb.2.1,?_⟩
   ·have h1:=wG (i:=8) Ry v';have e:(xH c.1++ [b.2]).toArray.setIfInBounds 8 v'=(xH c.1++ [v']).toArray:=by
     have hl:(xH c.1).length=8:=by rw[xH,aP];exact Vb.2.1
     rw[fJ,iE _ _ (by omega),hl];rfl
    rwa [e]at h1
   ·have h1:qF w' base 45 3 v' (c.2++ [x]).length ((c.2++ [x]).flatMap rC):=by
     rw[aN,dU,dZ,ku,dS];exact II
    exact h1.qm KB (λg hgv YU=>by obtain⟨c',f',hh⟩:=tV h1 hgv;exact nB hh (by decide) YU)
  have Oo:cs[i]? =some c':=by
   rw[zk9,List.getElem?_modify]at Zq;split at Zq
   ·rename_i e;exact absurd e.s hi
   ·simpa using Zq
  have h1:=hW.cell i b' c' zC Oo;refine⟨KB.heap (ne1 h1.1 (by decide)) (λe=>hi (h.ptr i k b' b zC hb e)),h1.2.1,?_⟩;have h2:qF w' base 45 3 b'.2 c'.2.length (c'.2.flatMap rC):=by
   refine⟨h1.2.2.1,?_⟩;rcases h1.2.2.2 with h3|⟨g,cap,cur,fz,hv2,hbg,hh,r⟩
   ·exact .inl h3
   refine .inr ⟨g,cap,cur,fz,hv2,hbg,?_,r⟩;rw[hg.block g (lt_of_heap hh) (λe=>hi (h.own i k b' b g zC hb (by rw[hv2];rfl) e.s))];exact hh
  exact h2.qm KB (λg hgv YU=>by obtain⟨c',f',hh⟩:=tV h2 hgv;exact nB hh (by decide) YU)
 ·intro i j b1 b2 h1 h2 e;rcases RJ i b1 h1 with⟨rfl,rfl⟩|⟨hi,h1'⟩<;>rcases RJ j b2 h2 with⟨rfl,rfl⟩|⟨hj,h2'⟩
  ·rfl
  ·exact h.ptr _ _ b b2 hb h2' e
  ·exact h.ptr _ _ b1 b h1' hb e
  exact h.ptr _ _ b1 b2 h1' h2' e
 ·intro i j b1 b2 g h1 h2 e1 e2;have new:∀(i:Nat) (b':Nat×ay),bs[i]? =some b'->b'.2.ownBlock=some g->v'.ownBlock=some g->i=k:=by
   intro i b' JQ e1 e2;rcases hv with hv|hv
   ·exact h.own i k b' b g JQ hb e1 (hv▸e2)
   ·obtain⟨c',Zq⟩:=hW.cellOf JQ;have:=((hW.cell i b' c' JQ Zq).2.2.lt g e1).2;have:=hv g e2;omega
  rcases RJ i b1 h1 with⟨rfl,rfl⟩|⟨hi,h1'⟩<;>rcases RJ j b2 h2 with⟨rfl,rfl⟩|⟨hj,h2'⟩
  ·rfl
  ·exact(new j b2 h2' e2 e1).s
  ·exact new i b1 h1' e1 e2
  ·exact h.own _ _ b1 b2 g h1' h2' e1 e2
 ·obtain⟨i,hi⟩:=iM JQ;rcases RJ i b' hi with⟨_,rfl⟩|⟨_,h2⟩
  ·exact h.low.2 b (bG hb)
  exact h.low.2 b' (bG h2)
 ·refine(K.yw.t (S':=λb=>base<=b) ?_ (λi hi hs=>hs));exact((ah (λb=>base<=b) W).grown hg (λk hk=> .inl (Vb.2.2.lt k hk).1)).setCell (p:=⟨b.1,8,none⟩) (.inl (h.low.2 b (bG hb))) v'
end
def zdZ(cs:List Cell)(m:List Int):Int:=if zfI cs m then(zb3 cs m:Int)else-1
def zrQ{m:List Int}(hc:cs[k]? =some c)(he:c.1=m)(Dv:∀j c,j<k->cs[j]? =some c->c.1≠m):zdZ cs m=k:=by
 have hk:=(aT.1 hc).1;have QN:=(aT.1 hc).2;have hh:zfI cs m=true:=jm.2 ⟨c,bG hc,by simpa using he⟩;rw[zdZ,bu hh]
 have:zb3 cs m=k:=by
  unfold zb3;rw[List.findIdx_eq hk];refine⟨by rw[QN];simpa using he,λj hj=> ?_⟩
  simpa using Dv j _ hj (aK (by omega))
 rw[this]
def zcH(base C qE ab:Nat)(v:ay)(bs:List (Nat×ay))(cs:List Cell)(m:List Int)(w:ax)(h:uh w base C qE v bs cs)(hm:m.length=8)(ha:w.heap[ab]? =some (.cells (xH m).toArray 217 (0,0)))(hl:cs.length<=1000):
  ae 160 #[v,.func (.func 161) #[] #[.pointer (some ⟨ab,0,none⟩)]] w λe w'=>e= .returned (.int .i64 (zdZ cs m))∧∃q,w'=w.drewN q:=by
 obtain⟨p,c,rfl⟩:∃p c,v= .slice p bs.length c:=by
  rcases h.row.2 with⟨hv,hn⟩|⟨g,cap,cur,fz,hv,_⟩
  ·exact⟨none,0,by rw[hv,hn]⟩
  exact⟨_,cap,hv⟩
 obtain⟨n,hn⟩:=aj bs.length;have Dw:n=cs.length:=hn.t h.len;rw[<-hn]at h⊢;have H:=ag h;have Hn:=ag hn;have Hn2:=ag Dw;have Ha:=ag ha;have zvb:n<=1000:=by omega
 clear h hn Dw ha hl;go_enter func160,ntmps160;go_wp2_with fail
 go_loopw [8] (λiv wr=>∃k:Nat,k<=n∧iv= .int .i64 k∧Hid (∀j c,j<k->cs[j]? =some c->c.1≠m)∧∃q,wr=w.drewN q) (λiv _=>n-(intOf iv).toNat)
 case atStart=>exact⟨0,by omega,rfl,ag (λj c h=>by omega),0,rfl⟩
 case round=>
  obtain⟨k,hk,rfl,Dv,q,rfl⟩:=hrel;by_cases rE:k<n
  ·have k1:(k:Int)<n:=by omega
   obtain⟨x,hx⟩:∃x,cs[k]? =some x:=⟨_,aK (by have:=Hn2.o;omega)⟩
   obtain⟨b,hb⟩:=H.o.get hx;have Xi:=H.o.cell k b x hb hx;obtain⟨g,cap,hv,-,-⟩:=H.o.row.some (by have:=Hn.o;omega);cases hv;have ck:=H.o.row.cells rfl k (.pointer (some ⟨b.1,0,none⟩)) (by rw[Vp,aX,hb];rfl);rw[show(⟨g,0,none⟩:Addr).add k=⟨g,k,none⟩by unfold Addr.add;split<;>simp_all]at ck;have hs:=ze2 b.1 ab x.1 m b.2 (w.drewN q) Xi.2.1 hm Xi.1 Ha.o;obtain⟨B,hB⟩:=aj (decide (x.1=m));rw[<-hB]at hs;obtain⟨bp,hbp⟩:=aj b.1;rw[<-hbp]at ck hs;have Hs:=ag hs;have Hx:=ag hx;have HB:=ag hB;clear hs hx hB hbp hb Xi;go_wp2_with fail;refine Hs.o.m ?_;rintro e w1 ⟨rfl,q1,rfl⟩;cases B with
   | true=>
    have he:=zrQ Hx.o (fM HB.o.s) Dv.o;have He:=ag he;clear he Hs;go_wp2_with fail;go_ret;exact⟨by rw[He.o];rfl,_,rfl⟩
   | false=>
    clear Hs;go_wp2_with fail;refine⟨⟨k+1,by omega,by go_num,ag (λj c hj hc=> ?_),_,rfl⟩,by simp[intOf];omega⟩;by_cases e:j=k
    ·subst e;rw[Hx.o]at hc;rw[<-aU hc];exact iD HB.o.s
    exact Dv.o j c (by omega) hc
  obtain rfl:k=n:=by omega
  have he:zdZ cs m= -1:=by rw[zdZ,aV];intro hh;obtain⟨c,hc,e⟩:=jm.1 hh;obtain⟨j,hj⟩:=iM hc;exact Dv.o j c (by have:=(aT.1 hj).1;have:=Hn2.o;omega) hj (by simpa using e)
  have He:=ag he;clear he;go_wp2_with fail;go_ret;exact⟨by rw[He.o];rfl,_,rfl⟩
def DL(C A:Nat)(v:ay)(ms:List ay)(W:ax):Prop:=W.cell? ⟨C,1,none⟩=some v∧∀j u,ms[j]? =some u->W.cell? ⟨A,j,none⟩=some u
def DL.alloc{A:Nat}{ms:List ay}(h:DL C A v ms W)(hC:C<W.heap.size)(hA:A<W.heap.size)(o:Obj):DL C A v ms (W.alloc o):=
 ⟨(((ah qw W).alloc o).cell (p:=⟨C,1,none⟩) hC id).t h.1,λj u hu=>(((ah qw W).alloc o).cell (p:=⟨A,j,none⟩) hA id).t (h.2 j u hu)⟩
def Fb(L:List (Addr×ay))(W:ax):Prop:=∀p∈L,W.cell? p.1=some p.2
def Fb.alloc{L:List (Addr×ay)}(h:Fb L W)(hl:∀p∈L,p.1.block<W.heap.size)(o:Obj):Fb L (W.alloc o):=λp hp=>(((ah qw W).alloc o).cell (p:=p.1) (hl p hp) id).t (h p hp)
def zmU{l:List qP}(h:Du cs l)(a:List Int):∀c∈zD cs a,c.2.length<=l.length:=by
 intro c hc;have key:∀(cs:List Cell),c∈cs->c.2.length<=(cs.flatMap (·.2)).length:=by
  intro cs hc
  induction cs with
  | nil=>cases hc
  | cons d cs ih=>
   rw[dZ,aN];rcases dO.1 hc with rfl|hc
   ·omega
   have:=ih hc;omega
 have hp:=h.perm.length_eq;unfold zD at hc;split at hc
 ·have:=key cs hc;omega
 rcases dX.1 hc with hc|hc
 ·have:=key cs hc;omega
 rw[bJ.1 hc];exact fP _
def qF.sl{size:Nat}(h:qF w base e size v n xs):∃p c,v= .slice p n c:=by
 rcases h.2 with⟨h,hn⟩|⟨_,_,_,_,h,_⟩
 ·exact⟨none,0,by rw[h,hn]⟩
 exact⟨_,_,h⟩
def Cells.zgI{bs:List (Nat×ay)}(h:uh w base C qE v bs cs):∃p c,v= .slice p bs.length c:=by
 rcases h.row.2 with⟨hv,hn⟩|⟨g,cap,cur,fz,hv,_⟩
 ·exact⟨none,0,by rw[hv,hn]⟩
 exact⟨_,cap,hv⟩
def uh.zpT{bs:List (Nat×ay)}(h:uh w base C qE v bs cs)(K:ak w W)(hg:W.grownBy w' v.ownBlock):w'.heap[C]? =some (.cells #[.int .i64 qE,v] 206 (0,0)):=by
 have hW:=h.rV K;rw[hg.block C (lt_of_heap hW.head) (λe=> ?_)]
 ·exact hW.head
 obtain⟨c',f',hh⟩:=tV hW.row e.s;exact absurd (rD hW.head hh) (by decide)
def uh.zr1{bs:List (Nat×ay)}(h:uh w base C qE v bs cs)(K:ak w W)(hb:bs[k]? =some b)(hc:cs[k]? =some c)(hg:W.grownBy w' b.2.ownBlock):w'.heap[b.1]? =some (.cells (xH c.1++ [b.2]).toArray 219 (0,0)):=by
 have hW:=h.rV K;have Vb:=hW.cell k b c hb hc;rw[hg.block b.1 (lt_of_heap Vb.1) (λe=> ?_)]
 ·exact Vb.1
 obtain⟨c',f',hh⟩:=tV Vb.2.2 e.s;exact absurd (rD Vb.1 hh) (by decide)
def zmW{b:Nat}(h:w.heap[b]? =w'.heap[b]?):w.cell? ⟨b,i,none⟩=w'.cell? ⟨b,i,none⟩:=by unfold World.cell?;simp only[h]
def uh.other{bs:List (Nat×ay)}(h:uh w base C qE v bs cs)(K:ak w W)(hb:bs[k]? =some b)(hc:cs[k]? =some c)(hg:W.grownBy w' b.2.ownBlock){cc:Array ay}{t:aB}(YU:W.heap[g]? =some (.cells cc t f))(ht:t≠45):w'.heap[g]? =some (.cells cc t f):=by
 have hW:=h.rV K;have Vb:=hW.cell k b c hb hc;rw[hg.block g (lt_of_heap YU) (λe=> ?_)]
 ·exact YU
 obtain⟨c',f',hh⟩:=tV Vb.2.2 e.s;exact absurd (rD YU hh) ht
def uh.zmI{bs:List (Nat×ay)}(h:uh w base C qE v bs cs)(K:ak w W)(hb:bs[k]? =some b)(hc:cs[k]? =some c)(hg:W.grownBy w' b.2.ownBlock):w'.heap[C]? =some (.cells #[.int .i64 qE,v] 206 (0,0)):=h.other K hb hc hg (h.rV K).head (by decide)
def zmX:∃i,prog.info? 208=some i∧i.zero=some (.pointer none)∧i.size=1∧i.bytes=8:=by
 have h:(prog.info? 208).map (λi=>(i.zero,i.size,i.bytes))=some (some (.pointer none),1,8):=by kernel_rfl
 cases hi:prog.info? 208 with
 | none=>rw[hi]at h;cases h
 | some i=>
  rw[hi]at h;simp only[gW,jD,jH]at h;exact⟨i,rfl,h.1,h.2.1,h.2.2⟩
def zff(qE:Nat)(v:ay)(l:List qP)(w:ax)(I:zT w v l)(hl:l.length<=1000)(zY:∀x∈l,DW x.ns∧x.ns.length<=8):
  ae 97 #[.int .i64 qE,v] w λe w'=>∃C cv bs,e= .returned (.pointer (some ⟨C,0,none⟩))∧uh w' w.heap.size C qE cv bs (Eg l)∧ak w w':=by
 obtain⟨p,c,rfl⟩:=I.rows.len;obtain⟨n,Dw⟩:=aj l.length;rw[<-Dw]at I hl;rw[<-Dw];have Hn:=ag Dw;have HI:=ag I;have Hns:=ag zY;obtain⟨i0,zM,Ba,Vg,Vd⟩:=Fg;obtain⟨i1,hi1,D9,Ro,hb1⟩:=zmX;have mixed:prog.follows .mixedOrders=true:=by kernel_rfl
 have hC0:uh (w.alloc (.cells #[.int .i64 qE,.slice none 0 0] 206)) w.heap.size w.heap.size qE (.slice none 0 0) [] (Eg []):=
  ⟨aQ w _,qF.nil _ _ _ _,rfl,λi b c h=>by simp at h,λi j b b' h=>by simp at h,λi j b b' g h=>by simp at h,aS _,λb h=>by cases h⟩
 have HC0:=ag hC0;have hK0:ak w (w.alloc (.cells #[.int .i64 qE,.slice none 0 0] 206)):=(ah _ _).alloc _;obtain⟨w0,hw0⟩:=aj (w.alloc (.cells #[.int .i64 qE,.slice none 0 0] 206));obtain⟨C,hC⟩:=aj w.heap.size;rw[<-hw0]at HC0 hK0;have Hw0:=ag hw0;have HC:=ag hC;have hHC:Hid (uh w0 w.heap.size C qE (.slice none 0 0) [] (Eg [])):=by rw[hC];exact HC0
 clear Dw I zY hC0 HC0 hw0 hC;go_enter func97,ntmps97;go_wp2_with fail;rw[<-Hw0.o,<-HC.o]
 go_loopw [17] (λiv wr=>∃(j:Nat) (cv:ay) (bs:List (Nat×ay)),iv= .int .i64 j∧j<=n∧Hid (uh wr w.heap.size C qE cv bs (Eg (l.take j)))∧ak w wr) (λiv _=>n-(intOf iv).toNat)
 case atStart=>exact⟨0,_,[],rfl,by omega,hHC,hK0⟩
 case round=>
  clear hHC hK0;obtain⟨j,cv,bs,rfl,hj,hH,K⟩:=hrel;obtain⟨wo,rfl⟩:=aj wr;by_cases rE:j<n
  ·have j1:(j:Int)<n:=by omega
   have zAT:Hid (∀b∈bs,∀g,b.2.ownBlock=some g->g<wo.heap.size):=ag (λb hb g hg=>by obtain⟨k,hk⟩:=iM hb;obtain⟨c,hc⟩:=hH.o.cellOf hk;exact((hH.o.cell k b c hk hc).2.2.lt g hg).2)
   have Ir:zT wo _ l:=⟨HI.o.rows.qm K (λ_ _ x=>x),λx hx=>(HI.o.yK x hx).qm K (λ_ _ x=>x)⟩
   obtain⟨b,off,rfl,-,hb,uw⟩:=Ir.rows.at (by have:=Hn.o;omega);obtain⟨x,hx⟩:∃x,l[j]? =some x:=⟨_,aK (by have:=Hn.o;omega)⟩
   have ET:=uw j x hx;have Ls:x∈l:=bG hx;have Nx:=Ir.yK x Ls;have hxn:=Hns.o x Ls;have hsu:=Yp l j x hx;have zN:=zdO (l.take j);have Xm:=ag hsu;have Xn:=ag zN;obtain⟨nm,tg,av,ns⟩:=x;simp only at Nx hxn;have c0:wo.cell? ⟨b,off+j*3,none⟩=some (.string nm):=ET 0 _ rfl;have c1:wo.cell? ⟨b,off+j*3+1,none⟩=some (.string tg):=ET 1 _ rfl;have c2:wo.cell? ⟨b,off+j*3+2,none⟩=some av:=ET 2 _ rfl;obtain⟨pn,cn,rfl⟩:=Nx.len;obtain⟨nl,CV⟩:=aj ns.length;have zwa:nl<=8:=by rw[CV];exact hxn.2
   have Hx:Hid (rC ⟨nm,tg,.slice pn ns.length cn,ns⟩= [.string nm,.string tg,.slice pn nl cn]):=ag (by rw[CV];rfl);have NU:Hid (cellAt ⟨nm,tg,.slice pn ns.length cn,ns⟩=atK ns nl):=ag (by rw[CV];rfl);obtain⟨x,hxx⟩:∃x:qP,x=⟨nm,tg,.slice pn ns.length cn,ns⟩:=⟨_,rfl⟩
   rw[<-hxx]at Xm Hx NU;rw[<-CV]at c2 Nx;have JS:=ag Nx;have zxC:=ag hxn.1;have Ot:=ag CV;clear uw ET hx hsu zN hxn CV hxx Ls Nx Ir;go_wp2_with fail;have gX:((wo.alloc (.cells #[.string nm,.string tg,.slice pn nl cn] 45)).alloc (.cells #[.int .i64 0,.int .i64 0,.int .i64 0,.int .i64 0,.int .i64 0,.int .i64 0,.int .i64 0,.int .i64 0] 217)).heap[wo.heap.size]? =some (.cells #[.string nm,.string tg,.slice pn nl cn] 45 (0,0)):=by rw[nJ _ _ _ (by simp)];exact aQ wo _
   have gA:((wo.alloc (.cells #[.string nm,.string tg,.slice pn nl cn] 45)).alloc (.cells #[.int .i64 0,.int .i64 0,.int .i64 0,.int .i64 0,.int .i64 0,.int .i64 0,.int .i64 0,.int .i64 0] 217)).heap[wo.heap.size+1]? =some (.cells (xH (atK ns 0)).toArray 217 (0,0)):=by
    have h:=aQ (wo.alloc (.cells #[.string nm,.string tg,.slice pn nl cn] 45)) (.cells #[.int .i64 0,.int .i64 0,.int .i64 0,.int .i64 0,.int .i64 0,.int .i64 0,.int .i64 0,.int .i64 0] 217);rw[show(wo.alloc (.cells #[.string nm,.string tg,.slice pn nl cn] 45)).heap.size=wo.heap.size+1 by simp]at h;rw[h];have e:atK ns 0= [0,0,0,0,0,0,0,0]:=by rw[atK,dD];rfl
    rw[e];rfl
   have Ka:ak wo ((wo.alloc (.cells #[.string nm,.string tg,.slice pn nl cn] 45)).alloc (.cells #[.int .i64 0,.int .i64 0,.int .i64 0,.int .i64 0,.int .i64 0,.int .i64 0,.int .i64 0,.int .i64 0] 217)):=((ah _ _).alloc _).alloc _;obtain⟨wa,YP⟩:=aj ((wo.alloc (.cells #[.string nm,.string tg,.slice pn nl cn] 45)).alloc (.cells #[.int .i64 0,.int .i64 0,.int .i64 0,.int .i64 0,.int .i64 0,.int .i64 0,.int .i64 0,.int .i64 0] 217));obtain⟨X,hX⟩:=aj wo.heap.size;obtain⟨A,hA⟩:=aj (X+1);rw[<-YP,<-hX]at gX gA;rw[<-YP]at Ka;rw[<-YP,<-hX,<-hA];rw[<-hA]at gA;have HX:=ag hX;have HA:=ag hA;have Na:=JS.o.qm Ka (λ_ _ x=>x);have HNa:=ag Na;clear YP hX hA c0 c1 c2 Na hb
   go_loopw [24] (λiv wx=>∃i:Nat,i<=nl∧iv= .int .i64 i∧Hid (wx.heap[A]? =some (.cells (xH (atK ns i)).toArray 217 (0,0)))∧Keep (qJ A) wa wx) (λiv _=>nl-(intOf iv).toNat)
   ·exact⟨0,by omega,rfl,ag gA,ah _ _⟩
   obtain⟨i,hi,rfl,hgA,Kx⟩:=hrel;by_cases rE:i<nl
   ·have i1:(i:Int)<nl:=by omega
    have i8:(i:Int)<8:=by omega
    have Nx:=HNa.o.qm Kx (λb hb hS=>by
     have h1:b<wo.heap.size:=by
      rcases JS.o with⟨h,_⟩|⟨B,o',c',hv,hB,_⟩
      ·have:=Ot.o;rw[h]at this;simp at this;omega
      rw[hv]at hb;obtain rfl:B=b:=aU hb;exact hB
     have h2:b=A:=hS;have:=HX.o;have:=HA.o;omega)
    obtain⟨bn,on,rfl,-,hbn,hcn⟩:=Nx.at (by have:=Ot.o;omega);have cn':=hcn i (by have:=Ot.o;omega);have RJ:=zr7 ns i (by have:=Ot.o;omega) (by omega);have FM:=BN zxC.o i;have hal:=zk1 ns i (by have:=Ot.o;omega) (by omega);obtain⟨y,hy⟩:=aj (ns.getD i 0);rw[<-hy]at cn' RJ FM;have hdn:=λw=>zp5 y FM w;obtain⟨d,hd⟩:=aj (ER y);rw[<-hd]at RJ hdn;have cA:wr.cell? ⟨A,i,none⟩=some (.int .i64 ((atK ns i).getD i 0)):=by rw[aO _ _ _ _ _ (0,0) hgA.o,aF,xH,aX,aG,aK (by omega)];rfl
    have zA:wr.frozen? ⟨A,i,none⟩=false:=by unfold World.frozen?;simp only[hgA.o];rfl
    have zun:=ag RJ;have Hdn:=ag hdn;clear hcn hy hd RJ hdn Nx hbn;go_wp2_with fail;refine(Hdn.o _).m ?_;rintro e w1 ⟨rfl,vF⟩;subst w1;go_wp2_with fail;refine⟨⟨i+1,by omega,by go_num,ag ?_,Kx.tK i _⟩,by simp[intOf];omega⟩;rw[wG hgA.o,<-zun.o,xH,xH,fJ,kR]
   obtain rfl:i=nl:=by omega
   have Kr:ak wo wr:=Ka.t Kx (λi hi hs=>by have h2:i=A:=hs;have:=HX.o;have:=HA.o;omega);have hH2:=hH.o.rV Kr;have gX2:=Kx.heap gX (λhs=>by have h2:X=A:=hs;have:=HA.o;omega);have hm8:(atK ns i).length=8:=zk1 ns i (by have:=Ot.o;omega) zwa;have Ce:(Eg (l.take j)).length<=1000:=by have:=Xn.o.len;rw[dJ]at this;omega
   have Qg:=zcH w.heap.size C qE A cv bs _ (atK ns i) wr hH2 hm8 hgA.o Ce;have e0:wr.cell? ⟨C,0,none⟩=some (.int .i64 qE):=by rw[aO _ _ _ _ _ (0,0) hH2.head];rfl
   have e1:wr.cell? ⟨C,1,none⟩=some cv:=by rw[aO _ _ _ _ _ (0,0) hH2.head];rfl
   obtain⟨pc,cc,rfl⟩:=Cells.zgI hH2;obtain⟨nb,GG⟩:=aj bs.length;rw[<-GG]at e1 Qg hH2;have HH2:=ag hH2;have Hix:=ag Qg;have QR:=ag GG;have Kw:ak w wr:=K.qo Kr;clear hH Qg GG hH2 Kx Ka gA Kr K;go_wp2_with fail;refine Hix.o.m ?_;rintro e w1 ⟨rfl,q1,rfl⟩;have Hm8:=ag hm8;have Hcl:=ag Ce;have yM:Hid (∀c∈zD (Eg (l.take j)) (atK ns i),c.2.length<=1000):=ag (λc hc=>by have:=zmU Xn.o (atK ns i) c hc;rw[dJ]at this;omega);have HgX:=ag (show(wr.drewN q1).heap[X]? =_ from gX2);have HgA:=ag (show(wr.drewN q1).heap[A]? =_ from hgA.o);have HH3:=ag (HH2.o.rV ((ah qw wr).drewN q1));have Kw1:=Kw.drewN q1;obtain⟨wv,hwv⟩:=aj (wr.drewN q1);rw[<-hwv]at HgX HgA HH3 Kw1⊢;obtain⟨cs,zu⟩:=aj (Eg (l.take j));obtain⟨m,hm⟩:=aj (atK ns i);rw[<-zu]at HH3 Xm Hcl yM⊢;rw[<-hm]at HgA Hm8 NU yM⊢;clear hwv zu hm gX gX2 hgA hm8 Ce HH2 Hix Kw e0 e1 JS HNa zxC Xn;have hil:=zkV cs m;obtain⟨kk,hkk⟩:=aj (zb3 cs m);rw[<-hkk]at hil;have Hil:=ag hil;have Hkk:=ag hkk;have zoy:kk<=1000:=by
    have h1:=hil.1;have h2:(zD cs m).length<=cs.length+1:=by
     unfold zD;split
     ·omega
     rw[aN,iF];exact aS _
    have:=Hcl.o;omega
   clear hil hkk;have HnX:∀b∈bs,b.2.ownBlock≠some X:=λb hb e=>by have:=zAT.o b hb X e;have:=HX.o;omega
   go_upto_if 41 with fail
   go_cut [11] (λkv wx=>∃(v2:ay) (bs2:List (Nat×ay)),kv= .int .i64 kk∧Hid (uh wx w.heap.size C qE v2 bs2 (zD cs m))∧Hid (wx.heap[X]? =some (.cells #[.string nm,.string tg,.slice pn i cn] 45 (0,0)))∧Hid (∀b∈bs2,b.2.ownBlock≠some X)∧ak w wx)
   ·cases ziH:zfI cs m with
    | true=>
     have e1:zdZ cs m=kk:=by rw[zdZ,bu ziH,Hkk.o]
     have e2:zD cs m=cs:=by rw[zD,bu ziH]
     rw[e1];have HH4:Hid (uh wv w.heap.size C qE (.slice pc nb cc) bs (zD cs m)):=by rw[e2];exact HH3
     clear e1 e2;go_wp2_with fail;go_meet
     exact⟨_,bs,rfl,HH4,HgX,ag HnX,Kw1⟩
    | false=>
     have e1:zdZ cs m= -1:=by rw[zdZ,aV (by rw[ziH];decide)]
     have e2:zD cs m=cs++ [(m,[])]:=by rw[zD,aV (by rw[ziH];decide)]
     have e3:kk=nb:=by
      rw[Hkk.o,QR.o,HH3.o.len];unfold zb3;rw[List.findIdx_eq_length];intro c' Zq;rw[zfI,jT]at ziH
      simpa using ziH c' Zq
     have E2:=ag e2;rw[e1];obtain⟨m0,m1,m2,m3,m4,m5,m6,m7,hme⟩:=eight m Hm8.o;have ca:∀j u,([Value.int .i64 m0,.int .i64 m1,.int .i64 m2,.int .i64 m3,.int .i64 m4,.int .i64 m5,.int .i64 m6,.int .i64 m7])[j]? =some u->wv.cell? ⟨A,j,none⟩=some u:=λj u hu=>by rw[aO _ _ j _ 217 (0,0) HgA.o,aF,hme];exact hu
     have q0:=ca 0 _ rfl;have q1:=ca 1 _ rfl;have q2:=ca 2 _ rfl;have q3:=ca 3 _ rfl;have q4:=ca 4 _ rfl;have q5:=ca 5 _ rfl;have q6:=ca 6 _ rfl;have q7:=ca 7 _ rfl;have d0:wv.cell? ⟨C,0,none⟩=some (.int .i64 qE):=by rw[aO _ _ _ _ _ (0,0) HH3.o.head];rfl
     have d1:wv.cell? ⟨C,1,none⟩=some (.slice pc nb cc):=by rw[aO _ _ _ _ _ (0,0) HH3.o.head];rfl
     have zd3:(wv.alloc (.cells #[.int .i64 m0,.int .i64 m1,.int .i64 m2,.int .i64 m3,.int .i64 m4,.int .i64 m5,.int .i64 m6,.int .i64 m7,.slice none 0 0] 219)).heap.size=wv.heap.size+1:=by show(wv.heap.push _).size=_;rw[dW]
     have KW:ak wv ((wv.alloc (.cells #[.int .i64 m0,.int .i64 m1,.int .i64 m2,.int .i64 m3,.int .i64 m4,.int .i64 m5,.int .i64 m6,.int .i64 m7,.slice none 0 0] 219)).alloc (.cells #[.pointer (some ⟨wv.heap.size,0,none⟩)] 208)).drew:=(((ah _ _).alloc _).alloc _).drew;have hPb:((wv.alloc (.cells #[.int .i64 m0,.int .i64 m1,.int .i64 m2,.int .i64 m3,.int .i64 m4,.int .i64 m5,.int .i64 m6,.int .i64 m7,.slice none 0 0] 219)).alloc (.cells #[.pointer (some ⟨wv.heap.size,0,none⟩)] 208)).drew.heap[wv.heap.size]? =some (.cells (xH m++ [Value.slice none 0 0]).toArray 219 (0,0)):=by show((wv.alloc (.cells #[.int .i64 m0,.int .i64 m1,.int .i64 m2,.int .i64 m3,.int .i64 m4,.int .i64 m5,.int .i64 m6,.int .i64 m7,.slice none 0 0] 219)).alloc (.cells #[.pointer (some ⟨wv.heap.size,0,none⟩)] 208)).heap[wv.heap.size]? =_;rw[nJ _ _ _ (by rw[zd3];omega),hme];exact aQ wv _
     have hnw:=rJ (wv.alloc (.cells #[.int .i64 m0,.int .i64 m1,.int .i64 m2,.int .i64 m3,.int .i64 m4,.int .i64 m5,.int .i64 m6,.int .i64 m7,.slice none 0 0] 219)) [.pointer (some ⟨wv.heap.size,0,none⟩)] 208;rw[zd3]at hnw;have hCl:C<wv.heap.size:=lt_of_heap HH3.o.head;have hAl:A<wv.heap.size:=lt_of_heap HgA.o;have hnb1000:nb<=1000:=by have:=HH3.o.len;have:=Hcl.o;have:=QR.o;omega
     have Ee:=Kw1.size;have uU:=(HH3.o.rV KW).row;rw[<-QR.o]at uU;obtain⟨ms,Jl⟩:∃ms,ms= [Value.int .i64 m0,.int .i64 m1,.int .i64 m2,.int .i64 m3,.int .i64 m4,.int .i64 m5,.int .i64 m6,.int .i64 m7]:=⟨_,rfl⟩
     have L0:DL C A (.slice pc nb cc) ms wv.drew:=by rw[Jl];exact⟨d1,ca⟩
     have L1:=L0.alloc hCl hAl (.cells #[.int .i64 m0,.int .i64 m1,.int .i64 m2,.int .i64 m3,.int .i64 m4,.int .i64 m5,.int .i64 m6,.int .i64 m7,.slice none 0 0] 219);have L2:=L1.alloc (by rw[show(wv.drew.alloc (.cells #[.int .i64 m0,.int .i64 m1,.int .i64 m2,.int .i64 m3,.int .i64 m4,.int .i64 m5,.int .i64 m6,.int .i64 m7,.slice none 0 0] 219)).heap.size=wv.heap.size+1 from zd3];omega) (by rw[show(wv.drew.alloc (.cells #[.int .i64 m0,.int .i64 m1,.int .i64 m2,.int .i64 m3,.int .i64 m4,.int .i64 m5,.int .i64 m6,.int .i64 m7,.slice none 0 0] 219)).heap.size=wv.heap.size+1 from zd3];omega) (.cells #[.pointer (some ⟨wv.heap.size,0,none⟩)] 208);have HL0:=ag L0;have HL1:=ag L1;have HL2:=ag L2;have HKW:=ag KW;have RY:=ag uU;have Hnw:=ag hnw;have HPb:=ag hPb;have E3:=ag e3;have Hme:=ag hme;have Hca:=ag ca;have Qd:∀x:wE (DL C A (.slice pc nb cc) ms),x.w.cell? ⟨C,1,none⟩=some (.slice pc nb cc):=λx=>x.h.1;have hy0:∀x:wE (DL C A (.slice pc nb cc) ms),x.w.cell? ⟨A,0,none⟩=some (Value.int .i64 m0):=λx=>x.h.2 0 _ (by rw[Jl];rfl);have hy1:∀x:wE (DL C A (.slice pc nb cc) ms),x.w.cell? ⟨A,1,none⟩=some (Value.int .i64 m1):=λx=>x.h.2 1 _ (by rw[Jl];rfl);have hy2:∀x:wE (DL C A (.slice pc nb cc) ms),x.w.cell? ⟨A,2,none⟩=some (Value.int .i64 m2):=λx=>x.h.2 2 _ (by rw[Jl];rfl);have hy3:∀x:wE (DL C A (.slice pc nb cc) ms),x.w.cell? ⟨A,3,none⟩=some (Value.int .i64 m3):=λx=>x.h.2 3 _ (by rw[Jl];rfl);have hy4:∀x:wE (DL C A (.slice pc nb cc) ms),x.w.cell? ⟨A,4,none⟩=some (Value.int .i64 m4):=λx=>x.h.2 4 _ (by rw[Jl];rfl);have hy5:∀x:wE (DL C A (.slice pc nb cc) ms),x.w.cell? ⟨A,5,none⟩=some (Value.int .i64 m5):=λx=>x.h.2 5 _ (by rw[Jl];rfl);have hy6:∀x:wE (DL C A (.slice pc nb cc) ms),x.w.cell? ⟨A,6,none⟩=some (Value.int .i64 m6):=λx=>x.h.2 6 _ (by rw[Jl];rfl);have hy7:∀x:wE (DL C A (.slice pc nb cc) ms),x.w.cell? ⟨A,7,none⟩=some (Value.int .i64 m7):=λx=>x.h.2 7 _ (by rw[Jl];rfl);have Hms:=ag Jl;clear Jl uU hnw hPb hme ca KW e1 e2 e3 ziH L0 L1 L2;go_upto_region 14 with(fail)
     refine BQ (DL C A (.slice pc nb cc) ms) [0,1,2,3,4,5,6] [7,8,9,10,11,12] (by kernel_rfl) (by kernel_rfl) (λc a d v w h=>by cases d<;>exact h) ?_;simp only[qC,aF,aH,aI]
     repeat(refine Dn (λK hK=> ?_);go_simp;first|(refine⟨_,λ_=>rfl,hK _ ?_⟩;clear hK K)|(refine hK _ ?_;clear hK K))
     refine tY ?_;clear Qd hy0 hy1 hy2 hy3 hy4 hy5 hy6 hy7;simp only[MF,qC,aF,aH,aI];refine⟨HL0.o,?_⟩;go_wp2_with fail;refine⟨HL1.o,?_⟩;go_wp2_with fail;refine⟨HL2.o,?_⟩;refine tC _ rfl (.tmp 51) (.tmp 55) 204 rfl w.heap.size 208 i1 _ 1 8 underlying204 hi1 D9 Ro hb1 rfl (by decide) (.slice pc nb cc) nb (Vp bs) rfl RY.o ⟨wv.heap.size+1,0,none⟩ 1 1 [.pointer (some ⟨wv.heap.size,0,none⟩)] rfl rfl Hnw.o (by intro u hu;rw[bJ.1 hu];rfl) (by unfold maxLen;omega) (by omega) (by have:=HKW.o.size;omega) ?_;intro v' w' II hg;have hCh:=HH3.o.zpT HKW.o hg;have f1:w'.cell? ⟨C,1,none⟩=some (.slice pc nb cc):=by rw[aO _ _ _ _ _ (0,0) hCh];rfl
     have z1:w'.frozen? ⟨C,1,none⟩=false:=by unfold World.frozen?;simp only[hCh];rfl
     have znV:=HH3.o.more HKW.o Ee (aS _) HPb.o Hm8.o (by rw[<-QR.o];exact II) hg;have hXw:w'.heap[X]? =some (.cells #[.string nm,.string tg,.slice pn i cn] 45 (0,0)):=by
      have h1:=HKW.o.heap HgX.o id;rw[hg.block X (lt_of_heap h1) (λe=> ?_)]
      ·exact h1
      obtain⟨c',f',hh⟩:=tV RY.o e.s;exact absurd (rD h1 hh) (by decide)
     have hXC:X≠C:=λe=>by have h1:=HgX.o;rw[e]at h1;exact absurd (rD h1 HH3.o.head) (by decide)
     have hXs:(w'.setCell ⟨C,1,none⟩ v').heap[X]? =some (.cells #[.string nm,.string tg,.slice pn i cn] 45 (0,0)):=by rw[gK _ _ _ _ (by exact hXC)];exact hXw
     have zAs:ak w (w'.setCell ⟨C,1,none⟩ v'):=Kw1.t znV.2 (λi hi hs=>absurd hi (oU.2 hs));obtain⟨pv,nv,cvv,rfl⟩:∃p n c,v'= .slice p n c:=by
      rcases II.2 with⟨h,_⟩|⟨_,_,_,_,h,_⟩
      ·exact⟨_,_,_,h⟩
      exact⟨_,_,_,h⟩
     have HM:Hid (uh (w'.setCell ⟨C,1,none⟩ (.slice pv nv cvv)) w.heap.size C qE (.slice pv nv cvv) (bs++ [(wv.heap.size,.slice none 0 0)]) (zD cs m)):=by rw[E2.o];exact znV.1
     have HXs:=ag hXs;have hAw:w'.heap[A]? =some (.cells (xH m).toArray 217 (0,0)):=by
      have h1:=HKW.o.heap HgA.o id;rw[hg.block A (lt_of_heap h1) (λe=> ?_)]
      ·exact h1
      obtain⟨c',f',hh⟩:=tV RY.o e.s;exact absurd (rD h1 hh) (by decide)
     have HL3:Hid (DL C A (.slice pc nb cc) ms w'):=ag ⟨f1,λj u hu=>by rw[aO _ _ j _ 217 (0,0) hAw,aF,Hme.o,<-hu,Hms.o];rfl⟩
     clear II hg znV hXw hXC hXs hCh Ee hAw;go_wp2_with fail;refine⟨HL3.o,?_⟩;go_wp2_with fail;refine⟨HL3.o,?_⟩;go_wp2_with fail;refine⟨HL3.o,?_⟩;go_wp2_with fail;go_meet
     refine⟨_,_,by rw[E3.o],HM,HXs,ag (λb hb=> ?_),zAs⟩;rcases dX.1 hb with hb|hb
     ·exact HnX b hb
     rw[bJ.1 hb];intro e;cases e
   obtain⟨v2,bs2,rfl,H2,zlC,zAS,Kw2⟩:=hcut;obtain⟨cc2,zlq⟩:∃c,(zD cs m)[kk]? =some c:=⟨_,aK Hil.o.1⟩
   have hcm:cc2.1=m:=by have:=Hil.o.2;rw[zlq]at this;simpa using this
   obtain⟨b2,zC⟩:=H2.o.get zlq;have Xi:=H2.o.cell kk b2 cc2 zC zlq;have zlp:=yM.o cc2 (bG zlq);have hkb:kk<bs2.length:=(aT.1 zC).1;obtain⟨g2,QT,hv2,-,-⟩:=H2.o.row.some (by omega);have ckk:=H2.o.row.cells (by rw[hv2];rfl) kk (.pointer (some ⟨b2.1,0,none⟩)) (by rw[Vp,aX,zC];rfl);rw[show(⟨g2,0,none⟩:Addr).add kk=⟨g2,kk,none⟩by unfold Addr.add;split<;>simp_all]at ckk;obtain⟨n2,Dw⟩:=aj bs2.length;rw[<-Dw]at hv2;obtain⟨bp,bv⟩:=b2;simp only at Xi ckk;obtain⟨pb,cb,hbv⟩:=qF.sl Xi.2.2;subst hbv hv2;obtain⟨nI,hnI⟩:=aj cc2.2.length;rw[<-hnI]at Xi zlp zC;have d1:wc.cell? ⟨C,1,none⟩=some (.slice (some ⟨g2,0,none⟩) n2 QT):=by rw[aO _ _ _ _ _ (0,0) H2.o.head];rfl
   have d8:wc.cell? ⟨bp,8,none⟩=some (.slice pb nI cb):=by rw[aO _ _ _ _ _ (0,0) Xi.1,aF,bT (by rw[xH,aP,Xi.2.1];omega),xH,aP,Xi.2.1];rfl
   have x0:wc.cell? ⟨X,0,none⟩=some (.string nm):=by rw[aO _ _ _ _ _ (0,0) zlC.o];rfl
   have x1:wc.cell? ⟨X,1,none⟩=some (.string tg):=by rw[aO _ _ _ _ _ (0,0) zlC.o];rfl
   have x2:wc.cell? ⟨X,2,none⟩=some (.slice pn i cn):=by rw[aO _ _ _ _ _ (0,0) zlC.o];rfl
   have kk1:(kk:Int)<n2:=by omega
   obtain⟨L,hL⟩:∃L:List (Addr×ay),L= [(⟨C,1,none⟩,.slice (some ⟨g2,0,none⟩) n2 QT),(⟨g2,kk,none⟩,.pointer (some ⟨bp,0,none⟩)),(⟨bp,8,none⟩,.slice pb nI cb),(⟨X,0,none⟩,.string nm),(⟨X,1,none⟩,.string tg),(⟨X,2,none⟩,.slice pn i cn)]:=⟨_,rfl⟩
   have l0:∀x:wE (Fb L),x.w.cell? ⟨C,1,none⟩=some (.slice (some ⟨g2,0,none⟩) n2 QT):=λx=>x.h (_,_) (by rw[hL];exact bW);have l1:∀x:wE (Fb L),x.w.cell? ⟨g2,kk,none⟩=some (.pointer (some ⟨bp,0,none⟩)):=λx=>x.h (_,_) (by rw[hL];exact bD _ bW);have l2:∀x:wE (Fb L),x.w.cell? ⟨bp,8,none⟩=some (.slice pb nI cb):=λx=>x.h (_,_) (by rw[hL];exact bD _ (bD _ bW));have l3:∀x:wE (Fb L),x.w.cell? ⟨X,0,none⟩=some (.string nm):=λx=>x.h (_,_) (by rw[hL];exact bD _ (bD _ (bD _ bW)));have l4:∀x:wE (Fb L),x.w.cell? ⟨X,1,none⟩=some (.string tg):=λx=>x.h (_,_) (by rw[hL];exact bD _ (bD _ (bD _ (bD _ bW))));have l5:∀x:wE (Fb L),x.w.cell? ⟨X,2,none⟩=some (.slice pn i cn):=λx=>x.h (_,_) (by rw[hL];exact bD _ (bD _ (bD _ (bD _ (bD _ bW)))));have mem:∀W:ax,W.cell? ⟨C,1,none⟩=some (.slice (some ⟨g2,0,none⟩) n2 QT)->W.cell? ⟨g2,kk,none⟩=some (.pointer (some ⟨bp,0,none⟩))->W.cell? ⟨bp,8,none⟩=some (.slice pb nI cb)->W.cell? ⟨X,0,none⟩=some (.string nm)->W.cell? ⟨X,1,none⟩=some (.string tg)->W.cell? ⟨X,2,none⟩=some (.slice pn i cn)->Fb L W:=by intro W e0 e1 e2 e3 e4 e5 p hp;rw[hL]at hp;simp only[dO,oV,lN]at hp;rcases hp with rfl|rfl|rfl|rfl|rfl|rfl<;>assumption
   have L0:Fb L wc.drew:=mem _ d1 ckk d8 x0 x1 x2;have hblk:∀p∈L,p.1.block<wc.heap.size:=by
    intro p hp;rw[hL]at hp;simp only[dO,oV,lN]at hp;rcases hp with rfl|rfl|rfl|rfl|rfl|rfl
    ·exact lt_of_heap H2.o.head
    ·exact(H2.o.row.lt g2 rfl).2
    ·exact lt_of_heap Xi.1
    all_goals exact lt_of_heap zlC.o
   have L1:=L0.alloc (o:= .cells #[.string nm,.string tg,.slice pn i cn] 45) hblk;have HL0:=ag L0;have HL1:=ag L1;have zfR:=ag mem;have Hbc:=ag Xi;have Hb2:=ag zC;have zqX:=ag zlq;have zA7:=ag ckk;have KW:ak wc (wc.alloc (.cells #[.string nm,.string tg,.slice pn i cn] 45)).drew:=((ah _ _).alloc _).drew;have HKW:=ag KW;have zuq:=ag (Xi.2.2.qm KW (λ_ _ x=>x));have Hnw:Hid (∀j u,([Value.string nm,.string tg,.slice pn i cn])[j]? =some u->(wc.alloc (.cells #[.string nm,.string tg,.slice pn i cn] 45)).drew.cell? ((⟨wc.heap.size,0,none⟩:Addr).add j)=some u):=ag (rJ wc [.string nm,.string tg,.slice pn i cn] 45);have HcI:=ag hnI;have HL:=ag hL;have ztc:=ag Kw2.size;clear mem L0 L1 Xi zC zlq ckk KW hL hblk hnI;go_upto_region 15 with(fail)
   refine BQ (Fb L) [0,1,2,3,4,5,6,7,8,9,10,11,12,13,14,15,16,17] [18,19,20,21,22] (by kernel_rfl) (by kernel_rfl) (λc a d v w h=>by cases d<;>exact h) ?_;simp only[qC,aF,aH,aI]
   repeat(refine Dn (λK hK=> ?_);go_simp;first|(refine⟨_,λ_=>rfl,hK _ ?_⟩;clear hK K)|(refine hK _ ?_;clear hK K))
   refine tY ?_;clear l0 l1 l2 l3 l4 l5;simp only[MF,qC,aF,aH,aI];refine⟨HL0.o,?_⟩;go_wp2_with fail;refine⟨HL1.o,?_⟩;refine rY _ rfl (.tmp 75) (.tmp 77) 49 rfl w.heap.size 45 i0 _ 3 56 kK zM Ba Vg Vd rfl (by decide) (.slice pb nI cb) nI (cc2.2.flatMap rC) rfl zuq.o ⟨wc.heap.size,0,none⟩ 1 1 [.string nm,.string tg,.slice pn i cn] rfl rfl Hnw.o (by intro u hu;simp only[dO,oV,lN]at hu;rcases hu with rfl|rfl|rfl<;>rfl) (by unfold maxLen;omega) (by omega) (by have:=HKW.o.size;have:=ztc.o;omega) ?_
   intro v' w' II hg hwh;have zvz:qF w' w.heap.size 45 3 v' (cc2.2.length+1) (cc2.2.flatMap rC++rC x):=by rw[Hx.o,<-HcI.o];exact II
   have zfE:=H2.o.put HKW.o Hb2.o zqX.o zvz hg (by
    rcases hwh with h|h
    ·exact .inl h
    exact .inr h)
   have hCh:=H2.o.zmI HKW.o Hb2.o zqX.o hg;have hbp:=H2.o.zr1 HKW.o Hb2.o zqX.o hg;have e0:w'.cell? ⟨C,1,none⟩=some (.slice (some ⟨g2,0,none⟩) n2 QT):=by rw[aO _ _ _ _ _ (0,0) hCh];rfl
   have e2:w'.cell? ⟨bp,8,none⟩=some (.slice pb nI cb):=by rw[aO _ _ _ _ _ (0,0) hbp,aF,bT (by rw[xH,aP,Hbc.o.2.1];omega),xH,aP,Hbc.o.2.1];rfl
   have z2:w'.frozen? ⟨bp,8,none⟩=false:=by unfold World.frozen?;simp only[hbp];rfl
   have eX:w'.cell? ⟨X,0,none⟩=some (.string nm)∧w'.cell? ⟨X,1,none⟩=some (.string tg)∧w'.cell? ⟨X,2,none⟩=some (.slice pn i cn):=by
    have hXb:X≠bp:=λe=>by have h1:=zlC.o;rw[e]at h1;exact absurd (rD h1 Hbc.o.1) (by decide)
    have hXi:w'.heap[X]? =some (.cells #[.string nm,.string tg,.slice pn i cn] 45 (0,0)):=by
     have h1:=HKW.o.heap zlC.o id;rw[hg.block X (lt_of_heap h1) (λe=> ?_)]
     ·exact h1
     exact zAS.o _ (bG Hb2.o) e.s
    exact⟨by rw[aO _ _ _ _ _ (0,0) hXi];rfl,by rw[aO _ _ _ _ _ (0,0) hXi];rfl,by rw[aO _ _ _ _ _ (0,0) hXi];rfl⟩
   have eK:w'.cell? ⟨g2,kk,none⟩=some (.pointer (some ⟨bp,0,none⟩)):=by obtain⟨c',f',hh⟩:=tV H2.o.row (g:=g2) rfl;have h1:=H2.o.other HKW.o Hb2.o zqX.o hg (HKW.o.heap hh id) (by decide);have h2:wc.cell? ⟨g2,kk,none⟩=w'.cell? ⟨g2,kk,none⟩:=zmW (by rw[hh,h1]);rw[<-h2];exact zA7.o
   have L2:Fb L w':=zfR.o w' e0 eK e2 eX.1 eX.2.1 eX.2.2;have HL2:=ag L2;obtain⟨pv,nv,cvv,rfl⟩:∃p n c,v'= .slice p n c:=by
    rcases II.2 with⟨h,_⟩|⟨_,_,_,_,h,_⟩
    ·exact⟨_,_,_,h⟩
    exact⟨_,_,_,h⟩
   have HP:=ag zfE.1;have KP:ak w (w'.setCell ⟨bp,8,none⟩ (.slice pv nv cvv)):=Kw2.t zfE.2 (λi hi hs=>absurd hi (oU.2 hs));clear II zvz hg hwh zfE hCh hbp e0 eX eK L2;go_wp2_with fail;refine⟨HL2.o,?_⟩;go_wp2_with fail;refine⟨HL2.o,?_⟩;go_wp2_with fail;refine⟨HL2.o,?_⟩;go_wp2_with fail;exact⟨⟨j+1,_,_,by go_num,by omega,by rw[Xm.o,zfX,NU.o,<-Hkk.o];exact HP,KP⟩,by simp[intOf];omega⟩
  obtain rfl:j=n:=by omega
  have hN:List.take j l=l:=bg (by rw[<-Hn.o];exact aS _);rw[hN]at hH;go_wp2_with fail;go_ret;exact⟨C,_,bs,rfl,hH.o,K⟩
end
section
open Go.Sort Go.Shelf
open Go.Proofs (ltOf)
def zep(b i:Nat):(⟨b,0,none⟩:Addr).add i=⟨b,i,none⟩:=by unfold Addr.add;split<;>simp_all
def Xv(bs:List (Nat×ay)):Prop:=∀(i j:Nat) (b b':Nat×ay),bs[i]? =some b->bs[j]? =some b'->b.1=b'.1->i=j
def OX(cs:List Cell)(bs:List (Nat×ay))(at_:List Int)(qE:Nat):List yl:=(cs.zip bs).map λp=>(AZ p.1.1 at_ qE,p.2.1)
def wS(cs:List Cell)(bs:List (Nat×ay))(P:Nat):List qP:=match (cs.zip bs).find? λp=>decide (p.2.1=P)with
 | some p=>p.1.2
 | none=> []
section
variable {cs:List Cell}{bs:List (Nat×ay)}{l:List qP}{at_:List Int}{qE:Nat}
def JJ(ha:Xv bs)(hb:bs[i]? =some b)(hc:cs[i]? =some c):wS cs bs b.1=c.2:=by
 have hz:(cs.zip bs)[i]? =some (c,b):=by rw[lF];exact⟨hc,hb⟩
 unfold wS;cases hf:(cs.zip bs).find? λp=>decide (p.2.1=b.1)with
 | none=>
  rw[jf]at hf;exact absurd (bF (rfl:b.1=b.1)) (hf (c,b) (bG hz))
 | some p=>
  have hp:=nR hf;have hm:=jY hf;obtain⟨j,hj⟩:=iM hm;obtain⟨pc,pb⟩:=p;rw[lF]at hj;have:=ha j i pb b hj.2 hb (fM hp);subst this;rw[hc]at hj;obtain rfl:c=pc:=aU hj.1;rfl
def zkX(hl:bs.length=cs.length):(OX cs bs at_ qE).length=cs.length:=by rw[OX,aP,List.length_zip];omega
def zkY(hb:bs[i]? =some b)(hc:cs[i]? =some c):(OX cs bs at_ qE)[i]? =some (AZ c.1 at_ qE,b.1):=by
 have hz:(cs.zip bs)[i]? =some (c,b):=by rw[lF];exact⟨hc,hb⟩
 rw[OX,aX,hz];rfl
def zkW{e:yl}(he:e∈OX cs bs at_ qE):∃(i:Nat) (b:Nat×ay) (c:Cell),bs[i]? =some b∧cs[i]? =some c∧e=(AZ c.1 at_ qE,b.1):=by obtain⟨⟨c,b⟩,hm,rfl⟩:=bY.1 he;obtain⟨i,hi⟩:=iM hm;rw[lF]at hi;exact⟨i,b,c,hi.2,hi.1,rfl⟩
def zmM(ha:Xv bs)(hl:bs.length=cs.length):(OX cs bs at_ qE).flatMap (λe=>wS cs bs e.2)=cs.flatMap (·.2):=by
 have e:(OX cs bs at_ qE).map (λe=>wS cs bs e.2)=cs.map (·.2):=by
  apply List.ext_getElem?;intro i;by_cases hi:i<cs.length
  ·have hc:cs[i]? =some cs[i]:=aK hi;have hb:bs[i]? =some bs[i]:=aK (by omega);rw[aX,zkY hb hc,aX,hc];show some (wS cs bs bs[i].1)=some cs[i].2;rw[JJ ha hb hc]
  rw[jF (by rw[aP,zkX hl];omega),jF (by rw[aP];omega)]
 rw[List.flatMap_def,List.flatMap_def,e]
structure zgp(l:List qP)(at_:List Int)(qE:Nat):Prop where
 num:DW at_
 len:at_.length=qE
 le:qE<=8
 ns:∀x∈l,DW x.ns∧x.ns.length=qE
def least_le(A:zgp l at_ qE)(hx:x∈l):AZ (cellAt x) at_ qE<=TF x.ns at_:=by have h:=A.ns x hx;have h1:=zdy x at_ h.1 A.num (by have:=A.le;omega) qE (by omega) (by have:=A.len;omega);rw[J9 x.ns at_ qE (by omega)]at h1;exact h1
def zvg(O:Du cs l)(A:zgp l at_ qE)(ha:Xv bs){e:yl}(he:e∈OX cs bs at_ qE):∀x∈wS cs bs e.2,e.1<=TF x.ns at_:=by obtain⟨i,b,c,hb,hc,rfl⟩:=zkW he;intro x hx;rw[JJ ha hb hc]at hx;have hcm:=bG hc;have h1:=O.in_ c hcm x hx;have hxl:x∈l:=O.perm.mem_iff.1 (mf.2 ⟨c,hcm,hx⟩);show AZ c.1 at_ qE<=_;rw[<-h1];exact least_le A hxl
def x8(cs:List Cell)(bs:List (Nat×ay))(D:List yl)(j:Nat):List qP:=(D.take j).flatMap λe=>wS cs bs e.2
structure zc4(D:List yl)(cs:List Cell)(bs:List (Nat×ay))(at_:List Int)(qE:Nat):Prop where
 perm:D.Perm (OX cs bs at_ qE)
 sort:List.Pairwise (λa b:yl=>a.1<=b.1) D
def zah(F:zc4 D cs bs at_ qE)(O:Du cs l)(ha:Xv bs)(hl:bs.length=cs.length):(D.flatMap λe=>wS cs bs e.2).Perm l:=by refine(F.perm.flatMap_right _).t ?_;rw[zmM ha hl];exact O.perm
def zmc(hy:D[j]? =some y):x8 cs bs D (j+1)=x8 cs bs D j++wS cs bs y.2:=by have hj:=(aT.1 hy).1;rw[x8,aZ hj,(aT.1 hy).2,dU,x8];simp
def Y7(F:zc4 D cs bs at_ qE)(O:Du cs l)(ha:Xv bs)(hl:bs.length=cs.length)(j:Nat):(x8 cs bs D j).length<=l.length:=by
 have h:=(zah F O ha hl).length_eq;have e:D.flatMap (λe=>wS cs bs e.2)=x8 cs bs D j++(D.drop j).flatMap (λe=>wS cs bs e.2):=by rw[x8,<-dU,iV]
 rw[e,aN]at h;omega
def zpl(F:zc4 D cs bs at_ qE)(O:Du cs l)(ha:Xv bs)(hl:bs.length=cs.length)(k:Int)(tag:af):xg (x8 cs bs D D.length) at_ k tag=xg l at_ k tag:=by rw[x8,nM];exact zc9 (zah F O ha hl) at_ k tag
def zjr(F:zc4 D cs bs at_ qE)(O:Du cs l)(A:zgp l at_ qE)(ha:Xv bs)(hl:bs.length=cs.length)(k:Int)(tag:af)(hy:D[j]? =some y)(hk:0<k.toNat)
  (hlen:(xg (x8 cs bs D j) at_ k tag).length=k.toNat) (z:sJ) (hz:(xg (x8 cs bs D j) at_ k tag)[k.toNat-1]? =some z) (rE:z.2<y.1):xg (x8 cs bs D j) at_ k tag=xg l at_ k tag:=by
 have hj:=(aT.1 hy).1;have e:D.flatMap (λe=>wS cs bs e.2)=x8 cs bs D j++(D.drop j).flatMap (λe=>wS cs bs e.2):=by rw[x8,<-dU,iV]
 rw[<-zc9 (zah F O ha hl) at_ k tag,e];refine(zlY _ _ at_ k tag hk hlen z hz ?_).s;intro x hx;obtain⟨f,hf,hx⟩:=mf.1 hx;have hfD:=pg hf;have h1:=zvg O A ha (F.perm.mem_iff.1 hfD) x hx;have h2:y.1<=f.1:=by
  rw[jB hj,(aT.1 hy).2]at hf;rcases dO.1 hf with rfl|hf
  ·exact qh _
  have hs:=F.sort;have e2:D=D.take j++y::D.drop (j+1):=by
   have:=(iV j D).s
   rwa [jB hj,(aT.1 hy).2]at this
  rw[e2,pF]at hs;exact(dR.1 hs.2.1).1 f hf
 omega
def zpZ{d d':Array yl}(hd:d.toList=OX cs bs at_ qE)(hp:PermIn 0 d.size d d')(hs:SortedIn (ltOf uq) 0 d.size d'):zc4 d'.toList cs bs at_ qE:=by
 obtain⟨h1,_,h3⟩:=hp;refine⟨?_,?_⟩
 ·rw[<-hd];have e1:d'.extract 0 d.size=d':=by rw[<-h1,og]
  have e2:d.extract 0 d.size=d:=og
  rwa [e1,e2]at h3
 rw[iO];intro i j hi hj hij;have hi':i<d'.size:=by simpa using hi
 have hj':j<d'.size:=by simpa using hj
 have:=hs i j (fP _) hij (by omega);rw[oM d' i hi',oM d' j hj',zki]at this;have:=iD this;simp only[Array.getElem_toList];omega
end
end
section
open Go.Sort Go.Shelf
def zj3(w:ax):ae 255 #[.slice none 0 0,.int .i64 0,.int .i64 0,.func (.func 129) #[] #[]] w λe w'=>e= .returned (.tuple #[])∧w'=w:=by
 go_enter func255,ntmps255;go_wp2_with fail
 go_loopw [8] (λiv wr=>iv= .int .i64 1∧wr=w) (λ_ _=>0)
 ·exact⟨rfl,rfl⟩
 obtain⟨rfl,rfl⟩:=hrel;go_wp2_with fail;go_end0;exact⟨rfl,rfl⟩
def zjm(w:ax):ae 198 #[.slice none 0 0,.int .i64 0,.func (.func 129) #[] #[]] w λe w'=>e= .returned (.tuple #[])∧w'=w:=by
 go_enter func198,ntmps198;go_wp2_with fail
 go_loopw [7,8] (λav bv wr=>av= .int .i64 0∧bv= .int .i64 20∧wr=w) (λ_ _ _=>0)
 ·exact⟨rfl,rfl,rfl⟩
 obtain⟨rfl,rfl,rfl⟩:=hrel;have h:=λw=>zj3 w;go_wp2_with fail;refine(h _).m ?_;rintro e w1 ⟨rfl,rfl⟩;go_wp2_with fail
 go_loopw [6] (λbv wr=>bv= .int .i64 20∧wr=w1) (λ_ _=>0)
 ·exact⟨rfl,rfl⟩
 obtain⟨rfl,rfl⟩:=hrel;go_wp2_with fail;go_end0;exact⟨rfl,rfl⟩
def zeY(v:ay)(d:List yl)(base:Nat)(w:ax)(h:qF w base 211 2 v d.length (d.flatMap sD))(hl:d.length<=1000000):
  ae 128 #[v,.func (.func 129) #[] #[]] w λe w'=>e= .returned (.tuple #[])∧∃d':Array yl,(PermIn 0 d.length d.toArray d'∧SortedIn (ltOf uq) 0 d.length d')∧qF w' base 211 2 v d.length (d'.toList.flatMap sD)∧Keep (λb=>base<=b) w w':=by
 have h0:=h;obtain⟨hlen,h⟩:=h;rcases h with⟨rfl,hn⟩|⟨g,cap,cur,fz,rfl,hb,hg,_⟩
 ·obtain rfl:d= []:=dV hn;have h1:=zjm w;go_enter func128,ntmps128;go_wp2_with fail;refine h1.m ?_;rintro e w' ⟨rfl,rfl⟩;go_wp2_with fail;go_end0;exact⟨rfl,#[],⟨⟨rfl,λi h=>rfl,by simp⟩,λi j _ _ h=>absurd h (by simp)⟩,h0,ah _ _⟩
 ·have hH:=HoldsK.yw Iw h0;have hgl:=lt_of_heap hg;have hs:d.toArray.size=d.length:=by simp
  have IJ:=zbE g cap d.toArray w (by omega) hH hgl;rw[hs]at IJ;refine IJ.m ?_;rintro e w' ⟨he,d',hd,n,os,rfl⟩;refine⟨he,d',hd,?_,?_⟩
  ·exact SV (m:=n) (os:=os) Iw h0 (by have:=hd.1.1;omega)
  exact(PK (enc:=sD) (k:=2) (m:=n) (os:=os) (d':=d') hgl).m λi _ hi=>by rw[show i=g from hi];exact hb
end
section
open Go.Sort Go.Shelf
def zmY(x:qP)(h:DW x.ns)(k:Nat): -4<=(cellAt x).getD k 0∧(cellAt x).getD k 0<=4:=by
 rw[aG];cases e:(cellAt x)[k]? with
 | none=>simp
 | some y=>
  have hy:y∈cellAt x:=bG e;rw[cellAt,atK,dX]at hy;show-4<=y∧y<=4;rcases hy with hy|hy
  ·obtain⟨n,hn,rfl⟩:=bY.1 hy;exact zp6 n (h n (iq hn))
  obtain⟨_,rfl⟩:=ji.1 hy;omega
def zo5(at_:List Int)(k:Int)(tag:af):xg [] at_ k tag= []:=by
 rw[xg]
 have:uo [] at_ tag= []:=rfl
 rw[this,Go.Proofs.YtbcmmbeadgiiiaaGreatDoor.QD,List.take_nil]
def zgv(l:List qP)(at_:List Int)(k:Int)(tag:af):(xg l at_ k tag).length<=k.toNat:=by rw[xg,dJ];omega
end
section
open Go.Sort Go.Shelf
def zpX:∃i,prog.info? 211=some i∧i.zero=some (.agg #[.int .i64 0,.pointer none])∧i.size=2∧i.bytes=16:=by
 have h:(prog.info? 211).map (λi=>(i.zero,i.size,i.bytes))=some (some (.agg #[.int .i64 0,.pointer none]),2,16):=by kernel_rfl
 cases hi:prog.info? 211 with
 | none=>rw[hi]at h;cases h
 | some i=>
  rw[hi]at h;simp only[gW,jD,jH]at h;exact⟨i,rfl,h.1,h.2.1,h.2.2⟩
def zil(cb qE:Nat)(cv va:ay)(at_:List Int)(k:Int)(tag:af)(w:ax)(hC:w.heap[cb]? =some (.cells #[.int .i64 qE,cv] 206 (0,0)))(N:vM w va at_)(ha:at_.length<=1000000)(hn:EI qE at_ k=false):
  ae 73 #[.pointer (some ⟨cb,0,none⟩),va,.int .i64 k,.string tag] w λe w'=>e= .returned (.tuple #[.slice none 0 0,.int .i64 0,qY 1])∧w'=w:=by
 have c0:w.cell? ⟨cb,0,none⟩=some (.int .i64 qE):=by rw[aO _ _ _ _ _ (0,0) hC];rfl
 have h:=zeH qE va at_ k w N ha;rw[hn]at h;clear hC;go_enter func73,ntmps73;go_wp2_with fail;refine h.m ?_;rintro e w' ⟨rfl,hw⟩;subst w';go_wp2_with fail
 go_ret3
 exact⟨rfl,rfl⟩
def zfq(cb qE:Nat)(cv va:ay)(bs:List (Nat×ay))(cs:List Cell)(l:List qP)(at_:List Int)(k:Int)(tag:af)(base:Nat)(w:ax)(H:uh w base cb qE cv bs cs)(O:Du cs l)(A:zgp l at_ qE)(N:vM w va at_)(FM:∀x∈l,vM w x.av x.ns)(hl:l.length<=1000)(hn:EI qE at_ k=true):
  ae 73 #[.pointer (some ⟨cb,0,none⟩),va,.int .i64 k,.string tag] w λe w'=>∃(v':ay) (looked:Nat),e= .returned (.tuple #[v',.int .i64 looked,.nilIface])∧uT w' v' 2 xw (xg l at_ k tag)∧looked<=l.length∧(∀b,v'.ownBlock=some b->w.heap.size<=b)∧ak w w':=by
 have c0:w.cell? ⟨cb,0,none⟩=some (.int .i64 qE):=by rw[aO _ _ _ _ _ (0,0) H.head];rfl
 have c1:w.cell? ⟨cb,1,none⟩=some cv:=by rw[aO _ _ _ _ _ (0,0) H.head];rfl
 have hda:=A.len;have zd9:=zeH qE va at_ k w N (by have:=A.le;omega);rw[hn]at zd9;have hk1:1<=k∧k<=60:=by simp only[EI,bI,aW]at hn;omega
 obtain⟨K0,rfl⟩:∃K0:Nat,k=K0:=⟨k.toNat,by omega⟩
 have hK0:1<=K0∧K0<=60:=by omega
 have Xj:Xv bs:=H.ptr;have hlen:=H.len;have zu:=O.len;obtain⟨pc,cc,rfl⟩:=Cells.zgI H;obtain⟨n,GG⟩:=aj bs.length;obtain⟨F,hF⟩:=aj (OX cs bs at_ qE);have hFl:F.length=n:=by rw[hF,zkX hlen,GG,hlen]
 rw[<-GG]at c1 H;obtain⟨i0,zM,Ba,Vg,Vd⟩:=zpX;have HH:=ag H;have HO:=ag O;have HA:=ag A;have HN:=ag N;have QR:=ag GG;have HF:=ag hF;have HFl:=ag hFl;have yM:=ag hlen;have Hap:=ag Xj;have Hn:=ag hn;have zvb:n<=1000:=by omega
 have zef:=ag FM;clear H O A N GG hF hFl Xj hda hlen zu hn FM;go_enter func73,ntmps73;go_wp2_with fail;refine zd9.m ?_;rintro e w1 ⟨rfl,vF⟩;subst w1;clear zd9;go_wp2_with fail
 go_loopw [11,34] (λov iv wr=>∃(j:Nat) (o:ay),iv= .int .i64 j∧o=ov∧j<=n∧Hid (qF wr w.heap.size 211 2 o (F.take j).length ((F.take j).flatMap sD))∧ak w wr) (λ_ iv _=>n-(intOf iv).toNat)
 case atStart=>exact⟨0,_,rfl,rfl,by omega,ag (qF.nil _ _ _ _),ah _ _⟩
 case round=>
  obtain⟨j,o,rfl,rfl,hj,hO,K⟩:=hrel;by_cases rE:j<n
  ·have j1:(j:Int)<n:=by omega
   obtain⟨c,hc⟩:∃c,cs[j]? =some c:=⟨_,aK (by have:=yM.o;have:=QR.o;omega)⟩
   obtain⟨b,hb⟩:=HH.o.get hc;have Hr:=HH.o.rV K;have Xi:=Hr.cell j b c hb hc;obtain⟨g,cap,hv,-,-⟩:=Hr.row.some (by have:=QR.o;omega);cases hv;have ck:=Hr.row.cells rfl j (.pointer (some ⟨b.1,0,none⟩)) (by rw[Vp,aX,hb];rfl);rw[zep]at ck;obtain⟨x,hx,Ru⟩:=HO.o.at_ c (bG hc);have hxn:=HA.o.ns x hx;have zqB:=λq=>zmG cb b.1 qE _ at_ c.1 b.2 va (wr.drewN q) Xi.2.1 (λk=>by rw[Ru];exact zmY x hxn.1 k) HA.o.num HA.o.le HA.o.len (HN.o.qm (K.drewN q) (λ_ _ x=>x)) Hr.head Xi.1;have hfg:=zkY (at_:=at_) (qE:=qE) hb hc;rw[<-HF.o]at hfg;obtain⟨bp,hbp⟩:=aj b.1;obtain⟨ln,hln⟩:=aj (AZ c.1 at_ qE);rw[<-hbp]at ck zqB hfg;rw[<-hln]at zqB hfg;have Hfg:=ag hfg;have zsB:ae 127 #[.pointer (some ⟨cb,0,none⟩),.pointer (some ⟨bp,0,none⟩),va] wr λe w'=>e= .returned (.int .i64 ln)∧∃q,w'=wr.drewN q:=zqB 0;clear zqB hfg hbp hln Ru hxn hx Xi Hr hb hc;go_wp2_with fail;refine zsB.m ?_;rintro e w2 ⟨rfl,q2,rfl⟩;clear zsB;have ru:qF ((wr.drewN q2).alloc (.cells #[.int .i64 ln,.pointer (some ⟨bp,0,none⟩)] 211)) w.heap.size 211 2 o (F.take j).length ((F.take j).flatMap sD):=(hO.o.drewN q2).alloc _;have uF:=K.size;have hFj:(F.take j).length=j:=by rw[dJ];have:=HFl.o;omega
   rw[hFj]at ru;go_wp2_with (refine tC _ rfl (.tmp 38) (.tmp 45) 207 rfl w.heap.size 211 i0 _ 2 16 underlying207 zM Ba Vg Vd rfl (by decide) _ j _ rfl ru ⟨wr.heap.size,0,none⟩ 1 1 [.int .i64 ln,.pointer (some ⟨bp,0,none⟩)] rfl rfl (rJ (wr.drewN q2) _ _) (by intro u hu;simp only[dO,oV,lN]at hu;rcases hu with rfl|rfl<;>rfl) (by unfold maxLen;omega) (by omega) (by show w.heap.size<=(wr.heap.push _).size;rw[dW];omega) ?_;intro v' w' II hg)
   have hK':ak w w':=((K.drewN q2).alloc _).grown hg (λb hb=> .inr (ru.lt b hb).1);refine⟨⟨j+1,_,by go_num,rfl,by omega,ag ?_,hK'⟩,by simp[intOf];omega⟩;have e1:F.take (j+1)=F.take j++ [(ln,bp)]:=by
    have Tv:=(aT.1 Hfg.o)
    rw[aZ Tv.1,Tv.2]
   rw[e1,aN,hFj,dU,dZ,ku,dS];exact II
  obtain rfl:j=n:=by omega
  have hFt:F.take j=F:=bg (by have:=HFl.o;omega);have ho:=hO.o;rw[hFt]at ho;have H5:=zeY _ F w.heap.size wr ho (by have:=HFl.o;omega);have I4:=ag H5;obtain⟨po,co,rfl⟩:=qF.sl ho;have Ho:=ag ho;obtain⟨m,hm⟩:=aj F.length;have hmj:m=j:=by rw[hm];exact HFl.o
  have hm1000:m<=1000:=by omega
  rw[<-hm]at I4 Ho;rw[<-hm];have Hm:=ag hm;have Hmj:=ag hmj;clear hO ho H5 hFt hm hmj;go_wp2_with fail;refine I4.o.m ?_;rintro e w2 ⟨rfl,d',⟨hdp,IQ⟩,ru,K2⟩;have hFO:zc4 d'.toList cs bs at_ qE:=zpZ (d:=F.toArray) (by rw[<-HF.o]) (by rw[show F.toArray.size=m by rw[Hm.o];simp];exact hdp) (by rw[show F.toArray.size=m by rw[Hm.o];simp];exact IQ);have hDl:d'.toList.length=m:=by have:=hdp.1;simp at this⊢;rw[this,Hm.o]
  obtain⟨D,hD⟩:=aj d'.toList;rw[<-hD]at hFO hDl ru;have KD:ak w w2:=K.t K2 (λi hi hs=>absurd hi (oU.2 hs));have HFO:=ag hFO;have HDl:=ag hDl;have zuq:=ag ru;clear hdp IQ hFO hDl ru hD I4 Ho K2 K;go_wp2_with fail
  go_loopw [14,15,52] (λov lv iv wr=>∃(i:Nat) (o:ay),iv= .int .i64 i∧o=ov∧lv= .int .i64 (x8 cs bs D i).length∧i<=m∧Hid (qF wr w2.heap.size 146 2 o (xg (x8 cs bs D i) at_ K0 tag).length ((xg (x8 cs bs D i) at_ K0 tag).flatMap xw))∧ak w2 wr) (λ_ _ iv _=>m-(intOf iv).toNat)
  ·exact⟨0,_,rfl,rfl,by rw[x8,dD];rfl,by omega,ag (by rw[x8,dD,ku,zo5];exact qF.nil _ _ _ _),ah _ _⟩
  obtain⟨i,o,rfl,rfl,rfl,hi,hO,K⟩:=hrel;by_cases rE:i<m
  ·have i1:(i:Int)<m:=by omega
   obtain⟨y,hy⟩:∃y,D[i]? =some y:=⟨_,aK (by have:=HDl.o;omega)⟩
   obtain⟨ci,b,c,hb,hc,hye⟩:=zkW (HFO.o.perm.mem_iff.1 (bG hy));have Rw:wS cs bs y.2=c.2:=by rw[hye];exact JJ Hap.o hb hc
   have hsu:=zmc (cs:=cs) (bs:=bs) hy;rw[Rw]at hsu;have Kr:=KD.qo K;have Hr:=HH.o.rV Kr;have Xi:=Hr.cell ci b c hb hc;have hyp:y.2=b.1:=by rw[hye]
   have Ow:=zuq.o.qm K (λ_ _ x=>x);obtain⟨g2,QT,hv,-,-⟩:=Ow.some (by omega);cases hv;have hfy:∀t u,(sD y)[t]? =some u->(D.flatMap sD)[i*2+t]? =some u:=λt u hu=>by have ht:t<2:=(aT.1 hu).1;rw[Es Iw D i t ht,hy];exact hu
   have y0:=Ow.cells rfl (i*2+0) _ (hfy 0 _ rfl);have y1:=Ow.cells rfl (i*2+1) _ (hfy 1 _ rfl);rw[zep,iY]at y0;rw[zep]at y1;obtain⟨bp,bv⟩:=b;simp only at Xi hyp;obtain⟨pb,cb2,hbv⟩:=qF.sl Xi.2.2;obtain⟨nI,hnI⟩:=aj c.2.length;rw[<-hnI]at hbv;subst hbv;have d8:wr.cell? ⟨bp,8,none⟩=some (.slice pb nI cb2):=by rw[aO _ _ _ _ _ (0,0) Xi.1,aF,bT (by rw[xH,aP,Xi.2.1];omega),xH,aP,Xi.2.1];rfl
   have e0:wr.cell? ⟨cb,0,none⟩=some (.int .i64 qE):=by rw[aO _ _ _ _ _ (0,0) Hr.head];rfl
   have ztu:∀x∈c.2,x∈l:=λx hx=>HO.o.perm.mem_iff.1 (mf.2 ⟨c,bG hc,hx⟩);have Ce:c.2.length<=1000:=by have h1:=Y7 HFO.o HO.o Hap.o yM.o (i+1);rw[hsu,aN]at h1;omega
   have hT:∀w3,ak wr w3->ae 131 #[.int .i64 qE,.slice pb nI cb2,va,.int .i64 K0,.string tag] w3 λe w'=>∃v',e= .returned (.tuple #[v',.nilIface])∧uT w' v' 2 xw (xg c.2 at_ K0 tag)∧((∀b,v'.ownBlock=some b->w3.heap.size<=b)∧ztg v')∧ak w3 w':=λw3 K3=>
    zrh qE _ c.2 va at_ K0 tag w3 ⟨uT.yw zf (by have:=Xi.2.2.qm K3 (λ_ _ x=>x);rw[hnI]at this⊢;exact this),λx hx=>(zef.o x (ztu x hx)).qm (Kr.qo K3) (λ_ _ x=>x)⟩ (HN.o.qm (Kr.qo K3) (λ_ _ x=>x)) Ce (by have:=HA.o.len;have:=HA.o.le;omega) (λx hx=>by have:=HA.o.ns x (ztu x hx);have:=HA.o.le;omega) Hn.o
   obtain⟨yn,yp⟩:=y;simp only at hyp y0 y1;subst hyp;have HT:=ag hT;have Xm:=ag hsu;have Hy:=ag hy;have Hbi:=ag Rw;have HnI:=ag hnI;have Hcl:=ag Ce;clear hT hsu hy Rw hnI Xi ztu hfy Ow hb hc hye Hr Ce;obtain⟨T,hT⟩:=aj (xg (x8 cs bs D i) at_ K0 tag);have hO2:=hO.o;rw[<-hT]at hO2;have hTl:T.length<=K0:=by rw[hT];have:=zgv (x8 cs bs D i) at_ K0 tag;omega
   obtain⟨po2,co2,ho2⟩:=qF.sl hO2;obtain⟨tn,htn⟩:=aj T.length;rw[<-htn]at hO2 ho2 hTl;subst ho2;have HT2:=ag hT;have Htn:=ag htn;have HO2:=ag hO2;have vF:IntKind.i64.wrap ((K0:Int)-1)=((K0-1:Nat):Int):=by rw[aY _ (by omega)];omega
   clear hO hT htn
   go_upto_if 70 with fail
   go_cut [70] (λbv wx=>∃(Bo:Bool) (q:Nat),bv= .bool Bo∧wx=(wr.alloc (.cells #[.int .i64 yn,.pointer (some ⟨yp,0,none⟩)] 211)).drewN q∧Hid (Bo=true->xg (x8 cs bs D i) at_ K0 tag=xg l at_ K0 tag))
   ·by_cases ZM:tn=K0
    ·have Ba:∃z,T[K0-1]? =some z:=⟨_,aK (by have:=Htn.o;omega)⟩
     obtain⟨z,hz⟩:=Ba;obtain⟨g3,ziQ,hv3,-,-⟩:=hO2.some (by omega);cases hv3;have zc:=hO2.cells rfl ((K0-1)*2+1) (.int .i64 z.2) (by rw[Es xm T _ 1 (by omega),hz];rfl);rw[zep]at zc;obtain⟨zn,zd⟩:=z;simp only at zc;have zc2:=(((ah qw wr).alloc (.cells #[.int .i64 yn,.pointer (some ⟨yp,0,none⟩)] 211)).cell (p:=⟨g3,(K0-1)*2+1,none⟩) (hO2.lt g3 rfl).2 id).t zc;have HZ:=ag hz;subst ZM;have LY:tn-1<tn:=by omega
     by_cases hbr:zd<yn
     ·clear hz hO2
      go_quiet (fail)
      go_wp2_with fail;have znN:=zjr HFO.o HO.o HA.o Hap.o yM.o (tn:Int) tag Hy.o (by omega) (by rw[<-HT2.o,<-Htn.o];omega) (zn,zd) (by rw[<-HT2.o];exact HZ.o) hbr;go_meet
      exact⟨true,_,rfl,rfl,ag (λ_=>znN)⟩
     clear hz hO2
     go_quiet (fail)
     go_wp2_with fail;go_meet
     exact⟨false,_,rfl,rfl,ag (λh=>by cases h)⟩
    clear hO2;have Bc:¬((tn:Int)=K0):=by omega
    go_quiet (fail)
    go_wp2_with fail;go_meet
    exact⟨false,_,rfl,rfl,ag (λh=>by cases h)⟩
   obtain⟨Bo,q,rfl,rfl,HBo⟩:=hcut;have Kw:ak wr ((wr.alloc (.cells #[.int .i64 yn,.pointer (some ⟨yp,0,none⟩)] 211)).drewN q):=((ah _ _).alloc _).drewN q;cases Bo with
   | true=>
    have hle:=Y7 HFO.o HO.o Hap.o yM.o i;go_wp2_with fail
    go_ret3
    refine⟨_,_,rfl,?_,hle,λb hb=>bQ KD.size (HO2.o.lt b hb).1,KD.qo (K.qo Kw)⟩;rw[<-HBo.o trivial,<-HT2.o];exact uT.yw xm (by rw[<-Htn.o];exact HO2.o.qm Kw (λ_ _ x=>x))
   | false=>
   go_wp2_with fail;have f1:((wr.alloc (.cells #[.int .i64 yn,.pointer (some ⟨yp,0,none⟩)] 211)).drewN q).cell? ⟨wr.heap.size,1,none⟩=some (.pointer (some ⟨yp,0,none⟩)):=by show(wr.alloc (.cells #[.int .i64 yn,.pointer (some ⟨yp,0,none⟩)] 211)).cell? ⟨wr.heap.size,1,none⟩=_;rw[aO _ _ _ _ _ (0,0) (aQ wr _)];rfl
   have hB:wr.heap.size<((wr.alloc (.cells #[.int .i64 yn,.pointer (some ⟨yp,0,none⟩)] 211)).drewN q).heap.size:=by show wr.heap.size<(wr.heap.push _).size;rw[dW];omega
   have hyl:yp<wr.heap.size:=Lib.lt_of_cell d8;have znq:cb<wr.heap.size:=Lib.lt_of_cell e0;obtain⟨w4,LC⟩:=aj ((wr.alloc (.cells #[.int .i64 yn,.pointer (some ⟨yp,0,none⟩)] 211)).drewN q);obtain⟨B,hBe⟩:=aj wr.heap.size;rw[<-LC]at Kw f1 hB⊢;rw[<-hBe]at f1 hB⊢;have d8':=(Kw.cell (p:=⟨yp,8,none⟩) hyl id).t d8;have e0':=(Kw.cell (p:=⟨cb,0,none⟩) znq id).t e0;have HKw:=ag Kw;have zvE:yp<w4.heap.size:=dH hyl Kw.size;have HO4:=ag (HO2.o.qm Kw (λ_ _ x=>x));clear LC hBe Kw d8 e0 hO2 y0 y1
   go_cut [18,19] (λmv ev wx=>ev= .nilIface∧Hid (uT wx mv 2 xw (xg c.2 at_ K0 tag))∧ak w4 wx)
   case first=>
    go_region_with (go_at_call 131;refine(HT.o _ (HKw.o.drewN 1)).m ?_;rintro e w5 ⟨v5,rfl,R5,-,K5'⟩)
    all_goals (have zBf:=ag R5;clear R5;go_wp2_with fail;go_meet;exact⟨rfl,zBf,((ah qw w4).drewN 1).qo K5'⟩)
   case rest=>
   obtain⟨rfl,R5',K5⟩:=hcut;have R5:=R5'.o;obtain⟨v5,rfl⟩:=aj u18;obtain⟨w5,rfl⟩:=aj wc;clear R5';have f1':=(K5.cell (p:=⟨B,1,none⟩) hB id).t f1;have d8'':=(K5.cell (p:=⟨yp,8,none⟩) zvE id).t d8';have HO5:=ag (HO4.o.qm K5 (λ_ _ x=>x));have HR5:=ag R5;have HK5:=ag (HKw.o.qo K5);have ZJ:(x8 cs bs D i).length+nI=(x8 cs bs D (i+1)).length:=by rw[Xm.o,aN,<-HnI.o]
   have Zm:=Y7 HFO.o HO.o Hap.o yM.o (i+1);have Gn:IntKind.i64.wrap (((x8 cs bs D i).length:Int)+nI)=((x8 cs bs D (i+1)).length:Int):=by rw[aY _ (by omega)];omega
   have Hsl:=ag Zm;have Hseen:=ag ZJ;clear f1 d8' e0' R5 K5 ZJ Zm HO4 HKw hB hyl zvE znq;obtain⟨sn,hsn⟩:=aj ((x8 cs bs D i).length);obtain⟨sn1,ztx⟩:=aj ((x8 cs bs D (i+1)).length);rw[<-hsn,<-ztx]at Gn;rw[<-hsn];have zAG:=ag ztx;clear hsn ztx;obtain⟨C,hC⟩:=aj (xg c.2 at_ K0 tag);rw[<-hC]at HR5;have hCl:C.length<=K0:=by rw[hC];have:=zgv c.2 at_ K0 tag;omega
   have HC:=ag hC;clear hC;obtain⟨i9,hi9,hz9,hs9,hb9⟩:=Td;have zi8:w2.heap.size<=w5.heap.size:=bQ K.size HK5.o.size;have X4:∀(a:Act) (ops:Array Oper) (rest:List Oper) (o:Oper) (Q:Exit->Act->ax->Prop),o.guard=none->o.op= .call { callee:= .builtin .append,args:= #[.tmp 98,.tmp 99],argTypes:= #[73,73] }->a.eval (.tmp 98)= .slice po2 tn co2->a.eval (.tmp 99)=v5->
     (∀v6 w6,qF w6 w2.heap.size 146 2 v6 (T++C).length ((T++C).flatMap xw)->Keep (λb=>w2.heap.size<=b) w5 w6->wpList prog ops Q rest (a.put o.dst v6) w6)->wpList prog ops Q (o::rest) a w5:=by
    intro a ops rest o Q h1 h2 h3 h4 h5;refine Tm h1 (.tmp 98) (.tmp 99) 73 h2 w2.heap.size 146 i9 _ 24 mV hi9 hz9 hs9 hb9 rfl (by decide) xm _ tn _ h3 HO5.o v5 C h4 HR5.o (zdE C) (by unfold maxLen;omega) (by omega) zi8 ?_;intro v6 w6 h6 h7;exact h5 v6 w6 (by rw[aN,<-Htn.o,dU];exact h6) h7
   have HX4:=ag X4;clear X4;go_wp2_with (refine HX4.o _ _ _ _ _ rfl rfl rfl rfl ?_;intro v6 w6 EH K6);have hTC:(T++C).length<=1000000:=by rw[aN,<-Htn.o];omega
   have hso:=zbF v6 (T++C) w2.heap.size w6 EH hTC;obtain⟨p6,c6,rfl⟩:=qF.sl EH;obtain⟨N6,hN6⟩:=aj ((T++C).length);rw[<-hN6]at EH hso;rw[<-hN6];have hcap6:N6<=c6:=by
    rcases EH.2 with⟨h,hn⟩|⟨_,_,_,_,h,_,_,_,hc,_⟩
    ·cases h;omega
    cases h;exact hc
   have Hso:=ag hso;have HN6:=ag hN6;have HK6:=ag (HK5.o.yw.t (S':=λb=>w2.heap.size<=b) K6 (λ_ _ h=>h));clear hso EH hN6 K6;go_wp2_with fail;refine Hso.o.m ?_;rintro e w7 ⟨rfl,Dx,K7⟩;have zwf:(min (K0:Int) N6)=((min K0 N6:Nat):Int):=by omega
   have hm6:min K0 N6<=c6:=by omega
   have zle:xg (x8 cs bs D (i+1)) at_ K0 tag=(vC (T++C)).take (min K0 N6):=by rw[Xm.o,<-zo4,<-HT2.o,<-HC.o];show(vC (T++C)).take K0=_;rw[<-List.take_take,bg (i:=N6) (by rw[VT,<-HN6.o];exact aS _)]
   have zvA:qF w7 w2.heap.size 146 2 (.slice p6 (min K0 N6) c6) (xg (x8 cs bs D (i+1)) at_ K0 tag).length ((xg (x8 cs bs D (i+1)) at_ K0 tag).flatMap xw):=by
    have hlen:(xg (x8 cs bs D (i+1)) at_ K0 tag).length=min K0 N6:=by rw[zle,dJ,VT,<-HN6.o];omega
    rw[hlen,zle,<-WA xm];rcases Dx.2 with⟨h,hn⟩|⟨g7,_,_,_,h,_⟩
    ·cases h
     rw[hn,nK (fP _),oz,dD];exact qF.nil _ _ _ _
    cases h
    exact Dx.take _ (by omega)
   have HE:=ag zvA;have KE:ak w2 w7:=K.t (HK6.o.t K7 (λ_ _ h=>h)) (λi hi hs=>absurd hi (oU.2 hs));clear Dx K7 zle zvA;go_wp2_with fail;exact⟨⟨i+1,_,by go_num,rfl,by rw[<-zAG.o],by omega,HE,KE⟩,by simp[intOf];omega⟩
  obtain rfl:i=m:=by omega
  have tN:=zpl HFO.o HO.o Hap.o yM.o (K0:Int) tag;rw[HDl.o]at tN;have ho:=hO.o;rw[tN]at ho;have hle:=Y7 HFO.o HO.o Hap.o yM.o i;have hR:=uT.yw xm ho;have hnw:∀b,o.ownBlock=some b->w.heap.size<=b:=λb hb=>bQ KD.size (ho.lt b hb).1;have Hnw:=ag hnw;clear hnw;have Ho:=ag hR;clear hO ho tN hR;go_wp2_with fail
  go_ret3
  exact⟨_,_,rfl,Ho.o,hle,Hnw.o,KD.qo K⟩
end
section
open Go.Sort Go.Shelf
structure zk3(l:List qP):Prop where
 len:l.length<=65
 each:∀x∈l,x.name.size<=60∧x.tag.size<=60∧x.ns.length<=12
def WO(l:List qP)(e:Ending):Prop:=∃b:Bool,e= .returned (.bool b)∧(b=true->zk3 l)
def zmb(v:ay)(l:List qP)(w:ax)(I:zT w v l)(hl:l.length<=maxLen):ae 10 #[v] w λe w'=>WO l e∧w'=w:=by
 have HNo:Hid (WO l (.returned (.bool false))):=ag ⟨false,rfl,λh=>by cases h⟩;obtain⟨p,c,rfl⟩:=I.rows.len;obtain⟨n,hn⟩:=aj l.length;rw[<-hn]at I hl⊢;have Hn:=ag hn;have HI:=ag I;have zng:(n:Int)<=9223372036854775807:=by unfold maxLen at hl;omega
 clear hn I hl;by_cases h65:n<=65
 ·have h1:¬((65:Int)<n):=by omega
  go_enter func10,ntmps10;go_wp2_with fail
  go_loopw [3] (λiv wr=>∃i:Nat,i<=n∧iv= .int .i64 i∧Hid (∀j x,j<i->l[j]? =some x->x.name.size<=60∧x.tag.size<=60∧x.ns.length<=12)∧wr=w) (λiv _=>n-(intOf iv).toNat)
  ·exact⟨0,by omega,rfl,ag (λj x h=>by omega),rfl⟩
  obtain⟨i,hi,rfl,vz,rfl⟩:=hrel;by_cases rE:i<n
  ·have i1:(i:Int)<n:=by omega
   obtain⟨b,off,rfl,-,hb,uw⟩:=HI.o.rows.at (by have:=Hn.o;omega);obtain⟨x,hx⟩:∃x,l[i]? =some x:=⟨_,aK (by have:=Hn.o;omega)⟩
   have ET:=uw i x hx;have Ls:x∈l:=bG hx;obtain⟨pa,ca,Qi⟩:=(HI.o.yK x Ls).len;have c0:wr.cell? ⟨b,off+i*3,none⟩=some (.string x.name):=ET 0 _ rfl;have c1:wr.cell? ⟨b,off+i*3+1,none⟩=some (.string x.tag):=ET 1 _ rfl;have c2:wr.cell? ⟨b,off+i*3+2,none⟩=some x.av:=ET 2 _ rfl;rw[Qi]at c2;obtain⟨bn,hbn⟩:=aj (decide (60<x.name.size));obtain⟨bt,hbt⟩:=aj (decide (60<x.tag.size));have L1:=λw=>zaq x.name bn hbn w;have L2:=λw=>zaq x.tag bt hbt w;obtain⟨nm,F8⟩:=aj x.name;obtain⟨tg,Zl⟩:=aj x.tag;obtain⟨nl,CV⟩:=aj x.ns.length;rw[<-F8]at c0 L1;rw[<-Zl]at c1 L2;rw[<-CV]at c2;have wJ:bn=false->bt=false->nl<=12->∀j y,j<i+1->l[j]? =some y->y.name.size<=60∧y.tag.size<=60∧y.ns.length<=12:=by
    intro e1 e2 e3 j y hj hy;by_cases e:j=i
    ·subst e;rw[hx]at hy;obtain rfl:=aU hy;rw[e1]at hbn;rw[e2]at hbt;have h1:=iD hbn.s;have h2:=iD hbt.s;omega
    exact vz.o j y (by omega) hy
   have HL1:=ag L1;have HL2:=ag L2;have HS:=ag wJ;clear uw ET Ls hx Qi L1 L2 wJ hbn hbt F8 Zl CV;go_wp2_with fail;refine(HL1.o _).m ?_;rintro e w1 ⟨rfl,vF⟩;subst w1;cases bn with
   | true=>
    go_wp2_with fail;go_ret;exact⟨HNo.o,rfl⟩
   | false=>
    go_wp2_with fail;refine(HL2.o _).m ?_;rintro e w1 ⟨rfl,vF⟩;subst w1;cases bt with
    | true=>
     go_wp2_with fail;go_ret;exact⟨HNo.o,rfl⟩
    | false=>
     by_cases h12:nl<=12
     ·have h2:¬((12:Int)<nl):=by omega
      go_wp2_with fail;exact⟨⟨i+1,by omega,by go_num,ag (HS.o (by first|rfl|trivial) (by first|rfl|trivial) h12),by first|rfl|trivial⟩,by simp[intOf];omega⟩
     have h2:(12:Int)<nl:=by omega
     go_wp2_with fail;go_ret;exact⟨HNo.o,rfl⟩
  obtain rfl:i=n:=by omega
  have zN:zk3 l:=⟨by rw[<-Hn.o];exact h65,λx hx=>by obtain⟨j,hj⟩:=iM hx;exact vz.o j x (by have:=(aT.1 hj).1;rw[Hn.o];exact this) hj⟩
  have zBa:Hid (WO l (.returned (.bool true))):=ag ⟨true,rfl,λ_=>zN⟩;clear zN;go_wp2_with fail;go_ret;exact⟨zBa.o,rfl⟩
 have h1:(65:Int)<n:=by omega
 go_enter func10,ntmps10;go_wp2_with fail;go_ret;exact⟨HNo.o,rfl⟩
def zcy(va vb:ay)(l:List sJ)(w:ax)(X:uT w va 2 xw l)(Y:uT w vb 2 xw l)(hl:l.length<=1000000):ae 31 #[va,vb] w λe w'=>e= .returned (.bool true)∧∃q,w'=w.drewN q:=by
 obtain⟨pa,ca,rfl⟩:=X.len;obtain⟨pb,cb,rfl⟩:=Y.len;obtain⟨n,hn⟩:=aj l.length;rw[<-hn]at X Y hl⊢;have Hn:=ag hn;have HX:=ag X;have HY:=ag Y;clear hn X Y;go_enter func31,ntmps31;go_wp2_with fail
 go_loopw [5] (λiv wr=>∃i:Nat,i<=n∧iv= .int .i64 i∧∃q,wr=w.drewN q) (λiv _=>n-(intOf iv).toNat)
 ·exact⟨0,by omega,rfl,0,rfl⟩
 obtain⟨i,hi,rfl,q,rfl⟩:=hrel;by_cases rE:i<n
 ·have i1:(i:Int)<n:=by omega
  obtain⟨bA,oA,rfl,-,hbA,Xh⟩:=HX.o.at (by have:=Hn.o;omega);obtain⟨bB,oB,rfl,-,hbB,hcB⟩:=HY.o.at (by have:=Hn.o;omega);obtain⟨x,hx⟩:∃x,l[i]? =some x:=⟨_,aK (by have:=Hn.o;omega)⟩
  have hA:=Xh i x hx;have hB:=hcB i x hx;have heq:=λw=>zp1 x x w;rw[show decide (x=x)=true by simp]at heq;obtain⟨xn,xd⟩:=x;have a0:w.cell? ⟨bA,oA+i*2,none⟩=some (.string xn):=hA 0 _ rfl;have a1:w.cell? ⟨bA,oA+i*2+1,none⟩=some (.int .i64 xd):=hA 1 _ rfl;have b0:w.cell? ⟨bB,oB+i*2,none⟩=some (.string xn):=hB 0 _ rfl;have b1:w.cell? ⟨bB,oB+i*2+1,none⟩=some (.int .i64 xd):=hB 1 _ rfl;have heq':∀w,(Op.equalIn 10000 146 (.agg #[.string xn,.int .i64 xd]) (.agg #[.string xn,.int .i64 xd])).run prog w= .ok true w:=heq;have hgt:prog.eqGuardType prog.depth 146=false:=by kernel_rfl
  clear hA hB Xh hcB hx heq;go_wp2_with fail
  go_quiet (fail)
  go_wp2_with fail;exact⟨⟨i+1,by omega,by go_num,_,rfl⟩,by simp[intOf];omega⟩
 obtain rfl:i=n:=by omega
 go_wp2_with fail;go_ret;exact⟨rfl,_,rfl⟩
end
def ze1(va vb:ay)(l:List Int)(w:ax)(X:vM w va l)(Y:vM w vb l)(hl:l.length<=1000000):ae 72 #[va,vb] w (au (.bool true) w):=by
 obtain⟨pa,ca,rfl⟩:=X.len;obtain⟨pb,cb,rfl⟩:=Y.len;obtain⟨n,hn⟩:=aj l.length;rw[<-hn]at X Y hl⊢;have Hn:=ag hn;have HX:=ag X;have HY:=ag Y;clear hn X Y;go_enter func72,ntmps72;go_wp2_with fail
 go_loopw [5] (λiv wr=>∃i:Nat,i<=n∧iv= .int .i64 i∧∃q,wr=w.drewN q) (λiv _=>n-(intOf iv).toNat)
 ·exact⟨0,by omega,rfl,0,rfl⟩
 obtain⟨i,hi,rfl,q,rfl⟩:=hrel;by_cases rE:i<n
 ·have i1:(i:Int)<n:=by omega
  obtain⟨bA,oA,rfl,-,hbA,Xh⟩:=HX.o.at (by have:=Hn.o;omega);obtain⟨bB,oB,rfl,-,hbB,hcB⟩:=HY.o.at (by have:=Hn.o;omega);obtain⟨x,hx⟩:=aj (l.getD i 0);have a0:=Xh i (by have:=Hn.o;omega);have b0:=hcB i (by have:=Hn.o;omega);rw[<-hx]at a0 b0;clear Xh hcB hx;go_wp2_with fail
  go_quiet (fail)
  go_wp2_with fail;exact⟨⟨i+1,by omega,by go_num,_,rfl⟩,by simp[intOf];omega⟩
 obtain rfl:i=n:=by omega
 go_wp2_with fail;go_ret;exact⟨rfl,(ah _ _).drewN _⟩
def zcx(va vb:ay)(L M:List qP)(w:ax)(X:zT w va L)(Y:zT w vb M)(he:L.map qA=M.map qA)(hl:L.length<=1000000)(zY:∀x∈L,x.ns.length<=1000000):ae 27 #[va,vb] w (au (.bool true) w):=by
 have hle:L.length=M.length:=by have:=dB List.length he;simpa using this
 obtain⟨pa,ca,rfl⟩:=X.rows.len;obtain⟨pb,cb,rfl⟩:=Y.rows.len;obtain⟨n,hn⟩:=aj L.length;rw[<-hle,<-hn]at Y;rw[<-hle,<-hn];rw[<-hn]at X hl;have Hn:=ag hn;have Hle:=ag hle;have HX:=ag X;have HY:=ag Y;have He:=ag he;have Hns:=ag zY;clear hn X Y he hle zY;go_enter func27,ntmps27;go_wp2_with fail
 go_loopw [5] (λiv wr=>∃i:Nat,i<=n∧iv= .int .i64 i∧ak w wr) (λiv _=>n-(intOf iv).toNat)
 ·exact⟨0,by omega,rfl,ah _ _⟩
 obtain⟨i,hi,rfl,K⟩:=hrel;obtain⟨wo,rfl⟩:=aj wr;by_cases rE:i<n
 ·have i1:(i:Int)<n:=by omega
  obtain⟨bA,oA,rfl,-,hbA,Xh⟩:=(HX.o.rows.qm K (λ_ _ x=>x)).at (by have:=Hn.o;omega);obtain⟨bB,oB,rfl,-,hbB,hcB⟩:=(HY.o.rows.qm K (λ_ _ x=>x)).at (by have:=Hn.o;have:=Hle.o;omega);obtain⟨x,hx⟩:∃x,L[i]? =some x:=⟨_,aK (by have:=Hn.o;omega)⟩
  obtain⟨y,hy⟩:∃y,M[i]? =some y:=⟨_,aK (by have:=Hn.o;have:=Hle.o;omega)⟩
  have hxy:qA x=qA y:=by have h1:=dB (λl=>l[i]?) He.o;simp only[aX,hx,hy,gW]at h1;exact aU h1
  have Nx:=(HX.o.yK x (bG hx)).qm K (λ_ _ x=>x);have Ny:=(HY.o.yK y (bG hy)).qm K (λ_ _ x=>x);have Bl:=Hns.o x (bG hx);have hA:=Xh i x hx;have hB:=hcB i y hy;obtain⟨xn,xt,xa,xs⟩:=x;obtain⟨yn,yt,ya,ys⟩:=y;obtain⟨rfl,h2⟩:=Prod.mk.inj hxy;obtain⟨rfl,rfl⟩:=Prod.mk.inj h2;have hsi:=λW (KW:ak wo W)=>ze1 xa ya xs W (Nx.qm KW (λ_ _ x=>x)) (Ny.qm KW (λ_ _ x=>x)) Bl;obtain⟨p1,c1,hv1⟩:=Nx.len;obtain⟨p2,c2,hv2⟩:=Ny.len;simp only at hv1 hv2 hsi;subst hv1;subst hv2;have a0:wo.cell? ⟨bA,oA+i*3,none⟩=some (.string xn):=hA 0 _ rfl;have a1:wo.cell? ⟨bA,oA+i*3+1,none⟩=some (.string xt):=hA 1 _ rfl;have a2:wo.cell? ⟨bA,oA+i*3+2,none⟩=some (.slice p1 xs.length c1):=hA 2 _ rfl;have b0:wo.cell? ⟨bB,oB+i*3,none⟩=some (.string xn):=hB 0 _ rfl;have b1:wo.cell? ⟨bB,oB+i*3+1,none⟩=some (.string xt):=hB 1 _ rfl;have b2:wo.cell? ⟨bB,oB+i*3+2,none⟩=some (.slice p2 xs.length c2):=hB 2 _ rfl;obtain⟨nl,CV⟩:=aj xs.length;rw[<-CV]at a2 b2 hsi;have hq1:(@BEq.beq (List UInt8) (@List.instBEq UInt8 instBEqOfDecidableEq) xn.toList xn.toList)=true:=by simp
  have NR:(@BEq.beq (List UInt8) (@List.instBEq UInt8 instBEqOfDecidableEq) xt.toList xt.toList)=true:=by simp
  have zAH:=ag (λY:Ext wo=>hsi (wo.ext Y) (rZ wo Y));clear hsi hA hB Xh hcB hx hy hxy h2 Nx Ny Bl CV;go_wp2_with fail;refine rX (by kernel_rfl) (by kernel_rfl) ?_
  repeat((with_reducible refine jK (λK hK=> ?_));go_simp;first|(refine hK _ ?_;clear hK K)|(apply Exists.intro;refine⟨λ_=> ?_,hK _ ?_⟩;(go_at_call 72;exact vw _ (zAH.o _));clear hK K))
  refine dP ?_;intro Y;go_wp2_with fail;exact⟨⟨i+1,by omega,by go_num,K.qo (rZ wo Y)⟩,by simp[intOf];omega⟩
 obtain rfl:i=n:=by omega
 go_wp2_with fail;go_ret;exact⟨rfl,K⟩
section
open Go.Sort Go.Shelf
def zlx(b:Bool):Int:=if b then 0 else 1
def zqQ(b:Bool)(T:List sJ):List sJ:=if b then T else []
def zgJ(w:ax)(p:Option Addr)(c:Nat):uT w (.slice p 0 c) 2 xw ([]:List sJ):= .inl ⟨rfl,p,c,rfl⟩
def zlZ(b:Bool)(qE:Int)(v:ay)(l:List qP)(va:ay)(at_:List Int)(k:Int)(tag:af)(hb:EI qE at_ k=b)(w:ax)(I:zT w v l)(N:vM w va at_)(hl:l.length<=1000)(ha:at_.length<=1000000)(zY:∀x∈l,x.ns.length<=1000000):
  ae 30 #[.int .i64 qE,v,va,.int .i64 k,.string tag] w λe w'=>∃v',e= .returned (.tuple #[v',.int .i64 (zlx b)])∧uT w' v' 2 xw (zqQ b (xg l at_ k tag))∧ak w w':=by
 cases b with
 | true=>
  refine(zo6 qE v l va at_ k tag w I N hl ha zY hb).m ?_;rintro e w' ⟨v',rfl,h1,h2⟩;exact⟨v',rfl,h1,h2⟩
 | false=>
  refine(zri qE v va at_ k tag w N ha hb).m ?_;rintro e w' ⟨rfl,rfl⟩;exact⟨_,rfl,zgJ _ _ _,ah _ _⟩
end
