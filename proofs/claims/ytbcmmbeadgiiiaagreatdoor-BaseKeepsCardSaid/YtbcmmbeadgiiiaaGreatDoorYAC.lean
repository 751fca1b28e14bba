import Derived.StillTail
import Derived.Deep.QuietTactic
set_option linter.all false
namespace Go.Proofs.YtbcmmbeadgiiiaaGreatDoor
set_option maxRecDepth 100000
set_option maxHeartbeats 16000000
variable{a:Act}{Z:Act->Prop}{K:Act->World->Prop}{Q:Exit->Act->World->Prop}{S:List Nat}{l rest:List Oper}{g i n:Nat}{oi:Oper}{v:Value}{w:World}
section
variable {P:Program}{ops:Array Oper}{md:Region.Mode}{C:World->Prop}
def I7(P:Program)(md:Region.Mode)(ops:Array Oper)(C:World->Prop)(n:Nat)(Z:Array Bool->Act->Prop):Nat->Array Bool->Act->Prop
 | 0,done,a=>Z done a
 | m+1,done,a=>Region.ready md ops done≠ []∧∀i,i∈Region.ready md ops done->i<n∧qOp P ops C i (I7 P md ops C n Z m (done.setIfInBounds i true)) a
def Lm{Z:Array Bool->Act->Prop}{Q':Exit->Act->World->Prop}(hZ:∀done a,Z done a->∀w,C w->wpAny P md ops Q' g done a w)(m:Nat):
  ∀(done:Array Bool) (a:Act),I7 P md ops C n Z m done a->∀w,C w->wpAny P md ops Q' (m+g) done a w:=by
 induction m with
 | zero=>
  intro done a h w hw;have:=hZ done a h w hw
  rwa [Nat.zero_add]
 | succ m ih=>
  intro done a h w hw;have e:m+1+g=(m+g)+1:=by omega
  rw[e];constructor
  ·intro h0;exact absurd h0 h.1
  intro i hi;exact wpOp_of_qOp hw (λa' w' hw' h'=>ih _ a' h' w' hw') (h.2 i hi).2
def zho{done:Array Bool}(hs:∀i,i<n->i∈S∨∃j,i<j∧j<=n∧Region.waitsFor md ops j i=true)(hc:Region.chainB md ops n=true)(inv:HeadInv md ops n done)
  (hS:∀i,i∈S->done.getD i false=true):∀(d i:Nat),n-i=d->i<n->done.getD i true=false->∀t,n<=t->t∉Region.ready md ops done:=by
 intro d
 induction d using Nat.strongRecOn with
 | _ d ih=>
  intro i hd hi hun t ht hr;obtain⟨_,ot,hot,vz⟩:=mem_ready.1 hr;have zzo:t<ops.size:=(Array.getElem?_eq_some_iff.1 hot).1;rcases Nat.decEq t n with htn|htn
  ·have h1:=List.all_eq_true.1 hc t (List.mem_range.2 zzo);simp only[Bool.or_eq_true,decide_eq_true_eq]at h1;rcases h1 with h1|h1
   ·omega
   obtain⟨o',ho',e,he,hb,hon⟩:=Region.waitsFor_spec h1;rw[hot]at ho';cases ho';have h2:=vz e he hb;rw[hon,getD_both (inv.tail (t-1) (by omega) (by omega))]at h2;exact absurd h2 (by simp)
  rcases hs i hi with hiS|⟨j,hij,hjn,hw⟩
  ·have:=hS i hiS;rw[getD_both hun]at this;exact absurd this (by simp)
  obtain⟨oj,Xd,e,he,hb,hon⟩:=Region.waitsFor_spec hw;rcases Nat.decEq j n with zwn|zwn
  ·have zzN:j<n:=by omega
   cases hl:done.getD j false with
   | true=>
    have h2:=inv.closed j oj Xd hl e he hb;rw[hon,getD_both hun]at h2;exact absurd h2 (by simp)
   | false=>
    have hjs:j<done.size:=by rw[inv.size];exact(Array.getElem?_eq_some_iff.1 Xd).1
    exact ih (n-j) (by omega) j rfl zzN (getD_in hjs hl) t ht hr
  rw[htn,<-zwn,Xd]at hot;cases hot;have h2:=vz e he hb;rw[hon,getD_both hun]at h2;exact absurd h2 (by simp)
def zcI{Z:Array Bool->Act->Prop}(hi:ops[i]? =some oi)(zY:Region.noSelect ops=true)
  (hs:∀i,i<n->i∈S∨∃j,i<j∧j<=n∧Region.waitsFor md ops j i=true) (hc:Region.chainB md ops n=true) (yh:i<n)
  (zlo:∀done a,Z done a->∀j,j∈Region.ready md ops done->n<=j) (m:Nat):
  ∀(done:Array Bool) (a:Act),HeadInv md ops n done->(∀i,i∈S->done.getD i false=true)->
   (∀j oj,ops[j]? =some oj->j≠i->done.getD j true=false->(∀e∈oj.after,Region.binds md e=true->e.on≠i)->oi.apart ops oj=true)->
   i∈Region.ready md ops done->YieldsIn P ops C oi v a->
   I7 P md ops C n Z m (done.setIfInBounds i true) (a.put oi.dst v)->I7 P md ops C n Z (m+1) done a:=by
 have MH:∀(done:Array Bool),HeadInv md ops n done->(∀i,i∈S->done.getD i false=true)->i∈Region.ready md ops done->∀j,j∈Region.ready md ops done->j<n:=by intro done inv hS hr j hj;apply Nat.lt_of_not_le;intro h;exact zho hs hc inv hS _ i rfl yh (mem_ready.1 hr).1 j h hj
 have Ip:∀(done:Array Bool),i∈Region.ready md ops done->Region.ready md ops done≠ []:=by intro done hr h0;rw[h0]at hr;exact absurd hr (by simp)
 induction m with
 | zero=>
  intro done a inv hS _ hr hy H;refine⟨Ip done hr,λj hj=>⟨MH done inv hS hr j hj,?_⟩⟩;rcases Nat.decEq j i with IG|IG
  ·have h1:=zlo _ _ H j (ready_mono hj IG);have h2:=MH done inv hS hr j hj;omega
  rw[IG];exact hy.qOp hi H
 | succ m ih=>
  intro done a inv hS Xj hr hy H;refine⟨Ip done hr,λj hj=>⟨MH done inv hS hr j hj,?_⟩⟩;rcases Nat.decEq j i with IG|IG
  ·have hjn:=MH done inv hS hr j hj;obtain⟨hju,oj,Xd,znY⟩:=mem_ready.1 hj;have hiu:=(mem_ready.1 hr).1;have ztQ:∀e∈oj.after,Region.binds md e=true->e.on≠i:=by
    intro e he hb heq;have:=znY e he hb;rw[heq,getD_both hiu]at this;exact absurd this (by simp)
   have wJ:=(H.2 j (ready_mono hj IG)).2;have Yx:=qOp_put Xd (Xj j oj Xd IG hju ztQ) (λcs b=>Region.noSelect_spec zY i oi cs b hi) (λcs b=>Region.noSelect_spec zY j oj cs b Xd) hy wJ;refine qOp_mono (λa' h3=> ?_) Yx;refine ih _ a' (inv.set hj hjn) (λk hk=>getD_set_true (hS k hk)) ?_ (ready_mono hr (λe=>IG e.symm)) h3.1 ?_
   ·intro k ok zN hki hku znX;refine Xj k ok zN hki ?_ znX;rcases Nat.decEq j k with YT|YT
    ·rwa [getD_set_ne true YT]at hku
    rw[<-YT];exact hju
   ·rw[Array.setIfInBounds_comm _ _ IG];exact h3.2
  rw[IG];exact hy.qOp hi H
def qC(ops:Array Oper):List Nat->List Oper
 | []=> []
 | i::r=>match ops[i]? with
  | some o=>o::qC ops r
  | none=>qC ops r
def zen(md:Region.Mode)(ops:Array Oper)(n:Nat):List Nat->Array Bool->Bool
 | [],done=>Region.seqB md ops (ops.size-n) n done
 | i::r,done=>decide (i<n)&&(Region.ready md ops done).contains i&&Region.free md ops done i&&zen md ops n r (done.setIfInBounds i true)
def I9(md:Region.Mode)(ops:Array Oper):List Nat->Array Bool->Bool
 | [],_=>true
 | i::r,done=>(Region.ready md ops done).contains i&&Region.free md ops done i&&I9 md ops r (done.setIfInBounds i true)
def marked(S:List Nat)(done:Array Bool):Array Bool:=S.foldl (λd i=>d.setIfInBounds i true) done
def zx1(md:Region.Mode)(ops:Array Oper)(n:Nat)(S:List Nat):Bool:=
 (List.range n).all λi=>S.contains i||(List.range (n+1)).any λj=>decide (i<j)&&Region.waitsFor md ops j i
def H8(n:Nat)(S:List Nat):List Nat:=(List.range n).filter λi=> !S.contains i
def znM(md:Region.Mode)(ops:Array Oper)(n:Nat)(S:List Nat):Bool:=
 Region.noSelect ops&&decide (n<ops.size)&&S.all (λi=>decide (i<n))&&zx1 md ops n S&&Region.chainB md ops n&&I9 md ops S (Array.replicate ops.size false)&&
  zen md ops n (H8 n S) (marked S (Array.replicate ops.size false))&&decide (S.length+(H8 n S).length=n)
def zic(zY:Region.noSelect ops=true)(hs:∀i,i<n->i∈S∨∃j,i<j∧j<=n∧Region.waitsFor md ops j i=true)(hc:Region.chainB md ops n=true)
  (l:List Nat):∀(done:Array Bool) (a:Act),HeadInv md ops n done->(∀i,i∈S->done.getD i false=true)->zen md ops n l done=true->wpQuiet P ops C Z (qC ops l) a->
  I7 P md ops C n (λzgf a'=>Region.seqB md ops (ops.size-n) n zgf=true∧Z a') l.length done a:=by
 induction l with
 | nil=>
  intro done a _ _ hB h;exact⟨hB,h⟩
 | cons i l ih=>
  intro done a inv hS hB h;simp only[zen,Bool.and_eq_true,decide_eq_true_eq]at hB;obtain⟨⟨⟨yh,hr⟩,hf⟩,Ry⟩:=hB;have Yy:i∈Region.ready md ops done:=by simpa using hr
  obtain⟨_,o,h0,_⟩:=mem_ready.1 Yy;simp only[qC,h0]at h;have hq:qOp P ops C i (wpQuiet P ops C Z (qC ops l)) a:=by unfold qOp;simp only[h0];exact h
  obtain⟨v,hy,hK⟩:=yieldsIn_of_qOp h0 hq;refine zcI h0 zY hs hc yh (λzgf a' hz=>seqB_ready hz.1) l.length done a inv hS (Region.free_spec h0 hf) Yy hy ?_;exact ih _ _ (inv.set Yy yh) (λk hk=>getD_set_true (hS k hk)) Ry hK
def wL(P:Program)(ops:Array Oper)(Z:Act->Prop):List Oper->Act->Prop
 | [],a=>Z a
 | o::rest,a=>if Region.wanted o (yielded ops a.tmps)then∃v,(∀w,(execOp a.eval o).run P w= .ok (.value v) w)∧wL P ops Z rest (a.put o.dst v)else wL P ops Z rest (a.put o.dst undef)
def yf(h:Z a):wL P ops Z [] a:=h
def xy{o:Oper}
  (h:∀K:Act->Prop,(∀a,wL P ops Z rest a->K a)->if Region.wanted o (yielded ops a.tmps)then∃v,(∀w,(execOp a.eval o).run P w= .ok (.value v) w)∧K (a.put o.dst v)else K (a.put o.dst undef)):wL P ops Z (o::rest) a:=
 h _ (λ_ h=>h)
def Pz(zY:Region.noSelect ops=true)(hQ:∀c (a:Act) d v w,Q (.panic c) (a.put d v) w->Q (.panic c) a w)(S:List Nat):
  ∀(done:Array Bool) (a:Act),I9 md ops S done=true->wL P ops (λa'=>wpAny P md ops Q g (marked S done) a' w) (qC ops S) a->wpAny P md ops Q (S.length+g) done a w:=by
 induction S with
 | nil=>
  intro done a _ h
  simpa [qC,wL,marked]using h
 | cons i S ih=>
  intro done a hB h;simp only[I9,Bool.and_eq_true]at hB;obtain⟨⟨hr,hf⟩,Ry⟩:=hB;have Yy:i∈Region.ready md ops done:=by simpa using hr
  obtain⟨_,o,h0,_⟩:=mem_ready.1 Yy;simp only[qC,h0]at h;have e:(i::S).length+g=(S.length+g)+1:=by simp only[List.length_cons];omega
  rw[e];unfold wL at h;by_cases hw:Region.wanted o (yielded ops a.tmps)=true
  ·simp only[hw,if_true]at h;obtain⟨v,hv,hK⟩:=h;exact wpAny_take h0 zY hf hr (λc a' w' hq=>hQ c a' _ _ w' hq) (.inl ⟨hw,hv⟩) (ih _ _ Ry hK)
  simp only[hw,Bool.false_eq_true,if_false]at h;exact wpAny_take h0 zY hf hr (λc a' w' hq=>hQ c a' _ _ w' hq) (.inr ⟨by simpa using hw,rfl⟩) (ih _ _ Ry h)
def zjV(S:List Nat):∀(done:Array Bool) (i:Nat),done.getD i false=true->(marked S done).getD i false=true:=by
 induction S with
 | nil=>intro done i h;exact h
 | cons k S ih=>intro done i h;exact ih _ i (getD_set_true h)
def zjT(S:List Nat):∀(done:Array Bool) (i:Nat),i∈S->i<done.size->(marked S done).getD i false=true:=by
 induction S with
 | nil=>intro done i h;exact absurd h (by simp)
 | cons k S ih=>
  intro done i h rE;rcases List.mem_cons.1 h with rfl|h
  ·exact zjV S _ _ (by simp[rE])
  exact ih _ i h (by simpa using rE)
def zjU(S:List Nat):∀(done:Array Bool),HeadInv md ops n done->I9 md ops S done=true->(∀i,i∈S->i<n)->HeadInv md ops n (marked S done):=by
 induction S with
 | nil=>intro done inv _ _;exact inv
 | cons k S ih=>
  intro done inv hB hn;simp only[I9,Bool.and_eq_true]at hB;exact ih _ (inv.set (by simpa using hB.1.1) (hn k (by simp))) hB.2 (λi hi=>hn i (by simp[hi]))
def zcf{id:Nat}(C:World->Prop)(n:Nat)(S:List Nat)(hm:P.follows .mixedOrders=true)(hB:znM .any l.toArray n S=true)
  (hQ:∀c (a:Act) d v w,Q (.panic c) (a.put d v) w->Q (.panic c) a w) (hC:C { w with drawn:=w.drawn+1 })
  (h:wL P l.toArray (wpQuiet P l.toArray C (λa'=>∀w',C w'->wpList P l.toArray Q (l.drop n) a' w') (qC l.toArray (H8 n S))) (qC l.toArray S) a):(Code.region id l.toArray true).wp P Q a w:=by
 simp only[znM,Bool.and_eq_true,decide_eq_true_eq]at hB;obtain⟨⟨⟨⟨⟨⟨⟨zY,hn⟩,hSn⟩,zyl⟩,hc⟩,he⟩,zN⟩,hlen⟩:=hB;have hn':n<l.length:=by simpa using hn
 have zwN:∀i,i∈S->i<n:=λi hi=>by simpa using List.all_eq_true.1 hSn i hi
 have hs:∀i,i<n->i∈S∨∃j,i<j∧j<=n∧Region.waitsFor .any l.toArray j i=true:=by
  intro i hi;have h1:=List.all_eq_true.1 zyl i (List.mem_range.2 hi);simp only[Bool.or_eq_true]at h1;rcases h1 with h1|h1
  ·exact .inl (by simpa using h1)
  obtain⟨j,hj,Tv⟩:=List.any_eq_true.1 h1;simp only[Bool.and_eq_true,decide_eq_true_eq]at Tv;have:=List.mem_range.1 hj;exact .inr ⟨j,Tv.1,by omega,Tv.2⟩
 have ztm:HeadInv .any l.toArray n (Array.replicate l.toArray.size false):=by
  refine⟨by simp,?_,?_⟩
  ·intro j oj _ hl;rw[getD_replicate_false]at hl;exact absurd hl (by simp)
  intro t _ ht;exact getD_in (by simpa using ht) (getD_replicate_false _ _)
 have inv1:=zjU S _ ztm he zwN;have hS1:∀i,i∈S->(marked S (Array.replicate l.toArray.size false)).getD i false=true:=λi hi=>zjT S _ i hi (by have:=zwN i hi;simp;omega);have hdl:(l.drop n).length=l.toArray.size-n:=by simp
 refine wp_region_any hm ?_;have T:wpAny P .any l.toArray Q (S.length+((H8 n S).length+(l.toArray.size-n))) (Array.replicate l.toArray.size false) a { w with drawn:=w.drawn+1 } :=by
  refine Pz zY hQ S _ a he ?_;have mono:∀(L:List Oper) (Z Z':Act->Prop) (a:Act),(∀a,Z a->Z' a)->wL P l.toArray Z L a->wL P l.toArray Z' L a:=by
   intro L Z Z'
   induction L with
   | nil=>intro a hz h;exact hz a h
   | cons o L ih=>
    intro a hz h;unfold wL at h⊢;split
    ·rename_i hw;simp only[hw,if_true]at h;obtain⟨v,hv,hk⟩:=h;exact⟨v,hv,ih _ hz hk⟩
    rename_i hw;simp only[hw]at h;exact ih _ hz h
  refine mono _ _ _ _ (λa' h'=> ?_) h;have H:=zic (md:= .any) zY hs hc (H8 n S) _ a' inv1 hS1 zN h';exact Lm (Q':=Q) (g:=l.toArray.size-n) (λdone a' hz w' hw'=>by
   have:=wpAny_of_seq (md:= .any) (Q':=Q) (l.drop n) n done a' w' (λj=>by simp[List.getElem?_drop]) (by rw[hdl];exact hz.1) (hz.2 w' hw')
   rwa [hdl]at this) _ _ _ H _ hC
 rw[<-Nat.add_assoc,hlen,show n+(l.toArray.size-n)=l.toArray.size by omega]at T;exact T
def zbP{Z:Array Bool->Act->Prop}(hi:ops[i]? =some oi)(zY:Region.noSelect ops=true)
  (hs:Region.sinkB md ops n=true) (hc:Region.chainB md ops n=true) (hn:n<ops.size) (yh:i<n)
  (zlo:∀done a,Z done a->∀j,j∈Region.ready md ops done->n<=j) (m:Nat):
  ∀(done:Array Bool) (a:Act),HeadInv md ops n done->
   (∀j oj,ops[j]? =some oj->j≠i->done.getD j true=false->(∀e∈oj.after,Region.binds md e=true->e.on≠i)->oi.apart ops oj=true)->
   i∈Region.ready md ops done->YieldsIn P ops C oi v a->
   I7 P md ops C n Z m (done.setIfInBounds i true) (a.put oi.dst v)->I7 P md ops C n Z (m+1) done a:=by
 have MH:∀(done:Array Bool),HeadInv md ops n done->i∈Region.ready md ops done->∀j,j∈Region.ready md ops done->j<n:=by intro done inv hr j hj;apply Nat.lt_of_not_le;intro h;exact tail_waits hs hc hn inv _ i rfl yh (mem_ready.1 hr).1 j h hj
 have Ip:∀(done:Array Bool),i∈Region.ready md ops done->Region.ready md ops done≠ []:=by intro done hr h0;rw[h0]at hr;exact absurd hr (by simp)
 induction m with
 | zero=>
  intro done a inv _ hr hy H;refine⟨Ip done hr,λj hj=>⟨MH done inv hr j hj,?_⟩⟩;rcases Nat.decEq j i with IG|IG
  ·have h1:=zlo _ _ H j (ready_mono hj IG);have h2:=MH done inv hr j hj;omega
  rw[IG];exact hy.qOp hi H
 | succ m ih=>
  intro done a inv Xj hr hy H;refine⟨Ip done hr,λj hj=>⟨MH done inv hr j hj,?_⟩⟩;rcases Nat.decEq j i with IG|IG
  ·have hjn:=MH done inv hr j hj;obtain⟨hju,oj,Xd,znY⟩:=mem_ready.1 hj;have hiu:=(mem_ready.1 hr).1;have ztQ:∀e∈oj.after,Region.binds md e=true->e.on≠i:=by
    intro e he hb heq;have:=znY e he hb;rw[heq,getD_both hiu]at this;exact absurd this (by simp)
   have wJ:=(H.2 j (ready_mono hj IG)).2;have Yx:=qOp_put Xd (Xj j oj Xd IG hju ztQ) (λcs b=>Region.noSelect_spec zY i oi cs b hi) (λcs b=>Region.noSelect_spec zY j oj cs b Xd) hy wJ;refine qOp_mono (λa' h3=> ?_) Yx;refine ih _ a' (inv.set hj hjn) ?_ (ready_mono hr (λe=>IG e.symm)) h3.1 ?_
   ·intro k ok zN hki hku znX;refine Xj k ok zN hki ?_ znX;rcases Nat.decEq j k with YT|YT
    ·rwa [getD_set_ne true YT]at hku
    rw[<-YT];exact hju
   ·rw[Array.setIfInBounds_comm _ _ IG];exact h3.2
  rw[IG];exact hy.qOp hi H
def zfk(zY:Region.noSelect ops=true)(hs:Region.sinkB md ops n=true)(hc:Region.chainB md ops n=true)(hn:n<ops.size)
  (l:List Oper):∀(k:Nat) (done:Array Bool) (a:Act),(∀j,j<l.length->l[j]? =ops[k+j]?)->k+l.length=n->HeadInv md ops n done->
  Region.lexHead md ops g l.length k done=true->wpQuiet P ops C Z l a->
  I7 P md ops C n (λzgf a'=>Region.seqB md ops g n zgf=true∧Z a') l.length done a:=by
 induction l with
 | nil=>
  intro k done a _ hk _ hB h;have e:k=n:=by simpa using hk
  rw[e]at hB;exact⟨by simpa [Region.lexHead]using hB,h⟩
 | cons o l ih=>
  intro k done a hl hk inv hB h;have h0:ops[k]? =some o:=by simpa using(hl 0 (by simp)).symm
  simp only[List.length_cons,Region.lexHead,Bool.and_eq_true]at hB;simp only[List.length_cons]at hk;have hr:k∈Region.ready md ops done:=by simpa using hB.1.1
  have hq:qOp P ops C k (wpQuiet P ops C Z l) a:=by unfold qOp;simp only[h0];exact h
  obtain⟨v,hy,hK⟩:=yieldsIn_of_qOp h0 hq;refine zbP h0 zY hs hc hn (by omega) (λzgf a' hz=>seqB_ready hz.1) l.length done a inv (Region.free_spec h0 hB.1.2) hr hy ?_;refine ih (k+1) _ _ ?_ (by omega) (inv.set hr (by omega)) hB.2 hK;intro j hj;have:=hl (j+1) (by simp;omega)
  simpa [Nat.add_assoc,Nat.add_comm 1 j]using this
def UA{id:Nat}(C:World->Prop)(n:Nat)(hm:P.follows .mixedOrders=true)(hB:Region.lexTailB .any l.toArray n=true)
  (hC:C { w with drawn:=w.drawn+1 })
  (h:wpQuiet P l.toArray C (λa'=>∀w',C w'->wpList P l.toArray Q (l.drop n) a' w') (l.take n) a):(Code.region id l.toArray true).wp P Q a w:=by
 simp only[Region.lexTailB,Bool.and_eq_true,decide_eq_true_eq]at hB;obtain⟨⟨⟨⟨zY,hn⟩,hs⟩,hc⟩,zzL⟩:=hB;have hn':n<l.length:=by simpa using hn
 have NQ:(l.take n).length=n:=by rw[List.length_take];omega
 have hdl:(l.drop n).length=l.toArray.size-n:=by simp
 have ztm:HeadInv .any l.toArray n (Array.replicate l.toArray.size false):=by
  refine⟨by simp,?_,?_⟩
  ·intro j oj _ hl;rw[getD_replicate_false]at hl;exact absurd hl (by simp)
  intro t _ ht;exact getD_in (by simpa using ht) (getD_replicate_false _ _)
 have H:=zfk (md:= .any) (g:=l.toArray.size-n) zY hs hc hn (l.take n) 0 _ a
  (λj hj=>by rw[NQ]at hj;simp[hj]) (by simpa using NQ) ztm (by rw[NQ];exact zzL) h
 refine wp_region_any hm ?_;have T:=Lm (Q':=Q) (g:=l.toArray.size-n) (λdone a' hz w' hw'=>by
  have:=wpAny_of_seq (md:= .any) (Q':=Q) (l.drop n) n done a' w' (λj=>by simp[List.getElem?_drop]) (by rw[hdl];exact hz.1) (hz.2 w' hw')
  rwa [hdl]at this) _ _ _ H _ hC
 rw[NQ,show n+(l.toArray.size-n)=l.toArray.size by omega]at T;exact T
def Xw{id:Nat}(C:World->Prop)(hm:P.follows .mixedOrders=true)(hB:Region.lexB .any l.toArray=true)
  (hC:C { w with drawn:=w.drawn+1 })
  (h:wpQuiet P l.toArray C (λa'=>∀w',C w'->Q .normal a' w') l a):(Code.region id l.toArray true).wp P Q a w:=
 wp_region_quiet (C:=C) hm hB hC (by simpa using h)
def yG{id:Nat}(n:Nat)(S:List Nat)(hm:P.follows .mixedOrders=true)(hB:znM .any l.toArray n S=true)
  (hQ:∀c (a:Act) d v w,Q (.panic c) (a.put d v) w->Q (.panic c) a w)
  (h:wL P l.toArray (wpQuiet P l.toArray (λw'=>∃m,w'=w.drewN m) (λa'=>∀m,wpList P l.toArray Q (l.drop n) a' (w.drewN m)) (qC l.toArray (H8 n S))) (qC l.toArray S) a):(Code.region id l.toArray true).wp P Q a w:=by
 refine zcf (λw'=>∃m,w'=w.drewN m) n S hm hB hQ ⟨1,rfl⟩ ?_
 have:(λa'=>∀w',(∃m,w'=w.drewN m)->wpList P l.toArray Q (l.drop n) a' w')=(λa'=>∀m,wpList P l.toArray Q (l.drop n) a' (w.drewN m)):=by funext a';exact propext ⟨λh m=>h _ ⟨m,rfl⟩,λh w' ⟨m,e⟩=>e▸h m⟩
 rwa [this]
def qV{id:Nat}(n:Nat)(hm:P.follows .mixedOrders=true)(hB:Region.lexTailB .any l.toArray n=true)
  (h:wpQuiet P l.toArray (λw'=>∃m,w'=w.drewN m) (λa'=>∀m,wpList P l.toArray Q (l.drop n) a' (w.drewN m)) (l.take n) a):(Code.region id l.toArray true).wp P Q a w:=by
 refine UA (λw'=>∃m,w'=w.drewN m) n hm hB ⟨1,rfl⟩ ?_
 have:(λa'=>∀w',(∃m,w'=w.drewN m)->wpList P l.toArray Q (l.drop n) a' w')=(λa'=>∀m,wpList P l.toArray Q (l.drop n) a' (w.drewN m)):=by funext a';exact propext ⟨λh m=>h _ ⟨m,rfl⟩,λh w' ⟨m,e⟩=>e▸h m⟩
 rwa [this]
end
section
variable {P:Program}{md:Region.Mode}{ops:Array Oper}
def zk8(md:Region.Mode)(ops:Array Oper):List Nat->Array Bool->Bool
 | [],done=>(Region.ready md ops done).isEmpty
 | i::r,done=>decide (Region.ready md ops done= [i])&&zk8 md ops r (done.setIfInBounds i true)
def NH :∀(R:List Nat) (done:Array Bool) (a:Act) (w:World),zk8 md ops R done=true->wpList P ops Q (qC ops R) a w->wpAny P md ops Q R.length done a w
 | [],_,_,_,hB,h=>⟨by simpa [zk8]using hB,h⟩
 | i::R,done,a,w,hB,h=>by
  simp only[zk8,Bool.and_eq_true,decide_eq_true_eq]at hB;have hi:i∈Region.ready md ops done:=by rw[hB.1];simp
  obtain⟨_,o,h0,_⟩:=mem_ready.1 hi;simp only[qC,h0]at h;refine⟨λh1=>(by rw[hB.1]at h1;cases h1),λj hj=> ?_⟩;rw[hB.1]at hj;have IG:j=i:=by simpa using hj
  subst IG;have hw:wpOp P ops Q j (wpList P ops Q (qC ops R)) a w:=by unfold wpOp;simp only[h0];exact h
  exact wpOp_mono (λa' w' h'=>NH R _ a' w' hB.2 h') hw
def erB(md:Region.Mode)(ops:Array Oper)(S R:List Nat):Bool:=
 Region.noSelect ops&&I9 md ops S (Array.replicate ops.size false)&&zk8 md ops R (marked S (Array.replicate ops.size false))&&decide (S.length+R.length=ops.size)
def UB{id:Nat}(S R:List Nat)(hm:P.follows .mixedOrders=true)(hB:erB .any l.toArray S R=true)
  (hQ:∀c (a:Act) d v w,Q (.panic c) (a.put d v) w->Q (.panic c) a w)
  (h:wL P l.toArray (λa'=>wpList P l.toArray Q (qC l.toArray R) a' w.drew) (qC l.toArray S) a):(Code.region id l.toArray true).wp P Q a w:=by
 simp only[erB,Bool.and_eq_true,decide_eq_true_eq]at hB;obtain⟨⟨⟨zY,he⟩,hr⟩,hl⟩:=hB;refine wp_region_any hm ?_;have mono:∀(L:List Oper) (Z Z':Act->Prop) (a:Act),(∀a,Z a->Z' a)->wL P l.toArray Z L a->wL P l.toArray Z' L a:=by
  intro L
  induction L with
  | nil=>intro Z Z' a hz h;exact hz a h
  | cons o L ih=>
   intro Z Z' a hz h;unfold wL at h⊢;split at h
   ·rename_i hw;rw[if_pos hw];obtain⟨v,hv,hk⟩:=h;exact⟨v,hv,ih Z Z' _ hz hk⟩
   rename_i hw;rw[if_neg hw];exact ih Z Z' _ hz h
 have H:=Pz (md:= .any) (P:=P) (ops:=l.toArray) (Q:=Q) (w:=w.drew) zY hQ (g:=R.length) S (Array.replicate l.toArray.size false) a he (mono _ _ _ a (λa' h'=>NH R _ a' _ hr h') h);rw[hl]at H;exact H
end
section
variable {P:Program}{ops:Array Oper}{md:Region.Mode}{C:World->Prop}{Q:Exit->Act->World->Prop}
def CE(P:Program)(ops:Array Oper)(C:World->Prop)(o:Oper)(v:Value)(a:Act):Prop:=
 (Region.wanted o (yielded ops a.tmps)=true∧∀w,C w->(execOp a.eval o).run P w= .ok (.value v) w)∨(Region.wanted o (yielded ops a.tmps)=false∧v=undef)
def CE.of_same{o:Oper}{a':Act}(hy:CE P ops C o v a)(he:execOp a'.eval o=execOp a.eval o)
  (hw:Region.wanted o (yielded ops a'.tmps)=Region.wanted o (yielded ops a.tmps)):CE P ops C o v a':=by
 unfold CE at*;rw[he,hw];exact hy
def CE.wpOp{o:Oper}(hy:CE P ops C o v a)(hi:ops[i]? =some o)(hC:C w)(h:K (a.put o.dst v) w):Go.wpOp P ops Q i K a w:=by
 unfold Go.wpOp;simp only[hi];rcases hy with⟨hw,hv⟩|⟨hw,rfl⟩
 ·simp only[hw,if_true,Oper.wp,hv w hC,Oper.upon];exact .inl h
 simp only[hw,Bool.false_eq_true,if_false];exact h
def zc5{j:Nat}{oj:Oper}(hj:ops[j]? =some oj)(Xj:oi.apart ops oj=true)
  (hsi:∀cs b,oi.op≠ .select cs b) (hsj:∀cs b,oj.op≠ .select cs b)
  (hQ:∀c a w,Q (.panic c) (a.put oi.dst v) w->Q (.panic c) a w)
  (hy:CE P ops C oi v a) (h:wpOp P ops Q j K (a.put oi.dst v) w):
  wpOp P ops Q j (λa' w'=>CE P ops C oi v a'∧K (a'.put oi.dst v) w') a w:=by
 obtain⟨h1,h2,h3⟩:=Oper.apart_spec Xj;have qm:∀(a:Act),CE P ops C oi v a->∀u,CE P ops C oi v (a.put oj.dst u):=λa hy u=>
  hy.of_same (execOp_put oi hsi a oj.dst u h3) (wanted_put oi a oj.dst u h3)
 have zyc:∀d,CE P ops C oi v { a with defers:=d::a.defers } :=λd=>hy.of_same rfl rfl;unfold wpOp at*;simp only[hj]at*;rw[wanted_put oj a oi.dst v h1]at h;split
 ·rename_i hw;simp only[hw,if_true]at h;rcases h with h|⟨zsN,zyt⟩
  case inr=>exact .inr ⟨by unfold Oper.asks at*;rw[execOp_put oj hsj a oi.dst v h1]at zsN;exact zsN,zyt⟩
  refine .inl ?_;unfold Oper.wp at*;rw[execOp_put oj hsj a oi.dst v h1]at h;generalize (execOp a.eval oj).run P w=r at*;cases r with
  | ok n w'=>
   cases n<;>simp only[Oper.upon]at h⊢
   case value u=>exact⟨qm a hy u,by rw[<-Act.put_comm a v u h2];exact h⟩
   case skip=>exact⟨qm a hy _,by rw[<-Act.put_comm a v undef h2];exact h⟩
   case defer d=>
    refine⟨qm _ (zyc d) _,?_⟩;rw[<-Act.put_comm _ v undef h2,<-Act.put_defers];exact h
   case enter f args=>
    refine Calls.mono h λe w'' he=> ?_;cases e with
    | returned u=>exact⟨qm a hy u,by rw[<-Act.put_comm a v u h2];exact he⟩
    | panicked c=>exact hQ _ _ _ he
    | outgrown=>exact he
   case row row args=>exact Rows.mono h λu w'' he=>⟨qm a hy u,by rw[<-Act.put_comm a v u h2];exact he⟩
  | halt x w'=>
   cases x<;>simp only[Oper.upon]at h⊢
   case panic u=>exact hQ _ _ _ h
 ·rename_i hw;simp only[hw]at h;exact⟨qm a hy _,by rw[<-Act.put_comm a v undef h2];exact h⟩
def Dl{o:Oper}(ho:ops[i]? =some o)(h:wpList P ops (Exit.then K Q) (qC ops [i]) a w):wpOp P ops Q i K a w:=by
 unfold wpOp;simp only[qC,ho,wpList]at h⊢;split
 ·rename_i hw;rw[if_pos hw]at h;rcases h with h|⟨h1,h2⟩
  ·left;unfold Oper.wp at*;generalize (execOp a.eval o).run P w=r at*;cases r with
   | ok n w'=>
    cases n<;>simp only[Oper.upon]at h⊢ <;>first|exact h|(refine Calls.mono h λe w'' he=> ?_;cases e<;>first|exact he|(obtain⟨a2,w2,h3⟩:=he;exact⟨a2,w2,h3⟩))
   | halt x w'=>cases x<;>simp only[Oper.upon]at h⊢;exact h
  right;obtain⟨a2,w2,h3⟩:=h2;exact⟨h1,a2,w2,h3⟩
 rename_i hw;rw[if_neg hw]at h;exact h
def O4(P:Program)(md:Region.Mode)(ops:Array Oper)(C:World->Prop)(Q:Exit->Act->World->Prop):Nat->Array Bool->Act->World->Prop
 | 0,listed,a,w=>(∀j,j<ops.size->listed.getD j false=true)∧Q .normal a w
 | fuel+1,listed,a,w=>C w∧(Region.ready md ops listed= []->Q .normal a w)∧
  ∀i∈Region.ready md ops listed,wpOp P ops Q i (O4 P md ops C Q fuel (listed.setIfInBounds i true)) a w
def MX:∀(fuel:Nat) (listed:Array Bool) (a:Act) (w:World),O4 P md ops C Q fuel listed a w->wpAny P md ops Q fuel listed a w
 | 0,listed,a,w,h=>by
  refine⟨?_,h.2⟩;cases hr:Region.ready md ops listed with
  | nil=>rfl
  | cons j r=>
   have hj:j∈Region.ready md ops listed:=by rw[hr];exact List.mem_cons_self
   obtain⟨h0,o,ho,_⟩:=mem_ready.1 hj;have h1:=h.1 j (Array.getElem?_eq_some_iff.1 ho).1;rw[getD_both h0]at h1;cases h1
 | fuel+1,listed,a,w,h=>⟨h.2.1,λi hi=>wpOp_mono (λa' w' h'=>MX fuel _ a' w' h') (h.2.2 i hi)⟩
def Z8(md:Region.Mode)(ops:Array Oper)(listed:Array Bool)(i:Nat):Prop:=∃j oj,ops[j]? =some oj∧j≠i∧listed.getD j true=false∧∃e∈oj.after,Region.binds md e=true∧e.on=i
def CP(hi:ops[i]? =some oi)(znf:∀(j:Nat) (o:Oper) cs b,ops[j]? =some o->o.op≠ .select cs b)
  (hQ:∀c a w,Q (.panic c) (a.put oi.dst v) w->Q (.panic c) a w):
  ∀(fuel:Nat) (listed:Array Bool) (a:Act) (w:World),
   (∀j oj,ops[j]? =some oj->j≠i->listed.getD j true=false->(∀e∈oj.after,Region.binds md e=true->e.on≠i)->oi.apart ops oj=true)->
   i∈Region.ready md ops listed->Z8 md ops listed i->CE P ops C oi v a->
   O4 P md ops C Q fuel (listed.setIfInBounds i true) (a.put oi.dst v) w->O4 P md ops C Q (fuel+1) listed a w:=by
 intro fuel
 induction fuel with
 | zero=>
  intro listed a w _ hr haw hy H;obtain⟨j,oj,Xd,IG,hun,_⟩:=haw;have h1:=H.1 j (Array.getElem?_eq_some_iff.1 Xd).1;rw[getD_set_ne false (λe=>IG e.symm),getD_both hun]at h1;cases h1
 | succ fuel ih=>
  intro listed a w zf9 hr haw hy H;refine⟨H.1,λh=>(by rw[h]at hr;cases hr),λj hj=> ?_⟩;by_cases IG:j=i
  ·subst IG;exact hy.wpOp hi H.1 H
  have h1:=H.2.2 j (ready_mono hj IG);obtain⟨zni,oj,Xd,vz⟩:=mem_ready.1 hj;have zlj:∀e∈oj.after,Region.binds md e=true->e.on≠i:=λe he hb heq=>by
   have h1:=vz e he hb;have h0:=(mem_ready.1 hr).1;rw[heq,getD_both h0]at h1;cases h1
  have h2:=zc5 Xd (zf9 j oj Xd IG zni zlj) (λcs b=>znf i oi cs b hi) (λcs b=>znf j oj cs b Xd) hQ hy h1;have zi7:∀k ok,ops[k]? =some ok->k≠i->(listed.setIfInBounds j true).getD k true=false->
    (∀e∈ok.after,Region.binds md e=true->e.on≠i)->oi.apart ops ok=true:=λk ok hk hki hun Dv=>by
   refine zf9 k ok hk hki ?_ Dv;by_cases YT:j=k
   ·subst YT;exact zni
   ·rw[getD_set_ne true YT]at hun;exact hun
  have zt0:Z8 md ops (listed.setIfInBounds j true) i:=by
   obtain⟨k,ok,zN,hki,hun,e,he,hb,hon⟩:=haw;refine⟨k,ok,zN,hki,?_,e,he,hb,hon⟩;have YT:j≠k:=λejk=>by subst ejk;rw[Xd]at zN;cases zN;exact zlj e he hb hon
   rw[getD_set_ne true YT];exact hun
  refine wpOp_mono (λa' w' h3=>ih (listed.setIfInBounds j true) a' w' zi7 (ready_mono hr (Ne.symm IG)) zt0 h3.1 ?_) h2;rw[Array.setIfInBounds_comm _ _ IG];exact h3.2
def Qw(md:Region.Mode)(ops:Array Oper)(listed:Array Bool)(i:Nat):Bool:=
 (List.range ops.size).any λj=>decide (j≠i)&& !listed.getD j true&&(match ops[j]? with|some oj=>oj.after.any (λe=>Region.binds md e&&decide (e.on=i))|none=>false)
def AQ{listed:Array Bool}(h:Qw md ops listed i=true):Z8 md ops listed i:=by
 obtain⟨j,_,hj⟩:=List.any_eq_true.1 h;simp only[Bool.and_eq_true,decide_eq_true_eq,Bool.not_eq_true']at hj;obtain⟨⟨h1,h2⟩,h3⟩:=hj;cases ho:ops[j]? with
 | none=>rw[ho]at h3;cases h3
 | some oj=>
  rw[ho]at h3;obtain⟨e,he,hb⟩:=Array.any_eq_true'.1 h3;simp only[Bool.and_eq_true,decide_eq_true_eq]at hb;exact⟨j,oj,ho,h1,h2,e,he,hb.1,hb.2⟩
def VF(md:Region.Mode)(ops:Array Oper)(R:List Nat):List Nat->Array Bool->Bool
 | [],done=>zel R done
 | i::r,done=>(Region.ready md ops done).contains i&&Region.free md ops done i&&Qw md ops done i&&VF md ops R r (done.setIfInBounds i true)
where zel:List Nat->Array Bool->Bool
 | [],done=>(List.range ops.size).all λj=>done.getD j false
 | i::r,done=>decide (Region.ready md ops done= [i])&&zel r (done.setIfInBounds i true)
structure wE(C:World->Prop) where
 w:World
 h:C w
def vY(P:Program)(ops:Array Oper)(C:World->Prop)(Z:Act->Prop):List Oper->Act->Prop
 | [],a=>Z a
 | o::rest,a=>if Region.wanted o (yielded ops a.tmps)then∃v,(∀x:wE C,(execOp a.eval o).run P x.w= .ok (.value v) x.w)∧vY P ops C Z rest (a.put o.dst v)else vY P ops C Z rest (a.put o.dst undef)
def tY(h:Z a):vY P ops C Z [] a:=h
def Dn{o:Oper}
  (h:∀K:Act->Prop,(∀a,vY P ops C Z rest a->K a)->if Region.wanted o (yielded ops a.tmps)then∃v,(∀x:wE C,(execOp a.eval o).run P x.w= .ok (.value v) x.w)∧K (a.put o.dst v)else K (a.put o.dst undef)):vY P ops C Z (o::rest) a:=
 h _ (λ_ h=>h)
def qp{o:Oper}
  (h:∀K:Act->Prop,(∀a,Z a->K a)->if Region.wanted o (yielded ops a.tmps)then∃v,(∀x:wE C,(execOp a.eval o).run P x.w= .ok (.value v) x.w)∧K (a.put o.dst v)else K (a.put o.dst undef)):vY P ops C Z [o] a:=
 h _ (λ_ h=>h)
def MF(P:Program)(ops:Array Oper)(C:World->Prop)(Q:Exit->Act->World->Prop):List Nat->Act->World->Prop
 | [],a,w=>Q .normal a w
 | i::r,a,w=>C w∧wpList P ops (Exit.then (MF P ops C Q r) Q) (qC ops [i]) a w
def Q5:∀(R:List Nat) (done:Array Bool) (a:Act) (w:World),VF.zel md ops R done=true->MF P ops C Q R a w->O4 P md ops C Q R.length done a w
 | [],done,a,w,hB,h=>⟨λj hj=>List.all_eq_true.1 hB j (List.mem_range.2 hj),h⟩
 | i::r,done,a,w,hB,h=>by simp only[VF.zel,Bool.and_eq_true,decide_eq_true_eq]at hB;refine⟨h.1,λh0=>(by rw[hB.1]at h0;cases h0),λj hj=> ?_⟩;obtain⟨_,o,ho,_⟩:=mem_ready.1 hj;rw[hB.1,List.mem_singleton]at hj;subst hj;exact wpOp_mono (λa' w' h'=>Q5 r _ a' w' hB.2 h') (Dl ho h.2)
def NI(zY:Region.noSelect ops=true)(hQ:∀c (a:Act) d v w,Q (.panic c) (a.put d v) w->Q (.panic c) a w)(R:List Nat):
  ∀(S:List Nat) (done:Array Bool) (a:Act),VF md ops R S done=true->vY P ops C (λa'=>MF P ops C Q R a' w) (qC ops S) a->O4 P md ops C Q (S.length+R.length) done a w
 | [],done,a,hB,h=>by rw[List.length_nil,Nat.zero_add];exact Q5 R done a w hB h
 | i::S,done,a,hB,h=>by
  simp only[VF,Bool.and_eq_true]at hB;obtain⟨⟨⟨hr,hf⟩,hw⟩,Ry⟩:=hB;have Yy:i∈Region.ready md ops done:=by simpa using hr
  obtain⟨_,o,h0,_⟩:=mem_ready.1 Yy;simp only[qC,h0]at h;rw[show(i::S).length+R.length=(S.length+R.length)+1 by simp only[List.length_cons];omega];unfold vY at h;by_cases IE:Region.wanted o (yielded ops a.tmps)=true
  ·simp only[IE,if_true]at h;obtain⟨v,hv,hK⟩:=h;exact CP h0 (Region.noSelect_spec zY) (λc a w hq=>hQ c a _ _ w hq) _ done a w (Region.free_spec h0 hf) Yy (AQ hw) (.inl ⟨IE,λw hC=>hv ⟨w,hC⟩⟩) (NI zY hQ R S _ _ Ry hK)
  simp only[IE,Bool.false_eq_true,if_false]at h;exact CP h0 (Region.noSelect_spec zY) (λc a w hq=>hQ c a _ _ w hq) _ done a w (Region.free_spec h0 hf) Yy (AQ hw) (.inr ⟨by simpa using IE,rfl⟩) (NI zY hQ R S _ _ Ry h)
def BQ{id:Nat}(C:World->Prop)(S R:List Nat)(hm:P.follows .mixedOrders=true)(hB:(Region.noSelect l.toArray&&VF .any l.toArray R S (Array.replicate l.toArray.size false)&&decide (S.length+R.length=l.toArray.size))=true)
  (hQ:∀c (a:Act) d v w,Q (.panic c) (a.put d v) w->Q (.panic c) a w)
  (h:vY P l.toArray C (λa'=>MF P l.toArray C Q R a' w.drew) (qC l.toArray S) a):(Code.region id l.toArray true).wp P Q a w:=by
 simp only[Bool.and_eq_true,decide_eq_true_eq]at hB;obtain⟨⟨zY,hB⟩,hl⟩:=hB;refine wp_region_any hm ?_;have H:=MX _ _ _ _ (NI (md:= .any) zY hQ R S _ a hB h)
 rwa [hl]at H
end
