import Derived.Test.YtopbkdebihcmcaaGreatDoorYAD
import Derived.RangeFuncNested
import Derived.RangeFuncBound
set_option linter.unusedSimpArgs false
set_option linter.unusedVariables false
namespace Go.Proofs.YtopbkdebihcmcaaGreatDoor
open Go.RowKit
set_option maxRecDepth 100000
set_option maxHeartbeats 16000000
section
def FZ(L:Nat)(A B:World):Prop:=A.heap.size<=B.heap.size∧B.heap[L]? =A.heap[L]? ∧B.heap[L+1]? =A.heap[L+1]?
theorem FZ.refl(L:Nat)(A:World):FZ L A A:=⟨aF _,rfl,rfl⟩
theorem FZ.trans{L:Nat}{A B C:World}(h:FZ L A B)(k:FZ L B C):FZ L A C:=⟨bH h.1 k.1,k.2.1.trans h.2.1,k.2.2.trans h.2.2⟩
theorem Dp(w:World)(L:Nat)(o:Obj):Keep (nY (L+1)) w (w.putObj (L+1) o):=
 ⟨rfl,rfl,rfl,Nat.le_of_eq World.putObj_size.symm,λk hk hn=>World.putObj_heap_other (λe=>hn e)⟩
variable {F:Fence}{n:Nat}{P:Program}
theorem TK{g:Operand}{ps:Array Tmp}{assign body:Code}{Q:Exit->Act->World->Prop}{a:Act}{w:World}
  (hro:F.round=none) (h1:1<=n) {gf:Nat} {lb:Array Value} (hg:a.eval g= .func (.func gf) #[] lb) (hFg:F.fn gf) (eg:∀args w,(callFunc gf args).run P w= .ok (.enter gf args) w)
  (arg:Nat->Array Value) (N:Nat) (hps:∀k,(arg k).size=ps.size) (I:Nat->World->Prop) (Kp:World->World->Prop)
  (hKt:∀ {A B C:World},Kp A B->Kp B C->Kp A C) (hK2:∀A B,Keep (nY (w.heap.size+1)) A B->w.heap.size+1<A.heap.size->Kp A B)
  (hI:∀k A B,I k A->Keep (nY (w.heap.size+1)) A B->(∃r,A.heap[w.heap.size+1]? =some (.loop r))->I k B)
  (h0:∀B,Keep nM w B->I 0 B∧Kp w B)
  (hseq:∀(J:Nat->World->Prop) (W1:World),(∀k W,J k W->I k W∧∀B,I k B->FZ w.heap.size W B->J k B)->
   (∀k W,k<N->J k W->YieldAt F (n-1-1) P (w.heap.size+1) (arg k) W λe W'=>e= .returned (.bool true)∧J (k+1) W'∧Kp W W')->J 0 W1->Kp w W1->
   CallsIn F (n-1) P gf (#[.func (.yield (w.heap.size+1)) #[] #[]]++lb) W1 λe W'=>(∃v,e= .returned v)∧J N W')
  (zf9:∀(k:Nat) (W:World),k<N->I k W->w.heap.size+1<W.heap.size->(∃r,W.heap[w.heap.size+1]? =some (.loop r))->∀K:Act->World->Prop,
   (∀a' W',FZ w.heap.size W W'->Kp W W'->I k W'->
    (∀W2,I k W2->w.heap.size+1<W2.heap.size->(∃r,W2.heap[w.heap.size+1]? =some (.loop r))->W2.heap[w.heap.size]? =some (.deferred (some []))->body.wpIn (F.inRound (w.heap.size+1)) (n-1-1) P (λe _ W3=>e= .normal∧FZ w.heap.size W2 W3∧Kp W2 W3∧I (k+1) W3) a' W2)->K a' W')->
   assign.wpIn (F.inRound (w.heap.size+1)) (n-1-1) P (Exit.then K (λ_ _ _=>False)) { tmps:=(ps.zip (arg k)).foldl (λt (p,v)=>t.setIfInBounds p v) a.tmps,defers:= [] } W)
  (hdone:∀(W:World),I N W->W.heap[w.heap.size]? =some (.deferred (some []))->Q .normal { a with defers:= { target:= .collected w.heap.size,args:= #[] } ::a.defers } W):
  (Code.rangeFunc g ps assign body).wpIn F n P Q a w:=by
 refine wpIn_rangeFunc ?_;intro fn hfn;rw[hro];obtain⟨L,hL⟩:∃L,L=w.heap.size:=⟨_,rfl⟩
 obtain⟨rec,hrec⟩:∃rec:LoopState->Loop,rec=λst=> { state:=st,pending:=none,fn,tmps:=a.tmps,params:=ps,assign,body,defers:=L } :=⟨_,rfl⟩
 obtain⟨W1,hW1⟩:∃W1,W1=(w.alloc (.deferred (some []))).alloc (.loop (rec .ready)):=⟨_,rfl⟩
 have hk1:Keep nM w W1:=by rw[hW1];exact((ah _ _).alloc _).alloc _
 have hl1:W1.heap[L+1]? =some (.loop (rec .ready)):=by
  rw[hW1,hL];have:=World.alloc_heap_new (w.alloc (.deferred (some []))) (.loop (rec .ready))
  rwa [eP]at this
 have hd1:W1.heap[L]? =some (.deferred (some [])):=by rw[hW1,hL];exact(kK _ _ _ (by simp)).trans (World.alloc_heap_new w _)
 have hi1:=h0 W1 hk1;refine⟨L+1,[{ target:= .collected L,args:= #[] }],W1,{ target:= .fn (.func gf) lb,args:= #[.func (.yield (L+1)) #[] #[]] },W1,gf,
  #[.func (.yield (L+1)) #[] #[]]++lb,W1,?_,?_,?_,?_,λ_=>h1,?_⟩
 ·rw[hW1,hrec,hL];exact run_enterLoop_outer _ _ _ _ _
 ·simp only[resolve,hg];simp[go_sem]
 ·intro f' hf';simp[Target.leads]at hf';subst hf';exact hFg
 ·simp[invoke,go_sem,eg]
 rw[<-hL]at hseq zf9 hdone hI hK2;refine(hseq (λk W=>I k W∧W.heap[L+1]? =some (.loop (rec .ready))∧W.heap[L]? =some (.deferred (some []))) W1
  (λk W h=>⟨h.1,λB hB hs=>⟨hB,hs.2.2.trans h.2.1,hs.2.1.trans h.2.2⟩⟩) ?_ ⟨hi1.1,hl1,hd1⟩ hi1.2).mono ?_
 ·rintro k W hk ⟨hi,hl,hd⟩;have hlt:L+1<W.heap.size:=(fO.1 hl).1;have hy:=run_yield (P:=P) (args:=arg k) hl (by rw[hrec];exact hps k);rw[hrec]at hy;refine⟨fn,_,assign,body,hy,roundIn_of_wpIn hfn (zf9 k W hk hi hlt ⟨_,hl⟩ _ λa' W' hs hkp hi' hbody=> ?_)⟩;have hl':W'.heap[L+1]? =some (.loop (rec .ready)):=hs.2.2.trans hl;have hd':W'.heap[L]? =some (.deferred (some [])):=hs.2.1.trans hd;have hlt':L+1<W'.heap.size:=dA hlt hs.1;refine⟨_,run_beginRound hl' (by rw[hrec]),?_⟩;obtain⟨W2,hW2⟩:∃W2,W2=W'.putObj (L+1) (.loop { rec .ready with state:= .busy }):=⟨_,rfl⟩
  have hk2:Keep (nY (L+1)) W' W2:=by rw[hW2];exact Dp _ _ _
  have hl2:W2.heap[L+1]? =some (.loop { rec .ready with state:= .busy }):=by rw[hW2];exact World.putObj_heap_same hlt'
  have hd2:W2.heap[L]? =some (.deferred (some [])):=by rw[hW2];exact(World.putObj_heap_other (by omega)).trans hd'
  have hi2:=hI k W' W2 hi' hk2 ⟨_,hl'⟩;rw[<-hW2];refine wpIn_mono (hbody W2 hi2 (by have:=hk2.size;omega) ⟨_,hl2⟩ hd2) ?_;rintro e a3 W3 ⟨rfl,hs3,hkp3,hi3⟩;have hl3:W3.heap[L+1]? =some (.loop { rec .ready with state:= .busy }):=hs3.2.2.trans hl2;have hd3:W3.heap[L]? =some (.deferred (some [])):=hs3.2.1.trans hd2;have hlt3:L+1<W3.heap.size:=(fO.1 hl3).1;have hr:=run_endRound (P:=P) none hl3;have hk4:Keep (nY (L+1)) W3 (W3.putObj (L+1) (.loop (rec .ready))):=Dp _ _ _;refine⟨_,_,hr,?_⟩;rw[hrec]at hk4⊢;refine⟨rfl,⟨hI _ _ _ hi3 hk4 ⟨_,hl3⟩,World.putObj_heap_same hlt3,(World.putObj_heap_other (by omega)).trans hd3⟩,hKt hkp (hKt (hK2 _ _ hk2 hlt') (hKt hkp3 (hK2 _ _ hk4 hlt3)))⟩
 ·rintro e W2 ⟨⟨v,rfl⟩,hi,hl,hd⟩;refine⟨none,_,by have:=run_endLoop (P:=P) hl (by rw[hrec];simp);rw[hrec]at this;exact this,?_⟩;rw[<-hL]at*;exact hdone _ (hI _ _ _ hi (Dp _ _ _) ⟨_,hl⟩) ((World.putObj_heap_other (by omega)).trans hd)
end
end Go.Proofs.YtopbkdebihcmcaaGreatDoor
