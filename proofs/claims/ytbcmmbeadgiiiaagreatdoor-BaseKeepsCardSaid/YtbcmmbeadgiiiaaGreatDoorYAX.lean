import Derived.Test.YtbcmmbeadgiiiaaGreatDoorYAN
import Derived.Test.YtbcmmbeadgiiiaaGreatDoorYAR
import Derived.Laws.CopyOwn
set_option linter.all false
namespace Go.Proofs.YtbcmmbeadgiiiaaGreatDoor
open Go.RowKit Tryz
set_option maxRecDepth 100000
set_option maxHeartbeats 16000000
variable{B:Nat}{E:aB}{w:ax}{v:ay}
def wQ(s:af)(m:Nat):List ay:=List.replicate m (.string s)++List.replicate (66-m) (.string ⟨#[]⟩)
def UN(s:af)(m:Nat)(h:m<=66):(wQ s m).length=66:=by rw[wQ,aN,bP,bP];omega
def Oh(s:af)(m c:Nat)(h:m+c<=66):splice (wQ s m) m (List.replicate c (.string s))=wQ s (m+c):=by
 have h1:(wQ s m).take m=List.replicate m (.string s):=by rw[wQ,List.take_append_of_le_length (by rw[bP];exact aS _),bg (by rw[bP];exact aS _)]
 have h2:(wQ s m).drop (m+c)=List.replicate (66-(m+c)) (.string ⟨#[]⟩):=by rw[wQ,List.drop_append,bP,nO,nO,show m-(m+c)=0 by omega,show 66-m-(m+c-m)=66-(m+c)by omega];rfl
 rw[splice,bP,h1,h2,wQ,<-bC,List.replicate_append_replicate]
def zhG(s:af)(m j:Nat)(h:j<m):(wQ s m)[j]? =some (.string s):=by rw[wQ,dL (by rw[bP];exact h),jP,bu h]
def zg3:(prog.info? 9).map (·.size)=some 1:=by kernel_rfl
def zrF{b:Nat}{s:af}(hb:w.heap[b]? =some (.cells #[.string s] E (0,0)))(o:Obj):∀(j:Nat) (v:ay),[Value.string s][j]? =some v->(w.alloc o).cell? ((⟨b,0,none⟩:Addr).add j)=some v:=by
 intro j v hv;have Dz:(⟨b,0,none⟩:Addr).add j=⟨b,0+j,none⟩:=by unfold Addr.add;split<;>simp_all
 rw[Dz];cases j with
 | zero=>exact(((ah qw w).alloc _).cell (p:=⟨b,0,none⟩) (lt_of_heap hb) (λx=>x)).t (by simpa [World.cell?,hb]using hv)
 | succ j=>simp at hv
def zpt(s:af)(b:Nat)(w:ax)(hb:w.heap[b]? =some (.cells #[.string s] 9 (0,0))):
  ae 35 #[.slice (some ⟨b,0,none⟩) 1 1,.int .i64 66] w λe w'=>e= .returned (.slice (some ⟨w.heap.size,0,none⟩) 66 66)∧w'.heap[w.heap.size]? =some (.cells (wQ s 66).toArray 9 (0,0))∧ak w w':=by
 have EU:∀w:ax,(Instr.makeSlice 88 (.int .i64 66) (.int .i64 66)).run prog w= .ok (.slice (some ⟨w.heap.size,0,none⟩) 66 66) (w.alloc (.cells (wQ s 0).toArray 9)):=λ_=>by kernel_rfl
 have Hb:=ag hb;clear hb;go_enter func35,ntmps35;go_wp2_with (first
  | (go_at_call 80;refine(bits_Mul 1 66 (by decide) (by decide) w).m ?_;rintro e w'' ⟨rfl,hw⟩;subst w'')
  | (refine wpList_copy_splice rfl (.tmp 31) (.tmp 32) 88 88 rfl 9 gu zg3 _ _ _ _ _ _ rfl rfl w.heap.size 0 (wQ s 0) 9 (aQ w _) [.string s] rfl (λ_=>⟨rfl,_,rfl,zrF Hb.o _⟩) (by rw[UN _ _ (by omega)];show 0+1<=66;omega) (by simp[Value.oneCell']) w.heap.size w ((nY _ w).alloc (aS _) _) (aS _) ?_;intro w2 H2 zC))
 have H2':Hid (w2.heap[w.heap.size]? =some (.cells (wQ s 1).toArray 9 (0,0))):=by
  have:=H2.o
  rwa [show [Value.string s]=List.replicate 1 (.string s)from rfl,Oh s 0 1 (by omega)]at this
 clear H2;obtain⟨G,hG⟩:=aj w.heap.size;rw[<-hG]at H2' zC;rw[<-hG];have HG:=ag hG;clear hG EU
 go_loopw [8] (λi wr=>∃m:Nat,1<=m∧m<=66∧i= .int .i64 m∧Hid (wr.heap[G]? =some (.cells (wQ s m).toArray 9 (0,0)))∧Below G w wr) (λi _=>66-(intOf i).toNat)
 case atStart=>exact⟨1,by omega,by omega,rfl,H2',zC⟩
 case round=>
  clear H2' zC w2;obtain⟨m,YB,YA,rfl,H,B⟩:=hrel;by_cases rE:m<66
  ·have j1:(m:Int)<66:=by omega
   have j2:(m:Int)<=66:=by omega
   have j3:¬(66=m):=by omega
   obtain⟨c,hc⟩:=aj (Nat.min m (66-m));have Zp:1<=c:=by rw[hc];show 1<=min m (66-m);omega
   have Oo:m+c<=66:=by rw[hc];show m+min m (66-m)<=66;omega
   have hc3:c<=m:=by rw[hc];show min m (66-m)<=m;omega
   have Hc:=ag hc;have hsp:=Oh s m c Oo;have Hsp:=ag hsp;clear hc hsp;obtain⟨L,hL⟩:=aj (wQ s m);obtain⟨C,hC⟩:=aj (List.replicate c (Value.string s));have lC:Hid (C.length=c):=by show C.length=c;rw[hC,bP]
   have lL:Hid (L.length=66):=by show L.length=66;rw[hL,UN s m YA]
   have oC:∀v∈C,v.oneCell'=true:=by rw[hC];intro v hv;rw[(ji.1 hv).2];rfl
   have zzr:∀w2:ax,w2.heap[G]? =wr.heap[G]? ->∀j v,C[j]? =some v->w2.cell? ((⟨G,0,none⟩:Addr).add j)=some v:=by
    intro w2 h2 j v hv;have Dz:(⟨G,0,none⟩:Addr).add j=⟨G,0+j,none⟩:=by unfold Addr.add;split<;>simp_all
    rw[Dz,aO w2 G _ _ 9 (0,0) (h2.t H.o)];rw[hC,jP]at hv;split at hv
    ·rw[aF,eH,zhG s m j (by omega)];exact hv
    cases hv
   rw[<-hL]at Hsp;rw[<-hC]at Hsp;have H3:Hid (wr.heap[G]? =some (.cells L.toArray 9 (0,0))):=by rw[hL];exact H
   clear hL hC H;go_wp2_with fail;refine yG 7 [0,1,2,3,4,5,6] (by kernel_rfl) (by kernel_rfl) (λc a d v w h=>by cases d<;>exact h) ?_;rw[show H8 7 [0,1,2,3,4,5,6]= []from rfl];simp only[qC,aF,aH,aI,dA,dF]
   repeat(refine xy (λK hK=> ?_);go_simp;refine hK _ ?_;clear hK K)
   refine yf ?_;refine dP ?_;intro nq;refine wpList_copy_splice rfl (.tmp 41) (.tmp 44) 88 88 rfl 9 gu zg3 (some ⟨G,m,none⟩) (some ⟨G,0,none⟩) (66-m) (66-m) m 66 rfl rfl G m L 9 (show(wr.drewN nq).heap[G]? =_ from H3.o) C (by rw[lC.o];exact Hc.o) (λ_=>⟨rfl,_,rfl,zzr _ rfl⟩) (by rw[lC.o,lL.o];exact Oo) oC G w (⟨B.os,B.tape,B.output,B.size,B.block⟩:Below G w (wr.drewN nq)) (aS _) ?_;rw[lC.o,Hsp.o];intro w2 H2 zC;go_wp2_with fail;exact⟨⟨m+c,by omega,Oo,by simp,H2,zC⟩,by simp[intOf];omega⟩
  obtain rfl:m=66:=by omega
  go_wp2_with fail;go_ret;rw[<-HG.o];exact⟨rfl,H.o,Keep.Em (by rw[HG.o]at B;exact B)⟩
def IU:List af:=List.replicate 66 zO
def zjO(w:ax):
  ae 7 #[] w λe w'=>∃D S,e= .returned (.pointer (some ⟨D,0,none⟩))∧vW w' D S (.slice none 0 0) IU [] (-1)∧w.heap.size<=D∧w.heap.size<=S∧ak w w':=by
 go_enter func7,ntmps7;go_wp2_with fail;refine(zgq w).m ?_;rintro e w1 ⟨rfl,K1⟩;go_wp2_with fail;refine(zpt zO w1.heap.size _ (aQ w1 _)).m ?_;rintro e w2 ⟨rfl,h2,K2⟩;rw[lZ]at h2;rw[lZ];go_wp2_with fail;go_ret;have rE:=lt_of_heap h2;have s1:=K1.size;refine⟨w2.heap.size,w1.heap.size+1,rfl,⟨⟨66,aQ w2 _,aS _⟩,⟨(wQ zO 66).toArray,(((ah qw w2).alloc _).heap h2 (λx=>x)),?_⟩,qF.nil _ _ _ _,bP,by omega,by omega,⟨by omega,λb hb=>by cases hb⟩,fP _,λp hp=>by cases hp⟩,by have:=K2.size;simp at this;omega,by omega,(((K1.alloc _).qo K2).alloc _)⟩;rw[wQ,IU,strCells,kz,jU,dS,pW];exact bg (by rw[bP];exact aS _)
structure zuD(w0 w:ax)(D S:Nat)(wv:ay)(qy:List af)(wait:List (Nat×af))(qR:Int):Prop where
 dev:vW w D S wv qy wait qR
 own:∀b,xN D S wv b->w0.heap.size<=b
 qm:ak w0 w
def Gx(w:ax)(wv zV:ay):Prop:=zV.ownBlock=wv.ownBlock∨∀b,zV.ownBlock=some b->w.heap.size<=b
section
variable {w0 w:ax}{D S:Nat}{wv:ay}{qy:List af}{wait:List (Nat×af)}{qR:Int}
end
def zx9(w:ax):
  ae 7 #[] w λe w'=>∃D S,e= .returned (.pointer (some ⟨D,0,none⟩))∧zuD w w' D S (.slice none 0 0) IU [] (-1):=
 (zjO w).m λ_ _ ⟨D,S,he,hd,h1,h2,hK⟩=>⟨D,S,he,hd,λb hb=>hb.elim (λe=>e▸h1) (λhb=>hb.elim (λe=>e▸h2) (λe=>by cases e)),hK⟩
def zuD.lt{w0 w:ax}{D S:Nat}{wv:ay}{qy:List af}{wait:List (Nat×af)}{qR:Int}(h:zuD w0 w D S wv qy wait qR):∀b,xN D S wv b->b<w.heap.size:=by
 rintro b (rfl|rfl|hb)
 ·obtain⟨c,h2,_⟩:=h.dev.head;exact lt_of_heap h2
 ·obtain⟨c,h2,_⟩:=h.dev.row;exact lt_of_heap h2
 exact(h.dev.waits.lt b hb).2
def Ak{i:Nat}{cur:Array ay}{fz:Nat×Nat}(h:w.heap[B]? =some (.cells cur E fz))(u:ay):(w.setCell ⟨B,i,none⟩ u).heap[B]? =some (.cells (cur.setIfInBounds i u) E fz):=by
 have rE:=lt_of_heap h;have h':w.heap[B]= .cells cur E fz:=by simpa [dQ rE]using h
 show(w.heap.modify B _)[B]? =_;rw[dQ (by simpa using rE),fQ,h'];rfl
def qF.store{base:Nat}{n:Nat}{xs:List ay}(h:qF w base E 1 v n xs)(hB:v.ownBlock=Option.some B)(i:Nat)(hi:i<n)(u:ay):qF (w.setCell ⟨B,i,none⟩ u) base E 1 v n (xs.set i u):=by
 refine⟨by rw[fC];exact h.1,?_⟩;rcases h.2 with⟨hv,_⟩|⟨g,cap,cur,fz,hv,hb,hg,hf,hc,hm,hs,ht⟩
 ·rw[hv]at hB;cases hB
 rw[hv]at hB;obtain rfl:g=B:=aU hB;refine .inr ⟨g,cap,cur.setIfInBounds i u,fz,hv,hb,Ak hg u,by simpa using hf,hc,hm,by simpa using hs,?_⟩;rw[Array.toList_setIfInBounds,List.take_set,ht]
def En(l:List (Nat×af)):List ay:=l.map λp=> .int .i64 (p.1:Int)
def zK(l:List (Nat×af)):List ay:=l.map λp=> .string p.2
structure xC(w:ax)(D:Nat)(sv av tv:ay)(qy:List af)(wait:List (Nat×af))(qR:Int):Prop where
 head:w.heap[D]? =some (.cells #[sv,av,tv,.int .i64 qR] 90 (0,0))
 row:qF w 0 9 1 sv 66 (strCells qy)
 ats:qF w 0 3 1 av wait.length (En wait)
 Xq:qF w 0 9 1 tv wait.length (zK wait)
 DJ:∀b,(sv.ownBlock=some b∨av.ownBlock=some b∨tv.ownBlock=some b)->b≠D
 ML:∀b,sv.ownBlock=some b->av.ownBlock≠some b∧tv.ownBlock≠some b
 ZX:∀b,av.ownBlock=some b->tv.ownBlock≠some b
 len:qy.length=66
 lo: -1<=qR
 hi:qR<=9223372036854775807
 small:wait.length<=1000000
 inb:∀p,p∈wait->p.1<66
def RB(D:Nat)(sv av tv:ay):Nat->Prop:=λb=>b=D∨sv.ownBlock=some b∨av.ownBlock=some b∨tv.ownBlock=some b
section
variable {w:ax}{D:Nat}{sv av tv:ay}{qy:List af}{wait:List (Nat×af)}{qR:Int}
def xC.qm(h:xC w D sv av tv qy wait qR){w':ax}{X:Nat->Prop}(hk:Keep X w w')(hn:∀b,RB D sv av tv b->¬X b):xC w' D sv av tv qy wait qR:=
 ⟨hk.heap h.head (hn D (.inl rfl)),h.row.qm hk (λb hb=>hn b (.inr (.inl hb))),h.ats.qm hk (λb hb=>hn b (.inr (.inr (.inl hb)))),h.Xq.qm hk (λb hb=>hn b (.inr (.inr (.inr hb)))),h.DJ,h.ML,h.ZX,h.len,h.lo,h.hi,h.small,h.inb⟩
def xC.VI(h:xC w D sv av tv qy wait qR):w.cell? ⟨D,0,none⟩=some sv∧w.cell? ⟨D,1,none⟩=some av∧w.cell? ⟨D,2,none⟩=some tv∧w.cell? ⟨D,3,none⟩=some (.int .i64 qR)∧∀i,w.frozen? ⟨D,i,none⟩=false:=
 ⟨by simp[World.cell?,h.head],by simp[World.cell?,h.head],by simp[World.cell?,h.head],by simp[World.cell?,h.head],λi=>by simp[World.frozen?,h.head]⟩
def xC.zrq(h:xC w D sv av tv qy wait qR)(i:Nat)(u:ay){sv' Ql Tt:ay}{Ed:List (Nat×af)}{zkr:Int}(hu:(#[sv,av,tv,.int .i64 qR]:Array ay).setIfInBounds i u= #[sv',Ql,Tt,.int .i64 zkr])
  (hs:qF w 0 9 1 sv' 66 (strCells qy)) (ha:qF w 0 3 1 Ql Ed.length (En Ed)) (ht:qF w 0 9 1 Tt Ed.length (zK Ed))
  (p0:∀b,(sv'.ownBlock=some b∨Ql.ownBlock=some b∨Tt.ownBlock=some b)->b≠D) (p1:∀b,sv'.ownBlock=some b->Ql.ownBlock≠some b∧Tt.ownBlock≠some b) (p2:∀b,Ql.ownBlock=some b->Tt.ownBlock≠some b)
  (f0: -1<=zkr) (f1:zkr<=9223372036854775807) (TA:Ed.length<=1000000) (hib:∀p,p∈Ed->p.1<66):xC (w.setCell ⟨D,i,none⟩ u) D sv' Ql Tt qy Ed zkr:=by
 have K:Keep (qJ D) w (w.setCell ⟨D,i,none⟩ u):=(ah _ _).tK _ _;exact⟨by rw[Ak h.head,hu],hs.qm K (λb hb=>p0 b (.inl hb)),ha.qm K (λb hb=>p0 b (.inr (.inl hb))),ht.qm K (λb hb=>p0 b (.inr (.inr hb))),p0,p1,p2,h.len,f0,f1,TA,hib⟩
def xC.zeB(h:xC w D sv av tv qy wait qR)(f:Int)(f0: -1<=f)(f1:f<=9223372036854775807):xC (w.setCell ⟨D,3,none⟩ (.int .i64 f)) D sv av tv qy wait f:=
 h.zrq 3 _ rfl h.row h.ats h.Xq h.DJ h.ML h.ZX f0 f1 h.small h.inb
def zdg(h:xC w D sv av tv qy wait qR):
  ae 121 #[.pointer (some ⟨D,0,none⟩)] w λe w'=>e= .returned (.bool (decide (qR=0)))∧xC w' D sv av tv qy wait (x9 qR)∧Keep (qJ D) w w':=by
 obtain⟨_,_,_,c3,f⟩:=h.VI;have f3:=f 3;have BA:=h.lo;have hhi:=h.hi;clear f;by_cases hp:0<qR
 ·have e1:decide (qR=0)=false:=by simp;omega
  have e2:x9 qR=qR-1:=bu hp;have hd:=h.zeB (qR-1) (by omega) (by omega);rw[e1,e2];clear e1 e2;go_enter func121,ntmps121;go_wp2_with fail;go_ret;exact⟨rfl,hd,(ah _ _).tK _ _⟩
 ·have e2:x9 qR=qR:=aV hp;rw[e2];have j1:qR<=0:=by omega
  clear e2 hp;by_cases hz:qR=0
  ·subst hz;go_enter func121,ntmps121;go_wp2_with fail;go_ret;exact⟨rfl,h,ah _ _⟩
  have e1:decide (qR=0)=false:=by simp;exact hz
  have e3:(qR==0)=false:=by simp;exact hz
  rw[e1];clear e1 hz;go_enter func121,ntmps121;go_wp2_with fail;go_ret;exact⟨rfl,h,ah _ _⟩
def zaT(h:xC w D sv av tv qy wait qR)(k:Nat)(hk:k<66):
  ae 140 #[.pointer (some ⟨D,0,none⟩),.int .i64 k] w λe w'=>e= .returned (.tuple #[.string ((sQ qy wait).getD k ⟨#[]⟩),.int .i64 0])∧w'=w:=by
 obtain⟨cs,ca,ct,_,_⟩:=h.VI;obtain⟨S,cS,rfl,hS,hcS,_⟩:=h.row.at (by omega);have hc0:=hcS k (.string (qy.getD k ⟨#[]⟩)) (by rw[strCells,aX,aG,aK (by rw[h.len];exact hk)];rfl);have Zm:=h.len;obtain⟨n,hn⟩:=aj wait.length;have hn6:n<=1000000:=by rw[hn];exact h.small
 obtain⟨pa,cpa,rfl⟩:∃p c,av= .slice p n c:=by
  rcases h.ats.2 with⟨hv,h0⟩|⟨g,cap,cur,fz,hv,_⟩
  ·exact⟨_,_,by rw[hv,hn,h0]⟩
  exact⟨_,_,by rw[hv,hn]⟩
 have ha:=h.ats;have ht:=h.Xq;rw[<-hn]at ha ht;have Hn:=ag hn;have Hsl:=ag Zm;clear hn Zm hcS;have k1:(k:Int)<66:=by omega
 go_enter func140,ntmps140;go_wp2_with fail;refine(MI k 0 65 (by omega) (by omega) w).m ?_;rintro e w1 ⟨rfl,vF⟩;subst w1;go_wp2_with fail
 go_loop [6,24] (λs i=>∃(j:Nat) (q:af),j<=n∧i= .int .i64 j∧s= .string q∧Hid (q=(sQ qy (wait.take j)).getD k ⟨#[]⟩)) (λ_ i=>n-(intOf i).toNat)
 case atStart=>exact⟨0,_,by omega,rfl,rfl,by show _=_;rw[dD];simp[sQ]⟩
 case round=>
  obtain⟨j,q,hj,rfl,rfl,hq⟩:=hrel;by_cases rE:j<n
  ·have j1:decide (j<n)=true:=by simp;omega
   have j2:(j:Int)<n:=by omega
   obtain⟨ga,_,hga,_,Xh,_⟩:=ha.at (by omega);cases hga;obtain⟨gt,ct',rfl,_,hcT,_⟩:=ht.at (by omega);obtain⟨x,hx⟩:=aj (wait.getD j (0,⟨#[]⟩));have hxe:wait[j]? =some x:=by rw[hx,aG,aK (by have:=Hn.o;omega)];rfl
   have c1:=Xh j (.int .i64 (x.1:Int)) (by rw[En,aX,hxe];rfl);have c2:=hcT j (.string x.2) (by rw[zK,aX,hxe];rfl);have Xj:=F6 qy wait j (by have:=Hn.o;omega);rw[<-hx]at Xj;have Hap:=ag Xj;have Hx:=ag hx;clear Xj hx hxe Xh hcT;by_cases hxk:x.1=k
   ·have e1:((x.1:Int)==(k:Int))=true:=by simp[hxk]
    have GI:x.2=(sQ qy (wait.take (j+1))).getD k ⟨#[]⟩:=by rw[Hap.o,hxk,aG,mG (by rw[DU,Hsl.o];exact hk)];rfl
    have zce:=ag GI;clear GI hxk;go_wp2_with fail;exact⟨⟨j+1,x.2,by omega,by go_num,rfl,zce⟩,by simp[intOf];omega⟩
   have e1:((x.1:Int)==(k:Int))=false:=by simp;omega
   have GI:q=(sQ qy (wait.take (j+1))).getD k ⟨#[]⟩:=by rw[Hap.o,aG,o9 hxk,<-aG];exact hq.o
   have zce:=ag GI;clear GI hxk;go_wp2_with fail;exact⟨⟨j+1,q,by omega,by go_num,rfl,zce⟩,by simp[intOf];omega⟩
  obtain rfl:j=n:=by omega
  have tN:q=(sQ qy wait).getD k ⟨#[]⟩:=by rw[hq.o,bg (by rw[<-Hn.o];exact aS _)]
  have j1:decide (j<j)=false:=by simp
  have xM:=ag tN;clear tN;go_wp2_with fail
  go_ret2
  exact⟨dB (λt=>Ending.returned (.tuple #[.string t,.int .i64 0])) (by have:=xM.o;rwa [aG]at this),rfl⟩
end
def zbV(a b:List (Nat×af)):En (a++b)=En a++En b:=by simp[En]
def WT(a b:List (Nat×af)):zK (a++b)=zK a++zK b:=by simp[zK]
def Mov(w:ax)(v v':ay):Prop:=v'.ownBlock=v.ownBlock∨∀b,v'.ownBlock=some b->w.heap.size<=b
def zjI(s:af)(hs:s.size<=256):s++uu (List.replicate (256-s.size) 0)=BD s:=by
 have hz:Bytes (List.replicate 256 0):=λx hx=>by rw[(ji.1 hx).2];omega
 have D6:Bytes (List.replicate (256-s.size) 0):=λx hx=>by rw[(ji.1 hx).2];omega
 apply xJ;rw[BD,tX,tX,rQ,Fj,zO,rM hz,rM D6,nO,bg (by rw[bP];omega)]
def Wx:(prog.info? 3).map (λi=>(i.zero,i.size,i.bytes))=some (some (.int .i64 0),1,8):=by kernel_rfl
section
variable {w:ax}{D:Nat}{sv av tv:ay}{qy:List af}{wait:List (Nat×af)}{qR:Int}
def XN(h:xC w D sv av tv qy wait qR)(k:Nat)(s:af)(hk:k<66)(hs:s.size<=256)(hf:qR≠0)(hw:wait.length<1000000):
  ae 63 #[.pointer (some ⟨D,0,none⟩),.int .i64 k,.string s] w λe w'=>e= .returned (.int .i64 0)∧(∃Ql Tt,xC w' D sv Ql Tt qy (wait++ [(k,BD s)]) (x9 qR)∧Mov w av Ql∧Mov w tv Tt)∧Keep (RB D sv av tv) w w':=by
 have j2:decide ((256:Int)<s.size)=false:=by simp;omega
 have hb:=zdg h;rw[show decide (qR=0)=false by simpa using hf]at hb;obtain⟨n,hn⟩:=aj wait.length;have Hn:=ag hn;have Hf:=ag hf;clear hf;go_enter func63,ntmps63;go_wp2_with fail;refine(MI k 0 65 (by omega) (by omega) w).m ?_;rintro e w1 ⟨rfl,vF⟩;subst w1;go_wp2_with fail;refine hb.m ?_;clear hb;rintro e w1 ⟨rfl,h1,K1⟩;obtain⟨cs,ca,ct,cf,ff⟩:=h1.VI;have fa:=ff 1;have ft:=ff 2;have ha:=h1.ats;rw[<-hn]at ha;have Vw:=lt_of_heap h1.head;obtain⟨i0,zM,Ba,D9,D6⟩:=iC Wx;clear ff hn;go_wp2_with (refine rY _ rfl (.tmp 19) (.tmp 21) 23 rfl 0 3 i0 (.int .i64 0) 1 8 jE zM Ba D9 D6 rfl (by decide) av n (En wait) rfl (ha.alloc _) ⟨w1.heap.size,0,none⟩ 1 1 [.int .i64 k] rfl rfl (rJ _ _ _) (EL _ _) (by unfold maxLen;have:=Hn.o;omega) (by have:=Hn.o;omega) (fP _) ?_;intro v2 w2 Vs MJ Si;have K2:Keep (λb=>av.ownBlock=some b) w1 w2:=((ah _ w1).alloc _).grown MJ (λc hc=> .inl hc);have c2:=(K2.cell (p:=⟨D,1,none⟩) Vw (λhb=>h1.DJ D (.inr (.inl hb)) rfl)).t ca;have f2:=(K2.frozen (p:=⟨D,1,none⟩) Vw (λhb=>h1.DJ D (.inr (.inl hb)) rfl)).t fa;obtain⟨g2,QT,rfl,_,_⟩:=Vs.some (by omega));have m2:Mov w1 av (.slice (some ⟨g2,0,none⟩) (n+1) QT):=Si.imp id (λhh b hb=>by have:=hh b hb;simp at this;omega);have znK:qF w2 0 3 1 (.slice (some ⟨g2,0,none⟩) (n+1) QT) (wait++ [(k,BD s)]).length (En (wait++ [(k,BD s)])):=by rw[aN,<-Hn.o,zbV];exact Vs
 obtain⟨a2,OB⟩:=aj (Value.slice (some ⟨g2,0,none⟩) (n+1) QT);rw[<-OB]at m2 znK;rw[<-OB];have hD2:D<w2.heap.size:=dH Vw K2.size;have nD2:∀b,a2.ownBlock=some b->b≠D:=by
  intro b hb;rcases m2 with m2|m2
  ·exact h1.DJ b (.inr (.inl (m2▸hb)))
  have:=m2 b hb;omega
 refine qW (λw3=>w3.heap[D]? =some (.cells #[sv,a2,tv,.int .i64 (x9 qR)] 90 (0,0))∧qF w3 0 9 1 sv 66 (strCells qy)∧qF w3 0 3 1 a2 (wait++ [(k,BD s)]).length (En (wait++ [(k,BD s)]))∧qF w3 0 9 1 tv wait.length (zK wait)∧Keep (λb=>b=D∨av.ownBlock=some b) w1 w3) ⟨?_,?_,?_,?_,?_⟩ ?_
 ·have:=Ak (w:=w2) (i:=1) (K2.heap h1.head (λhb=>h1.DJ D (.inr (.inl hb)) rfl)) a2;exact this
 ·exact(h1.row.qm K2 (λb hb hx=>(h1.ML b hb).1 hx)).qm ((ah (qJ D) w2).tK _ _) (λb hb=>h1.DJ b (.inl hb))
 ·exact znK.qm ((ah (qJ D) w2).tK _ _) nD2
 ·exact(h1.Xq.qm K2 (λb hb hx=>h1.ZX b hx hb)).qm ((ah (qJ D) w2).tK _ _) (λb hb=>h1.DJ b (.inr (.inr hb)))
 ·have:=(K2.m (S':=λb=>b=D∨av.ownBlock=some b) (λb _ hb=>Or.inr hb)).setCell (p:=⟨D,1,none⟩) (.inl (Or.inl rfl)) a2;exact this
 have hKw:=K1;clear OB Si MJ K2 c2 f2 Vs znK hD2 i0 zM Ba D9 D6;clear cs ca ct cf fa ft ha;intro w3 IM;obtain⟨zko,zzc,zxe,zsb,QQ⟩:=IM;have ct3:w3.cell? ⟨D,2,none⟩=some tv:=by simp[World.cell?,zko]
 have ft3:w3.frozen? ⟨D,2,none⟩=false:=by simp[World.frozen?,zko]
 have hD3:=lt_of_heap zko;have e2:IntKind.i64.wrap (256-(s.size:Int))=256-(s.size:Int):=aY _ (by omega);have G8:¬(9223372036854775807<s.size+(uu (List.replicate (256-s.size) 0)).size):=by rw[rH,bP];omega
 have zv5:=zjI s hs;have zAN:=ag zv5;obtain⟨i0,zM,Ba,D9,D6⟩:=iC BP;have htD:∀b,tv.ownBlock=some b->b≠D:=λb hb=>h1.DJ b (.inr (.inr hb));rw[<-Hn.o]at zsb;clear zv5
 go_region_law (first
  | (go_simp;go_at_call 34;refine(Ky _ (256-s.size) (by omega) (by omega) _).m ?_;rintro e w4 ⟨rfl,K4'⟩;have K4:ak w3 w4:=((ah qw w3).drew).qo K4';have ct4:=(K4.cell (p:=⟨D,2,none⟩) hD3 (λx=>x)).t ct3;have hD4:D<w4.heap.size:=dH hD3 K4.size)
  | (refine JA rfl _ _ 88 rfl 0 9 i0 (.string ⟨#[]⟩) 1 16 gu zM Ba D9 D6 rfl (by decide) tv n (zK wait) rfl ((zsb.qm K4 (λ_ _ x=>x)).alloc _) ⟨w4.heap.size,0,none⟩ 1 1 [.string (s++uu (List.replicate (256-s.size) 0))] rfl rfl (rJ _ _ _) (by intro u hu;obtain rfl:=bJ.1 hu;rfl) (by unfold maxLen;have:=Hn.o;omega) (by have:=Hn.o;omega) (fP _) ?_;intro v5 w5 xq zH zG;have K5:Keep (λb=>tv.ownBlock=some b) w4 w5:=((ah _ w4).alloc _).grown zH (λc hc=> .inl hc);have c5:=(K5.cell (p:=⟨D,2,none⟩) (dH hD3 K4.size) (λhb=>htD D hb rfl)).t ct4;have f5:=(K5.frozen (p:=⟨D,2,none⟩) (dH hD3 K4.size) (λhb=>htD D hb rfl)).t ((K4.frozen (p:=⟨D,2,none⟩) hD3 (λx=>x)).t ft3);obtain⟨g5,YF,rfl,_,_⟩:=xq.some (by omega)))
 all_goals
  have znI:qF w5 0 9 1 (.slice (some ⟨g5,0,none⟩) (n+1) YF) (wait++ [(k,BD s)]).length (zK (wait++ [(k,BD s)])):=by rw[aN,<-Hn.o,WT];rw[zAN.o]at xq;exact xq
  have m5:Mov w3 tv (.slice (some ⟨g5,0,none⟩) (n+1) YF):=zG.imp id (λhh b hb=>by have q1:=hh b hb;have q2:=K4.size;rw[lZ]at q1;omega);obtain⟨t5,hT5⟩:=aj (Value.slice (some ⟨g5,0,none⟩) (n+1) YF);rw[<-hT5]at m5 znI;rw[<-hT5];clear xq zG zH hT5;have Xk:Keep (λb=>tv.ownBlock=some b) w3 w5:=(K4.m (λb _ hb=>hb.elim)).then K5;have zkn:=Xk.heap zko (λhb=>htD D hb rfl);have zzd:w1.heap.size<=w3.heap.size:=QQ.size;have n5D:∀b,t5.ownBlock=some b->b≠D:=by
   intro b hb;rcases m5 with m5|m5
   ·exact htD b (m5▸hb)
   have:=m5 b hb;omega
  have ztj:∀b,sv.ownBlock=some b->b<w1.heap.size:=λb hb=>(h1.row.lt b hb).2;have zxh:∀b,sv.ownBlock=some b->a2.ownBlock≠some b:=by
   intro b hb hx;rcases m2 with m2|m2
   ·exact(h1.ML b hb).1 (m2▸hx)
   have:=m2 b hx;have:=ztj b hb;omega
  have zvx:∀b,sv.ownBlock=some b->t5.ownBlock≠some b:=by
   intro b hb hx;rcases m5 with m5|m5
   ·exact(h1.ML b hb).2 (m5▸hx)
   have:=m5 b hx;have:=ztj b hb;omega
  have zxi:∀b,a2.ownBlock=some b->b<w3.heap.size:=λb hb=>(zxe.lt b hb).2;have zuh:∀b,a2.ownBlock=some b->tv.ownBlock≠some b:=by
   intro b hb hx;rcases m2 with m2|m2
   ·exact h1.ZX b (m2▸hb) hx
   have:=m2 b hb;have:=(h1.Xq.lt b hx).2;omega
  have zxg:∀b,a2.ownBlock=some b->t5.ownBlock≠some b:=by
   intro b hb hx;rcases m5 with m5|m5
   ·exact zuh b hb (m5▸hx)
   have:=m5 b hx;have:=zxi b hb;omega
  have KD:Keep (qJ D) w5 (w5.setCell ⟨D,2,none⟩ t5):=(ah _ _).tK _ _;have hd:xC (w5.setCell ⟨D,2,none⟩ t5) D sv a2 t5 qy (wait++ [(k,BD s)]) (x9 qR):=by
   refine⟨by rw[Ak zkn];rfl,(zzc.qm Xk (λb hb hx=>(h1.ML b hb).2 hx)).qm KD (λb hb=>h1.DJ b (.inl hb)),(zxe.qm Xk (λb hb hx=>zuh b hb hx)).qm KD nD2,znI.qm KD n5D,?_,λb hb=>⟨zxh b hb,zvx b hb⟩,zxg,h1.len,h1.lo,h1.hi,by rw[aN];simp;omega,λp hp=>by rcases dX.1 hp with hp|hp;exact h1.inb p hp;obtain rfl:=bJ.1 hp;exact hk⟩;rintro b (hb|hb|hb)
   ·exact h1.DJ b (.inl hb)
   ·exact nD2 b hb
   exact n5D b hb
  have mt:Mov w tv t5:=m5.imp id (λhh b hb=>bQ (bQ K1.size zzd) (hh b hb));have ma:Mov w av a2:=m2.imp id (λhh b hb=>bQ K1.size (hh b hb));have zul:Keep (RB D sv av tv) w (w5.setCell ⟨D,2,none⟩ t5):=
   (((K1.m (S':=RB D sv av tv) (λb _ hb=>Or.inl hb)).then (QQ.m (S':=RB D sv av tv) (λb _ hb=>hb.elim Or.inl (λhx=>Or.inr (Or.inr (Or.inl hx)))))).then (Xk.m (S':=RB D sv av tv) (λb _ hb=>Or.inr (Or.inr (Or.inr hb))))).setCell (p:=⟨D,2,none⟩) (.inl (Or.inl rfl)) t5
  clear zxh zvx ztj zxi zuh zxg n5D zkn Xk znI m5 KD K4 K5 K4';go_wp2_with fail;go_ret;exact⟨rfl,⟨a2,t5,hd,ma,mt⟩,zul⟩
end
def BM(qy:List af)(wait:List (Nat×af))(p:Nat->Bool):Nat->List af
 | 0=>qy
 | k+1=>if p k then(BM qy wait p k).set (wait.getD k (0,⟨#[]⟩)).1 (wait.getD k (0,⟨#[]⟩)).2 else BM qy wait p k
def zh7(qy:List af)(wait:List (Nat×af))(k:Nat)(hk:k<=wait.length):BM qy wait (λ_=>true) k=sQ qy (wait.take k):=by
 induction k with
 | zero=>simp[BM,sQ]
 | succ k ih=>rw[BM,bu rfl,ih (by omega),F6 qy wait k (by omega)]
section
variable {w:ax}{D:Nat}{sv av tv:ay}{qy:List af}{wait:List (Nat×af)}{qR:Int}
def xC.zeA(h:xC w D sv av tv qy wait qR){S:Nat}(hS:sv.ownBlock=some S)(i:Nat)(hi:i<66)(s:af):xC (w.setCell ⟨S,i,none⟩ (.string s)) D sv av tv (qy.set i s) wait qR:=by have K:Keep (qJ S) w (w.setCell ⟨S,i,none⟩ (.string s)):=(ah _ _).tK _ _;have h1:=h.row.store hS i hi (.string s);refine⟨K.heap h.head (λe=>h.DJ S (.inl hS) e.s),?_,h.ats.qm K (λb hb e=>(h.ML S hS).1 (e▸hb)),h.Xq.qm K (λb hb e=>(h.ML S hS).2 (e▸hb)),h.DJ,h.ML,h.ZX,by rw[fC];exact h.len,h.lo,h.hi,h.small,h.inb⟩;rw[strCells,kR];exact h1
def xC.zrZ(h:xC w D sv av tv qy wait qR):xC ((w.setCell ⟨D,1,none⟩ (.slice none 0 0)).setCell ⟨D,2,none⟩ (.slice none 0 0)) D sv (.slice none 0 0) (.slice none 0 0) qy [] qR:=by
 have K:Keep (qJ D) w ((w.setCell ⟨D,1,none⟩ (.slice none 0 0)).setCell ⟨D,2,none⟩ (.slice none 0 0)):=((ah _ w).tK _ _).tK _ _;refine⟨by rw[Ak (Ak h.head _)];rfl,h.row.qm K (λb hb=>h.DJ b (.inl hb)),qF.nil _ _ _ _,qF.nil _ _ _ _,?_,(λb hb=>⟨(λe=>by cases e),(λe=>by cases e)⟩),(λb hb=>by cases hb),h.len,h.lo,h.hi,fP _,(λp hp=>by cases hp)⟩;rintro b (hb|hb|hb)
 ·exact h.DJ b (.inl hb)
 ·cases hb
 cases hb
def zpL(h:xC w D sv av tv qy wait qR)(g:FuncId)(lb:Array ay)(p:Nat->Bool)(eg:∀args w,(callFunc g args).run prog w= .ok (.enter g args) w)
  (hg:∀wr,Keep (RB D sv av tv) w wr->∀i:Nat,i<wait.length->ae g (#[.int .i64 i]++lb) wr λe w'=>e= .returned (.bool (p i))∧w'=wr):
  ae 122 #[.pointer (some ⟨D,0,none⟩),.func (.func g) #[] lb] w λe w'=>e= .returned (.tuple #[])∧xC w' D sv (.slice none 0 0) (.slice none 0 0) (BM qy wait p wait.length) [] qR∧Keep (RB D sv av tv) w w':=by
 obtain⟨n,hn⟩:=aj wait.length;have hn6:n<=1000000:=by rw[hn];exact h.small
 obtain⟨pa,cpa,rfl⟩:∃p c,av= .slice p n c:=by
  rcases h.ats.2 with⟨hv,h0⟩|⟨g,cap,cur,fz,hv,_⟩
  ·exact⟨_,_,by rw[hv,hn,h0]⟩
  exact⟨_,_,by rw[hv,hn]⟩
 obtain⟨S,cS,rfl,_,_,_⟩:=h.row.at (by omega);rw[<-hn]at hg;rw[<-hn];obtain⟨_,ca,_,_,_⟩:=h.VI;have Hn:=ag hn;clear hn;go_enter func122,ntmps122;go_wp2_with fail;clear ca
 go_loopw [11] (λi wr=>∃k:Nat,k<=n∧i= .int .i64 k∧xC wr D (.slice (some ⟨S,0,none⟩) 66 cS) (.slice pa n cpa) tv (BM qy wait p k) wait qR∧Keep (RB D (.slice (some ⟨S,0,none⟩) 66 cS) (.slice pa n cpa) tv) w wr) (λi _=>n-(intOf i).toNat)
 case atStart=>exact⟨0,by omega,rfl,h,ah _ _⟩
 case round=>
  obtain⟨k,hk,rfl,hd,K⟩:=hrel;by_cases rE:k<n
  ·have j1:decide (k<n)=true:=by simp;omega
   have j2:(k:Int)<n:=by omega
   have ha:=hd.ats;have ht:=hd.Xq;rw[<-Hn.o]at ha ht;obtain⟨ga,_,hga,_,Xh,_⟩:=ha.at (by omega);cases hga;obtain⟨gt,ct',rfl,_,hcT,_⟩:=ht.at (by omega);obtain⟨x,hx⟩:=aj (wait.getD k (0,⟨#[]⟩));have hxe:wait[k]? =some x:=by rw[hx,aG,aK (by have:=Hn.o;omega)];rfl
   have hxi:x.1<66:=hd.inb x (bG hxe);have hxj:(x.1:Int)<66:=by omega
   have c1:=Xh k (.int .i64 (x.1:Int)) (by rw[En,aX,hxe];rfl);have c2:=hcT k (.string x.2) (by rw[zK,aX,hxe];rfl);have IZ:=hg wr K k rE;have wJ:BM qy wait p (k+1)=if p k then(BM qy wait p k).set x.1 x.2 else BM qy wait p k:=by rw[BM,<-hx]
   have Jm:=ag wJ;obtain⟨_,_,hSS,_,_,hfS⟩:=hd.row.at (by omega);cases hSS;have fS:=hfS x.1 hxi;have hsc:=hd.row.cells (g:=S) rfl x.1 (.string ((BM qy wait p k).getD x.1 ⟨#[]⟩)) (by rw[strCells,aX,aG,aK (by rw[hd.len];exact hxi)];rfl);have Dz:(⟨S,0,none⟩:Addr).add x.1=⟨S,x.1,none⟩:=by unfold Addr.add;split<;>simp_all
   rw[Dz]at hsc;obtain⟨csD,_,ctD,_,_⟩:=hd.VI;clear Dz hfS wJ hx hxe Xh hcT;go_wp2_with fail;refine IZ.m ?_;clear IZ;rintro e w' ⟨rfl,hw'⟩;subst w';cases hp:p k with
   | true=>
    have GI:BM qy wait p (k+1)=(BM qy wait p k).set x.1 x.2:=by rw[Jm.o,hp];rfl
    have zce:=ag GI;clear GI hp Jm;go_wp2_with fail;refine qV 13 (by kernel_rfl) (by kernel_rfl) ?_;simp only[dE,dD,dA,dF]
    repeat(quiet_step (fail))
    refine dP ?_;intro nq;have FK:=(hd.qm ((ah qw wr).drewN nq) (λ_ _ x=>x)).zeA (S:=S) rfl x.1 hxi x.2;rw[<-zce.o]at FK;have K2:Keep (RB D (.slice (some ⟨S,0,none⟩) 66 cS) (.slice (some ⟨ga,0,none⟩) n cpa) (.slice (some ⟨gt,0,none⟩) n ct')) w ((wr.drewN nq).setCell ⟨S,x.1,none⟩ (.string x.2)):=(K.drewN nq).setCell (p:=⟨S,x.1,none⟩) (.inl (Or.inr (Or.inl rfl))) _;go_wp2_with fail;exact⟨⟨k+1,by omega,by go_num,FK,K2⟩,by simp[intOf];omega⟩
   | false=>
    have GI:BM qy wait p (k+1)=BM qy wait p k:=by rw[Jm.o,hp];rfl
    rw[<-GI]at hd;clear GI hp Jm;go_wp2_with fail;exact⟨⟨k+1,by omega,by go_num,hd,K⟩,by simp[intOf];omega⟩
  obtain rfl:k=n:=by omega
  have j1:decide (k<k)=false:=by simp
  have FK:=hd.zrZ;obtain⟨_,c1,c2,_,ff⟩:=hd.VI;have f1:=ff 1;have f2:=ff 2;clear ff;go_wp2_with fail;go_end0;exact⟨rfl,FK,(K.setCell (p:=⟨D,1,none⟩) (.inl (Or.inl rfl)) _).setCell (p:=⟨D,2,none⟩) (.inl (Or.inl rfl)) _⟩
def zl6(i:Nat)(w:ax):ae 123 (#[.int .i64 i]++ #[]) w λe w'=>e= .returned (.bool true)∧w'=w:=by show ae 123 #[.int .i64 i] w _;go_enter func123,ntmps123;go_wp2;go_ret;exact⟨rfl,rfl⟩
def zaS(h:xC w D sv av tv qy wait qR)(hf:qR≠0):
  ae 65 #[.pointer (some ⟨D,0,none⟩)] w λe w'=>e= .returned (.int .i64 0)∧xC w' D sv (.slice none 0 0) (.slice none 0 0) (sQ qy wait) [] (x9 qR)∧Keep (RB D sv av tv) w w':=by
 have hb:=zdg h;rw[show decide (qR=0)=false by simpa using hf]at hb;have hl:BM qy wait (λ_=>true) wait.length=sQ qy wait:=by rw[zh7 _ _ _ (aS _),bg (aS _)]
 have Hl:=ag hl;clear hl;go_enter func65,ntmps65;go_wp2_with fail;refine hb.m ?_;clear hb;rintro e w1 ⟨rfl,h1,K1⟩;have BA:=zpL h1 123 #[] (λ_=>true) (enters_of func123 (by kernel_rfl) rfl) (λwr _ i _=>zl6 i wr);rw[Hl.o]at BA;go_wp2_with fail;refine BA.m ?_;clear BA;rintro e w2 ⟨rfl,h2,K2⟩;go_wp2_with fail;go_ret;exact⟨rfl,h2,(K1.m (λb _ hb=>Or.inl hb)).then K2⟩
end
section
variable {w:ax}{D:Nat}{sv av tv:ay}{qy:List af}{wait:List (Nat×af)}{qR:Int}
end
def zuE:uu (List.replicate 256 0)=zO:=rfl
def zjA(w:ax):
  ae 6 #[] w λe w'=>∃sv,e= .returned (.pointer (some ⟨w.heap.size,0,none⟩))∧xC w' w.heap.size sv (.slice none 0 0) (.slice none 0 0) IU [] (-1)∧(∀b,sv.ownBlock=some b->w.heap.size<b)∧ak w w':=by
 obtain⟨i0,zM,Ba,D9,D6⟩:=iC BP;obtain⟨D,hD⟩:=aj w.heap.size;have HD:=ag hD;have zld:=λw=>Ky 256 256 rfl (by omega) w;rw[zuE]at zld;clear hD;go_enter func6,ntmps6;go_wp2_with fail;rw[<-HD.o]
 go_loopw [4] (λi wr=>∃(k:Nat) (sv:ay),k<=66∧i= .int .i64 k∧wr.heap[D]? =some (.cells #[sv,.slice none 0 0,.slice none 0 0,.int .i64 (-1)] 90 (0,0))∧qF wr 0 9 1 sv k (strCells (List.replicate k zO))∧(∀b,sv.ownBlock=some b->D<b)∧ak w wr) (λi _=>66-(intOf i).toNat)
 case atStart=>exact⟨0,.slice none 0 0,by omega,rfl,by rw[HD.o];exact aQ w _,qF.nil _ _ _ _,(λb hb=>by cases hb),(ah qw w).alloc _⟩
 case round=>
  obtain⟨k,sv,hk,rfl,head,own,rE,K⟩:=hrel;by_cases hkk:k<66
  ·have j1:(k:Int)<66:=by omega
   have c0:wr.cell? ⟨D,0,none⟩=some sv:=by simp[World.cell?,head]
   have f0:wr.frozen? ⟨D,0,none⟩=false:=by simp[World.frozen?,head]
   have hDl:=lt_of_heap head;have nD:∀b,sv.ownBlock=some b->b≠D:=λb hb=>by have:=rE b hb;omega
   go_wp2_with fail
   go_region_law (first
    | (go_simp;go_at_call 34;refine(zld _).m ?_;rintro e w4 ⟨rfl,K4'⟩;have K4:ak wr w4:=((ah qw wr).drew).qo K4';have c4:=(K4.cell (p:=⟨D,0,none⟩) hDl (λx=>x)).t c0;have hD4:D<w4.heap.size:=dH hDl K4.size)
    | (refine JA rfl _ _ 88 rfl 0 9 i0 (.string ⟨#[]⟩) 1 16 gu zM Ba D9 D6 rfl (by decide) sv k (strCells (List.replicate k zO)) rfl ((own.qm K4 (λ_ _ x=>x)).alloc _) ⟨w4.heap.size,0,none⟩ 1 1 [.string zO] rfl rfl (rJ _ _ _) (by intro u hu;obtain rfl:=bJ.1 hu;rfl) (by unfold maxLen;omega) (by omega) (fP _) ?_;intro v5 w5 xq zH zG;have K5:Keep (λb=>sv.ownBlock=some b) w4 w5:=((ah _ w4).alloc _).grown zH (λc hc=> .inl hc);have c5:=(K5.cell (p:=⟨D,0,none⟩) (dH hDl K4.size) (λhb=>nD D hb rfl)).t c4;have f5:=(K5.frozen (p:=⟨D,0,none⟩) (dH hDl K4.size) (λhb=>nD D hb rfl)).t ((K4.frozen (p:=⟨D,0,none⟩) hDl (λx=>x)).t f0);obtain⟨g5,YF,rfl,_,_⟩:=xq.some (by omega)))
   all_goals
    have EH:qF w5 0 9 1 (.slice (some ⟨g5,0,none⟩) (k+1) YF) (k+1) (strCells (List.replicate (k+1) zO)):=by rw[o8,strCells,dK];exact xq
    have hg5:D<g5:=by
     rcases zG with zG|zG
     ·exact rE g5 (zG▸rfl)
     have q1:=zG g5 rfl;rw[lZ]at q1;omega
    have Xk:Keep (λb=>sv.ownBlock=some b) wr w5:=(K4.m (λb _ hb=>hb.elim)).then K5;have zkn:=Ak (i:=0) (Xk.heap head (λhb=>nD D hb rfl)) (.slice (some ⟨g5,0,none⟩) (k+1) YF);have zul:ak w (w5.setCell ⟨D,0,none⟩ (.slice (some ⟨g5,0,none⟩) (k+1) YF)):=(K.t Xk (λi hi hs=>by have:=rE i hs;have:=HD.o;omega)).setCell (p:=⟨D,0,none⟩) (.inr (show w.heap.size<=D by have:=HD.o;omega)) _;have Dx:=EH.qm ((ah (qJ D) w5).tK 0 (.slice (some ⟨g5,0,none⟩) (k+1) YF)) (λb hb=>by obtain rfl:g5=b:=aU hb;show¬g5=D;omega);clear xq zG zH EH Xk;go_wp2_with fail;exact⟨⟨k+1,.slice (some ⟨g5,0,none⟩) (k+1) YF,by omega,by go_num,zkn,Dx,(λb hb=>by obtain rfl:g5=b:=aU hb;exact hg5),zul⟩,by simp[intOf];omega⟩
  obtain rfl:k=66:=by omega
  have HD2:=HD.o;have hd:xC wr D sv (.slice none 0 0) (.slice none 0 0) IU [] (-1):=by
   refine⟨head,own,qF.nil _ _ _ _,qF.nil _ _ _ _,?_,(λb hb=>⟨(λe=>by cases e),(λe=>by cases e)⟩),(λb hb=>by cases hb),bP,by omega,by omega,fP _,(λp hp=>by cases hp)⟩;rintro b (hb|hb|hb)
   ·have:=rE b hb;omega
   ·cases hb
   cases hb
  clear HD2;go_wp2_with fail;go_ret;rw[<-HD.o];exact⟨sv,rfl,hd,rE,K⟩
section
variable {w:ax}{D:Nat}{sv av tv:ay}{qy:List af}{wait:List (Nat×af)}{qR:Int}
end
section
variable {w0 w:ax}{D S:Nat}{wv:ay}{qy:List af}{wait:List (Nat×af)}{qR:Int}
end
abbrev DSt:=List af×List (Nat×af)×Int
section
variable {w0 w w':ax}{D E B S:Nat}{wv sv av tv zV Ql Tt:ay}{d r d' r':DSt}{n n':Int}{x:Option (Nat×Obj)}
def xC.lt(h:xC w E sv av tv r.1 r.2.1 r.2.2):∀b,RB E sv av tv b->b<w.heap.size:=by
 rintro b (rfl|hb|hb|hb)
 ·exact lt_of_heap h.head
 ·exact(h.row.lt b hb).2
 ·exact(h.ats.lt b hb).2
 exact(h.Xq.lt b hb).2
def zgP(ha:Mov w av Ql)(ht:Mov w tv Tt):∀b,RB E sv Ql Tt b->RB E sv av tv b∨w.heap.size<=b:=by
 rintro b (hb|hb|hb|hb)
 ·exact .inl (.inl hb)
 ·exact .inl (.inr (.inl hb))
 ·rcases ha with ha|ha
  ·exact .inl (.inr (.inr (.inl (ha▸hb))))
  exact .inr (ha b hb)
 rcases ht with ht|ht
 ·exact .inl (.inr (.inr (.inr (ht▸hb))))
 exact .inr (ht b hb)
def zem :Mov w v (.slice none 0 0):= .inr (λb hb=>by cases hb)
end
