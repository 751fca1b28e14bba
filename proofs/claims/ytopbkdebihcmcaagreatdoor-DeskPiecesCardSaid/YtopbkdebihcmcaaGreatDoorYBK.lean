import Derived.Test.YtopbkdebihcmcaaGreatDoorYAR
import Derived.Test.YtopbkdebihcmcaaGreatDoorYAZ
import Derived.Laws.CopyOwn
set_option linter.unusedSimpArgs false
set_option linter.unusedVariables false
namespace Go.Proofs.YtopbkdebihcmcaaGreatDoor
open Go.RowKit
set_option maxRecDepth 100000
set_option maxHeartbeats 16000000
def sD(s:af)(m:Nat):List Value:=List.replicate m (.string s)++List.replicate (66-m) (.string ⟨#[]⟩)
theorem LC(s:af)(m:Nat)(h:m<=66):(sD s m).length=66:=by rw[sD,ay,bP,bP];omega
theorem Fz(s:af)(m c:Nat)(h:m+c<=66):splice (sD s m) m (List.replicate c (.string s))=sD s (m+c):=by
 have h1:(sD s m).take m=List.replicate m (.string s):=by rw[sD,List.take_append_of_le_length (by rw[bP];exact aF _),aV (by rw[bP];exact aF _)]
 have h2:(sD s m).drop (m+c)=List.replicate (66-(m+c)) (.string ⟨#[]⟩):=by rw[sD,List.drop_append,bP,mJ,mJ,show m-(m+c)=0 by omega,show 66-m-(m+c-m)=66-(m+c)by omega];rfl
 rw[splice,bP,h1,h2,sD,<-bu,List.replicate_append_replicate]
theorem ZZ(s:af)(m j:Nat)(h:j<m):(sD s m)[j]? =some (.string s):=by rw[sD,dE (by rw[bP];exact h),jg,aP h]
theorem Zk:(Tryz.prog.info? 9).map (·.size)=some 1:=by kernel_rfl
theorem ziU{w:World}{b:Nat}{s:af}{E:TypeId}(hb:w.heap[b]? =some (.cells #[.string s] E (0,0)))(o:Obj):∀(j:Nat) (v:Value),[Value.string s][j]? =some v->(w.alloc o).cell? ((⟨b,0,none⟩:Addr).add j)=some v:=by
 intro j v hv;have hadd:(⟨b,0,none⟩:Addr).add j=⟨b,0+j,none⟩:=by unfold Addr.add;split<;>simp_all
 rw[hadd];cases j with
 | zero=>exact(((ah nM w).alloc _).cell (p:=⟨b,0,none⟩) (lt_of_heap hb) (λx=>x)).trans (by simpa [World.cell?,hb]using hv)
 | succ j=>simp at hv
theorem zgR(s:af)(b:Nat)(w:World)(hb:w.heap[b]? =some (.cells #[.string s] 9 (0,0))):
  ae 24 #[.slice (some ⟨b,0,none⟩) 1 1,.int .i64 66] w λe w'=>e= .returned (.slice (some ⟨w.heap.size,0,none⟩) 66 66)∧w'.heap[w.heap.size]? =some (.cells (sD s 66).toArray 9 (0,0))∧Keep nM w w':=by
 have hmk:∀w:World,(Instr.makeSlice 28 (.int .i64 66) (.int .i64 66)).run Tryz.prog w= .ok (.slice (some ⟨w.heap.size,0,none⟩) 66 66) (w.alloc (.cells (sD s 0).toArray 9)):=λ_=>by kernel_rfl
 have Hb:=ag hb;clear hb;go_enter Tryz.func24,Tryz.ntmps24;go_wp2_with (first
  | (go_at_call 55;refine(Tryz.bits_Mul 1 66 (by decide) (by decide) w).mono ?_;rintro e w'' ⟨rfl,hw⟩;subst w'')
  | (refine wpList_copy_splice rfl (.tmp 31) (.tmp 32) 28 28 rfl 9 Tryz.underlying28 Zk _ _ _ _ _ _ rfl rfl w.heap.size 0 (sD s 0) 9 (aG w _) [.string s] rfl (λ_=>⟨rfl,_,rfl,ziU Hb.out _⟩) (by rw[LC _ _ (by omega)];show 0+1<=66;omega) (by simp[Value.oneCell']) w.heap.size w ((lG _ w).alloc (aF _) _) (aF _) ?_;intro w2 H2 hb2))
 have H2':Hid (w2.heap[w.heap.size]? =some (.cells (sD s 1).toArray 9 (0,0))):=by
  have:=H2.out
  rwa [show [Value.string s]=List.replicate 1 (.string s)from rfl,Fz s 0 1 (by omega)]at this
 clear H2;obtain⟨G,hG⟩:∃G,G=w.heap.size:=⟨_,rfl⟩
 rw[<-hG]at H2' hb2;rw[<-hG];have HG:=ag hG;clear hG hmk
 go_loopw [8] (λi wr=>∃m:Nat,1<=m∧m<=66∧i= .int .i64 m∧Hid (wr.heap[G]? =some (.cells (sD s m).toArray 9 (0,0)))∧Below G w wr) (λi _=>66-(intOf i).toNat)
 case atStart=>exact⟨1,by omega,by omega,rfl,H2',hb2⟩
 case round=>
  clear H2' hb2 w2;obtain⟨m,hm1,hm2,rfl,H,B⟩:=hrel;by_cases hlt:m<66
  ·have j1:(m:Int)<66:=by omega
   have j2:(m:Int)<=66:=by omega
   have j3:¬(66=m):=by omega
   obtain⟨c,hc⟩:∃c,c=Nat.min m (66-m):=⟨_,rfl⟩
   have hc1:1<=c:=by rw[hc];show 1<=min m (66-m);omega
   have hc2:m+c<=66:=by rw[hc];show m+min m (66-m)<=66;omega
   have hc3:c<=m:=by rw[hc];show min m (66-m)<=m;omega
   have Hc:=ag hc;have hsp:=Fz s m c hc2;have Hsp:=ag hsp;clear hc hsp;obtain⟨L,hL⟩:∃L,L=sD s m:=⟨_,rfl⟩
   obtain⟨C,hC⟩:∃C,C=List.replicate c (Value.string s):=⟨_,rfl⟩
   have lC:Hid (C.length=c):=by show C.length=c;rw[hC,bP]
   have lL:Hid (L.length=66):=by show L.length=66;rw[hL,LC s m hm2]
   have oC:∀v∈C,v.oneCell'=true:=by rw[hC];intro v hv;rw[(iW.1 hv).2];rfl
   have hsrc:∀w2:World,w2.heap[G]? =wr.heap[G]? ->∀j v,C[j]? =some v->w2.cell? ((⟨G,0,none⟩:Addr).add j)=some v:=by
    intro w2 h2 j v hv;have hadd:(⟨G,0,none⟩:Addr).add j=⟨G,0+j,none⟩:=by unfold Addr.add;split<;>simp_all
    rw[hadd,aO w2 G _ _ 9 (0,0) (h2.trans H.out)];rw[hC,jg]at hv;split at hv
    ·rw[aj,dM,ZZ s m j (by omega)];exact hv
    ·cases hv
   rw[<-hL]at Hsp;rw[<-hC]at Hsp;have H3:Hid (wr.heap[G]? =some (.cells L.toArray 9 (0,0))):=by rw[hL];exact H
   clear hL hC H;go_wp2_with fail;refine yR 7 [0,1,2,3,4,5,6] (by kernel_rfl) (by kernel_rfl) (λc a d v w h=>by cases d<;>exact h) ?_;rw[show Et 7 [0,1,2,3,4,5,6]= []from rfl];simp only[nR,aj,ak,au,dh,cO]
   repeat(refine zy (λK hK=> ?_);go_simp;refine hK _ ?_;clear hK K)
   refine AO ?_;refine dF ?_;intro nq;refine wpList_copy_splice rfl (.tmp 41) (.tmp 44) 28 28 rfl 9 Tryz.underlying28 Zk (some ⟨G,m,none⟩) (some ⟨G,0,none⟩) (66-m) (66-m) m 66 rfl rfl G m L 9 (show(wr.drewN nq).heap[G]? =_ from H3.out) C (by rw[lC.out];exact Hc.out) (λ_=>⟨rfl,_,rfl,hsrc _ rfl⟩) (by rw[lC.out,lL.out];exact hc2) oC G w (⟨B.os,B.tape,B.output,B.size,B.block⟩:Below G w (wr.drewN nq)) (aF _) ?_;rw[lC.out,Hsp.out];intro w2 H2 hb2;go_wp2_with fail;exact⟨⟨m+c,by omega,hc2,by simp,H2,hb2⟩,by simp[intOf];omega⟩
  ·obtain rfl:m=66:=by omega
   go_wp2_with fail;go_ret;rw[<-HG.out];exact⟨rfl,H.out,Keep.vg (by rw[HG.out]at B;exact B)⟩
def wU:List af:=List.replicate 66 ug
theorem EX(w:World):
  ae 12 #[] w λe w'=>∃D S,e= .returned (.pointer (some ⟨D,0,none⟩))∧qm w' D S (.slice none 0 0) wU [] (-1)∧w.heap.size<=D∧w.heap.size<=S∧Keep nM w w':=by
 go_enter Tryz.func12,Tryz.ntmps12;go_wp2_with fail;refine(J3 w).mono ?_;rintro e w1 ⟨rfl,K1⟩;go_wp2_with fail;refine(zgR ug w1.heap.size _ (aG w1 _)).mono ?_;rintro e w2 ⟨rfl,h2,K2⟩;rw[eP]at h2;rw[eP];go_wp2_with fail;go_ret;have hlt:=lt_of_heap h2;have s1:=K1.size;refine⟨w2.heap.size,w1.heap.size+1,rfl,⟨⟨66,aG w2 _,aF _⟩,⟨(sD ug 66).toArray,(((ah nM w2).alloc _).heap h2 (λx=>x)),?_⟩,nV.nil _ _ _ _,bP,by omega,by omega,⟨by omega,λb hb=>by cases hb⟩,dL _,λp hp=>by cases hp⟩,by have:=K2.size;simp at this;omega,by omega,(((K1.alloc _).nK K2).alloc _)⟩;rw[sD,wU,strCells,lU,List.replicate_zero,dJ,mQ];exact aV (by rw[bP];exact aF _)
structure DevN(w0 w:World)(D S:Nat)(wv:Value)(sure:List af)(wait:List (Nat×af))(oD:Int):Prop where
 dev:qm w D S wv sure wait oD
 own:∀b,qg D S wv b->w0.heap.size<=b
 keep:Keep nM w0 w
def zL(w:World)(wv wv':Value):Prop:=wv'.ownBlock=wv.ownBlock∨∀b,wv'.ownBlock=some b->w.heap.size<=b
section
variable {w0 w:World}{D S:Nat}{wv:Value}{sure:List af}{wait:List (Nat×af)}{oD:Int}
end
end Go.Proofs.YtopbkdebihcmcaaGreatDoor
