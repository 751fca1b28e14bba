import Derived.Test.YtkjjpcebjcaadaaGreatDoorYAR
import Derived.Test.YtkjjpcebjcaadaaGreatDoorYBA
import Derived.Laws.CopyOwn
import Derived.IntWalk
set_option linter.unusedSimpArgs false
set_option linter.unusedVariables false
namespace Go.Cof
open Go.RowKit
def repCells(s:ByteArray)(m:Nat):List Value:=List.replicate m (.string s)++List.replicate (66-m) (.string ⟨#[]⟩)
theorem repCells_len(s:ByteArray)(m:Nat)(h:m<=66):(repCells s m).length=66:=by rw[repCells,List.length_append,List.length_replicate,List.length_replicate];omega
theorem repCells_splice(s:ByteArray)(m c:Nat)(h:m+c<=66):splice (repCells s m) m (List.replicate c (.string s))=repCells s (m+c):=by
 have h1:(repCells s m).take m=List.replicate m (.string s):=by rw[repCells,List.take_append_of_le_length (by rw[List.length_replicate];exact Nat.le_refl _),List.take_of_length_le (by rw[List.length_replicate];exact Nat.le_refl _)]
 have h2:(repCells s m).drop (m+c)=List.replicate (66-(m+c)) (.string ⟨#[]⟩):=by
  rw[repCells,List.drop_append,List.length_replicate,List.drop_replicate,List.drop_replicate,show m-(m+c)=0 by omega,show 66-m-(m+c-m)=66-(m+c)by omega];rfl
 rw[splice,List.length_replicate,h1,h2,repCells,<-List.append_assoc,List.replicate_append_replicate]
theorem repCells_at(s:ByteArray)(m j:Nat)(h:j<m):(repCells s m)[j]? =some (.string s):=by
 rw[repCells,List.getElem?_append_left (by rw[List.length_replicate];exact h),List.getElem?_replicate,if_pos h]
end Go.Cof
namespace Go.Proofs.YtkjjpcebjcaadaaGreatDoor
open Go.RowKit Go.Cof
theorem info_str:(Tryz.prog.info? 9).map (·.size)=some 1:=by kernel_rfl
theorem one_src{w:World}{b:Nat}{s:ByteArray}{E:TypeId}(hb:w.heap[b]? =some (.cells #[.string s] E (0,0)))(o:Obj):∀(j:Nat) (v:Value),[Value.string s][j]? =some v->(w.alloc o).cell? ((⟨b,0,none⟩:Addr).add j)=some v:=by
 intro j v hv
 have hadd:(⟨b,0,none⟩:Addr).add j=⟨b,0+j,none⟩:=by unfold Addr.add;split<;>simp_all
 rw[hadd]
 cases j with
 | zero=>exact(((Keep.refl NoB w).alloc _).cell (p:=⟨b,0,none⟩) (lt_of_heap hb) (λx=>x)).trans (by simpa [World.cell?,hb]using hv)
 | succ j=>simp at hv
set_option maxRecDepth 100000 in
set_option maxHeartbeats 4000000 in
theorem repeat66(s:ByteArray)(b:Nat)(w:World)(hb:w.heap[b]? =some (.cells #[.string s] 9 (0,0))):
  Calls Tryz.prog 49 #[.slice (some ⟨b,0,none⟩) 1 1,.int .i64 66] w λe w'=>e= .returned (.slice (some ⟨w.heap.size,0,none⟩) 66 66)∧w'.heap[w.heap.size]? =some (.cells (repCells s 66).toArray 9 (0,0))∧Keep NoB w w':=by
 have hmk:∀w:World,(Instr.makeSlice 102 (.int .i64 66) (.int .i64 66)).run Tryz.prog w= .ok (.slice (some ⟨w.heap.size,0,none⟩) 66 66) (w.alloc (.cells (repCells s 0).toArray 9)):=λ_=>by kernel_rfl
 have Hb:=Lib.hid hb
 clear hb
 go_enter Tryz.func49,Tryz.ntmps49
 go_wp2_with (first
  | (go_at_call 107;refine(Tryz.bits_Mul 1 66 (by decide) (by decide) w).mono ?_;rintro e w'' ⟨rfl,hw⟩;subst w'')
  | (refine wpList_copy_splice rfl (.tmp 31) (.tmp 32) 102 102 rfl 9 Tryz.underlying102 info_str _ _ _ _ _ _ rfl rfl w.heap.size 0 (repCells s 0) 9 (heap_alloc_new w _) [.string s] rfl (λ_=>⟨rfl,_,rfl,one_src Hb.out _⟩) (by rw[repCells_len _ _ (by omega)];show 0+1<=66;omega) (by simp[Value.oneCell']) w.heap.size w ((Below.refl _ w).alloc (Nat.le_refl _) _) (Nat.le_refl _) ?_;intro w2 H2 hb2))
 have H2':Hid (w2.heap[w.heap.size]? =some (.cells (repCells s 1).toArray 9 (0,0))):=by
  have:=H2.out
  rwa [show [Value.string s]=List.replicate 1 (.string s)from rfl,repCells_splice s 0 1 (by omega)]at this
 clear H2
 obtain⟨G,hG⟩:∃G,G=w.heap.size:=⟨_,rfl⟩
 rw[<-hG]at H2' hb2
 rw[<-hG]
 have HG:=Lib.hid hG
 clear hG hmk
 go_loopw [8] (λi wr=>∃m:Nat,1<=m∧m<=66∧i= .int .i64 m∧Hid (wr.heap[G]? =some (.cells (repCells s m).toArray 9 (0,0)))∧Below G w wr) (λi _=>66-(intOf i).toNat)
 case atStart=>exact⟨1,by omega,by omega,rfl,H2',hb2⟩
 case round=>
  clear H2' hb2 w2
  obtain⟨m,hm1,hm2,rfl,H,B⟩:=hrel
  by_cases hlt:m<66
  ·have j1:(m:Int)<66:=by omega
   have j2:(m:Int)<=66:=by omega
   have j3:¬(66=m):=by omega
   obtain⟨c,hc⟩:∃c,c=Nat.min m (66-m):=⟨_,rfl⟩
   have hc1:1<=c:=by rw[hc];show 1<=min m (66-m);omega
   have hc2:m+c<=66:=by rw[hc];show m+min m (66-m)<=66;omega
   have hc3:c<=m:=by rw[hc];show min m (66-m)<=m;omega
   have Hc:=Lib.hid hc
   have hsp:=repCells_splice s m c hc2
   have Hsp:=Lib.hid hsp
   clear hc hsp
   obtain⟨L,hL⟩:∃L,L=repCells s m:=⟨_,rfl⟩
   obtain⟨C,hC⟩:∃C,C=List.replicate c (Value.string s):=⟨_,rfl⟩
   have lC:Hid (C.length=c):=by show C.length=c;rw[hC,List.length_replicate]
   have lL:Hid (L.length=66):=by show L.length=66;rw[hL,repCells_len s m hm2]
   have oC:∀v∈C,v.oneCell'=true:=by rw[hC];intro v hv;rw[(List.mem_replicate.1 hv).2];rfl
   have hsrc:∀w2:World,w2.heap[G]? =wr.heap[G]? ->∀j v,C[j]? =some v->w2.cell? ((⟨G,0,none⟩:Addr).add j)=some v:=by
    intro w2 h2 j v hv
    have hadd:(⟨G,0,none⟩:Addr).add j=⟨G,0+j,none⟩:=by unfold Addr.add;split<;>simp_all
    rw[hadd,cell_of_row w2 G _ _ 9 (0,0) (h2.trans H.out)]
    rw[hC,List.getElem?_replicate]at hv
    split at hv
    ·rw[List.getElem?_toArray,Nat.zero_add,repCells_at s m j (by omega)];exact hv
    ·cases hv
   rw[<-hL]at Hsp
   rw[<-hC]at Hsp
   have H3:Hid (wr.heap[G]? =some (.cells L.toArray 9 (0,0))):=by rw[hL];exact H
   clear hL hC H
   go_wp2_with fail
   refine wp_region_pqt_drew 7 [0,1,2,3,4,5,6] (by kernel_rfl) (by kernel_rfl) (λc a d v w h=>by cases d<;>exact h) ?_
   rw[show restOf 7 [0,1,2,3,4,5,6]= []from rfl]
   simp only[pickL,List.getElem?_toArray,List.getElem?_cons_succ,List.getElem?_cons_zero,List.drop_succ_cons,List.drop_zero]
   repeat(refine wpEarly_step (λK hK=> ?_);go_simp;refine hK _ ?_;clear hK K)
   refine wpEarly_nil ?_
   refine wpQuiet_nil ?_
   intro nq
   refine wpList_copy_splice rfl (.tmp 41) (.tmp 44) 102 102 rfl 9 Tryz.underlying102 info_str (some ⟨G,m,none⟩) (some ⟨G,0,none⟩) (66-m) (66-m) m 66 rfl rfl G m L 9 (show(wr.drewN nq).heap[G]? =_ from H3.out) C (by rw[lC.out];exact Hc.out) (λ_=>⟨rfl,_,rfl,hsrc _ rfl⟩) (by rw[lC.out,lL.out];exact hc2) oC G w (⟨B.os,B.tape,B.output,B.size,B.block⟩:Below G w (wr.drewN nq)) (Nat.le_refl _) ?_
   rw[lC.out,Hsp.out]
   intro w2 H2 hb2
   go_wp2_with fail
   exact⟨⟨m+c,by omega,hc2,by simp,H2,hb2⟩,by simp[intOf];omega⟩
  ·obtain rfl:m=66:=by omega
   go_wp2_with fail
   go_ret
   rw[<-HG.out]
   exact⟨rfl,H.out,Keep.ofBelow (by rw[HG.out]at B;exact B)⟩
def sure0:List ByteArray:=List.replicate 66 zeroB
set_option maxRecDepth 100000 in
set_option maxHeartbeats 4000000 in
theorem newDev_any(w:World):
  Calls Tryz.prog 9 #[] w λe w'=>∃D S,e= .returned (.pointer (some ⟨D,0,none⟩))∧DevAt w' D S (.slice none 0 0) sure0 [] (-1)∧w.heap.size<=D∧w.heap.size<=S∧Keep NoB w w':=by
 go_enter Tryz.func9,Tryz.ntmps9
 go_wp2_with fail
 refine(zero_any w).mono ?_
 rintro e w1 ⟨rfl,K1⟩
 go_wp2_with fail
 refine(repeat66 zeroB w1.heap.size _ (heap_alloc_new w1 _)).mono ?_
 rintro e w2 ⟨rfl,h2,K2⟩
 rw[World.size_alloc]at h2
 rw[World.size_alloc]
 go_wp2_with fail
 go_ret
 have hlt:=lt_of_heap h2
 have s1:=K1.size
 refine⟨w2.heap.size,w1.heap.size+1,rfl,⟨⟨66,heap_alloc_new w2 _,Nat.le_refl _⟩,⟨(repCells zeroB 66).toArray,(((Keep.refl NoB w2).alloc _).heap h2 (λx=>x)),?_⟩,OwnsN.nil _ _ _ _,List.length_replicate,by omega,by omega,⟨by omega,λb hb=>by cases hb⟩,Nat.zero_le _,λp hp=>by cases hp⟩,by have:=K2.size;simp at this;omega,by omega,(((K1.alloc _).thenN K2).alloc _)⟩
 rw[repCells,sure0,strCells,Nat.sub_self,List.replicate_zero,List.append_nil,List.map_replicate]
 exact List.take_of_length_le (by rw[List.length_replicate];exact Nat.le_refl _)
end Go.Proofs.YtkjjpcebjcaadaaGreatDoor
namespace Go.Proofs.YtkjjpcebjcaadaaGreatDoor
open Go.RowKit Go.Cof
structure DevN(w0 w:World)(D S:Nat)(wv:Value)(sure:List ByteArray)(wait:List (Nat×ByteArray))(fuse:Int):Prop where
 dev:DevAt w D S wv sure wait fuse
 own:∀b,DevB D S wv b->w0.heap.size<=b
 keep:Keep NoB w0 w
def Moved(w:World)(wv wv':Value):Prop:=wv'.ownBlock=wv.ownBlock∨∀b,wv'.ownBlock=some b->w.heap.size<=b
section
variable {w0 w:World}{D S:Nat}{wv:Value}{sure:List ByteArray}{wait:List (Nat×ByteArray)}{fuse:Int}
theorem DevN.keepN(h:DevN w0 w D S wv sure wait fuse){w':World}(hk:Keep NoB w w'):DevN w0 w' D S wv sure wait fuse:=
 ⟨h.dev.keep hk (λ_ _ x=>x),h.own,h.keep.thenN hk⟩
end
theorem new_N(w:World):
  Calls Tryz.prog 9 #[] w λe w'=>∃D S,e= .returned (.pointer (some ⟨D,0,none⟩))∧DevN w w' D S (.slice none 0 0) sure0 [] (-1):=
 (newDev_any w).mono λ_ _ ⟨D,S,he,hd,h1,h2,hK⟩=>⟨D,S,he,hd,λb hb=>hb.elim (λe=>e▸h1) (λhb=>hb.elim (λe=>e▸h2) (λe=>by cases e)),hK⟩
end Go.Proofs.YtkjjpcebjcaadaaGreatDoor
