import Derived.Test.YtnmhgehpddipdaaGreatDoorYAD
import Derived.Test.YtnmhgehpddipdaaGreatDoorYAR
import Derived.Test.YtnmhgehpddipdaaGreatDoorYBA
import Derived.Test.YtnmhgehpddipdaaGreatDoorProg
import Derived.Lib.Hide
import Derived.Laws.CopyOwn
import Derived.IntWalk
set_option linter.unusedSimpArgs false
set_option linter.unusedVariables false
namespace Go.Proofs.YtnmhgehpddipdaaGreatDoor
open Go.RowKit Go.Cof
def pickN(a:Int)(n:Nat):Nat:=(a % 18446744073709551616 % (n:Int)).toNat
theorem pickN_lt(a:Int)(n:Nat)(hn:0<n):pickN a n<n:=by
 have h1:=Int.emod_lt_of_pos (a % 18446744073709551616) (show(0:Int)<n by omega)
 have h2:=Int.emod_nonneg (a % 18446744073709551616) (show(n:Int)≠0 by omega)
 rw[pickN];omega
theorem pick_any(a:Int)(i:Int)(n:Nat)(hi:i=n)(hn:0<n)(hn2:n<=1000000)(w:World):Calls Tryz.prog 6 #[.int .i64 a,.int .i64 i] w λe w'=>e= .returned (.int .i64 (pickN a n))∧w'=w:=by
 subst hi
 have h2:=Int.emod_nonneg (a % 18446744073709551616) (show(n:Int)≠0 by omega)
 have h1:=Int.emod_lt_of_pos (a % 18446744073709551616) (show(0:Int)<n by omega)
 have hp:((pickN a n:Nat):Int)=a % 18446744073709551616 % (n:Int):=by rw[pickN];omega
 rw[hp]
 have hn0:(n:Int)≠0:=by omega
 go_enter Tryz.func6,Tryz.ntmps6
 go_wp2_with fail
 go_ret
 refine⟨congrArg (λx=>Ending.returned (.int .i64 x)) ?_,rfl⟩
 rw[IntKind.wrap_u64,Int.tmod_eq_emod_of_nonneg (Int.emod_nonneg _ (by decide))]
 unfold wrap64
 omega
end Go.Proofs.YtnmhgehpddipdaaGreatDoor
namespace Go.Cof
open Go.RowKit
def repCells(s:ByteArray)(m:Nat):List Value:=List.replicate m (.string s)++List.replicate (66-m) (.string ⟨#[]⟩)
theorem repCells_len(s:ByteArray)(m:Nat)(h:m<=66):(repCells s m).length=66:=by rw[repCells,List.length_append,List.length_replicate,List.length_replicate];omega
theorem repCells_splice(s:ByteArray)(m c:Nat)(h:m+c<=66):splice (repCells s m) m (List.replicate c (.string s))=repCells s (m+c):=by
 have h1:(repCells s m).take m=List.replicate m (.string s):=by rw[repCells,List.take_append_of_le_length (by rw[List.length_replicate];exact Nat.le_refl _),List.take_of_length_le (by rw[List.length_replicate];exact Nat.le_refl _)]
 have h2:(repCells s m).drop (m+c)=List.replicate (66-(m+c)) (.string ⟨#[]⟩):=by
  rw[repCells,List.drop_append,List.length_replicate,List.drop_replicate,List.drop_replicate,show m-(m+c)=0 by omega,show 66-m-(m+c-m)=66-(m+c)by omega];rfl
 rw[splice,List.length_replicate,h1,h2,repCells,<-List.append_assoc,List.replicate_append_replicate]
theorem repCells_at(s:ByteArray)(m j:Nat)(h:j<m):(repCells s m)[j]? =some (.string s):=by
 rw[repCells,List.getElem?_append_left (by rw[List.length_replicate];exact h),List.getElem?_replicate,if_pos h]
end Go.Cof
namespace Go.Proofs.YtnmhgehpddipdaaGreatDoor
open Go.RowKit Go.Cof
theorem info_str:(Tryz.prog.info? 9).map (·.size)=some 1:=by kernel_rfl
theorem one_src{w:World}{b:Nat}{s:ByteArray}{E:TypeId}(hb:w.heap[b]? =some (.cells #[.string s] E (0,0)))(o:Obj):∀(j:Nat) (v:Value),[Value.string s][j]? =some v->(w.alloc o).cell? ((⟨b,0,none⟩:Addr).add j)=some v:=by
 intro j v hv
 have hadd:(⟨b,0,none⟩:Addr).add j=⟨b,0+j,none⟩:=by unfold Addr.add;split<;>simp_all
 rw[hadd]
 cases j with
 | zero=>exact(((Keep.refl NoB w).alloc _).cell (p:=⟨b,0,none⟩) (lt_of_heap hb) (λx=>x)).trans (by simpa [World.cell?,hb]using hv)
 | succ j=>simp at hv
set_option maxRecDepth 100000 in
set_option maxHeartbeats 4000000 in
theorem repeat66(s:ByteArray)(b:Nat)(w:World)(hb:w.heap[b]? =some (.cells #[.string s] 9 (0,0))):
  Calls Tryz.prog 29 #[.slice (some ⟨b,0,none⟩) 1 1,.int .i64 66] w λe w'=>e= .returned (.slice (some ⟨w.heap.size,0,none⟩) 66 66)∧w'.heap[w.heap.size]? =some (.cells (repCells s 66).toArray 9 (0,0))∧Keep NoB w w':=by
 have hmk:∀w:World,(Instr.makeSlice 26 (.int .i64 66) (.int .i64 66)).run Tryz.prog w= .ok (.slice (some ⟨w.heap.size,0,none⟩) 66 66) (w.alloc (.cells (repCells s 0).toArray 9)):=λ_=>by kernel_rfl
 have Hb:=Lib.hid hb
 clear hb
 go_enter Tryz.func29,Tryz.ntmps29
 go_wp2_with (first
  | (go_at_call 69;refine(Tryz.bits_Mul 1 66 (by decide) (by decide) w).mono ?_;rintro e w'' ⟨rfl,hw⟩;subst w'')
  | (refine wpList_copy_splice rfl (.tmp 31) (.tmp 32) 26 26 rfl 9 Tryz.underlying26 info_str _ _ _ _ _ _ rfl rfl w.heap.size 0 (repCells s 0) 9 (heap_alloc_new w _) [.string s] rfl (λ_=>⟨rfl,_,rfl,one_src Hb.out _⟩) (by rw[repCells_len _ _ (by omega)];show 0+1<=66;omega) (by simp[Value.oneCell']) w.heap.size w ((Below.refl _ w).alloc (Nat.le_refl _) _) (Nat.le_refl _) ?_;intro w2 H2 hb2))
 have H2':Hid (w2.heap[w.heap.size]? =some (.cells (repCells s 1).toArray 9 (0,0))):=by
  have:=H2.out
  rwa [show [Value.string s]=List.replicate 1 (.string s)from rfl,repCells_splice s 0 1 (by omega)]at this
 clear H2
 obtain⟨G,hG⟩:∃G,G=w.heap.size:=⟨_,rfl⟩
 rw[<-hG]at H2' hb2
 rw[<-hG]
 have HG:=Lib.hid hG
 clear hG hmk
 go_loopw [8] (λi wr=>∃m:Nat,1<=m∧m<=66∧i= .int .i64 m∧Hid (wr.heap[G]? =some (.cells (repCells s m).toArray 9 (0,0)))∧Below G w wr) (λi _=>66-(intOf i).toNat)
 case atStart=>exact⟨1,by omega,by omega,rfl,H2',hb2⟩
 case round=>
  clear H2' hb2 w2
  obtain⟨m,hm1,hm2,rfl,H,B⟩:=hrel
  by_cases hlt:m<66
  ·have j1:(m:Int)<66:=by omega
   have j2:(m:Int)<=66:=by omega
   have j3:¬(66=m):=by omega
   obtain⟨c,hc⟩:∃c,c=Nat.min m (66-m):=⟨_,rfl⟩
   have hc1:1<=c:=by rw[hc];show 1<=min m (66-m);omega
   have hc2:m+c<=66:=by rw[hc];show m+min m (66-m)<=66;omega
   have hc3:c<=m:=by rw[hc];show min m (66-m)<=m;omega
   have Hc:=Lib.hid hc
   have hsp:=repCells_splice s m c hc2
   have Hsp:=Lib.hid hsp
   clear hc hsp
   obtain⟨L,hL⟩:∃L,L=repCells s m:=⟨_,rfl⟩
   obtain⟨C,hC⟩:∃C,C=List.replicate c (Value.string s):=⟨_,rfl⟩
   have lC:Hid (C.length=c):=by show C.length=c;rw[hC,List.length_replicate]
   have lL:Hid (L.length=66):=by show L.length=66;rw[hL,repCells_len s m hm2]
   have oC:∀v∈C,v.oneCell'=true:=by rw[hC];intro v hv;rw[(List.mem_replicate.1 hv).2];rfl
   have hsrc:∀w2:World,w2.heap[G]? =wr.heap[G]? ->∀j v,C[j]? =some v->w2.cell? ((⟨G,0,none⟩:Addr).add j)=some v:=by
    intro w2 h2 j v hv
    have hadd:(⟨G,0,none⟩:Addr).add j=⟨G,0+j,none⟩:=by unfold Addr.add;split<;>simp_all
    rw[hadd,cell_of_row w2 G _ _ 9 (0,0) (h2.trans H.out)]
    rw[hC,List.getElem?_replicate]at hv
    split at hv
    ·rw[List.getElem?_toArray,Nat.zero_add,repCells_at s m j (by omega)];exact hv
    ·cases hv
   rw[<-hL]at Hsp
   rw[<-hC]at Hsp
   have H3:Hid (wr.heap[G]? =some (.cells L.toArray 9 (0,0))):=by rw[hL];exact H
   clear hL hC H
   go_wp2_with fail
   refine wp_region_pqt_drew 7 [0,1,2,3,4,5,6] (by kernel_rfl) (by kernel_rfl) (λc a d v w h=>by cases d<;>exact h) ?_
   rw[show restOf 7 [0,1,2,3,4,5,6]= []from rfl]
   simp only[pickL,List.getElem?_toArray,List.getElem?_cons_succ,List.getElem?_cons_zero,List.drop_succ_cons,List.drop_zero]
   repeat(refine wpEarly_step (λK hK=> ?_);go_simp;refine hK _ ?_;clear hK K)
   refine wpEarly_nil ?_
   refine wpQuiet_nil ?_
   intro nq
   refine wpList_copy_splice rfl (.tmp 41) (.tmp 44) 26 26 rfl 9 Tryz.underlying26 info_str (some ⟨G,m,none⟩) (some ⟨G,0,none⟩) (66-m) (66-m) m 66 rfl rfl G m L 9 (show(wr.drewN nq).heap[G]? =_ from H3.out) C (by rw[lC.out];exact Hc.out) (λ_=>⟨rfl,_,rfl,hsrc _ rfl⟩) (by rw[lC.out,lL.out];exact hc2) oC G w (⟨B.os,B.tape,B.output,B.size,B.block⟩:Below G w (wr.drewN nq)) (Nat.le_refl _) ?_
   rw[lC.out,Hsp.out]
   intro w2 H2 hb2
   go_wp2_with fail
   exact⟨⟨m+c,by omega,hc2,by simp,H2,hb2⟩,by simp[intOf];omega⟩
  ·obtain rfl:m=66:=by omega
   go_wp2_with fail
   go_ret
   rw[<-HG.out]
   exact⟨rfl,H.out,Keep.ofBelow (by rw[HG.out]at B;exact B)⟩
def sure0:List ByteArray:=List.replicate 66 zeroB
set_option maxRecDepth 100000 in
set_option maxHeartbeats 4000000 in
theorem newDev_any(w:World):
  Calls Tryz.prog 10 #[] w λe w'=>∃D S,e= .returned (.pointer (some ⟨D,0,none⟩))∧DevAt w' D S (.slice none 0 0) sure0 [] (-1)∧w.heap.size<=D∧w.heap.size<=S∧Keep NoB w w':=by
 go_enter Tryz.func10,Tryz.ntmps10
 go_wp2_with fail
 refine(zero_any w).mono ?_
 rintro e w1 ⟨rfl,K1⟩
 go_wp2_with fail
 refine(repeat66 zeroB w1.heap.size _ (heap_alloc_new w1 _)).mono ?_
 rintro e w2 ⟨rfl,h2,K2⟩
 rw[World.size_alloc]at h2
 rw[World.size_alloc]
 go_wp2_with fail
 go_ret
 have hlt:=lt_of_heap h2
 have s1:=K1.size
 refine⟨w2.heap.size,w1.heap.size+1,rfl,⟨⟨66,heap_alloc_new w2 _,Nat.le_refl _⟩,⟨(repCells zeroB 66).toArray,(((Keep.refl NoB w2).alloc _).heap h2 (λx=>x)),?_⟩,OwnsN.nil _ _ _ _,List.length_replicate,by omega,by omega,⟨by omega,λb hb=>by cases hb⟩,Nat.zero_le _,λp hp=>by cases hp⟩,by have:=K2.size;simp at this;omega,by omega,(((K1.alloc _).thenN K2).alloc _)⟩
 rw[repCells,sure0,strCells,Nat.sub_self,List.replicate_zero,List.append_nil,List.map_replicate]
 exact List.take_of_length_le (by rw[List.length_replicate];exact Nat.le_refl _)
end Go.Proofs.YtnmhgehpddipdaaGreatDoor
namespace Go.Proofs.YtnmhgehpddipdaaGreatDoor
open Go.RowKit Go.Cof
structure DevN(w0 w:World)(D S:Nat)(wv:Value)(sure:List ByteArray)(wait:List (Nat×ByteArray))(fuse:Int):Prop where
 dev:DevAt w D S wv sure wait fuse
 own:∀b,DevB D S wv b->w0.heap.size<=b
 keep:Keep NoB w0 w
def Moved(w:World)(wv wv':Value):Prop:=wv'.ownBlock=wv.ownBlock∨∀b,wv'.ownBlock=some b->w.heap.size<=b
section
variable {w0 w:World}{D S:Nat}{wv:Value}{sure:List ByteArray}{wait:List (Nat×ByteArray)}{fuse:Int}
theorem DevN.keepN(h:DevN w0 w D S wv sure wait fuse){w':World}(hk:Keep NoB w w'):DevN w0 w' D S wv sure wait fuse:=
 ⟨h.dev.keep hk (λ_ _ x=>x),h.own,h.keep.thenN hk⟩
end
theorem new_N(w:World):
  Calls Tryz.prog 10 #[] w λe w'=>∃D S,e= .returned (.pointer (some ⟨D,0,none⟩))∧DevN w w' D S (.slice none 0 0) sure0 [] (-1):=
 (newDev_any w).mono λ_ _ ⟨D,S,he,hd,h1,h2,hK⟩=>⟨D,S,he,hd,λb hb=>hb.elim (λe=>e▸h1) (λhb=>hb.elim (λe=>e▸h2) (λe=>by cases e)),hK⟩
theorem image_own{w:World}{D S:Nat}{wv:Value}{sure:List ByteArray}{wait:List (Nat×ByteArray)}{fuse:Int}(h:DevAt w D S wv sure wait fuse):
  Calls Tryz.prog 193 #[.pointer (some ⟨D,0,none⟩)] w λe w'=>∃g c,e= .returned (.slice (some ⟨g,0,none⟩) 66 c)∧Strs w' (.slice (some ⟨g,0,none⟩) 66 c) sure∧w.heap.size<=g∧(∃cs fz,w'.heap[g]? =some (.cells cs 9 fz))∧Keep NoB w w':=by
 obtain⟨_,c,cD,_⟩:=h.cell1
 have hb:∀j,j<sure.length->w.cell? ⟨S,0+j,none⟩=some (.string (sure.getD j ByteArray.empty)):=λj hj=>by
  rw[Nat.zero_add];exact(h.block j (by rw[<-h.len];exact hj)).1
 have hl:=h.len
 have hc:=Tryz.slices_Clone_string S 0 66 c sure w (by omega) (by omega) hb
 rw[List.take_of_length_le (by omega)]at hc
 clear hb
 have Hl:=Lib.hid hl
 clear hl
 go_enter Tryz.func193,Tryz.ntmps193
 go_wp2_with fail
 refine hc.mono ?_
 clear hc
 rintro e w1 ⟨v',rfl,ho,hne,hB⟩
 obtain⟨g,cap,rfl,hg⟩:=own_some ho (by omega)
 go_wp2_with fail
 go_ret
 have hlt:=(ho.lt g rfl).2
 have hty:∃cs fz,w1.heap[g]? =some (.cells cs 9 fz):=by
  obtain⟨_,⟨h0,_⟩|⟨g',_,cur,fz,hv,_,hh,_⟩⟩:=OwnsN.of ho
  ·cases h0
  ·cases hv;exact⟨cur,fz,hh⟩
 refine⟨g,cap,rfl,?_,hg,hty,Keep.ofBelow hB⟩
 refine .inr ⟨g,0,cap,by rw[Hl.out],hlt,λi hi=> ?_⟩
 have:=ho.cells (g:=g) rfl i (.string (sure.getD i ⟨#[]⟩)) (by simp[hi])
 have hadd:(⟨g,0,none⟩:Addr).add i=⟨g,0+i,none⟩:=by unfold Addr.add;split<;>simp_all
 rwa [hadd]at this
end Go.Proofs.YtnmhgehpddipdaaGreatDoor
namespace Go.Cof
open Go.RowKit
def laidAt(l:List ByteArray)(k:Nat):ByteArray:=if k<l.length then(l.getD k ⟨#[]⟩++zeroB).extract 0 256 else zeroB
def layTo(sure l:List ByteArray):Nat->List ByteArray
 | 0=>sure
 | k+1=>(layTo sure l k).set k (laidAt l k)
def layP(l:List ByteArray):List ByteArray:=(List.range 66).map (laidAt l)
theorem layTo_len(sure l:List ByteArray)(k:Nat):(layTo sure l k).length=sure.length:=by
 induction k with
 | zero=>rfl
 | succ k ih=>rw[layTo,List.length_set,ih]
theorem layTo_get(sure l:List ByteArray)(k i:Nat)(hk:k<=sure.length):(layTo sure l k)[i]? =if i<k then some (laidAt l i)else sure[i]? :=by
 induction k with
 | zero=>simp[layTo]
 | succ k ih=>
  rw[layTo]
  by_cases hi:i=k
  ·subst hi
   rw[List.getElem?_set_self (by rw[layTo_len];omega),if_pos (by omega)]
  ·rw[List.getElem?_set_ne (λe=>hi e.symm),ih (by omega)]
   by_cases h:i<k
   ·rw[if_pos h,if_pos (by omega)]
   ·rw[if_neg h,if_neg (by omega)]
theorem layTo_all(sure l:List ByteArray)(h:sure.length=66):layTo sure l 66=layP l:=by
 apply List.ext_getElem?
 intro i
 rw[layTo_get sure l 66 i (by omega),layP,List.getElem?_map]
 by_cases hi:i<66
 ·rw[if_pos hi,List.getElem?_range hi];rfl
 ·rw[if_neg hi,List.getElem?_eq_none (by omega),List.getElem?_eq_none (by rw[List.length_range];omega)];rfl
end Go.Cof
namespace Go.Proofs.YtnmhgehpddipdaaGreatDoor
open Go.RowKit Go.Cof
set_option maxRecDepth 100000 in
set_option maxHeartbeats 4000000 in
theorem lay_any{w:World}{D S:Nat}{wv:Value}{sure:List ByteArray}{wait:List (Nat×ByteArray)}{fuse:Int}(h:DevAt w D S wv sure wait fuse)(v:Value)(l:List ByteArray)(T:Strs w v l)(hl:l.length<=1000000)(hs:∀s∈l,s.size<=1000000)(hB:∀b,v.ownBlock=some b->¬DevB D S wv b):
  Calls Tryz.prog 194 #[.pointer (some ⟨D,0,none⟩),v] w λe w'=>e= .returned (.tuple #[])∧DevAt w' D S (.slice none 0 0) (layP l) [] fuse∧Keep (DevB D S wv) w w':=by
 obtain⟨a,c,rfl⟩:=T.len
 obtain⟨n,hn⟩:∃n,n=l.length:=⟨_,rfl⟩
 rw[<-hn]at T hB hl
 rw[<-hn]
 have Hn:=Lib.hid hn
 clear hn
 have hsl:=h.len
 have Hsl:=Lib.hid hsl
 clear hsl
 obtain⟨_,cD0,cDc,hcD⟩:=h.cell1
 go_enter Tryz.func194,Tryz.ntmps194
 go_wp2_with fail
 clear cDc
 go_loopw [10] (λi wr=>∃k:Nat,k<=66∧i= .int .i64 k∧DevAt wr D S wv (layTo sure l k) wait fuse∧Keep (DevB D S wv) w wr) (λi _=>66-(intOf i).toNat)
 case atStart=>exact⟨0,by omega,rfl,h,Keep.refl _ _⟩
 case round=>
  obtain⟨k,hk,rfl,hd,K⟩:=hrel
  by_cases hlt:k<66
  ·have j1:(k:Int)<66:=by omega
   have hdc:=hd.cell1
   obtain⟨_,cS,cD,hcS⟩:=hdc
   obtain⟨cb,fb⟩:=hd.block k hlt
   have hlt1:D<wr.heap.size:=by obtain⟨c,h2,_⟩:=hd.head;exact lt_of_heap h2
   have hlt2:S<wr.heap.size:=by obtain⟨c,h2,_⟩:=hd.row;exact lt_of_heap h2
   have hz:=λX:Ext wr=>zero_any (wr.ext X)
   go_wp2_with fail
   refine wp_region_qt_ext 7 (by kernel_rfl) (by kernel_rfl) ?_
   simp only[List.take_succ_cons,List.take_zero,List.drop_succ_cons,List.drop_zero]
   repeat(quiet_step ((go_at_call 30;exact quiet_ext _ (hz _))))
   refine wpQuiet_nil ?_
   intro X
   clear hz
   have hd1:=(hd.keep (ext_keep wr X) (λ_ _ x=>x)).setSure k hlt zeroB
   have K1:Keep (DevB D S wv) w ((wr.ext X).setCell ⟨S,k,none⟩ (.string zeroB)):=(K.thenN (ext_keep wr X)).setCell (p:=⟨S,k,none⟩) (.inl (Or.inr (Or.inl rfl))) _
   by_cases hkn:k<n
   ·have j2:decide (k<n)=true:=by simp;omega
    have j3:(k:Int)<n:=by omega
    go_wp2_with fail
    refine wp_world (λw2=>DevAt w2 D S wv ((layTo sure l k).set k zeroB) wait fuse∧Keep (DevB D S wv) w w2) ⟨hd1,K1⟩ ?_
    clear hd1 K1 cb fb hd K cD hcS hlt1 hlt2
    clear X
    intro w2 hw2
    obtain⟨hd,K⟩:=hw2
    have hdc:=hd.cell1
    obtain⟨_,cS2,cD,hcS⟩:=hdc
    obtain⟨cb,fb⟩:=hd.block k hlt
    have hlt1:D<w2.heap.size:=by obtain⟨c,h2,_⟩:=hd.head;exact lt_of_heap h2
    have hlt2:S<w2.heap.size:=by obtain⟨c,h2,_⟩:=hd.row;exact lt_of_heap h2
    have T2:=T.keep K hB
    obtain⟨b,off,rfl,hnl,hb,hcell⟩:=T2.at (by have:=Hn.out;omega)
    have hck:=hcell k (by have:=Hn.out;omega)
    obtain⟨s,hsx⟩:∃s,s=l.getD k ⟨#[]⟩:=⟨_,rfl⟩
    rw[<-hsx]at hck
    have hsz:s.size<=1000000:=by
     apply hs
     rw[hsx,List.getD_eq_getElem?_getD,List.getElem?_eq_getElem (by have:=Hn.out;omega)]
     exact List.getElem_mem _
    have hla:laidAt l k=(s++zeroB).extract 0 256:=by rw[laidAt,if_pos (by have:=Hn.out;omega),hsx]
    have hstep:((layTo sure l k).set k zeroB).set k ((s++zeroB).extract 0 256)=layTo sure l (k+1):=by rw[List.set_set,layTo,hla]
    have Hstep:=Lib.hid hstep
    have hcat:¬(9223372036854775807<s.size+zeroB.size):=by rw[zeroB_size];omega
    have hlen:(256:Int)<=s.size+zeroB.size:=by rw[zeroB_size];omega
    have hlen2:256<=(s++zeroB).size:=by rw[ByteArray.size_append,zeroB_size];omega
    have hz:=λX:Ext w2=>zero_any (w2.ext X)
    clear hsx hla hstep hcell hnl T2
    refine wp_region_qt_ext 13 (by kernel_rfl) (by kernel_rfl) ?_
    simp only[List.take_succ_cons,List.take_zero,List.drop_succ_cons,List.drop_zero]
    repeat(quiet_step ((go_at_call 30;exact quiet_ext _ (hz _))))
    refine wpQuiet_nil ?_
    intro X
    clear hz
    go_wp2_with fail
    have hd3:=(hd.keep (ext_keep w2 X) (λ_ _ x=>x)).setSure k hlt ((s++zeroB).extract 0 256)
    rw[Hstep.out]at hd3
    exact⟨⟨k+1,by omega,by go_num,hd3,(K.thenN (ext_keep w2 X)).setCell (p:=⟨S,k,none⟩) (.inl (Or.inr (Or.inl rfl))) _⟩,by simp[intOf];omega⟩
   ·have j2:decide (k<n)=false:=by simp;omega
    have hla:laidAt l k=zeroB:=by rw[laidAt,if_neg (by have:=Hn.out;omega)]
    rw[<-hla]at hd1
    have hd2:DevAt _ D S wv (layTo sure l (k+1)) wait fuse:=hd1
    rw[hla]at hd2
    clear hd1 hla
    go_wp2_with fail
    exact⟨⟨k+1,by omega,by go_num,hd2,K1⟩,by simp[intOf];omega⟩
  ·obtain rfl:k=66:=by omega
   rw[layTo_all sure l Hsl.out]at hd
   have c1:=hd.cell1.1
   have f1:=hd.cell2.2 1
   have hd2:=hd.setWait (.slice none 0 0) [] (OwnsN.nil _ _ _ _) (λb hb=>by cases hb) (Nat.zero_le _) (λp hp=>by cases hp)
   go_wp2_with fail
   go_end0
   exact⟨rfl,hd2,K.setCell (p:=⟨D,1,none⟩) (.inl (Or.inl rfl)) _⟩
end Go.Proofs.YtnmhgehpddipdaaGreatDoor
