import Derived.Test.YtopbkdebihcmcaaGreatDoorYAY
import Derived.Test.YtopbkdebihcmcaaGreatDoorYBK
set_option linter.unusedSimpArgs false
set_option linter.unusedVariables false
namespace Go.Proofs.YtopbkdebihcmcaaGreatDoor
open Go.RowKit
set_option maxRecDepth 100000
set_option maxHeartbeats 16000000
theorem zes{w:World}{D S:Nat}{wv:Value}{sure:List af}{wait:List (Nat×af)}{oD:Int}(h:qm w D S wv sure wait oD):
  ae 77 #[.pointer (some ⟨D,0,none⟩)] w λe w'=>∃g c,e= .returned (.slice (some ⟨g,0,none⟩) 66 c)∧Strs w' (.slice (some ⟨g,0,none⟩) 66 c) sure∧w.heap.size<=g∧(∃cs fz,w'.heap[g]? =some (.cells cs 9 fz))∧Keep nM w w':=by
 obtain⟨_,c,cD,_⟩:=h.cell1;have hb:∀j,j<sure.length->w.cell? ⟨S,0+j,none⟩=some (.string (sure.getD j ByteArray.empty)):=λj hj=>by rw[dM];exact(h.block j (by rw[<-h.len];exact hj)).1
 have hl:=h.len;have hc:=Tryz.slices_Clone_string S 0 66 c sure w (by omega) (by omega) hb;rw[aV (by omega)]at hc;clear hb;have Hl:=ag hl;clear hl;go_enter Tryz.func77,Tryz.ntmps77;go_wp2_with fail;refine hc.mono ?_;clear hc;rintro e w1 ⟨v',rfl,ho,hne,hB⟩;obtain⟨g,cap,rfl,hg⟩:=zgW ho (by omega);go_wp2_with fail;go_ret;have hlt:=(ho.lt g rfl).2;have hty:∃cs fz,w1.heap[g]? =some (.cells cs 9 fz):=by
  obtain⟨_,⟨h0,_⟩|⟨g',_,cur,fz,hv,_,hh,_⟩⟩:=nV.of ho
  ·cases h0
  ·cases hv;exact⟨cur,fz,hh⟩
 refine⟨g,cap,rfl,?_,hg,hty,Keep.vg hB⟩;refine .inr ⟨g,0,cap,by rw[Hl.out],hlt,λi hi=> ?_⟩;have:=ho.cells (g:=g) rfl i (.string (sure.getD i ⟨#[]⟩)) (by simp[hi]);have hadd:(⟨g,0,none⟩:Addr).add i=⟨g,0+i,none⟩:=by unfold Addr.add;split<;>simp_all
 rwa [hadd]at this
def Ew(l:List af)(k:Nat):af:=if k<l.length then(l.getD k ⟨#[]⟩++ug).extract 0 256 else ug
def DT(sure l:List af):Nat->List af
 | 0=>sure
 | k+1=>(DT sure l k).set k (Ew l k)
def FI(l:List af):List af:=(List.range 66).map (Ew l)
theorem zen(sure l:List af)(k:Nat):(DT sure l k).length=sure.length:=by
 induction k with
 | zero=>rfl
 | succ k ih=>rw[DT,dN,ih]
theorem zeo(sure l:List af)(k i:Nat)(hk:k<=sure.length):(DT sure l k)[i]? =if i<k then some (Ew l i)else sure[i]? :=by
 induction k with
 | zero=>simp[DT]
 | succ k ih=>
  rw[DT];by_cases hi:i=k
  ·subst hi;rw[jW (by rw[zen];omega),aP (by omega)]
  ·rw[mf (λe=>hi e.symm),ih (by omega)];by_cases h:i<k
   ·rw[aP h,aP (by omega)]
   ·rw[aB h,aB (by omega)]
theorem zep(sure l:List af)(h:sure.length=66):DT sure l 66=FI l:=by
 apply lT;intro i;rw[zeo sure l 66 i (by omega),FI,bC];by_cases hi:i<66
 ·rw[aP hi,kX hi];rfl
 ·rw[aB hi,fH (by omega),fH (by rw[List.length_range];omega)];rfl
theorem zcX{w:World}{D S:Nat}{wv:Value}{sure:List af}{wait:List (Nat×af)}{oD:Int}(h:qm w D S wv sure wait oD)(v:Value)(l:List af)(T:Strs w v l)(hl:l.length<=1000000)(hs:∀s∈l,s.size<=1000000)(hB:∀b,v.ownBlock=some b->¬qg D S wv b):
  ae 79 #[.pointer (some ⟨D,0,none⟩),v] w λe w'=>e= .returned (.tuple #[])∧qm w' D S (.slice none 0 0) (FI l) [] oD∧Keep (qg D S wv) w w':=by
 obtain⟨a,c,rfl⟩:=T.len;obtain⟨n,hn⟩:∃n,n=l.length:=⟨_,rfl⟩
 rw[<-hn]at T hB hl;rw[<-hn];have Hn:=ag hn;clear hn;have hsl:=h.len;have Hsl:=ag hsl;clear hsl;obtain⟨_,cD0,cDc,hcD⟩:=h.cell1;go_enter Tryz.func79,Tryz.ntmps79;go_wp2_with fail;clear cDc
 go_loopw [10] (λi wr=>∃k:Nat,k<=66∧i= .int .i64 k∧qm wr D S wv (DT sure l k) wait oD∧Keep (qg D S wv) w wr) (λi _=>66-(intOf i).toNat)
 case atStart=>exact⟨0,by omega,rfl,h,ah _ _⟩
 case round=>
  obtain⟨k,hk,rfl,hd,K⟩:=hrel;by_cases hlt:k<66
  ·have j1:(k:Int)<66:=by omega
   have hdc:=hd.cell1;obtain⟨_,cS,cD,hcS⟩:=hdc;obtain⟨cb,fb⟩:=hd.block k hlt;have hlt1:D<wr.heap.size:=by obtain⟨c,h2,_⟩:=hd.head;exact lt_of_heap h2
   have hlt2:S<wr.heap.size:=by obtain⟨c,h2,_⟩:=hd.row;exact lt_of_heap h2
   have hz:=λX:Ext wr=>J3 (wr.ext X);go_wp2_with fail;refine D9 7 (by kernel_rfl) (by kernel_rfl) ?_;simp only[bY,bZ,dh,cO]
   repeat(quiet_step ((go_at_call 25;exact uJ _ (hz _))))
   refine dF ?_;intro X;clear hz;have hd1:=(hd.keep (qA wr X) (λ_ _ x=>x)).Qi k hlt ug;have K1:Keep (qg D S wv) w ((wr.ext X).setCell ⟨S,k,none⟩ (.string ug)):=(K.nK (qA wr X)).setCell (p:=⟨S,k,none⟩) (.inl (Or.inr (Or.inl rfl))) _;by_cases hkn:k<n
   ·have j2:decide (k<n)=true:=by simp;omega
    have j3:(k:Int)<n:=by omega
    go_wp2_with fail;refine pK (λw2=>qm w2 D S wv ((DT sure l k).set k ug) wait oD∧Keep (qg D S wv) w w2) ⟨hd1,K1⟩ ?_;clear hd1 K1 cb fb hd K cD hcS hlt1 hlt2;clear X;intro w2 hw2;obtain⟨hd,K⟩:=hw2;have hdc:=hd.cell1;obtain⟨_,cS2,cD,hcS⟩:=hdc;obtain⟨cb,fb⟩:=hd.block k hlt;have hlt1:D<w2.heap.size:=by obtain⟨c,h2,_⟩:=hd.head;exact lt_of_heap h2
    have hlt2:S<w2.heap.size:=by obtain⟨c,h2,_⟩:=hd.row;exact lt_of_heap h2
    have T2:=T.keep K hB;obtain⟨b,off,rfl,hnl,hb,hcell⟩:=T2.at (by have:=Hn.out;omega);have hck:=hcell k (by have:=Hn.out;omega);obtain⟨s,hsx⟩:∃s,s=l.getD k ⟨#[]⟩:=⟨_,rfl⟩
    rw[<-hsx]at hck;have hsz:s.size<=1000000:=by apply hs;rw[hsx,ax,aC (by have:=Hn.out;omega)];exact fD _
    have hla:Ew l k=(s++ug).extract 0 256:=by rw[Ew,aP (by have:=Hn.out;omega),hsx]
    have hstep:((DT sure l k).set k ug).set k ((s++ug).extract 0 256)=DT sure l (k+1):=by rw[List.set_set,DT,hla]
    have Ve:=ag hstep;have FM:¬(9223372036854775807<s.size+ug.size):=by rw[tY];omega
    have hlen:(256:Int)<=s.size+ug.size:=by rw[tY];omega
    have hlen2:256<=(s++ug).size:=by rw[aX,tY];omega
    have hz:=λX:Ext w2=>J3 (w2.ext X);clear hsx hla hstep hcell hnl T2;refine D9 13 (by kernel_rfl) (by kernel_rfl) ?_;simp only[bY,bZ,dh,cO]
    repeat(quiet_step ((go_at_call 25;exact uJ _ (hz _))))
    refine dF ?_;intro X;clear hz;go_wp2_with fail;have hd3:=(hd.keep (qA w2 X) (λ_ _ x=>x)).Qi k hlt ((s++ug).extract 0 256);rw[Ve.out]at hd3;exact⟨⟨k+1,by omega,by go_num,hd3,(K.nK (qA w2 X)).setCell (p:=⟨S,k,none⟩) (.inl (Or.inr (Or.inl rfl))) _⟩,by simp[intOf];omega⟩
   ·have j2:decide (k<n)=false:=by simp;omega
    have hla:Ew l k=ug:=by rw[Ew,aB (by have:=Hn.out;omega)]
    rw[<-hla]at hd1;have hd2:qm _ D S wv (DT sure l (k+1)) wait oD:=hd1;rw[hla]at hd2;clear hd1 hla;go_wp2_with fail;exact⟨⟨k+1,by omega,by go_num,hd2,K1⟩,by simp[intOf];omega⟩
  ·obtain rfl:k=66:=by omega
   rw[zep sure l Hsl.out]at hd;have c1:=hd.cell1.1;have f1:=hd.cell2.2 1;have hd2:=hd.Xd (.slice none 0 0) [] (nV.nil _ _ _ _) (λb hb=>by cases hb) (dL _) (λp hp=>by cases hp);go_wp2_with fail;go_end0;exact⟨rfl,hd2,K.setCell (p:=⟨D,1,none⟩) (.inl (Or.inl rfl)) _⟩
end Go.Proofs.YtopbkdebihcmcaaGreatDoor
