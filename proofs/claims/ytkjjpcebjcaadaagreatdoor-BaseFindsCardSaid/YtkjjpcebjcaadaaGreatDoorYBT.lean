import Derived.Test.YtkjjpcebjcaadaaGreatDoorYAF
import Derived.Test.YtkjjpcebjcaadaaGreatDoorYAI
import Derived.Test.YtkjjpcebjcaadaaGreatDoorYAX
import Derived.Test.YtkjjpcebjcaadaaGreatDoorYBG
import Derived.Test.YtkjjpcebjcaadaaGreatDoorYBH
import Derived.Test.YtkjjpcebjcaadaaGreatDoorYBI
import Derived.Test.YtkjjpcebjcaadaaGreatDoorYBJ
import Derived.Test.YtkjjpcebjcaadaaGreatDoorYBO
import Derived.Test.YtkjjpcebjcaadaaGreatDoorYBP
set_option linter.unusedSimpArgs false
set_option linter.unusedVariables false
namespace Go.Cof
open Go.RowKit Go.Proofs.YtkjjpcebjcaadaaGreatDoor
theorem vb_other{w0 w:World}{B D C S:Nat}{wv:Value}{V:VaultV}{d:DevV}{n:Int}(h:VN w0 w B D C S wv V d n):OtherB w (VB B D C S wv):=by
 rintro b c t f (hs|rfl|rfl) hh
 ·obtain⟨c',t',f',h1,h2⟩:=devB_row h.dev b hs
  rw[two_types hh h1]
  rcases h2 with h2|h2|h2<;>rw[h2]<;>exact⟨by decide,by decide,by decide,by decide,by decide⟩
 ·rw[two_types hh h.vault.row]
  exact⟨by decide,by decide,by decide,by decide,by decide⟩
 ·rw[two_types hh h.cnt]
  exact⟨by decide,by decide,by decide,by decide,by decide⟩
theorem vb_map{w0 w:World}{B D C S:Nat}{wv:Value}{V:VaultV}{d:DevV}{n:Int}(h:VN w0 w B D C S wv V d n){mb nm:Nat}{L:List SEnt}(hm:SMapIs w mb nm L):¬VB B D C S wv mb:=by
 rintro(hs|rfl|rfl)
 ·obtain⟨c',t',f',h1,h2⟩:=devB_row h.dev mb hs
  exact hm.row_ne h1 rfl
 ·exact hm.row_ne h.vault.row rfl
 ·exact hm.row_ne h.cnt rfl
theorem vb_row{w0 w:World}{B D C S:Nat}{wv:Value}{V:VaultV}{d:DevV}{n:Int}(h:VN w0 w B D C S wv V d n){b:Nat}{c:Array Value}{f:Nat×Nat}(hb:w.heap[b]? =some (.cells c 114 f)):¬VB B D C S wv b:=by
 rintro(hs|rfl|rfl)
 ·obtain⟨c',t',f',h1,h2⟩:=devB_row h.dev b hs
  have:=two_types hb h1
  rw[<-this]at h2
  rcases h2 with h2|h2|h2<;>exact absurd h2 (by decide)
 ·exact absurd (two_types hb h.vault.row) (by decide)
 ·exact absurd (two_types hb h.cnt) (by decide)
end Go.Cof
namespace Go.Proofs.YtkjjpcebjcaadaaGreatDoor
open Go.RowKit Go.Cof
set_option maxRecDepth 100000
section
variable {w:World}{BB B dim mb wb CC nm nw:Nat}{L:List NowE}{W:List WaitE}
end
end Go.Proofs.YtkjjpcebjcaadaaGreatDoor
namespace Go.Cof
open Go.RowKit Go.Proofs.YtkjjpcebjcaadaaGreatDoor
theorem plain_items(L:List NowE):itemsG (plainN L)=L.map (λp=>plainI p.2):=by
 unfold itemsG plainN mapG
 rw[List.map_map]
 rfl
end Go.Cof
namespace Go.Proofs.YtkjjpcebjcaadaaGreatDoor
open Go.RowKit Go.Cof
def CommitSaid(w0 w w':World)(BB B D C S dim:Nat)(wv:Value)(secret:ByteArray)(V:VaultV)(d:DevV)(n:Nat)(L:List NowE)(nm:Nat)(W:List (Nat×ByteArray))(e:Ending):Prop:=
 ∃wv' d',Moved w wv wv'∧((e= .returned .nilIface∧VN w0 w' B D C S wv' (nextV V V.now.epoch W) d' ((n+1:Nat):Int)∧InvV secret (nextV V V.now.epoch W) d'.sure (n+1)∧d'.wait= []∧(d.fuse<0->d'.fuse=d.fuse)∧(∃mb' wb' CC' nm',w.heap.size<=mb'∧w.heap.size<=wb'∧nm'<=nm∧BaseRow w' BB B dim mb' wb' CC'∧BaseR w' mb' wb' nm' 0 L []∧BaseC w' CC' dim L))∨
  (e= .returned (errVal 14)∧VN w0 w' B D C S wv' (dieV V) d' n∧0<=d.fuse∧∀keeps,InvV secret V (crashTo d'.sure d'.wait keeps d'.wait.length) n∨InvV secret (nextV V V.now.epoch W) (crashTo d'.sure d'.wait keeps d'.wait.length) (n+1)))
set_option maxRecDepth 100000
set_option maxHeartbeats 8000000 in
theorem baseCommit_any{w0 w:World}{BB B D C S dim mb wb CC nm nw:Nat}{wv:Value}{V:VaultV}{d:DevV}{n:Nat}{secret:ByteArray}{L:List NowE}{W:List WaitE}
  (hB:BaseRow w BB B dim mb wb CC) (hR:BaseR w mb wb nm nw L W) (hv:VN w0 w B D C S wv V d n) (hBB:w0.heap.size<=BB) (hi:InvV secret V d.sure n) (hw:d.wait= []) (hn:n<1000) (hsec:secret.size<=1000) (RV:RoundsVar w0) (PV:PowVar w0)
  (hs:ShapeL (nextG L (waitI W))) (hp:printOk dim ((nextG L (waitI W)).map (λp=>plainI p.2))=true) (hsm:nm+nw<1000000):
  Calls Tryz.prog 12 #[.pointer (some ⟨BB,0,none⟩)] w λe w'=>
   CommitSaid w0 w w' BB B D C S dim wv secret V d n (nextG L (waitI W)) (nm+nw) (pagesOf (pagesM (pagesT ⟨(printT dim ((nextG L (waitI W)).map (λp=>plainI p.2))).toArray⟩) 32) (otherE V)) e∧Keep (λb=>VB B D C S wv b∨b=BB) w w':=by
 obtain⟨NX,hNX⟩:∃N,N=nextG L (waitI W):=⟨_,rfl⟩
 have hnn:=next_nums hR
 have hnx:=baseNextM_any hB hR hsm
 rw[<-hNX]at hs hp hnn hnx⊢
 have HNX:=Lib.hid hNX
 clear hNX
 obtain⟨S',hS'⟩:∃s:ByteArray,s=⟨(printT dim (NX.map (λp=>plainI p.2))).toArray⟩:=⟨_,rfl⟩
 rw[<-hS']
 have HS:=Lib.hid hS'
 clear hS'
 have hdim:1<=dim∧dim<=8:=by
  simp only[printOk,Bool.and_eq_true,decide_eq_true_eq]at hp
  omega
 have hd0:((dim:Nat):Int)≠0:=by omega
 have b1:=hB.cell1
 have hlt:=hB.lt
 have hfew:=hs.few
 have Hnx:=Lib.hid hnx
 clear hnx
 go_enter Tryz.func12,Tryz.ntmps12
 go_wp2_with fail
 refine Hnx.out.mono ?_
 rintro e w1 ⟨na,hna,rfl,hA,K1⟩
 obtain⟨nb,hnb⟩:∃b,b=w.heap.size:=⟨_,rfl⟩
 rw[<-hnb]at hA⊢
 have Hnb:=Lib.hid hnb
 have HK1:=Lib.hid K1
 have hkeys:=(callsIn_wide (n:=5)).1 (keysItem_any (some nb) w1)
 have hsort:=(callsIn_wide (n:=5)).1 (sortedKeys_any hA (by rw[mapG,List.length_map];omega))
 have Hkeys:=Lib.hid hkeys
 have Hsort:=Lib.hid hsort
 have b11:=(hB.keepN K1).cell1
 clear hkeys hsort hnb K1 Hnx
 go_wp2_with fail
 refine Hkeys.out.mono ?_
 rintro e w' ⟨rfl,rfl⟩
 go_wp2_with fail
 refine Hsort.out.mono ?_
 rintro e w2 ⟨v,ss,rfl,hS,hrow,hnil,hb⟩
 have hr:=hA.rising
 have hss:ss.length=((mapG aggI NX).map (·.1)).length:=by rw[hS.length_eq,strKeys_enc,names_len]
 rw[sorted_names hr hS,names_cells,hss,names_of]at hrow
 have own:=OwnsN.of hrow
 have hst:Strs w2 v (NX.map (·.1)):=strs_ofN own
 have K2:Keep NoB w w2:=(HK1.out.alloc (.cells #[.map (some nb)] 41)).thenN ⟨hb.os,hb.tape,hb.output,hb.size,λi hi _=>hb.block i hi⟩
 have K12:Keep NoB w1 w2:=((Keep.refl NoB w1).alloc (.cells #[.map (some nb)] 41)).thenN ⟨hb.os,hb.tape,hb.output,hb.size,λi hi _=>hb.block i hi⟩
 obtain⟨N,hN⟩:∃N,N=NX.map (·.1):=⟨_,rfl⟩
 rw[<-hN]at hst own
 obtain⟨p,c,rfl⟩:=hst.len
 obtain⟨m,hm⟩:∃m,m=N.length:=⟨_,rfl⟩
 have hmL:m=NX.length:=by rw[hm,hN,List.length_map]
 rw[<-hm]at hst⊢
 have HN:=Lib.hid hN
 have Hm:=Lib.hid hm
 have HmL:=Lib.hid hmL
 have Hst:=Lib.hid hst
 have HA:=Lib.hid (hA.keep K12 (λx=>x))
 have HK2:=Lib.hid K2
 obtain⟨i0,hi0,hz0,hs0,hb0⟩:=item_info
 clear hN hrow hnil hS hss hm hmL own hst hb hr K2 K12 Hkeys Hsort hA b1 b11
 go_wp2_with fail
 have Hnn:=Lib.hid hnn
 clear hnn
 go_loopw [4,25] (λlv iv wr=>∃(k:Nat) (o:Value),k<=m∧iv= .int .i64 k∧o=lv∧Hid (OwnsN wr w2.heap.size 45 3 o k (((NX.take k).map (·.2)).flatMap encItem))∧Hid (Keep NoB w2 wr)) (λ_ iv _=>m-(intOf iv).toNat)
 case atStart=>exact⟨0,_,by omega,rfl,rfl,Lib.hid (by rw[List.take_zero];exact OwnsN.nil _ _ _ _),Lib.hid (Keep.refl _ _)⟩
 case round=>
  obtain⟨k,o,hk,rfl,rfl,hO,K⟩:=hrel
  obtain⟨wo,rfl⟩:∃wo,wo=wr:=⟨_,rfl⟩
  by_cases hlt:k<m
  ·have j1:(k:Int)<m:=by omega
   have Tr:=Hst.out.keep K.out (λ_ _ x=>x)
   obtain⟨b,off,rfl,-,hb,hcell⟩:=Tr.at (by rw[<-Hm.out];omega)
   have hck:=hcell k (by rw[<-Hm.out];exact hlt)
   obtain⟨q,hq⟩:∃q,NX[k]? =some q:=⟨_,List.getElem?_eq_getElem (by have:=HmL.out;omega)⟩
   have hqm:q∈NX:=List.mem_of_getElem? hq
   have hnk:N.getD k ⟨#[]⟩=q.1:=by rw[HN.out,List.getD_eq_getElem?_getD,List.getElem?_map,hq];rfl
   rw[hnk]at hck
   have hAo:=HA.out.keep K.out (λx=>x)
   have hget:getS (mapG aggI NX) q.1=some (aggI q.2):=getS_mem hAo.pairs (List.mem_map.2 ⟨q,hqm,rfl⟩)
   have hq2:=(Hnn.out q hqm).1.len
   have hnms0:=hs.name q hqm
   have htk:(NX.take (k+1)).map (·.2)=(NX.take k).map (·.2)++ [q.2]:=by
    have h1:=List.getElem?_eq_some_iff.1 hq
    rw[List.take_succ_eq_append_getElem h1.1,h1.2,List.map_append]
    rfl
   obtain⟨nm,x⟩:=q
   simp only at hck hget hq2 hnms0 htk
   have hnms:nm.size<=maxLen:=by unfold maxLen;omega
   have hlk:=hAo.look Tryz.underlying41 nm hnms (Tryz.zeroValue45 wo)
   rw[hget,Option.getD_some]at hlk
   obtain⟨xn,xt,xa,xs⟩:=x
   obtain⟨pa,ca,hpa⟩:=hq2
   simp only at hpa
   subst hpa
   simp only[aggI,encItem]at hlk
   obtain⟨nl,hnl⟩:∃m,m=xs.length:=⟨_,rfl⟩
   have hxe:encItem ⟨xn,xt,.slice pa xs.length ca,xs⟩= [.string xn,.string xt,.slice pa nl ca]:=by rw[hnl];rfl
   rw[<-hnl]at hlk
   have hk1000:k<1000:=by have:=HmL.out;omega
   have Htk:=Lib.hid htk
   have Hxe:=Lib.hid hxe
   have HK:=Lib.hid K.out
   clear htk hxe hnl hq hqm hnk hget hAo Tr hcell
   go_wp2_with (at_builtin;refine wpList_append_n _ rfl _ _ 57 rfl w2.heap.size 45 i0 _ 3 56 Tryz.underlying57 hi0 hz0 hs0 hb0 rfl (by decide) o _ _ rfl (hO.out.alloc _) ⟨wo.heap.size,0,none⟩ 1 1 [.string xn,.string xt,.slice pa nl ca] rfl rfl (cells_new _ _ _) (encItem_one3 xn xt pa nl ca) (by unfold maxLen;omega) (by omega) (by have:=HK.out.size;simp;omega) ?_;intro v' w' own' hgrow)
   have KN:Keep NoB w2 w':=(HK.out.alloc (.cells #[.string xn,.string xt,.slice pa nl ca] 45)).grown hgrow (λb hb=> .inr (hO.out.lt b hb).1)
   refine⟨⟨k+1,v',by omega,by go_num,rfl,Lib.hid ?_,Lib.hid KN⟩,by simp[intOf];omega⟩
   rw[Htk.out,List.flatMap_append]
   have e: [(⟨xn,xt,.slice pa xs.length ca,xs⟩:ItemV)].flatMap encItem= [.string xn,.string xt,.slice pa nl ca]:=by rw[List.flatMap_cons,List.flatMap_nil,List.append_nil,Hxe.out]
   rw[e]
   exact own'
  ·obtain⟨q,hq⟩:∃q,q=m:=⟨_,rfl⟩
   obtain rfl:k=m:=by omega
   have j1:¬(k:Int)<k:=by omega
   have hOo:=hO.out
   have hN:NX.take k=NX:=List.take_of_length_le (by rw[<-HmL.out];exact Nat.le_refl _)
   rw[hN]at hOo
   obtain⟨IL,hIL⟩:∃l,l=NX.map (·.2):=⟨_,rfl⟩
   have hILp:IL.map plainI=NX.map (λp=>plainI p.2):=by rw[hIL,List.map_map];rfl
   have hILl:IL.length=k:=by rw[hIL,List.length_map];exact HmL.out.symm
   rw[<-hIL]at hOo
   have KWo:=HK2.out.thenN K.out
   have KWo1:Keep NoB w wo:=KWo
   have hit:Items wo o IL:=⟨RowsK.ofN encItem_len (by rw[hILl];exact hOo),λx hx=>by
    rw[hIL]at hx
    obtain⟨p,hp,rfl⟩:=List.mem_map.1 hx
    exact(Hnn.out p hp).1.keep KWo (λ_ _ x=>x)⟩
   obtain⟨po,co,rfl⟩:=hit.rows.len
   have hpr:=print_any dim (.slice po IL.length co) IL wo hit (by rw[hILl];unfold maxLen;have:=HmL.out;omega) (λx hx=>by
    rw[hIL]at hx
    obtain⟨p,hp,rfl⟩:=List.mem_map.1 hx
    have:=hs.le p hp
    omega) (PV.keep (hv.keep.thenN KWo) (λx=>x))
   have e1:printS dim IL=S':=by rw[printS,hILp,if_pos hp,HS.out]
   have e2:printE dim IL= .nilIface:=by rw[printE,hILp,if_pos hp]
   rw[e1,e2]at hpr
   have hsz:S'.size<=6400:=by rw[HS.out];exact printB_len hp
   have b1:=(hB.keepN KWo).cell1
   rw[hILl]at hpr⊢
   have HILl:=Lib.hid hILl
   have Hpr:=Lib.hid hpr
   have HKWo:=Lib.hid KWo
   have HB:=Lib.hid hB
   have HR:=Lib.hid hR
   have HV:=Lib.hid hv
   have HA2:=Lib.hid (HA.out.keep K.out (λx=>x))
   clear hpr hILl e1 e2 hit hOo hO K hN hq KWo KWo1 hIL hILp hB hR hv
   go_upto_region 10 with(fail)
   clear j1
   go_wp2_with fail
   refine Hpr.out.mono ?_
   rintro e w3 ⟨rfl,K3⟩
   have HKW3:=Lib.hid (HKWo.out.thenN K3)
   have HA3:=Lib.hid (HA2.out.keep K3 (λx=>x))
   clear Hpr b1 K3
   have hmm:= @run_makeMap Tryz.prog
   go_upto_region 14 with(fail)
   clear hmm
   obtain⟨ms,hms⟩:∃b,b=w3.heap.size:=⟨_,rfl⟩
   obtain⟨w4,hw4⟩:∃w4,w4=w3.alloc (Obj.map #[] 0):=⟨_,rfl⟩
   have m0:MapIs w4 ms 0 (pagesM (pagesT S') 0):=by rw[hw4,hms];exact World.ownsMap_made _ _ _ _
   have K4:Keep NoB w3 w4:=by rw[hw4];exact(Keep.refl _ _).alloc _
   rw[<-hw4,<-hms]
   have Hms:=Lib.hid hms
   have HK4:=Lib.hid K4
   obtain⟨s0,hs0e⟩:∃s,s=leftB S' 0:=⟨_,rfl⟩
   have hs00:S'=s0:=by rw[hs0e,leftB_zero]
   have Hsz:=Lib.hid hsz
   have Hs0:=Lib.hid hs0e
   clear hms hw4 K4 hs0e hsz
   go_upto_region 15 with(fail)
   rw[hs00]
   have Hs00:=Lib.hid hs00
   clear hs00
   go_loopw [7,49] (λsv iv wr=>∃(j:Nat) (s:ByteArray),j<=32∧iv= .int .i64 j∧sv= .string s∧Hid (s=leftB S' j)∧Hid (MapIs wr ms j (pagesM (pagesT S') j))∧Hid (Keep NoB w3 wr)) (λ_ iv _=>32-(intOf iv).toNat)
   case atStart=>exact⟨0,s0,by omega,rfl,rfl,Hs0,Lib.hid m0,HK4⟩
   case round=>
    obtain⟨j,s,hj,rfl,rfl,hse,hmr,KR⟩:=hrel
    obtain⟨wp,rfl⟩:∃wp,wp=wr:=⟨_,rfl⟩
    by_cases hj32:j<32
    ·have j2:(j:Int)<32:=by omega
     have hs6:s.size<=6400:=by rw[hse.out,leftB_size];have:=Hsz.out;omega
     obtain⟨nn,hnn⟩:∃nn,nn=min s.size 200:=⟨_,rfl⟩
     have hmin:min (s.size:Int) 200=(nn:Int):=by omega
     have hcut:=leftB_cut S' j
     rw[<-hse.out,<-hnn]at hcut
     have hnle:nn<=s.size:=by omega
     have hch:=chunkB_size S' j
     have hget:(pagesT S').getD j ⟨#[]⟩=chunkB S' j:=by rw[pagesT,List.getD_eq_getElem?_getD,List.getElem?_map,List.getElem?_range hj32];rfl
     obtain⟨ck,hck⟩:∃c,c=chunkB S' j:=⟨_,rfl⟩
     rw[<-hck]at hcut hch hget
     obtain⟨sn,hsn⟩:∃c,c=leftB S' (j+1):=⟨_,rfl⟩
     rw[<-hsn]at hcut
     have hsl1:∀W:World,(Instr.slice 9 (.string s) none (some (.int .i64 nn)) none).run Tryz.prog W= .ok (.string ck) W:=λW=>by
      rw[run_slice_string_h (ht:=Tryz.underlying9) (h0:=by omega) (h2:=by omega),Int.toNat_natCast,hcut.1]
     have hsl2:∀W:World,(Instr.slice 9 (.string s) (some (.int .i64 nn)) none none).run Tryz.prog W= .ok (.string sn) W:=λW=>by
      rw[run_slice_string_l (ht:=Tryz.underlying9) (h0:=by omega) (h1:=by omega),Int.toNat_natCast,hcut.2]
     have KD:Keep NoB wp wp.drew:=(Keep.refl NoB wp).drew
     have hmo:MapIs wp.drew ms j (pagesM (pagesT S') j):=World.ownsMap.kept hmr.out (keep_grown KD none) (by simp)
     obtain⟨v0,w5,st,w6,hme,hes,hm6,hg6⟩:=MapIs.entry hmo (by unfold maxLen;omega) j (by omega) ck (by unfold maxLen;omega)
     rw[<-hget,pagesM_put]at hm6
     have Hm6:=Lib.hid hm6
     have HK6:=Lib.hid ((KR.out.thenN KD).grown hg6 (λq hq=> .inr (by have h1:=Option.some.inj hq;have:=Hms.out;omega)))
     have Hsn:=Lib.hid hsn
     clear hm6 hg6 hmo KD hget hch hcut hck hsn hnn hs6 hnle
     go_upto_region 18 with(fail)
     refine wp_region_mix (λ_=>True) [(true,0),(true,1),(true,2),(true,3),(true,4),(true,5),(true,6),(true,7),(false,8),(true,9),(false,10),(false,11)] (by kernel_rfl) (by kernel_rfl) (λc a d v w h=>by cases d<;>exact h) ?_
     simp only[wpMixC,pickL,List.getElem?_toArray,List.getElem?_cons_succ,List.getElem?_cons_zero]
     repeat(refine wpEarlyC_step (λK hK=> ?_);go_simp;first|(refine⟨_,λ_=>rfl,hK _ ?_⟩;clear hK K;refine wpEarlyC_nil ?_)|(refine hK _ ?_;clear hK K;refine wpEarlyC_nil ?_))
     refine⟨trivial,?_⟩
     go_wp2_with fail
     repeat(refine wpEarlyC_step (λK hK=> ?_);go_simp;first|(refine⟨_,λ_=>rfl,hK _ ?_⟩;clear hK K;refine wpEarlyC_nil ?_)|(refine hK _ ?_;clear hK K;refine wpEarlyC_nil ?_))
     refine⟨trivial,?_⟩
     go_wp2_with fail
     refine⟨trivial,?_⟩
     go_wp2_with fail
     refine⟨⟨j+1,sn,by omega,by go_num,rfl,Hsn,Hm6,HK6⟩,by simp[intOf];omega⟩
    ·obtain⟨q,hq⟩:∃q:Nat,q=32:=⟨_,rfl⟩
     obtain rfl:j=q:=by omega
     have j2:¬(j:Int)<32:=by omega
     have hm32:=hmr.out
     rw[hq]at hm32
     have KWp:=HKW3.out.thenN KR.out
     have hvp:=HV.out.keepN KWp
     have hBp:=HB.out.keepN KWp
     have b0:=hBp.cell0
     have htell:=tell_vn hvp rfl hi hw hn hsec RV hm32 (by omega) (pagesM_good (λs hs=>by
      obtain⟨i,_,rfl⟩:=List.mem_map.1 hs
      exact chunkB_size S' i) (by simp[pagesT]))
     have Htell:=Lib.hid htell
     have HKWp:=Lib.hid KWp
     have HAp:=Lib.hid (HA3.out.keep KR.out (λx=>x))
     clear htell hm32 hmr hq hvp KWp m0
     go_upto_region 20 with(fail)
     clear j2
     go_wp2_with fail
     refine Htell.out.mono ?_
     rintro e w7 ⟨⟨wv',d',hmv,hres⟩,K7⟩
     have hmv':Moved w wv wv':=hmv.imp (λh=>h) (λh b hb=>Nat.le_trans HKWp.out.size (h b hb))
     have Hmv:=Lib.hid hmv'
     have HK7:=Lib.hid K7
     have hBv:=vb_row HV.out HB.out
     have HBv:=Lib.hid hBv
     have HBp:=Lib.hid hBp
     clear hmv hmv' Htell b0 hBv hBp
     rcases hres with⟨he,hvn,hinv,hsure,hwait,hfuse⟩|⟨he,hvn,hf0,hcr⟩
     ·subst he
      have B7:=HBp.out.keep HK7.out HBv.out
      have hlt7:=B7.lt
      have b2:=B7.cell2
      have f2:=B7.free 2
      have B8:=B7.set2 nb
      have K8:Keep (OneB BB) w7 (w7.setCell ⟨BB,2,none⟩ (.map (some nb))):=(Keep.refl _ _).set1 2 _
      obtain⟨w8,hw8⟩:∃w8,w8=w7.setCell ⟨BB,2,none⟩ (.map (some nb)):=⟨_,rfl⟩
      rw[<-hw8]at B8 K8
      have hVO:=vb_other (HV.out.keepN HKWp.out)
      have A7:=HAp.out.keep HK7.out (vb_map (HV.out.keepN HKWp.out) HAp.out)
      have A8:=A7.keep K8 (λe=>A7.row_ne B7 e)
      have N8:∀p∈NX,NumsR w8 p.2:=λp hp=>((((Hnn.out p hp).keep HKWp.out (λ_ _ _ _ h=>h.elim)).keep HK7.out (λb c t f h hh=>(hVO b c t f h hh).int)).keep K8 (λb c t f h hh=>(B7.other b c t f h hh).int))
      have hund:=baseUndo_any B8
      have Hw8:=Lib.hid hw8
      have HK8:=Lib.hid K8
      have HA8:=Lib.hid A8
      have HN8:=Lib.hid N8
      have HB8:=Lib.hid B8
      have HB7:=Lib.hid B7
      have Hund:=Lib.hid hund
      have Hvn:=Lib.hid hvn
      have Hinv:=Lib.hid hinv
      have Hw':=Lib.hid hwait
      have Hfu:=Lib.hid hfuse
      clear hw8 K8 A7 A8 N8 hVO hund hvn hinv hsure hwait hfuse B8 B7
      go_upto_region 24 with(fail)
      rw[<-Hw8.out]
      clear b2 f2
      go_wp2_with fail
      refine Hund.out.mono ?_
      rintro e w9 ⟨rfl,B9,M9,K9⟩
      have N9:∀p∈NX,NumsR w9 p.2:=λp hp=>(HN8.out p hp).keep K9 (λb c t f h hh=>(HB8.out.other b c t f h hh).int)
      have A9:=HA8.out.keep K9 (λe=>HA8.out.row_ne HB8.out e)
      have hidx:=baseIndex_any B9 A9 N9 hs
      have HB9:=Lib.hid B9
      have HM9:=Lib.hid M9
      have HK9:=Lib.hid K9
      have HA9:=Lib.hid A9
      have HN9:=Lib.hid N9
      have Hidx:=Lib.hid hidx
      clear B9 M9 K9 A9 N9 hidx Hund
      go_wp2_with fail
      refine Hidx.out.mono ?_
      rintro e wz ⟨rfl,hC,Kz⟩
      obtain⟨C',BZ,CZ⟩:=hC
      have HBZ:=Lib.hid BZ
      have HCZ:=Lib.hid CZ
      have HKz:=Lib.hid Kz
      clear BZ CZ Kz Hidx
      go_wp2_with fail
      go_ret
      have KB:Keep (OneB BB) w7 wz:=(HK8.out.then HK9.out).then HKz.out
      have hsz78:w7.heap.size<=w8.heap.size:=HK8.out.size
      have hlt:BB<w.heap.size:=HB.out.lt
      have hwsz:w.heap.size<=w7.heap.size:=Nat.le_trans HKWp.out.size HK7.out.size
      have hvz:VN w0 wz B D C S wv' (nextV V V.now.epoch (pagesOf (pagesM (pagesT S') 32) (otherE V))) d' ((n+1:Nat):Int):=Hvn.out.out KB (λb hb e=>by
       have h1:b=BB:=e
       subst h1
       exact vb_row Hvn.out HB7.out hb) (λb hb e=>by have h1:b=BB:=e;omega)
      have hAz:=HA9.out.keep HKz.out (λe=>HA9.out.row_ne HB9.out e)
      have hMz:=HM9.out.keep HKz.out (λe=>HM9.out.row_ne HB9.out e)
      have hNz:∀p∈NX,NumsR wz p.2:=λp hp=>(HN9.out p hp).keep HKz.out (λb c t f h hh=>(HB9.out.other b c t f h hh).int)
      have hnbw:nb<w8.heap.size:=HA8.out.lt
      refine⟨⟨wv',d',Hmv.out,.inl ⟨rfl,hvz,Hinv.out,Hw'.out,Hfu.out,nb,w8.heap.size,C',na,by rw[Hnb.out];exact Nat.le_refl _,Nat.le_trans hwsz hsz78,hna,HBZ.out,⟨hAz,hMz,by omega,hNz,(λp hp=>by cases hp)⟩,HCZ.out⟩⟩,?_⟩
      refine((HKWp.out.ofN).trans (HK7.out.mono (S':=λb=>VB B D C S wv b∨b=BB) (λi hi h=> .inl h)) (λi hi h=>h)).trans (KB.mono (S':=λb=>VB B D C S wv b∨b=BB) (λi hi h=> .inr h)) (λi hi h=>h)
     ·have he':e= .returned (.iface 48 (.int .i64 14)):=he
      subst he'
      have Hvn:=Lib.hid hvn
      have Hcr:=Lib.hid hcr
      have HK7:=Lib.hid K7
      clear he hvn hcr K7
      go_wp2_with fail
      go_ret
      refine⟨⟨wv',d',Hmv.out,.inr ⟨rfl,Hvn.out,hf0,Hcr.out⟩⟩,(HKWp.out.ofN).trans HK7.out (λi hi h=> .inl h)⟩
end Go.Proofs.YtkjjpcebjcaadaaGreatDoor
namespace Go.Cof
open Go.RowKit Go.Proofs.YtkjjpcebjcaadaaGreatDoor
def nowOf(L:List ItemV):List NowE:=L.map λx=>(x.name,x)
theorem bytes_of_lt(a b:List UInt8)(h:a<b):bytesBefore a b=true:=by
 cases hb:bytesBefore a b with
 | true=>rfl
 | false=>
  exfalso
  by_cases e:a=b
  ·subst e
   exact List.lt_irrefl _ h
  ·exact List.lt_asymm h (lt_of_bytes _ _ (bytes_total a b e hb))
theorem rises_pair:∀ {l:List PItem},risesB l=true->l.Pairwise λx y=>blB x.1 y.1=true
 | [],_=>List.Pairwise.nil
 | [x],_=>List.pairwise_singleton ..
 | x::y::l,h=>by
  rw[risesB,Bool.and_eq_true]at h
  have ih:=rises_pair h.2
  have h1:blB x.1 y.1=true:=bytes_of_lt _ _ (of_decide_eq_true h.1)
  refine List.pairwise_cons.2 ⟨λz hz=> ?_,ih⟩
  rcases List.mem_cons.1 hz with rfl|hz
  ·exact h1
  ·exact bytes_trans _ _ _ h1 ((List.pairwise_cons.1 ih).1 z hz)
theorem nowOf_rises{L:List ItemV}(h:risesB (L.map plainI)=true):RisesG (nowOf L):=by
 have h1:=rises_pair h
 rw[List.pairwise_map]at h1
 unfold RisesG nowOf
 rw[List.pairwise_map]
 exact h1
theorem putG_last{α:Type}{A:List (ByteArray×α)}{k:ByteArray}{v:α}(h:RisesG (A++ [(k,v)])):putG A k v=A++ [(k,v)]:=by
 have hA:RisesG A:=(List.pairwise_append.1 h).1
 have hk:∀p∈A,p.1≠k:=λp hp=>blB_ne ((List.pairwise_append.1 h).2.2 p hp _ (List.mem_singleton.2 rfl))
 refine risesG_ext (putG_rising hA k v) h λj=> ?_
 rw[getG_put]
 unfold getG
 rw[List.find?_append]
 by_cases e:j=k
 ·subst e
  have:A.find? (λp=>decide (p.1=j))=none:=by
   rw[List.find?_eq_none]
   intro p hp
   simpa using hk p hp
  rw[if_pos rfl,this]
  simp
 ·rw[if_neg e]
  cases hf:A.find? (λp=>decide (p.1=j))with
  | some p=>simp
  | none=>
   have:¬k=j:=λx=>e x.symm
   simp[this]
def textTo(T:List ByteArray):Nat->ByteArray
 | 0=>⟨#[]⟩
 | k+1=>textTo T k++T.getD k ⟨#[]⟩
theorem textTo_list(T:List ByteArray):∀k,k<=T.length->(textTo T k).data.toList=joinT (T.take k)
 | 0,_=>by rw[List.take_zero];rfl
 | k+1,h=>by
  rw[textTo,List.take_succ_eq_append_getElem (by omega),joinT,List.flatMap_append,<-joinT,<-textTo_list T k (by omega)]
  have e:T.getD k ⟨#[]⟩=T[k]:=by simp[List.getD_eq_getElem?_getD,show k<T.length by omega]
  rw[e]
  simp[ByteArray.data_append]
theorem textTo_size{T:List ByteArray}(h:∀s∈T,s.size<=200):∀k,k<=T.length->(textTo T k).size<=200*k
 | 0,_=>Nat.le_refl _
 | k+1,hk=>by
  have h1:=textTo_size h k (by omega)
  have h2:(T.getD k ⟨#[]⟩).size<=200:=by
   rw[List.getD_eq_getElem?_getD,List.getElem?_eq_getElem (by omega)]
   exact h _ (List.getElem_mem _)
  have h3:(textTo T (k+1)).size=(textTo T k).size+(T.getD k ⟨#[]⟩).size:=by rw[textTo,ByteArray.size_append]
  omega
theorem shape_print{L:List ItemV}{d:Int}(h:printOk d (L.map plainI)=true):ShapeL (nowOf L):=by
 simp only[printOk,Bool.and_eq_true,decide_eq_true_eq]at h
 obtain⟨⟨⟨⟨h1,h2⟩,h3⟩,h4⟩,h5⟩:=h
 have hall:∀p∈nowOf L,p.1=p.2.name∧pitemB (plainI p.2) d=true:=λp hp=>by
  obtain⟨x,hx,rfl⟩:=List.mem_map.1 hp
  exact⟨rfl,List.all_eq_true.1 h4 _ (List.mem_map.2 ⟨x,hx,rfl⟩)⟩
 have hb:∀p∈nowOf L,nameB p.2.name=true∧(p.2.ns.length:Int)=d∧p.2.ns.any farB=false:=λp hp=>by
  have h6:=(hall p hp).2
  simp only[pitemB,plainI,Bool.and_eq_true,Bool.or_eq_true,decide_eq_true_eq,Bool.not_eq_true']at h6
  exact⟨h6.1.1.1.1.1,of_decide_eq_true h6.1.2,h6.2⟩
 refine⟨?_,λp hp=> ?_,λp hp=> ?_,λp hp=> ?_,λp hp=> ?_⟩
 ·rw[nowOf,List.length_map]
  rw[List.length_map]at h3
  omega
 ·rw[(hall p hp).1]
  have:=nameB_size (hb p hp).1
  omega
 ·have:=(hb p hp).2.1;omega
 ·have:=(hb p hp).2.1;omega
 ·intro n hn
  have h7:=(hb p hp).2.2
  rw[List.any_eq_false]at h7
  have:=h7 n hn
  simp only[farB,Bool.or_eq_true,decide_eq_true_eq,not_or]at this
  omega
theorem nowOf_take(L:List ItemV)(j:Nat)(x:ItemV)(hx:L[j]? =some x):nowOf (L.take (j+1))=nowOf (L.take j)++ [(x.name,x)]:=by
 have h1:=List.getElem?_eq_some_iff.1 hx
 rw[List.take_succ_eq_append_getElem h1.1,h1.2,nowOf,List.map_append]
 rfl
theorem rows_keepB{w w':World}{BB B d mb wb:Nat}{q:Option Addr}{v:Value}{L:List ItemV}(h:RowsK w v 3 encItem L)(hB:BaseRowV w BB B d mb wb (.pointer q))(K:Keep (OneB BB) w w'):RowsK w' v 3 encItem L:=by
 cases L with
 | nil=>
  obtain⟨p,c,hv⟩:=h.len
  exact .inl ⟨rfl,p,c,hv⟩
 | cons x l=>
  refine h.keep K λb hb e=> ?_
  have e:b=BB:=e
  subst e
  rcases h with⟨h,_⟩|⟨b2,off,c,hv,_,hcell⟩
  ·cases h
  ·rw[hv]at hb
   obtain rfl:b2=b:=Option.some.inj hb
   have h1:=hcell 0 x rfl 0 _ rfl
   rw[cell_of_row _ _ _ _ _ (0,0) hB,Nat.zero_mul]at h1
   simp only[Nat.add_zero]at h1
   unfold baseCells at h1
   rcases off with _|_|_|_|_|off<;>simp at h1
theorem rows_keepM{w w':World}{mb n:Nat}{M:List SEnt}{v:Value}{L:List ItemV}(h:RowsK w v 3 encItem L)(hm:SMapIs w mb n M)(K:Keep (OneB mb) w w'):RowsK w' v 3 encItem L:=by
 cases L with
 | nil=>
  obtain⟨p,c,hv⟩:=h.len
  exact .inl ⟨rfl,p,c,hv⟩
 | cons x l=>
  refine h.keep K λb hb e=> ?_
  have e:b=mb:=e
  subst e
  rcases h with⟨h,_⟩|⟨b2,off,c,hv,_,hcell⟩
  ·cases h
  ·rw[hv]at hb
   obtain rfl:b2=b:=Option.some.inj hb
   have h1:=hcell 0 x rfl 0 _ rfl
   obtain⟨es,clock,h2,_⟩:=hm
   simp[World.cell?,h2]at h1
def OpenC(BB Z mb:Nat)(a b c:Value)(W:World):Prop:=W.cell? ⟨BB,2,none⟩=some (.map (some mb))∧W.cell? ⟨Z,0,none⟩=some a∧W.cell? ⟨Z,1,none⟩=some b∧W.cell? ⟨Z,2,none⟩=some c
end Go.Cof
namespace Go.Proofs.YtkjjpcebjcaadaaGreatDoor
open Go.RowKit Go.Cof
def OpenedB(w0 w w':World)(D C S:Nat)(wv:Value)(V:VaultV)(d:DevV)(m:Int)(dim:Nat)(l:List PItem)(e:Ending):Prop:=
 ∃BB B mb wb CC nm L,e= .returned (.tuple #[.pointer (some ⟨BB,0,none⟩),.nilIface])∧w.heap.size<=BB∧w.heap.size<=mb∧w.heap.size<=wb∧w.heap.size<=B∧nm<=60∧VN w0 w' B D C S wv V d m∧BaseRow w' BB B dim mb wb CC∧BaseR w' mb wb nm 0 L []∧BaseC w' CC dim L∧plainN L=l.map λx=>(x.1,x)
def OpenBSaid(w0 w w':World)(D C S:Nat)(wv:Value)(V:VaultV)(d:DevV)(m:Int)(e:Ending):Prop:=
 if joinT V.texts= []then OpenedB w0 w w' D C S wv V d m 0 [] e
 else match parseT (joinT V.texts)with
  | some (dim,l)=>OpenedB w0 w w' D C S wv V d m dim.toNat l e
  | none=>e= .returned (.tuple #[.pointer none,errVal 15])∧DevIs w' D S wv d∧CountAt w' C m
set_option maxRecDepth 100000
set_option maxHeartbeats 8000000 in
theorem baseOpen_any{w0 w:World}{D C S:Nat}{wv:Value}{d:DevV}(hd:DevIs w D S wv d)(hkw:Keep NoB w0 w)(hown:∀b,DevB D S wv b∨b=C->w0.heap.size<=b){n:Nat}(hc:CountAt w C n)(hn:n<1000)(hb:∀i,i<66->(d.now.getD i ⟨#[]⟩).size=256){secret:ByteArray}(hs:secret.size=16)(R:RoundsVar w0)(IV:ItemVars w0){V:VaultV}{m:Int}(ho:openV secret d.now n=some (V,m))
  (hT:V.texts.length=32) (ht:∀s∈V.texts,s.size<=200):
  Calls Tryz.prog 10 #[.pointer (some ⟨D,0,none⟩),.pointer (some ⟨C,0,none⟩),.string secret] w λe w'=>OpenBSaid w0 w w' D C S wv V d m e∧Keep (OneB C) w w':=by
 have hvo:=open_vn hd hkw hown hc hn hb hs R ho
 have Hvo:=Lib.hid hvo
 clear hvo
 go_enter Tryz.func10,Tryz.ntmps10
 go_wp2_with fail
 refine Hvo.out.mono ?_
 rintro e w1 ⟨⟨B,hB,rfl,hv⟩,K1⟩
 have Hv:=Lib.hid hv
 have HK1:=Lib.hid K1
 have hmm:= @run_makeMap Tryz.prog
 clear hv K1 Hvo
 go_upto_region 5 with(fail)
 clear hmm
 obtain⟨mb,hmb⟩:∃b,b=w1.heap.size:=⟨_,rfl⟩
 obtain⟨wb,hwb⟩:∃b,b=w1.heap.size+1:=⟨_,rfl⟩
 obtain⟨BB,hBB⟩:∃b,b=w1.heap.size+1+1:=⟨_,rfl⟩
 obtain⟨wx,hwx⟩:∃wx,wx=((w1.alloc (Obj.map #[] 0)).alloc (Obj.map #[] 0)).alloc (.cells (baseCells B 0 mb wb (.pointer none)) 114):=⟨_,rfl⟩
 have K2:Keep NoB w1 wx:=by rw[hwx];exact(((Keep.refl _ _).alloc _).alloc _).alloc _
 have s1:(w1.alloc (Obj.map #[] 0)).heap.size=w1.heap.size+1:=by simp
 have s2:((w1.alloc (Obj.map #[] 0)).alloc (Obj.map #[] 0)).heap.size=w1.heap.size+1+1:=by simp
 have M1:SMapIs wx mb 0 (mapG aggI (nowOf ([]:List ItemV))):=by
  rw[hwx,hmb]
  exact(SMapIs.made w1).keep (((Keep.refl NoB _).alloc _).alloc _) (λx=>x)
 have M2:SMapIs wx wb 0 (mapG Prod.fst ([]:List WaitE)):=by
  have h:=SMapIs.made (w1.alloc (Obj.map #[] 0))
  rw[s1,<-hwb]at h
  rw[hwx]
  exact h.keep ((Keep.refl NoB _).alloc _) (λx=>x)
 have B1:BaseRowV wx BB B 0 mb wb (.pointer none):=by
  have h:=heap_alloc_new ((w1.alloc (Obj.map #[] 0)).alloc (Obj.map #[] 0)) (.cells (baseCells B 0 mb wb (.pointer none)) 114)
  rw[s2,<-hBB]at h
  rw[hwx]
  exact h
 have hwx':=hwx
 rw[baseCells,hmb,hwb,show((0:Nat):Int)=0 from rfl]at hwx'
 rw[<-hwx',<-hBB,<-hwb,<-hmb]
 have HM1:=Lib.hid M1
 have HM2:=Lib.hid M2
 have HB1:=Lib.hid B1
 have HK2:=Lib.hid K2
 have Hmb:=Lib.hid hmb
 have Hwb:=Lib.hid hwb
 have HBB:=Lib.hid hBB
 clear hwx hwx' s1 s2 M1 M2 B1 K2 hmb hwb hBB
 have HT:=Lib.hid hT
 clear hT
 go_wp2_with fail
 go_loopw [11,35] (λtv iv wr=>∃(k:Nat) (s:ByteArray),k<=32∧iv= .int .i64 k∧tv= .string s∧Hid (s=textTo V.texts k)∧Hid (Keep NoB wx wr)) (λ_ iv _=>32-(intOf iv).toNat)
 case atStart=>exact⟨0,_,by omega,rfl,rfl,Lib.hid rfl,Lib.hid (Keep.refl _ _)⟩
 case round=>
  obtain⟨k,s,hk,rfl,rfl,hse,KR⟩:=hrel
  obtain⟨wo,rfl⟩:∃wo,wo=wr:=⟨_,rfl⟩
  have hv:=Hv.out.keepN (HK2.out.thenN KR.out)
  have hsz:=textTo_size ht k (by rw[HT.out];exact hk)
  rw[<-hse.out]at hsz
  by_cases hlt:k<32
  ·have j1:(k:Int)<32:=by omega
   have hget:=vaultGet_any hv.vault k hlt
   obtain⟨g,hg⟩:∃g,g=V.texts.getD k ⟨#[]⟩:=⟨_,rfl⟩
   have hgs:g.size<=200:=by
    rw[hg,List.getD_eq_getElem?_getD,List.getElem?_eq_getElem (by rw[HT.out];exact hlt)]
    exact ht _ (List.getElem_mem _)
   rw[<-hg]at hget
   have hcat:¬(9223372036854775807<s.size+g.size):=by omega
   have Hget:=Lib.hid hget
   have Hg:=Lib.hid hg
   clear hget hg hv hsz hgs
   go_wp2_with fail
   refine Hget.out.mono ?_
   rintro e w' ⟨rfl,hw'⟩
   subst w'
   go_wp2_with fail
   refine⟨⟨k+1,s++g,by omega,by go_num,rfl,Lib.hid (by rw[textTo,<-hse.out,<-Hg.out]),KR⟩,by simp[intOf];omega⟩
  ·obtain⟨q,hq⟩:∃q:Nat,q=32:=⟨_,rfl⟩
   obtain rfl:k=q:=by omega
   have j1:¬(k:Int)<32:=by omega
   have hjoin:joinT V.texts=s.data.toList:=by
    rw[hse.out,textTo_list V.texts k (by rw[HT.out,hq];exact Nat.le_refl _),List.take_of_length_le (by rw[HT.out,hq];exact Nat.le_refl _)]
   have Hjoin:=Lib.hid hjoin
   have Hq:=Lib.hid hq
   have Hv1:=Lib.hid hv
   have hB1:=HB1.out.keepN KR.out
   have hM1:=HM1.out.keep KR.out (λx=>x)
   have HB2:=Lib.hid hB1
   have hKw:Keep (OneB C) w wo:=(HK1.out.thenN HK2.out).thenN KR.out
   have HKw:=Lib.hid hKw
   have HMm:=Lib.hid hM1
   clear hjoin hq hse hv hB1 hKw hM1
   by_cases hs0:s=⟨#[]⟩
   ·have hidx:=baseIndex_any HB2.out HMm.out (λp hp=>by cases hp) ShapeL.nil
    have Hidx:=Lib.hid hidx
    clear hidx
    subst hs0
    go_wp2_with fail
    refine Hidx.out.mono ?_
    rintro e w3 ⟨rfl,⟨C',hBz,hCz⟩,Kz⟩
    have HBz:=Lib.hid hBz
    have HCz:=Lib.hid hCz
    have HKz:=Lib.hid Kz
    clear hBz hCz Kz Hidx
    go_wp2_with fail
    go_ret2
    have hsz1:w.heap.size<=w1.heap.size:=HK1.out.size
    have hw0:w0.heap.size<=w.heap.size:=hkw.size
    have hvz:=Hv1.out.out HKz.out (λb hb e=>by
     have h1:b=BB:=e
     subst h1
     exact vb_row Hv1.out HB2.out hb) (λb hb e=>by have h1:b=BB:=e;have:=HBB.out;omega)
    have hwait:=(HM2.out.keep KR.out (λx=>x)).keep HKz.out (λe=>(HM2.out.keep KR.out (λx=>x)).row_ne HB2.out e)
    refine⟨?_,HKw.out.trans HKz.out (λi hi e=>by have h1:i=BB:=e;have:=HBB.out;omega)⟩
    unfold OpenBSaid
    rw[if_pos (by rw[Hjoin.out])]
    refine⟨BB,B,mb,wb,C',0,[],rfl,by have:=HBB.out;omega,by have:=Hmb.out;omega,by have:=Hwb.out;omega,hB,by omega,hvz,HBz.out,⟨HMm.out.keep HKz.out (λe=>HMm.out.row_ne HB2.out e),hwait,by have:=Hmb.out;have:=Hwb.out;omega,(λp hp=>by cases hp),(λp hp=>by cases hp)⟩,HCz.out,rfl⟩
   ·have hemp:s.toList.isEmpty=false:=by
     cases h:s.toList with
     | nil=>exact absurd (toList_inj (by rw[h,ByteArray.toList_eq])) hs0
     | cons _ _=>rfl
    have hsz6:s.size<=1000000:=by have:=Hq.out;omega
    have hpar:=parse_any s wo hsz6 (IV.keep Hv1.out.keep)
    have Hpar:=Lib.hid hpar
    clear hpar
    go_wp2_with fail
    refine Hpar.out.mono ?_
    rintro e w3 ⟨hsaid,K3⟩
    unfold ParseSaid at hsaid
    have HK3:=Lib.hid K3
    have hne:joinT V.texts≠ []:=λh=>hs0 (by
     rw[Hjoin.out]at h
     exact ByteArray.ext (Array.toList_inj.1 h))
    have Hne:=Lib.hid hne
    clear Hpar K3 hne
    cases hpt:parseT s.data.toList with
    | none=>
     rw[hpt]at hsaid
     have hsaid:e= .returned (.tuple #[.int .i64 0,.slice none 0 0,.iface 48 (.int .i64 3)]):=hsaid
     subst hsaid
     have Hpt:=Lib.hid hpt
     clear hpt
     go_wp2_with fail
     go_ret2
     refine⟨?_,HKw.out.thenN HK3.out⟩
     unfold OpenBSaid
     rw[if_neg Hne.out,Hjoin.out,Hpt.out]
     exact⟨rfl,Hv1.out.dev.keep HK3.out (λ_ _ x=>x),Hv1.out.cnt.keep HK3.out (λx=>x)⟩
    | some r=>
     obtain⟨dm,l⟩:=r
     rw[hpt]at hsaid
     obtain⟨v,L,rfl,hLp,hit,hir⟩:=hsaid
     have hback:=parseT_back hpt
     subst hLp
     have hok:=hback.1
     have hshape:=shape_print hok
     obtain⟨dn,hdn⟩:∃dn:Nat,dm=dn:=⟨dm.toNat,by simp only[printOk,Bool.and_eq_true,decide_eq_true_eq]at hok;omega⟩
     subst hdn
     have hrise:risesB (L.map plainI)=true:=by
      simp only[printOk,Bool.and_eq_true]at hok
      exact hok.2
     have hrs:=nowOf_rises hrise
     have hl60:L.length<=60:=by
      simp only[printOk,Bool.and_eq_true,decide_eq_true_eq,List.length_map]at hok
      omega
     obtain⟨p,c,rfl⟩:=hit.rows.len
     obtain⟨q2,hq2⟩:∃q2,q2=L.length:=⟨_,rfl⟩
     have hrows:=hit.rows
     rw[<-hq2]at hrows hl60⊢
     have hnumr:∀x∈L,NumsR w3 x:=λx hx=>⟨hit.nums x hx,hir x hx⟩
     have B3:=HB2.out.keepN HK3.out
     have f1:=B3.free 1
     have b1:=B3.cell1
     have B4:=B3.set1 dn
     have K4:Keep (OneB BB) w3 (w3.setCell ⟨BB,1,none⟩ (.int .i64 dn)):=(Keep.refl _ _).set1 1 _
     have M3:=HMm.out.keep HK3.out (λx=>x)
     have M4:=M3.keep K4 (λe=>M3.row_ne B3 e)
     have R4:=rows_keepB hrows B3 K4
     have N4:∀x∈L,NumsR (w3.setCell ⟨BB,1,none⟩ (.int .i64 dn)) x:=λx hx=>(hnumr x hx).keep K4 (λb c t f h hh=>(B3.other b c t f h hh).int)
     obtain⟨w4,hw4⟩:∃w4,w4=w3.setCell ⟨BB,1,none⟩ (.int .i64 dn):=⟨_,rfl⟩
     rw[<-hw4]at B4 K4 M4 R4 N4
     have Hw4:=Lib.hid hw4
     have HB3:=Lib.hid B3
     have HB4:=Lib.hid B4
     have HK4:=Lib.hid K4
     have HM4:=Lib.hid M4
     have HR4:=Lib.hid R4
     have HN4:=Lib.hid N4
     have Hq2:=Lib.hid hq2
     have Hrs:=Lib.hid hrs
     have Hpt:=Lib.hid hpt
     clear hw4 B3 B4 K4 M3 M4 R4 N4 hq2 hrs hback hrise hit hir hnumr hrows hpt
     have hokd:=Lib.hid hok
     clear hok
     go_upto_region 19 with(fail)
     rw[<-Hw4.out]
     clear f1 b1
     go_wp2_with fail
     go_loopw [68] (λiv wr=>∃j:Nat,j<=q2∧iv= .int .i64 j∧Hid (SMapIs wr mb j (mapG aggI (nowOf (L.take j))))∧Hid (Keep (OneB mb) w4 wr)) (λiv _=>q2-(intOf iv).toNat)
     case atStart=>exact⟨0,by omega,rfl,HM4,Lib.hid (Keep.refl _ _)⟩
     case round=>
      obtain⟨j,hj,rfl,hmj,KJ⟩:=hrel
      obtain⟨wj,rfl⟩:∃wj,wj=wr:=⟨_,rfl⟩
      have hBM:BB≠mb:=by have:=HBB.out;have:=Hmb.out;omega
      have hRj:=rows_keepM HR4.out HM4.out KJ.out
      by_cases hlt2:j<q2
      ·have j2:(j:Int)<q2:=by omega
       obtain⟨b,off,rfl,-,hb,hcell⟩:=hRj.at (by rw[<-Hq2.out];omega)
       obtain⟨x,hx⟩:∃x,L[j]? =some x:=⟨_,List.getElem?_eq_getElem (by rw[<-Hq2.out];exact hlt2)⟩
       have hra:=hcell j x hx
       have hxm:x∈L:=List.mem_of_getElem? hx
       have htk:=nowOf_take L j x hx
       have hxn:=(HN4.out x hxm).1.len
       have hxs:x.name.size<=maxLen:=by
        have:=hshape.name (x.name,x) (List.mem_map.2 ⟨x,hxm,rfl⟩)
        simp only at this
        unfold maxLen;omega
       have hrj:RisesG (nowOf (L.take j)++ [(x.name,x)]):=by
        rw[<-htk]
        exact List.Pairwise.sublist ((List.take_sublist _ _).map _) Hrs.out
       have hput:putS (mapG aggI (nowOf (L.take j))) x.name (aggI x)=mapG aggI (nowOf (L.take (j+1))):=by
        rw[<-putG_S,putG_map,putG_last hrj,htk]
       obtain⟨nm,tg,av,ns⟩:=x
       simp only at hxn hxs
       obtain⟨pa,ca,rfl⟩:=hxn
       have c0:wj.cell? ⟨b,off+j*3,none⟩=some (.string nm):=hra 0 _ rfl
       have c1:wj.cell? ⟨b,off+j*3+1,none⟩=some (.string tg):=hra 1 _ rfl
       have c2:wj.cell? ⟨b,off+j*3+2,none⟩=some (.slice pa ns.length ca):=hra 2 _ rfl
       obtain⟨nl,hnl⟩:∃n,n=ns.length:=⟨_,rfl⟩
       have hagg:aggI ⟨nm,tg,.slice pa ns.length ca,ns⟩= .agg #[.string nm,.string tg,.slice pa nl ca]:=by rw[hnl];rfl
       rw[hagg]at hput
       rw[<-hnl]at c2
       simp only at hput
       have KA:Keep NoB wj (wj.alloc (.cells #[.string nm,.string tg,.slice pa nl ca] 45)):=(Keep.refl _ _).alloc _
       have hBj:=(HB4.out.keep KJ.out hBM).keepN KA
       have hZ:=heap_alloc_new wj (.cells #[.string nm,.string tg,.slice pa nl ca] 45)
       have LZ:OpenC BB wj.heap.size mb (.string nm) (.string tg) (.slice pa nl ca) (wj.alloc (.cells #[.string nm,.string tg,.slice pa nl ca] 45)):=⟨hBj.cell2,cellOf hZ 0 rfl,cellOf hZ 1 rfl,cellOf hZ 2 rfl⟩
       obtain⟨Z,hZe⟩:∃Z,Z=wj.heap.size:=⟨_,rfl⟩
       rw[<-hZe]at LZ
       have Hput:=Lib.hid hput
       have HKA:=Lib.hid KA
       have HLZ:=Lib.hid LZ
       have HZe:=Lib.hid hZe
       clear hput KA hBj hZ LZ hcell hra hx hxm htk hrj hnl hagg hRj
       clear hZe
       go_upto_region 22 with(fail)
       rw[<-HZe.out]
       have l1:∀x:InC (OpenC BB Z mb (.string nm) (.string tg) (.slice pa nl ca)),x.w.cell? ⟨BB,2,none⟩=some (.map (some mb)):=λx=>x.h.1
       have l2:∀x:InC (OpenC BB Z mb (.string nm) (.string tg) (.slice pa nl ca)),x.w.cell? ⟨Z,0,none⟩=some (.string nm):=λx=>x.h.2.1
       have l3:∀x:InC (OpenC BB Z mb (.string nm) (.string tg) (.slice pa nl ca)),x.w.cell? ⟨Z,1,none⟩=some (.string tg):=λx=>x.h.2.2.1
       have l4:∀x:InC (OpenC BB Z mb (.string nm) (.string tg) (.slice pa nl ca)),x.w.cell? ⟨Z,2,none⟩=some (.slice pa nl ca):=λx=>x.h.2.2.2
       refine wp_region_mix (OpenC BB Z mb (.string nm) (.string tg) (.slice pa nl ca)) [(true,0),(true,1),(true,2),(true,3),(true,4),(true,5),(true,6),(false,7)] (by kernel_rfl) (by kernel_rfl) (λc a d v w h=>by cases d<;>exact h) ?_
       simp only[wpMixC,pickL,List.getElem?_toArray,List.getElem?_cons_succ,List.getElem?_cons_zero]
       repeat(refine wpEarlyC_step (λK hK=> ?_);go_simp;first|(refine⟨_,λ_=>rfl,hK _ ?_⟩;clear hK K;refine wpEarlyC_nil ?_)|(refine hK _ ?_;clear hK K;refine wpEarlyC_nil ?_))
       refine⟨HLZ.out,?_⟩
       clear l1 l2 l3 l4
       have KZD:=HKA.out.drew
       obtain⟨w5,hup,hm5,K5⟩:=(hmj.out.keep KZD (λx=>x)).update Tryz.underlying41 (by unfold maxLen;omega) nm hxs (.agg #[.string nm,.string tg,.slice pa nl ca])
       rw[Hput.out]at hm5
       have Hm5:=Lib.hid hm5
       have HK5:=Lib.hid (KJ.out.trans ((KZD.ofN).then K5) (λi hi h=>h))
       clear hm5 K5 KZD
       go_wp2_with fail
       exact⟨⟨j+1,by omega,by go_num,Hm5,HK5⟩,by simp[intOf];omega⟩
      ·obtain rfl:j=q2:=by omega
       have j2:¬(j:Int)<j:=by omega
       have hmo:=hmj.out
       rw[List.take_of_length_le (by rw[<-Hq2.out];exact Nat.le_refl _)]at hmo
       have hBj:=HB4.out.keep KJ.out hBM
       have hOM:=map_other HM4.out
       have hNj:∀p∈nowOf L,NumsR wj p.2:=λp hp=>by
        obtain⟨x,hx,rfl⟩:=List.mem_map.1 hp
        exact(HN4.out x hx).keep KJ.out (λb c t f h hh=>(hOM b c t f h hh).int)
       have hidx:=baseIndex_any hBj hmo hNj hshape
       have HBj:=Lib.hid hBj
       have Hmo:=Lib.hid hmo
       have HNj:=Lib.hid hNj
       have Hidx:=Lib.hid hidx
       clear hmj hidx hBj hmo hNj hRj hOM
       go_upto_region 24 with(fail)
       clear j2
       go_wp2_with fail
       refine Hidx.out.mono ?_
       rintro e wz ⟨rfl,⟨C',hBz,hCz⟩,Kz⟩
       have HBz:=Lib.hid hBz
       have HCz:=Lib.hid hCz
       have HKz:=Lib.hid Kz
       clear hBz hCz Kz Hidx
       go_wp2_with fail
       go_ret2
       have hsz1:w.heap.size<=w1.heap.size:=HK1.out.size
       have hw0:w0.heap.size<=w.heap.size:=hkw.size
       have KS:Keep (λb=>b=BB∨b=mb) w3 wz:=((HK4.out.mono (S':=λb=>b=BB∨b=mb) (λi hi h=> .inl h)).trans (KJ.out.mono (S':=λb=>b=BB∨b=mb) (λi hi h=> .inr h)) (λi hi h=>h)).trans (HKz.out.mono (S':=λb=>b=BB∨b=mb) (λi hi h=> .inl h)) (λi hi h=>h)
       have hv3:=Hv1.out.keepN HK3.out
       have hm3:=HMm.out.keep HK3.out (λx=>x)
       have hvz:=hv3.out KS (λb hb e=>by
        rcases e with e|e
        ·rw[e]at hb;exact vb_row hv3 HB3.out hb
        ·rw[e]at hb;exact vb_map hv3 hm3 hb) (λb hb e=>by have:=HBB.out;have:=Hmb.out;rcases e with e|e<;>omega)
       have hw3:=(HM2.out.keep KR.out (λx=>x)).keep HK3.out (λx=>x)
       have hwait:=hw3.keep KS (λe=>by
        rcases e with e|e
        ·exact hw3.row_ne HB3.out e
        ·have:=Hmb.out;have:=Hwb.out;omega)
       have hnowz:=Hmo.out.keep HKz.out (λe=>Hmo.out.row_ne HBj.out e)
       have hNz:∀p∈nowOf L,NumsR wz p.2:=λp hp=>(HNj.out p hp).keep HKz.out (λb c t f h hh=>(HBj.out.other b c t f h hh).int)
       refine⟨?_,(HKw.out.thenN HK3.out).trans KS (λi hi e=>by have:=HBB.out;have:=Hmb.out;rcases e with e|e<;>omega)⟩
       unfold OpenBSaid
       rw[if_neg Hne.out,Hjoin.out,Hpt.out]
       refine⟨BB,B,mb,wb,C',j,nowOf L,rfl,by have:=HBB.out;omega,by have:=Hmb.out;omega,by have:=Hwb.out;omega,hB,by omega,hvz,HBz.out,⟨hnowz,hwait,by have:=Hmb.out;have:=Hwb.out;omega,hNz,(λp hp=>by cases hp)⟩,HCz.out,?_⟩
       simp[plainN,mapG,nowOf,Function.comp_def,plainI]
end Go.Proofs.YtkjjpcebjcaadaaGreatDoor
namespace Go.Cof
open Go.RowKit Go.Proofs.YtkjjpcebjcaadaaGreatDoor
theorem textsOf_pages{X T:List ByteArray}(hT:T.length=32):textsOf X (pagesM T 32)=T:=by
 refine ext_getD ⟨#[]⟩ ((textsOf_len _ _).trans hT.symm) λi hi=> ?_
 rw[textsOf_len]at hi
 rw[textsOf_at _ _ i hi,getM_mem (pagesM_apart T 32) (pagesM_mem.2 ⟨i,hi,rfl⟩)]
 rfl
theorem plain_mem{L:List NowE}{p:NowE}(h:p∈L):(p.1,plainI p.2)∈plainN L:=List.mem_map.2 ⟨p,h,rfl⟩
theorem shape_of{L:List NowE}{N:List (ByteArray×PItem)}{dim:Int}(e:plainN L=N)(hl:N.length<=60)(hN:∀p∈N,p.1=p.2.1∧pitemB p.2 dim=true):
  ShapeL L∧(∀p∈L,p.1=p.2.name)∧∀p∈L,numOk p.2.ns∧(p.2.ns.length:Int)=dim:=by
 have hb:∀p∈L,p.1=p.2.name∧nameB p.2.name=true∧(p.2.ns.length:Int)=dim∧p.2.ns.any farB=false∧1<=dim∧dim<=8:=λp hp=>by
  have h:=hN (p.1,plainI p.2) (by rw[<-e];exact plain_mem hp)
  have h6:=h.2
  simp only[pitemB,plainI,Bool.and_eq_true,Bool.or_eq_true,decide_eq_true_eq,Bool.not_eq_true']at h6
  exact⟨h.1,h6.1.1.1.1.1,of_decide_eq_true h6.1.2,h6.2,h6.1.1.1.2,h6.1.1.2⟩
 have hnum:∀p∈L,numOk p.2.ns:=λp hp n hn=>by
  have h7:=(hb p hp).2.2.2.1
  rw[List.any_eq_false]at h7
  have:=h7 n hn
  simp only[farB,Bool.or_eq_true,decide_eq_true_eq,not_or]at this
  omega
 refine⟨⟨?_,λp hp=> ?_,λp hp=> ?_,λp hp=> ?_,hnum⟩,λp hp=>(hb p hp).1,λp hp=>⟨hnum p hp,(hb p hp).2.2.1⟩⟩
 ·have:=congrArg List.length e
  rw[plainN,mapG_len]at this
  omega
 ·rw[(hb p hp).1]
  have:=nameB_size (hb p hp).2.1
  omega
 ·have:=(hb p hp).2.2.1;have:=(hb p hp).2.2.2.2.1;omega
 ·have:=(hb p hp).2.2.1;have:=(hb p hp).2.2.2.2.2;omega
theorem OkB.shape{b:BaseV}(h:OkB b){L:List NowE}(e:plainN L=b.now):ShapeL L∧(∀p∈L,p.1=p.2.name)∧∀p∈L,numOk p.2.ns∧(p.2.ns.length:Int)=b.dim:=shape_of e h.len h.now
theorem OkB.shape2{b:BaseV}(h:OkB b){L:List NowE}{W:List WaitE}(e:plainN L=b.now)(e2:plainW W=b.wait):ShapeL (nextG L (waitI W))∧(∀p∈nextG L (waitI W),p.1=p.2.name)∧∀p∈nextG L (waitI W),numOk p.2.ns∧(p.2.ns.length:Int)=b.dim:=
 shape_of (N:=b.next) (by rw[plain_next,e,e2];rfl) h.len2 h.next_ok
end Go.Cof
namespace Go.Proofs.YtkjjpcebjcaadaaGreatDoor
open Go.RowKit Go.Cof
structure BaseIn(w0 w:World)(P:Nat->Prop)(BB D C:Nat)(V:VaultV)(d:DevV)(n:Int)(b:BaseV)(k B S:Nat)(wv:Value)(mb wb CC nm nw:Nat)(L:List NowE)(W:List WaitE):Prop where
 vn:VN w0 w B D C S wv V d n
 row:BaseRow w BB B b.dim mb wb CC
 rd:BaseR w mb wb nm nw L W
 cs:BaseC w CC b.dim L
 en:plainN L=b.now
 ew:plainW W=b.wait
 ok:OkB b
 room:nm+nw<=k
 blocks:∀x,P x↔(VB B D C S wv x∨x=BB∨x=wb)
 newB:w0.heap.size<=BB
 newW:w0.heap.size<=wb
def BaseN(w0 w:World)(P:Nat->Prop)(BB D C:Nat)(V:VaultV)(d:DevV)(n:Int)(b:BaseV)(k:Nat):Prop:=
 ∃B S wv mb wb CC nm nw L W,BaseIn w0 w P BB D C V d n b k B S wv mb wb CC nm nw L W
def Grow(w:World)(P P':Nat->Prop):Prop:=∀x,P' x->P x∨w.heap.size<=x
theorem Grow.refl(w:World)(P:Nat->Prop):Grow w P P:=λx h=> .inl h
section
variable {w0 w w':World}{P:Nat->Prop}{BB D C:Nat}{V:VaultV}{d:DevV}{n:Int}{b:BaseV}{k:Nat}{B S:Nat}{wv:Value}{mb wb CC nm nw:Nat}{L:List NowE}{W:List WaitE}
theorem BaseIn.keepN(h:BaseIn w0 w P BB D C V d n b k B S wv mb wb CC nm nw L W)(hk:Keep NoB w w'):BaseIn w0 w' P BB D C V d n b k B S wv mb wb CC nm nw L W:=
 ⟨h.vn.keepN hk,h.row.keepN hk,h.rd.keepN hk,h.cs.keepN hk,h.en,h.ew,h.ok,h.room,h.blocks,h.newB,h.newW⟩
theorem BaseN.keepN(h:BaseN w0 w P BB D C V d n b k)(hk:Keep NoB w w'):BaseN w0 w' P BB D C V d n b k:=by
 obtain⟨B,S,wv,mb,wb,CC,nm,nw,L,W,h⟩:=h
 exact⟨B,S,wv,mb,wb,CC,nm,nw,L,W,h.keepN hk⟩
theorem BaseN.ok(h:BaseN w0 w P BB D C V d n b k):OkB b:=by
 obtain⟨B,S,wv,mb,wb,CC,nm,nw,L,W,h⟩:=h
 exact h.ok
theorem BaseN.keep(h:BaseN w0 w P BB D C V d n b k):Keep NoB w0 w:=by
 obtain⟨B,S,wv,mb,wb,CC,nm,nw,L,W,h⟩:=h
 exact h.vn.keep
theorem BaseN.new(h:BaseN w0 w P BB D C V d n b k):∀x,P x->w0.heap.size<=x:=by
 obtain⟨B,S,wv,mb,wb,CC,nm,nw,L,W,h⟩:=h
 intro x hx
 rcases(h.blocks x).1 hx with hx|rfl|rfl
 ·exact h.vn.own x hx
 ·exact h.newB
 ·exact h.newW
theorem BaseN.more(h:BaseN w0 w P BB D C V d n b k){k':Nat}(hk:k<=k'):BaseN w0 w P BB D C V d n b k':=by
 obtain⟨B,S,wv,mb,wb,CC,nm,nw,L,W,h⟩:=h
 exact⟨B,S,wv,mb,wb,CC,nm,nw,L,W,{ h with room:=Nat.le_trans h.room hk }⟩
theorem BaseIn.keepOther(h:BaseIn w0 w P BB D C V d n b k B S wv mb wb CC nm nw L W){X:Nat->Prop}(hk:Keep X w w')(hX:OtherB w X)(h1:∀x,P x->¬X x)(h2:¬X mb)(h3:∀x,x<w0.heap.size->¬X x):BaseIn w0 w' P BB D C V d n b k B S wv mb wb CC nm nw L W:=
 ⟨h.vn.out hk (λx hx=>h1 x ((h.blocks x).2 (.inl hx))) h3,h.row.keep hk (h1 BB ((h.blocks BB).2 (.inr (.inl rfl)))),h.rd.keep hk hX h2 (h1 wb ((h.blocks wb).2 (.inr (.inr rfl)))),h.cs.keep hk hX,h.en,h.ew,h.ok,h.room,h.blocks,h.newB,h.newW⟩
theorem BaseIn.waited(h:BaseIn w0 w P BB D C V d n b k B S wv mb wb CC nm nw L W)(hk:Keep (OneB wb) w w'){b':BaseV}{nw':Nat}{W':List WaitE}(hw:SMapIs w' wb nw' (mapG Prod.fst W'))(hp:∀p∈W',PtIs w' p.2.1 (p.2.2.map aggI)∧∀x,p.2.2=some x->NumsR w' x)
  (hd:b'.dim=b.dim) (hn:b'.now=b.now) (he:plainW W'=b'.wait) (hok:OkB b') {k':Nat} (hr:nm+nw'<=k'):BaseIn w0 w' P BB D C V d n b' k' B S wv mb wb CC nm nw' L W':=by
 have hO:=map_other h.rd.wait
 have hvb:=vb_map h.vn h.rd.wait
 have hne:BB≠wb:=λe=>h.rd.wait.row_ne h.row e.symm
 exact⟨h.vn.out hk (λx hx e=>by have h1:x=wb:=e;rw[h1]at hx;exact hvb hx) (λx hx e=>by have h1:x=wb:=e;have:=h.newW;omega),by rw[hd];exact h.row.keep hk hne,
  ⟨h.rd.now.keep hk h.rd.apart,hw,h.rd.apart,λp hp=>(h.rd.items p hp).keep hk (λb c t f hs hh=>(hO b c t f hs hh).int),hp⟩,by rw[hd];exact h.cs.keep hk hO,by rw[hn];exact h.en,he,hok,hr,h.blocks,h.newB,h.newW⟩
theorem BaseIn.waits_keep(h:BaseIn w0 w P BB D C V d n b k B S wv mb wb CC nm nw L W)(hk:Keep (OneB wb) w w'):∀p∈W,PtIs w' p.2.1 (p.2.2.map aggI)∧∀x,p.2.2=some x->NumsR w' x:=λp hp=>by
 have hO:=map_other h.rd.wait
 exact⟨(h.rd.waits p hp).1.keepT hk hO,λx hx=>((h.rd.waits p hp).2 x hx).keep hk (λb c t f hs hh=>(hO b c t f hs hh).int)⟩
theorem put_n(h:BaseN w0 w P BB D C V d n b k)(hk:k<900000)(x:ItemV)(N:Nums w x.av x.ns)(hl:x.ns.length<=1000000):
  Calls Tryz.prog 33 #[.pointer (some ⟨BB,0,none⟩),aggI x] w λe w'=>e= .returned (errVal (putB b (plainI x)).1)∧BaseN w0 w' P BB D C V d n (putB b (plainI x)).2 (k+1)∧Keep P w w':=by
 obtain⟨B,S,wv,mb,wb,CC,nm,nw,L,W,h⟩:=h
 by_cases h0:b.dim=0
 ·have hrow:=h.row
  rw[h0]at hrow
  refine(basePut_state x hrow).mono ?_
  rintro e w' ⟨rfl,K⟩
  have e1:putB b (plainI x)=(6,b):=by rw[putB,if_pos h0]
  rw[e1]
  exact⟨rfl,BaseN.more ⟨B,S,wv,mb,wb,CC,nm,nw,L,W,h.keepN K⟩ (Nat.le_succ k),K.ofN⟩
 ·refine(basePut_any x N hl h.row h.rd (by have:=h.room;omega) h0).mono ?_
  rintro e w' hs
  unfold PutSaid at hs
  have hnx:plainN (nextG L (waitI W))=b.next:=by rw[plain_next,h.en,h.ew];rfl
  have hgn:getG b.next x.name=(getG (nextG L (waitI W)) x.name).map plainI:=by rw[<-hnx];exact getG_map plainI _ _
  have hln:b.next.length=(nextG L (waitI W)).length:=by rw[<-hnx,plainN,mapG_len]
  split at hs
  ·rename_i hx
   obtain⟨rfl,K⟩:=hs
   have e1:putB b (plainI x)=(1,b):=by rw[putB,if_neg h0,if_pos (show pitemB (plainI x) b.dim=false from hx)]
   rw[e1]
   exact⟨rfl,BaseN.more ⟨B,S,wv,mb,wb,CC,nm,nw,L,W,h.keepN K⟩ (Nat.le_succ k),K.ofN⟩
  ·rename_i hx
   split at hs
   ·rename_i hf
    obtain⟨rfl,K⟩:=hs
    have e1:putB b (plainI x)=(12,b):=by
     rw[putB,if_neg h0,if_neg (show¬pitemB (plainI x) b.dim=false from hx),if_pos]
     exact⟨by show getG b.next x.name=none;rw[hgn,hf.1];rfl,by rw[hln];exact hf.2⟩
    rw[e1]
    exact⟨rfl,BaseN.more ⟨B,S,wv,mb,wb,CC,nm,nw,L,W,h.keepN K⟩ (Nat.le_succ k),K.ofN⟩
   ·rename_i hf
    obtain⟨rfl,K,X,av,hX,hm,hXh,hN⟩:=hs
    have e1:putB b (plainI x)=(0,{ b with wait:=putG b.wait x.name (some (plainI x)) }):=by
     rw[putB,if_neg h0,if_neg (show¬pitemB (plainI x) b.dim=false from hx),if_neg]
     ·rfl
     ·rintro⟨h1,h2⟩
      refine hf ⟨?_,by rw[<-hln];exact h2⟩
      have h1:getG b.next x.name=none:=h1
      rw[hgn]at h1
      cases hq:getG (nextG L (waitI W)) x.name with
      | none=>rfl
      | some y=>rw[hq]at h1;cases h1
    have hok:=h.ok.put (plainI x)
    rw[e1]at hok⊢
    have hO:=map_other h.rd.wait
    refine⟨rfl,⟨B,S,wv,mb,wb,CC,nm,nw+1,L,_,h.waited (b':= { b with wait:=putG b.wait x.name (some (plainI x)) }) (k':=k+1) K hm (λp hp=> ?_) rfl rfl ?_ hok (by have:=h.room;omega)⟩,K.mono (λi hi e=>by
     have h1:i=wb:=e
     rw[h1]
     exact(h.blocks wb).2 (.inr (.inr rfl)))⟩
    ·rcases mem_putG hp with rfl|hp
     ·refine⟨⟨X,.string x.name,.string x.tag,av,(0,0),rfl,rfl,hXh⟩,λy hy=> ?_⟩
      obtain rfl:=Option.some.inj hy
      exact hN
     ·exact h.waits_keep K p hp.1
    ·rw[plainW_put,h.ew]
     rfl
theorem del_n(h:BaseN w0 w P BB D C V d n b k)(hk:k<900000)(q:ByteArray)(hq:q.size<=maxLen):
  Calls Tryz.prog 35 #[.pointer (some ⟨BB,0,none⟩),.string q] w λe w'=>e= .returned (errVal (delB b q).1)∧BaseN w0 w' P BB D C V d n (delB b q).2 (k+1)∧Keep P w w':=by
 obtain⟨B,S,wv,mb,wb,CC,nm,nw,L,W,h⟩:=h
 refine(baseDel_any q hq h.row h.rd (by have:=h.room;omega)).mono ?_
 rintro e w' hs
 unfold DelSaid at hs
 have hnx:plainN (nextG L (waitI W))=b.next:=by rw[plain_next,h.en,h.ew];rfl
 have hgn:getG b.next q=(getG (nextG L (waitI W)) q).map plainI:=by rw[<-hnx];exact getG_map plainI _ _
 split at hs
 ·rename_i hf
  obtain⟨rfl,K⟩:=hs
  have e1:delB b q=(7,b):=by rw[delB,if_pos (by rw[hgn,hf];rfl)]
  rw[e1]
  exact⟨rfl,BaseN.more ⟨B,S,wv,mb,wb,CC,nm,nw,L,W,h.keepN K⟩ (Nat.le_succ k),K.ofN⟩
 ·rename_i hf
  obtain⟨rfl,K,hm⟩:=hs
  have e1:delB b q=(0,{ b with wait:=putG b.wait q none }):=by
   rw[delB,if_neg]
   intro h1
   rw[hgn]at h1
   cases hx:getG (nextG L (waitI W)) q with
   | none=>exact hf hx
   | some y=>rw[hx]at h1;cases h1
  have hok:=h.ok.del q
  rw[e1]at hok⊢
  refine⟨rfl,⟨B,S,wv,mb,wb,CC,nm,nw+1,L,_,h.waited (b':= { b with wait:=putG b.wait q none }) (k':=k+1) K hm (λp hp=> ?_) rfl rfl ?_ hok (by have:=h.room;omega)⟩,K.mono (λi hi e=>by
   have h1:i=wb:=e
   rw[h1]
   exact(h.blocks wb).2 (.inr (.inr rfl)))⟩
  ·rcases mem_putG hp with rfl|hp
   ·exact⟨rfl,λy hy=>by cases hy⟩
   ·exact h.waits_keep K p hp.1
  ·rw[plainW_put,h.ew]
   rfl
theorem OtherB.mono{w:World}{S S':Nat->Prop}(h:OtherB w S)(hs:∀x,S' x->S x):OtherB w S':=λb c t f hb hh=>h b c t f (hs b hb) hh
theorem undo_n(h:BaseN w0 w P BB D C V d n b k):
  Calls Tryz.prog 24 #[.pointer (some ⟨BB,0,none⟩)] w λe w'=>e= .returned (.tuple #[])∧(∃P',BaseN w0 w' P' BB D C V d n (undoB b) k∧Grow w P P')∧Keep P w w':=by
 obtain⟨B,S,wv,mb,wb,CC,nm,nw,L,W,h⟩:=h
 refine(baseUndo_any h.row).mono ?_
 rintro e w' ⟨rfl,hB,hM,K⟩
 have hO:=h.row.other
 have hsz:w0.heap.size<=w.heap.size:=h.vn.keep.size
 have hlt:=h.row.lt
 have hN:BaseIn w0 w' (λx=>VB B D C S wv x∨x=BB∨x=w.heap.size) BB D C V d n (undoB b) k B S wv mb w.heap.size CC nm 0 L []:=
  ⟨h.vn.out K (λx hx e=>by have h1:x=BB:=e;rw[h1]at hx;exact vb_row h.vn h.row hx) (λx hx e=>by have h1:x=BB:=e;have:=h.newB;omega),hB,
   ⟨h.rd.now.keep K (λe=>h.rd.now.row_ne h.row e),hM,by have:=h.rd.now.lt;omega,λp hp=>(h.rd.items p hp).keep K (λb c t f hs hh=>(hO b c t f hs hh).int),(λp hp=>by cases hp)⟩,
   h.cs.keep K hO,h.en,rfl,h.ok.undo,by have:=h.room;omega,λx=>Iff.rfl,h.newB,hsz⟩
 refine⟨rfl,⟨_,⟨B,S,wv,mb,w.heap.size,CC,nm,0,L,[],hN⟩,λx hx=> ?_⟩,K.mono (λi hi e=>(h.blocks i).2 (.inr (.inl e)))⟩
 rcases hx with hx|rfl|rfl
 ·exact .inl ((h.blocks x).2 (.inl hx))
 ·exact .inl ((h.blocks x).2 (.inr (.inl rfl)))
 ·exact .inr (Nat.le_refl _)
theorem has_n(h:BaseN w0 w P BB D C V d n b k){mm q:Nat}{M:List NowE}(hM:SMapIs w mm q (mapG aggI M))(hMn:∀p∈M,Nums w p.2.av p.2.ns∧p.2.ns.length<=1000000)(hM6:M.length<=1000000):
  Calls Tryz.prog 18 #[.pointer (some ⟨BB,0,none⟩),.map (some mm)] w λe w'=>HasSaid w w' (plainN M=b.now) e:=by
 obtain⟨B,S,wv,mb,wb,CC,nm,nw,L,W,h⟩:=h
 have hs:=h.ok.shape h.en
 have hh:=has_any h.row h.rd.now h.rd.items hs.1 hM hMn hs.2.1 hM6
 rwa [h.en]at hh
theorem items_n(h:BaseN w0 w P BB D C V d n b k):
  Calls Tryz.prog 21 #[.pointer (some ⟨BB,0,none⟩)] w λe w'=>(∃(v:Value) (l:List ItemV),e= .returned v∧OwnsN w' w.heap.size 45 3 v l.length (l.flatMap encItem)∧l.map plainI=itemsG b.now∧∀x∈l,NumsR w' x)∧Keep NoB w w':=by
 obtain⟨B,S,wv,mb,wb,CC,nm,nw,L,W,h⟩:=h
 have hs:=h.ok.shape h.en
 refine(baseItems_any h.row h.rd.now h.rd.items hs.1).mono ?_
 rintro e w' ⟨⟨v,l,he,ho⟩,K⟩
 refine⟨⟨v,l,he,ho.row,?_,ho.nums⟩,K⟩
 rw[ho.same,<-h.en,plain_items]
theorem find_n(h:BaseN w0 w P BB D C V d n b k){va:Value}{at_:List Int}(N:Nums w va at_)(ha:at_.length<=1000000)(q:Int)(tag:ByteArray)(ht:tag.size<=1000000):
  Calls Tryz.prog 19 #[.pointer (some ⟨BB,0,none⟩),va,.int .i64 q,.string tag] w λe w'=>FindSaid w w' b.dim (itemsG b.now) at_ q tag e∧Keep NoB w w':=by
 obtain⟨B,S,wv,mb,wb,CC,nm,nw,L,W,h⟩:=h
 have hs:=h.ok.shape h.en
 have hf:=baseFind_any h.row h.cs hs.1.few h.ok.eight (λp hp=>⟨(hs.2.2 p hp).1,by have:=(hs.2.2 p hp).2;omega⟩) N ha q tag ht
 rwa [show(L.map λp=>plainI p.2)=itemsG b.now by rw[<-h.en,plain_items]]at hf
theorem make_n(h:BaseN w0 w P BB D C V d n b k)(q:Int):
  Calls Tryz.prog 11 #[.pointer (some ⟨BB,0,none⟩),.int .i64 q] w λe w'=>e= .returned (errVal (makeB b q).1)∧BaseN w0 w' P BB D C V d n (makeB b q).2 k∧Keep P w w':=by
 obtain⟨B,S,wv,mb,wb,CC,nm,nw,L,W,h⟩:=h
 by_cases h0:b.dim=0
 ·by_cases hq:q<1∨8<q
  ·have hrow:=h.row
   rw[h0]at hrow
   refine(baseMake_arg q hrow hq).mono ?_
   rintro e w' ⟨rfl,K⟩
   have e1:makeB b q=(1,b):=by rw[makeB,if_neg (by omega),if_pos hq]
   rw[e1]
   exact⟨rfl,⟨B,S,wv,mb,wb,CC,nm,nw,L,W,h.keepN K⟩,K.ofN⟩
  ·have hrow:=h.row
   rw[h0]at hrow
   have hL:L= []:=by
    have h1:=h.en
    rw[(h.ok.zero h0).1]at h1
    have:=congrArg List.length h1
    rw[plainN,mapG_len]at this
    exact List.eq_nil_of_length_eq_zero this
   have hnow:=h.rd.now
   rw[hL]at hnow
   refine(baseMake_any q hrow hnow (by omega)).mono ?_
   rintro e w' ⟨rfl,⟨C',hB,hC⟩,K⟩
   have e1:makeB b q=(0,{ b with dim:=q.toNat }):=by rw[makeB,if_neg (by omega),if_neg hq]
   have hok:=h.ok.make q
   rw[e1]at hok⊢
   have hO:=h.row.other
   refine⟨rfl,⟨B,S,wv,mb,wb,C',nm,nw,L,W,⟨h.vn.out K (λx hx e=>by have h1:x=BB:=e;rw[h1]at hx;exact vb_row h.vn h.row hx) (λx hx e=>by have h1:x=BB:=e;have:=h.newB;omega),hB,h.rd.setRow h.row K,by rw[hL];exact hC,h.en,h.ew,hok,h.room,h.blocks,h.newB,h.newW⟩⟩,K.mono (λi hi e=>(h.blocks i).2 (.inr (.inl e)))⟩
 ·refine(baseMake_state q h.row h0).mono ?_
  rintro e w' ⟨rfl,K⟩
  have e1:makeB b q=(6,b):=by rw[makeB,if_pos h0]
  rw[e1]
  exact⟨rfl,⟨B,S,wv,mb,wb,CC,nm,nw,L,W,h.keepN K⟩,K.ofN⟩
end
end Go.Proofs.YtkjjpcebjcaadaaGreatDoor
namespace Go.Cof
open Go.RowKit Go.Proofs.YtkjjpcebjcaadaaGreatDoor
theorem items_back{N:List (ByteArray×PItem)}(h:∀p∈N,p.1=p.2.1):(itemsG N).map (λx=>(x.1,x))=N:=by
 unfold itemsG
 rw[List.map_map]
 conv=>rhs;rw[<-List.map_id N]
 refine List.map_congr_left λp hp=> ?_
 show(p.2.1,p.2)=p
 rw[<-h p hp]
theorem openBase_ok{b:BaseV}(h:OkB b)(T:List ByteArray):OkB (openBase b T):=by
 unfold openBase
 split
 ·exact⟨List.Pairwise.nil,List.Pairwise.nil,(λp hp=>by cases hp),(λp hp=>by cases hp),by simp,by simp[BaseV.next,nextG],λ_=>⟨rfl,rfl⟩,by simp⟩
 ·exact⟨h.rn,List.Pairwise.nil,h.now,(λp hp=>by cases hp),h.len,h.len,λe=>⟨(h.zero e).1,rfl⟩,h.eight⟩
def More(V V':VaultV):Prop:=joinT V.texts≠ []->joinT V'.texts≠ []
end Go.Cof
namespace Go.Proofs.YtkjjpcebjcaadaaGreatDoor
open Go.RowKit Go.Cof
set_option maxRecDepth 100000
section
variable {w0 w w':World}{P:Nat->Prop}{BB D C:Nat}{V:VaultV}{d:DevV}{n':Int}{b:BaseV}{k:Nat}{B S:Nat}{wv:Value}{mb wb CC nm nw:Nat}{L:List NowE}{W:List WaitE}
theorem baseTurn_of{dim:Nat}(hB:BaseRow w BB B dim mb wb CC){R:Value->World->Prop}(hT:Calls Tryz.prog 87 #[.pointer (some ⟨B,0,none⟩)] w λe w'=>∃v,e= .returned v∧R v w'):
  Calls Tryz.prog 39 #[.pointer (some ⟨BB,0,none⟩)] w λe w'=>∃v,e= .returned v∧R v w':=by
 have b0:=hB.cell0
 have HT:=Lib.hid hT
 clear hT
 go_enter Tryz.func39,Tryz.ntmps39
 go_wp2_with fail
 refine HT.out.mono ?_
 rintro e w1 ⟨v,rfl,hR⟩
 have HR:=Lib.hid hR
 clear hR HT
 go_wp2_with fail
 go_ret
 exact⟨v,rfl,HR.out⟩
theorem baseCommit_state(hB:BaseRow w BB B 0 mb wb CC):
  Calls Tryz.prog 12 #[.pointer (some ⟨BB,0,none⟩)] w λe w'=>e= .returned (errVal 6)∧Keep NoB w w':=by
 have b1:=hB.cell1
 go_enter Tryz.func12,Tryz.ntmps12
 go_wp2_with fail
 go_ret
 exact⟨rfl,Keep.refl _ _⟩
def ToldB(w0 w w':World)(P:Nat->Prop)(BB D C:Nat)(secret:ByteArray)(V:VaultV)(d:DevV)(n:Nat)(b':BaseV)(k:Nat)(ev:Value)(Q:VaultV->Prop):Prop:=
 (ev= .nilIface∧∃V' d' P',BaseN w0 w' P' BB D C V' d' ((n+1:Nat):Int) b' k∧Grow w P P'∧InvV secret V' d'.sure (n+1)∧d'.wait= []∧Said V'.texts b'∧(d.fuse<0->d'.fuse=d.fuse)∧Q V')∨
 (ev=errVal 14∧0<=d.fuse∧∃B S wv' d',VN w0 w' B D C S wv' (dieV V) d' n∧(∀x,VB B D C S wv' x->P x∨w.heap.size<=x)∧
  ∀keeps,InvV secret V (crashTo d'.sure d'.wait keeps d'.wait.length) n∨∃V2,InvV secret V2 (crashTo d'.sure d'.wait keeps d'.wait.length) (n+1)∧Said V2.texts b'∧Q V2)
theorem turn_n{n:Nat}(hn':n'=n)(h:BaseN w0 w P BB D C V d n' b k){secret:ByteArray}(hi:InvV secret V d.sure n)(hw:d.wait= [])(hn:n<1000)(hsec:secret.size<=1000)(R:RoundsVar w0)(hsaid:Said V.texts b):
  Calls Tryz.prog 39 #[.pointer (some ⟨BB,0,none⟩)] w λe w'=>∃ev,e= .returned ev∧ToldB w0 w w' P BB D C secret V d n b k ev (λV'=>V'.texts=V.texts)∧Keep P w w':=by
 obtain⟨B,S,wv,mb,wb,CC,nm,nw,L,W,h⟩:=h
 subst hn'
 refine baseTurn_of h.row ((turn_vn h.vn rfl hi hw hn hsec R).mono ?_)
 rintro e w' ⟨ht,K⟩
 have KP:Keep P w w':=K.mono λi _ hx=>(h.blocks i).2 (.inl hx)
 have htx:(nextV V (V.now.epoch+1) (pagesOf (pagesM V.texts 32) (λ_=>true))).texts=V.texts:=by
  show putTexts V.texts _=_
  rw[putTexts_of hi.texts (pagesM_apart _ _) (pagesM_good hi.t200 hi.texts) (λi s _ ho=>by cases ho),textsOf_self hi.texts]
 obtain⟨wv',d',hm,⟨he,hv,hinv,hs,hwt,hf⟩|⟨he,hv,hf,hc⟩⟩:=ht
 ·refine⟨_,he,.inl ⟨rfl,_,d',λx=>VB B D C S wv' x∨x=BB∨x=wb,⟨B,S,wv',mb,wb,CC,nm,nw,L,W,⟨hv,h.row.keep K (vb_row h.vn h.row),h.rd.keep K (vb_other h.vn) (vb_map h.vn h.rd.now) (vb_map h.vn h.rd.wait),h.cs.keep K (vb_other h.vn),h.en,h.ew,h.ok,h.room,λx=>Iff.rfl,h.newB,h.newW⟩⟩,λx hx=> ?_,hinv,hwt,by rw[htx];exact hsaid,hf,htx⟩,KP⟩
  rcases hx with hx|hx|hx
  ·exact(vb_moved hm x hx).imp (λhx=>(h.blocks x).2 (.inl hx)) (λhx=>hx)
  ·exact .inl ((h.blocks x).2 (.inr (.inl hx)))
  ·exact .inl ((h.blocks x).2 (.inr (.inr hx)))
 ·refine⟨_,he,.inr ⟨rfl,hf,B,S,wv',d',hv,λx hx=>(vb_moved hm x hx).imp (λhx=>(h.blocks x).2 (.inl hx)) (λhx=>hx),λkeeps=> ?_⟩,KP⟩
  rcases hc keeps with hc|hc
  ·exact .inl hc
  ·exact .inr ⟨_,hc,by rw[htx];exact hsaid,htx⟩
theorem commit_n{n:Nat}(hn':n'=n)(h:BaseN w0 w P BB D C V d n' b k)(hk:k<900000){secret:ByteArray}(hi:InvV secret V d.sure n)(hw:d.wait= [])(hn:n<1000)(hsec:secret.size<=1000)(R:RoundsVar w0)(PV:PowVar w0):
  Calls Tryz.prog 12 #[.pointer (some ⟨BB,0,none⟩)] w λe w'=>∃ev,e= .returned ev∧((b.dim=0∧ev=errVal 6∧BaseN w0 w' P BB D C V d n b k)∨(b.dim≠0∧ToldB w0 w w' P BB D C secret V d n (doneB b) k ev (λV'=>joinT V'.texts≠ [])))∧Keep P w w':=by
 obtain⟨B,S,wv,mb,wb,CC,nm,nw,L,W,h⟩:=h
 subst hn'
 by_cases h0:b.dim=0
 ·have hrow:=h.row
  rw[h0]at hrow
  refine(baseCommit_state hrow).mono ?_
  rintro e w' ⟨rfl,K⟩
  exact⟨_,rfl,.inl ⟨h0,rfl,⟨B,S,wv,mb,wb,CC,nm,nw,L,W,h.keepN K⟩⟩,K.ofN⟩
 ·have hnx:plainN (nextG L (waitI W))=b.next:=by rw[plain_next,h.en,h.ew];rfl
  have hpi:(nextG L (waitI W)).map (λp=>plainI p.2)=itemsG b.next:=by rw[<-hnx,plain_items]
  have hpok:=h.ok.print (by omega)
  have hs2:=h.ok.shape2 h.en h.ew
  have hro:=h.room
  refine(baseCommit_any h.row h.rd h.vn h.newB hi hw hn hsec R PV hs2.1 (by rw[hpi];exact hpok) (by omega)).mono ?_
  rintro e w' ⟨ht,K⟩
  rw[hpi]at ht
  have htb:(⟨(printT b.dim (itemsG b.next)).toArray⟩:ByteArray)=textB b:=rfl
  rw[htb]at ht
  have hpl:(pagesT (textB b)).length=32:=by simp[pagesT]
  have hpg:∀s∈pagesT (textB b),s.size<=200:=λs hs=>by
   obtain⟨i,_,rfl⟩:=List.mem_map.1 hs
   exact chunkB_size _ i
  have KP:Keep P w w':=K.mono λi _ hx=>(h.blocks i).2 (hx.imp (λx=>x) (λx=> .inl x))
  have htx:(nextV V V.now.epoch (pagesOf (pagesM (pagesT (textB b)) 32) (otherE V))).texts=pagesT (textB b):=by
   show putTexts V.texts _=_
   rw[putTexts_of hi.texts (pagesM_apart _ _) (pagesM_good hpg hpl) (λi s _ ho=>other_false ho),textsOf_pages hpl]
  have hsd:=said_done h.ok (show 1<=b.dim by omega)
  have hjn:joinT (pagesT (textB b))≠ []:=by
   rw[joinT_pages (h.ok.text (show 1<=b.dim by omega))]
   exact printB_ne _ _
  have hjq:joinT (nextV V V.now.epoch (pagesOf (pagesM (pagesT (textB b)) 32) (otherE V))).texts≠ []:=by rw[htx];exact hjn
  obtain⟨wv',d',hm,⟨he,hv,hinv,hwt,hf,mb',wb',CC',nm',h1,h2,h3,hB',hR',hC'⟩|⟨he,hv,hf,hc⟩⟩:=ht
  ·have hws:=h.vn.keep.size
   refine⟨_,he,.inr ⟨h0,.inl ⟨rfl,_,d',λx=>VB B D C S wv' x∨x=BB∨x=wb',⟨B,S,wv',mb',wb',CC',nm',0,_,[],⟨hv,hB',hR',hC',hnx,rfl,h.ok.done,by omega,λx=>Iff.rfl,h.newB,by omega⟩⟩,λx hx=> ?_,hinv,hwt,by rw[htx];exact hsd,hf,hjq⟩⟩,KP⟩
   rcases hx with hx|hx|hx
   ·exact(vb_moved hm x hx).imp (λhx=>(h.blocks x).2 (.inl hx)) (λhx=>hx)
   ·exact .inl ((h.blocks x).2 (.inr (.inl hx)))
   ·exact .inr (by omega)
  ·refine⟨_,he,.inr ⟨h0,.inr ⟨rfl,hf,B,S,wv',d',hv,λx hx=>(vb_moved hm x hx).imp (λhx=>(h.blocks x).2 (.inl hx)) (λhx=>hx),λkeeps=> ?_⟩⟩,KP⟩
   rcases hc keeps with hc|hc
   ·exact .inl hc
   ·exact .inr ⟨_,hc,by rw[htx];exact hsd,hjq⟩
theorem open_n(hd:DevIs w D S wv d)(hkw:Keep NoB w0 w)(hown:∀b,DevB D S wv b∨b=C->w0.heap.size<=b){n:Nat}(hc:CountAt w C n)(hn:n<1000)(hb:∀i,i<66->(d.now.getD i ⟨#[]⟩).size=256){secret:ByteArray}(hs:secret.size=16)(R:RoundsVar w0)(IV:ItemVars w0){m:Int}(ho:openV secret d.now n=some (V,m))
  (hT:V.texts.length=32) (ht:∀s∈V.texts,s.size<=200) (hok:OkB b) (hsaid:Said V.texts b):
  Calls Tryz.prog 10 #[.pointer (some ⟨D,0,none⟩),.pointer (some ⟨C,0,none⟩),.string secret] w λe w'=>(∃BB P',e= .returned (.tuple #[.pointer (some ⟨BB,0,none⟩),.nilIface])∧BaseN w0 w' P' BB D C V d m (openBase b V.texts) 60∧∀x,P' x->DevB D S wv x∨x=C∨w.heap.size<=x)∧Keep (OneB C) w w':=by
 refine(baseOpen_any hd hkw hown hc hn hb hs R IV ho hT ht).mono ?_
 rintro e w' ⟨h,K⟩
 refine⟨?_,K⟩
 have hokO:=openBase_ok hok V.texts
 have fin:∀(dim:Nat) (l:List PItem),openBase b V.texts=⟨dim,l.map (λx=>(x.1,x)),[]⟩->OpenedB w0 w w' D C S wv V d m dim l e->∃BB P',e= .returned (.tuple #[.pointer (some ⟨BB,0,none⟩),.nilIface])∧BaseN w0 w' P' BB D C V d m (openBase b V.texts) 60∧∀x,P' x->DevB D S wv x∨x=C∨w.heap.size<=x:=by
  intro dim l hbe ⟨BB,B,mb,wb,CC,nm,L,he,h1,h2,h3,h4,h5,hv,hB,hR,hC,hL⟩
  have hws:=hkw.size
  refine⟨BB,λx=>VB B D C S wv x∨x=BB∨x=wb,he,⟨B,S,wv,mb,wb,CC,nm,0,L,[],⟨hv,by rw[hbe];exact hB,hR,by rw[hbe];exact hC,by rw[hbe];exact hL,by rw[hbe];rfl,hokO,by omega,λx=>Iff.rfl,by omega,by omega⟩⟩,λx hx=> ?_⟩
  rcases hx with(hx|hx|hx)|hx|hx
  ·exact .inl hx
  ·exact .inr (.inr (by omega))
  ·exact .inr (.inl hx)
  ·exact .inr (.inr (by omega))
  ·exact .inr (.inr (by omega))
 unfold OpenBSaid at h
 split at h
 ·rename_i hj
  refine fin 0 [] ?_ h
  rw[openBase,if_pos hj]
  rfl
 ·rename_i hj
  rcases hsaid with⟨h1,_⟩|⟨h1,h2⟩
  ·exact absurd h1 hj
  ·have hpp:=parse_print (printB_ok h1 hok.eight hok.rn hok.len hok.now)
   rw[<-h2]at hpp
   rw[hpp]at h
   refine fin b.dim (itemsG b.now) ?_ (by simpa using h)
   rw[openBase,if_neg hj,items_back (λp hp=>(hok.now p hp).1)]
end
end Go.Proofs.YtkjjpcebjcaadaaGreatDoor
namespace Go.Proofs.YtkjjpcebjcaadaaGreatDoor
open Go.RowKit Go.Cof
structure LawSt(w0 w:World)(P:Nat->Prop)(BB D C:Nat)(V:VaultV)(d:DevV)(n:Nat)(b:BaseV)(k nowB thenB:Nat)(Ln Lt:List NowE):Prop where
 base:BaseN w0 w P BB D C V d n b k
 inv:InvV secB V d.sure n
 wait:d.wait= []
 said:Said V.texts b
 now:∃q,q<=200∧SMapIs w nowB q (mapG aggI Ln)
 thn:∃q,q<=200∧SMapIs w thenB q (mapG aggI Lt)
 numN:∀p∈Ln,Nums w0 p.2.av p.2.ns∧p.2.ns.length<=1000000
 numT:∀p∈Lt,Nums w0 p.2.av p.2.ns∧p.2.ns.length<=1000000
 eqN:plainN Ln=b.now
 eqT:plainN Lt=b.next
 sepN:¬P nowB
 sepT:¬P thenB
 newN:w0.heap.size<=nowB
 newT:w0.heap.size<=thenB
def GoodC(c:Int):Prop:=c=0∨c=1∨c=6∨c=7∨c=12
def DoesSaid(w0 w w':World)(P:Nat->Prop)(BB D C:Nat)(V:VaultV)(d:DevV)(n:Nat)(b:BaseV)(k nowB thenB:Nat)(wh:Int)(e:Ending):Prop:=
 ∃nB tB ev,e= .returned (.tuple #[.map (some nB),.map (some tB),ev])∧Keep P w w'∧
  ((∃V' d' n' b' P' Ln' Lt' c,ev=errVal c∧GoodC c∧LawSt w0 w' P' BB D C V' d' n' b' (k+1) nB tB Ln' Lt'∧Grow w P P'∧(d.fuse<0->d'.fuse=d.fuse)∧b'.dim=b.dim∧((wh=3∨wh=4)->c=0∧n'=n+1)∧(¬(wh=3∨wh=4)->n'=n)∧More V V')∨
    (ev=errVal 14∧0<=d.fuse∧nB=nowB∧tB=thenB∧(wh=3∨wh=4)∧∃B S wv' d',VN w0 w' B D C S wv' (dieV V) d' n∧(∀x,VB B D C S wv' x->P x∨w.heap.size<=x)∧
    ∀keeps,InvV secB V (crashTo d'.sure d'.wait keeps d'.wait.length) n∨∃V2,InvV secB V2 (crashTo d'.sure d'.wait keeps d'.wait.length) (n+1)∧Said V2.texts (if wh=3 then doneB b else b)∧More V V2))
section
variable {w0 w w':World}{P:Nat->Prop}{BB D C:Nat}{V:VaultV}{d:DevV}{n:Nat}{b:BaseV}{k nowB thenB:Nat}{Ln Lt:List NowE}
theorem law_items{w:World}{mm q:Nat}{L:List NowE}(hm:SMapIs w mm q (mapG aggI L))(hn:∀p∈L,Nums w0 p.2.av p.2.ns∧p.2.ns.length<=1000000):∀p∈mapG aggI L,∃a t q n c,p.2= .agg #[.string a,.string t,.slice q n c]:=λp hp=>by
 obtain⟨y,hy,rfl⟩:=mapG_mem hp
 obtain⟨p3,c3,h3⟩:=(hn y hy).1.len
 exact⟨y.2.name,y.2.tag,p3,_,c3,by show aggI y.2=_;rw[aggI,encItem,h3]⟩
theorem LawSt.len(h:LawSt w0 w P BB D C V d n b k nowB thenB Ln Lt):Lt.length<=60∧Ln.length<=60:=by
 have h1:=congrArg List.length h.eqT
 have h2:=congrArg List.length h.eqN
 rw[plainN,mapG_len]at h1 h2
 have:=h.base.ok.len2
 have:=h.base.ok.len
 omega
theorem LawSt.keepN(h:LawSt w0 w P BB D C V d n b k nowB thenB Ln Lt)(hk:Keep NoB w w'):LawSt w0 w' P BB D C V d n b k nowB thenB Ln Lt:=by
 obtain⟨q1,hq1,m1⟩:=h.now
 obtain⟨q2,hq2,m2⟩:=h.thn
 exact⟨h.base.keepN hk,h.inv,h.wait,h.said,⟨q1,hq1,m1.keep hk (λx=>x)⟩,⟨q2,hq2,m2.keep hk (λx=>x)⟩,h.numN,h.numT,h.eqN,h.eqT,h.sepN,h.sepT,h.newN,h.newT⟩
theorem SMapIs.sep{w w':World}{mm q:Nat}{A:List SEnt}{P:Nat->Prop}(h:SMapIs w mm q A)(hk:Keep P w w')(hn:¬P mm):SMapIs w' mm q A:=h.keep hk hn
theorem BaseN.lt(h:BaseN w0 w P BB D C V d n b k):∀x,P x->x<w.heap.size:=by
 obtain⟨B,S,wv,mb,wb,CC,nm,nw,L,W,h⟩:=h
 intro x hx
 rcases(h.blocks x).1 hx with hx|rfl|rfl
 ·exact h.vn.lt x hx
 ·exact h.row.lt
 ·exact h.rd.wait.lt
theorem BaseN.keepMap(h:BaseN w0 w P BB D C V d n b k){w2 w3:World}{tb:Nat}(K2:Keep NoB w w2)(K3:Keep (OneB tb) w2 w3)(ht:w.heap.size<=tb)(hO:OtherB w2 (OneB tb)):BaseN w0 w3 P BB D C V d n b k:=by
 have hlt:=h.lt
 have hk0:=h.keep.size
 obtain⟨B,S,wv,mb,wb,CC,nm,nw,L,W,h⟩:=h
 have hmb:=h.rd.now.lt
 exact⟨B,S,wv,mb,wb,CC,nm,nw,L,W,(h.keepN K2).keepOther K3 hO (λx hx e=>by have h1:x=tb:=e;have:=hlt x hx;omega) (λe=>by have h1:mb=tb:=e;omega) (λx hx e=>by have h1:x=tb:=e;omega)⟩
theorem old_sep{P':Nat->Prop}(g:Grow w P P'){m:Nat}(hn:¬P m)(hl:m<w.heap.size):¬P' m:=λh=>(g m h).elim hn (λx=>by omega)
theorem putB_cases(b:BaseV)(x:PItem):(putB b x=(0,{ b with wait:=putG b.wait x.1 (some x) }))∨∃c,c≠0∧GoodC c∧putB b x=(c,b):=by
 unfold putB GoodC
 split
 ·exact .inr ⟨6,by decide,by decide,rfl⟩
 split
 ·exact .inr ⟨1,by decide,by decide,rfl⟩
 split
 ·exact .inr ⟨12,by decide,by decide,rfl⟩
 ·exact .inl rfl
theorem delB_cases(b:BaseV)(q:ByteArray):(delB b q=(0,{ b with wait:=putG b.wait q none }))∨∃c,c≠0∧GoodC c∧delB b q=(c,b):=by
 unfold delB GoodC
 split
 ·exact .inr ⟨7,by decide,by decide,rfl⟩
 ·exact .inl rfl
theorem errVal_ne{c:Int}(h:c≠0):errVal c= .iface 48 (.int .i64 c):=by rw[errVal,if_neg h]
set_option maxRecDepth 100000
set_option maxHeartbeats 8000000 in
theorem does_any(h:LawSt w0 w P BB D C V d n b k nowB thenB Ln Lt)(hk:k<100000)(hn:n<900)(R:RoundsVar w0)(PV:PowVar w0)(hdim:b.dim≠0)(x:DeedV)(hx:Nums w0 x.av x.ns)(hxl:x.ns.length<=1000000)(hxs:x.name.size<=maxLen):
  Calls Tryz.prog 15 #[.pointer (some ⟨BB,0,none⟩),.agg (encDeed x).toArray,.map (some nowB),.map (some thenB)] w λe w'=>DoesSaid w0 w w' P BB D C V d n b k nowB thenB x.what e:=by
 obtain⟨wh,nm,tg,av,ns⟩:=x
 simp only at hx hxl hxs
 obtain⟨pa,ca,rfl⟩:=hx.len
 obtain⟨nl,hnl⟩:∃n,n=ns.length:=⟨_,rfl⟩
 simp only[encDeed]
 rw[<-hnl]
 have Hnl:=Lib.hid hnl
 have KA:Keep NoB w (w.alloc (.cells #[.int .i64 wh,.string nm,.string tg,.slice pa nl ca] 47)):=(Keep.refl _ _).alloc _
 have hX:=heap_alloc_new w (.cells #[.int .i64 wh,.string nm,.string tg,.slice pa nl ca] 47)
 have c0:(w.alloc (.cells #[.int .i64 wh,.string nm,.string tg,.slice pa nl ca] 47)).cell? ⟨w.heap.size,0,none⟩=some (.int .i64 wh):=cellOf hX 0 rfl
 have c1:(w.alloc (.cells #[.int .i64 wh,.string nm,.string tg,.slice pa nl ca] 47)).cell? ⟨w.heap.size,1,none⟩=some (.string nm):=cellOf hX 1 rfl
 have c2:(w.alloc (.cells #[.int .i64 wh,.string nm,.string tg,.slice pa nl ca] 47)).cell? ⟨w.heap.size,2,none⟩=some (.string tg):=cellOf hX 2 rfl
 have c3:(w.alloc (.cells #[.int .i64 wh,.string nm,.string tg,.slice pa nl ca] 47)).cell? ⟨w.heap.size,3,none⟩=some (.slice pa nl ca):=cellOf hX 3 rfl
 obtain⟨X,hXe⟩:∃X,X=w.heap.size:=⟨_,rfl⟩
 obtain⟨wa,hwa⟩:∃wa,wa=w.alloc (.cells #[.int .i64 wh,.string nm,.string tg,.slice pa nl ca] 47):=⟨_,rfl⟩
 rw[<-hwa,<-hXe]at c0 c1 c2 c3 hX
 rw[<-hwa]at KA
 have ha:=h.keepN KA
 have Hwa:=Lib.hid hwa
 have HXe:=Lib.hid hXe
 have HX:=Lib.hid hX
 have HKA:=Lib.hid KA
 have HH:=Lib.hid ha
 have Hx:=Lib.hid hx
 have hwx:w.heap.size<=X:=by rw[hXe];exact Nat.le_refl _
 have hXP:¬P X:=λhP=>by have:=h.base.lt X hP;omega
 have hltP:=h.base.lt
 have hNlt:nowB<w.heap.size:=by obtain⟨q,_,m⟩:=h.now;exact m.lt
 have hTlt:thenB<w.heap.size:=by obtain⟨q,_,m⟩:=h.thn;exact m.lt
 have hlen:=h.len
 clear hwa hXe hX KA ha h hx hnl
 go_enter Tryz.func15,Tryz.ntmps15
 go_upto_region 3 with(fail)
 rw[<-HXe.out,<-Hwa.out]
 obtain⟨qn,hqn,Mn⟩:=HH.out.now
 obtain⟨qt,hqt,Mt⟩:=HH.out.thn
 have HMn:=Lib.hid Mn
 have HMt:=Lib.hid Mt
 clear Mn Mt
 have hwa2:w.heap.size<=wa.heap.size:=HKA.out.size
 have Hgr:Hid (∀P',Grow wa P P'->Grow w P P'):=Lib.hid (λP' g x hx=>(g x hx).imp (λh=>h) (λh=>by omega))
 by_cases h0:wh=0
 ·subst h0
  have Nx:Nums wa (.slice pa nl ca) ns:=by rw[Hnl.out];exact Hx.out.keep HH.out.base.keep (λ_ _ x=>x)
  have hput:=put_n HH.out.base (by omega) ⟨nm,tg,.slice pa nl ca,ns⟩ Nx hxl
  simp only[aggI,encItem]at hput
  have Hput:=Lib.hid hput
  clear hput Nx
  go_wp2_with fail
  refine Hput.out.mono ?_
  rintro e w1 ⟨he,hb1,K1⟩
  clear Hput
  rcases putB_cases b (plainI ⟨nm,tg,.slice pa nl ca,ns⟩)with hp|⟨c,hc0,hcg,hp⟩
  ·rw[hp]at he hb1
   have he:e= .returned .nilIface:=he
   subst he
   have Hb1:=Lib.hid hb1
   have HK1:=Lib.hid K1
   have hMt1:=HMt.out.sep K1 HH.out.sepT
   have hcl:=cloneM_any hMt1 (by rw[mapG_len];omega) (law_items hMt1 HH.out.numT)
   have Hcl:=Lib.hid hcl
   have HX1:=Lib.hid (K1.heap HX.out hXP)
   clear hp hb1 K1 hMt1 hcl
   go_wp2_with fail
   refine Hcl.out.mono ?_
   rintro e w2 ⟨rfl,⟨q2,hq2,m2⟩,K2⟩
   rw[mapG_len]at hq2
   have HX2:=K2.heap HX1.out (λx=>x)
   have x1:w2.cell? ⟨X,1,none⟩=some (.string nm):=cellOf HX2 1 rfl
   have x2:w2.cell? ⟨X,2,none⟩=some (.string tg):=cellOf HX2 2 rfl
   have x3:w2.cell? ⟨X,3,none⟩=some (.slice pa nl ca):=cellOf HX2 3 rfl
   obtain⟨w3,hup,m3,K3⟩:=m2.update Tryz.underlying41 (by unfold maxLen;omega) nm hxs (.agg #[.string nm,.string tg,.slice pa nl ca])
   have HM2:=Lib.hid m2
   have Hm3:=Lib.hid m3
   have HK3:=Lib.hid K3
   have HK2:=Lib.hid K2
   clear m2 m3 K3 K2 HX2 Hcl
   go_wp2_with fail
   go_ret3
   have HM3:=Hm3.out
   have hO2:=map_other HM2.out
   have hszw1:wa.heap.size<=w1.heap.size:=HK1.out.size
   have hb3:=Hb1.out.keepMap HK2.out HK3.out (Nat.le_refl _) hO2
   have hNow:=((HMn.out.sep HK1.out HH.out.sepN).keep HK2.out (λx=>x)).keep HK3.out (λe=>by have h1:nowB=w1.heap.size:=e;omega)
   have hKf:Keep P w w3:=((HKA.out.ofN (S:=P)).then HK1.out).trans ((HK2.out.ofN (S:=OneB w1.heap.size)).then HK3.out) (λi hi e=>by have h1:i=w1.heap.size:=e;omega)
   refine⟨nowB,w1.heap.size,.nilIface,rfl,hKf,.inl ⟨V,d,n,_,P,Ln,putG Lt nm ⟨nm,tg,.slice pa nl ca,ns⟩,0,rfl,.inl rfl,⟨hb3,HH.out.inv,HH.out.wait,HH.out.said,⟨qn,hqn,hNow⟩,⟨q2+1,by omega,?_⟩,HH.out.numN,λp hp=> ?_,HH.out.eqN,?_,HH.out.sepN,λhP=>by have:=hltP _ hP;omega,HH.out.newN,by have:=HH.out.base.keep.size;omega⟩,Grow.refl _ _,λ_=>rfl,rfl,λh=>(by rcases h with h|h<;>cases h),λ_=>rfl,λh=>h⟩⟩
   ·have e:putS (mapG aggI Lt) nm (.agg #[.string nm,.string tg,.slice pa nl ca])=mapG aggI (putG Lt nm ⟨nm,tg,.slice pa nl ca,ns⟩):=by
     rw[<-putG_S]
     exact putG_map aggI Lt nm ⟨nm,tg,.slice pa nl ca,ns⟩
    rw[<-e]
    exact HM3
   ·rcases mem_putG hp with rfl|hp
    ·exact⟨by rw[Hnl.out];exact Hx.out,hxl⟩
    ·exact HH.out.numT p hp.1
   ·have e2:plainN (putG Lt nm ⟨nm,tg,.slice pa nl ca,ns⟩)=putG (plainN Lt) nm (nm,tg,ns):=(putG_map plainI Lt nm ⟨nm,tg,.slice pa nl ca,ns⟩).symm
    rw[e2,HH.out.eqT]
    exact(next_with HH.out.base.ok nm (some (nm,tg,ns))).symm
  ·rw[hp]at he hb1
   rw[errVal_ne hc0]at he
   subst he
   have Hb1:=Lib.hid hb1
   have HK1:=Lib.hid K1
   have Hc0:=Lib.hid hc0
   have Hcg:=Lib.hid hcg
   clear hp hb1 K1 hc0 hcg
   go_wp2_with fail
   go_ret3
   refine⟨nowB,thenB,_,rfl,(HKA.out.ofN (S:=P)).then HK1.out,.inl ⟨V,d,n,b,P,Ln,Lt,c,(errVal_ne Hc0.out).symm,Hcg.out,⟨Hb1.out,HH.out.inv,HH.out.wait,HH.out.said,⟨qn,hqn,HMn.out.sep HK1.out HH.out.sepN⟩,⟨qt,hqt,HMt.out.sep HK1.out HH.out.sepT⟩,HH.out.numN,HH.out.numT,HH.out.eqN,HH.out.eqT,HH.out.sepN,HH.out.sepT,HH.out.newN,HH.out.newT⟩,Grow.refl _ _,λ_=>rfl,rfl,λh=>(by rcases h with h|h<;>cases h),λ_=>rfl,λh=>h⟩⟩
 by_cases h1:wh=1
 ·subst h1
  have hdel:=del_n HH.out.base (by omega) nm hxs
  have Hdel:=Lib.hid hdel
  clear hdel
  go_wp2_with fail
  refine Hdel.out.mono ?_
  rintro e w1 ⟨he,hb1,K1⟩
  clear Hdel
  rcases delB_cases b nm with hp|⟨c,hc0,hcg,hp⟩
  ·rw[hp]at he hb1
   have he:e= .returned .nilIface:=he
   subst he
   have Hb1:=Lib.hid hb1
   have HK1:=Lib.hid K1
   have hMt1:=HMt.out.sep K1 HH.out.sepT
   have hcl:=cloneM_any hMt1 (by rw[mapG_len];omega) (law_items hMt1 HH.out.numT)
   have Hcl:=Lib.hid hcl
   have HX1:=Lib.hid (K1.heap HX.out hXP)
   clear hp hb1 K1 hMt1 hcl
   go_wp2_with fail
   refine Hcl.out.mono ?_
   rintro e w2 ⟨rfl,⟨q2,hq2,m2⟩,K2⟩
   rw[mapG_len]at hq2
   have HX2:=K2.heap HX1.out (λx=>x)
   have x1:w2.cell? ⟨X,1,none⟩=some (.string nm):=cellOf HX2 1 rfl
   have hdrop:=λty=>m2.drop Tryz.underlying41 nm hxs ty
   obtain⟨w3,hup,m3,K3⟩:=hdrop 0
   have HM2:=Lib.hid m2
   have Hm3:=Lib.hid m3
   have HK3:=Lib.hid K3
   have HK2:=Lib.hid K2
   clear m2 m3 K3 K2 HX2 Hcl hdrop
   go_wp2_with fail
   go_ret3
   have HM3:=Hm3.out
   have hO2:=map_other HM2.out
   have hszw1:wa.heap.size<=w1.heap.size:=HK1.out.size
   have hb3:=Hb1.out.keepMap HK2.out HK3.out (Nat.le_refl _) hO2
   have hNow:=((HMn.out.sep HK1.out HH.out.sepN).keep HK2.out (λx=>x)).keep HK3.out (λe=>by have h1:nowB=w1.heap.size:=e;omega)
   have hKf:Keep P w w3:=((HKA.out.ofN (S:=P)).then HK1.out).trans ((HK2.out.ofN (S:=OneB w1.heap.size)).then HK3.out) (λi hi e=>by have h1:i=w1.heap.size:=e;omega)
   refine⟨nowB,w1.heap.size,.nilIface,rfl,hKf,.inl ⟨V,d,n,_,P,Ln,delG Lt nm,0,rfl,.inl rfl,⟨hb3,HH.out.inv,HH.out.wait,HH.out.said,⟨qn,hqn,hNow⟩,⟨q2,by omega,?_⟩,HH.out.numN,λp hp=>HH.out.numT p (List.mem_filter.1 hp).1,HH.out.eqN,?_,HH.out.sepN,λhP=>by have:=hltP _ hP;omega,HH.out.newN,by have:=HH.out.base.keep.size;omega⟩,Grow.refl _ _,λ_=>rfl,rfl,λh=>(by rcases h with h|h<;>cases h),λ_=>rfl,λh=>h⟩⟩
   ·have e:delS (mapG aggI Lt) nm=mapG aggI (delG Lt nm):=delG_map aggI Lt nm
    rw[<-e]
    exact HM3
   ·have e2:plainN (delG Lt nm)=delG (plainN Lt) nm:=(delG_map plainI Lt nm).symm
    rw[e2,HH.out.eqT]
    exact(next_with HH.out.base.ok nm none).symm
  ·rw[hp]at he hb1
   rw[errVal_ne hc0]at he
   subst he
   have Hb1:=Lib.hid hb1
   have HK1:=Lib.hid K1
   have Hc0:=Lib.hid hc0
   have Hcg:=Lib.hid hcg
   clear hp hb1 K1 hc0 hcg
   go_wp2_with fail
   go_ret3
   refine⟨nowB,thenB,_,rfl,(HKA.out.ofN (S:=P)).then HK1.out,.inl ⟨V,d,n,b,P,Ln,Lt,c,(errVal_ne Hc0.out).symm,Hcg.out,⟨Hb1.out,HH.out.inv,HH.out.wait,HH.out.said,⟨qn,hqn,HMn.out.sep HK1.out HH.out.sepN⟩,⟨qt,hqt,HMt.out.sep HK1.out HH.out.sepT⟩,HH.out.numN,HH.out.numT,HH.out.eqN,HH.out.eqT,HH.out.sepN,HH.out.sepT,HH.out.newN,HH.out.newT⟩,Grow.refl _ _,λ_=>rfl,rfl,λh=>(by rcases h with h|h<;>cases h),λ_=>rfl,λh=>h⟩⟩
 by_cases h2:wh=2
 ·subst h2
  have hund:=undo_n HH.out.base
  have Hund:=Lib.hid hund
  clear hund
  go_wp2_with fail
  refine Hund.out.mono ?_
  rintro e w1 ⟨rfl,⟨P',hb1,hg⟩,K1⟩
  have Hb1:=Lib.hid hb1
  have HK1:=Lib.hid K1
  have Hg:=Lib.hid hg
  clear Hund hb1 K1 hg
  go_wp2_with fail
  go_ret3
  have hgw:=Hgr.out P' Hg.out
  have hsN:=old_sep hgw HH.out.sepN hNlt
  refine⟨nowB,nowB,.nilIface,rfl,(HKA.out.ofN (S:=P)).then HK1.out,.inl ⟨V,d,n,undoB b,P',Ln,Ln,0,rfl,.inl rfl,⟨Hb1.out.more (by omega),HH.out.inv,HH.out.wait,HH.out.said,⟨qn,hqn,HMn.out.sep HK1.out HH.out.sepN⟩,⟨qn,hqn,HMn.out.sep HK1.out HH.out.sepN⟩,HH.out.numN,HH.out.numN,HH.out.eqN,HH.out.eqN,hsN,hsN,HH.out.newN,HH.out.newN⟩,hgw,λ_=>rfl,rfl,λh=>(by rcases h with h|h<;>cases h),λ_=>rfl,λh=>h⟩⟩
 by_cases h3:wh=3
 ·subst h3
  have hcom:=commit_n rfl HH.out.base (by omega) HH.out.inv HH.out.wait (by omega) (by decide) R PV
  have Hcom:=Lib.hid hcom
  clear hcom
  go_wp2_with fail
  refine Hcom.out.mono ?_
  rintro e w1 ⟨ev,rfl,hres,K1⟩
  have HK1:=Lib.hid K1
  clear Hcom K1
  rcases hres with⟨hd0,_⟩|⟨_,hres⟩
  ·exact absurd hd0 hdim
  rcases hres with⟨rfl,V',d',P',hb1,hg,hinv,hwt,hsd,hfu,hjn⟩|⟨rfl,hf,B,S,wv',d',hv,hbl,hcr⟩
  ·have Hb1:=Lib.hid hb1
   have Hg:=Lib.hid hg
   have Hinv:=Lib.hid hinv
   have Hwt:=Lib.hid hwt
   have Hsd:=Lib.hid hsd
   have Hfu:=Lib.hid hfu
   have Hjn:=Lib.hid hjn
   clear hb1 hg hinv hwt hsd hfu hjn
   go_wp2_with fail
   go_ret3
   have hgw:=Hgr.out P' Hg.out
   have hsT:=old_sep hgw HH.out.sepT hTlt
   refine⟨thenB,thenB,.nilIface,rfl,(HKA.out.ofN (S:=P)).then HK1.out,.inl ⟨V',d',n+1,doneB b,P',Lt,Lt,0,rfl,.inl rfl,⟨Hb1.out.more (by omega),Hinv.out,Hwt.out,Hsd.out,⟨qt,hqt,HMt.out.sep HK1.out HH.out.sepT⟩,⟨qt,hqt,HMt.out.sep HK1.out HH.out.sepT⟩,HH.out.numT,HH.out.numT,HH.out.eqT,HH.out.eqT,hsT,hsT,HH.out.newT,HH.out.newT⟩,hgw,Hfu.out,rfl,λ_=>⟨rfl,rfl⟩,λh=>absurd (.inl rfl) h,λ_=>Hjn.out⟩⟩
  ·have Hv:=Lib.hid hv
   have Hbl:=Lib.hid hbl
   have Hcr:=Lib.hid hcr
   rw[show errVal 14= .iface 48 (.int .i64 14)from rfl]
   clear hv hbl hcr
   go_wp2_with fail
   go_ret3
   exact⟨nowB,thenB,_,rfl,(HKA.out.ofN (S:=P)).then HK1.out,.inr ⟨rfl,hf,rfl,rfl,.inl rfl,B,S,wv',d',Hv.out,λx hx=>(Hbl.out x hx).imp (λh=>h) (λh=>by omega),λkeeps=>(Hcr.out keeps).imp (λh=>h) (λ⟨V2,h1,h2,h3⟩=>⟨V2,h1,by rw[if_pos rfl];exact h2,λ_=>h3⟩)⟩⟩
 by_cases h4:wh=4
 ·subst h4
  have hcom:=turn_n rfl HH.out.base HH.out.inv HH.out.wait (by omega) (by decide) R HH.out.said
  have Hcom:=Lib.hid hcom
  clear hcom
  go_wp2_with fail
  refine Hcom.out.mono ?_
  rintro e w1 ⟨ev,rfl,hres,K1⟩
  have HK1:=Lib.hid K1
  clear Hcom K1
  rcases hres with⟨rfl,V',d',P',hb1,hg,hinv,hwt,hsd,hfu,hjn⟩|⟨rfl,hf,B,S,wv',d',hv,hbl,hcr⟩
  ·have Hb1:=Lib.hid hb1
   have Hg:=Lib.hid hg
   have Hinv:=Lib.hid hinv
   have Hwt:=Lib.hid hwt
   have Hsd:=Lib.hid hsd
   have Hfu:=Lib.hid hfu
   have Hjn:=Lib.hid hjn
   clear hb1 hg hinv hwt hsd hfu hjn
   go_wp2_with fail
   go_ret3
   have hgw:=Hgr.out P' Hg.out
   have hsN:=old_sep hgw HH.out.sepN hNlt
   have hsT:=old_sep hgw HH.out.sepT hTlt
   refine⟨nowB,thenB,.nilIface,rfl,(HKA.out.ofN (S:=P)).then HK1.out,.inl ⟨V',d',n+1,b,P',Ln,Lt,0,rfl,.inl rfl,⟨Hb1.out.more (by omega),Hinv.out,Hwt.out,Hsd.out,⟨qn,hqn,HMn.out.sep HK1.out HH.out.sepN⟩,⟨qt,hqt,HMt.out.sep HK1.out HH.out.sepT⟩,HH.out.numN,HH.out.numT,HH.out.eqN,HH.out.eqT,hsN,hsT,HH.out.newN,HH.out.newT⟩,hgw,Hfu.out,rfl,λ_=>⟨rfl,rfl⟩,λh=>absurd (.inr rfl) h,λh=>by have h3:V'.texts=V.texts:=Hjn.out;rw[h3];exact h⟩⟩
  ·have Hv:=Lib.hid hv
   have Hbl:=Lib.hid hbl
   have Hcr:=Lib.hid hcr
   rw[show errVal 14= .iface 48 (.int .i64 14)from rfl]
   clear hv hbl hcr
   go_wp2_with fail
   go_ret3
   exact⟨nowB,thenB,_,rfl,(HKA.out.ofN (S:=P)).then HK1.out,.inr ⟨rfl,hf,rfl,rfl,.inr rfl,B,S,wv',d',Hv.out,λx hx=>(Hbl.out x hx).imp (λh=>h) (λh=>by omega),λkeeps=>(Hcr.out keeps).imp (λh=>h) (λ⟨V2,h1,h2,h3⟩=>⟨V2,h1,by rw[if_neg (by decide)];exact h2,λh=>by have h3:V2.texts=V.texts:=h3;rw[h3];exact h⟩)⟩⟩
 ·go_wp2_with fail
  go_ret3
  exact⟨nowB,thenB,.nilIface,rfl,HKA.out.ofN,.inl ⟨V,d,n,b,P,Ln,Lt,0,rfl,.inl rfl,{ HH.out with base:=HH.out.base.more (by omega) },Grow.refl _ _,λ_=>rfl,rfl,λh=>(by rcases h with h|h;exact absurd h h3;exact absurd h h4),λ_=>rfl,λh=>h⟩⟩
end
end Go.Proofs.YtkjjpcebjcaadaaGreatDoor
namespace Go.Cof
open Go.RowKit Go.Proofs.YtkjjpcebjcaadaaGreatDoor
def nilB:BaseV:=⟨0,[],[]⟩
theorem nilB_ok:OkB nilB:=⟨List.Pairwise.nil,List.Pairwise.nil,(λp hp=>by cases hp),(λp hp=>by cases hp),by simp[nilB],by simp[nilB,BaseV.next,nextG],λ_=>⟨rfl,rfl⟩,by simp[nilB]⟩
theorem join_fresh:joinT (freshV secB).texts= []:=by
 show joinT (List.replicate 32 ⟨#[]⟩)= []
 rfl
theorem said_fresh:Said (freshV secB).texts nilB:= .inl ⟨join_fresh,rfl⟩
theorem open_fresh:openBase nilB (freshV secB).texts=nilB:=by rw[openBase,if_pos join_fresh];rfl
end Go.Cof
namespace Go.Proofs.YtkjjpcebjcaadaaGreatDoor
open Go.RowKit Go.Cof
structure BaseVars(w:World):Prop where
 rounds:RoundsVar w
 items:ItemVars w
 errs:ErrVar w
theorem openB_new{w0 w:World}{D C S:Nat}(hd:DevN w0 w D S (.slice none 0 0) sure0 [] (-1))(hc:CountAt w C 0)(hC:w0.heap.size<=C)(G:BaseVars w0):
  Calls Tryz.prog 10 #[.pointer (some ⟨D,0,none⟩),.pointer (some ⟨C,0,none⟩),.string secB] w λe w'=>(∃BB P',e= .returned (.tuple #[.pointer (some ⟨BB,0,none⟩),.nilIface])∧BaseN w0 w' P' BB D C (freshV secB) ⟨sure0,[],-1⟩ 0 nilB 60)∧Keep NoB w0 w':=by
 have hi:=inv_fresh secB sure0 List.length_replicate sure0_at
 have h:=open_n (b:=nilB) (d:=⟨sure0,[],-1⟩) hd.dev hd.keep (λb hb=>hb.elim (hd.own b) (λe=>e▸hC)) (n:=0) hc (by omega) hi.bsz (by decide) G.rounds G.items (inv_open hi) hi.texts hi.t200 nilB_ok said_fresh
 rw[open_fresh]at h
 refine h.mono ?_
 rintro e w' ⟨⟨BB,P',he,hb,_⟩,K⟩
 exact⟨⟨BB,P',he,hb⟩,hd.keep.trans K (λi hi e=>by have h1:i=C:=e;omega)⟩
def itemA:PItem:=(⟨#[97]⟩,⟨#[]⟩,[1,2])
theorem itemA_ok:pitemB itemA 2=true:=by decide+kernel
theorem putA:putB ⟨2,[],[]⟩ itemA=(0,⟨2,[],[(⟨#[97]⟩,some itemA)]⟩):=by
 rw[putB,if_neg (by decide),if_neg (by rw[show((⟨2,[],[]⟩:BaseV).dim:Int)=2 from rfl,itemA_ok];decide),if_neg (by rintro⟨_,h⟩;simp[BaseV.next,nextG]at h)]
 rfl
theorem topA:topP [itemA] [1,3] 1 ⟨#[]⟩= [(⟨#[97]⟩,1)]:=by
 have e:([itemA].filter (tagPI ⟨#[]⟩)).map (foundP [1,3])= [(⟨#[97]⟩,1)]:=by decide+kernel
 rw[topP,e]
 simp[sortF]
set_option maxRecDepth 100000
set_option maxHeartbeats 8000000 in
theorem based_any{w:World}(G:BaseVars w):Calls Tryz.prog 8 #[] w λe w'=>e= .returned (.bool true)∧Keep NoB w w':=by
 have HG:=Lib.hid G
 clear G
 go_enter Tryz.func8,Tryz.ntmps8
 go_wp2_with fail
 refine(new_N _).mono ?_
 rintro e w1 ⟨D,S,rfl,h1⟩
 have KA:Keep NoB w1 (w1.alloc (.cells #[.int .i64 0] 30)):=(Keep.refl _ _).alloc _
 have hc:CountAt (w1.alloc (.cells #[.int .i64 0] 30)) w1.heap.size 0:=heap_alloc_new w1 _
 have hop:=openB_new (h1.keepN KA) hc h1.keep.size HG.out
 have Hop:=Lib.hid hop
 clear hop hc KA h1
 go_wp2_with fail
 refine Hop.out.mono ?_
 rintro e w2 ⟨⟨BB,P,rfl,hb⟩,K2⟩
 have hi:=inv_fresh secB sure0 List.length_replicate sure0_at
 have hcom:=commit_n (n:=0) rfl hb (by omega) hi rfl (by omega) (by decide) HG.out.rounds HG.out.items.pow
 have Hcom:=Lib.hid hcom
 clear hcom Hop hb K2
 go_wp2_with fail
 refine Hcom.out.mono ?_
 rintro e w3 ⟨ev,rfl,hres,K3⟩
 clear Hcom K3
 rcases hres with⟨_,rfl,hb⟩|⟨h,_⟩
 rotate_left
 ·exact absurd rfl h
 rw[show errVal 6= .iface 48 (.int .i64 6)from rfl]
 have htl:=tell_any 6 w3 (HG.out.errs.keep hb.keep (λx=>x))
 rw[show errVal 6= .iface 48 (.int .i64 6)from rfl]at htl
 have Htl:=Lib.hid htl
 have Hb:=Lib.hid hb
 clear htl hb
 go_wp2_with fail
 refine Htl.out.mono ?_
 rintro e w4 ⟨rfl,K4⟩
 have hb4:=Hb.out.keepN K4
 have hmk:=make_n hb4 2
 have Hmk:=Lib.hid hmk
 clear hmk hb4 Htl Hb K4
 go_wp2_with fail
 refine Hmk.out.mono ?_
 rintro e w5 ⟨he,hb5,K5⟩
 have he:e= .returned .nilIface:=he
 subst he
 have hb5:BaseN w w5 P BB D w1.heap.size (freshV secB) ⟨sure0,[],-1⟩ 0 ⟨2,[],[]⟩ 60:=hb5
 have hrow:Nums (w5.alloc (.cells #[.int .i64 1,.int .i64 2] 3)) (.slice (some ⟨w5.heap.size,0,none⟩) 2 2) [1,2]:=Nums.lit [1,2]
 have hput:=put_n (hb5.keepN ((Keep.refl NoB w5).alloc (.cells #[.int .i64 1,.int .i64 2] 3))) (by omega) ⟨⟨#[97]⟩,⟨#[]⟩,.slice (some ⟨w5.heap.size,0,none⟩) 2 2,[1,2]⟩ hrow (by simp)
 rw[show plainI ⟨⟨#[97]⟩,⟨#[]⟩,.slice (some ⟨w5.heap.size,0,none⟩) 2 2,[1,2]⟩=itemA from rfl,putA]at hput
 have Hput:=Lib.hid hput
 clear hput Hmk hb5 K5 hrow
 go_wp2_with fail
 refine Hput.out.mono ?_
 rintro e w6 ⟨he,hb6,K6⟩
 have he:e= .returned .nilIface:=he
 subst he
 have hit:=items_n hb6
 have Hit:=Lib.hid hit
 have Hb6:=Lib.hid hb6
 clear hit hb6 K6 Hput
 go_wp2_with fail
 refine Hit.out.mono ?_
 rintro e w7 ⟨⟨v,l,rfl,hv,hl,_⟩,K7⟩
 have hl0:l= []:=List.map_eq_nil_iff.1 hl
 subst hl0
 obtain⟨p,c,rfl⟩:=(RowsK.ofN encItem_len hv).len
 have hb7:=Hb6.out.keepN K7
 have hcom:=commit_n (n:=0) rfl hb7 (by omega) hi rfl (by omega) (by decide) HG.out.rounds HG.out.items.pow
 have Hcom:=Lib.hid hcom
 clear hcom hb7 hv hl Hit Hb6 K7
 go_wp2_with fail
 refine Hcom.out.mono ?_
 rintro e w8 ⟨ev,rfl,hres,K8⟩
 clear Hcom K8
 rcases hres with⟨h,_⟩|⟨_,hres⟩
 ·cases h
 rcases hres with⟨rfl,V',d',P',hb8,hg,hinv,hwt,hsd,hfu⟩|⟨_,hf,_⟩
 rotate_left
 ·exact absurd hf (by decide)
 have hrow:Nums (w8.alloc (.cells #[.int .i64 1,.int .i64 3] 3)) (.slice (some ⟨w8.heap.size,0,none⟩) 2 2) [1,3]:=Nums.lit [1,3]
 have hfi:=find_n (hb8.keepN ((Keep.refl NoB w8).alloc (.cells #[.int .i64 1,.int .i64 3] 3))) hrow (by simp) 1 ⟨#[]⟩ (by decide)
 have hK8:=hb8.keep
 have Hfi:=Lib.hid hfi
 have HK8:=Lib.hid hK8
 clear hfi hrow hb8 hg hinv hwt hsd hfu hK8
 go_wp2_with fail
 refine Hfi.out.mono ?_
 rintro e w9 ⟨hs,K9⟩
 unfold FindSaid at hs
 have hnow:itemsG (doneB ⟨2,[],[(⟨#[97]⟩,some itemA)]⟩).now= [itemA]:=by rfl
 rw[hnow,topA]at hs
 have hs2:∃(v':Value) (looked:Nat),e= .returned (.tuple #[v',.int .i64 looked,.nilIface])∧RowsK w9 v' 2 encF [(⟨#[97]⟩,1)]∧looked<= [itemA].length∧_:=hs
 obtain⟨v',lk,rfl,hr,_⟩:=hs2
 have hrl:=hr.len
 obtain⟨p2,c2,rfl⟩:=hrl
 have heq:=equalFound_any (.slice p2 1 c2) (.slice (some ⟨w9.heap.size,0,none⟩) 1 1) [(⟨#[97]⟩,1)] [(⟨#[97]⟩,1)] (w9.alloc (.cells #[.string ⟨#[97]⟩,.int .i64 1] 61)) (hr.keep ((Keep.refl NoB w9).alloc _) (λ_ _ x=>x)) (RowsK.lit (enc:=encF) (k:=2) (λ_=>rfl) [(⟨#[97]⟩,1)]) (by simp) (by simp)
 have Heq:=Lib.hid heq
 have HKf:=Lib.hid ((HK8.out.alloc (.cells #[.int .i64 1,.int .i64 3] 3)).thenN K9)
 clear heq hr hs Hfi K9 hnow
 go_wp2_with fail
 refine Heq.out.mono ?_
 rintro e wz ⟨rfl,qz,rfl⟩
 clear Heq
 go_wp2_with fail
 go_ret
 exact⟨by simp,(HKf.out.alloc _).drewN qz⟩
end Go.Proofs.YtkjjpcebjcaadaaGreatDoor
namespace Go.Cof
open Go.RowKit Go.Proofs.YtkjjpcebjcaadaaGreatDoor
theorem mem_itemsG{b:BaseV}(h:OkB b){x:PItem}(hx:x∈itemsG b.now):x.2.2.length<=8:=by
 obtain⟨p,hp,rfl⟩:=List.mem_map.1 hx
 have h1:=(h.now p hp).2
 have h2:=h.eight
 simp only[pitemB,Bool.and_eq_true,Bool.or_eq_true,decide_eq_true_eq,Bool.not_eq_true']at h1
 have h3:=h1.1.2
 omega
theorem items_short{b:BaseV}(h:OkB b){l:List ItemV}(e:l.map plainI=itemsG b.now):l.length<=60∧l.length=b.now.length∧∀x∈l,x.ns.length<=8:=by
 have h1:=congrArg List.length e
 rw[List.length_map,itemsG,List.length_map]at h1
 refine⟨by have:=h.len;omega,h1,λx hx=> ?_⟩
 have h2:plainI x∈itemsG b.now:=e▸List.mem_map.2 ⟨x,hx,rfl⟩
 exact mem_itemsG h h2
end Go.Cof
namespace Go.Proofs.YtkjjpcebjcaadaaGreatDoor
open Go.RowKit Go.Cof Go.Sort Go.Shelf
theorem LawSt.start{w0 w:World}{P:Nat->Prop}{BB D C:Nat}{V:VaultV}{d:DevV}{n k:Nat}{b:BaseV}(h:BaseN w0 w P BB D C V d n b k)(hi:InvV secB V d.sure n)(hw:d.wait= [])(hs:Said V.texts b)(hn:b.now= [])(hx:b.next= []):
  LawSt w0 ((w.alloc (Obj.map #[] 0)).alloc (Obj.map #[] 0)) P BB D C V d n b k w.heap.size (w.heap.size+1) [] []:=by
 have e:(w.alloc (Obj.map #[] 0)).heap.size=w.heap.size+1:=by simp
 have m2:=SMapIs.made (w.alloc (Obj.map #[] 0))
 rw[e]at m2
 have hlt:=h.lt
 have hk:=h.keep.size
 exact⟨h.keepN (((Keep.refl _ _).alloc _).alloc _),hi,hw,hs,⟨0,by omega,(SMapIs.made w).keep ((Keep.refl NoB _).alloc _) (λx=>x)⟩,⟨0,by omega,m2⟩,(λp hp=>by cases hp),(λp hp=>by cases hp),hn.symm,hx.symm,λhP=>by have:=hlt _ hP;omega,λhP=>by have:=hlt _ hP;omega,hk,by omega⟩
section
variable {w0 w w':World}{P:Nat->Prop}{BB D C:Nat}{V:VaultV}{d:DevV}{n:Int}{b:BaseV}{k:Nat}
theorem BaseN.other(h:BaseN w0 w P BB D C V d n b k):OtherB w P:=by
 obtain⟨B,S,wv,mb,wb,CC,nm,nw,L,W,h⟩:=h
 intro x c t f hx hh
 rcases(h.blocks x).1 hx with hx|rfl|rfl
 ·exact vb_other h.vn _ _ _ _ hx hh
 ·exact h.row.other _ _ _ _ rfl hh
 ·exact map_other h.rd.wait _ _ _ _ rfl hh
theorem find2_n(h:BaseN w0 w P BB D C V d n b k)(hd:b.dim=2){va:Value}{at_:List Int}(N:Nums w va at_)(ha:at_.length<=1000000)(q:Int)(tag:ByteArray)(ht:tag.size<=1000000){B:Bool}(hB:askB 2 at_ q=B):
  Calls Tryz.prog 19 #[.pointer (some ⟨BB,0,none⟩),va,.int .i64 q,.string tag] w λe w'=>∃(v':Value) (lk:Nat),e= .returned (.tuple #[v',.int .i64 lk,errVal (askE B)])∧RowsK w' v' 2 encF (askT B (topP (itemsG b.now) at_ q tag))∧lk<=b.now.length∧(∀g,v'.ownBlock=some g->w.heap.size<=g)∧Keep NoB w w':=by
 refine(find_n h N ha q tag ht).mono ?_
 rintro e w' ⟨hs,K⟩
 unfold FindSaid at hs
 rw[if_neg (by omega),hd,show((2:Nat):Int)=2 from rfl,hB]at hs
 cases B with
 | false=>
  rw[if_pos rfl]at hs
  exact⟨_,0,hs,rows_nil _ _ _,Nat.zero_le _,(λg hg=>by cases hg),K⟩
 | true=>
  rw[if_neg (by decide)]at hs
  obtain⟨v',lk,he,hr,hl,hnw⟩:=hs
  rw[itemsG,List.length_map]at hl
  exact⟨v',lk,he,hr,hl,hnw,K⟩
theorem itemsP_n(h:BaseN w0 w P BB D C V d n b k):
  Calls Tryz.prog 21 #[.pointer (some ⟨BB,0,none⟩)] w λe w'=>∃(p:Option Addr) (c m:Nat) (l:List ItemV),e= .returned (.slice p m c)∧Hid (m=l.length)∧Hid (m=b.now.length)∧Hid (RowsK w' (.slice p m c) 3 encItem l∧(∀x∈l,NumsR w' x)∧∀g,(Value.slice p m c).ownBlock=some g->w.heap.size<=g)∧Hid (l.map plainI=itemsG b.now)∧Hid (∀x∈l,x.ns.length<=1000000)∧m<=60∧Keep NoB w w':=by
 refine(items_n h).mono ?_
 rintro e w' ⟨⟨v,l,rfl,hv,hl,hn⟩,K⟩
 have hr:RowsK w' v 3 encItem l:=RowsK.ofN encItem_len hv
 obtain⟨p,c,rfl⟩:=hr.len
 have hs:=items_short h.ok hl
 exact⟨p,c,l.length,l,rfl,Lib.hid rfl,Lib.hid hs.2.1,Lib.hid ⟨hr,hn,λg hg=>(hv.lt g hg).1⟩,Lib.hid hl,Lib.hid (λx hx=>by have:=hs.2.2 x hx;omega),hs.1,K⟩
theorem top2_n{b:BaseV}{v:Value}{l:List ItemV}(I:Items w v l)(hl:l.length<=60)(hns:∀x∈l,x.ns.length<=1000000)(he:l.map plainI=itemsG b.now){va:Value}{at_:List Int}(N:Nums w va at_)(ha:at_.length<=1000000)(q:Int)(tag:ByteArray){B:Bool}(hB:askB 2 at_ q=B):
  Calls Tryz.prog 20 #[.int .i64 2,v,va,.int .i64 q,.string tag] w λe w'=>∃v',e= .returned (.tuple #[v',errVal (askE B)])∧RowsK w' v' 2 encF (askT B (topP (itemsG b.now) at_ q tag))∧Keep NoB w w':=by
 have h:=near_both B 2 v l va at_ q tag hB w I N (by omega) ha hns
 rwa [topV_P,he]at h
theorem fuse_bn(h:BaseN w0 w P BB D C V d n b k)(f:Int)(hf:f<=9223372036854775807):
  Calls Tryz.prog 13 #[.pointer (some ⟨D,0,none⟩),.int .i64 f] w λe w'=>e= .returned (.tuple #[])∧BaseN w0 w' P BB D C V ⟨d.sure,d.wait,max f (-1)⟩ n b k∧Keep P w w':=by
 obtain⟨B,S,wv,mb,wb,CC,nm,nw,L,W,h⟩:=h
 refine(fuse_any h.vn.dev f hf).mono ?_
 rintro e w' ⟨rfl,hd,K⟩
 have K':Keep (VB B D C S wv) w w':=K.mono (λi _ e=> .inl (.inl e))
 have vn':VN w0 w' B D C S wv V ⟨d.sure,d.wait,max f (-1)⟩ n:=h.vn.step (h.vn.vault.keep K (λe=>by
  obtain⟨c,t,f,h1,h2⟩:=devB_row h.vn.dev D (.inl rfl)
  have e:B=D:=e
  rw[<-e,h.vn.vault.row]at h1
  cases h1
  rcases h2 with h2|h2|h2<;>exact absurd h2 (by decide))) hd (h.vn.cnt.keep K (λe=>devB_count h.vn.dev h.vn.cnt (.inl e))) (.inl rfl) K'
 exact⟨rfl,⟨B,S,wv,mb,wb,CC,nm,nw,L,W,⟨vn',h.row.keep K' (vb_row h.vn h.row),h.rd.keep K' (vb_other h.vn) (vb_map h.vn h.rd.now) (vb_map h.vn h.rd.wait),h.cs.keep K' (vb_other h.vn),h.en,h.ew,h.ok,h.room,h.blocks,h.newB,h.newW⟩⟩,K'.mono (λi _ hx=>(h.blocks i).2 (.inl hx))⟩
end
theorem alike_same{xs ys:List ItemV}(h:xs.map plainI=ys.map plainI):alikeB xs ys=true:=decide_eq_true h
theorem topP_len(l:List PItem)(at_:List Int)(k:Int)(tag:ByteArray)(B:Bool):(askT B (topP l at_ k tag)).length<=l.length:=by
 cases B with
 | false=>exact Nat.zero_le _
 | true=>
  show((sortF ((l.filter (tagPI tag)).map (foundP at_))).take k.toNat).length<=l.length
  have h1:(sortF ((l.filter (tagPI tag)).map (foundP at_))).length=((l.filter (tagPI tag)).map (foundP at_)).length:=List.length_mergeSort _
  rw[List.length_take,h1,List.length_map]
  have:=List.length_filter_le (tagPI tag) l
  omega
end Go.Proofs.YtkjjpcebjcaadaaGreatDoor
namespace Go.Proofs.YtkjjpcebjcaadaaGreatDoor
open Go.RowKit Go.Cof Go.Sort Go.Shelf
set_option maxRecDepth 100000
set_option maxHeartbeats 16000000 in
theorem baseFinds_any{w:World}(v va:Value)(l:List DeedV)(at_:List Int)(q:Int)(tag:ByteArray)(I:Deeds w v l)(N:Nums w va at_)(hl:l.length<=maxLen)(ha:at_.length<=maxLen)(hns:∀x∈l,x.ns.length<=maxLen)(hnm:∀x∈l,x.name.size<=maxLen)(G:BaseVars w):
  Calls Tryz.prog 5 #[v,va,.int .i64 q,.string tag] w λe w'=>e= .returned (.bool true)∧Keep NoB w w':=by
 obtain⟨pq,cq,rfl⟩:=N.len
 obtain⟨nq,hnq⟩:∃m,m=at_.length:=⟨_,rfl⟩
 rw[<-hnq]at N ha⊢
 have HN:=Lib.hid N
 have Hnq:=Lib.hid hnq
 clear N hnq
 obtain⟨ts,hts⟩:∃m,m=tag.size:=⟨_,rfl⟩
 have Hts:=Lib.hid hts
 clear hts
 obtain⟨p0,c0,rfl⟩:=I.rows.len
 have hde:=deeds_any _ l w I hl hns
 obtain⟨m,hm⟩:∃m,m=l.length:=⟨_,rfl⟩
 have hrows:=I.rows
 rw[<-hm]at hde hrows⊢
 cases hB:deedsB l with
 | false=>
  rw[hB]at hde
  have Hde:=Lib.hid hde
  clear hde hB hm hrows hns hnm hl I G
  go_enter Tryz.func5,Tryz.ntmps5
  go_wp2_with fail
  refine Hde.out.mono ?_
  rintro e w1 ⟨rfl,K1⟩
  go_wp2_with fail
  go_ret
  exact⟨rfl,K1⟩
 | true=>
 rw[hB]at hde
 simp only[deedsB,Bool.and_eq_true,decide_eq_true_eq,Bool.not_eq_true']at hB
 have hm40:m<=40:=by rw[hm];exact hB.1
 have hx12:∀x∈l,x.ns.length<=1000000:=λx hx=>by
  have h1:=hB.2
  rw[List.any_eq_false]at h1
  have h2:wideD x=false:=by simpa using h1 x hx
  simp only[wideD,wideB,DeedV.item,Bool.or_eq_false_iff]at h2
  have:=of_decide_eq_false h2.2
  omega
 have Hde:=Lib.hid hde
 have HG:=Lib.hid G
 have Hrows:=Lib.hid hrows
 have Hm:=Lib.hid hm
 have Hnum:=Lib.hid I.nums
 have Hx12:=Lib.hid hx12
 have Hnm:=Lib.hid hnm
 clear hde G hrows hm I hx12 hnm hB hns hl
 go_enter Tryz.func5,Tryz.ntmps5
 go_wp2_with fail
 refine Hde.out.mono ?_
 rintro e w1 ⟨rfl,K1⟩
 have HK1:=Lib.hid K1
 clear Hde K1
 by_cases h12:nq<=12
 case neg=>
  have j12:(12:Int)<nq:=by omega
  go_wp2_with fail
  go_ret
  exact⟨rfl,HK1.out⟩
 have j12:¬(12:Int)<nq:=by omega
 by_cases h40:ts<=40
 case neg=>
  have j40:(40:Int)<ts:=by omega
  rw[Hts.out]at j40
  go_wp2_with fail
  go_ret
  exact⟨rfl,HK1.out⟩
 have j40:¬(40:Int)<ts:=by omega
 rw[Hts.out]at j40
 have BV:∀ {W:World},Keep NoB w W->BaseVars W:=λK=>⟨HG.out.rounds.keep K (λx=>x),HG.out.items.keep K,HG.out.errs.keep K (λx=>x)⟩
 have hba:=based_any (BV HK1.out)
 have Hba:=Lib.hid hba
 clear hba BV
 go_wp2_with fail
 refine Hba.out.mono ?_
 rintro e w2 ⟨rfl,K2⟩
 have HK2:=Lib.hid (HK1.out.thenN K2)
 clear Hba K2
 go_wp2_with fail
 refine(new_N _).mono ?_
 rintro e w3 ⟨D,S,rfl,h3⟩
 have h3:DevN w w3 D S (.slice none 0 0) sure0 [] (-1):=⟨h3.dev,λb hb=>Nat.le_trans HK2.out.size (h3.own b hb),HK2.out.thenN h3.keep⟩
 have KA:Keep NoB w3 (w3.alloc (.cells #[.int .i64 0] 30)):=(Keep.refl _ _).alloc _
 have hc:CountAt (w3.alloc (.cells #[.int .i64 0] 30)) w3.heap.size 0:=heap_alloc_new w3 _
 have hop:=openB_new (h3.keepN KA) hc h3.keep.size HG.out
 have Hop:=Lib.hid hop
 have HC0:Hid (w.heap.size<=w3.heap.size):=Lib.hid h3.keep.size
 obtain⟨C,hC⟩:∃C,C=w3.heap.size:=⟨_,rfl⟩
 have HC:=Lib.hid hC
 clear hop hc KA h3 hC
 go_wp2_with fail
 refine Hop.out.mono ?_
 rintro e w4 ⟨⟨BB,P0,rfl,hb⟩,K4⟩
 rw[<-HC.out]at hb⊢
 have hi0:=inv_fresh secB sure0 List.length_replicate sure0_at
 have hmk:=make_n hb 2
 have Hmk:=Lib.hid hmk
 clear hmk Hop hb K4
 go_wp2_with fail
 refine Hmk.out.mono ?_
 rintro e w5 ⟨he,hb5,K5⟩
 have he:e= .returned .nilIface:=he
 subst he
 have hb5:BaseN w w5 P0 BB D C (freshV secB) ⟨sure0,[],-1⟩ ((0:Nat):Int) ⟨2,[],[]⟩ 60:=hb5
 have hst:=LawSt.start hb5 hi0 rfl (.inl ⟨join_fresh,rfl⟩) rfl rfl
 have Hst:=Lib.hid hst
 have hmm:= @run_makeMap Tryz.prog
 clear hst hb5 Hmk K5 hi0
 go_upto_region 12 with(fail)
 clear hmm
 obtain⟨w6,hw6⟩:∃w6,w6=(w5.alloc (Obj.map #[] 0)).alloc (Obj.map #[] 0):=⟨_,rfl⟩
 rw[<-hw6]at Hst⊢
 clear hw6
 obtain⟨Q,hQ⟩:∃Q,askB 2 at_ q=Q:=⟨_,rfl⟩
 have HQ:=Lib.hid hQ
 clear hQ j12 j40
 go_loopw [13,14,15] (λnv tv iv wr=>∃(k n nB tB:Nat) (P:Nat->Prop) (V:VaultV) (d:DevV) (b:BaseV) (Ln Lt:List NowE),k<=m∧n<=k∧iv= .int .i64 k∧nv= .map (some nB)∧tv= .map (some tB)∧b.dim=2∧d.fuse<0∧Hid (LawSt w wr P BB D C V d n b (60+k) nB tB Ln Lt)) (λ_ _ iv _=>m-(intOf iv).toNat)
 case atStart=>exact⟨0,0,_,_,P0,_,_,⟨2,[],[]⟩,[],[],by omega,by omega,rfl,rfl,rfl,rfl,by decide,Hst⟩
 case round=>
  obtain⟨k,n,nB,tB,P,V,d,b,Ln,Lt,hk,hnk,rfl,rfl,rfl,hdim,hfu,hL⟩:=hrel
  obtain⟨wo,rfl⟩:∃wo,wo=wr:=⟨_,rfl⟩
  have hKo:Keep NoB w wo:=hL.out.base.keep
  by_cases hlt:k<m
  ·have j1:(k:Int)<m:=by omega
   have Ir:=Hrows.out.keep hKo (λ_ _ x=>x)
   obtain⟨rb,off,rfl,-,hrb,hcell⟩:=Ir.at (by rw[<-Hm.out];omega)
   have hrb0:rb<w.heap.size:=by
    rcases Hrows.out with⟨h,_⟩|⟨b2,o2,c2,hv,hb2,_⟩
    ·rw[h]at Hm;have:=Hm.out;simp at this;omega
    ·cases hv;exact hb2
   obtain⟨x,hx⟩:∃x,l[k]? =some x:=⟨_,List.getElem?_eq_getElem (by rw[<-Hm.out];exact hlt)⟩
   have hra:=hcell k x hx
   have hxm:x∈l:=List.mem_of_getElem? hx
   have hdo:=does_any hL.out (by omega) (by omega) HG.out.rounds HG.out.items.pow (by omega) x (Hnum.out x hxm) (Hx12.out x hxm) (Hnm.out x hxm)
   have hxa:=(Hnum.out x hxm).len
   obtain⟨wh,nm,tg,av,ns⟩:=x
   simp only[encDeed]at hdo hxa
   obtain⟨pa,ca,rfl⟩:=hxa
   have x0:wo.cell? ⟨rb,off+k*4,none⟩=some (.int .i64 wh):=hra 0 _ rfl
   have x1:wo.cell? ⟨rb,off+k*4+1,none⟩=some (.string nm):=hra 1 _ rfl
   have x2:wo.cell? ⟨rb,off+k*4+2,none⟩=some (.string tg):=hra 2 _ rfl
   have x3:wo.cell? ⟨rb,off+k*4+3,none⟩=some (.slice pa ns.length ca):=hra 3 _ rfl
   obtain⟨nl,hnl⟩:∃q,q=ns.length:=⟨_,rfl⟩
   rw[<-hnl]at hdo x3
   have Hdo:=Lib.hid hdo
   clear hdo hcell hra hx hxm hnl Ir
   go_wp2_with fail
   refine Hdo.out.mono ?_
   rintro e w7 ⟨nB',tB',ev,rfl,K7,hres⟩
   clear Hdo
   rcases hres with⟨V',d',n',b',P',Ln',Lt',c,rfl,hcg,hL',hg,hf,hd,h34,hno,_⟩|⟨_,hf,_⟩
   rotate_left
   ·exact absurd hf (by omega)
   have y0:w7.cell? ⟨rb,off+k*4,none⟩=some (.int .i64 wh):=(K7.cell (p:=⟨rb,off+k*4,none⟩) hrb (λhP=>absurd (hL.out.base.new rb hP) (by omega))).trans x0
   have hf':d'.fuse<0:=by rw[hf hfu];exact hfu
   have hd':b'.dim=2:=hd.trans hdim
   have hnn:n'<=n+1:=by
    by_cases h3:wh=3∨wh=4
    ·exact Nat.le_of_eq (h34 h3).2
    ·rw[hno h3];omega
   clear h34 hno hcg hd hf K7 x0 x1 x2 x3 hg y0
   have HL':=Lib.hid hL'
   have hfi:=find2_n hL'.base hd' (HN.out.keep hL'.base.keep (λ_ _ x=>x)) (by have:=Hnq.out;omega) q tag (by have:=Hts.out;omega) HQ.out
   have Hfi:=Lib.hid hfi
   clear hfi hL'
   go_wp2_with fail
   refine Hfi.out.mono ?_
   rintro e w8 ⟨xv,lk,rfl,hxr,hlk,_,K8⟩
   have HL8:=Lib.hid (HL'.out.keepN K8)
   have hit:=itemsP_n HL8.out.base
   have Hxr:=Lib.hid hxr
   have Hit:=Lib.hid hit
   clear hit Hfi hxr K8 HL'
   go_wp2_with fail
   refine Hit.out.mono ?_
   rintro e w9 ⟨ip,ic,im,li,rfl,h1,h2,h3,h4,h5,h60,K9⟩
   have HL9:=Lib.hid (HL8.out.keepN K9)
   have Hxr9:=Lib.hid (Hxr.out.keep K9 (λ_ _ x=>x))
   have htp:=top2_n ⟨h3.out.1,λx hx=>(h3.out.2.1 x hx).1⟩ (by rw[<-h1.out];exact h60) h5.out h4.out (HN.out.keep HL9.out.base.keep (λ_ _ x=>x)) (by have:=Hnq.out;omega) q tag HQ.out
   have Htp:=Lib.hid htp
   clear htp Hit h1 h2 h3 h4 h5 h60 K9 HL8 Hxr
   go_wp2_with fail
   refine Htp.out.mono ?_
   rintro e wa ⟨yv,rfl,hyr,Ka⟩
   have HLa:=Lib.hid (HL9.out.keepN Ka)
   have Hxra:=Lib.hid (Hxr9.out.keep Ka (λ_ _ x=>x))
   have Hyra:=Lib.hid hyr
   have htl:=tell_any (askE Q) wa (HG.out.errs.keep HLa.out.base.keep (λx=>x))
   have Htl:=Lib.hid htl
   clear htl Htp hyr Ka HL9 Hxr9
   cases Q with
   | true=>
    rw[show askE true=0 from rfl,show errVal 0= .nilIface from rfl]at Htl
    rw[show errVal (askE true)= .nilIface from rfl]
    go_wp2_with fail
    refine Htl.out.mono ?_
    rintro e wb ⟨rfl,Kb⟩
    have HLb:=Lib.hid (HLa.out.keepN Kb)
    have Hxrb:=Lib.hid (Hxra.out.keep Kb (λ_ _ x=>x))
    have Hyrb:=Lib.hid (Hyra.out.keep Kb (λ_ _ x=>x))
    have htl:=tell_any 0 wb (HG.out.errs.keep HLb.out.base.keep (λx=>x))
    rw[show errVal 0= .nilIface from rfl]at htl
    have Htl2:=Lib.hid htl
    clear htl Htl Kb HLa Hxra Hyra
    go_wp2_with fail
    refine Htl2.out.mono ?_
    rintro e wc ⟨rfl,Kc⟩
    have HLc:=Lib.hid (HLb.out.keepN Kc)
    have hlx:=topP_len (itemsG b'.now) at_ q tag true
    have hlx6:(askT true (topP (itemsG b'.now) at_ q tag)).length<=1000000:=by
     have:=HLc.out.base.ok.len
     have hil:(itemsG b'.now).length=b'.now.length:=List.length_map ..
     omega
    have heq:=equalFound_any xv yv _ _ wc (Hxrb.out.keep Kc (λ_ _ x=>x)) (Hyrb.out.keep Kc (λ_ _ x=>x)) hlx6 hlx6
    rw[decide_eq_true rfl]at heq
    have Heq:=Lib.hid heq
    clear heq hlx hlx6 Htl2 Kc HLb Hxrb Hyrb
    go_wp2_with fail
    refine Heq.out.mono ?_
    rintro e we ⟨rfl,qe,hqe⟩
    have HLe:=Lib.hid (HLc.out.keepN (show Keep NoB wc we by rw[hqe];exact Keep.drewN (Keep.refl _ _) qe))
    have j0:¬((lk:Int)<0):=by omega
    have hit:=itemsP_n HLe.out.base
    have Hit:=Lib.hid hit
    clear hit Heq hqe HLc
    go_wp2_with fail
    refine Hit.out.mono ?_
    rintro e wf ⟨ip2,ic2,im2,li2,rfl,h1,h2,h3,h4,h5,h60,Kf⟩
    have HLf:=Lib.hid (HLe.out.keepN Kf)
    have jl:¬((im2:Int)<lk):=by have:=h2.out;omega
    clear h1 h2 h3 h4 h5 Hit Kf HLe
    go_wp2_with fail
    exact⟨⟨k+1,n',nB',tB',P',V',d',b',Ln',Lt',by omega,by omega,by go_num,rfl,rfl,hd',hf',HLf⟩,by simp[intOf];omega⟩
   | false=>
    rw[show askE false=1 from rfl,show errVal 1= .iface 48 (.int .i64 1)from rfl]at Htl
    rw[show errVal (askE false)= .iface 48 (.int .i64 1)from rfl]
    go_wp2_with fail
    refine Htl.out.mono ?_
    rintro e wb ⟨rfl,Kb⟩
    have HLb:=Lib.hid (HLa.out.keepN Kb)
    have Hxrb:=Lib.hid (Hxra.out.keep Kb (λ_ _ x=>x))
    have Hyrb:=Lib.hid (Hyra.out.keep Kb (λ_ _ x=>x))
    have htl:=tell_any 1 wb (HG.out.errs.keep HLb.out.base.keep (λx=>x))
    rw[show errVal 1= .iface 48 (.int .i64 1)from rfl]at htl
    have Htl2:=Lib.hid htl
    clear htl Htl Kb HLa Hxra Hyra
    go_wp2_with fail
    refine Htl2.out.mono ?_
    rintro e wc ⟨rfl,Kc⟩
    have HLc:=Lib.hid (HLb.out.keepN Kc)
    have hlx:=topP_len (itemsG b'.now) at_ q tag false
    have hlx6:(askT false (topP (itemsG b'.now) at_ q tag)).length<=1000000:=by
     have:=HLc.out.base.ok.len
     have hil:(itemsG b'.now).length=b'.now.length:=List.length_map ..
     omega
    have heq:=equalFound_any xv yv _ _ wc (Hxrb.out.keep Kc (λ_ _ x=>x)) (Hyrb.out.keep Kc (λ_ _ x=>x)) hlx6 hlx6
    rw[decide_eq_true rfl]at heq
    have Heq:=Lib.hid heq
    clear heq hlx hlx6 Htl2 Kc HLb Hxrb Hyrb
    go_wp2_with fail
    refine Heq.out.mono ?_
    rintro e we ⟨rfl,qe,hqe⟩
    have HLe:=Lib.hid (HLc.out.keepN (show Keep NoB wc we by rw[hqe];exact Keep.drewN (Keep.refl _ _) qe))
    have j0:¬((lk:Int)<0):=by omega
    have hit:=itemsP_n HLe.out.base
    have Hit:=Lib.hid hit
    clear hit Heq hqe HLc
    go_wp2_with fail
    refine Hit.out.mono ?_
    rintro e wf ⟨ip2,ic2,im2,li2,rfl,h1,h2,h3,h4,h5,h60,Kf⟩
    have HLf:=Lib.hid (HLe.out.keepN Kf)
    have jl:¬((im2:Int)<lk):=by have:=h2.out;omega
    clear h1 h2 h3 h4 h5 Hit Kf HLe
    have htl3:=tell_any 1 wf (HG.out.errs.keep HLf.out.base.keep (λx=>x))
    rw[show errVal 1= .iface 48 (.int .i64 1)from rfl]at htl3
    have Htl3:=Lib.hid htl3
    clear htl3
    go_wp2_with fail
    refine Htl3.out.mono ?_
    rintro e wg ⟨rfl,Kg⟩
    have HLg:=Lib.hid (HLf.out.keepN Kg)
    clear Htl3 Kg HLf
    go_wp2_with fail
    exact⟨⟨k+1,n',nB',tB',P',V',d',b',Ln',Lt',by omega,by omega,by go_num,rfl,rfl,hd',hf',HLg⟩,by simp[intOf];omega⟩
  ·obtain rfl:k=m:=by omega
   have j1:¬(k:Int)<k:=by omega
   have hund:=undo_n hL.out.base
   have Hund:=Lib.hid hund
   clear hund
   go_wp2_with fail
   refine Hund.out.mono ?_
   rintro e w7 ⟨rfl,⟨P',hb7,hg⟩,K7⟩
   have Hin:=Lib.hid hL.out.inv
   have Hwt:=Lib.hid hL.out.wait
   have Hb7:=Lib.hid hb7
   have hdu:(undoB b).dim=2:=hdim
   have hit:=itemsP_n hb7
   have Hit:=Lib.hid hit
   have hltP:Hid (∀x,P' x->x<w7.heap.size):=Lib.hid hb7.lt
   clear hit Hund hb7 hg K7
   go_wp2_with fail
   refine Hit.out.mono ?_
   rintro e w8 ⟨ip,ic,im,li,rfl,h1,h2,h3,h4,h5,h60,K8⟩
   have Hb8:=Lib.hid (Hb7.out.keepN K8)
   have hfi:=find2_n Hb8.out hdu (HN.out.keep Hb8.out.keep (λ_ _ x=>x)) (by have:=Hnq.out;omega) q tag (by have:=Hts.out;omega) HQ.out
   have Hfi:=Lib.hid hfi
   have h78:w7.heap.size<=w8.heap.size:=K8.size
   clear hfi Hit K8 Hb7
   go_wp2_with fail
   refine Hfi.out.mono ?_
   rintro e w9 ⟨xv,lk,rfl,hxr,hlk,hxn,K9⟩
   have Hb9:=Lib.hid (Hb8.out.keepN K9)
   have Hxr:=Lib.hid hxr
   have Hxn:=Lib.hid hxn
   have Hir:Hid (RowsK w9 (.slice ip im ic) 3 encItem li):=Lib.hid (h3.out.1.keep K9 (λ_ _ x=>x))
   have Hin9:Hid (∀x∈li,NumsR w9 x):=Lib.hid (λx hx=>(h3.out.2.1 x hx).keep K9 (λ_ _ _ _ hs _=>hs.elim))
   have Hig:Hid (∀g,(Value.slice ip im ic).ownBlock=some g->w7.heap.size<=g):=Lib.hid h3.out.2.2
   have Hoth:Hid (OtherB w9 P'):=Lib.hid Hb9.out.other
   have hcom:=commit_n (n:=n) rfl Hb9.out (by omega) Hin.out Hwt.out (by omega) (by decide) HG.out.rounds HG.out.items.pow
   have Hcom:=Lib.hid hcom
   clear hcom Hfi K9 Hb8 hxr h3 hxn
   go_wp2_with fail
   refine Hcom.out.mono ?_
   rintro e wa ⟨ev,rfl,hres,Ka⟩
   rcases hres with⟨h0,_⟩|⟨_,hres⟩
   ·exact absurd h0 (by omega)
   rcases hres with⟨rfl,V',d',P2,hba,_,_,_,_,_,_⟩|⟨_,hf,_⟩
   rotate_left
   ·exact absurd hf (by omega)
   have hna:(doneB (undoB b)).now=b.now:=rfl
   have Hia:Hid (Items wa (.slice ip im ic) li):=Lib.hid ⟨Hir.out.keep Ka (λg hg hp=>by have:=Hig.out g hg;have:=hltP.out g hp;omega),λx hx=>((Hin9.out x hx).keep Ka (λb c t f hs hh=>(Hoth.out b c t f hs hh).int)).1⟩
   have Hxa:Hid (RowsK wa xv 2 encF (askT Q (topP (itemsG b.now) at_ q tag))):=Lib.hid (Hxr.out.keep Ka (λg hg hp=>by have:=Hxn.out g hg;have:=hltP.out g hp;omega))
   have Hba:=Lib.hid hba
   have hit:=itemsP_n hba
   have Hit:=Lib.hid hit
   clear hit hba Ka Hcom Hxr Hir Hin9 Hoth Hb9
   go_wp2_with fail
   refine Hit.out.mono ?_
   rintro e wb ⟨ip2,ic2,im2,li2,rfl,g1,g2,g3,g4,g5,g60,Kb⟩
   have Hbb:=Lib.hid (Hba.out.keepN Kb)
   have hal:=alike_any (.slice ip2 im2 ic2) (.slice ip im ic) li2 li wb ⟨g3.out.1,λx hx=>(g3.out.2.1 x hx).1⟩ ⟨Hia.out.rows.keep Kb (λ_ _ x=>x),λx hx=>(Hia.out.nums x hx).keep Kb (λ_ _ x=>x)⟩ (by have:=g1.out;omega) (by have:=h1.out;omega) g5.out h5.out
   rw[alike_same (by rw[g4.out,h4.out];rfl)]at hal
   have Hxb:=Lib.hid (Hxa.out.keep Kb (λ_ _ x=>x))
   have Hal:=Lib.hid hal
   clear hal Kb Hit g1 g2 g3 g4 g5 g60 Hia Hxa Hba
   go_wp2_with fail
   refine Hal.out.mono ?_
   rintro e wc ⟨rfl,Kc⟩
   have Hbc:=Lib.hid (Hbb.out.keepN Kc)
   have Hxc:=Lib.hid (Hxb.out.keep Kc (λ_ _ x=>x))
   have hfi:=find2_n Hbc.out (show(doneB (undoB b)).dim=2 from hdim) (HN.out.keep Hbc.out.keep (λ_ _ x=>x)) (by have:=Hnq.out;omega) q tag (by have:=Hts.out;omega) HQ.out
   have Hfi:=Lib.hid hfi
   clear hfi Kc Hal Hxb Hbb
   go_wp2_with fail
   refine Hfi.out.mono ?_
   rintro e wd ⟨yv,lk2,rfl,hyr,hlk2,_,Kd⟩
   have hlx:=topP_len (itemsG b.now) at_ q tag Q
   have hlx6:(askT Q (topP (itemsG b.now) at_ q tag)).length<=1000000:=by
    have:=h4.out
    have h6:=congrArg List.length this
    rw[List.length_map,<-h1.out]at h6
    have h7:(itemsG (undoB b).now).length=(itemsG b.now).length:=rfl
    omega
   have hyr:RowsK wd yv 2 encF (askT Q (topP (itemsG b.now) at_ q tag)):=hyr
   have heq:=equalFound_any xv yv _ _ wd (Hxc.out.keep Kd (λ_ _ x=>x)) hyr hlx6 hlx6
   rw[decide_eq_true rfl]at heq
   have HK:=Lib.hid (Hbc.out.keepN Kd).keep
   have Heq:=Lib.hid heq
   clear heq hlx hlx6 hyr Kd Hfi Hxc Hbc
   go_wp2_with fail
   refine Heq.out.mono ?_
   rintro e wz ⟨rfl,qz,hqz⟩
   clear Heq
   go_wp2_with fail
   go_ret
   exact⟨by simp,by first|exact HK.out.drewN qz|(rw[hqz];exact HK.out.drewN qz)⟩
end Go.Proofs.YtkjjpcebjcaadaaGreatDoor
namespace Go.Proofs.YtkjjpcebjcaadaaGreatDoor
open Go.RowKit Go.Cof Go.Sort Go.Shelf
structure CrashSt(w0 w:World)(D C:Nat)(cut:Bool)(nB tB:Nat)(Ln Lt:List NowE):Prop where
 dev:∃(B S:Nat) (wv:Value) (V:VaultV) (d:DevV) (n:Nat),n<=900∧VN w0 w B D C S wv V d n∧¬VB B D C S wv nB∧¬VB B D C S wv tB∧
  ∀keeps,∃(Vx:VaultV) (nx:Nat) (bx:BaseV),InvV secB Vx (crashTo d.sure d.wait keeps d.wait.length) nx∧openV secB (crashTo d.sure d.wait keeps d.wait.length) n=some (Vx,(nx:Int))∧Said Vx.texts bx∧OkB bx∧bx.dim=2∧joinT Vx.texts≠ []∧(plainN Ln=bx.now∨(cut=true∧plainN Lt=bx.now))
 now:∃q,q<=200∧SMapIs w nB q (mapG aggI Ln)
 thn:∃q,q<=200∧SMapIs w tB q (mapG aggI Lt)
 numN:∀p∈Ln,Nums w0 p.2.av p.2.ns∧p.2.ns.length<=1000000
 numT:∀p∈Lt,Nums w0 p.2.av p.2.ns∧p.2.ns.length<=1000000
 lenN:Ln.length<=60
 lenT:Lt.length<=60
section
variable {w0 w w':World}{P:Nat->Prop}{BB D C:Nat}{V:VaultV}{d:DevV}{n:Nat}{b:BaseV}{k nowB thenB:Nat}{Ln Lt:List NowE}
theorem LawSt.crashSt(h:LawSt w0 w P BB D C V d n b k nowB thenB Ln Lt)(hn:n<=900)(hd:b.dim=2)(hj:joinT V.texts≠ []):CrashSt w0 w D C false nowB thenB Ln Lt:=by
 have hl:=h.len
 have hok:=h.base.ok
 obtain⟨B,S,wv,mb,wb,CC,nm,nw,L,W,hb⟩:=h.base
 refine⟨⟨B,S,wv,V,d,n,hn,hb.vn,λhx=>h.sepN ((hb.blocks _).2 (.inl hx)),λhx=>h.sepT ((hb.blocks _).2 (.inl hx)),λkeeps=>⟨V,n,b,?_,?_,h.said,hok,hd,hj,.inl h.eqN⟩⟩,h.now,h.thn,h.numN,h.numT,hl.2,hl.1⟩
 ·rw[h.wait];exact h.inv
 ·rw[h.wait];exact inv_open h.inv
theorem cut_crashSt(h:LawSt w0 w P BB D C V d n b k nowB thenB Ln Lt)(hn:n<=900)(hd:b.dim=2)(hj:joinT V.texts≠ []){wh:Int}(hw:wh=3∨wh=4)(K:Keep P w w'){B S:Nat}{wv':Value}{d':DevV}(hv:VN w0 w' B D C S wv' (dieV V) d' n)(hg:∀x,VB B D C S wv' x->P x∨w.heap.size<=x)
  (hc:∀keeps,InvV secB V (crashTo d'.sure d'.wait keeps d'.wait.length) n∨∃V2,InvV secB V2 (crashTo d'.sure d'.wait keeps d'.wait.length) (n+1)∧Said V2.texts (if wh=3 then doneB b else b)∧More V V2):
  CrashSt w0 w' D C true nowB (if wh=4 then nowB else thenB) Ln (if wh=4 then Ln else Lt):=by
 have hl:=h.len
 have hok:=h.base.ok
 obtain⟨q1,hq1,m1⟩:=h.now
 obtain⟨q2,hq2,m2⟩:=h.thn
 have s1:¬VB B D C S wv' nowB:=λhx=>(hg _ hx).elim h.sepN (λe=>by have:=m1.lt;omega)
 have s2:¬VB B D C S wv' thenB:=λhx=>(hg _ hx).elim h.sepT (λe=>by have:=m2.lt;omega)
 refine⟨⟨B,S,wv',dieV V,d',n,hn,hv,s1,?_,λkeeps=> ?_⟩,⟨q1,hq1,m1.keep K h.sepN⟩,?_,h.numN,?_,hl.2,?_⟩
 ·split
  ·exact s1
  ·exact s2
 ·rcases hc keeps with hc|⟨V2,hi,hs,hm⟩
  ·exact⟨V,n,b,hc,inv_open hc,h.said,hok,hd,hj,.inl h.eqN⟩
  ·refine⟨V2,n+1,_,hi,inv_open1 hi,hs,?_,?_,hm hj,?_⟩
   ·split
    ·exact hok.done
    ·exact hok
   ·split
    ·exact hd
    ·exact hd
   ·rcases hw with rfl|rfl
    ·exact .inr ⟨rfl,h.eqT⟩
    ·exact .inl h.eqN
 ·split
  ·exact⟨q1,hq1,m1.keep K h.sepN⟩
  ·exact⟨q2,hq2,m2.keep K h.sepT⟩
 ·split
  ·exact h.numN
  ·exact h.numT
 ·split
  ·exact hl.2
  ·exact hl.1
theorem CrashSt.keepN{D C nB tB:Nat}{cut:Bool}(h:CrashSt w0 w D C cut nB tB Ln Lt)(hk:Keep NoB w w'):CrashSt w0 w' D C cut nB tB Ln Lt:=by
 obtain⟨q1,hq1,m1⟩:=h.now
 obtain⟨q2,hq2,m2⟩:=h.thn
 obtain⟨B,S,wv,V,d,n,h1,h2,h3⟩:=h.dev
 exact⟨⟨B,S,wv,V,d,n,h1,h2.keepN hk,h3⟩,⟨q1,hq1,m1.keep hk (λx=>x)⟩,⟨q2,hq2,m2.keep hk (λx=>x)⟩,h.numN,h.numT,h.lenN,h.lenT⟩
theorem CrashSt.low{D C nB tB:Nat}{cut:Bool}(h:CrashSt w0 w D C cut nB tB Ln Lt):Keep NoB w0 w:=by
 obtain⟨B,S,wv,V,d,n,h1,h2,h3⟩:=h.dev
 exact h2.keep
end
set_option maxRecDepth 100000
set_option maxHeartbeats 16000000 in
theorem baseCrashes_any{w:World}(v kv va:Value)(l:List DeedV)(fuse:Int)(keeps:List Bool)(at_:List Int)(I:Deeds w v l)(Kb:Bools w kv keeps)(N:Nums w va at_)(hl:l.length<=maxLen)(hkl:keeps.length<=maxLen)(ha:at_.length<=maxLen)(hns:∀x∈l,x.ns.length<=maxLen)(hnm:∀x∈l,x.name.size<=maxLen)(G:BaseVars w):
  Calls Tryz.prog 3 #[v,.int .i64 fuse,kv,va] w λe w'=>e= .returned (.bool true)∧Keep NoB w w':=by
 obtain⟨pq,cq,rfl⟩:=N.len
 obtain⟨nq,hnq⟩:∃m,m=at_.length:=⟨_,rfl⟩
 rw[<-hnq]at N ha⊢
 have HN:=Lib.hid N
 have Hnq:=Lib.hid hnq
 clear N hnq
 obtain⟨pk,ck,rfl⟩:=Kb.len
 obtain⟨nk,hnk⟩:∃n,n=keeps.length:=⟨_,rfl⟩
 rw[<-hnk]at Kb hkl⊢
 have HKb:=Lib.hid Kb
 have Hnk:=Lib.hid hnk
 clear Kb hnk
 obtain⟨p0,c0,rfl⟩:=I.rows.len
 have hde:=deeds_any _ l w I hl hns
 obtain⟨m,hm⟩:∃m,m=l.length:=⟨_,rfl⟩
 have hrows:=I.rows
 rw[<-hm]at hde hrows⊢
 cases hB:deedsB l with
 | false=>
  rw[hB]at hde
  have Hde:=Lib.hid hde
  clear hde hB hm hrows hns hnm hl I G
  go_enter Tryz.func3,Tryz.ntmps3
  go_wp2_with fail
  refine Hde.out.mono ?_
  rintro e w1 ⟨rfl,K1⟩
  go_wp2_with fail
  go_ret
  exact⟨rfl,K1⟩
 | true=>
 rw[hB]at hde
 simp only[deedsB,Bool.and_eq_true,decide_eq_true_eq,Bool.not_eq_true']at hB
 have hm40:m<=40:=by rw[hm];exact hB.1
 have hx12:∀x∈l,x.ns.length<=1000000:=λx hx=>by
  have h1:=hB.2
  rw[List.any_eq_false]at h1
  have h2:wideD x=false:=by simpa using h1 x hx
  simp only[wideD,wideB,DeedV.item,Bool.or_eq_false_iff]at h2
  have:=of_decide_eq_false h2.2
  omega
 have Hde:=Lib.hid hde
 have HG:=Lib.hid G
 have Hrows:=Lib.hid hrows
 have Hm:=Lib.hid hm
 have Hnum:=Lib.hid I.nums
 have Hx12:=Lib.hid hx12
 have Hnm:=Lib.hid hnm
 clear hde G hrows hm I hx12 hnm hB hns hl
 go_enter Tryz.func3,Tryz.ntmps3
 go_wp2_with fail
 refine Hde.out.mono ?_
 rintro e w1 ⟨rfl,K1⟩
 have HK1:=Lib.hid K1
 clear Hde K1
 by_cases h80:nk<=80
 case neg=>
  have j80:(80:Int)<nk:=by omega
  go_wp2_with fail
  go_ret
  exact⟨rfl,HK1.out⟩
 have j80:¬(80:Int)<nk:=by omega
 by_cases h12:nq<=12
 case neg=>
  have j12:(12:Int)<nq:=by omega
  go_wp2_with fail
  go_ret
  exact⟨rfl,HK1.out⟩
 have j12:¬(12:Int)<nq:=by omega
 have BV:∀ {W:World},Keep NoB w W->BaseVars W:=λK=>⟨HG.out.rounds.keep K (λx=>x),HG.out.items.keep K,HG.out.errs.keep K (λx=>x)⟩
 have hba:=based_any (BV HK1.out)
 have Hba:=Lib.hid hba
 clear hba BV
 go_wp2_with fail
 refine Hba.out.mono ?_
 rintro e w2 ⟨rfl,K2⟩
 have HK2:=Lib.hid (HK1.out.thenN K2)
 clear Hba K2
 go_wp2_with fail
 refine(new_N _).mono ?_
 rintro e w3 ⟨D,S,rfl,h3⟩
 have h3:DevN w w3 D S (.slice none 0 0) sure0 [] (-1):=⟨h3.dev,λb hb=>Nat.le_trans HK2.out.size (h3.own b hb),HK2.out.thenN h3.keep⟩
 have KA:Keep NoB w3 (w3.alloc (.cells #[.int .i64 0] 30)):=(Keep.refl _ _).alloc _
 have hc:CountAt (w3.alloc (.cells #[.int .i64 0] 30)) w3.heap.size 0:=heap_alloc_new w3 _
 have hop:=openB_new (h3.keepN KA) hc h3.keep.size HG.out
 have Hop:=Lib.hid hop
 have HC0:Hid (w.heap.size<=w3.heap.size):=Lib.hid h3.keep.size
 obtain⟨C,hC⟩:∃C,C=w3.heap.size:=⟨_,rfl⟩
 have HC:=Lib.hid hC
 clear hop hc KA h3 hC
 go_wp2_with fail
 refine Hop.out.mono ?_
 rintro e w4 ⟨⟨BB,P0,rfl,hb⟩,K4⟩
 rw[<-HC.out]at hb⊢
 have hi0:=inv_fresh secB sure0 List.length_replicate sure0_at
 have hmk:=make_n hb 2
 have Hmk:=Lib.hid hmk
 clear hmk Hop hb K4
 go_wp2_with fail
 refine Hmk.out.mono ?_
 rintro e w5 ⟨he,hb5,K5⟩
 have he:e= .returned .nilIface:=he
 subst he
 have hb5:BaseN w w5 P0 BB D C (freshV secB) ⟨sure0,[],-1⟩ ((0:Nat):Int) ⟨2,[],[]⟩ 60:=hb5
 have hcom:=commit_n (n:=0) rfl hb5 (by omega) hi0 rfl (by omega) (by decide) HG.out.rounds HG.out.items.pow
 have Hcom:=Lib.hid hcom
 clear hcom hb5 Hmk K5 hi0 j80 j12
 go_wp2_with fail
 refine Hcom.out.mono ?_
 rintro e w6 ⟨ev,rfl,hres,K6⟩
 rcases hres with⟨h0,_⟩|⟨_,hres⟩
 ·cases h0
 rcases hres with⟨rfl,V1,d1,P1,hb6,_,hi6,hw6,hs6,hf6,hj6⟩|⟨_,hf,_⟩
 rotate_left
 ·exact absurd hf (by decide)
 have hj6:joinT V1.texts≠ []:=hj6
 have hpick:=pick_any fuse 60 60 rfl (by omega) (by omega)
 obtain⟨fu,hfu⟩:∃f,f=pickN fuse 60:=⟨_,rfl⟩
 have hfu60:fu<60:=by rw[hfu];exact pickN_lt _ 60 (by omega)
 rw[<-hfu]at hpick
 have Hb6:=Lib.hid hb6
 have Hi6:=Lib.hid hi6
 have Hw6:=Lib.hid hw6
 have Hs6:=Lib.hid hs6
 have Hj6:=Lib.hid hj6
 clear hfu hb6 hi6 hw6 hs6 hf6 hj6 Hcom K6
 go_wp2_with fail
 refine(hpick _).mono ?_
 clear hpick
 rintro e w7 ⟨rfl,hw7⟩
 subst w7
 have hmax:max (fu:Int) (-1)=(fu:Int):=by omega
 have hfz:=fuse_bn Hb6.out (fu:Int) (by omega)
 rw[hmax]at hfz
 have Hfz:=Lib.hid hfz
 clear hfz hmax
 go_wp2_with fail
 refine Hfz.out.mono ?_
 rintro e w7 ⟨rfl,hb7,K7⟩
 have hst:=LawSt.start hb7 Hi6.out Hw6.out Hs6.out rfl rfl
 have Hst:=Lib.hid hst
 have hmm:= @run_makeMap Tryz.prog
 clear hst hb7 K7 Hfz Hi6 Hw6 Hs6 Hb6
 go_upto_region 14 with(fail)
 clear hmm
 obtain⟨w8,hw8⟩:∃w8,w8=(w7.alloc (Obj.map #[] 0)).alloc (Obj.map #[] 0):=⟨_,rfl⟩
 rw[<-hw8]at Hst⊢
 clear hw8
 go_loopw [12,13,14,15,16] (λev nv tv cv iv wr=>∃(k nB tB:Nat) (Ln Lt:List NowE) (cut:Bool) (e:Value),k<=m∧ev=e∧iv= .int .i64 k∧nv= .map (some nB)∧tv= .map (some tB)∧cv= .bool cut∧Hid ((cut=false∧∃(n:Nat) (P:Nat->Prop) (V:VaultV) (d:DevV) (b:BaseV),n<=k+1∧b.dim=2∧joinT V.texts≠ []∧LawSt w wr P BB D C V d n b (60+k) nB tB Ln Lt)∨(cut=true∧CrashSt w wr D C true nB tB Ln Lt))) (λ_ _ _ _ iv _=>m-(intOf iv).toNat)
 case atStart=>exact⟨0,_,_,[],[],false,_,by omega,rfl,rfl,rfl,rfl,rfl,Lib.hid (.inl ⟨rfl,1,P1,V1,_,_,by omega,rfl,Hj6.out,Hst.out⟩)⟩
 case round=>
  obtain⟨k,nB,tB,Ln,Lt,cut,e0,hk,rfl,rfl,rfl,rfl,rfl,hS⟩:=hrel
  obtain⟨wo,rfl⟩:∃wo,wo=wr:=⟨_,rfl⟩
  by_cases hlt:k<m
  ·have j1:(k:Int)<m:=by omega
   cases cut with
   | true=>
    have hC:CrashSt w wo D C true nB tB Ln Lt:=hS.out.elim (λh=>by cases h.1) (λh=>h.2)
    have HC9:=Lib.hid hC
    clear hS hC
    obtain⟨B,S',wv,V,d,n,hn9,hvn,hsN,hsT,hcr⟩:=HC9.out.dev
    obtain⟨q1,hq1,M1⟩:=HC9.out.now
    obtain⟨q2,hq2,M2⟩:=HC9.out.thn
    obtain⟨Vx,nx,bx,hix,hox,hsd,hok,hbd,hjx,hor⟩:=hcr keeps
    obtain⟨BX,hBX⟩:∃b,b=crashTo d.sure d.wait keeps d.wait.length:=⟨_,rfl⟩
    rw[<-hBX]at hix hox
    have hcrash:=crash_vn hvn (.slice pk nk ck) keeps (HKb.out.keep hvn.keep (λ_ _ x=>x)) (by rw[<-Hnk.out];omega) (λh0 g hg hx=>by
     obtain⟨Bk,ok,hke,-,hkl,-⟩:=HKb.out.at h0
     cases hke
     obtain rfl:Bk=g:=Option.some.inj hg
     have:=hvn.own Bk (.inl hx)
     omega)
    rw[<-hBX]at hcrash
    have Hcrash:=Lib.hid hcrash
    have Hix:=Lib.hid hix
    have Hox:=Lib.hid hox
    have Hsd:=Lib.hid hsd
    have Hok:=Lib.hid hok
    have Hjx:=Lib.hid hjx
    have Hor:=Lib.hid hor
    have HM1:=Lib.hid M1
    have HM2:=Lib.hid M2
    have HsN:=Lib.hid hsN
    have HsT:=Lib.hid hsT
    clear hBX hix hox hsd hok hjx hor M1 M2 hsN hsT hcr hcrash hvn
    go_wp2_with fail
    refine Hcrash.out.mono ?_
    rintro e wa ⟨rfl,hva,Ka⟩
    have Hma:=Lib.hid (HM1.out.keep Ka (λhx=>HsN.out (.inl hx)))
    have Hta:=Lib.hid (HM2.out.keep Ka (λhx=>HsT.out (.inl hx)))
    have hop:=open_n (b:=bx) hva.dev hva.keep (λx hx=>hx.elim (λh=>hva.own x (.inl h)) (λh=>hva.own x (.inr (.inr h)))) hva.cnt (by omega) Hix.out.bsz (by decide) HG.out.rounds HG.out.items Hox.out Hix.out.texts Hix.out.t200 Hok.out Hsd.out
    have Hop:=Lib.hid hop
    clear hop hva Ka Hcrash HM1 HM2
    go_wp2_with fail
    refine Hop.out.mono ?_
    rintro e wb ⟨⟨BB2,P2,rfl,hbb,_⟩,Kb⟩
    have Hmb:=Lib.hid (Hma.out.keep Kb (λe=>HsN.out (.inr (.inr e))))
    have Htb:=Lib.hid (Hta.out.keep Kb (λe=>HsT.out (.inr (.inr e))))
    have hbe:openBase bx Vx.texts=⟨bx.dim,bx.now,[]⟩:=by rw[openBase,if_neg Hjx.out]
    rw[hbe,hbd]at hbb
    have hha:=has_n hbb Hmb.out (λp hp=>⟨(HC9.out.numN p hp).1.keep hbb.keep (λ_ _ x=>x),(HC9.out.numN p hp).2⟩) (by have:=HC9.out.lenN;omega)
    have Hha:=Lib.hid hha
    have Hbb:=Lib.hid hbb
    clear hha hbb Kb Hop Hma Hta hbe
    go_wp2_with fail
    refine Hha.out.mono ?_
    rintro e wc ⟨r,rfl,hr,Kc⟩
    have Hbc:=Lib.hid (Hbb.out.keepN Kc)
    have Hmc:=Lib.hid (Hmb.out.keep Kc (λx=>x))
    have Htc:=Lib.hid (Htb.out.keep Kc (λx=>x))
    have Hr:=Lib.hid hr
    clear hr Kc Hha Hbb Hmb Htb
    cases r with
    | true=>
     obtain⟨Q,hQ⟩:∃Q,askB 2 at_ 3=Q:=⟨_,rfl⟩
     have HQ:=Lib.hid hQ
     have hfi:=find2_n Hbc.out rfl (HN.out.keep Hbc.out.keep (λ_ _ x=>x)) (by have:=Hnq.out;omega) 3 ⟨#[]⟩ (by decide) hQ
     have Hfi:=Lib.hid hfi
     clear hfi hQ
     go_wp2_with fail
     refine Hfi.out.mono ?_
     rintro e wd ⟨xv,lk,rfl,hxr,hlk,_,Kd⟩
     have Hbd:=Lib.hid (Hbc.out.keepN Kd)
     have Hxd:=Lib.hid hxr
     have hit:=itemsP_n Hbd.out
     have Hit:=Lib.hid hit
     obtain⟨er,her⟩:∃x,x=errVal (askE Q):=⟨_,rfl⟩
     rw[<-her]
     have Her:=Lib.hid her
     clear hit hxr Kd Hfi her Hbc Hmc Htc
     go_wp2_with fail
     refine Hit.out.mono ?_
     rintro e we ⟨ip,ic,im,li,rfl,g1,g2,g3,g4,g5,g60,Ke⟩
     have Hbe:=Lib.hid (Hbd.out.keepN Ke)
     have Hxe:=Lib.hid (Hxd.out.keep Ke (λ_ _ x=>x))
     have htp:=top2_n ⟨g3.out.1,λx hx=>(g3.out.2.1 x hx).1⟩ (by rw[<-g1.out];exact g60) g5.out g4.out (HN.out.keep Hbe.out.keep (λ_ _ x=>x)) (by have:=Hnq.out;omega) 3 ⟨#[]⟩ HQ.out
     rw[<-Her.out]at htp
     have Htp:=Lib.hid htp
     clear htp Hit g1 g2 g3 g4 g5 g60 Ke Hbd Hxd
     go_wp2_with fail
     refine Htp.out.mono ?_
     rintro e wf ⟨yv,rfl,hyr,Kf⟩
     have Hbf:=Lib.hid (Hbe.out.keepN Kf)
     have Hxf:=Lib.hid (Hxe.out.keep Kf (λ_ _ x=>x))
     have Hyf:=Lib.hid hyr
     have htl:=tell_any (askE Q) wf (HG.out.errs.keep Hbf.out.keep (λx=>x))
     rw[<-Her.out]at htl
     have Htl:=Lib.hid htl
     obtain⟨ez,hez⟩:∃z,z=askE Q:=⟨_,rfl⟩
     rw[<-hez]at Htl
     have Hez:=Lib.hid hez
     clear htl Htp hyr Kf Hbe Hxe hez
     go_wp2_with fail
     refine Htl.out.mono ?_
     rintro e wg ⟨rfl,Kg⟩
     have Hbg:=Lib.hid (Hbf.out.keepN Kg)
     have Hxg:=Lib.hid (Hxf.out.keep Kg (λ_ _ x=>x))
     have Hyg:=Lib.hid (Hyf.out.keep Kg (λ_ _ x=>x))
     have htl:=tell_any (askE Q) wg (HG.out.errs.keep Hbg.out.keep (λx=>x))
     rw[<-Her.out,<-Hez.out]at htl
     have Htl2:=Lib.hid htl
     clear htl Htl Kg Hbf Hxf Hyf
     go_wp2_with fail
     refine Htl2.out.mono ?_
     rintro e wh' ⟨rfl,Kh⟩
     have hlx:=topP_len (itemsG bx.now) at_ 3 ⟨#[]⟩ Q
     have hlx6:(askT Q (topP (itemsG bx.now) at_ 3 ⟨#[]⟩)).length<=1000000:=by
      have:=Hok.out.len
      have hil:(itemsG bx.now).length=bx.now.length:=List.length_map ..
      omega
     have heq:=equalFound_any xv yv _ _ wh' (Hxg.out.keep Kh (λ_ _ x=>x)) (Hyg.out.keep Kh (λ_ _ x=>x)) hlx6 hlx6
     rw[decide_eq_true rfl]at heq
     have HK:=Lib.hid (Hbg.out.keepN Kh).keep
     have Heq:=Lib.hid heq
     clear heq hlx hlx6 Kh Htl2 Hxg Hyg Hbg
     go_wp2_with fail
     refine Heq.out.mono ?_
     rintro e wz ⟨rfl,qz,hqz⟩
     clear Heq
     go_wp2_with fail
     go_ret
     exact⟨by simp,by first|exact HK.out.drewN qz|(rw[hqz];exact HK.out.drewN qz)⟩
    | false=>
     have hct:True∧plainN Lt=bx.now:=Hor.out.elim (λh=>by have:=Hr.out h;cases this) (λh=>⟨trivial,h.2⟩)
     have hha:=has_n Hbc.out Htc.out (λp hp=>⟨(HC9.out.numT p hp).1.keep Hbc.out.keep (λ_ _ x=>x),(HC9.out.numT p hp).2⟩) (by have:=HC9.out.lenT;omega)
     have Hha:=Lib.hid hha
     clear hha Hmc Htc
     go_wp2_with fail
     refine Hha.out.mono ?_
     rintro e wc2 ⟨r2,rfl,hr2,Kc2⟩
     have hr2:=hr2 hct.2
     subst hr2
     have Hbc2:=Lib.hid (Hbc.out.keepN Kc2)
     clear Hha Kc2 Hbc hct
     obtain⟨Q,hQ⟩:∃Q,askB 2 at_ 3=Q:=⟨_,rfl⟩
     have HQ:=Lib.hid hQ
     have hfi:=find2_n Hbc2.out rfl (HN.out.keep Hbc2.out.keep (λ_ _ x=>x)) (by have:=Hnq.out;omega) 3 ⟨#[]⟩ (by decide) hQ
     have Hfi:=Lib.hid hfi
     clear hfi hQ
     go_wp2_with fail
     refine Hfi.out.mono ?_
     rintro e wd ⟨xv,lk,rfl,hxr,hlk,_,Kd⟩
     have Hbd:=Lib.hid (Hbc2.out.keepN Kd)
     have Hxd:=Lib.hid hxr
     have hit:=itemsP_n Hbd.out
     have Hit:=Lib.hid hit
     obtain⟨er,her⟩:∃x,x=errVal (askE Q):=⟨_,rfl⟩
     rw[<-her]
     have Her:=Lib.hid her
     clear hit hxr Kd Hfi her Hbc2
     go_wp2_with fail
     refine Hit.out.mono ?_
     rintro e we ⟨ip,ic,im,li,rfl,g1,g2,g3,g4,g5,g60,Ke⟩
     have Hbe:=Lib.hid (Hbd.out.keepN Ke)
     have Hxe:=Lib.hid (Hxd.out.keep Ke (λ_ _ x=>x))
     have htp:=top2_n ⟨g3.out.1,λx hx=>(g3.out.2.1 x hx).1⟩ (by rw[<-g1.out];exact g60) g5.out g4.out (HN.out.keep Hbe.out.keep (λ_ _ x=>x)) (by have:=Hnq.out;omega) 3 ⟨#[]⟩ HQ.out
     rw[<-Her.out]at htp
     have Htp:=Lib.hid htp
     clear htp Hit g1 g2 g3 g4 g5 g60 Ke Hbd Hxd
     go_wp2_with fail
     refine Htp.out.mono ?_
     rintro e wf ⟨yv,rfl,hyr,Kf⟩
     have Hbf:=Lib.hid (Hbe.out.keepN Kf)
     have Hxf:=Lib.hid (Hxe.out.keep Kf (λ_ _ x=>x))
     have Hyf:=Lib.hid hyr
     have htl:=tell_any (askE Q) wf (HG.out.errs.keep Hbf.out.keep (λx=>x))
     rw[<-Her.out]at htl
     have Htl:=Lib.hid htl
     obtain⟨ez,hez⟩:∃z,z=askE Q:=⟨_,rfl⟩
     rw[<-hez]at Htl
     have Hez:=Lib.hid hez
     clear htl Htp hyr Kf Hbe Hxe hez
     go_wp2_with fail
     refine Htl.out.mono ?_
     rintro e wg ⟨rfl,Kg⟩
     have Hbg:=Lib.hid (Hbf.out.keepN Kg)
     have Hxg:=Lib.hid (Hxf.out.keep Kg (λ_ _ x=>x))
     have Hyg:=Lib.hid (Hyf.out.keep Kg (λ_ _ x=>x))
     have htl:=tell_any (askE Q) wg (HG.out.errs.keep Hbg.out.keep (λx=>x))
     rw[<-Her.out,<-Hez.out]at htl
     have Htl2:=Lib.hid htl
     clear htl Htl Kg Hbf Hxf Hyf
     go_wp2_with fail
     refine Htl2.out.mono ?_
     rintro e wh' ⟨rfl,Kh⟩
     have hlx:=topP_len (itemsG bx.now) at_ 3 ⟨#[]⟩ Q
     have hlx6:(askT Q (topP (itemsG bx.now) at_ 3 ⟨#[]⟩)).length<=1000000:=by
      have:=Hok.out.len
      have hil:(itemsG bx.now).length=bx.now.length:=List.length_map ..
      omega
     have heq:=equalFound_any xv yv _ _ wh' (Hxg.out.keep Kh (λ_ _ x=>x)) (Hyg.out.keep Kh (λ_ _ x=>x)) hlx6 hlx6
     rw[decide_eq_true rfl]at heq
     have HK:=Lib.hid (Hbg.out.keepN Kh).keep
     have Heq:=Lib.hid heq
     clear heq hlx hlx6 Kh Htl2 Hxg Hyg Hbg
     go_wp2_with fail
     refine Heq.out.mono ?_
     rintro e wz ⟨rfl,qz,hqz⟩
     clear Heq
     go_wp2_with fail
     go_ret
     exact⟨by simp,by first|exact HK.out.drewN qz|(rw[hqz];exact HK.out.drewN qz)⟩
   | false=>
   obtain⟨n,P,V,d,b,hnk,hdim,hjn,hL⟩:∃(n:Nat) (P:Nat->Prop) (V:VaultV) (d:DevV) (b:BaseV),n<=k+1∧b.dim=2∧joinT V.texts≠ []∧LawSt w wo P BB D C V d n b (60+k) nB tB Ln Lt:=hS.out.elim (λh=>h.2) (λh=>by cases h.1)
   have hL:=Lib.hid hL
   have Hjn:=Lib.hid hjn
   clear hS hjn
   have hKo:Keep NoB w wo:=hL.out.base.keep
   have Ir:=Hrows.out.keep hKo (λ_ _ x=>x)
   obtain⟨rb,off,rfl,-,hrb,hcell⟩:=Ir.at (by rw[<-Hm.out];omega)
   have hrb0:rb<w.heap.size:=by
    rcases Hrows.out with⟨h,_⟩|⟨b2,o2,c2,hv,hb2,_⟩
    ·rw[h]at Hm;have:=Hm.out;simp at this;omega
    ·cases hv;exact hb2
   obtain⟨x,hx⟩:∃x,l[k]? =some x:=⟨_,List.getElem?_eq_getElem (by rw[<-Hm.out];exact hlt)⟩
   have hra:=hcell k x hx
   have hxm:x∈l:=List.mem_of_getElem? hx
   have hdo:=does_any hL.out (by omega) (by omega) HG.out.rounds HG.out.items.pow (by omega) x (Hnum.out x hxm) (Hx12.out x hxm) (Hnm.out x hxm)
   have hxa:=(Hnum.out x hxm).len
   obtain⟨wh,nm,tg,av,ns⟩:=x
   simp only[encDeed]at hdo hxa
   obtain⟨pa,ca,rfl⟩:=hxa
   have x0:wo.cell? ⟨rb,off+k*4,none⟩=some (.int .i64 wh):=hra 0 _ rfl
   have x1:wo.cell? ⟨rb,off+k*4+1,none⟩=some (.string nm):=hra 1 _ rfl
   have x2:wo.cell? ⟨rb,off+k*4+2,none⟩=some (.string tg):=hra 2 _ rfl
   have x3:wo.cell? ⟨rb,off+k*4+3,none⟩=some (.slice pa ns.length ca):=hra 3 _ rfl
   obtain⟨nl,hnl⟩:∃q,q=ns.length:=⟨_,rfl⟩
   rw[<-hnl]at hdo x3
   have Hdo:=Lib.hid hdo
   clear hdo hcell hra hx hxm hnl Ir
   go_wp2_with fail
   refine Hdo.out.mono ?_
   rintro e w7 ⟨nB',tB',ev,rfl,K7,hres⟩
   clear Hdo
   have y0:w7.cell? ⟨rb,off+k*4,none⟩=some (.int .i64 wh):=(K7.cell (p:=⟨rb,off+k*4,none⟩) hrb (λhP=>absurd (hL.out.base.new rb hP) (by omega))).trans x0
   rcases hres with⟨V',d',n',b',P',Ln',Lt',c,rfl,hcg,hL',hg,hf,hd,h34,hno,hmo⟩|⟨rfl,hf,rfl,rfl,hw,B,S',wv',d',hv,hbl,hcr⟩
   ·have hd':b'.dim=2:=hd.trans hdim
    have hnn:n'<=k+1+1:=by
     by_cases h3:wh=3∨wh=4
     ·rw[(h34 h3).2];omega
     ·rw[hno h3];omega
    have HL':=Lib.hid hL'
    have Hjn':=Lib.hid (hmo Hjn.out)
    have htl:=tell_any c w7 (HG.out.errs.keep hL'.base.keep (λx=>x))
    have Htl:=Lib.hid htl
    have hc14:c≠14:=by rcases hcg with h|h|h|h|h<;>omega
    have hc14b:(c==14)=false:=by simpa using hc14
    clear h34 hno hcg hd hf x0 x1 x2 x3 hg hmo htl hL' hL K7
    go_wp2_with fail
    refine Htl.out.mono ?_
    rintro e w8 ⟨rfl,K8⟩
    have HL8:=Lib.hid (HL'.out.keepN K8)
    clear Htl K8 HL'
    go_wp2_with fail
    exact⟨⟨k+1,nB',tB',Ln',Lt',false,_,by omega,rfl,by go_num,rfl,rfl,rfl,Lib.hid (.inl ⟨rfl,n',P',V',d',b',hnn,hd',Hjn'.out,HL8.out⟩)⟩,by simp[intOf];omega⟩
   ·have hC:=cut_crashSt hL.out (by omega) hdim Hjn.out hw K7 hv hbl hcr
    have HC9:=Lib.hid hC
    have htl:=tell_any 14 w7 (HG.out.errs.keep hC.low (λx=>x))
    have Htl:=Lib.hid htl
    clear htl hC hv hbl hcr hf x0 x1 x2 x3 hL K7
    rw[show errVal 14= .iface 48 (.int .i64 14)from rfl]at Htl⊢
    by_cases hw4:wh=4
    ·subst hw4
     rw[if_pos rfl,if_pos rfl]at HC9
     go_wp2_with fail
     refine Htl.out.mono ?_
     rintro e w8 ⟨rfl,K8⟩
     have HC8:=Lib.hid (HC9.out.keepN K8)
     have y1:w8.cell? ⟨rb,off+k*4,none⟩=some (.int .i64 4):=(K8.cell (p:=⟨rb,off+k*4,none⟩) (Lib.lt_of_cell y0) (λx=>x)).trans y0
     clear Htl K8 HC9 y0
     go_wp2_with fail
     exact⟨⟨k+1,nB',nB',Ln,Ln,true,_,by omega,rfl,by go_num,rfl,rfl,rfl,Lib.hid (.inr ⟨rfl,HC8.out⟩)⟩,by simp[intOf];omega⟩
    ·rw[if_neg hw4,if_neg hw4]at HC9
     have hw4b:(wh==4)=false:=by simpa using hw4
     go_wp2_with fail
     refine Htl.out.mono ?_
     rintro e w8 ⟨rfl,K8⟩
     have HC8:=Lib.hid (HC9.out.keepN K8)
     have y1:w8.cell? ⟨rb,off+k*4,none⟩=some (.int .i64 wh):=(K8.cell (p:=⟨rb,off+k*4,none⟩) (Lib.lt_of_cell y0) (λx=>x)).trans y0
     clear Htl K8 HC9 y0
     go_wp2_with fail
     exact⟨⟨k+1,nB',tB',Ln,Lt,true,_,by omega,rfl,by go_num,rfl,rfl,rfl,Lib.hid (.inr ⟨rfl,HC8.out⟩)⟩,by simp[intOf];omega⟩
  ·obtain rfl:k=m:=by omega
   have j1:¬(k:Int)<k:=by omega
   have HC9:Hid (CrashSt w wo D C cut nB tB Ln Lt):=Lib.hid (by
    rcases hS.out with⟨rfl,n,P,V,d,b,hnk,hdim,hjn,hL⟩|⟨rfl,h⟩
    ·exact hL.crashSt (by omega) hdim hjn
    ·exact h)
   clear hS
   obtain⟨B,S',wv,V,d,n,hn9,hvn,hsN,hsT,hcr⟩:=HC9.out.dev
   obtain⟨q1,hq1,M1⟩:=HC9.out.now
   obtain⟨q2,hq2,M2⟩:=HC9.out.thn
   obtain⟨Vx,nx,bx,hix,hox,hsd,hok,hbd,hjx,hor⟩:=hcr keeps
   obtain⟨BX,hBX⟩:∃b,b=crashTo d.sure d.wait keeps d.wait.length:=⟨_,rfl⟩
   rw[<-hBX]at hix hox
   have hcrash:=crash_vn hvn (.slice pk nk ck) keeps (HKb.out.keep hvn.keep (λ_ _ x=>x)) (by rw[<-Hnk.out];omega) (λh0 g hg hx=>by
    obtain⟨Bk,ok,hke,-,hkl,-⟩:=HKb.out.at h0
    cases hke
    obtain rfl:Bk=g:=Option.some.inj hg
    have:=hvn.own Bk (.inl hx)
    omega)
   rw[<-hBX]at hcrash
   have Hcrash:=Lib.hid hcrash
   have Hix:=Lib.hid hix
   have Hox:=Lib.hid hox
   have Hsd:=Lib.hid hsd
   have Hok:=Lib.hid hok
   have Hjx:=Lib.hid hjx
   have Hor:=Lib.hid hor
   have HM1:=Lib.hid M1
   have HM2:=Lib.hid M2
   have HsN:=Lib.hid hsN
   have HsT:=Lib.hid hsT
   clear hBX hix hox hsd hok hjx hor M1 M2 hsN hsT hcr hcrash hvn
   go_wp2_with fail
   refine Hcrash.out.mono ?_
   rintro e wa ⟨rfl,hva,Ka⟩
   have Hma:=Lib.hid (HM1.out.keep Ka (λhx=>HsN.out (.inl hx)))
   have Hta:=Lib.hid (HM2.out.keep Ka (λhx=>HsT.out (.inl hx)))
   have hop:=open_n (b:=bx) hva.dev hva.keep (λx hx=>hx.elim (λh=>hva.own x (.inl h)) (λh=>hva.own x (.inr (.inr h)))) hva.cnt (by omega) Hix.out.bsz (by decide) HG.out.rounds HG.out.items Hox.out Hix.out.texts Hix.out.t200 Hok.out Hsd.out
   have Hop:=Lib.hid hop
   clear hop hva Ka Hcrash HM1 HM2
   go_wp2_with fail
   refine Hop.out.mono ?_
   rintro e wb ⟨⟨BB2,P2,rfl,hbb,_⟩,Kb⟩
   have Hmb:=Lib.hid (Hma.out.keep Kb (λe=>HsN.out (.inr (.inr e))))
   have Htb:=Lib.hid (Hta.out.keep Kb (λe=>HsT.out (.inr (.inr e))))
   have hbe:openBase bx Vx.texts=⟨bx.dim,bx.now,[]⟩:=by rw[openBase,if_neg Hjx.out]
   rw[hbe,hbd]at hbb
   have hha:=has_n hbb Hmb.out (λp hp=>⟨(HC9.out.numN p hp).1.keep hbb.keep (λ_ _ x=>x),(HC9.out.numN p hp).2⟩) (by have:=HC9.out.lenN;omega)
   have Hha:=Lib.hid hha
   have Hbb:=Lib.hid hbb
   clear hha hbb Kb Hop Hma Hta hbe
   go_wp2_with fail
   refine Hha.out.mono ?_
   rintro e wc ⟨r,rfl,hr,Kc⟩
   have Hbc:=Lib.hid (Hbb.out.keepN Kc)
   have Hmc:=Lib.hid (Hmb.out.keep Kc (λx=>x))
   have Htc:=Lib.hid (Htb.out.keep Kc (λx=>x))
   have Hr:=Lib.hid hr
   clear hr Kc Hha Hbb Hmb Htb
   cases r with
   | true=>
    obtain⟨Q,hQ⟩:∃Q,askB 2 at_ 3=Q:=⟨_,rfl⟩
    have HQ:=Lib.hid hQ
    have hfi:=find2_n Hbc.out rfl (HN.out.keep Hbc.out.keep (λ_ _ x=>x)) (by have:=Hnq.out;omega) 3 ⟨#[]⟩ (by decide) hQ
    have Hfi:=Lib.hid hfi
    clear hfi hQ
    go_wp2_with fail
    refine Hfi.out.mono ?_
    rintro e wd ⟨xv,lk,rfl,hxr,hlk,_,Kd⟩
    have Hbd:=Lib.hid (Hbc.out.keepN Kd)
    have Hxd:=Lib.hid hxr
    have hit:=itemsP_n Hbd.out
    have Hit:=Lib.hid hit
    obtain⟨er,her⟩:∃x,x=errVal (askE Q):=⟨_,rfl⟩
    rw[<-her]
    have Her:=Lib.hid her
    clear hit hxr Kd Hfi her Hbc Hmc Htc
    go_wp2_with fail
    refine Hit.out.mono ?_
    rintro e we ⟨ip,ic,im,li,rfl,g1,g2,g3,g4,g5,g60,Ke⟩
    have Hbe:=Lib.hid (Hbd.out.keepN Ke)
    have Hxe:=Lib.hid (Hxd.out.keep Ke (λ_ _ x=>x))
    have htp:=top2_n ⟨g3.out.1,λx hx=>(g3.out.2.1 x hx).1⟩ (by rw[<-g1.out];exact g60) g5.out g4.out (HN.out.keep Hbe.out.keep (λ_ _ x=>x)) (by have:=Hnq.out;omega) 3 ⟨#[]⟩ HQ.out
    rw[<-Her.out]at htp
    have Htp:=Lib.hid htp
    clear htp Hit g1 g2 g3 g4 g5 g60 Ke Hbd Hxd
    go_wp2_with fail
    refine Htp.out.mono ?_
    rintro e wf ⟨yv,rfl,hyr,Kf⟩
    have Hbf:=Lib.hid (Hbe.out.keepN Kf)
    have Hxf:=Lib.hid (Hxe.out.keep Kf (λ_ _ x=>x))
    have Hyf:=Lib.hid hyr
    have htl:=tell_any (askE Q) wf (HG.out.errs.keep Hbf.out.keep (λx=>x))
    rw[<-Her.out]at htl
    have Htl:=Lib.hid htl
    obtain⟨ez,hez⟩:∃z,z=askE Q:=⟨_,rfl⟩
    rw[<-hez]at Htl
    have Hez:=Lib.hid hez
    clear htl Htp hyr Kf Hbe Hxe hez
    go_wp2_with fail
    refine Htl.out.mono ?_
    rintro e wg ⟨rfl,Kg⟩
    have Hbg:=Lib.hid (Hbf.out.keepN Kg)
    have Hxg:=Lib.hid (Hxf.out.keep Kg (λ_ _ x=>x))
    have Hyg:=Lib.hid (Hyf.out.keep Kg (λ_ _ x=>x))
    have htl:=tell_any (askE Q) wg (HG.out.errs.keep Hbg.out.keep (λx=>x))
    rw[<-Her.out,<-Hez.out]at htl
    have Htl2:=Lib.hid htl
    clear htl Htl Kg Hbf Hxf Hyf
    go_wp2_with fail
    refine Htl2.out.mono ?_
    rintro e wh' ⟨rfl,Kh⟩
    have hlx:=topP_len (itemsG bx.now) at_ 3 ⟨#[]⟩ Q
    have hlx6:(askT Q (topP (itemsG bx.now) at_ 3 ⟨#[]⟩)).length<=1000000:=by
     have:=Hok.out.len
     have hil:(itemsG bx.now).length=bx.now.length:=List.length_map ..
     omega
    have heq:=equalFound_any xv yv _ _ wh' (Hxg.out.keep Kh (λ_ _ x=>x)) (Hyg.out.keep Kh (λ_ _ x=>x)) hlx6 hlx6
    rw[decide_eq_true rfl]at heq
    have HK:=Lib.hid (Hbg.out.keepN Kh).keep
    have Heq:=Lib.hid heq
    clear heq hlx hlx6 Kh Htl2 Hxg Hyg Hbg
    go_wp2_with fail
    refine Heq.out.mono ?_
    rintro e wz ⟨rfl,qz,hqz⟩
    clear Heq
    go_wp2_with fail
    go_ret
    exact⟨by simp,by first|exact HK.out.drewN qz|(rw[hqz];exact HK.out.drewN qz)⟩
   | false=>
    have hct:cut=true∧plainN Lt=bx.now:=Hor.out.elim (λh=>by have:=Hr.out h;cases this) (λh=>h)
    obtain rfl:cut=true:=hct.1
    have hha:=has_n Hbc.out Htc.out (λp hp=>⟨(HC9.out.numT p hp).1.keep Hbc.out.keep (λ_ _ x=>x),(HC9.out.numT p hp).2⟩) (by have:=HC9.out.lenT;omega)
    have Hha:=Lib.hid hha
    clear hha Hmc Htc
    go_wp2_with fail
    refine Hha.out.mono ?_
    rintro e wc2 ⟨r2,rfl,hr2,Kc2⟩
    have hr2:=hr2 hct.2
    subst hr2
    have Hbc2:=Lib.hid (Hbc.out.keepN Kc2)
    clear Hha Kc2 Hbc hct
    obtain⟨Q,hQ⟩:∃Q,askB 2 at_ 3=Q:=⟨_,rfl⟩
    have HQ:=Lib.hid hQ
    have hfi:=find2_n Hbc2.out rfl (HN.out.keep Hbc2.out.keep (λ_ _ x=>x)) (by have:=Hnq.out;omega) 3 ⟨#[]⟩ (by decide) hQ
    have Hfi:=Lib.hid hfi
    clear hfi hQ
    go_wp2_with fail
    refine Hfi.out.mono ?_
    rintro e wd ⟨xv,lk,rfl,hxr,hlk,_,Kd⟩
    have Hbd:=Lib.hid (Hbc2.out.keepN Kd)
    have Hxd:=Lib.hid hxr
    have hit:=itemsP_n Hbd.out
    have Hit:=Lib.hid hit
    obtain⟨er,her⟩:∃x,x=errVal (askE Q):=⟨_,rfl⟩
    rw[<-her]
    have Her:=Lib.hid her
    clear hit hxr Kd Hfi her Hbc2
    go_wp2_with fail
    refine Hit.out.mono ?_
    rintro e we ⟨ip,ic,im,li,rfl,g1,g2,g3,g4,g5,g60,Ke⟩
    have Hbe:=Lib.hid (Hbd.out.keepN Ke)
    have Hxe:=Lib.hid (Hxd.out.keep Ke (λ_ _ x=>x))
    have htp:=top2_n ⟨g3.out.1,λx hx=>(g3.out.2.1 x hx).1⟩ (by rw[<-g1.out];exact g60) g5.out g4.out (HN.out.keep Hbe.out.keep (λ_ _ x=>x)) (by have:=Hnq.out;omega) 3 ⟨#[]⟩ HQ.out
    rw[<-Her.out]at htp
    have Htp:=Lib.hid htp
    clear htp Hit g1 g2 g3 g4 g5 g60 Ke Hbd Hxd
    go_wp2_with fail
    refine Htp.out.mono ?_
    rintro e wf ⟨yv,rfl,hyr,Kf⟩
    have Hbf:=Lib.hid (Hbe.out.keepN Kf)
    have Hxf:=Lib.hid (Hxe.out.keep Kf (λ_ _ x=>x))
    have Hyf:=Lib.hid hyr
    have htl:=tell_any (askE Q) wf (HG.out.errs.keep Hbf.out.keep (λx=>x))
    rw[<-Her.out]at htl
    have Htl:=Lib.hid htl
    obtain⟨ez,hez⟩:∃z,z=askE Q:=⟨_,rfl⟩
    rw[<-hez]at Htl
    have Hez:=Lib.hid hez
    clear htl Htp hyr Kf Hbe Hxe hez
    go_wp2_with fail
    refine Htl.out.mono ?_
    rintro e wg ⟨rfl,Kg⟩
    have Hbg:=Lib.hid (Hbf.out.keepN Kg)
    have Hxg:=Lib.hid (Hxf.out.keep Kg (λ_ _ x=>x))
    have Hyg:=Lib.hid (Hyf.out.keep Kg (λ_ _ x=>x))
    have htl:=tell_any (askE Q) wg (HG.out.errs.keep Hbg.out.keep (λx=>x))
    rw[<-Her.out,<-Hez.out]at htl
    have Htl2:=Lib.hid htl
    clear htl Htl Kg Hbf Hxf Hyf
    go_wp2_with fail
    refine Htl2.out.mono ?_
    rintro e wh' ⟨rfl,Kh⟩
    have hlx:=topP_len (itemsG bx.now) at_ 3 ⟨#[]⟩ Q
    have hlx6:(askT Q (topP (itemsG bx.now) at_ 3 ⟨#[]⟩)).length<=1000000:=by
     have:=Hok.out.len
     have hil:(itemsG bx.now).length=bx.now.length:=List.length_map ..
     omega
    have heq:=equalFound_any xv yv _ _ wh' (Hxg.out.keep Kh (λ_ _ x=>x)) (Hyg.out.keep Kh (λ_ _ x=>x)) hlx6 hlx6
    rw[decide_eq_true rfl]at heq
    have HK:=Lib.hid (Hbg.out.keepN Kh).keep
    have Heq:=Lib.hid heq
    clear heq hlx hlx6 Kh Htl2 Hxg Hyg Hbg
    go_wp2_with fail
    refine Heq.out.mono ?_
    rintro e wz ⟨rfl,qz,hqz⟩
    clear Heq
    go_wp2_with fail
    go_ret
    exact⟨by simp,by first|exact HK.out.drewN qz|(rw[hqz];exact HK.out.drewN qz)⟩
end Go.Proofs.YtkjjpcebjcaadaaGreatDoor
