import Derived.Test.YtnmhgehpddipdaaGreatDoorYAD
import Derived.Test.YtnmhgehpddipdaaGreatDoorYAF
import Derived.Test.YtnmhgehpddipdaaGreatDoorYAH
import Derived.Test.YtnmhgehpddipdaaGreatDoorYAI
import Derived.Test.YtnmhgehpddipdaaGreatDoorYAK
import Derived.Test.YtnmhgehpddipdaaGreatDoorYAX
import Derived.Test.YtnmhgehpddipdaaGreatDoorYBB
import Derived.Test.YtnmhgehpddipdaaGreatDoorYBE
import Derived.Test.YtnmhgehpddipdaaGreatDoorYBH
import Derived.Test.YtnmhgehpddipdaaGreatDoorYBJ
import Derived.Test.YtnmhgehpddipdaaGreatDoorYBK
import Derived.Test.YtnmhgehpddipdaaGreatDoorYBN
import Derived.Test.YtnmhgehpddipdaaGreatDoorYBO
import Derived.Test.YtnmhgehpddipdaaGreatDoorYBP
import Derived.WalkLawsBesides
import Derived.Defers
import Derived.Recover
set_option linter.unusedSimpArgs false
set_option linter.unusedVariables false
namespace Go.Cof
open Go.RowKit Go.Proofs.YtnmhgehpddipdaaGreatDoor
theorem vb_other{w0 w:World}{B D C S:Nat}{wv:Value}{V:VaultV}{d:DevV}{n:Int}(h:VN w0 w B D C S wv V d n):OtherB w (VB B D C S wv):=by
 rintro b c t f (hs|rfl|rfl) hh
 ·obtain⟨c',t',f',h1,h2⟩:=devB_row h.dev b hs
  rw[two_types hh h1]
  rcases h2 with h2|h2|h2<;>rw[h2]<;>exact⟨by decide,by decide,by decide,by decide,by decide⟩
 ·rw[two_types hh h.vault.row]
  exact⟨by decide,by decide,by decide,by decide,by decide⟩
 ·rw[two_types hh h.cnt]
  exact⟨by decide,by decide,by decide,by decide,by decide⟩
theorem vb_map{w0 w:World}{B D C S:Nat}{wv:Value}{V:VaultV}{d:DevV}{n:Int}(h:VN w0 w B D C S wv V d n){mb nm:Nat}{L:List SEnt}(hm:SMapIs w mb nm L):¬VB B D C S wv mb:=by
 rintro(hs|rfl|rfl)
 ·obtain⟨c',t',f',h1,h2⟩:=devB_row h.dev mb hs
  exact hm.row_ne h1 rfl
 ·exact hm.row_ne h.vault.row rfl
 ·exact hm.row_ne h.cnt rfl
theorem vb_row{w0 w:World}{B D C S:Nat}{wv:Value}{V:VaultV}{d:DevV}{n:Int}(h:VN w0 w B D C S wv V d n){b:Nat}{c:Array Value}{f:Nat×Nat}(hb:w.heap[b]? =some (.cells c 85 f)):¬VB B D C S wv b:=by
 rintro(hs|rfl|rfl)
 ·obtain⟨c',t',f',h1,h2⟩:=devB_row h.dev b hs
  have:=two_types hb h1
  rw[<-this]at h2
  rcases h2 with h2|h2|h2<;>exact absurd h2 (by decide)
 ·exact absurd (two_types hb h.vault.row) (by decide)
 ·exact absurd (two_types hb h.cnt) (by decide)
end Go.Cof
namespace Go.Proofs.YtnmhgehpddipdaaGreatDoor
open Go.RowKit Go.Cof
set_option maxRecDepth 100000
section
variable {w:World}{BB B dim mb wb CC nm nw:Nat}{L:List NowE}{W:List WaitE}
theorem baseCount_any{D C:Nat}{V:VaultV}(hB:BaseRow w BB B dim mb wb CC)(hV:VaultAt w B D C V):
  Calls Tryz.prog 186 #[.pointer (some ⟨BB,0,none⟩)] w λe w'=>e= .returned (.int .i64 V.now.count)∧Keep NoB w w':=by
 have b0:=hB.cell0
 have hc:=vaultCount_any hV
 have Hc:=Lib.hid hc
 clear hc
 go_enter Tryz.func186,Tryz.ntmps186
 go_wp2_with fail
 refine Hc.out.mono ?_
 rintro e w1 ⟨rfl,hw1⟩
 subst w1
 go_wp2_with fail
 go_ret
 exact⟨rfl,Keep.refl _ _⟩
end
end Go.Proofs.YtnmhgehpddipdaaGreatDoor
namespace Go.Cof
open Go.RowKit Go.Proofs.YtnmhgehpddipdaaGreatDoor
theorem plain_items(L:List NowE):itemsG (plainN L)=L.map (λp=>plainI p.2):=by
 unfold itemsG plainN mapG
 rw[List.map_map]
 rfl
end Go.Cof
namespace Go.Proofs.YtnmhgehpddipdaaGreatDoor
open Go.RowKit Go.Cof
def CommitSaid(w0 w w':World)(BB B D C S dim:Nat)(wv:Value)(secret:ByteArray)(V:VaultV)(d:DevV)(n:Nat)(L:List NowE)(nm:Nat)(W:List (Nat×ByteArray))(e:Ending):Prop:=
 ∃wv' d',Moved w wv wv'∧((e= .returned .nilIface∧VN w0 w' B D C S wv' (nextV V V.now.epoch W) d' ((n+1:Nat):Int)∧InvV secret (nextV V V.now.epoch W) d'.sure (n+1)∧d'.wait= []∧(d.fuse<0->d'.fuse=d.fuse)∧(∃mb' wb' CC' nm',w.heap.size<=mb'∧w.heap.size<=wb'∧nm'<=nm∧BaseRow w' BB B dim mb' wb' CC'∧BaseR w' mb' wb' nm' 0 L []∧BaseC w' CC' dim L))∨
  (e= .returned (errVal 14)∧VN w0 w' B D C S wv' (dieV V) d' n∧0<=d.fuse∧∀keeps,InvV secret V (crashTo d'.sure d'.wait keeps d'.wait.length) n∨InvV secret (nextV V V.now.epoch W) (crashTo d'.sure d'.wait keeps d'.wait.length) (n+1)))
set_option maxRecDepth 100000
set_option maxHeartbeats 8000000 in
theorem baseCommit_any{w0 w:World}{BB B D C S dim mb wb CC nm nw:Nat}{wv:Value}{V:VaultV}{d:DevV}{n:Nat}{secret:ByteArray}{L:List NowE}{W:List WaitE}
  (hB:BaseRow w BB B dim mb wb CC) (hR:BaseR w mb wb nm nw L W) (hv:VN w0 w B D C S wv V d n) (hBB:w0.heap.size<=BB) (hi:InvV secret V d.sure n) (hw:d.wait= []) (hn:n<1000) (hsec:secret.size<=1000) (RV:RoundsVar w0) (PV:PowVar w0)
  (hs:ShapeL (nextG L (waitI W))) (hp:printOk dim ((nextG L (waitI W)).map (λp=>plainI p.2))=true) (hsm:nm+nw<1000000):
  Calls Tryz.prog 13 #[.pointer (some ⟨BB,0,none⟩)] w λe w'=>
   CommitSaid w0 w w' BB B D C S dim wv secret V d n (nextG L (waitI W)) (nm+nw) (pagesOf (pagesM (pagesT ⟨(printT dim ((nextG L (waitI W)).map (λp=>plainI p.2))).toArray⟩) 32) (otherE V)) e∧Keep (λb=>VB B D C S wv b∨b=BB) w w':=by
 obtain⟨NX,hNX⟩:∃N,N=nextG L (waitI W):=⟨_,rfl⟩
 have hnn:=next_nums hR
 have hnx:=baseNextM_any hB hR hsm
 rw[<-hNX]at hs hp hnn hnx⊢
 have HNX:=Lib.hid hNX
 clear hNX
 obtain⟨S',hS'⟩:∃s:ByteArray,s=⟨(printT dim (NX.map (λp=>plainI p.2))).toArray⟩:=⟨_,rfl⟩
 rw[<-hS']
 have HS:=Lib.hid hS'
 clear hS'
 have hdim:1<=dim∧dim<=8:=by
  simp only[printOk,Bool.and_eq_true,decide_eq_true_eq]at hp
  omega
 have hd0:((dim:Nat):Int)≠0:=by omega
 have b1:=hB.cell1
 have hlt:=hB.lt
 have hfew:=hs.few
 have Hnx:=Lib.hid hnx
 clear hnx
 go_enter Tryz.func13,Tryz.ntmps13
 go_wp2_with fail
 refine Hnx.out.mono ?_
 rintro e w1 ⟨na,hna,rfl,hA,K1⟩
 obtain⟨nb,hnb⟩:∃b,b=w.heap.size:=⟨_,rfl⟩
 rw[<-hnb]at hA⊢
 have Hnb:=Lib.hid hnb
 have HK1:=Lib.hid K1
 have hkeys:=(callsIn_wide (n:=5)).1 (keysItem_any (some nb) w1)
 have hsort:=(callsIn_wide (n:=5)).1 (sortedKeys_any hA (by rw[mapG,List.length_map];omega))
 have Hkeys:=Lib.hid hkeys
 have Hsort:=Lib.hid hsort
 have b11:=(hB.keepN K1).cell1
 clear hkeys hsort hnb K1 Hnx
 go_wp2_with fail
 refine Hkeys.out.mono ?_
 rintro e w' ⟨rfl,rfl⟩
 go_wp2_with fail
 refine Hsort.out.mono ?_
 rintro e w2 ⟨v,ss,rfl,hS,hrow,hnil,hb⟩
 have hr:=hA.rising
 have hss:ss.length=((mapG aggI NX).map (·.1)).length:=by rw[hS.length_eq,strKeys_enc,names_len]
 rw[sorted_names hr hS,names_cells,hss,names_of]at hrow
 have own:=OwnsN.of hrow
 have hst:Strs w2 v (NX.map (·.1)):=strs_ofN own
 have K2:Keep NoB w w2:=(HK1.out.alloc (.cells #[.map (some nb)] 81)).thenN ⟨hb.os,hb.tape,hb.output,hb.size,λi hi _=>hb.block i hi⟩
 have K12:Keep NoB w1 w2:=((Keep.refl NoB w1).alloc (.cells #[.map (some nb)] 81)).thenN ⟨hb.os,hb.tape,hb.output,hb.size,λi hi _=>hb.block i hi⟩
 obtain⟨N,hN⟩:∃N,N=NX.map (·.1):=⟨_,rfl⟩
 rw[<-hN]at hst own
 obtain⟨p,c,rfl⟩:=hst.len
 obtain⟨m,hm⟩:∃m,m=N.length:=⟨_,rfl⟩
 have hmL:m=NX.length:=by rw[hm,hN,List.length_map]
 rw[<-hm]at hst⊢
 have HN:=Lib.hid hN
 have Hm:=Lib.hid hm
 have HmL:=Lib.hid hmL
 have Hst:=Lib.hid hst
 have HA:=Lib.hid (hA.keep K12 (λx=>x))
 have HK2:=Lib.hid K2
 obtain⟨i0,hi0,hz0,hs0,hb0⟩:=item_info
 clear hN hrow hnil hS hss hm hmL own hst hb hr K2 K12 Hkeys Hsort hA b1 b11
 go_wp2_with fail
 have Hnn:=Lib.hid hnn
 clear hnn
 go_loopw [4,25] (λlv iv wr=>∃(k:Nat) (o:Value),k<=m∧iv= .int .i64 k∧o=lv∧Hid (OwnsN wr w2.heap.size 47 3 o k (((NX.take k).map (·.2)).flatMap encItem))∧Hid (Keep NoB w2 wr)) (λ_ iv _=>m-(intOf iv).toNat)
 case atStart=>exact⟨0,_,by omega,rfl,rfl,Lib.hid (by rw[List.take_zero];exact OwnsN.nil _ _ _ _),Lib.hid (Keep.refl _ _)⟩
 case round=>
  obtain⟨k,o,hk,rfl,rfl,hO,K⟩:=hrel
  obtain⟨wo,rfl⟩:∃wo,wo=wr:=⟨_,rfl⟩
  by_cases hlt:k<m
  ·have j1:(k:Int)<m:=by omega
   have Tr:=Hst.out.keep K.out (λ_ _ x=>x)
   obtain⟨b,off,rfl,-,hb,hcell⟩:=Tr.at (by rw[<-Hm.out];omega)
   have hck:=hcell k (by rw[<-Hm.out];exact hlt)
   obtain⟨q,hq⟩:∃q,NX[k]? =some q:=⟨_,List.getElem?_eq_getElem (by have:=HmL.out;omega)⟩
   have hqm:q∈NX:=List.mem_of_getElem? hq
   have hnk:N.getD k ⟨#[]⟩=q.1:=by rw[HN.out,List.getD_eq_getElem?_getD,List.getElem?_map,hq];rfl
   rw[hnk]at hck
   have hAo:=HA.out.keep K.out (λx=>x)
   have hget:getS (mapG aggI NX) q.1=some (aggI q.2):=getS_mem hAo.pairs (List.mem_map.2 ⟨q,hqm,rfl⟩)
   have hq2:=(Hnn.out q hqm).1.len
   have hnms0:=hs.name q hqm
   have htk:(NX.take (k+1)).map (·.2)=(NX.take k).map (·.2)++ [q.2]:=by
    have h1:=List.getElem?_eq_some_iff.1 hq
    rw[List.take_succ_eq_append_getElem h1.1,h1.2,List.map_append]
    rfl
   obtain⟨nm,x⟩:=q
   simp only at hck hget hq2 hnms0 htk
   have hnms:nm.size<=maxLen:=by unfold maxLen;omega
   have hlk:=hAo.look Tryz.underlying81 nm hnms (Tryz.zeroValue47 wo)
   rw[hget,Option.getD_some]at hlk
   obtain⟨xn,xt,xa,xs⟩:=x
   obtain⟨pa,ca,hpa⟩:=hq2
   simp only at hpa
   subst hpa
   simp only[aggI,encItem]at hlk
   obtain⟨nl,hnl⟩:∃m,m=xs.length:=⟨_,rfl⟩
   have hxe:encItem ⟨xn,xt,.slice pa xs.length ca,xs⟩= [.string xn,.string xt,.slice pa nl ca]:=by rw[hnl];rfl
   rw[<-hnl]at hlk
   have hk1000:k<1000:=by have:=HmL.out;omega
   have Htk:=Lib.hid htk
   have Hxe:=Lib.hid hxe
   have HK:=Lib.hid K.out
   clear htk hxe hnl hq hqm hnk hget hAo Tr hcell
   go_wp2_with (at_builtin;refine wpList_append_n _ rfl _ _ 48 rfl w2.heap.size 47 i0 _ 3 56 Tryz.underlying48 hi0 hz0 hs0 hb0 rfl (by decide) o _ _ rfl (hO.out.alloc _) ⟨wo.heap.size,0,none⟩ 1 1 [.string xn,.string xt,.slice pa nl ca] rfl rfl (cells_new _ _ _) (encItem_one3 xn xt pa nl ca) (by unfold maxLen;omega) (by omega) (by have:=HK.out.size;simp;omega) ?_;intro v' w' own' hgrow)
   have KN:Keep NoB w2 w':=(HK.out.alloc (.cells #[.string xn,.string xt,.slice pa nl ca] 47)).grown hgrow (λb hb=> .inr (hO.out.lt b hb).1)
   refine⟨⟨k+1,v',by omega,by go_num,rfl,Lib.hid ?_,Lib.hid KN⟩,by simp[intOf];omega⟩
   rw[Htk.out,List.flatMap_append]
   have e: [(⟨xn,xt,.slice pa xs.length ca,xs⟩:ItemV)].flatMap encItem= [.string xn,.string xt,.slice pa nl ca]:=by rw[List.flatMap_cons,List.flatMap_nil,List.append_nil,Hxe.out]
   rw[e]
   exact own'
  ·obtain⟨q,hq⟩:∃q,q=m:=⟨_,rfl⟩
   obtain rfl:k=m:=by omega
   have j1:¬(k:Int)<k:=by omega
   have hOo:=hO.out
   have hN:NX.take k=NX:=List.take_of_length_le (by rw[<-HmL.out];exact Nat.le_refl _)
   rw[hN]at hOo
   obtain⟨IL,hIL⟩:∃l,l=NX.map (·.2):=⟨_,rfl⟩
   have hILp:IL.map plainI=NX.map (λp=>plainI p.2):=by rw[hIL,List.map_map];rfl
   have hILl:IL.length=k:=by rw[hIL,List.length_map];exact HmL.out.symm
   rw[<-hIL]at hOo
   have KWo:=HK2.out.thenN K.out
   have KWo1:Keep NoB w wo:=KWo
   have hit:Items wo o IL:=⟨RowsK.ofN encItem_len (by rw[hILl];exact hOo),λx hx=>by
    rw[hIL]at hx
    obtain⟨p,hp,rfl⟩:=List.mem_map.1 hx
    exact(Hnn.out p hp).1.keep KWo (λ_ _ x=>x)⟩
   obtain⟨po,co,rfl⟩:=hit.rows.len
   have hpr:=print_any dim (.slice po IL.length co) IL wo hit (by rw[hILl];unfold maxLen;have:=HmL.out;omega) (λx hx=>by
    rw[hIL]at hx
    obtain⟨p,hp,rfl⟩:=List.mem_map.1 hx
    have:=hs.le p hp
    omega) (PV.keep (hv.keep.thenN KWo) (λx=>x))
   have e1:printS dim IL=S':=by rw[printS,hILp,if_pos hp,HS.out]
   have e2:printE dim IL= .nilIface:=by rw[printE,hILp,if_pos hp]
   rw[e1,e2]at hpr
   have hsz:S'.size<=6400:=by rw[HS.out];exact printB_len hp
   have b1:=(hB.keepN KWo).cell1
   rw[hILl]at hpr⊢
   have HILl:=Lib.hid hILl
   have Hpr:=Lib.hid hpr
   have HKWo:=Lib.hid KWo
   have HB:=Lib.hid hB
   have HR:=Lib.hid hR
   have HV:=Lib.hid hv
   have HA2:=Lib.hid (HA.out.keep K.out (λx=>x))
   clear hpr hILl e1 e2 hit hOo hO K hN hq KWo KWo1 hIL hILp hB hR hv
   go_upto_region 10 with(fail)
   clear j1
   go_wp2_with fail
   refine Hpr.out.mono ?_
   rintro e w3 ⟨rfl,K3⟩
   have HKW3:=Lib.hid (HKWo.out.thenN K3)
   have HA3:=Lib.hid (HA2.out.keep K3 (λx=>x))
   clear Hpr b1 K3
   have hmm:= @run_makeMap Tryz.prog
   go_upto_region 14 with(fail)
   clear hmm
   obtain⟨ms,hms⟩:∃b,b=w3.heap.size:=⟨_,rfl⟩
   obtain⟨w4,hw4⟩:∃w4,w4=w3.alloc (Obj.map #[] 0):=⟨_,rfl⟩
   have m0:MapIs w4 ms 0 (pagesM (pagesT S') 0):=by rw[hw4,hms];exact World.ownsMap_made _ _ _ _
   have K4:Keep NoB w3 w4:=by rw[hw4];exact(Keep.refl _ _).alloc _
   rw[<-hw4,<-hms]
   have Hms:=Lib.hid hms
   have HK4:=Lib.hid K4
   obtain⟨s0,hs0e⟩:∃s,s=leftB S' 0:=⟨_,rfl⟩
   have hs00:S'=s0:=by rw[hs0e,leftB_zero]
   have Hsz:=Lib.hid hsz
   have Hs0:=Lib.hid hs0e
   clear hms hw4 K4 hs0e hsz
   go_upto_region 15 with(fail)
   rw[hs00]
   have Hs00:=Lib.hid hs00
   clear hs00
   go_loopw [7,49] (λsv iv wr=>∃(j:Nat) (s:ByteArray),j<=32∧iv= .int .i64 j∧sv= .string s∧Hid (s=leftB S' j)∧Hid (MapIs wr ms j (pagesM (pagesT S') j))∧Hid (Keep NoB w3 wr)) (λ_ iv _=>32-(intOf iv).toNat)
   case atStart=>exact⟨0,s0,by omega,rfl,rfl,Hs0,Lib.hid m0,HK4⟩
   case round=>
    obtain⟨j,s,hj,rfl,rfl,hse,hmr,KR⟩:=hrel
    obtain⟨wp,rfl⟩:∃wp,wp=wr:=⟨_,rfl⟩
    by_cases hj32:j<32
    ·have j2:(j:Int)<32:=by omega
     have hs6:s.size<=6400:=by rw[hse.out,leftB_size];have:=Hsz.out;omega
     obtain⟨nn,hnn⟩:∃nn,nn=min s.size 200:=⟨_,rfl⟩
     have hmin:min (s.size:Int) 200=(nn:Int):=by omega
     have hcut:=leftB_cut S' j
     rw[<-hse.out,<-hnn]at hcut
     have hnle:nn<=s.size:=by omega
     have hch:=chunkB_size S' j
     have hget:(pagesT S').getD j ⟨#[]⟩=chunkB S' j:=by rw[pagesT,List.getD_eq_getElem?_getD,List.getElem?_map,List.getElem?_range hj32];rfl
     obtain⟨ck,hck⟩:∃c,c=chunkB S' j:=⟨_,rfl⟩
     rw[<-hck]at hcut hch hget
     obtain⟨sn,hsn⟩:∃c,c=leftB S' (j+1):=⟨_,rfl⟩
     rw[<-hsn]at hcut
     have hsl1:∀W:World,(Instr.slice 9 (.string s) none (some (.int .i64 nn)) none).run Tryz.prog W= .ok (.string ck) W:=λW=>by
      rw[run_slice_string_h (ht:=Tryz.underlying9) (h0:=by omega) (h2:=by omega),Int.toNat_natCast,hcut.1]
     have hsl2:∀W:World,(Instr.slice 9 (.string s) (some (.int .i64 nn)) none none).run Tryz.prog W= .ok (.string sn) W:=λW=>by
      rw[run_slice_string_l (ht:=Tryz.underlying9) (h0:=by omega) (h1:=by omega),Int.toNat_natCast,hcut.2]
     have KD:Keep NoB wp wp.drew:=(Keep.refl NoB wp).drew
     have hmo:MapIs wp.drew ms j (pagesM (pagesT S') j):=World.ownsMap.kept hmr.out (keep_grown KD none) (by simp)
     obtain⟨v0,w5,st,w6,hme,hes,hm6,hg6⟩:=MapIs.entry hmo (by unfold maxLen;omega) j (by omega) ck (by unfold maxLen;omega)
     rw[<-hget,pagesM_put]at hm6
     have Hm6:=Lib.hid hm6
     have HK6:=Lib.hid ((KR.out.thenN KD).grown hg6 (λq hq=> .inr (by have h1:=Option.some.inj hq;have:=Hms.out;omega)))
     have Hsn:=Lib.hid hsn
     clear hm6 hg6 hmo KD hget hch hcut hck hsn hnn hs6 hnle
     go_upto_region 18 with(fail)
     refine wp_region_mix (λ_=>True) [(true,0),(true,1),(true,2),(true,3),(true,4),(true,5),(true,6),(true,7),(false,8),(true,9),(false,10),(false,11)] (by kernel_rfl) (by kernel_rfl) (λc a d v w h=>by cases d<;>exact h) ?_
     simp only[wpMixC,pickL,List.getElem?_toArray,List.getElem?_cons_succ,List.getElem?_cons_zero]
     repeat(refine wpEarlyC_step (λK hK=> ?_);go_simp;first|(refine⟨_,λ_=>rfl,hK _ ?_⟩;clear hK K;refine wpEarlyC_nil ?_)|(refine hK _ ?_;clear hK K;refine wpEarlyC_nil ?_))
     refine⟨trivial,?_⟩
     go_wp2_with fail
     repeat(refine wpEarlyC_step (λK hK=> ?_);go_simp;first|(refine⟨_,λ_=>rfl,hK _ ?_⟩;clear hK K;refine wpEarlyC_nil ?_)|(refine hK _ ?_;clear hK K;refine wpEarlyC_nil ?_))
     refine⟨trivial,?_⟩
     go_wp2_with fail
     refine⟨trivial,?_⟩
     go_wp2_with fail
     refine⟨⟨j+1,sn,by omega,by go_num,rfl,Hsn,Hm6,HK6⟩,by simp[intOf];omega⟩
    ·obtain⟨q,hq⟩:∃q:Nat,q=32:=⟨_,rfl⟩
     obtain rfl:j=q:=by omega
     have j2:¬(j:Int)<32:=by omega
     have hm32:=hmr.out
     rw[hq]at hm32
     have KWp:=HKW3.out.thenN KR.out
     have hvp:=HV.out.keepN KWp
     have hBp:=HB.out.keepN KWp
     have b0:=hBp.cell0
     have htell:=tell_vn hvp rfl hi hw hn hsec RV hm32 (by omega) (pagesM_good (λs hs=>by
      obtain⟨i,_,rfl⟩:=List.mem_map.1 hs
      exact chunkB_size S' i) (by simp[pagesT]))
     have Htell:=Lib.hid htell
     have HKWp:=Lib.hid KWp
     have HAp:=Lib.hid (HA3.out.keep KR.out (λx=>x))
     clear htell hm32 hmr hq hvp KWp m0
     go_upto_region 20 with(fail)
     clear j2
     go_wp2_with fail
     refine Htell.out.mono ?_
     rintro e w7 ⟨⟨wv',d',hmv,hres⟩,K7⟩
     have hmv':Moved w wv wv':=hmv.imp (λh=>h) (λh b hb=>Nat.le_trans HKWp.out.size (h b hb))
     have Hmv:=Lib.hid hmv'
     have HK7:=Lib.hid K7
     have hBv:=vb_row HV.out HB.out
     have HBv:=Lib.hid hBv
     have HBp:=Lib.hid hBp
     clear hmv hmv' Htell b0 hBv hBp
     rcases hres with⟨he,hvn,hinv,hsure,hwait,hfuse⟩|⟨he,hvn,hf0,hcr⟩
     ·subst he
      have B7:=HBp.out.keep HK7.out HBv.out
      have hlt7:=B7.lt
      have b2:=B7.cell2
      have f2:=B7.free 2
      have B8:=B7.set2 nb
      have K8:Keep (OneB BB) w7 (w7.setCell ⟨BB,2,none⟩ (.map (some nb))):=(Keep.refl _ _).set1 2 _
      obtain⟨w8,hw8⟩:∃w8,w8=w7.setCell ⟨BB,2,none⟩ (.map (some nb)):=⟨_,rfl⟩
      rw[<-hw8]at B8 K8
      have hVO:=vb_other (HV.out.keepN HKWp.out)
      have A7:=HAp.out.keep HK7.out (vb_map (HV.out.keepN HKWp.out) HAp.out)
      have A8:=A7.keep K8 (λe=>A7.row_ne B7 e)
      have N8:∀p∈NX,NumsR w8 p.2:=λp hp=>((((Hnn.out p hp).keep HKWp.out (λ_ _ _ _ h=>h.elim)).keep HK7.out (λb c t f h hh=>(hVO b c t f h hh).int)).keep K8 (λb c t f h hh=>(B7.other b c t f h hh).int))
      have hund:=baseUndo_any B8
      have Hw8:=Lib.hid hw8
      have HK8:=Lib.hid K8
      have HA8:=Lib.hid A8
      have HN8:=Lib.hid N8
      have HB8:=Lib.hid B8
      have HB7:=Lib.hid B7
      have Hund:=Lib.hid hund
      have Hvn:=Lib.hid hvn
      have Hinv:=Lib.hid hinv
      have Hw':=Lib.hid hwait
      have Hfu:=Lib.hid hfuse
      clear hw8 K8 A7 A8 N8 hVO hund hvn hinv hsure hwait hfuse B8 B7
      go_upto_region 24 with(fail)
      rw[<-Hw8.out]
      clear b2 f2
      go_wp2_with fail
      refine Hund.out.mono ?_
      rintro e w9 ⟨rfl,B9,M9,K9⟩
      have N9:∀p∈NX,NumsR w9 p.2:=λp hp=>(HN8.out p hp).keep K9 (λb c t f h hh=>(HB8.out.other b c t f h hh).int)
      have A9:=HA8.out.keep K9 (λe=>HA8.out.row_ne HB8.out e)
      have hidx:=baseIndex_any B9 A9 N9 hs
      have HB9:=Lib.hid B9
      have HM9:=Lib.hid M9
      have HK9:=Lib.hid K9
      have HA9:=Lib.hid A9
      have HN9:=Lib.hid N9
      have Hidx:=Lib.hid hidx
      clear B9 M9 K9 A9 N9 hidx Hund
      go_wp2_with fail
      refine Hidx.out.mono ?_
      rintro e wz ⟨rfl,hC,Kz⟩
      obtain⟨C',BZ,CZ⟩:=hC
      have HBZ:=Lib.hid BZ
      have HCZ:=Lib.hid CZ
      have HKz:=Lib.hid Kz
      clear BZ CZ Kz Hidx
      go_wp2_with fail
      go_ret
      have KB:Keep (OneB BB) w7 wz:=(HK8.out.then HK9.out).then HKz.out
      have hsz78:w7.heap.size<=w8.heap.size:=HK8.out.size
      have hlt:BB<w.heap.size:=HB.out.lt
      have hwsz:w.heap.size<=w7.heap.size:=Nat.le_trans HKWp.out.size HK7.out.size
      have hvz:VN w0 wz B D C S wv' (nextV V V.now.epoch (pagesOf (pagesM (pagesT S') 32) (otherE V))) d' ((n+1:Nat):Int):=Hvn.out.out KB (λb hb e=>by
       have h1:b=BB:=e
       subst h1
       exact vb_row Hvn.out HB7.out hb) (λb hb e=>by have h1:b=BB:=e;omega)
      have hAz:=HA9.out.keep HKz.out (λe=>HA9.out.row_ne HB9.out e)
      have hMz:=HM9.out.keep HKz.out (λe=>HM9.out.row_ne HB9.out e)
      have hNz:∀p∈NX,NumsR wz p.2:=λp hp=>(HN9.out p hp).keep HKz.out (λb c t f h hh=>(HB9.out.other b c t f h hh).int)
      have hnbw:nb<w8.heap.size:=HA8.out.lt
      refine⟨⟨wv',d',Hmv.out,.inl ⟨rfl,hvz,Hinv.out,Hw'.out,Hfu.out,nb,w8.heap.size,C',na,by rw[Hnb.out];exact Nat.le_refl _,Nat.le_trans hwsz hsz78,hna,HBZ.out,⟨hAz,hMz,by omega,hNz,(λp hp=>by cases hp)⟩,HCZ.out⟩⟩,?_⟩
      refine((HKWp.out.ofN).trans (HK7.out.mono (S':=λb=>VB B D C S wv b∨b=BB) (λi hi h=> .inl h)) (λi hi h=>h)).trans (KB.mono (S':=λb=>VB B D C S wv b∨b=BB) (λi hi h=> .inr h)) (λi hi h=>h)
     ·have he':e= .returned (.iface 40 (.int .i64 14)):=he
      subst he'
      have Hvn:=Lib.hid hvn
      have Hcr:=Lib.hid hcr
      have HK7:=Lib.hid K7
      clear he hvn hcr K7
      go_wp2_with fail
      go_ret
      refine⟨⟨wv',d',Hmv.out,.inr ⟨rfl,Hvn.out,hf0,Hcr.out⟩⟩,(HKWp.out.ofN).trans HK7.out (λi hi h=> .inl h)⟩
end Go.Proofs.YtnmhgehpddipdaaGreatDoor
namespace Go.Cof
open Go.RowKit Go.Proofs.YtnmhgehpddipdaaGreatDoor
def nowOf(L:List ItemV):List NowE:=L.map λx=>(x.name,x)
theorem bytes_of_lt(a b:List UInt8)(h:a<b):bytesBefore a b=true:=by
 cases hb:bytesBefore a b with
 | true=>rfl
 | false=>
  exfalso
  by_cases e:a=b
  ·subst e
   exact List.lt_irrefl _ h
  ·exact List.lt_asymm h (lt_of_bytes _ _ (bytes_total a b e hb))
theorem rises_pair:∀ {l:List PItem},risesB l=true->l.Pairwise λx y=>blB x.1 y.1=true
 | [],_=>List.Pairwise.nil
 | [x],_=>List.pairwise_singleton ..
 | x::y::l,h=>by
  rw[risesB,Bool.and_eq_true]at h
  have ih:=rises_pair h.2
  have h1:blB x.1 y.1=true:=bytes_of_lt _ _ (of_decide_eq_true h.1)
  refine List.pairwise_cons.2 ⟨λz hz=> ?_,ih⟩
  rcases List.mem_cons.1 hz with rfl|hz
  ·exact h1
  ·exact bytes_trans _ _ _ h1 ((List.pairwise_cons.1 ih).1 z hz)
theorem nowOf_rises{L:List ItemV}(h:risesB (L.map plainI)=true):RisesG (nowOf L):=by
 have h1:=rises_pair h
 rw[List.pairwise_map]at h1
 unfold RisesG nowOf
 rw[List.pairwise_map]
 exact h1
theorem putG_last{α:Type}{A:List (ByteArray×α)}{k:ByteArray}{v:α}(h:RisesG (A++ [(k,v)])):putG A k v=A++ [(k,v)]:=by
 have hA:RisesG A:=(List.pairwise_append.1 h).1
 have hk:∀p∈A,p.1≠k:=λp hp=>blB_ne ((List.pairwise_append.1 h).2.2 p hp _ (List.mem_singleton.2 rfl))
 refine risesG_ext (putG_rising hA k v) h λj=> ?_
 rw[getG_put]
 unfold getG
 rw[List.find?_append]
 by_cases e:j=k
 ·subst e
  have:A.find? (λp=>decide (p.1=j))=none:=by
   rw[List.find?_eq_none]
   intro p hp
   simpa using hk p hp
  rw[if_pos rfl,this]
  simp
 ·rw[if_neg e]
  cases hf:A.find? (λp=>decide (p.1=j))with
  | some p=>simp
  | none=>
   have:¬k=j:=λx=>e x.symm
   simp[this]
def textTo(T:List ByteArray):Nat->ByteArray
 | 0=>⟨#[]⟩
 | k+1=>textTo T k++T.getD k ⟨#[]⟩
theorem textTo_list(T:List ByteArray):∀k,k<=T.length->(textTo T k).data.toList=joinT (T.take k)
 | 0,_=>by rw[List.take_zero];rfl
 | k+1,h=>by
  rw[textTo,List.take_succ_eq_append_getElem (by omega),joinT,List.flatMap_append,<-joinT,<-textTo_list T k (by omega)]
  have e:T.getD k ⟨#[]⟩=T[k]:=by simp[List.getD_eq_getElem?_getD,show k<T.length by omega]
  rw[e]
  simp[ByteArray.data_append]
theorem textTo_size{T:List ByteArray}(h:∀s∈T,s.size<=200):∀k,k<=T.length->(textTo T k).size<=200*k
 | 0,_=>Nat.le_refl _
 | k+1,hk=>by
  have h1:=textTo_size h k (by omega)
  have h2:(T.getD k ⟨#[]⟩).size<=200:=by
   rw[List.getD_eq_getElem?_getD,List.getElem?_eq_getElem (by omega)]
   exact h _ (List.getElem_mem _)
  have h3:(textTo T (k+1)).size=(textTo T k).size+(T.getD k ⟨#[]⟩).size:=by rw[textTo,ByteArray.size_append]
  omega
theorem shape_print{L:List ItemV}{d:Int}(h:printOk d (L.map plainI)=true):ShapeL (nowOf L):=by
 simp only[printOk,Bool.and_eq_true,decide_eq_true_eq]at h
 obtain⟨⟨⟨⟨h1,h2⟩,h3⟩,h4⟩,h5⟩:=h
 have hall:∀p∈nowOf L,p.1=p.2.name∧pitemB (plainI p.2) d=true:=λp hp=>by
  obtain⟨x,hx,rfl⟩:=List.mem_map.1 hp
  exact⟨rfl,List.all_eq_true.1 h4 _ (List.mem_map.2 ⟨x,hx,rfl⟩)⟩
 have hb:∀p∈nowOf L,nameB p.2.name=true∧(p.2.ns.length:Int)=d∧p.2.ns.any farB=false:=λp hp=>by
  have h6:=(hall p hp).2
  simp only[pitemB,plainI,Bool.and_eq_true,Bool.or_eq_true,decide_eq_true_eq,Bool.not_eq_true']at h6
  exact⟨h6.1.1.1.1.1,of_decide_eq_true h6.1.2,h6.2⟩
 refine⟨?_,λp hp=> ?_,λp hp=> ?_,λp hp=> ?_,λp hp=> ?_⟩
 ·rw[nowOf,List.length_map]
  rw[List.length_map]at h3
  omega
 ·rw[(hall p hp).1]
  have:=nameB_size (hb p hp).1
  omega
 ·have:=(hb p hp).2.1;omega
 ·have:=(hb p hp).2.1;omega
 ·intro n hn
  have h7:=(hb p hp).2.2
  rw[List.any_eq_false]at h7
  have:=h7 n hn
  simp only[farB,Bool.or_eq_true,decide_eq_true_eq,not_or]at this
  omega
theorem nowOf_take(L:List ItemV)(j:Nat)(x:ItemV)(hx:L[j]? =some x):nowOf (L.take (j+1))=nowOf (L.take j)++ [(x.name,x)]:=by
 have h1:=List.getElem?_eq_some_iff.1 hx
 rw[List.take_succ_eq_append_getElem h1.1,h1.2,nowOf,List.map_append]
 rfl
theorem rows_keepB{w w':World}{BB B d mb wb:Nat}{q:Option Addr}{v:Value}{L:List ItemV}(h:RowsK w v 3 encItem L)(hB:BaseRowV w BB B d mb wb (.pointer q))(K:Keep (OneB BB) w w'):RowsK w' v 3 encItem L:=by
 cases L with
 | nil=>
  obtain⟨p,c,hv⟩:=h.len
  exact .inl ⟨rfl,p,c,hv⟩
 | cons x l=>
  refine h.keep K λb hb e=> ?_
  have e:b=BB:=e
  subst e
  rcases h with⟨h,_⟩|⟨b2,off,c,hv,_,hcell⟩
  ·cases h
  ·rw[hv]at hb
   obtain rfl:b2=b:=Option.some.inj hb
   have h1:=hcell 0 x rfl 0 _ rfl
   rw[cell_of_row _ _ _ _ _ (0,0) hB,Nat.zero_mul]at h1
   simp only[Nat.add_zero]at h1
   unfold baseCells at h1
   rcases off with _|_|_|_|_|off<;>simp at h1
theorem rows_keepM{w w':World}{mb n:Nat}{M:List SEnt}{v:Value}{L:List ItemV}(h:RowsK w v 3 encItem L)(hm:SMapIs w mb n M)(K:Keep (OneB mb) w w'):RowsK w' v 3 encItem L:=by
 cases L with
 | nil=>
  obtain⟨p,c,hv⟩:=h.len
  exact .inl ⟨rfl,p,c,hv⟩
 | cons x l=>
  refine h.keep K λb hb e=> ?_
  have e:b=mb:=e
  subst e
  rcases h with⟨h,_⟩|⟨b2,off,c,hv,_,hcell⟩
  ·cases h
  ·rw[hv]at hb
   obtain rfl:b2=b:=Option.some.inj hb
   have h1:=hcell 0 x rfl 0 _ rfl
   obtain⟨es,clock,h2,_⟩:=hm
   simp[World.cell?,h2]at h1
def OpenC(BB Z mb:Nat)(a b c:Value)(W:World):Prop:=W.cell? ⟨BB,2,none⟩=some (.map (some mb))∧W.cell? ⟨Z,0,none⟩=some a∧W.cell? ⟨Z,1,none⟩=some b∧W.cell? ⟨Z,2,none⟩=some c
end Go.Cof
namespace Go.Proofs.YtnmhgehpddipdaaGreatDoor
open Go.RowKit Go.Cof
def OpenedB(w0 w w':World)(D C S:Nat)(wv:Value)(V:VaultV)(d:DevV)(m:Int)(dim:Nat)(l:List PItem)(e:Ending):Prop:=
 ∃BB B mb wb CC nm L,e= .returned (.tuple #[.pointer (some ⟨BB,0,none⟩),.nilIface])∧w.heap.size<=BB∧w.heap.size<=mb∧w.heap.size<=wb∧w.heap.size<=B∧nm<=60∧VN w0 w' B D C S wv V d m∧BaseRow w' BB B dim mb wb CC∧BaseR w' mb wb nm 0 L []∧BaseC w' CC dim L∧plainN L=l.map λx=>(x.1,x)
def OpenBSaid(w0 w w':World)(D C S:Nat)(wv:Value)(V:VaultV)(d:DevV)(m:Int)(e:Ending):Prop:=
 if joinT V.texts= []then OpenedB w0 w w' D C S wv V d m 0 [] e
 else match parseT (joinT V.texts)with
  | some (dim,l)=>OpenedB w0 w w' D C S wv V d m dim.toNat l e
  | none=>e= .returned (.tuple #[.pointer none,errVal 15])∧DevIs w' D S wv d∧CountAt w' C m
set_option maxRecDepth 100000
set_option maxHeartbeats 8000000 in
theorem baseOpen_any{w0 w:World}{D C S:Nat}{wv:Value}{d:DevV}(hd:DevIs w D S wv d)(hkw:Keep NoB w0 w)(hown:∀b,DevB D S wv b∨b=C->w0.heap.size<=b){n:Nat}(hc:CountAt w C n)(hn:n<1000000)(hb:∀i,i<66->(d.now.getD i ⟨#[]⟩).size=256){secret:ByteArray}(hs:secret.size=16)(R:RoundsVar w0)(IV:ItemVars w0){V:VaultV}{m:Int}(ho:openV secret d.now n=some (V,m))
  (hT:V.texts.length=32) (ht:∀s∈V.texts,s.size<=200):
  Calls Tryz.prog 11 #[.pointer (some ⟨D,0,none⟩),.pointer (some ⟨C,0,none⟩),.string secret] w λe w'=>OpenBSaid w0 w w' D C S wv V d m e∧Keep (OneB C) w w':=by
 have hvo:=open_vn hd hkw hown hc hn hb hs R ho
 have Hvo:=Lib.hid hvo
 clear hvo
 go_enter Tryz.func11,Tryz.ntmps11
 go_wp2_with fail
 refine Hvo.out.mono ?_
 rintro e w1 ⟨⟨B,hB,rfl,hv⟩,K1⟩
 have Hv:=Lib.hid hv
 have HK1:=Lib.hid K1
 have hmm:= @run_makeMap Tryz.prog
 clear hv K1 Hvo
 go_upto_region 5 with(fail)
 clear hmm
 obtain⟨mb,hmb⟩:∃b,b=w1.heap.size:=⟨_,rfl⟩
 obtain⟨wb,hwb⟩:∃b,b=w1.heap.size+1:=⟨_,rfl⟩
 obtain⟨BB,hBB⟩:∃b,b=w1.heap.size+1+1:=⟨_,rfl⟩
 obtain⟨wx,hwx⟩:∃wx,wx=((w1.alloc (Obj.map #[] 0)).alloc (Obj.map #[] 0)).alloc (.cells (baseCells B 0 mb wb (.pointer none)) 85):=⟨_,rfl⟩
 have K2:Keep NoB w1 wx:=by rw[hwx];exact(((Keep.refl _ _).alloc _).alloc _).alloc _
 have s1:(w1.alloc (Obj.map #[] 0)).heap.size=w1.heap.size+1:=by simp
 have s2:((w1.alloc (Obj.map #[] 0)).alloc (Obj.map #[] 0)).heap.size=w1.heap.size+1+1:=by simp
 have M1:SMapIs wx mb 0 (mapG aggI (nowOf ([]:List ItemV))):=by
  rw[hwx,hmb]
  exact(SMapIs.made w1).keep (((Keep.refl NoB _).alloc _).alloc _) (λx=>x)
 have M2:SMapIs wx wb 0 (mapG Prod.fst ([]:List WaitE)):=by
  have h:=SMapIs.made (w1.alloc (Obj.map #[] 0))
  rw[s1,<-hwb]at h
  rw[hwx]
  exact h.keep ((Keep.refl NoB _).alloc _) (λx=>x)
 have B1:BaseRowV wx BB B 0 mb wb (.pointer none):=by
  have h:=heap_alloc_new ((w1.alloc (Obj.map #[] 0)).alloc (Obj.map #[] 0)) (.cells (baseCells B 0 mb wb (.pointer none)) 85)
  rw[s2,<-hBB]at h
  rw[hwx]
  exact h
 have hwx':=hwx
 rw[baseCells,hmb,hwb,show((0:Nat):Int)=0 from rfl]at hwx'
 rw[<-hwx',<-hBB,<-hwb,<-hmb]
 have HM1:=Lib.hid M1
 have HM2:=Lib.hid M2
 have HB1:=Lib.hid B1
 have HK2:=Lib.hid K2
 have Hmb:=Lib.hid hmb
 have Hwb:=Lib.hid hwb
 have HBB:=Lib.hid hBB
 clear hwx hwx' s1 s2 M1 M2 B1 K2 hmb hwb hBB
 have HT:=Lib.hid hT
 clear hT
 go_wp2_with fail
 go_loopw [11,35] (λtv iv wr=>∃(k:Nat) (s:ByteArray),k<=32∧iv= .int .i64 k∧tv= .string s∧Hid (s=textTo V.texts k)∧Hid (Keep NoB wx wr)) (λ_ iv _=>32-(intOf iv).toNat)
 case atStart=>exact⟨0,_,by omega,rfl,rfl,Lib.hid rfl,Lib.hid (Keep.refl _ _)⟩
 case round=>
  obtain⟨k,s,hk,rfl,rfl,hse,KR⟩:=hrel
  obtain⟨wo,rfl⟩:∃wo,wo=wr:=⟨_,rfl⟩
  have hv:=Hv.out.keepN (HK2.out.thenN KR.out)
  have hsz:=textTo_size ht k (by rw[HT.out];exact hk)
  rw[<-hse.out]at hsz
  by_cases hlt:k<32
  ·have j1:(k:Int)<32:=by omega
   have hget:=vaultGet_any hv.vault k hlt
   obtain⟨g,hg⟩:∃g,g=V.texts.getD k ⟨#[]⟩:=⟨_,rfl⟩
   have hgs:g.size<=200:=by
    rw[hg,List.getD_eq_getElem?_getD,List.getElem?_eq_getElem (by rw[HT.out];exact hlt)]
    exact ht _ (List.getElem_mem _)
   rw[<-hg]at hget
   have hcat:¬(9223372036854775807<s.size+g.size):=by omega
   have Hget:=Lib.hid hget
   have Hg:=Lib.hid hg
   clear hget hg hv hsz hgs
   go_wp2_with fail
   refine Hget.out.mono ?_
   rintro e w' ⟨rfl,hw'⟩
   subst w'
   go_wp2_with fail
   refine⟨⟨k+1,s++g,by omega,by go_num,rfl,Lib.hid (by rw[textTo,<-hse.out,<-Hg.out]),KR⟩,by simp[intOf];omega⟩
  ·obtain⟨q,hq⟩:∃q:Nat,q=32:=⟨_,rfl⟩
   obtain rfl:k=q:=by omega
   have j1:¬(k:Int)<32:=by omega
   have hjoin:joinT V.texts=s.data.toList:=by
    rw[hse.out,textTo_list V.texts k (by rw[HT.out,hq];exact Nat.le_refl _),List.take_of_length_le (by rw[HT.out,hq];exact Nat.le_refl _)]
   have Hjoin:=Lib.hid hjoin
   have Hq:=Lib.hid hq
   have Hv1:=Lib.hid hv
   have hB1:=HB1.out.keepN KR.out
   have hM1:=HM1.out.keep KR.out (λx=>x)
   have HB2:=Lib.hid hB1
   have hKw:Keep (OneB C) w wo:=(HK1.out.thenN HK2.out).thenN KR.out
   have HKw:=Lib.hid hKw
   have HMm:=Lib.hid hM1
   clear hjoin hq hse hv hB1 hKw hM1
   by_cases hs0:s=⟨#[]⟩
   ·have hidx:=baseIndex_any HB2.out HMm.out (λp hp=>by cases hp) ShapeL.nil
    have Hidx:=Lib.hid hidx
    clear hidx
    subst hs0
    go_wp2_with fail
    refine Hidx.out.mono ?_
    rintro e w3 ⟨rfl,⟨C',hBz,hCz⟩,Kz⟩
    have HBz:=Lib.hid hBz
    have HCz:=Lib.hid hCz
    have HKz:=Lib.hid Kz
    clear hBz hCz Kz Hidx
    go_wp2_with fail
    go_ret2
    have hsz1:w.heap.size<=w1.heap.size:=HK1.out.size
    have hw0:w0.heap.size<=w.heap.size:=hkw.size
    have hvz:=Hv1.out.out HKz.out (λb hb e=>by
     have h1:b=BB:=e
     subst h1
     exact vb_row Hv1.out HB2.out hb) (λb hb e=>by have h1:b=BB:=e;have:=HBB.out;omega)
    have hwait:=(HM2.out.keep KR.out (λx=>x)).keep HKz.out (λe=>(HM2.out.keep KR.out (λx=>x)).row_ne HB2.out e)
    refine⟨?_,HKw.out.trans HKz.out (λi hi e=>by have h1:i=BB:=e;have:=HBB.out;omega)⟩
    unfold OpenBSaid
    rw[if_pos (by rw[Hjoin.out])]
    refine⟨BB,B,mb,wb,C',0,[],rfl,by have:=HBB.out;omega,by have:=Hmb.out;omega,by have:=Hwb.out;omega,hB,by omega,hvz,HBz.out,⟨HMm.out.keep HKz.out (λe=>HMm.out.row_ne HB2.out e),hwait,by have:=Hmb.out;have:=Hwb.out;omega,(λp hp=>by cases hp),(λp hp=>by cases hp)⟩,HCz.out,rfl⟩
   ·have hemp:s.toList.isEmpty=false:=by
     cases h:s.toList with
     | nil=>exact absurd (toList_inj (by rw[h,ByteArray.toList_eq])) hs0
     | cons _ _=>rfl
    have hsz6:s.size<=1000000:=by have:=Hq.out;omega
    have hpar:=parse_any s wo hsz6 (IV.keep Hv1.out.keep)
    have Hpar:=Lib.hid hpar
    clear hpar
    go_wp2_with fail
    refine Hpar.out.mono ?_
    rintro e w3 ⟨hsaid,K3⟩
    unfold ParseSaid at hsaid
    have HK3:=Lib.hid K3
    have hne:joinT V.texts≠ []:=λh=>hs0 (by
     rw[Hjoin.out]at h
     exact ByteArray.ext (Array.toList_inj.1 h))
    have Hne:=Lib.hid hne
    clear Hpar K3 hne
    cases hpt:parseT s.data.toList with
    | none=>
     rw[hpt]at hsaid
     have hsaid:e= .returned (.tuple #[.int .i64 0,.slice none 0 0,.iface 40 (.int .i64 3)]):=hsaid
     subst hsaid
     have Hpt:=Lib.hid hpt
     clear hpt
     go_wp2_with fail
     go_ret2
     refine⟨?_,HKw.out.thenN HK3.out⟩
     unfold OpenBSaid
     rw[if_neg Hne.out,Hjoin.out,Hpt.out]
     exact⟨rfl,Hv1.out.dev.keep HK3.out (λ_ _ x=>x),Hv1.out.cnt.keep HK3.out (λx=>x)⟩
    | some r=>
     obtain⟨dm,l⟩:=r
     rw[hpt]at hsaid
     obtain⟨v,L,rfl,hLp,hit,hir⟩:=hsaid
     have hback:=parseT_back hpt
     subst hLp
     have hok:=hback.1
     have hshape:=shape_print hok
     obtain⟨dn,hdn⟩:∃dn:Nat,dm=dn:=⟨dm.toNat,by simp only[printOk,Bool.and_eq_true,decide_eq_true_eq]at hok;omega⟩
     subst hdn
     have hrise:risesB (L.map plainI)=true:=by
      simp only[printOk,Bool.and_eq_true]at hok
      exact hok.2
     have hrs:=nowOf_rises hrise
     have hl60:L.length<=60:=by
      simp only[printOk,Bool.and_eq_true,decide_eq_true_eq,List.length_map]at hok
      omega
     obtain⟨p,c,rfl⟩:=hit.rows.len
     obtain⟨q2,hq2⟩:∃q2,q2=L.length:=⟨_,rfl⟩
     have hrows:=hit.rows
     rw[<-hq2]at hrows hl60⊢
     have hnumr:∀x∈L,NumsR w3 x:=λx hx=>⟨hit.nums x hx,hir x hx⟩
     have B3:=HB2.out.keepN HK3.out
     have f1:=B3.free 1
     have b1:=B3.cell1
     have B4:=B3.set1 dn
     have K4:Keep (OneB BB) w3 (w3.setCell ⟨BB,1,none⟩ (.int .i64 dn)):=(Keep.refl _ _).set1 1 _
     have M3:=HMm.out.keep HK3.out (λx=>x)
     have M4:=M3.keep K4 (λe=>M3.row_ne B3 e)
     have R4:=rows_keepB hrows B3 K4
     have N4:∀x∈L,NumsR (w3.setCell ⟨BB,1,none⟩ (.int .i64 dn)) x:=λx hx=>(hnumr x hx).keep K4 (λb c t f h hh=>(B3.other b c t f h hh).int)
     obtain⟨w4,hw4⟩:∃w4,w4=w3.setCell ⟨BB,1,none⟩ (.int .i64 dn):=⟨_,rfl⟩
     rw[<-hw4]at B4 K4 M4 R4 N4
     have Hw4:=Lib.hid hw4
     have HB3:=Lib.hid B3
     have HB4:=Lib.hid B4
     have HK4:=Lib.hid K4
     have HM4:=Lib.hid M4
     have HR4:=Lib.hid R4
     have HN4:=Lib.hid N4
     have Hq2:=Lib.hid hq2
     have Hrs:=Lib.hid hrs
     have Hpt:=Lib.hid hpt
     clear hw4 B3 B4 K4 M3 M4 R4 N4 hq2 hrs hback hrise hit hir hnumr hrows hpt
     have hokd:=Lib.hid hok
     clear hok
     go_upto_region 19 with(fail)
     rw[<-Hw4.out]
     clear f1 b1
     go_wp2_with fail
     go_loopw [68] (λiv wr=>∃j:Nat,j<=q2∧iv= .int .i64 j∧Hid (SMapIs wr mb j (mapG aggI (nowOf (L.take j))))∧Hid (Keep (OneB mb) w4 wr)) (λiv _=>q2-(intOf iv).toNat)
     case atStart=>exact⟨0,by omega,rfl,HM4,Lib.hid (Keep.refl _ _)⟩
     case round=>
      obtain⟨j,hj,rfl,hmj,KJ⟩:=hrel
      obtain⟨wj,rfl⟩:∃wj,wj=wr:=⟨_,rfl⟩
      have hBM:BB≠mb:=by have:=HBB.out;have:=Hmb.out;omega
      have hRj:=rows_keepM HR4.out HM4.out KJ.out
      by_cases hlt2:j<q2
      ·have j2:(j:Int)<q2:=by omega
       obtain⟨b,off,rfl,-,hb,hcell⟩:=hRj.at (by rw[<-Hq2.out];omega)
       obtain⟨x,hx⟩:∃x,L[j]? =some x:=⟨_,List.getElem?_eq_getElem (by rw[<-Hq2.out];exact hlt2)⟩
       have hra:=hcell j x hx
       have hxm:x∈L:=List.mem_of_getElem? hx
       have htk:=nowOf_take L j x hx
       have hxn:=(HN4.out x hxm).1.len
       have hxs:x.name.size<=maxLen:=by
        have:=hshape.name (x.name,x) (List.mem_map.2 ⟨x,hxm,rfl⟩)
        simp only at this
        unfold maxLen;omega
       have hrj:RisesG (nowOf (L.take j)++ [(x.name,x)]):=by
        rw[<-htk]
        exact List.Pairwise.sublist ((List.take_sublist _ _).map _) Hrs.out
       have hput:putS (mapG aggI (nowOf (L.take j))) x.name (aggI x)=mapG aggI (nowOf (L.take (j+1))):=by
        rw[<-putG_S,putG_map,putG_last hrj,htk]
       obtain⟨nm,tg,av,ns⟩:=x
       simp only at hxn hxs
       obtain⟨pa,ca,rfl⟩:=hxn
       have c0:wj.cell? ⟨b,off+j*3,none⟩=some (.string nm):=hra 0 _ rfl
       have c1:wj.cell? ⟨b,off+j*3+1,none⟩=some (.string tg):=hra 1 _ rfl
       have c2:wj.cell? ⟨b,off+j*3+2,none⟩=some (.slice pa ns.length ca):=hra 2 _ rfl
       obtain⟨nl,hnl⟩:∃n,n=ns.length:=⟨_,rfl⟩
       have hagg:aggI ⟨nm,tg,.slice pa ns.length ca,ns⟩= .agg #[.string nm,.string tg,.slice pa nl ca]:=by rw[hnl];rfl
       rw[hagg]at hput
       rw[<-hnl]at c2
       simp only at hput
       have KA:Keep NoB wj (wj.alloc (.cells #[.string nm,.string tg,.slice pa nl ca] 47)):=(Keep.refl _ _).alloc _
       have hBj:=(HB4.out.keep KJ.out hBM).keepN KA
       have hZ:=heap_alloc_new wj (.cells #[.string nm,.string tg,.slice pa nl ca] 47)
       have LZ:OpenC BB wj.heap.size mb (.string nm) (.string tg) (.slice pa nl ca) (wj.alloc (.cells #[.string nm,.string tg,.slice pa nl ca] 47)):=⟨hBj.cell2,cellOf hZ 0 rfl,cellOf hZ 1 rfl,cellOf hZ 2 rfl⟩
       obtain⟨Z,hZe⟩:∃Z,Z=wj.heap.size:=⟨_,rfl⟩
       rw[<-hZe]at LZ
       have Hput:=Lib.hid hput
       have HKA:=Lib.hid KA
       have HLZ:=Lib.hid LZ
       have HZe:=Lib.hid hZe
       clear hput KA hBj hZ LZ hcell hra hx hxm htk hrj hnl hagg hRj
       clear hZe
       go_upto_region 22 with(fail)
       rw[<-HZe.out]
       have l1:∀x:InC (OpenC BB Z mb (.string nm) (.string tg) (.slice pa nl ca)),x.w.cell? ⟨BB,2,none⟩=some (.map (some mb)):=λx=>x.h.1
       have l2:∀x:InC (OpenC BB Z mb (.string nm) (.string tg) (.slice pa nl ca)),x.w.cell? ⟨Z,0,none⟩=some (.string nm):=λx=>x.h.2.1
       have l3:∀x:InC (OpenC BB Z mb (.string nm) (.string tg) (.slice pa nl ca)),x.w.cell? ⟨Z,1,none⟩=some (.string tg):=λx=>x.h.2.2.1
       have l4:∀x:InC (OpenC BB Z mb (.string nm) (.string tg) (.slice pa nl ca)),x.w.cell? ⟨Z,2,none⟩=some (.slice pa nl ca):=λx=>x.h.2.2.2
       refine wp_region_mix (OpenC BB Z mb (.string nm) (.string tg) (.slice pa nl ca)) [(true,0),(true,1),(true,2),(true,3),(true,4),(true,5),(true,6),(false,7)] (by kernel_rfl) (by kernel_rfl) (λc a d v w h=>by cases d<;>exact h) ?_
       simp only[wpMixC,pickL,List.getElem?_toArray,List.getElem?_cons_succ,List.getElem?_cons_zero]
       repeat(refine wpEarlyC_step (λK hK=> ?_);go_simp;first|(refine⟨_,λ_=>rfl,hK _ ?_⟩;clear hK K;refine wpEarlyC_nil ?_)|(refine hK _ ?_;clear hK K;refine wpEarlyC_nil ?_))
       refine⟨HLZ.out,?_⟩
       clear l1 l2 l3 l4
       have KZD:=HKA.out.drew
       obtain⟨w5,hup,hm5,K5⟩:=(hmj.out.keep KZD (λx=>x)).update Tryz.underlying81 (by unfold maxLen;omega) nm hxs (.agg #[.string nm,.string tg,.slice pa nl ca])
       rw[Hput.out]at hm5
       have Hm5:=Lib.hid hm5
       have HK5:=Lib.hid (KJ.out.trans ((KZD.ofN).then K5) (λi hi h=>h))
       clear hm5 K5 KZD
       go_wp2_with fail
       exact⟨⟨j+1,by omega,by go_num,Hm5,HK5⟩,by simp[intOf];omega⟩
      ·obtain rfl:j=q2:=by omega
       have j2:¬(j:Int)<j:=by omega
       have hmo:=hmj.out
       rw[List.take_of_length_le (by rw[<-Hq2.out];exact Nat.le_refl _)]at hmo
       have hBj:=HB4.out.keep KJ.out hBM
       have hOM:=map_other HM4.out
       have hNj:∀p∈nowOf L,NumsR wj p.2:=λp hp=>by
        obtain⟨x,hx,rfl⟩:=List.mem_map.1 hp
        exact(HN4.out x hx).keep KJ.out (λb c t f h hh=>(hOM b c t f h hh).int)
       have hidx:=baseIndex_any hBj hmo hNj hshape
       have HBj:=Lib.hid hBj
       have Hmo:=Lib.hid hmo
       have HNj:=Lib.hid hNj
       have Hidx:=Lib.hid hidx
       clear hmj hidx hBj hmo hNj hRj hOM
       go_upto_region 24 with(fail)
       clear j2
       go_wp2_with fail
       refine Hidx.out.mono ?_
       rintro e wz ⟨rfl,⟨C',hBz,hCz⟩,Kz⟩
       have HBz:=Lib.hid hBz
       have HCz:=Lib.hid hCz
       have HKz:=Lib.hid Kz
       clear hBz hCz Kz Hidx
       go_wp2_with fail
       go_ret2
       have hsz1:w.heap.size<=w1.heap.size:=HK1.out.size
       have hw0:w0.heap.size<=w.heap.size:=hkw.size
       have KS:Keep (λb=>b=BB∨b=mb) w3 wz:=((HK4.out.mono (S':=λb=>b=BB∨b=mb) (λi hi h=> .inl h)).trans (KJ.out.mono (S':=λb=>b=BB∨b=mb) (λi hi h=> .inr h)) (λi hi h=>h)).trans (HKz.out.mono (S':=λb=>b=BB∨b=mb) (λi hi h=> .inl h)) (λi hi h=>h)
       have hv3:=Hv1.out.keepN HK3.out
       have hm3:=HMm.out.keep HK3.out (λx=>x)
       have hvz:=hv3.out KS (λb hb e=>by
        rcases e with e|e
        ·rw[e]at hb;exact vb_row hv3 HB3.out hb
        ·rw[e]at hb;exact vb_map hv3 hm3 hb) (λb hb e=>by have:=HBB.out;have:=Hmb.out;rcases e with e|e<;>omega)
       have hw3:=(HM2.out.keep KR.out (λx=>x)).keep HK3.out (λx=>x)
       have hwait:=hw3.keep KS (λe=>by
        rcases e with e|e
        ·exact hw3.row_ne HB3.out e
        ·have:=Hmb.out;have:=Hwb.out;omega)
       have hnowz:=Hmo.out.keep HKz.out (λe=>Hmo.out.row_ne HBj.out e)
       have hNz:∀p∈nowOf L,NumsR wz p.2:=λp hp=>(HNj.out p hp).keep HKz.out (λb c t f h hh=>(HBj.out.other b c t f h hh).int)
       refine⟨?_,(HKw.out.thenN HK3.out).trans KS (λi hi e=>by have:=HBB.out;have:=Hmb.out;rcases e with e|e<;>omega)⟩
       unfold OpenBSaid
       rw[if_neg Hne.out,Hjoin.out,Hpt.out]
       refine⟨BB,B,mb,wb,C',j,nowOf L,rfl,by have:=HBB.out;omega,by have:=Hmb.out;omega,by have:=Hwb.out;omega,hB,by omega,hvz,HBz.out,⟨hnowz,hwait,by have:=Hmb.out;have:=Hwb.out;omega,hNz,(λp hp=>by cases hp)⟩,HCz.out,?_⟩
       simp[plainN,mapG,nowOf,Function.comp_def,plainI]
end Go.Proofs.YtnmhgehpddipdaaGreatDoor
namespace Go.Cof
open Go.RowKit Go.Proofs.YtnmhgehpddipdaaGreatDoor
theorem textsOf_pages{X T:List ByteArray}(hT:T.length=32):textsOf X (pagesM T 32)=T:=by
 refine ext_getD ⟨#[]⟩ ((textsOf_len _ _).trans hT.symm) λi hi=> ?_
 rw[textsOf_len]at hi
 rw[textsOf_at _ _ i hi,getM_mem (pagesM_apart T 32) (pagesM_mem.2 ⟨i,hi,rfl⟩)]
 rfl
theorem plain_mem{L:List NowE}{p:NowE}(h:p∈L):(p.1,plainI p.2)∈plainN L:=List.mem_map.2 ⟨p,h,rfl⟩
theorem shape_of{L:List NowE}{N:List (ByteArray×PItem)}{dim:Int}(e:plainN L=N)(hl:N.length<=60)(hN:∀p∈N,p.1=p.2.1∧pitemB p.2 dim=true):
  ShapeL L∧(∀p∈L,p.1=p.2.name)∧∀p∈L,numOk p.2.ns∧(p.2.ns.length:Int)=dim:=by
 have hb:∀p∈L,p.1=p.2.name∧nameB p.2.name=true∧(p.2.ns.length:Int)=dim∧p.2.ns.any farB=false∧1<=dim∧dim<=8:=λp hp=>by
  have h:=hN (p.1,plainI p.2) (by rw[<-e];exact plain_mem hp)
  have h6:=h.2
  simp only[pitemB,plainI,Bool.and_eq_true,Bool.or_eq_true,decide_eq_true_eq,Bool.not_eq_true']at h6
  exact⟨h.1,h6.1.1.1.1.1,of_decide_eq_true h6.1.2,h6.2,h6.1.1.1.2,h6.1.1.2⟩
 have hnum:∀p∈L,numOk p.2.ns:=λp hp n hn=>by
  have h7:=(hb p hp).2.2.2.1
  rw[List.any_eq_false]at h7
  have:=h7 n hn
  simp only[farB,Bool.or_eq_true,decide_eq_true_eq,not_or]at this
  omega
 refine⟨⟨?_,λp hp=> ?_,λp hp=> ?_,λp hp=> ?_,hnum⟩,λp hp=>(hb p hp).1,λp hp=>⟨hnum p hp,(hb p hp).2.2.1⟩⟩
 ·have:=congrArg List.length e
  rw[plainN,mapG_len]at this
  omega
 ·rw[(hb p hp).1]
  have:=nameB_size (hb p hp).2.1
  omega
 ·have:=(hb p hp).2.2.1;have:=(hb p hp).2.2.2.2.1;omega
 ·have:=(hb p hp).2.2.1;have:=(hb p hp).2.2.2.2.2;omega
theorem OkB.shape{b:BaseV}(h:OkB b){L:List NowE}(e:plainN L=b.now):ShapeL L∧(∀p∈L,p.1=p.2.name)∧∀p∈L,numOk p.2.ns∧(p.2.ns.length:Int)=b.dim:=shape_of e h.len h.now
theorem OkB.shape2{b:BaseV}(h:OkB b){L:List NowE}{W:List WaitE}(e:plainN L=b.now)(e2:plainW W=b.wait):ShapeL (nextG L (waitI W))∧(∀p∈nextG L (waitI W),p.1=p.2.name)∧∀p∈nextG L (waitI W),numOk p.2.ns∧(p.2.ns.length:Int)=b.dim:=
 shape_of (N:=b.next) (by rw[plain_next,e,e2];rfl) h.len2 h.next_ok
end Go.Cof
namespace Go.Proofs.YtnmhgehpddipdaaGreatDoor
open Go.RowKit Go.Cof
structure BaseIn(w0 w:World)(P:Nat->Prop)(BB D C:Nat)(V:VaultV)(d:DevV)(n:Int)(b:BaseV)(k B S:Nat)(wv:Value)(mb wb CC nm nw:Nat)(L:List NowE)(W:List WaitE):Prop where
 vn:VN w0 w B D C S wv V d n
 row:BaseRow w BB B b.dim mb wb CC
 rd:BaseR w mb wb nm nw L W
 cs:BaseC w CC b.dim L
 en:plainN L=b.now
 ew:plainW W=b.wait
 ok:OkB b
 room:nm+nw<=k
 blocks:∀x,P x↔(VB B D C S wv x∨x=BB∨x=wb)
 newB:w0.heap.size<=BB
 newW:w0.heap.size<=wb
def BaseN(w0 w:World)(P:Nat->Prop)(BB D C:Nat)(V:VaultV)(d:DevV)(n:Int)(b:BaseV)(k:Nat):Prop:=
 ∃B S wv mb wb CC nm nw L W,BaseIn w0 w P BB D C V d n b k B S wv mb wb CC nm nw L W
def Grow(w:World)(P P':Nat->Prop):Prop:=∀x,P' x->P x∨w.heap.size<=x
theorem Grow.refl(w:World)(P:Nat->Prop):Grow w P P:=λx h=> .inl h
section
variable {w0 w w':World}{P:Nat->Prop}{BB D C:Nat}{V:VaultV}{d:DevV}{n:Int}{b:BaseV}{k:Nat}{B S:Nat}{wv:Value}{mb wb CC nm nw:Nat}{L:List NowE}{W:List WaitE}
theorem BaseIn.keepN(h:BaseIn w0 w P BB D C V d n b k B S wv mb wb CC nm nw L W)(hk:Keep NoB w w'):BaseIn w0 w' P BB D C V d n b k B S wv mb wb CC nm nw L W:=
 ⟨h.vn.keepN hk,h.row.keepN hk,h.rd.keepN hk,h.cs.keepN hk,h.en,h.ew,h.ok,h.room,h.blocks,h.newB,h.newW⟩
theorem BaseN.keepN(h:BaseN w0 w P BB D C V d n b k)(hk:Keep NoB w w'):BaseN w0 w' P BB D C V d n b k:=by
 obtain⟨B,S,wv,mb,wb,CC,nm,nw,L,W,h⟩:=h
 exact⟨B,S,wv,mb,wb,CC,nm,nw,L,W,h.keepN hk⟩
theorem BaseN.ok(h:BaseN w0 w P BB D C V d n b k):OkB b:=by
 obtain⟨B,S,wv,mb,wb,CC,nm,nw,L,W,h⟩:=h
 exact h.ok
theorem BaseN.keep(h:BaseN w0 w P BB D C V d n b k):Keep NoB w0 w:=by
 obtain⟨B,S,wv,mb,wb,CC,nm,nw,L,W,h⟩:=h
 exact h.vn.keep
theorem BaseN.new(h:BaseN w0 w P BB D C V d n b k):∀x,P x->w0.heap.size<=x:=by
 obtain⟨B,S,wv,mb,wb,CC,nm,nw,L,W,h⟩:=h
 intro x hx
 rcases(h.blocks x).1 hx with hx|rfl|rfl
 ·exact h.vn.own x hx
 ·exact h.newB
 ·exact h.newW
theorem BaseN.more(h:BaseN w0 w P BB D C V d n b k){k':Nat}(hk:k<=k'):BaseN w0 w P BB D C V d n b k':=by
 obtain⟨B,S,wv,mb,wb,CC,nm,nw,L,W,h⟩:=h
 exact⟨B,S,wv,mb,wb,CC,nm,nw,L,W,{ h with room:=Nat.le_trans h.room hk }⟩
theorem BaseIn.keepOther(h:BaseIn w0 w P BB D C V d n b k B S wv mb wb CC nm nw L W){X:Nat->Prop}(hk:Keep X w w')(hX:OtherB w X)(h1:∀x,P x->¬X x)(h2:¬X mb)(h3:∀x,x<w0.heap.size->¬X x):BaseIn w0 w' P BB D C V d n b k B S wv mb wb CC nm nw L W:=
 ⟨h.vn.out hk (λx hx=>h1 x ((h.blocks x).2 (.inl hx))) h3,h.row.keep hk (h1 BB ((h.blocks BB).2 (.inr (.inl rfl)))),h.rd.keep hk hX h2 (h1 wb ((h.blocks wb).2 (.inr (.inr rfl)))),h.cs.keep hk hX,h.en,h.ew,h.ok,h.room,h.blocks,h.newB,h.newW⟩
theorem BaseIn.waited(h:BaseIn w0 w P BB D C V d n b k B S wv mb wb CC nm nw L W)(hk:Keep (OneB wb) w w'){b':BaseV}{nw':Nat}{W':List WaitE}(hw:SMapIs w' wb nw' (mapG Prod.fst W'))(hp:∀p∈W',PtIs w' p.2.1 (p.2.2.map aggI)∧∀x,p.2.2=some x->NumsR w' x)
  (hd:b'.dim=b.dim) (hn:b'.now=b.now) (he:plainW W'=b'.wait) (hok:OkB b') {k':Nat} (hr:nm+nw'<=k'):BaseIn w0 w' P BB D C V d n b' k' B S wv mb wb CC nm nw' L W':=by
 have hO:=map_other h.rd.wait
 have hvb:=vb_map h.vn h.rd.wait
 have hne:BB≠wb:=λe=>h.rd.wait.row_ne h.row e.symm
 exact⟨h.vn.out hk (λx hx e=>by have h1:x=wb:=e;rw[h1]at hx;exact hvb hx) (λx hx e=>by have h1:x=wb:=e;have:=h.newW;omega),by rw[hd];exact h.row.keep hk hne,
  ⟨h.rd.now.keep hk h.rd.apart,hw,h.rd.apart,λp hp=>(h.rd.items p hp).keep hk (λb c t f hs hh=>(hO b c t f hs hh).int),hp⟩,by rw[hd];exact h.cs.keep hk hO,by rw[hn];exact h.en,he,hok,hr,h.blocks,h.newB,h.newW⟩
theorem BaseIn.waits_keep(h:BaseIn w0 w P BB D C V d n b k B S wv mb wb CC nm nw L W)(hk:Keep (OneB wb) w w'):∀p∈W,PtIs w' p.2.1 (p.2.2.map aggI)∧∀x,p.2.2=some x->NumsR w' x:=λp hp=>by
 have hO:=map_other h.rd.wait
 exact⟨(h.rd.waits p hp).1.keepT hk hO,λx hx=>((h.rd.waits p hp).2 x hx).keep hk (λb c t f hs hh=>(hO b c t f hs hh).int)⟩
theorem put_n(h:BaseN w0 w P BB D C V d n b k)(hk:k<900000)(x:ItemV)(N:Nums w x.av x.ns)(hl:x.ns.length<=1000000):
  Calls Tryz.prog 15 #[.pointer (some ⟨BB,0,none⟩),aggI x] w λe w'=>e= .returned (errVal (putB b (plainI x)).1)∧BaseN w0 w' P BB D C V d n (putB b (plainI x)).2 (k+1)∧Keep P w w':=by
 obtain⟨B,S,wv,mb,wb,CC,nm,nw,L,W,h⟩:=h
 by_cases h0:b.dim=0
 ·have hrow:=h.row
  rw[h0]at hrow
  refine(basePut_state x hrow).mono ?_
  rintro e w' ⟨rfl,K⟩
  have e1:putB b (plainI x)=(6,b):=by rw[putB,if_pos h0]
  rw[e1]
  exact⟨rfl,BaseN.more ⟨B,S,wv,mb,wb,CC,nm,nw,L,W,h.keepN K⟩ (Nat.le_succ k),K.ofN⟩
 ·refine(basePut_any x N hl h.row h.rd (by have:=h.room;omega) h0).mono ?_
  rintro e w' hs
  unfold PutSaid at hs
  have hnx:plainN (nextG L (waitI W))=b.next:=by rw[plain_next,h.en,h.ew];rfl
  have hgn:getG b.next x.name=(getG (nextG L (waitI W)) x.name).map plainI:=by rw[<-hnx];exact getG_map plainI _ _
  have hln:b.next.length=(nextG L (waitI W)).length:=by rw[<-hnx,plainN,mapG_len]
  split at hs
  ·rename_i hx
   obtain⟨rfl,K⟩:=hs
   have e1:putB b (plainI x)=(1,b):=by rw[putB,if_neg h0,if_pos (show pitemB (plainI x) b.dim=false from hx)]
   rw[e1]
   exact⟨rfl,BaseN.more ⟨B,S,wv,mb,wb,CC,nm,nw,L,W,h.keepN K⟩ (Nat.le_succ k),K.ofN⟩
  ·rename_i hx
   split at hs
   ·rename_i hf
    obtain⟨rfl,K⟩:=hs
    have e1:putB b (plainI x)=(12,b):=by
     rw[putB,if_neg h0,if_neg (show¬pitemB (plainI x) b.dim=false from hx),if_pos]
     exact⟨by show getG b.next x.name=none;rw[hgn,hf.1];rfl,by rw[hln];exact hf.2⟩
    rw[e1]
    exact⟨rfl,BaseN.more ⟨B,S,wv,mb,wb,CC,nm,nw,L,W,h.keepN K⟩ (Nat.le_succ k),K.ofN⟩
   ·rename_i hf
    obtain⟨rfl,K,X,av,hX,hm,hXh,hN⟩:=hs
    have e1:putB b (plainI x)=(0,{ b with wait:=putG b.wait x.name (some (plainI x)) }):=by
     rw[putB,if_neg h0,if_neg (show¬pitemB (plainI x) b.dim=false from hx),if_neg]
     ·rfl
     ·rintro⟨h1,h2⟩
      refine hf ⟨?_,by rw[<-hln];exact h2⟩
      have h1:getG b.next x.name=none:=h1
      rw[hgn]at h1
      cases hq:getG (nextG L (waitI W)) x.name with
      | none=>rfl
      | some y=>rw[hq]at h1;cases h1
    have hok:=h.ok.put (plainI x)
    rw[e1]at hok⊢
    have hO:=map_other h.rd.wait
    refine⟨rfl,⟨B,S,wv,mb,wb,CC,nm,nw+1,L,_,h.waited (b':= { b with wait:=putG b.wait x.name (some (plainI x)) }) (k':=k+1) K hm (λp hp=> ?_) rfl rfl ?_ hok (by have:=h.room;omega)⟩,K.mono (λi hi e=>by
     have h1:i=wb:=e
     rw[h1]
     exact(h.blocks wb).2 (.inr (.inr rfl)))⟩
    ·rcases mem_putG hp with rfl|hp
     ·refine⟨⟨X,.string x.name,.string x.tag,av,(0,0),rfl,rfl,hXh⟩,λy hy=> ?_⟩
      obtain rfl:=Option.some.inj hy
      exact hN
     ·exact h.waits_keep K p hp.1
    ·rw[plainW_put,h.ew]
     rfl
theorem OtherB.mono{w:World}{S S':Nat->Prop}(h:OtherB w S)(hs:∀x,S' x->S x):OtherB w S':=λb c t f hb hh=>h b c t f (hs b hb) hh
theorem count_n(h:BaseN w0 w P BB D C V d n b k):
  Calls Tryz.prog 186 #[.pointer (some ⟨BB,0,none⟩)] w λe w'=>e= .returned (.int .i64 V.now.count)∧Keep NoB w w':=by
 obtain⟨B,S,wv,mb,wb,CC,nm,nw,L,W,h⟩:=h
 exact baseCount_any h.row h.vn.vault
theorem items_n(h:BaseN w0 w P BB D C V d n b k):
  Calls Tryz.prog 16 #[.pointer (some ⟨BB,0,none⟩)] w λe w'=>(∃(v:Value) (l:List ItemV),e= .returned v∧OwnsN w' w.heap.size 47 3 v l.length (l.flatMap encItem)∧l.map plainI=itemsG b.now∧∀x∈l,NumsR w' x)∧Keep NoB w w':=by
 obtain⟨B,S,wv,mb,wb,CC,nm,nw,L,W,h⟩:=h
 have hs:=h.ok.shape h.en
 refine(baseItems_any h.row h.rd.now h.rd.items hs.1).mono ?_
 rintro e w' ⟨⟨v,l,he,ho⟩,K⟩
 refine⟨⟨v,l,he,ho.row,?_,ho.nums⟩,K⟩
 rw[ho.same,<-h.en,plain_items]
theorem find_n(h:BaseN w0 w P BB D C V d n b k){va:Value}{at_:List Int}(N:Nums w va at_)(ha:at_.length<=1000000)(q:Int)(tag:ByteArray)(ht:tag.size<=1000000):
  Calls Tryz.prog 17 #[.pointer (some ⟨BB,0,none⟩),va,.int .i64 q,.string tag] w λe w'=>FindSaid w w' b.dim (itemsG b.now) at_ q tag e∧Keep NoB w w':=by
 obtain⟨B,S,wv,mb,wb,CC,nm,nw,L,W,h⟩:=h
 have hs:=h.ok.shape h.en
 have hf:=baseFind_any h.row h.cs hs.1.few h.ok.eight (λp hp=>⟨(hs.2.2 p hp).1,by have:=(hs.2.2 p hp).2;omega⟩) N ha q tag ht
 rwa [show(L.map λp=>plainI p.2)=itemsG b.now by rw[<-h.en,plain_items]]at hf
theorem make_n(h:BaseN w0 w P BB D C V d n b k)(q:Int):
  Calls Tryz.prog 14 #[.pointer (some ⟨BB,0,none⟩),.int .i64 q] w λe w'=>e= .returned (errVal (makeB b q).1)∧BaseN w0 w' P BB D C V d n (makeB b q).2 k∧Keep P w w':=by
 obtain⟨B,S,wv,mb,wb,CC,nm,nw,L,W,h⟩:=h
 by_cases h0:b.dim=0
 ·by_cases hq:q<1∨8<q
  ·have hrow:=h.row
   rw[h0]at hrow
   refine(baseMake_arg q hrow hq).mono ?_
   rintro e w' ⟨rfl,K⟩
   have e1:makeB b q=(1,b):=by rw[makeB,if_neg (by omega),if_pos hq]
   rw[e1]
   exact⟨rfl,⟨B,S,wv,mb,wb,CC,nm,nw,L,W,h.keepN K⟩,K.ofN⟩
  ·have hrow:=h.row
   rw[h0]at hrow
   have hL:L= []:=by
    have h1:=h.en
    rw[(h.ok.zero h0).1]at h1
    have:=congrArg List.length h1
    rw[plainN,mapG_len]at this
    exact List.eq_nil_of_length_eq_zero this
   have hnow:=h.rd.now
   rw[hL]at hnow
   refine(baseMake_any q hrow hnow (by omega)).mono ?_
   rintro e w' ⟨rfl,⟨C',hB,hC⟩,K⟩
   have e1:makeB b q=(0,{ b with dim:=q.toNat }):=by rw[makeB,if_neg (by omega),if_neg hq]
   have hok:=h.ok.make q
   rw[e1]at hok⊢
   have hO:=h.row.other
   refine⟨rfl,⟨B,S,wv,mb,wb,C',nm,nw,L,W,⟨h.vn.out K (λx hx e=>by have h1:x=BB:=e;rw[h1]at hx;exact vb_row h.vn h.row hx) (λx hx e=>by have h1:x=BB:=e;have:=h.newB;omega),hB,h.rd.setRow h.row K,by rw[hL];exact hC,h.en,h.ew,hok,h.room,h.blocks,h.newB,h.newW⟩⟩,K.mono (λi hi e=>(h.blocks i).2 (.inr (.inl e)))⟩
 ·refine(baseMake_state q h.row h0).mono ?_
  rintro e w' ⟨rfl,K⟩
  have e1:makeB b q=(6,b):=by rw[makeB,if_pos h0]
  rw[e1]
  exact⟨rfl,⟨B,S,wv,mb,wb,CC,nm,nw,L,W,h.keepN K⟩,K.ofN⟩
end
end Go.Proofs.YtnmhgehpddipdaaGreatDoor
namespace Go.Cof
open Go.RowKit Go.Proofs.YtnmhgehpddipdaaGreatDoor
theorem items_back{N:List (ByteArray×PItem)}(h:∀p∈N,p.1=p.2.1):(itemsG N).map (λx=>(x.1,x))=N:=by
 unfold itemsG
 rw[List.map_map]
 conv=>rhs;rw[<-List.map_id N]
 refine List.map_congr_left λp hp=> ?_
 show(p.2.1,p.2)=p
 rw[<-h p hp]
theorem openBase_ok{b:BaseV}(h:OkB b)(T:List ByteArray):OkB (openBase b T):=by
 unfold openBase
 split
 ·exact⟨List.Pairwise.nil,List.Pairwise.nil,(λp hp=>by cases hp),(λp hp=>by cases hp),by simp,by simp[BaseV.next,nextG],λ_=>⟨rfl,rfl⟩,by simp⟩
 ·exact⟨h.rn,List.Pairwise.nil,h.now,(λp hp=>by cases hp),h.len,h.len,λe=>⟨(h.zero e).1,rfl⟩,h.eight⟩
end Go.Cof
namespace Go.Proofs.YtnmhgehpddipdaaGreatDoor
open Go.RowKit Go.Cof
set_option maxRecDepth 100000
section
variable {w0 w w':World}{P:Nat->Prop}{BB D C:Nat}{V:VaultV}{d:DevV}{n':Int}{b:BaseV}{k:Nat}{B S:Nat}{wv:Value}{mb wb CC nm nw:Nat}{L:List NowE}{W:List WaitE}
theorem baseCommit_state(hB:BaseRow w BB B 0 mb wb CC):
  Calls Tryz.prog 13 #[.pointer (some ⟨BB,0,none⟩)] w λe w'=>e= .returned (errVal 6)∧Keep NoB w w':=by
 have b1:=hB.cell1
 go_enter Tryz.func13,Tryz.ntmps13
 go_wp2_with fail
 go_ret
 exact⟨rfl,Keep.refl _ _⟩
def ToldB(w0 w w':World)(P:Nat->Prop)(BB D C:Nat)(secret:ByteArray)(V:VaultV)(d:DevV)(n:Nat)(b':BaseV)(k:Nat)(ev:Value)(Q:VaultV->Prop):Prop:=
 (ev= .nilIface∧∃V' d' P',BaseN w0 w' P' BB D C V' d' ((n+1:Nat):Int) b' k∧Grow w P P'∧InvV secret V' d'.sure (n+1)∧d'.wait= []∧Said V'.texts b'∧(d.fuse<0->d'.fuse=d.fuse)∧Q V')∨
 (ev=errVal 14∧0<=d.fuse∧∃B S wv' d',VN w0 w' B D C S wv' (dieV V) d' n∧(∀x,VB B D C S wv' x->P x∨w.heap.size<=x)∧
  ∀keeps,InvV secret V (crashTo d'.sure d'.wait keeps d'.wait.length) n∨∃V2,InvV secret V2 (crashTo d'.sure d'.wait keeps d'.wait.length) (n+1)∧Said V2.texts b'∧Q V2)
theorem commit_n{n:Nat}(hn':n'=n)(h:BaseN w0 w P BB D C V d n' b k)(hk:k<900000){secret:ByteArray}(hi:InvV secret V d.sure n)(hw:d.wait= [])(hn:n<1000)(hsec:secret.size<=1000)(R:RoundsVar w0)(PV:PowVar w0):
  Calls Tryz.prog 13 #[.pointer (some ⟨BB,0,none⟩)] w λe w'=>∃ev,e= .returned ev∧((b.dim=0∧ev=errVal 6∧BaseN w0 w' P BB D C V d n b k)∨(b.dim≠0∧ToldB w0 w w' P BB D C secret V d n (doneB b) k ev (λV'=>joinT V'.texts≠ [])))∧Keep P w w':=by
 obtain⟨B,S,wv,mb,wb,CC,nm,nw,L,W,h⟩:=h
 subst hn'
 by_cases h0:b.dim=0
 ·have hrow:=h.row
  rw[h0]at hrow
  refine(baseCommit_state hrow).mono ?_
  rintro e w' ⟨rfl,K⟩
  exact⟨_,rfl,.inl ⟨h0,rfl,⟨B,S,wv,mb,wb,CC,nm,nw,L,W,h.keepN K⟩⟩,K.ofN⟩
 ·have hnx:plainN (nextG L (waitI W))=b.next:=by rw[plain_next,h.en,h.ew];rfl
  have hpi:(nextG L (waitI W)).map (λp=>plainI p.2)=itemsG b.next:=by rw[<-hnx,plain_items]
  have hpok:=h.ok.print (by omega)
  have hs2:=h.ok.shape2 h.en h.ew
  have hro:=h.room
  refine(baseCommit_any h.row h.rd h.vn h.newB hi hw hn hsec R PV hs2.1 (by rw[hpi];exact hpok) (by omega)).mono ?_
  rintro e w' ⟨ht,K⟩
  rw[hpi]at ht
  have htb:(⟨(printT b.dim (itemsG b.next)).toArray⟩:ByteArray)=textB b:=rfl
  rw[htb]at ht
  have hpl:(pagesT (textB b)).length=32:=by simp[pagesT]
  have hpg:∀s∈pagesT (textB b),s.size<=200:=λs hs=>by
   obtain⟨i,_,rfl⟩:=List.mem_map.1 hs
   exact chunkB_size _ i
  have KP:Keep P w w':=K.mono λi _ hx=>(h.blocks i).2 (hx.imp (λx=>x) (λx=> .inl x))
  have htx:(nextV V V.now.epoch (pagesOf (pagesM (pagesT (textB b)) 32) (otherE V))).texts=pagesT (textB b):=by
   show putTexts V.texts _=_
   rw[putTexts_of hi.texts (pagesM_apart _ _) (pagesM_good hpg hpl) (λi s _ ho=>other_false ho),textsOf_pages hpl]
  have hsd:=said_done h.ok (show 1<=b.dim by omega)
  have hjn:joinT (pagesT (textB b))≠ []:=by
   rw[joinT_pages (h.ok.text (show 1<=b.dim by omega))]
   exact printB_ne _ _
  have hjq:joinT (nextV V V.now.epoch (pagesOf (pagesM (pagesT (textB b)) 32) (otherE V))).texts≠ []:=by rw[htx];exact hjn
  obtain⟨wv',d',hm,⟨he,hv,hinv,hwt,hf,mb',wb',CC',nm',h1,h2,h3,hB',hR',hC'⟩|⟨he,hv,hf,hc⟩⟩:=ht
  ·have hws:=h.vn.keep.size
   refine⟨_,he,.inr ⟨h0,.inl ⟨rfl,_,d',λx=>VB B D C S wv' x∨x=BB∨x=wb',⟨B,S,wv',mb',wb',CC',nm',0,_,[],⟨hv,hB',hR',hC',hnx,rfl,h.ok.done,by omega,λx=>Iff.rfl,h.newB,by omega⟩⟩,λx hx=> ?_,hinv,hwt,by rw[htx];exact hsd,hf,hjq⟩⟩,KP⟩
   rcases hx with hx|hx|hx
   ·exact(vb_moved hm x hx).imp (λhx=>(h.blocks x).2 (.inl hx)) (λhx=>hx)
   ·exact .inl ((h.blocks x).2 (.inr (.inl hx)))
   ·exact .inr (by omega)
  ·refine⟨_,he,.inr ⟨h0,.inr ⟨rfl,hf,B,S,wv',d',hv,λx hx=>(vb_moved hm x hx).imp (λhx=>(h.blocks x).2 (.inl hx)) (λhx=>hx),λkeeps=> ?_⟩⟩,KP⟩
   rcases hc keeps with hc|hc
   ·exact .inl hc
   ·exact .inr ⟨_,hc,by rw[htx];exact hsd,hjq⟩
theorem open_n(hd:DevIs w D S wv d)(hkw:Keep NoB w0 w)(hown:∀b,DevB D S wv b∨b=C->w0.heap.size<=b){n:Nat}(hc:CountAt w C n)(hn:n<1000000)(hb:∀i,i<66->(d.now.getD i ⟨#[]⟩).size=256){secret:ByteArray}(hs:secret.size=16)(R:RoundsVar w0)(IV:ItemVars w0){m:Int}(ho:openV secret d.now n=some (V,m))
  (hT:V.texts.length=32) (ht:∀s∈V.texts,s.size<=200) (hok:OkB b) (hsaid:Said V.texts b):
  Calls Tryz.prog 11 #[.pointer (some ⟨D,0,none⟩),.pointer (some ⟨C,0,none⟩),.string secret] w λe w'=>(∃BB P',e= .returned (.tuple #[.pointer (some ⟨BB,0,none⟩),.nilIface])∧BaseN w0 w' P' BB D C V d m (openBase b V.texts) 60∧∀x,P' x->DevB D S wv x∨x=C∨w.heap.size<=x)∧Keep (OneB C) w w':=by
 refine(baseOpen_any hd hkw hown hc hn hb hs R IV ho hT ht).mono ?_
 rintro e w' ⟨h,K⟩
 refine⟨?_,K⟩
 have hokO:=openBase_ok hok V.texts
 have fin:∀(dim:Nat) (l:List PItem),openBase b V.texts=⟨dim,l.map (λx=>(x.1,x)),[]⟩->OpenedB w0 w w' D C S wv V d m dim l e->∃BB P',e= .returned (.tuple #[.pointer (some ⟨BB,0,none⟩),.nilIface])∧BaseN w0 w' P' BB D C V d m (openBase b V.texts) 60∧∀x,P' x->DevB D S wv x∨x=C∨w.heap.size<=x:=by
  intro dim l hbe ⟨BB,B,mb,wb,CC,nm,L,he,h1,h2,h3,h4,h5,hv,hB,hR,hC,hL⟩
  have hws:=hkw.size
  refine⟨BB,λx=>VB B D C S wv x∨x=BB∨x=wb,he,⟨B,S,wv,mb,wb,CC,nm,0,L,[],⟨hv,by rw[hbe];exact hB,hR,by rw[hbe];exact hC,by rw[hbe];exact hL,by rw[hbe];rfl,hokO,by omega,λx=>Iff.rfl,by omega,by omega⟩⟩,λx hx=> ?_⟩
  rcases hx with(hx|hx|hx)|hx|hx
  ·exact .inl hx
  ·exact .inr (.inr (by omega))
  ·exact .inr (.inl hx)
  ·exact .inr (.inr (by omega))
  ·exact .inr (.inr (by omega))
 unfold OpenBSaid at h
 split at h
 ·rename_i hj
  refine fin 0 [] ?_ h
  rw[openBase,if_pos hj]
  rfl
 ·rename_i hj
  rcases hsaid with⟨h1,_⟩|⟨h1,h2⟩
  ·exact absurd h1 hj
  ·have hpp:=parse_print (printB_ok h1 hok.eight hok.rn hok.len hok.now)
   rw[<-h2]at hpp
   rw[hpp]at h
   refine fin b.dim (itemsG b.now) ?_ (by simpa using h)
   rw[openBase,if_neg hj,items_back (λp hp=>(hok.now p hp).1)]
end
end Go.Proofs.YtnmhgehpddipdaaGreatDoor
namespace Go.Proofs.YtnmhgehpddipdaaGreatDoor
open Go.RowKit Go.Cof
structure LawSt(w0 w:World)(P:Nat->Prop)(BB D C:Nat)(V:VaultV)(d:DevV)(n:Nat)(b:BaseV)(k nowB thenB:Nat)(Ln Lt:List NowE):Prop where
 base:BaseN w0 w P BB D C V d n b k
 inv:InvV secB V d.sure n
 wait:d.wait= []
 said:Said V.texts b
 now:∃q,q<=200∧SMapIs w nowB q (mapG aggI Ln)
 thn:∃q,q<=200∧SMapIs w thenB q (mapG aggI Lt)
 numN:∀p∈Ln,Nums w0 p.2.av p.2.ns∧p.2.ns.length<=1000000
 numT:∀p∈Lt,Nums w0 p.2.av p.2.ns∧p.2.ns.length<=1000000
 eqN:plainN Ln=b.now
 eqT:plainN Lt=b.next
 sepN:¬P nowB
 sepT:¬P thenB
 newN:w0.heap.size<=nowB
 newT:w0.heap.size<=thenB
def GoodC(c:Int):Prop:=c=0∨c=1∨c=6∨c=7∨c=12
section
variable {w0 w w':World}{P:Nat->Prop}{BB D C:Nat}{V:VaultV}{d:DevV}{n:Nat}{b:BaseV}{k nowB thenB:Nat}{Ln Lt:List NowE}
theorem BaseN.lt(h:BaseN w0 w P BB D C V d n b k):∀x,P x->x<w.heap.size:=by
 obtain⟨B,S,wv,mb,wb,CC,nm,nw,L,W,h⟩:=h
 intro x hx
 rcases(h.blocks x).1 hx with hx|rfl|rfl
 ·exact h.vn.lt x hx
 ·exact h.row.lt
 ·exact h.rd.wait.lt
theorem putB_cases(b:BaseV)(x:PItem):(putB b x=(0,{ b with wait:=putG b.wait x.1 (some x) }))∨∃c,c≠0∧GoodC c∧putB b x=(c,b):=by
 unfold putB GoodC
 split
 ·exact .inr ⟨6,by decide,by decide,rfl⟩
 split
 ·exact .inr ⟨1,by decide,by decide,rfl⟩
 split
 ·exact .inr ⟨12,by decide,by decide,rfl⟩
 ·exact .inl rfl
set_option maxRecDepth 100000
end
end Go.Proofs.YtnmhgehpddipdaaGreatDoor
namespace Go.Cof
open Go.RowKit Go.Proofs.YtnmhgehpddipdaaGreatDoor
def nilB:BaseV:=⟨0,[],[]⟩
theorem nilB_ok:OkB nilB:=⟨List.Pairwise.nil,List.Pairwise.nil,(λp hp=>by cases hp),(λp hp=>by cases hp),by simp[nilB],by simp[nilB,BaseV.next,nextG],λ_=>⟨rfl,rfl⟩,by simp[nilB]⟩
theorem join_fresh:joinT (freshV secB).texts= []:=by
 show joinT (List.replicate 32 ⟨#[]⟩)= []
 rfl
theorem said_fresh:Said (freshV secB).texts nilB:= .inl ⟨join_fresh,rfl⟩
theorem open_fresh:openBase nilB (freshV secB).texts=nilB:=by rw[openBase,if_pos join_fresh];rfl
theorem join_of_texts{T:List ByteArray}(h:∀s∈T,s=⟨#[]⟩):joinT T= []:=by
 induction T with
 | nil=>rfl
 | cons t T ih=>
  rw[joinT,List.flatMap_cons,h t List.mem_cons_self]
  exact ih λs hs=>h s (List.mem_cons_of_mem _ hs)
end Go.Cof
namespace Go.Proofs.YtnmhgehpddipdaaGreatDoor
open Go.RowKit Go.Cof
structure BaseVars(w:World):Prop where
 rounds:RoundsVar w
 items:ItemVars w
 errs:ErrVar w
theorem openB_new{w0 w:World}{D C S:Nat}(hd:DevN w0 w D S (.slice none 0 0) sure0 [] (-1))(hc:CountAt w C 0)(hC:w0.heap.size<=C)(G:BaseVars w0):
  Calls Tryz.prog 11 #[.pointer (some ⟨D,0,none⟩),.pointer (some ⟨C,0,none⟩),.string secB] w λe w'=>(∃BB P',e= .returned (.tuple #[.pointer (some ⟨BB,0,none⟩),.nilIface])∧BaseN w0 w' P' BB D C (freshV secB) ⟨sure0,[],-1⟩ 0 nilB 60)∧Keep NoB w0 w':=by
 have hi:=inv_fresh secB sure0 List.length_replicate sure0_at
 have h:=open_n (b:=nilB) (d:=⟨sure0,[],-1⟩) hd.dev hd.keep (λb hb=>hb.elim (hd.own b) (λe=>e▸hC)) (n:=0) hc (by omega) hi.bsz (by decide) G.rounds G.items (inv_open hi) hi.texts hi.t200 nilB_ok said_fresh
 rw[open_fresh]at h
 refine h.mono ?_
 rintro e w' ⟨⟨BB,P',he,hb,_⟩,K⟩
 exact⟨⟨BB,P',he,hb⟩,hd.keep.trans K (λi hi e=>by have h1:i=C:=e;omega)⟩
def itemA:PItem:=(⟨#[97]⟩,⟨#[]⟩,[1,2])
theorem itemA_ok:pitemB itemA 2=true:=by decide+kernel
theorem putA:putB ⟨2,[],[]⟩ itemA=(0,⟨2,[],[(⟨#[97]⟩,some itemA)]⟩):=by
 rw[putB,if_neg (by decide),if_neg (by rw[show((⟨2,[],[]⟩:BaseV).dim:Int)=2 from rfl,itemA_ok];decide),if_neg (by rintro⟨_,h⟩;simp[BaseV.next,nextG]at h)]
 rfl
theorem topA:topP [itemA] [1,3] 1 ⟨#[]⟩= [(⟨#[97]⟩,1)]:=by
 have e:([itemA].filter (tagPI ⟨#[]⟩)).map (foundP [1,3])= [(⟨#[97]⟩,1)]:=by decide+kernel
 rw[topP,e]
 simp[sortF]
set_option maxRecDepth 100000
set_option maxHeartbeats 8000000 in
theorem based_any{w:World}(G:BaseVars w):Calls Tryz.prog 4 #[] w λe w'=>e= .returned (.bool true)∧Keep NoB w w':=by
 have HG:=Lib.hid G
 clear G
 go_enter Tryz.func4,Tryz.ntmps4
 go_wp2_with fail
 refine(new_N _).mono ?_
 rintro e w1 ⟨D,S,rfl,h1⟩
 have KA:Keep NoB w1 (w1.alloc (.cells #[.int .i64 0] 33)):=(Keep.refl _ _).alloc _
 have hc:CountAt (w1.alloc (.cells #[.int .i64 0] 33)) w1.heap.size 0:=heap_alloc_new w1 _
 have hop:=openB_new (h1.keepN KA) hc h1.keep.size HG.out
 have Hop:=Lib.hid hop
 clear hop hc KA h1
 go_wp2_with fail
 refine Hop.out.mono ?_
 rintro e w2 ⟨⟨BB,P,rfl,hb⟩,K2⟩
 have hi:=inv_fresh secB sure0 List.length_replicate sure0_at
 have hcom:=commit_n (n:=0) rfl hb (by omega) hi rfl (by omega) (by decide) HG.out.rounds HG.out.items.pow
 have Hcom:=Lib.hid hcom
 clear hcom Hop hb K2
 go_wp2_with fail
 refine Hcom.out.mono ?_
 rintro e w3 ⟨ev,rfl,hres,K3⟩
 clear Hcom K3
 rcases hres with⟨_,rfl,hb⟩|⟨h,_⟩
 rotate_left
 ·exact absurd rfl h
 rw[show errVal 6= .iface 40 (.int .i64 6)from rfl]
 have htl:=tell_any 6 w3 (HG.out.errs.keep hb.keep (λx=>x))
 rw[show errVal 6= .iface 40 (.int .i64 6)from rfl]at htl
 have Htl:=Lib.hid htl
 have Hb:=Lib.hid hb
 clear htl hb
 go_wp2_with fail
 refine Htl.out.mono ?_
 rintro e w4 ⟨rfl,K4⟩
 have hb4:=Hb.out.keepN K4
 have hmk:=make_n hb4 2
 have Hmk:=Lib.hid hmk
 clear hmk hb4 Htl Hb K4
 go_wp2_with fail
 refine Hmk.out.mono ?_
 rintro e w5 ⟨he,hb5,K5⟩
 have he:e= .returned .nilIface:=he
 subst he
 have hb5:BaseN w w5 P BB D w1.heap.size (freshV secB) ⟨sure0,[],-1⟩ 0 ⟨2,[],[]⟩ 60:=hb5
 have hrow:Nums (w5.alloc (.cells #[.int .i64 1,.int .i64 2] 3)) (.slice (some ⟨w5.heap.size,0,none⟩) 2 2) [1,2]:=Nums.lit [1,2]
 have hput:=put_n (hb5.keepN ((Keep.refl NoB w5).alloc (.cells #[.int .i64 1,.int .i64 2] 3))) (by omega) ⟨⟨#[97]⟩,⟨#[]⟩,.slice (some ⟨w5.heap.size,0,none⟩) 2 2,[1,2]⟩ hrow (by simp)
 rw[show plainI ⟨⟨#[97]⟩,⟨#[]⟩,.slice (some ⟨w5.heap.size,0,none⟩) 2 2,[1,2]⟩=itemA from rfl,putA]at hput
 have Hput:=Lib.hid hput
 clear hput Hmk hb5 K5 hrow
 go_wp2_with fail
 refine Hput.out.mono ?_
 rintro e w6 ⟨he,hb6,K6⟩
 have he:e= .returned .nilIface:=he
 subst he
 have hit:=items_n hb6
 have Hit:=Lib.hid hit
 have Hb6:=Lib.hid hb6
 clear hit hb6 K6 Hput
 go_wp2_with fail
 refine Hit.out.mono ?_
 rintro e w7 ⟨⟨v,l,rfl,hv,hl,_⟩,K7⟩
 have hl0:l= []:=List.map_eq_nil_iff.1 hl
 subst hl0
 obtain⟨p,c,rfl⟩:=(RowsK.ofN encItem_len hv).len
 have hb7:=Hb6.out.keepN K7
 have hcom:=commit_n (n:=0) rfl hb7 (by omega) hi rfl (by omega) (by decide) HG.out.rounds HG.out.items.pow
 have Hcom:=Lib.hid hcom
 clear hcom hb7 hv hl Hit Hb6 K7
 go_wp2_with fail
 refine Hcom.out.mono ?_
 rintro e w8 ⟨ev,rfl,hres,K8⟩
 clear Hcom K8
 rcases hres with⟨h,_⟩|⟨_,hres⟩
 ·cases h
 rcases hres with⟨rfl,V',d',P',hb8,hg,hinv,hwt,hsd,hfu⟩|⟨_,hf,_⟩
 rotate_left
 ·exact absurd hf (by decide)
 have hrow:Nums (w8.alloc (.cells #[.int .i64 1,.int .i64 3] 3)) (.slice (some ⟨w8.heap.size,0,none⟩) 2 2) [1,3]:=Nums.lit [1,3]
 have hfi:=find_n (hb8.keepN ((Keep.refl NoB w8).alloc (.cells #[.int .i64 1,.int .i64 3] 3))) hrow (by simp) 1 ⟨#[]⟩ (by decide)
 have hK8:=hb8.keep
 have Hfi:=Lib.hid hfi
 have HK8:=Lib.hid hK8
 clear hfi hrow hb8 hg hinv hwt hsd hfu hK8
 go_wp2_with fail
 refine Hfi.out.mono ?_
 rintro e w9 ⟨hs,K9⟩
 unfold FindSaid at hs
 have hnow:itemsG (doneB ⟨2,[],[(⟨#[97]⟩,some itemA)]⟩).now= [itemA]:=by rfl
 rw[hnow,topA]at hs
 have hs2:∃(v':Value) (looked:Nat),e= .returned (.tuple #[v',.int .i64 looked,.nilIface])∧RowsK w9 v' 2 encF [(⟨#[97]⟩,1)]∧looked<= [itemA].length∧_:=hs
 obtain⟨v',lk,rfl,hr,_⟩:=hs2
 have hrl:=hr.len
 obtain⟨p2,c2,rfl⟩:=hrl
 have heq:=equalFound_any (.slice p2 1 c2) (.slice (some ⟨w9.heap.size,0,none⟩) 1 1) [(⟨#[97]⟩,1)] [(⟨#[97]⟩,1)] (w9.alloc (.cells #[.string ⟨#[97]⟩,.int .i64 1] 55)) (hr.keep ((Keep.refl NoB w9).alloc _) (λ_ _ x=>x)) (RowsK.lit (enc:=encF) (k:=2) (λ_=>rfl) [(⟨#[97]⟩,1)]) (by simp) (by simp)
 have Heq:=Lib.hid heq
 have HKf:=Lib.hid ((HK8.out.alloc (.cells #[.int .i64 1,.int .i64 3] 3)).thenN K9)
 clear heq hr hs Hfi K9 hnow
 go_wp2_with fail
 refine Heq.out.mono ?_
 rintro e wz ⟨rfl,qz,rfl⟩
 clear Heq
 go_wp2_with fail
 go_ret
 exact⟨by simp,(HKf.out.alloc _).drewN qz⟩
end Go.Proofs.YtnmhgehpddipdaaGreatDoor
namespace Go.Proofs.YtnmhgehpddipdaaGreatDoor
open Go.RowKit Go.Cof
def wrongV(n:Int):Value:= .iface 116 (.agg #[.int .i64 n])
theorem must_nil(w:World):Calls Tryz.prog 68 #[.nilIface] w λe w'=>e= .returned (.tuple #[])∧w'=w:=by
 go_enter Tryz.func68,Tryz.ntmps68
 go_wp2_with fail
 exact bodyPost_end (results_none rfl _ _ _) rfl ⟨rfl,rfl⟩
theorem must_errno(n:Int)(w:World)(hg:ErrVar w):Calls Tryz.prog 68 #[.iface 40 (.int .i64 n)] w λe w'=>e= .panicked [{ v:=wrongV n,recovered:=false }]∧Keep NoB w w':=by
 have ht:=tell_errno n w hg
 have Ht:=Lib.hid ht
 clear ht hg
 go_enter Tryz.func68,Tryz.ntmps68
 go_wp2_with fail
 refine Ht.out.mono ?_
 rintro e w' ⟨rfl,K⟩
 go_wp2_with fail
 exact⟨rfl,rfl,K⟩
theorem words_ok(p:Option Addr)(k c:Nat)(w:World):Calls Tryz.prog 58 #[.slice p k c,.int .i64 k] w λe w'=>e= .returned (.tuple #[])∧w'=w:=by
 go_enter Tryz.func58,Tryz.ntmps58
 go_wp2_with fail
 exact bodyPost_end (results_none rfl _ _ _) rfl ⟨rfl,rfl⟩
theorem deskNumber_ok(v:Int)(w:World)(h:Lib.atoiAll (Lib.itoa v)= .ok v)(hl:(Lib.itoa v).length<=1000000)(T:PowVar w):
  Calls Tryz.prog 183 #[.string ⟨(Lib.itoa v).toArray⟩] w λe w'=>e= .returned (.int .i64 v)∧Keep NoB w w':=by
 have hvb:=Lib.atoiAll_bounds h
 have hito:=λw1 (K:Keep NoB w w1)=>itoa_any v hvb.1 hvb.2 w1 (T.keep K (λx=>x))
 obtain⟨s,hs⟩:∃s:ByteArray,s=⟨(Lib.itoa v).toArray⟩:=⟨_,rfl⟩
 have hsl:s.data.toList=Lib.itoa v:=by rw[hs]
 have hsz:s.size=(Lib.itoa v).length:=by rw[hs];rfl
 rw[<-hs]at hito⊢
 have hc:=Tryz.strconv_Atoi_ok s (by omega) v (by rw[hsl];exact h) w
 have Hc:=Lib.hid hc
 have Hito:=Lib.hid hito
 have hB:(s.toList==s.toList)=true:=beq_self_eq_true _
 clear hito hs hsl hsz hc h hvb
 go_enter Tryz.func183,Tryz.ntmps183
 go_wp2_with fail
 refine Hc.out.mono ?_
 rintro e w1 ⟨rfl,hw1⟩
 have K1:Keep NoB w w1:=by
  rcases hw1 with rfl|⟨t,rfl⟩
  ·exact Keep.refl _ _
  ·exact keep_bytes _ _ _
 clear hw1 Hc
 go_wp2_with fail
 refine(Hito.out _ K1).mono ?_
 rintro e w2 ⟨rfl,K2⟩
 go_wp2_with fail
 go_ret
 exact⟨rfl,K1.thenN K2⟩
def deskCells(D C:Nat)(bv:Value)(secret:ByteArray)(iv:Value):Array Value:= #[.pointer (some ⟨D,0,none⟩),.pointer (some ⟨C,0,none⟩),bv,.string secret,iv]
def DeskRow(w:World)(DD D C:Nat)(bv:Value)(secret:ByteArray)(iv:Value):Prop:=w.heap[DD]? =some (.cells (deskCells D C bv secret iv) 62 (0,0))
section
variable {w w':World}{DD D C:Nat}{bv iv:Value}{secret:ByteArray}
theorem DeskRow.cell0(h:DeskRow w DD D C bv secret iv):w.cell? ⟨DD,0,none⟩=some (.pointer (some ⟨D,0,none⟩)):=cellOf h 0 rfl
theorem DeskRow.cell1(h:DeskRow w DD D C bv secret iv):w.cell? ⟨DD,1,none⟩=some (.pointer (some ⟨C,0,none⟩)):=cellOf h 1 rfl
theorem DeskRow.cell2(h:DeskRow w DD D C bv secret iv):w.cell? ⟨DD,2,none⟩=some bv:=cellOf h 2 rfl
theorem DeskRow.cell3(h:DeskRow w DD D C bv secret iv):w.cell? ⟨DD,3,none⟩=some (.string secret):=cellOf h 3 rfl
theorem DeskRow.cell4(h:DeskRow w DD D C bv secret iv):w.cell? ⟨DD,4,none⟩=some iv:=cellOf h 4 rfl
theorem DeskRow.keep(h:DeskRow w DD D C bv secret iv){S:Nat->Prop}(hk:Keep S w w')(hn:¬S DD):DeskRow w' DD D C bv secret iv:=hk.heap h hn
theorem deskBase_ok{BB:Nat}(h:DeskRow w DD D C (.pointer (some ⟨BB,0,none⟩)) secret iv):Calls Tryz.prog 185 #[.pointer (some ⟨DD,0,none⟩)] w λe w'=>e= .returned (.pointer (some ⟨BB,0,none⟩))∧w'=w:=by
 have c2:=h.cell2
 go_enter Tryz.func185,Tryz.ntmps185
 go_wp2_with fail
 go_ret
 exact⟨rfl,rfl⟩
theorem deskBase_none(h:DeskRow w DD D C (.pointer none) secret iv)(hg:ErrVar w):Calls Tryz.prog 185 #[.pointer (some ⟨DD,0,none⟩)] w λe w'=>e= .panicked [{ v:=wrongV 8,recovered:=false }]∧Keep NoB w w':=by
 have c2:=h.cell2
 have hm:=must_errno 8 w hg
 have Hm:=Lib.hid hm
 clear hm hg h
 go_enter Tryz.func185,Tryz.ntmps185
 go_wp2_with fail
 refine Hm.out.mono ?_
 rintro e w1 ⟨rfl,K1⟩
 go_wp2_with fail
 exact⟨rfl,rfl,K1⟩
end
structure DeskS(w0 w:World)(P:Nat->Prop)(DD BB D C:Nat)(secret:ByteArray)(V:VaultV)(d:DevV)(n:Nat)(b:BaseV)(k:Nat)(iv:Value)(img:List ByteArray):Prop where
 base:BaseN w0 w P BB D C V d n b k
 row:DeskRow w DD D C (.pointer (some ⟨BB,0,none⟩)) secret iv
 sep:¬P DD
 new:w0.heap.size<=DD
 image:Strs w iv img
 isep:∀g,iv.ownBlock=some g->¬P g∧g≠DD∧g<w.heap.size
 inv:InvV secret V d.sure n
 wait:d.wait= []
 fuse:d.fuse<0
 said:Said V.texts b
section
variable {w0 w w':World}{P:Nat->Prop}{DD BB D C:Nat}{secret:ByteArray}{V:VaultV}{d:DevV}{n:Nat}{b:BaseV}{k:Nat}{iv:Value}{img:List ByteArray}
theorem DeskS.keepN(h:DeskS w0 w P DD BB D C secret V d n b k iv img)(K:Keep NoB w w'):DeskS w0 w' P DD BB D C secret V d n b k iv img:=
 ⟨h.base.keepN K,h.row.keep K (λx=>x),h.sep,h.new,h.image.keep K (λ_ _ x=>x),λg hg=>⟨(h.isep g hg).1,(h.isep g hg).2.1,Nat.lt_of_lt_of_le (h.isep g hg).2.2 K.size⟩,h.inv,h.wait,h.fuse,h.said⟩
theorem DeskRow.lt{bv:Value}(h:DeskRow w DD D C bv secret iv):DD<w.heap.size:=lt_of_heap h
theorem DeskS.step(h:DeskS w0 w P DD BB D C secret V d n b k iv img){P':Nat->Prop}{V':VaultV}{d':DevV}{n':Nat}{b':BaseV}{k':Nat}(hb:BaseN w0 w' P' BB D C V' d' n' b' k')(K:Keep P w w')(g:Grow w P P')(hi:InvV secret V' d'.sure n')(hw:d'.wait= [])(hf:d'.fuse<0)(hs:Said V'.texts b'):
  DeskS w0 w' P' DD BB D C secret V' d' n' b' k' iv img:=
 ⟨hb,h.row.keep K h.sep,λhx=>(g DD hx).elim h.sep (λe=>by have:=h.row.lt;omega),h.new,h.image.keep K (λq hq hp=>(h.isep q hq).1 hp),λq hq=>⟨λhx=>(g q hx).elim (h.isep q hq).1 (λe=>by have:=(h.isep q hq).2.2;omega),(h.isep q hq).2.1,Nat.lt_of_lt_of_le (h.isep q hq).2.2 K.size⟩,hi,hw,hf,hs⟩
def makeTxt:ByteArray:=⟨#[109,97,107,101]⟩
def putTxt:ByteArray:=⟨#[112,117,116]⟩
def imageTxt:ByteArray:=⟨#[105,109,97,103,101]⟩
def layTxt:ByteArray:=⟨#[108,97,121]⟩
def commitTxt(n:Nat):ByteArray:=⟨#[99,111,109,109,105,116,32]⟩++⟨(Lib.itoa (n:Int)).toArray⟩
theorem deskDim_ok(h:DeskS w0 w P DD BB D C secret V d n nilB k iv img)(hs2:Said V.texts ⟨2,[],[]⟩)(G:BaseVars w0){p:Option Addr}{c:Nat}(S:Strs w (.slice p 1 c) [⟨#[50]⟩]):
  Calls Tryz.prog 129 #[.pointer (some ⟨DD,0,none⟩),.slice p 1 c] w λe w'=>e= .returned (.string makeTxt)∧DeskS w0 w' P DD BB D C secret V d n ⟨2,[],[]⟩ k iv img∧Keep P w w':=by
 obtain⟨g,off,hpe,hsc⟩:∃g off,p=some ⟨g,off,none⟩∧w.cell? ⟨g,off,none⟩=some (.string ⟨#[50]⟩):=by
  rcases S with⟨h0,_⟩|⟨g,off,c',hv,_,hc⟩
  ·cases h0
  ·cases hv;exact⟨g,off,rfl,by simpa using hc 0 (by simp)⟩
 subst hpe
 have hnum:=deskNumber_ok 2 w (by decide+kernel) (by decide+kernel) (G.items.pow.keep h.base.keep (λx=>x))
 rw[show(⟨(Lib.itoa 2).toArray⟩:ByteArray)=⟨#[50]⟩by decide+kernel]at hnum
 have H:=Lib.hid h
 have Hnum:=Lib.hid hnum
 have Hs2:=Lib.hid hs2
 clear h hnum S hs2
 go_enter Tryz.func129,Tryz.ntmps129
 go_wp2_with fail
 refine(words_ok _ 1 c w).mono ?_
 rintro e w1 ⟨rfl,hw1⟩
 subst w1
 go_wp2_with fail
 refine Hnum.out.mono ?_
 rintro e w1 ⟨rfl,K1⟩
 have H1:=Lib.hid (H.out.keepN K1)
 have hb:=deskBase_ok H1.out.row
 have Hb:=Lib.hid hb
 have HK1:=Lib.hid K1
 clear hb Hnum H K1 hsc
 go_wp2_with fail
 refine Hb.out.mono ?_
 rintro e w2 ⟨rfl,hw2⟩
 subst w2
 have hmk:=make_n H1.out.base 2
 have Hmk:=Lib.hid hmk
 clear hmk Hb
 go_wp2_with fail
 refine Hmk.out.mono ?_
 rintro e w2 ⟨he,hb2,K2⟩
 have he:e= .returned .nilIface:=he
 subst he
 have hb2:BaseN w0 w2 P BB D C V d n ⟨2,[],[]⟩ k:=hb2
 have H2:=Lib.hid (H1.out.step hb2 K2 (Grow.refl _ _) H1.out.inv H1.out.wait H1.out.fuse Hs2.out)
 have HK2:=Lib.hid ((HK1.out.ofN (S:=P)).then K2)
 clear Hmk hb2 K2 H1 HK1
 go_wp2_with fail
 refine(must_nil _).mono ?_
 rintro e w3 ⟨rfl,hw3⟩
 subst w3
 go_wp2_with fail
 go_ret
 exact⟨rfl,H2.out,HK2.out⟩
theorem deskCommit_ok(h:DeskS w0 w P DD BB D C secret V d n b k iv img)(G:BaseVars w0)(hk:k<900000)(hn:n<900)(hd:b.dim≠0)(hsec:secret.size=16)(p:Option Addr)(c:Nat):
  Calls Tryz.prog 118 #[.pointer (some ⟨DD,0,none⟩),.slice p 0 c] w λe w'=>e= .returned (.string (commitTxt (n+1)))∧(∃V' d' P',DeskS w0 w' P' DD BB D C secret V' d' (n+1) (doneB b) k iv img∧Grow w P P')∧Keep P w w':=by
 have hb:=deskBase_ok h.row
 have hcom:=commit_n (n:=n) rfl h.base hk h.inv h.wait (by omega) (by omega) G.rounds G.items.pow
 have H:=Lib.hid h
 have Hb:=Lib.hid hb
 have Hcom:=Lib.hid hcom
 clear h hb hcom
 go_enter Tryz.func118,Tryz.ntmps118
 go_wp2_with fail
 refine(words_ok _ 0 c w).mono ?_
 rintro e w1 ⟨rfl,hw1⟩
 subst w1
 go_wp2_with fail
 refine Hb.out.mono ?_
 rintro e w2 ⟨rfl,hw2⟩
 subst w2
 go_wp2_with fail
 refine Hcom.out.mono ?_
 rintro e w2 ⟨ev,rfl,hres,K2⟩
 rcases hres with⟨h0,_⟩|⟨_,hres⟩
 ·exact absurd h0 hd
 rcases hres with⟨rfl,V',d',P',hb2,hg,hi2,hw2,hs2,hf2,_⟩|⟨_,hf,_⟩
 rotate_left
 ·exact absurd hf (by have:=H.out.fuse;omega)
 have H2:=Lib.hid (H.out.step hb2 K2 hg hi2 hw2 (by rw[hf2 H.out.fuse];exact H.out.fuse) hs2)
 have Hg:=Lib.hid hg
 have HK2:=Lib.hid K2
 have hcnt:=count_n hb2
 rw[hi2.cnt]at hcnt
 have Hcnt:=Lib.hid hcnt
 clear hcnt hb2 hg hi2 hw2 hs2 hf2 K2 Hcom Hb H
 go_wp2_with fail
 refine(must_nil _).mono ?_
 rintro e w3 ⟨rfl,hw3⟩
 subst w3
 go_wp2_with fail
 refine Hcnt.out.mono ?_
 rintro e w3 ⟨rfl,K3⟩
 have hito:=itoa_any (((n+1:Nat):Int)) (by omega) (by omega) w3 (G.items.pow.keep (H2.out.base.keep.thenN K3) (λx=>x))
 obtain⟨it,hit⟩:∃it:ByteArray,it=⟨(Lib.itoa ((n+1:Nat):Int)).toArray⟩:=⟨_,rfl⟩
 rw[<-hit]at hito
 have hlen:it.size<=30:=by
  rw[hit]
  have h5:=itoa_len ((n+1:Nat):Int) (by omega)
  show(Lib.itoa ((n+1:Nat):Int)).length<=30
  omega
 have hcat:¬(9223372036854775807<(⟨#[99,111,109,109,105,116,32]⟩:ByteArray).size+it.size):=by
  have:(⟨#[99,111,109,109,105,116,32]⟩:ByteArray).size=7:=rfl
  omega
 have Hito:=Lib.hid hito
 have H3:=Lib.hid (H2.out.keepN K3)
 have HK3:=Lib.hid (HK2.out.thenN K3)
 have Hit:=Lib.hid hit
 clear hito hit Hcnt K3
 go_wp2_with fail
 refine Hito.out.mono ?_
 rintro e w4 ⟨rfl,K4⟩
 go_wp2_with fail
 go_ret
 exact⟨by rw[Hit.out];rfl,⟨V',d',P',H3.out.keepN K4,Hg.out⟩,HK3.out.thenN K4⟩
theorem deskKeep_ok(h:DeskS w0 w P DD BB D C secret V d n b k iv img)(p:Option Addr)(c:Nat):
  Calls Tryz.prog 126 #[.pointer (some ⟨DD,0,none⟩),.slice p 0 c] w λe w'=>e= .returned (.string imageTxt)∧(∃iv',DeskS w0 w' P DD BB D C secret V d n b k iv' d.sure∧∀g,iv'.ownBlock=some g->w.heap.size<=g∧∃cs fz,w'.heap[g]? =some (.cells cs 9 fz))∧Keep (OneB DD) w w':=by
 obtain⟨B,S',wv,mb,wb,CC,nm,nw,L,W,hb⟩:=h.base
 have him:=image_own hb.vn.dev
 have c0:=h.row.cell0
 have hlt:=h.row.lt
 have H:=Lib.hid h
 have Him:=Lib.hid him
 clear h him hb
 go_enter Tryz.func126,Tryz.ntmps126
 go_wp2_with fail
 refine(words_ok _ 0 c w).mono ?_
 rintro e w1 ⟨rfl,hw1⟩
 subst w1
 go_wp2_with fail
 refine Him.out.mono ?_
 rintro e w2 ⟨g,cg,rfl,hS,hg,⟨gcs,gfz,hty⟩,K2⟩
 have Hty:=Lib.hid hty
 clear hty
 have H2:=Lib.hid (H.out.keepN K2)
 have c4:=H2.out.row.cell4
 have hS2:=Lib.hid hS
 have HK2:=Lib.hid K2
 have hfz:w2.frozen? ⟨DD,4,none⟩=false:=by have h2:w2.heap[DD]? =some (.cells _ _ (0,0)):=H2.out.row;simp[World.frozen?,h2]
 clear hS K2 Him
 go_wp2_with fail
 go_ret
 have hrow:DeskRow (w2.setCell ⟨DD,4,none⟩ (.slice (some ⟨g,0,none⟩) 66 cg)) DD D C (.pointer (some ⟨BB,0,none⟩)) secret (.slice (some ⟨g,0,none⟩) 66 cg):=by
  show(w2.setCell ⟨DD,4,none⟩ _).heap[DD]? =_
  rw[heap_setCell_row H2.out.row]
  rfl
 have KS:Keep (OneB DD) w2 (w2.setCell ⟨DD,4,none⟩ (.slice (some ⟨g,0,none⟩) 66 cg)):=(Keep.refl _ _).setCell (p:=⟨DD,4,none⟩) (.inl (show OneB DD DD from rfl)) _
 have hOD:OtherB w2 (OneB DD):=one_otherT H2.out.row ⟨by decide,by decide,by decide,by decide,by decide⟩
 have hg2:g<w2.heap.size:=by
  rcases hS2.out with⟨h0,p',c',hv⟩|⟨g',off,c',hv,hlt',_⟩
  ·simp at hv
  ·simp only[Value.slice.injEq,Option.some.injEq,Addr.mk.injEq]at hv
   rw[hv.1.1];exact hlt'
 have hgD:g≠DD:=by have:=HK2.out.size;omega
 have hPg:¬P g:=λhp=>by have:=H.out.base.lt g hp;omega
 obtain⟨B,S',wv,mb,wb,CC,nm,nw,L,W,hb⟩:=H2.out.base
 have hmbD:¬OneB DD mb:=λe=>by have e:mb=DD:=e;exact hb.rd.now.row_ne H2.out.row e
 refine⟨rfl,⟨_,⟨⟨B,S',wv,mb,wb,CC,nm,nw,L,W,hb.keepOther KS hOD (λx hx e=>by have e:x=DD:=e;subst e;exact H2.out.sep hx) hmbD (λx hx e=>by have e:x=DD:=e;have:=H2.out.new;omega)⟩,hrow,H2.out.sep,H2.out.new,hS2.out.keep KS (λq hq e=>by have e:q=DD:=e;obtain rfl:g=q:=Option.some.inj hq;exact hgD e),λq hq=> ?_,H2.out.inv,H2.out.wait,H2.out.fuse,H2.out.said⟩,λq hq=> ?_⟩,HK2.out.ofN.then KS⟩
 ·obtain rfl:g=q:=Option.some.inj hq
  exact⟨hPg,hgD,Nat.lt_of_lt_of_le hg2 KS.size⟩
 ·obtain rfl:g=q:=Option.some.inj hq
  exact⟨hg,gcs,gfz,KS.heap Hty.out (λe=>by have e:g=DD:=e;exact hgD e)⟩
end
def AgC(DD D C:Nat)(secret:ByteArray)(W:World):Prop:=W.cell? ⟨DD,0,none⟩=some (.pointer (some ⟨D,0,none⟩))∧W.cell? ⟨DD,1,none⟩=some (.pointer (some ⟨C,0,none⟩))∧W.cell? ⟨DD,3,none⟩=some (.string secret)
theorem DeskRow.agC{w:World}{DD D C:Nat}{bv iv:Value}{secret:ByteArray}(h:DeskRow w DD D C bv secret iv):AgC DD D C secret w:=⟨h.cell0,h.cell1,h.cell3⟩
theorem DeskRow.setBase{w:World}{DD D C:Nat}{bv iv:Value}{secret:ByteArray}(h:DeskRow w DD D C bv secret iv)(v:Value):DeskRow (w.setCell ⟨DD,2,none⟩ v) DD D C v secret iv:=by
 show(w.setCell ⟨DD,2,none⟩ _).heap[DD]? =_
 rw[heap_setCell_row h]
 rfl
theorem DeskRow.frozen{w:World}{DD D C:Nat}{bv iv:Value}{secret:ByteArray}(h:DeskRow w DD D C bv secret iv)(i:Nat):w.frozen? ⟨DD,i,none⟩=false:=by
 have h2:w.heap[DD]? =some (.cells _ _ (0,0)):=h
 simp[World.frozen?,h2]
section
variable {w:World}{DD D C:Nat}{bv iv:Value}{secret:ByteArray}
set_option maxRecDepth 100000
theorem again_ok{R:Nat->World->Prop}(hr:DeskRow w DD D C bv secret iv)(hC:DD≠C)
  (hOp:∀W,Keep NoB (w.setCell ⟨DD,2,none⟩ (.pointer none)) W->Calls Tryz.prog 11 #[.pointer (some ⟨D,0,none⟩),.pointer (some ⟨C,0,none⟩),.string secret] W λe W'=>∃BB,e= .returned (.tuple #[.pointer (some ⟨BB,0,none⟩),.nilIface])∧R BB W'∧Keep (OneB C) W W'):
  Calls Tryz.prog 60 #[.pointer (some ⟨DD,0,none⟩)] w λe w'=>e= .returned (.tuple #[])∧∃BB W',R BB W'∧Keep (OneB C) (w.setCell ⟨DD,2,none⟩ (.pointer none)) W'∧DeskRow W' DD D C (.pointer none) secret iv∧w'=W'.setCell ⟨DD,2,none⟩ (.pointer (some ⟨BB,0,none⟩)):=by
 have hc2:=hr.cell2
 have hf2:=hr.frozen 2
 have hr1:=hr.setBase (.pointer none)
 have HR:=Lib.hid hr1
 have HOp:=Lib.hid hOp
 clear hOp hr hr1
 go_enter Tryz.func60,Tryz.ntmps60
 go_wp2_with fail
 have a1:=HR.out.agC
 obtain⟨w1,hw1⟩:∃w1,w1=w.setCell ⟨DD,2,none⟩ (.pointer none):=⟨_,rfl⟩
 rw[<-hw1]at a1 HR HOp⊢
 have l1:∀x:InC (AgC DD D C secret),x.w.cell? ⟨DD,0,none⟩=some (.pointer (some ⟨D,0,none⟩)):=λx=>x.h.1
 have l2:∀x:InC (AgC DD D C secret),x.w.cell? ⟨DD,1,none⟩=some (.pointer (some ⟨C,0,none⟩)):=λx=>x.h.2.1
 have l3:∀x:InC (AgC DD D C secret),x.w.cell? ⟨DD,3,none⟩=some (.string secret):=λx=>x.h.2.2
 have Hw1:=Lib.hid hw1
 clear hc2 hf2 hw1
 refine wp_region_mix (AgC DD D C secret) [(true,0),(true,1),(true,2),(true,3),(true,4),(true,5),(true,6),(true,7),(true,8),(true,9),(true,10),(true,11),(false,12),(true,13),(true,14),(true,15),(true,16),(false,17)] (by kernel_rfl) (by kernel_rfl) (λc a d v w h=>by cases d<;>exact h) ?_
 simp only[wpMixC,pickL,List.getElem?_toArray,List.getElem?_cons_succ,List.getElem?_cons_zero]
 repeat(refine wpEarlyC_step (λK hK=> ?_);go_simp;first|(refine⟨_,λ_=>rfl,hK _ ?_⟩;clear hK K;refine wpEarlyC_nil ?_)|(refine hK _ ?_;clear hK K;refine wpEarlyC_nil ?_))
 clear l1 l2 l3
 refine⟨a1,?_⟩
 go_wp2_with fail
 refine(HOp.out _ ((Keep.refl NoB w1).drew)).mono ?_
 rintro e w2 ⟨BB,rfl,hR,K2⟩
 have K2':Keep (OneB C) w1 w2:=((Keep.refl NoB w1).drew.ofN (S:=OneB C)).then K2
 have hr2:=HR.out.keep K2' (λe=>hC e)
 have a2:=hr2.agC
 have HR2:=Lib.hid hr2
 have HK:=Lib.hid K2'
 have HRR:=Lib.hid hR
 clear hR K2 K2' hr2 HOp a1
 go_wp2_with fail
 repeat(refine wpEarlyC_step (λK hK=> ?_);go_simp;first|(refine⟨_,λ_=>rfl,hK _ ?_⟩;clear hK K;refine wpEarlyC_nil ?_)|(refine hK _ ?_;clear hK K;refine wpEarlyC_nil ?_))
 refine⟨a2,?_⟩
 go_wp2_with fail
 refine(must_nil _).mono ?_
 rintro e w3 ⟨rfl,hw3⟩
 subst w3
 have hc2:=HR2.out.cell2
 have hf2:=HR2.out.frozen 2
 go_wp2_with fail
 exact bodyPost_end (results_none rfl _ _ _) rfl ⟨rfl,BB,w2,HRR.out,by rw[<-Hw1.out];exact HK.out,HR2.out,rfl⟩
theorem again_bad{R:World->Prop}(hRK:∀a b,R a->Keep NoB a b->R b)(hr:DeskRow w DD D C bv secret iv)(hC:DD≠C)
  (hOp:∀W,Keep NoB (w.setCell ⟨DD,2,none⟩ (.pointer none)) W->Calls Tryz.prog 11 #[.pointer (some ⟨D,0,none⟩),.pointer (some ⟨C,0,none⟩),.string secret] W λe W'=>e= .returned (.tuple #[.pointer none,errVal 15])∧ErrVar W'∧R W'∧Keep (OneB C) W W'):
  Calls Tryz.prog 60 #[.pointer (some ⟨DD,0,none⟩)] w λe w'=>e= .panicked [{ v:=wrongV 15,recovered:=false }]∧DeskRow w' DD D C (.pointer none) secret iv∧R w'∧Keep (λi=>i=DD∨i=C) w w':=by
 have hc2:=hr.cell2
 have hf2:=hr.frozen 2
 have hr1:=hr.setBase (.pointer none)
 have HR:=Lib.hid hr1
 have HRK:=Lib.hid hRK
 have HOp:=Lib.hid hOp
 have K0:Keep (λi=>i=DD∨i=C) w (w.setCell ⟨DD,2,none⟩ (.pointer none)):=(Keep.refl _ _).setCell (p:=⟨DD,2,none⟩) (.inl (Or.inl rfl)) _
 have HK0:=Lib.hid K0
 clear hOp hr hr1 K0 hRK
 go_enter Tryz.func60,Tryz.ntmps60
 go_wp2_with fail
 have a1:=HR.out.agC
 obtain⟨w1,hw1⟩:∃w1,w1=w.setCell ⟨DD,2,none⟩ (.pointer none):=⟨_,rfl⟩
 rw[<-hw1]at a1 HR HOp HK0⊢
 have l1:∀x:InC (AgC DD D C secret),x.w.cell? ⟨DD,0,none⟩=some (.pointer (some ⟨D,0,none⟩)):=λx=>x.h.1
 have l2:∀x:InC (AgC DD D C secret),x.w.cell? ⟨DD,1,none⟩=some (.pointer (some ⟨C,0,none⟩)):=λx=>x.h.2.1
 have l3:∀x:InC (AgC DD D C secret),x.w.cell? ⟨DD,3,none⟩=some (.string secret):=λx=>x.h.2.2
 clear hc2 hf2 hw1
 refine wp_region_mix (AgC DD D C secret) [(true,0),(true,1),(true,2),(true,3),(true,4),(true,5),(true,6),(true,7),(true,8),(true,9),(true,10),(true,11),(false,12),(true,13),(true,14),(true,15),(true,16),(false,17)] (by kernel_rfl) (by kernel_rfl) (λc a d v w h=>by cases d<;>exact h) ?_
 simp only[wpMixC,pickL,List.getElem?_toArray,List.getElem?_cons_succ,List.getElem?_cons_zero]
 repeat(refine wpEarlyC_step (λK hK=> ?_);go_simp;first|(refine⟨_,λ_=>rfl,hK _ ?_⟩;clear hK K;refine wpEarlyC_nil ?_)|(refine hK _ ?_;clear hK K;refine wpEarlyC_nil ?_))
 clear l1 l2 l3
 refine⟨a1,?_⟩
 go_wp2_with fail
 refine(HOp.out _ ((Keep.refl NoB w1).drew)).mono ?_
 rintro e w2 ⟨rfl,hE,hR,K2⟩
 have K2':Keep (OneB C) w1 w2:=((Keep.refl NoB w1).drew.ofN (S:=OneB C)).then K2
 have hr2:=HR.out.keep K2' (λe=>hC e)
 have a2:=hr2.agC
 have HR2:=Lib.hid hr2
 have HK:=Lib.hid (HK0.out.then (K2'.mono (λi _ e=>Or.inr e)))
 have hm:=must_errno 15 w2 hE
 have Hm:=Lib.hid hm
 have HRR:=Lib.hid hR
 rw[show errVal 15= .iface 40 (.int .i64 15)from rfl]
 clear hE K2 K2' hr2 HOp a1 hm hR
 go_wp2_with fail
 repeat(refine wpEarlyC_step (λK hK=> ?_);go_simp;first|(refine⟨_,λ_=>rfl,hK _ ?_⟩;clear hK K;refine wpEarlyC_nil ?_)|(refine hK _ ?_;clear hK K;refine wpEarlyC_nil ?_))
 refine⟨a2,?_⟩
 go_wp2_with fail
 refine Hm.out.mono ?_
 rintro e w3 ⟨rfl,K3⟩
 go_wp2_with fail
 exact⟨rfl,rfl,HR2.out.keep K3 (λx=>x),HRK.out _ _ HRR.out K3,HK.out.thenN K3⟩
theorem baseOpen_bad{S:Nat}{wv:Value}{d:DevV}(hd:DevIs w D S wv d){n:Nat}(hc:CountAt w C n)(hn:n<1000000)(hb:∀i,i<66->(d.now.getD i ⟨#[]⟩).size=256)(hs:secret.size=16)(R:RoundsVar w)(ho:openV secret d.now n=none):
  Calls Tryz.prog 11 #[.pointer (some ⟨D,0,none⟩),.pointer (some ⟨C,0,none⟩),.string secret] w λe w'=>e= .returned (.tuple #[.pointer none,errVal 15])∧CountAt w' C n∧Keep (OneB C) w w':=by
 have hv:=vaultOpen_any hd hb n (by omega) hc secret hs R
 rw[ho]at hv
 have Hv:=Lib.hid hv
 clear hv hd hc hb R ho
 go_enter Tryz.func11,Tryz.ntmps11
 go_wp2_with fail
 refine Hv.out.mono ?_
 rintro e w1 ⟨⟨rfl,hc⟩,K⟩
 rw[show errVal 15= .iface 40 (.int .i64 15)from rfl]
 go_wp2_with fail
 go_ret2
 exact⟨rfl,hc,K⟩
theorem deskOpen_bad(p:Option Addr)(c:Nat){R:World->Prop}(hA:Calls Tryz.prog 60 #[.pointer (some ⟨DD,0,none⟩)] w λe w'=>e= .panicked [{ v:=wrongV 15,recovered:=false }]∧R w'):
  Calls Tryz.prog 130 #[.pointer (some ⟨DD,0,none⟩),.slice p 0 c] w λe w'=>e= .panicked [{ v:=wrongV 15,recovered:=false }]∧R w':=by
 have HA:=Lib.hid hA
 clear hA
 go_enter Tryz.func130,Tryz.ntmps130
 go_wp2_with fail
 refine(words_ok _ 0 c w).mono ?_
 rintro e w1 ⟨rfl,hw1⟩
 subst w1
 go_wp2_with fail
 refine HA.out.mono ?_
 rintro e w2 ⟨rfl,hR⟩
 go_wp2_with fail
 exact⟨rfl,rfl,hR⟩
theorem deskItems_none(hr:DeskRow w DD D C (.pointer none) secret iv)(hg:ErrVar w)(p:Option Addr)(c:Nat):
  Calls Tryz.prog 127 #[.pointer (some ⟨DD,0,none⟩),.slice p 0 c] w λe w'=>e= .panicked [{ v:=wrongV 8,recovered:=false }]∧Keep NoB w w':=by
 have hb:=deskBase_none hr hg
 have Hb:=Lib.hid hb
 clear hb hr hg
 go_enter Tryz.func127,Tryz.ntmps127
 go_wp2_with fail
 refine(words_ok _ 0 c w).mono ?_
 rintro e w1 ⟨rfl,hw1⟩
 subst w1
 go_wp2_with fail
 refine Hb.out.mono ?_
 rintro e w2 ⟨rfl,K⟩
 go_wp2_with fail
 exact⟨rfl,rfl,K⟩
end
def secW(wd:ByteArray):ByteArray:=txt (Cof.mark 100 [bs wd])
def deskSec:ByteArray:=secW ⟨#[]⟩
structure FreshP(w wc:World)(DD:Nat)(c0 c1 c2 c3 c4:Value):Prop where
 keep:Keep (OneB DD) w wc
 row:wc.heap[DD]? =some (.cells #[c0,c1,c2,c3,c4] 62 (0,0))
section
variable {w wc wd:World}{DD:Nat}{c0 c1 c2 c3 c4:Value}
theorem FreshP.keepN(h:FreshP w wc DD c0 c1 c2 c3 c4)(K:Keep NoB wc wd):FreshP w wd DD c0 c1 c2 c3 c4:=⟨h.keep.thenN K,K.heap h.row (λx=>x)⟩
theorem FreshP.frozen(h:FreshP w wc DD c0 c1 c2 c3 c4)(i:Nat):wc.frozen? ⟨DD,i,none⟩=false:=by simp[World.frozen?,h.row]
theorem FreshP.cell(h:FreshP w wc DD c0 c1 c2 c3 c4)(i:Nat)(v:Value)(hv:(#[c0,c1,c2,c3,c4]:Array Value)[i]? =some v):wc.cell? ⟨DD,i,none⟩=some v:=cellOf h.row i hv
theorem FreshP.setK(i:Nat)(v:Value):Keep (OneB DD) wc (wc.setCell ⟨DD,i,none⟩ v):=(Keep.refl _ _).setCell (p:=⟨DD,i,none⟩) (.inl (show OneB DD DD from rfl)) _
theorem FreshP.set0(h:FreshP w wc DD c0 c1 c2 c3 c4)(v:Value):FreshP w (wc.setCell ⟨DD,0,none⟩ v) DD v c1 c2 c3 c4:=⟨h.keep.then (FreshP.setK 0 v),by rw[heap_setCell_row h.row];rfl⟩
theorem FreshP.set1(h:FreshP w wc DD c0 c1 c2 c3 c4)(v:Value):FreshP w (wc.setCell ⟨DD,1,none⟩ v) DD c0 v c2 c3 c4:=⟨h.keep.then (FreshP.setK 1 v),by rw[heap_setCell_row h.row];rfl⟩
theorem FreshP.set3(h:FreshP w wc DD c0 c1 c2 c3 c4)(v:Value):FreshP w (wc.setCell ⟨DD,3,none⟩ v) DD c0 c1 c2 v c4:=⟨h.keep.then (FreshP.setK 3 v),by rw[heap_setCell_row h.row];rfl⟩
theorem FreshP.set4(h:FreshP w wc DD c0 c1 c2 c3 c4)(v:Value):FreshP w (wc.setCell ⟨DD,4,none⟩ v) DD c0 c1 c2 c3 v:=⟨h.keep.then (FreshP.setK 4 v),by rw[heap_setCell_row h.row];rfl⟩
end
structure FreshR(w wc:World)(DD:Nat)(c2:Value)(sec:ByteArray)(D S C:Nat):Prop where
 part:FreshP w wc DD (.pointer (some ⟨D,0,none⟩)) (.pointer (some ⟨C,0,none⟩)) c2 (.string sec) (.slice none 0 0)
 dev:DevAt wc D S (.slice none 0 0) sure0 [] (-1)
 cnt:CountAt wc C 0
 loD:w.heap.size<=D
 loS:w.heap.size<=S
 loC:w.heap.size<=C
theorem strs_one{w:World}{G:Nat}{s:ByteArray}(h:w.heap[G]? =some (.cells #[.string s] 9 (0,0))):Strs w (.slice (some ⟨G,0,none⟩) 1 1) [s]:=
 .inr ⟨G,0,1,rfl,lt_of_heap h,λi hi=>by
  obtain rfl:i=0:=by simp at hi;omega
  exact cellOf h 0 rfl⟩
def newTxt:ByteArray:=⟨#[110,101,119]⟩
theorem secW_size(wd:ByteArray):(secW wd).size=16:=by rw[secW,txt_size,mark_len]
theorem deskSec_size:deskSec.size=16:=secW_size _
def FrC(wd:ByteArray)(g off:Nat)(W:World):Prop:=W.cell? ⟨g,off,none⟩=some (.string wd)
set_option maxRecDepth 100000
set_option maxHeartbeats 4000000
theorem deskFresh_g{wz w:World}{DD g off c:Nat}{v0 v1 v2 v3 v4:Value}(wd:ByteArray)(hwd:wd.size<=30000)(hDD:w.heap[DD]? =some (.cells #[v0,v1,v2,v3,v4] 62 (0,0)))(hg:w.cell? ⟨g,off,none⟩=some (.string wd))(hgD:g≠DD)(hw0K:Keep NoB wz w)(hDz:wz.heap.size<=DD)(G0:BaseVars wz)(R:RoundsVar w)(hRD:¬OneB DD 5):
  Calls Tryz.prog 23 #[.pointer (some ⟨DD,0,none⟩),.slice (some ⟨g,off,none⟩) 1 c] w λe w'=>e= .returned (.string newTxt)∧(∃BB D C P',DeskS wz w' P' DD BB D C (secW wd) (freshV (secW wd)) ⟨sure0,[],-1⟩ 0 nilB 60 (.slice none 0 0) []∧∀x,P' x->w.heap.size<=x)∧Keep (OneB DD) w w':=by
 have hmt:(markText 100 ([wd].map bs)).length<=100000:=by
  simp only[List.map_cons,List.map_nil,markText,List.foldl_cons,List.foldl_nil,List.length_append,List.length_cons,List.length_nil,be64_len,bs_len]
  omega
 obtain⟨sec,hsec⟩:∃sec,sec=secW wd:=⟨_,rfl⟩
 have hs16:sec.size=16:=by rw[hsec,secW_size]
 have hse:txt (Cof.mark 100 ([wd].map bs))=sec:=hsec.symm
 rw[<-hsec]
 clear hsec
 have HKz:=Lib.hid hw0K
 have HG0:=Lib.hid G0
 clear hw0K G0
 have F0:FreshP w w DD v0 v1 v2 v3 v4:=⟨Keep.refl _ _,hDD⟩
 obtain⟨w0,hw0⟩:∃x,x=w.drew:=⟨_,rfl⟩
 have a0:FrC wd g off w0:=by rw[hw0];exact hg
 have F0:FreshP w w0 DD v0 v1 v2 v3 v4:=F0.keepN (by rw[hw0];exact(Keep.refl NoB w).drew)
 have hltD:DD<w.heap.size:=lt_of_heap hDD
 have l1:∀x:InC (FrC wd g off),x.w.cell? ⟨g,off,none⟩=some (.string wd):=λx=>x.h
 have n0:0<1:=by decide
 go_enter Tryz.func23,Tryz.ntmps23
 go_wp2_with fail
 refine(words_ok _ 1 c w).mono ?_
 rintro e w1 ⟨rfl,hw1⟩
 subst w1
 go_wp2_with fail
 go_cut [] (λwr=>∃D S C,Hid (FreshR w wr DD v2 sec D S C))
 case first=>
  refine wp_region_tree (FrC wd g off) (.rd 0 (.rd 1 (.rd 2 (.rd 3 (.rd 5 (.rd 7 (.rd 8 (.rd 9 (.alt 4 (.alt 6 (.alt 10 (.alt 11 (.rd 12 (.rd 13 (.alt 14 (.rd 15 (.rd 16 (.alt 17 (.rd 18 (.rd 19 (.alt 20 (.rd 21 (.rd 22 (.alt 23 .fin .no))) .no))) .no))) .no))) .no) .no) (.alt 10 (.alt 6 (.alt 11 (.rd 12 (.rd 13 (.alt 14 (.rd 15 (.rd 16 (.alt 17 (.rd 18 (.rd 19 (.alt 20 (.rd 21 (.rd 22 (.alt 23 .fin .no))) .no))) .no))) .no))) .no) (.alt 11 (.rd 12 (.rd 13 (.alt 6 (.alt 14 (.rd 15 (.rd 16 (.alt 17 (.rd 18 (.rd 19 (.alt 20 (.rd 21 (.rd 22 (.alt 23 .fin .no))) .no))) .no))) .no) (.alt 14 (.alt 6 (.rd 15 (.rd 16 (.alt 17 (.rd 18 (.rd 19 (.alt 20 (.rd 21 (.rd 22 (.alt 23 .fin .no))) .no))) .no))) .no) .no)))) .no)) .no)) (.alt 6 (.alt 4 (.alt 10 (.alt 11 (.rd 12 (.rd 13 (.alt 14 (.rd 15 (.rd 16 (.alt 17 (.rd 18 (.rd 19 (.alt 20 (.rd 21 (.rd 22 (.alt 23 .fin .no))) .no))) .no))) .no))) .no) .no) (.alt 10 (.alt 4 (.alt 11 (.rd 12 (.rd 13 (.alt 14 (.rd 15 (.rd 16 (.alt 17 (.rd 18 (.rd 19 (.alt 20 (.rd 21 (.rd 22 (.alt 23 .fin .no))) .no))) .no))) .no))) .no) .no) .no)) (.alt 10 (.alt 4 (.alt 6 (.alt 11 (.rd 12 (.rd 13 (.alt 14 (.rd 15 (.rd 16 (.alt 17 (.rd 18 (.rd 19 (.alt 20 (.rd 21 (.rd 22 (.alt 23 .fin .no))) .no))) .no))) .no))) .no) (.alt 11 (.rd 12 (.rd 13 (.alt 6 (.alt 14 (.rd 15 (.rd 16 (.alt 17 (.rd 18 (.rd 19 (.alt 20 (.rd 21 (.rd 22 (.alt 23 .fin .no))) .no))) .no))) .no) (.alt 14 (.alt 6 (.rd 15 (.rd 16 (.alt 17 (.rd 18 (.rd 19 (.alt 20 (.rd 21 (.rd 22 (.alt 23 .fin .no))) .no))) .no))) .no) .no)))) .no)) (.alt 6 (.alt 4 (.alt 11 (.rd 12 (.rd 13 (.alt 14 (.rd 15 (.rd 16 (.alt 17 (.rd 18 (.rd 19 (.alt 20 (.rd 21 (.rd 22 (.alt 23 .fin .no))) .no))) .no))) .no))) .no) .no) .no)) .no))))))))))) (by kernel_rfl) (by kernel_rfl) (λc a d v w h=>by cases d<;>exact h) ?_
  rw[<-hw0]
  clear hw0
  iterate 8 (unfold wpT;simp only[pickL,List.getElem?_toArray,List.getElem?_cons_succ,List.getElem?_cons_zero];refine wpEarlyC_step (λK hK=> ?_);go_simp;first|(refine⟨_,λ_=>rfl,hK _ ?_⟩;clear hK K;refine wpEarlyC_nil ?_)|(refine hK _ ?_;clear hK K;refine wpEarlyC_nil ?_))
  unfold wpT;simp only[pickL,List.getElem?_toArray,List.getElem?_cons_succ,List.getElem?_cons_zero]
  refine⟨a0,?_,?_,?_,trivial⟩
  ·(try simp only[pickL,List.getElem?_toArray,List.getElem?_cons_succ,List.getElem?_cons_zero])
   go_wp2_with fail
   refine(newDev_any _).mono ?_
   rintro e w1 ⟨D,S,rfl,hd1,h1,h2,K1⟩
   have h1:w.heap.size<=D:=Nat.le_trans F0.keep.size h1
   have h2:w.heap.size<=S:=Nat.le_trans F0.keep.size h2
   have hdD:∀b,DevB D S (.slice none 0 0) b->b≠DD:=λb hb e=>hb.elim (λe1=>by omega) (λhb=>hb.elim (λe1=>by omega) (λe1=>by cases e1))
   have F1:=F0.keepN K1
   have a1:FrC wd g off w1:=(K1.cell (p:=⟨g,off,none⟩) (Lib.lt_of_cell a0) (λx=>x)).trans a0
   clear F0 a0
   go_wp2_with fail
   unfold wpT;simp only[pickL,List.getElem?_toArray,List.getElem?_cons_succ,List.getElem?_cons_zero]
   refine⟨a1,?_,?_,trivial⟩
   ·(try simp only[pickL,List.getElem?_toArray,List.getElem?_cons_succ,List.getElem?_cons_zero])
    go_wp2_with fail
    obtain⟨w2,hw2⟩:∃x,x=w1.alloc (.cells #[.int .i64 0] 33):=⟨_,rfl⟩
    obtain⟨C,hC⟩:∃x,x=w1.heap.size:=⟨_,rfl⟩
    rw[<-hw2,<-hC]
    have K2:Keep NoB w1 w2:=by rw[hw2];exact(Keep.refl _ _).alloc _
    have nC:w2.heap[C]? =some (Obj.cells #[.int .i64 0] 33 (0,0)):=by rw[hw2,hC];exact heap_alloc_new _ _
    have loC:w.heap.size<=C:=by rw[hC];exact F1.keep.size
    have hCD:C≠DD:=by omega
    have F2:=F1.keepN K2
    have a2:FrC wd g off w2:=(K2.cell (p:=⟨g,off,none⟩) (Lib.lt_of_cell a1) (λx=>x)).trans a1
    have hd2:=hd1.keep K2 (λ_ _ x=>x)
    clear F1 a1 hd1
    have hc2:CountAt w2 C 0:=nC
    have hcD:=hCD
    have h3:=loC
    clear hw2 hC nC
    unfold wpT;simp only[pickL,List.getElem?_toArray,List.getElem?_cons_succ,List.getElem?_cons_zero]
    refine⟨a2,?_,trivial⟩
    go_wp2_with fail
    obtain⟨w3,hw3⟩:∃x,x=w2.alloc (.cells #[.string wd] 9):=⟨_,rfl⟩
    obtain⟨G,hG⟩:∃x,x=w2.heap.size:=⟨_,rfl⟩
    rw[<-hw3,<-hG]
    have K3:Keep NoB w2 w3:=by rw[hw3];exact(Keep.refl _ _).alloc _
    have nG:w3.heap[G]? =some (Obj.cells #[.string wd] 9 (0,0)):=by rw[hw3,hG];exact heap_alloc_new _ _
    have loG:w.heap.size<=G:=by rw[hG];exact F2.keep.size
    have hGD:G≠DD:=by omega
    have F3:=F2.keepN K3
    have a3:FrC wd g off w3:=(K3.cell (p:=⟨g,off,none⟩) (Lib.lt_of_cell a2) (λx=>x)).trans a2
    have hd3:=hd2.keep K3 (λ_ _ x=>x)
    have hc3:=hc2.keep K3 (λx=>x)
    clear F2 a2 hd2 hc2
    have hs3:Strs w3 (.slice (some ⟨G,0,none⟩) 1 1) [wd]:=strs_one nG
    have hsD:∀b,(Value.slice (some ⟨G,0,none⟩) 1 1).ownBlock=some b->b≠DD:=λb hb e=>hGD ((Option.some.inj hb).trans e)
    clear hw3 hG nG
    unfold wpT;simp only[pickL,List.getElem?_toArray,List.getElem?_cons_succ,List.getElem?_cons_zero]
    refine⟨a3,?_,trivial⟩
    go_wp2_with fail
    refine(mark_any 100 (by decide) _ [wd] _ (R.keep F3.keep hRD) hs3 hmt (by simp)).mono ?_
    rintro e w4 ⟨rfl,K4⟩
    rw[hse]
    have F4:=F3.keepN K4
    have a4:FrC wd g off w4:=(K4.cell (p:=⟨g,off,none⟩) (Lib.lt_of_cell a3) (λx=>x)).trans a3
    have hd4:=hd3.keep K4 (λ_ _ x=>x)
    have hc4:=hc3.keep K4 (λx=>x)
    have hs4:=hs3.keep K4 (λ_ _ x=>x)
    clear F3 a3 hd3 hs3 hc3
    go_wp2_with fail
    iterate 2 (unfold wpT;simp only[pickL,List.getElem?_toArray,List.getElem?_cons_succ,List.getElem?_cons_zero];refine wpEarlyC_step (λK hK=> ?_);go_simp;first|(refine⟨_,λ_=>rfl,hK _ ?_⟩;clear hK K;refine wpEarlyC_nil ?_)|(refine hK _ ?_;clear hK K;refine wpEarlyC_nil ?_))
    unfold wpT;simp only[pickL,List.getElem?_toArray,List.getElem?_cons_succ,List.getElem?_cons_zero]
    refine⟨a4,?_,trivial⟩
    have c0:=F4.cell 0 _ rfl
    have z0:=F4.frozen 0
    go_wp2_with fail
    obtain⟨w5,hw5⟩:∃x,x=w4.setCell ⟨DD,0,none⟩ (.pointer (some ⟨D,0,none⟩)):=⟨_,rfl⟩
    rw[<-hw5]
    have K5:Keep (OneB DD) w4 w5:=by rw[hw5];exact FreshP.setK 0 _
    have F5:=F4.set0 (.pointer (some ⟨D,0,none⟩))
    rw[<-hw5]at F5
    have a5:FrC wd g off w5:=(K5.cell (p:=⟨g,off,none⟩) (Lib.lt_of_cell a4) (λe=>hgD e)).trans a4
    have hd5:=hd4.keep K5 (λb hb e=>hdD b hb e)
    have hc5:=hc4.keep K5 (λe=>hcD e)
    clear F4 a4 hd4 hc4
    clear hw5 c0 z0
    iterate 2 (unfold wpT;simp only[pickL,List.getElem?_toArray,List.getElem?_cons_succ,List.getElem?_cons_zero];refine wpEarlyC_step (λK hK=> ?_);go_simp;first|(refine⟨_,λ_=>rfl,hK _ ?_⟩;clear hK K;refine wpEarlyC_nil ?_)|(refine hK _ ?_;clear hK K;refine wpEarlyC_nil ?_))
    unfold wpT;simp only[pickL,List.getElem?_toArray,List.getElem?_cons_succ,List.getElem?_cons_zero]
    refine⟨a5,?_,trivial⟩
    have c1:=F5.cell 1 _ rfl
    have z1:=F5.frozen 1
    go_wp2_with fail
    obtain⟨w6,hw6⟩:∃x,x=w5.setCell ⟨DD,1,none⟩ (.pointer (some ⟨C,0,none⟩)):=⟨_,rfl⟩
    rw[<-hw6]
    have K6:Keep (OneB DD) w5 w6:=by rw[hw6];exact FreshP.setK 1 _
    have F6:=F5.set1 (.pointer (some ⟨C,0,none⟩))
    rw[<-hw6]at F6
    have a6:FrC wd g off w6:=(K6.cell (p:=⟨g,off,none⟩) (Lib.lt_of_cell a5) (λe=>hgD e)).trans a5
    have hd6:=hd5.keep K6 (λb hb e=>hdD b hb e)
    have hc6:=hc5.keep K6 (λe=>hcD e)
    clear F5 a5 hd5 hc5
    clear hw6 c1 z1
    iterate 2 (unfold wpT;simp only[pickL,List.getElem?_toArray,List.getElem?_cons_succ,List.getElem?_cons_zero];refine wpEarlyC_step (λK hK=> ?_);go_simp;first|(refine⟨_,λ_=>rfl,hK _ ?_⟩;clear hK K;refine wpEarlyC_nil ?_)|(refine hK _ ?_;clear hK K;refine wpEarlyC_nil ?_))
    unfold wpT;simp only[pickL,List.getElem?_toArray,List.getElem?_cons_succ,List.getElem?_cons_zero]
    refine⟨a6,?_,trivial⟩
    have c3:=F6.cell 3 _ rfl
    have z3:=F6.frozen 3
    go_wp2_with fail
    obtain⟨w7,hw7⟩:∃x,x=w6.setCell ⟨DD,3,none⟩ (.string sec):=⟨_,rfl⟩
    rw[<-hw7]
    have K7:Keep (OneB DD) w6 w7:=by rw[hw7];exact FreshP.setK 3 _
    have F7:=F6.set3 (.string sec)
    rw[<-hw7]at F7
    have a7:FrC wd g off w7:=(K7.cell (p:=⟨g,off,none⟩) (Lib.lt_of_cell a6) (λe=>hgD e)).trans a6
    have hd7:=hd6.keep K7 (λb hb e=>hdD b hb e)
    have hc7:=hc6.keep K7 (λe=>hcD e)
    clear F6 a6 hd6 hc6
    clear hw7 c3 z3
    iterate 2 (unfold wpT;simp only[pickL,List.getElem?_toArray,List.getElem?_cons_succ,List.getElem?_cons_zero];refine wpEarlyC_step (λK hK=> ?_);go_simp;first|(refine⟨_,λ_=>rfl,hK _ ?_⟩;clear hK K;refine wpEarlyC_nil ?_)|(refine hK _ ?_;clear hK K;refine wpEarlyC_nil ?_))
    unfold wpT;simp only[pickL,List.getElem?_toArray,List.getElem?_cons_succ,List.getElem?_cons_zero]
    refine⟨a7,?_,trivial⟩
    have c4:=F7.cell 4 _ rfl
    have z4:=F7.frozen 4
    go_wp2_with fail
    obtain⟨w8,hw8⟩:∃x,x=w7.setCell ⟨DD,4,none⟩ (.slice none 0 0):=⟨_,rfl⟩
    rw[<-hw8]
    have K8:Keep (OneB DD) w7 w8:=by rw[hw8];exact FreshP.setK 4 _
    have F8:=F7.set4 (.slice none 0 0)
    rw[<-hw8]at F8
    have a8:FrC wd g off w8:=(K8.cell (p:=⟨g,off,none⟩) (Lib.lt_of_cell a7) (λe=>hgD e)).trans a7
    have hd8:=hd7.keep K8 (λb hb e=>hdD b hb e)
    have hc8:=hc7.keep K8 (λe=>hcD e)
    clear F7 a7 hd7 hc7
    clear hw8 c4 z4
    unfold wpT
    go_wp2_with fail
    go_meet
    case rel=>exact⟨D,S,C,Lib.hid ⟨F8,hd8,hc8,h1,h2,h3⟩⟩
   ·(try simp only[pickL,List.getElem?_toArray,List.getElem?_cons_succ,List.getElem?_cons_zero])
    go_wp2_with fail
    obtain⟨w2,hw2⟩:∃x,x=w1.alloc (.cells #[.string wd] 9):=⟨_,rfl⟩
    obtain⟨G,hG⟩:∃x,x=w1.heap.size:=⟨_,rfl⟩
    rw[<-hw2,<-hG]
    have K2:Keep NoB w1 w2:=by rw[hw2];exact(Keep.refl _ _).alloc _
    have nG:w2.heap[G]? =some (Obj.cells #[.string wd] 9 (0,0)):=by rw[hw2,hG];exact heap_alloc_new _ _
    have loG:w.heap.size<=G:=by rw[hG];exact F1.keep.size
    have hGD:G≠DD:=by omega
    have F2:=F1.keepN K2
    have a2:FrC wd g off w2:=(K2.cell (p:=⟨g,off,none⟩) (Lib.lt_of_cell a1) (λx=>x)).trans a1
    have hd2:=hd1.keep K2 (λ_ _ x=>x)
    clear F1 a1 hd1
    have hs2:Strs w2 (.slice (some ⟨G,0,none⟩) 1 1) [wd]:=strs_one nG
    have hsD:∀b,(Value.slice (some ⟨G,0,none⟩) 1 1).ownBlock=some b->b≠DD:=λb hb e=>hGD ((Option.some.inj hb).trans e)
    clear hw2 hG nG
    unfold wpT;simp only[pickL,List.getElem?_toArray,List.getElem?_cons_succ,List.getElem?_cons_zero]
    refine⟨a2,?_,?_,trivial⟩
    ·(try simp only[pickL,List.getElem?_toArray,List.getElem?_cons_succ,List.getElem?_cons_zero])
     go_wp2_with fail
     obtain⟨w3,hw3⟩:∃x,x=w2.alloc (.cells #[.int .i64 0] 33):=⟨_,rfl⟩
     obtain⟨C,hC⟩:∃x,x=w2.heap.size:=⟨_,rfl⟩
     rw[<-hw3,<-hC]
     have K3:Keep NoB w2 w3:=by rw[hw3];exact(Keep.refl _ _).alloc _
     have nC:w3.heap[C]? =some (Obj.cells #[.int .i64 0] 33 (0,0)):=by rw[hw3,hC];exact heap_alloc_new _ _
     have loC:w.heap.size<=C:=by rw[hC];exact F2.keep.size
     have hCD:C≠DD:=by omega
     have F3:=F2.keepN K3
     have a3:FrC wd g off w3:=(K3.cell (p:=⟨g,off,none⟩) (Lib.lt_of_cell a2) (λx=>x)).trans a2
     have hd3:=hd2.keep K3 (λ_ _ x=>x)
     have hs3:=hs2.keep K3 (λ_ _ x=>x)
     clear F2 a2 hd2 hs2
     have hc3:CountAt w3 C 0:=nC
     have hcD:=hCD
     have h3:=loC
     clear hw3 hC nC
     unfold wpT;simp only[pickL,List.getElem?_toArray,List.getElem?_cons_succ,List.getElem?_cons_zero]
     refine⟨a3,?_,trivial⟩
     go_wp2_with fail
     refine(mark_any 100 (by decide) _ [wd] _ (R.keep F3.keep hRD) hs3 hmt (by simp)).mono ?_
     rintro e w4 ⟨rfl,K4⟩
     rw[hse]
     have F4:=F3.keepN K4
     have a4:FrC wd g off w4:=(K4.cell (p:=⟨g,off,none⟩) (Lib.lt_of_cell a3) (λx=>x)).trans a3
     have hd4:=hd3.keep K4 (λ_ _ x=>x)
     have hc4:=hc3.keep K4 (λx=>x)
     have hs4:=hs3.keep K4 (λ_ _ x=>x)
     clear F3 a3 hd3 hs3 hc3
     go_wp2_with fail
     iterate 2 (unfold wpT;simp only[pickL,List.getElem?_toArray,List.getElem?_cons_succ,List.getElem?_cons_zero];refine wpEarlyC_step (λK hK=> ?_);go_simp;first|(refine⟨_,λ_=>rfl,hK _ ?_⟩;clear hK K;refine wpEarlyC_nil ?_)|(refine hK _ ?_;clear hK K;refine wpEarlyC_nil ?_))
     unfold wpT;simp only[pickL,List.getElem?_toArray,List.getElem?_cons_succ,List.getElem?_cons_zero]
     refine⟨a4,?_,trivial⟩
     have c0:=F4.cell 0 _ rfl
     have z0:=F4.frozen 0
     go_wp2_with fail
     obtain⟨w5,hw5⟩:∃x,x=w4.setCell ⟨DD,0,none⟩ (.pointer (some ⟨D,0,none⟩)):=⟨_,rfl⟩
     rw[<-hw5]
     have K5:Keep (OneB DD) w4 w5:=by rw[hw5];exact FreshP.setK 0 _
     have F5:=F4.set0 (.pointer (some ⟨D,0,none⟩))
     rw[<-hw5]at F5
     have a5:FrC wd g off w5:=(K5.cell (p:=⟨g,off,none⟩) (Lib.lt_of_cell a4) (λe=>hgD e)).trans a4
     have hd5:=hd4.keep K5 (λb hb e=>hdD b hb e)
     have hc5:=hc4.keep K5 (λe=>hcD e)
     clear F4 a4 hd4 hc4
     clear hw5 c0 z0
     iterate 2 (unfold wpT;simp only[pickL,List.getElem?_toArray,List.getElem?_cons_succ,List.getElem?_cons_zero];refine wpEarlyC_step (λK hK=> ?_);go_simp;first|(refine⟨_,λ_=>rfl,hK _ ?_⟩;clear hK K;refine wpEarlyC_nil ?_)|(refine hK _ ?_;clear hK K;refine wpEarlyC_nil ?_))
     unfold wpT;simp only[pickL,List.getElem?_toArray,List.getElem?_cons_succ,List.getElem?_cons_zero]
     refine⟨a5,?_,trivial⟩
     have c1:=F5.cell 1 _ rfl
     have z1:=F5.frozen 1
     go_wp2_with fail
     obtain⟨w6,hw6⟩:∃x,x=w5.setCell ⟨DD,1,none⟩ (.pointer (some ⟨C,0,none⟩)):=⟨_,rfl⟩
     rw[<-hw6]
     have K6:Keep (OneB DD) w5 w6:=by rw[hw6];exact FreshP.setK 1 _
     have F6:=F5.set1 (.pointer (some ⟨C,0,none⟩))
     rw[<-hw6]at F6
     have a6:FrC wd g off w6:=(K6.cell (p:=⟨g,off,none⟩) (Lib.lt_of_cell a5) (λe=>hgD e)).trans a5
     have hd6:=hd5.keep K6 (λb hb e=>hdD b hb e)
     have hc6:=hc5.keep K6 (λe=>hcD e)
     clear F5 a5 hd5 hc5
     clear hw6 c1 z1
     iterate 2 (unfold wpT;simp only[pickL,List.getElem?_toArray,List.getElem?_cons_succ,List.getElem?_cons_zero];refine wpEarlyC_step (λK hK=> ?_);go_simp;first|(refine⟨_,λ_=>rfl,hK _ ?_⟩;clear hK K;refine wpEarlyC_nil ?_)|(refine hK _ ?_;clear hK K;refine wpEarlyC_nil ?_))
     unfold wpT;simp only[pickL,List.getElem?_toArray,List.getElem?_cons_succ,List.getElem?_cons_zero]
     refine⟨a6,?_,trivial⟩
     have c3:=F6.cell 3 _ rfl
     have z3:=F6.frozen 3
     go_wp2_with fail
     obtain⟨w7,hw7⟩:∃x,x=w6.setCell ⟨DD,3,none⟩ (.string sec):=⟨_,rfl⟩
     rw[<-hw7]
     have K7:Keep (OneB DD) w6 w7:=by rw[hw7];exact FreshP.setK 3 _
     have F7:=F6.set3 (.string sec)
     rw[<-hw7]at F7
     have a7:FrC wd g off w7:=(K7.cell (p:=⟨g,off,none⟩) (Lib.lt_of_cell a6) (λe=>hgD e)).trans a6
     have hd7:=hd6.keep K7 (λb hb e=>hdD b hb e)
     have hc7:=hc6.keep K7 (λe=>hcD e)
     clear F6 a6 hd6 hc6
     clear hw7 c3 z3
     iterate 2 (unfold wpT;simp only[pickL,List.getElem?_toArray,List.getElem?_cons_succ,List.getElem?_cons_zero];refine wpEarlyC_step (λK hK=> ?_);go_simp;first|(refine⟨_,λ_=>rfl,hK _ ?_⟩;clear hK K;refine wpEarlyC_nil ?_)|(refine hK _ ?_;clear hK K;refine wpEarlyC_nil ?_))
     unfold wpT;simp only[pickL,List.getElem?_toArray,List.getElem?_cons_succ,List.getElem?_cons_zero]
     refine⟨a7,?_,trivial⟩
     have c4:=F7.cell 4 _ rfl
     have z4:=F7.frozen 4
     go_wp2_with fail
     obtain⟨w8,hw8⟩:∃x,x=w7.setCell ⟨DD,4,none⟩ (.slice none 0 0):=⟨_,rfl⟩
     rw[<-hw8]
     have K8:Keep (OneB DD) w7 w8:=by rw[hw8];exact FreshP.setK 4 _
     have F8:=F7.set4 (.slice none 0 0)
     rw[<-hw8]at F8
     have a8:FrC wd g off w8:=(K8.cell (p:=⟨g,off,none⟩) (Lib.lt_of_cell a7) (λe=>hgD e)).trans a7
     have hd8:=hd7.keep K8 (λb hb e=>hdD b hb e)
     have hc8:=hc7.keep K8 (λe=>hcD e)
     clear F7 a7 hd7 hc7
     clear hw8 c4 z4
     unfold wpT
     go_wp2_with fail
     go_meet
     case rel=>exact⟨D,S,C,Lib.hid ⟨F8,hd8,hc8,h1,h2,h3⟩⟩
    ·(try simp only[pickL,List.getElem?_toArray,List.getElem?_cons_succ,List.getElem?_cons_zero])
     go_wp2_with fail
     refine(mark_any 100 (by decide) _ [wd] _ (R.keep F2.keep hRD) hs2 hmt (by simp)).mono ?_
     rintro e w3 ⟨rfl,K3⟩
     rw[hse]
     have F3:=F2.keepN K3
     have a3:FrC wd g off w3:=(K3.cell (p:=⟨g,off,none⟩) (Lib.lt_of_cell a2) (λx=>x)).trans a2
     have hd3:=hd2.keep K3 (λ_ _ x=>x)
     have hs3:=hs2.keep K3 (λ_ _ x=>x)
     clear F2 a2 hd2 hs2
     go_wp2_with fail
     iterate 2 (unfold wpT;simp only[pickL,List.getElem?_toArray,List.getElem?_cons_succ,List.getElem?_cons_zero];refine wpEarlyC_step (λK hK=> ?_);go_simp;first|(refine⟨_,λ_=>rfl,hK _ ?_⟩;clear hK K;refine wpEarlyC_nil ?_)|(refine hK _ ?_;clear hK K;refine wpEarlyC_nil ?_))
     unfold wpT;simp only[pickL,List.getElem?_toArray,List.getElem?_cons_succ,List.getElem?_cons_zero]
     refine⟨a3,?_,?_,trivial⟩
     ·(try simp only[pickL,List.getElem?_toArray,List.getElem?_cons_succ,List.getElem?_cons_zero])
      go_wp2_with fail
      obtain⟨w4,hw4⟩:∃x,x=w3.alloc (.cells #[.int .i64 0] 33):=⟨_,rfl⟩
      obtain⟨C,hC⟩:∃x,x=w3.heap.size:=⟨_,rfl⟩
      rw[<-hw4,<-hC]
      have K4:Keep NoB w3 w4:=by rw[hw4];exact(Keep.refl _ _).alloc _
      have nC:w4.heap[C]? =some (Obj.cells #[.int .i64 0] 33 (0,0)):=by rw[hw4,hC];exact heap_alloc_new _ _
      have loC:w.heap.size<=C:=by rw[hC];exact F3.keep.size
      have hCD:C≠DD:=by omega
      have F4:=F3.keepN K4
      have a4:FrC wd g off w4:=(K4.cell (p:=⟨g,off,none⟩) (Lib.lt_of_cell a3) (λx=>x)).trans a3
      have hd4:=hd3.keep K4 (λ_ _ x=>x)
      clear F3 a3 hd3
      have hc4:CountAt w4 C 0:=nC
      have hcD:=hCD
      have h3:=loC
      clear hw4 hC nC
      unfold wpT;simp only[pickL,List.getElem?_toArray,List.getElem?_cons_succ,List.getElem?_cons_zero]
      refine⟨a4,?_,trivial⟩
      have c0:=F4.cell 0 _ rfl
      have z0:=F4.frozen 0
      go_wp2_with fail
      obtain⟨w5,hw5⟩:∃x,x=w4.setCell ⟨DD,0,none⟩ (.pointer (some ⟨D,0,none⟩)):=⟨_,rfl⟩
      rw[<-hw5]
      have K5:Keep (OneB DD) w4 w5:=by rw[hw5];exact FreshP.setK 0 _
      have F5:=F4.set0 (.pointer (some ⟨D,0,none⟩))
      rw[<-hw5]at F5
      have a5:FrC wd g off w5:=(K5.cell (p:=⟨g,off,none⟩) (Lib.lt_of_cell a4) (λe=>hgD e)).trans a4
      have hd5:=hd4.keep K5 (λb hb e=>hdD b hb e)
      have hc5:=hc4.keep K5 (λe=>hcD e)
      clear F4 a4 hd4 hc4
      clear hw5 c0 z0
      iterate 2 (unfold wpT;simp only[pickL,List.getElem?_toArray,List.getElem?_cons_succ,List.getElem?_cons_zero];refine wpEarlyC_step (λK hK=> ?_);go_simp;first|(refine⟨_,λ_=>rfl,hK _ ?_⟩;clear hK K;refine wpEarlyC_nil ?_)|(refine hK _ ?_;clear hK K;refine wpEarlyC_nil ?_))
      unfold wpT;simp only[pickL,List.getElem?_toArray,List.getElem?_cons_succ,List.getElem?_cons_zero]
      refine⟨a5,?_,trivial⟩
      have c1:=F5.cell 1 _ rfl
      have z1:=F5.frozen 1
      go_wp2_with fail
      obtain⟨w6,hw6⟩:∃x,x=w5.setCell ⟨DD,1,none⟩ (.pointer (some ⟨C,0,none⟩)):=⟨_,rfl⟩
      rw[<-hw6]
      have K6:Keep (OneB DD) w5 w6:=by rw[hw6];exact FreshP.setK 1 _
      have F6:=F5.set1 (.pointer (some ⟨C,0,none⟩))
      rw[<-hw6]at F6
      have a6:FrC wd g off w6:=(K6.cell (p:=⟨g,off,none⟩) (Lib.lt_of_cell a5) (λe=>hgD e)).trans a5
      have hd6:=hd5.keep K6 (λb hb e=>hdD b hb e)
      have hc6:=hc5.keep K6 (λe=>hcD e)
      clear F5 a5 hd5 hc5
      clear hw6 c1 z1
      iterate 2 (unfold wpT;simp only[pickL,List.getElem?_toArray,List.getElem?_cons_succ,List.getElem?_cons_zero];refine wpEarlyC_step (λK hK=> ?_);go_simp;first|(refine⟨_,λ_=>rfl,hK _ ?_⟩;clear hK K;refine wpEarlyC_nil ?_)|(refine hK _ ?_;clear hK K;refine wpEarlyC_nil ?_))
      unfold wpT;simp only[pickL,List.getElem?_toArray,List.getElem?_cons_succ,List.getElem?_cons_zero]
      refine⟨a6,?_,trivial⟩
      have c3:=F6.cell 3 _ rfl
      have z3:=F6.frozen 3
      go_wp2_with fail
      obtain⟨w7,hw7⟩:∃x,x=w6.setCell ⟨DD,3,none⟩ (.string sec):=⟨_,rfl⟩
      rw[<-hw7]
      have K7:Keep (OneB DD) w6 w7:=by rw[hw7];exact FreshP.setK 3 _
      have F7:=F6.set3 (.string sec)
      rw[<-hw7]at F7
      have a7:FrC wd g off w7:=(K7.cell (p:=⟨g,off,none⟩) (Lib.lt_of_cell a6) (λe=>hgD e)).trans a6
      have hd7:=hd6.keep K7 (λb hb e=>hdD b hb e)
      have hc7:=hc6.keep K7 (λe=>hcD e)
      clear F6 a6 hd6 hc6
      clear hw7 c3 z3
      iterate 2 (unfold wpT;simp only[pickL,List.getElem?_toArray,List.getElem?_cons_succ,List.getElem?_cons_zero];refine wpEarlyC_step (λK hK=> ?_);go_simp;first|(refine⟨_,λ_=>rfl,hK _ ?_⟩;clear hK K;refine wpEarlyC_nil ?_)|(refine hK _ ?_;clear hK K;refine wpEarlyC_nil ?_))
      unfold wpT;simp only[pickL,List.getElem?_toArray,List.getElem?_cons_succ,List.getElem?_cons_zero]
      refine⟨a7,?_,trivial⟩
      have c4:=F7.cell 4 _ rfl
      have z4:=F7.frozen 4
      go_wp2_with fail
      obtain⟨w8,hw8⟩:∃x,x=w7.setCell ⟨DD,4,none⟩ (.slice none 0 0):=⟨_,rfl⟩
      rw[<-hw8]
      have K8:Keep (OneB DD) w7 w8:=by rw[hw8];exact FreshP.setK 4 _
      have F8:=F7.set4 (.slice none 0 0)
      rw[<-hw8]at F8
      have a8:FrC wd g off w8:=(K8.cell (p:=⟨g,off,none⟩) (Lib.lt_of_cell a7) (λe=>hgD e)).trans a7
      have hd8:=hd7.keep K8 (λb hb e=>hdD b hb e)
      have hc8:=hc7.keep K8 (λe=>hcD e)
      clear F7 a7 hd7 hc7
      clear hw8 c4 z4
      unfold wpT
      go_wp2_with fail
      go_meet
      case rel=>exact⟨D,S,C,Lib.hid ⟨F8,hd8,hc8,h1,h2,h3⟩⟩
     ·(try simp only[pickL,List.getElem?_toArray,List.getElem?_cons_succ,List.getElem?_cons_zero])
      have c0:=F3.cell 0 _ rfl
      have z0:=F3.frozen 0
      go_wp2_with fail
      obtain⟨w4,hw4⟩:∃x,x=w3.setCell ⟨DD,0,none⟩ (.pointer (some ⟨D,0,none⟩)):=⟨_,rfl⟩
      rw[<-hw4]
      have K4:Keep (OneB DD) w3 w4:=by rw[hw4];exact FreshP.setK 0 _
      have F4:=F3.set0 (.pointer (some ⟨D,0,none⟩))
      rw[<-hw4]at F4
      have a4:FrC wd g off w4:=(K4.cell (p:=⟨g,off,none⟩) (Lib.lt_of_cell a3) (λe=>hgD e)).trans a3
      have hd4:=hd3.keep K4 (λb hb e=>hdD b hb e)
      clear F3 a3 hd3
      clear hw4 c0 z0
      unfold wpT;simp only[pickL,List.getElem?_toArray,List.getElem?_cons_succ,List.getElem?_cons_zero]
      refine⟨a4,?_,trivial⟩
      go_wp2_with fail
      obtain⟨w5,hw5⟩:∃x,x=w4.alloc (.cells #[.int .i64 0] 33):=⟨_,rfl⟩
      obtain⟨C,hC⟩:∃x,x=w4.heap.size:=⟨_,rfl⟩
      rw[<-hw5,<-hC]
      have K5:Keep NoB w4 w5:=by rw[hw5];exact(Keep.refl _ _).alloc _
      have nC:w5.heap[C]? =some (Obj.cells #[.int .i64 0] 33 (0,0)):=by rw[hw5,hC];exact heap_alloc_new _ _
      have loC:w.heap.size<=C:=by rw[hC];exact F4.keep.size
      have hCD:C≠DD:=by omega
      have F5:=F4.keepN K5
      have a5:FrC wd g off w5:=(K5.cell (p:=⟨g,off,none⟩) (Lib.lt_of_cell a4) (λx=>x)).trans a4
      have hd5:=hd4.keep K5 (λ_ _ x=>x)
      clear F4 a4 hd4
      have hc5:CountAt w5 C 0:=nC
      have hcD:=hCD
      have h3:=loC
      clear hw5 hC nC
      iterate 2 (unfold wpT;simp only[pickL,List.getElem?_toArray,List.getElem?_cons_succ,List.getElem?_cons_zero];refine wpEarlyC_step (λK hK=> ?_);go_simp;first|(refine⟨_,λ_=>rfl,hK _ ?_⟩;clear hK K;refine wpEarlyC_nil ?_)|(refine hK _ ?_;clear hK K;refine wpEarlyC_nil ?_))
      unfold wpT;simp only[pickL,List.getElem?_toArray,List.getElem?_cons_succ,List.getElem?_cons_zero]
      refine⟨a5,?_,trivial⟩
      have c1:=F5.cell 1 _ rfl
      have z1:=F5.frozen 1
      go_wp2_with fail
      obtain⟨w6,hw6⟩:∃x,x=w5.setCell ⟨DD,1,none⟩ (.pointer (some ⟨C,0,none⟩)):=⟨_,rfl⟩
      rw[<-hw6]
      have K6:Keep (OneB DD) w5 w6:=by rw[hw6];exact FreshP.setK 1 _
      have F6:=F5.set1 (.pointer (some ⟨C,0,none⟩))
      rw[<-hw6]at F6
      have a6:FrC wd g off w6:=(K6.cell (p:=⟨g,off,none⟩) (Lib.lt_of_cell a5) (λe=>hgD e)).trans a5
      have hd6:=hd5.keep K6 (λb hb e=>hdD b hb e)
      have hc6:=hc5.keep K6 (λe=>hcD e)
      clear F5 a5 hd5 hc5
      clear hw6 c1 z1
      iterate 2 (unfold wpT;simp only[pickL,List.getElem?_toArray,List.getElem?_cons_succ,List.getElem?_cons_zero];refine wpEarlyC_step (λK hK=> ?_);go_simp;first|(refine⟨_,λ_=>rfl,hK _ ?_⟩;clear hK K;refine wpEarlyC_nil ?_)|(refine hK _ ?_;clear hK K;refine wpEarlyC_nil ?_))
      unfold wpT;simp only[pickL,List.getElem?_toArray,List.getElem?_cons_succ,List.getElem?_cons_zero]
      refine⟨a6,?_,trivial⟩
      have c3:=F6.cell 3 _ rfl
      have z3:=F6.frozen 3
      go_wp2_with fail
      obtain⟨w7,hw7⟩:∃x,x=w6.setCell ⟨DD,3,none⟩ (.string sec):=⟨_,rfl⟩
      rw[<-hw7]
      have K7:Keep (OneB DD) w6 w7:=by rw[hw7];exact FreshP.setK 3 _
      have F7:=F6.set3 (.string sec)
      rw[<-hw7]at F7
      have a7:FrC wd g off w7:=(K7.cell (p:=⟨g,off,none⟩) (Lib.lt_of_cell a6) (λe=>hgD e)).trans a6
      have hd7:=hd6.keep K7 (λb hb e=>hdD b hb e)
      have hc7:=hc6.keep K7 (λe=>hcD e)
      clear F6 a6 hd6 hc6
      clear hw7 c3 z3
      iterate 2 (unfold wpT;simp only[pickL,List.getElem?_toArray,List.getElem?_cons_succ,List.getElem?_cons_zero];refine wpEarlyC_step (λK hK=> ?_);go_simp;first|(refine⟨_,λ_=>rfl,hK _ ?_⟩;clear hK K;refine wpEarlyC_nil ?_)|(refine hK _ ?_;clear hK K;refine wpEarlyC_nil ?_))
      unfold wpT;simp only[pickL,List.getElem?_toArray,List.getElem?_cons_succ,List.getElem?_cons_zero]
      refine⟨a7,?_,trivial⟩
      have c4:=F7.cell 4 _ rfl
      have z4:=F7.frozen 4
      go_wp2_with fail
      obtain⟨w8,hw8⟩:∃x,x=w7.setCell ⟨DD,4,none⟩ (.slice none 0 0):=⟨_,rfl⟩
      rw[<-hw8]
      have K8:Keep (OneB DD) w7 w8:=by rw[hw8];exact FreshP.setK 4 _
      have F8:=F7.set4 (.slice none 0 0)
      rw[<-hw8]at F8
      have a8:FrC wd g off w8:=(K8.cell (p:=⟨g,off,none⟩) (Lib.lt_of_cell a7) (λe=>hgD e)).trans a7
      have hd8:=hd7.keep K8 (λb hb e=>hdD b hb e)
      have hc8:=hc7.keep K8 (λe=>hcD e)
      clear F7 a7 hd7 hc7
      clear hw8 c4 z4
      unfold wpT
      go_wp2_with fail
      go_meet
      case rel=>exact⟨D,S,C,Lib.hid ⟨F8,hd8,hc8,h1,h2,h3⟩⟩
  ·(try simp only[pickL,List.getElem?_toArray,List.getElem?_cons_succ,List.getElem?_cons_zero])
   go_wp2_with fail
   obtain⟨w1,hw1⟩:∃x,x=w0.alloc (.cells #[.int .i64 0] 33):=⟨_,rfl⟩
   obtain⟨C,hC⟩:∃x,x=w0.heap.size:=⟨_,rfl⟩
   rw[<-hw1,<-hC]
   have K1:Keep NoB w0 w1:=by rw[hw1];exact(Keep.refl _ _).alloc _
   have nC:w1.heap[C]? =some (Obj.cells #[.int .i64 0] 33 (0,0)):=by rw[hw1,hC];exact heap_alloc_new _ _
   have loC:w.heap.size<=C:=by rw[hC];exact F0.keep.size
   have hCD:C≠DD:=by omega
   have F1:=F0.keepN K1
   have a1:FrC wd g off w1:=(K1.cell (p:=⟨g,off,none⟩) (Lib.lt_of_cell a0) (λx=>x)).trans a0
   clear F0 a0
   have hc1:CountAt w1 C 0:=nC
   have hcD:=hCD
   have h3:=loC
   clear hw1 hC nC
   unfold wpT;simp only[pickL,List.getElem?_toArray,List.getElem?_cons_succ,List.getElem?_cons_zero]
   refine⟨a1,?_,?_,trivial⟩
   ·(try simp only[pickL,List.getElem?_toArray,List.getElem?_cons_succ,List.getElem?_cons_zero])
    go_wp2_with fail
    refine(newDev_any _).mono ?_
    rintro e w2 ⟨D,S,rfl,hd2,h1,h2,K2⟩
    have h1:w.heap.size<=D:=Nat.le_trans F1.keep.size h1
    have h2:w.heap.size<=S:=Nat.le_trans F1.keep.size h2
    have hdD:∀b,DevB D S (.slice none 0 0) b->b≠DD:=λb hb e=>hb.elim (λe1=>by omega) (λhb=>hb.elim (λe1=>by omega) (λe1=>by cases e1))
    have F2:=F1.keepN K2
    have a2:FrC wd g off w2:=(K2.cell (p:=⟨g,off,none⟩) (Lib.lt_of_cell a1) (λx=>x)).trans a1
    have hc2:=hc1.keep K2 (λx=>x)
    clear F1 a1 hc1
    go_wp2_with fail
    unfold wpT;simp only[pickL,List.getElem?_toArray,List.getElem?_cons_succ,List.getElem?_cons_zero]
    refine⟨a2,?_,trivial⟩
    go_wp2_with fail
    obtain⟨w3,hw3⟩:∃x,x=w2.alloc (.cells #[.string wd] 9):=⟨_,rfl⟩
    obtain⟨G,hG⟩:∃x,x=w2.heap.size:=⟨_,rfl⟩
    rw[<-hw3,<-hG]
    have K3:Keep NoB w2 w3:=by rw[hw3];exact(Keep.refl _ _).alloc _
    have nG:w3.heap[G]? =some (Obj.cells #[.string wd] 9 (0,0)):=by rw[hw3,hG];exact heap_alloc_new _ _
    have loG:w.heap.size<=G:=by rw[hG];exact F2.keep.size
    have hGD:G≠DD:=by omega
    have F3:=F2.keepN K3
    have a3:FrC wd g off w3:=(K3.cell (p:=⟨g,off,none⟩) (Lib.lt_of_cell a2) (λx=>x)).trans a2
    have hd3:=hd2.keep K3 (λ_ _ x=>x)
    have hc3:=hc2.keep K3 (λx=>x)
    clear F2 a2 hd2 hc2
    have hs3:Strs w3 (.slice (some ⟨G,0,none⟩) 1 1) [wd]:=strs_one nG
    have hsD:∀b,(Value.slice (some ⟨G,0,none⟩) 1 1).ownBlock=some b->b≠DD:=λb hb e=>hGD ((Option.some.inj hb).trans e)
    clear hw3 hG nG
    unfold wpT;simp only[pickL,List.getElem?_toArray,List.getElem?_cons_succ,List.getElem?_cons_zero]
    refine⟨a3,?_,trivial⟩
    go_wp2_with fail
    refine(mark_any 100 (by decide) _ [wd] _ (R.keep F3.keep hRD) hs3 hmt (by simp)).mono ?_
    rintro e w4 ⟨rfl,K4⟩
    rw[hse]
    have F4:=F3.keepN K4
    have a4:FrC wd g off w4:=(K4.cell (p:=⟨g,off,none⟩) (Lib.lt_of_cell a3) (λx=>x)).trans a3
    have hd4:=hd3.keep K4 (λ_ _ x=>x)
    have hc4:=hc3.keep K4 (λx=>x)
    have hs4:=hs3.keep K4 (λ_ _ x=>x)
    clear F3 a3 hd3 hs3 hc3
    go_wp2_with fail
    iterate 2 (unfold wpT;simp only[pickL,List.getElem?_toArray,List.getElem?_cons_succ,List.getElem?_cons_zero];refine wpEarlyC_step (λK hK=> ?_);go_simp;first|(refine⟨_,λ_=>rfl,hK _ ?_⟩;clear hK K;refine wpEarlyC_nil ?_)|(refine hK _ ?_;clear hK K;refine wpEarlyC_nil ?_))
    unfold wpT;simp only[pickL,List.getElem?_toArray,List.getElem?_cons_succ,List.getElem?_cons_zero]
    refine⟨a4,?_,trivial⟩
    have c0:=F4.cell 0 _ rfl
    have z0:=F4.frozen 0
    go_wp2_with fail
    obtain⟨w5,hw5⟩:∃x,x=w4.setCell ⟨DD,0,none⟩ (.pointer (some ⟨D,0,none⟩)):=⟨_,rfl⟩
    rw[<-hw5]
    have K5:Keep (OneB DD) w4 w5:=by rw[hw5];exact FreshP.setK 0 _
    have F5:=F4.set0 (.pointer (some ⟨D,0,none⟩))
    rw[<-hw5]at F5
    have a5:FrC wd g off w5:=(K5.cell (p:=⟨g,off,none⟩) (Lib.lt_of_cell a4) (λe=>hgD e)).trans a4
    have hd5:=hd4.keep K5 (λb hb e=>hdD b hb e)
    have hc5:=hc4.keep K5 (λe=>hcD e)
    clear F4 a4 hd4 hc4
    clear hw5 c0 z0
    iterate 2 (unfold wpT;simp only[pickL,List.getElem?_toArray,List.getElem?_cons_succ,List.getElem?_cons_zero];refine wpEarlyC_step (λK hK=> ?_);go_simp;first|(refine⟨_,λ_=>rfl,hK _ ?_⟩;clear hK K;refine wpEarlyC_nil ?_)|(refine hK _ ?_;clear hK K;refine wpEarlyC_nil ?_))
    unfold wpT;simp only[pickL,List.getElem?_toArray,List.getElem?_cons_succ,List.getElem?_cons_zero]
    refine⟨a5,?_,trivial⟩
    have c1:=F5.cell 1 _ rfl
    have z1:=F5.frozen 1
    go_wp2_with fail
    obtain⟨w6,hw6⟩:∃x,x=w5.setCell ⟨DD,1,none⟩ (.pointer (some ⟨C,0,none⟩)):=⟨_,rfl⟩
    rw[<-hw6]
    have K6:Keep (OneB DD) w5 w6:=by rw[hw6];exact FreshP.setK 1 _
    have F6:=F5.set1 (.pointer (some ⟨C,0,none⟩))
    rw[<-hw6]at F6
    have a6:FrC wd g off w6:=(K6.cell (p:=⟨g,off,none⟩) (Lib.lt_of_cell a5) (λe=>hgD e)).trans a5
    have hd6:=hd5.keep K6 (λb hb e=>hdD b hb e)
    have hc6:=hc5.keep K6 (λe=>hcD e)
    clear F5 a5 hd5 hc5
    clear hw6 c1 z1
    iterate 2 (unfold wpT;simp only[pickL,List.getElem?_toArray,List.getElem?_cons_succ,List.getElem?_cons_zero];refine wpEarlyC_step (λK hK=> ?_);go_simp;first|(refine⟨_,λ_=>rfl,hK _ ?_⟩;clear hK K;refine wpEarlyC_nil ?_)|(refine hK _ ?_;clear hK K;refine wpEarlyC_nil ?_))
    unfold wpT;simp only[pickL,List.getElem?_toArray,List.getElem?_cons_succ,List.getElem?_cons_zero]
    refine⟨a6,?_,trivial⟩
    have c3:=F6.cell 3 _ rfl
    have z3:=F6.frozen 3
    go_wp2_with fail
    obtain⟨w7,hw7⟩:∃x,x=w6.setCell ⟨DD,3,none⟩ (.string sec):=⟨_,rfl⟩
    rw[<-hw7]
    have K7:Keep (OneB DD) w6 w7:=by rw[hw7];exact FreshP.setK 3 _
    have F7:=F6.set3 (.string sec)
    rw[<-hw7]at F7
    have a7:FrC wd g off w7:=(K7.cell (p:=⟨g,off,none⟩) (Lib.lt_of_cell a6) (λe=>hgD e)).trans a6
    have hd7:=hd6.keep K7 (λb hb e=>hdD b hb e)
    have hc7:=hc6.keep K7 (λe=>hcD e)
    clear F6 a6 hd6 hc6
    clear hw7 c3 z3
    iterate 2 (unfold wpT;simp only[pickL,List.getElem?_toArray,List.getElem?_cons_succ,List.getElem?_cons_zero];refine wpEarlyC_step (λK hK=> ?_);go_simp;first|(refine⟨_,λ_=>rfl,hK _ ?_⟩;clear hK K;refine wpEarlyC_nil ?_)|(refine hK _ ?_;clear hK K;refine wpEarlyC_nil ?_))
    unfold wpT;simp only[pickL,List.getElem?_toArray,List.getElem?_cons_succ,List.getElem?_cons_zero]
    refine⟨a7,?_,trivial⟩
    have c4:=F7.cell 4 _ rfl
    have z4:=F7.frozen 4
    go_wp2_with fail
    obtain⟨w8,hw8⟩:∃x,x=w7.setCell ⟨DD,4,none⟩ (.slice none 0 0):=⟨_,rfl⟩
    rw[<-hw8]
    have K8:Keep (OneB DD) w7 w8:=by rw[hw8];exact FreshP.setK 4 _
    have F8:=F7.set4 (.slice none 0 0)
    rw[<-hw8]at F8
    have a8:FrC wd g off w8:=(K8.cell (p:=⟨g,off,none⟩) (Lib.lt_of_cell a7) (λe=>hgD e)).trans a7
    have hd8:=hd7.keep K8 (λb hb e=>hdD b hb e)
    have hc8:=hc7.keep K8 (λe=>hcD e)
    clear F7 a7 hd7 hc7
    clear hw8 c4 z4
    unfold wpT
    go_wp2_with fail
    go_meet
    case rel=>exact⟨D,S,C,Lib.hid ⟨F8,hd8,hc8,h1,h2,h3⟩⟩
   ·(try simp only[pickL,List.getElem?_toArray,List.getElem?_cons_succ,List.getElem?_cons_zero])
    go_wp2_with fail
    obtain⟨w2,hw2⟩:∃x,x=w1.alloc (.cells #[.string wd] 9):=⟨_,rfl⟩
    obtain⟨G,hG⟩:∃x,x=w1.heap.size:=⟨_,rfl⟩
    rw[<-hw2,<-hG]
    have K2:Keep NoB w1 w2:=by rw[hw2];exact(Keep.refl _ _).alloc _
    have nG:w2.heap[G]? =some (Obj.cells #[.string wd] 9 (0,0)):=by rw[hw2,hG];exact heap_alloc_new _ _
    have loG:w.heap.size<=G:=by rw[hG];exact F1.keep.size
    have hGD:G≠DD:=by omega
    have F2:=F1.keepN K2
    have a2:FrC wd g off w2:=(K2.cell (p:=⟨g,off,none⟩) (Lib.lt_of_cell a1) (λx=>x)).trans a1
    have hc2:=hc1.keep K2 (λx=>x)
    clear F1 a1 hc1
    have hs2:Strs w2 (.slice (some ⟨G,0,none⟩) 1 1) [wd]:=strs_one nG
    have hsD:∀b,(Value.slice (some ⟨G,0,none⟩) 1 1).ownBlock=some b->b≠DD:=λb hb e=>hGD ((Option.some.inj hb).trans e)
    clear hw2 hG nG
    unfold wpT;simp only[pickL,List.getElem?_toArray,List.getElem?_cons_succ,List.getElem?_cons_zero]
    refine⟨a2,?_,trivial⟩
    go_wp2_with fail
    refine(newDev_any _).mono ?_
    rintro e w3 ⟨D,S,rfl,hd3,h1,h2,K3⟩
    have h1:w.heap.size<=D:=Nat.le_trans F2.keep.size h1
    have h2:w.heap.size<=S:=Nat.le_trans F2.keep.size h2
    have hdD:∀b,DevB D S (.slice none 0 0) b->b≠DD:=λb hb e=>hb.elim (λe1=>by omega) (λhb=>hb.elim (λe1=>by omega) (λe1=>by cases e1))
    have F3:=F2.keepN K3
    have a3:FrC wd g off w3:=(K3.cell (p:=⟨g,off,none⟩) (Lib.lt_of_cell a2) (λx=>x)).trans a2
    have hc3:=hc2.keep K3 (λx=>x)
    have hs3:=hs2.keep K3 (λ_ _ x=>x)
    clear F2 a2 hs2 hc2
    go_wp2_with fail
    unfold wpT;simp only[pickL,List.getElem?_toArray,List.getElem?_cons_succ,List.getElem?_cons_zero]
    refine⟨a3,?_,trivial⟩
    go_wp2_with fail
    refine(mark_any 100 (by decide) _ [wd] _ (R.keep F3.keep hRD) hs3 hmt (by simp)).mono ?_
    rintro e w4 ⟨rfl,K4⟩
    rw[hse]
    have F4:=F3.keepN K4
    have a4:FrC wd g off w4:=(K4.cell (p:=⟨g,off,none⟩) (Lib.lt_of_cell a3) (λx=>x)).trans a3
    have hd4:=hd3.keep K4 (λ_ _ x=>x)
    have hc4:=hc3.keep K4 (λx=>x)
    have hs4:=hs3.keep K4 (λ_ _ x=>x)
    clear F3 a3 hd3 hs3 hc3
    go_wp2_with fail
    iterate 2 (unfold wpT;simp only[pickL,List.getElem?_toArray,List.getElem?_cons_succ,List.getElem?_cons_zero];refine wpEarlyC_step (λK hK=> ?_);go_simp;first|(refine⟨_,λ_=>rfl,hK _ ?_⟩;clear hK K;refine wpEarlyC_nil ?_)|(refine hK _ ?_;clear hK K;refine wpEarlyC_nil ?_))
    unfold wpT;simp only[pickL,List.getElem?_toArray,List.getElem?_cons_succ,List.getElem?_cons_zero]
    refine⟨a4,?_,trivial⟩
    have c0:=F4.cell 0 _ rfl
    have z0:=F4.frozen 0
    go_wp2_with fail
    obtain⟨w5,hw5⟩:∃x,x=w4.setCell ⟨DD,0,none⟩ (.pointer (some ⟨D,0,none⟩)):=⟨_,rfl⟩
    rw[<-hw5]
    have K5:Keep (OneB DD) w4 w5:=by rw[hw5];exact FreshP.setK 0 _
    have F5:=F4.set0 (.pointer (some ⟨D,0,none⟩))
    rw[<-hw5]at F5
    have a5:FrC wd g off w5:=(K5.cell (p:=⟨g,off,none⟩) (Lib.lt_of_cell a4) (λe=>hgD e)).trans a4
    have hd5:=hd4.keep K5 (λb hb e=>hdD b hb e)
    have hc5:=hc4.keep K5 (λe=>hcD e)
    clear F4 a4 hd4 hc4
    clear hw5 c0 z0
    iterate 2 (unfold wpT;simp only[pickL,List.getElem?_toArray,List.getElem?_cons_succ,List.getElem?_cons_zero];refine wpEarlyC_step (λK hK=> ?_);go_simp;first|(refine⟨_,λ_=>rfl,hK _ ?_⟩;clear hK K;refine wpEarlyC_nil ?_)|(refine hK _ ?_;clear hK K;refine wpEarlyC_nil ?_))
    unfold wpT;simp only[pickL,List.getElem?_toArray,List.getElem?_cons_succ,List.getElem?_cons_zero]
    refine⟨a5,?_,trivial⟩
    have c1:=F5.cell 1 _ rfl
    have z1:=F5.frozen 1
    go_wp2_with fail
    obtain⟨w6,hw6⟩:∃x,x=w5.setCell ⟨DD,1,none⟩ (.pointer (some ⟨C,0,none⟩)):=⟨_,rfl⟩
    rw[<-hw6]
    have K6:Keep (OneB DD) w5 w6:=by rw[hw6];exact FreshP.setK 1 _
    have F6:=F5.set1 (.pointer (some ⟨C,0,none⟩))
    rw[<-hw6]at F6
    have a6:FrC wd g off w6:=(K6.cell (p:=⟨g,off,none⟩) (Lib.lt_of_cell a5) (λe=>hgD e)).trans a5
    have hd6:=hd5.keep K6 (λb hb e=>hdD b hb e)
    have hc6:=hc5.keep K6 (λe=>hcD e)
    clear F5 a5 hd5 hc5
    clear hw6 c1 z1
    iterate 2 (unfold wpT;simp only[pickL,List.getElem?_toArray,List.getElem?_cons_succ,List.getElem?_cons_zero];refine wpEarlyC_step (λK hK=> ?_);go_simp;first|(refine⟨_,λ_=>rfl,hK _ ?_⟩;clear hK K;refine wpEarlyC_nil ?_)|(refine hK _ ?_;clear hK K;refine wpEarlyC_nil ?_))
    unfold wpT;simp only[pickL,List.getElem?_toArray,List.getElem?_cons_succ,List.getElem?_cons_zero]
    refine⟨a6,?_,trivial⟩
    have c3:=F6.cell 3 _ rfl
    have z3:=F6.frozen 3
    go_wp2_with fail
    obtain⟨w7,hw7⟩:∃x,x=w6.setCell ⟨DD,3,none⟩ (.string sec):=⟨_,rfl⟩
    rw[<-hw7]
    have K7:Keep (OneB DD) w6 w7:=by rw[hw7];exact FreshP.setK 3 _
    have F7:=F6.set3 (.string sec)
    rw[<-hw7]at F7
    have a7:FrC wd g off w7:=(K7.cell (p:=⟨g,off,none⟩) (Lib.lt_of_cell a6) (λe=>hgD e)).trans a6
    have hd7:=hd6.keep K7 (λb hb e=>hdD b hb e)
    have hc7:=hc6.keep K7 (λe=>hcD e)
    clear F6 a6 hd6 hc6
    clear hw7 c3 z3
    iterate 2 (unfold wpT;simp only[pickL,List.getElem?_toArray,List.getElem?_cons_succ,List.getElem?_cons_zero];refine wpEarlyC_step (λK hK=> ?_);go_simp;first|(refine⟨_,λ_=>rfl,hK _ ?_⟩;clear hK K;refine wpEarlyC_nil ?_)|(refine hK _ ?_;clear hK K;refine wpEarlyC_nil ?_))
    unfold wpT;simp only[pickL,List.getElem?_toArray,List.getElem?_cons_succ,List.getElem?_cons_zero]
    refine⟨a7,?_,trivial⟩
    have c4:=F7.cell 4 _ rfl
    have z4:=F7.frozen 4
    go_wp2_with fail
    obtain⟨w8,hw8⟩:∃x,x=w7.setCell ⟨DD,4,none⟩ (.slice none 0 0):=⟨_,rfl⟩
    rw[<-hw8]
    have K8:Keep (OneB DD) w7 w8:=by rw[hw8];exact FreshP.setK 4 _
    have F8:=F7.set4 (.slice none 0 0)
    rw[<-hw8]at F8
    have a8:FrC wd g off w8:=(K8.cell (p:=⟨g,off,none⟩) (Lib.lt_of_cell a7) (λe=>hgD e)).trans a7
    have hd8:=hd7.keep K8 (λb hb e=>hdD b hb e)
    have hc8:=hc7.keep K8 (λe=>hcD e)
    clear F7 a7 hd7 hc7
    clear hw8 c4 z4
    unfold wpT
    go_wp2_with fail
    go_meet
    case rel=>exact⟨D,S,C,Lib.hid ⟨F8,hd8,hc8,h1,h2,h3⟩⟩
  ·(try simp only[pickL,List.getElem?_toArray,List.getElem?_cons_succ,List.getElem?_cons_zero])
   go_wp2_with fail
   obtain⟨w1,hw1⟩:∃x,x=w0.alloc (.cells #[.string wd] 9):=⟨_,rfl⟩
   obtain⟨G,hG⟩:∃x,x=w0.heap.size:=⟨_,rfl⟩
   rw[<-hw1,<-hG]
   have K1:Keep NoB w0 w1:=by rw[hw1];exact(Keep.refl _ _).alloc _
   have nG:w1.heap[G]? =some (Obj.cells #[.string wd] 9 (0,0)):=by rw[hw1,hG];exact heap_alloc_new _ _
   have loG:w.heap.size<=G:=by rw[hG];exact F0.keep.size
   have hGD:G≠DD:=by omega
   have F1:=F0.keepN K1
   have a1:FrC wd g off w1:=(K1.cell (p:=⟨g,off,none⟩) (Lib.lt_of_cell a0) (λx=>x)).trans a0
   clear F0 a0
   have hs1:Strs w1 (.slice (some ⟨G,0,none⟩) 1 1) [wd]:=strs_one nG
   have hsD:∀b,(Value.slice (some ⟨G,0,none⟩) 1 1).ownBlock=some b->b≠DD:=λb hb e=>hGD ((Option.some.inj hb).trans e)
   clear hw1 hG nG
   unfold wpT;simp only[pickL,List.getElem?_toArray,List.getElem?_cons_succ,List.getElem?_cons_zero]
   refine⟨a1,?_,?_,trivial⟩
   ·(try simp only[pickL,List.getElem?_toArray,List.getElem?_cons_succ,List.getElem?_cons_zero])
    go_wp2_with fail
    refine(newDev_any _).mono ?_
    rintro e w2 ⟨D,S,rfl,hd2,h1,h2,K2⟩
    have h1:w.heap.size<=D:=Nat.le_trans F1.keep.size h1
    have h2:w.heap.size<=S:=Nat.le_trans F1.keep.size h2
    have hdD:∀b,DevB D S (.slice none 0 0) b->b≠DD:=λb hb e=>hb.elim (λe1=>by omega) (λhb=>hb.elim (λe1=>by omega) (λe1=>by cases e1))
    have F2:=F1.keepN K2
    have a2:FrC wd g off w2:=(K2.cell (p:=⟨g,off,none⟩) (Lib.lt_of_cell a1) (λx=>x)).trans a1
    have hs2:=hs1.keep K2 (λ_ _ x=>x)
    clear F1 a1 hs1
    go_wp2_with fail
    unfold wpT;simp only[pickL,List.getElem?_toArray,List.getElem?_cons_succ,List.getElem?_cons_zero]
    refine⟨a2,?_,?_,trivial⟩
    ·(try simp only[pickL,List.getElem?_toArray,List.getElem?_cons_succ,List.getElem?_cons_zero])
     go_wp2_with fail
     obtain⟨w3,hw3⟩:∃x,x=w2.alloc (.cells #[.int .i64 0] 33):=⟨_,rfl⟩
     obtain⟨C,hC⟩:∃x,x=w2.heap.size:=⟨_,rfl⟩
     rw[<-hw3,<-hC]
     have K3:Keep NoB w2 w3:=by rw[hw3];exact(Keep.refl _ _).alloc _
     have nC:w3.heap[C]? =some (Obj.cells #[.int .i64 0] 33 (0,0)):=by rw[hw3,hC];exact heap_alloc_new _ _
     have loC:w.heap.size<=C:=by rw[hC];exact F2.keep.size
     have hCD:C≠DD:=by omega
     have F3:=F2.keepN K3
     have a3:FrC wd g off w3:=(K3.cell (p:=⟨g,off,none⟩) (Lib.lt_of_cell a2) (λx=>x)).trans a2
     have hd3:=hd2.keep K3 (λ_ _ x=>x)
     have hs3:=hs2.keep K3 (λ_ _ x=>x)
     clear F2 a2 hd2 hs2
     have hc3:CountAt w3 C 0:=nC
     have hcD:=hCD
     have h3:=loC
     clear hw3 hC nC
     unfold wpT;simp only[pickL,List.getElem?_toArray,List.getElem?_cons_succ,List.getElem?_cons_zero]
     refine⟨a3,?_,trivial⟩
     go_wp2_with fail
     refine(mark_any 100 (by decide) _ [wd] _ (R.keep F3.keep hRD) hs3 hmt (by simp)).mono ?_
     rintro e w4 ⟨rfl,K4⟩
     rw[hse]
     have F4:=F3.keepN K4
     have a4:FrC wd g off w4:=(K4.cell (p:=⟨g,off,none⟩) (Lib.lt_of_cell a3) (λx=>x)).trans a3
     have hd4:=hd3.keep K4 (λ_ _ x=>x)
     have hc4:=hc3.keep K4 (λx=>x)
     have hs4:=hs3.keep K4 (λ_ _ x=>x)
     clear F3 a3 hd3 hs3 hc3
     go_wp2_with fail
     iterate 2 (unfold wpT;simp only[pickL,List.getElem?_toArray,List.getElem?_cons_succ,List.getElem?_cons_zero];refine wpEarlyC_step (λK hK=> ?_);go_simp;first|(refine⟨_,λ_=>rfl,hK _ ?_⟩;clear hK K;refine wpEarlyC_nil ?_)|(refine hK _ ?_;clear hK K;refine wpEarlyC_nil ?_))
     unfold wpT;simp only[pickL,List.getElem?_toArray,List.getElem?_cons_succ,List.getElem?_cons_zero]
     refine⟨a4,?_,trivial⟩
     have c0:=F4.cell 0 _ rfl
     have z0:=F4.frozen 0
     go_wp2_with fail
     obtain⟨w5,hw5⟩:∃x,x=w4.setCell ⟨DD,0,none⟩ (.pointer (some ⟨D,0,none⟩)):=⟨_,rfl⟩
     rw[<-hw5]
     have K5:Keep (OneB DD) w4 w5:=by rw[hw5];exact FreshP.setK 0 _
     have F5:=F4.set0 (.pointer (some ⟨D,0,none⟩))
     rw[<-hw5]at F5
     have a5:FrC wd g off w5:=(K5.cell (p:=⟨g,off,none⟩) (Lib.lt_of_cell a4) (λe=>hgD e)).trans a4
     have hd5:=hd4.keep K5 (λb hb e=>hdD b hb e)
     have hc5:=hc4.keep K5 (λe=>hcD e)
     clear F4 a4 hd4 hc4
     clear hw5 c0 z0
     iterate 2 (unfold wpT;simp only[pickL,List.getElem?_toArray,List.getElem?_cons_succ,List.getElem?_cons_zero];refine wpEarlyC_step (λK hK=> ?_);go_simp;first|(refine⟨_,λ_=>rfl,hK _ ?_⟩;clear hK K;refine wpEarlyC_nil ?_)|(refine hK _ ?_;clear hK K;refine wpEarlyC_nil ?_))
     unfold wpT;simp only[pickL,List.getElem?_toArray,List.getElem?_cons_succ,List.getElem?_cons_zero]
     refine⟨a5,?_,trivial⟩
     have c1:=F5.cell 1 _ rfl
     have z1:=F5.frozen 1
     go_wp2_with fail
     obtain⟨w6,hw6⟩:∃x,x=w5.setCell ⟨DD,1,none⟩ (.pointer (some ⟨C,0,none⟩)):=⟨_,rfl⟩
     rw[<-hw6]
     have K6:Keep (OneB DD) w5 w6:=by rw[hw6];exact FreshP.setK 1 _
     have F6:=F5.set1 (.pointer (some ⟨C,0,none⟩))
     rw[<-hw6]at F6
     have a6:FrC wd g off w6:=(K6.cell (p:=⟨g,off,none⟩) (Lib.lt_of_cell a5) (λe=>hgD e)).trans a5
     have hd6:=hd5.keep K6 (λb hb e=>hdD b hb e)
     have hc6:=hc5.keep K6 (λe=>hcD e)
     clear F5 a5 hd5 hc5
     clear hw6 c1 z1
     iterate 2 (unfold wpT;simp only[pickL,List.getElem?_toArray,List.getElem?_cons_succ,List.getElem?_cons_zero];refine wpEarlyC_step (λK hK=> ?_);go_simp;first|(refine⟨_,λ_=>rfl,hK _ ?_⟩;clear hK K;refine wpEarlyC_nil ?_)|(refine hK _ ?_;clear hK K;refine wpEarlyC_nil ?_))
     unfold wpT;simp only[pickL,List.getElem?_toArray,List.getElem?_cons_succ,List.getElem?_cons_zero]
     refine⟨a6,?_,trivial⟩
     have c3:=F6.cell 3 _ rfl
     have z3:=F6.frozen 3
     go_wp2_with fail
     obtain⟨w7,hw7⟩:∃x,x=w6.setCell ⟨DD,3,none⟩ (.string sec):=⟨_,rfl⟩
     rw[<-hw7]
     have K7:Keep (OneB DD) w6 w7:=by rw[hw7];exact FreshP.setK 3 _
     have F7:=F6.set3 (.string sec)
     rw[<-hw7]at F7
     have a7:FrC wd g off w7:=(K7.cell (p:=⟨g,off,none⟩) (Lib.lt_of_cell a6) (λe=>hgD e)).trans a6
     have hd7:=hd6.keep K7 (λb hb e=>hdD b hb e)
     have hc7:=hc6.keep K7 (λe=>hcD e)
     clear F6 a6 hd6 hc6
     clear hw7 c3 z3
     iterate 2 (unfold wpT;simp only[pickL,List.getElem?_toArray,List.getElem?_cons_succ,List.getElem?_cons_zero];refine wpEarlyC_step (λK hK=> ?_);go_simp;first|(refine⟨_,λ_=>rfl,hK _ ?_⟩;clear hK K;refine wpEarlyC_nil ?_)|(refine hK _ ?_;clear hK K;refine wpEarlyC_nil ?_))
     unfold wpT;simp only[pickL,List.getElem?_toArray,List.getElem?_cons_succ,List.getElem?_cons_zero]
     refine⟨a7,?_,trivial⟩
     have c4:=F7.cell 4 _ rfl
     have z4:=F7.frozen 4
     go_wp2_with fail
     obtain⟨w8,hw8⟩:∃x,x=w7.setCell ⟨DD,4,none⟩ (.slice none 0 0):=⟨_,rfl⟩
     rw[<-hw8]
     have K8:Keep (OneB DD) w7 w8:=by rw[hw8];exact FreshP.setK 4 _
     have F8:=F7.set4 (.slice none 0 0)
     rw[<-hw8]at F8
     have a8:FrC wd g off w8:=(K8.cell (p:=⟨g,off,none⟩) (Lib.lt_of_cell a7) (λe=>hgD e)).trans a7
     have hd8:=hd7.keep K8 (λb hb e=>hdD b hb e)
     have hc8:=hc7.keep K8 (λe=>hcD e)
     clear F7 a7 hd7 hc7
     clear hw8 c4 z4
     unfold wpT
     go_wp2_with fail
     go_meet
     case rel=>exact⟨D,S,C,Lib.hid ⟨F8,hd8,hc8,h1,h2,h3⟩⟩
    ·(try simp only[pickL,List.getElem?_toArray,List.getElem?_cons_succ,List.getElem?_cons_zero])
     go_wp2_with fail
     refine(mark_any 100 (by decide) _ [wd] _ (R.keep F2.keep hRD) hs2 hmt (by simp)).mono ?_
     rintro e w3 ⟨rfl,K3⟩
     rw[hse]
     have F3:=F2.keepN K3
     have a3:FrC wd g off w3:=(K3.cell (p:=⟨g,off,none⟩) (Lib.lt_of_cell a2) (λx=>x)).trans a2
     have hd3:=hd2.keep K3 (λ_ _ x=>x)
     have hs3:=hs2.keep K3 (λ_ _ x=>x)
     clear F2 a2 hd2 hs2
     go_wp2_with fail
     iterate 2 (unfold wpT;simp only[pickL,List.getElem?_toArray,List.getElem?_cons_succ,List.getElem?_cons_zero];refine wpEarlyC_step (λK hK=> ?_);go_simp;first|(refine⟨_,λ_=>rfl,hK _ ?_⟩;clear hK K;refine wpEarlyC_nil ?_)|(refine hK _ ?_;clear hK K;refine wpEarlyC_nil ?_))
     unfold wpT;simp only[pickL,List.getElem?_toArray,List.getElem?_cons_succ,List.getElem?_cons_zero]
     refine⟨a3,?_,?_,trivial⟩
     ·(try simp only[pickL,List.getElem?_toArray,List.getElem?_cons_succ,List.getElem?_cons_zero])
      go_wp2_with fail
      obtain⟨w4,hw4⟩:∃x,x=w3.alloc (.cells #[.int .i64 0] 33):=⟨_,rfl⟩
      obtain⟨C,hC⟩:∃x,x=w3.heap.size:=⟨_,rfl⟩
      rw[<-hw4,<-hC]
      have K4:Keep NoB w3 w4:=by rw[hw4];exact(Keep.refl _ _).alloc _
      have nC:w4.heap[C]? =some (Obj.cells #[.int .i64 0] 33 (0,0)):=by rw[hw4,hC];exact heap_alloc_new _ _
      have loC:w.heap.size<=C:=by rw[hC];exact F3.keep.size
      have hCD:C≠DD:=by omega
      have F4:=F3.keepN K4
      have a4:FrC wd g off w4:=(K4.cell (p:=⟨g,off,none⟩) (Lib.lt_of_cell a3) (λx=>x)).trans a3
      have hd4:=hd3.keep K4 (λ_ _ x=>x)
      clear F3 a3 hd3
      have hc4:CountAt w4 C 0:=nC
      have hcD:=hCD
      have h3:=loC
      clear hw4 hC nC
      unfold wpT;simp only[pickL,List.getElem?_toArray,List.getElem?_cons_succ,List.getElem?_cons_zero]
      refine⟨a4,?_,trivial⟩
      have c0:=F4.cell 0 _ rfl
      have z0:=F4.frozen 0
      go_wp2_with fail
      obtain⟨w5,hw5⟩:∃x,x=w4.setCell ⟨DD,0,none⟩ (.pointer (some ⟨D,0,none⟩)):=⟨_,rfl⟩
      rw[<-hw5]
      have K5:Keep (OneB DD) w4 w5:=by rw[hw5];exact FreshP.setK 0 _
      have F5:=F4.set0 (.pointer (some ⟨D,0,none⟩))
      rw[<-hw5]at F5
      have a5:FrC wd g off w5:=(K5.cell (p:=⟨g,off,none⟩) (Lib.lt_of_cell a4) (λe=>hgD e)).trans a4
      have hd5:=hd4.keep K5 (λb hb e=>hdD b hb e)
      have hc5:=hc4.keep K5 (λe=>hcD e)
      clear F4 a4 hd4 hc4
      clear hw5 c0 z0
      iterate 2 (unfold wpT;simp only[pickL,List.getElem?_toArray,List.getElem?_cons_succ,List.getElem?_cons_zero];refine wpEarlyC_step (λK hK=> ?_);go_simp;first|(refine⟨_,λ_=>rfl,hK _ ?_⟩;clear hK K;refine wpEarlyC_nil ?_)|(refine hK _ ?_;clear hK K;refine wpEarlyC_nil ?_))
      unfold wpT;simp only[pickL,List.getElem?_toArray,List.getElem?_cons_succ,List.getElem?_cons_zero]
      refine⟨a5,?_,trivial⟩
      have c1:=F5.cell 1 _ rfl
      have z1:=F5.frozen 1
      go_wp2_with fail
      obtain⟨w6,hw6⟩:∃x,x=w5.setCell ⟨DD,1,none⟩ (.pointer (some ⟨C,0,none⟩)):=⟨_,rfl⟩
      rw[<-hw6]
      have K6:Keep (OneB DD) w5 w6:=by rw[hw6];exact FreshP.setK 1 _
      have F6:=F5.set1 (.pointer (some ⟨C,0,none⟩))
      rw[<-hw6]at F6
      have a6:FrC wd g off w6:=(K6.cell (p:=⟨g,off,none⟩) (Lib.lt_of_cell a5) (λe=>hgD e)).trans a5
      have hd6:=hd5.keep K6 (λb hb e=>hdD b hb e)
      have hc6:=hc5.keep K6 (λe=>hcD e)
      clear F5 a5 hd5 hc5
      clear hw6 c1 z1
      iterate 2 (unfold wpT;simp only[pickL,List.getElem?_toArray,List.getElem?_cons_succ,List.getElem?_cons_zero];refine wpEarlyC_step (λK hK=> ?_);go_simp;first|(refine⟨_,λ_=>rfl,hK _ ?_⟩;clear hK K;refine wpEarlyC_nil ?_)|(refine hK _ ?_;clear hK K;refine wpEarlyC_nil ?_))
      unfold wpT;simp only[pickL,List.getElem?_toArray,List.getElem?_cons_succ,List.getElem?_cons_zero]
      refine⟨a6,?_,trivial⟩
      have c3:=F6.cell 3 _ rfl
      have z3:=F6.frozen 3
      go_wp2_with fail
      obtain⟨w7,hw7⟩:∃x,x=w6.setCell ⟨DD,3,none⟩ (.string sec):=⟨_,rfl⟩
      rw[<-hw7]
      have K7:Keep (OneB DD) w6 w7:=by rw[hw7];exact FreshP.setK 3 _
      have F7:=F6.set3 (.string sec)
      rw[<-hw7]at F7
      have a7:FrC wd g off w7:=(K7.cell (p:=⟨g,off,none⟩) (Lib.lt_of_cell a6) (λe=>hgD e)).trans a6
      have hd7:=hd6.keep K7 (λb hb e=>hdD b hb e)
      have hc7:=hc6.keep K7 (λe=>hcD e)
      clear F6 a6 hd6 hc6
      clear hw7 c3 z3
      iterate 2 (unfold wpT;simp only[pickL,List.getElem?_toArray,List.getElem?_cons_succ,List.getElem?_cons_zero];refine wpEarlyC_step (λK hK=> ?_);go_simp;first|(refine⟨_,λ_=>rfl,hK _ ?_⟩;clear hK K;refine wpEarlyC_nil ?_)|(refine hK _ ?_;clear hK K;refine wpEarlyC_nil ?_))
      unfold wpT;simp only[pickL,List.getElem?_toArray,List.getElem?_cons_succ,List.getElem?_cons_zero]
      refine⟨a7,?_,trivial⟩
      have c4:=F7.cell 4 _ rfl
      have z4:=F7.frozen 4
      go_wp2_with fail
      obtain⟨w8,hw8⟩:∃x,x=w7.setCell ⟨DD,4,none⟩ (.slice none 0 0):=⟨_,rfl⟩
      rw[<-hw8]
      have K8:Keep (OneB DD) w7 w8:=by rw[hw8];exact FreshP.setK 4 _
      have F8:=F7.set4 (.slice none 0 0)
      rw[<-hw8]at F8
      have a8:FrC wd g off w8:=(K8.cell (p:=⟨g,off,none⟩) (Lib.lt_of_cell a7) (λe=>hgD e)).trans a7
      have hd8:=hd7.keep K8 (λb hb e=>hdD b hb e)
      have hc8:=hc7.keep K8 (λe=>hcD e)
      clear F7 a7 hd7 hc7
      clear hw8 c4 z4
      unfold wpT
      go_wp2_with fail
      go_meet
      case rel=>exact⟨D,S,C,Lib.hid ⟨F8,hd8,hc8,h1,h2,h3⟩⟩
     ·(try simp only[pickL,List.getElem?_toArray,List.getElem?_cons_succ,List.getElem?_cons_zero])
      have c0:=F3.cell 0 _ rfl
      have z0:=F3.frozen 0
      go_wp2_with fail
      obtain⟨w4,hw4⟩:∃x,x=w3.setCell ⟨DD,0,none⟩ (.pointer (some ⟨D,0,none⟩)):=⟨_,rfl⟩
      rw[<-hw4]
      have K4:Keep (OneB DD) w3 w4:=by rw[hw4];exact FreshP.setK 0 _
      have F4:=F3.set0 (.pointer (some ⟨D,0,none⟩))
      rw[<-hw4]at F4
      have a4:FrC wd g off w4:=(K4.cell (p:=⟨g,off,none⟩) (Lib.lt_of_cell a3) (λe=>hgD e)).trans a3
      have hd4:=hd3.keep K4 (λb hb e=>hdD b hb e)
      clear F3 a3 hd3
      clear hw4 c0 z0
      unfold wpT;simp only[pickL,List.getElem?_toArray,List.getElem?_cons_succ,List.getElem?_cons_zero]
      refine⟨a4,?_,trivial⟩
      go_wp2_with fail
      obtain⟨w5,hw5⟩:∃x,x=w4.alloc (.cells #[.int .i64 0] 33):=⟨_,rfl⟩
      obtain⟨C,hC⟩:∃x,x=w4.heap.size:=⟨_,rfl⟩
      rw[<-hw5,<-hC]
      have K5:Keep NoB w4 w5:=by rw[hw5];exact(Keep.refl _ _).alloc _
      have nC:w5.heap[C]? =some (Obj.cells #[.int .i64 0] 33 (0,0)):=by rw[hw5,hC];exact heap_alloc_new _ _
      have loC:w.heap.size<=C:=by rw[hC];exact F4.keep.size
      have hCD:C≠DD:=by omega
      have F5:=F4.keepN K5
      have a5:FrC wd g off w5:=(K5.cell (p:=⟨g,off,none⟩) (Lib.lt_of_cell a4) (λx=>x)).trans a4
      have hd5:=hd4.keep K5 (λ_ _ x=>x)
      clear F4 a4 hd4
      have hc5:CountAt w5 C 0:=nC
      have hcD:=hCD
      have h3:=loC
      clear hw5 hC nC
      iterate 2 (unfold wpT;simp only[pickL,List.getElem?_toArray,List.getElem?_cons_succ,List.getElem?_cons_zero];refine wpEarlyC_step (λK hK=> ?_);go_simp;first|(refine⟨_,λ_=>rfl,hK _ ?_⟩;clear hK K;refine wpEarlyC_nil ?_)|(refine hK _ ?_;clear hK K;refine wpEarlyC_nil ?_))
      unfold wpT;simp only[pickL,List.getElem?_toArray,List.getElem?_cons_succ,List.getElem?_cons_zero]
      refine⟨a5,?_,trivial⟩
      have c1:=F5.cell 1 _ rfl
      have z1:=F5.frozen 1
      go_wp2_with fail
      obtain⟨w6,hw6⟩:∃x,x=w5.setCell ⟨DD,1,none⟩ (.pointer (some ⟨C,0,none⟩)):=⟨_,rfl⟩
      rw[<-hw6]
      have K6:Keep (OneB DD) w5 w6:=by rw[hw6];exact FreshP.setK 1 _
      have F6:=F5.set1 (.pointer (some ⟨C,0,none⟩))
      rw[<-hw6]at F6
      have a6:FrC wd g off w6:=(K6.cell (p:=⟨g,off,none⟩) (Lib.lt_of_cell a5) (λe=>hgD e)).trans a5
      have hd6:=hd5.keep K6 (λb hb e=>hdD b hb e)
      have hc6:=hc5.keep K6 (λe=>hcD e)
      clear F5 a5 hd5 hc5
      clear hw6 c1 z1
      iterate 2 (unfold wpT;simp only[pickL,List.getElem?_toArray,List.getElem?_cons_succ,List.getElem?_cons_zero];refine wpEarlyC_step (λK hK=> ?_);go_simp;first|(refine⟨_,λ_=>rfl,hK _ ?_⟩;clear hK K;refine wpEarlyC_nil ?_)|(refine hK _ ?_;clear hK K;refine wpEarlyC_nil ?_))
      unfold wpT;simp only[pickL,List.getElem?_toArray,List.getElem?_cons_succ,List.getElem?_cons_zero]
      refine⟨a6,?_,trivial⟩
      have c3:=F6.cell 3 _ rfl
      have z3:=F6.frozen 3
      go_wp2_with fail
      obtain⟨w7,hw7⟩:∃x,x=w6.setCell ⟨DD,3,none⟩ (.string sec):=⟨_,rfl⟩
      rw[<-hw7]
      have K7:Keep (OneB DD) w6 w7:=by rw[hw7];exact FreshP.setK 3 _
      have F7:=F6.set3 (.string sec)
      rw[<-hw7]at F7
      have a7:FrC wd g off w7:=(K7.cell (p:=⟨g,off,none⟩) (Lib.lt_of_cell a6) (λe=>hgD e)).trans a6
      have hd7:=hd6.keep K7 (λb hb e=>hdD b hb e)
      have hc7:=hc6.keep K7 (λe=>hcD e)
      clear F6 a6 hd6 hc6
      clear hw7 c3 z3
      iterate 2 (unfold wpT;simp only[pickL,List.getElem?_toArray,List.getElem?_cons_succ,List.getElem?_cons_zero];refine wpEarlyC_step (λK hK=> ?_);go_simp;first|(refine⟨_,λ_=>rfl,hK _ ?_⟩;clear hK K;refine wpEarlyC_nil ?_)|(refine hK _ ?_;clear hK K;refine wpEarlyC_nil ?_))
      unfold wpT;simp only[pickL,List.getElem?_toArray,List.getElem?_cons_succ,List.getElem?_cons_zero]
      refine⟨a7,?_,trivial⟩
      have c4:=F7.cell 4 _ rfl
      have z4:=F7.frozen 4
      go_wp2_with fail
      obtain⟨w8,hw8⟩:∃x,x=w7.setCell ⟨DD,4,none⟩ (.slice none 0 0):=⟨_,rfl⟩
      rw[<-hw8]
      have K8:Keep (OneB DD) w7 w8:=by rw[hw8];exact FreshP.setK 4 _
      have F8:=F7.set4 (.slice none 0 0)
      rw[<-hw8]at F8
      have a8:FrC wd g off w8:=(K8.cell (p:=⟨g,off,none⟩) (Lib.lt_of_cell a7) (λe=>hgD e)).trans a7
      have hd8:=hd7.keep K8 (λb hb e=>hdD b hb e)
      have hc8:=hc7.keep K8 (λe=>hcD e)
      clear F7 a7 hd7 hc7
      clear hw8 c4 z4
      unfold wpT
      go_wp2_with fail
      go_meet
      case rel=>exact⟨D,S,C,Lib.hid ⟨F8,hd8,hc8,h1,h2,h3⟩⟩
   ·(try simp only[pickL,List.getElem?_toArray,List.getElem?_cons_succ,List.getElem?_cons_zero])
    go_wp2_with fail
    obtain⟨w2,hw2⟩:∃x,x=w1.alloc (.cells #[.int .i64 0] 33):=⟨_,rfl⟩
    obtain⟨C,hC⟩:∃x,x=w1.heap.size:=⟨_,rfl⟩
    rw[<-hw2,<-hC]
    have K2:Keep NoB w1 w2:=by rw[hw2];exact(Keep.refl _ _).alloc _
    have nC:w2.heap[C]? =some (Obj.cells #[.int .i64 0] 33 (0,0)):=by rw[hw2,hC];exact heap_alloc_new _ _
    have loC:w.heap.size<=C:=by rw[hC];exact F1.keep.size
    have hCD:C≠DD:=by omega
    have F2:=F1.keepN K2
    have a2:FrC wd g off w2:=(K2.cell (p:=⟨g,off,none⟩) (Lib.lt_of_cell a1) (λx=>x)).trans a1
    have hs2:=hs1.keep K2 (λ_ _ x=>x)
    clear F1 a1 hs1
    have hc2:CountAt w2 C 0:=nC
    have hcD:=hCD
    have h3:=loC
    clear hw2 hC nC
    unfold wpT;simp only[pickL,List.getElem?_toArray,List.getElem?_cons_succ,List.getElem?_cons_zero]
    refine⟨a2,?_,trivial⟩
    go_wp2_with fail
    refine(newDev_any _).mono ?_
    rintro e w3 ⟨D,S,rfl,hd3,h1,h2,K3⟩
    have h1:w.heap.size<=D:=Nat.le_trans F2.keep.size h1
    have h2:w.heap.size<=S:=Nat.le_trans F2.keep.size h2
    have hdD:∀b,DevB D S (.slice none 0 0) b->b≠DD:=λb hb e=>hb.elim (λe1=>by omega) (λhb=>hb.elim (λe1=>by omega) (λe1=>by cases e1))
    have F3:=F2.keepN K3
    have a3:FrC wd g off w3:=(K3.cell (p:=⟨g,off,none⟩) (Lib.lt_of_cell a2) (λx=>x)).trans a2
    have hc3:=hc2.keep K3 (λx=>x)
    have hs3:=hs2.keep K3 (λ_ _ x=>x)
    clear F2 a2 hs2 hc2
    go_wp2_with fail
    unfold wpT;simp only[pickL,List.getElem?_toArray,List.getElem?_cons_succ,List.getElem?_cons_zero]
    refine⟨a3,?_,trivial⟩
    go_wp2_with fail
    refine(mark_any 100 (by decide) _ [wd] _ (R.keep F3.keep hRD) hs3 hmt (by simp)).mono ?_
    rintro e w4 ⟨rfl,K4⟩
    rw[hse]
    have F4:=F3.keepN K4
    have a4:FrC wd g off w4:=(K4.cell (p:=⟨g,off,none⟩) (Lib.lt_of_cell a3) (λx=>x)).trans a3
    have hd4:=hd3.keep K4 (λ_ _ x=>x)
    have hc4:=hc3.keep K4 (λx=>x)
    have hs4:=hs3.keep K4 (λ_ _ x=>x)
    clear F3 a3 hd3 hs3 hc3
    go_wp2_with fail
    iterate 2 (unfold wpT;simp only[pickL,List.getElem?_toArray,List.getElem?_cons_succ,List.getElem?_cons_zero];refine wpEarlyC_step (λK hK=> ?_);go_simp;first|(refine⟨_,λ_=>rfl,hK _ ?_⟩;clear hK K;refine wpEarlyC_nil ?_)|(refine hK _ ?_;clear hK K;refine wpEarlyC_nil ?_))
    unfold wpT;simp only[pickL,List.getElem?_toArray,List.getElem?_cons_succ,List.getElem?_cons_zero]
    refine⟨a4,?_,trivial⟩
    have c0:=F4.cell 0 _ rfl
    have z0:=F4.frozen 0
    go_wp2_with fail
    obtain⟨w5,hw5⟩:∃x,x=w4.setCell ⟨DD,0,none⟩ (.pointer (some ⟨D,0,none⟩)):=⟨_,rfl⟩
    rw[<-hw5]
    have K5:Keep (OneB DD) w4 w5:=by rw[hw5];exact FreshP.setK 0 _
    have F5:=F4.set0 (.pointer (some ⟨D,0,none⟩))
    rw[<-hw5]at F5
    have a5:FrC wd g off w5:=(K5.cell (p:=⟨g,off,none⟩) (Lib.lt_of_cell a4) (λe=>hgD e)).trans a4
    have hd5:=hd4.keep K5 (λb hb e=>hdD b hb e)
    have hc5:=hc4.keep K5 (λe=>hcD e)
    clear F4 a4 hd4 hc4
    clear hw5 c0 z0
    iterate 2 (unfold wpT;simp only[pickL,List.getElem?_toArray,List.getElem?_cons_succ,List.getElem?_cons_zero];refine wpEarlyC_step (λK hK=> ?_);go_simp;first|(refine⟨_,λ_=>rfl,hK _ ?_⟩;clear hK K;refine wpEarlyC_nil ?_)|(refine hK _ ?_;clear hK K;refine wpEarlyC_nil ?_))
    unfold wpT;simp only[pickL,List.getElem?_toArray,List.getElem?_cons_succ,List.getElem?_cons_zero]
    refine⟨a5,?_,trivial⟩
    have c1:=F5.cell 1 _ rfl
    have z1:=F5.frozen 1
    go_wp2_with fail
    obtain⟨w6,hw6⟩:∃x,x=w5.setCell ⟨DD,1,none⟩ (.pointer (some ⟨C,0,none⟩)):=⟨_,rfl⟩
    rw[<-hw6]
    have K6:Keep (OneB DD) w5 w6:=by rw[hw6];exact FreshP.setK 1 _
    have F6:=F5.set1 (.pointer (some ⟨C,0,none⟩))
    rw[<-hw6]at F6
    have a6:FrC wd g off w6:=(K6.cell (p:=⟨g,off,none⟩) (Lib.lt_of_cell a5) (λe=>hgD e)).trans a5
    have hd6:=hd5.keep K6 (λb hb e=>hdD b hb e)
    have hc6:=hc5.keep K6 (λe=>hcD e)
    clear F5 a5 hd5 hc5
    clear hw6 c1 z1
    iterate 2 (unfold wpT;simp only[pickL,List.getElem?_toArray,List.getElem?_cons_succ,List.getElem?_cons_zero];refine wpEarlyC_step (λK hK=> ?_);go_simp;first|(refine⟨_,λ_=>rfl,hK _ ?_⟩;clear hK K;refine wpEarlyC_nil ?_)|(refine hK _ ?_;clear hK K;refine wpEarlyC_nil ?_))
    unfold wpT;simp only[pickL,List.getElem?_toArray,List.getElem?_cons_succ,List.getElem?_cons_zero]
    refine⟨a6,?_,trivial⟩
    have c3:=F6.cell 3 _ rfl
    have z3:=F6.frozen 3
    go_wp2_with fail
    obtain⟨w7,hw7⟩:∃x,x=w6.setCell ⟨DD,3,none⟩ (.string sec):=⟨_,rfl⟩
    rw[<-hw7]
    have K7:Keep (OneB DD) w6 w7:=by rw[hw7];exact FreshP.setK 3 _
    have F7:=F6.set3 (.string sec)
    rw[<-hw7]at F7
    have a7:FrC wd g off w7:=(K7.cell (p:=⟨g,off,none⟩) (Lib.lt_of_cell a6) (λe=>hgD e)).trans a6
    have hd7:=hd6.keep K7 (λb hb e=>hdD b hb e)
    have hc7:=hc6.keep K7 (λe=>hcD e)
    clear F6 a6 hd6 hc6
    clear hw7 c3 z3
    iterate 2 (unfold wpT;simp only[pickL,List.getElem?_toArray,List.getElem?_cons_succ,List.getElem?_cons_zero];refine wpEarlyC_step (λK hK=> ?_);go_simp;first|(refine⟨_,λ_=>rfl,hK _ ?_⟩;clear hK K;refine wpEarlyC_nil ?_)|(refine hK _ ?_;clear hK K;refine wpEarlyC_nil ?_))
    unfold wpT;simp only[pickL,List.getElem?_toArray,List.getElem?_cons_succ,List.getElem?_cons_zero]
    refine⟨a7,?_,trivial⟩
    have c4:=F7.cell 4 _ rfl
    have z4:=F7.frozen 4
    go_wp2_with fail
    obtain⟨w8,hw8⟩:∃x,x=w7.setCell ⟨DD,4,none⟩ (.slice none 0 0):=⟨_,rfl⟩
    rw[<-hw8]
    have K8:Keep (OneB DD) w7 w8:=by rw[hw8];exact FreshP.setK 4 _
    have F8:=F7.set4 (.slice none 0 0)
    rw[<-hw8]at F8
    have a8:FrC wd g off w8:=(K8.cell (p:=⟨g,off,none⟩) (Lib.lt_of_cell a7) (λe=>hgD e)).trans a7
    have hd8:=hd7.keep K8 (λb hb e=>hdD b hb e)
    have hc8:=hc7.keep K8 (λe=>hcD e)
    clear F7 a7 hd7 hc7
    clear hw8 c4 z4
    unfold wpT
    go_wp2_with fail
    go_meet
    case rel=>exact⟨D,S,C,Lib.hid ⟨F8,hd8,hc8,h1,h2,h3⟩⟩
 case rest=>
  obtain⟨D,S,C,hF⟩:=hcut
  have hrow:DeskRow wc DD D C v2 sec (.slice none 0 0):=hF.out.part.row
  have hneC:DD≠C:=λe=>by have:=hF.out.loC;have:=lt_of_heap hDD;omega
  have hi:=inv_fresh sec sure0 List.length_replicate sure0_at
  have hsz:wz.heap.size<=w.heap.size:=HKz.out.size
  have hltD:=lt_of_heap hDD
  have hag:=again_ok (R:=λBB W'=>∃P',BaseN wz W' P' BB D C (freshV sec) ⟨sure0,[],-1⟩ ((0:Nat):Int) nilB 60∧¬P' DD∧∀x,P' x->w.heap.size<=x) hrow hneC (λW KW=>by
   have KD:Keep (OneB DD) wc W:=(FreshP.setK 2 (.pointer none)).thenN KW
   have hd:=hF.out.dev.keep KD (λb hb e=>by
    have e:b=DD:=e
    have:=hF.out.loD
    have:=hF.out.loS
    rcases hb with hb|hb|hb
    ·omega
    ·omega
    ·cases hb)
   have hc:=hF.out.cnt.keep KD (λe=>hneC e.symm)
   have hK:Keep NoB wz W:=(HKz.out.trans (hF.out.part.keep.then KD) (λi hi e=>by have e:i=DD:=e;omega))
   have hsep:∀b,DevB D S (.slice none 0 0) b∨b=C->wz.heap.size<=b:=λb hb=>by
    have:=hF.out.loD
    have:=hF.out.loS
    have:=hF.out.loC
    rcases hb with(hb|hb|hb)|hb
    ·omega
    ·omega
    ·cases hb
    ·omega
   have ho:=open_n (b:=nilB) (d:=⟨sure0,[],-1⟩) hd hK hsep (n:=0) hc (by omega) hi.bsz hs16 HG0.out.rounds HG0.out.items (inv_open hi) hi.texts hi.t200 nilB_ok (.inl ⟨rfl,rfl⟩)
   rw[show openBase nilB (freshV sec).texts=nilB from rfl]at ho
   refine ho.mono ?_
   rintro e W' ⟨⟨BB,P',he,hb,hP⟩,K⟩
   refine⟨BB,he,⟨P',hb,λhx=> ?_,λx hx=> ?_⟩,K⟩
   rotate_left
   ·have h1:=hF.out.loD
    have h2:=hF.out.loS
    have h3:=hF.out.loC
    have h4:=KD.size
    have h5:=hF.out.part.keep.size
    rcases hP x hx with(hx|hx|hx)|hx|hx
    ·omega
    ·omega
    ·cases hx
    ·omega
    ·omega
   have h1:=hF.out.loD
   have h2:=hF.out.loS
   have h3:=hF.out.loC
   have h4:=KD.size
   have h5:=hF.out.part.keep.size
   rcases hP DD hx with(hx|hx|hx)|hx|hx
   ·omega
   ·omega
   ·cases hx
   ·omega
   ·omega)
  have HF:=Lib.hid hF.out
  have Hag:=Lib.hid hag
  clear hag hF hi
  go_wp2_with fail
  refine Hag.out.mono ?_
  rintro e w' ⟨rfl,BB,W',⟨P',hb,hnP,hPn⟩,KW,hr2,rfl⟩
  have KS:Keep (OneB DD) W' (W'.setCell ⟨DD,2,none⟩ (.pointer (some ⟨BB,0,none⟩))):=(Keep.refl _ _).setCell (p:=⟨DD,2,none⟩) (.inl (show OneB DD DD from rfl)) _
  have hOD:OtherB W' (OneB DD):=one_otherT hr2 ⟨by decide,by decide,by decide,by decide,by decide⟩
  obtain⟨B,S',wv,mb,wb,CC,nm,nw,L,W,hbi⟩:=hb
  have hmbD:¬OneB DD mb:=λe=>by have e:mb=DD:=e;exact hbi.rd.now.row_ne hr2 e
  have hbi2:=hbi.keepOther KS hOD (λx hx e=>by have e:x=DD:=e;subst e;exact hnP hx) hmbD (λx hx e=>by have e:x=DD:=e;omega)
  have hDS:DeskS wz (W'.setCell ⟨DD,2,none⟩ (.pointer (some ⟨BB,0,none⟩))) P' DD BB D C sec (freshV sec) ⟨sure0,[],-1⟩ 0 nilB 60 (.slice none 0 0) []:=
   ⟨⟨B,S',wv,mb,wb,CC,nm,nw,L,W,hbi2⟩,hr2.setBase _,hnP,hDz,.inl ⟨rfl,none,0,rfl⟩,(λq hq=>by cases hq),inv_fresh sec sure0 List.length_replicate sure0_at,rfl,by decide,.inl ⟨rfl,rfl⟩⟩
  have KF:Keep (OneB DD) w (W'.setCell ⟨DD,2,none⟩ (.pointer (some ⟨BB,0,none⟩))):=((HF.out.part.keep.then (FreshP.setK 2 (.pointer none))).trans KW (λi hi e=>by have e:i=C:=e;have:=HF.out.loC;omega)).then KS
  have HDS:=Lib.hid hDS
  have HKF:=Lib.hid KF
  clear hDS KF KS KW hbi hbi2 hOD hmbD
  go_wp2_with fail
  go_ret
  exact⟨rfl,⟨BB,D,C,P',HDS.out,hPn⟩,HKF.out⟩
theorem deskFresh_any{wz w:World}{DD g off c:Nat}(hDD:w.heap[DD]? =some (.cells #[.pointer none,.pointer none,.pointer none,.string ⟨#[]⟩,.slice none 0 0] 62 (0,0)))(hg:w.cell? ⟨g,off,none⟩=some (.string ⟨#[]⟩))(hgD:g≠DD)(hw0K:Keep NoB wz w)(hDz:wz.heap.size<=DD)(G0:BaseVars wz)(R:RoundsVar w)(hRD:¬OneB DD 5):
  Calls Tryz.prog 23 #[.pointer (some ⟨DD,0,none⟩),.slice (some ⟨g,off,none⟩) 1 c] w λe w'=>e= .returned (.string newTxt)∧(∃BB D C P',DeskS wz w' P' DD BB D C deskSec (freshV deskSec) ⟨sure0,[],-1⟩ 0 nilB 60 (.slice none 0 0) [])∧Keep (OneB DD) w w':=
 (deskFresh_g ⟨#[]⟩ (by decide) hDD hg hgD hw0K hDz G0 R hRD).mono λ_ _ ⟨h1,⟨BB,D,C,P',h2,_⟩,h3⟩=>⟨h1,⟨BB,D,C,P',h2⟩,h3⟩
end Go.Proofs.YtnmhgehpddipdaaGreatDoor
namespace Go.Cof
open Go.RowKit
def numTx(z:Int):ByteArray:=⟨(Lib.itoa z).toArray⟩
end Go.Cof
namespace Go.Proofs.YtnmhgehpddipdaaGreatDoor
open Go.RowKit Go.Cof
set_option maxRecDepth 100000
theorem strs_at{w:World}{p:Option Addr}{m c:Nat}{l:List ByteArray}(S:Strs w (.slice p m c) l)(hm:m=l.length)(h0:0<m):∃g off,p=some ⟨g,off,none⟩∧g<w.heap.size∧∀i,i<m->w.cell? ⟨g,off+i,none⟩=some (.string (l.getD i ⟨#[]⟩)):=by
 rcases S with⟨h1,_⟩|⟨g,off,c',hv,hg,hc⟩
 ·rw[h1]at hm;simp at hm;omega
 ·cases hv;exact⟨g,off,rfl,hg,λi hi=>hc i (by omega)⟩
theorem ints_news(z:Int):∀u∈ [Value.int .i64 z],u.oneCell'=true:=by
 intro u hu
 obtain rfl:u= .int .i64 z:=by simpa using hu
 rfl
theorem deskNumbers_ok{w:World}{p:Option Addr}{m c:Nat}(zs:List Int)(hm:m=zs.length)(hm6:m<=1000)(S:Strs w (.slice p m c) (zs.map numTx))(hz:∀z∈zs,Lib.atoiAll (Lib.itoa z)= .ok z∧(Lib.itoa z).length<=1000000)(T:PowVar w):
  Calls Tryz.prog 190 #[.slice p m c] w λe w'=>∃v',e= .returned v'∧OwnsN w' w.heap.size 3 1 v' m (zs.map (Value.int .i64))∧Keep NoB w w':=by
 obtain⟨i0,hi0,hz0,hs0,hb0⟩:=int_info
 have HS:=Lib.hid S
 have HT:=Lib.hid T
 have Hz:=Lib.hid hz
 have Hm:=Lib.hid hm
 clear S T hz hm
 go_enter Tryz.func190,Tryz.ntmps190
 go_wp2_with fail
 go_loopw [3,8] (λlv iv wr=>∃(k:Nat) (o:Value),k<=m∧iv= .int .i64 k∧o=lv∧Hid (OwnsN wr w.heap.size 3 1 o k ((zs.take k).map (Value.int .i64)))∧Hid (Keep NoB w wr)) (λ_ iv _=>m-(intOf iv).toNat)
 case atStart=>exact⟨0,_,by omega,rfl,rfl,Lib.hid (OwnsN.nil _ _ _ _),Lib.hid (Keep.refl _ _)⟩
 case round=>
  obtain⟨k,o,hk,rfl,rfl,hO,K⟩:=hrel
  obtain⟨wo,rfl⟩:∃wo,wo=wr:=⟨_,rfl⟩
  by_cases hlt:k<m
  ·have j1:(k:Int)<m:=by omega
   have S':=HS.out.keep K.out (λ_ _ x=>x)
   obtain⟨g,off,rfl,hg,hc⟩:=strs_at S' (by rw[List.length_map];exact Hm.out) (by omega)
   obtain⟨z,hzk⟩:∃z,zs[k]? =some z:=⟨_,List.getElem?_eq_getElem (by have:=Hm.out;omega)⟩
   have hck:=hc k hlt
   have hgd:(zs.map numTx).getD k ⟨#[]⟩=numTx z:=by rw[List.getD_eq_getElem?_getD,List.getElem?_map,hzk];rfl
   rw[hgd]at hck
   have hzz:=Hz.out z (List.mem_of_getElem? hzk)
   have hnum:=deskNumber_ok z wo hzz.1 hzz.2 (HT.out.keep K.out (λx=>x))
   rw[show(⟨(Lib.itoa z).toArray⟩:ByteArray)=numTx z from rfl]at hnum
   have htk:(zs.take (k+1)).map (Value.int .i64)=(zs.take k).map (Value.int .i64)++ [.int .i64 z]:=by
    have h1:=List.getElem?_eq_some_iff.1 hzk
    rw[List.take_succ_eq_append_getElem h1.1,h1.2,List.map_append]
    rfl
   obtain⟨s,hs⟩:∃s,s=numTx z:=⟨_,rfl⟩
   rw[<-hs]at hck hnum
   have Hnum:=Lib.hid hnum
   have Htk:=Lib.hid htk
   have HK:=Lib.hid K.out
   clear hnum htk hs hgd hzk hzz hc S' K
   go_wp2_with fail
   refine Hnum.out.mono ?_
   rintro e w1 ⟨rfl,K1⟩
   have HO1:=Lib.hid (hO.out.keep K1 (λ_ _ x=>x))
   have HK1:=Lib.hid (HK.out.thenN K1)
   clear Hnum K1 hO HK
   go_wp2_with (at_builtin;refine wpList_append_n _ rfl _ _ 45 rfl w.heap.size 3 i0 _ 1 8 Tryz.underlying45 hi0 hz0 hs0 hb0 rfl (by decide) o k _ rfl (HO1.out.alloc _) ⟨w1.heap.size,0,none⟩ 1 1 [.int .i64 z] rfl rfl (cells_new _ _ _) (ints_news z) (by unfold maxLen;omega) (by omega) (by have:=HK1.out.size;simp;omega) ?_;intro v' w' own' hgrow)
   have KN:Keep NoB w w':=(HK1.out.alloc (.cells #[.int .i64 z] 3)).grown hgrow (λb hb=> .inr (HO1.out.lt b hb).1)
   exact⟨⟨k+1,v',by omega,by go_num,rfl,Lib.hid (by rw[Htk.out];exact own'),Lib.hid KN⟩,by simp[intOf];omega⟩
  ·obtain rfl:k=m:=by omega
   have j1:¬(k:Int)<k:=by omega
   have hO':=hO.out
   rw[List.take_of_length_le (by rw[<-Hm.out];exact Nat.le_refl _)]at hO'
   have HO:=Lib.hid hO'
   have HK:=Lib.hid K.out
   clear hO hO' K
   go_wp2_with fail
   go_ret
   exact⟨_,rfl,HO.out,HK.out⟩
theorem said_put{T:List ByteArray}{b:BaseV}{x:PItem}(h:Said T b):Said T (putB b x).2:=by
 rcases putB_cases b x with e|⟨c,_,_,e⟩
 ·rw[e];exact h
 ·rw[e];exact h
def DeskPutC(G off:Nat)(a b:ByteArray)(W:World):Prop:=W.cell? ⟨G,off,none⟩=some (.string a)∧W.cell? ⟨G,off+1,none⟩=some (.string b)
section
variable {w0 w w':World}{P:Nat->Prop}{DD BB D C:Nat}{secret:ByteArray}{V:VaultV}{d:DevV}{n:Nat}{b:BaseV}{k:Nat}{iv:Value}{img:List ByteArray}
theorem deskPut_ok(h:DeskS w0 w P DD BB D C secret V d n b k iv img)(G:BaseVars w0)(hk:k<900000){q:Option Addr}{m c:Nat}(name tg:ByteArray)(zs:List Int)(hm:m=zs.length+2)(hm6:m<=900)(S:Strs w (.slice q m c) (name::tg::zs.map numTx))(htg:tg=⟨#[45]⟩)
  (hz:∀z∈zs,Lib.atoiAll (Lib.itoa z)= .ok z∧(Lib.itoa z).length<=1000000) (hp:(putB b (name,⟨#[]⟩,zs)).1=0) (hcap:m<=c) (hpos:0<zs.length) (hsP:∀x,(Value.slice q m c).ownBlock=some x->¬P x):
  Calls Tryz.prog 131 #[.pointer (some ⟨DD,0,none⟩),.slice q m c] w λe w'=>e= .returned (.string putTxt)∧DeskS w0 w' P DD BB D C secret V d n (putB b (name,⟨#[]⟩,zs)).2 (k+1) iv img∧Keep P w w':=by
 obtain⟨g,off,rfl,hg,hc⟩:=strs_at S (by simp;omega) (by omega)
 have hgP:¬P g:=hsP g rfl
 have S2:Strs w (.slice (some ⟨g,off+2,none⟩) (m-2) (c-2)) (zs.map numTx):=by
  by_cases h0:zs= []
  ·subst h0
   exact .inl ⟨rfl,_,_,by rw[show m-2=0 by simp at hm;omega]⟩
  ·refine .inr ⟨g,off+2,c-2,by rw[List.length_map,show m-2=zs.length by omega],hg,λi hi=> ?_⟩
   have h1:=hc (i+2) (by rw[List.length_map]at hi;omega)
   rw[show off+2+i=off+(i+2)by omega,h1]
   rfl
 have hnum:=deskNumbers_ok zs (m:=m-2) (by omega) (by omega) S2 hz (G.items.pow.keep h.base.keep (λx=>x))
 have c0:DeskPutC g off name tg w:=⟨hc 0 (by omega),hc 1 (by omega)⟩
 obtain⟨r,hr⟩:∃r,r=m-2:=⟨_,rfl⟩
 obtain⟨s,hs⟩:∃s,s=c-2:=⟨_,rfl⟩
 have hmi:(m:Int)-2=(r:Int):=by omega
 have hci:(c:Int)-2=(s:Int):=by omega
 rw[<-hr,<-hs]at hnum
 have H:=Lib.hid h
 have Hnum:=Lib.hid hnum
 have hm0:(0:Int)<m:=by omega
 have hn0:0<m:=by omega
 have hn1:1<m:=by omega
 have hm1:(1:Int)<m:=by omega
 have hm2:¬(m:Int)<2:=by omega
 have hc2:¬c=2:=by omega
 have hc3:¬(2:Int)=c:=by omega
 have hc4:¬(c:Int)=2:=by omega
 have hm22:(2:Int)<=m:=by omega
 have Htg:=Lib.hid htg
 have Hpos:=Lib.hid hpos
 have Hcap:=Lib.hid hcap
 have Hm:=Lib.hid hm
 have Hhr:=Lib.hid hr
 have Hhs:=Lib.hid hs
 clear h hnum S S2 hc hm hr hs htg hpos hcap
 go_enter Tryz.func131,Tryz.ntmps131
 go_wp2_with fail
 rw[<-Hhr.out,<-Hhs.out]
 refine Hnum.out.mono ?_
 rintro e w1 ⟨v',rfl,hown,K1⟩
 obtain⟨pv,cv,rfl⟩:=own_sl1 hown
 have H1:=Lib.hid (H.out.keepN K1)
 have Hd:=Lib.hid (H1.out.keepN ((Keep.refl NoB w1).drew))
 have hb:=deskBase_ok Hd.out.row
 have a1:DeskPutC g off name tg w1:=⟨(K1.cell (p:=⟨g,off,none⟩) hg (λx=>x)).trans c0.1,(K1.cell (p:=⟨g,off+1,none⟩) hg (λx=>x)).trans c0.2⟩
 have Hown:=Lib.hid hown
 have Hb:=Lib.hid hb
 have HK1:=Lib.hid K1
 have HG:=Lib.hid G
 have Hp:=Lib.hid hp
 have Hz:=Lib.hid hz
 clear hb hown K1 Hnum H c0 G hp hz
 have l1:∀x:InC (DeskPutC g off name tg),x.w.cell? ⟨g,off,none⟩=some (.string name):=λx=>x.h.1
 have l2:∀x:InC (DeskPutC g off name tg),x.w.cell? ⟨g,off+1,none⟩=some (.string tg):=λx=>x.h.2
 go_wp2_with fail
 refine wp_region_mix (DeskPutC g off name tg) [(true,0),(true,2),(true,3),(true,4),(true,5),(true,6),(true,7),(true,9),(false,1),(false,8),(false,10),(false,11),(false,12)] (by kernel_rfl) (by kernel_rfl) (λc a d v w h=>by cases d<;>exact h) ?_
 simp only[wpMixC,pickL,List.getElem?_toArray,List.getElem?_cons_succ,List.getElem?_cons_zero]
 repeat(refine wpEarlyC_step (λK hK=> ?_);go_simp;first|(refine⟨_,λ_=>rfl,hK _ ?_⟩;clear hK K;refine wpEarlyC_nil ?_)|(refine hK _ ?_;clear hK K;refine wpEarlyC_nil ?_))
 clear l1 l2
 refine⟨a1,?_⟩
 go_wp2_with fail
 refine Hb.out.mono ?_
 rintro e w2 ⟨rfl,hw2⟩
 subst w2
 go_wp2_with fail
 repeat(refine wpEarlyC_step (λK hK=> ?_);go_simp;first|(refine⟨_,λ_=>rfl,hK _ ?_⟩;clear hK K;refine wpEarlyC_nil ?_)|(refine hK _ ?_;clear hK K;refine wpEarlyC_nil ?_))
 refine⟨a1,?_⟩
 go_wp2_with fail
 refine(Tryz.strings_TrimPrefix tg ⟨#[45]⟩ _).mono ?_
 rintro e w2 ⟨rfl,hw2⟩
 subst w2
 have htr:(⟨(Lib.trimPrefix tg.data.toList (⟨#[45]⟩:ByteArray).data.toList).toArray⟩:ByteArray)=⟨#[]⟩:=by rw[Htg.out];decide+kernel
 rw[htr]
 go_wp2_with fail
 repeat(refine wpEarlyC_step (λK hK=> ?_);go_simp;first|(refine⟨_,λ_=>rfl,hK _ ?_⟩;clear hK K;refine wpEarlyC_nil ?_)|(refine hK _ ?_;clear hK K;refine wpEarlyC_nil ?_))
 refine⟨a1,?_⟩
 go_wp2_with fail
 repeat(refine wpEarlyC_step (λK hK=> ?_);go_simp;first|(refine⟨_,λ_=>rfl,hK _ ?_⟩;clear hK K;refine wpEarlyC_nil ?_)|(refine hK _ ?_;clear hK K;refine wpEarlyC_nil ?_))
 refine⟨a1,?_⟩
 have hzl:r=zs.length:=by have:=Hm.out;have:=Hhr.out;omega
 have Nn:Nums w1.drew (.slice pv r cv) zs:=(nums_ofN (by rw[<-hzl];exact Hown.out)).keep ((Keep.refl NoB w1).drew) (λ_ _ x=>x)
 have hput:=put_n Hd.out.base hk ⟨name,⟨#[]⟩,.slice pv r cv,zs⟩ Nn (by show zs.length<=1000000;omega)
 simp only[aggI,encItem]at hput
 have Hput:=Lib.hid hput
 have Hzl:=Lib.hid hzl
 clear hput Nn hzl Hown Hb
 go_wp2_with fail
 refine Hput.out.mono ?_
 rintro e w3 ⟨he,hb3,K3⟩
 rw[show plainI ⟨name,⟨#[]⟩,.slice pv r cv,zs⟩=(name,⟨#[]⟩,zs)from rfl]at he hb3
 rw[Hp.out]at he
 have he:e= .returned .nilIface:=he
 subst he
 have hg1:g<w1.drew.heap.size:=Nat.lt_of_lt_of_le hg HK1.out.size
 have a3:DeskPutC g off name tg w3:=⟨(K3.cell (p:=⟨g,off,none⟩) hg1 hgP).trans a1.1,(K3.cell (p:=⟨g,off+1,none⟩) hg1 hgP).trans a1.2⟩
 have H3:=Lib.hid (Hd.out.step hb3 K3 (Grow.refl _ _) Hd.out.inv Hd.out.wait Hd.out.fuse (said_put Hd.out.said))
 have HKf:=Lib.hid (((HK1.out.drew).ofN (S:=P)).then K3)
 clear hb3 K3 Hput Hd H1 HK1
 go_wp2_with fail
 repeat(refine wpEarlyC_step (λK hK=> ?_);go_simp;first|(refine⟨_,λ_=>rfl,hK _ ?_⟩;clear hK K;refine wpEarlyC_nil ?_)|(refine hK _ ?_;clear hK K;refine wpEarlyC_nil ?_))
 refine⟨a3,?_⟩
 go_wp2_with fail
 refine(must_nil _).mono ?_
 rintro e w4 ⟨rfl,hw4⟩
 subst w4
 go_wp2_with fail
 go_ret
 exact⟨rfl,H3.out,HKf.out⟩
structure DeskL(w0 w:World)(P:Nat->Prop)(DD D C:Nat)(secret:ByteArray)(bv iv:Value)(B:List ByteArray)(n:Nat):Prop where
 row:DeskRow w DD D C bv secret iv
 dev:∃(S:Nat) (wv:Value) (fu:Int),DevIs w D S wv ⟨B,[],fu⟩∧∀b,P b↔(DevB D S wv b∨b=C)
 cnt:CountAt w C n
 keep:Keep NoB w0 w
 own:∀b,P b->w0.heap.size<=b
 sep:¬P DD
 new:w0.heap.size<=DD
def LayC(DD D:Nat)(iv:Value)(W:World):Prop:=W.cell? ⟨DD,0,none⟩=some (.pointer (some ⟨D,0,none⟩))∧W.cell? ⟨DD,4,none⟩=some iv
theorem deskLay_ok(h:DeskS w0 w P DD BB D C secret V d n b k iv img)(hl:img.length<=1000000)(hs:∀s∈img,s.size<=1000000)(q:Option Addr)(c:Nat):
  Calls Tryz.prog 128 #[.pointer (some ⟨DD,0,none⟩),.slice q 0 c] w λe w'=>e= .returned (.string layTxt)∧(∃P',DeskL w0 w' P' DD D C secret (.pointer (some ⟨BB,0,none⟩)) iv (layP img) n∧∀x,P' x->P x)∧Keep P w w':=by
 obtain⟨B,S',wv,mb,wb,CC,nm,nw,L,W,hb⟩:=h.base
 have hvP:∀x,VB B D C S' wv x->P x:=λx hx=>(hb.blocks x).2 (.inl hx)
 have hdP:∀x,DevB D S' wv x->P x:=λx hx=>hvP x (.inl hx)
 have hla:=lay_any (hb.vn.keepN (Keep.refl NoB w).drew).dev iv img (h.image.keep ((Keep.refl NoB w).drew) (λ_ _ x=>x)) hl hs (λg hg hx=>(h.isep g hg).1 (hdP g hx))
 have a1:LayC DD D iv w:=⟨h.row.cell0,h.row.cell4⟩
 have hCP:P C:=hvP C (.inr (.inr rfl))
 have hneC:DD≠C:=λe=>h.sep (e▸hCP)
 have hcnt:=hb.vn.cnt
 have hkeep:=hb.vn.keep
 have hown:=hb.vn.own
 have hdev:=hb.vn.dev
 have H:=Lib.hid h
 have Hla:=Lib.hid hla
 have HP:=Lib.hid hdP
 have Hcnt:=Lib.hid hcnt
 have Hkeep:=Lib.hid hkeep
 have Hown:=Lib.hid hown
 have Hdev:=Lib.hid hdev
 have HCP:=Lib.hid hCP
 clear h hla hb hdP hvP hcnt hkeep hown hdev hCP
 go_enter Tryz.func128,Tryz.ntmps128
 go_wp2_with fail
 refine(words_ok _ 0 c w).mono ?_
 rintro e w1 ⟨rfl,hw1⟩
 subst w1
 have l1:∀x:InC (LayC DD D iv),x.w.cell? ⟨DD,0,none⟩=some (.pointer (some ⟨D,0,none⟩)):=λx=>x.h.1
 have l2:∀x:InC (LayC DD D iv),x.w.cell? ⟨DD,4,none⟩=some iv:=λx=>x.h.2
 go_wp2_with fail
 refine wp_region_mix (LayC DD D iv) [(true,0),(true,1),(true,2),(true,3),(true,4),(true,5),(true,6),(true,7),(false,8)] (by kernel_rfl) (by kernel_rfl) (λc a d v w h=>by cases d<;>exact h) ?_
 simp only[wpMixC,pickL,List.getElem?_toArray,List.getElem?_cons_succ,List.getElem?_cons_zero]
 repeat(refine wpEarlyC_step (λK hK=> ?_);go_simp;first|(refine⟨_,λ_=>rfl,hK _ ?_⟩;clear hK K;refine wpEarlyC_nil ?_)|(refine hK _ ?_;clear hK K;refine wpEarlyC_nil ?_))
 clear l1 l2
 refine⟨a1,?_⟩
 go_wp2_with fail
 refine Hla.out.mono ?_
 rintro e w2 ⟨rfl,hd2,K2⟩
 have K2':Keep (DevB D S' wv) w w2:=(((Keep.refl NoB w).drew).ofN (S:=DevB D S' wv)).then K2
 have hDD:¬DevB D S' wv DD:=λhx=>H.out.sep (HP.out DD hx)
 have hsub:∀x,DevB D S' (.slice none 0 0) x∨x=C->P x:=λx hx=>hx.elim (λhx=>HP.out x (hx.elim .inl (λhx=>hx.elim (λhx=> .inr (.inl hx)) (λhx=>by cases hx)))) (λhx=>hx▸HCP.out)
 have HL:Hid (∃P',DeskL w0 w2 P' DD D C secret (.pointer (some ⟨BB,0,none⟩)) iv (layP img) n∧∀x,P' x->P x):=Lib.hid ⟨λx=>DevB D S' (.slice none 0 0) x∨x=C,⟨H.out.row.keep K2' hDD,⟨S',_,_,hd2,λb=>Iff.rfl⟩,Hcnt.out.keep K2' (λhx=>devB_count Hdev.out Hcnt.out hx),Hkeep.out.trans K2' (λi hi hx=>by have:=Hown.out i (.inl hx);omega),λx hx=>Hown.out x (hx.elim (λhx=> .inl (hx.elim .inl (λhx=>hx.elim (λhx=> .inr (.inl hx)) (λhx=>by cases hx)))) (λhx=> .inr (.inr hx))),λhx=>H.out.sep (hsub _ hx),H.out.new⟩,hsub⟩
 have HKf:=Lib.hid (K2'.mono (λi _ hx=>HP.out i hx))
 clear hd2 K2 K2' Hla
 go_wp2_with fail
 go_ret
 exact⟨rfl,HL.out,HKf.out⟩
end
end Go.Proofs.YtnmhgehpddipdaaGreatDoor
namespace Go.Proofs.YtnmhgehpddipdaaGreatDoor
open Go.RowKit Go.Cof
def errTxt(n:Int):ByteArray:=⟨#[101,114,114,111,114,32]⟩++⟨(Lib.itoa n).toArray⟩
set_option maxRecDepth 100000
theorem catch_idle(p:Addr)(w:World):
  CallsD Tryz.prog 64 #[.pointer (some p)] .returning w λe u' w'=>e= .returned (.tuple #[])∧u'= .returning∧w'=w:=by
 refine callsD_of_wpS Tryz.func64 rfl λc₀ cs hu=> ?_
 apply wpS_seq
 apply wpS_region
 simp[wpOpsS,go_sem,recoverD,hu,Tryz.ntmps64,Exit.thenS]
 refine wpS_of_wp ?_
 have ht:(#[Value.pointer (some p)]++((Array.replicate 18 undef).setIfInBounds 3 (Value.nilIface)).setIfInBounds 0 (Value.nilIface):Array Value)= #[.pointer (some p),.nilIface,undef,undef,.nilIface,undef,undef,undef,undef,undef,undef,undef,undef,undef,undef,undef,undef,undef,undef]:=by simp[Array.replicate,List.replicate_succ]
 rw[ht]
 clear ht
 generalize hQ:(λe a' w'=>bodyPostS _ _ _ _ _ e a' _ w')=Q
 have HQ:=Lib.hid hQ
 clear hQ
 go_wp2_with fail
 rw[<-HQ.out]
 cases c₀
 simp_all [bodyPostS,results,Tryz.results64]
theorem catch_panicking(X:Nat)(old:Value)(n:Int)(hn: -10000<n∧n<10000)(older:List PanicEntry)(w:World)(hx:w.heap[X]? =some (.cells #[old] 9 (0,0)))(T:PowVar w):
  CallsD Tryz.prog 64 #[.pointer (some ⟨X,0,none⟩)] (.panicking ({ v:=wrongV n,recovered:=false } ::older)) w λe u' w'=>
   e= .returned (.tuple #[])∧u'= .panicking ({ v:=wrongV n,recovered:=true } ::older)∧∃w1,Keep NoB w w1∧w'=w1.setCell ⟨X,0,none⟩ (.string (errTxt n)):=by
 unfold wrongV
 have hta:∀w,(Instr.typeAssert (.iface 116 (.agg #[.int .i64 n])) 20 116 true).run Tryz.prog w= .ok (.tuple #[.agg #[.int .i64 n],.bool true]) w:=λw=>by kernel_rfl
 have hito:=λw1 (K:Keep NoB w w1)=>itoa_any n (by omega) (by omega) w1 (T.keep K (λx=>x))
 obtain⟨it,hit⟩:∃it:ByteArray,it=⟨(Lib.itoa n).toArray⟩:=⟨_,rfl⟩
 rw[<-hit]at hito
 have hlen:it.size<=30:=by
  have h5:=itoa_len n hn
  rw[hit]
  show(Lib.itoa n).length<=30
  omega
 have hcat:¬(9223372036854775807<(⟨#[101,114,114,111,114,32]⟩:ByteArray).size+it.size):=by
  have:(⟨#[101,114,114,111,114,32]⟩:ByteArray).size=6:=rfl
  omega
 have Hito:=Lib.hid hito
 have Hit:=Lib.hid hit
 clear hito hit hlen T
 refine callsD_of_wpS Tryz.func64 rfl λc₀ cs hu=> ?_
 apply wpS_seq
 apply wpS_region
 simp[wpOpsS,go_sem,recoverD,hu,Tryz.ntmps64,Exit.thenS]
 refine wpS_of_wp ?_
 have ht:(#[Value.pointer (some ⟨X,0,none⟩)]++((Array.replicate 18 undef).setIfInBounds 3 (Value.iface 116 (.agg #[.int .i64 n]))).setIfInBounds 0 (Value.iface 116 (.agg #[.int .i64 n])):Array Value)= #[.pointer (some ⟨X,0,none⟩),.iface 116 (.agg #[.int .i64 n]),undef,undef,.iface 116 (.agg #[.int .i64 n]),undef,undef,undef,undef,undef,undef,undef,undef,undef,undef,undef,undef,undef,undef]:=by simp[Array.replicate,List.replicate_succ]
 rw[ht]
 clear ht
 generalize hQ:(λe a' w'=>bodyPostS _ _ _ _ _ e a' _ w')=Q
 have HQ:=Lib.hid hQ
 clear hQ
 go_wp2_with fail
 have KA:Keep NoB w (w.alloc (.cells #[.int .i64 n] 116)):=(Keep.refl _ _).alloc _
 refine(Hito.out _ KA).mono ?_
 rintro e w2 ⟨rfl,K2⟩
 have hx2:=(KA.thenN K2).heap hx (λx=>x)
 have hc2:w2.cell? ⟨X,0,none⟩=some old:=cellOf hx2 0 rfl
 have hf2:w2.frozen? ⟨X,0,none⟩=false:=by simp[World.frozen?,hx2]
 have HK2:=Lib.hid (KA.thenN K2)
 clear Hito KA K2 hx hx2 hta
 go_wp2_with fail
 rw[<-HQ.out]
 cases c₀
 simp_all [bodyPostS,results,Tryz.results64]
 exact⟨w2,HK2.out,by rw[errTxt,<-Hit.out]⟩
def doV(DD f:Nat):Value:= .func (.func f) #[.pointer (some ⟨DD,0,none⟩)] #[]
def doesL(DD:Nat):List SEnt:=
 putS (putS (putS (putS (putS (putS (putS (putS (putS (putS (putS (putS (putS (putS (putS (putS (putS (putS (putS (putS ([]) ⟨#[98,108,111,99,107]⟩ (doV DD 117)) ⟨#[99,111,109,109,105,116]⟩ (doV DD 118)) ⟨#[99,111,117,110,116]⟩ (doV DD 119)) ⟨#[99,114,97,115,104]⟩ (doV DD 120)) ⟨#[100,101,108]⟩ (doV DD 121)) ⟨#[101,112,111,99,104]⟩ (doV DD 122)) ⟨#[102,105,110,100]⟩ (doV DD 123)) ⟨#[102,117,115,101]⟩ (doV DD 124)) ⟨#[104,101,108,112]⟩ (doV DD 125)) ⟨#[105,109,97,103,101]⟩ (doV DD 126)) ⟨#[105,116,101,109,115]⟩ (doV DD 127)) ⟨#[108,97,121]⟩ (doV DD 128)) ⟨#[109,97,107,101]⟩ (doV DD 129)) ⟨#[110,101,119]⟩ (doV DD 23)) ⟨#[111,112,101,110]⟩ (doV DD 130)) ⟨#[112,117,116]⟩ (doV DD 131)) ⟨#[115,112,111,105,108]⟩ (doV DD 132)) ⟨#[115,117,109]⟩ (doV DD 133)) ⟨#[116,117,114,110]⟩ (doV DD 134)) ⟨#[117,110,100,111]⟩ (doV DD 135)
def doesV(DD:Nat)(name:ByteArray):Value:=(getS (doesL DD) name).getD .nilFunc
theorem does_commit(DD:Nat):doesV DD ⟨#[99,111,109,109,105,116]⟩=doV DD 118:=by
 unfold doesV doesL
 simp only[getS_put]
 repeat(first|rw[if_pos rfl]|rw[if_neg (by decide)])
 rfl
theorem does_image(DD:Nat):doesV DD ⟨#[105,109,97,103,101]⟩=doV DD 126:=by
 unfold doesV doesL
 simp only[getS_put]
 repeat(first|rw[if_pos rfl]|rw[if_neg (by decide)])
 rfl
theorem does_items(DD:Nat):doesV DD ⟨#[105,116,101,109,115]⟩=doV DD 127:=by
 unfold doesV doesL
 simp only[getS_put]
 repeat(first|rw[if_pos rfl]|rw[if_neg (by decide)])
 rfl
theorem does_lay(DD:Nat):doesV DD ⟨#[108,97,121]⟩=doV DD 128:=by
 unfold doesV doesL
 simp only[getS_put]
 repeat(first|rw[if_pos rfl]|rw[if_neg (by decide)])
 rfl
theorem does_make(DD:Nat):doesV DD ⟨#[109,97,107,101]⟩=doV DD 129:=by
 unfold doesV doesL
 simp only[getS_put]
 repeat(first|rw[if_pos rfl]|rw[if_neg (by decide)])
 rfl
theorem does_open(DD:Nat):doesV DD ⟨#[111,112,101,110]⟩=doV DD 130:=by
 unfold doesV doesL
 simp only[getS_put]
 repeat(first|rw[if_pos rfl]|rw[if_neg (by decide)])
 rfl
theorem does_put(DD:Nat):doesV DD ⟨#[112,117,116]⟩=doV DD 131:=by
 unfold doesV doesL
 simp only[getS_put]
 repeat(first|rw[if_pos rfl]|rw[if_neg (by decide)])
 rfl
set_option maxRecDepth 100000
set_option maxHeartbeats 8000000 in
theorem does_of(DD:Nat)(name:ByteArray)(hn:name.size<=maxLen)(w:World):Calls Tryz.prog 67 #[.pointer (some ⟨DD,0,none⟩),.string name] w λe w'=>e= .returned (doesV DD name)∧Keep NoB w w':=by
 have hmf:∀(fn:Fn) (first cap:Array Value) (w:World),(Instr.makeFunc fn first cap).run Tryz.prog w= .ok (.func fn first cap) w:=λ_ _ _ _=>rfl
 have hmm:= @run_makeMap Tryz.prog
 have M0:SMapIs (w.alloc (Obj.map #[] 0)) w.heap.size 0 []:=SMapIs.made w
 have K0:Keep NoB w (w.alloc (Obj.map #[] 0)):=(Keep.refl _ _).alloc _
 have HK0:=Lib.hid K0
 obtain⟨w1,r1,M1,K1⟩:=M0.update Tryz.underlying194 (by unfold maxLen;omega) ⟨#[98,108,111,99,107]⟩ (by decide) (.func (.func 117) #[.pointer (some ⟨DD,0,none⟩)] #[])
 obtain⟨w2,r2,M2,K2⟩:=M1.update Tryz.underlying194 (by unfold maxLen;omega) ⟨#[99,111,109,109,105,116]⟩ (by decide) (.func (.func 118) #[.pointer (some ⟨DD,0,none⟩)] #[])
 obtain⟨w3,r3,M3,K3⟩:=M2.update Tryz.underlying194 (by unfold maxLen;omega) ⟨#[99,111,117,110,116]⟩ (by decide) (.func (.func 119) #[.pointer (some ⟨DD,0,none⟩)] #[])
 obtain⟨w4,r4,M4,K4⟩:=M3.update Tryz.underlying194 (by unfold maxLen;omega) ⟨#[99,114,97,115,104]⟩ (by decide) (.func (.func 120) #[.pointer (some ⟨DD,0,none⟩)] #[])
 obtain⟨w5,r5,M5,K5⟩:=M4.update Tryz.underlying194 (by unfold maxLen;omega) ⟨#[100,101,108]⟩ (by decide) (.func (.func 121) #[.pointer (some ⟨DD,0,none⟩)] #[])
 obtain⟨w6,r6,M6,K6⟩:=M5.update Tryz.underlying194 (by unfold maxLen;omega) ⟨#[101,112,111,99,104]⟩ (by decide) (.func (.func 122) #[.pointer (some ⟨DD,0,none⟩)] #[])
 obtain⟨w7,r7,M7,K7⟩:=M6.update Tryz.underlying194 (by unfold maxLen;omega) ⟨#[102,105,110,100]⟩ (by decide) (.func (.func 123) #[.pointer (some ⟨DD,0,none⟩)] #[])
 obtain⟨w8,r8,M8,K8⟩:=M7.update Tryz.underlying194 (by unfold maxLen;omega) ⟨#[102,117,115,101]⟩ (by decide) (.func (.func 124) #[.pointer (some ⟨DD,0,none⟩)] #[])
 obtain⟨w9,r9,M9,K9⟩:=M8.update Tryz.underlying194 (by unfold maxLen;omega) ⟨#[104,101,108,112]⟩ (by decide) (.func (.func 125) #[.pointer (some ⟨DD,0,none⟩)] #[])
 obtain⟨w10,r10,M10,K10⟩:=M9.update Tryz.underlying194 (by unfold maxLen;omega) ⟨#[105,109,97,103,101]⟩ (by decide) (.func (.func 126) #[.pointer (some ⟨DD,0,none⟩)] #[])
 obtain⟨w11,r11,M11,K11⟩:=M10.update Tryz.underlying194 (by unfold maxLen;omega) ⟨#[105,116,101,109,115]⟩ (by decide) (.func (.func 127) #[.pointer (some ⟨DD,0,none⟩)] #[])
 obtain⟨w12,r12,M12,K12⟩:=M11.update Tryz.underlying194 (by unfold maxLen;omega) ⟨#[108,97,121]⟩ (by decide) (.func (.func 128) #[.pointer (some ⟨DD,0,none⟩)] #[])
 obtain⟨w13,r13,M13,K13⟩:=M12.update Tryz.underlying194 (by unfold maxLen;omega) ⟨#[109,97,107,101]⟩ (by decide) (.func (.func 129) #[.pointer (some ⟨DD,0,none⟩)] #[])
 obtain⟨w14,r14,M14,K14⟩:=M13.update Tryz.underlying194 (by unfold maxLen;omega) ⟨#[110,101,119]⟩ (by decide) (.func (.func 23) #[.pointer (some ⟨DD,0,none⟩)] #[])
 obtain⟨w15,r15,M15,K15⟩:=M14.update Tryz.underlying194 (by unfold maxLen;omega) ⟨#[111,112,101,110]⟩ (by decide) (.func (.func 130) #[.pointer (some ⟨DD,0,none⟩)] #[])
 obtain⟨w16,r16,M16,K16⟩:=M15.update Tryz.underlying194 (by unfold maxLen;omega) ⟨#[112,117,116]⟩ (by decide) (.func (.func 131) #[.pointer (some ⟨DD,0,none⟩)] #[])
 obtain⟨w17,r17,M17,K17⟩:=M16.update Tryz.underlying194 (by unfold maxLen;omega) ⟨#[115,112,111,105,108]⟩ (by decide) (.func (.func 132) #[.pointer (some ⟨DD,0,none⟩)] #[])
 obtain⟨w18,r18,M18,K18⟩:=M17.update Tryz.underlying194 (by unfold maxLen;omega) ⟨#[115,117,109]⟩ (by decide) (.func (.func 133) #[.pointer (some ⟨DD,0,none⟩)] #[])
 obtain⟨w19,r19,M19,K19⟩:=M18.update Tryz.underlying194 (by unfold maxLen;omega) ⟨#[116,117,114,110]⟩ (by decide) (.func (.func 134) #[.pointer (some ⟨DD,0,none⟩)] #[])
 obtain⟨w20,r20,M20,K20⟩:=M19.update Tryz.underlying194 (by unfold maxLen;omega) ⟨#[117,110,100,111]⟩ (by decide) (.func (.func 135) #[.pointer (some ⟨DD,0,none⟩)] #[])
 have hlk:=M20.look Tryz.underlying194 name hn (Tryz.zeroValue63 w20)
 have hd:(getS (doesL DD) name).getD .nilFunc=doesV DD name:=rfl
 have KF:Keep (OneB w.heap.size) (w.alloc (Obj.map #[] 0)) w20:=(((((((((((((((((((K1.then K2).then K3).then K4).then K5).then K6).then K7).then K8).then K9).then K10).then K11).then K12).then K13).then K14).then K15).then K16).then K17).then K18).then K19).then K20)
 have HKF:=Lib.hid KF
 have Hhd:=Lib.hid hd
 have hlk:(Instr.lookup 194 (.map (some w.heap.size)) (.string name) false).run Tryz.prog w20= .ok (doesV DD name) w20:=hlk
 clear M0 M1 M2 M3 M4 M5 M6 M7 M8 M9 M10 M11 M12 M13 M14 M15 M16 M17 M18 M19 M20 K0 K1 K2 K3 K4 K5 K6 K7 K8 K9 K10 K11 K12 K13 K14 K15 K16 K17 K18 K19 K20 KF hd
 go_enter Tryz.func67,Tryz.ntmps67
 go_wp2_with fail
 go_ret
 exact⟨rfl,HK0.out.trans HKF.out (λi hi e=>by have e:i=w.heap.size:=e;omega)⟩
def spaceP(x:Nat):Bool:=decide ((x:Int)=32)
theorem space_at(w:World):PredAt Tryz.prog 66 #[] encR spaceP w:=by
 intro W x hb
 unfold FnGives
 show Calls _ _ #[.int .i32 x] _ _
 go_enter Tryz.func66,Tryz.ntmps66
 go_wp2_with fail
 go_ret
 exact⟨by unfold spaceP;rfl,0,rfl⟩
def wordsL(s:ByteArray):List ByteArray:=Lib.goFieldsP spaceP s
theorem deskFields(s:ByteArray)(hs:s.size<=1000000)(w:World):
  Calls Tryz.prog 65 #[.string s,.func (.func 66) #[] #[]] w λe w'=>∃g,e= .returned (.slice (some ⟨g,0,none⟩) (wordsL s).length (wordsL s).length)∧w.heap.size<=g∧Strs w' (.slice (some ⟨g,0,none⟩) (wordsL s).length (wordsL s).length) (wordsL s)∧Keep NoB w w':=by
 refine(Tryz.strings_FieldsFunc 66 #[] (enters_of Tryz.func66 (by kernel_rfl) rfl) spaceP s w (by omega) (space_at w)).mono ?_
 rintro e w' ⟨g,rfl,hg,hown,hb⟩
 have hN:=OwnsN.of hown
 refine⟨g,rfl,hg,?_,Keep.ofBelow hb⟩
 exact strs_ofN hN
theorem strs_of1{w:World}{p:Option Addr}{m c:Nat}{x:ByteArray}{l:List ByteArray}(S:Strs w (.slice p m c) (x::l)):∃g off,p=some ⟨g,off,none⟩∧g<w.heap.size∧∀i,i<l.length+1->w.cell? ⟨g,off+i,none⟩=some (.string ((x::l).getD i ⟨#[]⟩)):=by
 rcases S with⟨h1,_⟩|⟨g,off,c',hv,hg,hc⟩
 ·cases h1
 ·cases hv;exact⟨g,off,rfl,hg,λi hi=>hc i (by simpa using hi)⟩
def OutAt(w:World)(X:Nat):Prop:=w.heap[X]? =some (.cells #[.string ⟨#[]⟩] 9 (0,0))
set_option maxRecDepth 100000
set_option maxHeartbeats 1000000
theorem line_ok{w:World}{DD F:Nat}{s name r:ByteArray}{rest:List ByteArray}{S:Nat->Prop}{R:World->Prop}(hs:s.size<=1000000)(hW:wordsL s=name::rest)(hn:name.size<=maxLen)(hr6:rest.length<=1000000)(hdo:doesV DD name=doV DD F)(eF:∀args w,(callFunc F args).run Tryz.prog w= .ok (.enter F args) w)
  (hSX:¬S w.heap.size)
  (hcmd:∀w1,Keep NoB w w1->OutAt w1 w.heap.size->∀q c,Strs w1 (.slice q rest.length c) rest->rest.length<=c->(∀x,(Value.slice q rest.length c).ownBlock=some x->w.heap.size<x)->
   Calls Tryz.prog F #[.pointer (some ⟨DD,0,none⟩),.slice q rest.length c] w1 λe w2=>e= .returned (.string r)∧R w2∧Keep S w1 w2)
  (hR:∀w2 v,OutAt w2 w.heap.size->R w2->R (w2.setCell ⟨w.heap.size,0,none⟩ (.string v))):
  Calls Tryz.prog 27 #[.pointer (some ⟨DD,0,none⟩),.string s] w λe w'=>e= .returned (.string r)∧R w'∧Keep S w w':=by
 have hmf:∀(fn:Fn) (first cap:Array Value) (w:World),(Instr.makeFunc fn first cap).run Tryz.prog w= .ok (.func fn first cap) w:=λ_ _ _ _=>rfl
 have hbn:∀w,(binOp .eql 63 (.func (.func F) #[.pointer (some ⟨DD,0,none⟩)] #[]) .nilFunc).run Tryz.prog w= .ok (.bool false) w:=λw=>by kernel_rfl
 obtain⟨m,hm⟩:∃m,m=rest.length:=⟨_,rfl⟩
 obtain⟨N,hN⟩:∃N,N=m+1:=⟨_,rfl⟩
 have hWl:(wordsL s).length=N:=by rw[hW,hN,hm];rfl
 have hff:=λw1=>deskFields s hs w1
 simp only[hWl]at hff
 rw[hW]at hff
 rw[<-hm]at hcmd hr6
 have Hff:=Lib.hid hff
 have Hcmd:=Lib.hid hcmd
 have HR:=Lib.hid hR
 have Hm:=Lib.hid hm
 have HN:=Lib.hid hN
 have Hdo:=Lib.hid hdo
 have HSX:=Lib.hid hSX
 clear hff hcmd hR hm hdo hW hWl hSX hN
 go_enter_defers Tryz.func27,Tryz.ntmps27
 go_wp2_with fail
 obtain⟨X,hX⟩:∃X,X=w.heap.size:=⟨_,rfl⟩
 have hO0:OutAt (w.alloc (.cells #[.string ⟨#[]⟩] 9)) X:=by rw[hX];exact heap_alloc_new w _
 have K0:Keep NoB w (w.alloc (.cells #[.string ⟨#[]⟩] 9)):=(Keep.refl _ _).alloc _
 refine(Hff.out _).mono ?_
 rintro e w1 ⟨g,rfl,hg,hst,K1⟩
 have hgX:X<g:=by
  have:(w.alloc (.cells #[.string ⟨#[]⟩] 9)).heap.size=w.heap.size+1:=by simp
  omega
 have hO1:OutAt w1 X:=K1.heap hO0 (λx=>x)
 have K01:=K0.thenN K1
 have hc0:w1.cell? ⟨g,0,none⟩=some (.string name):=by
  obtain⟨g',off,h1,_,h3⟩:=strs_of1 hst
  cases h1
  exact h3 0 (by omega)
 have hrest:Strs w1 (.slice (some ⟨g,1,none⟩) m m) rest:=by
  obtain⟨g',off,h1,h2,h3⟩:=strs_of1 hst
  cases h1
  by_cases h0:rest= []
  ·exact .inl ⟨h0,_,_,by rw[Hm.out,h0];rfl⟩
  ·refine .inr ⟨g,1,m,by rw[<-Hm.out],h2,λi hi=> ?_⟩
   have h4:=h3 (i+1) (by have:=Hm.out;omega)
   rw[show 0+(i+1)=1+i by omega]at h4
   rw[h4]
   rfl
 have hdd:=does_of DD name hn w1
 rw[Hdo.out,doV]at hdd
 have Hdd:=Lib.hid hdd
 have HX:=Lib.hid hX
 have HO1:=Lib.hid hO1
 have HK:=Lib.hid K01
 have Hrest:=Lib.hid hrest
 have hj0:¬N=0:=by have:=HN.out;omega
 have hj1:0<N:=by omega
 have hj2:1<=N:=by omega
 have hj3:((N:Int)==0)=false:=by simp;omega
 have hj4:(1:Int)<=N:=by omega
 have hj5:(0:Int)<N:=by omega
 have HgX:=Lib.hid hgX
 clear hdd hX hO0 hO1 K0 K1 K01 hrest hst hgX Hff
 go_wp2_with fail
 refine Hdd.out.mono ?_
 rintro e w2 ⟨rfl,K2⟩
 have HK2:=Lib.hid (HK.out.thenN K2)
 have HO2:Hid (OutAt w2 X):=Lib.hid (K2.heap HO1.out (λx=>x))
 have Hrest2:=Lib.hid (Hrest.out.keep K2 (λ_ _ x=>x))
 clear Hdd K2 HK HO1 Hrest hc0
 by_cases h1:N=1
 ·have hm0:m=0:=by have:=HN.out;omega
  have hr0:rest= []:=List.eq_nil_of_length_eq_zero (by rw[<-Hm.out];exact hm0)
  have hcm:=Hcmd.out w2 HK2.out (by rw[<-HX.out];exact HO2.out) (some ⟨g,0,none⟩) 0 (.inl ⟨hr0,_,_,by rw[hm0]⟩) (by omega) (λx hx=>by obtain rfl:g=x:=Option.some.inj hx;have:=HX.out;have:=HgX.out;omega)
  rw[hm0]at hcm
  have Hcm:=Lib.hid hcm
  clear hcm hm0 hr0 Hcmd hj0 hj1 hj2 hj3 hj4 hj5
  subst h1
  go_wp2_with fail
  refine Hcm.out.mono ?_
  rintro e w3 ⟨rfl,hR3,K3⟩
  have hO3:OutAt w3 X:=K3.heap HO2.out (by rw[HX.out];exact HSX.out)
  rw[HX.out]at hO3
  have c3:w3.cell? ⟨w.heap.size,0,none⟩=some (.string ⟨#[]⟩):=cellOf hO3 0 rfl
  have f3:w3.frozen? ⟨w.heap.size,0,none⟩=false:=by have h2:w3.heap[w.heap.size]? =some (.cells _ _ (0,0)):=hO3;simp[World.frozen?,h2]
  have hR4:=HR.out w3 r hO3 hR3
  have KF:Keep S w (w3.setCell ⟨w.heap.size,0,none⟩ (.string r)):=((HK2.out.ofN (S:=S)).then K3).setCell (p:=⟨w.heap.size,0,none⟩) (.inr (show w.heap.size<=w.heap.size from Nat.le_refl _)) _
  have HR4:=Lib.hid hR4
  have HKF:=Lib.hid KF
  have c4:(w3.setCell ⟨w.heap.size,0,none⟩ (.string r)).cell? ⟨w.heap.size,0,none⟩=some (.string r):=World.cell?_setCell_same _ _ _ c3
  clear Hcm hO3 hR3 K3 hR4 KF
  go_wp2_with fail
  refine leaves_cons (f:=64) (args:= #[.pointer (some ⟨w.heap.size,0,none⟩)]) (by simp) (by simp[go_sem]) ?_
  refine(catch_idle ⟨w.heap.size,0,none⟩ _).mono ?_
  rintro e u' w4 ⟨rfl,rfl,rfl⟩
  simp[Leaves,settle,results,Tryz.results27,go_sem,c4]
  exact⟨HR4.out,HKF.out⟩
 ·have hcm:=Hcmd.out w2 HK2.out (by rw[<-HX.out];exact HO2.out) (some ⟨g,1,none⟩) m Hrest2.out (by omega) (λx hx=>by obtain rfl:g=x:=Option.some.inj hx;have:=HX.out;have:=HgX.out;omega)
  have hN1:N-1=m:=by have:=HN.out;omega
  rw[<-hN1]at hcm
  have Hcm:=Lib.hid hcm
  have h11:¬1=N:=λe=>h1 e.symm
  clear hcm Hcmd hN1
  go_wp2_with fail
  refine Hcm.out.mono ?_
  rintro e w3 ⟨rfl,hR3,K3⟩
  have hO3:OutAt w3 X:=K3.heap HO2.out (by rw[HX.out];exact HSX.out)
  rw[HX.out]at hO3
  have c3:w3.cell? ⟨w.heap.size,0,none⟩=some (.string ⟨#[]⟩):=cellOf hO3 0 rfl
  have f3:w3.frozen? ⟨w.heap.size,0,none⟩=false:=by have h2:w3.heap[w.heap.size]? =some (.cells _ _ (0,0)):=hO3;simp[World.frozen?,h2]
  have hR4:=HR.out w3 r hO3 hR3
  have KF:Keep S w (w3.setCell ⟨w.heap.size,0,none⟩ (.string r)):=((HK2.out.ofN (S:=S)).then K3).setCell (p:=⟨w.heap.size,0,none⟩) (.inr (show w.heap.size<=w.heap.size from Nat.le_refl _)) _
  have HR4:=Lib.hid hR4
  have HKF:=Lib.hid KF
  have c4:(w3.setCell ⟨w.heap.size,0,none⟩ (.string r)).cell? ⟨w.heap.size,0,none⟩=some (.string r):=World.cell?_setCell_same _ _ _ c3
  clear Hcm hO3 hR3 K3 hR4 KF
  go_wp2_with fail
  refine leaves_cons (f:=64) (args:= #[.pointer (some ⟨w.heap.size,0,none⟩)]) (by simp) (by simp[go_sem]) ?_
  refine(catch_idle ⟨w.heap.size,0,none⟩ _).mono ?_
  rintro e u' w4 ⟨rfl,rfl,rfl⟩
  simp[Leaves,settle,results,Tryz.results27,go_sem,c4]
  exact⟨HR4.out,HKF.out⟩
theorem line_bad{w:World}{DD F:Nat}{s name:ByteArray}(n:Int)(hn9: -10000<n∧n<10000)(T:PowVar w){rest:List ByteArray}{S:Nat->Prop}{R:World->Prop}(hs:s.size<=1000000)(hW:wordsL s=name::rest)(hn:name.size<=maxLen)(hr6:rest.length<=1000000)(hdo:doesV DD name=doV DD F)(eF:∀args w,(callFunc F args).run Tryz.prog w= .ok (.enter F args) w)
  (hSX:¬S w.heap.size)
  (hcmd:∀w1,Keep NoB w w1->OutAt w1 w.heap.size->∀q c,Strs w1 (.slice q rest.length c) rest->rest.length<=c->(∀x,(Value.slice q rest.length c).ownBlock=some x->w.heap.size<x)->
   Calls Tryz.prog F #[.pointer (some ⟨DD,0,none⟩),.slice q rest.length c] w1 λe w2=>e= .panicked [{ v:=wrongV n,recovered:=false }]∧R w2∧Keep S w1 w2)
  (hRK:∀a b,R a->Keep NoB a b->R b) (hT:¬S 2)
  (hR:∀w2 v,OutAt w2 w.heap.size->R w2->R (w2.setCell ⟨w.heap.size,0,none⟩ (.string v))):
  Calls Tryz.prog 27 #[.pointer (some ⟨DD,0,none⟩),.string s] w λe w'=>e= .returned (.string (errTxt n))∧R w'∧Keep S w w':=by
 have hmf:∀(fn:Fn) (first cap:Array Value) (w:World),(Instr.makeFunc fn first cap).run Tryz.prog w= .ok (.func fn first cap) w:=λ_ _ _ _=>rfl
 have hbn:∀w,(binOp .eql 63 (.func (.func F) #[.pointer (some ⟨DD,0,none⟩)] #[]) .nilFunc).run Tryz.prog w= .ok (.bool false) w:=λw=>by kernel_rfl
 obtain⟨m,hm⟩:∃m,m=rest.length:=⟨_,rfl⟩
 obtain⟨N,hN⟩:∃N,N=m+1:=⟨_,rfl⟩
 have hWl:(wordsL s).length=N:=by rw[hW,hN,hm];rfl
 have hff:=λw1=>deskFields s hs w1
 simp only[hWl]at hff
 rw[hW]at hff
 rw[<-hm]at hcmd hr6
 have Hff:=Lib.hid hff
 have Hcmd:=Lib.hid hcmd
 have HR:=Lib.hid hR
 have HRK:=Lib.hid hRK
 have HTT:=Lib.hid T
 have Hm:=Lib.hid hm
 have HN:=Lib.hid hN
 have Hdo:=Lib.hid hdo
 have HSX:=Lib.hid hSX
 clear hff hcmd hR hRK T hm hdo hW hWl hSX hN
 go_enter_defers Tryz.func27,Tryz.ntmps27
 go_wp2_with fail
 obtain⟨X,hX⟩:∃X,X=w.heap.size:=⟨_,rfl⟩
 have hO0:OutAt (w.alloc (.cells #[.string ⟨#[]⟩] 9)) X:=by rw[hX];exact heap_alloc_new w _
 have K0:Keep NoB w (w.alloc (.cells #[.string ⟨#[]⟩] 9)):=(Keep.refl _ _).alloc _
 refine(Hff.out _).mono ?_
 rintro e w1 ⟨g,rfl,hg,hst,K1⟩
 have hgX:X<g:=by
  have:(w.alloc (.cells #[.string ⟨#[]⟩] 9)).heap.size=w.heap.size+1:=by simp
  omega
 have hO1:OutAt w1 X:=K1.heap hO0 (λx=>x)
 have K01:=K0.thenN K1
 have hc0:w1.cell? ⟨g,0,none⟩=some (.string name):=by
  obtain⟨g',off,h1,_,h3⟩:=strs_of1 hst
  cases h1
  exact h3 0 (by omega)
 have hrest:Strs w1 (.slice (some ⟨g,1,none⟩) m m) rest:=by
  obtain⟨g',off,h1,h2,h3⟩:=strs_of1 hst
  cases h1
  by_cases h0:rest= []
  ·exact .inl ⟨h0,_,_,by rw[Hm.out,h0];rfl⟩
  ·refine .inr ⟨g,1,m,by rw[<-Hm.out],h2,λi hi=> ?_⟩
   have h4:=h3 (i+1) (by have:=Hm.out;omega)
   rw[show 0+(i+1)=1+i by omega]at h4
   rw[h4]
   rfl
 have hdd:=does_of DD name hn w1
 rw[Hdo.out,doV]at hdd
 have Hdd:=Lib.hid hdd
 have HX:=Lib.hid hX
 have HO1:=Lib.hid hO1
 have HK:=Lib.hid K01
 have Hrest:=Lib.hid hrest
 have hj0:¬N=0:=by have:=HN.out;omega
 have hj1:0<N:=by omega
 have hj2:1<=N:=by omega
 have hj3:((N:Int)==0)=false:=by simp;omega
 have hj4:(1:Int)<=N:=by omega
 have hj5:(0:Int)<N:=by omega
 have HgX:=Lib.hid hgX
 clear hdd hX hO0 hO1 K0 K1 K01 hrest hst hgX Hff
 go_wp2_with fail
 refine Hdd.out.mono ?_
 rintro e w2 ⟨rfl,K2⟩
 have HK2:=Lib.hid (HK.out.thenN K2)
 have HO2:Hid (OutAt w2 X):=Lib.hid (K2.heap HO1.out (λx=>x))
 have Hrest2:=Lib.hid (Hrest.out.keep K2 (λ_ _ x=>x))
 clear Hdd K2 HK HO1 Hrest hc0
 by_cases h1:N=1
 ·have hm0:m=0:=by have:=HN.out;omega
  have hr0:rest= []:=List.eq_nil_of_length_eq_zero (by rw[<-Hm.out];exact hm0)
  have hcm:=Hcmd.out w2 HK2.out (by rw[<-HX.out];exact HO2.out) (some ⟨g,0,none⟩) 0 (.inl ⟨hr0,_,_,by rw[hm0]⟩) (by omega) (λx hx=>by obtain rfl:g=x:=Option.some.inj hx;have:=HX.out;have:=HgX.out;omega)
  rw[hm0]at hcm
  have Hcm:=Lib.hid hcm
  clear hcm hm0 hr0 Hcmd hj0 hj1 hj2 hj3 hj4 hj5
  subst h1
  go_wp2_with fail
  refine Hcm.out.mono ?_
  rintro e w3 ⟨rfl,hR3,K3⟩
  have hO3:OutAt w3 X:=K3.heap HO2.out (by rw[HX.out];exact HSX.out)
  rw[HX.out]at hO3
  have hRK:=HRK.out
  have KW:=(HK2.out.ofN (S:=S)).then K3
  have hT3:PowVar w3:=HTT.out.keep KW hT
  have HR3:=Lib.hid hR3
  have HO3:=Lib.hid hO3
  have HKW:=Lib.hid KW
  clear Hcm hO3 hR3 K3 KW hRK
  go_wp2_with fail
  refine leaves_cons (f:=64) (args:= #[.pointer (some ⟨w.heap.size,0,none⟩)]) (by simp) (by simp[go_sem]) ?_
  refine(catch_panicking w.heap.size (.string ⟨#[]⟩) n hn9 [] w3 HO3.out hT3).mono ?_
  rintro e u' w4 ⟨rfl,rfl,w5,K5,rfl⟩
  have hO5:OutAt w5 w.heap.size:=K5.heap HO3.out (λx=>x)
  have c5:w5.cell? ⟨w.heap.size,0,none⟩=some (.string ⟨#[]⟩):=cellOf hO5 0 rfl
  have hR4:=HR.out w5 (errTxt n) hO5 (HRK.out w3 w5 HR3.out K5)
  have KF:Keep S w (w5.setCell ⟨w.heap.size,0,none⟩ (.string (errTxt n))):=((HKW.out.thenN K5)).setCell (p:=⟨w.heap.size,0,none⟩) (.inr (show w.heap.size<=w.heap.size from Nat.le_refl _)) _
  have c4:(w5.setCell ⟨w.heap.size,0,none⟩ (.string (errTxt n))).cell? ⟨w.heap.size,0,none⟩=some (.string (errTxt n)):=World.cell?_setCell_same _ _ _ c5
  simp[Leaves,settle,results,Tryz.results27,go_sem,c4]
  exact⟨hR4,KF⟩
 ·have hcm:=Hcmd.out w2 HK2.out (by rw[<-HX.out];exact HO2.out) (some ⟨g,1,none⟩) m Hrest2.out (by omega) (λx hx=>by obtain rfl:g=x:=Option.some.inj hx;have:=HX.out;have:=HgX.out;omega)
  have hN1:N-1=m:=by have:=HN.out;omega
  rw[<-hN1]at hcm
  have Hcm:=Lib.hid hcm
  have h11:¬1=N:=λe=>h1 e.symm
  clear hcm Hcmd hN1
  go_wp2_with fail
  refine Hcm.out.mono ?_
  rintro e w3 ⟨rfl,hR3,K3⟩
  have hO3:OutAt w3 X:=K3.heap HO2.out (by rw[HX.out];exact HSX.out)
  rw[HX.out]at hO3
  have hRK:=HRK.out
  have KW:=(HK2.out.ofN (S:=S)).then K3
  have hT3:PowVar w3:=HTT.out.keep KW hT
  have HR3:=Lib.hid hR3
  have HO3:=Lib.hid hO3
  have HKW:=Lib.hid KW
  clear Hcm hO3 hR3 K3 KW hRK
  go_wp2_with fail
  refine leaves_cons (f:=64) (args:= #[.pointer (some ⟨w.heap.size,0,none⟩)]) (by simp) (by simp[go_sem]) ?_
  refine(catch_panicking w.heap.size (.string ⟨#[]⟩) n hn9 [] w3 HO3.out hT3).mono ?_
  rintro e u' w4 ⟨rfl,rfl,w5,K5,rfl⟩
  have hO5:OutAt w5 w.heap.size:=K5.heap HO3.out (λx=>x)
  have c5:w5.cell? ⟨w.heap.size,0,none⟩=some (.string ⟨#[]⟩):=cellOf hO5 0 rfl
  have hR4:=HR.out w5 (errTxt n) hO5 (HRK.out w3 w5 HR3.out K5)
  have KF:Keep S w (w5.setCell ⟨w.heap.size,0,none⟩ (.string (errTxt n))):=((HKW.out.thenN K5)).setCell (p:=⟨w.heap.size,0,none⟩) (.inr (show w.heap.size<=w.heap.size from Nat.le_refl _)) _
  have c4:(w5.setCell ⟨w.heap.size,0,none⟩ (.string (errTxt n))).cell? ⟨w.heap.size,0,none⟩=some (.string (errTxt n)):=World.cell?_setCell_same _ _ _ c5
  simp[Leaves,settle,results,Tryz.results27,go_sem,c4]
  exact⟨hR4,KF⟩
section
variable {w0 w w':World}{P:Nat->Prop}{DD BB D C:Nat}{secret:ByteArray}{V:VaultV}{d:DevV}{n:Nat}{b:BaseV}{k:Nat}{iv:Value}{img:List ByteArray}
def Own(w0 w:World)(P:Nat->Prop)(DD:Nat)(iv:Value)(x:Nat):Prop:=w0.heap.size<=x∧x≠DD∧¬P x∧(∀g,iv.ownBlock=some g->g≠x)∧(∀c t f,w.heap[x]? =some (.cells c t f)->OtherT t)∧∀q L,¬SMapIs w x q L
theorem DeskS.other(h:DeskS w0 w P DD BB D C secret V d n b k iv img){X:Nat->Prop}(K:Keep X w w')(hX:∀x,X x->x<w.heap.size->Own w0 w P DD iv x):DeskS w0 w' P DD BB D C secret V d n b k iv img:=by
 have hlt:=h.base.lt
 obtain⟨B,S,wv,mb,wb,CC,nm,nw,L,W,hb⟩:=h.base
 have hmb:=hb.rd.now.lt
 have hw0:w0.heap.size<=w.heap.size:=hb.vn.keep.size
 have K2:Keep (λx=>X x∧x<w.heap.size) w w':=K.mono λi hi hx=>⟨hx,hi⟩
 have hO:OtherB w (λx=>X x∧x<w.heap.size):=λy c t f hy hh=>by
  exact(hX y hy.1 hy.2).2.2.2.2.1 c t f hh
 have hD:¬(X DD∧DD<w.heap.size):=λhx=>(hX DD hx.1 hx.2).2.1 rfl
 refine⟨⟨B,S,wv,mb,wb,CC,nm,nw,L,W,hb.keepOther K2 hO (λx hx hy=>(hX x hy.1 hy.2).2.2.1 hx) (λhy=> ?_) (λx hx hy=>by have:=(hX x hy.1 hy.2).1;omega)⟩,h.row.keep K2 hD,h.sep,h.new,h.image.keep K2 (λg hg hy=>(hX g hy.1 hy.2).2.2.2.1 g hg rfl),λg hg=>⟨(h.isep g hg).1,(h.isep g hg).2.1,Nat.lt_of_lt_of_le (h.isep g hg).2.2 K.size⟩,h.inv,h.wait,h.fuse,h.said⟩
 exact(hX mb hy.1 hy.2).2.2.2.2.2 _ _ hb.rd.now
theorem DeskL.other{B:List ByteArray}{bv:Value}(h:DeskL w0 w P DD D C secret bv iv B n){X:Nat->Prop}(K:Keep X w w')(hX:∀x,X x->x<w.heap.size->w0.heap.size<=x∧x≠DD∧¬P x):DeskL w0 w' P DD D C secret bv iv B n:=by
 obtain⟨S,wv,fu,hd,h1⟩:=h.dev
 have K2:Keep (λx=>X x∧x<w.heap.size) w w':=K.mono λi hi hx=>⟨hx,hi⟩
 exact⟨h.row.keep K2 (λhx=>(hX DD hx.1 hx.2).2.1 rfl),⟨S,wv,fu,hd.keep K2 (λg hg hy=>(hX g hy.1 hy.2).2.2 ((h1 g).2 (.inl hg))),h1⟩,h.cnt.keep K2 (λhy=>(hX C hy.1 hy.2).2.2 ((h1 C).2 (.inr rfl))),h.keep.trans K2 (λi hi hy=>by have:=(hX i hy.1 hy.2).1;omega),h.own,h.sep,h.new⟩
theorem DeskL.keepN{B:List ByteArray}{bv:Value}(h:DeskL w0 w P DD D C secret bv iv B n)(K:Keep NoB w w'):DeskL w0 w' P DD D C secret bv iv B n:=h.other K λ_ x=>x.elim
theorem DeskL.lt{B:List ByteArray}{bv:Value}(h:DeskL w0 w P DD D C secret bv iv B n):∀x,P x->x<w.heap.size:=by
 obtain⟨S,wv,fu,hd,h1⟩:=h.dev
 intro x hx
 rcases(h1 x).1 hx with hx|rfl
 ·obtain⟨c',t',f',e5,e6⟩:=devB_row hd x hx
  exact lt_of_heap e5
 ·exact lt_of_heap h.cnt
theorem DeskL.noBytes{B:List ByteArray}{bv:Value}(h:DeskL w0 w P DD D C secret bv iv B n):∀x c f,P x->w.heap[x]? =some (.cells c 5 f)->False:=by
 obtain⟨S,wv,fu,hd,h1⟩:=h.dev
 intro x c f hx hh
 rcases(h1 x).1 hx with hx|rfl
 ·obtain⟨c',t',f',e5,e6⟩:=devB_row hd x hx
  rw[<-two_types hh e5]at e6
  rcases e6 with e6|e6|e6<;>exact absurd e6 (by decide)
 ·exact absurd (two_types hh h.cnt) (by decide)
theorem BaseN.noBytes{n':Int}(h:BaseN w0 w P BB D C V d n' b k):∀x c f,P x->w.heap[x]? =some (.cells c 5 f)->False:=by
 obtain⟨B,S,wv,mb,wb,CC,nm,nw,L,W,h⟩:=h
 intro x c f hx hh
 rcases(h.blocks x).1 hx with(hx|rfl|rfl)|rfl|rfl
 ·obtain⟨c',t',f',h1,h2⟩:=devB_row h.vn.dev x hx
  rw[<-two_types hh h1]at h2
  rcases h2 with h2|h2|h2<;>exact absurd h2 (by decide)
 ·exact absurd (two_types hh h.vn.vault.row) (by decide)
 ·exact absurd (two_types hh h.vn.cnt) (by decide)
 ·exact absurd (two_types hh h.row) (by decide)
 ·exact h.rd.wait.row_ne hh rfl
end
end Go.Proofs.YtnmhgehpddipdaaGreatDoor
namespace Go.Cof
open Go.RowKit
def outL(an:List ByteArray):List UInt8:=an.flatMap λa=>a.data.toList++ [10]
theorem outL_take{an:List ByteArray}{k:Nat}(h:k<an.length):outL (an.take (k+1))=outL (an.take k)++(an[k]++⟨#[10]⟩:ByteArray).data.toList:=by
 rw[outL,outL,List.take_add_one,List.flatMap_append,List.getElem?_eq_getElem h]
 simp
theorem app_len(a:ByteArray):(a++⟨#[10]⟩:ByteArray).data.toList.length=a.size+1:=by
 have h:(a++⟨#[10]⟩:ByteArray).size=a.size+1:=ByteArray.size_append
 exact h
theorem outL_le(an:List ByteArray)(k:Nat):(outL (an.take k)).length<=(outL an).length:=by
 have h:outL an=outL (an.take k)++outL (an.drop k):=by
  rw[outL,outL,outL,<-List.flatMap_append,List.take_append_drop]
 rw[h,List.length_append]
 omega
end Go.Cof
namespace Go.Proofs.YtnmhgehpddipdaaGreatDoor
open Go.RowKit Go.Cof Go.Shelf
attribute [local go_sem] Oper.semAt_some
set_option maxRecDepth 100000
set_option maxHeartbeats 2000000
def Free(w W:World)(Q:Nat->Prop)(x:Nat):Prop:=w.heap.size<=x∧¬Q x∧(∀c t f,W.heap[x]? =some (.cells c t f)->OtherT t)∧∀q L,¬SMapIs W x q L
structure SesSt(w:World)(ls an:List ByteArray)(St:Nat->(Nat->Prop)->Nat->World->Prop):Prop where
 start:∀W BB D C P DD,DeskS w W P DD BB D C deskSec (freshV deskSec) ⟨sure0,[],-1⟩ 0 nilB 60 (.slice none 0 0) []->St 0 (λx=>P x∨x=DD) DD W
 line:∀k Q DD W,k<ls.length->Keep NoB w W->St k Q DD W->Calls Tryz.prog 27 #[.pointer (some ⟨DD,0,none⟩),.string (ls.getD k ⟨#[]⟩)] W λe W'=>e= .returned (.string (an.getD k ⟨#[]⟩))∧(∃Q',St (k+1) Q' DD W'∧Grow W Q Q')∧Keep Q W W'
 other:∀k Q DD W W' X,St k Q DD W->Keep X W W'->(∀x,X x->x<W.heap.size->Free w W Q x)->St k Q DD W'
 own:∀k Q DD W,St k Q DD W->∀x,Q x->w.heap.size<=x∧x<W.heap.size
 bytes:∀k Q DD W,St k Q DD W->∀x c f,Q x->W.heap[x]? =some (.cells c 5 f)->False
def SesI(w:World)(an:List ByteArray)(St:Nat->(Nat->Prop)->Nat->World->Prop)(DD b L:Nat)(k:Nat)(W:World):Prop:=
 ∃Q,St k Q DD W∧IsB b b (outL (an.take k)) W∧W.heap[DD+1]? =some (.cells #[.pointer (some ⟨DD,0,none⟩)] 60 (0,0))∧(∀x,Q x->x≠DD+1∧x≠b∧x≠b+1∧x≠b+2∧x≠b+3∧x≠L∧x≠L+1)∧Keep NoB w W∧L<=W.heap.size∧∃cs fz,W.heap[b+1]? =some (.cells cs 9 fz)∧W.heap[b+1+1]? =some (.cells #[.string nlB] 9 (0,0))∧∃v,W.heap[b+1+2]? =some (.cells v 3 (0,0))
theorem BaseN.noPtr{w0 w:World}{P:Nat->Prop}{BB D C:Nat}{V:VaultV}{d:DevV}{n:Int}{b:BaseV}{k:Nat}(h:BaseN w0 w P BB D C V d n b k):∀x c f,P x->w.heap[x]? =some (.cells c 60 f)->False:=by
 obtain⟨B,S,wv,mb,wb,CC,nm,nw,L,W,h⟩:=h
 intro x c f hx hh
 rcases(h.blocks x).1 hx with(hx|rfl|rfl)|rfl|rfl
 ·obtain⟨c',t',f',h1,h2⟩:=devB_row h.vn.dev x hx
  rw[<-two_types hh h1]at h2
  rcases h2 with h2|h2|h2<;>exact absurd h2 (by decide)
 ·exact absurd (two_types hh h.vn.vault.row) (by decide)
 ·exact absurd (two_types hh h.vn.cnt) (by decide)
 ·exact absurd (two_types hh h.row) (by decide)
 ·exact h.rd.wait.row_ne hh rfl
theorem session_any{w:World}{St:Nat->(Nat->Prop)->Nat->World->Prop}(text:ByteArray)(ht:text.size<=20000)(ls an:List ByteArray)(hla:ls.length=an.length)(hne:ls≠ [])(htx:(⟨(Lib.trimSuffix text.data.toList nlB.data.toList).toArray⟩:ByteArray)=joinNL ls)(hnl:∀x∈ls,(10:UInt8)∉x.data.toList)(hol:(outL an).length<=1000000)(hMx:∃m,w.cell? ⟨1,0,none⟩=some (.int .i64 m))(G:BaseVars w)(hT:SesSt w ls an St):
  Calls Tryz.prog 9 #[.string text] w λe w'=>e= .returned (.string ⟨(outL an).toArray⟩)∧Keep NoB w w':=by
 refine(callsIn_wide (n:=3)).1 ?_
 have hro:(Fence.wide).round=none:=rfl
 have h1:1<=3:=by omega
 have j0:¬(20000:Int)<(text.size:Int):=by omega
 refine callsIn_of_wp_marks Tryz.func9 rfl trivial ?_ hro
 simp only[Tryz.ntmps9,List.size_toArray,List.length_cons,List.length_nil,Nat.reduceAdd,Nat.reduceSub,Array.replicate_succ,Array.replicate_zero,List.push_toArray,List.append_toArray,List.nil_append,List.cons_append]
 gi_wp2
 obtain⟨DD,hDD⟩:∃x,x=w.heap.size:=⟨_,rfl⟩
 obtain⟨wA,hwA⟩:∃x,x=((w.alloc (.cells #[.pointer none,.pointer none,.pointer none,.string ⟨#[]⟩,.slice none 0 0] 62)).alloc (.cells #[.pointer (some ⟨w.heap.size,0,none⟩)] 60)).alloc (.cells #[.string ⟨#[]⟩] 9):=⟨_,rfl⟩
 have KA:Keep NoB w wA:=by rw[hwA];exact(((Keep.refl _ _).alloc _).alloc _).alloc _
 have sA:wA.heap.size=DD+3:=by rw[hwA,hDD];simp
 have rA:wA.heap[DD]? =some (.cells #[.pointer none,.pointer none,.pointer none,.string ⟨#[]⟩,.slice none 0 0] 62 (0,0)):=by
  rw[hwA,hDD]
  exact(((Keep.refl NoB _).alloc _).alloc _).heap (heap_alloc_new w _) (λx=>x)
 have tA:wA.heap[DD+1]? =some (.cells #[.pointer (some ⟨DD,0,none⟩)] 60 (0,0)):=by
  rw[hwA,hDD]
  have h2:=heap_alloc_new (w.alloc (.cells #[.pointer none,.pointer none,.pointer none,.string ⟨#[]⟩,.slice none 0 0] 62)) (.cells #[.pointer (some ⟨w.heap.size,0,none⟩)] 60)
  rw[World.size_alloc]at h2
  exact((Keep.refl NoB _).alloc _).heap h2 (λx=>x)
 have gA:wA.cell? ⟨DD+2,0,none⟩=some (.string ⟨#[]⟩):=by
  rw[hwA,hDD]
  have h2:=heap_alloc_new ((w.alloc (.cells #[.pointer none,.pointer none,.pointer none,.string ⟨#[]⟩,.slice none 0 0] 62)).alloc (.cells #[.pointer (some ⟨w.heap.size,0,none⟩)] 60)) (.cells #[.string ⟨#[]⟩] 9)
  rw[World.size_alloc,World.size_alloc]at h2
  exact cellOf h2 0 rfl
 rw[<-hwA,<-hDD,show DD+1+1=DD+2 from rfl]
 have hfr:=deskFresh_any (wz:=w) (w:=wA) (DD:=DD) (g:=DD+2) (off:=0) (c:=1) rA gA (by omega) KA (by omega) G (G.rounds.keep KA (λx=>x)) (λe=>by have e:5=DD:=e;have h5:5<w.heap.size:=block_lt_of_cell (G.rounds 0 (by omega));omega)
 have Hfr:=Lib.hid hfr
 have HG:=Lib.hid G
 have HsA:=Lib.hid sA
 have HDD:=Lib.hid hDD
 have HKA:=Lib.hid KA
 have HtA:=Lib.hid tA
 clear hfr G rA gA tA KA hwA sA hDD
 refine⟨trivial,?_⟩
 refine(callsIn_wide.2 Hfr.out).mono ?_
 rintro e wB ⟨rfl,⟨BB,D,C,P,hS⟩,KB⟩
 have HS:=Lib.hid hS
 have HKB:=Lib.hid KB
 have HtB:Hid (wB.heap[DD+1]? =some (.cells #[.pointer (some ⟨DD,0,none⟩)] 60 (0,0))):=Lib.hid (KB.heap HtA.out (λe=>by have e:DD+1=DD:=e;omega))
 clear hS KB Hfr HtA
 gi_wp2
 obtain⟨b,hb⟩:∃x,x=wB.heap.size:=⟨_,rfl⟩
 obtain⟨wC,hwC⟩:∃x,x=wB.alloc (.cells #[.pointer none,.slice none 0 0] 67):=⟨_,rfl⟩
 have KC:Keep NoB wB wC:=by rw[hwC];exact(Keep.refl _ _).alloc _
 have sC:wC.heap.size=b+1:=by rw[hwC,hb];simp
 have iC:IsB b b [] wC:=by rw[hwC,hb];exact isB_new wB
 rw[<-hwC,<-hb]
 have hlB:DD+3<=b:=by rw[hb,<-HsA.out];exact HKB.out.size
 have HKC:=Lib.hid KC
 have HsC:=Lib.hid sC
 have HiC:=Lib.hid iC
 have Hb:=Lib.hid hb
 have HlB:=Lib.hid hlB
 have Htx:=Lib.hid htx
 have Hla:=Lib.hid hla
 have Hne:=Lib.hid hne
 clear KC sC iC hb hlB hwC htx hla hne
 refine⟨trivial,?_⟩
 refine(callsIn_wide.2 (Tryz.strings_TrimSuffix text ⟨#[10]⟩ wC (by omega))).mono ?_
 rintro e wC' ⟨rfl,hwC'⟩
 subst wC'
 rw[show(⟨#[10]⟩:ByteArray)=nlB from rfl,Htx.out]
 gi_wp2
 rw[show(⟨#[10]⟩:ByteArray)=nlB from rfl]
 refine⟨trivial,?_⟩
 refine(callsIn_wide.2 (splitSeq_any (joinNL ls) nlB wC)).mono ?_
 rintro e wD ⟨rfl,hwD⟩
 rw[HsC.out]
 have HwD:=Lib.hid hwD
 clear hwD
 gi_wp2
 have HT:=Lib.hid hT
 have Hnl:=Lib.hid hnl
 clear hT hnl
 have hsD:wD.heap.size=b+4:=by rw[HwD.out];simp[HsC.out]
 have KD:Keep NoB wC wD:=by rw[HwD.out];exact(((Keep.refl _ _).alloc _).alloc _).alloc _
 have HsD:=Lib.hid hsD
 have HKD:=Lib.hid KD
 clear hsD KD
 refine wpIn_range_own hro (by omega) (gf:=114) (lb:= #[.pointer (some ⟨b+1+1,0,none⟩),.pointer (some ⟨b+1,0,none⟩),.pointer (some ⟨b+1+2,0,none⟩)]) rfl trivial (enters_of Tryz.func114 (by kernel_rfl) rfl)
  (λk=> #[.string (ls.getD k ⟨#[]⟩)]) ls.length (λ_=>rfl) (SesI w an St DD b (b+4)) (λA B=>∀x,x=b+1+1∨x=b+1∨x=b+1+2->B.heap[x]? =A.heap[x]?) (λh1 h2 x hx=>(h2 x hx).trans (h1 x hx)) ?k2 ?stable ?start ?seq ?round ?done
 case k2=>
  intro A B K hA x hx
  rw[HsD.out]at hA
  exact K.block x (by rcases hx with rfl|rfl|rfl<;>omega) (λe=>by have e:x=wD.heap.size+1:=e;rw[HsD.out]at e;rcases hx with rfl|rfl|rfl<;>omega)
 case stable=>
  rintro k A B ⟨Q,h1,h2,h3,h4,h5,h6,cs1,fz1,h7,h8,v3,h9⟩ K ⟨r,hr⟩
  have hlw:=HDD.out
  have hb0:=HlB.out
  rw[HsD.out]at hr
  have hne:∀x,OneB (wD.heap.size+1) x->x=b+5:=λx e=>by have e:x=wD.heap.size+1:=e;rw[HsD.out]at e;omega
  refine⟨Q,HT.out.other k Q DD A B _ h1 K (λx hx _=> ?_),h2.keep K (λe=>by have:=hne _ e;omega) (λx _ _ hc e=> ?_),K.heap h3 (λe=>by have:=hne _ e;omega),h4,h5.trans K (λi hi e=>by have:=hne i e;omega),Nat.le_trans h6 K.size,cs1,fz1,K.heap h7 (λe=>by have:=hne _ e;omega),K.heap h8 (λe=>by have:=hne _ e;omega),v3,K.heap h9 (λe=>by have:=hne _ e;omega)⟩
  ·obtain rfl:=hne x hx
   refine⟨by omega,λhq=>(h4 _ hq).2.2.2.2.2.2 rfl,λc t f hh=> ?_,λq M hm=> ?_⟩
   ·rw[show b+5=b+4+1 from rfl,hr]at hh;cases hh
   ·obtain⟨es,cl,hz,_⟩:=hm
    rw[show b+5=b+4+1 from rfl,hr]at hz
    cases hz
  ·obtain⟨cs,fz,hh⟩:=hc
   obtain rfl:=hne x e
   rw[show b+5=b+4+1 from rfl,hr]at hh
   cases hh
 case start=>
  intro B KE
  have hb0:=HlB.out
  have hb1:=Hb.out
  have hlw:=HDD.out
  have KB:Keep NoB wB B:=(HKC.out.thenN HKD.out).thenN KE
  have hS:=HS.out.keepN KB
  have hlt:∀x,P x->x<b:=λx hx=>by rw[hb1];exact HS.out.base.lt x hx
  have hbs:wD.heap[b+1+1]? =some (.cells #[.string nlB] 9 (0,0))∧wD.heap[b+1+2]? =some (.cells #[.int .i64 0] 3 (0,0)):=by
   rw[HwD.out,<-HsC.out]
   constructor
   ·have h2:=heap_alloc_new (wC.alloc (.cells #[.string (joinNL ls)] 9)) (.cells #[.string nlB] 9)
    rw[World.size_alloc]at h2
    exact((Keep.refl NoB _).alloc _).heap h2 (λx=>x)
   ·have h2:=heap_alloc_new ((wC.alloc (.cells #[.string (joinNL ls)] 9)).alloc (.cells #[.string nlB] 9)) (.cells #[.int .i64 0] 3)
    rw[World.size_alloc,World.size_alloc]at h2
    exact h2
  refine⟨⟨λx=>P x∨x=DD,HT.out.start _ _ _ _ _ _ hS,?_,KB.heap HtB.out (λx=>x),λx hx=> ?_,?_,?_⟩,λx hx=> ?_⟩
  ·rw[List.take_zero]
   exact HiC.out.keepN (HKD.out.thenN KE)
  ·rcases hx with hx|rfl
   ·have h1:=hlt x hx
    refine⟨λe=> ?_,by omega,by omega,by omega,by omega,by omega,by omega⟩
    subst e
    exact HS.out.base.noPtr _ _ _ hx HtB.out
   ·refine⟨by omega,by omega,by omega,by omega,by omega,by omega,by omega⟩
  ·exact(HKA.out.trans HKB.out (λi hi e=>by have e:i=DD:=e;omega)).thenN KB
  ·refine⟨by rw[<-HsD.out];exact KE.size,#[.string (joinNL ls)],(0,0),KE.heap ?_ (λx=>x),KE.heap hbs.1 (λx=>x),_,KE.heap hbs.2 (λx=>x)⟩
   rw[HwD.out,<-HsC.out]
   exact(((Keep.refl NoB _).alloc _).alloc _).heap (heap_alloc_new wC _) (λx=>x)
  ·exact KE.block x (by rw[HsD.out];rcases hx with rfl|rfl|rfl<;>omega) (λx=>x)
 case seq=>
  intro J W1 hJ hY h0 hk0
  have hsz:(joinNL ls).size<=1000000:=by
   rw[<-Htx.out,ByteArray.size]
   have h1:(Lib.trimSuffix text.data.toList nlB.data.toList).length<=text.data.toList.length:=by unfold Lib.trimSuffix;split<;>simp
   have h2:text.data.toList.length=text.size:=rfl
   simp only[List.size_toArray]
   omega
  have hb0:=HlB.out
  have c1:Boxed wD (b+1+1) 9 (.string nlB):=by
   rw[HwD.out,<-HsC.out]
   have h2:=heap_alloc_new (wC.alloc (.cells #[.string (joinNL ls)] 9)) (.cells #[.string nlB] 9)
   rw[World.size_alloc]at h2
   exact((Keep.refl NoB _).alloc _).heap h2 (λx=>x)
  have c2:Boxed wD (b+1) 9 (.string (joinNL ls)):=by
   rw[HwD.out,<-HsC.out]
   exact(((Keep.refl NoB _).alloc _).alloc _).heap (heap_alloc_new wC _) (λx=>x)
  have c3:Boxed wD (b+1+2) 3 (.int .i64 0):=by
   rw[HwD.out,<-HsC.out]
   have h2:=heap_alloc_new ((wC.alloc (.cells #[.string (joinNL ls)] 9)).alloc (.cells #[.string nlB] 9)) (.cells #[.int .i64 0] 3)
   rw[World.size_alloc,World.size_alloc]at h2
   exact h2
  refine split_in 2 (by omega) wD.heap.size (b+1+1) (b+1) (b+1+2) ls Hne.out Hnl.out hsz (by rw[HsD.out];omega) (SesI w an St DD b (b+4)) J _ (λA B h x hx=>h x hx) hJ ?_ ?_ hY W1 h0 ((hk0 _ (.inl rfl)).trans c1) ((hk0 _ (.inr (.inl rfl))).trans c2) ((hk0 _ (.inr (.inr rfl))).trans c3)
  ·rintro k A v ⟨Q,h1,h2,h3,h4,h5,h6,cs1,fz1,h7,h8,v3,h9⟩
   have K:Keep (OneB (b+1)) A (A.setCell ⟨b+1,0,none⟩ v):=(Keep.refl _ _).set1 0 v
   have hlw:=HDD.out
   have hne:∀x,OneB (b+1) x->x=b+1:=λx e=>e
   refine⟨Q,HT.out.other k Q DD A _ _ h1 K (λx hx _=> ?_),h2.keep K (λe=>by have:=hne _ e;omega) (λx _ _ hc e=> ?_),K.heap h3 (λe=>by have:=hne _ e;omega),h4,h5.trans K (λi hi e=>by have:=hne i e;omega),Nat.le_trans h6 K.size,_,_,heap_setCell_row h7 v,K.heap h8 (λe=>by have:=hne _ e;omega),v3,K.heap h9 (λe=>by have:=hne _ e;omega)⟩
   ·obtain rfl:=hne x hx
    refine⟨by omega,λhq=>(h4 _ hq).2.2.1 rfl,λc t f hh=> ?_,λq M hm=> ?_⟩
    ·rw[h7]at hh;cases hh;exact⟨by decide,by decide,by decide,by decide,by decide⟩
    ·obtain⟨es,cl,hz,_⟩:=hm
     rw[h7]at hz
     cases hz
   ·obtain⟨cs,fz,hh⟩:=hc
    obtain rfl:=hne x e
    rw[h7]at hh
    cases hh
  ·rintro k A ⟨Q,h1,h2,h3,h4,h5,h6,cs1,fz1,h7,h8,v3,h9⟩
   obtain⟨m,hm⟩:=hMx
   exact⟨m,(h5.cell (block_lt_of_cell hm) (λx=>x)).trans hm⟩
 case done=>
  rintro W ⟨Q,h1,h2,h3,h4,h5,h6,cs1,fz1,h7,h8,v3,h9⟩ hd
  have hb0:=HlB.out
  have hlw:=HDD.out
  rw[List.take_of_length_le (by have:=Hla.out;omega)]at h2
  have hstr:=Tryz.Builder_String_any_k b b _ W h2 (by omega)
  have Hstr:=Lib.hid hstr
  have H5:=Lib.hid h5
  have H6:=Lib.hid h6
  rw[HsD.out]at hd
  have Hd:=Lib.hid hd
  clear hstr h5 hd h2 h3 h7
  gi_wp2
  refine⟨trivial,(callsIn_wide.2 Hstr.out).mono ?_⟩
  rintro e W2 ⟨rfl,-,hBl,hO⟩
  have hd2:W2.heap[b+4]? =some (.deferred (some [])):=hO _ _ Hd.out (λe=>by cases e) (λc fz e=>by cases e)
  have K2:Keep NoB w W2:=⟨hBl.os.trans H5.out.os,hBl.tape.trans H5.out.tape,hBl.output.trans H5.out.output,Nat.le_trans H5.out.size hBl.size,λi hi hn=>by rw[hBl.block i (by omega)];exact H5.out.block i hi hn⟩
  have Hd2:=Lib.hid hd2
  have HK2:=Lib.hid K2
  clear hd2 K2 hBl hO
  rw[HsD.out]
  gi_wp2
  refine⟨by simp,.inl ⟨_,_,rfl,run_takeDeferred Hd2.out,?_⟩⟩
  refine⟨.string ⟨(outL an).toArray⟩,?_,rfl,HK2.out.trans (keep_putObj W2 (b+3) _) (λi hi e=>by have e:i=b+3+1:=e;omega)⟩
  simp[results,Tryz.f9,go_sem]
 case round=>
  intro k W hk hI hlt hr K hbody
  have hkl:k<ls.length:=hk
  gi_wp2
  refine hbody _ W ⟨Nat.le_refl _,rfl,rfl⟩ (λx _=>rfl) hI ?_
  clear hbody hI hlt hr
  rintro W2 ⟨Q,h1,h2,h3,h4,h5,h6,cs1,fz1,h7,h8,v3,h9⟩ hlt2 ⟨r2,hr2⟩ hdf
  have hline:=HT.out.line k Q DD W2 hkl h5 h1
  have hka:k<an.length:=Hla.out▸hkl
  rw[show ls.getD k ⟨#[]⟩=ls[k]by simp[hkl],show an.getD k ⟨#[]⟩=an[k]by simp[hka]]at hline
  have Hline:=Lib.hid hline
  have c3:=cellOf h3 0 rfl
  have H1:=Lib.hid h1
  have H2:=Lib.hid h2
  have H3:=Lib.hid h3
  have H4:=Lib.hid h4
  have H5:=Lib.hid h5
  have H6:=Lib.hid h6
  have H7:=Lib.hid h7
  have Hr:=Lib.hid hr2
  have H8:=Lib.hid h8
  have H9:=Lib.hid h9
  rw[HsD.out]at hdf
  have Hdf:=Lib.hid hdf
  clear hline h1 h2 h3 h4 h5 h6 h7 hr2 h8 h9 hdf
  gi_wp2
  refine⟨trivial,(CallsIn.inRound _ (callsIn_wide.2 Hline.out)).mono ?_⟩
  rintro e W3 ⟨rfl,⟨Q',h1',hg⟩,K1⟩
  have hb0:=HlB.out
  have hsz2:b+5<W2.heap.size:=by rw[HsD.out]at hlt2;omega
  have iB:=H2.out.keep K1 (λe=>(H4.out _ e).2.1 rfl) (λx _ _ hc e=>by obtain⟨cs,fz,hh⟩:=hc;exact HT.out.bytes k Q DD W2 H1.out x _ _ e hh)
  have nQ:∀x,Q x->x≠DD+1∧x≠b∧x≠b+1∧x≠b+2∧x≠b+3∧x≠b+4∧x≠b+4+1:=H4.out
  have nQ':∀x,Q' x->x≠DD+1∧x≠b∧x≠b+1∧x≠b+2∧x≠b+3∧x≠b+4∧x≠b+4+1:=λx hx=>(hg x hx).elim (nQ x) (λh=>by refine⟨by omega,by omega,by omega,by omega,by omega,by omega,by omega⟩)
  have t3:=K1.heap H3.out (λe=>(nQ _ e).1 rfl)
  have x3:=K1.heap H7.out (λe=>(nQ _ e).2.2.1 rfl)
  have kw3:Keep NoB w W3:=H5.out.trans K1 (λi hi e=>by have:=(HT.out.own k Q DD W2 H1.out i e).1;omega)
  have hle:(outL (an.take k)).length+(an[k].size+1)<=1000000:=by
   have h1:=outL_take hka
   have h2:(outL (an.take (k+1))).length<=(outL an).length:=outL_le an (k+1)
   rw[h1,List.length_append,app_len an[k]]at h2
   omega
  have ha:an[k].size<=1000000:=by omega
  have HiB:=Lib.hid iB
  have HnQ:=Lib.hid nQ
  have HnQ':=Lib.hid nQ'
  have Ht3:=Lib.hid t3
  have Hx3:=Lib.hid x3
  have Hkw3:=Lib.hid kw3
  have Hle:=Lib.hid hle
  have H1':=Lib.hid h1'
  have HK1:=Lib.hid K1
  have Hsz2:=Lib.hid hsz2
  clear iB nQ nQ' t3 x3 kw3 hle h1' K1 hg hsz2 Hline H1 H2 H3 H5 H6
  gi_wp2
  have hw4:=write_any b b _ (an[k]++⟨#[10]⟩) W3 HiB.out (by have:=Hle.out;rw[ByteArray.size_append,show(⟨#[10]⟩:ByteArray).size=1 from rfl];omega) (by have:=HK1.out.size;have:=Hsz2.out;omega)
  refine⟨trivial,(CallsIn.inRound _ (callsIn_wide.2 hw4)).mono ?_⟩
  rintro e W4 ⟨rfl,iB4,K4⟩
  have s23:=HK1.out.size
  have hs2:=Hsz2.out
  have hbld:∃cs fz,W3.heap[b]? =some (.cells cs 67 fz):=by
   rcases HiB.out with⟨_,v,hh,_⟩|⟨_,v,hh,_⟩
   ·exact⟨_,_,hh⟩
   ·exact⟨_,_,hh⟩
  obtain⟨cb,fb,hcb⟩:=hbld
  have hr3:W3.heap[b+4+1]? =some (.loop r2):=by
   have:=Hr.out
   rw[HsD.out]at this
   exact HK1.out.heap this (λe=>(HnQ.out _ e).2.2.2.2.2.2 rfl)
  have z8:=HK1.out.heap H8.out (λe=>(HnQ.out _ e).2.2.2.1 rfl)
  have z9:=HK1.out.heap H9.out (λe=>(HnQ.out _ e).2.2.2.2.1 rfl)
  have nW:∀x,x=b+1∨x=b+1+1∨x=b+1+2∨x=b+4∨x=b+4+1->¬Wr b b W3 x:=by
   rintro x hx (e|⟨_,cs,fz,hh⟩)
   ·omega
   ·rcases hx with rfl|rfl|rfl|rfl|rfl
    ·rw[Hx3.out]at hh;cases hh
    ·rw[z8]at hh;cases hh
    ·rw[z9]at hh;cases hh
    ·rw[HK1.out.heap Hdf.out (λe=>(HnQ.out _ e).2.2.2.2.2.1 rfl)]at hh;cases hh
    ·rw[hr3]at hh;cases hh
  have K24:∀x,x=b+1∨x=b+1+1∨x=b+1+2∨x=b+4∨x=b+4+1->W4.heap[x]? =W2.heap[x]? :=λx hx=>(K4.block x (by omega) (nW x hx)).trans (HK1.out.block x (by omega) (λe=>by have:=HnQ.out x e;omega))
  have hout:outL (an.take (k+1))=outL (an.take k)++(an[k]++⟨#[10]⟩:ByteArray).data.toList:=outL_take hka
  gi_wp2
  rw[HsD.out]
  refine⟨⟨by have:=K4.size;omega,K24 _ (by omega),K24 _ (by omega)⟩,Q',?_,by rw[hout];exact iB4,?_,HnQ'.out,?_,?_,cs1,fz1,(K4.block _ (by omega) (nW _ (by omega))).trans Hx3.out,(K4.block _ (by omega) (nW _ (by omega))).trans z8,v3,(K4.block _ (by omega) (nW _ (by omega))).trans z9⟩
  ·refine HT.out.other (k+1) Q' DD W3 W4 _ H1'.out K4 (λx hx _=> ?_)
   rcases hx with rfl|⟨hx,cs,fz,hh⟩
   ·refine⟨by have:=HDD.out;omega,λhq=>(HnQ'.out _ hq).2.1 rfl,λc t f hh=> ?_,λq M hm=> ?_⟩
    ·rw[hcb]at hh;cases hh;exact⟨by decide,by decide,by decide,by decide,by decide⟩
    ·obtain⟨es,cl,h8,_⟩:=hm
     rw[hcb]at h8
     cases h8
   ·refine⟨by have:=HDD.out;omega,λhq=>HT.out.bytes _ _ _ _ H1'.out _ _ _ hq hh,λc t f h9=> ?_,λq M hm=> ?_⟩
    ·rw[hh]at h9;cases h9;exact⟨by decide,by decide,by decide,by decide,by decide⟩
    ·obtain⟨es,cl,h8,_⟩:=hm
     rw[hh]at h8
     cases h8
  ·refine K4.heap Ht3.out (λe=> ?_)
   rcases e with e|⟨e,_⟩<;>omega
  ·exact Hkw3.out.trans K4 (λi hi e=>by have:=HDD.out;rcases e with e|⟨e,_⟩<;>omega)
  ·have:=K4.size;omega
end Go.Proofs.YtnmhgehpddipdaaGreatDoor
namespace Go.Proofs.YtnmhgehpddipdaaGreatDoor
open Go.RowKit Go.Cof
structure Stays(w:World)(T:World->(Nat->Prop)->Prop):Prop where
 other:∀W W' Q X,T W Q->Keep X W W'->(∀x,X x->x<W.heap.size->Free w W Q x)->T W' Q
 own:∀W Q,T W Q->∀x,Q x->w.heap.size<=x∧x<W.heap.size
 bytes:∀W Q,T W Q->∀x c f,Q x->W.heap[x]? =some (.cells c 5 f)->False
theorem Stays.keepN{w:World}{T:World->(Nat->Prop)->Prop}(S:Stays w T){W W':World}{Q:Nat->Prop}(h:T W Q)(K:Keep NoB W W'):T W' Q:=S.other _ _ _ _ h K λ_ x=>x.elim
section
variable {w W:World}{DD:Nat}{Q:Nat->Prop}{T T':World->(Nat->Prop)->Prop}
theorem out_free(hw:w.heap.size<=W.heap.size){w2:World}{Q':Nat->Prop}(hQ:∀x,Q x->x<W.heap.size)(hg:∀x,Q' x->Q x∨W.heap.size<x)(hO:OutAt w2 W.heap.size):∀x,OneB W.heap.size x->x<w2.heap.size->Free w w2 Q' x:=by
 intro x hx hl
 obtain rfl:x=W.heap.size:=hx
 have h2:w2.heap[W.heap.size]? =some (.cells #[.string ⟨#[]⟩] 9 (0,0)):=hO
 refine⟨hw,λhq=> ?_,λc t f hh=> ?_,λq M hm=> ?_⟩
 ·rcases hg _ hq with h|h
  ·have:=hQ _ h;omega
  ·omega
 ·rw[h2]at hh
  cases hh
  exact⟨by decide,by decide,by decide,by decide,by decide⟩
 ·obtain⟨es,cl,h8,_⟩:=hm
  rw[h2]at h8
  cases h8
theorem stays_ok(S:Stays w T)(S':Stays w T')(K0:Keep NoB w W)(hT:T W Q){s name r:ByteArray}{F:Nat}{rest:List ByteArray}(hs:s.size<=1000000)(hW:wordsL s=name::rest)(hn:name.size<=maxLen)(hr6:rest.length<=1000000)(hdo:doesV DD name=doV DD F)(eF:∀args w,(callFunc F args).run Tryz.prog w= .ok (.enter F args) w)
  (hcmd:∀w1,T w1 Q->Keep NoB w w1->∀q c,Strs w1 (.slice q rest.length c) rest->rest.length<=c->(∀x,(Value.slice q rest.length c).ownBlock=some x->¬Q x)->
   Calls Tryz.prog F #[.pointer (some ⟨DD,0,none⟩),.slice q rest.length c] w1 λe w2=>e= .returned (.string r)∧(∃Q',T' w2 Q'∧Grow w1 Q Q')∧Keep Q w1 w2):
  Calls Tryz.prog 27 #[.pointer (some ⟨DD,0,none⟩),.string s] W λe W'=>e= .returned (.string r)∧(∃Q',T' W' Q'∧Grow W Q Q')∧Keep Q W W':=by
 have hlt:=λx hx=>(S.own W Q hT x hx).2
 refine(line_ok (r:=r) (S:=Q) (R:=λw2=>∃Q',T' w2 Q'∧∀x,Q' x->Q x∨W.heap.size<x) hs hW hn hr6 hdo eF (λhq=>by have:=hlt _ hq;omega) (λw1 K1 hO q c hst hc hx=> ?_) (λw2 v hO hR=> ?_)).mono ?_
 ·refine(hcmd w1 (S.keepN hT K1) (K0.thenN K1) q c hst hc (λx hb hq=>by have:=hx x hb;have:=hlt x hq;omega)).mono ?_
  rintro e w2 ⟨he,⟨Q',h1,h2⟩,K⟩
  have hl1:W.heap.size<w1.heap.size:=lt_of_heap hO
  exact⟨he,⟨Q',h1,λx hx=>(h2 x hx).imp id (λh=>by omega)⟩,K⟩
 ·obtain⟨Q',h1,h2⟩:=hR
  exact⟨Q',S'.other w2 _ Q' _ h1 ((Keep.refl (OneB W.heap.size) w2).set1 0 (.string v)) (out_free K0.size hlt h2 hO),h2⟩
 ·rintro e w' ⟨he,⟨Q',h1,h2⟩,K⟩
  exact⟨he,⟨Q',h1,λx hx=>(h2 x hx).imp id (λh=>by omega)⟩,K⟩
theorem stays_bad(S:Stays w T)(S':Stays w T')(K0:Keep NoB w W)(hT:T W Q)(G:PowVar w)(n:Int)(hn9: -10000<n∧n<10000){s name:ByteArray}{F:Nat}{rest:List ByteArray}(hs:s.size<=1000000)(hW:wordsL s=name::rest)(hn:name.size<=maxLen)(hr6:rest.length<=1000000)(hdo:doesV DD name=doV DD F)(eF:∀args w,(callFunc F args).run Tryz.prog w= .ok (.enter F args) w)
  (hcmd:∀w1,T w1 Q->Keep NoB w w1->∀q c,Strs w1 (.slice q rest.length c) rest->rest.length<=c->(∀x,(Value.slice q rest.length c).ownBlock=some x->¬Q x)->
   Calls Tryz.prog F #[.pointer (some ⟨DD,0,none⟩),.slice q rest.length c] w1 λe w2=>e= .panicked [{ v:=wrongV n,recovered:=false }]∧(∃Q',T' w2 Q'∧Grow w1 Q Q')∧Keep Q w1 w2):
  Calls Tryz.prog 27 #[.pointer (some ⟨DD,0,none⟩),.string s] W λe W'=>e= .returned (.string (errTxt n))∧(∃Q',T' W' Q'∧Grow W Q Q')∧Keep Q W W':=by
 have hlt:=λx hx=>(S.own W Q hT x hx).2
 refine(line_bad (S:=Q) (R:=λw2=>∃Q',T' w2 Q'∧∀x,Q' x->Q x∨W.heap.size<x) n hn9 (G.keep K0 (λx=>x)) hs hW hn hr6 hdo eF (λhq=>by have:=hlt _ hq;omega) (λw1 K1 hO q c hst hc hx=> ?_) (λa b hR K=> ?_) (λhq=>by have:=(S.own W Q hT _ hq).1;have:=G.lt;omega) (λw2 v hO hR=> ?_)).mono ?_
 ·refine(hcmd w1 (S.keepN hT K1) (K0.thenN K1) q c hst hc (λx hb hq=>by have:=hx x hb;have:=hlt x hq;omega)).mono ?_
  rintro e w2 ⟨he,⟨Q',h1,h2⟩,K⟩
  have hl1:W.heap.size<w1.heap.size:=lt_of_heap hO
  exact⟨he,⟨Q',h1,λx hx=>(h2 x hx).imp id (λh=>by omega)⟩,K⟩
 ·obtain⟨Q',h1,h2⟩:=hR
  exact⟨Q',S'.keepN h1 K,h2⟩
 ·obtain⟨Q',h1,h2⟩:=hR
  exact⟨Q',S'.other w2 _ Q' _ h1 ((Keep.refl (OneB W.heap.size) w2).set1 0 (.string v)) (out_free K0.size hlt h2 hO),h2⟩
 ·rintro e w' ⟨he,⟨Q',h1,h2⟩,K⟩
  exact⟨he,⟨Q',h1,λx hx=>(h2 x hx).imp id (λh=>by omega)⟩,K⟩
end
end Go.Proofs.YtnmhgehpddipdaaGreatDoor
namespace Go.Cof
open Go.RowKit Go.Proofs.YtnmhgehpddipdaaGreatDoor
def PlainW(w:List UInt8):Prop:=∀b∈w,b.toNat<128∧b.toNat≠32
theorem decode_at{s:ByteArray}{pre post:List UInt8}{b:UInt8}(h:s.data.toList=pre++b::post)(hb:b.toNat<128):Utf8.decode s pre.length=(b.toNat,1):=by
 have h1:s.get! pre.length=b:=by
  show s.data[pre.length]! =b
  have h2:s.data[pre.length]? =some b:=by
   rw[<-Array.getElem?_toList,h]
   simp
  rw[getElem!_def,h2]
 unfold Utf8.decode
 simp only[Nat.add_zero,h1]
 rw[if_pos (by omega)]
theorem size_of{s:ByteArray}{l:List UInt8}(h:s.data.toList=l):s.size=l.length:=by
 rw[<-h]
 rfl
theorem word_run(s:ByteArray)(a:Nat)(acc:List (Nat×Nat)):∀(w pre post:List UInt8) (f:Nat),s.data.toList=pre++(w++post)->PlainW w->
  Lib.spansFromP spaceP s (w.length+f) pre.length (some a) acc=Lib.spansFromP spaceP s f (pre.length+w.length) (some a) acc
 | [],pre,post,f,_,_=>by simp
 | b::w,pre,post,f,h,hw=>by
  have hb:=hw b List.mem_cons_self
  have hd:=decode_at (post:=w++post) h hb.1
  have hs:=size_of h
  have ih:=word_run s a acc w (pre++ [b]) post f (by rw[h];simp) (λx hx=>hw x (List.mem_cons_of_mem _ hx))
  rw[List.length_cons,show w.length+1+f=(w.length+f)+1 by omega,Lib.spansFromP,if_pos (by rw[hs];simp),hd]
  have hp:spaceP b.toNat=false:=by unfold spaceP;simp;omega
  simp only[hp]
  rw[List.length_append,List.length_singleton]at ih
  rw[show pre.length+(w.length+1)=pre.length+1+w.length by omega]
  exact ih
theorem cut_word{s:ByteArray}{pre w post l:List UInt8}(h:s.data.toList=pre++l)(hl:l=w++post):s.extract pre.length (pre.length+w.length)=⟨w.toArray⟩:=by
 subst hl
 apply ByteArray.ext
 apply Array.toList_inj.1
 rw[ByteArray.data_extract,Array.toList_extract,h]
 simp
def joinSp:List (List UInt8)->List UInt8
 | []=> []
 | [w]=>w
 | w::v::r=>w++32::joinSp (v::r)
def spansAt:Nat->List (List UInt8)->List (Nat×Nat)
 | _,[]=> []
 | p,w::r=>(p,p+w.length)::spansAt (p+w.length+1) r
theorem spans_words(s:ByteArray):∀(ws:List (List UInt8)) (pre:List UInt8) (acc:List (Nat×Nat)) (f:Nat),ws≠ []->s.data.toList=pre++joinSp ws->(joinSp ws).length<=f->(∀w∈ws,w≠ []∧PlainW w)->
  Lib.closeSpans s (Lib.spansFromP spaceP s f pre.length none acc)=acc++spansAt pre.length ws
 | [],_,_,_,h,_,_,_=>absurd rfl h
 | [w],pre,acc,f,_,h,hf,hw=>by
  have h1:=hw w List.mem_cons_self
  obtain⟨b,u,rfl⟩:∃b u,w=b::u:=by
   cases w with
   | nil=>exact absurd rfl h1.1
   | cons b u=>exact⟨b,u,rfl⟩
  rw[joinSp]at h hf
  obtain⟨f,rfl⟩:∃g,f=(u.length+g)+1:=⟨f-u.length-1,by simp at hf;omega⟩
  have hb:=h1.2 b List.mem_cons_self
  have hd:=decode_at (post:=u) h hb.1
  have hs:=size_of h
  have hp:spaceP b.toNat=false:=by unfold spaceP;simp;omega
  rw[Lib.spansFromP,if_pos (by rw[hs];simp),hd]
  simp only[hp]
  have hr:=word_run s pre.length acc u (pre++ [b]) [] f (by rw[h];simp) (λx hx=>h1.2 x (List.mem_cons_of_mem _ hx))
  rw[List.length_append,List.length_singleton]at hr
  show Lib.closeSpans s (Lib.spansFromP spaceP s (u.length+f) (pre.length+1) (some pre.length) acc)=_
  rw[hr]
  have hend:Lib.spansFromP spaceP s f (pre.length+1+u.length) (some pre.length) acc=(acc,some pre.length):=Lib.spansFromP_end _ _ _ _ _ _ (by rw[hs];simp;omega)
  rw[hend,Lib.closeSpans,spansAt,spansAt,hs]
  simp
 | w::v::r,pre,acc,f,_,h,hf,hw=>by
  have h1:=hw w List.mem_cons_self
  obtain⟨b,u,rfl⟩:∃b u,w=b::u:=by
   cases w with
   | nil=>exact absurd rfl h1.1
   | cons b u=>exact⟨b,u,rfl⟩
  rw[joinSp]at h hf
  obtain⟨f,rfl⟩:∃g,f=(u.length+(g+1))+1:=⟨f-u.length-2,by simp at hf;omega⟩
  have hb:=h1.2 b List.mem_cons_self
  have hd:=decode_at (post:=u++32::joinSp (v::r)) h hb.1
  have hs:=size_of h
  have hp:spaceP b.toNat=false:=by unfold spaceP;simp;omega
  rw[Lib.spansFromP,if_pos (by rw[hs];simp),hd]
  simp only[hp]
  have hr:=word_run s pre.length acc u (pre++ [b]) (32::joinSp (v::r)) (f+1) (by rw[h];simp) (λx hx=>h1.2 x (List.mem_cons_of_mem _ hx))
  rw[List.length_append,List.length_singleton]at hr
  show Lib.closeSpans s (Lib.spansFromP spaceP s (u.length+(f+1)) (pre.length+1) (some pre.length) acc)=_
  rw[hr]
  have hl:pre.length+1+u.length=(pre++(b::u)).length:=by simp;omega
  have hd2:=decode_at (pre:=pre++(b::u)) (post:=joinSp (v::r)) (b:=32) (by rw[h];simp) (by decide)
  rw[<-hl]at hd2
  rw[Lib.spansFromP,if_pos (by rw[hs];simp;omega),hd2]
  have hp2:spaceP (32:UInt8).toNat=true:=by decide
  simp only[hp2]
  have ih:=spans_words s (v::r) (pre++(b::u)++ [32]) (acc++ [(pre.length,pre.length+1+u.length)]) f (by simp) (by rw[h];simp) (by simp at hf⊢;omega) (λx hx=>hw x (List.mem_cons_of_mem _ hx))
  have hl2:(pre++(b::u)++ [32]).length=pre.length+1+u.length+1:=by simp;omega
  rw[hl2]at ih
  show Lib.closeSpans s (Lib.spansFromP spaceP s f (pre.length+1+u.length+1) none (acc++ [(pre.length,pre.length+1+u.length)]))=_
  have he:pre.length+(b::u).length=pre.length+1+u.length:=by simp;omega
  rw[ih]
  show acc++ [(pre.length,pre.length+1+u.length)]++spansAt (pre.length+1+u.length+1) (v::r)=acc++((pre.length,pre.length+(b::u).length)::spansAt (pre.length+(b::u).length+1) (v::r))
  rw[he,List.append_assoc]
  rfl
theorem spans_cut(s:ByteArray):∀(ws:List (List UInt8)) (pre:List UInt8),s.data.toList=pre++joinSp ws->(spansAt pre.length ws).map (λx=>s.extract x.1 x.2)=ws.map λw=>(⟨w.toArray⟩:ByteArray)
 | [],_,_=>rfl
 | [w],pre,h=>by
  rw[joinSp]at h
  have e:s.extract pre.length (pre.length+w.length)=⟨w.toArray⟩:=cut_word h (post:= []) (by simp)
  simp[spansAt,e]
 | w::v::r,pre,h=>by
  rw[joinSp]at h
  have e:s.extract pre.length (pre.length+w.length)=⟨w.toArray⟩:=cut_word (post:=32::joinSp (v::r)) h rfl
  have ih:=spans_cut s (v::r) (pre++w++ [32]) (by rw[h];simp)
  have hl:(pre++w++ [32]).length=pre.length+w.length+1:=by simp;omega
  rw[hl]at ih
  rw[spansAt,List.map_cons,ih,e]
  rfl
theorem wordsL_join(s:ByteArray)(ws:List (List UInt8))(hne:ws≠ [])(h:s.data.toList=joinSp ws)(hw:∀w∈ws,w≠ []∧PlainW w):wordsL s=ws.map λw=>(⟨w.toArray⟩:ByteArray):=by
 unfold wordsL Lib.goFieldsP Lib.spansOfP
 have h1:=spans_words s ws [] [] s.size hne (by simpa using h) (by rw[size_of h];exact Nat.le_refl _) hw
 rw[List.length_nil,List.nil_append]at h1
 rw[h1]
 exact spans_cut s ws [] (by simpa using h)
end Go.Cof
