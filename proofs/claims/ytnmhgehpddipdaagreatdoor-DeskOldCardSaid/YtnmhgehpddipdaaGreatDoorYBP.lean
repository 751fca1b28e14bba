import Derived.Test.YtnmhgehpddipdaaGreatDoorYAD
import Derived.Test.YtnmhgehpddipdaaGreatDoorYAI
import Derived.Test.YtnmhgehpddipdaaGreatDoorYAK
import Derived.Test.YtnmhgehpddipdaaGreatDoorYBH
import Derived.Test.YtnmhgehpddipdaaGreatDoorYBI
import Derived.Test.YtnmhgehpddipdaaGreatDoorYBO
set_option linter.unusedSimpArgs false
set_option linter.unusedVariables false
namespace Go.Cof
open Go.RowKit Go.Proofs.YtnmhgehpddipdaaGreatDoor
def aggI(x:ItemV):Value:= .agg (encItem x).toArray
def ptAt(w:World):Value->Option Value
 | .pointer (some a)=>match w.heap[a.block]? with
  | some (.cells c _ _)=>some (.agg c)
  | _=>none
 | _=>none
theorem PtIs.at{w:World}{v:Value}{o:Option Value}(h:PtIs w v o):ptAt w v=o:=by
 cases o with
 | none=>rw[show v= .pointer none from h];rfl
 | some x=>
  obtain⟨b,a,t,c,f,rfl,rfl,h3⟩:=h
  simp[ptAt,h3]
abbrev NowE:=ByteArray×ItemV
abbrev WaitE:=ByteArray×(Value×Option ItemV)
def waitI(W:List WaitE):List (ByteArray×Option ItemV):=mapG Prod.snd W
def plainW(W:List WaitE):List (ByteArray×Option PItem):=mapG (Option.map plainI) (waitI W)
def plainN(L:List NowE):List (ByteArray×PItem):=mapG plainI L
theorem plain_next(L:List NowE)(W:List WaitE):plainN (nextG L (waitI W))=nextG (plainN L) (plainW W):=(nextG_map plainI (waitI W) L).symm
theorem agg_next(L:List NowE)(W:List WaitE):mapG aggI (nextG L (waitI W))=nextS (mapG aggI L) (mapG (Option.map aggI) (waitI W)):=by
 rw[<-nextG_S]
 exact(nextG_map aggI (waitI W) L).symm
def NumsR(w:World)(x:ItemV):Prop:=Nums w x.av x.ns∧IntRow w x.av
theorem NumsR.keep{w w':World}{x:ItemV}(h:NumsR w x){S:Nat->Prop}(hk:Keep S w w')(hS:∀b c t f,S b->w.heap[b]? =some (.cells c t f)->t≠3):NumsR w' x:=by
 have hn:∀b,x.av.ownBlock=some b->¬S b:=λb hb hs=>by
  obtain⟨cs,fz,hc⟩:=h.2 b hb
  exact hS b _ _ _ hs hc rfl
 exact⟨h.1.keep hk hn,λb hb=>by
  obtain⟨cs,fz,hc⟩:=h.2 b hb
  exact⟨cs,fz,hk.heap hc (hn b hb)⟩⟩
structure OtherT(t:TypeId):Prop where
 int:t≠3
 item:t≠47
 cells:t≠163
 ptr:t≠165
 cell:t≠175
def OtherB(w:World)(S:Nat->Prop):Prop:=∀b c t f,S b->w.heap[b]? =some (.cells c t f)->OtherT t
theorem OtherB.none(w:World):OtherB w NoB:=λ_ _ _ _ h=>h.elim
theorem PtIs.keepT{w w':World}{v:Value}{o:Option Value}(h:PtIs w v o){S:Nat->Prop}(hk:Keep S w w')(hS:OtherB w S):PtIs w' v o:=by
 cases o with
 | none=>exact h
 | some x=>
  obtain⟨b,a,t,c,f,h1,h2,h3⟩:=h
  exact⟨b,a,t,c,f,h1,h2,hk.heap h3 (λhs=>(hS b _ _ _ hs h3).item rfl)⟩
theorem own_keepT{w w':World}{base:Nat}{e:TypeId}{size:Nat}{v:Value}{n:Nat}{xs:List Value}(h:OwnsN w base e size v n xs){S:Nat->Prop}(hk:Keep S w w')(hS:∀b c f,S b->w.heap[b]? =some (.cells c e f)->False):OwnsN w' base e size v n xs:=
 h.keep hk λb hb hs=>by
  obtain⟨c,f,hh⟩:=own_type h hb
  exact hS b c f hs hh
theorem cells_keepT{w w':World}{base C dim:Nat}{v:Value}{bs:List (Nat×Value)}{cs:List Cell}(h:CellsAt w base C dim v bs cs){S:Nat->Prop}(K:Keep S w w')(hS:OtherB w S):CellsAt w' base C dim v bs cs:=
 ⟨K.heap h.head (λhs=>(hS _ _ _ _ hs h.head).cells rfl),own_keepT h.row K (λb c f hs hh=>(hS b c _ f hs hh).ptr rfl),h.len,λi b c hb hc=>by
  have h1:=h.cell i b c hb hc
  exact⟨K.heap h1.1 (λhs=>(hS _ _ _ _ hs h1.1).cell rfl),h1.2.1,own_keepT h1.2.2 K (λb c f hs hh=>(hS b c _ f hs hh).item rfl)⟩,h.ptr,h.own,h.low⟩
structure BaseR(w:World)(mb wb nm nw:Nat)(L:List NowE)(W:List WaitE):Prop where
 now:SMapIs w mb nm (mapG aggI L)
 wait:SMapIs w wb nw (mapG Prod.fst W)
 apart:mb≠wb
 items:∀p∈L,NumsR w p.2
 waits:∀p∈W,PtIs w p.2.1 (p.2.2.map aggI)∧∀x,p.2.2=some x->NumsR w x
structure BaseC(w:World)(CC:Nat)(dim:Nat)(L:List NowE):Prop where
 cells:∃base cv bs l,CellsAt w base CC dim cv bs (cellsL l)∧(∀x∈l,NumsR w x)∧l.map plainI=L.map (λp=>plainI p.2)
def baseCells(B dim mb wb:Nat)(c:Value):Array Value:= #[.pointer (some ⟨B,0,none⟩),.int .i64 dim,.map (some mb),.map (some wb),c]
def BaseRowV(w:World)(BB B dim mb wb:Nat)(c:Value):Prop:=w.heap[BB]? =some (.cells (baseCells B dim mb wb c) 85 (0,0))
abbrev BaseRow(w:World)(BB B dim mb wb CC:Nat):Prop:=BaseRowV w BB B dim mb wb (.pointer (some ⟨CC,0,none⟩))
section
variable {w w':World}{mb wb nm nw CC dim:Nat}{L:List NowE}{W:List WaitE}{S:Nat->Prop}
theorem BaseR.keep(h:BaseR w mb wb nm nw L W)(hk:Keep S w w')(hS:OtherB w S)(h1:¬S mb)(h2:¬S wb):BaseR w' mb wb nm nw L W:=
 ⟨h.now.keep hk h1,h.wait.keep hk h2,h.apart,λp hp=>(h.items p hp).keep hk (λb c t f hs hh=>(hS b c t f hs hh).int),λp hp=>⟨(h.waits p hp).1.keepT hk hS,λx hx=>((h.waits p hp).2 x hx).keep hk (λb c t f hs hh=>(hS b c t f hs hh).int)⟩⟩
theorem BaseR.keepN(h:BaseR w mb wb nm nw L W)(hk:Keep NoB w w'):BaseR w' mb wb nm nw L W:=h.keep hk (OtherB.none w) (λx=>x) (λx=>x)
theorem BaseC.keep(h:BaseC w CC dim L)(hk:Keep S w w')(hS:OtherB w S):BaseC w' CC dim L:=by
 obtain⟨base,cv,bs,l,h1,h2,h3⟩:=h.cells
 exact⟨base,cv,bs,l,cells_keepT h1 hk hS,λx hx=>(h2 x hx).keep hk (λb c t f hs hh=>(hS b c t f hs hh).int),h3⟩
theorem BaseC.keepN(h:BaseC w CC dim L)(hk:Keep NoB w w'):BaseC w' CC dim L:=h.keep hk (OtherB.none w)
end
theorem one_otherT{w:World}{b:Nat}{c:Array Value}{t:TypeId}{f:Nat×Nat}(h:w.heap[b]? =some (.cells c t f))(ht:OtherT t):OtherB w (OneB b):=λb' c' t' f' hs hh=>by
 obtain rfl:b'=b:=hs
 rw[two_types hh h]
 exact ht
theorem map_other{w:World}{mb n:Nat}{L:List SEnt}(h:SMapIs w mb n L):OtherB w (OneB mb):=λb c t f hs hh=>by
 obtain rfl:b=mb:=hs
 exact absurd rfl (h.row_ne hh)
theorem smap_cast{w:World}{mb n:Nat}{L M:List SEnt}(h:SMapIs w mb n L)(e:L=M):SMapIs w mb n M:=e▸h
end Go.Cof
namespace Go.Proofs.YtnmhgehpddipdaaGreatDoor
open Go.RowKit Go.Cof
theorem cloneInts_any{w:World}{v:Value}{l:List Int}(N:Nums w v l)(h0:0<l.length)(hl:l.length<=1000000):
  Calls Tryz.prog 43 #[v] w λe w'=>∃v',e= .returned v'∧OwnsN w' w.heap.size 3 1 v' l.length (l.map (Value.int .i64))∧Keep NoB w w':=by
 obtain⟨p,c,rfl⟩:=N.len
 obtain⟨b,off,rfl,-,hb,hc⟩:=N.at h0
 refine(Tryz.slices_Clone_int b off l.length c l w (Nat.le_refl _) (by omega) hc).mono ?_
 rintro e w' ⟨v',rfl,hrow,_,hbl⟩
 refine⟨v',rfl,?_,Keep.ofBelow hbl⟩
 have:=OwnsN.of hrow
 rwa [List.take_of_length_le (Nat.le_refl _)]at this
theorem introw_ofN{w:World}{base:Nat}{v:Value}{n:Nat}{xs:List Value}(h:OwnsN w base 3 1 v n xs):IntRow w v:=λg hg=>own_type h hg
end Go.Proofs.YtnmhgehpddipdaaGreatDoor
namespace Go.Cof
open Go.RowKit Go.Proofs.YtnmhgehpddipdaaGreatDoor
theorem names_of(L:List NowE):(mapG aggI L).map (·.1)=L.map (·.1):=by
 rw[mapG,List.map_map]
 rfl
structure ItemsOut(w:World)(base:Nat)(v:Value)(l:List ItemV)(L:List NowE):Prop where
 row:OwnsN w base 47 3 v l.length (l.flatMap encItem)
 same:l.map plainI=L.map (λp=>plainI p.2)
 nums:∀x∈l,NumsR w x
theorem ItemsOut.items{w:World}{base:Nat}{v:Value}{l:List ItemV}{L:List NowE}(h:ItemsOut w base v l L):Items w v l:=⟨RowsK.ofN encItem_len h.row,λx hx=>(h.nums x hx).1⟩
theorem ItemsOut.len{w:World}{base:Nat}{v:Value}{l:List ItemV}{L:List NowE}(h:ItemsOut w base v l L):l.length=L.length:=by
 have:=congrArg List.length h.same
 simpa using this
structure ShapeL(L:List NowE):Prop where
 few:L.length<=1000
 name:∀p∈L,p.1.size<=1000
 some:∀p∈L,0<p.2.ns.length
 le:∀p∈L,p.2.ns.length<=8
 num:∀p∈L,numOk p.2.ns
theorem ShapeL.nil:ShapeL []:=⟨by simp,(λp hp=>by cases hp),(λp hp=>by cases hp),(λp hp=>by cases hp),(λp hp=>by cases hp)⟩
end Go.Cof
namespace Go.Proofs.YtnmhgehpddipdaaGreatDoor
open Go.RowKit Go.Cof
set_option maxRecDepth 100000
set_option maxHeartbeats 8000000 in
theorem baseItems_any{w:World}{BB B dim mb wb nm:Nat}{c0:Value}{L:List NowE}
  (hB:BaseRowV w BB B dim mb wb c0) (hA:SMapIs w mb nm (mapG aggI L)) (hI:∀p∈L,NumsR w p.2) (hs:ShapeL L):
  Calls Tryz.prog 16 #[.pointer (some ⟨BB,0,none⟩)] w λe w'=>(∃v l,e= .returned v∧ItemsOut w' w.heap.size v l L)∧Keep NoB w w':=by
 have hc2:∀w':World,Keep NoB w w'->w'.cell? ⟨BB,2,none⟩=some (.map (some mb)):=λw' K=>cellOf (K.heap hB (λx=>x)) 2 rfl
 have c2:=hc2 w (Keep.refl _ _)
 have hBlt:=lt_of_heap hB
 have hkeys:=(callsIn_wide (n:=5)).1 (keysItem_any (some mb) w)
 have hsort:=(callsIn_wide (n:=5)).1 (sortedKeys_any hA (by rw[mapG,List.length_map];have:=hs.few;omega))
 have Hkeys:=Lib.hid hkeys
 have Hsort:=Lib.hid hsort
 clear hkeys hsort
 go_enter Tryz.func16,Tryz.ntmps16
 go_wp2_with fail
 refine Hkeys.out.mono ?_
 rintro e w' ⟨rfl,rfl⟩
 go_wp2_with fail
 refine Hsort.out.mono ?_
 rintro e w1 ⟨v,ss,rfl,hS,hrow,hnil,hb⟩
 have hr:=hA.rising
 have hss:ss.length=((mapG aggI L).map (·.1)).length:=by rw[hS.length_eq,strKeys_enc,names_len]
 rw[sorted_names hr hS,names_cells,hss,names_of]at hrow
 have own:=OwnsN.of hrow
 have hst:Strs w1 v (L.map (·.1)):=strs_ofN own
 have K1:Keep NoB w w1:=((Keep.refl NoB w).alloc (.cells #[.map (some mb)] 81)).thenN ⟨hb.os,hb.tape,hb.output,hb.size,λi hi _=>hb.block i hi⟩
 obtain⟨N,hN⟩:∃N,N=L.map (·.1):=⟨_,rfl⟩
 rw[<-hN]at hst own
 obtain⟨p,c,rfl⟩:=hst.len
 obtain⟨m,hm⟩:∃m,m=N.length:=⟨_,rfl⟩
 have hmL:m=L.length:=by rw[hm,hN,List.length_map]
 rw[<-hm]at hst⊢
 have HN:=Lib.hid hN
 have Hm:=Lib.hid hm
 have HmL:=Lib.hid hmL
 have Hst:=Lib.hid hst
 obtain⟨i0,hi0,hz0,hs0,hb0⟩:=item_info
 clear hN hrow hnil hS hss hm hmL own hst hb c2 hr
 go_wp2_with fail
 have HA:=Lib.hid hA
 have HI:=Lib.hid hI
 have Hhc:=Lib.hid hc2
 have HK1:=Lib.hid K1
 clear hA hI hc2 K1 Hkeys Hsort
 go_loopw [3,14] (λlv iv wr=>∃(k:Nat) (o:Value) (l:List ItemV),k<=m∧iv= .int .i64 k∧o=lv∧Hid (l.length=k)∧Hid (l.map plainI=(L.take k).map (λp=>plainI p.2))∧Hid (OwnsN wr w1.heap.size 47 3 o k (l.flatMap encItem))∧Hid (∀x∈l,NumsR wr x)∧Hid (Keep NoB w1 wr)) (λ_ iv _=>m-(intOf iv).toNat)
 case atStart=>exact⟨0,_,[],by omega,rfl,rfl,Lib.hid rfl,Lib.hid (by rw[List.take_zero];rfl),Lib.hid (OwnsN.nil _ _ _ _),Lib.hid (λx hx=>by cases hx),Lib.hid (Keep.refl _ _)⟩
 case round=>
  obtain⟨k,o,l,hk,rfl,rfl,hll,hsame,hO,hnum,K⟩:=hrel
  obtain⟨wo,rfl⟩:∃wo,wo=wr:=⟨_,rfl⟩
  have KW:=HK1.out.thenN K.out
  by_cases hlt:k<m
  ·have j1:(k:Int)<m:=by omega
   have Tr:=Hst.out.keep K.out (λ_ _ x=>x)
   obtain⟨b,off,rfl,-,hb,hcell⟩:=Tr.at (by rw[<-Hm.out];omega)
   have hck:=hcell k (by rw[<-Hm.out];exact hlt)
   obtain⟨q,hq⟩:∃q,L[k]? =some q:=⟨_,List.getElem?_eq_getElem (by have:=HmL.out;omega)⟩
   have hqm:q∈L:=List.mem_of_getElem? hq
   have hnk:N.getD k ⟨#[]⟩=q.1:=by rw[HN.out,List.getD_eq_getElem?_getD,List.getElem?_map,hq];rfl
   rw[hnk]at hck
   have hAo:=HA.out.keep KW (λx=>x)
   have hget:getS (mapG aggI L) q.1=some (aggI q.2):=getS_mem hAo.pairs (List.mem_map.2 ⟨q,hqm,rfl⟩)
   have hq2:=(HI.out q hqm).keep KW (λ_ _ _ _ h=>h.elim)
   have hqn:=hs.some q hqm
   have hq8:=hs.le q hqm
   have hnms0:=hs.name q hqm
   obtain⟨nm,x⟩:=q
   simp only at hck hget hq2 hqn hq8 hnms0
   have hnms:nm.size<=maxLen:=by unfold maxLen;omega
   have hlk:=hAo.look Tryz.underlying81 nm hnms (Tryz.zeroValue47 wo)
   rw[hget,Option.getD_some]at hlk
   obtain⟨xn,xt,xa,xs⟩:=x
   obtain⟨pa,ca,hpa⟩:=hq2.1.len
   simp only at hpa hqn hq8
   subst hpa
   simp only[aggI,encItem]at hlk
   have b2:=Hhc.out _ KW
   have KA:Keep NoB wo (wo.alloc (.cells #[.string xn,.string xt,.slice pa xs.length ca] 47)):=(Keep.refl _ _).alloc _
   have hcl:=cloneInts_any (hq2.1.keep KA (λ_ _ x=>x)) hqn (by simp only;omega)
   simp only at hcl
   have HX:=heap_alloc_new wo (.cells #[.string xn,.string xt,.slice pa xs.length ca] 47)
   obtain⟨X,hX⟩:∃X,X=wo.heap.size:=⟨_,rfl⟩
   obtain⟨wa,hwa⟩:∃wa,wa=wo.alloc (.cells #[.string xn,.string xt,.slice pa xs.length ca] 47):=⟨_,rfl⟩
   rw[<-hwa]at hcl HX KA
   rw[<-hX]at HX
   have a2:wa.cell? ⟨X,2,none⟩=some (.slice pa xs.length ca):=cellOf HX 2 rfl
   have Hcl:=Lib.hid hcl
   have Hwa:=Lib.hid hwa
   have HXX:=Lib.hid hX
   have HHX:=Lib.hid HX
   have HKA:=Lib.hid KA
   have Hq:=Lib.hid hq
   clear hcl hwa hX HX KA hq hqm hnk hget hAo Tr hcell hq2
   go_wp2_with fail
   rw[<-HXX.out,<-Hwa.out]
   obtain⟨nl,hnl⟩:∃m,m=xs.length:=⟨_,rfl⟩
   rw[<-hnl]at Hcl a2 HHX Hwa⊢
   have Hnl:=Lib.hid hnl
   clear hnl
   go_wp2_with fail
   refine Hcl.out.mono ?_
   rintro e w3 ⟨v3,rfl,O3,K3⟩
   have HX3:=K3.heap HHX.out (λx=>x)
   obtain⟨ps,cs,hps⟩:=own_sl1 O3
   subst hps
   have d2:w3.cell? ⟨X,2,none⟩=some (.slice pa nl ca):=cellOf HX3 2 rfl
   have f2:w3.frozen? ⟨X,2,none⟩=false:=Lib.frozen_of_heap HX3 2
   have HX4:(w3.setCell ⟨X,2,none⟩ (.slice ps nl cs)).heap[X]? =some (.cells #[.string xn,.string xt,.slice ps nl cs] 47 (0,0)):=setCell_heap3 (i:=2) HX3 _
   have K4:Keep (OneB X) w3 (w3.setCell ⟨X,2,none⟩ (.slice ps nl cs)):=(Keep.refl _ _).set1 2 _
   obtain⟨w4,hw4⟩:∃w4,w4=w3.setCell ⟨X,2,none⟩ (.slice ps nl cs):=⟨_,rfl⟩
   rw[<-hw4]at HX4 K4
   have e0:w4.cell? ⟨X,0,none⟩=some (.string xn):=cellOf HX4 0 rfl
   have e1:w4.cell? ⟨X,1,none⟩=some (.string xt):=cellOf HX4 1 rfl
   have e2:w4.cell? ⟨X,2,none⟩=some (.slice ps nl cs):=cellOf HX4 2 rfl
   have Hw4:=Lib.hid hw4
   have HO3:=Lib.hid O3
   have HK3:=Lib.hid K3
   have HK4:=Lib.hid K4
   clear hw4 O3 K3 K4 HX3 Hcl a2
   go_upto_region 7 with(fail)
   rw[<-Hw4.out]
   clear d2 f2
   have HOn:Hid (OwnsN w4 w1.heap.size 47 3 o k (l.flatMap encItem)∧(∀x∈l,NumsR w4 x)∧NumsR w4 ⟨xn,xt,.slice ps nl cs,xs⟩∧Keep NoB w1 w4):=by
    have hXlt:wo.heap.size<=X:=by rw[HXX.out];exact Nat.le_refl _
    have KK:Keep (OneB X) wo w4:=((HKA.out.thenN HK3.out).ofN).then HK4.out
    have hnX:∀b c t f,OneB X b->wo.heap[b]? =some (.cells c t f)->t≠3:=λb c t f hb hh=>by
     have h1:b=X:=hb
     have h2:=lt_of_heap hh
     omega
    refine⟨hO.out.keep KK (λb hb e=> ?_),λx hx=>(hnum.out x hx).keep KK hnX,?_,?_⟩
    ·have h1:b=X:=e
     have h2:=(hO.out.lt b hb).2
     omega
    ·have h3:NumsR w3 ⟨xn,xt,.slice ps nl cs,xs⟩:=⟨nums_ofN (by rw[<-Hnl.out];exact HO3.out),introw_ofN HO3.out⟩
     refine h3.keep HK4.out λb c t f hb hh=> ?_
     have h1:b=X:=hb
     subst h1
     have h5:=HK3.out.heap HHX.out (λx=>x)
     rw[two_types hh h5]
     decide
    ·refine(K.out.trans KK λi hi e=> ?_)
     have h1:i=X:=e
     have:=K.out.size
     omega
   have hsz4:w1.heap.size<=w4.heap.size:=HOn.out.2.2.2.size
   have hk1000:k<1000:=by have:=HmL.out;have:=hs.few;omega
   have HK:=Lib.hid K.out
   go_wp2_with (at_builtin;refine wpList_append_n _ rfl _ _ 48 rfl w1.heap.size 47 i0 _ 3 56 Tryz.underlying48 hi0 hz0 hs0 hb0 rfl (by decide) o _ _ rfl (HOn.out.1.alloc _) ⟨w4.heap.size,0,none⟩ 1 1 [.string xn,.string xt,.slice ps nl cs] rfl rfl (cells_new _ _ _) (encItem_one3 xn xt ps nl cs) (by unfold maxLen;omega) (by omega) (by simp;omega) ?_;intro v' w5 own' hgrow)
   have KG:Keep (λb=>o.ownBlock=some b) w4 w5:=(((Keep.refl NoB w4).alloc (.cells #[.string xn,.string xt,.slice ps nl cs] 47)).ofN).trans ((Keep.refl _ _).grown hgrow (λb hb=> .inl hb)) (λi hi h=>h)
   have hoT:∀b c t f,(λb=>o.ownBlock=some b) b->w4.heap[b]? =some (.cells c t f)->t≠3:=λb c t f hb hh=>by
    obtain⟨c',f',h2⟩:=own_type HOn.out.1 hb
    rw[two_types hh h2]
    decide
   refine⟨⟨k+1,v',l++ [⟨xn,xt,.slice ps nl cs,xs⟩],by omega,by go_num,rfl,Lib.hid ?_,Lib.hid ?_,Lib.hid ?_,Lib.hid ?_,Lib.hid ?_⟩,by simp[intOf];omega⟩
   ·rw[List.length_append,hll.out];rfl
   ·have h1:=List.getElem?_eq_some_iff.1 Hq.out
    rw[List.take_succ_eq_append_getElem h1.1,h1.2,List.map_append,List.map_append,hsame.out]
    rfl
   ·rw[List.flatMap_append]
    exact own'
   ·intro x hx
    rcases List.mem_append.1 hx with hx|hx
    ·exact(HOn.out.2.1 x hx).keep KG hoT
    ·rw[List.mem_singleton.1 hx]
     exact HOn.out.2.2.1.keep KG hoT
   ·refine HK.out.trans (((HKA.out.thenN HK3.out).ofN (S:=λb=>b=X∨o.ownBlock=some b)).trans ((HK4.out.mono (λi hi h=> .inl h)).trans (KG.mono (λi hi h=> .inr h)) (λi hi h=>h)) (λi hi h=>h)) (λi hi h=> ?_)
    rcases h with h|h
    ·have:=HXX.out
     have:=HK.out.size
     omega
    ·have h2:=(hO.out.lt i h).1
     omega
  ·obtain rfl:k=m:=by omega
   have j1:¬(k:Int)<k:=by omega
   have hOo:=hO.out
   have hN:L.take k=L:=List.take_of_length_le (by rw[<-HmL.out];exact Nat.le_refl _)
   have hsm:=hsame.out
   rw[hN]at hsm
   have hll2:=hll.out
   subst hll2
   have Hsm:=Lib.hid hsm
   have HOo:=Lib.hid hOo
   have HKW:=Lib.hid KW
   clear hO hsm hsame hN hOo KW K
   go_wp2_with fail
   go_ret
   exact⟨⟨o,rfl,l,⟨HOo.out.down HK1.out.size,Hsm.out,hnum.out⟩⟩,HKW.out⟩
end Go.Proofs.YtnmhgehpddipdaaGreatDoor
namespace Go.Cof
open Go.RowKit Go.Proofs.YtnmhgehpddipdaaGreatDoor
section
variable {w w':World}{BB B dim mb wb CC nm nw:Nat}{c:Value}{L:List NowE}{W:List WaitE}{S:Nat->Prop}
theorem BaseRowV.keep(h:BaseRowV w BB B dim mb wb c)(hk:Keep S w w')(hn:¬S BB):BaseRowV w' BB B dim mb wb c:=hk.heap h hn
theorem BaseRowV.keepN(h:BaseRowV w BB B dim mb wb c)(hk:Keep NoB w w'):BaseRowV w' BB B dim mb wb c:=hk.heap h (λx=>x)
theorem BaseRowV.lt(h:BaseRowV w BB B dim mb wb c):BB<w.heap.size:=lt_of_heap h
theorem BaseRowV.set1(h:BaseRowV w BB B dim mb wb c)(d:Nat):BaseRowV (w.setCell ⟨BB,1,none⟩ (.int .i64 d)) BB B d mb wb c:=setCell_heap3 (i:=1) h _
theorem BaseRowV.set2(h:BaseRowV w BB B dim mb wb c)(m:Nat):BaseRowV (w.setCell ⟨BB,2,none⟩ (.map (some m))) BB B dim m wb c:=setCell_heap3 (i:=2) h _
theorem BaseRowV.set3(h:BaseRowV w BB B dim mb wb c)(m:Nat):BaseRowV (w.setCell ⟨BB,3,none⟩ (.map (some m))) BB B dim mb m c:=setCell_heap3 (i:=3) h _
theorem BaseRowV.set4(h:BaseRowV w BB B dim mb wb c)(C:Nat):BaseRow (w.setCell ⟨BB,4,none⟩ (.pointer (some ⟨C,0,none⟩))) BB B dim mb wb C:=setCell_heap3 (i:=4) h _
theorem BaseRowV.cell0(h:BaseRowV w BB B dim mb wb c):w.cell? ⟨BB,0,none⟩=some (.pointer (some ⟨B,0,none⟩)):=cellOf h 0 rfl
theorem BaseRowV.cell1(h:BaseRowV w BB B dim mb wb c):w.cell? ⟨BB,1,none⟩=some (.int .i64 dim):=cellOf h 1 rfl
theorem BaseRowV.cell2(h:BaseRowV w BB B dim mb wb c):w.cell? ⟨BB,2,none⟩=some (.map (some mb)):=cellOf h 2 rfl
theorem BaseRowV.cell3(h:BaseRowV w BB B dim mb wb c):w.cell? ⟨BB,3,none⟩=some (.map (some wb)):=cellOf h 3 rfl
theorem BaseRowV.cell4(h:BaseRowV w BB B dim mb wb c):w.cell? ⟨BB,4,none⟩=some c:=cellOf h 4 rfl
theorem BaseRowV.free(h:BaseRowV w BB B dim mb wb c)(i:Nat):w.frozen? ⟨BB,i,none⟩=false:=Lib.frozen_of_heap h i
theorem BaseRowV.other(h:BaseRowV w BB B dim mb wb c):OtherB w (OneB BB):=one_otherT h ⟨by decide,by decide,by decide,by decide,by decide⟩
theorem BaseR.setRow(h:BaseR w mb wb nm nw L W)(hB:BaseRowV w BB B dim mb wb c)(hk:Keep (OneB BB) w w'):BaseR w' mb wb nm nw L W:=h.keep hk hB.other (λe=>h.now.row_ne hB e) (λe=>h.wait.row_ne hB e)
theorem BaseC.setRow{dim' C':Nat}(h:BaseC w C' dim' L)(hB:BaseRowV w BB B dim mb wb c)(hk:Keep (OneB BB) w w'):BaseC w' C' dim' L:=h.keep hk hB.other
theorem out_mem{w:World}{base:Nat}{v:Value}{l:List ItemV}(h:l.map plainI=L.map (λp=>plainI p.2)):∀x∈l,∃p∈L,plainI x=plainI p.2:=λx hx=>by
 have h1:plainI x∈l.map plainI:=List.mem_map.2 ⟨x,hx,rfl⟩
 rw[h]at h1
 obtain⟨p,hp,e⟩:=List.mem_map.1 h1
 exact⟨p,hp,e.symm⟩
end
end Go.Cof
namespace Go.Proofs.YtnmhgehpddipdaaGreatDoor
open Go.RowKit Go.Cof
set_option maxRecDepth 100000
set_option maxHeartbeats 8000000 in
theorem baseIndex_any{w:World}{BB B dim mb wb nm:Nat}{c0:Value}{L:List NowE}
  (hB:BaseRowV w BB B dim mb wb c0) (hA:SMapIs w mb nm (mapG aggI L)) (hI:∀p∈L,NumsR w p.2) (hs:ShapeL L):
  Calls Tryz.prog 34 #[.pointer (some ⟨BB,0,none⟩)] w λe w'=>e= .returned (.tuple #[])∧(∃C,BaseRow w' BB B dim mb wb C∧BaseC w' C dim L)∧Keep (OneB BB) w w':=by
 have c1:=hB.cell1
 have KD:Keep NoB w w.drew:=(Keep.refl NoB w).drew
 have hit:=baseItems_any (w:=w.drew) (hB.keepN KD) (hA.keep KD (λx=>x)) (λp hp=>(hI p hp).keep KD (λ_ _ _ _ h=>h.elim)) hs
 have Hit:=Lib.hid hit
 have HI:=Lib.hid hI
 have HA:=Lib.hid hA
 have HB:=Lib.hid hB
 have hlt:=hB.lt
 clear hit hI hA hB
 go_enter Tryz.func34,Tryz.ntmps34
 have l1:∀x:InC (λW:World=>W.cell? ⟨BB,1,none⟩=some (.int .i64 dim)),x.w.cell? ⟨BB,1,none⟩=some (.int .i64 dim):=λx=>x.h
 refine wp_region_mix (λW:World=>W.cell? ⟨BB,1,none⟩=some (.int .i64 dim)) [(true,0),(true,1),(true,2),(true,3),(true,4),(true,5),(false,6),(false,7),(true,8),(true,9),(false,10)] (by kernel_rfl) (by kernel_rfl) (λc a d v w h=>by cases d<;>exact h) ?_
 simp only[wpMixC,pickL,List.getElem?_toArray,List.getElem?_cons_succ,List.getElem?_cons_zero]
 repeat(refine wpEarlyC_step (λK hK=> ?_);go_simp;first|(refine⟨_,λ_=>rfl,hK _ ?_⟩;clear hK K;refine wpEarlyC_nil ?_)|(refine hK _ ?_;clear hK K;refine wpEarlyC_nil ?_))
 refine⟨c1,?_⟩
 clear l1
 go_wp2_with fail
 refine Hit.out.mono ?_
 rintro e w1 ⟨⟨v,l,rfl,hO⟩,K1⟩
 have KW1:Keep NoB w w1:=KD.thenN K1
 have hll:=hO.len
 have hnew:=newCells_any dim v l w1 hO.items (by rw[hll];exact hs.few) (λx hx=>by
  obtain⟨p,hp,e⟩:=out_mem (w:=w) (base:=0) (v:=v) hO.same x hx
  have e2:x.ns=p.2.ns:=congrArg (λq:PItem=>q.2.2) e
  rw[e2]
  exact⟨hs.num p hp,hs.le p hp⟩)
 have Hnew:=Lib.hid hnew
 have HO:=Lib.hid hO
 have HK1:=Lib.hid KW1
 have b1:=(HB.out.keepN KW1).cell1
 clear hnew hO KW1 K1 hll c1 Hit
 go_wp2_with fail
 refine⟨b1,?_⟩
 go_wp2_with fail
 refine Hnew.out.mono ?_
 rintro e w2 ⟨C,cv,bs,rfl,hC,K2⟩
 have KW2:=HK1.out.thenN K2
 have HB2:=HB.out.keepN KW2
 have b2:=HB2.cell1
 have b4:=HB2.cell4
 have f4:=HB2.free 4
 have HCs:=Lib.hid hC
 have HK2:=Lib.hid K2
 clear hC K2 Hnew b1
 go_wp2_with fail
 repeat(refine wpEarlyC_step (λK hK=> ?_);go_simp;first|(refine⟨_,λ_=>rfl,hK _ ?_⟩;clear hK K;refine wpEarlyC_nil ?_)|(refine hK _ ?_;clear hK K;refine wpEarlyC_nil ?_))
 refine⟨b2,?_⟩
 go_wp2_with fail
 refine bodyPost_end (results_none rfl _ _ _) rfl ?_
 have KS:Keep (OneB BB) w2 (w2.setCell ⟨BB,4,none⟩ (.pointer (some ⟨C,0,none⟩))):=(Keep.refl _ _).set1 4 _
 have hCC:BaseC w2 C dim L:=⟨_,_,_,_,HCs.out,λx hx=>(HO.out.nums x hx).keep HK2.out (λ_ _ _ _ h=>h.elim),HO.out.same⟩
 refine⟨rfl,⟨C,HB2.set4 C,hCC.setRow HB2 KS⟩,KW2.ofN.then KS⟩
end Go.Proofs.YtnmhgehpddipdaaGreatDoor
namespace Go.Proofs.YtnmhgehpddipdaaGreatDoor
open Go.RowKit Go.Cof
set_option maxRecDepth 100000
section
variable {w:World}{BB B dim mb wb CC nm nw:Nat}{L:List NowE}{W:List WaitE}
theorem baseUndo_any(hB:BaseRow w BB B dim mb wb CC):
  Calls Tryz.prog 41 #[.pointer (some ⟨BB,0,none⟩)] w λe w'=>e= .returned (.tuple #[])∧BaseRow w' BB B dim mb w.heap.size CC∧SMapIs w' w.heap.size 0 []∧Keep (OneB BB) w w':=by
 have b3:=hB.cell3
 have f3:=hB.free 3
 have hlt:=hB.lt
 have hmm:= @run_makeMap Tryz.prog
 have KA:Keep NoB w (w.alloc (Obj.map #[] 0)):=(Keep.refl _ _).alloc _
 have b3':=(hB.keepN KA).cell3
 have f3':=(hB.keepN KA).free 3
 go_enter Tryz.func41,Tryz.ntmps41
 go_wp2_with fail
 refine bodyPost_end (results_none rfl _ _ _) rfl ?_
 have e:(w.setCell ⟨BB,3,none⟩ (.map (some w.heap.size))).heap.size=w.heap.size:=by simp[World.setCell]
 have m1:=SMapIs.made (w.setCell ⟨BB,3,none⟩ (.map (some w.heap.size)))
 rw[e]at m1
 exact⟨rfl,(hB.set3 w.heap.size).keepN ((Keep.refl _ _).alloc _),m1,((Keep.refl (OneB BB) w).set1 3 _).thenN ((Keep.refl _ _).alloc _)⟩
set_option maxHeartbeats 4000000 in
theorem baseMake_any(d:Int)(hB:BaseRow w BB B 0 mb wb CC)(hA:SMapIs w mb nm (mapG aggI ([]:List NowE)))(hd:1<=d∧d<=8):
  Calls Tryz.prog 14 #[.pointer (some ⟨BB,0,none⟩),.int .i64 d] w λe w'=>e= .returned .nilIface∧(∃C,BaseRow w' BB B d.toNat mb wb C∧BaseC w' C d.toNat [])∧Keep (OneB BB) w w':=by
 have b1:=hB.cell1
 have f1:=hB.free 1
 obtain⟨q,rfl⟩:∃q:Nat,d=q:=⟨d.toNat,by omega⟩
 have hq:q≠0:=by omega
 have j1:¬(q:Int)<1:=by omega
 have j2:¬(8:Int)<q:=by omega
 have hset:=hB.set1 q
 have KS:Keep (OneB BB) w (w.setCell ⟨BB,1,none⟩ (.int .i64 q)):=(Keep.refl _ _).set1 1 _
 have hidx:=baseIndex_any (L:= []) hset (hA.keep KS (λe=>hA.row_ne hB e)) (λp hp=>by cases hp) ShapeL.nil
 have Hidx:=Lib.hid hidx
 have HKS:=Lib.hid KS
 clear hidx hset KS
 rw[Int.toNat_natCast]
 go_enter Tryz.func14,Tryz.ntmps14
 go_wp2_with fail
 refine Hidx.out.mono ?_
 rintro e w2 ⟨rfl,hC,K2⟩
 have HC:=Lib.hid hC
 have HK2:=Lib.hid K2
 clear hC K2 Hidx
 go_wp2_with fail
 go_ret
 exact⟨rfl,HC.out,HKS.out.then HK2.out⟩
theorem baseMake_state(d:Int)(hB:BaseRow w BB B dim mb wb CC)(hd:dim≠0):
  Calls Tryz.prog 14 #[.pointer (some ⟨BB,0,none⟩),.int .i64 d] w λe w'=>e= .returned (errVal 6)∧Keep NoB w w':=by
 have b1:=hB.cell1
 have hn:((dim:Nat):Int)≠0:=by omega
 go_enter Tryz.func14,Tryz.ntmps14
 go_wp2_with fail
 go_ret
 exact⟨rfl,Keep.refl _ _⟩
theorem baseMake_arg(d:Int)(hB:BaseRow w BB B 0 mb wb CC)(hd:d<1∨8<d):
  Calls Tryz.prog 14 #[.pointer (some ⟨BB,0,none⟩),.int .i64 d] w λe w'=>e= .returned (errVal 1)∧Keep NoB w w':=by
 have b1:=hB.cell1
 rcases hd with hd|hd
 ·go_enter Tryz.func14,Tryz.ntmps14
  go_wp2_with fail
  go_ret
  exact⟨rfl,Keep.refl _ _⟩
 ·have j1:¬d<1:=by omega
  go_enter Tryz.func14,Tryz.ntmps14
  go_wp2_with fail
  go_ret
  exact⟨rfl,Keep.refl _ _⟩
end
end Go.Proofs.YtnmhgehpddipdaaGreatDoor
namespace Go.Cof
open Go.RowKit Go.Proofs.YtnmhgehpddipdaaGreatDoor
theorem waits_map{w:World}{W:List WaitE}(h:∀p∈W,PtIs w p.2.1 (p.2.2.map aggI)):(mapG Prod.fst W).map (λp=>(p.1,ptAt w p.2))=mapG (Option.map aggI) (waitI W):=by
 unfold mapG waitI mapG
 rw[List.map_map,List.map_map]
 refine List.map_congr_left λp hp=> ?_
 show(p.1,ptAt w p.2.1)=(p.1,p.2.2.map aggI)
 rw[(h p hp).at]
theorem getS_agg(L:List NowE)(k:ByteArray):getS (mapG aggI L) k=(getG L k).map aggI:=getG_map aggI L k
theorem putS_fst(W:List WaitE)(k:ByteArray)(v:Value)(o:Option ItemV):putS (mapG Prod.fst W) k v=mapG Prod.fst (putG W k (v,o)):=by
 rw[<-putG_S]
 exact putG_map Prod.fst W k (v,o)
theorem waitI_put(W:List WaitE)(k:ByteArray)(v:Value)(o:Option ItemV):waitI (putG W k (v,o))=putG (waitI W) k o:=(putG_map Prod.snd W k (v,o)).symm
theorem plainW_put(W:List WaitE)(k:ByteArray)(v:Value)(o:Option ItemV):plainW (putG W k (v,o))=putG (plainW W) k (o.map plainI):=by
 unfold plainW
 rw[waitI_put]
 exact(putG_map (Option.map plainI) (waitI W) k o).symm
theorem mapG_len{α β:Type}(f:α->β)(L:List (ByteArray×α)):(mapG f L).length=L.length:=List.length_map ..
theorem mapG_mem{α β:Type}{f:α->β}{L:List (ByteArray×α)}{p:ByteArray×β}(h:p∈mapG f L):∃q∈L,p=(q.1,f q.2):=by
 obtain⟨q,hq,rfl⟩:=List.mem_map.1 h
 exact⟨q,hq,rfl⟩
theorem next_nums{w:World}{mb wb nm nw:Nat}{L:List NowE}{W:List WaitE}(R:BaseR w mb wb nm nw L W):∀p∈nextG L (waitI W),NumsR w p.2:=
 mem_nextG (λ_ x=>NumsR w x) (waitI W) (λp hp=>R.items p hp) (λp hp x hx=>by
  obtain⟨q,hq,rfl⟩:=mapG_mem hp
  exact(R.waits q hq).2 x hx)
end Go.Cof
namespace Go.Proofs.YtnmhgehpddipdaaGreatDoor
open Go.RowKit Go.Cof
section
variable {w:World}{BB B dim mb wb CC nm nw:Nat}{L:List NowE}{W:List WaitE}
theorem baseNextM_any(hB:BaseRow w BB B dim mb wb CC)(R:BaseR w mb wb nm nw L W)(hsm:nm+nw<1000000):
  Calls Tryz.prog 36 #[.pointer (some ⟨BB,0,none⟩)] w λe w'=>∃n,n<=nm+nw∧e= .returned (.map (some w.heap.size))∧SMapIs w' w.heap.size n (mapG aggI (nextG L (waitI W)))∧Keep NoB w w':=by
 have hl:=R.wait.len
 rw[mapG_len]at hl
 refine(baseNext_any (ptAt w) (λw' h=>cloneMap_any h) hB R.now R.wait (λp hp=> ?_) (by rw[mapG_len];omega)).mono ?_
 ·obtain⟨q,hq,rfl⟩:=mapG_mem hp
  have h:=(R.waits q hq).1
  show PtIs w q.2.1 (ptAt w q.2.1)
  rw[h.at]
  exact h
 ·rintro e w' ⟨n,hn,he,hm,K⟩
  rw[mapG_len]at hn
  refine⟨n,by omega,he,smap_cast hm ?_,K⟩
  rw[waits_map (λp hp=>(R.waits p hp).1),agg_next]
end
set_option maxRecDepth 100000
section
variable {w:World}{BB B dim mb wb CC nm nw:Nat}{L:List NowE}{W:List WaitE}
theorem basePut_state(x:ItemV)(hB:BaseRow w BB B 0 mb wb CC):
  Calls Tryz.prog 15 #[.pointer (some ⟨BB,0,none⟩),aggI x] w λe w'=>e= .returned (errVal 6)∧Keep NoB w w':=by
 have KA:Keep NoB w (w.alloc (.cells (encItem x).toArray 47)):=(Keep.refl _ _).alloc _
 have b1:=(hB.keepN KA).cell1
 unfold aggI
 obtain⟨nm,tg,av,ns⟩:=x
 simp only[encItem]at KA b1⊢
 go_enter Tryz.func15,Tryz.ntmps15
 go_wp2_with fail
 go_ret
 exact⟨rfl,KA⟩
def PutC(BB X dim:Nat)(a b c:Value)(W:World):Prop:=W.cell? ⟨BB,1,none⟩=some (.int .i64 dim)∧W.cell? ⟨X,0,none⟩=some a∧W.cell? ⟨X,1,none⟩=some b∧W.cell? ⟨X,2,none⟩=some c
def PutD(BB X wb:Nat)(a:Value)(W:World):Prop:=W.cell? ⟨BB,3,none⟩=some (.map (some wb))∧W.cell? ⟨X,0,none⟩=some a
def PutSaid(w w':World)(dim wb nw:Nat)(L:List NowE)(W:List WaitE)(x:ItemV)(e:Ending):Prop:=
 if itemB x dim=false then e= .returned (errVal 1)∧Keep NoB w w'
 else if getG (nextG L (waitI W)) x.name=none∧(nextG L (waitI W)).length=60 then e= .returned (errVal 12)∧Keep NoB w w'
 else e= .returned .nilIface∧Keep (OneB wb) w w'∧∃X av,w.heap.size<=X∧SMapIs w' wb (nw+1) (mapG Prod.fst (putG W x.name (.pointer (some ⟨X,0,none⟩),some ⟨x.name,x.tag,av,x.ns⟩)))∧w'.heap[X]? =some (.cells (encItem ⟨x.name,x.tag,av,x.ns⟩).toArray 47 (0,0))∧NumsR w' ⟨x.name,x.tag,av,x.ns⟩
theorem PutSaid.arg{w w':World}{x:ItemV}{e:Ending}(h:itemB x dim=false)(he:e= .returned (errVal 1))(K:Keep NoB w w'):PutSaid w w' dim wb nw L W x e:=by
 unfold PutSaid
 rw[if_pos h]
 exact⟨he,K⟩
theorem PutSaid.full{w w':World}{x:ItemV}{e:Ending}{NX:List NowE}(hN:NX=nextG L (waitI W))(h:itemB x dim=true)(h1:getG NX x.name=none)(h2:NX.length=60)(he:e= .returned (errVal 12))(K:Keep NoB w w'):PutSaid w w' dim wb nw L W x e:=by
 subst hN
 unfold PutSaid
 rw[if_neg (by rw[h];decide),if_pos ⟨h1,h2⟩]
 exact⟨he,K⟩
theorem PutSaid.ok{w w':World}{x:ItemV}{e:Ending}{NX:List NowE}(hN:NX=nextG L (waitI W))(h:itemB x dim=true)(h1:¬(getG NX x.name=none∧NX.length=60))(he:e= .returned .nilIface∧Keep (OneB wb) w w'∧∃X av,w.heap.size<=X∧SMapIs w' wb (nw+1) (mapG Prod.fst (putG W x.name (.pointer (some ⟨X,0,none⟩),some ⟨x.name,x.tag,av,x.ns⟩)))∧w'.heap[X]? =some (.cells (encItem ⟨x.name,x.tag,av,x.ns⟩).toArray 47 (0,0))∧NumsR w' ⟨x.name,x.tag,av,x.ns⟩):PutSaid w w' dim wb nw L W x e:=by
 subst hN
 unfold PutSaid
 rw[if_neg (by rw[h];decide),if_neg h1]
 exact he
set_option maxHeartbeats 8000000 in
theorem basePut_any(x:ItemV)(N:Nums w x.av x.ns)(hl:x.ns.length<=1000000)(hB:BaseRow w BB B dim mb wb CC)(hR:BaseR w mb wb nm nw L W)(hsm:nm+nw<1000000)(hd:dim≠0):
  Calls Tryz.prog 15 #[.pointer (some ⟨BB,0,none⟩),aggI x] w λe w'=>PutSaid w w' dim wb nw L W x e:=by
 have hri:=itemRight_any x dim ((w.alloc (.cells (encItem x).toArray 47)).drew) (N.keep (((Keep.refl NoB w).alloc _).drew) (λ_ _ x=>x)) hl
 have hnx:=N.len
 unfold aggI
 obtain⟨nn,tg,av,ns⟩:=x
 simp only[encItem]at hri hnx⊢
 obtain⟨pa,ca,rfl⟩:=hnx
 have KA:Keep NoB w (w.alloc (.cells #[.string nn,.string tg,.slice pa ns.length ca] 47)):=(Keep.refl _ _).alloc _
 have b1:=(hB.keepN KA).cell1
 have n0:((dim:Nat):Int)≠0:=by omega
 have hX:=heap_alloc_new w (.cells #[.string nn,.string tg,.slice pa ns.length ca] 47)
 obtain⟨R,hRR⟩:∃R,R=itemB ⟨nn,tg,.slice pa ns.length ca,ns⟩ dim:=⟨_,rfl⟩
 rw[<-hRR]at hri
 have hns0:R=true->0<ns.length∧ns.length<=8∧nn.size<=1000:=by
  intro h
  rw[h]at hRR
  have h2:=hRR.symm
  simp only[itemB,nameB,Bool.and_eq_true,decide_eq_true_eq]at h2
  omega
 obtain⟨nl,hnl⟩:∃m,m=ns.length:=⟨_,rfl⟩
 rw[<-hnl]at hri KA b1 hX⊢
 obtain⟨X,hXX⟩:∃X,X=w.heap.size:=⟨_,rfl⟩
 obtain⟨wa,hwa⟩:∃wa,wa=w.alloc (.cells #[.string nn,.string tg,.slice pa nl ca] 47):=⟨_,rfl⟩
 have Hnl:=Lib.hid hnl
 have HRR:=Lib.hid hRR
 have Hns0:=Lib.hid hns0
 clear hnl hRR hns0
 go_enter Tryz.func15,Tryz.ntmps15
 go_wp2_with fail
 rw[<-hwa]at b1 hri KA hX
 rw[<-hXX]at hX
 rw[<-hwa,<-hXX]
 have Hri:=Lib.hid hri
 have HKA:=Lib.hid KA
 have HXX:=Lib.hid hXX
 have HX:=Lib.hid hX
 have c0:wa.cell? ⟨X,0,none⟩=some (.string nn):=cellOf hX 0 rfl
 have c1:wa.cell? ⟨X,1,none⟩=some (.string tg):=cellOf hX 1 rfl
 have c2:wa.cell? ⟨X,2,none⟩=some (.slice pa nl ca):=cellOf hX 2 rfl
 clear hwa hXX hri KA hX
 have L1:PutC BB X dim (.string nn) (.string tg) (.slice pa nl ca) wa:=⟨b1,c0,c1,c2⟩
 have l1:∀x:InC (PutC BB X dim (.string nn) (.string tg) (.slice pa nl ca)),x.w.cell? ⟨BB,1,none⟩=some (.int .i64 dim):=λx=>x.h.1
 have l2:∀x:InC (PutC BB X dim (.string nn) (.string tg) (.slice pa nl ca)),x.w.cell? ⟨X,0,none⟩=some (.string nn):=λx=>x.h.2.1
 have l3:∀x:InC (PutC BB X dim (.string nn) (.string tg) (.slice pa nl ca)),x.w.cell? ⟨X,1,none⟩=some (.string tg):=λx=>x.h.2.2.1
 have l4:∀x:InC (PutC BB X dim (.string nn) (.string tg) (.slice pa nl ca)),x.w.cell? ⟨X,2,none⟩=some (.slice pa nl ca):=λx=>x.h.2.2.2
 refine wp_region_mix (PutC BB X dim (.string nn) (.string tg) (.slice pa nl ca)) [(true,0),(true,1),(true,2),(true,3),(true,4),(false,5),(true,6),(false,7)] (by kernel_rfl) (by kernel_rfl) (λc a d v w h=>by cases d<;>exact h) ?_
 simp only[wpMixC,pickL,List.getElem?_toArray,List.getElem?_cons_succ,List.getElem?_cons_zero]
 repeat(refine wpEarlyC_step (λK hK=> ?_);go_simp;first|(refine⟨_,λ_=>rfl,hK _ ?_⟩;clear hK K;refine wpEarlyC_nil ?_)|(refine hK _ ?_;clear hK K;refine wpEarlyC_nil ?_))
 refine⟨L1,?_⟩
 clear l1 l2 l3 l4
 go_wp2_with fail
 refine Hri.out.mono ?_
 rintro e w1 ⟨rfl,K1⟩
 have KW1:Keep NoB w w1:=(HKA.out.drew).thenN K1
 have KX1:Keep NoB wa w1:=((Keep.refl NoB wa).drew).thenN K1
 have L2:PutC BB X dim (.string nn) (.string tg) (.slice pa nl ca) w1:=⟨(KX1.cell (p:=⟨BB,1,none⟩) (Lib.lt_of_cell b1) (λx=>x)).trans b1,(KX1.cell (p:=⟨X,0,none⟩) (Lib.lt_of_cell c0) (λx=>x)).trans c0,(KX1.cell (p:=⟨X,1,none⟩) (Lib.lt_of_cell c1) (λx=>x)).trans c1,(KX1.cell (p:=⟨X,2,none⟩) (Lib.lt_of_cell c2) (λx=>x)).trans c2⟩
 have HKW1:=Lib.hid KW1
 have HL2:=Lib.hid L2
 have HX1:=Lib.hid (KX1.heap HX.out (λx=>x))
 clear L1 L2 KX1 KW1 K1 Hri b1 c0 c1 c2 HX
 cases R with
 | false=>
  go_wp2_with fail
  repeat(refine wpEarlyC_step (λK hK=> ?_);go_simp;first|(refine⟨_,λ_=>rfl,hK _ ?_⟩;clear hK K;refine wpEarlyC_nil ?_)|(refine hK _ ?_;clear hK K;refine wpEarlyC_nil ?_))
  refine⟨HL2.out,?_⟩
  go_wp2_with fail
  go_ret
  exact PutSaid.arg HRR.out.symm rfl HKW1.out
 | true=>
  have hB1:=hB.keepN HKW1.out
  have hR1:=hR.keepN HKW1.out
  have hnx:=baseNextM_any hB1 hR1 hsm
  have hwt:=hR.wait
  have Hnx:=Lib.hid hnx
  have HB:=Lib.hid hB
  have HR:=Lib.hid hR
  clear hB1 hR1 hnx hB hR
  go_wp2_with fail
  repeat(refine wpEarlyC_step (λK hK=> ?_);go_simp;first|(refine⟨_,λ_=>rfl,hK _ ?_⟩;clear hK K;refine wpEarlyC_nil ?_)|(refine hK _ ?_;clear hK K;refine wpEarlyC_nil ?_))
  refine⟨HL2.out,?_⟩
  go_wp2_with fail
  refine Hnx.out.mono ?_
  rintro e w2 ⟨na,hna,rfl,hA,K2⟩
  have HKW2:=Lib.hid (HKW1.out.thenN K2)
  have HX2:=Lib.hid (K2.heap HX1.out (λx=>x))
  obtain⟨nb,hnb⟩:∃b,b=w1.heap.size:=⟨_,rfl⟩
  rw[<-hnb]at hA⊢
  have hnsz:nn.size<=maxLen:=by have:=(Hns0.out (by first|rfl|trivial)).2.2;unfold maxLen;omega
  obtain⟨NX,hNX⟩:∃N,N=nextG L (waitI W):=⟨_,rfl⟩
  have hnn:=next_nums HR.out
  rw[<-hNX]at hA hnn
  obtain⟨T,hT⟩:∃T,T=(getG NX nn).isSome:=⟨_,rfl⟩
  obtain⟨a0,a1,p2,n2,cc2,hu⟩:∃a0 a1 p2 n2 cc2,(getS (mapG aggI NX) nn).getD (.agg #[.string ⟨#[]⟩,.string ⟨#[]⟩,.slice none 0 0])= .agg #[.string a0,.string a1,.slice p2 n2 cc2]:=by
   rw[getS_agg]
   cases hg:getG NX nn with
   | none=>exact⟨_,_,_,_,_,rfl⟩
   | some y=>
    obtain⟨p3,c3,h3⟩:=(hnn _ (mem_getG hg)).1.len
    exact⟨y.name,y.tag,p3,_,c3,by rw[Option.map_some,Option.getD_some,aggI,encItem,h3]⟩
  have hlk:=hA.look_ok Tryz.underlying81 nn hnsz (Tryz.zeroValue47 w2)
  rw[hu,getS_agg,Option.isSome_map,<-hT]at hlk
  have hA3:=hA.keep ((Keep.refl NoB w2).alloc (.cells #[.string a0,.string a1,.slice p2 n2 cc2] 47)) (λx=>x)
  have hlen:=λty=>hA3.size Tryz.underlying81 ty
  obtain⟨m,hm⟩:∃m,m=NX.length:=⟨_,rfl⟩
  rw[mapG_len,<-hm]at hlen
  have d0:w2.cell? ⟨X,0,none⟩=some (.string nn):=cellOf HX2.out 0 rfl
  have HNX:=Lib.hid hNX
  have HT:=Lib.hid hT
  have Hm:=Lib.hid hm
  clear hNX hT hm hu hnn hA hA3 hnb K2 Hnx hwt
  cases T with
  | true=>
   have hHC:¬(getG NX nn=none∧NX.length=60):=by
    rintro⟨h1,h2⟩
    have h3:=HT.out
    have h4:=Hm.out
    rw[h1]at h3
    first|exact H60.out (h4.trans h2)|cases h3
   have HC:=Lib.hid hHC
   clear hHC
   go_upto_region 9 with(fail)
   have KZ:Keep NoB w2 (w2.alloc (.cells #[.string a0,.string a1,.slice p2 n2 cc2] 47)):=(Keep.refl _ _).alloc _
   obtain⟨Z,hZ⟩:∃Z,Z=w2.heap.size:=⟨_,rfl⟩
   obtain⟨wz,hwz⟩:∃wz,wz=w2.alloc (.cells #[.string a0,.string a1,.slice p2 n2 cc2] 47):=⟨_,rfl⟩
   rw[<-hwz]at KZ
   have HXz:=KZ.heap HX2.out (λx=>x)
   have KWZ:=HKW2.out.thenN KZ
   have Nz:=N.keep KWZ (λ_ _ x=>x)
   have hnb:=Hns0.out (by first|rfl|trivial)
   have hcl:=cloneInts_any Nz hnb.1 (by omega)
   rw[<-Hnl.out]at hcl
   have z2:wz.cell? ⟨X,2,none⟩=some (.slice pa nl ca):=cellOf HXz 2 rfl
   rw[<-hwz,<-hZ]
   have Hcl:=Lib.hid hcl
   have HXZ:=Lib.hid HXz
   have HKWZ:=Lib.hid KWZ
   clear hwz hZ KZ Nz hcl HXz KWZ hlen hlk d0
   go_wp2_with fail
   refine Hcl.out.mono ?_
   rintro e w3 ⟨v3,rfl,O3,K3⟩
   obtain⟨ps,cs,hps⟩:=own_sl1 O3
   subst hps
   have HX3:=K3.heap HXZ.out (λx=>x)
   have y2:w3.cell? ⟨X,2,none⟩=some (.slice pa nl ca):=cellOf HX3 2 rfl
   have f2:w3.frozen? ⟨X,2,none⟩=false:=Lib.frozen_of_heap HX3 2
   have HX4:(w3.setCell ⟨X,2,none⟩ (.slice ps nl cs)).heap[X]? =some (.cells #[.string nn,.string tg,.slice ps nl cs] 47 (0,0)):=setCell_heap3 (i:=2) HX3 _
   have K4:Keep (OneB X) w3 (w3.setCell ⟨X,2,none⟩ (.slice ps nl cs)):=(Keep.refl _ _).set1 2 _
   have KW3:=HKWZ.out.thenN K3
   have hXlt:w.heap.size<=X:=by rw[HXX.out];exact Nat.le_refl _
   have hN3:NumsR w3 ⟨nn,tg,.slice ps nl cs,ns⟩:=⟨nums_ofN (by rw[<-Hnl.out];exact O3),introw_ofN O3⟩
   have hN4:=hN3.keep K4 (λb c t f hb hh=>by
    have h1:b=X:=hb
    subst h1
    rw[two_types hh HX3]
    decide)
   have KW4:Keep NoB w (w3.setCell ⟨X,2,none⟩ (.slice ps nl cs)):=(KW3.ofN (S:=OneB X)).then K4|>.mono (λi hi h=>by have h1:i=X:=h;omega)
   have HN4:=Lib.hid hN4
   have HKW4:=Lib.hid KW4
   have HX4:=Lib.hid HX4
   obtain⟨w4,hw4⟩:∃w4,w4=w3.setCell ⟨X,2,none⟩ (.slice ps nl cs):=⟨_,rfl⟩
   rw[<-hw4]at HN4 HKW4 HX4
   have Hw4:=Lib.hid hw4
   clear hw4 O3 K3 HX3 K4 KW3 hN3 hN4 KW4 Hcl z2
   go_upto_region 10 with(fail)
   rw[<-Hw4.out]
   clear y2 f2 Hw4
   have L4:PutD BB X wb (.string nn) w4:=⟨(HB.out.keepN HKW4.out).cell3,cellOf HX4.out 0 rfl⟩
   have l1:∀x:InC (PutD BB X wb (.string nn)),x.w.cell? ⟨BB,3,none⟩=some (.map (some wb)):=λx=>x.h.1
   have l2:∀x:InC (PutD BB X wb (.string nn)),x.w.cell? ⟨X,0,none⟩=some (.string nn):=λx=>x.h.2
   refine wp_region_mix (PutD BB X wb (.string nn)) [(true,0),(true,1),(true,2),(true,3),(true,4),(true,5),(false,6)] (by kernel_rfl) (by kernel_rfl) (λc a d v w h=>by cases d<;>exact h) ?_
   simp only[wpMixC,pickL,List.getElem?_toArray,List.getElem?_cons_succ,List.getElem?_cons_zero]
   repeat(refine wpEarlyC_step (λK hK=> ?_);go_simp;first|(refine⟨_,λ_=>rfl,hK _ ?_⟩;clear hK K;refine wpEarlyC_nil ?_)|(refine hK _ ?_;clear hK K;refine wpEarlyC_nil ?_))
   refine⟨L4,?_⟩
   clear l1 l2
   have KD:Keep NoB w4 w4.drew:=(Keep.refl NoB w4).drew
   have hnw:nw<maxLen:=by unfold maxLen;omega
   obtain⟨w5,hup,hm5,K5⟩:=((HR.out.wait.keep HKW4.out (λx=>x)).keep KD (λx=>x)).update Tryz.underlying82 hnw nn hnsz (.pointer (some ⟨X,0,none⟩))
   rw[putS_fst W nn (.pointer (some ⟨X,0,none⟩)) (some ⟨nn,tg,.slice ps nl cs,ns⟩)]at hm5
   have Hm5:=Lib.hid hm5
   have HK5:=Lib.hid K5
   clear hm5 K5 KD L4
   go_wp2_with fail
   go_ret
   have hwt:=HR.out.wait
   have hneX:X≠wb:=λe=>by have h1:=hwt.lt;have h2:=HXX.out;omega
   refine PutSaid.ok HNX.out HRR.out.symm HC.out ⟨rfl,(HKW4.out.drew.ofN).then HK5.out,X,.slice ps nl cs,by rw[HXX.out];exact Nat.le_refl _,Hm5.out,?_,?_⟩
   ·exact HK5.out.heap (show w4.drew.heap[X]? =_ from HX4.out) hneX
   ·refine(HN4.out.keep ((Keep.refl NoB w4).drew) (λ_ _ _ _ h=>h.elim)).keep HK5.out (λb c t f hb hh=> ?_)
    have h1:b=wb:=hb
    subst h1
    exact absurd rfl (((hwt.keep HKW4.out (λx=>x)).keep ((Keep.refl NoB w4).drew) (λx=>x)).row_ne hh)
  | false=>
   by_cases h60:m=60
   ·have j60:(m:Int)=60:=by omega
    have H60:=Lib.hid h60
    clear h60
    go_wp2_with fail
    go_ret
    have hg:getG NX nn=none:=by
     have h3:=HT.out
     cases hx:getG NX nn with
     | none=>rfl
     | some y=>rw[hx]at h3;cases h3
    exact PutSaid.full HNX.out HRR.out.symm hg (Hm.out.symm.trans H60.out) rfl (HKW2.out.thenN ((Keep.refl _ _).alloc _))
   have j60:¬(m:Int)=60:=by omega
   have H60:=Lib.hid h60
   clear h60
   have hHC:¬(getG NX nn=none∧NX.length=60):=by
    rintro⟨h1,h2⟩
    have h3:=HT.out
    have h4:=Hm.out
    rw[h1]at h3
    first|exact H60.out (h4.trans h2)|cases h3
   have HC:=Lib.hid hHC
   clear hHC
   go_upto_region 9 with(fail)
   have KZ:Keep NoB w2 (w2.alloc (.cells #[.string a0,.string a1,.slice p2 n2 cc2] 47)):=(Keep.refl _ _).alloc _
   obtain⟨Z,hZ⟩:∃Z,Z=w2.heap.size:=⟨_,rfl⟩
   obtain⟨wz,hwz⟩:∃wz,wz=w2.alloc (.cells #[.string a0,.string a1,.slice p2 n2 cc2] 47):=⟨_,rfl⟩
   rw[<-hwz]at KZ
   have HXz:=KZ.heap HX2.out (λx=>x)
   have KWZ:=HKW2.out.thenN KZ
   have Nz:=N.keep KWZ (λ_ _ x=>x)
   have hnb:=Hns0.out (by first|rfl|trivial)
   have hcl:=cloneInts_any Nz hnb.1 (by omega)
   rw[<-Hnl.out]at hcl
   have z2:wz.cell? ⟨X,2,none⟩=some (.slice pa nl ca):=cellOf HXz 2 rfl
   rw[<-hwz,<-hZ]
   have Hcl:=Lib.hid hcl
   have HXZ:=Lib.hid HXz
   have HKWZ:=Lib.hid KWZ
   clear hwz hZ KZ Nz hcl HXz KWZ hlen hlk d0
   go_wp2_with fail
   refine Hcl.out.mono ?_
   rintro e w3 ⟨v3,rfl,O3,K3⟩
   obtain⟨ps,cs,hps⟩:=own_sl1 O3
   subst hps
   have HX3:=K3.heap HXZ.out (λx=>x)
   have y2:w3.cell? ⟨X,2,none⟩=some (.slice pa nl ca):=cellOf HX3 2 rfl
   have f2:w3.frozen? ⟨X,2,none⟩=false:=Lib.frozen_of_heap HX3 2
   have HX4:(w3.setCell ⟨X,2,none⟩ (.slice ps nl cs)).heap[X]? =some (.cells #[.string nn,.string tg,.slice ps nl cs] 47 (0,0)):=setCell_heap3 (i:=2) HX3 _
   have K4:Keep (OneB X) w3 (w3.setCell ⟨X,2,none⟩ (.slice ps nl cs)):=(Keep.refl _ _).set1 2 _
   have KW3:=HKWZ.out.thenN K3
   have hXlt:w.heap.size<=X:=by rw[HXX.out];exact Nat.le_refl _
   have hN3:NumsR w3 ⟨nn,tg,.slice ps nl cs,ns⟩:=⟨nums_ofN (by rw[<-Hnl.out];exact O3),introw_ofN O3⟩
   have hN4:=hN3.keep K4 (λb c t f hb hh=>by
    have h1:b=X:=hb
    subst h1
    rw[two_types hh HX3]
    decide)
   have KW4:Keep NoB w (w3.setCell ⟨X,2,none⟩ (.slice ps nl cs)):=(KW3.ofN (S:=OneB X)).then K4|>.mono (λi hi h=>by have h1:i=X:=h;omega)
   have HN4:=Lib.hid hN4
   have HKW4:=Lib.hid KW4
   have HX4:=Lib.hid HX4
   obtain⟨w4,hw4⟩:∃w4,w4=w3.setCell ⟨X,2,none⟩ (.slice ps nl cs):=⟨_,rfl⟩
   rw[<-hw4]at HN4 HKW4 HX4
   have Hw4:=Lib.hid hw4
   clear hw4 O3 K3 HX3 K4 KW3 hN3 hN4 KW4 Hcl z2
   go_upto_region 10 with(fail)
   rw[<-Hw4.out]
   clear y2 f2 Hw4
   have L4:PutD BB X wb (.string nn) w4:=⟨(HB.out.keepN HKW4.out).cell3,cellOf HX4.out 0 rfl⟩
   have l1:∀x:InC (PutD BB X wb (.string nn)),x.w.cell? ⟨BB,3,none⟩=some (.map (some wb)):=λx=>x.h.1
   have l2:∀x:InC (PutD BB X wb (.string nn)),x.w.cell? ⟨X,0,none⟩=some (.string nn):=λx=>x.h.2
   refine wp_region_mix (PutD BB X wb (.string nn)) [(true,0),(true,1),(true,2),(true,3),(true,4),(true,5),(false,6)] (by kernel_rfl) (by kernel_rfl) (λc a d v w h=>by cases d<;>exact h) ?_
   simp only[wpMixC,pickL,List.getElem?_toArray,List.getElem?_cons_succ,List.getElem?_cons_zero]
   repeat(refine wpEarlyC_step (λK hK=> ?_);go_simp;first|(refine⟨_,λ_=>rfl,hK _ ?_⟩;clear hK K;refine wpEarlyC_nil ?_)|(refine hK _ ?_;clear hK K;refine wpEarlyC_nil ?_))
   refine⟨L4,?_⟩
   clear l1 l2
   have KD:Keep NoB w4 w4.drew:=(Keep.refl NoB w4).drew
   have hnw:nw<maxLen:=by unfold maxLen;omega
   obtain⟨w5,hup,hm5,K5⟩:=((HR.out.wait.keep HKW4.out (λx=>x)).keep KD (λx=>x)).update Tryz.underlying82 hnw nn hnsz (.pointer (some ⟨X,0,none⟩))
   rw[putS_fst W nn (.pointer (some ⟨X,0,none⟩)) (some ⟨nn,tg,.slice ps nl cs,ns⟩)]at hm5
   have Hm5:=Lib.hid hm5
   have HK5:=Lib.hid K5
   clear hm5 K5 KD L4
   go_wp2_with fail
   go_ret
   have hwt:=HR.out.wait
   have hneX:X≠wb:=λe=>by have h1:=hwt.lt;have h2:=HXX.out;omega
   refine PutSaid.ok HNX.out HRR.out.symm HC.out ⟨rfl,(HKW4.out.drew.ofN).then HK5.out,X,.slice ps nl cs,by rw[HXX.out];exact Nat.le_refl _,Hm5.out,?_,?_⟩
   ·exact HK5.out.heap (show w4.drew.heap[X]? =_ from HX4.out) hneX
   ·refine(HN4.out.keep ((Keep.refl NoB w4).drew) (λ_ _ _ _ h=>h.elim)).keep HK5.out (λb c t f hb hh=> ?_)
    have h1:b=wb:=hb
    subst h1
    exact absurd rfl (((hwt.keep HKW4.out (λx=>x)).keep ((Keep.refl NoB w4).drew) (λx=>x)).row_ne hh)
end
end Go.Proofs.YtnmhgehpddipdaaGreatDoor
namespace Go.Cof
open Go.RowKit Go.Proofs.YtnmhgehpddipdaaGreatDoor
def tagPI(tag:ByteArray)(x:PItem):Bool:=decide (tag=⟨#[]⟩)||decide (x.2.1=tag)
def foundP(at_:List Int)(x:PItem):FoundV:=(x.1,farW x.2.2 at_)
def topP(l:List PItem)(at_:List Int)(k:Int)(tag:ByteArray):List FoundV:=(sortF ((l.filter (tagPI tag)).map (foundP at_))).take k.toNat
theorem topV_P(l:List ItemV)(at_:List Int)(k:Int)(tag:ByteArray):topV l at_ k tag=topP (l.map plainI) at_ k tag:=by
 unfold topV topP foundL
 rw[List.filter_map,List.map_map]
 rfl
end Go.Cof
namespace Go.Proofs.YtnmhgehpddipdaaGreatDoor
open Go.RowKit Go.Cof Go.Sort Go.Shelf
def FindSaid(w w':World)(dim:Nat)(l:List PItem)(at_:List Int)(k:Int)(tag:ByteArray)(e:Ending):Prop:=
 if dim=0 then e= .returned (.tuple #[.slice none 0 0,.int .i64 0,errVal 6])
 else if askB dim at_ k=false then e= .returned (.tuple #[.slice none 0 0,.int .i64 0,errVal 1])
 else∃(v':Value) (looked:Nat),e= .returned (.tuple #[v',.int .i64 looked,.nilIface])∧RowsK w' v' 2 encF (topP l at_ k tag)∧looked<=l.length∧∀b,v'.ownBlock=some b->w.heap.size<=b
theorem cloneStr_any(s:ByteArray)(hs:s.size<=1000000)(w:World):Calls Tryz.prog 45 #[.string s] w λe w'=>e= .returned (.string s)∧Keep NoB w w':=by
 have hc:=Tryz.stringslite_Clone s w (by omega)
 have Hc:=Lib.hid hc
 clear hc
 go_enter Tryz.func45,Tryz.ntmps45
 go_wp2_with fail
 refine Hc.out.mono ?_
 rintro e w1 ⟨rfl,hb⟩
 go_wp2_with fail
 go_ret
 exact⟨rfl,Keep.ofBelow hb⟩
def FindC(BB CC:Nat)(W:World):Prop:=W.cell? ⟨BB,4,none⟩=some (.pointer (some ⟨CC,0,none⟩))
set_option maxRecDepth 100000
section
variable {w:World}{BB B dim mb wb CC nm nw:Nat}{L:List NowE}
theorem baseFind_state(hB:BaseRow w BB B 0 mb wb CC)(va:Value)(k:Int)(tag:ByteArray):
  Calls Tryz.prog 17 #[.pointer (some ⟨BB,0,none⟩),va,.int .i64 k,.string tag] w λe w'=>e= .returned (.tuple #[.slice none 0 0,.int .i64 0,errVal 6])∧Keep NoB w w':=by
 have b1:=hB.cell1
 go_enter Tryz.func17,Tryz.ntmps17
 go_wp2_with fail
 go_ret3
 exact⟨rfl,Keep.refl _ _⟩
set_option maxHeartbeats 4000000 in
theorem baseFind_of(hB:BaseRow w BB B dim mb wb CC)(hd:dim≠0)(va:Value)(k:Int)(tag:ByteArray)(ht:tag.size<=1000000)(R:World->Value->Value->Value->Prop)
  (hT:∀W,Keep NoB w W->Calls Tryz.prog 44 #[.pointer (some ⟨CC,0,none⟩),va,.int .i64 k,.string tag] W λe w'=>∃a b c,e= .returned (.tuple #[a,b,c])∧R w' a b c∧Keep NoB W w'):
  Calls Tryz.prog 17 #[.pointer (some ⟨BB,0,none⟩),va,.int .i64 k,.string tag] w λe w'=>∃a b c,e= .returned (.tuple #[a,b,c])∧R w' a b c∧Keep NoB w w':=by
 have b1:=hB.cell1
 have b4:FindC BB CC w:=hB.cell4
 have hlt:=hB.lt
 have n0:((dim:Nat):Int)≠0:=by omega
 have HT:=Lib.hid hT
 clear hT
 go_enter Tryz.func17,Tryz.ntmps17
 go_wp2_with fail
 have l1:∀x:InC (FindC BB CC),x.w.cell? ⟨BB,4,none⟩=some (.pointer (some ⟨CC,0,none⟩)):=λx=>x.h
 refine wp_region_mix (FindC BB CC) [(true,0),(true,1),(true,2),(true,3),(true,4),(true,5),(true,6),(false,7),(false,8),(true,9),(true,10),(true,11),(true,12),(true,13),(false,14)] (by kernel_rfl) (by kernel_rfl) (λc a d v w h=>by cases d<;>exact h) ?_
 simp only[wpMixC,pickL,List.getElem?_toArray,List.getElem?_cons_succ,List.getElem?_cons_zero]
 repeat(refine wpEarlyC_step (λK hK=> ?_);go_simp;first|(refine⟨_,λ_=>rfl,hK _ ?_⟩;clear hK K;refine wpEarlyC_nil ?_)|(refine hK _ ?_;clear hK K;refine wpEarlyC_nil ?_))
 clear l1
 refine⟨b4,?_⟩
 go_wp2_with fail
 refine(cloneStr_any tag ht _).mono ?_
 rintro e w1 ⟨rfl,K1⟩
 have KW1:Keep NoB w w1:=((Keep.refl NoB w).drew).thenN K1
 have b4':FindC BB CC w1:=(KW1.cell (p:=⟨BB,4,none⟩) hlt (λx=>x)).trans b4
 go_wp2_with fail
 refine⟨b4',?_⟩
 go_wp2_with fail
 refine(HT.out _ KW1).mono ?_
 rintro e w2 ⟨x0,x1,x2,rfl,hR,K2⟩
 have b4'':FindC BB CC w2:=(K2.cell (p:=⟨BB,4,none⟩) (Nat.lt_of_lt_of_le hlt KW1.size) (λx=>x)).trans b4'
 have HRR:=Lib.hid hR
 have HK:=Lib.hid (KW1.thenN K2)
 clear hR K2 K1 KW1 HT
 go_wp2_with fail
 repeat(refine wpEarlyC_step (λK hK=> ?_);go_simp;first|(refine⟨_,λ_=>rfl,hK _ ?_⟩;clear hK K;refine wpEarlyC_nil ?_)|(refine hK _ ?_;clear hK K;refine wpEarlyC_nil ?_))
 refine⟨b4'',?_⟩
 go_wp2_with fail
 go_ret3
 exact⟨_,_,_,rfl,HRR.out,HK.out⟩
theorem baseFind_any(hB:BaseRow w BB B dim mb wb CC)(hC:BaseC w CC dim L)(hl:L.length<=1000)(hd8:dim<=8)(hL:∀p∈L,numOk p.2.ns∧p.2.ns.length=dim){va:Value}{at_:List Int}(N:Nums w va at_)(ha:at_.length<=1000000)(k:Int)(tag:ByteArray)(ht:tag.size<=1000000):
  Calls Tryz.prog 17 #[.pointer (some ⟨BB,0,none⟩),va,.int .i64 k,.string tag] w λe w'=>FindSaid w w' dim (L.map λp=>plainI p.2) at_ k tag e∧Keep NoB w w':=by
 by_cases h0:dim=0
 ·subst h0
  refine(baseFind_state hB va k tag).mono ?_
  rintro e w' ⟨rfl,K⟩
  exact⟨by unfold FindSaid;rw[if_pos rfl],K⟩
 obtain⟨base,cv,bs,l,hcells,hnum,hsame⟩:=hC.cells
 have hll:l.length=L.length:=by have:=congrArg List.length hsame;simpa using this
 cases hask:askB dim at_ k with
 | false=>
  refine(baseFind_of hB h0 va k tag ht (λw' a b c=>a= .slice none 0 0∧b= .int .i64 0∧c=errVal 1) (λW K=> ?_)).mono ?_
  ·refine(cellsTop_no CC dim cv va at_ k tag W (K.heap hcells.head (λx=>x)) (N.keep K (λ_ _ x=>x)) ha hask).mono ?_
   rintro e w' ⟨he,rfl⟩
   exact⟨_,_,_,he,⟨rfl,rfl,rfl⟩,Keep.refl _ _⟩
  ·rintro e w' ⟨a,b,c,rfl,⟨rfl,rfl,rfl⟩,K⟩
   refine⟨?_,K⟩
   unfold FindSaid
   rw[if_neg h0,if_pos hask]
 | true=>
  have hq:=hask
  simp only[askB,Bool.and_eq_true,decide_eq_true_eq,Bool.not_eq_true']at hq
  have hat:numOk at_:=by
   intro n hn
   have h1:=hq.1.1.2
   rw[List.any_eq_false]at h1
   have:=h1 n hn
   simp only[farB,Bool.or_eq_true,decide_eq_true_eq,not_or]at this
   omega
  have hA:AskOk l at_ dim:=⟨hat,by omega,hd8,λx hx=>by
   obtain⟨p,hp,e⟩:=out_mem (w:=w) (base:=0) (v:=va) hsame x hx
   have e2:x.ns=p.2.ns:=congrArg (λq:PItem=>q.2.2) e
   rw[e2]
   exact hL p hp⟩
  refine(baseFind_of hB h0 va k tag ht (λw' a b c=>∃looked:Nat,b= .int .i64 looked∧c= .nilIface∧RowsK w' a 2 encF (topV l at_ k tag)∧looked<=l.length∧∀b,a.ownBlock=some b->w.heap.size<=b) (λW K=> ?_)).mono ?_
  ·refine(cellsTop_own CC dim cv va bs _ l at_ k tag base W (hcells.keepN K) (cellsL_ok l) hA (N.keep K (λ_ _ x=>x)) (λx hx=>((hnum x hx).keep K (λ_ _ _ _ h=>h.elim)).1) (by omega) hask).mono ?_
   rintro e w' ⟨v',looked,he,hr,hlk,hnw,K2⟩
   exact⟨_,_,_,he,⟨looked,rfl,rfl,hr,hlk,λb hb=>Nat.le_trans K.size (hnw b hb)⟩,K2⟩
  ·rintro e w' ⟨a,b,c,rfl,⟨looked,rfl,rfl,hr,hlk,hnw⟩,K⟩
   refine⟨?_,K⟩
   unfold FindSaid
   rw[if_neg h0,if_neg (by rw[hask];decide)]
   rw[topV_P,hsame]at hr
   exact⟨a,looked,rfl,hr,by rw[List.length_map];omega,hnw⟩
end
end Go.Proofs.YtnmhgehpddipdaaGreatDoor
