import Derived.Test.YtnmhgehpddipdaaGreatDoorYAG
import Derived.Test.YtnmhgehpddipdaaGreatDoorYAM
import Derived.Test.YtnmhgehpddipdaaGreatDoorYAT
import Derived.Test.YtnmhgehpddipdaaGreatDoorYAV
import Derived.Test.YtnmhgehpddipdaaGreatDoorYBA
set_option linter.unusedSimpArgs false
set_option linter.unusedVariables false
namespace Go.Cof
open Go.RowKit Go.Sort Go.Shelf
open Go.Proofs (ltOf)
structure ItemV where
 name:ByteArray
 tag:ByteArray
 av:Value
 ns:List Int
instance:Inhabited ItemV:=⟨⟨⟨#[]⟩,⟨#[]⟩,.slice none 0 0,[]⟩⟩
def encItem(x:ItemV):List Value:= [.string x.name,.string x.tag,x.av]
structure Items(w:World)(v:Value)(l:List ItemV):Prop where
 rows:RowsK w v 3 encItem l
 nums:∀x∈l,Nums w x.av x.ns
def CapOk(v:Value):Prop:=∀p n c,v= .slice p n c->n<=c
def tagB(tag:ByteArray)(x:ItemV):Bool:=decide (tag=⟨#[]⟩)||decide (x.tag=tag)
def foundV(at_:List Int)(x:ItemV):FoundV:=(x.name,farW x.ns at_)
def foundL(l:List ItemV)(at_:List Int)(tag:ByteArray):List FoundV:=(l.filter (tagB tag)).map (foundV at_)
def sortF(l:List FoundV):List FoundV:=l.mergeSort λx y=> !(ltOf cmpF) y x
def topV(l:List ItemV)(at_:List Int)(k:Int)(tag:ByteArray):List FoundV:=(sortF (foundL l at_ tag)).take k.toNat
end Go.Cof
namespace Go.Proofs.YtnmhgehpddipdaaGreatDoor
open Go.RowKit Go.Cof Go.Sort Go.Shelf
theorem encF_len(x:FoundV):(encF x).length=2:=rfl
theorem encF_one(x:FoundV):∀v∈encF x,v.oneCell'=true:=by
 intro v hv
 simp only[encF,List.mem_cons,List.not_mem_nil,or_false]at hv
 rcases hv with rfl|rfl<;>rfl
theorem flatF_one(l:List FoundV):∀v∈l.flatMap encF,v.oneCell'=true:=by
 intro v hv
 obtain⟨x,_,hx⟩:=List.mem_flatMap.1 hv
 exact encF_one x v hx
set_option maxRecDepth 100000 in
theorem sortFound_any(g cap:Nat)(l:List FoundV)(base:Nat)(w:World)(h:OwnsN w base 55 2 (.slice (some ⟨g,0,none⟩) l.length cap) l.length (l.flatMap encF))(hl:l.length<=1000000):
  Calls Tryz.prog 97 #[.slice (some ⟨g,0,none⟩) l.length cap,.func (.func 98) #[] #[]] w λe w'=>e= .returned (.tuple #[])∧RowsK w' (.slice (some ⟨g,0,none⟩) l.length cap) 2 encF (sortF l)∧Keep (OneB g) w w':=by
 have hH:=HoldsK.ofN encF_len h
 have hg:g<w.heap.size:=by
  obtain⟨_,h⟩:=h
  rcases h with⟨h,_⟩|⟨g',cap',cur,fz,hv,hb,hg,_⟩
  ·cases h
  ·cases hv
   exact lt_of_heap hg
 have eg:∀args w,(callFunc 98 args).run Tryz.prog w= .ok (.enter 98 args) w:=enters_of Tryz.func98 (by kernel_rfl) rfl
 have hcmp:CmpLays Tryz.prog 98 #[] encF 2 cmpF g 0 l.toArray.size w:=λm os dk hdk x y=>(compare_any x y _).mono λe w' h=>⟨h.1,h.2⟩
 have hcon:=AnyQ.slices_SortFunc_total Tryz.sortFound 2 Tryz.isAgg55 Tryz.sizeOf55 encF encF_len encF_one cmpF swo_cmpF 98 #[] g 0 cap l.toArray w eg hcmp hH hg (by simp;omega) total_cmpF
 change Calls Tryz.prog 97 _ _ _ at hcon
 have hs:l.toArray.size=l.length:=by simp
 rw[hs]at hcon
 refine hcon.mono ?_
 rintro e w' ⟨he,n,os,rfl⟩
 have hd:((l.toArray.toList.mergeSort λx y=> !(ltOf cmpF) y x).toArray).size=l.toArray.size:=by simp
 obtain⟨h1,h2⟩:=sorted_rows (n:=n) (cap:=cap) (os:=os) encF_len hH hg hd
 refine⟨he,?_,h2⟩
 have e1:((l.toArray.toList.mergeSort λx y=> !(ltOf cmpF) y x).toArray).toList=sortF l:=by simp[sortF]
 rw[e1]at h1
 have e2:(sortF l).length=l.length:=by simp[sortF]
 rw[e2]at h1
 have e3:(l.toArray.toList.mergeSort λx y=> !(ltOf cmpF) y x).toArray=(sortF l).toArray:=by simp[sortF]
 exact h1
theorem sortF_nil:sortF []= []:=by simp[sortF]
theorem sortOwn_any(v:Value)(l:List FoundV)(base:Nat)(w:World)(h:OwnsN w base 55 2 v l.length (l.flatMap encF))(hl:l.length<=1000000):
  Calls Tryz.prog 97 #[v,.func (.func 98) #[] #[]] w λe w'=>e= .returned (.tuple #[])∧RowsK w' v 2 encF (sortF l)∧Keep (λb=>base<=b) w w':=by
 have h0:=h
 obtain⟨hlen,h⟩:=h
 rcases h with⟨rfl,hn⟩|⟨g,cap,cur,fz,rfl,hb,hg,_⟩
 ·have hn':l= []:=List.eq_nil_of_length_eq_zero hn
  subst hn'
  have hcon:=AnyF.slices_SortFunc_none { Tryz.sortFound with } none 0 (.func (.func 98) #[] #[]) w
  change Calls Tryz.prog 97 _ _ _ at hcon
  refine hcon.mono ?_
  rintro e w' ⟨he,rfl⟩
  exact⟨he,.inl ⟨sortF_nil,_,_,rfl⟩,Keep.refl _ _⟩
 ·refine(sortFound_any g cap l base w h0 hl).mono ?_
  rintro e w' ⟨he,hr,hk⟩
  exact⟨he,hr,hk.mono λi _ hi=>by rw[show i=g from hi];exact hb⟩
theorem info_found:(Tryz.prog.info? 55).map (λi=>(i.zero,i.size,i.bytes))=some (some (.agg #[.string ⟨#[]⟩,.int .i64 0]),2,24):=by kernel_rfl
theorem found_info:∃i,Tryz.prog.info? 55=some i∧i.zero=some (.agg #[.string ⟨#[]⟩,.int .i64 0])∧i.size=2∧i.bytes=24:=by
 have h:=info_found
 cases hi:Tryz.prog.info? 55 with
 | none=>rw[hi]at h;cases h
 | some i=>
  rw[hi]at h
  simp only[Option.map_some,Option.some.injEq,Prod.mk.injEq]at h
  exact⟨i,rfl,h.1,h.2.1,h.2.2⟩
theorem foundL_succ(l:List ItemV)(at_:List Int)(tag:ByteArray)(j:Nat)(x:ItemV)(hx:l[j]? =some x):foundL (l.take (j+1)) at_ tag=foundL (l.take j) at_ tag++(if tagB tag x then [foundV at_ x]else []):=by
 have hj:=(List.getElem?_eq_some_iff.1 hx).1
 have e:l.take (j+1)=l.take j++ [x]:=by
  rw[List.take_succ_eq_append_getElem hj,(List.getElem?_eq_some_iff.1 hx).2]
 rw[foundL,e,List.filter_append,List.map_append]
 congr 1
 by_cases h:tagB tag x=true
 ·simp[h]
 ·simp[h]
theorem foundL_len(l:List ItemV)(at_:List Int)(tag:ByteArray):(foundL l at_ tag).length<=l.length:=by
 rw[foundL,List.length_map]
 exact List.length_filter_le _ _
set_option maxRecDepth 100000 in
set_option maxHeartbeats 8000000 in
theorem top_yes(dim:Int)(v:Value)(l:List ItemV)(va:Value)(at_:List Int)(k:Int)(tag:ByteArray)(w:World)(I:Items w v l)(N:Nums w va at_)(hl:l.length<=1000)(ha:at_.length<=1000000)(hns:∀x∈l,x.ns.length<=1000000)(hn:askB dim at_ k=true):
  Calls Tryz.prog 96 #[.int .i64 dim,v,va,.int .i64 k,.string tag] w λe w'=>∃v',e= .returned (.tuple #[v',.nilIface])∧RowsK w' v' 2 encF (topV l at_ k tag)∧((∀b,v'.ownBlock=some b->w.heap.size<=b)∧CapOk v')∧Keep NoB w w':=by
 have h:=ask_any dim va at_ k w N ha
 rw[hn]at h
 obtain⟨p,c,rfl⟩:=I.rows.len
 obtain⟨n,hn2⟩:∃n,n=l.length:=⟨_,rfl⟩
 rw[<-hn2]at I hl
 rw[<-hn2]
 have Hn:=Lib.hid hn2
 have Hask:=Lib.hid hn
 obtain⟨i0,hi0,hz0,hs0,hb0⟩:=found_info
 clear hn2 hn
 go_enter Tryz.func96,Tryz.ntmps96
 go_wp2_with fail
 refine h.mono ?_
 rintro e w' ⟨rfl,hw⟩
 subst w'
 clear h
 go_wp2_with fail
 go_loopw [12,23] (λov i wr=>∃(j:Nat) (o:Value),j<=n∧i= .int .i64 j∧o=ov∧Hid (OwnsN wr w.heap.size 55 2 o (foundL (l.take j) at_ tag).length ((foundL (l.take j) at_ tag).flatMap encF))∧Keep NoB w wr) (λ_ i _=>n-(intOf i).toNat)
 case atStart=>exact⟨0,_,by omega,rfl,rfl,Lib.hid (OwnsN.nil _ _ _ _),Keep.refl _ _⟩
 case round=>
  obtain⟨j,o,hj,rfl,rfl,O,K⟩:=hrel
  by_cases hlt:j<n
  ·have j1:(j:Int)<n:=by omega
   have Ir:=I.rows.keep K (λ_ _ x=>x)
   obtain⟨b,off,rfl,-,hb,hcell⟩:=Ir.at (by have:=Hn.out;omega)
   obtain⟨x,hx⟩:∃x,l[j]? =some x:=⟨_,List.getElem?_eq_getElem (by have:=Hn.out;omega)⟩
   have hra:=hcell j x hx
   have hxm:x∈l:=List.mem_of_getElem? hx
   have Nx:=(I.nums x hxm).keep K (λ_ _ x=>x)
   have Na:=N.keep K (λ_ _ x=>x)
   have hxl:=hns x hxm
   have hsu:=foundL_succ l at_ tag j x hx
   have Hsu:=Lib.hid hsu
   obtain⟨nm,tg,av,ns⟩:=x
   simp only at Nx hxl
   have c0:wr.cell? ⟨b,off+j*3,none⟩=some (.string nm):=hra 0 _ rfl
   have c1:wr.cell? ⟨b,off+j*3+1,none⟩=some (.string tg):=hra 1 _ rfl
   have c2:wr.cell? ⟨b,off+j*3+2,none⟩=some av:=hra 2 _ rfl
   clear hcell hsu hx hxm hra
   obtain⟨pa,ca,rfl⟩:=Nx.len
   have hfar:=λq=>far_any _ va ns at_ (((wr.alloc (.cells #[.string nm,.string tg,.slice pa ns.length ca] 47))).drewN q) (Nx.keep ((Keep.refl NoB wr).alloc _|>.drewN q) (λ_ _ x=>x)) (Na.keep ((Keep.refl NoB wr).alloc _|>.drewN q) (λ_ _ x=>x)) hxl ha
   obtain⟨nl,hnl⟩:∃m,m=ns.length:=⟨_,rfl⟩
   obtain⟨fv,hfv⟩:∃f,f=foundV at_ ⟨nm,tg,.slice pa ns.length ca,ns⟩:=⟨_,rfl⟩
   have hfv2:fv.2=farW ns at_:=by rw[hfv];rfl
   have hfv1:fv.1=nm:=by rw[hfv];rfl
   rw[<-hfv]at Hsu
   rw[<-hnl]at c2 hfar Hsu
   obtain⟨fn,fd⟩:=fv
   simp only at hfv1 hfv2
   subst fn
   rw[<-hfv2]at hfar
   have Hfar:=Lib.hid hfar
   clear hfar hnl hfv hfv2 Nx Na hxl
   by_cases hT:tagB tag ⟨nm,tg,.slice pa nl ca,ns⟩=true
   ·rw[hT,if_pos rfl]at Hsu
    have hcase:tag.toList.isEmpty=true∨(tag.toList.isEmpty=false∧(@BEq.beq (List UInt8) (@List.instBEq UInt8 instBEqOfDecidableEq) tg.toList tag.toList)=true):=by
     cases he:tag.toList.isEmpty with
     | true=>exact .inl rfl
     | false=>
      refine .inr ⟨rfl,?_⟩
      simp only[tagB,Bool.or_eq_true,decide_eq_true_eq]at hT
      rcases hT with h|h
      ·rw[h,ByteArray.toList_eq]at he;cases he
      ·rw[h];exact beq_self_eq_true _
    clear hT
    rcases hcase with ht1|⟨ht1,ht2⟩
    all_goals
     go_wp2_with fail
     refine wp_region_pqt_drew 8 [0,1,3,5] (by kernel_rfl) (by kernel_rfl) (λc a d v w h=>by cases d<;>exact h) ?_
     rw[show restOf 8 [0,1,3,5]= [2,4,6,7]from rfl]
     simp only[pickL,List.getElem?_toArray,List.getElem?_cons_succ,List.getElem?_cons_zero,List.drop_succ_cons,List.drop_zero]
     iterate 4 ((with_reducible refine wpEarly_step (λK hK=> ?_));go_simp;refine hK _ ?_;clear hK K)
     with_reducible refine wpEarly_nil ?_
     iterate 4 ((with_reducible refine wpQuiet_step (λK hK=> ?_));go_simp;first|(refine hK _ ?_;clear hK K)|(apply Exists.intro;refine⟨λ_=> ?_,hK _ ?_⟩;(go_at_call 166;exact Calls.quiet_of (Hfar.out _));clear hK K))
     refine wpQuiet_nil ?_
     intro m
     have hW1:OwnsN ((wr.alloc (.cells #[.string nm,.string tg,.slice pa nl ca] 47)).drewN m) w.heap.size 55 2 o _ _:=(O.out.alloc _).drewN m
     have hK1:Keep NoB w ((wr.alloc (.cells #[.string nm,.string tg,.slice pa nl ca] 47)).drewN m):=(K.alloc _).drewN m
     refine wl_world (λw1=>OwnsN w1 w.heap.size 55 2 o (foundL (l.take j) at_ tag).length ((foundL (l.take j) at_ tag).flatMap encF)∧Keep NoB w w1) ⟨hW1,hK1⟩ ?_
     rintro w1 ⟨hO1,hK⟩
     clear hW1 hK1
     have hfl:=foundL_len (l.take j) at_ tag
     rw[List.length_take]at hfl
     go_wp2_with (at_builtin;refine wpList_append_n _ rfl _ _ 50 rfl w.heap.size 55 i0 _ 2 24 Tryz.underlying50 hi0 hz0 hs0 hb0 rfl (by decide) o _ _ rfl (hO1.alloc _) ⟨w1.heap.size,0,none⟩ 1 1 [.string nm,.int .i64 fd] rfl rfl (cells_new _ _ _) (encF_one (nm,fd)) (by unfold maxLen;omega) (by omega) (by have:=hK.size;simp;omega) ?_;intro v' w' own' hgrow)
     have hK5:Keep NoB w w':=((hK.alloc (.cells #[.string nm,.int .i64 fd] 55)).grown hgrow (λk hk=> .inr (hO1.lt k hk).1))
     refine⟨⟨j+1,_,by omega,by go_num,rfl,Lib.hid ?_,hK5⟩,by simp[intOf];omega⟩
     rw[Hsu.out,List.length_append,List.flatMap_append]
     exact own'
   ·have hT':tagB tag ⟨nm,tg,.slice pa nl ca,ns⟩=false:=by simpa using hT
    rw[if_neg hT,List.append_nil]at Hsu
    have ht1:tag.toList.isEmpty=false:=by
     cases he:tag.toList.isEmpty with
     | false=>rfl
     | true=>
      exfalso
      refine hT ?_
      have:tag=⟨#[]⟩:=toList_inj (by rw[List.isEmpty_iff.1 he,ByteArray.toList_eq])
      simp[tagB,this]
    have ht2:(@BEq.beq (List UInt8) (@List.instBEq UInt8 instBEqOfDecidableEq) tg.toList tag.toList)=false:=by
     rw[beq_eq_false_iff_ne]
     intro h
     refine hT ?_
     simp[tagB,toList_inj h]
    clear hT hT'
    go_wp2_with fail
    refine⟨⟨j+1,_,by omega,by go_num,rfl,Lib.hid ?_,K.alloc _⟩,by simp[intOf];omega⟩
    rw[Hsu.out]
    exact O.out.alloc _
  ·obtain rfl:j=n:=by omega
   have hO:=O.out
   have hN:List.take j l=l:=List.take_of_length_le (by rw[<-Hn.out];exact Nat.le_refl _)
   rw[hN]at hO
   obtain⟨F,hF⟩:∃F,F=foundL l at_ tag:=⟨_,rfl⟩
   have hFl:F.length<=1000:=by have:=foundL_len l at_ tag;rw[hF];have:=Hn.out;omega
   have htop:topV l at_ k tag=(sortF F).take k.toNat:=by rw[topV,hF]
   have Htop:=Lib.hid htop
   rw[<-hF]at hO
   have hk1:1<=k∧k<=60:=by
    have:=Hask.out
    simp only[askB,Bool.and_eq_true,decide_eq_true_eq]at this
    exact⟨this.1.2,this.2⟩
   obtain⟨po,co,rfl⟩:∃p c,o= .slice p F.length c:=(RowsK.ofN encF_len hO).len
   have hso:=sortOwn_any _ F w.heap.size wr hO (by omega)
   obtain⟨m,hm⟩:∃m,m=F.length:=⟨_,rfl⟩
   have hsl:(sortF F).length=m:=by rw[hm];simp[sortF]
   rw[<-hm]at hso hFl hO
   rw[<-hm]
   have hcap:m<=co:=by
    obtain⟨_,h⟩:=hO
    rcases h with⟨h,hn⟩|⟨g',cap',cur,fz,hv,_,_,_,hc,_⟩
    ·cases h;omega
    ·cases hv;exact hc
   have hob:∀b,(Value.slice po m co).ownBlock=some b->w.heap.size<=b:=λb hb=>(hO.lt b hb).1
   have Hso:=Lib.hid hso
   have Hsl:=Lib.hid hsl
   clear hso hsl hm htop hF hO hN O Hask
   have he:topV l at_ k tag=(sortF F).take (min k (m:Int)).toNat:=by
    rw[Htop.out]
    by_cases hmk:(m:Int)<k
    ·rw[List.take_of_length_le (by rw[Hsl.out];omega),List.take_of_length_le (by rw[Hsl.out];omega)]
    ·rw[show(min k (m:Int)).toNat=k.toNat by omega]
   have He:=Lib.hid he
   clear he
   go_wp2_with fail
   refine Hso.out.mono ?_
   rintro e w' ⟨rfl,hr,hK⟩
   go_wp2_with fail
   go_ret2
   refine⟨.slice po (min k (m:Int)).toNat co,rfl,?_,⟨λb hb=>hob b (by cases po<;>exact hb),λp n c h=>by cases h;omega⟩,K.trans hK (λi hi hs=>absurd hi (Nat.not_lt.2 hs))⟩
   rw[He.out]
   exact hr.take _ (by rw[Hsl.out];omega) co
end Go.Proofs.YtnmhgehpddipdaaGreatDoor
namespace Go.Cof
open Go.RowKit Go.Sort Go.Shelf
open Go.Proofs (ltOf)
theorem leF_trans(a b c:FoundV)(h1:(!(ltOf cmpF) b a)=true)(h2:(!(ltOf cmpF) c b)=true):(!(ltOf cmpF) c a)=true:=by
 rw[Bool.not_eq_true']at h1 h2⊢
 exact swo_cmpF.ntrans c b a h2 h1
theorem leF_total(a b:FoundV):((!(ltOf cmpF) b a)||(!(ltOf cmpF) a b))=true:=by
 cases h:ltOf cmpF b a with
 | false=>rfl
 | true=>
  have:ltOf cmpF a b=false:=by
   cases h2:ltOf cmpF a b with
   | false=>rfl
   | true=>
    have:=swo_cmpF.trans a b a h2 h
    rw[swo_cmpF.irrefl]at this
    cases this
  rw[this];rfl
theorem sortF_perm_self(l:List FoundV):(sortF l).Perm l:=List.mergeSort_perm _ _
theorem sortF_pair(l:List FoundV):List.Pairwise (λa b=>(!(ltOf cmpF) b a)=true) (sortF l):=List.pairwise_mergeSort leF_trans leF_total l
theorem sortF_perm{l l':List FoundV}(h:l.Perm l'):sortF l=sortF l':=by
 refine List.Perm.eq_of_pairwise ?_ (sortF_pair l) (sortF_pair l') (((sortF_perm_self l).trans h).trans (sortF_perm_self l').symm)
 intro a b _ _ h1 h2
 rw[Bool.not_eq_true']at h1 h2
 exact total_cmpF a b h2 h1
theorem sortF_len(l:List FoundV):(sortF l).length=l.length:=(sortF_perm_self l).length_eq
theorem foundL_perm{l l':List ItemV}(h:l.Perm l')(at_:List Int)(tag:ByteArray):(foundL l at_ tag).Perm (foundL l' at_ tag):=(h.filter _).map _
theorem topV_perm{l l':List ItemV}(h:l.Perm l')(at_:List Int)(k:Int)(tag:ByteArray):topV l at_ k tag=topV l' at_ k tag:=by rw[topV,topV,sortF_perm (foundL_perm h at_ tag)]
end Go.Cof
namespace Go.Cof
open Go.RowKit Go.Sort Go.Shelf
open Go.Proofs (sortWorldK)
section
variable {α:Type}{enc:α->List Value}{k:Nat}{w:World}
theorem own_sorted [Inhabited α]{base:Nat}{e:TypeId}{g cap n m:Nat}{xs:List Value}{d':Array α}{os:Array Obj}(hk:∀x,(enc x).length=k)(h:OwnsN w base e k (.slice (some ⟨g,0,none⟩) n cap) n xs)(hs:d'.size=n):
  OwnsN (sortWorldK enc k w g 0 m d' os) base e k (.slice (some ⟨g,0,none⟩) n cap) n (d'.toList.flatMap enc):=by
 obtain⟨hlen,h⟩:=h
 refine⟨by rw[flat_len hk];simp[hs],?_⟩
 rcases h with⟨h,_⟩|⟨g',cap',cur,fz,hv,hb,hg,hcl,hn,hm,hsz,ht⟩
 ·cases h
 ·cases hv
  have hgl:=lt_of_heap hg
  refine .inr ⟨g,cap,putCells id 0 (flatK enc k d') cur,fz,rfl,hb,?_,?_,hn,hm,?_,?_⟩
  ·show(Sort.grow (putRowK enc k (Sort.ahead w m) g 0 d') os).heap[g]? =_
   rw[heap_grow_old _ _ (by show g<(w.heap.modify g _).size;rw[Array.size_modify];exact hgl)]
   show(w.heap.modify g (onCells _))[g]? =_
   rw[Array.getElem?_modify,if_pos rfl,hg]
   rfl
  ·intro i hi
   exact hcl i (by simpa [putCells]using hi)
  ·simpa [putCells]using hsz
  ·apply List.ext_getElem?
   intro t
   have hcs:n*k<=cur.size:=by rw[hsz];exact Nat.mul_le_mul_right k hn
   by_cases htt:t<n*k
   ·have hk0:0<k:=by rcases Nat.eq_zero_or_pos k with h|h;(subst h;simp at htt);exact h
    have hi:t/k<d'.size:=by rw[hs];exact Nat.div_lt_of_lt_mul (by rwa [Nat.mul_comm]at htt)
    have hj:t % k<k:=Nat.mod_lt _ hk0
    have hsum:t/k*k+t % k=t:=by rw[Nat.mul_comm];exact Nat.div_add_mod t k
    have h2:=flat_get hk d'.toList (t/k) (t % k) hj
    rw[hsum]at h2
    rw[List.getElem?_take,if_pos htt,h2,Array.getElem?_toList,putCells,Array.getElem?_mapIdx,Array.getElem?_eq_getElem (by omega),Option.map_some,if_pos ⟨Nat.zero_le _,by rw[size_flatK,hs];omega⟩,Nat.sub_zero,get_flatK enc k d' t (by rw[hs];exact htt),Array.getElem?_toList,Array.getElem?_eq_getElem hi,Option.bind_some]
    have h3:d'[t/k]! =d'[t/k]:=by rw[getElem!_pos d' _ hi]
    rw[h3,List.getElem?_eq_getElem (by rw[hk];exact hj)]
    show some ((enc d'[t/k])[t % k]!)=_
    rw[List.getElem!_eq_getElem?_getD,List.getElem?_eq_getElem (by rw[hk];exact hj)]
    rfl
   ·rw[List.getElem?_take,if_neg htt,List.getElem?_eq_none (by rw[flat_len hk];simp[hs];omega)]
theorem sorted_keep [Inhabited α]{g m:Nat}{d':Array α}{os:Array Obj}(hg:g<w.heap.size):Keep (OneB g) w (sortWorldK enc k w g 0 m d' os):=by
 have hsz:(putRowK enc k (Sort.ahead w m) g 0 d').heap.size=w.heap.size:=size_putRow _ _ _ _ _
 refine⟨rfl,rfl,rfl,?_,λb hb hn=> ?_⟩
 ·show w.heap.size<=(Sort.grow (putRowK enc k (Sort.ahead w m) g 0 d') os).heap.size
  rw[size_grow,hsz];omega
 ·show(Sort.grow (putRowK enc k (Sort.ahead w m) g 0 d') os).heap[b]? =w.heap[b]?
  rw[heap_grow_old _ _ (by rw[hsz];exact hb)]
  show(w.heap.modify g _)[b]? =_
  rw[Array.getElem?_modify]
  rw[if_neg (λe=>hn e.symm)]
theorem OwnsN.take{base:Nat}{e:TypeId}{g n cap:Nat}{xs:List Value}(h:OwnsN w base e k (.slice (Option.some ⟨g,0,none⟩) n cap) n xs)(m:Nat)(hm:m<=n):OwnsN w base e k (.slice (Option.some ⟨g,0,none⟩) m cap) m (xs.take (m*k)):=by
 obtain⟨hlen,h⟩:=h
 refine⟨by rw[List.length_take,hlen];exact Nat.min_eq_left (Nat.mul_le_mul_right k hm),?_⟩
 rcases h with⟨h,_⟩|⟨g',cap',cur,fz,hv,hb,hg,hcl,hn,hmx,hsz,ht⟩
 ·cases h
 ·cases hv
  refine .inr ⟨g,cap,cur,fz,rfl,hb,hg,hcl,Nat.le_trans hm hn,hmx,hsz,?_⟩
  rw[<-ht,List.take_take,Nat.min_eq_left (Nat.mul_le_mul_right k hm)]
theorem flat_take(hk:∀x,(enc x).length=k):∀(l:List α) (m:Nat),(l.flatMap enc).take (m*k)=(l.take m).flatMap enc
 | [],m=>by simp
 | x::l,0=>by simp
 | x::l,m+1=>by
  rw[List.flatMap_cons,List.take_succ_cons,List.flatMap_cons,Nat.succ_mul,Nat.add_comm,<-hk x,List.take_length_add_append,hk x,flat_take hk l m]
theorem run_append_nils{P:Program}{t ty e:TypeId}{i:TypeInfo}(ht:P.underlying t=some (.slice e))(hi:P.info? e=some i)(p:Option Addr)(c:Nat):
  (Builtin.append_ #[t,t] ty #[.slice none 0 0,.slice p 0 c]).run P w= .ok (.slice none 0 0) w:=by
 cases p with
 | none=>simp[Builtin.append_,run_underlying ht,sizeOf,typeInfo,hi,Builtin.lenOf,Addr.add_lit,storeCells,Builtin.firstCells]
 | some q=>
  have hld:(loadCells q 0).run P w= .ok #[] w:=by simp[loadCells,loadCellsFrom]
  simp[Builtin.append_,run_underlying ht,sizeOf,typeInfo,hi,Builtin.lenOf,Addr.add_lit,Builtin.firstCells,hld,storeCells]
theorem run_append_zeros{P:Program}{t ty e:TypeId}{i:TypeInfo}(ht:P.underlying t=some (.slice e))(hi:P.info? e=some i)(g n cap:Nat)(hn:n<=cap)(p:Option Addr)(c:Nat):
  (Builtin.append_ #[t,t] ty #[.slice (some ⟨g,0,none⟩) n cap,.slice p 0 c]).run P w= .ok (.slice (some ⟨g,0,none⟩) n cap) w:=by
 cases p with
 | none=>simp[Builtin.append_,run_underlying ht,sizeOf,typeInfo,hi,Builtin.lenOf,hn,Addr.add_lit,storeCells,Builtin.firstCells]
 | some q=>
  have hld:(loadCells q 0).run P w= .ok #[] w:=by simp[loadCells,loadCellsFrom]
  simp[Builtin.append_,run_underlying ht,sizeOf,typeInfo,hi,Builtin.lenOf,hn,Addr.add_lit,Builtin.firstCells,hld,storeCells]
theorem wpList_append_rows{P:Program}{ops:Array Oper}{rest:List Oper}{o:Oper}{a:Act}{Q:Exit->Act->World->Prop}(hgd:o.guard=none)(s x:Operand)(t:TypeId)
  (ho:o.op= .call { callee:= .builtin .append,args:= #[s,x],argTypes:= #[t,t] })
  (base:Nat) (e:TypeId) (i:TypeInfo) (z:Value) (bytes:Nat) (ht:P.underlying t=some (.slice e)) (hi:P.info? e=some i) (hz:i.zero=some z)
  (hsize:i.size=k) (hby:i.bytes=bytes) (hzs:z.cells.size=k) (hsz:0<k) (hk:∀x,(enc x).length=k) (v:Value) (n:Nat) (xs:List Value) (hs:a.eval s=v) (hown:OwnsN w base e k v n xs)
  (u:Value) (l:List α) (hx:a.eval x=u) (R:RowsK w u k enc l) (h1:∀u∈l.flatMap enc,u.oneCell'=true)
  (h63:n+l.length<=maxLen) (hbytes:(n+l.length)*bytes<=140737488355328) (hbase:base<=w.heap.size)
  (h:∀v' w',OwnsN w' base e k v' (n+l.length) (xs++l.flatMap enc)->Keep (λb=>base<=b) w w'->wpList P ops Q rest (a.put o.dst v') w'):wpList P ops Q (o::rest) a w:=by
 by_cases h0:l.length=0
 ·obtain rfl:l= []:=List.eq_nil_of_length_eq_zero h0
  obtain⟨p,c,rfl⟩:=R.len
  rw[List.length_nil]at hx
  refine wpList_plain hgd λK hK=> ?_
  unfold Oper.wp execOp
  have hr:(Builtin.append_ #[t,t] o.type #[v,.slice p 0 c]).run P w= .ok v w:=by
   rcases hown.2 with⟨hv,_⟩|⟨g2,cap2,cur,fz,hv,_,_,_,hc,_⟩
   ·rw[hv];exact run_append_nils ht hi p c
   ·rw[hv];exact run_append_zeros ht hi g2 n cap2 hc p c
  simp only[ho,resolve,invoke,builtin,Sem.run_bind,Sem.run_pure,Result.andThen_ok,List.map_toArray,List.map_cons,List.map_nil,hs,hx,hr]
  refine hK _ _ ?_
  exact h v w (by rw[List.flatMap_nil,List.append_nil,List.length_nil,Nat.add_zero];exact hown) (Keep.refl _ _)
 ·obtain⟨p,c,rfl⟩:=R.len
  obtain⟨b,off,rfl,_,_,hc⟩:=R.at (by omega)
  refine wpList_append_n (w:=w) hgd s x t ho base e i z k bytes ht hi hz hsize hby hzs hsz v n xs hs hown ⟨b,off,none⟩ l.length c (l.flatMap enc) hx (flat_len hk l) (λj u hu=> ?_) h1 h63 hbytes hbase ?_
  ·have hj:j<l.length*k:=by have:=(List.getElem?_eq_some_iff.1 hu).1;rwa [flat_len hk]at this
   have hjk:j % k<k:=Nat.mod_lt _ hsz
   have hsum:j/k*k+j % k=j:=by rw[Nat.mul_comm];exact Nat.div_add_mod j k
   have h2:=flat_get hk l (j/k) (j % k) hjk
   rw[hsum,hu]at h2
   cases hy:l[j/k]? with
   | none=>rw[hy]at h2;cases h2
   | some y=>
    rw[hy]at h2
    have:=hc (j/k) y hy (j % k) u h2.symm
    rw[show(⟨b,off,none⟩:Addr).add j=⟨b,off+j,none⟩by unfold Addr.add;split<;>simp_all]
    rwa [Nat.add_assoc,hsum]at this
  ·intro v' w' own hg
   exact h v' w' own ((Keep.refl _ _).grown hg (λb hb=> .inl (hown.lt b hb).1))
end
end Go.Cof
namespace Go.Proofs.YtnmhgehpddipdaaGreatDoor
open Go.RowKit Go.Cof Go.Sort Go.Shelf
theorem sortFoundN_any(v:Value)(l:List FoundV)(base:Nat)(w:World)(h:OwnsN w base 55 2 v l.length (l.flatMap encF))(hl:l.length<=1000000):
  Calls Tryz.prog 97 #[v,.func (.func 98) #[] #[]] w λe w'=>e= .returned (.tuple #[])∧OwnsN w' base 55 2 v l.length ((sortF l).flatMap encF)∧Keep (λb=>base<=b) w w':=by
 have h0:=h
 obtain⟨hlen,h⟩:=h
 rcases h with⟨rfl,hn⟩|⟨g,cap,cur,fz,rfl,hb,hg,_⟩
 ·have hn':l= []:=List.eq_nil_of_length_eq_zero hn
  subst hn'
  have hcon:=AnyF.slices_SortFunc_none { Tryz.sortFound with } none 0 (.func (.func 98) #[] #[]) w
  change Calls Tryz.prog 97 _ _ _ at hcon
  refine hcon.mono ?_
  rintro e w' ⟨he,rfl⟩
  exact⟨he,by rw[sortF_nil];exact h0,Keep.refl _ _⟩
 ·have hH:=HoldsK.ofN encF_len h0
  have hgl:=lt_of_heap hg
  have eg:∀args w,(callFunc 98 args).run Tryz.prog w= .ok (.enter 98 args) w:=enters_of Tryz.func98 (by kernel_rfl) rfl
  have hcmp:CmpLays Tryz.prog 98 #[] encF 2 cmpF g 0 l.toArray.size w:=λm os dk hdk x y=>(compare_any x y _).mono λe w' h=>⟨h.1,h.2⟩
  have hcon:=AnyQ.slices_SortFunc_total Tryz.sortFound 2 Tryz.isAgg55 Tryz.sizeOf55 encF encF_len encF_one cmpF swo_cmpF 98 #[] g 0 cap l.toArray w eg hcmp hH hgl (by simp;omega) total_cmpF
  change Calls Tryz.prog 97 _ _ _ at hcon
  have hs:l.toArray.size=l.length:=by simp
  rw[hs]at hcon
  refine hcon.mono ?_
  rintro e w' ⟨he,n,os,rfl⟩
  have hd:((l.toArray.toList.mergeSort λx y=> !(ltOf cmpF) y x).toArray).size=l.length:=by simp
  have h1:=own_sorted (m:=n) (os:=os) encF_len h0 hd
  have h2:=sorted_keep (enc:=encF) (k:=2) (m:=n) (os:=os) (d':=(l.toArray.toList.mergeSort λx y=> !(ltOf cmpF) y x).toArray) hgl
  refine⟨he,?_,h2.mono λi _ hi=>by rw[show i=g from hi];exact hb⟩
  have e1:((l.toArray.toList.mergeSort λx y=> !(ltOf cmpF) y x).toArray).toList=sortF l:=by simp[sortF]
  rw[e1]at h1
  exact h1
end Go.Proofs.YtnmhgehpddipdaaGreatDoor
