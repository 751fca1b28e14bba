import Derived.Test.YtnmhgehpddipdaaGreatDoorYAE
import Derived.Test.YtnmhgehpddipdaaGreatDoorYAO
import Derived.Test.YtnmhgehpddipdaaGreatDoorYBA
import Derived.Test.YtnmhgehpddipdaaGreatDoorYBJ
import Derived.Deep.CutBlock
import Derived.Deep.DeepCutAuto
import Derived.Lib.TrimByte
set_option linter.unusedSimpArgs false
set_option linter.unusedVariables false
namespace Go.Proofs.YtnmhgehpddipdaaGreatDoor
open Go.RowKit Go.Cof
def sidesAt(s:ByteArray)(t:Nat):List Bool:=(List.range 32).map λi=>decide (i<t)&&decide ((bs s).getD (18+i) 0=49)
theorem sidesAt_len(s:ByteArray)(t:Nat):(sidesAt s t).length=32:=by simp[sidesAt]
theorem sidesAt_zero(s:ByteArray):sidesAt s 0=List.replicate 32 false:=by
 show(List.range 32).map (λi=>decide (i<0)&&decide ((bs s).getD (18+i) 0=49))=_
 simp only[Nat.not_lt_zero,decide_false,Bool.false_and]
 rfl
theorem sidesAt_all(s:ByteArray):sidesAt s 32=(List.range 32).map λi=>decide ((bs s).getD (18+i) 0=49):=by
 refine List.map_congr_left λi hi=> ?_
 rw[decide_eq_true (List.mem_range.1 hi),Bool.true_and]
theorem sidesAt_step(s:ByteArray)(t:Nat):(sidesAt s t).set t (decide ((bs s).getD (18+t) 0=49))=sidesAt s (t+1):=by
 refine List.ext_getElem (by simp[sidesAt]) λi h1 h2=> ?_
 rw[List.getElem_set]
 simp only[sidesAt,List.getElem_map,List.getElem_range]
 by_cases e:t=i
 ·subst e
  rw[if_pos rfl,decide_eq_true (Nat.lt_succ_self t),Bool.true_and]
 ·rw[if_neg e]
  have:decide (i<t)=decide (i<t+1):=by rw[decide_eq_decide];omega
  rw[this]
theorem supCells_set(a b:Int)(l:List Bool)(r:ByteArray)(t:Nat)(v:Bool)(ht:t<l.length):(supCells ⟨a,b,l,r⟩).toArray.setIfInBounds (2+t) (.bool v)=(supCells ⟨a,b,l.set t v,r⟩).toArray:=by
 rw[List.setIfInBounds_toArray]
 congr 1
 simp only[supCells]
 rw[List.set_append_left _ _ (by simp;omega),List.set_append_right _ _ (by simp),List.map_set]
 simp
theorem supCells_side(x:SupV)(t:Nat)(ht:t<x.sides.length):(supCells x).toArray[2+t]? =some (.bool (x.sides.getD t false)):=by
 rw[List.getElem?_toArray,supCells,List.append_assoc,List.getElem?_append_right (by simp),List.getElem?_append_left (by simp[ht])]
 simp[ht]
theorem supT_len(key:ByteArray)(x:SupV)(hx:x.sides.length=32)(ho:supMay key x=true):(supT key x).length=82:=by
 simp only[supMay,supOk,Bool.and_eq_true,decide_eq_true_eq]at ho
 have h5:x.root.size=16:=ho.2.2
 rw[supT,bodyT,headT,List.length_append,List.length_append,List.length_append,List.length_append,List.length_append,be64,be64To_len,be64,be64To_len,sideT,List.length_map,hx,bs_len,h5,Cof.mark,List.length_take,sha_len]
 rfl
theorem bodyT_bytes(x:SupV):Bytes (bodyT x):=by
 rw[bodyT,headT]
 refine bytes_append (bytes_append (bytes_append (bytes_append ?_ (be64_bytes _)) (be64_bytes _)) ?_) (bs_bytes _)
 ·intro x hx
  simp only[List.mem_cons,List.not_mem_nil,or_false]at hx
  rcases hx with rfl|rfl<;>decide
 ·intro y hy
  simp only[sideT,List.mem_map]at hy
  obtain⟨b,_,rfl⟩:=hy
  cases b<;>decide
theorem parseB_of(key s:ByteArray)(hm:supMay key (readSup s)=true)(hs:82<=s.size):parseB key s=decide (bs s=supT key (readSup s)++List.replicate (s.size-82) 0):=by
 have hl:=supT_len key (readSup s) (readSup_sides s) hm
 rw[parseB,hm,Bool.true_and,Bool.eq_iff_iff,Bool.and_eq_true,decide_eq_true_eq,decide_eq_true_eq,decide_eq_true_eq]
 constructor
 ·rintro⟨h1,h2⟩
  rw[<-h1,<-h2,List.take_append_drop]
 ·intro h
  have e1:=congrArg (List.take 82) h
  have e2:=congrArg (List.drop 82) h
  rw[List.take_left' hl]at e1
  rw[List.drop_left' hl]at e2
  exact⟨e1,e2⟩
theorem heap_setCell_row{w:World}{B i:Nat}{cs:Array Value}{t:TypeId}{fr:Nat×Nat}(h:w.heap[B]? =some (.cells cs t fr))(v:Value):(w.setCell ⟨B,i,none⟩ v).heap[B]? =some (.cells (cs.setIfInBounds i v) t fr):=by
 have hlt:=lt_of_heap h
 have h':w.heap[B]= .cells cs t fr:=by simpa [Array.getElem?_eq_getElem hlt]using h
 show(w.heap.modify B _)[B]? =_
 rw[Array.getElem?_eq_getElem (by simpa using hlt),Array.getElem_modify_self,h']
 rfl
theorem heap_setCell_other{w:World}{B C i:Nat}{o:Option Obj}(h:w.heap[C]? =o)(hn:C≠B)(v:Value):(w.setCell ⟨B,i,none⟩ v).heap[C]? =o:=(Below.heap_setCell w ⟨B,i,none⟩ v C hn).trans h
theorem run_storeCells_whole{P:Program}{w:World}{g:Nat}{t:TypeId}{cs cb:Array Value}(hg:w.heap[g]? =some (.cells cs t (0,0)))(hs:cs.size=cb.size)(h1:cb.all (·.oneCell')=true):
  (storeCells ⟨g,0,none⟩ cb.toList).run P w= .ok () (w.setRow g cb):=by
 have h:=run_storeCells_clear P g 0 t (0,0) cb.toList 0 cs w hg (Clear.zero _) (by simp;omega) (λv hv=>Array.all_eq_true_iff_forall_mem.1 h1 v (by simpa using hv))
 simp only[Nat.add_zero,List.take_zero,List.nil_append,Nat.zero_add,Array.length_toList]at h
 rw[h,List.drop_of_length_le (by simp;omega),List.append_nil]
set_option maxRecDepth 100000
end Go.Proofs.YtnmhgehpddipdaaGreatDoor
namespace Go.Cof
open Go.RowKit Go.Proofs.YtnmhgehpddipdaaGreatDoor
theorem numN_snoc(l:List Nat)(b:Nat):numN (l++ [b])=numN l*256+b:=by rw[numN,List.foldl_append];rfl
theorem numN_be64To(n:Nat)(h:n<18446744073709551616):∀k,k<=8->numN (be64To n k)=n/2^(8*(8-k))
 | 0,_=>by
  rw[be64To]
  show 0=_
  rw[Nat.div_eq_of_lt]
  exact h
 | k+1,hk=>by
  rw[be64To,numN_snoc,numN_be64To n h k (by omega)]
  have e:8*(8-k)=8*(7-k)+8:=by omega
  have e2:8*(8-(k+1))=8*(7-k):=by omega
  rw[e,e2,Nat.pow_add,<-Nat.div_div_eq_div_mul]
  generalize n/2^(8*(7-k))=q
  have:(2:Nat)^8=256:=rfl
  rw[this]
  omega
theorem numN_be64(n:Nat)(h:n<18446744073709551616):numN (be64 n)=n:=by
 rw[be64,numN_be64To n h 8 (Nat.le_refl _)]
 show n/2^0=n
 rw[Nat.pow_zero,Nat.div_one]
theorem u64n_int(n:Int)(h0:0<=n)(h1:n<9223372036854775808):u64n n=n.toNat:=by
 unfold u64n
 omega
theorem numI_small(n:Nat)(h:n<9223372036854775808):numI n=n:=by
 unfold numI wrap64
 omega
theorem openVer_be64(n:Int)(h0:0<=n)(h1:n<9223372036854775808)(r:List Nat):openVer (be64 (u64n n)++r)=n:=by
 rw[openVer,List.take_left' (show(be64 (u64n n)).length=8 from be64To_len _ 8),u64n_int n h0 h1,numN_be64 _ (by omega),numI_small _ (by omega)]
 omega
theorem be64_ne{n:Int}(h0:1<=n)(h1:n<9223372036854775808):be64 (u64n n)≠be64 0:=by
 intro e
 have:=congrArg numN e
 rw[u64n_int n (by omega) h1,numN_be64 _ (by omega),numN_be64 0 (by omega)]at this
 omega
theorem xor_xor'(key nonce s:List Nat):xor key nonce (xor key nonce s)=s:=by
 apply List.ext_getElem (by rw[xor_len,xor_len])
 intro i h1 h2
 have e:(xor key nonce (xor key nonce s)).getD i 0=s.getD i 0:=by
  rw[xor_getD _ _ _ _ (by rw[xor_len];exact h2),xor_getD _ _ _ _ h2,Nat.xor_assoc,Nat.xor_self,Nat.xor_zero]
 simpa [List.getD_eq_getElem?_getD,List.getElem?_eq_getElem h1,List.getElem?_eq_getElem h2]using e
theorem zeroB_bs:bs zeroB=List.replicate 256 0:=by
 rw[zeroB,bs_txt]
 intro x hx
 rw[(List.mem_replicate.1 hx).2];omega
theorem padB_bs(s:ByteArray)(h:s.size<=256):bs (padB s)=bs s++List.replicate (256-s.size) 0:=by
 rw[padB,bs_append,bs_extract,zeroB_bs,zeroB_size,List.drop_replicate,List.take_replicate,Nat.min_self]
theorem sealP_bytes(key:List Nat)(id ver:Int)(text:List Nat)(ht:Bytes text)(hl:text.length<=200):Bytes (sealP key id ver text):=by
 intro x hx
 rw[sealP,sealedP]at hx
 simp only[List.mem_append]at hx
 rcases hx with((hx|hx)|hx)|hx
 ·exact be64_bytes _ x hx
 ·exact nonceP_bytes _ _ _ _ x hx
 ·refine xor_bytes _ _ _ ?_ x hx
  intro y hy
  rw[bodyP]at hy
  simp only[List.mem_append,List.mem_singleton]at hy
  rcases hy with(hy|hy)|hy
  ·omega
  ·exact ht y hy
  ·rw[(List.mem_replicate.1 hy).2];omega
 ·exact tagP_bytes _ _ _ x hx
theorem sealV_bs(key:ByteArray)(id ver:Int)(text:ByteArray)(h:text.size<=200):bs (sealV key id ver text)=sealP (bs key) id ver (bs text):=
 bs_txt (sealP_bytes _ _ _ _ (bs_bytes _) (by rw[bs_len];exact h))
theorem sealed_split(key:ByteArray)(i ver:Int)(text:ByteArray)(ht:text.size<=200):∃z,bs (padB (sealV key i ver text))=be64 (u64n ver)++(nonceP (bs key) i ver (bs text)++(xor (bs key) (nonceP (bs key) i ver (bs text)) (bodyP (bs text))++(tagP (bs key) i (be64 (u64n ver)++nonceP (bs key) i ver (bs text)++xor (bs key) (nonceP (bs key) i ver (bs text)) (bodyP (bs text)))++z))):=by
 have hs:(sealV key i ver text).size<=256:=Nat.le_trans (Nat.le_of_eq (sealV_size key i ver text ht)) (by decide)
 have hb:=sealV_bs key i ver text ht
 obtain⟨T,hT⟩:∃T,T=sealV key i ver text:=⟨_,rfl⟩
 rw[<-hT]at hs hb⊢
 refine⟨List.replicate (256-T.size) 0,?_⟩
 rw[padB_bs T hs,hb,sealP,sealedP]
 simp only[List.append_assoc]
theorem openB_split(key vb nc xx z:List Nat)(i:Int)(hvl:vb.length=8)(hnl:nc.length=12)(hx:xx.length=201):
  openB key i (vb++(nc++(xx++(tagP key i (vb++nc++xx)++z))))∧openT key (vb++(nc++(xx++(tagP key i (vb++nc++xx)++z))))=xor key nc xx:=by
 obtain⟨tg,htg⟩:∃x,x=tagP key i (vb++nc++xx):=⟨_,rfl⟩
 have htl:tg.length=16:=by rw[htg];exact tagP_len _ _ _
 rw[<-htg]
 obtain⟨S,e⟩:∃S,S=vb++(nc++(xx++(tg++z))):=⟨_,rfl⟩
 rw[<-e]
 have e2:S=(vb++nc++xx)++(tg++z):=by rw[e];simp only[List.append_assoc]
 have e3:S=(vb++nc)++(xx++(tg++z)):=by rw[e];simp only[List.append_assoc]
 have l221:(vb++nc++xx).length=221:=by rw[List.length_append,List.length_append,hvl,hnl,hx]
 have l20:(vb++nc).length=20:=by rw[List.length_append,hvl,hnl]
 have h221:S.take 221=vb++nc++xx:=by rw[e2];exact List.take_left' l221
 have hd:S.drop 221=tg++z:=by rw[e2];exact List.drop_left' l221
 have hd8:S.drop 8=nc++(xx++(tg++z)):=by rw[e];exact List.drop_left' hvl
 have hd20:S.drop 20=xx++(tg++z):=by rw[e3];exact List.drop_left' l20
 refine⟨?_,?_⟩
 ·show tagP _ _ _=_
  rw[h221,hd,List.take_left' htl,htg]
 ·rw[openT,hd8,hd20,List.take_left' hnl,List.take_left' hx]
theorem pageAt_seal(key:ByteArray)(i:Nat)(ver:Int)(text:ByteArray)(hv:1<=ver)(hv2:ver<=1099511627776)(ht:text.size<=200):pageAt key i (padB (sealV key i ver text))=some (text,pmarkV i ver text):=by
 have hl:(bs text).length<=200:=by rw[bs_len];exact ht
 obtain⟨z,hz⟩:=sealed_split key i ver text ht
 obtain⟨B,hB⟩:∃B,B=padB (sealV key i ver text):=⟨_,rfl⟩
 rw[<-hB]at hz⊢
 clear hB
 have hbl:=bodyP_len (bs text) hl
 have h2:=openB_split (bs key) (be64 (u64n ver)) (nonceP (bs key) i ver (bs text)) (xor (bs key) (nonceP (bs key) i ver (bs text)) (bodyP (bs text))) z i (be64To_len _ 8) (nonceP_len _ _ _ _) (by rw[xor_len,hbl])
 rw[<-hz,xor_xor']at h2
 have h8:(bs B).take 8=be64 (u64n ver):=by rw[hz];exact List.take_left' (be64To_len _ 8)
 have htext:openText (bs key) (bs B)=bs text:=by
  rw[openText,h2.2,bodyP,List.append_assoc]
  show List.take (min (bs text).length 200) (bs text++_)=_
  rw[Nat.min_eq_left hl]
  exact List.take_left' rfl
 have hver:openVer (bs B)=ver:=by
  rw[hz];exact openVer_be64 ver (by omega) (by omega) _
 rw[pageAt,h8,if_neg (be64_ne hv (by omega)),if_pos h2.1,htext,hver,txt_bs]
theorem pageAt_zero(key:ByteArray)(i:Nat):pageAt key i zeroB=some (⟨#[]⟩,pmarkV i 0 ⟨#[]⟩):=by
 have h:(bs zeroB).take 8=be64 0:=by rw[zeroB_bs];decide+kernel
 rw[pageAt,if_pos h]
theorem supMay_ok{key:ByteArray}{x:SupV}(h:supMay key x=true):key.size=32∧1<=x.count∧x.count<=1099511627776∧1<=x.epoch∧x.epoch<=1099511627776∧x.root.size=16:=by
 simp only[supMay,supOk,Bool.and_eq_true,decide_eq_true_eq]at h
 omega
theorem supT_bytes(key:ByteArray)(x:SupV):Bytes (supT key x):=by
 intro y hy
 rw[supT]at hy
 rcases List.mem_append.1 hy with hy|hy
 ·exact bodyT_bytes x y hy
 ·exact mark_bytes _ _ y hy
theorem supW_bs{key:ByteArray}{x:SupV}(hm:supMay key x=true):bs (supW key x)=supT key x:=by
 rw[supW,if_pos hm,bs_txt (supT_bytes key x)]
theorem supW_size{key:ByteArray}{x:SupV}(hx:x.sides.length=32)(hm:supMay key x=true):(supW key x).size=82:=by
 rw[<-bs_len,supW_bs hm,supT_len key x hx hm]
theorem sideT_get(l:List Bool)(i:Nat)(h:i<l.length):decide ((sideT l).getD i 0=49)=l.getD i false:=by
 rw[sideT,List.getD_eq_getElem?_getD,List.getElem?_map,List.getD_eq_getElem?_getD,List.getElem?_eq_getElem h]
 cases l[i]<;>rfl
theorem readSup_of(key:ByteArray)(x:SupV)(hx:x.sides.length=32)(hm:supMay key x=true)(s:ByteArray)(z:List Nat)(hs:bs s=supT key x++z):readSup s=x:=by
 obtain⟨h1,h2,h3,h4,h5,h6⟩:=supMay_ok hm
 obtain⟨c,e,sd,r⟩:=x
 simp only at hx h2 h3 h4 h5 h6
 have hb:bs s= [99,102]++(be64 (u64n c)++(be64 (u64n e)++(sideT sd++(bs r++(Cof.mark 122 [bs key,bodyT ⟨c,e,sd,r⟩]++z))))):=by
  rw[hs,supT,bodyT,headT]
  simp only[List.append_assoc]
 have l1:(be64 (u64n c)).length=8:=be64To_len _ 8
 have l2:(be64 (u64n e)).length=8:=be64To_len _ 8
 have l3:(sideT sd).length=32:=by rw[sideT,List.length_map,hx]
 have l4:(bs r).length=16:=by rw[bs_len,h6]
 have d2:(bs s).drop 2=be64 (u64n c)++(be64 (u64n e)++(sideT sd++(bs r++(Cof.mark 122 [bs key,bodyT ⟨c,e,sd,r⟩]++z)))):=by rw[hb];rfl
 have d10:(bs s).drop 10=be64 (u64n e)++(sideT sd++(bs r++(Cof.mark 122 [bs key,bodyT ⟨c,e,sd,r⟩]++z))):=by
  rw[show 10=2+8 by rfl,<-List.drop_drop,d2];exact List.drop_left' l1
 have d18:(bs s).drop 18=sideT sd++(bs r++(Cof.mark 122 [bs key,bodyT ⟨c,e,sd,r⟩]++z)):=by
  rw[show 18=10+8 by rfl,<-List.drop_drop,d10];exact List.drop_left' l2
 have d50:(bs s).drop 50=bs r++(Cof.mark 122 [bs key,bodyT ⟨c,e,sd,r⟩]++z):=by
  rw[show 50=18+32 by rfl,<-List.drop_drop,d18];exact List.drop_left' l3
 have hroot:s.extract 50 66=r:=by
  apply bs_inj
  rw[bs_extract,d50]
  exact List.take_left' l4
 have hsides:((List.range 32).map λi=>decide ((bs s).getD (18+i) 0=49))=sd:=by
  apply List.ext_getElem (by simp[hx])
  intro i i1 i2
  rw[List.getElem_map,List.getElem_range]
  have hi:i<sd.length:=i2
  have e1:(bs s).getD (18+i) 0=(sideT sd).getD i 0:=by
   rw[List.getD_eq_getElem?_getD,<-List.getElem?_drop,d18,List.getElem?_append_left (by omega),List.getD_eq_getElem?_getD]
  rw[e1,sideT_get sd i hi,List.getD_eq_getElem?_getD,List.getElem?_eq_getElem hi]
  rfl
 rw[readSup,hroot,hsides,d2,d10,openVer_be64 c (by omega) (by omega),openVer_be64 e (by omega) (by omega)]
theorem parse_written(key:ByteArray)(x:SupV)(hx:x.sides.length=32)(hm:supMay key x=true):parseE key (padB (supW key x))=0∧parseV key (padB (supW key x))=x:=by
 have hk:=(supMay_ok hm).1
 have hw:=supW_size hx hm
 have hsz:(padB (supW key x)).size=256:=padB_size _ (by omega)
 have hb:bs (padB (supW key x))=supT key x++List.replicate (256-82) 0:=by rw[padB_bs _ (by omega),supW_bs hm,hw]
 have hr:=readSup_of key x hx hm _ _ hb
 have hp:parseB key (padB (supW key x))=true:=by
  rw[parseB_of key _ (by rw[hr];exact hm) (by omega),hr,hb,hsz]
  simp
 rw[parseE,parseV,if_pos hk,if_neg (by omega),if_pos hp,if_pos ⟨hk,by omega,hp⟩]
 exact⟨rfl,hr⟩
theorem parse_ok{key s:ByteArray}(h:parseE key s=0):key.size=32∧82<=s.size∧supMay key (parseV key s)=true∧(bs s).take 82=supT key (parseV key s):=by
 unfold parseE at h
 split at h
 ·rename_i hk
  split at h
  ·cases h
  ·rename_i hs
   split at h
   ·rename_i hp
    have e:parseV key s=readSup s:=by rw[parseV,if_pos ⟨hk,by omega,hp⟩]
    simp only[parseB,Bool.and_eq_true,decide_eq_true_eq]at hp
    rw[e]
    exact⟨hk,by omega,hp.1.1,hp.1.2⟩
   ·cases h
 ·cases h
theorem parse_zero(key:ByteArray):parseE key zeroB≠0:=by
 intro h
 obtain⟨_,_,_,h4⟩:=parse_ok h
 have e:=congrArg (λl=>l.getD 0 7) h4
 rw[zeroB_bs,supT,bodyT,headT]at e
 simp only[List.cons_append,List.getD_cons_zero]at e
 have e2:((List.replicate 256 0).take 82).getD 0 7=0:=by decide+kernel
 rw[e2]at e
 cases e
theorem getD_set{α:Type}(l:List α)(i j:Nat)(v d:α):(l.set i v).getD j d=if i=j∧j<l.length then v else l.getD j d:=by
 rw[List.getD_eq_getElem?_getD,List.getElem?_set,List.getD_eq_getElem?_getD]
 by_cases e:i=j
 ·subst e
  by_cases h:i<l.length
  ·rw[if_pos rfl,if_pos h,if_pos ⟨rfl,h⟩];rfl
  ·rw[if_pos rfl,if_neg h,if_neg (λx=>h x.2),List.getElem?_eq_none (by omega)]
 ·rw[if_neg e,if_neg (λx=>e x.1)]
theorem applyW_out(L:List ByteArray)(q:Nat):∀(W:List (Nat×ByteArray)) (L:List ByteArray),(∀p∈W,p.1≠q)->(applyW L W).getD q ⟨#[]⟩=L.getD q ⟨#[]⟩
 | [],L,_=>rfl
 | p::W,L,h=>by
  rw[applyW,List.foldl_cons,<-applyW,applyW_out L q W _ (λx hx=>h x (List.mem_cons_of_mem _ hx)),getD_set,if_neg (λx=>h p (List.mem_cons_self ..) x.1)]
theorem applyW_in(q:Nat)(s:ByteArray):∀(W:List (Nat×ByteArray)) (L:List ByteArray),W.Pairwise (λp q=>p.1≠q.1)->(q,s)∈W->q<L.length->(applyW L W).getD q ⟨#[]⟩=s
 | [],L,_,h,_=>by cases h
 | p::W,L,hp,h,hq=>by
  rw[applyW,List.foldl_cons,<-applyW]
  have hp1:=(List.pairwise_cons.1 hp).1
  rcases List.mem_cons.1 h with h|h
  ·rw[applyW_out L q W _ (λx hx e=>hp1 x hx (by rw[<-h];exact e.symm)),getD_set,if_pos ⟨by rw[<-h],hq⟩,<-h]
  ·exact applyW_in q s W _ (List.pairwise_cons.1 hp).2 h (by rw[List.length_set];exact hq)
structure Mixed(B:List ByteArray)(ws:List (Nat×ByteArray))(B':List ByteArray):Prop where
 len:B'.length=B.length
 at_:∀q,B'.getD q ⟨#[]⟩=B.getD q ⟨#[]⟩∨∃s,(q,s)∈ws∧B'.getD q ⟨#[]⟩=s
theorem mixed_apply:∀(ws:List (Nat×ByteArray)) (B:List ByteArray),Mixed B ws (applyW B ws)
 | [],B=>⟨rfl,λq=> .inl rfl⟩
 | p::ws,B=>by
  have ih:=mixed_apply ws (B.set p.1 p.2)
  rw[applyW,List.foldl_cons,<-applyW]
  refine⟨by rw[ih.len,List.length_set],λq=> ?_⟩
  rcases ih.at_ q with h|⟨s,h1,h2⟩
  ·rw[h,getD_set]
   split
   ·rename_i h3
    exact .inr ⟨p.2,by rw[<-h3.1];exact List.mem_cons_self ..,rfl⟩
   ·exact .inl rfl
  ·exact .inr ⟨s,List.mem_cons_of_mem _ h1,h2⟩
theorem mixed_crash(B:List ByteArray)(ws:List (Nat×ByteArray))(keeps:List Bool):∀k,k<=ws.length->Mixed B ws (crashTo B ws keeps k)
 | 0,_=>⟨rfl,λq=> .inl rfl⟩
 | k+1,hk=>by
  have ih:=mixed_crash B ws keeps k (by omega)
  rw[crashTo]
  split
  ·refine⟨by rw[List.length_set,ih.len],λq=> ?_⟩
   rw[getD_set]
   split
   ·rename_i h3
    refine .inr ⟨_,?_,rfl⟩
    have e:ws.getD k (0,⟨#[]⟩)=ws[k]:=by rw[List.getD_eq_getElem?_getD,List.getElem?_eq_getElem (by omega)];rfl
    rw[<-h3.1,e]
    exact List.getElem_mem _
   ·exact ih.at_ q
  ·exact ih
structure InvV(secret:ByteArray)(V:VaultV)(B:List ByteArray)(n:Nat):Prop where
 sec:V.secret=secret
 alive:V.dead=false
 cnt:V.now.count=n
 ep1:1<=V.now.epoch
 ep2:V.now.epoch<=n+1
 sides:V.now.sides.length=32
 texts:V.texts.length=32
 marks:V.marks.length=32
 m16:∀m∈V.marks,m.size=16
 t200:∀s∈V.texts,s.size<=200
 blen:B.length=66
 bsz:∀i,i<66->(B.getD i ⟨#[]⟩).size=256
 pages:∀i,i<32->pageOf (keyV secret V.now.epoch) B V.now.sides i=some (V.texts.getD i ⟨#[]⟩,V.marks.getD i ⟨#[]⟩)
 fresh:n=0->V=freshV secret
 super:0<n->superV secret B n=some V.now
 root:0<n->rootV V.marks=V.now.root
 old:∀c:Int,n<c->superV secret B c=none
theorem list_range{α:Type}(l:List α)(d:α)(n:Nat)(h:l.length=n):(List.range n).map (λi=>l.getD i d)=l:=by
 apply List.ext_getElem (by simp[h])
 intro i h1 h2
 simp[List.getD_eq_getElem?_getD,h2]
theorem inv_at{secret:ByteArray}{V:VaultV}{B:List ByteArray}{n:Nat}(h:InvV secret V B n)(h0:0<n):vaultAt secret B n=some V:=by
 obtain⟨m,hm⟩:∃m,m=32:=⟨_,rfl⟩
 have hp:=pagesTo_some (λi=>(V.texts.getD i ⟨#[]⟩,V.marks.getD i ⟨#[]⟩)) m (by rw[hm];exact h.pages)
 have e1:((List.range m).map (λi=>(V.texts.getD i ⟨#[]⟩,V.marks.getD i ⟨#[]⟩))).map (·.1)=V.texts:=by
  rw[List.map_map];exact list_range V.texts ⟨#[]⟩ m (by rw[hm];exact h.texts)
 have e2:((List.range m).map (λi=>(V.texts.getD i ⟨#[]⟩,V.marks.getD i ⟨#[]⟩))).map (·.2)=V.marks:=by
  rw[List.map_map];exact list_range V.marks ⟨#[]⟩ m (by rw[hm];exact h.marks)
 obtain⟨L,hL⟩:∃L,L=(List.range m).map (λi=>(V.texts.getD i ⟨#[]⟩,V.marks.getD i ⟨#[]⟩)):=⟨_,rfl⟩
 rw[<-hL]at hp e1 e2
 have hload:loadV secret B V.now=some (V.texts,V.marks):=by
  rw[hm]at hp
  unfold loadV
  rw[hp]
  show(if rootV (L.map (·.2))=V.now.root then some (L.map (·.1),L.map (·.2))else none)=_
  rw[e1,e2,if_pos (h.root h0)]
 have hV:(⟨secret,V.now,V.texts,V.marks,false⟩:VaultV)=V:=by
  have h1:=h.sec
  have h2:=h.alive
  obtain⟨a,b,c,d,e⟩:=V
  simp only at h1 h2
  subst h1
  subst h2
  rfl
 unfold vaultAt
 rw[h.super h0]
 show(loadV secret B V.now).map (λp=>(⟨secret,V.now,p.1,p.2,false⟩:VaultV))=some V
 rw[hload]
 exact congrArg some hV
theorem inv_none{secret:ByteArray}{V:VaultV}{B:List ByteArray}{n:Nat}(h:InvV secret V B n)(c:Int)(hc:n<c):vaultAt secret B c=none:=by
 rw[vaultAt,h.old c hc]
theorem inv_open{secret:ByteArray}{V:VaultV}{B:List ByteArray}{n:Nat}(h:InvV secret V B n):openV secret B n=some (V,(n:Int)):=by
 rw[openV,inv_none h _ (by omega)]
 by_cases e:n=0
 ·have:(n:Int)=0:=by omega
  simp only[this,if_true]
  rw[h.fresh e]
 ·have:¬(n:Int)=0:=by omega
  simp only[this,if_false]
  rw[inv_at h (by omega)]
  rfl
theorem inv_old{secret:ByteArray}{V:VaultV}{B:List ByteArray}{k n:Nat}(h:InvV secret V B k)(hk:k<n):openV secret B n=none:=by
 rw[openV,inv_none h _ (by omega)]
 have:¬(n:Int)=0:=by omega
 simp only[this,if_false]
 rw[inv_none h _ (by omega)]
 rfl
theorem superV_slot{secret:ByteArray}{B B':List ByteArray}{c:Int}(h:B'.getD (c % 2).toNat ⟨#[]⟩=B.getD (c % 2).toNat ⟨#[]⟩):superV secret B' c=superV secret B c:=by
 rw[superV,superV,h]
theorem inv_mixed{secret:ByteArray}{V:VaultV}{B B':List ByteArray}{n:Nat}{ws:List (Nat×ByteArray)}(h:InvV secret V B n)(hm:Mixed B ws B')(hw:∀p∈ws,∃i,i<32∧p.1=placeN i (!V.now.sides.getD i false)∧p.2.size=256):InvV secret V B' n:=by
 have hs:∀q,q<2->B'.getD q ⟨#[]⟩=B.getD q ⟨#[]⟩:=λq hq=>by
  rcases hm.at_ q with h1|⟨s,h1,_⟩
  ·exact h1
  ·obtain⟨i,hi,h2,_⟩:=hw _ h1
   have h2:q=placeN i (!V.now.sides.getD i false):=h2
   have:=placeN_ge i (!V.now.sides.getD i false)
   omega
 refine⟨h.sec,h.alive,h.cnt,h.ep1,h.ep2,h.sides,h.texts,h.marks,h.m16,h.t200,by rw[hm.len];exact h.blen,λi hi=> ?_,λi hi=> ?_,h.fresh,λh0=> ?_,h.root,λc hc=> ?_⟩
 ·rcases hm.at_ i with h1|⟨s,h1,h2⟩
  ·rw[h1];exact h.bsz i hi
  ·obtain⟨j,_,_,h3⟩:=hw _ h1
   rw[h2];exact h3
 ·have e:B'.getD (placeN i (V.now.sides.getD i false)) ⟨#[]⟩=B.getD (placeN i (V.now.sides.getD i false)) ⟨#[]⟩:=by
   rcases hm.at_ (placeN i (V.now.sides.getD i false))with h1|⟨s,h1,_⟩
   ·exact h1
   ·obtain⟨j,hj,h2,_⟩:=hw _ h1
    have h3:=placeN_inj h2
    obtain⟨h3,h4⟩:=h3
    subst h3
    cases hb:V.now.sides.getD i false<;>rw[hb]at h4<;>cases h4
  rw[pageOf,e]
  exact h.pages i hi
 ·rw[superV_slot (hs _ (by omega))];exact h.super h0
 ·rw[superV_slot (hs _ (by omega))];exact h.old c hc
theorem superV_zero(secret:ByteArray)(c:Int)(B:List ByteArray)(h:B.getD (c % 2).toNat ⟨#[]⟩=zeroB):superV secret B c=none:=by
 rw[superV,h,if_neg (λx=>parse_zero _ x.1)]
theorem pmark_list(n:Nat)(h:n=32):((List.range n).map λ(i:Nat)=>pmarkV (i:Int) 0 ⟨#[]⟩).length=32:=by simp[h]
theorem inv_fresh(secret:ByteArray)(B:List ByteArray)(hl:B.length=66)(hz:∀i,i<66->B.getD i ⟨#[]⟩=zeroB):InvV secret (freshV secret) B 0:=by
 refine⟨rfl,rfl,rfl,Int.le_refl 1,Int.le_refl 1,List.length_replicate,List.length_replicate,pmark_list 32 rfl,λm hm=> ?_,λs hs=> ?_,hl,λi hi=> ?_,λi hi=> ?_,λ_=>rfl,λh=>absurd h (by omega),λh=>absurd h (by omega),λc hc=> ?_⟩
 ·obtain⟨i,_,rfl⟩:=List.mem_map.1 hm
  exact pmarkV_size _ _ _
 ·rw[(List.mem_replicate.1 hs).2];exact Nat.zero_le 200
 ·rw[hz i hi];exact zeroB_size
 ·rw[pageOf,hz _ (placeN_lt hi _),pageAt_zero]
  have e1:(freshV secret).texts.getD i ⟨#[]⟩=⟨#[]⟩:=by
   show(List.replicate 32 (⟨#[]⟩:ByteArray)).getD i ⟨#[]⟩=_
   rw[List.getD_eq_getElem?_getD,List.getElem?_replicate,if_pos hi];rfl
  have e2:(freshV secret).marks.getD i ⟨#[]⟩=pmarkV (i:Int) 0 ⟨#[]⟩:=by
   show((List.range 32).map λ(i:Nat)=>pmarkV (i:Int) 0 ⟨#[]⟩).getD i ⟨#[]⟩=_
   rw[List.getD_eq_getElem?_getD,List.getElem?_map,List.getElem?_range hi];rfl
  rw[e1,e2]
 ·exact superV_zero _ _ _ (hz _ (by omega))
structure WOk(W:List (Nat×ByteArray)):Prop where
 ids:∀p∈W,p.1<32
 small:∀p∈W,p.2.size<=200
 apart:W.Pairwise (λp q=>p.1≠q.1)
def wrV(key:ByteArray)(ver:Int)(sides:List Bool)(W:List (Nat×ByteArray)):List (Nat×ByteArray):=W.map λp=>(placeN p.1 (!sides.getD p.1 false),padB (sealV key p.1 ver p.2))
def sidesTo(sides:List Bool)(W:List (Nat×ByteArray)):List Bool:=W.foldl (λl p=>l.set p.1 (!l.getD p.1 false)) sides
def marksTo(ver:Int)(marks:List ByteArray)(W:List (Nat×ByteArray)):List ByteArray:=applyW marks (W.map λp=>(p.1,pmarkV p.1 ver p.2))
theorem sidesTo_len:∀(W:List (Nat×ByteArray)) (sides:List Bool),(sidesTo sides W).length=sides.length
 | [],_=>rfl
 | p::W,sides=>by rw[sidesTo,List.foldl_cons,<-sidesTo,sidesTo_len W,List.length_set]
theorem sidesTo_out(q:Nat):∀(W:List (Nat×ByteArray)) (sides:List Bool),(∀p∈W,p.1≠q)->(sidesTo sides W).getD q false=sides.getD q false
 | [],_,_=>rfl
 | p::W,sides,h=>by
  rw[sidesTo,List.foldl_cons,<-sidesTo,sidesTo_out q W _ (λx hx=>h x (List.mem_cons_of_mem _ hx)),getD_set,if_neg (λx=>h p (List.mem_cons_self ..) x.1)]
theorem sidesTo_in(q:Nat)(s:ByteArray):∀(W:List (Nat×ByteArray)) (sides:List Bool),W.Pairwise (λp q=>p.1≠q.1)->(q,s)∈W->q<sides.length->(sidesTo sides W).getD q false= !sides.getD q false
 | [],_,_,h,_=>by cases h
 | p::W,sides,hp,h,hq=>by
  rw[sidesTo,List.foldl_cons,<-sidesTo]
  have hp1:=(List.pairwise_cons.1 hp).1
  rcases List.mem_cons.1 h with h|h
  ·rw[sidesTo_out q W _ (λx hx e=>hp1 x hx (by rw[<-h];exact e.symm)),getD_set,if_pos ⟨by rw[<-h],hq⟩,<-h]
  ·rw[sidesTo_in q s W _ (List.pairwise_cons.1 hp).2 h (by rw[List.length_set];exact hq),getD_set,if_neg (λx=>hp1 _ h x.1)]
theorem wrV_congr(key:ByteArray)(ver:Int)(a b:List Bool)(W:List (Nat×ByteArray))(h:∀p∈W,a.getD p.1 false=b.getD p.1 false):wrV key ver a W=wrV key ver b W:=by
 rw[wrV,wrV]
 apply List.map_congr_left
 intro p hp
 rw[h p hp]
structure TellIs(key:ByteArray)(ver:Int)(W:List (Nat×ByteArray))(st:TellSt)(r:TellSt×Bool)(k:Nat):Prop where
 le:k<=W.length
 sure:r.1.dev.sure=st.dev.sure
 wait:r.1.dev.wait=st.dev.wait++wrV key ver st.sides (W.take k)
 sides:r.1.sides=sidesTo st.sides (W.take k)
 marks:r.1.marks=marksTo ver st.marks (W.take k)
 all:r.2=true->k=W.length
 spent:r.2=false->r.1.dev.fuse=0
 free:st.dev.fuse<0->r.2=true∧r.1.dev.fuse=st.dev.fuse
 held:0<=st.dev.fuse->0<=r.1.dev.fuse
theorem tellTo_is(key:ByteArray)(ver:Int):∀(W:List (Nat×ByteArray)) (st:TellSt),W.Pairwise (λp q=>p.1≠q.1)->∃k,TellIs key ver W st (tellTo key ver W st) k
 | [],st,_=>⟨0,Nat.le_refl _,rfl,(List.append_nil _).symm,rfl,rfl,λ_=>rfl,λh=>absurd h (by simp[tellTo]),λ_=>⟨rfl,rfl⟩,λh=>h⟩
 | p::W,st,hp=>by
  have hp1:=(List.pairwise_cons.1 hp).1
  rw[tellTo]
  by_cases hf:st.dev.fuse=0
  ·rw[if_pos hf]
   exact⟨0,by omega,rfl,(List.append_nil _).symm,rfl,rfl,λh=>(by cases h),λ_=>hf,λh=>absurd h (by omega),λh=>h⟩
  ·rw[if_neg hf]
   obtain⟨k,h⟩:=tellTo_is key ver W (tellStep key ver st p) (List.pairwise_cons.1 hp).2
   have hw:wrV key ver (tellStep key ver st p).sides (W.take k)=wrV key ver st.sides (W.take k):=by
    refine wrV_congr _ _ _ _ _ λq hq=> ?_
    show(st.sides.set p.1 (!st.sides.getD p.1 false)).getD q.1 false=_
    rw[getD_set,if_neg (λx=>hp1 q (List.mem_of_mem_take hq) x.1)]
   have hbf:burnt st.dev.fuse<0↔st.dev.fuse<0:=by unfold burnt;split<;>omega
   refine⟨k+1,by have:=h.le;simp only[List.length_cons];omega,h.sure,?_,?_,?_,λe=>by rw[h.all e];rfl,h.spent,λe=> ?_,λe=> ?_⟩
   ·rw[h.wait,hw]
    show(st.dev.wait++ [_])++_=st.dev.wait++(_::_)
    rw[List.append_assoc];rfl
   ·rw[h.sides];rfl
   ·rw[h.marks];rfl
   ·have h2:=h.free (show burnt st.dev.fuse<0 from hbf.2 e)
    refine⟨h2.1,h2.2.trans ?_⟩
    show burnt st.dev.fuse=_
    unfold burnt;rw[if_neg (by omega)]
   ·exact h.held (show 0<=burnt st.dev.fuse by unfold burnt;split<;>omega)
def nextV(V:VaultV)(ep:Int)(W:List (Nat×ByteArray)):VaultV:=
 ⟨V.secret,⟨V.now.count+1,ep,sidesTo V.now.sides W,rootV (marksTo (V.now.count+1) V.marks W)⟩,putTexts V.texts W,marksTo (V.now.count+1) V.marks W,V.dead⟩
def midB(V:VaultV)(B:List ByteArray)(ep:Int)(W:List (Nat×ByteArray)):List ByteArray:=applyW B (wrV (keyV V.secret ep) (V.now.count+1) V.now.sides W)
def nextB(V:VaultV)(B:List ByteArray)(ep:Int)(W:List (Nat×ByteArray)):List ByteArray:=(midB V B ep W).set ((V.now.count+1) % 2).toNat (padB (supW (skeyV V.secret) (nextV V ep W).now))
theorem wrV_mem{key:ByteArray}{ver:Int}{sides:List Bool}{W:List (Nat×ByteArray)}(hW:WOk W):∀p∈wrV key ver sides W,∃i,i<32∧p.1=placeN i (!sides.getD i false)∧p.2.size=256:=by
 intro p hp
 obtain⟨q,hq,rfl⟩:=List.mem_map.1 hp
 refine⟨q.1,hW.ids q hq,rfl,padB_size _ ?_⟩
 rw[sealV_size _ _ _ _ (hW.small q hq)]
 omega
theorem WOk.take{W:List (Nat×ByteArray)}(h:WOk W)(k:Nat):WOk (W.take k):=
 ⟨λp hp=>h.ids p (List.mem_of_mem_take hp),λp hp=>h.small p (List.mem_of_mem_take hp),h.apart.sublist (List.take_sublist k W)⟩
theorem rootV_size{l:List ByteArray}(h:l.length=32)(h16:∀m∈l,m.size=16):(rootV l).size=16:=by
 rw[rootV,if_pos (rightB_true.2 ⟨h,h16⟩)]
 have hl:(ups 4 l).length=2:=by rw[ups_len,h]
 show((upL (ups 4 l)).getD 0 ⟨#[]⟩).size=16
 rw[upL,hl]
 exact mk2_size _ _
end Go.Cof
namespace Go.Cof
theorem dropWhile_nil{α:Type}(p:α->Bool):∀l:List α,(∀x∈l.dropWhile p,p x=true)->l.dropWhile p= []
 | [],_=>rfl
 | a::l,h=>by
  by_cases ha:p a=true
  ·rw[List.dropWhile_cons_of_pos ha]at h⊢
   exact dropWhile_nil p l h
  ·rw[List.dropWhile_cons_of_neg ha]at h
   exact absurd (h a List.mem_cons_self) ha
theorem dropWhile_all{α:Type}(p:α->Bool):∀l:List α,l.dropWhile p= []->∀x∈l,p x=true
 | [],_=>λx hx=>by cases hx
 | a::l,h=>by
  by_cases ha:p a=true
  ·rw[List.dropWhile_cons_of_pos ha]at h
   intro x hx
   rcases List.mem_cons.1 hx with rfl|hx
   ·exact ha
   ·exact dropWhile_all p l h x hx
  ·rw[List.dropWhile_cons_of_neg ha]at h
   cases h
theorem dropWhile_of_all{α:Type}(p:α->Bool):∀l:List α,(∀x∈l,p x=true)->l.dropWhile p= []
 | [],_=>rfl
 | a::l,h=>by
  rw[List.dropWhile_cons_of_pos (h a List.mem_cons_self)]
  exact dropWhile_of_all p l λx hx=>h x (List.mem_cons_of_mem _ hx)
theorem trimB_nil(l:List UInt8)(c:UInt8):Lib.trimB l c= []↔∀x∈l,x=c:=by
 unfold Lib.trimB Lib.trimLeftB Lib.trimRightB
 constructor
 ·intro h x hx
  have h1:=dropWhile_all _ _ h
  have h2:=dropWhile_nil (· ==c) l.reverse λy hy=>h1 y (List.mem_reverse.2 hy)
  have h3:=dropWhile_all _ _ h2 x (List.mem_reverse.2 hx)
  simpa using h3
 ·intro h
  have h2:=dropWhile_of_all (· ==c) l.reverse λy hy=>by simpa using h y (List.mem_reverse.1 hy)
  rw[h2]
  rfl
end Go.Cof
namespace Go.Proofs.YtnmhgehpddipdaaGreatDoor
open Go.RowKit Go.Cof
theorem trim_zero(s:ByteArray):(⟨(Lib.trimB s.data.toList 0).toArray⟩:ByteArray)=⟨#[]⟩↔bs s=List.replicate s.size 0:=by
 have e:((⟨(Lib.trimB s.data.toList 0).toArray⟩:ByteArray)=⟨#[]⟩)↔Lib.trimB s.data.toList 0= []:=by
  constructor
  ·intro h
   have:=congrArg (λb:ByteArray=>b.data.toList) h
   simpa using this
  ·intro h
   rw[h]
 rw[e,trimB_nil]
 rw[List.eq_replicate_iff]
 constructor
 ·intro h
  refine⟨bs_len s,λx hx=> ?_⟩
  simp only[bs,List.mem_map]at hx
  obtain⟨y,hy,rfl⟩:=hx
  rw[h y hy]
  rfl
 ·rintro⟨_,h⟩ x hx
  have:=h x.toNat (by simp only[bs,List.mem_map];exact⟨x,hx,rfl⟩)
  exact UInt8.toNat_inj.1 this
set_option maxRecDepth 100000
set_option maxHeartbeats 8000000 in
theorem supParse_trim(key s:ByteArray)(hk:key.size=32)(hs:82<=s.size)(hs2:s.size<=1000)(hz:(bs s).drop 82≠List.replicate (s.size-82) 0)(w:World):
  Calls Tryz.prog 139 #[.string key,.string s] w λe w'=>e= .returned (.tuple #[supVal zeroSup,errVal 15])∧Keep NoB w w':=by
 have j0:((key.size:Nat):Int)=32:=by omega
 have j1:decide ((s.size:Int)<82)=false:=by simp;omega
 have j2:(82:Int)<=s.size:=by omega
 obtain⟨D,hD⟩:∃D,D=s.extract 82 s.size:=⟨_,rfl⟩
 have hDs:D.size=s.size-82:=by rw[hD,ByteArray.size_extract];omega
 have htr:=λw=>Tryz.strings_Trim_one D 0 (by decide) w (by omega)
 obtain⟨T,hT⟩:∃T:ByteArray,T=⟨(Lib.trimB D.data.toList 0).toArray⟩:=⟨_,rfl⟩
 rw[<-hT]at htr
 have hTn:T≠⟨#[]⟩:=λh=>hz (by
  have:=(trim_zero D).1 (hT.symm.trans h)
  rw[hDs,hD,bs_extract,List.take_of_length_le (by rw[List.length_drop,bs_len];exact Nat.le_refl _)]at this
  exact this)
 rw[hD]at htr
 have hTq:∀(w:World) (X:Ext w),Calls Tryz.prog 20 #[.string (s.extract 82 s.size),.string ⟨#[0]⟩] (w.ext X) λe w'=>e= .returned (.string T)∧Keep NoB (w.ext X) w':=λw X=>(htr (w.ext X)).mono λe w' h=>⟨h.1,by rcases h.2 with rfl|rfl;exact Keep.refl _ _;exact(Keep.refl _ _).drew⟩
 have hT2:T.toList.isEmpty=false:=by
  cases h:T.toList with
  | nil=>exact absurd (bs_inj (by rw[bs,<-ByteArray.toList_eq,h];rfl)) hTn
  | cons a l=>rfl
 have hin:=info_super
 have hbz:=built_zero
 have hzl:=zero_len
 have hone:=supCells_one zeroSup
 have hi35:(Tryz.prog.info? 127).map (·.size)=some (supCells zeroSup).toArray.size:=by rw[hzl];exact info_super35
 rw[supVal]at hin⊢
 obtain⟨cz,hcz⟩:∃cz,cz=(supCells zeroSup).toArray:=⟨_,rfl⟩
 rw[<-hcz]at hin hbz hzl hone hi35⊢
 clear hcz htr hD hT hTn hz hDs
 have Hin:=Lib.hid hin
 have Hbz:=Lib.hid hbz
 have H35:=Lib.hid hi35
 have Hq:=Lib.hid hTq
 clear hin hbz hi35 hTq
 go_enter Tryz.func139,Tryz.ntmps139
 go_wp2_with (first|(refine wpList_alloc_row rfl 127 rfl Hin.out ?_;refine wl_world (λw9=>w9.heap[w.heap.size]? =some (.cells cz 127 (0,0))∧Keep NoB w w9) ⟨heap_alloc_new w _,(Keep.refl NoB w).alloc _⟩ ?_;rintro w9 ⟨hX9,K9⟩))
 refine wp_region_q_ext (by kernel_rfl) (by kernel_rfl) ?_
 iterate 20 ((with_reducible refine wpQuiet_step (λK hK=> ?_));go_simp;first|(refine hK _ ?_;clear hK K)|(apply Exists.intro;refine⟨λ_=> ?_,hK _ ?_⟩;(go_at_call 20;exact quiet_ext _ (Hq.out _ _));clear hK K))
 refine wpQuiet_nil ?_
 intro X
 have hXX:=(ext_keep w9 X).heap hX9 (λx=>x)
 have KX:=K9.thenN (ext_keep w9 X)
 go_wp2_with (first|(refine wpList_build_is rfl 127 #[] rfl cz (by simpa using Hbz.out) ?_)|(refine wpList_store_whole rfl 127 (.tmp 4) (.tmp 36) rfl w.heap.size 127 cz cz rfl rfl hXX H35.out 35 hzl hzl hone ?_;have hX10:=heap_setRow (c':=cz) hXX;have K10:=KX.setRow (g:=w.heap.size) (.inr (Nat.le_refl _)) cz;refine wl_world (λw10=>w10.heap[w.heap.size]? =some (.cells cz 127 (0,0))∧Keep NoB w w10) ⟨hX10,K10⟩ ?_;clear hX10 K10;rintro w10 ⟨hX10,K10⟩))
 exact bodyPost_ret (v:= .tuple #[.agg cz,errVal 15]) (results_row_slot rfl _ w10 w.heap.size 127 cz (0,0) _ (errVal 15) rfl rfl hX10 Tryz.underlying127 rfl H35.out) rfl ⟨rfl,K10⟩
set_option maxHeartbeats 8000000 in
theorem supParse_main(key s:ByteArray)(hk:key.size=32)(hs:82<=s.size)(hs2:s.size<=1000)(hz:(bs s).drop 82=List.replicate (s.size-82) 0)(w:World)(V:RoundsVar w):
  Calls Tryz.prog 139 #[.string key,.string s] w λe w'=>e= .returned (.tuple #[supVal (parseV key s),errVal (parseE key s)])∧Keep NoB w w':=by
 obtain⟨PV,hPV⟩:∃P,P=parseV key s:=⟨_,rfl⟩
 obtain⟨PE,hPE⟩:∃P,P=parseE key s:=⟨_,rfl⟩
 rw[<-hPV,<-hPE]
 rw[parseV]at hPV
 rw[parseE,if_pos hk,if_neg (show¬s.size<82 by omega)]at hPE
 have HPV:=Lib.hid hPV
 have HPE:=Lib.hid hPE
 clear hPV hPE
 have j0:((key.size:Nat):Int)=32:=by omega
 have j1:decide ((s.size:Int)<82)=false:=by simp;omega
 have j2:(82:Int)<=s.size:=by omega
 have j3:(66:Int)<=s.size:=by omega
 obtain⟨D,hD⟩:∃D,D=s.extract 82 s.size:=⟨_,rfl⟩
 have hDs:D.size=s.size-82:=by rw[hD,ByteArray.size_extract];omega
 have htr:=λw=>Tryz.strings_Trim_one D 0 (by decide) w (by omega)
 obtain⟨T,hT⟩:∃T:ByteArray,T=⟨(Lib.trimB D.data.toList 0).toArray⟩:=⟨_,rfl⟩
 have hTn:T=⟨#[]⟩:=hT.trans ((trim_zero D).2 (by rw[hDs,hD,bs_extract,List.take_of_length_le (by rw[List.length_drop,bs_len];exact Nat.le_refl _),hz]))
 rw[<-hT,hTn,hD]at htr
 obtain⟨M,hM⟩:∃M,M=s.extract 66 82:=⟨_,rfl⟩
 have hCs:(s.extract 0 66).size=66:=by rw[ByteArray.size_extract];omega
 have hml:(markText 122 ([key,s.extract 0 66].map bs)).length<=100000:=by
  simp[markText,be64,be64To_len,bs_len]
  omega
 obtain⟨G,hG⟩:∃G,G=txt (Cof.mark 122 ([key,s.extract 0 66].map bs)):=⟨_,rfl⟩
 have e1:(2:Int)<=s.size:=by omega
 have e2:(10:Int)<=s.size:=by omega
 obtain⟨P2,hP2⟩:∃P,P=s.extract 2 s.size:=⟨_,rfl⟩
 obtain⟨P10,hP10⟩:∃P,P=s.extract 10 s.size:=⟨_,rfl⟩
 have b2:bs P2=(bs s).drop 2:=by rw[hP2,bs_extract,List.take_of_length_le (by rw[List.length_drop,bs_len];exact Nat.le_refl _)]
 have b10:bs P10=(bs s).drop 10:=by rw[hP10,bs_extract,List.take_of_length_le (by rw[List.length_drop,bs_len];exact Nat.le_refl _)]
 have s2:P2.size=s.size-2:=by rw[<-bs_len,b2,List.length_drop,bs_len]
 have s10:P10.size=s.size-10:=by rw[<-bs_len,b10,List.length_drop,bs_len]
 obtain⟨va,hva⟩:∃a,a=openVer ((bs s).drop 2):=⟨_,rfl⟩
 obtain⟨vb,hvb⟩:∃a,a=openVer ((bs s).drop 10):=⟨_,rfl⟩
 have hn2:=λw=>supNumber_any P2 (by omega) (by omega) w
 have hn10:=λw=>supNumber_any P10 (by omega) (by omega) w
 rw[b2,<-hva,hP2]at hn2
 rw[b10,<-hvb,hP10]at hn10
 have Hn2:=Lib.hid hn2
 have Hn10:=Lib.hid hn10
 have Hva:=Lib.hid hva
 have Hvb:=Lib.hid hvb
 clear hn2 hn10 b2 b10 s2 s10 hP2 hP10 hva hvb P2 P10
 obtain⟨cb,hcb⟩:∃cb,cb=(supCells ⟨va,vb,List.replicate 32 false,s.extract 50 66⟩).toArray:=⟨_,rfl⟩
 have hbu:=built_sup va vb (s.extract 50 66)
 have hcbl:cb.size=35:=by rw[hcb,List.size_toArray,supCells_len _ (by simp)]
 have hcb1:cb.all (·.oneCell')=true:=by rw[hcb];exact supCells_one _
 rw[<-hcb]at hbu
 have Hbu:=Lib.hid hbu
 have Hcb:=Lib.hid hcb
 have h35:(Tryz.prog.info? 127).map (·.size)=some cb.size:=by rw[hcbl];exact info_super35
 have H35:=Lib.hid h35
 clear hbu hcb h35
 have hin:=info_super
 have hzl:=zero_len
 rw[supVal]at hin
 obtain⟨cz,hcz⟩:∃cz,cz=(supCells zeroSup).toArray:=⟨_,rfl⟩
 rw[<-hcz]at hin hzl
 have Hin:=Lib.hid hin
 have Hcz:=Lib.hid hcz
 have Htr:Hid (∀w:World,Calls Tryz.prog 20 #[.string (s.extract 82 s.size),.string ⟨#[0]⟩] w λe w'=>e= .returned (.string ⟨#[]⟩)∧Keep NoB w w'):=Lib.hid λw=>(htr w).mono λe w' h=>⟨h.1,by rcases h.2 with rfl|rfl;exact Keep.refl _ _;exact(Keep.refl _ _).drew⟩
 have HM:=Lib.hid hM
 have HG:=Lib.hid hG
 have Hd82:=Lib.hid hz
 have Hml:=Lib.hid hml
 clear hin hcz htr hM hG hz hT hTn hD hDs hml hCs D T
 go_enter Tryz.func139,Tryz.ntmps139
 go_wp2_with (first|(refine wpList_alloc_row rfl 127 rfl Hin.out ?_;refine wl_world (λw9=>w9.heap[w.heap.size]? =some (.cells cz 127 (0,0))∧Keep NoB w w9) ⟨heap_alloc_new w _,(Keep.refl NoB w).alloc _⟩ ?_;rintro w9 ⟨hX9,K9⟩))
 go_region_with (first|(go_at_call 20;refine(Htr.out _).mono ?_;rintro e w1 ⟨rfl,K1⟩)|(go_at_call 59;refine(mark_any 122 (by decide) _ [key,s.extract 0 66] _ (V.keep ((K9.drew.thenN K1).alloc _) (λx=>x)) (Strs.lit (w:=w1) [key,s.extract 0 66]) Hml.out (by simp)).mono ?_;rw[<-HG.out];rintro e w2 ⟨rfl,K2⟩))
 have K2':=((K9.drew.thenN K1).alloc _).thenN K2
 have hX2:=K2.heap (Keep.heap ((Keep.refl NoB _).alloc _) (K1.heap (show w9.drew.heap[w.heap.size]? =_ from hX9) (λx=>x)) (λx=>x)) (λx=>x)
 rw[<-HM.out]
 by_cases heq:G=M
 ·have hb2:sameB G M=true:=by rw[heq];exact toList_same M
  unfold sameB at hb2
  rw[hb2,Bool.not_true]
  clear hb2 heq
  go_simp
  go_upto_region 5 with(fail)
  go_cut [6] (λyv wx=>∃Y,yv= .pointer (some ⟨Y,0,none⟩)∧w.heap.size<Y∧wx.heap[Y]? =some (.cells cb 127 (0,0))∧wx.heap[w.heap.size]? =some (.cells cz 127 (0,0))∧Keep NoB w wx)
  case first=>
   have h2l:w.heap.size<w2.heap.size:=lt_of_heap hX2
   have h2k:=K2'.size
   refine wp_region_plan [0,1,3,4,6,7] (.fork 2 (.fork 5 (.fork 8 (.row [9,10]) 9 (.row [8,10])) 9 (.row [5,8,10])) 9 (.row [2,5,8,10])) (by kernel_rfl) (by kernel_rfl) (λc a d v w h=>by cases d<;>exact h) ?_
   simp only[pickL,List.getElem?_toArray,List.getElem?_cons_succ,List.getElem?_cons_zero]
   repeat(refine wpEarly_step (λK hK=> ?_);go_simp;refine hK _ ?_;clear hK K)
   refine wpEarly_nil ?_
   refine⟨?_,?_⟩
   ·simp only[pickL,List.getElem?_toArray,List.getElem?_cons_succ,List.getElem?_cons_zero]
    go_wp2_with fail
    refine(Hn2.out _).mono ?_
    rintro e wx ⟨rfl,hwx⟩
    subst wx
    go_wp2_with fail
    refine⟨?_,?_⟩
    ·simp only[pickL,List.getElem?_toArray,List.getElem?_cons_succ,List.getElem?_cons_zero]
     go_wp2_with fail
     refine(Hn10.out _).mono ?_
     rintro e wx ⟨rfl,hwx⟩
     subst wx
     go_wp2_with fail
     refine⟨?_,?_⟩
     ·simp only[pickL,List.getElem?_toArray,List.getElem?_cons_succ,List.getElem?_cons_zero]
      go_wp2_with (first|(refine wpList_alloc_row rfl 127 rfl Hin.out ?_;refine wl_world (λw12=>w12.heap[w2.heap.size]? =some (.cells cz 127 (0,0))∧w12.heap[w.heap.size]? =some (.cells cz 127 (0,0))∧Keep NoB w w12) ⟨heap_alloc_new w2.drew _,((Keep.refl NoB w2).drew.alloc _).heap hX2 (λx=>x),K2'.drew.alloc _⟩ ?_;rintro w12 ⟨hY12,hX12,K12⟩;have hst:=run_storeCells_whole (P:=Tryz.prog) hY12 (hzl.trans hcbl.symm) hcb1;have hY13:=heap_setRow (c':=cb) hY12;have hX13:=(setRow_other w12 w2.heap.size w.heap.size cb (λe=>by omega)).trans hX12;have K13:=K12.setRow (g:=w2.heap.size) (.inr (by omega)) cb)|(refine wpList_build_is rfl 127 #[(0,.tmp 40),(1,.tmp 43),(3,.tmp 45)] rfl cb (by simp only[List.map_toArray,List.map_cons,List.map_nil,List.toList_toArray];exact Hbu.out) ?_))
      simp only[wpPlan,pickL,List.getElem?_toArray,List.getElem?_cons_succ,List.getElem?_cons_zero]
      go_wp2_with (first|(refine wpList_alloc_row rfl 127 rfl Hin.out ?_;refine wl_world (λw12=>w12.heap[w2.heap.size]? =some (.cells cz 127 (0,0))∧w12.heap[w.heap.size]? =some (.cells cz 127 (0,0))∧Keep NoB w w12) ⟨heap_alloc_new w2.drew _,((Keep.refl NoB w2).drew.alloc _).heap hX2 (λx=>x),K2'.drew.alloc _⟩ ?_;rintro w12 ⟨hY12,hX12,K12⟩;have hst:=run_storeCells_whole (P:=Tryz.prog) hY12 (hzl.trans hcbl.symm) hcb1;have hY13:=heap_setRow (c':=cb) hY12;have hX13:=(setRow_other w12 w2.heap.size w.heap.size cb (λe=>by omega)).trans hX12;have K13:=K12.setRow (g:=w2.heap.size) (.inr (by omega)) cb)|(refine wpList_build_is rfl 127 #[(0,.tmp 40),(1,.tmp 43),(3,.tmp 45)] rfl cb (by simp only[List.map_toArray,List.map_cons,List.map_nil,List.toList_toArray];exact Hbu.out) ?_))
      go_meet
      case rel=>exact⟨w2.heap.size,rfl,h2l,hY13,hX13,K13⟩
     ·simp only[pickL,List.getElem?_toArray,List.getElem?_cons_succ,List.getElem?_cons_zero]
      go_wp2_with (first|(refine wpList_alloc_row rfl 127 rfl Hin.out ?_;refine wl_world (λw12=>w12.heap[w2.heap.size]? =some (.cells cz 127 (0,0))∧w12.heap[w.heap.size]? =some (.cells cz 127 (0,0))∧Keep NoB w w12) ⟨heap_alloc_new w2.drew _,((Keep.refl NoB w2).drew.alloc _).heap hX2 (λx=>x),K2'.drew.alloc _⟩ ?_;rintro w12 ⟨hY12,hX12,K12⟩;have hst:=run_storeCells_whole (P:=Tryz.prog) hY12 (hzl.trans hcbl.symm) hcb1;have hY13:=heap_setRow (c':=cb) hY12;have hX13:=(setRow_other w12 w2.heap.size w.heap.size cb (λe=>by omega)).trans hX12;have K13:=K12.setRow (g:=w2.heap.size) (.inr (by omega)) cb)|(refine wpList_build_is rfl 127 #[(0,.tmp 40),(1,.tmp 43),(3,.tmp 45)] rfl cb (by simp only[List.map_toArray,List.map_cons,List.map_nil,List.toList_toArray];exact Hbu.out) ?_))
      simp only[wpPlan,pickL,List.getElem?_toArray,List.getElem?_cons_succ,List.getElem?_cons_zero]
      go_wp2_with (first|(refine wpList_alloc_row rfl 127 rfl Hin.out ?_;refine wl_world (λw12=>w12.heap[w2.heap.size]? =some (.cells cz 127 (0,0))∧w12.heap[w.heap.size]? =some (.cells cz 127 (0,0))∧Keep NoB w w12) ⟨heap_alloc_new w2.drew _,((Keep.refl NoB w2).drew.alloc _).heap hX2 (λx=>x),K2'.drew.alloc _⟩ ?_;rintro w12 ⟨hY12,hX12,K12⟩;have hst:=run_storeCells_whole (P:=Tryz.prog) hY12 (hzl.trans hcbl.symm) hcb1;have hY13:=heap_setRow (c':=cb) hY12;have hX13:=(setRow_other w12 w2.heap.size w.heap.size cb (λe=>by omega)).trans hX12;have K13:=K12.setRow (g:=w2.heap.size) (.inr (by omega)) cb)|(refine wpList_build_is rfl 127 #[(0,.tmp 40),(1,.tmp 43),(3,.tmp 45)] rfl cb (by simp only[List.map_toArray,List.map_cons,List.map_nil,List.toList_toArray];exact Hbu.out) ?_))
      go_meet
      case rel=>exact⟨w2.heap.size,rfl,h2l,hY13,hX13,K13⟩
    ·simp only[pickL,List.getElem?_toArray,List.getElem?_cons_succ,List.getElem?_cons_zero]
     go_wp2_with (refine wpList_alloc_row rfl 127 rfl Hin.out ?_;refine wl_world (λw12=>w12.heap[w2.heap.size]? =some (.cells cz 127 (0,0))∧w12.heap[w.heap.size]? =some (.cells cz 127 (0,0))∧Keep NoB w w12) ⟨heap_alloc_new w2.drew _,((Keep.refl NoB w2).drew.alloc _).heap hX2 (λx=>x),K2'.drew.alloc _⟩ ?_;rintro w12 ⟨hY12,hX12,K12⟩;have hst:=run_storeCells_whole (P:=Tryz.prog) hY12 (hzl.trans hcbl.symm) hcb1;have hY13:=heap_setRow (c':=cb) hY12;have hX13:=(setRow_other w12 w2.heap.size w.heap.size cb (λe=>by omega)).trans hX12;have K13:=K12.setRow (g:=w2.heap.size) (.inr (by omega)) cb)
     simp only[wpPlan,pickL,List.getElem?_toArray,List.getElem?_cons_succ,List.getElem?_cons_zero]
     go_wp2_with fail
     refine(Hn10.out _).mono ?_
     rintro e wx ⟨rfl,hwx⟩
     subst wx
     go_wp2_with (refine wpList_build_is rfl 127 #[(0,.tmp 40),(1,.tmp 43),(3,.tmp 45)] rfl cb (by simp only[List.map_toArray,List.map_cons,List.map_nil,List.toList_toArray];exact Hbu.out) ?_)
     go_meet
     case rel=>exact⟨w2.heap.size,rfl,h2l,hY13,hX13,K13⟩
   ·simp only[pickL,List.getElem?_toArray,List.getElem?_cons_succ,List.getElem?_cons_zero]
    go_wp2_with (refine wpList_alloc_row rfl 127 rfl Hin.out ?_;refine wl_world (λw12=>w12.heap[w2.heap.size]? =some (.cells cz 127 (0,0))∧w12.heap[w.heap.size]? =some (.cells cz 127 (0,0))∧Keep NoB w w12) ⟨heap_alloc_new w2.drew _,((Keep.refl NoB w2).drew.alloc _).heap hX2 (λx=>x),K2'.drew.alloc _⟩ ?_;rintro w12 ⟨hY12,hX12,K12⟩;have hst:=run_storeCells_whole (P:=Tryz.prog) hY12 (hzl.trans hcbl.symm) hcb1;have hY13:=heap_setRow (c':=cb) hY12;have hX13:=(setRow_other w12 w2.heap.size w.heap.size cb (λe=>by omega)).trans hX12;have K13:=K12.setRow (g:=w2.heap.size) (.inr (by omega)) cb)
    simp only[wpPlan,pickL,List.getElem?_toArray,List.getElem?_cons_succ,List.getElem?_cons_zero]
    go_wp2_with fail
    refine(Hn2.out _).mono ?_
    rintro e wx ⟨rfl,hwx⟩
    subst wx
    go_wp2_with fail
    refine(Hn10.out _).mono ?_
    rintro e wx ⟨rfl,hwx⟩
    subst wx
    go_wp2_with (refine wpList_build_is rfl 127 #[(0,.tmp 40),(1,.tmp 43),(3,.tmp 45)] rfl cb (by simp only[List.map_toArray,List.map_cons,List.map_nil,List.toList_toArray];exact Hbu.out) ?_)
    go_meet
    case rel=>exact⟨w2.heap.size,rfl,h2l,hY13,hX13,K13⟩
  case rest=>
   obtain⟨Y,rfl,hYl,hY0,hX0,K0⟩:=hcut
   rw[Hcb.out,<-sidesAt_zero s]at hY0
   have HY0:=Lib.hid hY0
   have HX0:=Lib.hid hX0
   clear hY0 hX0
   go_wp2_with fail
   go_loopw [7,47] (λ_ iv wr=>∃t:Nat,t<=32∧iv= .int .i64 t∧Hid (wr.heap[Y]? =some (.cells (supCells ⟨va,vb,sidesAt s t,s.extract 50 66⟩).toArray 127 (0,0)))∧Hid (wr.heap[w.heap.size]? =some (.cells cz 127 (0,0)))∧Keep NoB w wr) (λ_ iv _=>32-(intOf iv).toNat)
   case atStart=>exact⟨0,by omega,rfl,HY0,HX0,K0⟩
   case round=>
    obtain⟨t,ht,rfl,hY,hX,K⟩:=hrel
    by_cases hlt:t<32
    ·have j3:(t:Int)<32:=by omega
     have hks:18+t<s.size:=by omega
     have hki:(18:Int)+t<s.size:=by omega
     have cY:wr.cell? ⟨Y,2+t,none⟩=some (.bool ((sidesAt s t).getD t false)):=by
      rw[cell_of_row wr Y (2+t) _ _ (0,0) hY.out]
      exact supCells_side _ t (by rw[sidesAt_len];exact hlt)
     have fY:wr.frozen? ⟨Y,2+t,none⟩=false:=by
      have h:=hY.out
      simp[World.frozen?,h]
     have hv:((s[18+t].toNat:Int)==49)=decide ((bs s).getD (18+t) 0=49):=by
      rw[bs_getD s _ hks,Bool.eq_iff_iff,beq_iff_eq,decide_eq_true_eq]
      omega
     have Hv:=Lib.hid hv
     clear hv
     go_wp2_with fail
     refine⟨⟨t+1,by omega,by go_num,Lib.hid ?_,Lib.hid (heap_setCell_other hX.out (by omega) _),K.setCell (.inr (show w.heap.size<=Y by omega)) _⟩,by simp[intOf];omega⟩
     rw[Hv.out,heap_setCell_row hY.out,supCells_set _ _ _ _ _ _ (by rw[sidesAt_len];exact hlt),sidesAt_step]
    ·obtain rfl:t=32:=by omega
     have hread:(⟨va,vb,sidesAt s 32,s.extract 50 66⟩:SupV)=readSup s:=by rw[Hva.out,Hvb.out,sidesAt_all];rfl
     have hYr:=hY.out
     rw[hread]at hYr
     have hX5:=hX.out
     have hwr:=λ(w:World) (R:RoundsVar w)=>supWrite_any key (readSup s) (readSup_sides s) w R
     have hone:=supCells_one (readSup s)
     have hoz:cz.all (·.oneCell')=true:=by rw[Hcz.out];exact supCells_one _
     have hcl:(supCells (readSup s)).toArray.size=35:=by rw[List.size_toArray];exact supCells_len _ (readSup_sides s)
     have h35r:(Tryz.prog.info? 127).map (·.size)=some (supCells (readSup s)).toArray.size:=by rw[hcl];exact info_super35
     have h35z:(Tryz.prog.info? 127).map (·.size)=some cz.size:=by rw[hzl];exact info_super35
     have hbz:Tryz.prog.built 127 []=some cz:=by rw[Hcz.out];exact built_zero
     have hvz:supVal zeroSup= .agg cz:=by rw[Hcz.out];rfl
     have hvr:supVal (readSup s)= .agg (supCells (readSup s)).toArray:=rfl
     have hpb:=λhm=>parseB_of key s hm hs
     have hPV:=HPV.out
     have hPE:=HPE.out
     rw[hvr]at hwr
     obtain⟨W,hW⟩:∃W,W=supW key (readSup s):=⟨_,rfl⟩
     obtain⟨E,hE⟩:∃E,E=supE key (readSup s):=⟨_,rfl⟩
     rw[<-hW,<-hE]at hwr
     rw[supW]at hW
     rw[supE]at hE
     obtain⟨M,hM⟩:∃M,M=supMay key (readSup s):=⟨_,rfl⟩
     rw[<-hM]at hpb hW hE
     have hMB:M=false->parseB key s=false:=λh=>by rw[parseB,<-hM,h,Bool.false_and,Bool.false_and]
     have HM:Hid (M=true->supMay key (readSup s)=true):=Lib.hid (λh=>hM.symm.trans h)
     obtain⟨cr,hcr⟩:∃cr,cr=(supCells (readSup s)).toArray:=⟨_,rfl⟩
     rw[<-hcr]at hYr hwr hone hcl h35r hvr
     have Hwr:=Lib.hid hwr
     have Hz:=Lib.hid h35z
     have Hr:=Lib.hid h35r
     have Hbz:=Lib.hid hbz
     have Hvr:=Lib.hid hvr
     have Hvz:=Lib.hid hvz
     have HhX:=Lib.hid hX5
     clear hread hwr hcr hvr hvz hX5 h35z h35r hbz HY0 HX0 K0 Hn2 Hn10 Hbu Hcb hcb1 hcbl H35 K9 hX9 Hin Hcz hlt ht hM K1 K2 K2' hX2 Htr Hml
     go_wp2_with (first|(refine wpList_load_row rfl 127 (.tmp 6) rfl Y rfl 127 cr (0,0) _ hYr Tryz.underlying127 rfl Hr.out ?_))
     have HhY:=Lib.hid hYr
     have HV:=Lib.hid hPV
     have HE:=Lib.hid hPE
     clear hYr hPV hPE hX hY HPV HPE Hva Hvb
     refine(Hwr.out _ (V.keep K (λx=>x))).mono ?_
     rintro e w5 ⟨rfl,K5⟩
     have hX5:=K5.heap HhX.out (λx=>x)
     have hY5:=K5.heap HhY.out (λx=>x)
     have K6:=K.thenN K5
     clear Hwr K5 HhX HhY K
     cases M with
     | false=>
      have hB:=hMB rfl
      have hfin:Ending.returned (.tuple #[.agg cz,errVal 15])= .returned (.tuple #[supVal PV,errVal PE]):=by
       rw[HV.out,HE.out,hB,if_neg (λh=>by cases h.2.2),if_neg (λh=>by cases h),Hvz.out]
      have Hfin:=Lib.hid hfin
      rw[if_neg (λh=>by cases h)]at hE hW
      clear hB hfin HV HE Hvr Hvz hpb hMB
      subst hE
      subst hW
      have he1:errVal 1= .iface 40 (.int .i64 1):=rfl
      go_wp2_with (first|(refine wpList_build_is rfl 127 #[] rfl cz (by simpa using Hbz.out) ?_)|(refine wpList_store_whole rfl 127 (.tmp 4) (.tmp 73) rfl w.heap.size 127 cz cz rfl rfl hX5 Hz.out 35 hzl hzl hoz ?_;have hX10:=heap_setRow (c':=cz) hX5;have K10:=K6.setRow (g:=w.heap.size) (.inr (Nat.le_refl _)) cz;refine wl_world (λw10=>w10.heap[w.heap.size]? =some (.cells cz 127 (0,0))∧Keep NoB w w10) ⟨hX10,K10⟩ ?_;clear hX10 K10;rintro w10 ⟨hX10,K10⟩))
      exact bodyPost_ret (v:= .tuple #[.agg cz,errVal 15]) (results_row_slot rfl _ w10 w.heap.size 127 cz (0,0) _ (errVal 15) rfl rfl hX10 Tryz.underlying127 rfl Hz.out) rfl ⟨Hfin.out,K10⟩
     | true=>
      rw[if_pos rfl]at hE hW
      subst hE
      have he0:errVal 0= .nilIface:=rfl
      have hMt:=HM.out rfl
      have hWl:=supT_len key _ (readSup_sides s) hMt
      have hWb:bs W=supT key (readSup s):=by
       rw[hW,bs_txt]
       rw[supT]
       exact bytes_append (bodyT_bytes _) (mark_bytes _ _)
      have HWb:=Lib.hid hWb
      have Hpb:=Lib.hid (hpb rfl)
      have hX6:=hX5
      have hY6:=hY5
      have K8:=K6
      clear hW hpb hMB hWb hX5 hY5 K6
      by_cases heq:W=s.extract 0 82
      ·have hB:parseB key s=true:=by
        rw[Hpb.out,decide_eq_true_eq,<-HWb.out,<-Hd82.out,heq,bs_extract,List.drop_zero,List.take_append_drop]
       have hb2:sameB W (s.extract 0 82)=true:=by rw[<-heq];exact toList_same W
       unfold sameB at hb2
       have hfin:Ending.returned (.tuple #[.agg cr,.nilIface])= .returned (.tuple #[supVal PV,errVal PE]):=by
        rw[HV.out,HE.out,hB,if_pos ⟨hk,hs,rfl⟩,if_pos rfl,Hvr.out]
        rfl
       have Hfin:=Lib.hid hfin
       clear heq hB hfin HV HE Hvr Hvz Hpb HWb
       go_wp2_with (first|(refine wpList_load_row rfl 127 (.tmp 6) rfl Y rfl 127 cr (0,0) _ hY6 Tryz.underlying127 rfl Hr.out ?_)|(refine wpList_store_whole rfl 127 (.tmp 4) (.tmp 75) rfl w.heap.size 127 cz cr rfl rfl hX6 Hr.out 35 hzl hcl hone ?_;have hX10:=heap_setRow (c':=cr) hX6;have K10:=K8.setRow (g:=w.heap.size) (.inr (Nat.le_refl _)) cr;refine wl_world (λw10=>w10.heap[w.heap.size]? =some (.cells cr 127 (0,0))∧Keep NoB w w10) ⟨hX10,K10⟩ ?_;clear hX10 K10;rintro w10 ⟨hX10,K10⟩))
       exact bodyPost_ret (v:= .tuple #[.agg cr,.nilIface]) (results_row_slot rfl _ w10 w.heap.size 127 cr (0,0) _ .nilIface rfl rfl hX10 Tryz.underlying127 rfl Hr.out) rfl ⟨Hfin.out,K10⟩
      ·have hB:parseB key s=false:=by
        rw[Hpb.out,decide_eq_false_iff_not]
        intro h
        refine heq (bs_inj ?_)
        rw[HWb.out,bs_extract,List.drop_zero,h,List.take_left' hWl]
       have hb2:sameB W (s.extract 0 82)=false:=toList_ne heq
       unfold sameB at hb2
       have hfin:Ending.returned (.tuple #[.agg cz,errVal 15])= .returned (.tuple #[supVal PV,errVal PE]):=by
        rw[HV.out,HE.out,hB,if_neg (λh=>by cases h.2.2),if_neg (λh=>by cases h),Hvz.out]
       have Hfin:=Lib.hid hfin
       clear heq hB hfin HV HE Hvr Hvz Hpb HWb
       go_wp2_with (first|(refine wpList_build_is rfl 127 #[] rfl cz (by simpa using Hbz.out) ?_)|(refine wpList_store_whole rfl 127 (.tmp 4) (.tmp 73) rfl w.heap.size 127 cz cz rfl rfl hX6 Hz.out 35 hzl hzl hoz ?_;have hX10:=heap_setRow (c':=cz) hX6;have K10:=K8.setRow (g:=w.heap.size) (.inr (Nat.le_refl _)) cz;refine wl_world (λw10=>w10.heap[w.heap.size]? =some (.cells cz 127 (0,0))∧Keep NoB w w10) ⟨hX10,K10⟩ ?_;clear hX10 K10;rintro w10 ⟨hX10,K10⟩))
       exact bodyPost_ret (v:= .tuple #[.agg cz,errVal 15]) (results_row_slot rfl _ w10 w.heap.size 127 cz (0,0) _ (errVal 15) rfl rfl hX10 Tryz.underlying127 rfl Hz.out) rfl ⟨Hfin.out,K10⟩
 ·have hb2:=toList_ne heq
  unfold sameB at hb2
  have hB:parseB key s=false:=by
   cases hp:parseB key s with
   | false=>rfl
   | true=>
    exfalso
    have hm:supMay key (readSup s)=true:=by
     rw[parseB,Bool.and_eq_true,Bool.and_eq_true]at hp
     exact hp.1.1
    have hl:=supT_len key _ (readSup_sides s) hm
    rw[parseB_of key s hm hs,decide_eq_true_eq]at hp
    have hbl:(bodyT (readSup s)).length=66:=by
     rw[supT,List.length_append,Cof.mark,List.length_take,sha_len]at hl
     omega
    refine heq (bs_inj ?_)
    have h66:(bs s).take 66=bodyT (readSup s):=by rw[hp,supT,List.append_assoc,List.take_left' hbl]
    rw[HG.out,bs_txt (mark_bytes _ _),HM.out,bs_extract,List.map_cons,List.map_cons,List.map_nil,bs_extract,List.drop_zero,h66,hp,supT,List.append_assoc,List.drop_left' hbl,List.take_left' (by rw[Cof.mark,List.length_take,sha_len];rfl)]
  have hfin:Ending.returned (.tuple #[.agg cz,errVal 15])= .returned (.tuple #[supVal PV,errVal PE]):=by
   rw[HPV.out,HPE.out,hB,if_neg (λh=>by cases h.2.2),if_neg (λh=>by cases h),Hcz.out]
   rfl
  have Hfin:=Lib.hid hfin
  have hbz:Tryz.prog.built 127 []=some cz:=by rw[Hcz.out];exact built_zero
  have hoz:cz.all (·.oneCell')=true:=by rw[Hcz.out];exact supCells_one _
  have h35z:(Tryz.prog.info? 127).map (·.size)=some cz.size:=by rw[hzl];exact info_super35
  have Hbz:=Lib.hid hbz
  have Hz5:=Lib.hid h35z
  rw[hb2,Bool.not_false]
  clear hB hfin heq hb2 hbz h35z
  go_wp2_with (first|(refine wpList_build_is rfl 127 #[] rfl cz (by simpa using Hbz.out) ?_)|(refine wpList_store_whole rfl 127 (.tmp 4) (.tmp 36) rfl w.heap.size 127 cz cz rfl rfl hX2 Hz5.out 35 hzl hzl hoz ?_;have hX10:=heap_setRow (c':=cz) hX2;have K10:=K2'.setRow (g:=w.heap.size) (.inr (Nat.le_refl _)) cz;refine wl_world (λw10=>w10.heap[w.heap.size]? =some (.cells cz 127 (0,0))∧Keep NoB w w10) ⟨hX10,K10⟩ ?_;clear hX10 K10;rintro w10 ⟨hX10,K10⟩))
  exact bodyPost_ret (v:= .tuple #[.agg cz,errVal 15]) (results_row_slot rfl _ w10 w.heap.size 127 cz (0,0) _ (errVal 15) rfl rfl hX10 Tryz.underlying127 rfl Hz5.out) rfl ⟨Hfin.out,K10⟩
theorem supParse_any(key s:ByteArray)(hs2:s.size<=1000)(w:World)(V:RoundsVar w):
  Calls Tryz.prog 139 #[.string key,.string s] w λe w'=>e= .returned (.tuple #[supVal (parseV key s),errVal (parseE key s)])∧Keep NoB w w':=by
 by_cases hk:key.size=32
 ·by_cases hs:s.size<82
  ·have h1:parseV key s=zeroSup:=by rw[parseV,if_neg (by omega)]
   have h2:parseE key s=15:=by rw[parseE,if_pos hk,if_pos hs]
   rw[h1,h2]
   exact supParse_short key s hk hs w
  ·by_cases hz:(bs s).drop 82=List.replicate (s.size-82) 0
   ·exact supParse_main key s hk (by omega) hs2 hz w V
   ·have hB:parseB key s=false:=by rw[parseB,decide_eq_false hz,Bool.and_false]
    have h1:parseV key s=zeroSup:=by rw[parseV,hB,if_neg (λh=>by cases h.2.2)]
    have h2:parseE key s=15:=by rw[parseE,if_pos hk,if_neg hs,hB,if_neg (λh=>by cases h)]
    rw[h1,h2]
    exact supParse_trim key s hk (by omega) hs2 hz w
 ·have h1:parseV key s=zeroSup:=by rw[parseV,if_neg (by omega)]
  have h2:parseE key s=1:=by rw[parseE,if_neg hk]
  rw[h1,h2]
  exact supParse_arg key s hk w
end Go.Proofs.YtnmhgehpddipdaaGreatDoor
