import Derived.Test.YtnmhgehpddipdaaGreatDoorYAD
import Derived.Test.YtnmhgehpddipdaaGreatDoorProg
import Derived.Maps.RangeWalk
import Derived.Maps.OwnOps
import Derived.Maps.OwnSet
import Derived.Maps.Ext
import Derived.StringKeys
set_option linter.unusedSimpArgs false
set_option linter.unusedVariables false
namespace Go.Cof
open Go.RowKit
abbrev SEnt:=ByteArray×Value
def encV(p:SEnt):Lit×DataW Value:=(.string p.1.data.toList,.held p.2)
def encS(L:List SEnt):DataW Value:= .map (L.map encV)
def rawE:Value->Option (DataW Value×List MemPlace):=λv=>some (.held v,[])
def getS(L:List SEnt)(k:ByteArray):Option Value:=(L.find? λp=>decide (p.1=k)).map (·.2)
def blB(a b:ByteArray):Bool:=bytesBefore a.data.toList b.data.toList
def insS(k:ByteArray)(v:Value):List SEnt->List SEnt
 | []=> [(k,v)]
 | p::L=>if blB k p.1 then(k,v)::p::L else p::insS k v L
def delS(L:List SEnt)(k:ByteArray):List SEnt:=L.filter λp=> !decide (p.1=k)
def putS(L:List SEnt)(k:ByteArray)(v:Value):List SEnt:=insS k v (delS L k)
theorem data_inj{a b:ByteArray}(h:a.data.toList=b.data.toList):a=b:=ByteArray.ext (Array.toList_inj.1 h)
theorem same_str(p:SEnt)(k:ByteArray):(encV p).1.sameKey (.string k.data.toList)=decide (p.1=k):=by
 show(p.1.data.toList==k.data.toList)=_
 by_cases h:p.1=k
 ·rw[decide_eq_true h,h,beq_self_eq_true]
 ·rw[decide_eq_false h,beq_eq_false_iff_ne.2 (λe=>h (data_inj e))]
theorem find_encS(k:ByteArray):∀L:List SEnt,(L.map encV).find? (λp=>p.1.sameKey (.string k.data.toList))=(L.find? λp=>decide (p.1=k)).map encV
 | []=>rfl
 | p::L=>by
  rw[List.map_cons,List.find?_cons,List.find?_cons,same_str]
  cases decide (p.1=k)with
  | true=>rfl
  | false=>exact find_encS k L
theorem atKey_encS(L:List SEnt)(k:ByteArray)(z:DataW Value):(encS L).atKey (.string k.data.toList) z=match getS L k with|some v=> .held v|none=>z:=by
 unfold DataW.atKey encS
 simp only[find_encS,getS]
 cases L.find? λp=>decide (p.1=k)with
 | none=>rfl
 | some p=>rfl
theorem has_encS(L:List SEnt)(k:ByteArray):Maps.has (encS L) (.string k.data.toList)=(getS L k).isSome:=by
 rw[encS,Maps.has_eq,getS]
 induction L with
 | nil=>rfl
 | cons p L ih=>
  rw[List.map_cons,List.any_cons,List.find?_cons,same_str]
  cases decide (p.1=k)with
  | true=>rfl
  | false=>exact ih
theorem insS_enc(k:ByteArray)(v:Value):∀L:List SEnt,DataW.insert (encV (k,v)) (L.map encV)=(insS k v L).map encV
 | []=>rfl
 | p::L=>by
  rw[List.map_cons,DataW.insert,insS]
  have e:(encV (k,v)).1.before (encV p).1=blB k p.1:=rfl
  rw[e]
  cases h:blB k p.1 with
  | true=>rfl
  | false=>rw[if_neg (by decide),if_neg (by decide),insS_enc k v L];rfl
theorem delS_enc(L:List SEnt)(k:ByteArray):(L.map encV).filter (λp=> !p.1.sameKey (.string k.data.toList))=(delS L k).map encV:=by
 rw[List.filter_map,delS]
 congr 1
 apply List.filter_congr
 intro p _
 simp only[Function.comp,same_str]
theorem enc_putS(L:List SEnt)(k:ByteArray)(v:Value):(encS L).put (.string k.data.toList) (.held v)=encS (putS L k v):=by
 unfold DataW.put encS
 simp only[delS_enc]
 exact congrArg DataW.map (insS_enc k v _)
theorem enc_delS(L:List SEnt)(k:ByteArray):(encS L).del (.string k.data.toList)=encS (delS L k):=by
 unfold DataW.del encS
 simp only[delS_enc]
theorem insS_perm(k:ByteArray)(v:Value):∀L:List SEnt,(insS k v L).Perm ((k,v)::L)
 | []=>List.Perm.refl _
 | p::L=>by
  rw[insS]
  split
  ·exact List.Perm.refl _
  ·exact((insS_perm k v L).cons p).trans (List.Perm.swap _ _ _)
theorem getS_mem{L:List SEnt}(hp:L.Pairwise (λp q=>p.1≠q.1)){k:ByteArray}{v:Value}(h:(k,v)∈L):getS L k=some v:=by
 induction L with
 | nil=>cases h
 | cons p L ih=>
  rw[getS,List.find?_cons]
  by_cases e:p.1=k
  ·rw[decide_eq_true e]
   rcases List.mem_cons.1 h with h|h
   ·rw[<-h];rfl
   ·exact absurd e ((List.pairwise_cons.1 hp).1 _ h)
  ·rw[decide_eq_false e]
   rcases List.mem_cons.1 h with h|h
   ·rw[<-h]at e;exact absurd rfl e
   ·exact ih (List.pairwise_cons.1 hp).2 h
theorem mem_getS{L:List SEnt}{k:ByteArray}{v:Value}(h:getS L k=some v):(k,v)∈L:=by
 unfold getS at h
 cases e:L.find? λp=>decide (p.1=k)with
 | none=>rw[e]at h;cases h
 | some p=>
  rw[e]at h
  have h1:=List.mem_of_find?_eq_some e
  have h2:p.1=k:=by simpa using List.find?_some e
  obtain rfl:p.2=v:=Option.some.inj h
  rw[<-h2]
  exact h1
theorem getS_del(L:List SEnt)(k j:ByteArray):getS (delS L k) j=if j=k then none else getS L j:=by
 rw[getS,delS,List.find?_filter,getS]
 by_cases e:j=k
 ·subst e
  rw[if_pos rfl]
  have:L.find? (λp=> !decide (p.1=j)&&decide (p.1=j))=none:=by
   rw[List.find?_eq_none]
   intro p _
   cases decide (p.1=j)<;>decide
  have h2:(λa:SEnt=>decide ((!decide (a.1=j))=true∧decide (a.1=j)=true))=λp=> !decide (p.1=j)&&decide (p.1=j):=by
   funext p;cases decide (p.1=j)<;>rfl
  first|(rw[h2,this];rfl)|(rw[this];rfl)
 ·rw[if_neg e]
  congr 2
  funext p
  by_cases h:p.1=j
  ·have:¬p.1=k:=λx=>e (h.symm.trans x)
   simp[h,this,e]
  ·simp[h]
theorem getS_ins(k:ByteArray)(v:Value)(j:ByteArray):∀L:List SEnt,(∀p∈L,p.1≠k)->getS (insS k v L) j=if j=k then some v else getS L j
 | [],_=>by
  rw[insS,getS,List.find?_cons]
  by_cases e:j=k
  ·rw[if_pos e,decide_eq_true e.symm];rfl
  ·rw[if_neg e,decide_eq_false (λx=>e x.symm)];rfl
 | p::L,h=>by
  rw[insS]
  have ih:=getS_ins k v j L λq hq=>h q (List.mem_cons_of_mem _ hq)
  split
  ·rw[getS,List.find?_cons]
   by_cases e:j=k
   ·rw[if_pos e,decide_eq_true e.symm];rfl
   ·rw[if_neg e,decide_eq_false (λx=>e x.symm)];rfl
  ·rw[getS,List.find?_cons,getS,List.find?_cons]
   by_cases e:p.1=j
   ·have:¬j=k:=λx=>h p (List.mem_cons_self ..) (e.trans x)
    rw[decide_eq_true e,if_neg this]
   ·rw[decide_eq_false e]
    exact ih
theorem getS_put(L:List SEnt)(k:ByteArray)(v:Value)(j:ByteArray):getS (putS L k v) j=if j=k then some v else getS L j:=by
 rw[putS,getS_ins k v j _ (λp hp=>by simpa using(List.mem_filter.1 hp).2),getS_del]
 by_cases e:j=k
 ·rw[if_pos e,if_pos e]
 ·rw[if_neg e,if_neg e,if_neg e]
theorem encS_inj{a b:List SEnt}(h:encS a=encS b):a=b:=by
 have h1:a.map encV=b.map encV:=DataW.map.inj h
 have hi:∀p q:SEnt,encV p=encV q->p=q:=λp q e=>by
  have e1:Lit.string p.1.data.toList=Lit.string q.1.data.toList:=congrArg Prod.fst e
  have e2:(DataW.held p.2:DataW Value)= .held q.2:=congrArg Prod.snd e
  exact Prod.ext (data_inj (Lit.string.inj e1)) (DataW.held.inj e2)
 exact(List.map_inj_right (fun {p q} e=>hi p q e)).1 h1
end Go.Cof
namespace Go.Proofs.YtnmhgehpddipdaaGreatDoor
open Go.RowKit Go.Cof
def SMapIs(w:World)(mb n:Nat)(L:List SEnt):Prop:=w.ownsMap Tryz.prog 9 rawE mb n (encS L)
theorem lawS:Maps.Keyed Tryz.prog 9:=Maps.string_keyed Tryz.underlying9
theorem keyS(k:ByteArray)(hk:k.size<=maxLen):keyOf Tryz.prog 9 (.string k)=some (.string k.data.toList):=WideMaps.keyOf_string_mk Tryz.underlying9 hk
section
variable {w w':World}{mb n:Nat}{L:List SEnt}
theorem SMapIs.rising(h:SMapIs w mb n L):L.Pairwise (λp q=>blB p.1 q.1=true):=by
 obtain⟨es,he,hp,_⟩:=World.ownsMap.canon h lawS
 have he:es=L.map encV:=(DataW.map.inj he).symm
 rw[he,List.pairwise_map]at hp
 exact hp
theorem SMapIs.pairs(h:SMapIs w mb n L):L.Pairwise (λp q=>p.1≠q.1):=by
 obtain⟨es,he,hp,_⟩:=World.ownsMap.entries h lawS
 have he:es=L.map encV:=(DataW.map.inj he).symm
 rw[he,List.pairwise_map]at hp
 exact hp.imp λhab e=>hab (by show Lit.string _=Lit.string _;rw[e])
theorem SMapIs.len(h:SMapIs w mb n L):L.length<=n:=by
 obtain⟨es,clock,_,_,hs,hD⟩:=h
 have h2:DataW.map (L.map encV)=DataW.map ((es.toList.map (WideElems.rg Tryz.prog 9 rawE)).foldr DataW.insert []):=hD
 have h3:=congrArg List.length (DataW.map.inj h2)
 have h4:L.length=es.size:=by simpa [length_sorted]using h3
 omega
theorem SMapIs.lt(h:SMapIs w mb n L):mb<w.heap.size:=World.ownsMap.lt h
theorem SMapIs.keep(h:SMapIs w mb n L){S:Nat->Prop}(hk:Keep S w w')(hn:¬S mb):SMapIs w' mb n L:=by
 obtain⟨es,clock,hb,F,hs,hD⟩:=h
 exact⟨es,clock,hk.heap hb hn,F,hs,hD⟩
theorem SMapIs.made(w:World):SMapIs (w.alloc (Obj.map #[] 0)) w.heap.size 0 []:=World.ownsMap_made _ _ _ _
theorem SMapIs.row_ne(h:SMapIs w mb n L){b:Nat}{c:Array Value}{ty:TypeId}{f:Nat×Nat}(hr:w.heap[b]? =some (.cells c ty f)):mb≠b:=by
 rintro rfl
 obtain⟨es,clock,h1,_⟩:=h
 rw[h1]at hr
 cases hr
theorem SMapIs.update(h:SMapIs w mb n L){T E:TypeId}(ht:Tryz.prog.underlying T=some (.map 9 E))(hn:n<maxLen)(k:ByteArray)(hk:k.size<=maxLen)(v:Value):
  ∃w',(Instr.mapUpdate T (.map (some mb)) (.string k) v).run Tryz.prog w= .ok () w'∧SMapIs w' mb (n+1) (putS L k v)∧Keep (OneB mb) w w':=by
 obtain⟨w',h1,h2,h3⟩:=World.ownsMap.update h lawS ht hn (keyS k hk) (d:= .held v) (ps:= []) rfl
 rw[enc_putS]at h2
 exact⟨w',h1,h2,(Keep.refl _ _).grown h3 (λb hb=> .inl (Option.some.inj hb).symm)⟩
theorem SMapIs.look(h:SMapIs w mb n L){T E:TypeId}(ht:Tryz.prog.underlying T=some (.map 9 E))(k:ByteArray)(hk:k.size<=maxLen){z:Value}(hz:(zeroValue E).run Tryz.prog w= .ok z w):
  (Instr.lookup T (.map (some mb)) (.string k) false).run Tryz.prog w= .ok ((getS L k).getD z) w:=by
 obtain⟨v,ps,hrun,hv⟩:=World.ownsMap.lookup h lawS ht hz (zd:= .held z) (zp:= []) rfl (keyS k hk)
 rw[hrun]
 have hv:(DataW.held v:DataW Value)=(encS L).atKey (.string k.data.toList) (.held z):=congrArg Prod.fst (Option.some.inj hv)
 rw[atKey_encS]at hv
 cases hg:getS L k with
 | none=>rw[hg]at hv;rw[DataW.held.inj hv];rfl
 | some u=>rw[hg]at hv;rw[DataW.held.inj hv];rfl
theorem SMapIs.look_ok(h:SMapIs w mb n L){T E:TypeId}(ht:Tryz.prog.underlying T=some (.map 9 E))(k:ByteArray)(hk:k.size<=maxLen){z:Value}(hz:(zeroValue E).run Tryz.prog w= .ok z w):
  (Instr.lookup T (.map (some mb)) (.string k) true).run Tryz.prog w= .ok (.tuple #[(getS L k).getD z,.bool (getS L k).isSome]) w:=by
 obtain⟨v,ps,hrun,hv⟩:=World.ownsMap.look_ok h lawS ht hz (zd:= .held z) (zp:= []) rfl (keyS k hk)
 rw[has_encS]at hrun
 rw[hrun]
 have hv:(DataW.held v:DataW Value)=(encS L).atKey (.string k.data.toList) (.held z):=congrArg Prod.fst (Option.some.inj hv)
 rw[atKey_encS]at hv
 cases hg:getS L k with
 | none=>rw[hg]at hv;rw[DataW.held.inj hv];rfl
 | some u=>rw[hg]at hv;rw[DataW.held.inj hv];rfl
theorem SMapIs.drop(h:SMapIs w mb n L){T E:TypeId}(ht:Tryz.prog.underlying T=some (.map 9 E))(k:ByteArray)(hk:k.size<=maxLen)(ty:TypeId):
  ∃w',(Builtin.delete_ #[T,9] ty #[.map (some mb),.string k]).run Tryz.prog w= .ok (.tuple #[]) w'∧SMapIs w' mb n (delS L k)∧Keep (OneB mb) w w':=by
 obtain⟨w',h1,h2,h3⟩:=World.ownsMap.drop h lawS ht (keyS k hk) ty
 rw[enc_delS]at h2
 obtain⟨es,clock,es',clock',hb,rfl⟩:=h3
 refine⟨_,h1,h2,⟨rfl,rfl,rfl,?_,λi hi hn=> ?_⟩⟩
 ·simp[ChangeMaps.setBlock]
 ·exact ChangeMaps.heap_setBlock_other hb _ (λe=>hn e)
theorem SMapIs.size(h:SMapIs w mb n L){T E:TypeId}(ht:Tryz.prog.underlying T=some (.map 9 E))(ty:TypeId):(Builtin.len_ #[T] ty #[.map (some mb)]).run Tryz.prog w= .ok (.int .i64 (L.length:Int)) w:=by
 rw[World.ownsMap.len h ht ty]
 show Result.ok (Value.int .i64 (((L.map encV).length:Nat):Int)) w=_
 rw[List.length_map]
end
theorem rising_ext{a b:List SEnt}(ha:a.Pairwise (λp q=>blB p.1 q.1=true))(hb:b.Pairwise (λp q=>blB p.1 q.1=true))(h:∀k,getS a k=getS b k):a=b:=by
 have key:∀L:List SEnt,∀p∈L.map encV,WideAt.IsKeyLit p.1:=λL p hp=>by
  obtain⟨q,_,rfl⟩:=List.mem_map.1 hp
  trivial
 have no:∀(L:List SEnt) (k:Lit),(∀s:List UInt8,k≠ .string s)->Maps.has (encS L) k=false:=λL k hk=>by
  rw[encS,Maps.has_eq,List.any_eq_false]
  intro p hp
  obtain⟨q,_,rfl⟩:=List.mem_map.1 hp
  cases k with
  | string s=>exact absurd rfl (hk s)
  | _=>simp[encV,Lit.sameKey]
 refine encS_inj (Maps.ext ⟨_,rfl,by rw[List.pairwise_map];exact ha,key a⟩ ⟨_,rfl,by rw[List.pairwise_map];exact hb,key b⟩ (λk=> ?_) (λk z hk=> ?_))
 ·by_cases hs:∃s,k= .string s
  ·obtain⟨s,rfl⟩:=hs
   have e:s=(⟨s.toArray⟩:ByteArray).data.toList:=by simp
   rw[e,has_encS,has_encS,h]
  ·rw[no a k (λs e=>hs ⟨s,e⟩),no b k (λs e=>hs ⟨s,e⟩)]
 ·by_cases hs:∃s,k= .string s
  ·obtain⟨s,rfl⟩:=hs
   have e:s=(⟨s.toArray⟩:ByteArray).data.toList:=by simp
   rw[e,atKey_encS,atKey_encS,h]
  ·rw[no a k (λs e=>hs ⟨s,e⟩)]at hk;cases hk
end Go.Proofs.YtnmhgehpddipdaaGreatDoor
namespace Go.Proofs.YtnmhgehpddipdaaGreatDoor
open Go.RowKit Go.Cof
def RangingS(w:World)(mb ib nm:Nat)(L:List SEnt)(left:Lit->Bool)(cnt:Nat):Prop:=w.ranges Tryz.prog 9 rawE mb ib nm (encS L) left cnt
def strL(k:ByteArray):Lit:= .string k.data.toList
theorem same_strL(k j:ByteArray):(strL k).sameKey (strL j)=decide (k=j):=same_str (k,.nilIface) j
section
variable {w:World}{ops:Array Oper}{rest:List Oper}{o:Oper}{a:Act}{Q:Exit->Act->World->Prop}{mb ib nm cnt:Nat}{L:List SEnt}{left:Lit->Bool}
theorem RangingS.keep{w':World}(h:RangingS w mb ib nm L left cnt){S:Nat->Prop}(hk:Keep S w w')(h1:¬S mb)(h2:¬S ib):RangingS w' mb ib nm L left cnt:=by
 obtain⟨es,clock,since,seen,c0,e1,e2,e3,e4,e5,e6⟩:=h
 exact⟨es,clock,since,seen,c0,hk.heap e1 h1,e2,e3,e4,hk.heap e5 h2,e6⟩
theorem RangingS.left_eq(h:RangingS w mb ib nm L left cnt):w.rangeLeft mb ib=cnt:=World.ranges.left_eq h
theorem wpList_range_S(hg:o.guard=none){T E:TypeId}(ht:Tryz.prog.underlying T=some (.map 9 E))(m:Operand)(hop:o.op=Op.range T m)(hm:a.eval m= .map (some mb))(hown:SMapIs w mb nm L)
  (hK:∀w',RangingS w' mb w.heap.size nm L (Maps.has (encS L)) (Maps.size (encS L))->Keep NoB w w'->w'.heap.size=w.heap.size+1->wpList Tryz.prog ops Q rest (a.put o.dst (.pointer (some ⟨w.heap.size,0,none⟩))) w'):wpList Tryz.prog ops Q (o::rest) a w:=
 wpList_range_own _ hg m T hop 9 E lawS ht _ mb nm _ hm hown λw' h1 h2 h3=>hK w' h1 ((Keep.refl _ _).grown h2 (λk hk=>by cases hk)) h3
theorem wpList_next_S(hg:o.guard=none)(it:Operand)(hop:o.op=Op.next it false)(hit:a.eval it= .pointer (some ⟨ib,0,none⟩))(h:RangingS w mb ib nm L left cnt)
  (hDone:(∀kl,left kl=false)->wpList Tryz.prog ops Q rest (a.put o.dst (.tuple #[.bool false])) w)
  (hMore:∀(x:ByteArray) (c:Value) (w':World) (cnt':Nat),(x,c)∈L->x.size<=maxLen->left (strL x)=true->RangingS w' mb ib nm L (λz=>left z&& !z.sameKey (strL x)) cnt'->cnt'<cnt->Keep (OneB ib) w w'->w'.heap.size=w.heap.size->
   (Instr.entry (.pointer (some ⟨ib,0,none⟩))).run Tryz.prog w'= .ok (.tuple #[.string x,c]) w'->wpList Tryz.prog ops Q rest (a.put o.dst (.tuple #[.bool true,.string x,c])) w'):wpList Tryz.prog ops Q (o::rest) a w:=by
 have inv:∀key kl,keyOf Tryz.prog 9 key=some kl->∃x:ByteArray,key= .string x∧kl=strL x∧x.size<=maxLen:=λkey kl hk=>by
  rw[keyOf_string Tryz.underlying9]at hk
  unfold mapKey at hk
  rw[Tryz.underlying9]at hk
  cases key with
  | string s=>
   simp only at hk
   split at hk
   ·rename_i hs
    exact⟨s,rfl,(Option.some.inj hk).symm,hs⟩
   ·cases hk
  | _=>simp at hk
 refine wpList_next_ranges _ hg it hop 9 lawS _ Value.string (λv:Value=>v) (λkey kl hk=>by obtain⟨x,hx,_⟩:=inv key kl hk;exact⟨x,hx⟩) (λv y hv=>⟨v,rfl⟩) mb ib nm _ _ _ hit h (λ_ hl=>hDone hl) ?_
 intro x c kl yd w4 cnt2 hkey hlk hv hat hrg4 hlt4 hg4 hs4 hen
 obtain⟨x',hx',hkl,hsz⟩:=inv _ kl hkey
 obtain rfl:x=x':=by simpa using hx'
 subst hkl
 have hyd:yd.1= .held c:=by rw[<-Option.some.inj hv]
 have hget:getS L x=some c:=by
  have h1:=hat (.lit (.bool true))
  rw[show strL x= .string x.data.toList from rfl,atKey_encS,hyd]at h1
  cases hg:getS L x with
  | none=>rw[hg]at h1;cases h1
  | some s=>
   rw[hg]at h1
   rw[DataW.held.inj h1]
 exact hMore x c w4 cnt2 (mem_getS hget) hsz hlk hrg4 hlt4 ((Keep.refl _ _).grown hg4 (λk hk=> .inl (Option.some.inj hk).symm)) hs4 hen
end
end Go.Proofs.YtnmhgehpddipdaaGreatDoor
namespace Go.Cof
open Go.RowKit Go.Proofs.YtnmhgehpddipdaaGreatDoor
abbrev WEnt:=ByteArray×Option Value
def getW(W:List WEnt)(k:ByteArray):Option (Option Value):=(W.find? λp=>decide (p.1=k)).map (·.2)
def layW(L:List SEnt)(p:WEnt):List SEnt:=match p.2 with
 | none=>delS L p.1
 | some v=>putS L p.1 v
def nextS(A:List SEnt)(W:List WEnt):List SEnt:=W.foldl layW A
theorem getS_lay(L:List SEnt)(p:WEnt)(k:ByteArray):getS (layW L p) k=if k=p.1 then p.2 else getS L k:=by
 obtain⟨n,o⟩:=p
 cases o with
 | none=>exact getS_del L n k
 | some v=>exact getS_put L n v k
theorem getS_next(k:ByteArray):∀(W:List WEnt) (A:List SEnt),W.Pairwise (λp q=>p.1≠q.1)->getS (nextS A W) k=match getW W k with|some o=>o|none=>getS A k
 | [],A,_=>rfl
 | p::W,A,hp=>by
  have hp1:=List.pairwise_cons.1 hp
  rw[nextS,List.foldl_cons,<-nextS,getS_next k W _ hp1.2,getS_lay,getW,getW,List.find?_cons]
  by_cases e:p.1=k
  ·have hno:W.find? (λq=>decide (q.1=k))=none:=by
    rw[List.find?_eq_none]
    intro q hq
    simp only[decide_eq_true_eq]
    exact λx=>hp1.1 q hq (e.trans x.symm)
   rw[hno,decide_eq_true e,if_pos e.symm]
   rfl
  ·rw[decide_eq_false e,if_neg (λx=>e x.symm)]
theorem bytes_trans:∀a b c:List UInt8,bytesBefore a b=true->bytesBefore b c=true->bytesBefore a c=true
 | [],[],c,h,_=>by simp[bytesBefore]at h
 | [],_::_,[],_,h=>by simp[bytesBefore]at h
 | [],_::_,_::_,_,_=>rfl
 | _::_,[],_,h,_=>by simp[bytesBefore]at h
 | _::_,_::_,[],_,h=>by simp[bytesBefore]at h
 | x::a,y::b,z::c,h1,h2=>by
  simp only[bytesBefore,Bool.or_eq_true,Bool.and_eq_true,decide_eq_true_eq,beq_iff_eq]at h1 h2⊢
  rcases h1 with h1|⟨rfl,h1⟩
  ·rcases h2 with h2|⟨rfl,h2⟩
   ·exact .inl (by have:=UInt8.lt_trans h1 h2;exact this)
   ·exact .inl h1
  ·rcases h2 with h2|⟨rfl,h2⟩
   ·exact .inl h2
   ·exact .inr ⟨rfl,bytes_trans a b c h1 h2⟩
theorem bytes_total:∀a b:List UInt8,a≠b->bytesBefore a b=false->bytesBefore b a=true
 | [],[],h,_=>absurd rfl h
 | [],_::_,_,h=>by simp[bytesBefore]at h
 | _::_,[],_,_=>rfl
 | x::a,y::b,hne,h=>by
  simp only[bytesBefore,Bool.or_eq_false_iff,Bool.and_eq_false_iff,decide_eq_false_iff_not,Bool.or_eq_true,Bool.and_eq_true,decide_eq_true_eq,beq_iff_eq]at h⊢
  by_cases e:x=y
  ·subst e
   right
   refine⟨rfl,bytes_total a b (λq=>hne (by rw[q])) ?_⟩
   rcases h.2 with h2|h2
   ·simp at h2
   ·exact h2
  ·left
   rcases UInt8.lt_or_lt_of_ne e with h3|h3
   ·exact absurd h3 h.1
   ·exact h3
theorem insS_rising(k:ByteArray)(v:Value):∀L:List SEnt,L.Pairwise (λp q=>blB p.1 q.1=true)->(∀p∈L,p.1≠k)->(insS k v L).Pairwise (λp q=>blB p.1 q.1=true)
 | [],_,_=>List.pairwise_singleton ..
 | p::L,h,hk=>by
  have h1:=List.pairwise_cons.1 h
  rw[insS]
  cases hb:blB k p.1 with
  | true=>
   rw[if_pos rfl]
   refine List.pairwise_cons.2 ⟨λq hq=> ?_,h⟩
   rcases List.mem_cons.1 hq with rfl|hq
   ·exact hb
   ·exact bytes_trans _ _ _ hb (h1.1 q hq)
  | false=>
   rw[if_neg (by decide)]
   refine List.pairwise_cons.2 ⟨λq hq=> ?_,insS_rising k v L h1.2 λq hq=>hk q (List.mem_cons_of_mem _ hq)⟩
   rcases List.mem_cons.1 ((insS_perm k v L).mem_iff.1 hq)with rfl|hq
   ·exact bytes_total _ _ (λe=>hk p (List.mem_cons_self ..) (data_inj e).symm) hb
   ·exact h1.1 q hq
theorem putS_rising{L:List SEnt}(h:L.Pairwise (λp q=>blB p.1 q.1=true))(k:ByteArray)(v:Value):(putS L k v).Pairwise (λp q=>blB p.1 q.1=true):=
 insS_rising k v _ (h.filter _) λp hp=>by simpa using(List.mem_filter.1 hp).2
theorem delS_rising{L:List SEnt}(h:L.Pairwise (λp q=>blB p.1 q.1=true))(k:ByteArray):(delS L k).Pairwise (λp q=>blB p.1 q.1=true):=h.filter _
theorem layW_rising{L:List SEnt}(h:L.Pairwise (λp q=>blB p.1 q.1=true))(p:WEnt):(layW L p).Pairwise (λp q=>blB p.1 q.1=true):=by
 obtain⟨n,o⟩:=p
 cases o with
 | none=>exact delS_rising h n
 | some v=>exact putS_rising h n v
theorem nextS_rising:∀(W:List WEnt) {A:List SEnt},A.Pairwise (λp q=>blB p.1 q.1=true)->(nextS A W).Pairwise (λp q=>blB p.1 q.1=true)
 | [],A,h=>h
 | p::W,A,h=>by rw[nextS,List.foldl_cons,<-nextS];exact nextS_rising W (layW_rising h p)
structure OverIs(A:List SEnt)(W:List WEnt)(left:Lit->Bool)(L:List SEnt):Prop where
 rise:L.Pairwise (λp q=>blB p.1 q.1=true)
 seen:∀p∈W,left (strL p.1)=false->getS L p.1=p.2
 rest:∀k,(∀p∈W,p.1=k->left (strL k)=true)->getS L k=getS A k
theorem OverIs.step{A L:List SEnt}{W:List WEnt}{left:Lit->Bool}(h:OverIs A W left L)(hp:W.Pairwise (λp q=>p.1≠q.1)){p:WEnt}(hm:p∈W):OverIs A W (λz=>left z&& !z.sameKey (strL p.1)) (layW L p):=by
 refine⟨layW_rising h.rise p,λq hq hl=> ?_,λk hk=> ?_⟩
 ·rw[getS_lay]
  by_cases e:q.1=p.1
  ·rw[if_pos e]
   by_cases hqp:q=p
   ·rw[hqp]
   ·exfalso
    obtain⟨i,hi,rfl⟩:=List.getElem_of_mem hq
    obtain⟨j,hj,rfl⟩:=List.getElem_of_mem hm
    rcases Nat.lt_trichotomy i j with h1|h1|h1
    ·exact List.pairwise_iff_getElem.1 hp i j hi hj h1 e
    ·subst h1;exact hqp rfl
    ·exact List.pairwise_iff_getElem.1 hp j i hj hi h1 e.symm
  ·rw[if_neg e]
   refine h.seen q hq ?_
   rw[same_strL,decide_eq_false e]at hl
   simpa using hl
 ·rw[getS_lay]
  have hne:¬k=p.1:=λe=>by
   have:=hk p hm e.symm
   rw[e,same_strL,decide_eq_true rfl]at this
   simp at this
  rw[if_neg hne]
  refine h.rest k λq hq e=> ?_
  have:=hk q hq e
  simp only[Bool.and_eq_true]at this
  exact this.1
theorem OverIs.finish{A L:List SEnt}{W:List WEnt}{left:Lit->Bool}(h:OverIs A W left L)(hA:A.Pairwise (λp q=>blB p.1 q.1=true))(hp:W.Pairwise (λp q=>p.1≠q.1))(hl:∀z,left z=false):L=nextS A W:=by
 refine rising_ext h.rise (nextS_rising W hA) λk=> ?_
 rw[getS_next k W A hp]
 unfold getW
 cases hf:W.find? (λp=>decide (p.1=k))with
 | none=>
  refine h.rest k λq hq e=> ?_
  have:=List.find?_eq_none.1 hf q hq
  simp[e]at this
 | some p=>
  have h1:=List.mem_of_find?_eq_some hf
  have h2:p.1=k:=by simpa using List.find?_some hf
  rw[<-h2]
  exact h.seen p h1 (hl _)
def getG{α:Type}(L:List (ByteArray×α))(k:ByteArray):Option α:=(L.find? λp=>decide (p.1=k)).map (·.2)
def insG{α:Type}(k:ByteArray)(v:α):List (ByteArray×α)->List (ByteArray×α)
 | []=> [(k,v)]
 | p::L=>if blB k p.1 then(k,v)::p::L else p::insG k v L
def delG{α:Type}(L:List (ByteArray×α))(k:ByteArray):List (ByteArray×α):=L.filter λp=> !decide (p.1=k)
def putG{α:Type}(L:List (ByteArray×α))(k:ByteArray)(v:α):List (ByteArray×α):=insG k v (delG L k)
def layG{α:Type}(L:List (ByteArray×α))(p:ByteArray×Option α):List (ByteArray×α):=match p.2 with
 | none=>delG L p.1
 | some v=>putG L p.1 v
def nextG{α:Type}(A:List (ByteArray×α))(W:List (ByteArray×Option α)):List (ByteArray×α):=W.foldl layG A
def mapG{α β:Type}(f:α->β)(L:List (ByteArray×α)):List (ByteArray×β):=L.map λp=>(p.1,f p.2)
theorem getG_map{α β:Type}(f:α->β)(L:List (ByteArray×α))(k:ByteArray):getG (mapG f L) k=(getG L k).map f:=by
 unfold getG mapG
 rw[List.find?_map,Option.map_map,Option.map_map]
 rfl
theorem insG_map{α β:Type}(f:α->β)(k:ByteArray)(v:α):∀L:List (ByteArray×α),insG k (f v) (mapG f L)=mapG f (insG k v L)
 | []=>rfl
 | p::L=>by
  show insG k (f v) ((p.1,f p.2)::mapG f L)=_
  rw[insG,insG]
  cases blB k p.1 with
  | true=>rfl
  | false=>
   rw[if_neg (by decide),if_neg (by decide),insG_map f k v L]
   rfl
theorem delG_map{α β:Type}(f:α->β)(L:List (ByteArray×α))(k:ByteArray):delG (mapG f L) k=mapG f (delG L k):=by
 unfold delG mapG
 rw[List.filter_map]
 rfl
theorem putG_map{α β:Type}(f:α->β)(L:List (ByteArray×α))(k:ByteArray)(v:α):putG (mapG f L) k (f v)=mapG f (putG L k v):=by
 rw[putG,delG_map,insG_map,putG]
theorem layG_map{α β:Type}(f:α->β)(L:List (ByteArray×α))(p:ByteArray×Option α):layG (mapG f L) (p.1,p.2.map f)=mapG f (layG L p):=by
 obtain⟨k,o⟩:=p
 cases o with
 | none=>exact delG_map f L k
 | some v=>exact putG_map f L k v
theorem nextG_map{α β:Type}(f:α->β):∀(W:List (ByteArray×Option α)) (A:List (ByteArray×α)),nextG (mapG f A) (mapG (Option.map f) W)=mapG f (nextG A W)
 | [],_=>rfl
 | p::W,A=>by
  show nextG (layG (mapG f A) (p.1,p.2.map f)) (mapG (Option.map f) W)=_
  rw[layG_map,nextG_map f W]
  rfl
theorem insG_S(k:ByteArray)(v:Value):∀L:List SEnt,insG k v L=insS k v L
 | []=>rfl
 | p::L=>by rw[insG,insS,insG_S k v L]
theorem putG_S(L:List SEnt)(k:ByteArray)(v:Value):putG L k v=putS L k v:=insG_S k v _
theorem layG_S(L:List SEnt)(p:WEnt):layG L p=layW L p:=by
 obtain⟨k,o⟩:=p
 cases o with
 | none=>rfl
 | some v=>exact putG_S L k v
theorem nextG_S:∀(W:List WEnt) (A:List SEnt),nextG A W=nextS A W
 | [],_=>rfl
 | p::W,A=>by
  show nextG (layG A p) W=nextS (layW A p) W
  rw[layG_S,nextG_S W]
def RisesG{α:Type}(L:List (ByteArray×α)):Prop:=L.Pairwise λp q=>blB p.1 q.1=true
theorem insG_perm{α:Type}(k:ByteArray)(v:α):∀L:List (ByteArray×α),(insG k v L).Perm ((k,v)::L)
 | []=>List.Perm.refl _
 | p::L=>by
  rw[insG]
  split
  ·exact List.Perm.refl _
  ·exact((insG_perm k v L).cons p).trans (List.Perm.swap _ _ _)
theorem insG_rising{α:Type}(k:ByteArray)(v:α):∀L:List (ByteArray×α),RisesG L->(∀p∈L,p.1≠k)->RisesG (insG k v L)
 | [],_,_=>List.pairwise_singleton ..
 | p::L,h,hk=>by
  have h1:=List.pairwise_cons.1 h
  rw[insG]
  cases hb:blB k p.1 with
  | true=>
   rw[if_pos rfl]
   refine List.pairwise_cons.2 ⟨λq hq=> ?_,h⟩
   rcases List.mem_cons.1 hq with rfl|hq
   ·exact hb
   ·exact bytes_trans _ _ _ hb (h1.1 q hq)
  | false=>
   rw[if_neg (by decide)]
   refine List.pairwise_cons.2 ⟨λq hq=> ?_,insG_rising k v L h1.2 λq hq=>hk q (List.mem_cons_of_mem _ hq)⟩
   rcases List.mem_cons.1 ((insG_perm k v L).mem_iff.1 hq)with rfl|hq
   ·exact bytes_total _ _ (λe=>hk p (List.mem_cons_self ..) (data_inj e).symm) hb
   ·exact h1.1 q hq
theorem delG_rising{α:Type}{L:List (ByteArray×α)}(h:RisesG L)(k:ByteArray):RisesG (delG L k):=List.Pairwise.filter _ h
theorem putG_rising{α:Type}{L:List (ByteArray×α)}(h:RisesG L)(k:ByteArray)(v:α):RisesG (putG L k v):=
 insG_rising k v _ (delG_rising h k) λp hp=>by simpa using(List.mem_filter.1 hp).2
theorem layG_rising{α:Type}{L:List (ByteArray×α)}(h:RisesG L)(p:ByteArray×Option α):RisesG (layG L p):=by
 obtain⟨n,o⟩:=p
 cases o with
 | none=>exact delG_rising h n
 | some v=>exact putG_rising h n v
theorem nextG_rising{α:Type} :∀(W:List (ByteArray×Option α)) {A:List (ByteArray×α)},RisesG A->RisesG (nextG A W)
 | [],A,h=>h
 | p::W,A,h=>nextG_rising W (layG_rising h p)
theorem blB_ne{a b:ByteArray}(h:blB a b=true):a≠b:=by
 rintro rfl
 unfold blB at h
 have irr:∀l:List UInt8,bytesBefore l l=false:=by
  intro l
  induction l with
  | nil=>rfl
  | cons x l ih=>simp[bytesBefore,ih]
 rw[irr]at h
 cases h
theorem RisesG.ne{α:Type}{L:List (ByteArray×α)}(h:RisesG L):L.Pairwise λp q=>p.1≠q.1:=List.Pairwise.imp (λh=>blB_ne h) h
theorem mem_getG{α:Type}{L:List (ByteArray×α)}{k:ByteArray}{v:α}(h:getG L k=some v):(k,v)∈L:=by
 unfold getG at h
 cases e:L.find? λp=>decide (p.1=k)with
 | none=>rw[e]at h;cases h
 | some p=>
  rw[e]at h
  have h1:=List.mem_of_find?_eq_some e
  have h2:p.1=k:=by simpa using List.find?_some e
  obtain rfl:p.2=v:=Option.some.inj h
  rw[<-h2]
  exact h1
theorem getG_del{α:Type}(L:List (ByteArray×α))(k j:ByteArray):getG (delG L k) j=if j=k then none else getG L j:=by
 unfold getG delG
 rw[List.find?_filter]
 by_cases e:j=k
 ·subst e
  rw[if_pos rfl,List.find?_eq_none.2 (λp _=>by cases decide (p.1=j)<;>simp)]
  rfl
 ·rw[if_neg e]
  congr 2
  funext p
  by_cases h:p.1=j
  ·have:¬p.1=k:=λx=>e (h.symm.trans x)
   simp[h,e]
  ·simp[h]
theorem getG_ins{α:Type}(k:ByteArray)(v:α)(j:ByteArray):∀L:List (ByteArray×α),(∀p∈L,p.1≠k)->getG (insG k v L) j=if j=k then some v else getG L j
 | [],_=>by
  by_cases e:j=k
  ·subst e;simp[insG,getG]
  ·have:¬k=j:=λx=>e x.symm
   simp[insG,getG,e,this]
 | p::L,hk=>by
  have ih:=getG_ins k v j L λq hq=>hk q (List.mem_cons_of_mem _ hq)
  have hp:=hk p (List.mem_cons_self ..)
  rw[insG]
  cases hb:blB k p.1 with
  | true=>
   rw[if_pos rfl,getG,List.find?_cons]
   by_cases e:j=k
   ·subst e;simp
   ·have:¬k=j:=λx=>e x.symm
    rw[if_neg e,decide_eq_false this]
    rfl
  | false=>
   rw[if_neg (by decide),getG,List.find?_cons]
   by_cases e:p.1=j
   ·rw[decide_eq_true e,if_neg (λx=>hp (e.trans x)),getG,List.find?_cons,decide_eq_true e]
   ·rw[decide_eq_false e]
    show getG (insG k v L) j=_
    rw[ih]
    by_cases e2:j=k
    ·rw[if_pos e2,if_pos e2]
    ·rw[if_neg e2,if_neg e2,getG,getG,List.find?_cons,decide_eq_false e]
theorem getG_put{α:Type}(L:List (ByteArray×α))(k:ByteArray)(v:α)(j:ByteArray):getG (putG L k v) j=if j=k then some v else getG L j:=by
 rw[putG,getG_ins k v j _ (λp hp=>by simpa using(List.mem_filter.1 hp).2),getG_del]
 by_cases e:j=k
 ·rw[if_pos e,if_pos e]
 ·rw[if_neg e,if_neg e,if_neg e]
theorem getG_lay{α:Type}(L:List (ByteArray×α))(p:ByteArray×Option α)(k:ByteArray):getG (layG L p) k=if k=p.1 then p.2 else getG L k:=by
 obtain⟨n,o⟩:=p
 cases o with
 | none=>exact getG_del L n k
 | some v=>exact getG_put L n v k
theorem getG_next{α:Type}(k:ByteArray):∀(W:List (ByteArray×Option α)) (A:List (ByteArray×α)),W.Pairwise (λp q=>p.1≠q.1)->getG (nextG A W) k=match getG W k with|some o=>o|none=>getG A k
 | [],A,_=>rfl
 | p::W,A,hp=>by
  have hp1:=List.pairwise_cons.1 hp
  rw[nextG,List.foldl_cons,<-nextG,getG_next k W _ hp1.2,getG_lay]
  unfold getG
  rw[List.find?_cons]
  by_cases e:p.1=k
  ·have hno:W.find? (λq=>decide (q.1=k))=none:=by
    rw[List.find?_eq_none]
    intro q hq
    simp only[decide_eq_true_eq]
    exact λx=>hp1.1 q hq (e.trans x.symm)
   rw[hno,decide_eq_true e,if_pos e.symm]
   rfl
  ·rw[decide_eq_false e,if_neg (λx=>e x.symm)]
theorem getG_small{α:Type}{L:List (ByteArray×α)}{k:ByteArray}(h:∀p∈L,blB k p.1=true):getG L k=none:=by
 unfold getG
 rw[List.find?_eq_none.2 (λp hp=>by
  have:=blB_ne (h p hp)
  simp only[decide_eq_true_eq]
  exact λe=>this e.symm)]
 rfl
theorem risesG_ext{α:Type} :∀ {a b:List (ByteArray×α)},RisesG a->RisesG b->(∀k,getG a k=getG b k)->a=b
 | [],[],_,_,_=>rfl
 | [],q::b,_,_,h=>by
  have:=h q.1
  rw[getG,getG,List.find?_cons,decide_eq_true rfl]at this
  cases this
 | p::a,[],_,_,h=>by
  have:=h p.1
  rw[getG,getG,List.find?_cons,decide_eq_true rfl]at this
  cases this
 | p::a,q::b,ha,hb,h=>by
  have ha1:=List.pairwise_cons.1 ha
  have hb1:=List.pairwise_cons.1 hb
  have head:∀(r:ByteArray×α) (l:List (ByteArray×α)),getG (r::l) r.1=some r.2:=λr l=>by
   rw[getG,List.find?_cons,decide_eq_true rfl]
   rfl
  have hpq:p.1=q.1:=by
   have m1:(p.1,p.2)∈q::b:=mem_getG ((h p.1).symm.trans (head p a))
   have m2:(q.1,q.2)∈p::a:=mem_getG ((h q.1).trans (head q b))
   rcases List.mem_cons.1 m1 with m1|m1
   ·exact congrArg Prod.fst m1
   ·rcases List.mem_cons.1 m2 with m2|m2
    ·exact(congrArg Prod.fst m2).symm
    ·have h1:=ha1.1 _ m2
     have h2:=hb1.1 _ m1
     exact absurd rfl (blB_ne (bytes_trans _ _ _ h1 h2))
  have e:p=q:=by
   have h3:=h p.1
   rw[head p a,hpq,head q b]at h3
   exact Prod.ext hpq (Option.some.inj h3)
  subst e
  congr 1
  refine risesG_ext ha1.2 hb1.2 λk=> ?_
  by_cases e:p.1=k
  ·subst e
   rw[getG_small ha1.1,getG_small hb1.1]
  ·have:=h k
   rw[getG,getG,List.find?_cons,List.find?_cons,decide_eq_false e]at this
   exact this
theorem next_put{α:Type}{A:List (ByteArray×α)}{W:List (ByteArray×Option α)}(hA:RisesG A)(hW:RisesG W)(k:ByteArray)(o:Option α):nextG A (putG W k o)=layG (nextG A W) (k,o):=by
 refine risesG_ext (nextG_rising _ hA) (layG_rising (nextG_rising _ hA) _) λj=> ?_
 rw[getG_next j _ A (putG_rising hW k o).ne,getG_lay,getG_next j W A hW.ne,getG_put]
 by_cases e:j=k
 ·rw[if_pos e];simp[e]
 ·rw[if_neg e,if_neg e]
theorem insG_len{α:Type}(k:ByteArray)(v:α)(L:List (ByteArray×α)):(insG k v L).length=L.length+1:=(insG_perm k v L).length_eq
theorem putG_len{α:Type}(L:List (ByteArray×α))(k:ByteArray)(v:α):(putG L k v).length<=L.length+1:=by
 rw[putG,insG_len]
 exact Nat.succ_le_succ (List.length_filter_le ..)
theorem mem_putG{α:Type}{L:List (ByteArray×α)}{k:ByteArray}{v:α}{p:ByteArray×α}(h:p∈putG L k v):p=(k,v)∨(p∈L∧p.1≠k):=by
 rcases List.mem_cons.1 ((insG_perm k v _).mem_iff.1 h)with h|h
 ·exact .inl h
 ·have:=List.mem_filter.1 h
  exact .inr ⟨this.1,by simpa using this.2⟩
theorem mem_layG{α:Type}{L:List (ByteArray×α)}{q:ByteArray×Option α}{p:ByteArray×α}(h:p∈layG L q):q.2=some p.2∧p.1=q.1∨p∈L:=by
 obtain⟨n,o⟩:=q
 cases o with
 | none=>exact .inr (List.mem_filter.1 h).1
 | some v=>
  rcases mem_putG h with rfl|h
  ·exact .inl ⟨rfl,rfl⟩
  ·exact .inr h.1
theorem mem_nextG{α:Type}(P:ByteArray->α->Prop):∀(W:List (ByteArray×Option α)) {A:List (ByteArray×α)},(∀p∈A,P p.1 p.2)->(∀p∈W,∀v,p.2=some v->P p.1 v)->∀p∈nextG A W,P p.1 p.2
 | [],A,hA,_=>hA
 | q::W,A,hA,hW=>by
  refine mem_nextG P W (A:=layG A q) (λp hp=> ?_) λp hp=>hW p (List.mem_cons_of_mem _ hp)
  rcases mem_layG hp with⟨h1,h2⟩|h
  ·rw[h2];exact hW q (List.mem_cons_self ..) _ h1
  ·exact hA p h
end Go.Cof
