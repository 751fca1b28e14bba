import Derived.Test.YtopbkdebihcmcaaGreatDoorYAD
import Derived.Test.YtopbkdebihcmcaaGreatDoorProg
import Derived.Maps.RangeWalk
import Derived.Maps.Ext
set_option linter.unusedSimpArgs false
set_option linter.unusedVariables false
namespace Go.Proofs.YtopbkdebihcmcaaGreatDoor
open Go.RowKit
set_option maxRecDepth 100000
set_option maxHeartbeats 16000000
abbrev rD:=af×Value
def CY(p:rD):Lit×DataW Value:=(.string p.1.data.toList,.held p.2)
def encS(L:List rD):DataW Value:= .map (L.map CY)
def zh0:Value->Option (DataW Value×List MemPlace):=λv=>some (.held v,[])
def uM(L:List rD)(k:af):Option Value:=(L.find? λp=>decide (p.1=k)).map (·.2)
def JF(a b:af):Bool:=bytesBefore a.data.toList b.data.toList
def MS(k:af)(v:Value):List rD->List rD
 | []=> [(k,v)]
 | p::L=>if JF k p.1 then(k,v)::p::L else p::MS k v L
def delS(L:List rD)(k:af):List rD:=L.filter λp=> !decide (p.1=k)
def yV(L:List rD)(k:af)(v:Value):List rD:=MS k v (delS L k)
theorem data_inj{a b:af}(h:a.data.toList=b.data.toList):a=b:=iD (gU.1 h)
theorem Ku(p:rD)(k:af):(CY p).1.sameKey (.string k.data.toList)=decide (p.1=k):=by
 show(p.1.data.toList==k.data.toList)=_;by_cases h:p.1=k
 ·rw[bJ h,h,fV]
 ·rw[bV h,dS.2 (λe=>h (data_inj e))]
theorem V5(k:af):∀L:List rD,(L.map CY).find? (λp=>p.1.sameKey (.string k.data.toList))=(L.find? λp=>decide (p.1=k)).map CY
 | []=>rfl
 | p::L=>by
  rw[bF,dD,dD,Ku];cases decide (p.1=k)with
  | true=>rfl
  | false=>exact V5 k L
theorem CS(L:List rD)(k:af)(z:DataW Value):(encS L).atKey (.string k.data.toList) z=match uM L k with|some v=> .held v|none=>z:=by
 unfold DataW.atKey encS;simp only[V5,uM];cases L.find? λp=>decide (p.1=k)with
 | none=>rfl
 | some p=>rfl
theorem KI(L:List rD)(k:af):Maps.has (encS L) (.string k.data.toList)=(uM L k).isSome:=by
 rw[encS,Maps.has_eq,uM]
 induction L with
 | nil=>rfl
 | cons p L ih=>
  rw[bF,List.any_cons,dD,Ku];cases decide (p.1=k)with
  | true=>rfl
  | false=>exact ih
theorem Zh(k:af)(v:Value):∀L:List rD,DataW.insert (CY (k,v)) (L.map CY)=(MS k v L).map CY
 | []=>rfl
 | p::L=>by
  rw[bF,DataW.insert,MS];have e:(CY (k,v)).1.before (CY p).1=JF k p.1:=rfl;rw[e];cases h:JF k p.1 with
  | true=>rfl
  | false=>rw[aB (by decide),aB (by decide),Zh k v L];rfl
theorem Zw(L:List rD)(k:af):(L.map CY).filter (λp=> !p.1.sameKey (.string k.data.toList))=(delS L k).map CY:=by
 rw[List.filter_map,delS]
 congr 1
 apply lJ;intro p _;simp only[Function.comp,Ku]
theorem zht(L:List rD)(k:af)(v:Value):(encS L).put (.string k.data.toList) (.held v)=encS (yV L k v):=by unfold DataW.put encS;simp only[Zw];exact dK DataW.map (Zh k v _)
theorem zhu(L:List rD)(k:af):(encS L).del (.string k.data.toList)=encS (delS L k):=by unfold DataW.del encS;simp only[Zw]
theorem VZ(k:af)(v:Value):∀L:List rD,(MS k v L).Perm ((k,v)::L)
 | []=>jA _
 | p::L=>by
  rw[MS];split
  ·exact jA _
  ·exact((VZ k v L).cons p).trans (List.Perm.swap _ _ _)
theorem Rt{L:List rD}(hp:L.Pairwise (λp q=>p.1≠q.1)){k:af}{v:Value}(h:(k,v)∈L):uM L k=some v:=by
 induction L with
 | nil=>cases h
 | cons p L ih=>
  rw[uM,dD];by_cases e:p.1=k
  ·rw[bJ e];rcases bK.1 h with h|h
   ·rw[<-h];rfl
   ·exact absurd e ((bU.1 hp).1 _ h)
  ·rw[bV e];rcases bK.1 h with h|h
   ·rw[<-h]at e;exact absurd rfl e
   ·exact ih (bU.1 hp).2 h
theorem zg6{L:List rD}{k:af}{v:Value}(h:uM L k=some v):(k,v)∈L:=by
 unfold uM at h;cases e:L.find? λp=>decide (p.1=k)with
 | none=>rw[e]at h;cases h
 | some p=>
  rw[e]at h;have h1:=iQ e;have h2:p.1=k:=by simpa using lh e
  obtain rfl:p.2=v:=aH h;rw[<-h2];exact h1
theorem Zo(L:List rD)(k j:af):uM (delS L k) j=if j=k then none else uM L j:=by
 rw[uM,delS,List.find?_filter,uM];by_cases e:j=k
 ·subst e;rw[aP rfl]
  have:L.find? (λp=> !decide (p.1=j)&&decide (p.1=j))=none:=by rw[iH];intro p _;cases decide (p.1=j)<;>decide
  have h2:(λa:rD=>decide ((!decide (a.1=j))=true∧decide (a.1=j)=true))=λp=> !decide (p.1=j)&&decide (p.1=j):=by funext p;cases decide (p.1=j)<;>rfl
  first|(rw[h2,this];rfl)|(rw[this];rfl)
 ·rw[aB e]
  congr 2
  funext p;by_cases h:p.1=j
  ·have:¬p.1=k:=λx=>e (h.symm.trans x)
   simp[h,this,e]
  ·simp[h]
theorem Zn(k:af)(v:Value)(j:af):∀L:List rD,(∀p∈L,p.1≠k)->uM (MS k v L) j=if j=k then some v else uM L j
 | [],_=>by
  rw[MS,uM,dD];by_cases e:j=k
  ·rw[aP e,bJ e.symm];rfl
  ·rw[aB e,bV (λx=>e x.symm)];rfl
 | p::L,h=>by
  rw[MS];have ih:=Zn k v j L λq hq=>h q (aQ _ hq);split
  ·rw[uM,dD];by_cases e:j=k
   ·rw[aP e,bJ e.symm];rfl
   ·rw[aB e,bV (λx=>e x.symm)];rfl
  ·rw[uM,dD,uM,dD];by_cases e:p.1=j
   ·have:¬j=k:=λx=>h p (aY ..) (e.trans x)
    rw[bJ e,aB this]
   ·rw[bV e];exact ih
theorem ru(L:List rD)(k:af)(v:Value)(j:af):uM (yV L k v) j=if j=k then some v else uM L j:=by
 rw[yV,Zn k v j _ (λp hp=>by simpa using(fJ.1 hp).2),Zo];by_cases e:j=k
 ·rw[aP e,aP e]
 ·rw[aB e,aB e,aB e]
theorem zhv{a b:List rD}(h:encS a=encS b):a=b:=by
 have h1:a.map CY=b.map CY:=DataW.map.inj h;have hi:∀p q:rD,CY p=CY q->p=q:=λp q e=>by have e1:Lit.string p.1.data.toList=Lit.string q.1.data.toList:=dK Prod.fst e;have e2:(DataW.held p.2:DataW Value)= .held q.2:=dK Prod.snd e;exact Prod.ext (data_inj (Lit.string.inj e1)) (kE e2)
 exact(List.map_inj_right (fun {p q} e=>hi p q e)).1 h1
def oJ(w:World)(mb n:Nat)(L:List rD):Prop:=w.ownsMap Tryz.prog 9 zh0 mb n (encS L)
theorem Ym:Maps.Keyed Tryz.prog 9:=Maps.string_keyed Tryz.underlying9
theorem keyS(k:af)(hk:k.size<=maxLen):keyOf Tryz.prog 9 (.string k)=some (.string k.data.toList):=WideMaps.keyOf_string_mk Tryz.underlying9 hk
section
variable {w w':World}{mb n:Nat}{L:List rD}
theorem oJ.rising(h:oJ w mb n L):L.Pairwise (λp q=>JF p.1 q.1=true):=by obtain⟨es,he,hp,_⟩:=World.ownsMap.canon h Ym;have he:es=L.map CY:=(DataW.map.inj he).symm;rw[he,dR]at hp;exact hp
theorem oJ.pairs(h:oJ w mb n L):L.Pairwise (λp q=>p.1≠q.1):=by obtain⟨es,he,hp,_⟩:=World.ownsMap.entries h Ym;have he:es=L.map CY:=(DataW.map.inj he).symm;rw[he,dR]at hp;exact hp.imp λhab e=>hab (by show Lit.string _=Lit.string _;rw[e])
theorem oJ.len(h:oJ w mb n L):L.length<=n:=by
 obtain⟨es,clock,_,_,hs,hD⟩:=h;have h2:DataW.map (L.map CY)=DataW.map ((es.toList.map (WideElems.rg Tryz.prog 9 zh0)).foldr DataW.insert []):=hD;have h3:=dK List.length (DataW.map.inj h2);have h4:L.length=es.size:=by simpa [length_sorted]using h3
 omega
theorem oJ.lt(h:oJ w mb n L):mb<w.heap.size:=World.ownsMap.lt h
theorem oJ.keep(h:oJ w mb n L){S:Nat->Prop}(hk:Keep S w w')(hn:¬S mb):oJ w' mb n L:=by obtain⟨es,clock,hb,F,hs,hD⟩:=h;exact⟨es,clock,hk.heap hb hn,F,hs,hD⟩
theorem oJ.made(w:World):oJ (w.alloc (Obj.map #[] 0)) w.heap.size 0 []:=World.ownsMap_made _ _ _ _
theorem oJ.row_ne(h:oJ w mb n L){b:Nat}{c:Array Value}{ty:TypeId}{f:Nat×Nat}(hr:w.heap[b]? =some (.cells c ty f)):mb≠b:=by rintro rfl;obtain⟨es,clock,h1,_⟩:=h;rw[h1]at hr;cases hr
theorem oJ.update(h:oJ w mb n L){T E:TypeId}(ht:Tryz.prog.underlying T=some (.map 9 E))(hn:n<maxLen)(k:af)(hk:k.size<=maxLen)(v:Value):
  ∃w',(Instr.mapUpdate T (.map (some mb)) (.string k) v).run Tryz.prog w= .ok () w'∧oJ w' mb (n+1) (yV L k v)∧Keep (nY mb) w w':=by
 obtain⟨w',h1,h2,h3⟩:=World.ownsMap.update h Ym ht hn (keyS k hk) (d:= .held v) (ps:= []) rfl;rw[zht]at h2;exact⟨w',h1,h2,(ah _ _).grown h3 (λb hb=> .inl (aH hb).symm)⟩
theorem oJ.look(h:oJ w mb n L){T E:TypeId}(ht:Tryz.prog.underlying T=some (.map 9 E))(k:af)(hk:k.size<=maxLen){z:Value}(hz:(zeroValue E).run Tryz.prog w= .ok z w):
  (Instr.lookup T (.map (some mb)) (.string k) false).run Tryz.prog w= .ok ((uM L k).getD z) w:=by
 obtain⟨v,ps,hrun,hv⟩:=World.ownsMap.lookup h Ym ht hz (zd:= .held z) (zp:= []) rfl (keyS k hk);rw[hrun];have hv:(DataW.held v:DataW Value)=(encS L).atKey (.string k.data.toList) (.held z):=dK Prod.fst (aH hv);rw[CS]at hv;cases hg:uM L k with
 | none=>rw[hg]at hv;rw[kE hv];rfl
 | some u=>rw[hg]at hv;rw[kE hv];rfl
theorem oJ.look_ok(h:oJ w mb n L){T E:TypeId}(ht:Tryz.prog.underlying T=some (.map 9 E))(k:af)(hk:k.size<=maxLen){z:Value}(hz:(zeroValue E).run Tryz.prog w= .ok z w):
  (Instr.lookup T (.map (some mb)) (.string k) true).run Tryz.prog w= .ok (.tuple #[(uM L k).getD z,.bool (uM L k).isSome]) w:=by
 obtain⟨v,ps,hrun,hv⟩:=World.ownsMap.look_ok h Ym ht hz (zd:= .held z) (zp:= []) rfl (keyS k hk);rw[KI]at hrun;rw[hrun];have hv:(DataW.held v:DataW Value)=(encS L).atKey (.string k.data.toList) (.held z):=dK Prod.fst (aH hv);rw[CS]at hv;cases hg:uM L k with
 | none=>rw[hg]at hv;rw[kE hv];rfl
 | some u=>rw[hg]at hv;rw[kE hv];rfl
theorem oJ.drop(h:oJ w mb n L){T E:TypeId}(ht:Tryz.prog.underlying T=some (.map 9 E))(k:af)(hk:k.size<=maxLen)(ty:TypeId):
  ∃w',(Builtin.delete_ #[T,9] ty #[.map (some mb),.string k]).run Tryz.prog w= .ok (.tuple #[]) w'∧oJ w' mb n (delS L k)∧Keep (nY mb) w w':=by
 obtain⟨w',h1,h2,h3⟩:=World.ownsMap.drop h Ym ht (keyS k hk) ty;rw[zhu]at h2;obtain⟨es,clock,es',clock',hb,rfl⟩:=h3;refine⟨_,h1,h2,⟨rfl,rfl,rfl,?_,λi hi hn=> ?_⟩⟩
 ·simp[ChangeMaps.setBlock]
 ·exact ChangeMaps.heap_setBlock_other hb _ (λe=>hn e)
theorem oJ.size(h:oJ w mb n L){T E:TypeId}(ht:Tryz.prog.underlying T=some (.map 9 E))(ty:TypeId):(Builtin.len_ #[T] ty #[.map (some mb)]).run Tryz.prog w= .ok (.int .i64 (L.length:Int)) w:=by rw[World.ownsMap.len h ht ty];show Result.ok (Value.int .i64 (((L.map CY).length:Nat):Int)) w=_;rw[aI]
end
theorem zbK{a b:List rD}(ha:a.Pairwise (λp q=>JF p.1 q.1=true))(hb:b.Pairwise (λp q=>JF p.1 q.1=true))(h:∀k,uM a k=uM b k):a=b:=by
 have key:∀L:List rD,∀p∈L.map CY,WideAt.IsKeyLit p.1:=λL p hp=>by obtain⟨q,_,rfl⟩:=bf.1 hp;trivial
 have no:∀(L:List rD) (k:Lit),(∀s:List UInt8,k≠ .string s)->Maps.has (encS L) k=false:=λL k hk=>by
  rw[encS,Maps.has_eq,je];intro p hp;obtain⟨q,_,rfl⟩:=bf.1 hp;cases k with
  | string s=>exact absurd rfl (hk s)
  | _=>simp[CY,Lit.sameKey]
 refine zhv (Maps.ext ⟨_,rfl,by rw[dR];exact ha,key a⟩ ⟨_,rfl,by rw[dR];exact hb,key b⟩ (λk=> ?_) (λk z hk=> ?_))
 ·by_cases hs:∃s,k= .string s
  ·obtain⟨s,rfl⟩:=hs;have e:s=(⟨s.toArray⟩:af).data.toList:=by simp
   rw[e,KI,KI,h]
  ·rw[no a k (λs e=>hs ⟨s,e⟩),no b k (λs e=>hs ⟨s,e⟩)]
 ·by_cases hs:∃s,k= .string s
  ·obtain⟨s,rfl⟩:=hs;have e:s=(⟨s.toArray⟩:af).data.toList:=by simp
   rw[e,CS,CS,h]
  ·rw[no a k (λs e=>hs ⟨s,e⟩)]at hk;cases hk
def zu(w:World)(mb ib nm:Nat)(L:List rD)(left:Lit->Bool)(cnt:Nat):Prop:=w.ranges Tryz.prog 9 zh0 mb ib nm (encS L) left cnt
def Um(k:af):Lit:= .string k.data.toList
theorem Vz(k j:af):(Um k).sameKey (Um j)=decide (k=j):=Ku (k,.nilIface) j
section
variable {w:World}{ops:Array Oper}{rest:List Oper}{o:Oper}{a:Act}{Q:Exit->Act->World->Prop}{mb ib nm cnt:Nat}{L:List rD}{left:Lit->Bool}
theorem zu.keep{w':World}(h:zu w mb ib nm L left cnt){S:Nat->Prop}(hk:Keep S w w')(h1:¬S mb)(h2:¬S ib):zu w' mb ib nm L left cnt:=by obtain⟨es,clock,since,seen,c0,e1,e2,e3,e4,e5,e6⟩:=h;exact⟨es,clock,since,seen,c0,hk.heap e1 h1,e2,e3,e4,hk.heap e5 h2,e6⟩
theorem zu.left_eq(h:zu w mb ib nm L left cnt):w.rangeLeft mb ib=cnt:=World.ranges.left_eq h
theorem TJ(hg:o.guard=none){T E:TypeId}(ht:Tryz.prog.underlying T=some (.map 9 E))(m:Operand)(hop:o.op=Op.range T m)(hm:a.eval m= .map (some mb))(hown:oJ w mb nm L)
  (hK:∀w',zu w' mb w.heap.size nm L (Maps.has (encS L)) (Maps.size (encS L))->Keep nM w w'->w'.heap.size=w.heap.size+1->wpList Tryz.prog ops Q rest (a.put o.dst (.pointer (some ⟨w.heap.size,0,none⟩))) w'):wpList Tryz.prog ops Q (o::rest) a w:=
 wpList_range_own _ hg m T hop 9 E Ym ht _ mb nm _ hm hown λw' h1 h2 h3=>hK w' h1 ((ah _ _).grown h2 (λk hk=>by cases hk)) h3
theorem Ux(hg:o.guard=none)(it:Operand)(hop:o.op=Op.next it false)(hit:a.eval it= .pointer (some ⟨ib,0,none⟩))(h:zu w mb ib nm L left cnt)
  (hDone:(∀kl,left kl=false)->wpList Tryz.prog ops Q rest (a.put o.dst (.tuple #[.bool false])) w)
  (hMore:∀(x:af) (c:Value) (w':World) (cnt':Nat),(x,c)∈L->x.size<=maxLen->left (Um x)=true->zu w' mb ib nm L (λz=>left z&& !z.sameKey (Um x)) cnt'->cnt'<cnt->Keep (nY ib) w w'->w'.heap.size=w.heap.size->
   (Instr.entry (.pointer (some ⟨ib,0,none⟩))).run Tryz.prog w'= .ok (.tuple #[.string x,c]) w'->wpList Tryz.prog ops Q rest (a.put o.dst (.tuple #[.bool true,.string x,c])) w'):wpList Tryz.prog ops Q (o::rest) a w:=by
 have inv:∀key kl,keyOf Tryz.prog 9 key=some kl->∃x:af,key= .string x∧kl=Um x∧x.size<=maxLen:=λkey kl hk=>by
  rw[keyOf_string Tryz.underlying9]at hk;unfold mapKey at hk;rw[Tryz.underlying9]at hk;cases key with
  | string s=>
   simp only at hk;split at hk
   ·rename_i hs;exact⟨s,rfl,(aH hk).symm,hs⟩
   ·cases hk
  | _=>simp at hk
 refine wpList_next_ranges _ hg it hop 9 Ym _ Value.string (λv:Value=>v) (λkey kl hk=>by obtain⟨x,hx,_⟩:=inv key kl hk;exact⟨x,hx⟩) (λv y hv=>⟨v,rfl⟩) mb ib nm _ _ _ hit h (λ_ hl=>hDone hl) ?_;intro x c kl yd w4 cnt2 hkey hlk hv hat hrg4 hlt4 hg4 hs4 hen;obtain⟨x',hx',hkl,hsz⟩:=inv _ kl hkey;obtain rfl:x=x':=by simpa using hx'
 subst hkl;have hyd:yd.1= .held c:=by rw[<-aH hv]
 have hget:uM L x=some c:=by
  have h1:=hat (.lit (.bool true));rw[show Um x= .string x.data.toList from rfl,CS,hyd]at h1;cases hg:uM L x with
  | none=>rw[hg]at h1;cases h1
  | some s=>
   rw[hg]at h1;rw[kE h1]
 exact hMore x c w4 cnt2 (zg6 hget) hsz hlk hrg4 hlt4 ((ah _ _).grown hg4 (λk hk=> .inl (aH hk).symm)) hs4 hen
end
abbrev MW:=af×Option Value
def zie(W:List MW)(k:af):Option (Option Value):=(W.find? λp=>decide (p.1=k)).map (·.2)
def zdj(L:List rD)(p:MW):List rD:=match p.2 with
 | none=>delS L p.1
 | some v=>yV L p.1 v
def FU(A:List rD)(W:List MW):List rD:=W.foldl zdj A
theorem Ru(L:List rD)(p:MW)(k:af):uM (zdj L p) k=if k=p.1 then p.2 else uM L k:=by
 obtain⟨n,o⟩:=p;cases o with
 | none=>exact Zo L n k
 | some v=>exact ru L n v k
theorem V3(k:af):∀(W:List MW) (A:List rD),W.Pairwise (λp q=>p.1≠q.1)->uM (FU A W) k=match zie W k with|some o=>o|none=>uM A k
 | [],A,_=>rfl
 | p::W,A,hp=>by
  have hp1:=bU.1 hp;rw[FU,dO,<-FU,V3 k W _ hp1.2,Ru,zie,zie,dD];by_cases e:p.1=k
  ·have hno:W.find? (λq=>decide (q.1=k))=none:=by
    rw[iH];intro q hq;simp only[aS];exact λx=>hp1.1 q hq (e.trans x.symm)
   rw[hno,bJ e,aP e.symm];rfl
  ·rw[bV e,aB (λx=>e x.symm)]
theorem bytes_trans:∀a b c:List UInt8,bytesBefore a b=true->bytesBefore b c=true->bytesBefore a c=true
 | [],[],c,h,_=>by simp[bytesBefore]at h
 | [],_::_,[],_,h=>by simp[bytesBefore]at h
 | [],_::_,_::_,_,_=>rfl
 | _::_,[],_,h,_=>by simp[bytesBefore]at h
 | _::_,_::_,[],_,h=>by simp[bytesBefore]at h
 | x::a,y::b,z::c,h1,h2=>by
  simp only[bytesBefore,dP,aZ,aS,jP]at h1 h2⊢;rcases h1 with h1|⟨rfl,h1⟩
  ·rcases h2 with h2|⟨rfl,h2⟩
   ·exact .inl (by have:=UInt8.lt_trans h1 h2;exact this)
   ·exact .inl h1
  ·rcases h2 with h2|⟨rfl,h2⟩
   ·exact .inl h2
   ·exact .inr ⟨rfl,bytes_trans a b c h1 h2⟩
theorem bytes_total:∀a b:List UInt8,a≠b->bytesBefore a b=false->bytesBefore b a=true
 | [],[],h,_=>absurd rfl h
 | [],_::_,_,h=>by simp[bytesBefore]at h
 | _::_,[],_,_=>rfl
 | x::a,y::b,hne,h=>by
  simp only[bytesBefore,jH,Bool.and_eq_false_iff,gJ,dP,aZ,aS,jP]at h⊢;by_cases e:x=y
  ·subst e;right;refine⟨rfl,bytes_total a b (λq=>hne (by rw[q])) ?_⟩;rcases h.2 with h2|h2
   ·simp at h2
   ·exact h2
  ·left;rcases UInt8.lt_or_lt_of_ne e with h3|h3
   ·exact absurd h3 h.1
   ·exact h3
theorem Pm(k:af)(v:Value):∀L:List rD,L.Pairwise (λp q=>JF p.1 q.1=true)->(∀p∈L,p.1≠k)->(MS k v L).Pairwise (λp q=>JF p.1 q.1=true)
 | [],_,_=>lH ..
 | p::L,h,hk=>by
  have h1:=bU.1 h;rw[MS];cases hb:JF k p.1 with
  | true=>
   rw[aP rfl];refine bU.2 ⟨λq hq=> ?_,h⟩;rcases bK.1 hq with rfl|hq
   ·exact hb
   ·exact bytes_trans _ _ _ hb (h1.1 q hq)
  | false=>
   rw[aB (by decide)];refine bU.2 ⟨λq hq=> ?_,Pm k v L h1.2 λq hq=>hk q (aQ _ hq)⟩;rcases bK.1 ((VZ k v L).mem_iff.1 hq)with rfl|hq
   ·exact bytes_total _ _ (λe=>hk p (aY ..) (data_inj e).symm) hb
   ·exact h1.1 q hq
theorem Z5{L:List rD}(h:L.Pairwise (λp q=>JF p.1 q.1=true))(k:af)(v:Value):(yV L k v).Pairwise (λp q=>JF p.1 q.1=true):=
 Pm k v _ (h.filter _) λp hp=>by simpa using(fJ.1 hp).2
theorem zaw{L:List rD}(h:L.Pairwise (λp q=>JF p.1 q.1=true))(k:af):(delS L k).Pairwise (λp q=>JF p.1 q.1=true):=h.filter _
theorem Pg{L:List rD}(h:L.Pairwise (λp q=>JF p.1 q.1=true))(p:MW):(zdj L p).Pairwise (λp q=>JF p.1 q.1=true):=by
 obtain⟨n,o⟩:=p;cases o with
 | none=>exact zaw h n
 | some v=>exact Z5 h n v
theorem LW:∀(W:List MW) {A:List rD},A.Pairwise (λp q=>JF p.1 q.1=true)->(FU A W).Pairwise (λp q=>JF p.1 q.1=true)
 | [],A,h=>h
 | p::W,A,h=>by rw[FU,dO,<-FU];exact LW W (Pg h p)
structure Nr(A:List rD)(W:List MW)(left:Lit->Bool)(L:List rD):Prop where
 rise:L.Pairwise (λp q=>JF p.1 q.1=true)
 seen:∀p∈W,left (Um p.1)=false->uM L p.1=p.2
 rest:∀k,(∀p∈W,p.1=k->left (Um k)=true)->uM L k=uM A k
theorem Nr.step{A L:List rD}{W:List MW}{left:Lit->Bool}(h:Nr A W left L)(hp:W.Pairwise (λp q=>p.1≠q.1)){p:MW}(hm:p∈W):Nr A W (λz=>left z&& !z.sameKey (Um p.1)) (zdj L p):=by
 refine⟨Pg h.rise p,λq hq hl=> ?_,λk hk=> ?_⟩
 ·rw[Ru];by_cases e:q.1=p.1
  ·rw[aP e];by_cases hqp:q=p
   ·rw[hqp]
   ·exfalso;obtain⟨i,hi,rfl⟩:=jQ hq;obtain⟨j,hj,rfl⟩:=jQ hm;rcases Nat.lt_trichotomy i j with h1|h1|h1
    ·exact iR.1 hp i j hi hj h1 e
    ·subst h1;exact hqp rfl
    ·exact iR.1 hp j i hj hi h1 e.symm
  ·rw[aB e];refine h.seen q hq ?_;rw[Vz,bV e]at hl
   simpa using hl
 ·rw[Ru];have hne:¬k=p.1:=λe=>by
   have:=hk p hm e.symm;rw[e,Vz,bJ rfl]at this;simp at this
  rw[aB hne];refine h.rest k λq hq e=> ?_;have:=hk q hq e;simp only[aZ]at this;exact this.1
theorem Nr.finish{A L:List rD}{W:List MW}{left:Lit->Bool}(h:Nr A W left L)(hA:A.Pairwise (λp q=>JF p.1 q.1=true))(hp:W.Pairwise (λp q=>p.1≠q.1))(hl:∀z,left z=false):L=FU A W:=by
 refine zbK h.rise (LW W hA) λk=> ?_;rw[V3 k W A hp];unfold zie;cases hf:W.find? (λp=>decide (p.1=k))with
 | none=>
  refine h.rest k λq hq e=> ?_;have:=iH.1 hf q hq;simp[e]at this
 | some p=>
  have h1:=iQ hf;have h2:p.1=k:=by simpa using lh hf
  rw[<-h2];exact h.seen p h1 (hl _)
def qQ{α:Type}(L:List (af×α))(k:af):Option α:=(L.find? λp=>decide (p.1=k)).map (·.2)
def Eg{α:Type}(k:af)(v:α):List (af×α)->List (af×α)
 | []=> [(k,v)]
 | p::L=>if JF k p.1 then(k,v)::p::L else p::Eg k v L
def Uu{α:Type}(L:List (af×α))(k:af):List (af×α):=L.filter λp=> !decide (p.1=k)
def xN{α:Type}(L:List (af×α))(k:af)(v:α):List (af×α):=Eg k v (Uu L k)
def PU{α:Type}(L:List (af×α))(p:af×Option α):List (af×α):=match p.2 with
 | none=>Uu L p.1
 | some v=>xN L p.1 v
def qC{α:Type}(A:List (af×α))(W:List (af×Option α)):List (af×α):=W.foldl PU A
def rQ{α β:Type}(f:α->β)(L:List (af×α)):List (af×β):=L.map λp=>(p.1,f p.2)
theorem Rx{α β:Type}(f:α->β)(L:List (af×α))(k:af):qQ (rQ f L) k=(qQ L k).map f:=by unfold qQ rQ;rw[List.find?_map,Option.map_map,Option.map_map];rfl
theorem Zi{α β:Type}(f:α->β)(k:af)(v:α):∀L:List (af×α),Eg k (f v) (rQ f L)=rQ f (Eg k v L)
 | []=>rfl
 | p::L=>by
  show Eg k (f v) ((p.1,f p.2)::rQ f L)=_;rw[Eg,Eg];cases JF k p.1 with
  | true=>rfl
  | false=>
   rw[aB (by decide),aB (by decide),Zi f k v L];rfl
theorem Zx{α β:Type}(f:α->β)(L:List (af×α))(k:af):Uu (rQ f L) k=rQ f (Uu L k):=by unfold Uu rQ;rw[List.filter_map];rfl
theorem Gu{α β:Type}(f:α->β)(L:List (af×α))(k:af)(v:α):xN (rQ f L) k (f v)=rQ f (xN L k v):=by rw[xN,Zx,Zi,xN]
theorem zha{α β:Type}(f:α->β)(L:List (af×α))(p:af×Option α):PU (rQ f L) (p.1,p.2.map f)=rQ f (PU L p):=by
 obtain⟨k,o⟩:=p;cases o with
 | none=>exact Zx f L k
 | some v=>exact Gu f L k v
theorem NM{α β:Type}(f:α->β):∀(W:List (af×Option α)) (A:List (af×α)),qC (rQ f A) (rQ (Option.map f) W)=rQ f (qC A W)
 | [],_=>rfl
 | p::W,A=>by show qC (PU (rQ f A) (p.1,p.2.map f)) (rQ (Option.map f) W)=_;rw[zha,NM f W];rfl
theorem zf7(k:af)(v:Value):∀L:List rD,Eg k v L=MS k v L
 | []=>rfl
 | p::L=>by rw[Eg,MS,zf7 k v L]
theorem za5(L:List rD)(k:af)(v:Value):xN L k v=yV L k v:=zf7 k v _
theorem zlz(L:List rD)(p:MW):PU L p=zdj L p:=by
 obtain⟨k,o⟩:=p;cases o with
 | none=>rfl
 | some v=>exact za5 L k v
theorem zcV:∀(W:List MW) (A:List rD),qC A W=FU A W
 | [],_=>rfl
 | p::W,A=>by show qC (PU A p) W=FU (zdj A p) W;rw[zlz,zcV W]
def rX{α:Type}(L:List (af×α)):Prop:=L.Pairwise λp q=>JF p.1 q.1=true
theorem IA{α:Type}(k:af)(v:α):∀L:List (af×α),(Eg k v L).Perm ((k,v)::L)
 | []=>jA _
 | p::L=>by
  rw[Eg];split
  ·exact jA _
  ·exact((IA k v L).cons p).trans (List.Perm.swap _ _ _)
theorem Pn{α:Type}(k:af)(v:α):∀L:List (af×α),rX L->(∀p∈L,p.1≠k)->rX (Eg k v L)
 | [],_,_=>lH ..
 | p::L,h,hk=>by
  have h1:=bU.1 h;rw[Eg];cases hb:JF k p.1 with
  | true=>
   rw[aP rfl];refine bU.2 ⟨λq hq=> ?_,h⟩;rcases bK.1 hq with rfl|hq
   ·exact hb
   ·exact bytes_trans _ _ _ hb (h1.1 q hq)
  | false=>
   rw[aB (by decide)];refine bU.2 ⟨λq hq=> ?_,Pn k v L h1.2 λq hq=>hk q (aQ _ hq)⟩;rcases bK.1 ((IA k v L).mem_iff.1 hq)with rfl|hq
   ·exact bytes_total _ _ (λe=>hk p (aY ..) (data_inj e).symm) hb
   ·exact h1.1 q hq
theorem PD{α:Type}{L:List (af×α)}(h:rX L)(k:af):rX (Uu L k):=List.Pairwise.filter _ h
theorem AX{α:Type}{L:List (af×α)}(h:rX L)(k:af)(v:α):rX (xN L k v):=
 Pn k v _ (PD h k) λp hp=>by simpa using(fJ.1 hp).2
theorem Ph{α:Type}{L:List (af×α)}(h:rX L)(p:af×Option α):rX (PU L p):=by
 obtain⟨n,o⟩:=p;cases o with
 | none=>exact PD h n
 | some v=>exact AX h n v
theorem BL{α:Type} :∀(W:List (af×Option α)) {A:List (af×α)},rX A->rX (qC A W)
 | [],A,h=>h
 | p::W,A,h=>BL W (Ph h p)
theorem WV{a b:af}(h:JF a b=true):a≠b:=by
 rintro rfl;unfold JF at h;have irr:∀l:List UInt8,bytesBefore l l=false:=by
  intro l
  induction l with
  | nil=>rfl
  | cons x l ih=>simp[bytesBefore,ih]
 rw[irr]at h;cases h
theorem rX.ne{α:Type}{L:List (af×α)}(h:rX L):L.Pairwise λp q=>p.1≠q.1:=List.Pairwise.imp (λh=>WV h) h
theorem Ky{α:Type}{L:List (af×α)}{k:af}{v:α}(h:qQ L k=some v):(k,v)∈L:=by
 unfold qQ at h;cases e:L.find? λp=>decide (p.1=k)with
 | none=>rw[e]at h;cases h
 | some p=>
  rw[e]at h;have h1:=iQ e;have h2:p.1=k:=by simpa using lh e
  obtain rfl:p.2=v:=aH h;rw[<-h2];exact h1
theorem Zr{α:Type}(L:List (af×α))(k j:af):qQ (Uu L k) j=if j=k then none else qQ L j:=by
 unfold qQ Uu;rw[List.find?_filter];by_cases e:j=k
 ·subst e;rw[aP rfl,iH.2 (λp _=>by cases decide (p.1=j)<;>simp)];rfl
 ·rw[aB e]
  congr 2
  funext p;by_cases h:p.1=j
  ·have:¬p.1=k:=λx=>e (h.symm.trans x)
   simp[h,e]
  ·simp[h]
theorem Zq{α:Type}(k:af)(v:α)(j:af):∀L:List (af×α),(∀p∈L,p.1≠k)->qQ (Eg k v L) j=if j=k then some v else qQ L j
 | [],_=>by
  by_cases e:j=k
  ·subst e;simp[Eg,qQ]
  ·have:¬k=j:=λx=>e x.symm
   simp[Eg,qQ,e,this]
 | p::L,hk=>by
  have ih:=Zq k v j L λq hq=>hk q (aQ _ hq);have hp:=hk p (aY ..);rw[Eg];cases hb:JF k p.1 with
  | true=>
   rw[aP rfl,qQ,dD];by_cases e:j=k
   ·subst e;simp
   ·have:¬k=j:=λx=>e x.symm
    rw[aB e,bV this];rfl
  | false=>
   rw[aB (by decide),qQ,dD];by_cases e:p.1=j
   ·rw[bJ e,aB (λx=>hp (e.trans x)),qQ,dD,bJ e]
   ·rw[bV e];show qQ (Eg k v L) j=_;rw[ih];by_cases e2:j=k
    ·rw[aP e2,aP e2]
    ·rw[aB e2,aB e2,qQ,qQ,dD,bV e]
theorem Rw{α:Type}(L:List (af×α))(k:af)(v:α)(j:af):qQ (xN L k v) j=if j=k then some v else qQ L j:=by
 rw[xN,Zq k v j _ (λp hp=>by simpa using(fJ.1 hp).2),Zr];by_cases e:j=k
 ·rw[aP e,aP e]
 ·rw[aB e,aB e,aB e]
theorem Zp{α:Type}(L:List (af×α))(p:af×Option α)(k:af):qQ (PU L p) k=if k=p.1 then p.2 else qQ L k:=by
 obtain⟨n,o⟩:=p;cases o with
 | none=>exact Zr L n k
 | some v=>exact Rw L n v k
theorem NU{α:Type}(k:af):∀(W:List (af×Option α)) (A:List (af×α)),W.Pairwise (λp q=>p.1≠q.1)->qQ (qC A W) k=match qQ W k with|some o=>o|none=>qQ A k
 | [],A,_=>rfl
 | p::W,A,hp=>by
  have hp1:=bU.1 hp;rw[qC,dO,<-qC,NU k W _ hp1.2,Zp];unfold qQ;rw[dD];by_cases e:p.1=k
  ·have hno:W.find? (λq=>decide (q.1=k))=none:=by
    rw[iH];intro q hq;simp only[aS];exact λx=>hp1.1 q hq (e.trans x.symm)
   rw[hno,bJ e,aP e.symm];rfl
  ·rw[bV e,aB (λx=>e x.symm)]
theorem Tj{α:Type}{L:List (af×α)}{k:af}(h:∀p∈L,JF k p.1=true):qQ L k=none:=by
 unfold qQ;rw[iH.2 (λp hp=>by have:=WV (h p hp);simp only[aS];exact λe=>this e.symm)]
 rfl
theorem Jq{α:Type} :∀ {a b:List (af×α)},rX a->rX b->(∀k,qQ a k=qQ b k)->a=b
 | [],[],_,_,_=>rfl
 | [],q::b,_,_,h=>by have:=h q.1;rw[qQ,qQ,dD,bJ rfl]at this;cases this
 | p::a,[],_,_,h=>by have:=h p.1;rw[qQ,qQ,dD,bJ rfl]at this;cases this
 | p::a,q::b,ha,hb,h=>by
  have ha1:=bU.1 ha;have hb1:=bU.1 hb;have head:∀(r:af×α) (l:List (af×α)),qQ (r::l) r.1=some r.2:=λr l=>by rw[qQ,dD,bJ rfl];rfl
  have hpq:p.1=q.1:=by
   have m1:(p.1,p.2)∈q::b:=Ky ((h p.1).symm.trans (head p a));have m2:(q.1,q.2)∈p::a:=Ky ((h q.1).trans (head q b));rcases bK.1 m1 with m1|m1
   ·exact dK Prod.fst m1
   ·rcases bK.1 m2 with m2|m2
    ·exact(dK Prod.fst m2).symm
    ·have h1:=ha1.1 _ m2;have h2:=hb1.1 _ m1;exact absurd rfl (WV (bytes_trans _ _ _ h1 h2))
  have e:p=q:=by have h3:=h p.1;rw[head p a,hpq,head q b]at h3;exact Prod.ext hpq (aH h3)
  subst e
  congr 1
  refine Jq ha1.2 hb1.2 λk=> ?_;by_cases e:p.1=k
  ·subst e;rw[Tj ha1.1,Tj hb1.1]
  ·have:=h k;rw[qQ,qQ,dD,dD,bV e]at this;exact this
theorem zg4{α:Type}{A:List (af×α)}{W:List (af×Option α)}(hA:rX A)(hW:rX W)(k:af)(o:Option α):qC A (xN W k o)=PU (qC A W) (k,o):=by
 refine Jq (BL _ hA) (Ph (BL _ hA) _) λj=> ?_;rw[NU j _ A (AX hW k o).ne,Zp,NU j W A hW.ne,Rw];by_cases e:j=k
 ·rw[aP e];simp[e]
 ·rw[aB e,aB e]
theorem Zj{α:Type}(k:af)(v:α)(L:List (af×α)):(Eg k v L).length=L.length+1:=(IA k v L).length_eq
theorem zgT{α:Type}(L:List (af×α))(k:af)(v:α):(xN L k v).length<=L.length+1:=by rw[xN,Zj];exact Nat.succ_le_succ (iq ..)
theorem Gw{α:Type}{L:List (af×α)}{k:af}{v:α}{p:af×α}(h:p∈xN L k v):p=(k,v)∨(p∈L∧p.1≠k):=by
 rcases bK.1 ((IA k v _).mem_iff.1 h)with h|h
 ·exact .inl h
 ·have:=fJ.1 h;exact .inr ⟨this.1,by simpa using this.2⟩
theorem zg5{α:Type}{L:List (af×α)}{q:af×Option α}{p:af×α}(h:p∈PU L q):q.2=some p.2∧p.1=q.1∨p∈L:=by
 obtain⟨n,o⟩:=q;cases o with
 | none=>exact .inr (fJ.1 h).1
 | some v=>
  rcases Gw h with rfl|h
  ·exact .inl ⟨rfl,rfl⟩
  ·exact .inr h.1
theorem NP{α:Type}(P:af->α->Prop):∀(W:List (af×Option α)) {A:List (af×α)},(∀p∈A,P p.1 p.2)->(∀p∈W,∀v,p.2=some v->P p.1 v)->∀p∈qC A W,P p.1 p.2
 | [],A,hA,_=>hA
 | q::W,A,hA,hW=>by
  refine NP P W (A:=PU A q) (λp hp=> ?_) λp hp=>hW p (aQ _ hp);rcases zg5 hp with⟨h1,h2⟩|h
  ·rw[h2];exact hW q (aY ..) _ h1
  ·exact hA p h
end Go.Proofs.YtopbkdebihcmcaaGreatDoor
