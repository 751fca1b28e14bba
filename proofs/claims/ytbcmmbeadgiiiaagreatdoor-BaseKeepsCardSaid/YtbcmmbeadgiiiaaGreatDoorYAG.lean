import Derived.Test.YtbcmmbeadgiiiaaGreatDoorYAD
import Derived.Maps.RangeWalk
import Derived.Maps.Ext
set_option linter.all false
namespace Go.Proofs.YtbcmmbeadgiiiaaGreatDoor
open Go.RowKit Tryz
set_option maxRecDepth 100000
set_option maxHeartbeats 16000000
variable{left:Lit->Bool}{S:Nat->Prop}{E T:aB}{a b k:af}{v z:ay}
abbrev vP:=af×ay
def IK(p:vP):Lit×DataW ay:=(.string p.1.data.toList,.held p.2)
def encS(L:List vP):DataW ay:= .map (L.map IK)
def zqp:ay->Option (DataW ay×List MemPlace):=λv=>some (.held v,[])
def zt(L:List vP)(k:af):Option ay:=(L.find? λp=>decide (p.1=k)).map (·.2)
def Qk(a b:af):Bool:=bytesBefore a.data.toList b.data.toList
def Vt(k:af)(v:ay):List vP->List vP
 | []=> [(k,v)]
 | p::L=>if Qk k p.1 then(k,v)::p::L else p::Vt k v L
def zeb(L:List vP)(k:af):List vP:=L.filter λp=> !decide (p.1=k)
def zdW(L:List vP)(k:af)(v:ay):List vP:=Vt k v (zeb L k)
def data_inj(h:a.data.toList=b.data.toList):a=b:=jk (iR.1 h)
def Ul(p:vP)(k:af):(IK p).1.sameKey (.string k.data.toList)=decide (p.1=k):=by
 show(p.1.data.toList==k.data.toList)=_;by_cases h:p.1=k
 ·rw[bF h,h,fF]
 rw[cO h,eu.2 (λe=>h (data_inj e))]
def zdF(k:af):∀L:List vP,(L.map IK).find? (λp=>p.1.sameKey (.string k.data.toList))=(L.find? λp=>decide (p.1=k)).map IK
 | []=>rfl
 | p::L=>by
  rw[bH,eP,eP,Ul];cases decide (p.1=k)with
  | true=>rfl
  | false=>exact zdF k L
def Iy(L:List vP)(k:af)(z:DataW ay):(encS L).atKey (.string k.data.toList) z=match zt L k with|some v=> .held v|none=>z:=by
 unfold DataW.atKey encS;simp only[zdF,zt];cases L.find? λp=>decide (p.1=k)with
 | none=>rfl
 | some p=>rfl
def Ut(L:List vP)(k:af):Maps.has (encS L) (.string k.data.toList)=(zt L k).isSome:=by
 rw[encS,qg,zt]
 induction L with
 | nil=>rfl
 | cons p L ih=>
  rw[bH,List.any_cons,eP,Ul];cases decide (p.1=k)with
  | true=>rfl
  | false=>exact ih
def zgZ(k:af)(v:ay):∀L:List vP,DataW.insert (IK (k,v)) (L.map IK)=(Vt k v L).map IK
 | []=>rfl
 | p::L=>by
  rw[bH,DataW.insert,Vt];have e:(IK (k,v)).1.before (IK p).1=Qk k p.1:=rfl;rw[e];cases h:Qk k p.1 with
  | true=>rfl
  | false=>rw[aV (by decide),aV (by decide),zgZ k v L];rfl
def zhb(L:List vP)(k:af):(L.map IK).filter (λp=> !p.1.sameKey (.string k.data.toList))=(zeb L k).map IK:=by
 rw[mM,zeb]
 congr 1
 apply mO;intro p _;simp only[Function.comp,Ul]
def zp2(L:List vP)(k:af)(v:ay):(encS L).put (.string k.data.toList) (.held v)=encS (zdW L k v):=by unfold DataW.put encS;simp only[zhb];exact dB DataW.map (zgZ k v _)
def zp3(L:List vP)(k:af):(encS L).del (.string k.data.toList)=encS (zeb L k):=by unfold DataW.del encS;simp only[zhb]
def zdB(k:af)(v:ay):∀L:List vP,(Vt k v L).Perm ((k,v)::L)
 | []=>kC _
 | p::L=>by
  rw[Vt];split
  ·exact kC _
  exact((zdB k v L).cons p).t (List.Perm.swap _ _ _)
def zas{L:List vP}(hp:L.Pairwise (λp q=>p.1≠q.1))(h:(k,v)∈L):zt L k=some v:=by
 induction L with
 | nil=>cases h
 | cons p L ih=>
  rw[zt,eP];by_cases e:p.1=k
  ·rw[bF e];rcases dO.1 h with h|h
   ·rw[<-h];rfl
   exact absurd e ((dR.1 hp).1 _ h)
  rw[cO e];rcases dO.1 h with h|h
  ·rw[<-h]at e;exact absurd rfl e
  exact ih (dR.1 hp).2 h
def zpJ{L:List vP}(h:zt L k=some v):(k,v)∈L:=by
 unfold zt at h;cases e:L.find? λp=>decide (p.1=k)with
 | none=>rw[e]at h;cases h
 | some p=>
  rw[e]at h;have h1:=jY e;have h2:p.1=k:=by simpa using nR e
  obtain rfl:p.2=v:=aU h;rw[<-h2];exact h1
def zg5(L:List vP)(k j:af):zt (zeb L k) j=if j=k then none else zt L j:=by
 rw[zt,zeb,List.find?_filter,zt];by_cases e:j=k
 ·subst e;rw[bu rfl]
  have:L.find? (λp=> !decide (p.1=j)&&decide (p.1=j))=none:=by rw[jf];intro p _;cases decide (p.1=j)<;>decide
  have h2:(λa:vP=>decide ((!decide (a.1=j))=true∧decide (a.1=j)=true))=λp=> !decide (p.1=j)&&decide (p.1=j):=by funext p;cases decide (p.1=j)<;>rfl
  first|(rw[h2,this];rfl)|(rw[this];rfl)
 rw[aV e]
 congr 2
 funext p;by_cases h:p.1=j
 ·have:¬p.1=k:=λx=>e (h.s.t x)
  simp[h,this,e]
 simp[h]
def zg4(k:af)(v:ay)(j:af):∀L:List vP,(∀p∈L,p.1≠k)->zt (Vt k v L) j=if j=k then some v else zt L j
 | [],_=>by
  rw[Vt,zt,eP];by_cases e:j=k
  ·rw[bu e,bF e.s];rfl
  rw[aV e,cO (λx=>e x.s)];rfl
 | p::L,h=>by
  rw[Vt];have ih:=zg4 k v j L λq hq=>h q (bD _ hq);split
  ·rw[zt,eP];by_cases e:j=k
   ·rw[bu e,bF e.s];rfl
   rw[aV e,cO (λx=>e x.s)];rfl
  rw[zt,eP,zt,eP];by_cases e:p.1=j
  ·have:¬j=k:=λx=>h p (bW ..) (e.t x)
   rw[bF e,aV this]
  rw[cO e];exact ih
def zpV(L:List vP)(k:af)(v:ay)(j:af):zt (zdW L k v) j=if j=k then some v else zt L j:=by
 rw[zdW,zg4 k v j _ (λp hp=>by simpa using(gy.1 hp).2),zg5];by_cases e:j=k
 ·rw[bu e,bu e]
 rw[aV e,aV e,aV e]
def zp4{a b:List vP}(h:encS a=encS b):a=b:=by
 have h1:a.map IK=b.map IK:=DataW.map.inj h;have hi:∀p q:vP,IK p=IK q->p=q:=λp q e=>by have e1:Lit.string p.1.data.toList=Lit.string q.1.data.toList:=dB Prod.fst e;have e2:(DataW.held p.2:DataW ay)= .held q.2:=dB Prod.snd e;exact Prod.ext (data_inj (Lit.string.inj e1)) (mW e2)
 exact(List.map_inj_right (fun {p q} e=>hi p q e)).1 h1
def sF(w:ax)(mb n:Nat)(L:List vP):Prop:=w.ownsMap prog 9 zqp mb n (encS L)
def zfD:Maps.Keyed prog 9:=Maps.string_keyed bK
def zqr(k:af)(hk:k.size<=maxLen):keyOf prog 9 (.string k)=some (.string k.data.toList):=WideMaps.keyOf_string_mk bK hk
section
variable {w w':ax}{mb n:Nat}{L:List vP}
def sF.rising(h:sF w mb n L):L.Pairwise (λp q=>Qk p.1 q.1=true):=by obtain⟨es,he,hp,_⟩:=World.ownsMap.canon h zfD;have he:es=L.map IK:=(DataW.map.inj he).s;rw[he,fE]at hp;exact hp
def sF.TN(h:sF w mb n L):L.Pairwise (λp q=>p.1≠q.1):=by obtain⟨es,he,hp,_⟩:=World.ownsMap.entries h zfD;have he:es=L.map IK:=(DataW.map.inj he).s;rw[he,fE]at hp;exact hp.imp λhab e=>hab (by show Lit.string _=Lit.string _;rw[e])
def sF.len(h:sF w mb n L):L.length<=n:=by
 obtain⟨es,clock,_,_,hs,hD⟩:=h;have h2:DataW.map (L.map IK)=DataW.map ((es.toList.map (WideElems.rg prog 9 zqp)).foldr DataW.insert []):=hD;have h3:=dB List.length (DataW.map.inj h2);have h4:L.length=es.size:=by simpa [length_sorted]using h3
 omega
def sF.lt(h:sF w mb n L):mb<w.heap.size:=World.ownsMap.lt h
def sF.qm(h:sF w mb n L)(hk:Keep S w w')(hn:¬S mb):sF w' mb n L:=by obtain⟨es,clock,hb,F,hs,hD⟩:=h;exact⟨es,clock,hk.heap hb hn,F,hs,hD⟩
def sF.made(w:ax):sF (w.alloc (Obj.map #[] 0)) w.heap.size 0 []:=nU _ _ _ _
def sF.xI(h:sF w mb n L){b:Nat}{c:Array ay}{ty:aB}{f:Nat×Nat}(hr:w.heap[b]? =some (.cells c ty f)):mb≠b:=by rintro rfl;obtain⟨es,clock,h1,_⟩:=h;rw[h1]at hr;cases hr
def sF.update(h:sF w mb n L){T E:aB}(ht:prog.underlying T=some (.map 9 E))(hn:n<maxLen)(k:af)(hk:k.size<=maxLen)(v:ay):
  ∃w',(Instr.mapUpdate T (.map (some mb)) (.string k) v).run prog w= .ok () w'∧sF w' mb (n+1) (zdW L k v)∧Keep (qJ mb) w w':=by
 obtain⟨w',h1,h2,h3⟩:=o7 h zfD ht hn (zqr k hk) (d:= .held v) (ps:= []) rfl;rw[zp2]at h2;exact⟨w',h1,h2,(ah _ _).grown h3 (λb hb=> .inl (aU hb).s)⟩
def sF.look(h:sF w mb n L)(ht:prog.underlying T=some (.map 9 E))(k:af)(hk:k.size<=maxLen)(hz:(zeroValue E).run prog w= .ok z w):
  (Instr.lookup T (.map (some mb)) (.string k) false).run prog w= .ok ((zt L k).getD z) w:=by
 obtain⟨v,ps,G7,hv⟩:=World.ownsMap.lookup h zfD ht hz (zd:= .held z) (zp:= []) rfl (zqr k hk);rw[G7];have hv:(DataW.held v:DataW ay)=(encS L).atKey (.string k.data.toList) (.held z):=dB Prod.fst (aU hv);rw[Iy]at hv;cases hg:zt L k with
 | none=>rw[hg]at hv;rw[mW hv];rfl
 | some u=>rw[hg]at hv;rw[mW hv];rfl
def sF.look_ok(h:sF w mb n L)(ht:prog.underlying T=some (.map 9 E))(k:af)(hk:k.size<=maxLen)(hz:(zeroValue E).run prog w= .ok z w):
  (Instr.lookup T (.map (some mb)) (.string k) true).run prog w= .ok (.tuple #[(zt L k).getD z,.bool (zt L k).isSome]) w:=by
 obtain⟨v,ps,G7,hv⟩:=World.ownsMap.look_ok h zfD ht hz (zd:= .held z) (zp:= []) rfl (zqr k hk);rw[Ut]at G7;rw[G7];have hv:(DataW.held v:DataW ay)=(encS L).atKey (.string k.data.toList) (.held z):=dB Prod.fst (aU hv);rw[Iy]at hv;cases hg:zt L k with
 | none=>rw[hg]at hv;rw[mW hv];rfl
 | some u=>rw[hg]at hv;rw[mW hv];rfl
def sF.drop(h:sF w mb n L)(ht:prog.underlying T=some (.map 9 E))(k:af)(hk:k.size<=maxLen)(ty:aB):
  ∃w',(Builtin.delete_ #[T,9] ty #[.map (some mb),.string k]).run prog w= .ok (.tuple #[]) w'∧sF w' mb n (zeb L k)∧Keep (qJ mb) w w':=by
 obtain⟨w',h1,h2,h3⟩:=World.ownsMap.drop h zfD ht (zqr k hk) ty;rw[zp3]at h2;obtain⟨es,clock,es',clock',hb,rfl⟩:=h3;refine⟨_,h1,h2,⟨rfl,rfl,rfl,?_,λi hi hn=> ?_⟩⟩
 ·simp[ChangeMaps.setBlock]
 ·exact ChangeMaps.heap_setBlock_other hb _ (λe=>hn e)
def sF.size(h:sF w mb n L)(ht:prog.underlying T=some (.map 9 E))(ty:aB):(Builtin.len_ #[T] ty #[.map (some mb)]).run prog w= .ok (.int .i64 (L.length:Int)) w:=by rw[World.ownsMap.len h ht ty];show Result.ok (Value.int .i64 (((L.map IK).length:Nat):Int)) w=_;rw[aP]
end
def zjw{a b:List vP}(ha:a.Pairwise (λp q=>Qk p.1 q.1=true))(hb:b.Pairwise (λp q=>Qk p.1 q.1=true))(h:∀k,zt a k=zt b k):a=b:=by
 have key:∀L:List vP,∀p∈L.map IK,WideAt.IsKeyLit p.1:=λL p hp=>by obtain⟨q,_,rfl⟩:=bY.1 hp;trivial
 have no:∀(L:List vP) (k:Lit),(∀s:List UInt8,k≠ .string s)->Maps.has (encS L) k=false:=λL k hk=>by
  rw[encS,qg,jT];intro p hp;obtain⟨q,_,rfl⟩:=bY.1 hp;cases k with
  | string s=>exact absurd rfl (hk s)
  | _=>simp[IK,Lit.sameKey]
 refine zp4 (Maps.ext ⟨_,rfl,by rw[fE];exact ha,key a⟩ ⟨_,rfl,by rw[fE];exact hb,key b⟩ (λk=> ?_) (λk z hk=> ?_))
 ·by_cases hs:∃s,k= .string s
  ·obtain⟨s,rfl⟩:=hs;have e:s=(⟨s.toArray⟩:af).data.toList:=by simp
   rw[e,Ut,Ut,h]
  rw[no a k (λs e=>hs ⟨s,e⟩),no b k (λs e=>hs ⟨s,e⟩)]
 by_cases hs:∃s,k= .string s
 ·obtain⟨s,rfl⟩:=hs;have e:s=(⟨s.toArray⟩:af).data.toList:=by simp
  rw[e,Iy,Iy,h]
 rw[no a k (λs e=>hs ⟨s,e⟩)]at hk;cases hk
def Et(w:ax)(mb ib nm:Nat)(L:List vP)(left:Lit->Bool)(Ea:Nat):Prop:=w.ranges prog 9 zqp mb ib nm (encS L) left Ea
def zbY(k:af):Lit:= .string k.data.toList
def zdi(k j:af):(zbY k).sameKey (zbY j)=decide (k=j):=Ul (k,.nilIface) j
section
variable {w:ax}{ops:Array Oper}{rest:List Oper}{o:Oper}{a:Act}{Q:Exit->Act->ax->Prop}{mb ib nm Ea:Nat}{L:List vP}{left:Lit->Bool}
def Et.qm{w':ax}(h:Et w mb ib nm L left Ea)(hk:Keep S w w')(h1:¬S mb)(h2:¬S ib):Et w' mb ib nm L left Ea:=by obtain⟨es,clock,since,seen,c0,e1,e2,e3,e4,e5,e6⟩:=h;exact⟨es,clock,since,seen,c0,hk.heap e1 h1,e2,e3,e4,hk.heap e5 h2,e6⟩
def Et.left_eq(h:Et w mb ib nm L left Ea):w.rangeLeft mb ib=Ea:=World.ranges.left_eq h
def zbz(hg:o.guard=none)(ht:prog.underlying T=some (.map 9 E))(m:Operand)(FI:o.op=Op.range T m)(hm:a.eval m= .map (some mb))(ru:sF w mb nm L)
  (hK:∀w',Et w' mb w.heap.size nm L (Maps.has (encS L)) (Maps.size (encS L))->ak w w'->w'.heap.size=w.heap.size+1->wpList prog ops Q rest (a.put o.dst (.pointer (some ⟨w.heap.size,0,none⟩))) w'):wpList prog ops Q (o::rest) a w:=
 wpList_range_own _ hg m T FI 9 E zfD ht _ mb nm _ hm ru λw' h1 h2 h3=>hK w' h1 ((ah _ _).grown h2 (λk hk=>by cases hk)) h3
def zch(hg:o.guard=none)(it:Operand)(FI:o.op=Op.next it false)(hit:a.eval it= .pointer (some ⟨ib,0,none⟩))(h:Et w mb ib nm L left Ea)
  (zcV:(∀kl,left kl=false)->wpList prog ops Q rest (a.put o.dst (.tuple #[.bool false])) w)
  (zge:∀(x:af) (c:ay) (w':ax) (YE:Nat),(x,c)∈L->x.size<=maxLen->left (zbY x)=true->Et w' mb ib nm L (λz=>left z&& !z.sameKey (zbY x)) YE->YE<Ea->Keep (qJ ib) w w'->w'.heap.size=w.heap.size->
   (Instr.entry (.pointer (some ⟨ib,0,none⟩))).run prog w'= .ok (.tuple #[.string x,c]) w'->wpList prog ops Q rest (a.put o.dst (.tuple #[.bool true,.string x,c])) w'):wpList prog ops Q (o::rest) a w:=by
 have inv:∀key kl,keyOf prog 9 key=some kl->∃x:af,key= .string x∧kl=zbY x∧x.size<=maxLen:=λkey kl hk=>by
  rw[keyOf_string bK]at hk;unfold mapKey at hk;rw[bK]at hk;cases key with
  | string s=>
   simp only at hk;split at hk
   ·rename_i hs;exact⟨s,rfl,(aU hk).s,hs⟩
   cases hk
  | _=>simp at hk
 refine wpList_next_ranges _ hg it FI 9 zfD _ Value.string (λv:ay=>v) (λkey kl hk=>by obtain⟨x,hx,_⟩:=inv key kl hk;exact⟨x,hx⟩) (λv y hv=>⟨v,rfl⟩) mb ib nm _ _ _ hit h (λ_ hl=>zcV hl) ?_;intro x c kl yd w4 zlt zq NS hv NU ziB zll hg4 hs4 hen;obtain⟨x',hx',hkl,uF⟩:=inv _ kl zq;obtain rfl:x=x':=by simpa using hx'
 subst hkl;have hyd:yd.1= .held c:=by rw[<-aU hv]
 have Jn:zt L x=some c:=by
  have h1:=NU (.lit (.bool true));rw[show zbY x= .string x.data.toList from rfl,Iy,hyd]at h1;cases hg:zt L x with
  | none=>rw[hg]at h1;cases h1
  | some s=>
   rw[hg]at h1;rw[mW h1]
 exact zge x c w4 zlt (zpJ Jn) uF NS ziB zll ((ah _ _).grown hg4 (λk hk=> .inl (aU hk).s)) hs4 hen
end
abbrev VD:=af×Option ay
def zqN(W:List VD)(k:af):Option (Option ay):=(W.find? λp=>decide (p.1=k)).map (·.2)
def zlc(L:List vP)(p:VD):List vP:=match p.2 with
 | none=>zeb L p.1
 | some v=>zdW L p.1 v
def OU(A:List vP)(W:List VD):List vP:=W.foldl zlc A
def zat(L:List vP)(p:VD)(k:af):zt (zlc L p) k=if k=p.1 then p.2 else zt L k:=by
 obtain⟨n,o⟩:=p;cases o with
 | none=>exact zg5 L n k
 | some v=>exact zpV L n v k
def zdC(k:af):∀(W:List VD) (A:List vP),W.Pairwise (λp q=>p.1≠q.1)->zt (OU A W) k=match zqN W k with|some o=>o|none=>zt A k
 | [],A,_=>rfl
 | p::W,A,hp=>by
  have YR:=dR.1 hp;rw[OU,dY,<-OU,zdC k W _ YR.2,zat,zqN,zqN,eP];by_cases e:p.1=k
  ·have Dv:W.find? (λq=>decide (q.1=k))=none:=by
    rw[jf];intro q hq;simp only[aW];exact λx=>YR.1 q hq (e.t x.s)
   rw[Dv,bF e,bu e.s];rfl
  rw[cO e,aV (λx=>e x.s)]
def bytes_trans:∀a b c:List UInt8,bytesBefore a b=true->bytesBefore b c=true->bytesBefore a c=true
 | [],[],c,h,_=>by simp[bytesBefore]at h
 | [],_::_,[],_,h=>by simp[bytesBefore]at h
 | [],_::_,_::_,_,_=>rfl
 | _::_,[],_,h,_=>by simp[bytesBefore]at h
 | _::_,_::_,[],_,h=>by simp[bytesBefore]at h
 | x::a,y::b,z::c,h1,h2=>by
  simp only[bytesBefore,fA,bI,aW,jZ]at h1 h2⊢;rcases h1 with h1|⟨rfl,h1⟩
  ·rcases h2 with h2|⟨rfl,h2⟩
   ·exact .inl (by have:=UInt8.lt_trans h1 h2;exact this)
   exact .inl h1
  rcases h2 with h2|⟨rfl,h2⟩
  ·exact .inl h2
  exact .inr ⟨rfl,bytes_trans a b c h1 h2⟩
def bytes_total:∀a b:List UInt8,a≠b->bytesBefore a b=false->bytesBefore b a=true
 | [],[],h,_=>absurd rfl h
 | [],_::_,_,h=>by simp[bytesBefore]at h
 | _::_,[],_,_=>rfl
 | x::a,y::b,Bc,h=>by
  simp only[bytesBefore,kD,Bool.and_eq_false_iff,gq,fA,bI,aW,jZ]at h⊢;by_cases e:x=y
  ·subst e;right;refine⟨rfl,bytes_total a b (λq=>Bc (by rw[q])) ?_⟩;rcases h.2 with h2|h2
   ·simp at h2
   exact h2
  left;rcases UInt8.lt_or_lt_of_ne e with h3|h3
  ·exact absurd h3 h.1
  exact h3
def Ye(k:af)(v:ay):∀L:List vP,L.Pairwise (λp q=>Qk p.1 q.1=true)->(∀p∈L,p.1≠k)->(Vt k v L).Pairwise (λp q=>Qk p.1 q.1=true)
 | [],_,_=>lV ..
 | p::L,h,hk=>by
  have h1:=dR.1 h;rw[Vt];cases hb:Qk k p.1 with
  | true=>
   rw[bu rfl];refine dR.2 ⟨λq hq=> ?_,h⟩;rcases dO.1 hq with rfl|hq
   ·exact hb
   exact bytes_trans _ _ _ hb (h1.1 q hq)
  | false=>
   rw[aV (by decide)];refine dR.2 ⟨λq hq=> ?_,Ye k v L h1.2 λq hq=>hk q (bD _ hq)⟩;rcases dO.1 ((zdB k v L).mem_iff.1 hq)with rfl|hq
   ·exact bytes_total _ _ (λe=>hk p (bW ..) (data_inj e).s) hb
   exact h1.1 q hq
def zhO{L:List vP}(h:L.Pairwise (λp q=>Qk p.1 q.1=true))(k:af)(v:ay):(zdW L k v).Pairwise (λp q=>Qk p.1 q.1=true):=
 Ye k v _ (h.filter _) λp hp=>by simpa using(gy.1 hp).2
def zih{L:List vP}(h:L.Pairwise (λp q=>Qk p.1 q.1=true))(k:af):(zeb L k).Pairwise (λp q=>Qk p.1 q.1=true):=h.filter _
def Ya{L:List vP}(h:L.Pairwise (λp q=>Qk p.1 q.1=true))(p:VD):(zlc L p).Pairwise (λp q=>Qk p.1 q.1=true):=by
 obtain⟨n,o⟩:=p;cases o with
 | none=>exact zih h n
 | some v=>exact zhO h n v
def UY:∀(W:List VD) {A:List vP},A.Pairwise (λp q=>Qk p.1 q.1=true)->(OU A W).Pairwise (λp q=>Qk p.1 q.1=true)
 | [],A,h=>h
 | p::W,A,h=>by rw[OU,dY,<-OU];exact UY W (Ya h p)
structure VL(A:List vP)(W:List VD)(left:Lit->Bool)(L:List vP):Prop where
 zvy:L.Pairwise (λp q=>Qk p.1 q.1=true)
 seen:∀p∈W,left (zbY p.1)=false->zt L p.1=p.2
 rest:∀k,(∀p∈W,p.1=k->left (zbY k)=true)->zt L k=zt A k
def VL.step{A L:List vP}{W:List VD}(h:VL A W left L)(hp:W.Pairwise (λp q=>p.1≠q.1)){p:VD}(hm:p∈W):VL A W (λz=>left z&& !z.sameKey (zbY p.1)) (zlc L p):=by
 refine⟨Ya h.zvy p,λq hq hl=> ?_,λk hk=> ?_⟩
 ·rw[zat];by_cases e:q.1=p.1
  ·rw[bu e];by_cases hqp:q=p
   ·rw[hqp]
   exfalso;obtain⟨i,hi,rfl⟩:=iG hq;obtain⟨j,hj,rfl⟩:=iG hm;rcases Nat.lt_trichotomy i j with h1|h1|h1
   ·exact iO.1 hp i j hi hj h1 e
   ·subst h1;exact hqp rfl
   exact iO.1 hp j i hj hi h1 e.s
  rw[aV e];refine h.seen q hq ?_;rw[zdi,cO e]at hl
  simpa using hl
 rw[zat];have Bc:¬k=p.1:=λe=>by
  have:=hk p hm e.s;rw[e,zdi,bF rfl]at this;simp at this
 rw[aV Bc];refine h.rest k λq hq e=> ?_;have:=hk q hq e;simp only[bI]at this;exact this.1
def VL.finish{A L:List vP}{W:List VD}(h:VL A W left L)(hA:A.Pairwise (λp q=>Qk p.1 q.1=true))(hp:W.Pairwise (λp q=>p.1≠q.1))(hl:∀z,left z=false):L=OU A W:=by
 refine zjw h.zvy (UY W hA) λk=> ?_;rw[zdC k W A hp];unfold zqN;cases hf:W.find? (λp=>decide (p.1=k))with
 | none=>
  refine h.rest k λq hq e=> ?_;have:=jf.1 hf q hq;simp[e]at this
 | some p=>
  have h1:=jY hf;have h2:p.1=k:=by simpa using nR hf
  rw[<-h2];exact h.seen p h1 (hl _)
def uM{α:Type}(L:List (af×α))(k:af):Option α:=(L.find? λp=>decide (p.1=k)).map (·.2)
def LX{α:Type}(k:af)(v:α):List (af×α)->List (af×α)
 | []=> [(k,v)]
 | p::L=>if Qk k p.1 then(k,v)::p::L else p::LX k v L
def OO{α:Type}(L:List (af×α))(k:af):List (af×α):=L.filter λp=> !decide (p.1=k)
def yQ{α:Type}(L:List (af×α))(k:af)(v:α):List (af×α):=LX k v (OO L k)
def YC{α:Type}(L:List (af×α))(p:af×Option α):List (af×α):=match p.2 with
 | none=>OO L p.1
 | some v=>yQ L p.1 v
def uY{α:Type}(A:List (af×α))(W:List (af×Option α)):List (af×α):=W.foldl YC A
def wH{α β:Type}(f:α->β)(L:List (af×α)):List (af×β):=L.map λp=>(p.1,f p.2)
def zav{α β:Type}(f:α->β)(L:List (af×α))(k:af):uM (wH f L) k=(uM L k).map f:=by unfold uM wH;rw[List.find?_map,Option.map_map,Option.map_map];rfl
def zg0{α β:Type}(f:α->β)(k:af)(v:α):∀L:List (af×α),LX k (f v) (wH f L)=wH f (LX k v L)
 | []=>rfl
 | p::L=>by
  show LX k (f v) ((p.1,f p.2)::wH f L)=_;rw[LX,LX];cases Qk k p.1 with
  | true=>rfl
  | false=>
   rw[aV (by decide),aV (by decide),zg0 f k v L];rfl
def zhc{α β:Type}(f:α->β)(L:List (af×α))(k:af):OO (wH f L) k=wH f (OO L k):=by unfold OO wH;rw[mM];rfl
def Pm{α β:Type}(f:α->β)(L:List (af×α))(k:af)(v:α):yQ (wH f L) k (f v)=wH f (yQ L k v):=by rw[yQ,zhc,zg0,yQ]
def zpN{α β:Type}(f:α->β)(L:List (af×α))(p:af×Option α):YC (wH f L) (p.1,p.2.map f)=wH f (YC L p):=by
 obtain⟨k,o⟩:=p;cases o with
 | none=>exact zhc f L k
 | some v=>exact Pm f L k v
def Wh{α β:Type}(f:α->β):∀(W:List (af×Option α)) (A:List (af×α)),uY (wH f A) (wH (Option.map f) W)=wH f (uY A W)
 | [],_=>rfl
 | p::W,A=>by show uY (YC (wH f A) (p.1,p.2.map f)) (wH (Option.map f) W)=_;rw[zpN,Wh f W];rfl
def zoq(k:af)(v:ay):∀L:List vP,LX k v L=Vt k v L
 | []=>rfl
 | p::L=>by rw[LX,Vt,zoq k v L]
def zi0(L:List vP)(k:af)(v:ay):yQ L k v=zdW L k v:=zoq k v _
def zu6(L:List vP)(p:VD):YC L p=zlc L p:=by
 obtain⟨k,o⟩:=p;cases o with
 | none=>rfl
 | some v=>exact zi0 L k v
def zkR:∀(W:List VD) (A:List vP),uY A W=OU A W
 | [],_=>rfl
 | p::W,A=>by show uY (YC A p) W=OU (zlc A p) W;rw[zu6,zkR W]
def wK{α:Type}(L:List (af×α)):Prop:=L.Pairwise λp q=>Qk p.1 q.1=true
def KY{α:Type}(k:af)(v:α):∀L:List (af×α),(LX k v L).Perm ((k,v)::L)
 | []=>kC _
 | p::L=>by
  rw[LX];split
  ·exact kC _
  exact((KY k v L).cons p).t (List.Perm.swap _ _ _)
def Yf{α:Type}(k:af)(v:α):∀L:List (af×α),wK L->(∀p∈L,p.1≠k)->wK (LX k v L)
 | [],_,_=>lV ..
 | p::L,h,hk=>by
  have h1:=dR.1 h;rw[LX];cases hb:Qk k p.1 with
  | true=>
   rw[bu rfl];refine dR.2 ⟨λq hq=> ?_,h⟩;rcases dO.1 hq with rfl|hq
   ·exact hb
   exact bytes_trans _ _ _ hb (h1.1 q hq)
  | false=>
   rw[aV (by decide)];refine dR.2 ⟨λq hq=> ?_,Yf k v L h1.2 λq hq=>hk q (bD _ hq)⟩;rcases dO.1 ((KY k v L).mem_iff.1 hq)with rfl|hq
   ·exact bytes_total _ _ (λe=>hk p (bW ..) (data_inj e).s) hb
   exact h1.1 q hq
def Yk{α:Type}{L:List (af×α)}(h:wK L)(k:af):wK (OO L k):=List.Pairwise.filter _ h
def FX{α:Type}{L:List (af×α)}(h:wK L)(k:af)(v:α):wK (yQ L k v):=
 Yf k v _ (Yk h k) λp hp=>by simpa using(gy.1 hp).2
def Yb{α:Type}{L:List (af×α)}(h:wK L)(p:af×Option α):wK (YC L p):=by
 obtain⟨n,o⟩:=p;cases o with
 | none=>exact Yk h n
 | some v=>exact FX h n v
def GU{α:Type} :∀(W:List (af×Option α)) {A:List (af×α)},wK A->wK (uY A W)
 | [],A,h=>h
 | p::W,A,h=>GU W (Yb h p)
def VJ(h:Qk a b=true):a≠b:=by
 rintro rfl;unfold Qk at h;have irr:∀l:List UInt8,bytesBefore l l=false:=by
  intro l
  induction l with
  | nil=>rfl
  | cons x l ih=>simp[bytesBefore,ih]
 rw[irr]at h;cases h
def wK.ne{α:Type}{L:List (af×α)}(h:wK L):L.Pairwise λp q=>p.1≠q.1:=List.Pairwise.imp (λh=>VJ h) h
def Un{α:Type}{L:List (af×α)}{v:α}(h:uM L k=some v):(k,v)∈L:=by
 unfold uM at h;cases e:L.find? λp=>decide (p.1=k)with
 | none=>rw[e]at h;cases h
 | some p=>
  rw[e]at h;have h1:=jY e;have h2:p.1=k:=by simpa using nR e
  obtain rfl:p.2=v:=aU h;rw[<-h2];exact h1
def zg8{α:Type}(L:List (af×α))(k j:af):uM (OO L k) j=if j=k then none else uM L j:=by
 unfold uM OO;rw[List.find?_filter];by_cases e:j=k
 ·subst e;rw[bu rfl,jf.2 (λp _=>by cases decide (p.1=j)<;>simp)];rfl
 rw[aV e]
 congr 2
 funext p;by_cases h:p.1=j
 ·have:¬p.1=k:=λx=>e (h.s.t x)
  simp[h,e]
 simp[h]
def zg7{α:Type}(k:af)(v:α)(j:af):∀L:List (af×α),(∀p∈L,p.1≠k)->uM (LX k v L) j=if j=k then some v else uM L j
 | [],_=>by
  by_cases e:j=k
  ·subst e;simp[LX,uM]
  have:¬k=j:=λx=>e x.s
  simp[LX,uM,e,this]
 | p::L,hk=>by
  have ih:=zg7 k v j L λq hq=>hk q (bD _ hq);have hp:=hk p (bW ..);rw[LX];cases hb:Qk k p.1 with
  | true=>
   rw[bu rfl,uM,eP];by_cases e:j=k
   ·subst e;simp
   have:¬k=j:=λx=>e x.s
   rw[aV e,cO this];rfl
  | false=>
   rw[aV (by decide),uM,eP];by_cases e:p.1=j
   ·rw[bF e,aV (λx=>hp (e.t x)),uM,eP,bF e]
   rw[cO e];show uM (LX k v L) j=_;rw[ih];by_cases e2:j=k
   ·rw[bu e2,bu e2]
   rw[aV e2,aV e2,uM,uM,eP,cO e]
def zau{α:Type}(L:List (af×α))(k:af)(v:α)(j:af):uM (yQ L k v) j=if j=k then some v else uM L j:=by
 rw[yQ,zg7 k v j _ (λp hp=>by simpa using(gy.1 hp).2),zg8];by_cases e:j=k
 ·rw[bu e,bu e]
 rw[aV e,aV e,aV e]
def bytes_irrefl:∀l:List UInt8,bytesBefore l l=false:=by
 intro l
 induction l with
 | nil=>rfl
 | cons x l ih=>simp[bytesBefore,ih]
def zg6{α:Type}(L:List (af×α))(p:af×Option α)(k:af):uM (YC L p) k=if k=p.1 then p.2 else uM L k:=by
 obtain⟨n,o⟩:=p;cases o with
 | none=>exact zg8 L n k
 | some v=>exact zau L n v k
def Wy{α:Type}(k:af):∀(W:List (af×Option α)) (A:List (af×α)),W.Pairwise (λp q=>p.1≠q.1)->uM (uY A W) k=match uM W k with|some o=>o|none=>uM A k
 | [],A,_=>rfl
 | p::W,A,hp=>by
  have YR:=dR.1 hp;rw[uY,dY,<-uY,Wy k W _ YR.2,zg6];unfold uM;rw[eP];by_cases e:p.1=k
  ·have Dv:W.find? (λq=>decide (q.1=k))=none:=by
    rw[jf];intro q hq;simp only[aW];exact λx=>YR.1 q hq (e.t x.s)
   rw[Dv,bF e,bu e.s];rfl
  rw[cO e,aV (λx=>e x.s)]
def zbn{α:Type}{L:List (af×α)}(h:∀p∈L,Qk k p.1=true):uM L k=none:=by
 unfold uM;rw[jf.2 (λp hp=>by have:=VJ (h p hp);simp only[aW];exact λe=>this e.s)]
 rfl
def SG{α:Type} :∀ {a b:List (af×α)},wK a->wK b->(∀k,uM a k=uM b k)->a=b
 | [],[],_,_,_=>rfl
 | [],q::b,_,_,h=>by have:=h q.1;rw[uM,uM,eP,bF rfl]at this;cases this
 | p::a,[],_,_,h=>by have:=h p.1;rw[uM,uM,eP,bF rfl]at this;cases this
 | p::a,q::b,ha,hb,h=>by
  have ha1:=dR.1 ha;have hb1:=dR.1 hb;have head:∀(r:af×α) (l:List (af×α)),uM (r::l) r.1=some r.2:=λr l=>by rw[uM,eP,bF rfl];rfl
  have hpq:p.1=q.1:=by
   have m1:(p.1,p.2)∈q::b:=Un ((h p.1).s.t (head p a));have m2:(q.1,q.2)∈p::a:=Un ((h q.1).t (head q b));rcases dO.1 m1 with m1|m1
   ·exact dB Prod.fst m1
   rcases dO.1 m2 with m2|m2
   ·exact(dB Prod.fst m2).s
   have h1:=ha1.1 _ m2;have h2:=hb1.1 _ m1;exact absurd rfl (VJ (bytes_trans _ _ _ h1 h2))
  have e:p=q:=by have h3:=h p.1;rw[head p a,hpq,head q b]at h3;exact Prod.ext hpq (aU h3)
  subst e
  congr 1
  refine SG ha1.2 hb1.2 λk=> ?_;by_cases e:p.1=k
  ·subst e;rw[zbn ha1.1,zbn hb1.1]
  have:=h k;rw[uM,uM,eP,eP,cO e]at this;exact this
def zpH{α:Type}{A:List (af×α)}{W:List (af×Option α)}(hA:wK A)(hW:wK W)(k:af)(o:Option α):uY A (yQ W k o)=YC (uY A W) (k,o):=by
 refine SG (GU _ hA) (Yb (GU _ hA) _) λj=> ?_;rw[Wy j _ A (FX hW k o).ne,zg6,Wy j W A hW.ne,zau];by_cases e:j=k
 ·rw[bu e];simp[e]
 rw[aV e,aV e]
def WG{α:Type}{L:List (af×α)}(h:uM L k=none):OO L k=L:=by
 unfold OO;rw[pK];intro p hp;unfold uM at h;have h2:L.find? (λp=>decide (p.1=k))=none:=by
  cases e:L.find? (λp=>decide (p.1=k))with
  | none=>rfl
  | some q=>rw[e]at h;cases h
 have:=jf.1 h2 p hp
 simpa using this
def Us{α:Type}(k:af)(v:α)(L:List (af×α)):(LX k v L).length=L.length+1:=(KY k v L).length_eq
def zpy{α:Type}(L:List (af×α))(k:af)(v:α):(yQ L k v).length<=L.length+1:=by rw[yQ,Us];exact Nat.succ_le_succ (gQ ..)
def Po{α:Type}{L:List (af×α)}{v:α}{p:af×α}(h:p∈yQ L k v):p=(k,v)∨(p∈L∧p.1≠k):=by
 rcases dO.1 ((KY k v _).mem_iff.1 h)with h|h
 ·exact .inl h
 have:=gy.1 h;exact .inr ⟨this.1,by simpa using this.2⟩
def zpI{α:Type}{L:List (af×α)}{q:af×Option α}{p:af×α}(h:p∈YC L q):q.2=some p.2∧p.1=q.1∨p∈L:=by
 obtain⟨n,o⟩:=q;cases o with
 | none=>exact .inr (gy.1 h).1
 | some v=>
  rcases Po h with rfl|h
  ·exact .inl ⟨rfl,rfl⟩
  exact .inr h.1
def Wj{α:Type}(P:af->α->Prop):∀(W:List (af×Option α)) {A:List (af×α)},(∀p∈A,P p.1 p.2)->(∀p∈W,∀v,p.2=some v->P p.1 v)->∀p∈uY A W,P p.1 p.2
 | [],A,hA,_=>hA
 | q::W,A,hA,hW=>by
  refine Wj P W (A:=YC A q) (λp hp=> ?_) λp hp=>hW p (bD _ hp);rcases zpI hp with⟨h1,h2⟩|h
  ·rw[h2];exact hW q (bW ..) _ h1
  exact hA p h
