import Derived.Test.YtbcmmbeadgiiiaaGreatDoorYAD
import Derived.Maps.RangeWalk
set_option linter.all false
namespace Go.Proofs.YtbcmmbeadgiiiaaGreatDoor
open Go.RowKit Tryz
set_option maxRecDepth 100000
set_option maxHeartbeats 16000000
variable{es:Array MapEntry}{k:Int}{L:List Int}{left:Lit->Bool}{clock mb n:Nat}{S:Nat->Prop}{w w':ax}
abbrev Entry:=Int×af
def Vz(p:Entry):Lit×DataW Unit:=(.int .i64 p.1,.lit (.string p.2.data.toList))
def JW(M:List Entry):DataW Unit:= .map (M.map Vz)
def getM(M:List Entry)(k:Int):Option af:=(M.find? λp=>p.1==k).map (·.2)
def zg9(k:Int):∀M:List Entry,(M.map Vz).find? (λp=>p.1.sameKey (.int .i64 k))=(M.find? λp=>p.1==k).map Vz
 | []=>rfl
 | p::M=>by
  have e:(Vz p).1.sameKey (.int .i64 k)=(p.1==k):=by
   show decide (IntKind.i64=IntKind.i64∧p.1=k)=_;by_cases h:p.1=k
   ·rw[bF ⟨rfl,h⟩,h];exact(fF _).s
   rw[cO (λx=>h x.2)];exact(eu.2 h).s
  rw[bH,eP,eP,e];cases p.1==k with
  | true=>rfl
  | false=>exact zg9 k M
def WM(M:List Entry)(k:Int)(z:DataW Unit):(JW M).atKey (.int .i64 k) z=match getM M k with|some s=> .lit (.string s.data.toList)|none=>z:=by
 unfold DataW.atKey JW;simp only[zg9,getM];cases M.find? λp=>p.1==k with
 | none=>rfl
 | some p=>rfl
def zrR(M:List Entry)(k:Int):Maps.has (JW M) (.int .i64 k)=true->∃s,(k,s)∈M:=by
 intro h;rw[JW,qg,jm]at h;obtain⟨x,hx,hk⟩:=h;obtain⟨p,hp,rfl⟩:=bY.1 hx
 have:p.1=k:=by have h2:decide (IntKind.i64=IntKind.i64∧p.1=k)=true:=hk;exact(fM h2).2
 exact⟨p.2,by rw[<-this];exact hp⟩
def Dj{M:List Entry}(hp:M.Pairwise (λp q=>p.1≠q.1)){s:af}(h:(k,s)∈M):getM M k=some s:=by
 induction M with
 | nil=>cases h
 | cons p M ih=>
  rw[getM,eP];cases e:p.1==k with
  | true=>
   rcases dO.1 h with h|h
   ·rw[<-h];rfl
   have h1:=(dR.1 hp).1 _ h;exact absurd (jZ.1 e) h1
  | false=>
   rcases dO.1 h with h|h
   ·rw[<-h]at e;simp at e
   exact ih (dR.1 hp).2 h
def zgU{M:List Entry}{s:af}(h:getM M k=some s):(k,s)∈M:=by
 unfold getM at h;cases e:M.find? λp=>p.1==k with
 | none=>rw[e]at h;cases h
 | some p=>
  rw[e]at h;have h1:=jY e;have h2:p.1=k:=by simpa using nR e
  obtain rfl:p.2=s:=aU h;rw[<-h2];exact h1
def zfm{M:List Entry}(h:(M.map Vz).Pairwise (λp q=>p.1≠q.1)):M.Pairwise (λp q=>p.1≠q.1):=by
 rw[fE]at h;refine h.imp fun {a b} hab e=>hab ?_
 show Lit.int .i64 a.1=Lit.int .i64 b.1;rw[e]
def zbo(f o:Entry->Bool)(x:Int)(s:af)(hf:f (x,s)=false):∀M:List Entry,M.Pairwise (λp q=>p.1≠q.1)->(x,s)∈M->
  (M.filter λp=>(f p||p.1==x)&&o p).Perm ((M.filter λp=>f p&&o p)++if o (x,s)then [(x,s)]else [])
 | [],_,h=>by cases h
 | q::M,hp,h=>by
  have YR:=(dR.1 hp).1;by_cases hq:q.1=x
  ·have hqe:q=(x,s):=by
    rcases dO.1 h with h|h
    ·exact h.s
    ·exact absurd hq (YR _ h)
   have ht:(M.filter λp=>(f p||p.1==x)&&o p)=M.filter λp=>f p&&o p:=by
    apply mO;intro p Xc
    have:(p.1==x)=false:=by rw[eu,<-hq];exact λe=>YR p Xc e.s
    rw[this,Bool.or_false]
   rw[ng,ng,ht,hqe,hf];simp only[fF,Bool.or_true,jG,iH,nT,if_false];cases o (x,s)with
   | true=>
    simp only[if_true];exact(lu (l₁:= [(x,s)])).t (kC _)
   | false=>simp
  have hm:(x,s)∈M:=by
   rcases dO.1 h with h|h
   ·exact absurd (by rw[<-h]) hq
   ·exact h
  have ih:=zbo f o x s hf M (dR.1 hp).2 hm;have hqx:(q.1==x)=false:=eu.2 hq;rw[ng,ng,hqx,Bool.or_false];cases f q&&o q with
  | true=>simp only[if_true];exact(List.Perm.cons q ih)
  | false=>simp only[nT,if_false];exact ih
structure Seen(M:List Entry)(o bad:Entry->Bool)(left:Lit->Bool)(L:List Int):Prop where
 perm:L.Perm ((M.filter λp=> !left (.int .i64 p.1)&&o p).map (·.1))
 zxa:∀p∈M,left (.int .i64 p.1)=false->bad p=false
 sub:∀k,left (.int .i64 k)=true->∃s,(k,s)∈M
def Seen.start(M:List Entry)(o bad:Entry->Bool):Seen M o bad (Maps.has (JW M)) []:=by
 have vz:∀p∈M,Maps.has (JW M) (.int .i64 p.1)=true:=λp hp=>by rw[JW,qg,jm];exact⟨Vz p,bY.2 ⟨p,hp,rfl⟩,bF ⟨rfl,rfl⟩⟩
 refine⟨?_,λp hp h=>(by rw[vz p hp]at h;cases h),λk h=>zrR M k h⟩;have e:(M.filter λp=> !Maps.has (JW M) (.int .i64 p.1)&&o p)= []:=by rw[List.filter_eq_nil_iff];intro p hp;rw[vz p hp];simp
 rw[e];exact kC _
def Seen.step{M:List Entry}{o bad:Entry->Bool}(h:Seen M o bad left L)(hp:M.Pairwise (λp q=>p.1≠q.1)){x:Int}{s:af}(hm:(x,s)∈M)(hl:left (.int .i64 x)=true)(hb:bad (x,s)=false):
  Seen M o bad (λz=>left z&& !z.sameKey (.int .i64 x)) (if o (x,s)then L++ [x]else L):=by
 have hk:∀k:Int,(Lit.int .i64 k).sameKey (.int .i64 x)=(k==x):=λk=>by
  show decide (IntKind.i64=IntKind.i64∧k=x)=_;by_cases h:k=x
  ·rw[bF ⟨rfl,h⟩,h];exact(fF _).s
  rw[cO (λy=>h y.2)];exact(eu.2 h).s
 refine⟨?_,?_,?_⟩
 ·have e:(M.filter λp=> !(left (.int .i64 p.1)&& !(Lit.int .i64 p.1).sameKey (.int .i64 x))&&o p)=M.filter λp=>(!left (.int .i64 p.1)||p.1==x)&&o p:=by
   apply mO;intro p _;rw[hk];cases left (.int .i64 p.1)<;>cases p.1==x<;>rfl
  rw[e];have h2:=zbo (λp=> !left (.int .i64 p.1)) o x s (by simp only[hl];rfl) M hp hm;have h3:=h2.map (λp:Entry=>p.1);refine List.Perm.t ?_ h3.s;rw[dK];cases o (x,s)with
  | true=>simp only[if_true];exact h.perm.append (kC _)
  | false=>simp only[nT,if_false,dh,dS];exact h.perm
 ·intro p Xc hlp;rw[hk]at hlp;cases hl2:left (.int .i64 p.1)with
  | false=>exact h.zxa p Xc hl2
  | true=>
   rw[hl2,jG,Bool.not_eq_false']at hlp;have h1:p.1=x:=by simpa using hlp
   have g1:=Dj hp (k:=p.1) (s:=p.2) Xc;have g2:=Dj hp hm;rw[h1,g2]at g1
   have:p=(x,s):=Prod.ext h1 (aU g1).s
   rw[this];exact hb
 ·intro k Xf;rw[bI]at Xf;exact h.sub k Xf.1
def Seen.finish{M:List Entry}{o bad:Entry->Bool}(h:Seen M o bad left L)(hl:∀kl,left kl=false):L.Perm ((M.filter o).map (·.1))∧∀p∈M,bad p=false:=by
 refine⟨?_,λp hp=>h.zxa p hp (hl _)⟩;have e:(M.filter λp=> !left (.int .i64 p.1)&&o p)=M.filter o:=mO λp _=>by rw[hl];rfl
 rw[<-e];exact h.perm
def yB(w:ax)(mb n:Nat)(M:List Entry):Prop:=w.ownsMap prog 3 (plainElem prog 9) mb n (JW M)
def zdY:Maps.Keyed prog 3:=Maps.int_keyed fG
def yB.TN{M:List Entry}(h:yB w mb n M):M.Pairwise (λp q=>p.1≠q.1):=by
 obtain⟨es,e,hp,_⟩:=World.ownsMap.entries h zdY
 have:es=M.map Vz:=by have h2:DataW.map (M.map Vz)=DataW.map es:=e;cases h2;rfl
 rw[this]at hp;exact zfm hp
def yB.len{M:List Entry}(h:yB w mb n M):M.length<=n:=by obtain⟨es,clock,_,_,hs,hD⟩:=h;have h2:DataW.map (M.map Vz)=DataW.map ((es.toList.map (WideElems.rg prog 3 (plainElem prog 9))).foldr DataW.insert []):=hD;have h3:=dB (λD=>match D with|DataW.map l=>l.length|_=>0) h2;simp only[aP,length_sorted,pJ]at h3;omega
def Ji{v:ay}{y:DataW Unit×List MemPlace}(h:plainElem prog 9 v=some y):∃c:af,v= .string c∧y.1= .lit (.string c.data.toList):=by
 have hu:=bK;unfold plainElem at h;generalize prog.underlying 9=d at hu h;subst hu;cases v with
 | string s=>
  simp only at h;split at h
  ·exact⟨s,rfl,by rw[<-aU h]⟩
  cases h
 | _=>simp at h
def Eo(w:ax)(mb ib nm:Nat)(M:List Entry)(left:Lit->Bool)(Ea:Nat):Prop:=w.ranges prog 3 (plainElem prog 9) mb ib nm (JW M) left Ea
section
variable {w:ax}{ops:Array Oper}{rest:List Oper}{o:Oper}{a:Act}{Q:Exit->Act->ax->Prop}{mb ib nm Ea:Nat}{M:List Entry}{left:Lit->Bool}
def zj6{r:Nat}(h:w.grownBy w' (some r)):Keep (qJ r) w w':=(ah _ _).grown h (λk hk=> .inl (aU hk).s)
def Eo.qm(h:Eo w mb ib nm M left Ea)(hk:Keep S w w')(h1:¬S mb)(h2:¬S ib):Eo w' mb ib nm M left Ea:=by obtain⟨es,clock,since,seen,c0,e1,e2,e3,e4,e5,e6⟩:=h;exact⟨es,clock,since,seen,c0,hk.heap e1 h1,e2,e3,e4,hk.heap e5 h2,e6⟩
def Eo.left_eq(h:Eo w mb ib nm M left Ea):w.rangeLeft mb ib=Ea:=World.ranges.left_eq h
def WQ(hg:o.guard=none)(m:Operand)(FI:o.op=Op.range 130 m)(hm:a.eval m= .map (some mb))(ru:yB w mb nm M)
  (hK:∀w',Eo w' mb w.heap.size nm M (Maps.has (JW M)) (Maps.size (JW M))->ak w w'->w'.heap.size=w.heap.size+1->wpList prog ops Q rest (a.put o.dst (.pointer (some ⟨w.heap.size,0,none⟩))) w'):wpList prog ops Q (o::rest) a w:=
 wpList_range_own _ hg m 130 FI 3 9 zdY iZ _ mb nm _ hm ru λw' h1 h2 h3=>hK w' h1 ((ah _ _).grown h2 (λk hk=>by cases hk)) h3
def YG(hg:o.guard=none)(it:Operand)(FI:o.op=Op.next it false)(hit:a.eval it= .pointer (some ⟨ib,0,none⟩))(h:Eo w mb ib nm M left Ea)
  (zcV:(∀kl,left kl=false)->wpList prog ops Q rest (a.put o.dst (.tuple #[.bool false])) w)
  (zge:∀(x:Int) (c:af) (w':ax) (YE:Nat),(x,c)∈M->left (.int .i64 x)=true->Eo w' mb ib nm M (λz=>left z&& !z.sameKey (.int .i64 x)) YE->YE<Ea->Keep (qJ ib) w w'->w'.heap.size=w.heap.size->
   (Instr.entry (.pointer (some ⟨ib,0,none⟩))).run prog w'= .ok (.tuple #[.int .i64 x,.string c]) w'->wpList prog ops Q rest (a.put o.dst (.tuple #[.bool true,.int .i64 x,.string c])) w'):wpList prog ops Q (o::rest) a w:=by
 refine wpList_next_ranges _ hg it FI 3 zdY _ (Value.int .i64) Value.string (λkey kl hk=>by obtain⟨x,hx,_⟩:=Maps.keyOf_int_inv fG hk;exact⟨x,hx⟩) (λv y hv=>by obtain⟨c,hc,_⟩:=Ji hv;exact⟨c,hc⟩) mb ib nm _ _ _ hit h (λ_ hl=>zcV hl) ?_;intro x c kl yd w4 zlt zq NS hv NU ziB zll hg4 hs4 hen;obtain⟨x',hx',hkl,_⟩:=Maps.keyOf_int_inv fG zq;obtain rfl:x=x':=by simpa using hx'
 subst hkl;obtain⟨c',Zq,hyd⟩:=Ji hv;obtain rfl:c=c':=by simpa using Zq
 have Jn:getM M x=some c:=by
  have h1:=NU (.lit (.bool true));rw[WM,hyd]at h1;cases hg:getM M x with
  | none=>rw[hg]at h1;cases h1
  | some s=>
   rw[hg]at h1;have h3:s.data.toList=c.data.toList:=by simpa using h1
   have h4:s=c:=jk (iR.1 h3);rw[h4]
 exact zge x c w4 zlt (zgU Jn) NS ziB zll (zj6 hg4) hs4 hen
end
def MP(mo:Option Nat)(o:Obj)(w:ax):Prop:=∀b,mo=some b->w.heap[b]? =some o
def D8(w:ax)(mo:Option Nat)(nm:Nat)(M:List Entry):Prop:=match mo with
 | none=>M= []
 | some mb=>yB w mb nm M
def Eu(w:ax)(mo:Option Nat)(ib nm:Nat)(M:List Entry)(left:Lit->Bool)(Ea:Nat):Prop:=match mo with
 | none=>w.heap[ib]? =some (.mapIter none 0 #[] 0)∧M= []∧(∀z,left z=false)∧Ea=0
 | some mb=>Eo w mb ib nm M left Ea
def Nq(w:ax)(mo:Option Nat)(ib:Nat):Nat:=match mo with
 | none=>0
 | some mb=>w.rangeLeft mb ib
section
variable {w w':ax}{mo:Option Nat}{ib nm Ea:Nat}{M:List Entry}{left:Lit->Bool}{ob:Obj}
def MP.qm(h:MP mo ob w)(hk:Keep S w w')(hn:∀b,mo=some b->¬S b):MP mo ob w':=λb hb=>hk.heap (h b hb) (hn b hb)
def D8.len(h:D8 w mo nm M):M.length<=nm:=by
 cases mo with
 | none=>have h:M= []:=h;rw[h];exact fP _
 | some mb=>exact yB.len h
def D8.TN(h:D8 w mo nm M):M.Pairwise (λp q=>p.1≠q.1):=by
 cases mo with
 | none=>have h:M= []:=h;rw[h];exact List.Pairwise.nil
 | some mb=>exact yB.TN h
def D8.lt(h:D8 w mo nm M):∀b,mo=some b->b<w.heap.size:=by rintro b rfl;exact World.ownsMap.lt h
def D8.qm(h:D8 w mo nm M)(hk:ak w w'):D8 w' mo nm M:=by
 cases mo with
 | none=>exact h
 | some mb=>exact World.ownsMap.kept (w:=w) h ⟨hk.os,hk.tape,hk.output,hk.size,λi hi _=>hk.block i hi id⟩ (show some mb≠none by simp)
def D8.xI(h:D8 w mo nm M){b:Nat}{c:Array ay}{ty:aB}{f:Nat×Nat}(hr:w.heap[b]? =some (.cells c ty f)):mo≠some b:=by rintro rfl;obtain⟨es,clock,h1,_⟩:=h;rw[h1]at hr;cases hr
def Eu.qm(h:Eu w mo ib nm M left Ea)(hk:Keep S w w')(h1:∀b,mo=some b->¬S b)(h2:¬S ib):Eu w' mo ib nm M left Ea:=by
 cases mo with
 | none=>exact⟨hk.heap h.1 h2,h.2⟩
 | some mb=>exact Eo.qm h hk (h1 mb rfl) h2
def Eu.left_eq(h:Eu w mo ib nm M left Ea):Nq w mo ib=Ea:=by
 cases mo with
 | none=>exact h.2.2.2.s
 | some mb=>exact Eo.left_eq h
def ze3{P:Program}(ty:aB)(h:w.heap[ib]? =some (.mapIter none 0 #[] 0)):(Instr.next (.pointer (some ⟨ib,0,none⟩)) false ty).run P w= .ok (.tuple #[.bool false]) w:=by simp only[Instr.next,getObj,lJ,Sem.run,h,Result.andThen];rfl
section
variable {ops:Array Oper}{rest:List Oper}{o:Oper}{a:Act}{Q:Exit->Act->ax->Prop}
def U8(hg:o.guard=none)(m:Operand)(FI:o.op=Op.range 130 m)(hm:a.eval m= .map mo)(ru:D8 w mo nm M)
  (hK:∀w',(∃Ea,Eu w' mo w.heap.size nm M (Maps.has (JW M)) Ea)->ak w w'->w'.heap.size=w.heap.size+1->wpList prog ops Q rest (a.put o.dst (.pointer (some ⟨w.heap.size,0,none⟩))) w'):wpList prog ops Q (o::rest) a w:=by
 cases mo with
 | some mb=>exact WQ hg m FI hm ru λw' h1 h2 h3=>hK w' ⟨_,h1⟩ h2 h3
 | none=>
  have hM:M= []:=ru;refine pR hg λK' hK'=> ?_;have G7:=run_range_nilMap (P:=prog) w 130 3 9 iZ;unfold Oper.wp;simp[execOp,FI,hm,G7,Result.andThen];refine hK' _ _ (hK _ ⟨0,?_⟩ ((ah _ _).alloc _) (dW _));refine⟨aQ w _,hM,λz=> ?_,rfl⟩;rw[hM];rfl
def WR(hg:o.guard=none)(it:Operand)(FI:o.op=Op.next it false)(hit:a.eval it= .pointer (some ⟨ib,0,none⟩))(h:Eu w mo ib nm M left Ea)
  (zcV:(∀kl,left kl=false)->wpList prog ops Q rest (a.put o.dst (.tuple #[.bool false])) w)
  (zge:∀(x:Int) (c:af) (w':ax) (YE:Nat),(x,c)∈M->left (.int .i64 x)=true->Eu w' mo ib nm M (λz=>left z&& !z.sameKey (.int .i64 x)) YE->YE<Ea->Keep (qJ ib) w w'->w'.heap.size=w.heap.size->
   (Instr.entry (.pointer (some ⟨ib,0,none⟩))).run prog w'= .ok (.tuple #[.int .i64 x,.string c]) w'->wpList prog ops Q rest (a.put o.dst (.tuple #[.bool true,.int .i64 x,.string c])) w'):wpList prog ops Q (o::rest) a w:=by
 cases mo with
 | some mb=>exact YG hg it FI hit h zcV zge
 | none=>
  refine pR hg λK' hK'=> ?_;have G7:=ze3 (P:=prog) o.type h.1;unfold Oper.wp;simp[execOp,FI,hit,G7,Result.andThen];exact hK' _ _ (zcV h.2.2.1)
end
end
section
open Go.ChangeMaps Go.MapKept
open Go.WideElems (Fit)
open Go.Maps (Keyed)
section
variable {P:Program}{w:ax}{t k e:aB}{b clock:Nat}{es:Array MapEntry}{H:Type}{R:ay->Option (DataW H×List MemPlace)}
def UL(w:ax)(b:Nat)(x y:Obj):setBlock (setBlock w b x) b y=setBlock w b y:=by simp[setBlock]
def zbQ(h:∀x∈es.toList,x.born<clock)(key z:ay):(es.push { key,val:=z,born:=clock }).findIdx? (λe=>(e.born:Int)==(clock:Int))=some es.size:=by
 rw[Array.findIdx?_push]
 have:es.findIdx? (λe=>(e.born:Int)==(clock:Int))=none:=by rw[Array.findIdx?_eq_none_iff];intro x hx;have:=h x (by simpa using hx);simp;omega
 rw[this];simp
def zfl(hn:(es.toList.map (·.born)).Nodup){j:Nat}{e0:MapEntry}(hj:es[j]? =some e0)(f:MapEntry->MapEntry)(hf:∀x,(f x).born=x.born):(es.modify j f).findIdx? (λe=>(e.born:Int)==(e0.born:Int))=some j:=by
 obtain⟨hjl,hje⟩:=iI.1 hj;rw[Array.findIdx?_eq_some_iff_getElem];refine⟨by simpa using hjl,?_,λi hi=> ?_⟩
 ·rw[fQ,hf,hje];simp
 have hil:i<es.size:=by omega
 rw[Array.getElem_modify,aV (by omega)];simp only[jZ];intro h;have h1:es[i].born=es[j].born:=by rw[hje];omega
 have h2:=iO.1 hn i j (by simpa using hil) (by simpa using hjl) hi;simp at h2;exact h2 h1
def zdf{W:ax}{st:Nat}(JQ:W.heap[b]? =some (.map es clock)){i:Nat}(hf:es.findIdx? (λe=>(e.born:Int)==(st:Int))=some i)(val:ay)(t2:aB):
  (Instr.entryStore t2 (.map (some b)) (.int .i64 st) val).run P W= .ok () (setBlock W b (.map (es.modify i λe=> { e with val:=val }) clock)):=by
 simp[Instr.entryStore,jo JQ,asInt,asIntOf,hf,jS _ JQ,Result.andThen,setBlock]
def WZ(K:Keyed P k)(ht:P.underlying t=some (.map k e))(hb:w.heap[b]? =some (.map es clock))(F:Fit P k R es clock){key:ay}{kl:Lit}(zq:keyOf P k key=some kl){z:ay}(hz:(zeroValue e).run P w= .ok z w):
  ∃v0 w1,∃st:Nat,(Instr.mapEntry t (.map (some b)) key).run P w= .ok (.tuple #[v0,.int .i64 st]) w1∧∀(val:ay) (t2:aB),(Instr.entryStore t2 (.map (some b)) (.int .i64 st) val).run P w1=(Instr.mapUpdate t (.map (some b)) key val).run P w:=by
 obtain⟨hb1,zC,Vk⟩:=(stamped_iff es clock).1 F.stamped;rcases K.find w zq es.toList (λx hx=>by obtain⟨y,hy⟩:=F.reads x hx;exact⟨_,Go.WideElems.rd_key hy⟩)with⟨h1,h2⟩|⟨j,e0,h1,h2,h3⟩
 ·refine⟨z,setBlock w b (.map (es.push ⟨key,z,clock⟩) (clock+1)),clock,?_,λval t2=> ?_⟩
  ·simp[Instr.mapEntry,fU ht,jo hb,K.check w false zq,h1,hz,jS _ hb,Result.andThen,setBlock,goInt]
  have JQ:(setBlock w b (.map (es.push ⟨key,z,clock⟩) (clock+1))).heap[b]? =some (.map (es.push ⟨key,z,clock⟩) (clock+1)):=heap_setBlock_same hb _;rw[zdf JQ (zbQ hb1 key z),UL];simp[Instr.mapUpdate,fU ht,jo hb,K.check w false zq,h1,jS _ hb,Result.andThen,setBlock]
  congr 2
  apply kW;intro q;rw[iU,Array.getElem?_push,Array.getElem?_push];by_cases h:es.size=q
  ·subst h;simp
  rw[aV h,aV (λe=>h e.s),aV (λe=>h e.s)]
 ·have hj:es[j]? =some e0:=by simpa using h2
  have yx:=K.stays w zq;refine⟨e0.val,setBlock w b (.map (es.modify j λe=> { e with key:=key }) clock),e0.born,?_,λval t2=> ?_⟩
  ·simp[Instr.mapEntry,fU ht,jo hb,K.check w false zq,h1,hj,h3,yx,jS _ hb,Result.andThen,setBlock,goInt]
  have JQ:(setBlock w b (.map (es.modify j λe=> { e with key:=key }) clock)).heap[b]? =some (.map (es.modify j λe=> { e with key:=key }) clock):=heap_setBlock_same hb _;rw[zdf JQ (zfl zC hj (λe=> { e with key:=key }) (λ_=>rfl)),UL];simp[Instr.mapUpdate,fU ht,jo hb,K.check w false zq,h1,hj,h3,yx,jS _ hb,Result.andThen,setBlock]
  congr 2
  apply kW;intro q;rw[iU,iU,iU];by_cases h:j=q
  ·subst h;simp[hj]
  rw[aV h,aV h,aV h]
end
end
def zoJ(w:ax):(zeroValue 9).run prog w= .ok (.string ⟨#[]⟩) w:=by
 have h:(prog.info? 9).map (λi=>i.zero)=some (some (.string ⟨#[]⟩)):=by kernel_rfl
 cases hi:prog.info? 9 with
 | none=>rw[hi]at h;cases h
 | some i=>
  rw[hi]at h;simp only[gW,jD]at h;simp[zeroValue,typeInfo,hi,h]
def yB.entry{M:List Entry}(h:yB w mb n M)(hn:n<maxLen)(k:Nat)(hk:k<=1000000)(s:af)(hs:s.size<=maxLen):
  ∃v0 w1,∃st:Nat,∃w2,(Instr.mapEntry 130 (.map (some mb)) (.int .i64 k)).run prog w= .ok (.tuple #[v0,.int .i64 st]) w1∧(Instr.entryStore 130 (.map (some mb)) (.int .i64 st) (.string s)).run prog w1= .ok () w2∧
   w2.ownsMap prog 3 (plainElem prog 9) mb (n+1) ((JW M).put (.int .i64 k) (.lit (.string s.data.toList)))∧w.grownBy w2 (some mb):=by
 have zq:keyOf prog 3 (.int .i64 k)=some (.int .i64 k):=mP fG (by simp[Lit.wf,show IntKind.i64.min= -9223372036854775808 from rfl,show IntKind.i64.max=9223372036854775807 from rfl];omega);have TD:plainElem (H:=Unit) prog 9 (.string s)=some (.lit (.string s.data.toList),[]):=by simp[plainElem,bK,hs]
 obtain⟨w2,G7,h2,h3⟩:=o7 h zdY iZ hn zq TD;obtain⟨es,clock,hb,F,uF,hD⟩:=h;obtain⟨v0,w1,st,h4,h5⟩:=WZ zdY iZ hb F zq (zoJ w);exact⟨v0,w1,st,w2,h4,(h5 _ _).t G7,h2,h3⟩
