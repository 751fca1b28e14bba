import Derived.Test.YtopbkdebihcmcaaGreatDoorYAD
import Derived.Test.YtopbkdebihcmcaaGreatDoorProg
import Derived.Maps.RangeWalk
set_option linter.unusedSimpArgs false
set_option linter.unusedVariables false
namespace Go.Proofs.YtopbkdebihcmcaaGreatDoor
open Go.RowKit
set_option maxRecDepth 100000
set_option maxHeartbeats 16000000
abbrev Entry:=Int×af
def PY(p:Entry):Lit×DataW Unit:=(.int .i64 p.1,.lit (.string p.2.data.toList))
def FP(M:List Entry):DataW Unit:= .map (M.map PY)
def getM(M:List Entry)(k:Int):Option af:=(M.find? λp=>p.1==k).map (·.2)
theorem Zt(k:Int):∀M:List Entry,(M.map PY).find? (λp=>p.1.sameKey (.int .i64 k))=(M.find? λp=>p.1==k).map PY
 | []=>rfl
 | p::M=>by
  have e:(PY p).1.sameKey (.int .i64 k)=(p.1==k):=by
   show decide (IntKind.i64=IntKind.i64∧p.1=k)=_;by_cases h:p.1=k
   ·rw[bJ ⟨rfl,h⟩,h];exact(fV _).symm
   ·rw[bV (λx=>h x.2)];exact(dS.2 h).symm
  rw[bF,dD,dD,e];cases p.1==k with
  | true=>rfl
  | false=>exact Zt k M
theorem Wp(M:List Entry)(k:Int)(z:DataW Unit):(FP M).atKey (.int .i64 k) z=match getM M k with|some s=> .lit (.string s.data.toList)|none=>z:=by
 unfold DataW.atKey FP;simp only[Zt,getM];cases M.find? λp=>p.1==k with
 | none=>rfl
 | some p=>rfl
theorem zi2(M:List Entry)(k:Int):Maps.has (FP M) (.int .i64 k)=true->∃s,(k,s)∈M:=by
 intro h;rw[FP,Maps.has_eq,iI]at h;obtain⟨x,hx,hk⟩:=h;obtain⟨p,hp,rfl⟩:=bf.1 hx
 have:p.1=k:=by have h2:decide (IntKind.i64=IntKind.i64∧p.1=k)=true:=hk;exact(gy h2).2
 exact⟨p.2,by rw[<-this];exact hp⟩
theorem AL{M:List Entry}(hp:M.Pairwise (λp q=>p.1≠q.1)){k:Int}{s:af}(h:(k,s)∈M):getM M k=some s:=by
 induction M with
 | nil=>cases h
 | cons p M ih=>
  rw[getM,dD];cases e:p.1==k with
  | true=>
   rcases bK.1 h with h|h
   ·rw[<-h];rfl
   ·have h1:=(bU.1 hp).1 _ h;exact absurd (jP.1 e) h1
  | false=>
   rcases bK.1 h with h|h
   ·rw[<-h]at e;simp at e
   ·exact ih (bU.1 hp).2 h
theorem Zb{M:List Entry}{k:Int}{s:af}(h:getM M k=some s):(k,s)∈M:=by
 unfold getM at h;cases e:M.find? λp=>p.1==k with
 | none=>rw[e]at h;cases h
 | some p=>
  rw[e]at h;have h1:=iQ e;have h2:p.1=k:=by simpa using lh e
  obtain rfl:p.2=s:=aH h;rw[<-h2];exact h1
theorem XW{M:List Entry}(h:(M.map PY).Pairwise (λp q=>p.1≠q.1)):M.Pairwise (λp q=>p.1≠q.1):=by
 rw[dR]at h;refine h.imp fun {a b} hab e=>hab ?_
 show Lit.int .i64 a.1=Lit.int .i64 b.1;rw[e]
theorem Tq(f o:Entry->Bool)(x:Int)(s:af)(hf:f (x,s)=false):∀M:List Entry,M.Pairwise (λp q=>p.1≠q.1)->(x,s)∈M->
  (M.filter λp=>(f p||p.1==x)&&o p).Perm ((M.filter λp=>f p&&o p)++if o (x,s)then [(x,s)]else [])
 | [],_,h=>by cases h
 | q::M,hp,h=>by
  have hp1:=(bU.1 hp).1;by_cases hq:q.1=x
  ·have hqe:q=(x,s):=by
    rcases bK.1 h with h|h
    ·exact h.symm
    ·exact absurd hq (hp1 _ h)
   have ht:(M.filter λp=>(f p||p.1==x)&&o p)=M.filter λp=>f p&&o p:=by
    apply lJ;intro p hpm
    have:(p.1==x)=false:=by rw[dS,<-hq];exact λe=>hp1 p hpm e.symm
    rw[this,Bool.or_false]
   rw[kJ,kJ,ht,hqe,hf];simp only[fV,Bool.or_true,iK,iL,lD,if_false];cases o (x,s)with
   | true=>
    simp only[if_true];exact(ku (l₁:= [(x,s)])).trans (jA _)
   | false=>simp
  ·have hm:(x,s)∈M:=by
    rcases bK.1 h with h|h
    ·exact absurd (by rw[<-h]) hq
    ·exact h
   have ih:=Tq f o x s hf M (bU.1 hp).2 hm;have hqx:(q.1==x)=false:=dS.2 hq;rw[kJ,kJ,hqx,Bool.or_false];cases f q&&o q with
   | true=>simp only[if_true];exact(List.Perm.cons q ih)
   | false=>simp only[lD,if_false];exact ih
structure Seen(M:List Entry)(o bad:Entry->Bool)(left:Lit->Bool)(L:List Int):Prop where
 perm:L.Perm ((M.filter λp=> !left (.int .i64 p.1)&&o p).map (·.1))
 good:∀p∈M,left (.int .i64 p.1)=false->bad p=false
 sub:∀k,left (.int .i64 k)=true->∃s,(k,s)∈M
theorem Seen.start(M:List Entry)(o bad:Entry->Bool):Seen M o bad (Maps.has (FP M)) []:=by
 have hall:∀p∈M,Maps.has (FP M) (.int .i64 p.1)=true:=λp hp=>by rw[FP,Maps.has_eq,iI];exact⟨PY p,bf.2 ⟨p,hp,rfl⟩,bJ ⟨rfl,rfl⟩⟩
 refine⟨?_,λp hp h=>(by rw[hall p hp]at h;cases h),λk h=>zi2 M k h⟩;have e:(M.filter λp=> !Maps.has (FP M) (.int .i64 p.1)&&o p)= []:=by rw[List.filter_eq_nil_iff];intro p hp;rw[hall p hp];simp
 rw[e];exact jA _
theorem Seen.step{M:List Entry}{o bad:Entry->Bool}{left:Lit->Bool}{L:List Int}(h:Seen M o bad left L)(hp:M.Pairwise (λp q=>p.1≠q.1)){x:Int}{s:af}(hm:(x,s)∈M)(hl:left (.int .i64 x)=true)(hb:bad (x,s)=false):
  Seen M o bad (λz=>left z&& !z.sameKey (.int .i64 x)) (if o (x,s)then L++ [x]else L):=by
 have hk:∀k:Int,(Lit.int .i64 k).sameKey (.int .i64 x)=(k==x):=λk=>by
  show decide (IntKind.i64=IntKind.i64∧k=x)=_;by_cases h:k=x
  ·rw[bJ ⟨rfl,h⟩,h];exact(fV _).symm
  ·rw[bV (λy=>h y.2)];exact(dS.2 h).symm
 refine⟨?_,?_,?_⟩
 ·have e:(M.filter λp=> !(left (.int .i64 p.1)&& !(Lit.int .i64 p.1).sameKey (.int .i64 x))&&o p)=M.filter λp=>(!left (.int .i64 p.1)||p.1==x)&&o p:=by
   apply lJ;intro p _;rw[hk];cases left (.int .i64 p.1)<;>cases p.1==x<;>rfl
  rw[e];have h2:=Tq (λp=> !left (.int .i64 p.1)) o x s (by simp only[hl];rfl) M hp hm;have h3:=h2.map (λp:Entry=>p.1);refine List.Perm.trans ?_ h3.symm;rw[di];cases o (x,s)with
  | true=>simp only[if_true];exact h.perm.append (jA _)
  | false=>simp only[lD,if_false,dB,dJ];exact h.perm
 ·intro p hpm hlp;rw[hk]at hlp;cases hl2:left (.int .i64 p.1)with
  | false=>exact h.good p hpm hl2
  | true=>
   rw[hl2,iK,Bool.not_eq_false']at hlp;have h1:p.1=x:=by simpa using hlp
   have g1:=AL hp (k:=p.1) (s:=p.2) hpm;have g2:=AL hp hm;rw[h1,g2]at g1
   have:p=(x,s):=Prod.ext h1 (aH g1).symm
   rw[this];exact hb
 ·intro k hk2;rw[aZ]at hk2;exact h.sub k hk2.1
theorem Seen.finish{M:List Entry}{o bad:Entry->Bool}{left:Lit->Bool}{L:List Int}(h:Seen M o bad left L)(hl:∀kl,left kl=false):L.Perm ((M.filter o).map (·.1))∧∀p∈M,bad p=false:=by
 refine⟨?_,λp hp=>h.good p hp (hl _)⟩;have e:(M.filter λp=> !left (.int .i64 p.1)&&o p)=M.filter o:=lJ λp _=>by rw[hl];rfl
 rw[<-e];exact h.perm
def yl(w:World)(mb n:Nat)(M:List Entry):Prop:=w.ownsMap Tryz.prog 3 (plainElem Tryz.prog 9) mb n (FP M)
theorem zaO:Maps.Keyed Tryz.prog 3:=Maps.int_keyed Tryz.underlying3
theorem yl.pairs{w:World}{mb n:Nat}{M:List Entry}(h:yl w mb n M):M.Pairwise (λp q=>p.1≠q.1):=by
 obtain⟨es,e,hp,_⟩:=World.ownsMap.entries h zaO
 have:es=M.map PY:=by have h2:DataW.map (M.map PY)=DataW.map es:=e;cases h2;rfl
 rw[this]at hp;exact XW hp
theorem yl.len{w:World}{mb n:Nat}{M:List Entry}(h:yl w mb n M):M.length<=n:=by obtain⟨es,clock,_,_,hs,hD⟩:=h;have h2:DataW.map (M.map PY)=DataW.map ((es.toList.map (WideElems.rg Tryz.prog 3 (plainElem Tryz.prog 9))).foldr DataW.insert []):=hD;have h3:=dK (λD=>match D with|DataW.map l=>l.length|_=>0) h2;simp only[aI,length_sorted,mG]at h3;omega
theorem GX{v:Value}{y:DataW Unit×List MemPlace}(h:plainElem Tryz.prog 9 v=some y):∃c:af,v= .string c∧y.1= .lit (.string c.data.toList):=by
 have hu:=Tryz.underlying9;unfold plainElem at h;generalize Tryz.prog.underlying 9=d at hu h;subst hu;cases v with
 | string s=>
  simp only at h;split at h
  ·exact⟨s,rfl,by rw[<-aH h]⟩
  ·cases h
 | _=>simp at h
def zk(w:World)(mb ib nm:Nat)(M:List Entry)(left:Lit->Bool)(cnt:Nat):Prop:=w.ranges Tryz.prog 3 (plainElem Tryz.prog 9) mb ib nm (FP M) left cnt
section
variable {w:World}{ops:Array Oper}{rest:List Oper}{o:Oper}{a:Act}{Q:Exit->Act->World->Prop}{mb ib nm cnt:Nat}{M:List Entry}{left:Lit->Bool}
theorem zcd{w w':World}{r:Nat}(h:w.grownBy w' (some r)):Keep (nY r) w w':=(ah _ _).grown h (λk hk=> .inl (aH hk).symm)
theorem zk.keep{w':World}(h:zk w mb ib nm M left cnt){S:Nat->Prop}(hk:Keep S w w')(h1:¬S mb)(h2:¬S ib):zk w' mb ib nm M left cnt:=by obtain⟨es,clock,since,seen,c0,e1,e2,e3,e4,e5,e6⟩:=h;exact⟨es,clock,since,seen,c0,hk.heap e1 h1,e2,e3,e4,hk.heap e5 h2,e6⟩
theorem zk.left_eq(h:zk w mb ib nm M left cnt):w.rangeLeft mb ib=cnt:=World.ranges.left_eq h
theorem NZ(hg:o.guard=none)(m:Operand)(hop:o.op=Op.range 169 m)(hm:a.eval m= .map (some mb))(hown:yl w mb nm M)
  (hK:∀w',zk w' mb w.heap.size nm M (Maps.has (FP M)) (Maps.size (FP M))->Keep nM w w'->w'.heap.size=w.heap.size+1->wpList Tryz.prog ops Q rest (a.put o.dst (.pointer (some ⟨w.heap.size,0,none⟩))) w'):wpList Tryz.prog ops Q (o::rest) a w:=
 wpList_range_own _ hg m 169 hop 3 9 zaO Tryz.underlying169 _ mb nm _ hm hown λw' h1 h2 h3=>hK w' h1 ((ah _ _).grown h2 (λk hk=>by cases hk)) h3
theorem P5(hg:o.guard=none)(it:Operand)(hop:o.op=Op.next it false)(hit:a.eval it= .pointer (some ⟨ib,0,none⟩))(h:zk w mb ib nm M left cnt)
  (hDone:(∀kl,left kl=false)->wpList Tryz.prog ops Q rest (a.put o.dst (.tuple #[.bool false])) w)
  (hMore:∀(x:Int) (c:af) (w':World) (cnt':Nat),(x,c)∈M->left (.int .i64 x)=true->zk w' mb ib nm M (λz=>left z&& !z.sameKey (.int .i64 x)) cnt'->cnt'<cnt->Keep (nY ib) w w'->w'.heap.size=w.heap.size->
   (Instr.entry (.pointer (some ⟨ib,0,none⟩))).run Tryz.prog w'= .ok (.tuple #[.int .i64 x,.string c]) w'->wpList Tryz.prog ops Q rest (a.put o.dst (.tuple #[.bool true,.int .i64 x,.string c])) w'):wpList Tryz.prog ops Q (o::rest) a w:=by
 refine wpList_next_ranges _ hg it hop 3 zaO _ (Value.int .i64) Value.string (λkey kl hk=>by obtain⟨x,hx,_⟩:=Maps.keyOf_int_inv Tryz.underlying3 hk;exact⟨x,hx⟩) (λv y hv=>by obtain⟨c,hc,_⟩:=GX hv;exact⟨c,hc⟩) mb ib nm _ _ _ hit h (λ_ hl=>hDone hl) ?_;intro x c kl yd w4 cnt2 hkey hlk hv hat hrg4 hlt4 hg4 hs4 hen;obtain⟨x',hx',hkl,_⟩:=Maps.keyOf_int_inv Tryz.underlying3 hkey;obtain rfl:x=x':=by simpa using hx'
 subst hkl;obtain⟨c',hc',hyd⟩:=GX hv;obtain rfl:c=c':=by simpa using hc'
 have hget:getM M x=some c:=by
  have h1:=hat (.lit (.bool true));rw[Wp,hyd]at h1;cases hg:getM M x with
  | none=>rw[hg]at h1;cases h1
  | some s=>
   rw[hg]at h1;have h3:s.data.toList=c.data.toList:=by simpa using h1
   have h4:s=c:=iD (gU.1 h3);rw[h4]
 exact hMore x c w4 cnt2 (Zb hget) hlk hrg4 hlt4 (zcd hg4) hs4 hen
end
def HasMap(mo:Option Nat)(o:Obj)(w:World):Prop:=∀b,mo=some b->w.heap[b]? =some o
def DR(w:World)(mo:Option Nat)(nm:Nat)(M:List Entry):Prop:=match mo with
 | none=>M= []
 | some mb=>yl w mb nm M
def zx(w:World)(mo:Option Nat)(ib nm:Nat)(M:List Entry)(left:Lit->Bool)(cnt:Nat):Prop:=match mo with
 | none=>w.heap[ib]? =some (.mapIter none 0 #[] 0)∧M= []∧(∀z,left z=false)∧cnt=0
 | some mb=>zk w mb ib nm M left cnt
def ER(w:World)(mo:Option Nat)(ib:Nat):Nat:=match mo with
 | none=>0
 | some mb=>w.rangeLeft mb ib
section
variable {w w':World}{mo:Option Nat}{ib nm cnt:Nat}{M:List Entry}{left:Lit->Bool}{ob:Obj}
theorem HasMap.keep(h:HasMap mo ob w){S:Nat->Prop}(hk:Keep S w w')(hn:∀b,mo=some b->¬S b):HasMap mo ob w':=λb hb=>hk.heap (h b hb) (hn b hb)
theorem DR.len(h:DR w mo nm M):M.length<=nm:=by
 cases mo with
 | none=>have h:M= []:=h;rw[h];exact dL _
 | some mb=>exact yl.len h
theorem DR.pairs(h:DR w mo nm M):M.Pairwise (λp q=>p.1≠q.1):=by
 cases mo with
 | none=>have h:M= []:=h;rw[h];exact List.Pairwise.nil
 | some mb=>exact yl.pairs h
theorem DR.lt(h:DR w mo nm M):∀b,mo=some b->b<w.heap.size:=by rintro b rfl;exact World.ownsMap.lt h
theorem DR.keep(h:DR w mo nm M)(hk:Keep nM w w'):DR w' mo nm M:=by
 cases mo with
 | none=>exact h
 | some mb=>exact World.ownsMap.kept (w:=w) h ⟨hk.os,hk.tape,hk.output,hk.size,λi hi _=>hk.block i hi (λx=>x)⟩ (show some mb≠none by simp)
theorem DR.row_ne(h:DR w mo nm M){b:Nat}{c:Array Value}{ty:TypeId}{f:Nat×Nat}(hr:w.heap[b]? =some (.cells c ty f)):mo≠some b:=by rintro rfl;obtain⟨es,clock,h1,_⟩:=h;rw[h1]at hr;cases hr
theorem zx.keep(h:zx w mo ib nm M left cnt){S:Nat->Prop}(hk:Keep S w w')(h1:∀b,mo=some b->¬S b)(h2:¬S ib):zx w' mo ib nm M left cnt:=by
 cases mo with
 | none=>exact⟨hk.heap h.1 h2,h.2⟩
 | some mb=>exact zk.keep h hk (h1 mb rfl) h2
theorem zx.left_eq(h:zx w mo ib nm M left cnt):ER w mo ib=cnt:=by
 cases mo with
 | none=>exact h.2.2.2.symm
 | some mb=>exact zk.left_eq h
theorem XJ{P:Program}(ty:TypeId)(h:w.heap[ib]? =some (.mapIter none 0 #[] 0)):(Instr.next (.pointer (some ⟨ib,0,none⟩)) false ty).run P w= .ok (.tuple #[.bool false]) w:=by simp only[Instr.next,getObj,jG,Sem.run,h,Result.andThen];rfl
section
variable {ops:Array Oper}{rest:List Oper}{o:Oper}{a:Act}{Q:Exit->Act->World->Prop}
theorem MJ(hg:o.guard=none)(m:Operand)(hop:o.op=Op.range 169 m)(hm:a.eval m= .map mo)(hown:DR w mo nm M)
  (hK:∀w',(∃cnt,zx w' mo w.heap.size nm M (Maps.has (FP M)) cnt)->Keep nM w w'->w'.heap.size=w.heap.size+1->wpList Tryz.prog ops Q rest (a.put o.dst (.pointer (some ⟨w.heap.size,0,none⟩))) w'):wpList Tryz.prog ops Q (o::rest) a w:=by
 cases mo with
 | some mb=>exact NZ hg m hop hm hown λw' h1 h2 h3=>hK w' ⟨_,h1⟩ h2 h3
 | none=>
  have hM:M= []:=hown;refine wpList_plain hg λK' hK'=> ?_;have hrun:=run_range_nilMap (P:=Tryz.prog) w 169 3 9 Tryz.underlying169;unfold Oper.wp;simp[execOp,hop,hm,hrun,Result.andThen];refine hK' _ _ (hK _ ⟨0,?_⟩ ((ah _ _).alloc _) (dY _));refine⟨aG w _,hM,λz=> ?_,rfl⟩;rw[hM];rfl
theorem N7(hg:o.guard=none)(it:Operand)(hop:o.op=Op.next it false)(hit:a.eval it= .pointer (some ⟨ib,0,none⟩))(h:zx w mo ib nm M left cnt)
  (hDone:(∀kl,left kl=false)->wpList Tryz.prog ops Q rest (a.put o.dst (.tuple #[.bool false])) w)
  (hMore:∀(x:Int) (c:af) (w':World) (cnt':Nat),(x,c)∈M->left (.int .i64 x)=true->zx w' mo ib nm M (λz=>left z&& !z.sameKey (.int .i64 x)) cnt'->cnt'<cnt->Keep (nY ib) w w'->w'.heap.size=w.heap.size->
   (Instr.entry (.pointer (some ⟨ib,0,none⟩))).run Tryz.prog w'= .ok (.tuple #[.int .i64 x,.string c]) w'->wpList Tryz.prog ops Q rest (a.put o.dst (.tuple #[.bool true,.int .i64 x,.string c])) w'):wpList Tryz.prog ops Q (o::rest) a w:=by
 cases mo with
 | some mb=>exact P5 hg it hop hit h hDone hMore
 | none=>
  refine wpList_plain hg λK' hK'=> ?_;have hrun:=XJ (P:=Tryz.prog) o.type h.1;unfold Oper.wp;simp[execOp,hop,hit,hrun,Result.andThen];exact hK' _ _ (hDone h.2.2.1)
end
end
section
open Go.ChangeMaps Go.MapKept
open Go.WideElems (Fit)
open Go.Maps (Keyed)
section
variable {P:Program}{w:World}{t k e:TypeId}{b clock:Nat}{es:Array MapEntry}{H:Type}{R:Value->Option (DataW H×List MemPlace)}
theorem Lu(w:World)(b:Nat)(x y:Obj):setBlock (setBlock w b x) b y=setBlock w b y:=by simp[setBlock]
theorem TY{es:Array MapEntry}{clock:Nat}(h:∀x∈es.toList,x.born<clock)(key z:Value):(es.push { key,val:=z,born:=clock }).findIdx? (λe=>(e.born:Int)==(clock:Int))=some es.size:=by
 rw[Array.findIdx?_push]
 have:es.findIdx? (λe=>(e.born:Int)==(clock:Int))=none:=by rw[Array.findIdx?_eq_none_iff];intro x hx;have:=h x (by simpa using hx);simp;omega
 rw[this];simp
theorem XV{es:Array MapEntry}(hn:(es.toList.map (·.born)).Nodup){j:Nat}{e0:MapEntry}(hj:es[j]? =some e0)(f:MapEntry->MapEntry)(hf:∀x,(f x).born=x.born):(es.modify j f).findIdx? (λe=>(e.born:Int)==(e0.born:Int))=some j:=by
 obtain⟨hjl,hje⟩:=fO.1 hj;rw[Array.findIdx?_eq_some_iff_getElem];refine⟨by simpa using hjl,?_,λi hi=> ?_⟩
 ·rw[eu,hf,hje];simp
 ·have hil:i<es.size:=by omega
  rw[Array.getElem_modify,aB (by omega)];simp only[jP];intro h;have h1:es[i].born=es[j].born:=by rw[hje];omega
  have h2:=iR.1 hn i j (by simpa using hil) (by simpa using hjl) hi;simp at h2;exact h2 h1
theorem Vx{W:World}{es:Array MapEntry}{clock st:Nat}(hb':W.heap[b]? =some (.map es clock)){i:Nat}(hf:es.findIdx? (λe=>(e.born:Int)==(st:Int))=some i)(val:Value)(t2:TypeId):
  (Instr.entryStore t2 (.map (some b)) (.int .i64 st) val).run P W= .ok () (setBlock W b (.map (es.modify i λe=> { e with val:=val }) clock)):=by
 simp[Instr.entryStore,jk hb',asInt,asIntOf,hf,jl _ hb',Result.andThen,setBlock]
theorem entry_then_store(K:Keyed P k)(ht:P.underlying t=some (.map k e))(hb:w.heap[b]? =some (.map es clock))(F:Fit P k R es clock){key:Value}{kl:Lit}(hkey:keyOf P k key=some kl){z:Value}(hz:(zeroValue e).run P w= .ok z w):
  ∃v0 w1,∃st:Nat,(Instr.mapEntry t (.map (some b)) key).run P w= .ok (.tuple #[v0,.int .i64 st]) w1∧∀(val:Value) (t2:TypeId),(Instr.entryStore t2 (.map (some b)) (.int .i64 st) val).run P w1=(Instr.mapUpdate t (.map (some b)) key val).run P w:=by
 obtain⟨hb1,hb2,hb3⟩:=(stamped_iff es clock).1 F.stamped;rcases K.find w hkey es.toList (λx hx=>by obtain⟨y,hy⟩:=F.reads x hx;exact⟨_,Go.WideElems.rd_key hy⟩)with⟨h1,h2⟩|⟨j,e0,h1,h2,h3⟩
 ·refine⟨z,setBlock w b (.map (es.push ⟨key,z,clock⟩) (clock+1)),clock,?_,λval t2=> ?_⟩
  ·simp[Instr.mapEntry,gK ht,jk hb,K.check w false hkey,h1,hz,jl _ hb,Result.andThen,setBlock,goInt]
  ·have hb':(setBlock w b (.map (es.push ⟨key,z,clock⟩) (clock+1))).heap[b]? =some (.map (es.push ⟨key,z,clock⟩) (clock+1)):=heap_setBlock_same hb _;rw[Vx hb' (TY hb1 key z),Lu];simp[Instr.mapUpdate,gK ht,jk hb,K.check w false hkey,h1,jl _ hb,Result.andThen,setBlock]
   congr 2
   apply lF;intro q;rw[gq,Array.getElem?_push,Array.getElem?_push];by_cases h:es.size=q
   ·subst h;simp
   ·rw[aB h,aB (λe=>h e.symm),aB (λe=>h e.symm)]
 ·have hj:es[j]? =some e0:=by simpa using h2
  have hst:=K.stays w hkey;refine⟨e0.val,setBlock w b (.map (es.modify j λe=> { e with key:=key }) clock),e0.born,?_,λval t2=> ?_⟩
  ·simp[Instr.mapEntry,gK ht,jk hb,K.check w false hkey,h1,hj,h3,hst,jl _ hb,Result.andThen,setBlock,goInt]
  ·have hb':(setBlock w b (.map (es.modify j λe=> { e with key:=key }) clock)).heap[b]? =some (.map (es.modify j λe=> { e with key:=key }) clock):=heap_setBlock_same hb _;rw[Vx hb' (XV hb2 hj (λe=> { e with key:=key }) (λ_=>rfl)),Lu];simp[Instr.mapUpdate,gK ht,jk hb,K.check w false hkey,h1,hj,h3,hst,jl _ hb,Result.andThen,setBlock]
   congr 2
   apply lF;intro q;rw[gq,gq,gq];by_cases h:j=q
   ·subst h;simp[hj]
   ·rw[aB h,aB h,aB h]
end
end
theorem zgk(w:World):(zeroValue 9).run Tryz.prog w= .ok (.string ⟨#[]⟩) w:=by
 have h:(Tryz.prog.info? 9).map (λi=>i.zero)=some (some (.string ⟨#[]⟩)):=by kernel_rfl
 cases hi:Tryz.prog.info? 9 with
 | none=>rw[hi]at h;cases h
 | some i=>
  rw[hi]at h;simp only[eQ,eU]at h;simp[zeroValue,typeInfo,hi,h]
theorem yl.entry{w:World}{mb n:Nat}{M:List Entry}(h:yl w mb n M)(hn:n<maxLen)(k:Nat)(hk:k<=1000000)(s:af)(hs:s.size<=maxLen):
  ∃v0 w1,∃st:Nat,∃w2,(Instr.mapEntry 169 (.map (some mb)) (.int .i64 k)).run Tryz.prog w= .ok (.tuple #[v0,.int .i64 st]) w1∧(Instr.entryStore 169 (.map (some mb)) (.int .i64 st) (.string s)).run Tryz.prog w1= .ok () w2∧
   w2.ownsMap Tryz.prog 3 (plainElem Tryz.prog 9) mb (n+1) ((FP M).put (.int .i64 k) (.lit (.string s.data.toList)))∧w.grownBy w2 (some mb):=by
 have hkey:keyOf Tryz.prog 3 (.int .i64 k)=some (.int .i64 k):=Maps.keyOf_int_mk Tryz.underlying3 (by simp[Lit.wf,show IntKind.i64.min= -9223372036854775808 from rfl,show IntKind.i64.max=9223372036854775807 from rfl];omega);have hval:plainElem (H:=Unit) Tryz.prog 9 (.string s)=some (.lit (.string s.data.toList),[]):=by simp[plainElem,Tryz.underlying9,hs]
 obtain⟨w2,hrun,h2,h3⟩:=World.ownsMap.update h zaO Tryz.underlying169 hn hkey hval;obtain⟨es,clock,hb,F,hsz,hD⟩:=h;obtain⟨v0,w1,st,h4,h5⟩:=entry_then_store zaO Tryz.underlying169 hb F hkey (zgk w);exact⟨v0,w1,st,w2,h4,(h5 _ _).trans hrun,h2,h3⟩
end Go.Proofs.YtopbkdebihcmcaaGreatDoor
