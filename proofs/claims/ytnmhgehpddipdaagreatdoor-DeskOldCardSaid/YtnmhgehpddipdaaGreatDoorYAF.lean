import Derived.Test.YtnmhgehpddipdaaGreatDoorYAD
import Derived.Test.YtnmhgehpddipdaaGreatDoorProg
import Derived.Maps.RangeWalk
import Derived.Maps.OwnOps
import Derived.Laws.IdiomRangeMap
set_option linter.unusedSimpArgs false
set_option linter.unusedVariables false
namespace Go.Cof
open Go.RowKit
abbrev Entry:=Int×ByteArray
def encE(p:Entry):Lit×DataW Unit:=(.int .i64 p.1,.lit (.string p.2.data.toList))
def encM(M:List Entry):DataW Unit:= .map (M.map encE)
def getM(M:List Entry)(k:Int):Option ByteArray:=(M.find? λp=>p.1==k).map (·.2)
theorem find_enc(k:Int):∀M:List Entry,(M.map encE).find? (λp=>p.1.sameKey (.int .i64 k))=(M.find? λp=>p.1==k).map encE
 | []=>rfl
 | p::M=>by
  have e:(encE p).1.sameKey (.int .i64 k)=(p.1==k):=by
   show decide (IntKind.i64=IntKind.i64∧p.1=k)=_
   by_cases h:p.1=k
   ·rw[decide_eq_true ⟨rfl,h⟩,h];exact(beq_self_eq_true _).symm
   ·rw[decide_eq_false (λx=>h x.2)];exact(beq_eq_false_iff_ne.2 h).symm
  rw[List.map_cons,List.find?_cons,List.find?_cons,e]
  cases p.1==k with
  | true=>rfl
  | false=>exact find_enc k M
theorem atKey_enc(M:List Entry)(k:Int)(z:DataW Unit):(encM M).atKey (.int .i64 k) z=match getM M k with|some s=> .lit (.string s.data.toList)|none=>z:=by
 unfold DataW.atKey encM
 simp only[find_enc,getM]
 cases M.find? λp=>p.1==k with
 | none=>rfl
 | some p=>rfl
theorem has_enc(M:List Entry)(k:Int):Maps.has (encM M) (.int .i64 k)=true->∃s,(k,s)∈M:=by
 intro h
 rw[encM,Maps.has_eq,List.any_eq_true]at h
 obtain⟨x,hx,hk⟩:=h
 obtain⟨p,hp,rfl⟩:=List.mem_map.1 hx
 have:p.1=k:=by
  have h2:decide (IntKind.i64=IntKind.i64∧p.1=k)=true:=hk
  exact(of_decide_eq_true h2).2
 exact⟨p.2,by rw[<-this];exact hp⟩
theorem getM_mem{M:List Entry}(hp:M.Pairwise (λp q=>p.1≠q.1)){k:Int}{s:ByteArray}(h:(k,s)∈M):getM M k=some s:=by
 induction M with
 | nil=>cases h
 | cons p M ih=>
  rw[getM,List.find?_cons]
  cases e:p.1==k with
  | true=>
   rcases List.mem_cons.1 h with h|h
   ·rw[<-h];rfl
   ·have h1:=(List.pairwise_cons.1 hp).1 _ h
    exact absurd (beq_iff_eq.1 e) h1
  | false=>
   rcases List.mem_cons.1 h with h|h
   ·rw[<-h]at e;simp at e
   ·exact ih (List.pairwise_cons.1 hp).2 h
theorem mem_getM{M:List Entry}{k:Int}{s:ByteArray}(h:getM M k=some s):(k,s)∈M:=by
 unfold getM at h
 cases e:M.find? λp=>p.1==k with
 | none=>rw[e]at h;cases h
 | some p=>
  rw[e]at h
  have h1:=List.mem_of_find?_eq_some e
  have h2:p.1=k:=by simpa using List.find?_some e
  obtain rfl:p.2=s:=Option.some.inj h
  rw[<-h2]
  exact h1
theorem enc_pairwise{M:List Entry}(h:(M.map encE).Pairwise (λp q=>p.1≠q.1)):M.Pairwise (λp q=>p.1≠q.1):=by
 rw[List.pairwise_map]at h
 refine h.imp fun {a b} hab e=>hab ?_
 show Lit.int .i64 a.1=Lit.int .i64 b.1
 rw[e]
theorem filter_add(f o:Entry->Bool)(x:Int)(s:ByteArray)(hf:f (x,s)=false):∀M:List Entry,M.Pairwise (λp q=>p.1≠q.1)->(x,s)∈M->
  (M.filter λp=>(f p||p.1==x)&&o p).Perm ((M.filter λp=>f p&&o p)++if o (x,s)then [(x,s)]else [])
 | [],_,h=>by cases h
 | q::M,hp,h=>by
  have hp1:=(List.pairwise_cons.1 hp).1
  by_cases hq:q.1=x
  ·have hqe:q=(x,s):=by
    rcases List.mem_cons.1 h with h|h
    ·exact h.symm
    ·exact absurd hq (hp1 _ h)
   have ht:(M.filter λp=>(f p||p.1==x)&&o p)=M.filter λp=>f p&&o p:=by
    apply List.filter_congr
    intro p hpm
    have:(p.1==x)=false:=by
     rw[beq_eq_false_iff_ne,<-hq]
     exact λe=>hp1 p hpm e.symm
    rw[this,Bool.or_false]
   rw[List.filter_cons,List.filter_cons,ht,hqe,hf]
   simp only[beq_self_eq_true,Bool.or_true,Bool.true_and,Bool.false_and,Bool.false_eq_true,if_false]
   cases o (x,s)with
   | true=>
    simp only[if_true]
    exact(List.perm_append_comm (l₁:= [(x,s)])).trans (List.Perm.refl _)
   | false=>simp
  ·have hm:(x,s)∈M:=by
    rcases List.mem_cons.1 h with h|h
    ·exact absurd (by rw[<-h]) hq
    ·exact h
   have ih:=filter_add f o x s hf M (List.pairwise_cons.1 hp).2 hm
   have hqx:(q.1==x)=false:=beq_eq_false_iff_ne.2 hq
   rw[List.filter_cons,List.filter_cons,hqx,Bool.or_false]
   cases f q&&o q with
   | true=>simp only[if_true];exact(List.Perm.cons q ih)
   | false=>simp only[Bool.false_eq_true,if_false];exact ih
structure Seen(M:List Entry)(o bad:Entry->Bool)(left:Lit->Bool)(L:List Int):Prop where
 perm:L.Perm ((M.filter λp=> !left (.int .i64 p.1)&&o p).map (·.1))
 good:∀p∈M,left (.int .i64 p.1)=false->bad p=false
 sub:∀k,left (.int .i64 k)=true->∃s,(k,s)∈M
theorem Seen.start(M:List Entry)(o bad:Entry->Bool):Seen M o bad (Maps.has (encM M)) []:=by
 have hall:∀p∈M,Maps.has (encM M) (.int .i64 p.1)=true:=λp hp=>by
  rw[encM,Maps.has_eq,List.any_eq_true]
  exact⟨encE p,List.mem_map.2 ⟨p,hp,rfl⟩,decide_eq_true ⟨rfl,rfl⟩⟩
 refine⟨?_,λp hp h=>(by rw[hall p hp]at h;cases h),λk h=>has_enc M k h⟩
 have e:(M.filter λp=> !Maps.has (encM M) (.int .i64 p.1)&&o p)= []:=by
  rw[List.filter_eq_nil_iff]
  intro p hp
  rw[hall p hp]
  simp
 rw[e]
 exact List.Perm.refl _
theorem Seen.step{M:List Entry}{o bad:Entry->Bool}{left:Lit->Bool}{L:List Int}(h:Seen M o bad left L)(hp:M.Pairwise (λp q=>p.1≠q.1)){x:Int}{s:ByteArray}(hm:(x,s)∈M)(hl:left (.int .i64 x)=true)(hb:bad (x,s)=false):
  Seen M o bad (λz=>left z&& !z.sameKey (.int .i64 x)) (if o (x,s)then L++ [x]else L):=by
 have hk:∀k:Int,(Lit.int .i64 k).sameKey (.int .i64 x)=(k==x):=λk=>by
  show decide (IntKind.i64=IntKind.i64∧k=x)=_
  by_cases h:k=x
  ·rw[decide_eq_true ⟨rfl,h⟩,h];exact(beq_self_eq_true _).symm
  ·rw[decide_eq_false (λy=>h y.2)];exact(beq_eq_false_iff_ne.2 h).symm
 refine⟨?_,?_,?_⟩
 ·have e:(M.filter λp=> !(left (.int .i64 p.1)&& !(Lit.int .i64 p.1).sameKey (.int .i64 x))&&o p)=M.filter λp=>(!left (.int .i64 p.1)||p.1==x)&&o p:=by
   apply List.filter_congr
   intro p _
   rw[hk]
   cases left (.int .i64 p.1)<;>cases p.1==x<;>rfl
  rw[e]
  have h2:=filter_add (λp=> !left (.int .i64 p.1)) o x s (by simp only[hl];rfl) M hp hm
  have h3:=h2.map (λp:Entry=>p.1)
  refine List.Perm.trans ?_ h3.symm
  rw[List.map_append]
  cases o (x,s)with
  | true=>simp only[if_true];exact h.perm.append (List.Perm.refl _)
  | false=>simp only[Bool.false_eq_true,if_false,List.map_nil,List.append_nil];exact h.perm
 ·intro p hpm hlp
  rw[hk]at hlp
  cases hl2:left (.int .i64 p.1)with
  | false=>exact h.good p hpm hl2
  | true=>
   rw[hl2,Bool.true_and,Bool.not_eq_false']at hlp
   have h1:p.1=x:=by simpa using hlp
   have g1:=getM_mem hp (k:=p.1) (s:=p.2) hpm
   have g2:=getM_mem hp hm
   rw[h1,g2]at g1
   have:p=(x,s):=Prod.ext h1 (Option.some.inj g1).symm
   rw[this]
   exact hb
 ·intro k hk2
  rw[Bool.and_eq_true]at hk2
  exact h.sub k hk2.1
theorem Seen.finish{M:List Entry}{o bad:Entry->Bool}{left:Lit->Bool}{L:List Int}(h:Seen M o bad left L)(hl:∀kl,left kl=false):L.Perm ((M.filter o).map (·.1))∧∀p∈M,bad p=false:=by
 refine⟨?_,λp hp=>h.good p hp (hl _)⟩
 have e:(M.filter λp=> !left (.int .i64 p.1)&&o p)=M.filter o:=List.filter_congr λp _=>by rw[hl];rfl
 rw[<-e]
 exact h.perm
end Go.Cof
namespace Go.Proofs.YtnmhgehpddipdaaGreatDoor
open Go.RowKit Go.Cof
def MapIs(w:World)(mb n:Nat)(M:List Entry):Prop:=w.ownsMap Tryz.prog 3 (plainElem Tryz.prog 9) mb n (encM M)
theorem lawI:Maps.Keyed Tryz.prog 3:=Maps.int_keyed Tryz.underlying3
theorem MapIs.pairs{w:World}{mb n:Nat}{M:List Entry}(h:MapIs w mb n M):M.Pairwise (λp q=>p.1≠q.1):=by
 obtain⟨es,e,hp,_⟩:=World.ownsMap.entries h lawI
 have:es=M.map encE:=by
  have h2:DataW.map (M.map encE)=DataW.map es:=e
  cases h2
  rfl
 rw[this]at hp
 exact enc_pairwise hp
theorem MapIs.len{w:World}{mb n:Nat}{M:List Entry}(h:MapIs w mb n M):M.length<=n:=by
 obtain⟨es,clock,_,_,hs,hD⟩:=h
 have h2:DataW.map (M.map encE)=DataW.map ((es.toList.map (WideElems.rg Tryz.prog 3 (plainElem Tryz.prog 9))).foldr DataW.insert []):=hD
 have h3:=congrArg (λD=>match D with|DataW.map l=>l.length|_=>0) h2
 simp only[List.length_map,length_sorted,Array.length_toList]at h3
 omega
theorem elem_string{v:Value}{y:DataW Unit×List MemPlace}(h:plainElem Tryz.prog 9 v=some y):∃c:ByteArray,v= .string c∧y.1= .lit (.string c.data.toList):=by
 have hu:=Tryz.underlying9
 unfold plainElem at h
 generalize Tryz.prog.underlying 9=d at hu h
 subst hu
 cases v with
 | string s=>
  simp only at h
  split at h
  ·exact⟨s,rfl,by rw[<-Option.some.inj h]⟩
  ·cases h
 | _=>simp at h
end Go.Proofs.YtnmhgehpddipdaaGreatDoor
namespace Go.Proofs.YtnmhgehpddipdaaGreatDoor
open Go.RowKit Go.Cof
def Ranging(w:World)(mb ib nm:Nat)(M:List Entry)(left:Lit->Bool)(cnt:Nat):Prop:=w.ranges Tryz.prog 3 (plainElem Tryz.prog 9) mb ib nm (encM M) left cnt
section
variable {w:World}{ops:Array Oper}{rest:List Oper}{o:Oper}{a:Act}{Q:Exit->Act->World->Prop}{mb ib nm cnt:Nat}{M:List Entry}{left:Lit->Bool}
theorem grown_keep{w w':World}{r:Nat}(h:w.grownBy w' (some r)):Keep (OneB r) w w':=(Keep.refl _ _).grown h (λk hk=> .inl (Option.some.inj hk).symm)
theorem Ranging.keep{w':World}(h:Ranging w mb ib nm M left cnt){S:Nat->Prop}(hk:Keep S w w')(h1:¬S mb)(h2:¬S ib):Ranging w' mb ib nm M left cnt:=by
 obtain⟨es,clock,since,seen,c0,e1,e2,e3,e4,e5,e6⟩:=h
 exact⟨es,clock,since,seen,c0,hk.heap e1 h1,e2,e3,e4,hk.heap e5 h2,e6⟩
theorem Ranging.left_eq(h:Ranging w mb ib nm M left cnt):w.rangeLeft mb ib=cnt:=World.ranges.left_eq h
theorem wpList_range_map(hg:o.guard=none)(m:Operand)(hop:o.op=Op.range 96 m)(hm:a.eval m= .map (some mb))(hown:MapIs w mb nm M)
  (hK:∀w',Ranging w' mb w.heap.size nm M (Maps.has (encM M)) (Maps.size (encM M))->Keep NoB w w'->w'.heap.size=w.heap.size+1->wpList Tryz.prog ops Q rest (a.put o.dst (.pointer (some ⟨w.heap.size,0,none⟩))) w'):wpList Tryz.prog ops Q (o::rest) a w:=
 wpList_range_own _ hg m 96 hop 3 9 lawI Tryz.underlying96 _ mb nm _ hm hown λw' h1 h2 h3=>hK w' h1 ((Keep.refl _ _).grown h2 (λk hk=>by cases hk)) h3
theorem wpList_next_map(hg:o.guard=none)(it:Operand)(hop:o.op=Op.next it false)(hit:a.eval it= .pointer (some ⟨ib,0,none⟩))(h:Ranging w mb ib nm M left cnt)
  (hDone:(∀kl,left kl=false)->wpList Tryz.prog ops Q rest (a.put o.dst (.tuple #[.bool false])) w)
  (hMore:∀(x:Int) (c:ByteArray) (w':World) (cnt':Nat),(x,c)∈M->left (.int .i64 x)=true->Ranging w' mb ib nm M (λz=>left z&& !z.sameKey (.int .i64 x)) cnt'->cnt'<cnt->Keep (OneB ib) w w'->w'.heap.size=w.heap.size->
   (Instr.entry (.pointer (some ⟨ib,0,none⟩))).run Tryz.prog w'= .ok (.tuple #[.int .i64 x,.string c]) w'->wpList Tryz.prog ops Q rest (a.put o.dst (.tuple #[.bool true,.int .i64 x,.string c])) w'):wpList Tryz.prog ops Q (o::rest) a w:=by
 refine wpList_next_ranges _ hg it hop 3 lawI _ (Value.int .i64) Value.string (λkey kl hk=>by obtain⟨x,hx,_⟩:=Maps.keyOf_int_inv Tryz.underlying3 hk;exact⟨x,hx⟩) (λv y hv=>by obtain⟨c,hc,_⟩:=elem_string hv;exact⟨c,hc⟩) mb ib nm _ _ _ hit h (λ_ hl=>hDone hl) ?_
 intro x c kl yd w4 cnt2 hkey hlk hv hat hrg4 hlt4 hg4 hs4 hen
 obtain⟨x',hx',hkl,_⟩:=Maps.keyOf_int_inv Tryz.underlying3 hkey
 obtain rfl:x=x':=by simpa using hx'
 subst hkl
 obtain⟨c',hc',hyd⟩:=elem_string hv
 obtain rfl:c=c':=by simpa using hc'
 have hget:getM M x=some c:=by
  have h1:=hat (.lit (.bool true))
  rw[atKey_enc,hyd]at h1
  cases hg:getM M x with
  | none=>rw[hg]at h1;cases h1
  | some s=>
   rw[hg]at h1
   have h3:s.data.toList=c.data.toList:=by simpa using h1
   have h4:s=c:=ByteArray.ext (Array.toList_inj.1 h3)
   rw[h4]
 exact hMore x c w4 cnt2 (mem_getM hget) hlk hrg4 hlt4 (grown_keep hg4) hs4 hen
end
def HasMap(mo:Option Nat)(o:Obj)(w:World):Prop:=∀b,mo=some b->w.heap[b]? =some o
def MapO(w:World)(mo:Option Nat)(nm:Nat)(M:List Entry):Prop:=match mo with
 | none=>M= []
 | some mb=>MapIs w mb nm M
def RangingO(w:World)(mo:Option Nat)(ib nm:Nat)(M:List Entry)(left:Lit->Bool)(cnt:Nat):Prop:=match mo with
 | none=>w.heap[ib]? =some (.mapIter none 0 #[] 0)∧M= []∧(∀z,left z=false)∧cnt=0
 | some mb=>Ranging w mb ib nm M left cnt
def rangeLeftO(w:World)(mo:Option Nat)(ib:Nat):Nat:=match mo with
 | none=>0
 | some mb=>w.rangeLeft mb ib
section
variable {w w':World}{mo:Option Nat}{ib nm cnt:Nat}{M:List Entry}{left:Lit->Bool}{ob:Obj}
theorem HasMap.keep(h:HasMap mo ob w){S:Nat->Prop}(hk:Keep S w w')(hn:∀b,mo=some b->¬S b):HasMap mo ob w':=λb hb=>hk.heap (h b hb) (hn b hb)
theorem MapO.len(h:MapO w mo nm M):M.length<=nm:=by
 cases mo with
 | none=>have h:M= []:=h;rw[h];exact Nat.zero_le _
 | some mb=>exact MapIs.len h
theorem MapO.pairs(h:MapO w mo nm M):M.Pairwise (λp q=>p.1≠q.1):=by
 cases mo with
 | none=>have h:M= []:=h;rw[h];exact List.Pairwise.nil
 | some mb=>exact MapIs.pairs h
theorem MapO.lt(h:MapO w mo nm M):∀b,mo=some b->b<w.heap.size:=by
 rintro b rfl
 exact World.ownsMap.lt h
theorem MapO.keep(h:MapO w mo nm M)(hk:Keep NoB w w'):MapO w' mo nm M:=by
 cases mo with
 | none=>exact h
 | some mb=>exact World.ownsMap.kept (w:=w) h ⟨hk.os,hk.tape,hk.output,hk.size,λi hi _=>hk.block i hi (λx=>x)⟩ (show some mb≠none by simp)
theorem MapO.row_ne(h:MapO w mo nm M){b:Nat}{c:Array Value}{ty:TypeId}{f:Nat×Nat}(hr:w.heap[b]? =some (.cells c ty f)):mo≠some b:=by
 rintro rfl
 obtain⟨es,clock,h1,_⟩:=h
 rw[h1]at hr
 cases hr
theorem RangingO.keep(h:RangingO w mo ib nm M left cnt){S:Nat->Prop}(hk:Keep S w w')(h1:∀b,mo=some b->¬S b)(h2:¬S ib):RangingO w' mo ib nm M left cnt:=by
 cases mo with
 | none=>exact⟨hk.heap h.1 h2,h.2⟩
 | some mb=>exact Ranging.keep h hk (h1 mb rfl) h2
theorem RangingO.left_eq(h:RangingO w mo ib nm M left cnt):rangeLeftO w mo ib=cnt:=by
 cases mo with
 | none=>exact h.2.2.2.symm
 | some mb=>exact Ranging.left_eq h
theorem run_next_nil{P:Program}(ty:TypeId)(h:w.heap[ib]? =some (.mapIter none 0 #[] 0)):(Instr.next (.pointer (some ⟨ib,0,none⟩)) false ty).run P w= .ok (.tuple #[.bool false]) w:=by
 simp only[Instr.next,getObj,Sem.run_bind,Sem.run,h,Result.andThen]
 rfl
section
variable {ops:Array Oper}{rest:List Oper}{o:Oper}{a:Act}{Q:Exit->Act->World->Prop}
theorem wpList_range_mapO(hg:o.guard=none)(m:Operand)(hop:o.op=Op.range 96 m)(hm:a.eval m= .map mo)(hown:MapO w mo nm M)
  (hK:∀w',(∃cnt,RangingO w' mo w.heap.size nm M (Maps.has (encM M)) cnt)->Keep NoB w w'->w'.heap.size=w.heap.size+1->wpList Tryz.prog ops Q rest (a.put o.dst (.pointer (some ⟨w.heap.size,0,none⟩))) w'):wpList Tryz.prog ops Q (o::rest) a w:=by
 cases mo with
 | some mb=>exact wpList_range_map hg m hop hm hown λw' h1 h2 h3=>hK w' ⟨_,h1⟩ h2 h3
 | none=>
  have hM:M= []:=hown
  refine wpList_plain hg λK' hK'=> ?_
  have hrun:=run_range_nilMap (P:=Tryz.prog) w 96 3 9 Tryz.underlying96
  unfold Oper.wp
  simp[execOp,hop,hm,hrun,Result.andThen]
  refine hK' _ _ (hK _ ⟨0,?_⟩ ((Keep.refl _ _).alloc _) (Array.size_push _))
  refine⟨heap_alloc_new w _,hM,λz=> ?_,rfl⟩
  rw[hM];rfl
theorem wpList_next_mapO(hg:o.guard=none)(it:Operand)(hop:o.op=Op.next it false)(hit:a.eval it= .pointer (some ⟨ib,0,none⟩))(h:RangingO w mo ib nm M left cnt)
  (hDone:(∀kl,left kl=false)->wpList Tryz.prog ops Q rest (a.put o.dst (.tuple #[.bool false])) w)
  (hMore:∀(x:Int) (c:ByteArray) (w':World) (cnt':Nat),(x,c)∈M->left (.int .i64 x)=true->RangingO w' mo ib nm M (λz=>left z&& !z.sameKey (.int .i64 x)) cnt'->cnt'<cnt->Keep (OneB ib) w w'->w'.heap.size=w.heap.size->
   (Instr.entry (.pointer (some ⟨ib,0,none⟩))).run Tryz.prog w'= .ok (.tuple #[.int .i64 x,.string c]) w'->wpList Tryz.prog ops Q rest (a.put o.dst (.tuple #[.bool true,.int .i64 x,.string c])) w'):wpList Tryz.prog ops Q (o::rest) a w:=by
 cases mo with
 | some mb=>exact wpList_next_map hg it hop hit h hDone hMore
 | none=>
  refine wpList_plain hg λK' hK'=> ?_
  have hrun:=run_next_nil (P:=Tryz.prog) o.type h.1
  unfold Oper.wp
  simp[execOp,hop,hit,hrun,Result.andThen]
  exact hK' _ _ (hDone h.2.2.1)
end
end
end Go.Proofs.YtnmhgehpddipdaaGreatDoor
namespace Go.Cof
open Go.RowKit Go.ChangeMaps Go.MapKept
open Go.WideElems (Fit)
open Go.Maps (Keyed)
section
variable {P:Program}{w:World}{t k e:TypeId}{b clock:Nat}{es:Array MapEntry}{H:Type}{R:Value->Option (DataW H×List MemPlace)}
theorem setBlock_two(w:World)(b:Nat)(x y:Obj):setBlock (setBlock w b x) b y=setBlock w b y:=by
 simp[setBlock]
theorem find_born_push{es:Array MapEntry}{clock:Nat}(h:∀x∈es.toList,x.born<clock)(key z:Value):(es.push { key,val:=z,born:=clock }).findIdx? (λe=>(e.born:Int)==(clock:Int))=some es.size:=by
 rw[Array.findIdx?_push]
 have:es.findIdx? (λe=>(e.born:Int)==(clock:Int))=none:=by
  rw[Array.findIdx?_eq_none_iff]
  intro x hx
  have:=h x (by simpa using hx)
  simp
  omega
 rw[this]
 simp
theorem find_born_at{es:Array MapEntry}(hn:(es.toList.map (·.born)).Nodup){j:Nat}{e0:MapEntry}(hj:es[j]? =some e0)(f:MapEntry->MapEntry)(hf:∀x,(f x).born=x.born):(es.modify j f).findIdx? (λe=>(e.born:Int)==(e0.born:Int))=some j:=by
 obtain⟨hjl,hje⟩:=Array.getElem?_eq_some_iff.1 hj
 rw[Array.findIdx?_eq_some_iff_getElem]
 refine⟨by simpa using hjl,?_,λi hi=> ?_⟩
 ·rw[Array.getElem_modify_self,hf,hje]
  simp
 ·have hil:i<es.size:=by omega
  rw[Array.getElem_modify,if_neg (by omega)]
  simp only[beq_iff_eq]
  intro h
  have h1:es[i].born=es[j].born:=by rw[hje];omega
  have h2:=List.pairwise_iff_getElem.1 hn i j (by simpa using hil) (by simpa using hjl) hi
  simp at h2
  exact h2 h1
theorem store_run{W:World}{es:Array MapEntry}{clock st:Nat}(hb':W.heap[b]? =some (.map es clock)){i:Nat}(hf:es.findIdx? (λe=>(e.born:Int)==(st:Int))=some i)(val:Value)(t2:TypeId):
  (Instr.entryStore t2 (.map (some b)) (.int .i64 st) val).run P W= .ok () (setBlock W b (.map (es.modify i λe=> { e with val:=val }) clock)):=by
 simp[Instr.entryStore,MapKept.run_getObj_map hb',asInt,asIntOf,hf,MapKept.run_setObj_map _ hb',Result.andThen,setBlock]
theorem entry_then_store(K:Keyed P k)(ht:P.underlying t=some (.map k e))(hb:w.heap[b]? =some (.map es clock))(F:Fit P k R es clock){key:Value}{kl:Lit}(hkey:keyOf P k key=some kl){z:Value}(hz:(zeroValue e).run P w= .ok z w):
  ∃v0 w1,∃st:Nat,(Instr.mapEntry t (.map (some b)) key).run P w= .ok (.tuple #[v0,.int .i64 st]) w1∧∀(val:Value) (t2:TypeId),(Instr.entryStore t2 (.map (some b)) (.int .i64 st) val).run P w1=(Instr.mapUpdate t (.map (some b)) key val).run P w:=by
 obtain⟨hb1,hb2,hb3⟩:=(stamped_iff es clock).1 F.stamped
 rcases K.find w hkey es.toList (λx hx=>by obtain⟨y,hy⟩:=F.reads x hx;exact⟨_,Go.WideElems.rd_key hy⟩)with⟨h1,h2⟩|⟨j,e0,h1,h2,h3⟩
 ·refine⟨z,setBlock w b (.map (es.push ⟨key,z,clock⟩) (clock+1)),clock,?_,λval t2=> ?_⟩
  ·simp[Instr.mapEntry,run_underlying ht,MapKept.run_getObj_map hb,K.check w false hkey,h1,hz,MapKept.run_setObj_map _ hb,Result.andThen,setBlock,goInt]
  ·have hb':(setBlock w b (.map (es.push ⟨key,z,clock⟩) (clock+1))).heap[b]? =some (.map (es.push ⟨key,z,clock⟩) (clock+1)):=heap_setBlock_same hb _
   rw[store_run hb' (find_born_push hb1 key z),setBlock_two]
   simp[Instr.mapUpdate,run_underlying ht,MapKept.run_getObj_map hb,K.check w false hkey,h1,MapKept.run_setObj_map _ hb,Result.andThen,setBlock]
   congr 2
   apply Array.ext_getElem?
   intro q
   rw[Array.getElem?_modify,Array.getElem?_push,Array.getElem?_push]
   by_cases h:es.size=q
   ·subst h;simp
   ·rw[if_neg h,if_neg (λe=>h e.symm),if_neg (λe=>h e.symm)]
 ·have hj:es[j]? =some e0:=by simpa using h2
  have hst:=K.stays w hkey
  refine⟨e0.val,setBlock w b (.map (es.modify j λe=> { e with key:=key }) clock),e0.born,?_,λval t2=> ?_⟩
  ·simp[Instr.mapEntry,run_underlying ht,MapKept.run_getObj_map hb,K.check w false hkey,h1,hj,h3,hst,MapKept.run_setObj_map _ hb,Result.andThen,setBlock,goInt]
  ·have hb':(setBlock w b (.map (es.modify j λe=> { e with key:=key }) clock)).heap[b]? =some (.map (es.modify j λe=> { e with key:=key }) clock):=heap_setBlock_same hb _
   rw[store_run hb' (find_born_at hb2 hj (λe=> { e with key:=key }) (λ_=>rfl)),setBlock_two]
   simp[Instr.mapUpdate,run_underlying ht,MapKept.run_getObj_map hb,K.check w false hkey,h1,hj,h3,hst,MapKept.run_setObj_map _ hb,Result.andThen,setBlock]
   congr 2
   apply Array.ext_getElem?
   intro q
   rw[Array.getElem?_modify,Array.getElem?_modify,Array.getElem?_modify]
   by_cases h:j=q
   ·subst h;simp[hj]
   ·rw[if_neg h,if_neg h,if_neg h]
end
end Go.Cof
namespace Go.Proofs.YtnmhgehpddipdaaGreatDoor
open Go.RowKit Go.Cof
theorem zero_str(w:World):(zeroValue 9).run Tryz.prog w= .ok (.string ⟨#[]⟩) w:=by
 have h:(Tryz.prog.info? 9).map (λi=>i.zero)=some (some (.string ⟨#[]⟩)):=by kernel_rfl
 cases hi:Tryz.prog.info? 9 with
 | none=>rw[hi]at h;cases h
 | some i=>
  rw[hi]at h
  simp only[Option.map_some,Option.some.injEq]at h
  simp[zeroValue,typeInfo,hi,h]
theorem MapIs.entry{w:World}{mb n:Nat}{M:List Entry}(h:MapIs w mb n M)(hn:n<maxLen)(k:Nat)(hk:k<=1000000)(s:ByteArray)(hs:s.size<=maxLen):
  ∃v0 w1,∃st:Nat,∃w2,(Instr.mapEntry 96 (.map (some mb)) (.int .i64 k)).run Tryz.prog w= .ok (.tuple #[v0,.int .i64 st]) w1∧(Instr.entryStore 96 (.map (some mb)) (.int .i64 st) (.string s)).run Tryz.prog w1= .ok () w2∧
   w2.ownsMap Tryz.prog 3 (plainElem Tryz.prog 9) mb (n+1) ((encM M).put (.int .i64 k) (.lit (.string s.data.toList)))∧w.grownBy w2 (some mb):=by
 have hkey:keyOf Tryz.prog 3 (.int .i64 k)=some (.int .i64 k):=Maps.keyOf_int_mk Tryz.underlying3 (by simp[Lit.wf,show IntKind.i64.min= -9223372036854775808 from rfl,show IntKind.i64.max=9223372036854775807 from rfl];omega)
 have hval:plainElem (H:=Unit) Tryz.prog 9 (.string s)=some (.lit (.string s.data.toList),[]):=by simp[plainElem,Tryz.underlying9,hs]
 obtain⟨w2,hrun,h2,h3⟩:=World.ownsMap.update h lawI Tryz.underlying96 hn hkey hval
 obtain⟨es,clock,hb,F,hsz,hD⟩:=h
 obtain⟨v0,w1,st,h4,h5⟩:=entry_then_store lawI Tryz.underlying96 hb F hkey (zero_str w)
 exact⟨v0,w1,st,w2,h4,(h5 _ _).trans hrun,h2,h3⟩
end Go.Proofs.YtnmhgehpddipdaaGreatDoor
