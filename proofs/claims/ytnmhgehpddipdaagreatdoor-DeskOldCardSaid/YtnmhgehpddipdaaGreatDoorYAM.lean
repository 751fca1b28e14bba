import Derived.Test.YtnmhgehpddipdaaGreatDoorYAD
import Derived.Test.YtnmhgehpddipdaaGreatDoorProg
import Derived.LaidEql
import Derived.Stop.Asserts
import Derived.RowKitTokens
import Derived.WalkLawsBesides
import Derived.WalkSpells
import Derived.OwnWalk
import Derived.Lib.Hide
set_option linter.unusedSimpArgs false
set_option linter.unusedVariables false
namespace Go.Proofs.YtnmhgehpddipdaaGreatDoor
open Go.RowKit Go.Cof Go.Extern.Stop Go.Stop Go.Extern
theorem valueOfP(t:Addr)(w:World):(ReflectliteValue.unpack (.iface 91 (.pointer (some t)))).run Tryz.prog w
  = .ok (.agg #[.pointer (some ⟨10,91,none⟩),.pointer (some ⟨w.heap.size,0,none⟩),.int .u64 150]) (w.alloc (.cells #[.pointer (some t)] 91)):=by kernel_rfl
theorem typeP(a:Addr)(w:World):(ReflectliteValue.methodAny (ReflectliteValue.valueError "reflectlite.Value.Type" 0) (λt _ _ _=>ReflectliteType.toType t) #[.agg #[.pointer (some ⟨10,91,none⟩),.pointer (some a),.int .u64 150]]).run Tryz.prog w
  = .ok (.iface 211 (.agg #[.pointer (some ⟨10,91,none⟩)])) w:=by kernel_rfl
theorem methodKind(h:Value)(w:World):(Go.method 461 211 (.agg #[h]) "Kind").run Tryz.prog w= .ok (305,h) w:=by kernel_rfl
theorem kindP(w:World):((ReflectliteType.abiMethod λt=>(λa:Nat=>Value.int IntKind.u8 (a:Int))<$>Rtype.kind t) #[.pointer (some ⟨10,91,none⟩)]).run Tryz.prog w= .ok (.int .u8 22) w:=by kernel_rfl
theorem kindE(w:World):((ReflectliteType.abiMethod λt=>(λa:Nat=>Value.int IntKind.u8 (a:Int))<$>Rtype.kind t) #[.pointer (some ⟨10,40,none⟩)]).run Tryz.prog w= .ok (.int .u8 2) w:=by kernel_rfl
theorem rlm(z:Sem Value)(f:TypeId->Addr->Nat->Nat->Sem Value)(v:Value):
  ReflectliteValue.method z f #[v]=(do match<-ReflectliteValue.parts v with|none=>z|some (t,a,fl)=>f t a fl (fl % 32)):=rfl
theorem partsP(a:Addr)(w:World):(ReflectliteValue.parts (.agg #[.pointer (some ⟨10,91,none⟩),.pointer (some a),.int .u64 150])).run Tryz.prog w= .ok (some (91,a,150)) w:=by kernel_rfl
theorem isNilP(a p:Addr)(W:World)(ha:W.cell? a=some (.pointer (some p))):
  (ReflectliteValue.method (ReflectliteValue.valueError "reflectlite.Value.IsNil" 0) ReflectliteValue.isNil #[.agg #[.pointer (some ⟨10,91,none⟩),.pointer (some a),.int .u64 150]]).run Tryz.prog W= .ok (.bool false) W:=by
 rw[rlm]
 simp only[Sem.run_bind,partsP,Result.andThen]
 simp[ReflectliteValue.isNil,loadVar,isAgg,underlying,Tryz.underlying91,ha,Result.andThen]
theorem methodElem(h:Value)(w:World):(Go.method 461 211 (.agg #[h]) "Elem").run Tryz.prog w= .ok (316,.agg #[h]) w:=by kernel_rfl
theorem methodImplements(h:Value)(w:World):(Go.method 461 211 (.agg #[h]) "Implements").run Tryz.prog w= .ok (317,.agg #[h]) w:=by kernel_rfl
theorem methodAssignableTo(h:Value)(w:World):(Go.method 461 211 (.agg #[h]) "AssignableTo").run Tryz.prog w= .ok (314,.agg #[h]) w:=by kernel_rfl
theorem elemP(w:World):(ReflectliteType.method ReflectliteType.elem #[.agg #[.pointer (some ⟨10,91,none⟩)]]).run Tryz.prog w= .ok (.iface 211 (.agg #[.pointer (some ⟨10,40,none⟩)])) w:=by kernel_rfl
theorem implementsE(w:World):(ReflectliteType.relation "Implements" ReflectliteType.implements_ #[.agg #[.pointer (some ⟨10,40,none⟩)],.iface 211 (.agg #[.pointer (some ⟨10,36,none⟩)])]).run Tryz.prog w= .ok (.bool true) w:=by kernel_rfl
theorem typeOfE(v:Value)(w:World):(ReflectliteType.typeOf #[.iface 40 v]).run Tryz.prog w= .ok (.iface 211 (.agg #[.pointer (some ⟨10,40,none⟩)])) w:=by kernel_rfl
theorem assignableE(w:World):(ReflectliteType.relation "AssignableTo" ReflectliteType.assignableTo #[.agg #[.pointer (some ⟨10,40,none⟩)],.iface 211 (.agg #[.pointer (some ⟨10,40,none⟩)])]).run Tryz.prog w= .ok (.bool true) w:=by kernel_rfl
theorem valueOfE(n:Int)(w:World):(ReflectliteValue.unpack (.iface 40 (.int .i64 n))).run Tryz.prog w
  = .ok (.agg #[.pointer (some ⟨10,40,none⟩),.pointer (some ⟨w.heap.size,0,none⟩),.int .u64 130]) (w.alloc (.cells #[.int .i64 n] 40)):=by kernel_rfl
theorem elemOfP(w:World):(Rtype.elem? 91).run Tryz.prog w= .ok (some 40) w:=by kernel_rfl
theorem mkE(p:Addr)(w:World):(ReflectliteValue.mk 40 p ReflectliteValue.flagAddr).run Tryz.prog w= .ok (.agg #[.pointer (some ⟨10,40,none⟩),.pointer (some p),.int .u64 386]) w:=by kernel_rfl
theorem elemVP(a p:Addr)(W:World)(ha:W.cell? a=some (.pointer (some p))):
  (ReflectliteValue.method (ReflectliteValue.valueError "reflectlite.Value.Elem" 0) ReflectliteValue.elem #[.agg #[.pointer (some ⟨10,91,none⟩),.pointer (some a),.int .u64 150]]).run Tryz.prog W
   = .ok (.agg #[.pointer (some ⟨10,40,none⟩),.pointer (some p),.int .u64 386]) W:=by
 rw[rlm]
 simp only[Sem.run_bind,partsP,Result.andThen]
 simp[ReflectliteValue.elem,loadVar,isAgg,underlying,Tryz.underlying91,ha,Result.andThen,elemOfP,mkE]
theorem rls(v x:Value):ReflectliteValue.set #[v,x]=(do
  let (some (dst,a,fl),some (src,b,_)):=(<-ReflectliteValue.parts v,<-ReflectliteValue.parts x)
   | unsupported (.noEntry "extern/(internal/reflectlite.Value).Set.zeroValue")
  if fl/ReflectliteValue.flagAddr % 2==0 then unsupported (.noEntry "extern/(internal/reflectlite.Value).Set.unaddressable")
  let val<-loadVar src b
  if<-Rtype.directlyAssignable dst src then storeVar dst a val
  else if<-Rtype.implements dst src then
   if (<-Rtype.kind src)==20 then
    match val with
    | .nilIface=>unsupported (.noEntry "extern/reflectlite: a nil value of one interface type handed on as a value of another")
    | _=>storeVar dst a val
   else storeVar dst a (.iface src val)
  else panicString ("reflectlite.Set: value of type " ++(<-Rtype.spelt src)++ " is not assignable to type " ++(<-Rtype.spelt dst))
  pure (.tuple #[])):=rfl
theorem partsEa(a:Addr)(w:World):(ReflectliteValue.parts (.agg #[.pointer (some ⟨10,40,none⟩),.pointer (some a),.int .u64 386])).run Tryz.prog w= .ok (some (40,a,386)) w:=by kernel_rfl
theorem partsE(a:Addr)(w:World):(ReflectliteValue.parts (.agg #[.pointer (some ⟨10,40,none⟩),.pointer (some a),.int .u64 130])).run Tryz.prog w= .ok (some (40,a,130)) w:=by kernel_rfl
theorem directE(w:World):(Rtype.directlyAssignable 40 40).run Tryz.prog w= .ok true w:=by kernel_rfl
theorem setE(ta b:Addr)(n:Int)(old:Value)(W:World)(hb:W.cell? b=some (.int .i64 n))(ht:W.cell? ta=some old)(hf:W.frozen? ta=false):
  (ReflectliteValue.set #[.agg #[.pointer (some ⟨10,40,none⟩),.pointer (some ta),.int .u64 386],.agg #[.pointer (some ⟨10,40,none⟩),.pointer (some b),.int .u64 130]]).run Tryz.prog W
   = .ok (.tuple #[]) (W.setCell ta (.int .i64 n)):=by
 rw[rls]
 simp only[Sem.run_bind,partsEa,partsE,Result.andThen]
 simp[ReflectliteValue.flagAddr,loadVar,isAgg,underlying,Tryz.underlying40,hb,Result.andThen,directE,storeVar,Value.cells,storeCells,Addr.add]
 rw[run_store Tryz.prog W ta _ _ (by rfl)]
 simp[ht,hf]
set_option maxHeartbeats 4000000 in
theorem as_hit(n:Int)(t:Addr)(old:Value)(w:World)(hg:w.cell? ⟨0,0,none⟩=some (.iface 211 (.agg #[.pointer (some ⟨10,36,none⟩)])))(ht0:w.cell? t=some old)(hf0:w.frozen? t=false):
  Calls Tryz.prog 35 #[.iface 40 (.int .i64 n),.iface 91 (.pointer (some t))] w λev w'=>ev= .returned (.bool true)∧w'=((((w.alloc (.cells #[.pointer (some t)] 91)).alloc (.cells #[.pointer (some ⟨10,91,none⟩),.pointer (some ⟨w.heap.size,0,none⟩),.int .u64 150] 145)).alloc (.cells #[.pointer (some ⟨10,91,none⟩),.pointer (some ⟨w.heap.size,0,none⟩),.int .u64 150] 145)).alloc (.cells #[.int .i64 n] 40)).setCell t (.int .i64 n):=by
 have h6:= @run_callFunc_extern Tryz.prog 79 _ (λargs=>ReflectliteValue.unpack (args.getD 0 (.tuple #[]))) Tryz.func79 (by kernel_rfl) (by kernel_rfl) (by kernel_rfl) (by kernel_rfl)
 have h7:= @run_callFunc_extern Tryz.prog 80 _ (ReflectliteValue.methodAny (ReflectliteValue.valueError "reflectlite.Value.Type" 0) (λt _ _ _=>ReflectliteType.toType t)) Tryz.func80 (by kernel_rfl) (by kernel_rfl) (by kernel_rfl) (by kernel_rfl)
 have h8:= @run_callFunc_extern Tryz.prog 81 _ (ReflectliteValue.method (ReflectliteValue.valueError "reflectlite.Value.IsNil" 0) ReflectliteValue.isNil) Tryz.func81 (by kernel_rfl) (by kernel_rfl) (by kernel_rfl) (by kernel_rfl)
 have h27:= @run_callFunc_extern Tryz.prog 305 _ (ReflectliteType.abiMethod λt=>do pure (.int .u8 (<-Rtype.kind t))) Tryz.func305 (by kernel_rfl) (by kernel_rfl) (by kernel_rfl) (by kernel_rfl)
 have h37:= @run_callFunc_extern Tryz.prog 316 _ (ReflectliteType.method ReflectliteType.elem) Tryz.func316 (by kernel_rfl) (by kernel_rfl) (by kernel_rfl) (by kernel_rfl)
 have h38:= @run_callFunc_extern Tryz.prog 317 _ (ReflectliteType.relation "Implements" ReflectliteType.implements_) Tryz.func317 (by kernel_rfl) (by kernel_rfl) (by kernel_rfl) (by kernel_rfl)
 have h10:= @run_callFunc_extern Tryz.prog 149 _ ReflectliteType.typeOf Tryz.func149 (by kernel_rfl) (by kernel_rfl) (by kernel_rfl) (by kernel_rfl)
 have h35:= @run_callFunc_extern Tryz.prog 314 _ (ReflectliteType.relation "AssignableTo" ReflectliteType.assignableTo) Tryz.func314 (by kernel_rfl) (by kernel_rfl) (by kernel_rfl) (by kernel_rfl)
 have h11:= @run_callFunc_extern Tryz.prog 150 _ (ReflectliteValue.method (ReflectliteValue.valueError "reflectlite.Value.Elem" 0) ReflectliteValue.elem) Tryz.func150 (by kernel_rfl) (by kernel_rfl) (by kernel_rfl) (by kernel_rfl)
 have h12:= @run_callFunc_extern Tryz.prog 151 _ ReflectliteValue.set Tryz.func151 (by kernel_rfl) (by kernel_rfl) (by kernel_rfl) (by kernel_rfl)
 have tO:=typeOfE
 have mA:=methodAssignableTo
 have a25:=assignableE
 have v25:=valueOfE
 have f6:=valueOfP
 have f7:=typeP
 have mK:=methodKind
 have mE:=methodElem
 have mI:=methodImplements
 have k27:=kindP
 have k25:=kindE
 have e27:=elemP
 have i25:=implementsE
 have n8:=isNilP ⟨w.heap.size,0,none⟩ t ((w.alloc (.cells #[.pointer (some t)] 91)).alloc (.cells #[.pointer (some ⟨10,91,none⟩),.pointer (some ⟨w.heap.size,0,none⟩),.int .u64 150] 145)) (by simp)
 have hlt:0<w.heap.size:=by
  rcases Nat.lt_or_ge 0 w.heap.size with h|h
  ·exact h
  ·simp[World.cell?,Array.getElem?_eq_none h]at hg
 have hg2:((w.alloc (.cells #[.pointer (some t)] 91)).alloc (.cells #[.pointer (some ⟨10,91,none⟩),.pointer (some ⟨w.heap.size,0,none⟩),.int .u64 150] 145)).cell? ⟨0,0,none⟩=some (.iface 211 (.agg #[.pointer (some ⟨10,36,none⟩)])):=by
  rw[World.cell?_alloc_lt _ _ ⟨0,0,none⟩ (by first|(simp;done)|(simp;omega)),World.cell?_alloc_lt _ _ ⟨0,0,none⟩ hlt];exact hg
 have htl:t.block<w.heap.size:=by
  rcases Nat.lt_or_ge t.block w.heap.size with h|h
  ·exact h
  ·simp[World.cell?,Array.getElem?_eq_none h]at ht0
 have el:=elemVP ⟨w.heap.size,0,none⟩ t (((w.alloc (.cells #[.pointer (some t)] 91)).alloc (.cells #[.pointer (some ⟨10,91,none⟩),.pointer (some ⟨w.heap.size,0,none⟩),.int .u64 150] 145)).alloc (.cells #[.pointer (some ⟨10,91,none⟩),.pointer (some ⟨w.heap.size,0,none⟩),.int .u64 150] 145)) (by rw[World.cell?_alloc_lt _ _ ⟨w.heap.size,0,none⟩ (by simp;omega)];simp)
 have st:=setE t ⟨w.heap.size+1+1+1,0,none⟩ n old ((((w.alloc (.cells #[.pointer (some t)] 91)).alloc (.cells #[.pointer (some ⟨10,91,none⟩),.pointer (some ⟨w.heap.size,0,none⟩),.int .u64 150] 145)).alloc (.cells #[.pointer (some ⟨10,91,none⟩),.pointer (some ⟨w.heap.size,0,none⟩),.int .u64 150] 145)).alloc (.cells #[.int .i64 n] 40))
  (by rw[World.cell?_alloc_at _ _ _ _ (by simp)];rfl)
  (by rw[World.cell?_alloc_lt _ _ t (by simp;omega),World.cell?_alloc_lt _ _ t (by simp;omega),World.cell?_alloc_lt _ _ t (by simp;omega),World.cell?_alloc_lt _ _ t htl];exact ht0)
  (by rw[World.frozen?_alloc_old _ _ t (by simp;omega),World.frozen?_alloc_old _ _ t (by simp;omega),World.frozen?_alloc_old _ _ t (by simp;omega),World.frozen?_alloc_old _ _ t (Nat.ne_of_lt htl)];exact hf0)
 go_enter Tryz.func35,Tryz.ntmps35
 go_wp2
 refine wp_loop_rounds 1 ?_
 rw[rounds_succ]
 go_wp2
 go_ret
 exact⟨rfl,rfl⟩
def ErrVar(w:World):Prop:=w.cell? ⟨0,0,none⟩=some (.iface 211 (.agg #[.pointer (some ⟨10,36,none⟩)]))
theorem ErrVar.keep{w w':World}(h:ErrVar w){S:Nat->Prop}(hk:Keep S w w')(hn:¬S 0):ErrVar w':=by
 unfold ErrVar at*
 have hlt:0<w.heap.size:=by
  rcases Nat.lt_or_ge 0 w.heap.size with h'|h'
  ·exact h'
  ·simp[World.cell?,Array.getElem?_eq_none h']at h
 rw[hk.cell (p:=⟨0,0,none⟩) hlt hn]
 exact h
theorem as_is(n:Int)(t:Addr)(old:Value)(w:World)(hg:ErrVar w)(ht0:w.cell? t=some old)(hf0:w.frozen? t=false):
  Calls Tryz.prog 35 #[.iface 40 (.int .i64 n),.iface 91 (.pointer (some t))] w λev w'=>ev= .returned (.bool true)∧w'.cell? t=some (.int .i64 n)∧Keep (OneB t.block) w w':=
 (as_hit n t old w hg ht0 hf0).mono λev w' ⟨he,hw⟩=>by
  subst hw
  have htl:t.block<w.heap.size:=by
   rcases Nat.lt_or_ge t.block w.heap.size with h|h
   ·exact h
   ·simp[World.cell?,Array.getElem?_eq_none h]at ht0
  refine⟨he,?_,(((((Keep.refl _ w).alloc _).alloc _).alloc _).alloc _).setCell (p:=t) (.inl (show OneB t.block t.block from rfl)) _⟩
  have hc:((((w.alloc (.cells #[.pointer (some t)] 91)).alloc (.cells #[.pointer (some ⟨10,91,none⟩),.pointer (some ⟨w.heap.size,0,none⟩),.int .u64 150] 145)).alloc (.cells #[.pointer (some ⟨10,91,none⟩),.pointer (some ⟨w.heap.size,0,none⟩),.int .u64 150] 145)).alloc (.cells #[.int .i64 n] 40)).cell? t=some old:=by
   rw[World.cell?_alloc_lt _ _ t (by simp;omega),World.cell?_alloc_lt _ _ t (by simp;omega),World.cell?_alloc_lt _ _ t (by simp;omega),World.cell?_alloc_lt _ _ t htl]
   exact ht0
  exact World.cell?_setCell_same _ _ _ hc
theorem tell_nil(w:World):Calls Tryz.prog 12 #[.nilIface] w λe w'=>e= .returned (.int .i64 0)∧w'=w:=by
 go_enter Tryz.func12,Tryz.ntmps12
 go_wp2
 go_ret
 exact⟨rfl,rfl⟩
theorem tell_errno(n:Int)(w:World)(hg:ErrVar w):Calls Tryz.prog 12 #[.iface 40 (.int .i64 n)] w λe w'=>e= .returned (.int .i64 n)∧Keep NoB w w':=by
 go_enter Tryz.func12,Tryz.ntmps12
 go_wp2_with fail
 have hg1:ErrVar (w.alloc (.cells #[.int .i64 0] 40)):=hg.keep ((Keep.refl NoB w).alloc _) (λx=>x)
 refine(as_is n ⟨w.heap.size,0,none⟩ (.int .i64 0) _ hg1 (by simp) (by simp)).mono ?_
 rintro e w2 ⟨rfl,hc,K⟩
 have K2:Keep NoB w w2:=((Keep.refl NoB w).alloc _).trans K (λi hi e=>by simp only[Cof.OneB]at e;omega)
 go_wp2
 go_ret
 exact⟨rfl,K2⟩
def errVal(n:Int):Value:=if n=0 then .nilIface else .iface 40 (.int .i64 n)
theorem errVal_one(n:Int)(h:n≠0):errVal n= .iface 40 (.int .i64 n):=if_neg h
theorem tell_any(n:Int)(w:World)(hg:ErrVar w):Calls Tryz.prog 12 #[errVal n] w λe w'=>e= .returned (.int .i64 n)∧Keep NoB w w':=by
 by_cases h:n=0
 ·subst h
  exact(tell_nil w).mono λ_ _ ⟨he,hw⟩=>⟨he,hw▸Keep.refl _ _⟩
 ·rw[errVal_one n h]
  exact tell_errno n w hg
end Go.Proofs.YtnmhgehpddipdaaGreatDoor
