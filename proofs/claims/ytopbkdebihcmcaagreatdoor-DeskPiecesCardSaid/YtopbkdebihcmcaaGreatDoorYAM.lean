import Derived.Test.YtopbkdebihcmcaaGreatDoorYAD
import Derived.Test.YtopbkdebihcmcaaGreatDoorProg
import Derived.Stop.Asserts
import Derived.RowKitTokens
import Derived.WalkLawsBesides
import Derived.WalkSpells
import Derived.Lib.Hide
set_option linter.unusedSimpArgs false
set_option linter.unusedVariables false
namespace Go.Proofs.YtopbkdebihcmcaaGreatDoor
open Go.RowKit
set_option maxRecDepth 100000
set_option maxHeartbeats 16000000
section
open Go.Extern.Stop Go.Stop Go.Extern
theorem zgq(t:Addr)(w:World):(ReflectliteValue.unpack (.iface 125 (.pointer (some t)))).run Tryz.prog w
  = .ok (.agg #[.pointer (some ⟨10,125,none⟩),.pointer (some ⟨w.heap.size,0,none⟩),.int .u64 150]) (w.alloc (.cells #[.pointer (some t)] 125)):=by kernel_rfl
theorem znD(a:Addr)(w:World):(ReflectliteValue.methodAny (ReflectliteValue.valueError "reflectlite.Value.Type" 0) (λt _ _ _=>ReflectliteType.toType t) #[.agg #[.pointer (some ⟨10,125,none⟩),.pointer (some a),.int .u64 150]]).run Tryz.prog w
  = .ok (.iface 230 (.agg #[.pointer (some ⟨10,125,none⟩)])) w:=by kernel_rfl
theorem methodKind(h:Value)(w:World):(Go.method 459 230 (.agg #[h]) "Kind").run Tryz.prog w= .ok (302,h) w:=by kernel_rfl
theorem znM(w:World):((ReflectliteType.abiMethod λt=>(λa:Nat=>Value.int IntKind.u8 (a:Int))<$>Rtype.kind t) #[.pointer (some ⟨10,125,none⟩)]).run Tryz.prog w= .ok (.int .u8 22) w:=by kernel_rfl
theorem znN(w:World):((ReflectliteType.abiMethod λt=>(λa:Nat=>Value.int IntKind.u8 (a:Int))<$>Rtype.kind t) #[.pointer (some ⟨10,51,none⟩)]).run Tryz.prog w= .ok (.int .u8 2) w:=by kernel_rfl
theorem rlm(z:Sem Value)(f:TypeId->Addr->Nat->Nat->Sem Value)(v:Value):
  ReflectliteValue.method z f #[v]=(do match<-ReflectliteValue.parts v with|none=>z|some (t,a,fl)=>f t a fl (fl % 32)):=rfl
theorem zf4(a:Addr)(w:World):(ReflectliteValue.parts (.agg #[.pointer (some ⟨10,125,none⟩),.pointer (some a),.int .u64 150])).run Tryz.prog w= .ok (some (125,a,150)) w:=by kernel_rfl
theorem zlC(a p:Addr)(W:World)(ha:W.cell? a=some (.pointer (some p))):
  (ReflectliteValue.method (ReflectliteValue.valueError "reflectlite.Value.IsNil" 0) ReflectliteValue.isNil #[.agg #[.pointer (some ⟨10,125,none⟩),.pointer (some a),.int .u64 150]]).run Tryz.prog W= .ok (.bool false) W:=by
 rw[rlm];simp only[jG,zf4,Result.andThen];simp[ReflectliteValue.isNil,loadVar,isAgg,underlying,Tryz.underlying125,ha,Result.andThen]
theorem methodElem(h:Value)(w:World):(Go.method 459 230 (.agg #[h]) "Elem").run Tryz.prog w= .ok (313,.agg #[h]) w:=by kernel_rfl
theorem methodImplements(h:Value)(w:World):(Go.method 459 230 (.agg #[h]) "Implements").run Tryz.prog w= .ok (314,.agg #[h]) w:=by kernel_rfl
theorem methodAssignableTo(h:Value)(w:World):(Go.method 459 230 (.agg #[h]) "AssignableTo").run Tryz.prog w= .ok (311,.agg #[h]) w:=by kernel_rfl
theorem zn6(w:World):(ReflectliteType.method ReflectliteType.elem #[.agg #[.pointer (some ⟨10,125,none⟩)]]).run Tryz.prog w= .ok (.iface 230 (.agg #[.pointer (some ⟨10,51,none⟩)])) w:=by kernel_rfl
theorem zar(w:World):(ReflectliteType.relation "Implements" ReflectliteType.implements_ #[.agg #[.pointer (some ⟨10,51,none⟩)],.iface 230 (.agg #[.pointer (some ⟨10,41,none⟩)])]).run Tryz.prog w= .ok (.bool true) w:=by kernel_rfl
theorem ziD(v:Value)(w:World):(ReflectliteType.typeOf #[.iface 51 v]).run Tryz.prog w= .ok (.iface 230 (.agg #[.pointer (some ⟨10,51,none⟩)])) w:=by kernel_rfl
theorem zaJ(w:World):(ReflectliteType.relation "AssignableTo" ReflectliteType.assignableTo #[.agg #[.pointer (some ⟨10,51,none⟩)],.iface 230 (.agg #[.pointer (some ⟨10,51,none⟩)])]).run Tryz.prog w= .ok (.bool true) w:=by kernel_rfl
theorem zgr(n:Int)(w:World):(ReflectliteValue.unpack (.iface 51 (.int .i64 n))).run Tryz.prog w
  = .ok (.agg #[.pointer (some ⟨10,51,none⟩),.pointer (some ⟨w.heap.size,0,none⟩),.int .u64 130]) (w.alloc (.cells #[.int .i64 n] 51)):=by kernel_rfl
theorem zjb(w:World):(Rtype.elem? 125).run Tryz.prog w= .ok (some 51) w:=by kernel_rfl
theorem mkE(p:Addr)(w:World):(ReflectliteValue.mk 51 p ReflectliteValue.flagAddr).run Tryz.prog w= .ok (.agg #[.pointer (some ⟨10,51,none⟩),.pointer (some p),.int .u64 386]) w:=by kernel_rfl
theorem zlN(a p:Addr)(W:World)(ha:W.cell? a=some (.pointer (some p))):
  (ReflectliteValue.method (ReflectliteValue.valueError "reflectlite.Value.Elem" 0) ReflectliteValue.elem #[.agg #[.pointer (some ⟨10,125,none⟩),.pointer (some a),.int .u64 150]]).run Tryz.prog W
   = .ok (.agg #[.pointer (some ⟨10,51,none⟩),.pointer (some p),.int .u64 386]) W:=by
 rw[rlm];simp only[jG,zf4,Result.andThen];simp[ReflectliteValue.elem,loadVar,isAgg,underlying,Tryz.underlying125,ha,Result.andThen,zjb,mkE]
theorem rls(v x:Value):ReflectliteValue.set #[v,x]=(do
  let (some (dst,a,fl),some (src,b,_)):=(<-ReflectliteValue.parts v,<-ReflectliteValue.parts x)
   | unsupported (.noEntry "extern/(internal/reflectlite.Value).Set.zeroValue")
  if fl/ReflectliteValue.flagAddr % 2==0 then unsupported (.noEntry "extern/(internal/reflectlite.Value).Set.unaddressable")
  let val<-loadVar src b
  if<-Rtype.directlyAssignable dst src then storeVar dst a val
  else if<-Rtype.implements dst src then
   if (<-Rtype.kind src)==20 then
    match val with
    | .nilIface=>unsupported (.noEntry "extern/reflectlite: a nil value of one interface type handed on as a value of another")
    | _=>storeVar dst a val
   else storeVar dst a (.iface src val)
  else panicString ("reflectlite.Set: value of type " ++(<-Rtype.spelt src)++ " is not assignable to type " ++(<-Rtype.spelt dst))
  pure (.tuple #[])):=rfl
theorem ziR(a:Addr)(w:World):(ReflectliteValue.parts (.agg #[.pointer (some ⟨10,51,none⟩),.pointer (some a),.int .u64 386])).run Tryz.prog w= .ok (some (51,a,386)) w:=by kernel_rfl
theorem zlt(a:Addr)(w:World):(ReflectliteValue.parts (.agg #[.pointer (some ⟨10,51,none⟩),.pointer (some a),.int .u64 130])).run Tryz.prog w= .ok (some (51,a,130)) w:=by kernel_rfl
theorem zjc(w:World):(Rtype.directlyAssignable 51 51).run Tryz.prog w= .ok true w:=by kernel_rfl
theorem zox(ta b:Addr)(n:Int)(old:Value)(W:World)(hb:W.cell? b=some (.int .i64 n))(ht:W.cell? ta=some old)(hf:W.frozen? ta=false):
  (ReflectliteValue.set #[.agg #[.pointer (some ⟨10,51,none⟩),.pointer (some ta),.int .u64 386],.agg #[.pointer (some ⟨10,51,none⟩),.pointer (some b),.int .u64 130]]).run Tryz.prog W
   = .ok (.tuple #[]) (W.setCell ta (.int .i64 n)):=by
 rw[rls];simp only[jG,ziR,zlt,Result.andThen];simp[ReflectliteValue.flagAddr,loadVar,isAgg,underlying,Tryz.underlying51,hb,Result.andThen,zjc,storeVar,Value.cells,storeCells,Addr.add];rw[run_store Tryz.prog W ta _ _ (by rfl)];simp[ht,hf]
theorem as_hit(n:Int)(t:Addr)(old:Value)(w:World)(hg:w.cell? ⟨4,0,none⟩=some (.iface 230 (.agg #[.pointer (some ⟨10,41,none⟩)])))(ht0:w.cell? t=some old)(hf0:w.frozen? t=false):
  Calls Tryz.prog 85 #[.iface 51 (.int .i64 n),.iface 125 (.pointer (some t))] w λev w'=>ev= .returned (.bool true)∧w'=((((w.alloc (.cells #[.pointer (some t)] 125)).alloc (.cells #[.pointer (some ⟨10,125,none⟩),.pointer (some ⟨w.heap.size,0,none⟩),.int .u64 150] 179)).alloc (.cells #[.pointer (some ⟨10,125,none⟩),.pointer (some ⟨w.heap.size,0,none⟩),.int .u64 150] 179)).alloc (.cells #[.int .i64 n] 51)).setCell t (.int .i64 n):=by
 have h6:= @fC Tryz.prog 125 _ (λargs=>ReflectliteValue.unpack (args.getD 0 (.tuple #[]))) Tryz.func125 (by kernel_rfl) (by kernel_rfl) (by kernel_rfl) (by kernel_rfl);have h7:= @fC Tryz.prog 126 _ (ReflectliteValue.methodAny (ReflectliteValue.valueError "reflectlite.Value.Type" 0) (λt _ _ _=>ReflectliteType.toType t)) Tryz.func126 (by kernel_rfl) (by kernel_rfl) (by kernel_rfl) (by kernel_rfl);have h8:= @fC Tryz.prog 127 _ (ReflectliteValue.method (ReflectliteValue.valueError "reflectlite.Value.IsNil" 0) ReflectliteValue.isNil) Tryz.func127 (by kernel_rfl) (by kernel_rfl) (by kernel_rfl) (by kernel_rfl);have h27:= @fC Tryz.prog 302 _ (ReflectliteType.abiMethod λt=>do pure (.int .u8 (<-Rtype.kind t))) Tryz.func302 (by kernel_rfl) (by kernel_rfl) (by kernel_rfl) (by kernel_rfl);have h37:= @fC Tryz.prog 313 _ (ReflectliteType.method ReflectliteType.elem) Tryz.func313 (by kernel_rfl) (by kernel_rfl) (by kernel_rfl) (by kernel_rfl);have h38:= @fC Tryz.prog 314 _ (ReflectliteType.relation "Implements" ReflectliteType.implements_) Tryz.func314 (by kernel_rfl) (by kernel_rfl) (by kernel_rfl) (by kernel_rfl);have h10:= @fC Tryz.prog 171 _ ReflectliteType.typeOf Tryz.func171 (by kernel_rfl) (by kernel_rfl) (by kernel_rfl) (by kernel_rfl);have h35:= @fC Tryz.prog 311 _ (ReflectliteType.relation "AssignableTo" ReflectliteType.assignableTo) Tryz.func311 (by kernel_rfl) (by kernel_rfl) (by kernel_rfl) (by kernel_rfl);have h11:= @fC Tryz.prog 172 _ (ReflectliteValue.method (ReflectliteValue.valueError "reflectlite.Value.Elem" 0) ReflectliteValue.elem) Tryz.func172 (by kernel_rfl) (by kernel_rfl) (by kernel_rfl) (by kernel_rfl);have h12:= @fC Tryz.prog 173 _ ReflectliteValue.set Tryz.func173 (by kernel_rfl) (by kernel_rfl) (by kernel_rfl) (by kernel_rfl);have tO:=ziD;have mA:=methodAssignableTo;have a25:=zaJ;have v25:=zgr;have f6:=zgq;have f7:=znD;have mK:=methodKind;have mE:=methodElem;have mI:=methodImplements;have k27:=znM;have k25:=znN;have e27:=zn6;have i25:=zar;have n8:=zlC ⟨w.heap.size,0,none⟩ t ((w.alloc (.cells #[.pointer (some t)] 125)).alloc (.cells #[.pointer (some ⟨10,125,none⟩),.pointer (some ⟨w.heap.size,0,none⟩),.int .u64 150] 179)) (by simp);have hlt:4<w.heap.size:=by
  rcases lK 4 w.heap.size with h|h
  ·exact h
  ·simp[World.cell?,dU h]at hg
 have hg2:((w.alloc (.cells #[.pointer (some t)] 125)).alloc (.cells #[.pointer (some ⟨10,125,none⟩),.pointer (some ⟨w.heap.size,0,none⟩),.int .u64 150] 179)).cell? ⟨4,0,none⟩=some (.iface 230 (.agg #[.pointer (some ⟨10,41,none⟩)])):=by rw[eH _ _ ⟨4,0,none⟩ (by first|(simp;done)|(simp;omega)),eH _ _ ⟨4,0,none⟩ hlt];exact hg
 have htl:t.block<w.heap.size:=by
  rcases lK t.block w.heap.size with h|h
  ·exact h
  ·simp[World.cell?,dU h]at ht0
 have el:=zlN ⟨w.heap.size,0,none⟩ t (((w.alloc (.cells #[.pointer (some t)] 125)).alloc (.cells #[.pointer (some ⟨10,125,none⟩),.pointer (some ⟨w.heap.size,0,none⟩),.int .u64 150] 179)).alloc (.cells #[.pointer (some ⟨10,125,none⟩),.pointer (some ⟨w.heap.size,0,none⟩),.int .u64 150] 179)) (by rw[eH _ _ ⟨w.heap.size,0,none⟩ (by simp;omega)];simp);have st:=zox t ⟨w.heap.size+1+1+1,0,none⟩ n old ((((w.alloc (.cells #[.pointer (some t)] 125)).alloc (.cells #[.pointer (some ⟨10,125,none⟩),.pointer (some ⟨w.heap.size,0,none⟩),.int .u64 150] 179)).alloc (.cells #[.pointer (some ⟨10,125,none⟩),.pointer (some ⟨w.heap.size,0,none⟩),.int .u64 150] 179)).alloc (.cells #[.int .i64 n] 51))
  (by rw[World.cell?_alloc_at _ _ _ _ (by simp)];rfl)
  (by rw[eH _ _ t (by simp;omega),eH _ _ t (by simp;omega),eH _ _ t (by simp;omega),eH _ _ t htl];exact ht0)
  (by rw[jU _ _ t (by simp;omega),jU _ _ t (by simp;omega),jU _ _ t (by simp;omega),jU _ _ t (Nat.ne_of_lt htl)];exact hf0)
 go_enter Tryz.func85,Tryz.ntmps85;go_wp2;refine lN 1 ?_;rw[lZ];go_wp2;go_ret;exact⟨rfl,rfl⟩
def ErrVar(w:World):Prop:=w.cell? ⟨4,0,none⟩=some (.iface 230 (.agg #[.pointer (some ⟨10,41,none⟩)]))
theorem ErrVar.keep{w w':World}(h:ErrVar w){S:Nat->Prop}(hk:Keep S w w')(hn:¬S 4):ErrVar w':=by
 unfold ErrVar at*;have hlt:4<w.heap.size:=by
  rcases lK 4 w.heap.size with h'|h'
  ·exact h'
  ·simp[World.cell?,dU h']at h
 rw[hk.cell (p:=⟨4,0,none⟩) hlt hn];exact h
theorem zn9(n:Int)(t:Addr)(old:Value)(w:World)(hg:ErrVar w)(ht0:w.cell? t=some old)(hf0:w.frozen? t=false):
  Calls Tryz.prog 85 #[.iface 51 (.int .i64 n),.iface 125 (.pointer (some t))] w λev w'=>ev= .returned (.bool true)∧w'.cell? t=some (.int .i64 n)∧Keep (nY t.block) w w':=
 (as_hit n t old w hg ht0 hf0).mono λev w' ⟨he,hw⟩=>by
  subst hw;have htl:t.block<w.heap.size:=by
   rcases lK t.block w.heap.size with h|h
   ·exact h
   ·simp[World.cell?,dU h]at ht0
  refine⟨he,?_,(((((ah _ w).alloc _).alloc _).alloc _).alloc _).setCell (p:=t) (.inl (show nY t.block t.block from rfl)) _⟩;have hc:((((w.alloc (.cells #[.pointer (some t)] 125)).alloc (.cells #[.pointer (some ⟨10,125,none⟩),.pointer (some ⟨w.heap.size,0,none⟩),.int .u64 150] 179)).alloc (.cells #[.pointer (some ⟨10,125,none⟩),.pointer (some ⟨w.heap.size,0,none⟩),.int .u64 150] 179)).alloc (.cells #[.int .i64 n] 51)).cell? t=some old:=by rw[eH _ _ t (by simp;omega),eH _ _ t (by simp;omega),eH _ _ t (by simp;omega),eH _ _ t htl];exact ht0
  exact fZ _ _ _ hc
theorem zbi(n:Int)(w:World)(hg:ErrVar w):Calls Tryz.prog 54 #[.iface 51 (.int .i64 n)] w λe w'=>e= .returned (.int .i64 n)∧Keep nM w w':=by go_enter Tryz.func54,Tryz.ntmps54;go_wp2_with fail;have hg1:ErrVar (w.alloc (.cells #[.int .i64 0] 51)):=hg.keep ((ah nM w).alloc _) (λx=>x);refine(zn9 n ⟨w.heap.size,0,none⟩ (.int .i64 0) _ hg1 (by simp) (by simp)).mono ?_;rintro e w2 ⟨rfl,hc,K⟩;have K2:Keep nM w w2:=((ah nM w).alloc _).trans K (λi hi e=>by simp only[nY]at e;omega);go_wp2;go_ret;exact⟨rfl,K2⟩
def errVal(n:Int):Value:=if n=0 then .nilIface else .iface 51 (.int .i64 n)
theorem zcf(n:Int)(h:n≠0):errVal n= .iface 51 (.int .i64 n):=aB h
end
abbrev ae:=Calls Tryz.prog
theorem ag{p:Prop}(h:p):RowKit.Hid p:=Lib.hid h
end Go.Proofs.YtopbkdebihcmcaaGreatDoor
