import Derived.Test.YtbcmmbeadgiiiaaGreatDoorYAD
import Derived.Stop.Asserts
import Derived.RowKitTokens
import Derived.WalkLawsBesides
import Derived.WalkSpells
set_option linter.all false
namespace Go.Proofs.YtbcmmbeadgiiiaaGreatDoor
open Go.RowKit Tryz
set_option maxRecDepth 100000
set_option maxHeartbeats 16000000
section
open Go.Extern.Stop Go.Stop Go.Extern
def zoP(t:Addr)(w:ax):(ReflectliteValue.unpack (.iface 247 (.pointer (some t)))).run prog w
  = .ok (.agg #[.pointer (some ⟨10,247,none⟩),.pointer (some ⟨w.heap.size,0,none⟩),.int .u64 150]) (w.alloc (.cells #[.pointer (some t)] 247)):=by kernel_rfl
def zx0(a:Addr)(w:ax):(ReflectliteValue.methodAny (ReflectliteValue.valueError "reflectlite.Value.Type" 0) (λt _ _ _=>ReflectliteType.toType t) #[.agg #[.pointer (some ⟨10,247,none⟩),.pointer (some a),.int .u64 150]]).run prog w
  = .ok (.iface 252 (.agg #[.pointer (some ⟨10,247,none⟩)])) w:=by kernel_rfl
def zjP(h:ay)(w:ax):(Go.method 529 252 (.agg #[h]) "Kind").run prog w= .ok (351,h) w:=by kernel_rfl
def zya(w:ax):((ReflectliteType.abiMethod λt=>(λa:Nat=>Value.int IntKind.u8 (a:Int))<$>Rtype.kind t) #[.pointer (some ⟨10,247,none⟩)]).run prog w= .ok (.int .u8 22) w:=by kernel_rfl
def zyb(w:ax):((ReflectliteType.abiMethod λt=>(λa:Nat=>Value.int IntKind.u8 (a:Int))<$>Rtype.kind t) #[.pointer (some ⟨10,34,none⟩)]).run prog w= .ok (.int .u8 2) w:=by kernel_rfl
def rlm(z:Sem ay)(f:aB->Addr->Nat->Nat->Sem ay)(v:ay):
  ReflectliteValue.method z f #[v]=(do match<-ReflectliteValue.parts v with|none=>z|some (t,a,fl)=>f t a fl (fl % 32)):=rfl
def zol(a:Addr)(w:ax):(ReflectliteValue.parts (.agg #[.pointer (some ⟨10,247,none⟩),.pointer (some a),.int .u64 150])).run prog w= .ok (some (247,a,150)) w:=by kernel_rfl
def zu9(a p:Addr)(W:ax)(ha:W.cell? a=some (.pointer (some p))):
  (ReflectliteValue.method (ReflectliteValue.valueError "reflectlite.Value.IsNil" 0) ReflectliteValue.isNil #[.agg #[.pointer (some ⟨10,247,none⟩),.pointer (some a),.int .u64 150]]).run prog W= .ok (.bool false) W:=by
 rw[rlm];simp only[lJ,zol,Result.andThen];simp[ReflectliteValue.isNil,loadVar,isAgg,underlying,underlying247,ha,Result.andThen]
def zjQ(h:ay)(w:ax):(Go.method 529 252 (.agg #[h]) "Elem").run prog w= .ok (363,.agg #[h]) w:=by kernel_rfl
def WX(h:ay)(w:ax):(Go.method 529 252 (.agg #[h]) "Implements").run prog w= .ok (364,.agg #[h]) w:=by kernel_rfl
def Tq(h:ay)(w:ax):(Go.method 529 252 (.agg #[h]) "AssignableTo").run prog w= .ok (362,.agg #[h]) w:=by kernel_rfl
def zyF(w:ax):(ReflectliteType.method ReflectliteType.elem #[.agg #[.pointer (some ⟨10,247,none⟩)]]).run prog w= .ok (.iface 252 (.agg #[.pointer (some ⟨10,34,none⟩)])) w:=by kernel_rfl
def zib(w:ax):(ReflectliteType.relation "Implements" ReflectliteType.implements_ #[.agg #[.pointer (some ⟨10,34,none⟩)],.iface 252 (.agg #[.pointer (some ⟨10,40,none⟩)])]).run prog w= .ok (.bool true) w:=by kernel_rfl
def zra(v:ay)(w:ax):(ReflectliteType.typeOf #[.iface 34 v]).run prog w= .ok (.iface 252 (.agg #[.pointer (some ⟨10,34,none⟩)])) w:=by kernel_rfl
def zix(w:ax):(ReflectliteType.relation "AssignableTo" ReflectliteType.assignableTo #[.agg #[.pointer (some ⟨10,34,none⟩)],.iface 252 (.agg #[.pointer (some ⟨10,34,none⟩)])]).run prog w= .ok (.bool true) w:=by kernel_rfl
def zoQ(n:Int)(w:ax):(ReflectliteValue.unpack (.iface 34 (.int .i64 n))).run prog w
  = .ok (.agg #[.pointer (some ⟨10,34,none⟩),.pointer (some ⟨w.heap.size,0,none⟩),.int .u64 130]) (w.alloc (.cells #[.int .i64 n] 34)):=by kernel_rfl
def zrV(w:ax):(Rtype.elem? 247).run prog w= .ok (some 34) w:=by kernel_rfl
def mkE(p:Addr)(w:ax):(ReflectliteValue.mk 34 p ReflectliteValue.flagAddr).run prog w= .ok (.agg #[.pointer (some ⟨10,34,none⟩),.pointer (some p),.int .u64 386]) w:=by kernel_rfl
def zvj(a p:Addr)(W:ax)(ha:W.cell? a=some (.pointer (some p))):
  (ReflectliteValue.method (ReflectliteValue.valueError "reflectlite.Value.Elem" 0) ReflectliteValue.elem #[.agg #[.pointer (some ⟨10,247,none⟩),.pointer (some a),.int .u64 150]]).run prog W
   = .ok (.agg #[.pointer (some ⟨10,34,none⟩),.pointer (some p),.int .u64 386]) W:=by
 rw[rlm];simp only[lJ,zol,Result.andThen];simp[ReflectliteValue.elem,loadVar,isAgg,underlying,underlying247,ha,Result.andThen,zrV,mkE]
def rls(v x:ay):ReflectliteValue.set #[v,x]=(do
  let (some (dst,a,fl),some (src,b,_)):=(<-ReflectliteValue.parts v,<-ReflectliteValue.parts x)
   | unsupported (.noEntry "extern/(internal/reflectlite.Value).Set.zeroValue")
  if fl/ReflectliteValue.flagAddr % 2==0 then unsupported (.noEntry "extern/(internal/reflectlite.Value).Set.unaddressable")
  let val<-loadVar src b
  if<-Rtype.directlyAssignable dst src then storeVar dst a val
  else if<-Rtype.implements dst src then
   if (<-Rtype.kind src)==20 then
    match val with
    | .nilIface=>unsupported (.noEntry "extern/reflectlite: a nil value of one interface type handed on as a value of another")
    | _=>storeVar dst a val
   else storeVar dst a (.iface src val)
  else panicString ("reflectlite.Set: value of type " ++(<-Rtype.spelt src)++ " is not assignable to type " ++(<-Rtype.spelt dst))
  pure (.tuple #[])):=rfl
def zrC(a:Addr)(w:ax):(ReflectliteValue.parts (.agg #[.pointer (some ⟨10,34,none⟩),.pointer (some a),.int .u64 386])).run prog w= .ok (some (34,a,386)) w:=by kernel_rfl
def zuX(a:Addr)(w:ax):(ReflectliteValue.parts (.agg #[.pointer (some ⟨10,34,none⟩),.pointer (some a),.int .u64 130])).run prog w= .ok (some (34,a,130)) w:=by kernel_rfl
def zrW(w:ax):(Rtype.directlyAssignable 34 34).run prog w= .ok true w:=by kernel_rfl
def zy8(ta b:Addr)(n:Int)(old:ay)(W:ax)(hb:W.cell? b=some (.int .i64 n))(ht:W.cell? ta=some old)(hf:W.frozen? ta=false):
  (ReflectliteValue.set #[.agg #[.pointer (some ⟨10,34,none⟩),.pointer (some ta),.int .u64 386],.agg #[.pointer (some ⟨10,34,none⟩),.pointer (some b),.int .u64 130]]).run prog W
   = .ok (.tuple #[]) (W.setCell ta (.int .i64 n)):=by
 rw[rls];simp only[lJ,zrC,zuX,Result.andThen];simp[ReflectliteValue.flagAddr,loadVar,isAgg,underlying,underlying34,hb,Result.andThen,zrW,storeVar,Value.cells,storeCells,Addr.add];rw[run_store prog W ta _ _ (by rfl)];simp[ht,hf]
def zvo(n:Int)(t:Addr)(old:ay)(w:ax)(hg:w.cell? ⟨0,0,none⟩=some (.iface 252 (.agg #[.pointer (some ⟨10,40,none⟩)])))(ht0:w.cell? t=some old)(hf0:w.frozen? t=false):
  ae 162 #[.iface 34 (.int .i64 n),.iface 247 (.pointer (some t))] w λev w'=>ev= .returned (.bool true)∧w'=((((w.alloc (.cells #[.pointer (some t)] 247)).alloc (.cells #[.pointer (some ⟨10,247,none⟩),.pointer (some ⟨w.heap.size,0,none⟩),.int .u64 150] 186)).alloc (.cells #[.pointer (some ⟨10,247,none⟩),.pointer (some ⟨w.heap.size,0,none⟩),.int .u64 150] 186)).alloc (.cells #[.int .i64 n] 34)).setCell t (.int .i64 n):=by
 have h6:= @gG prog 105 _ (λargs=>ReflectliteValue.unpack (args.getD 0 (.tuple #[]))) func105 (by kernel_rfl) (by kernel_rfl) (by kernel_rfl) (by kernel_rfl);have h7:= @gG prog 223 _ (ReflectliteValue.methodAny (ReflectliteValue.valueError "reflectlite.Value.Type" 0) (λt _ _ _=>ReflectliteType.toType t)) func223 (by kernel_rfl) (by kernel_rfl) (by kernel_rfl) (by kernel_rfl);have h8:= @gG prog 224 _ (ReflectliteValue.method (ReflectliteValue.valueError "reflectlite.Value.IsNil" 0) ReflectliteValue.isNil) func224 (by kernel_rfl) (by kernel_rfl) (by kernel_rfl) (by kernel_rfl);have h27:= @gG prog 351 _ (ReflectliteType.abiMethod λt=>do pure (.int .u8 (<-Rtype.kind t))) func351 (by kernel_rfl) (by kernel_rfl) (by kernel_rfl) (by kernel_rfl);have h37:= @gG prog 363 _ (ReflectliteType.method ReflectliteType.elem) func363 (by kernel_rfl) (by kernel_rfl) (by kernel_rfl) (by kernel_rfl);have h38:= @gG prog 364 _ (ReflectliteType.relation "Implements" ReflectliteType.implements_) func364 (by kernel_rfl) (by kernel_rfl) (by kernel_rfl) (by kernel_rfl);have h10:= @gG prog 278 _ ReflectliteType.typeOf func278 (by kernel_rfl) (by kernel_rfl) (by kernel_rfl) (by kernel_rfl);have QP:= @gG prog 362 _ (ReflectliteType.relation "AssignableTo" ReflectliteType.assignableTo) func362 (by kernel_rfl) (by kernel_rfl) (by kernel_rfl) (by kernel_rfl);have h11:= @gG prog 279 _ (ReflectliteValue.method (ReflectliteValue.valueError "reflectlite.Value.Elem" 0) ReflectliteValue.elem) func279 (by kernel_rfl) (by kernel_rfl) (by kernel_rfl) (by kernel_rfl);have h12:= @gG prog 280 _ ReflectliteValue.set func280 (by kernel_rfl) (by kernel_rfl) (by kernel_rfl) (by kernel_rfl);have tO:=zra;have mA:=Tq;have a25:=zix;have v25:=zoQ;have f6:=zoP;have f7:=zx0;have mK:=zjP;have mE:=zjQ;have mI:=WX;have k27:=zya;have k25:=zyb;have e27:=zyF;have i25:=zib;have n8:=zu9 ⟨w.heap.size,0,none⟩ t ((w.alloc (.cells #[.pointer (some t)] 247)).alloc (.cells #[.pointer (some ⟨10,247,none⟩),.pointer (some ⟨w.heap.size,0,none⟩),.int .u64 150] 186)) (by simp);have rE:0<w.heap.size:=by
  rcases ou 0 w.heap.size with h|h
  ·exact h
  simp[World.cell?,jy h]at hg
 have hg2:((w.alloc (.cells #[.pointer (some t)] 247)).alloc (.cells #[.pointer (some ⟨10,247,none⟩),.pointer (some ⟨w.heap.size,0,none⟩),.int .u64 150] 186)).cell? ⟨0,0,none⟩=some (.iface 252 (.agg #[.pointer (some ⟨10,40,none⟩)])):=by rw[gI _ _ ⟨0,0,none⟩ (by first|(simp;done)|(simp;omega)),gI _ _ ⟨0,0,none⟩ rE];exact hg
 have NQ:t.block<w.heap.size:=by
  rcases ou t.block w.heap.size with h|h
  ·exact h
  simp[World.cell?,jy h]at ht0
 have el:=zvj ⟨w.heap.size,0,none⟩ t (((w.alloc (.cells #[.pointer (some t)] 247)).alloc (.cells #[.pointer (some ⟨10,247,none⟩),.pointer (some ⟨w.heap.size,0,none⟩),.int .u64 150] 186)).alloc (.cells #[.pointer (some ⟨10,247,none⟩),.pointer (some ⟨w.heap.size,0,none⟩),.int .u64 150] 186)) (by rw[gI _ _ ⟨w.heap.size,0,none⟩ (by simp;omega)];simp);have st:=zy8 t ⟨w.heap.size+1+1+1,0,none⟩ n old ((((w.alloc (.cells #[.pointer (some t)] 247)).alloc (.cells #[.pointer (some ⟨10,247,none⟩),.pointer (some ⟨w.heap.size,0,none⟩),.int .u64 150] 186)).alloc (.cells #[.pointer (some ⟨10,247,none⟩),.pointer (some ⟨w.heap.size,0,none⟩),.int .u64 150] 186)).alloc (.cells #[.int .i64 n] 34))
  (by rw[World.cell?_alloc_at _ _ _ _ (by simp)];rfl)
  (by rw[gI _ _ t (by simp;omega),gI _ _ t (by simp;omega),gI _ _ t (by simp;omega),gI _ _ t NQ];exact ht0)
  (by rw[lY _ _ t (by simp;omega),lY _ _ t (by simp;omega),lY _ _ t (by simp;omega),lY _ _ t (Nat.ne_of_lt NQ)];exact hf0)
 go_enter func162,ntmps162;go_wp2;refine lX 1 ?_;rw[mX];go_wp2;go_ret;exact⟨rfl,rfl⟩
def Fe(w:ax):Prop:=w.cell? ⟨0,0,none⟩=some (.iface 252 (.agg #[.pointer (some ⟨10,40,none⟩)]))
def Fe.qm{w w':ax}(h:Fe w){S:Nat->Prop}(hk:Keep S w w')(hn:¬S 0):Fe w':=by
 unfold Fe at*;have rE:0<w.heap.size:=by
  rcases ou 0 w.heap.size with h'|h'
  ·exact h'
  simp[World.cell?,jy h']at h
 rw[hk.cell (p:=⟨0,0,none⟩) rE hn];exact h
def zyJ(n:Int)(t:Addr)(old:ay)(w:ax)(hg:Fe w)(ht0:w.cell? t=some old)(hf0:w.frozen? t=false):
  ae 162 #[.iface 34 (.int .i64 n),.iface 247 (.pointer (some t))] w λev w'=>ev= .returned (.bool true)∧w'.cell? t=some (.int .i64 n)∧Keep (qJ t.block) w w':=
 (zvo n t old w hg ht0 hf0).m λev w' ⟨he,hw⟩=>by
  subst hw;have NQ:t.block<w.heap.size:=by
   rcases ou t.block w.heap.size with h|h
   ·exact h
   simp[World.cell?,jy h]at ht0
  refine⟨he,?_,(((((ah _ w).alloc _).alloc _).alloc _).alloc _).setCell (p:=t) (.inl (show qJ t.block t.block from rfl)) _⟩;have hc:((((w.alloc (.cells #[.pointer (some t)] 247)).alloc (.cells #[.pointer (some ⟨10,247,none⟩),.pointer (some ⟨w.heap.size,0,none⟩),.int .u64 150] 186)).alloc (.cells #[.pointer (some ⟨10,247,none⟩),.pointer (some ⟨w.heap.size,0,none⟩),.int .u64 150] 186)).alloc (.cells #[.int .i64 n] 34)).cell? t=some old:=by rw[gI _ _ t (by simp;omega),gI _ _ t (by simp;omega),gI _ _ t (by simp;omega),gI _ _ t NQ];exact ht0
  exact World.cell?_setCell_same _ _ _ hc
def zo8(w:ax):ae 98 #[.nilIface] w λe w'=>e= .returned (.int .i64 0)∧w'=w:=by go_enter func98,ntmps98;go_wp2;go_ret;exact⟨rfl,rfl⟩
def zji(n:Int)(w:ax)(hg:Fe w):ae 98 #[.iface 34 (.int .i64 n)] w (au (.int .i64 n) w):=by go_enter func98,ntmps98;go_wp2_with fail;have hg1:Fe (w.alloc (.cells #[.int .i64 0] 34)):=hg.qm ((ah qw w).alloc _) id;refine(zyJ n ⟨w.heap.size,0,none⟩ (.int .i64 0) _ hg1 (by simp) (by simp)).m ?_;rintro e w2 ⟨rfl,hc,K⟩;have K2:ak w w2:=((ah qw w).alloc _).t K (λi hi e=>by simp only[qJ]at e;omega);go_wp2;go_ret;exact⟨rfl,K2⟩
def zms(w:ax):ae 44 #[.nilIface] w λe w'=>e= .returned (.tuple #[.int .i64 0,.int .i64 (-1)])∧w'=w:=by
 go_enter func44,ntmps44;go_wp2_with fail;refine(zo8 _).m ?_;rintro e w2 ⟨rfl,rfl⟩;go_wp2_with fail;refine lX 1 ?_;rw[mX];go_wp2
 go_ret2
 exact⟨rfl,rfl⟩
def assertAt(n:Int)(w:ax):(Instr.typeAssert (.iface 34 (.int .i64 n)) 40 174 true).run prog w= .ok (.tuple #[.pointer none,.bool false]) w:=by kernel_rfl
def zfy(n:Int)(w:ax):(Instr.typeAssert (.iface 34 (.int .i64 n)) 40 178 true).run prog w= .ok (.tuple #[.nilIface,.bool false]) w:=run_typeAssert_lacksB underlying178 (by kernel_rfl) (by kernel_rfl) _ _ w
def zhR(n:Int)(w:ax)(hg:Fe w):ae 44 #[.iface 34 (.int .i64 n)] w (au (.tuple #[.int .i64 n,.int .i64 (-1)]) w):=by
 go_enter func44,ntmps44;go_wp2_with fail;refine(zji n _ hg).m ?_;rintro e w2 ⟨rfl,K⟩;have a1:=assertAt;have a2:=zfy;go_wp2_with fail;refine lX 1 ?_;rw[mX];go_wp2
 go_ret2
 exact⟨rfl,K⟩
def qY(n:Int):ay:=if n=0 then .nilIface else .iface 34 (.int .i64 n)
def zbr(n:Int)(h:n≠0):qY n= .iface 34 (.int .i64 n):=aV h
def zdn(n:Int)(w:ax)(hg:Fe w):ae 44 #[qY n] w (au (.tuple #[.int .i64 n,.int .i64 (-1)]) w):=by
 by_cases h:n=0
 ·subst h;exact(zms w).m λ_ _ ⟨he,hw⟩=>⟨he,hw▸ah _ _⟩
 rw[zbr n h];exact zhR n w hg
def Ij(n m:Int)(w:ax)(hg:Fe w):ae 11 #[qY n,.int .i64 m] w (au (.bool (n==m)) w):=by
 generalize hv:qY n=v;have Hv:=ag hv;clear hv;by_cases h:n=m
 ·have h1:(n==m)=true:=by simp[h]
  simp only[h1];have H:=ag h;clear h;go_enter func11,ntmps11;go_wp2_with fail;have hc:=zdn n w hg;rw[Hv.o]at hc;refine hc.m ?_;clear hc;rintro e w2 ⟨rfl,K⟩;go_wp2;go_ret;exact⟨rfl,K⟩
 have h1:(n==m)=false:=by simp[h]
 simp only[h1];clear h;go_enter func11,ntmps11;go_wp2_with fail;have hc:=zdn n w hg;rw[Hv.o]at hc;refine hc.m ?_;clear hc;rintro e w2 ⟨rfl,K⟩;go_wp2;go_ret;exact⟨rfl,K⟩
end
