import Derived.Test.YtopbkdebihcmcaaGreatDoorYBH
import Derived.Test.YtopbkdebihcmcaaGreatDoorRows
import Derived.Stop.Joined
import Derived.Stop.LaidErr
import Derived.Lay
import Derived.LaidMore
import Derived.HandedShaped
set_option linter.unusedSimpArgs false
set_option linter.unusedVariables false
namespace Go.Proofs.YtopbkdebihcmcaaGreatDoor
open Go.RowKit
set_option maxRecDepth 100000
set_option maxHeartbeats 16000000
section
open Go.ChangeShapes Go.WideShapes
theorem own:ownKnob Tryz.prog.godebug=none:=by kernel_rfl
theorem et:Tryz.prog.globalNamed "errors.errorType" =some 4:=by kernel_rfl
theorem rt:(Tryz.prog.cutTypes.find? (·.1== "internal/reflectlite.rtype")).map (·.2)=some 230:=by kernel_rfl
theorem oneRow:((List.range 359).filter λt=>Tryz.prog.rowNamed t [101,114,114,111,114])= [41]:=by kernel_rfl
theorem zdG:Tryz.prog.types.size=359:=by kernel_rfl
theorem Oh{W:World}{l:List (String×DataW Unit)}(h:handlesMet Tryz.prog l W)(hm:("errors.errorType",Rows.laid_errors_errorType)∈l):ErrVar W:=by
 obtain⟨name,u,ty,e1,e2,e3,e4,e5⟩:=h _ hm;have en:name= [101,114,114,111,114]:=(aH e1).symm;subst en;obtain rfl:=aH (rt.symm.trans e2);have hm:ty∈(List.range 359).filter λt=>Tryz.prog.rowNamed t [101,114,114,111,114]:=fJ.2 ⟨iO.2 (by rw[<-zdG];exact e3),e4⟩;rw[oneRow]at hm;obtain rfl:=bD.1 hm;have hh:typeHandle Tryz.prog 41= .pointer (some ⟨10,41,none⟩):=by kernel_rfl
 rw[hh]at e5;unfold ErrVar
 simpa using World.var?_cell et e5 0
end
section
open Go.ChangeShapes Go.WideShapes
theorem JE{H:Type}{enc:TypeId×Value->H}{a:Assume}{C:Checked}{os:Os}{f:FuncId}{fn:Func}{s:ChangeSpec}{conds:List PathCond}{apart fresh handsOn again:Bool}{X:World->Array Value->Prop}
  (hX:∀(w w':World) (args:Array Value),w.heap=w'.heap->X w args->X w' args)
  (own:ownKnob C.prog.godebug=none) (started:os.Started) (noInit:C.prog.inits.idxOf? f=none) (hfn:C.prog.funcs[f]? =some fn)
  (witness:∃(w:World) (tape:Tape) (i:Input),w.os=os∧(w.forCall tape i).Shaped C.prog∧i.vars= []∧Input.okWide C.prog (w.forCall tape i) .any w.heap.size f i∧
   ((s.pre enc C.prog fn conds apart (w.forCall tape i).memory i.args∧X (w.forCall tape i).memory i.args)∧sizedMet enc C.prog fn (OpenSpec.ofChange s) apart (w.forCall tape i).memory i.args)∧a.holds C.prog (lone (Frame.enter C.prog f i.args .normal) [] (w.forCall tape i)))
  (contract:∀(W:World) (base:Nat) (args:Array Value) (ds gs:List (DataW H)) (before:List MemPlace),
   (∀(j:Nat) t v,fn.params[j]? =some t->args[j]? =some v->Value.okWide C.prog W .any base t v)->
   DataW.Whole enc C.prog fn.params.toList s.vars apart W args.toList ds gs before->
   X W args->W.ShapedOpen C.prog->
   Calls C.prog f args W λe W'=>∃v,e= .returned v∧s.post enc C.prog fn apart fresh handsOn again W args v W'):
  ReturnsInHanded a C os f .any (λw args=>(s.pre enc C.prog fn conds apart w args∧X w args)∧sizedMet enc C.prog fn (OpenSpec.ofChange s) apart w args) (s.post enc C.prog fn apart fresh handsOn again):=by
 refine returnsInHanded_of_calls own started noInit witness ?_;intro w tape i _ hsh _ hok hpre hholds;obtain⟨_,_,_,fn',hfn',_,_,_,_,hval⟩:=hok;have e:fn'=fn:=aH (hfn'.symm.trans hfn);subst e;obtain⟨⟨⟨ds,gs,before,hw,hc⟩,hx⟩,hz⟩:=hpre;have hw':=DataW.Whole.of_heap (w':=w.forCall tape i) (by rfl) hw;refine(contract (w.forCall tape i) w.heap.size i.args ds gs before hval hw' (hX _ _ _ (by rfl) hx) hsh).mono λe W' ⟨v,he,hp⟩=> ?_;subst he;exact ChangeSpec.post_blind hp
end
section
open Go.ChangeShapes Go.WideShapes
theorem zd4:Rows.laid_internal_strconv_uint64pow10 (H:=Unit)=Lib.tabData .u64 Lib.pow10Tab:=rfl
theorem XQ{W:World}(h:W.ShapedOpen Tryz.prog):∃m,W.cell? ⟨3,0,none⟩=some (.int .i64 m):=
 cell_of_shapedOpen_int (P:=Tryz.prog) (g:=3) (t:=3) (zero:= #[.int .i64 0]) h (gy (by kernel_rfl)) (by kernel_rfl) rfl (by kernel_rfl) (by kernel_rfl) Tryz.underlying3
def zlB:List UInt8:= [118,97,108,117,101,32,111,117,116,32,111,102,32,114,97,110,103,101]
def zlA:List UInt8:= [105,110,118,97,108,105,100,32,115,121,110,116,97,120]
theorem zju: "*errors.errorString" = "*" ++ "errors.errorString" :=by decide
theorem zgh(u:TypeId)(h:Tryz.prog.typeName? 3 u=some "*errors.errorString"):u=308:=
 typeName_ptr_named (nm:= "errors.errorString") (by rw[<-zju];kernel_rfl) (by kernel_rfl) (by decide) u (by rw[<-zju];exact h)
end
end Go.Proofs.YtopbkdebihcmcaaGreatDoor
