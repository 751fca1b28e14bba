import Derived.Test.YtbcmmbeadgiiiaaGreatDoorYBF
import Derived.Test.YtbcmmbeadgiiiaaGreatDoorRows
import Derived.Stop.Joined
import Derived.Stop.LaidErr
import Derived.Lay
import Derived.LaidMore
import Derived.HandedShaped
set_option linter.all false
namespace Go.Proofs.YtbcmmbeadgiiiaaGreatDoor
open Go.RowKit Proofs.Tryz
set_option maxRecDepth 100000
set_option maxHeartbeats 16000000
variable{W:ax}
section
open Go.ChangeShapes Go.WideShapes
def own:ownKnob prog.godebug=none:=by kernel_rfl
def et:prog.globalNamed "errors.errorType" =some 0:=by kernel_rfl
def rt:(prog.cutTypes.find? (·.1== "internal/reflectlite.rtype")).map (·.2)=some 252:=by kernel_rfl
def zu1:((List.range 429).filter λt=>prog.rowNamed t [101,114,114,111,114])= [40]:=by kernel_rfl
def zlO:prog.types.size=429:=by kernel_rfl
def WY{l:List (String×DataW Unit)}(h:handlesMet prog l W)(hm:("errors.errorType",Rows.laid_errors_errorType)∈l):Fe W:=by
 obtain⟨name,u,ty,e1,e2,e3,e4,e5⟩:=h _ hm;have en:name= [101,114,114,111,114]:=(aU e1).s;subst en;obtain rfl:=aU (rt.s.t e2);have hm:ty∈(List.range 429).filter λt=>prog.rowNamed t [101,114,114,111,114]:=gy.2 ⟨iJ.2 (by rw[<-zlO];exact e3),e4⟩;rw[zu1]at hm;obtain rfl:=bJ.1 hm;have hh:typeHandle prog 40= .pointer (some ⟨10,40,none⟩):=by kernel_rfl
 rw[hh]at e5;unfold Fe
 simpa using World.var?_cell et e5 0
end
section
open Go.ChangeShapes Go.WideShapes
def Tn{H:Type}{enc:aB×ay->H}{a:Assume}{C:Checked}{os:Os}{f:FuncId}{fn:Func}{s:ChangeSpec}{conds:List PathCond}{apart fresh handsOn again:Bool}{X:ax->Array ay->Prop}
  (hX:∀(w w':ax) (args:Array ay),w.heap=w'.heap->X w args->X w' args)
  (own:ownKnob C.prog.godebug=none) (started:os.Started) (zu3:C.prog.inits.idxOf? f=none) (hfn:C.prog.funcs[f]? =some fn)
  (witness:∃(w:ax) (tape:Tape) (i:Input),w.os=os∧(w.forCall tape i).Shaped C.prog∧i.vars= []∧Input.okWide C.prog (w.forCall tape i) .any w.heap.size f i∧
   ((s.pre enc C.prog fn conds apart (w.forCall tape i).memory i.args∧X (w.forCall tape i).memory i.args)∧sizedMet enc C.prog fn (OpenSpec.ofChange s) apart (w.forCall tape i).memory i.args)∧a.holds C.prog (lone (Frame.enter C.prog f i.args .normal) [] (w.forCall tape i)))
  (zp8:∀(W:ax) (base:Nat) (args:Array ay) (ds gs:List (DataW H)) (before:List MemPlace),
   (∀(j:Nat) t v,fn.params[j]? =some t->args[j]? =some v->Value.okWide C.prog W .any base t v)->
   DataW.Whole enc C.prog fn.params.toList s.vars apart W args.toList ds gs before->
   X W args->W.ShapedOpen C.prog->
   Calls C.prog f args W λe W'=>∃v,e= .returned v∧s.post enc C.prog fn apart fresh handsOn again W args v W'):
  ReturnsInHanded a C os f .any (λw args=>(s.pre enc C.prog fn conds apart w args∧X w args)∧sizedMet enc C.prog fn (OpenSpec.ofChange s) apart w args) (s.post enc C.prog fn apart fresh handsOn again):=by
 refine returnsInHanded_of_calls own started zu3 witness ?_;intro w tape i _ hsh _ zN OJ hholds;obtain⟨_,_,_,fn',zzX,_,_,_,_,TD⟩:=zN;have e:fn'=fn:=aU (zzX.s.t hfn);subst e;obtain⟨⟨⟨ds,gs,before,hw,hc⟩,hx⟩,hz⟩:=OJ;have hw':=DataW.Whole.of_heap (w':=w.forCall tape i) (by rfl) hw;refine(zp8 (w.forCall tape i) w.heap.size i.args ds gs before TD hw' (hX _ _ _ (by rfl) hx) hsh).m λe W' ⟨v,he,hp⟩=> ?_;subst he;exact ChangeSpec.post_blind hp
end
section
open Go.ChangeShapes Go.WideShapes
def zmp:Rows.laid_internal_strconv_uint64pow10 (H:=Unit)=Lib.tabData .u64 Lib.pow10Tab:=rfl
def zfg(h:W.ShapedOpen prog):∃m,W.cell? ⟨1,0,none⟩=some (.int .i64 m):=
 cell_of_shapedOpen_int (P:=prog) (g:=1) (t:=3) (zero:= #[.int .i64 0]) h (fM (by kernel_rfl)) (by kernel_rfl) rfl (by kernel_rfl) (by kernel_rfl) fG
def zu8:List UInt8:= [118,97,108,117,101,32,111,117,116,32,111,102,32,114,97,110,103,101]
def zu7:List UInt8:= [105,110,118,97,108,105,100,32,115,121,110,116,97,120]
def zsf: "*errors.errorString" = "*" ++ "errors.errorString" :=by decide
def zoD(u:aB)(h:prog.typeName? 3 u=some "*errors.errorString"):u=376:=
 typeName_ptr_named (nm:= "errors.errorString") (by rw[<-zsf];kernel_rfl) (by kernel_rfl) (by decide) u (by rw[<-zsf];exact h)
end
section
open Go.ChangeShapes Go.WideShapes
def ze4:Rows.laid_coffer_sum_rounds (H:=Unit)=Lib.tabData .u32 (xK.map λ(n:Nat)=>(n:Int)):=rfl
def zbI{r:List (String×DataW Unit)}(h:laidMet prog (("coffer/sum.rounds",Rows.laid_coffer_sum_rounds)::r) W):rF W:=by
 have t:Lib.TabIs prog W "coffer/sum.rounds" .u32 (xK.map λ(n:Nat)=>(n:Int)):=
  Lib.tabIs_of_head (g:=4) (t:=82) (e:=80) (n:=64) (by kernel_rfl) (by kernel_rfl) underlying82 lM (by kernel_rfl) (by kernel_rfl) (by rw[ze4]at h;exact h)
 intro i hi;have hl:xK.length=64:=rfl;have c:=t.cell (g:=4) (by kernel_rfl) i (by rw[aP,hl];exact hi);rw[c,aG,aX,aG,aK (by rw[hl];exact hi)];rfl
def zoo:List (String×DataW Unit):= [("coffer/sum.rounds",Rows.laid_coffer_sum_rounds),("math/bits.deBruijn32tab",Rows.laid_math_bits_deBruijn32tab),("math/bits.deBruijn64tab",Rows.laid_math_bits_deBruijn64tab),("internal/strconv.uint64pow10",Rows.laid_internal_strconv_uint64pow10),("unicode/utf8.acceptRanges",Rows.laid_unicode_utf8_acceptRanges),("strconv.ErrRange",Rows.laid_strconv_ErrRange),("strconv.ErrSyntax",Rows.laid_strconv_ErrSyntax),("unicode/utf8.first",Rows.laid_unicode_utf8_first)]
def laidB:List (String×DataW Unit):= [("coffer/sum.rounds",Rows.laid_coffer_sum_rounds),("math/bits.deBruijn32tab",Rows.laid_math_bits_deBruijn32tab),("math/bits.deBruijn64tab",Rows.laid_math_bits_deBruijn64tab),("internal/strconv.uint64pow10",Rows.laid_internal_strconv_uint64pow10),("unicode/utf8.acceptRanges",Rows.laid_unicode_utf8_acceptRanges),("errors.errorType",Rows.laid_errors_errorType),("strconv.ErrRange",Rows.laid_strconv_ErrRange),("strconv.ErrSyntax",Rows.laid_strconv_ErrSyntax),("unicode/utf8.first",Rows.laid_unicode_utf8_first)]
def zcm(h:laidMetH prog laidB W)(hs:W.ShapedOpen prog):zaB W:=by have h':laidMet prog zoo W∧handlesMet prog [("errors.errorType",Rows.laid_errors_errorType)] W:=h;have t3:=h'.1.tail.tail.tail;have hp:CS W:=Lib.tabIs_of_head (g:=5) (t:=389) (e:=87) (n:=20) (by kernel_rfl) (by kernel_rfl) underlying389 underlying87 (by kernel_rfl) (by kernel_rfl) (by have h3:=t3;rw[zmp]at h3;exact h3);have t5:=t3.tail.tail;have t6:=t5.tail;obtain⟨a1,s1,v1,_⟩:=laid_sentinel (text:=zu8) (g:=3) (ti:=40) (tp:=376) (te:=378) (ts:=9) t5 (by kernel_rfl) (by kernel_rfl) underlying40 zoD underlying376 underlying378 rfl rfl bK (by kernel_rfl) (by kernel_rfl);obtain⟨a2,s2,v2,_⟩:=laid_sentinel (text:=zu7) (g:=2) (ti:=40) (tp:=376) (te:=378) (ts:=9) t6 (by kernel_rfl) (by kernel_rfl) underlying40 zoD underlying376 underlying378 rfl rfl bK (by kernel_rfl) (by kernel_rfl);exact⟨zbI h'.1,⟨hp,⟨⟨_,by simpa using World.var?_cell (show prog.globalNamed "strconv.ErrRange" =some 3 by kernel_rfl) v1 0,.inr ⟨_,_,rfl⟩⟩,⟨_,by simpa using World.var?_cell (show prog.globalNamed "strconv.ErrSyntax" =some 2 by kernel_rfl) v2 0,.inr ⟨_,_,rfl⟩⟩⟩,zfg hs⟩,WY h'.2 (bJ.2 rfl)⟩
noncomputable def zbi (os:Os):ax:=
 let w0:=World.laidAll prog os zoo
 { w0 with heap:=w0.heap.modify 0 fun
   | .cells _ t frozen=> .cells #[.iface 252 (.agg #[.pointer (some ⟨10,40,none⟩)])] t frozen
   | o=>o }
def zbO(os:Os)(args:Array ay):laidMetH prog laidB ((zbi os).forCall (λ_ _=>0) ⟨#[],args,[]⟩).memory:=
 laidMetH_of_parts (laidMet_of_run' 8 (by kernel_rfl) (by kernel_rfl)) (by kernel_rfl)
end
