import Derived.Test.YtnmhgehpddipdaaGreatDoorYAK
import Derived.Test.YtnmhgehpddipdaaGreatDoorYBQ
import Derived.Test.YtnmhgehpddipdaaGreatDoorYBR
import Derived.Lib.LaidTab
import Derived.Stop.LaidErr
import Derived.Lay
import Derived.LaidMore
import Derived.MakeChecks
set_option linter.unusedSimpArgs false
set_option linter.unusedVariables false
namespace Go.Proofs.YtnmhgehpddipdaaGreatDoor
open Go.ChangeShapes Go.WideShapes Go.RowKit Go.Cof
theorem rounds_laidT:Rows.laid_coffer_sum_rounds (H:=Unit)=Lib.tabData .u32 (roundsK.map λ(n:Nat)=>(n:Int)):=rfl
theorem rounds_of_laid{W:World}{r:List (String×DataW Unit)}(h:laidMet Tryz.prog (("coffer/sum.rounds",Rows.laid_coffer_sum_rounds)::r) W):RoundsVar W:=by
 have t:Lib.TabIs Tryz.prog W "coffer/sum.rounds" .u32 (roundsK.map λ(n:Nat)=>(n:Int)):=
  Lib.tabIs_of_head (g:=5) (t:=284) (e:=195) (n:=64) (by kernel_rfl) (by kernel_rfl) Tryz.underlying284 Tryz.underlying195 (by kernel_rfl) (by kernel_rfl) (by rw[rounds_laidT]at h;exact h)
 intro i hi
 have hl:roundsK.length=64:=rfl
 have c:=t.cell (g:=5) (by kernel_rfl) i (by rw[List.length_map,hl];exact hi)
 rw[c,List.getD_eq_getElem?_getD,List.getElem?_map,List.getD_eq_getElem?_getD,List.getElem?_eq_getElem (by rw[hl];exact hi)]
 rfl
def laidB0:List (String×DataW Unit):= [("coffer/sum.rounds",Rows.laid_coffer_sum_rounds),("math/bits.deBruijn32tab",Rows.laid_math_bits_deBruijn32tab),("math/bits.deBruijn64tab",Rows.laid_math_bits_deBruijn64tab),("internal/strconv.uint64pow10",Rows.laid_internal_strconv_uint64pow10),("unicode/utf8.acceptRanges",Rows.laid_unicode_utf8_acceptRanges),("strconv.ErrRange",Rows.laid_strconv_ErrRange),("strconv.ErrSyntax",Rows.laid_strconv_ErrSyntax),("unicode/utf8.first",Rows.laid_unicode_utf8_first)]
def laidB:List (String×DataW Unit):= [("coffer/sum.rounds",Rows.laid_coffer_sum_rounds),("math/bits.deBruijn32tab",Rows.laid_math_bits_deBruijn32tab),("math/bits.deBruijn64tab",Rows.laid_math_bits_deBruijn64tab),("internal/strconv.uint64pow10",Rows.laid_internal_strconv_uint64pow10),("unicode/utf8.acceptRanges",Rows.laid_unicode_utf8_acceptRanges),("errors.errorType",Rows.laid_errors_errorType),("strconv.ErrRange",Rows.laid_strconv_ErrRange),("strconv.ErrSyntax",Rows.laid_strconv_ErrSyntax),("unicode/utf8.first",Rows.laid_unicode_utf8_first)]
theorem vars_of_laidB{W:World}(h:laidMetH Tryz.prog laidB W)(hs:W.ShapedOpen Tryz.prog):BaseVars W:=by
 have h':laidMet Tryz.prog laidB0 W∧handlesMet Tryz.prog [("errors.errorType",Rows.laid_errors_errorType)] W:=h
 have t3:=h'.1.tail.tail.tail
 have hp:PowVar W:=Lib.tabIs_of_head (g:=2) (t:=238) (e:=183) (n:=20) (by kernel_rfl) (by kernel_rfl) Tryz.underlying238 Tryz.underlying183 (by kernel_rfl) (by kernel_rfl) (by have h3:=t3;rw[pow_laidI]at h3;exact h3)
 have t5:=t3.tail.tail
 have t6:=t5.tail
 obtain⟨a1,s1,v1,_⟩:=laid_sentinel (text:=laidE1) (g:=9) (ti:=36) (tp:=331) (te:=333) (ts:=9) t5 (by kernel_rfl) (by kernel_rfl) Tryz.underlying36 errRow Tryz.underlying331 Tryz.underlying333 rfl rfl Tryz.underlying9 (by kernel_rfl) (by kernel_rfl)
 obtain⟨a2,s2,v2,_⟩:=laid_sentinel (text:=laidE2) (g:=8) (ti:=36) (tp:=331) (te:=333) (ts:=9) t6 (by kernel_rfl) (by kernel_rfl) Tryz.underlying36 errRow Tryz.underlying331 Tryz.underlying333 rfl rfl Tryz.underlying9 (by kernel_rfl) (by kernel_rfl)
 exact⟨rounds_of_laid h'.1,⟨hp,⟨⟨_,by simpa using World.var?_cell (show Tryz.prog.globalNamed "strconv.ErrRange" =some 9 by kernel_rfl) v1 0,.inr ⟨_,_,rfl⟩⟩,⟨_,by simpa using World.var?_cell (show Tryz.prog.globalNamed "strconv.ErrSyntax" =some 8 by kernel_rfl) v2 0,.inr ⟨_,_,rfl⟩⟩⟩,max_of_shape hs⟩,errVar_of_handle h'.2 (List.mem_singleton.2 rfl)⟩
noncomputable def laidWorldB (os:Os):World:=
 let w0:=World.laidAll Tryz.prog os laidB0
 { w0 with heap:=w0.heap.modify 0 fun
   | .cells _ t frozen=> .cells #[.iface 211 (.agg #[.pointer (some ⟨10,36,none⟩)])] t frozen
   | o=>o }
theorem laidWorldB_met(os:Os)(args:Array Value):laidMetH Tryz.prog laidB ((laidWorldB os).forCall (λ_ _=>0) ⟨#[],args,[]⟩).memory:=
 laidMetH_of_parts (laidMet_of_run' 8 (by kernel_rfl) (by kernel_rfl)) (by kernel_rfl)
end Go.Proofs.YtnmhgehpddipdaaGreatDoor
