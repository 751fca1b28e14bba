import Derived.Test.YtopbkdebihcmcaaGreatDoorYBQ
import Derived.Test.YtopbkdebihcmcaaGreatDoorYBR
set_option linter.unusedSimpArgs false
set_option linter.unusedVariables false
namespace Go.Proofs.YtopbkdebihcmcaaGreatDoor
open Go.RowKit
set_option maxRecDepth 100000
set_option maxHeartbeats 16000000
section
open Go.ChangeShapes Go.WideShapes
theorem XK:Rows.laid_coffer_sum_rounds (H:=Unit)=Lib.tabData .u32 (EG.map λ(n:Nat)=>(n:Int)):=rfl
theorem TT{W:World}{r:List (String×DataW Unit)}(h:laidMet Tryz.prog (("coffer/sum.rounds",Rows.laid_coffer_sum_rounds)::r) W):oG W:=by
 have t:Lib.TabIs Tryz.prog W "coffer/sum.rounds" .u32 (EG.map λ(n:Nat)=>(n:Int)):=
  Lib.tabIs_of_head (g:=0) (t:=130) (e:=82) (n:=64) (by kernel_rfl) (by kernel_rfl) Tryz.underlying130 Tryz.underlying82 (by kernel_rfl) (by kernel_rfl) (by rw[XK]at h;exact h)
 intro i hi;have hl:EG.length=64:=rfl;have c:=t.cell (g:=0) (by kernel_rfl) i (by rw[aI,hl];exact hi);rw[c,ax,bC,ax,aC (by rw[hl];exact hi)];rfl
def zf6:List (String×DataW Unit):= [("coffer/sum.rounds",Rows.laid_coffer_sum_rounds),("math/bits.deBruijn32tab",Rows.laid_math_bits_deBruijn32tab),("math/bits.deBruijn64tab",Rows.laid_math_bits_deBruijn64tab),("internal/strconv.uint64pow10",Rows.laid_internal_strconv_uint64pow10),("unicode/utf8.acceptRanges",Rows.laid_unicode_utf8_acceptRanges),("strconv.ErrRange",Rows.laid_strconv_ErrRange),("strconv.ErrSyntax",Rows.laid_strconv_ErrSyntax),("unicode/utf8.first",Rows.laid_unicode_utf8_first)]
def laidB:List (String×DataW Unit):= [("coffer/sum.rounds",Rows.laid_coffer_sum_rounds),("math/bits.deBruijn32tab",Rows.laid_math_bits_deBruijn32tab),("math/bits.deBruijn64tab",Rows.laid_math_bits_deBruijn64tab),("internal/strconv.uint64pow10",Rows.laid_internal_strconv_uint64pow10),("unicode/utf8.acceptRanges",Rows.laid_unicode_utf8_acceptRanges),("errors.errorType",Rows.laid_errors_errorType),("strconv.ErrRange",Rows.laid_strconv_ErrRange),("strconv.ErrSyntax",Rows.laid_strconv_ErrSyntax),("unicode/utf8.first",Rows.laid_unicode_utf8_first)]
theorem UB{W:World}(h:laidMetH Tryz.prog laidB W)(hs:W.ShapedOpen Tryz.prog):pM W:=by have h':laidMet Tryz.prog zf6 W∧handlesMet Tryz.prog [("errors.errorType",Rows.laid_errors_errorType)] W:=h;have t3:=h'.1.tail.tail.tail;have hp:uH W:=Lib.tabIs_of_head (g:=5) (t:=208) (e:=81) (n:=20) (by kernel_rfl) (by kernel_rfl) Tryz.underlying208 Tryz.underlying81 (by kernel_rfl) (by kernel_rfl) (by have h3:=t3;rw[zd4]at h3;exact h3);have t5:=t3.tail.tail;have t6:=t5.tail;obtain⟨a1,s1,v1,_⟩:=laid_sentinel (text:=zlB) (g:=9) (ti:=41) (tp:=308) (te:=310) (ts:=9) t5 (by kernel_rfl) (by kernel_rfl) Tryz.underlying41 zgh Tryz.underlying308 Tryz.underlying310 rfl rfl Tryz.underlying9 (by kernel_rfl) (by kernel_rfl);obtain⟨a2,s2,v2,_⟩:=laid_sentinel (text:=zlA) (g:=8) (ti:=41) (tp:=308) (te:=310) (ts:=9) t6 (by kernel_rfl) (by kernel_rfl) Tryz.underlying41 zgh Tryz.underlying308 Tryz.underlying310 rfl rfl Tryz.underlying9 (by kernel_rfl) (by kernel_rfl);exact⟨TT h'.1,⟨hp,⟨⟨_,by simpa using World.var?_cell (show Tryz.prog.globalNamed "strconv.ErrRange" =some 9 by kernel_rfl) v1 0,.inr ⟨_,_,rfl⟩⟩,⟨_,by simpa using World.var?_cell (show Tryz.prog.globalNamed "strconv.ErrSyntax" =some 8 by kernel_rfl) v2 0,.inr ⟨_,_,rfl⟩⟩⟩,XQ hs⟩,Oh h'.2 (bD.2 rfl)⟩
noncomputable def Td (os:Os):World:=
 let w0:=World.laidAll Tryz.prog os zf6
 { w0 with heap:=w0.heap.modify 4 fun
   | .cells _ t frozen=> .cells #[.iface 230 (.agg #[.pointer (some ⟨10,41,none⟩)])] t frozen
   | o=>o }
theorem TV(os:Os)(args:Array Value):laidMetH Tryz.prog laidB ((Td os).forCall (λ_ _=>0) ⟨#[],args,[]⟩).memory:=
 laidMetH_of_parts (laidMet_of_run' 8 (by kernel_rfl) (by kernel_rfl)) (by kernel_rfl)
end
end Go.Proofs.YtopbkdebihcmcaaGreatDoor
