/-
  DERIVED. strconv.Itoa, item.number; the table that they read.
-/
import Derived.Test.YtcjilojkhmondaaDoorWrite
import Derived.Test.YtcjilojkhmondaaDoorItemP
import Derived.Test.YtcjilojkhmondaaDoorCmp
set_option linter.unusedVariables false
set_option linter.unusedSimpArgs false
namespace Go.Proofs.YtcjilojkhmondaaDoor
open Go.RowKit Go.Cof
theorem tab_keep {P : Program} {w w' : World} {name : String} {k : IntKind} {zs : List Int} {g : Nat} (h : Lib.TabIs P w name k zs) (hg : P.globalNamed name = some g) (hh : w'.heap[g]? = w.heap[g]?) : Lib.TabIs P w' name k zs := by
  unfold Lib.TabIs World.var? at *
  rw [hg] at h ⊢
  simp only [Option.bind_some, hh] at h ⊢
  exact h
theorem powName : Tryd.prog.globalNamed "internal/strconv.uint64pow10" = some 4 := by kernel_rfl
def PowVar (w : World) : Prop := Lib.TabIs Tryd.prog w "internal/strconv.uint64pow10" .u64 Lib.pow10Tab
theorem PowVar.lt {w : World} (h : PowVar w) : 4 < w.heap.size := by
  have h0 : (0 : Nat) < Lib.pow10Tab.length := by decide
  have := Lib.TabIs.cell h powName 0 h0
  exact Lib.lt_of_cell this
theorem PowVar.keep {w w' : World} (h : PowVar w) {S : Nat → Prop} (hk : Keep S w w') (hn : ¬ S 4) : PowVar w' := tab_keep h powName (hk.block _ h.lt hn)
theorem itoa_any (n : Int) (h0 : -9223372036854775808 ≤ n) (h1 : n ≤ 9223372036854775807) (w : World) (T : PowVar w) : Calls Tryd.prog 69 #[.int .i64 n] w fun e w' => e = .returned (.string ⟨(Lib.itoa n).toArray⟩) ∧ Keep NoB w w' := by
  refine (Tryd.strconv_Itoa n h0 h1 w T).mono ?_
  rintro e w' ⟨he, k, os, hw⟩
  exact ⟨he, Gr.keep ⟨k, os, hw⟩⟩
end Go.Proofs.YtcjilojkhmondaaDoor
