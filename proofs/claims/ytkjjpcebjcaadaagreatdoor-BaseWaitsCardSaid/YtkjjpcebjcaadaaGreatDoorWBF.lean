import Derived.Test.YtkjjpcebjcaadaaGreatDoorWAD
import Derived.Test.YtkjjpcebjcaadaaGreatDoorWBB
import Derived.Test.YtkjjpcebjcaadaaGreatDoorWBC
import Derived.Test.YtkjjpcebjcaadaaGreatDoorProg
import Derived.Lib.Hide
set_option linter.unusedSimpArgs false
set_option linter.unusedVariables false
namespace Go.Proofs.YtkjjpcebjcaadaaGreatDoor
open Go.RowKit Go.Cof
theorem repeatL_zero (n : Nat) : Lib.repeatL [0] n = List.replicate n 0 := by
 induction n with
 | zero => rfl
 | succ n ih => rw [Lib.repeatL, ih, List.replicate_succ]; rfl
theorem repeat_any (c : Int) (n : Nat) (hc : c = n) (hn : n ≤ 1000000) (w : World) :
  Calls Tryz.prog 143 #[.string ⟨#[0]⟩, .int .i64 c] w fun e w' => e = .returned (.string (txt (List.replicate n 0))) ∧ Keep NoB w w' := by
 subst hc
 refine (Tryz.strings_Repeat ⟨#[0]⟩ n w (by omega) (by show 1 * n ≤ _; omega)).mono fun e w' ⟨he, hb⟩ => ⟨?_, Keep.ofBelow hb⟩
 rw [he]
 have e1 : (⟨#[0]⟩ : ByteArray).data.toList = [0] := rfl
 have e2 : (⟨(List.replicate n (0 : UInt8)).toArray⟩ : ByteArray) = txt (List.replicate n 0) := by rw [txt, List.map_replicate]; rfl
 rw [e1, repeatL_zero, e2]
end Go.Proofs.YtkjjpcebjcaadaaGreatDoor
