/-
  DERIVED. strings.Repeat of the byte 0, the reference's zeros: apart from the sums.
-/
import Derived.Test.YtndcaaikjcicgaaDoorProg
import Derived.Test.YtndcaaikjcicgaaDoorBase
import Derived.Lib.Hide
import Derived.Test.YtndcaaikjcicgaaDoorShelf
set_option linter.unusedVariables false
set_option linter.unusedSimpArgs false
namespace Go.Proofs.YtndcaaikjcicgaaDoor
open Go.RowKit Go.Cof
theorem repeatL_zero (n : Nat) : Lib.repeatL [0] n = List.replicate n 0 := by
  induction n with
  | zero => rfl
  | succ n ih => rw [Lib.repeatL, ih, List.replicate_succ]; rfl
theorem repeat_any (c : Int) (n : Nat) (hc : c = n) (hn : n ≤ 1000000) (w : World) :
    Calls Tryd.prog 45 #[.string ⟨#[0]⟩, .int .i64 c] w fun e w' => e = .returned (.string (txt (List.replicate n 0))) ∧ Keep NoB w w' := by
  subst hc
  refine (Tryd.strings_Repeat ⟨#[0]⟩ n w (by omega) (by show 1 * n ≤ _; omega)).mono fun e w' ⟨he, hb⟩ => ⟨?_, Keep.ofBelow hb⟩
  rw [he]
  have e1 : (⟨#[0]⟩ : ByteArray).data.toList = [0] := rfl
  have e2 : (⟨(List.replicate n (0 : UInt8)).toArray⟩ : ByteArray) = txt (List.replicate n 0) := by rw [txt, List.map_replicate]; rfl
  rw [e1, repeatL_zero, e2]
set_option maxRecDepth 100000 in
theorem zeros_any (c : Int) (n : Nat) (hc : c = n) (hn : n ≤ 1000000) (w : World) :
    Calls Tryd.prog 93 #[.int .i64 c] w fun e w' => e = .returned (.string (txt (List.replicate n 0))) ∧ Keep NoB w w' := by
  have hr := repeat_any c n hc hn
  have Hc := Lib.hid hc
  clear hc hn
  go_enter Tryd.func93, Tryd.ntmps93
  go_wp2_with fail
  refine (hr _).mono ?_
  clear hr
  rintro e w1 ⟨rfl, K1⟩
  go_wp2_with fail
  go_ret
  exact ⟨rfl, K1⟩
end Go.Proofs.YtndcaaikjcicgaaDoor
