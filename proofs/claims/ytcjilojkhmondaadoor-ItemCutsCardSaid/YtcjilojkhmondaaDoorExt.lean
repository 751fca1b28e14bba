/-
  DERIVED. A region that draws its order whose calls make memory of their own: the class of worlds that are w but for new blocks and draws.
-/
import Derived.Test.YtcjilojkhmondaaDoorFree
import Derived.Deep.QuietTactic
set_option linter.unusedVariables false
set_option linter.unusedSimpArgs false
namespace Go.Cof
open Go.RowKit
instance (w : World) : Nonempty (Ext w) := ⟨⟨w, Keep.refl _ _⟩⟩
section
variable {P : Program}
theorem ext_class {α : Sort _} {w : World} (f : World → α → Prop) (a : α) : (∀ w', (∃ x : Ext w, w' = w.ext x) → f w' a) = (∀ x : Ext w, f (w.ext x) a) :=
  propext ⟨fun h x => h _ ⟨x, rfl⟩, fun h _ ⟨x, e⟩ => e ▸ h x⟩
/-- The first n operations in the order of the text, then, from whatever world of the class, the tail. -/
theorem wp_region_qt_ext {id : Nat} {Q : Exit → Act → World → Prop} {a : Act} {w : World} {l : List Oper} (n : Nat) (hm : P.follows .mixedOrders = true) (hB : Region.lexTailB .any l.toArray n = true)
    (h : wpQuiet P l.toArray (fun w' => ∃ x : Ext w, w' = w.ext x) (fun a' => ∀ x : Ext w, wpList P l.toArray Q (l.drop n) a' (w.ext x)) (l.take n) a) : (Code.region id l.toArray true).wp P Q a w := by
  refine wp_region_qt (fun w' => ∃ x : Ext w, w' = w.ext x) n hm hB ⟨⟨_, (Keep.refl NoB w).drew⟩, rfl⟩ ?_
  have : (fun a' => ∀ w', (∃ x : Ext w, w' = w.ext x) → wpList P l.toArray Q (l.drop n) a' w') = (fun a' => ∀ x : Ext w, wpList P l.toArray Q (l.drop n) a' (w.ext x)) :=
    funext fun a' => ext_class (fun w' a' => wpList P l.toArray Q (l.drop n) a' w') a'
  rwa [this]
/-- The same, where all is quiet. -/
theorem wp_region_q_ext {id : Nat} {Q : Exit → Act → World → Prop} {a : Act} {w : World} {l : List Oper} (hm : P.follows .mixedOrders = true) (hB : Region.lexB .any l.toArray = true)
    (h : wpQuiet P l.toArray (fun w' => ∃ x : Ext w, w' = w.ext x) (fun a' => ∀ x : Ext w, Q .normal a' (w.ext x)) l a) : (Code.region id l.toArray true).wp P Q a w := by
  refine wp_region_q (fun w' => ∃ x : Ext w, w' = w.ext x) hm hB ⟨⟨_, (Keep.refl NoB w).drew⟩, rfl⟩ ?_
  have : (fun a' => ∀ w', (∃ x : Ext w, w' = w.ext x) → Q .normal a' w') = (fun a' => ∀ x : Ext w, Q .normal a' (w.ext x)) :=
    funext fun a' => ext_class (fun w' a' => Q .normal a' w') a'
  rwa [this]
/-- A call's contract, within the class. -/
theorem quiet_ext {f : FuncId} {args : Array Value} {w : World} {v : Value} (x : Ext w) (h : Calls P f args (w.ext x) fun e w' => e = .returned v ∧ Keep NoB (w.ext x) w') :
    Calls P f args (w.ext x) fun e w'' => e = .returned v ∧ ∃ y : Ext w, w'' = w.ext y :=
  h.mono fun _ _ ⟨he, hk⟩ => ⟨he, ext_of ((ext_keep w x).thenN hk)⟩
theorem quiet_ext_same {f : FuncId} {args : Array Value} {w : World} {v : Value} (x : Ext w) (h : Calls P f args (w.ext x) fun e w' => e = .returned v ∧ w' = w.ext x) :
    Calls P f args (w.ext x) fun e w'' => e = .returned v ∧ ∃ y : Ext w, w'' = w.ext y :=
  h.mono fun _ _ ⟨he, hk⟩ => ⟨he, x, hk⟩
end
end Go.Cof
