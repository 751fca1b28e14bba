/-
  DERIVED. near.Top and Cells.Top, whether it may be asked or not.
-/
import Derived.Test.YtcjilojkhmondaaGreatDoorCellsTop
import Derived.Test.YtcjilojkhmondaaGreatDoorTell
set_option linter.unusedVariables false
set_option linter.unusedSimpArgs false
namespace Go.Proofs.YtcjilojkhmondaaGreatDoor
open Go.RowKit Go.Cof Go.Sort Go.Shelf
def askK (b : Bool) : Int := if b then 0 else 1
def askL (b : Bool) (T : List FoundV) : List FoundV := if b then T else []
theorem rowsK_nil (w : World) (p : Option Addr) (c : Nat) : RowsK w (.slice p 0 c) 2 encF ([] : List FoundV) := .inl ⟨rfl, p, c, rfl⟩
theorem nearTop_both (b : Bool) (dim : Int) (v : Value) (l : List ItemV) (va : Value) (at_ : List Int) (k : Int) (tag : ByteArray) (hb : askB dim at_ k = b) (w : World) (I : Items w v l) (N : Nums w va at_) (hl : l.length ≤ 1000) (ha : at_.length ≤ 1000000) (hns : ∀ x ∈ l, x.ns.length ≤ 1000000) :
    Calls Tryz.prog 7 #[.int .i64 dim, v, va, .int .i64 k, .string tag] w fun e w' => ∃ v', e = .returned (.tuple #[v', errVal (askK b)]) ∧ RowsK w' v' 2 encF (askL b (topV l at_ k tag)) ∧ Keep NoB w w' := by
  cases b with
  | true =>
    refine (top_yes dim v l va at_ k tag w I N hl ha hns hb).mono ?_
    rintro e w' ⟨v', rfl, h1, -, h2⟩
    exact ⟨v', rfl, h1, h2⟩
  | false =>
    refine (top_no dim v va at_ k tag w N ha hb).mono ?_
    rintro e w' ⟨rfl, rfl⟩
    exact ⟨_, rfl, rowsK_nil _ _ _, Keep.refl _ _⟩
theorem numsOk_of {l : List Int} (h : l.any farB = false) : numOk l := by
  intro n hn
  rw [List.any_eq_false] at h
  have := h n hn
  simp only [farB, Bool.or_eq_true, decide_eq_true_eq, not_or] at this
  omega
theorem asks_ok {dim : Nat} {at_ : List Int} {k : Int} (h : askB dim at_ k = true) : numOk at_ ∧ at_.length = dim := by
  simp only [askB, Bool.and_eq_true, decide_eq_true_eq, Bool.not_eq_true'] at h
  exact ⟨numsOk_of h.1.1.2, by omega⟩
theorem item_ok {x : ItemV} {dim : Nat} (h : itemB x dim = true) : numOk x.ns ∧ x.ns.length = dim := by
  simp only [itemB, Bool.and_eq_true, decide_eq_true_eq, Bool.not_eq_true'] at h
  exact ⟨numsOk_of h.2, by have := h.1.2; omega⟩
theorem cellsTop_both (b : Bool) (dim : Nat) (hd : dim ≤ 8) (cb : Nat) (cv : Value) (bs : List (Nat × Value)) (l : List ItemV) (va : Value) (at_ : List Int) (k : Int) (tag : ByteArray) (base : Nat) (hb : askB dim at_ k = b) (w : World) (H : CellsAt w base cb dim cv bs (cellsL l)) (N : Nums w va at_) (hnum : ∀ x ∈ l, Nums w x.av x.ns) (hl : l.length ≤ 1000) (ha : at_.length ≤ 1000000) (hR : ∀ x ∈ l, numOk x.ns ∧ x.ns.length = dim) :
    Calls Tryz.prog 9 #[.pointer (some ⟨cb, 0, none⟩), va, .int .i64 k, .string tag] w fun e w' => ∃ (v' : Value) (looked : Nat), e = .returned (.tuple #[v', .int .i64 looked, errVal (askK b)]) ∧ RowsK w' v' 2 encF (askL b (topV l at_ k tag)) ∧ looked ≤ l.length ∧ Keep NoB w w' := by
  cases b with
  | true =>
    have hok := asks_ok hb
    refine (cellsTop_yes cb dim cv va bs (cellsL l) l at_ k tag base w H (cellsL_ok l) ⟨hok.1, hok.2, hd, hR⟩ N hnum hl hb).mono ?_
    rintro e w' ⟨v', n, rfl, h1, h2, h3⟩
    exact ⟨v', n, rfl, h1, h2, h3⟩
  | false =>
    refine (cellsTop_no cb dim cv va at_ k tag w H.head N ha hb).mono ?_
    rintro e w' ⟨rfl, rfl⟩
    exact ⟨_, 0, rfl, rowsK_nil _ _ _, Nat.zero_le _, Keep.refl _ _⟩
end Go.Proofs.YtcjilojkhmondaaGreatDoor
