/-
  DERIVED. item.one: an item's line. (Under way.)
-/
import Derived.Test.YtcjilojkhmondaaDoorNum
import Derived.Test.YtcjilojkhmondaaDoorOwnRow
set_option linter.unusedVariables false
set_option linter.unusedSimpArgs false
namespace Go.Proofs.YtcjilojkhmondaaDoor
open Go.RowKit Go.Cof
structure ItemVars (w : World) : Prop where
  pow : PowVar w
  errs : NumErrs w
  max : ∃ m, w.cell? ⟨0, 0, none⟩ = some (.int .i64 m)
theorem ItemVars.keep {w w' : World} (h : ItemVars w) (hk : Keep NoB w w') : ItemVars w' := by
  obtain ⟨m, hm⟩ := h.max
  exact ⟨h.pow.keep hk (fun x => x), h.errs.keep hk (fun x => x) (fun x => x), m, (hk.cell (p := ⟨0, 0, none⟩) (Lib.lt_of_cell hm) (fun x => x)).trans hm⟩
/-- What strings.Split at a byte leaves: a row of the pieces. -/
theorem split_any (s : ByteArray) (c : UInt8) (w : World) (hs : s.size ≤ 1000000) (V : ItemVars w) :
    Calls Tryd.prog 64 #[.string s, .string ⟨#[c]⟩] w fun e w' => ∃ P : List ByteArray, P.map (·.data.toList) = pieces c s.data.toList ∧ e = .returned (.slice (some ⟨w.heap.size, 0, none⟩) P.length P.length) ∧ w'.heap[w.heap.size]? = some (.cells (P.map Value.string).toArray 9 (0, 0)) ∧ Keep NoB w w' := by
  obtain ⟨m, hm⟩ := V.max
  refine (Tryd.strings_Split s ⟨#[c]⟩ m w (by omega) hm (Nat.le_refl 1)).mono ?_
  rintro e w' ⟨rfl, rfl⟩
  have hP := splitB_pieces c s
  have hl : (Lib.splitB ⟨#[c]⟩ 0 (Lib.countB s ⟨#[c]⟩) s).length = Lib.countB s ⟨#[c]⟩ + 1 := Lib.splitB_all ⟨#[c]⟩ (Nat.le_refl 1) 0 _ s rfl
  exact ⟨_, hP, by rw [hl], heap_alloc_new w _, (Keep.refl _ _).alloc _⟩
theorem setCell_same' {w : World} {b i : Nat} {cur : Array Value} {E : TypeId} {fz : Nat × Nat} {u : Value} (h : w.heap[b]? = some (.cells cur E fz)) (hu : cur[i]? = some u) : w.setCell ⟨b, i, none⟩ u = w := by
  have hlt := lt_of_heap h
  have e : (w.heap.modify b fun o => match o with | .cells c e fr => .cells (c.setIfInBounds i u) e fr | o => o) = w.heap := by
    apply Array.ext_getElem?
    intro k
    rw [Array.getElem?_modify]
    split
    · rename_i hk
      subst hk
      rw [h]
      have : cur.setIfInBounds i u = cur := by
        apply Array.ext_getElem?
        intro j
        rw [Array.getElem?_setIfInBounds]
        split
        · rename_i hj; subst hj
          split
          · exact hu.symm
          · rename_i hn; rw [Array.getElem?_eq_none (by omega)]
        · rfl
      simp [this]
    · rfl
  show { w with heap := _ } = w
  have e2 : (w.setCell ⟨b, i, none⟩ u).heap = w.heap := e
  exact congrArg (fun hp => { w with heap := hp }) e2
theorem results_cell2 {fn : Func} {t u : Tmp} {ty : TypeId} (h : fn.results = #[.cell t ty, .tmp u]) {tmps : Array Value} {P : Program} {w : World} {a : Addr} {x : Value} (ha : tmps.getD t undef = .pointer (some a)) (hl : (loadVar ty a).run P w = .ok x w) :
    (results fn tmps).run P w = .ok (.tuple #[x, tmps.getD u undef]) w := by
  rw [Array.getD_eq_getD_getElem?] at ha
  simp [results, h, ha, asAddr, hl]
set_option maxRecDepth 100000 in
theorem one_few (s : ByteArray) (w : World) (hs : s.size ≤ 1000000) (V : ItemVars w) (hf : (pieces 32 s.data.toList).length < 3) :
    Calls Tryd.prog 67 #[.string s] w fun e w' => e = .returned (.tuple #[.agg #[.string ⟨#[]⟩, .string ⟨#[]⟩, .slice none 0 0], .bool false]) ∧ Keep NoB w w' := by
  have hsp := fun w1 (K : Keep NoB w w1) => split_any s 32 w1 hs (V.keep K)
  have Hsp := Lib.hid hsp
  clear hsp
  go_enter Tryd.func67, Tryd.ntmps67
  go_wp2_with fail
  refine (Hsp.out _ ((Keep.refl _ _).alloc _)).mono ?_
  rintro e w1 ⟨P, hP, rfl, hrow, K1⟩
  have hPl : P.length < 3 := by have := congrArg List.length hP; rw [List.length_map] at this; omega
  have h3 : (P.length : Int) < 3 := by omega
  have hz : w1.heap[w.heap.size]? = some (.cells #[.string ⟨#[]⟩, .string ⟨#[]⟩, .slice none 0 0] 34 (0, 0)) := K1.heap (heap_alloc_new w _) (fun x => x)
  have z0 : w1.cell? ⟨w.heap.size, 0, none⟩ = some (.string ⟨#[]⟩) := by rw [cell_of_row _ _ _ _ _ (0, 0) hz]; rfl
  have z1 : w1.cell? ⟨w.heap.size, 1, none⟩ = some (.string ⟨#[]⟩) := by rw [cell_of_row _ _ _ _ _ (0, 0) hz]; rfl
  have z2 : w1.cell? ⟨w.heap.size, 2, none⟩ = some (.slice none 0 0) := by rw [cell_of_row _ _ _ _ _ (0, 0) hz]; rfl
  have f0 : ∀ i, w1.frozen? ⟨w.heap.size, i, none⟩ = false := fun i => Lib.frozen_of_heap hz i
  clear hP hrow hf Hsp
  go_wp2_with fail
  have hzz : (((w1.setCell ⟨w.heap.size, 0, none⟩ (.string ⟨#[]⟩)).setCell ⟨w.heap.size, 1, none⟩ (.string ⟨#[]⟩)).setCell ⟨w.heap.size, 2, none⟩ (.slice none 0 0)) = w1 := by
    have h1 : w1.setCell ⟨w.heap.size, 0, none⟩ (.string ⟨#[]⟩) = w1 := setCell_same' hz rfl
    rw [h1, setCell_same' hz rfl, setCell_same' hz rfl]
  rw [hzz]
  refine bodyPost_ret (results_cell2 (x := .agg #[.string ⟨#[]⟩, .string ⟨#[]⟩, .slice none 0 0]) rfl rfl ?_) rfl ⟨rfl, ((Keep.refl _ _).alloc _).thenN K1⟩
  go_simp
/-- A slice's block, if it has one, is a row of ints. -/
def IntRow (w : World) (v : Value) : Prop := ∀ g, v.ownBlock = some g → ∃ cs fz, w.heap[g]? = some (.cells cs 3 fz)
def OneSaid (s : ByteArray) (w' : World) (e : Ending) : Prop := ∃ (nm tg : ByteArray) (pa : Option Addr) (na ca : Nat) (b : Bool), e = .returned (.tuple #[.agg #[.string nm, .string tg, .slice pa na ca], .bool b]) ∧ (match oneT s.data.toList with | some x => b = true ∧ nm = x.1 ∧ tg = x.2.1 ∧ Nums w' (.slice pa na ca) x.2.2 ∧ IntRow w' (.slice pa na ca) | none => b = false)
end Go.Proofs.YtcjilojkhmondaaDoor
