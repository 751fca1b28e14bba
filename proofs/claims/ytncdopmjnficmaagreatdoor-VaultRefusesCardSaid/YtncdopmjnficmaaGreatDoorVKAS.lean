/-
  DERIVED. Joined texts: OpenLists.
-/
import Derived.Test.YtncdopmjnficmaaGreatDoorVKAC
import Derived.Test.YtncdopmjnficmaaGreatDoorVKAH
import Derived.Test.YtncdopmjnficmaaGreatDoorRows
import Derived.WalkKit
import Derived.ProofKit
import Derived.OpenShut
import Derived.ChangeSlices
import Derived.ChangeArms
import Derived.SliceStrings
/-! OpenLists -/
set_option linter.unusedVariables false
set_option linter.unusedSimpArgs false
namespace Go.Proofs.YtncdopmjnficmaaGreatDoor
open Go.ChangeShapes Go.WideShapes Go.ChangeAt Go.RowKit Go.Cof
theorem cellsStr : Tryz.prog.cellsOf 9 = 1 := by kernel_rfl
theorem cellsStrs : Tryz.prog.cellsOf 23 = 1 := by kernel_rfl
theorem cellsBool : Tryz.prog.cellsOf 4 = 1 := by kernel_rfl
theorem add_none (b off i : Nat) : (⟨b, off, none⟩ : Addr).add i = ⟨b, off + i, none⟩ := by unfold Addr.add; split <;> simp_all
set_option maxRecDepth 100000 in
theorem open_strs1 {W : World} {H : Type} {enc : TypeId × Value → H} {cs : List Value} {fuel : Nat} {d : DataW H} {p : List MemPlace} (hf : DataW.trod enc Tryz.prog W 0 (fun _ => true) true fuel 23 cs = some (d, p)) (hlt : ∀ x ∈ p, x.block < W.heap.size) :
    ∃ v l, cs = [v] ∧ Strs W v l ∧ l.length ≤ maxLen := by
  rcases DataW.trod_slice Tryz.underlying23 hf with ⟨rfl, hx⟩ | ⟨a, len, cap, elems, rest, n, _, rfl, hx, hb, hl, hm, hlen, hel, -, -⟩
  · exact ⟨_, [], rfl, .inl ⟨rfl, _, _, rfl⟩, Nat.zero_le _⟩
  · by_cases hl0 : len = 0
    · subst hl0
      exact ⟨_, [], rfl, .inl ⟨rfl, _, _, rfl⟩, Nat.zero_le _⟩
    · have each : ∀ i, i < len → ∃ b, W.cell? (a.add i) = some (.string b) := by
        intro i hi
        have h1 := hel i hi
        rw [List.getElem?_eq_getElem (by omega), cellsStr, Nat.mul_one, Option.bind_eq_some_iff] at h1
        obtain ⟨cs', hcs, hy⟩ := h1
        obtain ⟨b, rfl, _⟩ := DataW.trod_string Tryz.underlying9 hy
        exact ⟨b, cell_of_cells?_one hcs⟩
      obtain ⟨b, off, spot⟩ := a
      have hspot : spot = none := by
        obtain ⟨b0, h0⟩ := each 0 (by omega)
        simpa [Addr.add] using World.cell?_spot h0
      subst hspot
      simp only [Prod.mk.injEq] at hx
      obtain ⟨rfl, rfl⟩ := hx
      have hbW : b < W.heap.size := hlt (.cell b off) (List.mem_append_left _ (MemPlace.mem_row.2 ⟨0, by rw [cellsStr]; omega, by simp⟩))
      refine ⟨_, (List.range len).map (fun i => match W.cell? ⟨b, off + i, none⟩ with | some (.string x) => x | _ => ⟨#[]⟩), rfl, .inr ⟨b, off, cap, by simp, hbW, fun i hi => ?_⟩, by simp; omega⟩
      have hi' : i < len := by simpa using hi
      obtain ⟨x, hx⟩ := each i hi'
      rw [add_none] at hx
      rw [hx, List.getD_eq_getElem?_getD, List.getElem?_map, List.getElem?_range hi']
      simp [hx]
set_option maxRecDepth 100000 in
theorem open_lists {W : World} {H : Type} {enc : TypeId × Value → H} {a : Option Addr} {len cap fuel : Nat} {d : DataW H} {p : List MemPlace} (hf : DataW.trod enc Tryz.prog W 0 (fun _ => true) true fuel 22 (Value.slice a len cap).cells.toList = some (d, p)) (hlt : ∀ x ∈ p, x.block < W.heap.size) :
    ∃ vs L, Lists W (.slice a len cap) vs L ∧ ∀ l ∈ L, l.length ≤ maxLen := by
  by_cases hl0 : len = 0
  · subst hl0
    exact ⟨[], [], ⟨.inl ⟨rfl, _, _, rfl⟩, fun i hi => by simp at hi⟩, fun l hl => by cases hl⟩
  · rcases DataW.trod_slice Tryz.underlying22 hf with ⟨hcs, hx⟩ | ⟨a, len', cap', elems, rest, n, _, hcs, hx, hb, hl, hm, hlen, hel, -, -⟩
    · simp [Value.cells] at hcs
      omega
    · simp [Value.cells] at hcs
      obtain ⟨rfl, rfl, rfl⟩ := hcs
      simp only [Prod.mk.injEq] at hx
      obtain ⟨rfl, rfl⟩ := hx
      have each : ∀ i, i < len → ∃ (o : Value × List ByteArray), W.cell? (a.add i) = some o.1 ∧ Strs W o.1 o.2 ∧ o.2.length ≤ maxLen := by
        intro i hi
        have h1 := hel i hi
        have hei : elems[i]? = some (elems[i]'(by omega)) := List.getElem?_eq_getElem (by omega)
        rw [hei, cellsStrs, Nat.mul_one, Option.bind_eq_some_iff] at h1
        obtain ⟨cs', hcs, hy⟩ := h1
        obtain ⟨v, l, rfl, B, hl⟩ := open_strs1 hy (fun y hy => hlt y (List.mem_append_right _ (List.mem_flatMap.2 ⟨_, List.mem_append_left _ (List.getElem_mem (by omega)), hy⟩)))
        exact ⟨(v, l), cell_of_cells?_one hcs, B, hl⟩
      obtain ⟨b, off, spot⟩ := a
      have hspot : spot = none := by
        obtain ⟨o, h0, _⟩ := each 0 (by omega)
        simpa [Addr.add] using World.cell?_spot h0
      subst hspot
      have hbW : b < W.heap.size := hlt (.cell b off) (List.mem_append_left _ (MemPlace.mem_row.2 ⟨0, by rw [cellsStrs]; omega, by simp⟩))
      have hch : ∀ i : Fin len, ∃ o : Value × List ByteArray, W.cell? ⟨b, off + i.1, none⟩ = some o.1 ∧ Strs W o.1 o.2 ∧ o.2.length ≤ maxLen := fun i => by
        obtain ⟨o, h0, B⟩ := each i.1 i.2
        rw [add_none] at h0
        exact ⟨o, h0, B⟩
      have hat : ∀ i (hi : i < len), (List.ofFn fun i => (hch i).choose.1).getD i nilL = (hch ⟨i, hi⟩).choose.1 ∧ (List.ofFn fun i => (hch i).choose.2).getD i [] = (hch ⟨i, hi⟩).choose.2 := fun i hi => by
        constructor <;> rw [List.getD_eq_getElem?_getD, List.getElem?_ofFn, dif_pos hi] <;> rfl
      refine ⟨List.ofFn fun i => (hch i).choose.1, List.ofFn fun i => (hch i).choose.2, ⟨.inr ⟨b, off, cap, by simp, hbW, fun i hi => ?_⟩, fun i hi => ?_⟩, fun l hl => ?_⟩
      · have hi' : i < len := by simpa using hi
        rw [(hat i hi').1]; exact (hch ⟨i, hi'⟩).choose_spec.1
      · have hi' : i < len := by simpa using hi
        rw [(hat i hi').1, (hat i hi').2]; exact (hch ⟨i, hi'⟩).choose_spec.2.1
      · obtain ⟨i, rfl⟩ := List.mem_ofFn.1 hl
        exact (hch i).choose_spec.2.2
theorem open_texts {W : World} {H : Type} {enc : TypeId × Value → H} {a : Option Addr} {len cap fuel : Nat} {d : DataW H} {p : List MemPlace} (hf : DataW.trod enc Tryz.prog W 0 (fun _ => true) true fuel 23 (Value.slice a len cap).cells.toList = some (d, p)) (hlt : ∀ x ∈ p, x.block < W.heap.size) :
    ∃ l, Strs W (.slice a len cap) l ∧ l.length ≤ maxLen := by
  obtain ⟨v, l, hv, N, hl⟩ := open_strs1 hf hlt
  have hv' : v = .slice a len cap := by simpa [Value.cells] using hv.symm
  subst hv'
  exact ⟨l, N, hl⟩
end Go.Proofs.YtncdopmjnficmaaGreatDoor
