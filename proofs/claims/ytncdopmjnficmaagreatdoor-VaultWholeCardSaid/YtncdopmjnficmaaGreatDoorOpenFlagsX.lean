/-
  DERIVED. Flags that came in, opened.
-/
import Derived.Test.YtncdopmjnficmaaGreatDoorVJAR
import Derived.Test.YtncdopmjnficmaaGreatDoorVJAL
set_option linter.unusedVariables false
set_option linter.unusedSimpArgs false
namespace Go.Proofs.YtncdopmjnficmaaGreatDoor
open Go.ChangeShapes Go.WideShapes Go.ChangeAt Go.RowKit Go.Cof
set_option maxRecDepth 100000 in
theorem open_flags1 {W : World} {H : Type} {enc : TypeId × Value → H} {cs : List Value} {fuel : Nat} {d : DataW H} {p : List MemPlace} (hf : DataW.trod enc Tryz.prog W 0 (fun _ => true) true fuel 52 cs = some (d, p)) (hlt : ∀ x ∈ p, x.block < W.heap.size) :
    ∃ v l, cs = [v] ∧ Bools W v l ∧ l.length ≤ maxLen := by
  rcases DataW.trod_slice Tryz.underlying52 hf with ⟨rfl, hx⟩ | ⟨a, len, cap, elems, rest, n, _, rfl, hx, hb, hl, hm, hlen, hel, -, -⟩
  · exact ⟨_, [], rfl, .inl ⟨rfl, _, _, rfl⟩, Nat.zero_le _⟩
  · by_cases hl0 : len = 0
    · subst hl0
      exact ⟨_, [], rfl, .inl ⟨rfl, _, _, rfl⟩, Nat.zero_le _⟩
    · have each : ∀ i, i < len → ∃ b, W.cell? (a.add i) = some (.bool b) := by
        intro i hi
        have h1 := hel i hi
        rw [List.getElem?_eq_getElem (by omega), cellsBool, Nat.mul_one, Option.bind_eq_some_iff] at h1
        obtain ⟨cs', hcs, hy⟩ := h1
        obtain ⟨b, rfl, _⟩ := DataW.trod_bool Tryz.underlying4 hy
        exact ⟨b, cell_of_cells?_one hcs⟩
      obtain ⟨b, off, spot⟩ := a
      have hspot : spot = none := by
        obtain ⟨b0, h0⟩ := each 0 (by omega)
        simpa [Addr.add] using World.cell?_spot h0
      subst hspot
      simp only [Prod.mk.injEq] at hx
      obtain ⟨rfl, rfl⟩ := hx
      have hbW : b < W.heap.size := hlt (.cell b off) (List.mem_append_left _ (MemPlace.mem_row.2 ⟨0, by rw [cellsBool]; omega, by simp⟩))
      refine ⟨_, (List.range len).map (fun i => match W.cell? ⟨b, off + i, none⟩ with | some (.bool x) => x | _ => false), rfl, .inr ⟨b, off, cap, by simp, hbW, fun i hi => ?_⟩, by simp; omega⟩
      have hi' : i < len := by simpa using hi
      obtain ⟨x, hx⟩ := each i hi'
      rw [add_none] at hx
      rw [hx, List.getD_eq_getElem?_getD, List.getElem?_map, List.getElem?_range hi']
      simp [hx]
theorem open_flags {W : World} {H : Type} {enc : TypeId × Value → H} {a : Option Addr} {len cap fuel : Nat} {d : DataW H} {p : List MemPlace} (hf : DataW.trod enc Tryz.prog W 0 (fun _ => true) true fuel 52 (Value.slice a len cap).cells.toList = some (d, p)) (hlt : ∀ x ∈ p, x.block < W.heap.size) :
    ∃ l, Bools W (.slice a len cap) l ∧ l.length ≤ maxLen := by
  obtain ⟨v, l, hv, N, hl⟩ := open_flags1 hf hlt
  have hv' : v = .slice a len cap := by simpa [Value.cells] using hv.symm
  subst hv'
  exact ⟨l, N, hl⟩
end Go.Proofs.YtncdopmjnficmaaGreatDoor
