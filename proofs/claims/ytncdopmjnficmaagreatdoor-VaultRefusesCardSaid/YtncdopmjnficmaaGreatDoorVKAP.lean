/-
  DERIVED. Joined texts: OpenMap.
-/
import Derived.Test.YtncdopmjnficmaaGreatDoorVKAG
import Derived.Test.YtncdopmjnficmaaGreatDoorRows
import Derived.WalkKit
import Derived.ProofKit
import Derived.OpenShut
import Derived.ChangeSlices
import Derived.Maps.StringElems
import Derived.Maps.OwnSet
/-! OpenMap -/
set_option linter.unusedVariables false
set_option linter.unusedSimpArgs false
namespace Go.Proofs.YtncdopmjnficmaaGreatDoor
open Go.ChangeShapes Go.WideShapes Go.ChangeAt Go.RowKit Go.Cof Go.WideElems
theorem dec_list : ∀ l : List (Lit × DataW Unit), (∀ p ∈ l, ∃ e : Entry, encE e = p) → ∃ M : List Entry, M.map encE = l
  | [], _ => ⟨[], rfl⟩
  | p :: l, h => by
    obtain ⟨e, he⟩ := h p (List.mem_cons_self ..)
    obtain ⟨M, hM⟩ := dec_list l fun q hq => h q (List.mem_cons_of_mem _ hq)
    exact ⟨e :: M, by rw [List.map_cons, he, hM]⟩
set_option maxRecDepth 100000 in
theorem open_mapI {W : World} {H : Type} {enc : TypeId × Value → H} {mo : Option Nat} {fuel : Nat} {d : DataW H} {p : List MemPlace} (hf : DataW.trod enc Tryz.prog W 0 (fun _ => true) true fuel 31 (Value.map mo).cells.toList = some (d, p)) :
    ∃ nm M, MapO W mo nm M := by
  rcases WideElems.open_map Tryz.underlying31 hf with ⟨hcs, hx⟩ | ⟨bm, es, clock, m, rfl, hcs, hb, _, F, hx⟩
  · simp [Value.cells] at hcs
    subst hcs
    exact ⟨0, [], rfl⟩
  · simp [Value.cells] at hcs
    subst hcs
    have hrd : ∀ x ∈ es.toList, ∃ (k : Int) (s : ByteArray), rd Tryz.prog 3 (plainElem (H := Unit) Tryz.prog 9) x = some (.int .i64 k, .lit (.string s.data.toList)) := fun x hx => by
      obtain ⟨y, hy⟩ := F.reads x hx
      have hk := rd_key hy
      obtain ⟨z, hz, _⟩ := rd_val hy
      have hp := elemAt_plainElem_string Tryz.underlying9 hz
      obtain ⟨k, _, hkl, _⟩ := Maps.keyOf_int_inv Tryz.underlying3 hk
      obtain ⟨s, hs, hsz⟩ : ∃ s : ByteArray, x.val = .string s ∧ s.size ≤ maxLen := by
        have hu := Tryz.underlying9
        unfold plainElem at hp
        rw [hu] at hp
        cases hv : x.val with
        | string s =>
          rw [hv] at hp
          simp only at hp
          split at hp
          · rename_i h; exact ⟨s, rfl, h⟩
          · cases hp
        | _ => rw [hv] at hp; simp at hp
      refine ⟨k, s, ?_⟩
      unfold rd
      rw [hk, hkl, hs, plainElem_string Tryz.underlying9 hsz]
      rfl
    have F' : Fit Tryz.prog 3 (plainElem (H := Unit) Tryz.prog 9) es clock := ⟨F.size, F.stamped, fun x hx => by
      obtain ⟨k, s, h⟩ := hrd x hx
      exact ⟨_, h⟩⟩
    obtain ⟨M, hM⟩ := dec_list ((es.toList.map (rg Tryz.prog 3 (plainElem (H := Unit) Tryz.prog 9))).foldr DataW.insert []) fun q hq => by
      have h1 := Go.mem_sorted.1 hq
      obtain ⟨x, hx, rfl⟩ := List.mem_map.1 h1
      obtain ⟨k, s, h⟩ := hrd x hx
      exact ⟨(k, s), by rw [rg_of h]; rfl⟩
    refine ⟨es.size, M, es, clock, hb, F', Nat.le_refl _, ?_⟩
    rw [encM, hM]
end Go.Proofs.YtncdopmjnficmaaGreatDoor
