/-
  DERIVED. Joined texts: MapB.
-/
import Derived.Test.YtncdopmjnficmaaGreatDoorVKAC
import Derived.WideMake
import Derived.MapKept
/-! MapB -/
set_option linter.unusedVariables false
set_option linter.unusedSimpArgs false
namespace Go.Cof
open Go.RowKit
section
variable {P : Program} {w : World}
theorem run_mapUpdate_new (mty kt et : TypeId) (r clock : Nat) (b : Bool) (es : Array MapEntry) (val : Value) (hm : P.underlying mty = some (.map kt et)) (hk : P.underlying kt = some .bool) (hb : w.heap[r]? = some (.map es clock)) (hf : Instr.findNow .bool (.bool b) es.toList 0 = some none) :
    (Instr.mapUpdate mty (.map (some r)) (.bool b) val).run P w = .ok () { w with heap := w.heap.setIfInBounds r (.map (es.push { key := .bool b, val := val, born := clock }) (clock + 1)) } := by
  have hc : (Instr.checkKey false 10000 kt (.bool b)).run P w = .ok () w := MapKept.run_checkKey (k := .bool b) hk (by simp [MapKept.IsKey]) false 9999
  simp [Instr.mapUpdate, run_underlying hm, MapKept.run_getObj_map hb, hc, MapKept.run_findKey hk hf, MapKept.run_setObj_map _ hb, Result.andThen]
theorem run_lookup_bool (mty kt et : TypeId) (r clock : Nat) (b : Bool) (es : Array MapEntry) (i : Nat) (v : Value) (hm : P.underlying mty = some (.map kt et)) (hk : P.underlying kt = some .bool) (hb : w.heap[r]? = some (.map es clock)) (hf : Instr.findNow .bool (.bool b) es.toList 0 = some (some (i, v))) :
    (Instr.lookup mty (.map (some r)) (.bool b) false).run P w = .ok v w := by
  have hc : ∀ e, (Instr.checkKey e 10000 kt (.bool b)).run P w = .ok () w := fun e => MapKept.run_checkKey (k := .bool b) hk (by simp [MapKept.IsKey]) e 9999
  simp [Instr.lookup, run_underlying hm, MapKept.run_getObj_map hb, hc, MapKept.run_findKey hk hf, Result.andThen]
theorem map_lit (mty kt et : TypeId) (hm : P.underlying mty = some (.map kt et)) (hk : P.underlying kt = some .bool) (x y : Value) (w : World) :
    ∃ M2 M3, (Instr.mapUpdate mty (.map (some w.heap.size)) (.bool true) x).run P (w.alloc (.map #[] 0)) = .ok () M2 ∧ (Instr.mapUpdate mty (.map (some w.heap.size)) (.bool false) y).run P M2 = .ok () M3 ∧
      (Instr.lookup mty (.map (some w.heap.size)) (.bool true) false).run P M3 = .ok x M3 ∧ (Instr.lookup mty (.map (some w.heap.size)) (.bool false) false).run P M3 = .ok y M3 ∧ Keep NoB w M3 := by
  have h1 : (w.alloc (.map #[] 0)).heap[w.heap.size]? = some (.map #[] 0) := heap_alloc_new w _
  have r1 := run_mapUpdate_new (P := P) mty kt et w.heap.size 0 true #[] x hm hk h1 rfl
  have h2 := (MapKept.heap_set (o' := .map (#[].push { key := .bool true, val := x, born := 0 }) (0 + 1)) h1).1
  refine ⟨_, _, r1, run_mapUpdate_new (P := P) mty kt et w.heap.size 1 false _ y hm hk h2 rfl, ?_, ?_, ?_⟩
  · exact run_lookup_bool mty kt et w.heap.size 2 true _ 0 x hm hk (MapKept.heap_set h2).1 rfl
  · exact run_lookup_bool mty kt et w.heap.size 2 false _ 1 y hm hk (MapKept.heap_set h2).1 rfl
  · refine ⟨rfl, rfl, rfl, by simp, fun k hk _ => ?_⟩
    rw [(MapKept.heap_set h2).2 k (by omega), (MapKept.heap_set h1).2 k (by omega)]
    exact Below.heap_alloc w _ k hk
end
end Go.Cof
