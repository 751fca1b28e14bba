/-
  DERIVED. Points that came in, opened.
-/
import Derived.Test.YtcjilojkhmondaaDoorTop
import Derived.Test.YtcjilojkhmondaaDoorRows
import Derived.WalkKit
import Derived.ProofKit
import Derived.OpenShut
import Derived.ChangeSlices
import Derived.ChangeArms
import Derived.SliceStrings
set_option linter.unusedVariables false
set_option linter.unusedSimpArgs false
namespace Go.Proofs.YtcjilojkhmondaaDoor
open Go.ChangeShapes Go.WideShapes Go.ChangeAt Go.RowKit Go.Cof
theorem cellsInt : Tryd.prog.cellsOf 3 = 1 := by kernel_rfl
theorem cellsStr : Tryd.prog.cellsOf 9 = 1 := by kernel_rfl
theorem cellsInts : Tryd.prog.cellsOf 23 = 1 := by kernel_rfl
theorem cellsItem : Tryd.prog.cellsOf 34 = 3 := by kernel_rfl
theorem add_none (b off i : Nat) : (⟨b, off, none⟩ : Addr).add i = ⟨b, off + i, none⟩ := by unfold Addr.add; split <;> simp_all
set_option maxRecDepth 100000 in
theorem open_ints1 {W : World} {H : Type} {enc : TypeId × Value → H} {cs : List Value} {fuel : Nat} {d : DataW H} {p : List MemPlace} (hf : DataW.trod enc Tryd.prog W 0 (fun _ => true) true fuel 23 cs = some (d, p)) (hlt : ∀ x ∈ p, x.block < W.heap.size) :
    ∃ v l, cs = [v] ∧ Nums W v l := by
  rcases DataW.trod_slice Tryd.underlying23 hf with ⟨rfl, hx⟩ | ⟨a, len, cap, elems, rest, n, _, rfl, hx, hb, hl, hm, hlen, hel, -, -⟩
  · exact ⟨_, [], rfl, .inl ⟨rfl, _, _, rfl⟩⟩
  · by_cases hl0 : len = 0
    · subst hl0
      exact ⟨_, [], rfl, .inl ⟨rfl, _, _, rfl⟩⟩
    · have each : ∀ i, i < len → ∃ b, W.cell? (a.add i) = some (.int .i64 b) := by
        intro i hi
        have h1 := hel i hi
        rw [List.getElem?_eq_getElem (by omega), cellsInt, Nat.mul_one, Option.bind_eq_some_iff] at h1
        obtain ⟨cs', hcs, hy⟩ := h1
        obtain ⟨b, rfl, _⟩ := DataW.trod_int Tryd.underlying3 hy
        exact ⟨b, cell_of_cells?_one hcs⟩
      obtain ⟨b, off, spot⟩ := a
      have hspot : spot = none := by
        obtain ⟨b0, h0⟩ := each 0 (by omega)
        simpa [Addr.add] using World.cell?_spot h0
      subst hspot
      simp only [Prod.mk.injEq] at hx
      obtain ⟨rfl, rfl⟩ := hx
      have hbW : b < W.heap.size := hlt (.cell b off) (List.mem_append_left _ (MemPlace.mem_row.2 ⟨0, by rw [cellsInt]; omega, by simp⟩))
      refine ⟨_, (List.range len).map (fun i => match W.cell? ⟨b, off + i, none⟩ with | some (.int _ x) => x | _ => 0), rfl, .inr ⟨b, off, cap, by simp, hbW, fun i hi => ?_⟩⟩
      have hi' : i < len := by simpa using hi
      obtain ⟨x, hx⟩ := each i hi'
      rw [add_none] at hx
      rw [hx, List.getD_eq_getElem?_getD, List.getElem?_map, List.getElem?_range hi']
      simp [hx]
set_option maxRecDepth 100000 in
theorem open_item {W : World} {H : Type} {enc : TypeId × Value → H} {cs : List Value} {fuel : Nat} {d : DataW H} {p : List MemPlace} (hf : DataW.trod enc Tryd.prog W 0 (fun _ => true) true fuel 34 cs = some (d, p)) (hlt : ∀ x ∈ p, x.block < W.heap.size) :
    ∃ o : ItemV, cs = [.string o.name, .string o.tag, o.av] ∧ Nums W o.av o.ns := by
  obtain ⟨xs, n, -, hx, hl, hxl, hfs⟩ := DataW.trod_struct Tryd.underlying34 hf
  have f0 : DataW.trod enc Tryd.prog W 0 (fun _ => true) true n 9 ((cs.drop 0).take (Tryd.prog.cellsOf 9)) = xs[0]? := hfs 0 _ rfl
  have f1 : DataW.trod enc Tryd.prog W 0 (fun _ => true) true n 9 ((cs.drop 1).take (Tryd.prog.cellsOf 9)) = xs[1]? := hfs 1 _ rfl
  have f2 : DataW.trod enc Tryd.prog W 0 (fun _ => true) true n 23 ((cs.drop 2).take (Tryd.prog.cellsOf 23)) = xs[2]? := hfs 2 _ rfl
  rw [cellsItem] at hl
  obtain ⟨c0, c1, c2, rfl⟩ : ∃ c0 c1 c2, cs = [c0, c1, c2] := by
    match cs, hl with
    | [c0, c1, c2], _ => exact ⟨c0, c1, c2, rfl⟩
  obtain ⟨x0, x1, x2, rfl⟩ : ∃ x0 x1 x2, xs = [x0, x1, x2] := by
    match xs, hxl with
    | [x0, x1, x2], _ => exact ⟨x0, x1, x2, rfl⟩
  rw [cellsStr] at f0 f1
  rw [cellsInts] at f2
  obtain ⟨s0, e0, _, _⟩ := DataW.trod_string Tryd.underlying9 f0
  obtain ⟨s1, e1, _, _⟩ := DataW.trod_string Tryd.underlying9 f1
  simp only [Prod.mk.injEq] at hx
  obtain ⟨rfl, rfl⟩ := hx
  obtain ⟨v, l, e2, B⟩ := open_ints1 f2 (fun y hy => hlt y (by simp [hy]))
  have g0 : c0 = .string s0 := by simpa using e0
  have g1 : c1 = .string s1 := by simpa using e1
  have g2 : c2 = v := by simpa using e2
  subst g0 g1 g2
  exact ⟨⟨s0, s1, c2, l⟩, rfl, B⟩
theorem cells3 {W : World} {base : Nat} {a : Addr} {x0 x1 x2 : Value} (h : W.cells? base a 3 = some [x0, x1, x2]) : W.cell? (a.add 0) = some x0 ∧ W.cell? (a.add 1) = some x1 ∧ W.cell? (a.add 2) = some x2 := by
  have h1 := (World.cells?_some h).2.2
  exact ⟨h1 0 (by omega), h1 1 (by omega), h1 2 (by omega)⟩
set_option maxRecDepth 100000 in
theorem open_items {W : World} {H : Type} {enc : TypeId × Value → H} {a : Option Addr} {len cap fuel : Nat} {d : DataW H} {p : List MemPlace} (hf : DataW.trod enc Tryd.prog W 0 (fun _ => true) true fuel 22 (Value.slice a len cap).cells.toList = some (d, p)) (hlt : ∀ x ∈ p, x.block < W.heap.size) :
    ∃ l, Items W (.slice a len cap) l ∧ l.length ≤ maxLen := by
  by_cases hl0 : len = 0
  · subst hl0
    exact ⟨[], ⟨.inl ⟨rfl, _, _, rfl⟩, fun _ h => by cases h⟩, Nat.zero_le _⟩
  · rcases DataW.trod_slice Tryd.underlying22 hf with ⟨hcs, hx⟩ | ⟨a, len', cap', elems, rest, n, _, hcs, hx, hb, hl, hm, hlen, hel, -, -⟩
    · simp [Value.cells] at hcs
      omega
    · simp [Value.cells] at hcs
      obtain ⟨rfl, rfl, rfl⟩ := hcs
      simp only [Prod.mk.injEq] at hx
      obtain ⟨rfl, rfl⟩ := hx
      have each : ∀ i, i < len → ∃ o : ItemV, (W.cell? (a.add (i * 3 + 0)) = some (.string o.name) ∧ W.cell? (a.add (i * 3 + 1)) = some (.string o.tag) ∧ W.cell? (a.add (i * 3 + 2)) = some o.av) ∧ Nums W o.av o.ns := by
        intro i hi
        have h1 := hel i hi
        have hei : elems[i]? = some (elems[i]'(by omega)) := List.getElem?_eq_getElem (by omega)
        rw [hei, cellsItem, Option.bind_eq_some_iff] at h1
        obtain ⟨cs', hcs, hy⟩ := h1
        obtain ⟨o, rfl, B⟩ := open_item hy (fun y hy => hlt y (List.mem_append_right _ (List.mem_flatMap.2 ⟨_, List.mem_append_left _ (List.getElem_mem (by omega)), hy⟩)))
        have h3 := cells3 hcs
        simp only [Addr.add_add] at h3
        exact ⟨o, h3, B⟩
      obtain ⟨b, off, spot⟩ := a
      have hspot : spot = none := by
        obtain ⟨o, ⟨h0, _⟩, _⟩ := each 0 (by omega)
        simpa [Addr.add] using World.cell?_spot h0
      subst hspot
      have hbW : b < W.heap.size := hlt (.cell b off) (List.mem_append_left _ (MemPlace.mem_row.2 ⟨0, by rw [cellsItem]; omega, by simp⟩))
      have key : ∃ l : List ItemV, l.length = len ∧ ∀ i o, l[i]? = some o → W.rangeAt b (off + i * 3) (encItem o) ∧ Nums W o.av o.ns := by
        have hch : ∀ i : Fin len, ∃ o : ItemV, W.rangeAt b (off + i.1 * 3) (encItem o) ∧ Nums W o.av o.ns := fun i => by
          obtain ⟨o, ⟨h0, h1, h2⟩, B⟩ := each i.1 i.2
          rw [add_none] at h0 h1 h2
          refine ⟨o, ?_, B⟩
          intro j u hu
          match j, hu with
          | 0, hu => cases hu; simpa using h0
          | 1, hu => cases hu; rw [Nat.add_assoc]; exact h1
          | 2, hu => cases hu; rw [Nat.add_assoc]; exact h2
          | j + 3, hu => simp [encItem] at hu
        refine ⟨List.ofFn fun i => (hch i).choose, by simp, fun i o hio => ?_⟩
        rw [List.getElem?_ofFn] at hio
        split at hio
        · rename_i hi
          cases hio
          exact (hch ⟨i, hi⟩).choose_spec
        · cases hio
      obtain ⟨l, rfl, hall⟩ := key
      refine ⟨l, ⟨.inr ⟨b, off, cap, rfl, hbW, fun i x hi => (hall i x hi).1⟩, fun x hx => ?_⟩, by omega⟩
      obtain ⟨i, hi, rfl⟩ := List.getElem_of_mem hx
      exact (hall i _ (List.getElem?_eq_getElem hi)).2
theorem open_numbers {W : World} {H : Type} {enc : TypeId × Value → H} {a : Option Addr} {len cap fuel : Nat} {d : DataW H} {p : List MemPlace} (hf : DataW.trod enc Tryd.prog W 0 (fun _ => true) true fuel 23 (Value.slice a len cap).cells.toList = some (d, p)) (hlt : ∀ x ∈ p, x.block < W.heap.size) :
    ∃ l, Nums W (.slice a len cap) l ∧ l.length ≤ maxLen := by
  obtain ⟨v, l, hv, N⟩ := open_ints1 hf hlt
  have hv' : v = .slice a len cap := by simpa [Value.cells] using hv.symm
  subst hv'
  refine ⟨l, N, ?_⟩
  obtain ⟨p', c', h⟩ := N.len
  cases h
  rcases DataW.trod_slice Tryd.underlying23 hf with ⟨hcs, hx⟩ | ⟨a, len', cap', elems, rest, n, _, hcs, hx, hb, hl, hm, hlen, hel, -, -⟩
  · simp [Value.cells] at hcs
    first | (rw [hcs.2.1]; exact Nat.zero_le _) | (simp [hcs])
  · simp [Value.cells] at hcs
    omega
end Go.Proofs.YtcjilojkhmondaaDoor
