/-
  DERIVED. Points in cells, in memory: what cells.New makes.
-/
import Derived.Test.YtcjilojkhmondaaGreatDoorCells
import Derived.Test.YtcjilojkhmondaaGreatDoorDel
set_option linter.unusedVariables false
set_option linter.unusedSimpArgs false
namespace Go.Proofs.YtcjilojkhmondaaGreatDoor
open Go.RowKit Go.Cof Go.Sort Go.Shelf
def ptrs (bs : List (Nat × Value)) : List Value := bs.map fun b => .pointer (some ⟨b.1, 0, none⟩)
structure CellsAt (w : World) (base C : Nat) (dim : Nat) (v : Value) (bs : List (Nat × Value)) (cs : List Cell) : Prop where
  head : w.heap[C]? = some (.cells #[.int .i64 dim, v] 54 (0, 0))
  row : OwnsN w base 58 1 v bs.length (ptrs bs)
  len : bs.length = cs.length
  cell : ∀ (i : Nat) (b : Nat × Value) (c : Cell), bs[i]? = some b → cs[i]? = some c → w.heap[b.1]? = some (.cells (ints8 c.1 ++ [b.2]).toArray 60 (0, 0)) ∧ c.1.length = 8 ∧ OwnsN w base 42 3 b.2 c.2.length (c.2.flatMap encItem)
  ptr : ∀ (i j : Nat) (b b' : Nat × Value), bs[i]? = some b → bs[j]? = some b' → b.1 = b'.1 → i = j
  own : ∀ (i j : Nat) (b b' : Nat × Value) (g : Nat), bs[i]? = some b → bs[j]? = some b' → b.2.ownBlock = some g → b'.2.ownBlock = some g → i = j
  low : base ≤ C ∧ ∀ b ∈ bs, base ≤ b.1
theorem setCell_heap3 {w : World} {B i : Nat} {cur : Array Value} {E : TypeId} {fz : Nat × Nat} (h : w.heap[B]? = some (.cells cur E fz)) (u : Value) : (w.setCell ⟨B, i, none⟩ u).heap[B]? = some (.cells (cur.setIfInBounds i u) E fz) := by
  have hlt := lt_of_heap h
  have h' : w.heap[B] = .cells cur E fz := by simpa [Array.getElem?_eq_getElem hlt] using h
  show (w.heap.modify B _)[B]? = _
  rw [Array.getElem?_eq_getElem (by simpa using hlt), Array.getElem_modify_self, h']
  rfl
theorem two_types {w : World} {g : Nat} {c c' : Array Value} {t t' : TypeId} {f f' : Nat × Nat} (h : w.heap[g]? = some (.cells c t f)) (h' : w.heap[g]? = some (.cells c' t' f')) : t = t' := by
  rw [h] at h'
  have := Option.some.inj h'
  simp only [Obj.cells.injEq] at this
  exact this.2.1
theorem own_type {w : World} {base : Nat} {e : TypeId} {size : Nat} {v : Value} {n : Nat} {xs : List Value} (h : OwnsN w base e size v n xs) {g : Nat} (hg : v.ownBlock = some g) : ∃ c f, w.heap[g]? = some (.cells c e f) := by
  rcases h.2 with ⟨hv, _⟩ | ⟨g', cap, cur, fz, hv, _, hh, _⟩
  · rw [hv] at hg; cases hg
  · rw [hv] at hg
    obtain rfl : g' = g := Option.some.inj hg
    exact ⟨_, _, hh⟩
section
variable {w w' W : World} {base C dim : Nat} {v v' : Value} {bs : List (Nat × Value)} {cs : List Cell}
theorem CellsAt.get (h : CellsAt w base C dim v bs cs) {i : Nat} {c : Cell} (hc : cs[i]? = some c) : ∃ b, bs[i]? = some b := by
  have := (List.getElem?_eq_some_iff.1 hc).1
  exact ⟨_, List.getElem?_eq_getElem (by rw [h.len]; exact this)⟩
theorem CellsAt.cellOf (h : CellsAt w base C dim v bs cs) {i : Nat} {b : Nat × Value} (hb : bs[i]? = some b) : ∃ c, cs[i]? = some c := by
  have := (List.getElem?_eq_some_iff.1 hb).1
  exact ⟨_, List.getElem?_eq_getElem (by rw [← h.len]; exact this)⟩
theorem CellsAt.keep (h : CellsAt w base C dim v bs cs) {S : Nat → Prop} (K : Keep S w w') (hS : ∀ b, base ≤ b → b < w.heap.size → ¬ S b) : CellsAt w' base C dim v bs cs :=
  ⟨K.heap h.head (hS C h.low.1 (lt_of_heap h.head)), h.row.keep K (fun b hb => hS b (h.row.lt b hb).1 (h.row.lt b hb).2), h.len, fun i b c hb hc => by
    have h1 := h.cell i b c hb hc
    exact ⟨K.heap h1.1 (hS b.1 (h.low.2 b (List.mem_of_getElem? hb)) (lt_of_heap h1.1)), h1.2.1, h1.2.2.keep K (fun g hg => hS g (h1.2.2.lt g hg).1 (h1.2.2.lt g hg).2)⟩, h.ptr, h.own, h.low⟩
theorem CellsAt.keepN (h : CellsAt w base C dim v bs cs) (K : Keep NoB w w') : CellsAt w' base C dim v bs cs := h.keep K (fun _ _ _ x => x)
/-- A cell more. -/
theorem CellsAt.more (h : CellsAt w base C dim v bs cs) (K : Keep NoB w W) (hb : base ≤ w.heap.size) {P : Nat} {m : List Int} (hP : w.heap.size ≤ P) (hPb : W.heap[P]? = some (.cells (ints8 m ++ [Value.slice none 0 0]).toArray 60 (0, 0))) (hm : m.length = 8)
    (own' : OwnsN w' base 58 1 v' (bs.length + 1) (ptrs bs ++ [.pointer (some ⟨P, 0, none⟩)])) (hg : W.grownBy w' v.ownBlock) :
    CellsAt (w'.setCell ⟨C, 1, none⟩ v') base C dim v' (bs ++ [(P, .slice none 0 0)]) (cs ++ [(m, [])]) ∧ Keep (fun b => base ≤ b) w (w'.setCell ⟨C, 1, none⟩ v') := by
  have hW := h.keepN K
  have ne1 : ∀ {g : Nat} {c : Array Value} {t : TypeId} {f : Nat × Nat}, W.heap[g]? = some (.cells c t f) → t ≠ 58 → w'.heap[g]? = some (.cells c t f) := by
    intro g c t f hgc ht
    rw [hg.block g (lt_of_heap hgc) (fun e => ?_)]
    · exact hgc
    · obtain ⟨c', f', hh⟩ := own_type hW.row e.symm
      exact ht (two_types hgc hh)
  have hC' := ne1 hW.head (by decide)
  have hCl := lt_of_heap hC'
  have KC : Keep (OneB C) w' (w'.setCell ⟨C, 1, none⟩ v') := (Keep.refl (OneB C) w').set1 1 v'
  have nC : ∀ {g : Nat} {c : Array Value} {t : TypeId} {f : Nat × Nat}, w'.heap[g]? = some (.cells c t f) → t ≠ 54 → g ≠ C := by
    intro g c t f h1 ht e
    subst e
    exact ht (two_types h1 hC')
  have hrow : ∀ g, v'.ownBlock = some g → ¬ OneB C g := fun g hgv hgc => by
    obtain ⟨c', f', hh⟩ := own_type own' hgv
    exact nC hh (by decide) hgc
  have hPb' := ne1 hPb (by decide)
  refine ⟨⟨?_, ?_, by rw [List.length_append, List.length_append, h.len]; rfl, ?_, ?_, ?_, ⟨h.low.1, fun b hb' => ?_⟩⟩, ?_⟩
  · have := setCell_heap3 (i := 1) hC' v'
    exact this
  · have : OwnsN w' base 58 1 v' (bs ++ [(P, Value.slice none 0 0)]).length (ptrs (bs ++ [(P, Value.slice none 0 0)])) := by
      rw [List.length_append, ptrs, List.map_append]
      exact own'
    exact this.keep KC hrow
  · intro i b c hb' hc'
    by_cases hi : i < bs.length
    · rw [List.getElem?_append_left hi] at hb'
      rw [List.getElem?_append_left (by rw [← h.len]; exact hi)] at hc'
      have h1 := hW.cell i b c hb' hc'
      refine ⟨KC.heap (ne1 h1.1 (by decide)) (nC (ne1 h1.1 (by decide)) (by decide)), h1.2.1, ?_⟩
      have h2 : OwnsN w' base 42 3 b.2 c.2.length (c.2.flatMap encItem) := by
        refine ⟨h1.2.2.1, ?_⟩
        rcases h1.2.2.2 with h3 | ⟨g, cap, cur, fz, hv, hbg, hh, r⟩
        · exact .inl h3
        · exact .inr ⟨g, cap, cur, fz, hv, hbg, ne1 hh (by decide), r⟩
      exact h2.keep KC (fun g hgv hgc => by
        obtain ⟨c', f', hh⟩ := own_type h2 hgv
        exact nC hh (by decide) hgc)
    · rw [List.getElem?_append_right (by omega)] at hb'
      rw [List.getElem?_append_right (by rw [← h.len]; omega)] at hc'
      rw [← h.len] at hc'
      obtain ⟨k, hk⟩ : ∃ k, k = i - bs.length := ⟨_, rfl⟩
      rw [← hk] at hb' hc'
      cases k with
      | succ k => simp at hb'
      | zero =>
        obtain rfl : (P, Value.slice none 0 0) = b := by simpa using hb'
        obtain rfl : (m, []) = c := by simpa using hc'
        exact ⟨KC.heap hPb' (nC hPb' (by decide)), hm, OwnsN.nil _ _ _ _⟩
  · intro i j b b' h1 h2 e
    have lt : ∀ (i : Nat) (b : Nat × Value), i < bs.length → (bs ++ [(P, Value.slice none 0 0)])[i]? = some b → bs[i]? = some b ∧ b.1 < w.heap.size := by
      intro i b hi hb
      rw [List.getElem?_append_left hi] at hb
      obtain ⟨c, hc⟩ := h.cellOf hb
      exact ⟨hb, lt_of_heap (h.cell i b c hb hc).1⟩
    have ge : ∀ (i : Nat) (b : Nat × Value), ¬ i < bs.length → (bs ++ [(P, Value.slice none 0 0)])[i]? = some b → i = bs.length ∧ b.1 = P := by
      intro i b hi hb
      have hl := (List.getElem?_eq_some_iff.1 hb).1
      rw [List.length_append, List.length_singleton] at hl
      obtain rfl : i = bs.length := by omega
      rw [List.getElem?_append_right (Nat.le_refl _), Nat.sub_self] at hb
      obtain rfl : (P, Value.slice none 0 0) = b := by simpa using hb
      exact ⟨rfl, rfl⟩
    by_cases hi : i < bs.length <;> by_cases hj : j < bs.length
    · exact h.ptr i j b b' (lt i b hi h1).1 (lt j b' hj h2).1 e
    · have := (lt i b hi h1).2; have := (ge j b' hj h2).2; omega
    · have := (lt j b' hj h2).2; have := (ge i b hi h1).2; omega
    · have := (ge i b hi h1).1; have := (ge j b' hj h2).1; omega
  · intro i j b b' g h1 h2 e1 e2
    have old : ∀ (i : Nat) (b : Nat × Value), (bs ++ [(P, Value.slice none 0 0)])[i]? = some b → b.2.ownBlock = some g → bs[i]? = some b := by
      intro i b hb hg
      by_cases hi : i < bs.length
      · rwa [List.getElem?_append_left hi] at hb
      · have hl := (List.getElem?_eq_some_iff.1 hb).1
        rw [List.length_append, List.length_singleton] at hl
        obtain rfl : i = bs.length := by omega
        rw [List.getElem?_append_right (Nat.le_refl _), Nat.sub_self] at hb
        obtain rfl : (P, Value.slice none 0 0) = b := by simpa using hb
        cases hg
    exact h.own i j b b' g (old i b h1 e1) (old j b' h2 e2) e1 e2
  · rcases List.mem_append.1 hb' with hb' | hb'
    · exact h.low.2 b hb'
    · rw [List.mem_singleton.1 hb']; exact Nat.le_trans hb hP
  · refine (K.ofN.trans (S' := fun b => base ≤ b) ?_ (fun i hi hs => hs))
    exact ((Keep.refl (fun b => base ≤ b) W).grown hg (fun k hk => .inl (hW.row.lt k hk).1)).setCell (p := ⟨C, 1, none⟩) (.inl h.low.1) v'
/-- A point more, in a cell. -/
theorem CellsAt.put (h : CellsAt w base C dim v bs cs) (K : Keep NoB w W) {k : Nat} {b : Nat × Value} {c : Cell} {x : ItemV} (hb : bs[k]? = some b) (hc : cs[k]? = some c)
    (own' : OwnsN w' base 42 3 v' (c.2.length + 1) (c.2.flatMap encItem ++ encItem x)) (hg : W.grownBy w' b.2.ownBlock) (hv : v'.ownBlock = b.2.ownBlock ∨ ∀ g, v'.ownBlock = some g → W.heap.size ≤ g) :
    CellsAt (w'.setCell ⟨b.1, 8, none⟩ v') base C dim v (bs.set k (b.1, v')) (putC cs k x) ∧ Keep (fun b => base ≤ b) w (w'.setCell ⟨b.1, 8, none⟩ v') := by
  have hW := h.keepN K
  have hbk := hW.cell k b c hb hc
  have ne1 : ∀ {g : Nat} {cc : Array Value} {t : TypeId} {f : Nat × Nat}, W.heap[g]? = some (.cells cc t f) → t ≠ 42 → w'.heap[g]? = some (.cells cc t f) := by
    intro g cc t f hgc ht
    rw [hg.block g (lt_of_heap hgc) (fun e => ?_)]
    · exact hgc
    · obtain ⟨c', f', hh⟩ := own_type hbk.2.2 e.symm
      exact ht (two_types hgc hh)
  have hB' := ne1 hbk.1 (by decide)
  have KB : Keep (OneB b.1) w' (w'.setCell ⟨b.1, 8, none⟩ v') := (Keep.refl (OneB b.1) w').set1 8 v'
  have nB : ∀ {g : Nat} {cc : Array Value} {t : TypeId} {f : Nat × Nat}, w'.heap[g]? = some (.cells cc t f) → t ≠ 60 → g ≠ b.1 := by
    intro g cc t f h1 ht e
    subst e
    exact ht (two_types h1 hB')
  have hset : ∀ (i : Nat) (b' : Nat × Value), (bs.set k (b.1, v'))[i]? = some b' → (i = k ∧ b' = (b.1, v')) ∨ (i ≠ k ∧ bs[i]? = some b') := by
    intro i b' hb'
    rw [List.getElem?_set] at hb'
    by_cases e : k = i
    · rw [if_pos e] at hb'
      split at hb'
      · exact .inl ⟨e.symm, (Option.some.inj hb').symm⟩
      · cases hb'
    · rw [if_neg e] at hb'
      exact .inr ⟨fun h => e h.symm, hb'⟩
  refine ⟨⟨KB.heap (ne1 hW.head (by decide)) (nB (ne1 hW.head (by decide)) (by decide)), ?_, by rw [List.length_set, putC, List.length_modify]; exact h.len, ?_, ?_, ?_, ⟨h.low.1, fun b' hb' => ?_⟩⟩, ?_⟩
  · have e1 : ptrs (bs.set k (b.1, v')) = ptrs bs := by
      rw [ptrs, ptrs, List.map_set]
      apply List.ext_getElem?
      intro i
      rw [List.getElem?_set]
      split
      · rename_i e
        subst e
        split
        · rw [List.getElem?_map, hb]; rfl
        · rename_i hl
          rw [List.getElem?_eq_none (by omega)]
      · rfl
    rw [List.length_set, e1]
    have h1 : OwnsN w' base 58 1 v bs.length (ptrs bs) := by
      refine ⟨hW.row.1, ?_⟩
      rcases hW.row.2 with h3 | ⟨g, cap, cur, fz, hv, hbg, hh, r⟩
      · exact .inl h3
      · exact .inr ⟨g, cap, cur, fz, hv, hbg, ne1 hh (by decide), r⟩
    exact h1.keep KB (fun g hgv hgc => by
      obtain ⟨c', f', hh⟩ := own_type h1 hgv
      exact nB hh (by decide) hgc)
  · intro i b' c' hb' hc'
    rcases hset i b' hb' with ⟨rfl, rfl⟩ | ⟨hi, hb2⟩
    · have hc2 : c' = (c.1, c.2 ++ [x]) := by
        rw [putC, List.getElem?_modify_eq, hc] at hc'
        exact (Option.some.inj hc').symm
      subst hc2
      refine ⟨?_, hbk.2.1, ?_⟩
      · have h1 := setCell_heap3 (i := 8) hB' v'
        have e : (ints8 c.1 ++ [b.2]).toArray.setIfInBounds 8 v' = (ints8 c.1 ++ [v']).toArray := by
          have hl : (ints8 c.1).length = 8 := by rw [ints8, List.length_map]; exact hbk.2.1
          rw [List.setIfInBounds_toArray, List.set_append_right _ _ (by omega), hl]
          rfl
        rwa [e] at h1
      · have h1 : OwnsN w' base 42 3 v' (c.2 ++ [x]).length ((c.2 ++ [x]).flatMap encItem) := by
          rw [List.length_append, List.flatMap_append, List.flatMap_cons, List.flatMap_nil, List.append_nil]
          exact own'
        exact h1.keep KB (fun g hgv hgc => by
          obtain ⟨c', f', hh⟩ := own_type h1 hgv
          exact nB hh (by decide) hgc)
    · have hc2 : cs[i]? = some c' := by
        rw [putC, List.getElem?_modify] at hc'
        split at hc'
        · rename_i e; exact absurd e.symm hi
        · simpa using hc'
      have h1 := hW.cell i b' c' hb2 hc2
      refine ⟨KB.heap (ne1 h1.1 (by decide)) (fun e => hi (h.ptr i k b' b hb2 hb e)), h1.2.1, ?_⟩
      have h2 : OwnsN w' base 42 3 b'.2 c'.2.length (c'.2.flatMap encItem) := by
        refine ⟨h1.2.2.1, ?_⟩
        rcases h1.2.2.2 with h3 | ⟨g, cap, cur, fz, hv2, hbg, hh, r⟩
        · exact .inl h3
        · refine .inr ⟨g, cap, cur, fz, hv2, hbg, ?_, r⟩
          rw [hg.block g (lt_of_heap hh) (fun e => hi (h.own i k b' b g hb2 hb (by rw [hv2]; rfl) e.symm))]
          exact hh
      exact h2.keep KB (fun g hgv hgc => by
        obtain ⟨c', f', hh⟩ := own_type h2 hgv
        exact nB hh (by decide) hgc)
  · intro i j b1 b2 h1 h2 e
    rcases hset i b1 h1 with ⟨rfl, rfl⟩ | ⟨hi, h1'⟩ <;> rcases hset j b2 h2 with ⟨rfl, rfl⟩ | ⟨hj, h2'⟩
    · rfl
    · exact h.ptr _ _ b b2 hb h2' e
    · exact h.ptr _ _ b1 b h1' hb e
    · exact h.ptr _ _ b1 b2 h1' h2' e
  · intro i j b1 b2 g h1 h2 e1 e2
    have new : ∀ (i : Nat) (b' : Nat × Value), bs[i]? = some b' → b'.2.ownBlock = some g → v'.ownBlock = some g → i = k := by
      intro i b' hb' e1 e2
      rcases hv with hv | hv
      · exact h.own i k b' b g hb' hb e1 (hv ▸ e2)
      · obtain ⟨c', hc'⟩ := hW.cellOf hb'
        have := ((hW.cell i b' c' hb' hc').2.2.lt g e1).2
        have := hv g e2
        omega
    rcases hset i b1 h1 with ⟨rfl, rfl⟩ | ⟨hi, h1'⟩ <;> rcases hset j b2 h2 with ⟨rfl, rfl⟩ | ⟨hj, h2'⟩
    · rfl
    · exact (new j b2 h2' e2 e1).symm
    · exact new i b1 h1' e1 e2
    · exact h.own _ _ b1 b2 g h1' h2' e1 e2
  · obtain ⟨i, hi⟩ := List.getElem?_of_mem hb'
    rcases hset i b' hi with ⟨_, rfl⟩ | ⟨_, h2⟩
    · exact h.low.2 b (List.mem_of_getElem? hb)
    · exact h.low.2 b' (List.mem_of_getElem? h2)
  · refine (K.ofN.trans (S' := fun b => base ≤ b) ?_ (fun i hi hs => hs))
    exact ((Keep.refl (fun b => base ≤ b) W).grown hg (fun k hk => .inl (hbk.2.2.lt k hk).1)).setCell (p := ⟨b.1, 8, none⟩) (.inl (h.low.2 b (List.mem_of_getElem? hb))) v'
end
end Go.Proofs.YtcjilojkhmondaaGreatDoor
