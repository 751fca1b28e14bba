/-
  DERIVED. What is found cell by cell, in plain Lean: cells in the order of how far they are at least; where it may stop.
-/
import Derived.Test.YtcjilojkhmondaaGreatDoorCells3
set_option linter.unusedVariables false
set_option linter.unusedSimpArgs false
namespace Go.Cof
open Go.RowKit Go.Sort Go.Shelf
open Go.Proofs (ltOf)
theorem addAt (b i : Nat) : (⟨b, 0, none⟩ : Addr).add i = ⟨b, i, none⟩ := by unfold Addr.add; split <;> simp_all
/-- Cells' blocks lie apart. -/
def Apart (bs : List (Nat × Value)) : Prop := ∀ (i j : Nat) (b b' : Nat × Value), bs[i]? = some b → bs[j]? = some b' → b.1 = b'.1 → i = j
def farOf (cs : List Cell) (bs : List (Nat × Value)) (at_ : List Int) (dim : Nat) : List FarV := (cs.zip bs).map fun p => (leastK p.1.1 at_ dim, p.2.1)
def blockItems (cs : List Cell) (bs : List (Nat × Value)) (P : Nat) : List ItemV := match (cs.zip bs).find? fun p => decide (p.2.1 = P) with
  | some p => p.1.2
  | none => []
section
variable {cs : List Cell} {bs : List (Nat × Value)} {l : List ItemV} {at_ : List Int} {dim : Nat}
theorem blockItems_at (ha : Apart bs) {i : Nat} {b : Nat × Value} {c : Cell} (hb : bs[i]? = some b) (hc : cs[i]? = some c) : blockItems cs bs b.1 = c.2 := by
  have hz : (cs.zip bs)[i]? = some (c, b) := by rw [List.getElem?_zip_eq_some]; exact ⟨hc, hb⟩
  unfold blockItems
  cases hf : (cs.zip bs).find? fun p => decide (p.2.1 = b.1) with
  | none =>
    rw [List.find?_eq_none] at hf
    exact absurd (decide_eq_true (rfl : b.1 = b.1)) (hf (c, b) (List.mem_of_getElem? hz))
  | some p =>
    have hp := List.find?_some hf
    have hm := List.mem_of_find?_eq_some hf
    obtain ⟨j, hj⟩ := List.getElem?_of_mem hm
    obtain ⟨pc, pb⟩ := p
    rw [List.getElem?_zip_eq_some] at hj
    have := ha j i pb b hj.2 hb (of_decide_eq_true hp)
    subst this
    rw [hc] at hj
    obtain rfl : c = pc := Option.some.inj hj.1
    rfl
theorem far_len (hl : bs.length = cs.length) : (farOf cs bs at_ dim).length = cs.length := by
  rw [farOf, List.length_map, List.length_zip]; omega
theorem far_get {i : Nat} {b : Nat × Value} {c : Cell} (hb : bs[i]? = some b) (hc : cs[i]? = some c) : (farOf cs bs at_ dim)[i]? = some (leastK c.1 at_ dim, b.1) := by
  have hz : (cs.zip bs)[i]? = some (c, b) := by rw [List.getElem?_zip_eq_some]; exact ⟨hc, hb⟩
  rw [farOf, List.getElem?_map, hz]
  rfl
theorem far_mem {e : FarV} (he : e ∈ farOf cs bs at_ dim) : ∃ (i : Nat) (b : Nat × Value) (c : Cell), bs[i]? = some b ∧ cs[i]? = some c ∧ e = (leastK c.1 at_ dim, b.1) := by
  obtain ⟨⟨c, b⟩, hm, rfl⟩ := List.mem_map.1 he
  obtain ⟨i, hi⟩ := List.getElem?_of_mem hm
  rw [List.getElem?_zip_eq_some] at hi
  exact ⟨i, b, c, hi.2, hi.1, rfl⟩
theorem far_items (ha : Apart bs) (hl : bs.length = cs.length) : (farOf cs bs at_ dim).flatMap (fun e => blockItems cs bs e.2) = cs.flatMap (·.2) := by
  have e : (farOf cs bs at_ dim).map (fun e => blockItems cs bs e.2) = cs.map (·.2) := by
    apply List.ext_getElem?
    intro i
    by_cases hi : i < cs.length
    · have hc : cs[i]? = some cs[i] := List.getElem?_eq_getElem hi
      have hb : bs[i]? = some bs[i] := List.getElem?_eq_getElem (by omega)
      rw [List.getElem?_map, far_get hb hc, List.getElem?_map, hc]
      show some (blockItems cs bs bs[i].1) = some cs[i].2
      rw [blockItems_at ha hb hc]
    · rw [List.getElem?_eq_none (by rw [List.length_map, far_len hl]; omega), List.getElem?_eq_none (by rw [List.length_map]; omega)]
  rw [List.flatMap_def, List.flatMap_def, e]
/-- What holds of the points and of what is asked. -/
structure AskOk (l : List ItemV) (at_ : List Int) (dim : Nat) : Prop where
  num : numOk at_
  len : at_.length = dim
  le : dim ≤ 8
  ns : ∀ x ∈ l, numOk x.ns ∧ x.ns.length = dim
theorem least_le (A : AskOk l at_ dim) {x : ItemV} (hx : x ∈ l) : leastK (cellAt x) at_ dim ≤ farW x.ns at_ := by
  have h := A.ns x hx
  have h1 := leastK_le x at_ h.1 A.num (by have := A.le; omega) dim (by omega) (by have := A.len; omega)
  rw [farK_all x.ns at_ dim (by omega)] at h1
  exact h1
theorem far_le (O : CellsOk cs l) (A : AskOk l at_ dim) (ha : Apart bs) {e : FarV} (he : e ∈ farOf cs bs at_ dim) : ∀ x ∈ blockItems cs bs e.2, e.1 ≤ farW x.ns at_ := by
  obtain ⟨i, b, c, hb, hc, rfl⟩ := far_mem he
  intro x hx
  rw [blockItems_at ha hb hc] at hx
  have hcm := List.mem_of_getElem? hc
  have h1 := O.in_ c hcm x hx
  have hxl : x ∈ l := O.perm.mem_iff.1 (List.mem_flatMap.2 ⟨c, hcm, hx⟩)
  show leastK c.1 at_ dim ≤ _
  rw [← h1]
  exact least_le A hxl
/-- What was seen when so many cells were looked at. -/
def seenL (cs : List Cell) (bs : List (Nat × Value)) (D : List FarV) (j : Nat) : List ItemV := (D.take j).flatMap fun e => blockItems cs bs e.2
structure FarOk (D : List FarV) (cs : List Cell) (bs : List (Nat × Value)) (at_ : List Int) (dim : Nat) : Prop where
  perm : D.Perm (farOf cs bs at_ dim)
  sort : List.Pairwise (fun a b : FarV => a.1 ≤ b.1) D
theorem seen_all {D : List FarV} (F : FarOk D cs bs at_ dim) (O : CellsOk cs l) (ha : Apart bs) (hl : bs.length = cs.length) : (D.flatMap fun e => blockItems cs bs e.2).Perm l := by
  refine (F.perm.flatMap_right _).trans ?_
  rw [far_items ha hl]
  exact O.perm
theorem seen_succ {D : List FarV} {j : Nat} {y : FarV} (hy : D[j]? = some y) : seenL cs bs D (j + 1) = seenL cs bs D j ++ blockItems cs bs y.2 := by
  have hj := (List.getElem?_eq_some_iff.1 hy).1
  rw [seenL, List.take_succ_eq_append_getElem hj, (List.getElem?_eq_some_iff.1 hy).2, List.flatMap_append, seenL]
  simp
theorem seen_le {D : List FarV} (F : FarOk D cs bs at_ dim) (O : CellsOk cs l) (ha : Apart bs) (hl : bs.length = cs.length) (j : Nat) : (seenL cs bs D j).length ≤ l.length := by
  have h := (seen_all F O ha hl).length_eq
  have e : D.flatMap (fun e => blockItems cs bs e.2) = seenL cs bs D j ++ (D.drop j).flatMap (fun e => blockItems cs bs e.2) := by
    rw [seenL, ← List.flatMap_append, List.take_append_drop]
  rw [e, List.length_append] at h
  omega
theorem seen_top {D : List FarV} (F : FarOk D cs bs at_ dim) (O : CellsOk cs l) (ha : Apart bs) (hl : bs.length = cs.length) (k : Int) (tag : ByteArray) : topV (seenL cs bs D D.length) at_ k tag = topV l at_ k tag := by
  rw [seenL, List.take_length]
  exact topV_perm (seen_all F O ha hl) at_ k tag
/-- Where it stops: the others are farther than the last that was found. -/
theorem seen_break {D : List FarV} (F : FarOk D cs bs at_ dim) (O : CellsOk cs l) (A : AskOk l at_ dim) (ha : Apart bs) (hl : bs.length = cs.length) (k : Int) (tag : ByteArray) {j : Nat} {y : FarV} (hy : D[j]? = some y) (hk : 0 < k.toNat)
    (hlen : (topV (seenL cs bs D j) at_ k tag).length = k.toNat) (z : FoundV) (hz : (topV (seenL cs bs D j) at_ k tag)[k.toNat - 1]? = some z) (hlt : z.2 < y.1) : topV (seenL cs bs D j) at_ k tag = topV l at_ k tag := by
  have hj := (List.getElem?_eq_some_iff.1 hy).1
  have e : D.flatMap (fun e => blockItems cs bs e.2) = seenL cs bs D j ++ (D.drop j).flatMap (fun e => blockItems cs bs e.2) := by
    rw [seenL, ← List.flatMap_append, List.take_append_drop]
  rw [← topV_perm (seen_all F O ha hl) at_ k tag, e]
  refine (top_break _ _ at_ k tag hk hlen z hz ?_).symm
  intro x hx
  obtain ⟨f, hf, hx⟩ := List.mem_flatMap.1 hx
  have hfD := List.mem_of_mem_drop hf
  have h1 := far_le O A ha (F.perm.mem_iff.1 hfD) x hx
  have h2 : y.1 ≤ f.1 := by
    rw [List.drop_eq_getElem_cons hj, (List.getElem?_eq_some_iff.1 hy).2] at hf
    rcases List.mem_cons.1 hf with rfl | hf
    · exact Int.le_refl _
    · have hs := F.sort
      have e2 : D = D.take j ++ y :: D.drop (j + 1) := by
        have := (List.take_append_drop j D).symm
        rwa [List.drop_eq_getElem_cons hj, (List.getElem?_eq_some_iff.1 hy).2] at this
      rw [e2, List.pairwise_append] at hs
      exact (List.pairwise_cons.1 hs.2.1).1 f hf
  omega
theorem farOk_of {d d' : Array FarV} (hd : d.toList = farOf cs bs at_ dim) (hp : PermIn 0 d.size d d') (hs : SortedIn (ltOf cmpFar) 0 d.size d') : FarOk d'.toList cs bs at_ dim := by
  obtain ⟨h1, _, h3⟩ := hp
  refine ⟨?_, ?_⟩
  · rw [← hd]
    have e1 : d'.extract 0 d.size = d' := by rw [← h1, Array.extract_size]
    have e2 : d.extract 0 d.size = d := Array.extract_size
    rwa [e1, e2] at h3
  · rw [List.pairwise_iff_getElem]
    intro i j hi hj hij
    have hi' : i < d'.size := by simpa using hi
    have hj' : j < d'.size := by simpa using hj
    have := hs i j (Nat.zero_le _) hij (by omega)
    rw [getElem!_pos d' i hi', getElem!_pos d' j hj', ltFar] at this
    have := of_decide_eq_false this
    simp only [Array.getElem_toList]
    omega
end
end Go.Cof
