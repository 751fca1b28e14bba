/-
  DERIVED. Points in cells, in plain Lean: which are in which cell; how far a cell is, at least; that what is found cell by cell is what is found at all.
-/
import Derived.Test.YtcjilojkhmondaaGreatDoorOrder
import Derived.Test.YtcjilojkhmondaaGreatDoorTopK
import Derived.Test.YtcjilojkhmondaaGreatDoorItem
set_option linter.unusedVariables false
set_option linter.unusedSimpArgs false
namespace Go.Cof
open Go.RowKit Go.Sort Go.Shelf
open Go.Proofs (ltOf)
/-- Numbers that may be. -/
def numOk (l : List Int) : Prop := ∀ n ∈ l, -1000 ≤ n ∧ n ≤ 1000
theorem numOk_getD {l : List Int} (h : numOk l) (k : Nat) : -1000 ≤ l.getD k 0 ∧ l.getD k 0 ≤ 1000 := by
  rw [List.getD_eq_getElem?_getD]
  cases e : l[k]? with
  | none => simp
  | some n => exact h n (List.mem_of_getElem? e)
/-- The square of a difference. -/
def sqd (x y : Int) : Int := (x - y) * (x - y)
theorem sq_bound {d : Int} {B : Nat} (h1 : -(B : Int) ≤ d) (h2 : d ≤ B) : 0 ≤ d * d ∧ d * d ≤ (B : Int) * B := by
  constructor
  · rcases Int.le_total 0 d with h | h
    · exact Int.mul_nonneg h h
    · have := Int.mul_nonneg (show 0 ≤ -d by omega) (show 0 ≤ -d by omega)
      rwa [Int.neg_mul_neg] at this
  · rcases Int.le_total 0 d with h | h
    · exact Int.mul_le_mul h2 h2 h (by omega)
    · have := Int.mul_le_mul (show -d ≤ B by omega) (show -d ≤ B by omega) (show 0 ≤ -d by omega) (by omega)
      rwa [Int.neg_mul_neg] at this
theorem farStep_ok (n x y : Int) (hn : 0 ≤ n) (hn2 : n ≤ 1000000000000) (hx : -1000 ≤ x ∧ x ≤ 1000) (hy : -1000 ≤ y ∧ y ≤ 1000) : farStep n x y = n + sqd x y ∧ 0 ≤ sqd x y ∧ sqd x y ≤ 4000000 := by
  have hd : wrap64 (x - y) = x - y := by unfold wrap64; omega
  have hb := sq_bound (d := x - y) (B := 2000) (by omega) (by omega)
  refine ⟨?_, hb⟩
  unfold farStep
  rw [hd]
  have hs : wrap64 ((x - y) * (x - y)) = (x - y) * (x - y) := by
    obtain ⟨q, hq⟩ : ∃ q, q = (x - y) * (x - y) := ⟨_, rfl⟩
    rw [← hq] at hb ⊢
    unfold wrap64
    omega
  rw [hs]
  show wrap64 (n + sqd x y) = _
  obtain ⟨q, hq⟩ : ∃ q, q = sqd x y := ⟨_, rfl⟩
  have hq2 : q = (x - y) * (x - y) := hq
  rw [← hq2] at hb
  rw [← hq]
  unfold wrap64
  omega
theorem farK_ok (a b : List Int) (ha : numOk a) (hb : numOk b) : ∀ k, k ≤ a.length → k ≤ b.length → k ≤ 100 → 0 ≤ farK a b k ∧ farK a b k ≤ 4000000 * k
  | 0, _, _, _ => by rw [farK_zero]; omega
  | k + 1, h1, h2, h3 => by
    have ih := farK_ok a b ha hb k (by omega) (by omega) (by omega)
    rw [farK_succ a b k (by omega) (by omega)]
    have := farStep_ok (farK a b k) (a.getD k 0) (b.getD k 0) ih.1 (by omega) (numOk_getD ha k) (numOk_getD hb k)
    rw [this.1]
    omega
theorem farK_next (a b : List Int) (ha : numOk a) (hb : numOk b) (k : Nat) (h1 : k < a.length) (h2 : k < b.length) (h3 : k < 100) : farK a b (k + 1) = farK a b k + sqd (a.getD k 0) (b.getD k 0) := by
  have ih := farK_ok a b ha hb k (by omega) (by omega) (by omega)
  rw [farK_succ a b k (by omega) (by omega)]
  exact (farStep_ok (farK a b k) (a.getD k 0) (b.getD k 0) ih.1 (by omega) (numOk_getD ha k) (numOk_getD hb k)).1
theorem farW_nonneg (a b : List Int) (ha : numOk a) (hb : numOk b) (hal : a.length ≤ 100) : 0 ≤ farW a b := by
  rw [← farK_all a b (min a.length b.length) (Nat.le_refl _)]
  exact (farK_ok a b ha hb _ (by omega) (by omega) (by omega)).1
theorem farW_self (a : List Int) : farW a a = 0 := by
  have key : ∀ l : List Int, farL (l.zip l) 0 = 0 := by
    intro l
    induction l with
    | nil => rfl
    | cons x l ih =>
      rw [List.zip_cons_cons, farL]
      have : farStep 0 x x = 0 := by
        unfold farStep
        rw [Int.sub_self]
        simp [wrap64]
      rw [this]
      exact ih
  exact key a
/-- A number's cell. -/
def downI (n : Int) : Int := (n + 1000) / 250 - 4
theorem downI_low (n : Int) (h : -1000 ≤ n) : downI n * 250 ≤ n ∧ n ≤ downI n * 250 + 249 := by unfold downI; omega
theorem downI_in (n : Int) (h : -1000 ≤ n ∧ n ≤ 1000) : -4 ≤ downI n ∧ downI n ≤ 4 := by unfold downI; omega
/-- Eight numbers: the cells' of the first k. -/
def atK (ns : List Int) (k : Nat) : List Int := (ns.take k).map downI ++ List.replicate (8 - k) 0
def cellAt (x : ItemV) : List Int := atK x.ns x.ns.length
theorem atK_len (ns : List Int) (k : Nat) (h : k ≤ ns.length) (h8 : k ≤ 8) : (atK ns k).length = 8 := by
  rw [atK, List.length_append, List.length_map, List.length_take, List.length_replicate]; omega
theorem atK_set (ns : List Int) (k : Nat) (h : k < ns.length) (h8 : k < 8) : (atK ns k).set k (downI (ns.getD k 0)) = atK ns (k + 1) := by
  have e : (ns.take k).map downI ++ List.replicate (8 - k) 0 = (ns.take k).map downI ++ (0 :: List.replicate (8 - (k + 1)) 0) := by
    rw [show 8 - k = (8 - (k + 1)) + 1 by omega, List.replicate_succ]
  have hl : ((ns.take k).map downI).length = k := by rw [List.length_map, List.length_take]; omega
  rw [atK, e, List.set_append_right _ _ (by omega), hl, Nat.sub_self, List.set_cons_zero, atK, List.take_succ_eq_append_getElem h, List.map_append, List.append_assoc, List.getD_eq_getElem?_getD, List.getElem?_eq_getElem h]
  rfl
theorem atK_get (ns : List Int) (k i : Nat) (h : i < k) (hk : k ≤ ns.length) : (atK ns k).getD i 0 = downI (ns.getD i 0) := by
  rw [atK, List.getD_eq_getElem?_getD, List.getElem?_append_left (by rw [List.length_map, List.length_take]; omega), List.getElem?_map, List.getElem?_take, if_pos h, List.getD_eq_getElem?_getD, List.getElem?_eq_getElem (by omega)]
  rfl
/-- How far a number is from a cell's, at least. -/
def gapI (low a : Int) : Int := max (max (low - a) (a - (low + 250 - 1))) 0
/-- How far a point is from a cell, at least, by the first k numbers. -/
def leastK (c at_ : List Int) : Nat → Int
  | 0 => 0
  | k + 1 => leastK c at_ k + gapI (c.getD k 0 * 250) (at_.getD k 0) * gapI (c.getD k 0 * 250) (at_.getD k 0)
theorem gap_le (n a : Int) (h : -1000 ≤ n) : gapI (downI n * 250) a * gapI (downI n * 250) a ≤ sqd n a := by
  have hl := downI_low n h
  obtain ⟨g, hg⟩ : ∃ g, g = gapI (downI n * 250) a := ⟨_, rfl⟩
  rw [← hg]
  unfold sqd
  unfold gapI at hg
  have h0 : 0 ≤ g := by omega
  rcases Int.le_total n a with h | h
  · have h2 : g ≤ a - n := by omega
    have := Int.mul_le_mul h2 h2 h0 (by omega)
    have e : (n - a) * (n - a) = (a - n) * (a - n) := by
      rw [← Int.neg_mul_neg]
      congr 1 <;> omega
    rwa [e]
  · have h2 : g ≤ n - a := by omega
    exact Int.mul_le_mul h2 h2 h0 (by omega)
theorem leastK_le (x : ItemV) (at_ : List Int) (hx : numOk x.ns) (ha : numOk at_) (h8 : x.ns.length ≤ 8) : ∀ k, k ≤ x.ns.length → k ≤ at_.length → leastK (cellAt x) at_ k ≤ farK x.ns at_ k
  | 0, _, _ => by rw [farK_zero]; exact Int.le_refl _
  | k + 1, h1, h2 => by
    have ih := leastK_le x at_ hx ha h8 k (by omega) (by omega)
    rw [leastK, farK_next x.ns at_ hx ha k (by omega) (by omega) (by omega), cellAt, atK_get _ _ _ (by omega) (Nat.le_refl _)]
    have := gap_le (x.ns.getD k 0) (at_.getD k 0) (numOk_getD hx k).1
    rw [cellAt] at ih
    omega
theorem leastK_ok (c at_ : List Int) (hc : ∀ k, -4 ≤ c.getD k 0 ∧ c.getD k 0 ≤ 4) (ha : numOk at_) : ∀ k, k ≤ 100 → 0 ≤ leastK c at_ k ∧ leastK c at_ k ≤ 16000000 * k
  | 0, _ => by show (0 : Int) ≤ 0 ∧ _; simp [leastK]
  | k + 1, h => by
    have ih := leastK_ok c at_ hc ha k (by omega)
    have h1 := hc k
    have h2 := numOk_getD ha k
    have hg := sq_bound (d := gapI (c.getD k 0 * 250) (at_.getD k 0)) (B := 4000) (by unfold gapI; omega) (by unfold gapI; omega)
    rw [leastK]
    omega
/-- A cell: its numbers, and its points. -/
abbrev Cell := List Int × List ItemV
def hasC (cs : List Cell) (a : List Int) : Bool := cs.any fun c => decide (c.1 = a)
def withC (cs : List Cell) (a : List Int) : List Cell := if hasC cs a then cs else cs ++ [(a, [])]
def idxC (cs : List Cell) (a : List Int) : Nat := cs.findIdx fun c => decide (c.1 = a)
def putC (cs : List Cell) (k : Nat) (x : ItemV) : List Cell := cs.modify k fun c => (c.1, c.2 ++ [x])
def stepC (cs : List Cell) (x : ItemV) : List Cell := putC (withC cs (cellAt x)) (idxC cs (cellAt x)) x
def cellsL (l : List ItemV) : List Cell := l.foldl stepC []
theorem cellsL_succ (l : List ItemV) (j : Nat) (x : ItemV) (hx : l[j]? = some x) : cellsL (l.take (j + 1)) = stepC (cellsL (l.take j)) x := by
  have hj := (List.getElem?_eq_some_iff.1 hx).1
  rw [List.take_succ_eq_append_getElem hj, (List.getElem?_eq_some_iff.1 hx).2, cellsL, cellsL, List.foldl_append]
  rfl
structure CellsOk (cs : List Cell) (l : List ItemV) : Prop where
  perm : (cs.flatMap (·.2)).Perm l
  at_ : ∀ c ∈ cs, ∃ x ∈ l, c.1 = cellAt x
  in_ : ∀ c ∈ cs, ∀ x ∈ c.2, cellAt x = c.1
  len : cs.length ≤ l.length
theorem idxC_lt (cs : List Cell) (a : List Int) : idxC cs a < (withC cs a).length ∧ (withC cs a)[idxC cs a]?.map (·.1) = some a := by
  unfold withC idxC
  by_cases h : hasC cs a = true
  · rw [if_pos h]
    have h2 := List.findIdx_lt_length.2 (List.any_eq_true.1 h)
    refine ⟨h2, ?_⟩
    rw [List.getElem?_eq_getElem h2]
    have := List.findIdx_getElem (p := fun c : Cell => decide (c.1 = a)) (w := h2)
    simpa using this
  · rw [if_neg h]
    have h2 : cs.findIdx (fun c => decide (c.1 = a)) = cs.length := by
      rw [List.findIdx_eq_length]
      intro c hc
      have h3 : hasC cs a = false := by simpa using h
      rw [hasC, List.any_eq_false] at h3
      simpa using h3 c hc
    rw [h2]
    simp
theorem stepC_ok {cs : List Cell} {l : List ItemV} (h : CellsOk cs l) (x : ItemV) : CellsOk (stepC cs x) (l ++ [x]) := by
  have hi := idxC_lt cs (cellAt x)
  have hw : CellsOk (withC cs (cellAt x)) (l ++ [x]) → True := fun _ => trivial
  have w1 : ((withC cs (cellAt x)).flatMap (·.2)).Perm l := by
    unfold withC
    split
    · exact h.perm
    · rw [List.flatMap_append]; simpa using h.perm
  have w2 : ∀ c ∈ withC cs (cellAt x), ∃ y ∈ l ++ [x], c.1 = cellAt y := by
    intro c hc
    unfold withC at hc
    split at hc
    · obtain ⟨y, hy, e⟩ := h.at_ c hc; exact ⟨y, List.mem_append_left _ hy, e⟩
    · rcases List.mem_append.1 hc with hc | hc
      · obtain ⟨y, hy, e⟩ := h.at_ c hc; exact ⟨y, List.mem_append_left _ hy, e⟩
      · rw [List.mem_singleton.1 hc]; exact ⟨x, by simp, rfl⟩
  have w3 : ∀ c ∈ withC cs (cellAt x), ∀ y ∈ c.2, cellAt y = c.1 := by
    intro c hc
    unfold withC at hc
    split at hc
    · exact h.in_ c hc
    · rcases List.mem_append.1 hc with hc | hc
      · exact h.in_ c hc
      · rw [List.mem_singleton.1 hc]; intro y hy; cases hy
  have w4 : (withC cs (cellAt x)).length ≤ l.length + 1 := by
    have := h.len
    unfold withC
    split
    · omega
    · rw [List.length_append, List.length_singleton]; omega
  obtain ⟨W, hW⟩ : ∃ W, W = withC cs (cellAt x) := ⟨_, rfl⟩
  obtain ⟨k, hk⟩ : ∃ k, k = idxC cs (cellAt x) := ⟨_, rfl⟩
  rw [← hW] at hi w1 w2 w3 w4
  rw [← hk] at hi
  rw [stepC, putC, ← hW, ← hk]
  have hsplit : W.modify k (fun c => (c.1, c.2 ++ [x])) = W.take k ++ (W[k].1, W[k].2 ++ [x]) :: W.drop (k + 1) := by
    rw [List.modify_eq_take_cons_drop hi.1]
  have hW2 : W = W.take k ++ W[k] :: W.drop (k + 1) := by
    rw [← List.drop_eq_getElem_cons hi.1, List.take_append_drop]
  have hk1 : W[k].1 = cellAt x := by
    have := hi.2
    rw [List.getElem?_eq_getElem hi.1] at this
    simpa using this
  have hmem : ∀ c, c ∈ W.modify k (fun c => (c.1, c.2 ++ [x])) → c ∈ W ∨ c = (W[k].1, W[k].2 ++ [x]) := by
    intro c hc
    rw [hsplit] at hc
    rcases List.mem_append.1 hc with hc | hc
    · exact .inl (List.mem_of_mem_take hc)
    · rcases List.mem_cons.1 hc with hc | hc
      · exact .inr hc
      · exact .inl (List.mem_of_mem_drop hc)
  refine ⟨?_, fun c hc => ?_, fun c hc => ?_, by rw [List.length_modify, List.length_append, List.length_singleton]; exact w4⟩
  · rw [hsplit]
    rw [hW2] at w1
    simp only [List.flatMap_append, List.flatMap_cons, List.append_assoc] at w1 ⊢
    have e1 : ((W.take k).flatMap (·.2) ++ (W[k].2 ++ ([x] ++ (W.drop (k + 1)).flatMap (·.2)))).Perm (((W.take k).flatMap (·.2) ++ (W[k].2 ++ (W.drop (k + 1)).flatMap (·.2))) ++ [x]) := by
      simp only [List.append_assoc]
      exact ((List.perm_append_comm).append_left _).append_left _
    exact e1.trans (w1.append_right [x])
  · rcases hmem c hc with hc | rfl
    · exact w2 c hc
    · exact ⟨x, by simp, hk1⟩
  · rcases hmem c hc with hc | rfl
    · exact w3 c hc
    · intro y hy
      rcases List.mem_append.1 hy with hy | hy
      · exact w3 W[k] (List.getElem_mem _) y hy
      · rw [List.mem_singleton.1 hy]; exact hk1.symm
theorem cellsL_ok (l : List ItemV) : CellsOk (cellsL l) l := by
  have key : ∀ n, n ≤ l.length → CellsOk (cellsL (l.take n)) (l.take n) := by
    intro n
    induction n with
    | zero => intro _; rw [List.take_zero]; exact ⟨List.Perm.refl _, fun _ h => (by cases h), fun _ h => (by cases h), Nat.le_refl _⟩
    | succ n ih =>
      intro hn
      have hx : l[n]? = some l[n] := List.getElem?_eq_getElem (by omega)
      rw [cellsL_succ l n _ hx, List.take_succ_eq_append_getElem (by omega)]
      exact stepC_ok (ih (by omega)) _
  have := key l.length (Nat.le_refl _)
  rwa [List.take_length] at this
/-! What is found, cell by cell. -/
theorem totF : Tot (fun x y => !(ltOf cmpF) y x) where
  trans := leF_trans
  total := leF_total
  anti := fun a b h1 h2 => by
    rw [Bool.not_eq_true'] at h1 h2
    exact total_cmpF a b h2 h1
theorem foundL_append (l l' : List ItemV) (at_ : List Int) (tag : ByteArray) : foundL (l ++ l') at_ tag = foundL l at_ tag ++ foundL l' at_ tag := by
  rw [foundL, foundL, foundL, List.filter_append, List.map_append]
theorem top_step (V C : List ItemV) (at_ : List Int) (k : Int) (tag : ByteArray) : (sortF (topV V at_ k tag ++ topV C at_ k tag)).take k.toNat = topV (V ++ C) at_ k tag := by
  have h1 := totF.first (foundL V at_ tag) (topV C at_ k tag) k.toNat
  have h2 := totF.first (foundL C at_ tag) (foundL V at_ tag) k.toNat
  have e1 : (sortF (topV V at_ k tag ++ topV C at_ k tag)).take k.toNat = (sortF (foundL V at_ tag ++ topV C at_ k tag)).take k.toNat := h1
  have e2 : sortF (foundL V at_ tag ++ topV C at_ k tag) = sortF (topV C at_ k tag ++ foundL V at_ tag) := sortF_perm List.perm_append_comm
  have e3 : (sortF (topV C at_ k tag ++ foundL V at_ tag)).take k.toNat = (sortF (foundL C at_ tag ++ foundL V at_ tag)).take k.toNat := h2
  rw [e1, e2, e3, sortF_perm List.perm_append_comm, ← foundL_append]
  rfl
/-- Those that are farther than the last one are left out. -/
theorem top_break (V R : List ItemV) (at_ : List Int) (k : Int) (tag : ByteArray) (hk : 0 < k.toNat) (hlen : (topV V at_ k tag).length = k.toNat) (y : FoundV) (hy : (topV V at_ k tag)[k.toNat - 1]? = some y) (hR : ∀ x ∈ R, y.2 < farW x.ns at_) : topV (V ++ R) at_ k tag = topV V at_ k tag := by
  have hl : k.toNat ≤ (foundL V at_ tag).length := by
    rw [topV, List.length_take, sortF_len] at hlen; omega
  have h := totF.absorb (foundL V at_ tag) (foundL R at_ tag) k.toNat hl ?_
  · rw [topV, foundL_append]
    exact h
  · intro x hx r hr
    have hx2 : x.2 ≤ y.2 := by
      have hS := totF.sorted (foundL V at_ tag)
      have hy2 : (sortF (foundL V at_ tag))[k.toNat - 1]? = some y := by
        rw [topV, List.getElem?_take, if_pos (by omega)] at hy
        exact hy
      obtain ⟨i, hi, he⟩ := List.getElem_of_mem hx
      have hi2 : i < k.toNat := by rw [List.length_take] at hi; omega
      rw [List.getElem_take] at he
      obtain ⟨hb, hb2⟩ := List.getElem?_eq_some_iff.1 hy2
      by_cases e : i = k.toNat - 1
      · subst e
        rw [← he, ← hb2]
        exact Int.le_refl _
      · have := List.pairwise_iff_getElem.1 hS i (k.toNat - 1) (by rw [List.length_take] at hi; omega) hb (by omega)
        rw [he] at this
        have h3 : (!(ltOf cmpF) y x) = true := by rw [← hb2]; exact this
        rw [Bool.not_eq_true', ltOf_cmpF_false] at h3
        have : ¬ y.2 < x.2 := fun e => h3 (.inl e)
        omega
    obtain ⟨z, hz, rfl⟩ := List.mem_map.1 hr
    have hz2 := hR z (List.mem_filter.1 hz).1
    have hz3 : (foundV at_ z).2 = farW z.ns at_ := rfl
    rw [Bool.not_eq_true', ltOf_cmpF_false]
    rintro (h | h)
    · omega
    · omega
end Go.Cof
