/-
  DERIVED. DeviceSure: what each block may be, in memory; and the plain law.
-/
import Derived.Test.YtndcaaikjcicgaaDoorRests
import Derived.Test.YtndcaaikjcicgaaDoorRound
import Derived.Test.YtndcaaikjcicgaaDoorApp
set_option linter.unusedVariables false
set_option linter.unusedSimpArgs false
namespace Go.Cof
open Go.RowKit
def nilS : Value := .slice none 0 0
theorem setCell_heap2 {w : World} {B i : Nat} {cur : Array Value} {E : TypeId} {fz : Nat × Nat} (h : w.heap[B]? = some (.cells cur E fz)) (u : Value) : (w.setCell ⟨B, i, none⟩ u).heap[B]? = some (.cells (cur.setIfInBounds i u) E fz) := by
  have hlt := lt_of_heap h
  have h' : w.heap[B] = .cells cur E fz := by simpa [Array.getElem?_eq_getElem hlt] using h
  show (w.heap.modify B _)[B]? = _
  rw [Array.getElem?_eq_getElem (by simpa using hlt), Array.getElem_modify_self, h']
  rfl
/-- The blocks of what may be. -/
def MB (M : Nat) (vs : List Value) (b : Nat) : Prop := b = M ∨ ∃ k, k < 66 ∧ (vs.getD k nilS).ownBlock = some b
/-- A row of 66 rows of texts, each with a block of its own. -/
structure MayAt (w : World) (M : Nat) (T E : TypeId) (vs : List Value) (ms : List (List ByteArray)) : Prop where
  head : w.heap[M]? = some (.cells vs.toArray T (0, 0))
  len : vs.length = 66
  mlen : ms.length = 66
  row : ∀ k, k < 66 → OwnsN w 0 E 1 (vs.getD k nilS) (ms.getD k []).length (strCells (ms.getD k []))
  apart : ∀ j k b, j < 66 → k < 66 → (vs.getD j nilS).ownBlock = some b → (vs.getD k nilS).ownBlock = some b → j = k
  notM : ∀ k b, k < 66 → (vs.getD k nilS).ownBlock = some b → b ≠ M
section
variable {w w' : World} {M : Nat} {T E : TypeId} {vs : List Value} {ms : List (List ByteArray)}
theorem MayAt.lt (h : MayAt w M T E vs ms) : ∀ b, MB M vs b → b < w.heap.size := by
  rintro b (rfl | ⟨k, hk, hb⟩)
  · exact lt_of_heap h.head
  · exact ((h.row k hk).lt b hb).2
theorem MayAt.keep (h : MayAt w M T E vs ms) {S : Nat → Prop} (hk : Keep S w w') (hn : ∀ b, MB M vs b → ¬ S b) : MayAt w' M T E vs ms :=
  ⟨hk.heap h.head (hn M (.inl rfl)), h.len, h.mlen, fun k hk6 => (h.row k hk6).keep hk (fun b hb => hn b (.inr ⟨k, hk6, hb⟩)), h.apart, h.notM⟩
theorem MayAt.cell (h : MayAt w M T E vs ms) (k : Nat) (hk : k < 66) : w.cell? ⟨M, k, none⟩ = some (vs.getD k nilS) ∧ w.frozen? ⟨M, k, none⟩ = false := by
  have hl := h.len
  constructor
  · rw [cell_of_row w M k vs.toArray T (0, 0) h.head]
    simp [hl, hk]
  · simp [World.frozen?, h.head]
theorem getD_set_eq {α : Type} (l : List α) (k : Nat) (v d : α) (h : k < l.length) : (l.set k v).getD k d = v := by
  rw [List.getD_eq_getElem?_getD, List.getElem?_set_self h]; rfl
theorem getD_set_no {α : Type} (l : List α) (j k : Nat) (v d : α) (h : j ≠ k) : (l.set k v).getD j d = l.getD j d := by
  rw [List.getD_eq_getElem?_getD, List.getElem?_set_ne (fun e => h e.symm), List.getD_eq_getElem?_getD]
theorem MayAt.upd (h : MayAt w M T E vs ms) (k : Nat) (hk : k < 66) (v : Value) (l : List ByteArray) (K : Keep (fun b => (vs.getD k nilS).ownBlock = some b) w w') (own : OwnsN w' 0 E 1 v l.length (strCells l))
    (hv : v.ownBlock = (vs.getD k nilS).ownBlock ∨ ∀ b, v.ownBlock = some b → w.heap.size ≤ b) : MayAt (w'.setCell ⟨M, k, none⟩ v) M T E (vs.set k v) (ms.set k l) := by
  have hlt := h.lt
  have hl := h.len
  have hml := h.mlen
  have head' := K.heap h.head (fun hb => h.notM k M hk hb rfl)
  have hne : ∀ j b, j < 66 → j ≠ k → (vs.getD j nilS).ownBlock = some b → v.ownBlock ≠ some b := by
    intro j b hj hjk hb hvb
    rcases hv with e | e
    · exact hjk (h.apart j k b hj hk hb (e ▸ hvb))
    · have := e b hvb
      have := hlt b (.inr ⟨j, hj, hb⟩)
      omega
  have hvM : ∀ b, v.ownBlock = some b → b ≠ M := by
    intro b hb
    rcases hv with e | e
    · exact h.notM k b hk (e ▸ hb)
    · have := e b hb
      have := hlt M (.inl rfl)
      omega
  have hK1 : Keep (OneB M) w' (w'.setCell ⟨M, k, none⟩ v) := (Keep.refl (OneB M) w').set1 k v
  refine ⟨?_, by rw [List.length_set]; exact hl, by rw [List.length_set]; exact hml, ?_, ?_, ?_⟩
  · have := setCell_heap2 (i := k) head' v
    rwa [List.setIfInBounds_toArray] at this
  · intro j hj
    by_cases hjk : j = k
    · subst hjk
      rw [getD_set_eq _ _ _ _ (by omega), getD_set_eq _ _ _ _ (by omega)]
      exact own.keep hK1 (fun b hb => hvM b hb)
    · rw [getD_set_no _ _ _ _ _ hjk, getD_set_no _ _ _ _ _ hjk]
      exact ((h.row j hj).keep K (fun b hb hx => hjk (h.apart j k b hj hk hb hx))).keep hK1 (fun b hb => h.notM j b hj hb)
  · intro i j b hi hj h1 h2
    by_cases hik : i = k
    · subst hik
      by_cases hjk : j = i
      · exact hjk.symm
      · rw [getD_set_eq _ _ _ _ (by omega)] at h1
        rw [getD_set_no _ _ _ _ _ hjk] at h2
        exact absurd h1 (hne j b hj hjk h2)
    · rw [getD_set_no _ _ _ _ _ hik] at h1
      by_cases hjk : j = k
      · subst hjk
        rw [getD_set_eq _ _ _ _ (by omega)] at h2
        exact absurd h2 (hne i b hi hik h1)
      · rw [getD_set_no _ _ _ _ _ hjk] at h2
        exact h.apart i j b hi hj h1 h2
  · intro j b hj hb
    by_cases hjk : j = k
    · subst hjk
      rw [getD_set_eq _ _ _ _ (by omega)] at hb
      exact hvM b hb
    · rw [getD_set_no _ _ _ _ _ hjk] at hb
      exact h.notM j b hj hb
theorem mb_upd {k : Nat} {v : Value} (hl : vs.length = 66) (hk : k < 66) (hv : v.ownBlock = (vs.getD k nilS).ownBlock ∨ ∀ b, v.ownBlock = some b → w.heap.size ≤ b) : ∀ b, MB M (vs.set k v) b → MB M vs b ∨ w.heap.size ≤ b := by
  rintro b (rfl | ⟨j, hj, hb⟩)
  · exact .inl (.inl rfl)
  · by_cases hjk : j = k
    · subst hjk
      rw [getD_set_eq _ _ _ _ (by omega)] at hb
      rcases hv with e | e
      · exact .inl (.inr ⟨j, hj, e ▸ hb⟩)
      · exact .inr (e b hb)
    · rw [getD_set_no _ _ _ _ _ hjk] at hb
      exact .inl (.inr ⟨j, hj, hb⟩)
end
/-- What a block may be: as it is, and as its row says. -/
def mayB (m : List ByteArray) (s : ByteArray) : Prop := (m = [] ∧ s = zeroB) ∨ s ∈ m
theorem crashTo_at (sure : List ByteArray) (wait : List (Nat × ByteArray)) (keeps : List Bool) (q : Nat) : ∀ n, n ≤ wait.length → (crashTo sure wait keeps n).getD q ⟨#[]⟩ = sure.getD q ⟨#[]⟩ ∨ ∃ s, (q, s) ∈ wait ∧ (crashTo sure wait keeps n).getD q ⟨#[]⟩ = s := by
  intro n
  induction n with
  | zero => intro _; exact .inl rfl
  | succ n ih =>
    intro hn
    rw [crashTo]
    split
    · have hw : wait.getD n (0, ⟨#[]⟩) ∈ wait := by
        rw [List.getD_eq_getElem?_getD, List.getElem?_eq_getElem (by omega)]
        exact List.getElem_mem _
      obtain ⟨⟨j, s⟩, hx⟩ : ∃ x, x = wait.getD n (0, ⟨#[]⟩) := ⟨_, rfl⟩
      rw [← hx] at hw ⊢
      by_cases hj : j = q
      · subst hj
        by_cases hlt : j < (crashTo sure wait keeps n).length
        · right
          exact ⟨s, hw, by rw [List.getD_eq_getElem?_getD, List.getElem?_set_self hlt]; rfl⟩
        · rw [List.set_eq_of_length_le (by omega)]
          exact ih (by omega)
      · have : ((crashTo sure wait keeps n).set j s).getD q ⟨#[]⟩ = (crashTo sure wait keeps n).getD q ⟨#[]⟩ := by
          rw [List.getD_eq_getElem?_getD, List.getElem?_set_ne hj, List.getD_eq_getElem?_getD]
        rw [this]
        exact ih (by omega)
    · exact ih (by omega)
/-- Ahead of the Sync: each block will be as its row says, or 0. -/
def Ahead (sure : List ByteArray) (wait : List (Nat × ByteArray)) (ms : List (List ByteArray)) : Prop := ∀ k, k < 66 → mayB (ms.getD k []) ((applyW sure wait).getD k ⟨#[]⟩)
/-- Behind it: each block is, and is written, as its row says. -/
def Behind (sure : List ByteArray) (wait : List (Nat × ByteArray)) (ms : List (List ByteArray)) : Prop := (∀ k, k < 66 → mayB (ms.getD k []) (sure.getD k ⟨#[]⟩)) ∧ ∀ p ∈ wait, p.2 ∈ ms.getD p.1 []
theorem applyW_snoc (sure : List ByteArray) (wait : List (Nat × ByteArray)) (k : Nat) (q : ByteArray) : applyW sure (wait ++ [(k, q)]) = (applyW sure wait).set k q := by
  have h := applyW_take sure (wait ++ [(k, q)]) wait.length (by simp)
  rw [List.take_of_length_le (by simp), List.take_left] at h
  rw [h]
  simp
theorem Ahead.step {sure : List ByteArray} {wait : List (Nat × ByteArray)} {ms : List (List ByteArray)} (h : Ahead sure wait ms) (hs : sure.length = 66) (hm : ms.length = 66) (k : Nat) (hk : k < 66) (q : ByteArray) : Ahead sure (wait ++ [(k, q)]) (ms.set k [q]) := by
  intro j hj
  rw [applyW_snoc]
  by_cases hjk : j = k
  · subst hjk
    rw [getD_set_eq _ _ _ _ (by omega), getD_set_eq _ _ _ _ (by rw [applyW_len]; omega)]
    exact .inr (List.mem_singleton.2 rfl)
  · rw [getD_set_no _ _ _ _ _ hjk, getD_set_no _ _ _ _ _ hjk]
    exact h j hj
theorem Ahead.sync {sure : List ByteArray} {wait : List (Nat × ByteArray)} {ms : List (List ByteArray)} (h : Ahead sure wait ms) : Behind (applyW sure wait) [] ms := ⟨h, fun p hp => by cases hp⟩
/-- A row that takes one more. -/
def mayMore (m : List ByteArray) (q : ByteArray) : List ByteArray := (if m = [] then [zeroB] else m) ++ [q]
theorem Behind.step {sure : List ByteArray} {wait : List (Nat × ByteArray)} {ms : List (List ByteArray)} (h : Behind sure wait ms) (hm : ms.length = 66) (k : Nat) (hk : k < 66) (q : ByteArray) : Behind sure (wait ++ [(k, q)]) (ms.set k (mayMore (ms.getD k []) q)) := by
  have hold : ∀ s, s ∈ ms.getD k [] → s ∈ mayMore (ms.getD k []) q := by
    intro s hs
    rw [mayMore, if_neg (fun e => by rw [e] at hs; cases hs)]
    exact List.mem_append_left _ hs
  refine ⟨fun j hj => ?_, fun p hp => ?_⟩
  · by_cases hjk : j = k
    · subst hjk
      rw [getD_set_eq _ _ _ _ (by omega)]
      rcases h.1 j hj with ⟨h1, h2⟩ | h1
      · right
        rw [h2, mayMore, if_pos h1]
        exact List.mem_append_left _ (List.mem_singleton.2 rfl)
      · exact .inr (hold _ h1)
    · rw [getD_set_no _ _ _ _ _ hjk]
      exact h.1 j hj
  · by_cases hpk : p.1 = k
    · rw [hpk, getD_set_eq _ _ _ _ (by omega)]
      rcases List.mem_append.1 hp with h1 | h1
      · have := h.2 p h1
        rw [hpk] at this
        exact hold _ this
      · rw [List.mem_singleton.1 h1]
        exact List.mem_append_right _ (List.mem_singleton.2 rfl)
    · rw [getD_set_no _ _ _ _ _ hpk]
      rcases List.mem_append.1 hp with h1 | h1
      · exact h.2 p h1
      · rw [List.mem_singleton.1 h1] at hpk
        exact absurd rfl hpk
theorem Behind.crash {sure : List ByteArray} {wait : List (Nat × ByteArray)} {ms : List (List ByteArray)} (h : Behind sure wait ms) (keeps : List Bool) (k : Nat) (hk : k < 66) : mayB (ms.getD k []) ((crashTo sure wait keeps wait.length).getD k ⟨#[]⟩) := by
  rcases crashTo_at sure wait keeps k wait.length (Nat.le_refl _) with e | ⟨s, hs, e⟩
  · rw [e]; exact h.1 k hk
  · rw [e]; exact .inr (h.2 (k, s) hs)
end Go.Cof
