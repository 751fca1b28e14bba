/-
  DERIVED. What the law NearMoved calls of its own; the plain law.
-/
import Derived.Test.YtcjilojkhmondaaDoorNearKit
import Derived.Test.YtcjilojkhmondaaDoorDel
import Derived.Test.YtcjilojkhmondaaDoorCellsP
set_option linter.unusedVariables false
set_option linter.unusedSimpArgs false
namespace Go.Cof
open Go.RowKit Go.Sort Go.Shelf
/-- A number that is too far out. -/
def outB (n : Int) : Bool := decide (n < -900) || decide (900 < n)
def insideB (l : List Int) : Bool := decide (l.length = 2) && !l.any outB
theorem inside_two {l : List Int} (h : insideB l = true) : ∃ a b, l = [a, b] ∧ (-900 ≤ a ∧ a ≤ 900) ∧ (-900 ≤ b ∧ b ≤ 900) := by
  simp only [insideB, Bool.and_eq_true, decide_eq_true_eq, Bool.not_eq_true'] at h
  match l, h with
  | [a, b], ⟨_, h⟩ =>
    simp only [outB, List.any_cons, List.any_nil, Bool.or_false, Bool.or_eq_false_iff, decide_eq_false_iff_not] at h
    exact ⟨a, b, rfl, ⟨by omega, by omega⟩, ⟨by omega, by omega⟩⟩
/-- Moved by as much, it is as far. -/
theorem farW_moved (a b c d x y : Int) : farW [a + x, b + y] [c + x, d + y] = farW [a, b] [c, d] := by
  show farStep (farStep 0 (a + x) (c + x)) (b + y) (d + y) = farStep (farStep 0 a c) b d
  unfold farStep
  rw [show a + x - (c + x) = a - c by omega, show b + y - (d + y) = b - d by omega]
/-- y is x, moved. -/
structure Mov (w : World) (T : TypeId) (p q : Int) (x y : ItemV) : Prop where
  name : y.name = x.name
  ns : y.ns = [x.ns.getD 0 0 + p, x.ns.getD 1 0 + q]
  at_ : ∃ B, y.av = .slice (some ⟨B, 0, none⟩) 2 2 ∧ w.heap[B]? = some (.cells #[.int .i64 (x.ns.getD 0 0 + p), .int .i64 (x.ns.getD 1 0 + q)] T (0, 0))
theorem Mov.nums {w : World} {T : TypeId} {p q : Int} {x y : ItemV} (h : Mov w T p q x y) : Nums w y.av y.ns := by
  obtain ⟨B, hv, hb⟩ := h.at_
  rw [h.ns, hv]
  refine .inr ⟨B, 0, 2, rfl, lt_of_heap hb, fun i hi => ?_⟩
  rw [Nat.zero_add, cell_of_row _ _ i _ T (0, 0) hb]
  have : i = 0 ∨ i = 1 := by simp at hi; omega
  rcases this with rfl | rfl <;> rfl
theorem Mov.keep {w w' : World} {T : TypeId} {p q : Int} {x y : ItemV} (h : Mov w T p q x y) (hk : ∀ (B : Nat) (o : Array Value), w.heap[B]? = some (Obj.cells o T (0, 0)) → w'.heap[B]? = w.heap[B]?) : Mov w' T p q x y := by
  obtain ⟨B, hv, hb⟩ := h.at_
  exact ⟨h.name, h.ns, B, hv, by rw [hk B _ hb]; exact hb⟩
def MovL (w : World) (T : TypeId) (p q : Int) (l M : List ItemV) : Prop := M.length = l.length ∧ ∀ (t : Nat) (x y : ItemV), l[t]? = some x → M[t]? = some y → Mov w T p q x y
theorem MovL.snoc {w : World} {T : TypeId} {p q : Int} {l M : List ItemV} {x y : ItemV} (h : MovL w T p q l M) (hm : Mov w T p q x y) : MovL w T p q (l ++ [x]) (M ++ [y]) := by
  refine ⟨by rw [List.length_append, List.length_append, h.1]; rfl, fun t x' y' hx hy => ?_⟩
  by_cases ht : t < l.length
  · rw [List.getElem?_append_left ht] at hx
    rw [List.getElem?_append_left (by rw [h.1]; exact ht)] at hy
    exact h.2 t x' y' hx hy
  · rw [List.getElem?_append_right (by omega)] at hx
    rw [List.getElem?_append_right (by rw [h.1]; omega), h.1] at hy
    obtain ⟨k, hk⟩ : ∃ k, k = t - l.length := ⟨_, rfl⟩
    rw [← hk] at hx hy
    cases k with
    | zero =>
      obtain rfl : x = x' := by simpa using hx
      obtain rfl : y = y' := by simpa using hy
      exact hm
    | succ k => simp at hx
theorem MovL.found {w : World} {T : TypeId} {p q : Int} {l M : List ItemV} (h : MovL w T p q l M) (hl : ∀ x ∈ l, insideB x.ns = true) (c d : Int) : foundL M [c + p, d + q] ⟨#[]⟩ = foundL l [c, d] ⟨#[]⟩ := by
  have ft : ∀ l : List ItemV, l.filter (tagB ⟨#[]⟩) = l := fun l => List.filter_eq_self.2 fun x _ => by simp [tagB]
  rw [foundL, foundL, ft, ft]
  apply List.ext_getElem?
  intro t
  rw [List.getElem?_map, List.getElem?_map]
  by_cases ht : t < l.length
  · have hx : l[t]? = some l[t] := List.getElem?_eq_getElem ht
    have hy : M[t]? = some (M[t]'(by rw [h.1]; exact ht)) := List.getElem?_eq_getElem _
    have hm := h.2 t _ _ hx hy
    rw [hx, hy]
    obtain ⟨a, b, e, _, _⟩ := inside_two (hl _ (List.getElem_mem ht))
    have hn := hm.ns
    rw [e] at hn
    simp only [Option.map_some, foundV, hm.name, hn, e]
    exact congrArg some (Prod.ext rfl (farW_moved a b c d p q))
  · rw [List.getElem?_eq_none (show M.length ≤ t by rw [h.1]; omega), List.getElem?_eq_none (show l.length ≤ t by omega)]
    rfl
theorem MovL.top {w : World} {T : TypeId} {p q : Int} {l M : List ItemV} (h : MovL w T p q l M) (hl : ∀ x ∈ l, insideB x.ns = true) (c d k : Int) : topV M [c + p, d + q] k ⟨#[]⟩ = topV l [c, d] k ⟨#[]⟩ := by
  rw [topV, topV, h.found hl]
/-- What is there is nearest to itself. -/
theorem top_self (l : List ItemV) (x : ItemV) (hx : x ∈ l) (hl : ∀ y ∈ l, numOk y.ns ∧ y.ns.length ≤ 100) : ∃ nm, topV l x.ns 1 ⟨#[]⟩ = [(nm, 0)] := by
  have hmem : (x.name, (0 : Int)) ∈ foundL l x.ns ⟨#[]⟩ := by
    rw [← farW_self x.ns]
    exact List.mem_map.2 ⟨x, List.mem_filter.2 ⟨hx, by simp [tagB]⟩, rfl⟩
  have hpos : ∀ f ∈ foundL l x.ns ⟨#[]⟩, 0 ≤ f.2 := by
    intro f hf
    obtain ⟨y, hy, rfl⟩ := List.mem_map.1 hf
    have hy2 := (List.mem_filter.1 hy).1
    exact farW_nonneg y.ns x.ns (hl y hy2).1 (hl x hx).1 (hl y hy2).2
  obtain ⟨F, hF⟩ : ∃ F, F = foundL l x.ns ⟨#[]⟩ := ⟨_, rfl⟩
  rw [← hF] at hmem hpos
  have hs := totF.sorted F
  have hm2 : (x.name, (0 : Int)) ∈ sortF F := mem_sortF.2 hmem
  have hp2 : ∀ f ∈ sortF F, 0 ≤ f.2 := fun f hf => hpos f (mem_sortF.1 hf)
  rw [topV, ← hF]
  have hs2 : List.Pairwise (fun a b => (!(Go.Proofs.ltOf cmpF) b a) = true) (sortF F) := hs
  cases hS : sortF F with
  | nil => rw [hS] at hm2; cases hm2
  | cons f r =>
    rw [hS] at hm2 hp2 hs2
    have h0 := hp2 f List.mem_cons_self
    have h1 : f.2 ≤ 0 := by
      rcases List.mem_cons.1 hm2 with h | h
      · rw [← h]; exact Int.le_refl _
      · have := (List.pairwise_cons.1 hs2).1 _ h
        rw [Bool.not_eq_true', ltOf_cmpF_false] at this
        have h3 : ¬ (0 : Int) < f.2 := fun e => this (.inl e)
        omega
    obtain ⟨nm, d⟩ := f
    obtain rfl : d = 0 := by simp only at h0 h1; omega
    exact ⟨nm, rfl⟩
end Go.Cof
namespace Go.Proofs.YtcjilojkhmondaaDoor
open Go.RowKit Go.Cof Go.Sort Go.Shelf
theorem outB_any (n : Int) (w : World) : Calls Tryd.prog 15 #[.int .i64 n] w fun e w' => e = .returned (.bool (outB n)) ∧ w' = w := by
  by_cases h : n < -900
  · have hb : outB n = true := by simp [outB, h]
    rw [hb]
    go_enter Tryd.func15, Tryd.ntmps15
    go_wp2_with fail
    go_ret
    exact ⟨rfl, rfl⟩
  · have hb : outB n = decide (900 < n) := by simp [outB, h]
    rw [hb]
    have hd : decide (n < -900) = false := by simpa using h
    clear h hb
    go_enter Tryd.func15, Tryd.ntmps15
    go_wp2_with fail
    go_ret
    exact ⟨rfl, rfl⟩
theorem inside_any (v : Value) (l : List Int) (w : World) (S : Nums w v l) (hl : l.length ≤ 1000000) :
    Calls Tryd.prog 13 #[v] w fun e w' => e = .returned (.bool (insideB l)) ∧ w' = w := by
  have hc := containsInt_any 15 outB outB_any (enters_of Tryd.func15 (by kernel_rfl) rfl) v l w S hl
  obtain ⟨a, c, rfl⟩ := S.len
  by_cases hd : l.length = 2
  · have hr : insideB l = !l.any outB := by simp [insideB, hd]
    rw [hr]
    generalize l.any outB = b at hc ⊢
    have hd2 : (((l.length : Nat) : Int) == 2) = true := by simp; omega
    clear hd hr
    go_enter Tryd.func13, Tryd.ntmps13
    go_wp2_with fail
    refine hc.mono ?_
    rintro e w' ⟨rfl, hw⟩
    subst w'
    go_wp2_with fail
    go_ret
    exact ⟨rfl, rfl⟩
  · have hr : insideB l = false := by simp [insideB, hd]
    rw [hr]
    have hd2 : (((l.length : Nat) : Int) == 2) = false := by simp; omega
    clear hd hr hc
    go_enter Tryd.func13, Tryd.ntmps13
    go_wp2_with fail
    go_ret
    exact ⟨rfl, rfl⟩
theorem outside_any (x : ItemV) (bx : Nat) (w : World) (N : Nums w x.av x.ns) (hl : x.ns.length ≤ 1000000) (hb : bx < w.heap.size) (h0 : w.cell? ⟨bx, 0, none⟩ = some (.func (.func 13) #[] #[])) :
    Calls Tryd.prog 17 (#[.agg (encItem x).toArray] ++ #[.pointer (some ⟨bx, 0, none⟩)]) w fun e w' => e = .returned (.bool (!insideB x.ns)) ∧ Keep NoB w w' := by
  obtain ⟨nm, tg, av, ns⟩ := x
  simp only at N hl
  obtain ⟨p, c, rfl⟩ := N.len
  have hi := inside_any _ ns (w.alloc (.cells #[.string nm, .string tg, .slice p ns.length c] 34)) (N.keep ((Keep.refl NoB w).alloc _) (fun _ _ x => x)) hl
  obtain ⟨B, hB⟩ : ∃ B, B = insideB ns := ⟨_, rfl⟩
  obtain ⟨n, hn⟩ : ∃ n, n = ns.length := ⟨_, rfl⟩
  simp only [encItem]
  rw [← hB, ← hn] at hi ⊢
  show Calls Tryd.prog 17 #[.agg #[.string nm, .string tg, .slice p n c], .pointer (some ⟨bx, 0, none⟩)] w _
  clear hB hn N
  go_enter Tryd.func17, Tryd.ntmps17
  go_wp2_with fail
  refine hi.mono ?_
  rintro e w' ⟨rfl, hw⟩
  subst w'
  go_wp2_with fail
  go_ret
  exact ⟨rfl, (Keep.refl _ _).alloc _⟩
theorem moved_any (v : Value) (a b p q : Int) (bp bq : Nat) (w : World) (N : Nums w v [a, b]) (hp : w.cell? ⟨bp, 0, none⟩ = some (.int .i64 p)) (hq : w.cell? ⟨bq, 0, none⟩ = some (.int .i64 q)) (ha : -5000 ≤ a + p ∧ a + p ≤ 5000) (hb : -5000 ≤ b + q ∧ b + q ≤ 5000) :
    Calls Tryd.prog 12 #[v, .pointer (some ⟨bp, 0, none⟩), .pointer (some ⟨bq, 0, none⟩)] w fun e w' => e = .returned (.slice (some ⟨w.heap.size, 0, none⟩) 2 2) ∧ w'.heap[w.heap.size]? = some (.cells #[.int .i64 (a + p), .int .i64 (b + q)] 3 (0, 0)) ∧ Keep NoB w w' := by
  obtain ⟨pa, c, rfl⟩ := N.len
  obtain ⟨B, off, rfl, _, hB, hc⟩ := N.at (by simp)
  have c0 : w.cell? ⟨B, off, none⟩ = some (.int .i64 a) := hc 0 (by simp)
  have c1 : w.cell? ⟨B, off + 1, none⟩ = some (.int .i64 b) := hc 1 (by simp)
  have r1 : IntKind.i64.wrap (a + p) = a + p := IntWalk.i64_in _ (by omega)
  have r2 : IntKind.i64.wrap (b + q) = b + q := IntWalk.i64_in _ (by omega)
  clear hc N
  show Calls Tryd.prog 12 #[.slice (some ⟨B, off, none⟩) 2 c, .pointer (some ⟨bp, 0, none⟩), .pointer (some ⟨bq, 0, none⟩)] w _
  go_enter Tryd.func12, Tryd.ntmps12
  go_wp2_with fail
  refine wp_region_qt_drew 10 (by kernel_rfl) (by kernel_rfl) ?_
  simp only [List.take_succ_cons, List.take_zero, List.drop_succ_cons, List.drop_zero]
  iterate 10 ((with_reducible refine wpQuiet_step (fun K hK => ?_)); go_simp; refine hK _ ?_; clear hK K)
  refine wpQuiet_nil ?_
  intro m
  go_wp2_with fail
  go_ret
  exact ⟨rfl, heap_alloc_new (w.drewN m) _, ((Keep.refl _ _).drewN m).alloc _⟩
end Go.Proofs.YtcjilojkhmondaaDoor
