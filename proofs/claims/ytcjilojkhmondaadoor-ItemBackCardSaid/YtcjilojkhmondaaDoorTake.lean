/-
  DERIVED. A region that draws its order: what only reads, in a class of worlds that all the others keep, may be taken first; the others are one row.
-/
import Derived.Test.YtcjilojkhmondaaDoorQt
set_option linter.unusedVariables false
set_option linter.unusedSimpArgs false
namespace Go.Cof
section
variable {P : Program} {ops : Array Oper} {md : Region.Mode} {C : World → Prop} {Q : Exit → Act → World → Prop}
def YieldsC (P : Program) (ops : Array Oper) (C : World → Prop) (o : Oper) (v : Value) (a : Act) : Prop :=
  (Region.wanted o (yielded ops a.tmps) = true ∧ ∀ w, C w → (execOp a.eval o).run P w = .ok (.value v) w) ∨ (Region.wanted o (yielded ops a.tmps) = false ∧ v = undef)
theorem YieldsC.of_same {o : Oper} {v : Value} {a a' : Act} (hy : YieldsC P ops C o v a) (he : execOp a'.eval o = execOp a.eval o)
    (hw : Region.wanted o (yielded ops a'.tmps) = Region.wanted o (yielded ops a.tmps)) : YieldsC P ops C o v a' := by
  unfold YieldsC at *
  rw [he, hw]
  exact hy
theorem YieldsC.wpOp {i : Nat} {o : Oper} {v : Value} {a : Act} {w : World} {K : Act → World → Prop} (hy : YieldsC P ops C o v a) (hi : ops[i]? = some o) (hC : C w) (h : K (a.put o.dst v) w) : Go.wpOp P ops Q i K a w := by
  unfold Go.wpOp
  simp only [hi]
  rcases hy with ⟨hw, hv⟩ | ⟨hw, rfl⟩
  · simp only [hw, if_true, Oper.wp, hv w hC, Oper.upon]; exact .inl h
  · simp only [hw, Bool.false_eq_true, if_false]; exact h
theorem wpOp_putC {j : Nat} {oi oj : Oper} {v : Value} (hj : ops[j]? = some oj) (hap : oi.apart ops oj = true)
    (hsi : ∀ cs b, oi.op ≠ .select cs b) (hsj : ∀ cs b, oj.op ≠ .select cs b)
    (hQ : ∀ c a w, Q (.panic c) (a.put oi.dst v) w → Q (.panic c) a w) {K : Act → World → Prop} {a : Act} {w : World}
    (hy : YieldsC P ops C oi v a) (h : wpOp P ops Q j K (a.put oi.dst v) w) :
    wpOp P ops Q j (fun a' w' => YieldsC P ops C oi v a' ∧ K (a'.put oi.dst v) w') a w := by
  obtain ⟨h1, h2, h3⟩ := Oper.apart_spec hap
  have keep : ∀ (a : Act), YieldsC P ops C oi v a → ∀ u, YieldsC P ops C oi v (a.put oj.dst u) := fun a hy u =>
    hy.of_same (execOp_put oi hsi a oj.dst u h3) (wanted_put oi a oj.dst u h3)
  have keepD : ∀ d, YieldsC P ops C oi v { a with defers := d :: a.defers } := fun d => hy.of_same rfl rfl
  unfold wpOp at *
  simp only [hj] at *
  rw [wanted_put oj a oi.dst v h1] at h
  split
  · rename_i hw
    simp only [hw, if_true] at h
    rcases h with h | ⟨hasks, hlets⟩
    case inr => exact .inr ⟨by unfold Oper.asks at *; rw [execOp_put oj hsj a oi.dst v h1] at hasks; exact hasks, hlets⟩
    refine .inl ?_
    unfold Oper.wp at *
    rw [execOp_put oj hsj a oi.dst v h1] at h
    generalize (execOp a.eval oj).run P w = r at *
    cases r with
    | ok n w' =>
      cases n <;> simp only [Oper.upon] at h ⊢
      case value u => exact ⟨keep a hy u, by rw [← Act.put_comm a v u h2]; exact h⟩
      case skip => exact ⟨keep a hy _, by rw [← Act.put_comm a v undef h2]; exact h⟩
      case defer d =>
        refine ⟨keep _ (keepD d) _, ?_⟩
        rw [← Act.put_comm _ v undef h2, ← Act.put_defers]
        exact h
      case enter f args =>
        refine Calls.mono h fun e w'' he => ?_
        cases e with
        | returned u => exact ⟨keep a hy u, by rw [← Act.put_comm a v u h2]; exact he⟩
        | panicked c => exact hQ _ _ _ he
        | outgrown => exact he
      case row row args => exact Rows.mono h fun u w'' he => ⟨keep a hy u, by rw [← Act.put_comm a v u h2]; exact he⟩
    | halt x w' =>
      cases x <;> simp only [Oper.upon] at h ⊢
      case panic u => exact hQ _ _ _ h
  · rename_i hw
    simp only [hw] at h
    exact ⟨keep a hy _, by rw [← Act.put_comm a v undef h2]; exact h⟩
theorem wpOp_of_list1 {K : Act → World → Prop} {i : Nat} {o : Oper} (ho : ops[i]? = some o) {a : Act} {w : World} (h : wpList P ops (Exit.then K Q) (pickL ops [i]) a w) : wpOp P ops Q i K a w := by
  unfold wpOp
  simp only [pickL, ho, wpList] at h ⊢
  split
  · rename_i hw
    rw [if_pos hw] at h
    rcases h with h | ⟨h1, h2⟩
    · left
      unfold Oper.wp at *
      generalize (execOp a.eval o).run P w = r at *
      cases r with
      | ok n w' =>
        cases n <;> simp only [Oper.upon] at h ⊢ <;> first | exact h | (refine Calls.mono h fun e w'' he => ?_; cases e <;> first | exact he | (obtain ⟨a2, w2, h3⟩ := he; exact ⟨a2, w2, h3⟩))
      | halt x w' => cases x <;> simp only [Oper.upon] at h ⊢; exact h
    · right
      obtain ⟨a2, w2, h3⟩ := h2
      exact ⟨h1, a2, w2, h3⟩
  · rename_i hw
    rw [if_neg hw] at h
    exact h
/-- As wpAny; and each world on the way is of the class. -/
def wpAnyC (P : Program) (md : Region.Mode) (ops : Array Oper) (C : World → Prop) (Q : Exit → Act → World → Prop) : Nat → Array Bool → Act → World → Prop
  | 0, listed, a, w => (∀ j, j < ops.size → listed.getD j false = true) ∧ Q .normal a w
  | fuel + 1, listed, a, w => C w ∧ (Region.ready md ops listed = [] → Q .normal a w) ∧
    ∀ i ∈ Region.ready md ops listed, wpOp P ops Q i (wpAnyC P md ops C Q fuel (listed.setIfInBounds i true)) a w
theorem wpAny_of_C : ∀ (fuel : Nat) (listed : Array Bool) (a : Act) (w : World), wpAnyC P md ops C Q fuel listed a w → wpAny P md ops Q fuel listed a w
  | 0, listed, a, w, h => by
    refine ⟨?_, h.2⟩
    cases hr : Region.ready md ops listed with
    | nil => rfl
    | cons j r =>
      have hj : j ∈ Region.ready md ops listed := by rw [hr]; exact List.mem_cons_self
      obtain ⟨h0, o, ho, _⟩ := mem_ready.1 hj
      have h1 := h.1 j (Array.getElem?_eq_some_iff.1 ho).1
      rw [getD_both h0] at h1
      cases h1
  | fuel + 1, listed, a, w, h => ⟨h.2.1, fun i hi => wpOp_mono (fun a' w' h' => wpAny_of_C fuel _ a' w' h') (h.2.2 i hi)⟩
/-- Some operation that has not come up waits for it. -/
def Awaits (md : Region.Mode) (ops : Array Oper) (listed : Array Bool) (i : Nat) : Prop := ∃ j oj, ops[j]? = some oj ∧ j ≠ i ∧ listed.getD j true = false ∧ ∃ e ∈ oj.after, Region.binds md e = true ∧ e.on = i
theorem wpAnyC_first {i : Nat} {oi : Oper} {v : Value} (hi : ops[i]? = some oi) (hsel : ∀ (j : Nat) (o : Oper) cs b, ops[j]? = some o → o.op ≠ .select cs b)
    (hQ : ∀ c a w, Q (.panic c) (a.put oi.dst v) w → Q (.panic c) a w) :
    ∀ (fuel : Nat) (listed : Array Bool) (a : Act) (w : World),
      (∀ j oj, ops[j]? = some oj → j ≠ i → listed.getD j true = false → (∀ e ∈ oj.after, Region.binds md e = true → e.on ≠ i) → oi.apart ops oj = true) →
      i ∈ Region.ready md ops listed → Awaits md ops listed i → YieldsC P ops C oi v a →
      wpAnyC P md ops C Q fuel (listed.setIfInBounds i true) (a.put oi.dst v) w → wpAnyC P md ops C Q (fuel + 1) listed a w := by
  intro fuel
  induction fuel with
  | zero =>
    intro listed a w _ hr haw hy H
    obtain ⟨j, oj, hoj, hji, hun, _⟩ := haw
    have h1 := H.1 j (Array.getElem?_eq_some_iff.1 hoj).1
    rw [getD_set_ne false (fun e => hji e.symm), getD_both hun] at h1
    cases h1
  | succ fuel ih =>
    intro listed a w hfree hr haw hy H
    refine ⟨H.1, fun h => (by rw [h] at hr; cases hr), fun j hj => ?_⟩
    by_cases hji : j = i
    · subst hji; exact hy.wpOp hi H.1 H
    · have h1 := H.2.2 j (ready_mono hj hji)
      obtain ⟨hjun, oj, hoj, hall⟩ := mem_ready.1 hj
      have hnot : ∀ e ∈ oj.after, Region.binds md e = true → e.on ≠ i := fun e he hb heq => by
        have h1 := hall e he hb
        have h0 := (mem_ready.1 hr).1
        rw [heq, getD_both h0] at h1
        cases h1
      have h2 := wpOp_putC hoj (hfree j oj hoj hji hjun hnot) (fun cs b => hsel i oi cs b hi) (fun cs b => hsel j oj cs b hoj) hQ hy h1
      have hfree' : ∀ k ok, ops[k]? = some ok → k ≠ i → (listed.setIfInBounds j true).getD k true = false →
          (∀ e ∈ ok.after, Region.binds md e = true → e.on ≠ i) → oi.apart ops ok = true := fun k ok hk hki hun hno => by
        refine hfree k ok hk hki ?_ hno
        by_cases hjk : j = k
        · subst hjk; exact hjun
        · rw [getD_set_ne true hjk] at hun; exact hun
      have haw' : Awaits md ops (listed.setIfInBounds j true) i := by
        obtain ⟨k, ok, hok, hki, hun, e, he, hb, hon⟩ := haw
        refine ⟨k, ok, hok, hki, ?_, e, he, hb, hon⟩
        have hjk : j ≠ k := fun ejk => by
          subst ejk
          rw [hoj] at hok
          cases hok
          exact hnot e he hb hon
        rw [getD_set_ne true hjk]
        exact hun
      refine wpOp_mono (fun a' w' h3 => ih (listed.setIfInBounds j true) a' w' hfree' (ready_mono hr (Ne.symm hji)) haw' h3.1 ?_) h2
      rw [Array.setIfInBounds_comm _ _ hji]
      exact h3.2
def awaitsB (md : Region.Mode) (ops : Array Oper) (listed : Array Bool) (i : Nat) : Bool :=
  (List.range ops.size).any fun j => decide (j ≠ i) && !listed.getD j true && (match ops[j]? with | some oj => oj.after.any (fun e => Region.binds md e && decide (e.on = i)) | none => false)
theorem awaits_of {listed : Array Bool} {i : Nat} (h : awaitsB md ops listed i = true) : Awaits md ops listed i := by
  obtain ⟨j, _, hj⟩ := List.any_eq_true.1 h
  simp only [Bool.and_eq_true, decide_eq_true_eq, Bool.not_eq_true'] at hj
  obtain ⟨⟨h1, h2⟩, h3⟩ := hj
  cases ho : ops[j]? with
  | none => rw [ho] at h3; cases h3
  | some oj =>
    rw [ho] at h3
    obtain ⟨e, he, hb⟩ := Array.any_eq_true'.1 h3
    simp only [Bool.and_eq_true, decide_eq_true_eq] at hb
    exact ⟨j, oj, ho, h1, h2, e, he, hb.1, hb.2⟩
/-- What may be taken ahead, in the class; then the row. -/
def takeOk (md : Region.Mode) (ops : Array Oper) (R : List Nat) : List Nat → Array Bool → Bool
  | [], done => rowAll R done
  | i :: r, done => (Region.ready md ops done).contains i && Region.free md ops done i && awaitsB md ops done i && takeOk md ops R r (done.setIfInBounds i true)
where rowAll : List Nat → Array Bool → Bool
  | [], done => (List.range ops.size).all fun j => done.getD j false
  | i :: r, done => decide (Region.ready md ops done = [i]) && rowAll r (done.setIfInBounds i true)
/-- A world of a class. -/
structure InC (C : World → Prop) where
  w : World
  h : C w
def wpEarlyC (P : Program) (ops : Array Oper) (C : World → Prop) (Z : Act → Prop) : List Oper → Act → Prop
  | [], a => Z a
  | o :: rest, a => if Region.wanted o (yielded ops a.tmps) then ∃ v, (∀ x : InC C, (execOp a.eval o).run P x.w = .ok (.value v) x.w) ∧ wpEarlyC P ops C Z rest (a.put o.dst v) else wpEarlyC P ops C Z rest (a.put o.dst undef)
theorem wpEarlyC_nil {Z : Act → Prop} {a : Act} (h : Z a) : wpEarlyC P ops C Z [] a := h
theorem wpEarlyC_step {Z : Act → Prop} {a : Act} {o : Oper} {rest : List Oper}
    (h : ∀ K : Act → Prop, (∀ a, wpEarlyC P ops C Z rest a → K a) → if Region.wanted o (yielded ops a.tmps) then ∃ v, (∀ x : InC C, (execOp a.eval o).run P x.w = .ok (.value v) x.w) ∧ K (a.put o.dst v) else K (a.put o.dst undef)) : wpEarlyC P ops C Z (o :: rest) a :=
  h _ (fun _ h => h)
def wpRowC (P : Program) (ops : Array Oper) (C : World → Prop) (Q : Exit → Act → World → Prop) : List Nat → Act → World → Prop
  | [], a, w => Q .normal a w
  | i :: r, a, w => C w ∧ wpList P ops (Exit.then (wpRowC P ops C Q r) Q) (pickL ops [i]) a w
theorem wpAnyC_of_row : ∀ (R : List Nat) (done : Array Bool) (a : Act) (w : World), takeOk.rowAll md ops R done = true → wpRowC P ops C Q R a w → wpAnyC P md ops C Q R.length done a w
  | [], done, a, w, hB, h => ⟨fun j hj => List.all_eq_true.1 hB j (List.mem_range.2 hj), h⟩
  | i :: r, done, a, w, hB, h => by
    simp only [takeOk.rowAll, Bool.and_eq_true, decide_eq_true_eq] at hB
    refine ⟨h.1, fun h0 => (by rw [hB.1] at h0; cases h0), fun j hj => ?_⟩
    obtain ⟨_, o, ho, _⟩ := mem_ready.1 hj
    rw [hB.1, List.mem_singleton] at hj
    subst hj
    exact wpOp_mono (fun a' w' h' => wpAnyC_of_row r _ a' w' hB.2 h') (wpOp_of_list1 ho h.2)
theorem wpAnyC_early {w : World} (hns : Region.noSelect ops = true) (hQ : ∀ c (a : Act) d v w, Q (.panic c) (a.put d v) w → Q (.panic c) a w) (R : List Nat) :
    ∀ (S : List Nat) (done : Array Bool) (a : Act), takeOk md ops R S done = true → wpEarlyC P ops C (fun a' => wpRowC P ops C Q R a' w) (pickL ops S) a → wpAnyC P md ops C Q (S.length + R.length) done a w
  | [], done, a, hB, h => by
    rw [List.length_nil, Nat.zero_add]
    exact wpAnyC_of_row R done a w hB h
  | i :: S, done, a, hB, h => by
    simp only [takeOk, Bool.and_eq_true] at hB
    obtain ⟨⟨⟨hr, hf⟩, hw⟩, hB'⟩ := hB
    have hr' : i ∈ Region.ready md ops done := by simpa using hr
    obtain ⟨_, o, h0, _⟩ := mem_ready.1 hr'
    simp only [pickL, h0] at h
    rw [show (i :: S).length + R.length = (S.length + R.length) + 1 by simp only [List.length_cons]; omega]
    unfold wpEarlyC at h
    by_cases hwt : Region.wanted o (yielded ops a.tmps) = true
    · simp only [hwt, if_true] at h
      obtain ⟨v, hv, hK⟩ := h
      exact wpAnyC_first h0 (Region.noSelect_spec hns) (fun c a w hq => hQ c a _ _ w hq) _ done a w (Region.free_spec h0 hf) hr' (awaits_of hw) (.inl ⟨hwt, fun w hC => hv ⟨w, hC⟩⟩) (wpAnyC_early hns hQ R S _ _ hB' hK)
    · simp only [hwt, Bool.false_eq_true, if_false] at h
      exact wpAnyC_first h0 (Region.noSelect_spec hns) (fun c a w hq => hQ c a _ _ w hq) _ done a w (Region.free_spec h0 hf) hr' (awaits_of hw) (.inr ⟨by simpa using hwt, rfl⟩) (wpAnyC_early hns hQ R S _ _ hB' h)
/-- ONE WALK: what reads, in the class, first; then the row, each world of it in the class. -/
theorem wp_region_take {id : Nat} {l : List Oper} {a : Act} {w : World} (C : World → Prop) (S R : List Nat) (hm : P.follows .mixedOrders = true) (hB : (Region.noSelect l.toArray && takeOk .any l.toArray R S (Array.replicate l.toArray.size false) && decide (S.length + R.length = l.toArray.size)) = true)
    (hQ : ∀ c (a : Act) d v w, Q (.panic c) (a.put d v) w → Q (.panic c) a w)
    (h : wpEarlyC P l.toArray C (fun a' => wpRowC P l.toArray C Q R a' w.drew) (pickL l.toArray S) a) : (Code.region id l.toArray true).wp P Q a w := by
  simp only [Bool.and_eq_true, decide_eq_true_eq] at hB
  obtain ⟨⟨hns, hB⟩, hl⟩ := hB
  refine wp_region_any hm ?_
  have H := wpAny_of_C _ _ _ _ (wpAnyC_early (md := .any) hns hQ R S _ a hB h)
  rwa [hl] at H
end
end Go.Cof
