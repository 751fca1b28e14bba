/-
  DERIVED. Rows that a call owns: behind a sort; the first of them; append of other rows, be they empty or not.
-/
import Derived.Test.YtcjilojkhmondaaDoorTop
set_option linter.unusedVariables false
set_option linter.unusedSimpArgs false
namespace Go.Cof
open Go.RowKit Go.Sort Go.Shelf
open Go.Proofs (sortWorldK)
section
variable {α : Type} {enc : α → List Value} {k : Nat} {w : World}
/-- Behind a sort the row is owned as it was, and holds what was sorted. -/
theorem own_sorted [Inhabited α] {base : Nat} {e : TypeId} {g cap n m : Nat} {xs : List Value} {d' : Array α} {os : Array Obj} (hk : ∀ x, (enc x).length = k) (h : OwnsN w base e k (.slice (some ⟨g, 0, none⟩) n cap) n xs) (hs : d'.size = n) :
    OwnsN (sortWorldK enc k w g 0 m d' os) base e k (.slice (some ⟨g, 0, none⟩) n cap) n (d'.toList.flatMap enc) := by
  obtain ⟨hlen, h⟩ := h
  refine ⟨by rw [flat_len hk]; simp [hs], ?_⟩
  rcases h with ⟨h, _⟩ | ⟨g', cap', cur, fz, hv, hb, hg, hcl, hn, hm, hsz, ht⟩
  · cases h
  · cases hv
    have hgl := lt_of_heap hg
    refine .inr ⟨g, cap, putCells id 0 (flatK enc k d') cur, fz, rfl, hb, ?_, ?_, hn, hm, ?_, ?_⟩
    · show (Sort.grow (putRowK enc k (Sort.ahead w m) g 0 d') os).heap[g]? = _
      rw [heap_grow_old _ _ (by show g < (w.heap.modify g _).size; rw [Array.size_modify]; exact hgl)]
      show (w.heap.modify g (onCells _))[g]? = _
      rw [Array.getElem?_modify, if_pos rfl, hg]
      rfl
    · intro i hi
      exact hcl i (by simpa [putCells] using hi)
    · simpa [putCells] using hsz
    · apply List.ext_getElem?
      intro t
      have hcs : n * k ≤ cur.size := by rw [hsz]; exact Nat.mul_le_mul_right k hn
      by_cases htt : t < n * k
      · have hk0 : 0 < k := by rcases Nat.eq_zero_or_pos k with h | h; (subst h; simp at htt); exact h
        have hi : t / k < d'.size := by rw [hs]; exact Nat.div_lt_of_lt_mul (by rwa [Nat.mul_comm] at htt)
        have hj : t % k < k := Nat.mod_lt _ hk0
        have hsum : t / k * k + t % k = t := by rw [Nat.mul_comm]; exact Nat.div_add_mod t k
        have h2 := flat_get hk d'.toList (t / k) (t % k) hj
        rw [hsum] at h2
        rw [List.getElem?_take, if_pos htt, h2, Array.getElem?_toList, putCells, Array.getElem?_mapIdx, Array.getElem?_eq_getElem (by omega), Option.map_some, if_pos ⟨Nat.zero_le _, by rw [size_flatK, hs]; omega⟩, Nat.sub_zero, get_flatK enc k d' t (by rw [hs]; exact htt), Array.getElem?_toList, Array.getElem?_eq_getElem hi, Option.bind_some]
        have h3 : d'[t / k]! = d'[t / k] := by rw [getElem!_pos d' _ hi]
        rw [h3, List.getElem?_eq_getElem (by rw [hk]; exact hj)]
        show some ((enc d'[t / k])[t % k]!) = _
        rw [List.getElem!_eq_getElem?_getD, List.getElem?_eq_getElem (by rw [hk]; exact hj)]
        rfl
      · rw [List.getElem?_take, if_neg htt, List.getElem?_eq_none (by rw [flat_len hk]; simp [hs]; omega)]
theorem sorted_keep [Inhabited α] {g m : Nat} {d' : Array α} {os : Array Obj} (hg : g < w.heap.size) : Keep (OneB g) w (sortWorldK enc k w g 0 m d' os) := by
  have hsz : (putRowK enc k (Sort.ahead w m) g 0 d').heap.size = w.heap.size := size_putRow _ _ _ _ _
  refine ⟨rfl, rfl, rfl, ?_, fun b hb hn => ?_⟩
  · show w.heap.size ≤ (Sort.grow (putRowK enc k (Sort.ahead w m) g 0 d') os).heap.size
    rw [size_grow, hsz]; omega
  · show (Sort.grow (putRowK enc k (Sort.ahead w m) g 0 d') os).heap[b]? = w.heap[b]?
    rw [heap_grow_old _ _ (by rw [hsz]; exact hb)]
    show (w.heap.modify g _)[b]? = _
    rw [Array.getElem?_modify]
    rw [if_neg (fun e => hn e.symm)]
/-- The first of them. -/
theorem OwnsN.take {base : Nat} {e : TypeId} {g n cap : Nat} {xs : List Value} (h : OwnsN w base e k (.slice (Option.some ⟨g, 0, none⟩) n cap) n xs) (m : Nat) (hm : m ≤ n) : OwnsN w base e k (.slice (Option.some ⟨g, 0, none⟩) m cap) m (xs.take (m * k)) := by
  obtain ⟨hlen, h⟩ := h
  refine ⟨by rw [List.length_take, hlen]; exact Nat.min_eq_left (Nat.mul_le_mul_right k hm), ?_⟩
  rcases h with ⟨h, _⟩ | ⟨g', cap', cur, fz, hv, hb, hg, hcl, hn, hmx, hsz, ht⟩
  · cases h
  · cases hv
    refine .inr ⟨g, cap, cur, fz, rfl, hb, hg, hcl, Nat.le_trans hm hn, hmx, hsz, ?_⟩
    rw [← ht, List.take_take, Nat.min_eq_left (Nat.mul_le_mul_right k hm)]
theorem flat_take (hk : ∀ x, (enc x).length = k) : ∀ (l : List α) (m : Nat), (l.flatMap enc).take (m * k) = (l.take m).flatMap enc
  | [], m => by simp
  | x :: l, 0 => by simp
  | x :: l, m + 1 => by
    rw [List.flatMap_cons, List.take_succ_cons, List.flatMap_cons, Nat.succ_mul, Nat.add_comm, ← hk x, List.take_length_add_append, hk x, flat_take hk l m]
theorem run_append_nils {P : Program} {t ty e : TypeId} {i : TypeInfo} (ht : P.underlying t = some (.slice e)) (hi : P.info? e = some i) (p : Option Addr) (c : Nat) :
    (Builtin.append_ #[t, t] ty #[.slice none 0 0, .slice p 0 c]).run P w = .ok (.slice none 0 0) w := by
  cases p with
  | none => simp [Builtin.append_, run_underlying ht, sizeOf, typeInfo, hi, Builtin.lenOf, Addr.add_lit, storeCells, Builtin.firstCells]
  | some q =>
    have hld : (loadCells q 0).run P w = .ok #[] w := by simp [loadCells, loadCellsFrom]
    simp [Builtin.append_, run_underlying ht, sizeOf, typeInfo, hi, Builtin.lenOf, Addr.add_lit, Builtin.firstCells, hld, storeCells]
theorem run_append_zeros {P : Program} {t ty e : TypeId} {i : TypeInfo} (ht : P.underlying t = some (.slice e)) (hi : P.info? e = some i) (g n cap : Nat) (hn : n ≤ cap) (p : Option Addr) (c : Nat) :
    (Builtin.append_ #[t, t] ty #[.slice (some ⟨g, 0, none⟩) n cap, .slice p 0 c]).run P w = .ok (.slice (some ⟨g, 0, none⟩) n cap) w := by
  cases p with
  | none => simp [Builtin.append_, run_underlying ht, sizeOf, typeInfo, hi, Builtin.lenOf, hn, Addr.add_lit, storeCells, Builtin.firstCells]
  | some q =>
    have hld : (loadCells q 0).run P w = .ok #[] w := by simp [loadCells, loadCellsFrom]
    simp [Builtin.append_, run_underlying ht, sizeOf, typeInfo, hi, Builtin.lenOf, hn, Addr.add_lit, Builtin.firstCells, hld, storeCells]
/-- append of rows onto a row that the call owns. -/
theorem wpList_append_rows {P : Program} {ops : Array Oper} {rest : List Oper} {o : Oper} {a : Act} {Q : Exit → Act → World → Prop} (hgd : o.guard = none) (s x : Operand) (t : TypeId)
    (ho : o.op = .call { callee := .builtin .append, args := #[s, x], argTypes := #[t, t] })
    (base : Nat) (e : TypeId) (i : TypeInfo) (z : Value) (bytes : Nat) (ht : P.underlying t = some (.slice e)) (hi : P.info? e = some i) (hz : i.zero = some z)
    (hsize : i.size = k) (hby : i.bytes = bytes) (hzs : z.cells.size = k) (hsz : 0 < k) (hk : ∀ x, (enc x).length = k) (v : Value) (n : Nat) (xs : List Value) (hs : a.eval s = v) (hown : OwnsN w base e k v n xs)
    (u : Value) (l : List α) (hx : a.eval x = u) (R : RowsK w u k enc l) (h1 : ∀ u ∈ l.flatMap enc, u.oneCell' = true)
    (h63 : n + l.length ≤ maxLen) (hbytes : (n + l.length) * bytes ≤ 140737488355328) (hbase : base ≤ w.heap.size)
    (h : ∀ v' w', OwnsN w' base e k v' (n + l.length) (xs ++ l.flatMap enc) → Keep (fun b => base ≤ b) w w' → wpList P ops Q rest (a.put o.dst v') w') : wpList P ops Q (o :: rest) a w := by
  by_cases h0 : l.length = 0
  · obtain rfl : l = [] := List.eq_nil_of_length_eq_zero h0
    obtain ⟨p, c, rfl⟩ := R.len
    rw [List.length_nil] at hx
    refine wpList_plain hgd fun K hK => ?_
    unfold Oper.wp execOp
    have hr : (Builtin.append_ #[t, t] o.type #[v, .slice p 0 c]).run P w = .ok v w := by
      rcases hown.2 with ⟨hv, _⟩ | ⟨g2, cap2, cur, fz, hv, _, _, _, hc, _⟩
      · rw [hv]; exact run_append_nils ht hi p c
      · rw [hv]; exact run_append_zeros ht hi g2 n cap2 hc p c
    simp only [ho, resolve, invoke, builtin, Sem.run_bind, Sem.run_pure, Result.andThen_ok, List.map_toArray, List.map_cons, List.map_nil, hs, hx, hr]
    refine hK _ _ ?_
    exact h v w (by rw [List.flatMap_nil, List.append_nil, List.length_nil, Nat.add_zero]; exact hown) (Keep.refl _ _)
  · obtain ⟨p, c, rfl⟩ := R.len
    obtain ⟨b, off, rfl, _, _, hc⟩ := R.at (by omega)
    refine wpList_append_n (w := w) hgd s x t ho base e i z k bytes ht hi hz hsize hby hzs hsz v n xs hs hown ⟨b, off, none⟩ l.length c (l.flatMap enc) hx (flat_len hk l) (fun j u hu => ?_) h1 h63 hbytes hbase ?_
    · have hj : j < l.length * k := by have := (List.getElem?_eq_some_iff.1 hu).1; rwa [flat_len hk] at this
      have hjk : j % k < k := Nat.mod_lt _ hsz
      have hsum : j / k * k + j % k = j := by rw [Nat.mul_comm]; exact Nat.div_add_mod j k
      have h2 := flat_get hk l (j / k) (j % k) hjk
      rw [hsum, hu] at h2
      cases hy : l[j / k]? with
      | none => rw [hy] at h2; cases h2
      | some y =>
        rw [hy] at h2
        have := hc (j / k) y hy (j % k) u h2.symm
        rw [show (⟨b, off, none⟩ : Addr).add j = ⟨b, off + j, none⟩ by unfold Addr.add; split <;> simp_all]
        rwa [Nat.add_assoc, hsum] at this
    · intro v' w' own hg
      exact h v' w' own ((Keep.refl _ _).grown hg (fun b hb => .inl (hown.lt b hb).1))
end
end Go.Cof
namespace Go.Proofs.YtcjilojkhmondaaDoor
open Go.RowKit Go.Cof Go.Sort Go.Shelf
/-- slices.SortFunc of what was found, the row owned behind it, too. -/
theorem sortFoundN_any (v : Value) (l : List FoundV) (base : Nat) (w : World) (h : OwnsN w base 43 2 v l.length (l.flatMap encF)) (hl : l.length ≤ 1000000) :
    Calls Tryd.prog 47 #[v, .func (.func 21) #[] #[]] w fun e w' => e = .returned (.tuple #[]) ∧ OwnsN w' base 43 2 v l.length ((sortF l).flatMap encF) ∧ Keep (fun b => base ≤ b) w w' := by
  have h0 := h
  obtain ⟨hlen, h⟩ := h
  rcases h with ⟨rfl, hn⟩ | ⟨g, cap, cur, fz, rfl, hb, hg, _⟩
  · have hn' : l = [] := List.eq_nil_of_length_eq_zero hn
    subst hn'
    have hcon := AnyF.slices_SortFunc_none { Tryd.sortFound with } none 0 (.func (.func 21) #[] #[]) w
    change Calls Tryd.prog 47 _ _ _ at hcon
    refine hcon.mono ?_
    rintro e w' ⟨he, rfl⟩
    exact ⟨he, by rw [sortF_nil]; exact h0, Keep.refl _ _⟩
  · have hH := HoldsK.ofN encF_len h0
    have hgl := lt_of_heap hg
    have eg : ∀ args w, (callFunc 21 args).run Tryd.prog w = .ok (.enter 21 args) w := enters_of Tryd.func21 (by kernel_rfl) rfl
    have hcmp : CmpLays Tryd.prog 21 #[] encF 2 cmpF g 0 l.toArray.size w := fun m os dk hdk x y => (compare_any x y _).mono fun e w' h => ⟨h.1, h.2⟩
    have hcon := AnyQ.slices_SortFunc_total Tryd.sortFound 2 Tryd.isAgg43 Tryd.sizeOf43 encF encF_len encF_one cmpF swo_cmpF 21 #[] g 0 cap l.toArray w eg hcmp hH hgl (by simp; omega) total_cmpF
    change Calls Tryd.prog 47 _ _ _ at hcon
    have hs : l.toArray.size = l.length := by simp
    rw [hs] at hcon
    refine hcon.mono ?_
    rintro e w' ⟨he, n, os, rfl⟩
    have hd : ((l.toArray.toList.mergeSort fun x y => !(ltOf cmpF) y x).toArray).size = l.length := by simp
    have h1 := own_sorted (m := n) (os := os) encF_len h0 hd
    have h2 := sorted_keep (enc := encF) (k := 2) (m := n) (os := os) (d' := (l.toArray.toList.mergeSort fun x y => !(ltOf cmpF) y x).toArray) hgl
    refine ⟨he, ?_, h2.mono fun i _ hi => by rw [show i = g from hi]; exact hb⟩
    have e1 : ((l.toArray.toList.mergeSort fun x y => !(ltOf cmpF) y x).toArray).toList = sortF l := by simp [sortF]
    rw [e1] at h1
    exact h1
end Go.Proofs.YtcjilojkhmondaaDoor
