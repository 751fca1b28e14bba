/-
  DERIVED. append of a slice of texts, be it empty or not, onto a row.
-/
import Derived.Test.YtndcaaikjcicgaaDoorTexts
set_option linter.unusedVariables false
set_option linter.unusedSimpArgs false
namespace Go.Cof
open Go.RowKit
theorem addr_add (b off i : Nat) : (⟨b, off, none⟩ : Addr).add i = ⟨b, off + i, none⟩ := by unfold Addr.add; split <;> simp_all
theorem strCells_one (l : List ByteArray) : ∀ u ∈ strCells l, u.oneCell' = true := by
  intro u hu
  simp only [strCells, List.mem_map] at hu
  obtain ⟨s, _, rfl⟩ := hu
  rfl
theorem strCells_len (l : List ByteArray) : (strCells l).length = l.length * 1 := by rw [strCells, List.length_map, Nat.mul_one]
theorem strCells_append (a b : List ByteArray) : strCells (a ++ b) = strCells a ++ strCells b := by simp [strCells]
theorem strs_src {w : World} {b off : Nat} {l : List ByteArray} (h : ∀ i, i < l.length → w.cell? ⟨b, off + i, none⟩ = some (.string (l.getD i ⟨#[]⟩))) : ∀ (j : Nat) (u : Value), (strCells l)[j]? = some u → w.cell? ((⟨b, off, none⟩ : Addr).add j) = some u := by
  intro j u hu
  have hj : j < l.length := by
    have := (List.getElem?_eq_some_iff.1 hu).1
    rwa [strCells, List.length_map] at this
  rw [addr_add, h j hj, ← hu, strCells, List.getElem?_map, List.getD_eq_getElem?_getD, List.getElem?_eq_getElem hj]
  rfl
theorem run_append_zero {P : Program} {w : World} {t ty e : TypeId} {i : TypeInfo} (ht : P.underlying t = some (.slice e)) (hi : P.info? e = some i) (g n cap : Nat) (hn : n ≤ cap) (p : Option Addr) (c : Nat) :
    (Builtin.append_ #[t, t] ty #[.slice (some ⟨g, 0, none⟩) n cap, .slice p 0 c]).run P w = .ok (.slice (some ⟨g, 0, none⟩) n cap) w := by
  cases p with
  | none => simp [Builtin.append_, run_underlying ht, sizeOf, typeInfo, hi, Builtin.lenOf, hn, Addr.add_lit, storeCells, Builtin.firstCells]
  | some q =>
    have hld : (loadCells q 0).run P w = .ok #[] w := by simp [loadCells, loadCellsFrom]
    simp [Builtin.append_, run_underlying ht, sizeOf, typeInfo, hi, Builtin.lenOf, hn, Addr.add_lit, Builtin.firstCells, hld, storeCells]
section
variable {P : Program} {w : World}
/-- append of texts onto a row of texts. -/
theorem wpList_append_t {ops : Array Oper} {rest : List Oper} {o : Oper} {a : Act} {Q : Exit → Act → World → Prop} (hgd : o.guard = none) (s x : Operand) (t : TypeId)
    (ho : o.op = .call { callee := .builtin .append, args := #[s, x], argTypes := #[t, t] })
    (base : Nat) (e : TypeId) (i : TypeInfo) (ht : P.underlying t = some (.slice e)) (hi : P.info? e = some i) (hz : i.zero = some (.string ⟨#[]⟩))
    (hsize : i.size = 1) (hby : i.bytes = 16) (g n cap : Nat) (xs l : List ByteArray) (hs : a.eval s = .slice (some ⟨g, 0, none⟩) n cap) (hown : OwnsN w base e 1 (.slice (some ⟨g, 0, none⟩) n cap) n (strCells xs))
    (u : Value) (hx : a.eval x = u) (T : Strs w u l) (N : Nat) (hN : N = n + l.length) (h63 : N ≤ 1000000) (hbase : base ≤ w.heap.size)
    (h : ∀ g' cap' w', OwnsN w' base e 1 (.slice (some ⟨g', 0, none⟩) N cap') N (strCells (xs ++ l)) → Keep (OneB g) w w' → (g' = g ∨ w.heap.size ≤ g') → wpList P ops Q rest (a.put o.dst (.slice (some ⟨g', 0, none⟩) N cap')) w') : wpList P ops Q (o :: rest) a w := by
  subst hN
  by_cases h0 : l.length = 0
  · obtain ⟨p, c, rfl⟩ := T.len
    obtain rfl : l = [] := List.eq_nil_of_length_eq_zero h0
    have hcap : n ≤ cap := by
      rcases hown.2 with ⟨hv, _⟩ | ⟨g2, cap2, cur, fz, hv, _, _, _, hc, _⟩
      · cases hv
      · cases hv; exact hc
    refine wpList_plain hgd fun K hK => ?_
    unfold Oper.wp execOp
    have hr := run_append_zero (P := P) (w := w) (t := t) (ty := o.type) ht hi g n cap hcap p c
    rw [List.length_nil] at hx
    simp only [ho, resolve, invoke, builtin, Sem.run_bind, Sem.run_pure, Result.andThen_ok, List.map_toArray, List.map_cons, List.map_nil, hs, hx, hr]
    refine hK _ _ ?_
    have := h g cap w (by rw [List.append_nil, List.length_nil, Nat.add_zero]; exact hown) (Keep.refl _ _) (.inl rfl)
    rwa [List.length_nil, Nat.add_zero] at this
  · obtain ⟨p, c, rfl⟩ := T.len
    obtain ⟨b, off, rfl, _, _, hc⟩ := T.at (by omega)
    refine wpList_append_s (w := w) (hgd := hgd) s x t ho base e i (.string ⟨#[]⟩) 1 16 ht hi hz hsize hby rfl (by decide) _ n (strCells xs) hs hown ⟨b, off, none⟩ l.length c (strCells l) hx (strCells_len l) (strs_src hc) (strCells_one l) (by unfold maxLen; omega) (by omega) hbase ?_
    intro v' w' own hg hw
    obtain ⟨g', cap', rfl, _, _⟩ := own.some (by omega)
    refine h g' cap' w' (by rw [strCells_append]; exact own) ((Keep.refl _ _).grown hg (fun k hk => .inl ?_)) ?_
    · exact (Option.some.inj hk).symm
    · rcases hw with hw | hw
      · exact .inl (Option.some.inj hw)
      · exact .inr (hw g' rfl)
end
end Go.Cof
