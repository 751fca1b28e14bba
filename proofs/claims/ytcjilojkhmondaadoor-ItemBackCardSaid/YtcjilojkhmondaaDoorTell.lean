/-
  DERIVED. api.Tell, plain.Place and bare: the Errno in an error.
-/
import Derived.Test.YtcjilojkhmondaaDoorAs
set_option linter.unusedVariables false
set_option linter.unusedSimpArgs false
namespace Go.Proofs.YtcjilojkhmondaaDoor
open Go.RowKit Go.Cof Go.Extern.Stop Go.Stop Go.Extern

/-- What the walks take of the listed variable 'errors.errorType'. -/
def ErrVar (w : World) : Prop := w.cell? ⟨1, 0, none⟩ = some (.iface 198 (.agg #[.pointer (some ⟨9, 38, none⟩)]))
theorem ErrVar.keep {w w' : World} (h : ErrVar w) {S : Nat → Prop} (hk : Keep S w w') (hn : ¬ S 1) : ErrVar w' := by
  unfold ErrVar at *
  have hlt : 1 < w.heap.size := by
    rcases Nat.lt_or_ge 1 w.heap.size with h' | h'
    · exact h'
    · simp [World.cell?, Array.getElem?_eq_none h'] at h
  rw [hk.cell (p := ⟨1, 0, none⟩) hlt hn]
  exact h
theorem as_is (n : Int) (t : Addr) (old : Value) (w : World) (hg : ErrVar w) (ht0 : w.cell? t = some old) (hf0 : w.frozen? t = false) :
    Calls Tryd.prog 104 #[.iface 53 (.int .i64 n), .iface 145 (.pointer (some t))] w fun ev w' => ev = .returned (.bool true) ∧ w'.cell? t = some (.int .i64 n) ∧ Keep (OneB t.block) w w' :=
  (as_hit n t old w hg ht0 hf0).mono fun ev w' ⟨he, hw⟩ => by
    subst hw
    have htl : t.block < w.heap.size := by
      rcases Nat.lt_or_ge t.block w.heap.size with h | h
      · exact h
      · simp [World.cell?, Array.getElem?_eq_none h] at ht0
    refine ⟨he, ?_, (((((Keep.refl _ w).alloc _).alloc _).alloc _).alloc _).setCell (p := t) (.inl (show OneB t.block t.block from rfl)) _⟩
    have hc : ((((w.alloc (.cells #[.pointer (some t)] 145)).alloc (.cells #[.pointer (some ⟨9, 145, none⟩), .pointer (some ⟨w.heap.size, 0, none⟩), .int .u64 150] 169)).alloc (.cells #[.pointer (some ⟨9, 145, none⟩), .pointer (some ⟨w.heap.size, 0, none⟩), .int .u64 150] 169)).alloc (.cells #[.int .i64 n] 53)).cell? t = some old := by
      rw [World.cell?_alloc_lt _ _ t (by simp; omega), World.cell?_alloc_lt _ _ t (by simp; omega), World.cell?_alloc_lt _ _ t (by simp; omega), World.cell?_alloc_lt _ _ t htl]
      exact ht0
    exact World.cell?_setCell_same _ _ _ hc
theorem tell_nil (w : World) : Calls Tryd.prog 84 #[.nilIface] w fun e w' => e = .returned (.int .i64 0) ∧ w' = w := by
  go_enter Tryd.func84, Tryd.ntmps84
  go_wp2
  go_ret
  exact ⟨rfl, rfl⟩
theorem tell_errno (n : Int) (w : World) (hg : ErrVar w) : Calls Tryd.prog 84 #[.iface 53 (.int .i64 n)] w fun e w' => e = .returned (.int .i64 n) ∧ Keep NoB w w' := by
  go_enter Tryd.func84, Tryd.ntmps84
  go_wp2_with fail
  have hg1 : ErrVar (w.alloc (.cells #[.int .i64 0] 53)) := hg.keep ((Keep.refl NoB w).alloc _) (fun x => x)
  refine (as_is n ⟨w.heap.size, 0, none⟩ (.int .i64 0) _ hg1 (by simp) (by simp)).mono ?_
  rintro e w2 ⟨rfl, hc, K⟩
  have K2 : Keep NoB w w2 := ((Keep.refl NoB w).alloc _).trans K (fun i hi e => by simp only [Cof.OneB] at e; omega)
  go_wp2
  go_ret
  exact ⟨rfl, K2⟩
theorem place_nil (w : World) : Calls Tryd.prog 57 #[.nilIface] w fun e w' => e = .returned (.tuple #[.int .i64 0, .int .i64 (-1)]) ∧ w' = w := by
  go_enter Tryd.func57, Tryd.ntmps57
  go_wp2_with fail
  refine (tell_nil _).mono ?_
  rintro e w2 ⟨rfl, rfl⟩
  go_wp2_with fail
  refine wp_loop_rounds 1 ?_
  rw [rounds_succ]
  go_wp2
  go_ret2
  exact ⟨rfl, rfl⟩
theorem assertAt (n : Int) (w : World) : (Instr.typeAssert (.iface 53 (.int .i64 n)) 38 122 true).run Tryd.prog w = .ok (.tuple #[.pointer none, .bool false]) w := by kernel_rfl
theorem assertUnwrap (n : Int) (w : World) : (Instr.typeAssert (.iface 53 (.int .i64 n)) 38 126 true).run Tryd.prog w = .ok (.tuple #[.nilIface, .bool false]) w := run_typeAssert_lacksB Tryd.underlying126 (by kernel_rfl) (by kernel_rfl) _ _ w
set_option maxRecDepth 100000 in
theorem place_errno (n : Int) (w : World) (hg : ErrVar w) : Calls Tryd.prog 57 #[.iface 53 (.int .i64 n)] w fun e w' => e = .returned (.tuple #[.int .i64 n, .int .i64 (-1)]) ∧ Keep NoB w w' := by
  go_enter Tryd.func57, Tryd.ntmps57
  go_wp2_with fail
  refine (tell_errno n _ hg).mono ?_
  rintro e w2 ⟨rfl, K⟩
  have a1 := assertAt
  have a2 := assertUnwrap
  go_wp2_with fail
  refine wp_loop_rounds 1 ?_
  rw [rounds_succ]
  go_wp2
  go_ret2
  exact ⟨rfl, K⟩
/-- An error's number: nil is 0. -/
def errVal (n : Int) : Value := if n = 0 then .nilIface else .iface 53 (.int .i64 n)
theorem errVal_zero : errVal 0 = .nilIface := rfl
theorem errVal_one (n : Int) (h : n ≠ 0) : errVal n = .iface 53 (.int .i64 n) := if_neg h
theorem place_any (n : Int) (w : World) (hg : ErrVar w) : Calls Tryd.prog 57 #[errVal n] w fun e w' => e = .returned (.tuple #[.int .i64 n, .int .i64 (-1)]) ∧ Keep NoB w w' := by
  by_cases h : n = 0
  · subst h
    exact (place_nil w).mono fun _ _ ⟨he, hw⟩ => ⟨he, hw ▸ Keep.refl _ _⟩
  · rw [errVal_one n h]
    exact place_errno n w hg
theorem tell_any (n : Int) (w : World) (hg : ErrVar w) : Calls Tryd.prog 84 #[errVal n] w fun e w' => e = .returned (.int .i64 n) ∧ Keep NoB w w' := by
  by_cases h : n = 0
  · subst h
    exact (tell_nil w).mono fun _ _ ⟨he, hw⟩ => ⟨he, hw ▸ Keep.refl _ _⟩
  · rw [errVal_one n h]
    exact tell_errno n w hg
theorem bare_any (n m : Int) (w : World) (hg : ErrVar w) : Calls Tryd.prog 31 #[errVal n, .int .i64 m] w fun e w' => e = .returned (.bool (n == m)) ∧ Keep NoB w w' := by
  generalize hv : errVal n = v
  have Hv := Lib.hid hv
  clear hv
  by_cases h : n = m
  · have h1 : (n == m) = true := by simp [h]
    simp only [h1]
    have H := Lib.hid h
    clear h
    go_enter Tryd.func31, Tryd.ntmps31
    go_wp2_with fail
    have hc := place_any n w hg
    rw [Hv.out] at hc
    refine hc.mono ?_
    clear hc
    rintro e w2 ⟨rfl, K⟩
    go_wp2
    go_ret
    exact ⟨rfl, K⟩
  · have h1 : (n == m) = false := by simp [h]
    simp only [h1]
    clear h
    go_enter Tryd.func31, Tryd.ntmps31
    go_wp2_with fail
    have hc := place_any n w hg
    rw [Hv.out] at hc
    refine hc.mono ?_
    clear hc
    rintro e w2 ⟨rfl, K⟩
    go_wp2
    go_ret
    exact ⟨rfl, K⟩
end Go.Proofs.YtcjilojkhmondaaDoor
