/-
  DERIVED. api.Tell, plain.Place and bare: the Errno in an error.
-/
import Derived.Test.YtcjilojkhmondaaGreatDoorAs
set_option linter.unusedVariables false
set_option linter.unusedSimpArgs false
namespace Go.Proofs.YtcjilojkhmondaaGreatDoor
open Go.RowKit Go.Cof Go.Extern.Stop Go.Stop Go.Extern

/-- What the walks take of the listed variable 'errors.errorType'. -/
def ErrVar (w : World) : Prop := w.cell? ⟨0, 0, none⟩ = some (.iface 111 (.agg #[.pointer (some ⟨4, 29, none⟩)]))
theorem ErrVar.keep {w w' : World} (h : ErrVar w) {S : Nat → Prop} (hk : Keep S w w') (hn : ¬ S 0) : ErrVar w' := by
  unfold ErrVar at *
  have hlt : 0 < w.heap.size := by
    rcases Nat.lt_or_ge 0 w.heap.size with h' | h'
    · exact h'
    · simp [World.cell?, Array.getElem?_eq_none h'] at h
  rw [hk.cell (p := ⟨0, 0, none⟩) hlt hn]
  exact h
theorem as_is (n : Int) (t : Addr) (old : Value) (w : World) (hg : ErrVar w) (ht0 : w.cell? t = some old) (hf0 : w.frozen? t = false) :
    Calls Tryz.prog 29 #[.iface 36 (.int .i64 n), .iface 70 (.pointer (some t))] w fun ev w' => ev = .returned (.bool true) ∧ w'.cell? t = some (.int .i64 n) ∧ Keep (OneB t.block) w w' :=
  (as_hit n t old w hg ht0 hf0).mono fun ev w' ⟨he, hw⟩ => by
    subst hw
    have htl : t.block < w.heap.size := by
      rcases Nat.lt_or_ge t.block w.heap.size with h | h
      · exact h
      · simp [World.cell?, Array.getElem?_eq_none h] at ht0
    refine ⟨he, ?_, (((((Keep.refl _ w).alloc _).alloc _).alloc _).alloc _).setCell (p := t) (.inl (show OneB t.block t.block from rfl)) _⟩
    have hc : ((((w.alloc (.cells #[.pointer (some t)] 70)).alloc (.cells #[.pointer (some ⟨4, 70, none⟩), .pointer (some ⟨w.heap.size, 0, none⟩), .int .u64 150] 84)).alloc (.cells #[.pointer (some ⟨4, 70, none⟩), .pointer (some ⟨w.heap.size, 0, none⟩), .int .u64 150] 84)).alloc (.cells #[.int .i64 n] 36)).cell? t = some old := by
      rw [World.cell?_alloc_lt _ _ t (by simp; omega), World.cell?_alloc_lt _ _ t (by simp; omega), World.cell?_alloc_lt _ _ t (by simp; omega), World.cell?_alloc_lt _ _ t htl]
      exact ht0
    exact World.cell?_setCell_same _ _ _ hc
theorem tell_nil (w : World) : Calls Tryz.prog 10 #[.nilIface] w fun e w' => e = .returned (.int .i64 0) ∧ w' = w := by
  go_enter Tryz.func10, Tryz.ntmps10
  go_wp2
  go_ret
  exact ⟨rfl, rfl⟩
theorem tell_errno (n : Int) (w : World) (hg : ErrVar w) : Calls Tryz.prog 10 #[.iface 36 (.int .i64 n)] w fun e w' => e = .returned (.int .i64 n) ∧ Keep NoB w w' := by
  go_enter Tryz.func10, Tryz.ntmps10
  go_wp2_with fail
  have hg1 : ErrVar (w.alloc (.cells #[.int .i64 0] 36)) := hg.keep ((Keep.refl NoB w).alloc _) (fun x => x)
  refine (as_is n ⟨w.heap.size, 0, none⟩ (.int .i64 0) _ hg1 (by simp) (by simp)).mono ?_
  rintro e w2 ⟨rfl, hc, K⟩
  have K2 : Keep NoB w w2 := ((Keep.refl NoB w).alloc _).trans K (fun i hi e => by simp only [Cof.OneB] at e; omega)
  go_wp2
  go_ret
  exact ⟨rfl, K2⟩
theorem assertUnwrap (n : Int) (w : World) : (Instr.typeAssert (.iface 36 (.int .i64 n)) 29 119 true).run Tryz.prog w = .ok (.tuple #[.nilIface, .bool false]) w := run_typeAssert_lacksB Tryz.underlying119 (by kernel_rfl) (by kernel_rfl) _ _ w
/-- An error's number: nil is 0. -/
def errVal (n : Int) : Value := if n = 0 then .nilIface else .iface 36 (.int .i64 n)
theorem errVal_zero : errVal 0 = .nilIface := rfl
theorem errVal_one (n : Int) (h : n ≠ 0) : errVal n = .iface 36 (.int .i64 n) := if_neg h
theorem tell_any (n : Int) (w : World) (hg : ErrVar w) : Calls Tryz.prog 10 #[errVal n] w fun e w' => e = .returned (.int .i64 n) ∧ Keep NoB w w' := by
  by_cases h : n = 0
  · subst h
    exact (tell_nil w).mono fun _ _ ⟨he, hw⟩ => ⟨he, hw ▸ Keep.refl _ _⟩
  · rw [errVal_one n h]
    exact tell_errno n w hg
end Go.Proofs.YtcjilojkhmondaaGreatDoor
