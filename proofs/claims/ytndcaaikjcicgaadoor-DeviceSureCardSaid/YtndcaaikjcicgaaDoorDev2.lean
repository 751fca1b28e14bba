/-
  DERIVED. The walks of package device: refusals, the counter, Sync.
-/
import Derived.Test.YtndcaaikjcicgaaDoorDev
set_option linter.unusedVariables false
set_option linter.unusedSimpArgs false
namespace Go.Proofs.YtndcaaikjcicgaaDoor
open Go.RowKit Go.Cof
theorem write_range {w : World} (D : Nat) (k : Int) (s : ByteArray) (hk : k < 0 ∨ 66 ≤ k) :
    Calls Tryd.prog 36 #[.pointer (some ⟨D, 0, none⟩), .int .i64 k, .string s] w fun e w' => e = .returned (.iface 37 (.int .i64 2)) ∧ w' = w := by
  by_cases h0 : k < 0
  · go_enter Tryd.func36, Tryd.ntmps36
    go_wp2
    go_ret
    exact ⟨rfl, rfl⟩
  · have j0 : 0 ≤ k := by omega
    have j1 : 66 ≤ k := by omega
    go_enter Tryd.func36, Tryd.ntmps36
    go_wp2
    go_ret
    exact ⟨rfl, rfl⟩
theorem write_limit {w : World} (D : Nat) (k : Nat) (s : ByteArray) (hk : k < 66) (hs : 256 < s.size) :
    Calls Tryd.prog 36 #[.pointer (some ⟨D, 0, none⟩), .int .i64 k, .string s] w fun e w' => e = .returned (.iface 37 (.int .i64 4)) ∧ w' = w := by
  have j1 : (k : Int) < 66 := by omega
  have j2 : (256 : Int) < s.size := by omega
  go_enter Tryd.func36, Tryd.ntmps36
  go_wp2
  go_ret
  exact ⟨rfl, rfl⟩
theorem write_spent {w : World} {D S : Nat} {wv : Value} {sure : List ByteArray} {wait : List (Nat × ByteArray)} (h : DevAt w D S wv sure wait 0) (k : Nat) (s : ByteArray) (hk : k < 66) (hs : s.size ≤ 256) :
    Calls Tryd.prog 36 #[.pointer (some ⟨D, 0, none⟩), .int .i64 k, .string s] w fun e w' => e = .returned (.iface 37 (.int .i64 14)) ∧ DevAt w' D S wv sure wait 0 ∧ Keep (OneB D) w w' := by
  have j1 : (k : Int) < 66 := by omega
  have j2 : (s.size : Int) ≤ 256 := by omega
  have hb := burn_any h
  rw [show decide ((0 : Int) ≠ 0) = false from rfl, show burnt 0 = 0 from rfl] at hb
  go_enter Tryd.func36, Tryd.ntmps36
  go_wp2_with fail
  refine hb.mono ?_
  clear hb
  rintro e w1 ⟨rfl, h1, K1⟩
  go_wp2_with fail
  go_ret
  exact ⟨rfl, h1, K1⟩
/-- A counter. -/
def CountAt (w : World) (B : Nat) (n : Int) : Prop := w.heap[B]? = some (.cells #[.int .i64 n] 33 (0, 0))
theorem CountAt.keep {w w' : World} {B : Nat} {n : Int} (h : CountAt w B n) {X : Nat → Prop} (hk : Keep X w w') (hn : ¬ X B) : CountAt w' B n := hk.heap h hn
theorem CountAt.cell {w : World} {B : Nat} {n : Int} (h : CountAt w B n) : w.cell? ⟨B, 0, none⟩ = some (.int .i64 n) ∧ w.frozen? ⟨B, 0, none⟩ = false := by
  unfold CountAt at h
  exact ⟨by simp [World.cell?, h], by simp [World.frozen?, h]⟩
theorem CountAt.set {w : World} {B : Nat} {n : Int} (h : CountAt w B n) (m : Int) : CountAt (w.setCell ⟨B, 0, none⟩ (.int .i64 m)) B m := by
  have hlt := lt_of_heap h
  unfold CountAt at *
  have h' : w.heap[B] = .cells #[.int .i64 n] 33 (0, 0) := by simpa [Array.getElem?_eq_getElem hlt] using h
  show (w.heap.modify B _)[B]? = _
  rw [Array.getElem?_eq_getElem (by simpa using hlt), Array.getElem_modify_self, h']
  rfl
theorem get_any {w : World} {B : Nat} {n : Int} (h : CountAt w B n) : Calls Tryd.prog 24 #[.pointer (some ⟨B, 0, none⟩)] w fun e w' => e = .returned (.int .i64 n) ∧ w' = w := by
  obtain ⟨c, f⟩ := h.cell
  go_enter Tryd.func24, Tryd.ntmps24
  go_wp2
  go_ret
  exact ⟨rfl, rfl⟩
theorem raise_yes {w : World} {B : Nat} {n : Int} (h : CountAt w B n) (m : Int) (hm : n < m) : Calls Tryd.prog 22 #[.pointer (some ⟨B, 0, none⟩), .int .i64 m] w fun e w' => e = .returned .nilIface ∧ CountAt w' B m ∧ Keep (OneB B) w w' := by
  obtain ⟨c, f⟩ := h.cell
  have hs := h.set m
  go_enter Tryd.func22, Tryd.ntmps22
  go_wp2
  go_ret
  exact ⟨rfl, hs, (Keep.refl _ _).set1 _ _⟩
theorem raise_no {w : World} {B : Nat} {n : Int} (h : CountAt w B n) (m : Int) (hm : m ≤ n) : Calls Tryd.prog 22 #[.pointer (some ⟨B, 0, none⟩), .int .i64 m] w fun e w' => e = .returned (.iface 37 (.int .i64 10)) ∧ w' = w := by
  obtain ⟨c, f⟩ := h.cell
  go_enter Tryd.func22, Tryd.ntmps22
  go_wp2
  go_ret
  exact ⟨rfl, rfl⟩
end Go.Proofs.YtndcaaikjcicgaaDoor
