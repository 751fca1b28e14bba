/-
  DERIVED. slices.Backward over a device's writes: the iterator's contract.
-/
import Derived.RangeFuncNested
import Derived.RangeFuncBound
import Derived.RangeFuncCalls
import Derived.RangeFuncLeaves
import Derived.RangeFuncBox
import Derived.Shelf.Abstract
import Derived.Shelf.RegionOpen
import Derived.WalkKit
import Derived.OwnWalkIn
import Derived.TacticsInMore
import Derived.LoopNIn
import Derived.LoopIn
import Derived.Test.YtndcaaikjcicgaaDoorDev4
set_option linter.unusedVariables false
set_option linter.unusedSimpArgs false
namespace Go.Cof
open Go.RowKit
/-- What comes in round j of a walk from the last one on: its index, itself. -/
def backAt (l : List (Nat × ByteArray)) (j : Nat) : Nat × Nat × ByteArray := (l.length - 1 - j, l.getD (l.length - 1 - j) (0, ⟨#[]⟩))
end Go.Cof
namespace Go.Proofs.YtndcaaikjcicgaaDoor
open Go.RowKit Go.Cof Go.Shelf
attribute [local go_sem] Oper.semAt_some
set_option maxRecDepth 100000 in
set_option maxHeartbeats 2000000 in
theorem back1_in (F : Fence) (n : Nat) (hF : F.fn 121) (hro : F.round = none) (hn : 1 ≤ n) (l Bs n₀ g cap : Nat) (zs : List (Nat × ByteArray)) (hz : zs.length ≤ 1000000) (hb : g < n₀) (J Jx : List (Nat × Nat × ByteArray) → World → Prop)
    (hY : ∀ pre x W, J pre W → pre.length < zs.length → YieldAt F (n - 1) Tryd.prog l #[.int .i64 (x.1 : Int), .agg #[.int .i64 (x.2.1 : Int), .string x.2.2]] W fun e W' =>
      (e = .returned (.bool true) ∧ J (pre ++ [x]) W' ∧ Below n₀ W W') ∨ (e = .returned (.bool false) ∧ Jx (pre ++ [x]) W'))
    (W : World) (hBs : W.cell? ⟨Bs, 0, none⟩ = some (.slice (some ⟨g, 0, none⟩) zs.length cap)) (hB2 : Bs < n₀) (hc : ∀ j, j < zs.length → W.cell? ⟨g, j * 2, none⟩ = some (.int .i64 ((zs.getD j (0, ⟨#[]⟩)).1 : Int)) ∧ W.cell? ⟨g, j * 2 + 1, none⟩ = some (.string (zs.getD j (0, ⟨#[]⟩)).2)) (h0 : J [] W) :
    CallsIn F n Tryd.prog 121 #[.func (.yield l) #[] #[], .pointer (some ⟨Bs, 0, none⟩)] W fun e W' => (∃ v, e = .returned v) ∧
      ((∃ ys, ys = upto (backAt zs) zs.length ∧ J ys W') ∨ (∃ pre, (∃ k, k ≤ zs.length ∧ pre = upto (backAt zs) k) ∧ Jx pre W')) := by
  obtain ⟨m, hm⟩ : ∃ m, m = zs.length := ⟨_, rfl⟩
  rw [← hm] at hz hBs hY hc
  rw [← hm]
  have Hm := Lib.hid hm
  clear hm
  refine callsIn_of_wp Tryd.func121 rfl hF ?_ hro
  simp only [Tryd.ntmps121, List.size_toArray, List.length_cons, List.length_nil, Nat.reduceAdd, Nat.reduceSub, Array.replicate_succ, Array.replicate_zero, List.push_toArray, List.append_toArray, List.nil_append, List.cons_append]
  gi_wp2
  gi_loopw [3] (fun i wr => ∃ k : Nat, k ≤ m ∧ i = .int .i64 ((m : Int) - 1 - k) ∧ J (upto (backAt zs) k) wr ∧ Below n₀ W wr)
    (fun i _ => (intOf i + 1).toNat)
  case atStart => exact ⟨0, Nat.zero_le _, by simp, h0, Below.refl _ _⟩
  case round =>
    obtain ⟨k, hk, rfl, hJs, hnx⟩ := hrel
    have hc1 : wr.cell? ⟨Bs, 0, none⟩ = some (.slice (some ⟨g, 0, none⟩) m cap) := (hnx.cell (p := ⟨Bs, 0, none⟩) hB2).trans hBs
    by_cases hlt : k < m
    · obtain ⟨j, hj⟩ : ∃ j : Nat, j = m - 1 - k := ⟨_, rfl⟩
      have hji : (m : Int) - 1 - k = (j : Int) := by omega
      have hjm : (j : Int) < m := by omega
      have hj0 : (0 : Int) ≤ j := by omega
      have hcx := hc j (by omega)
      have hca : wr.cell? ⟨g, j * 2, none⟩ = some (.int .i64 ((zs.getD j (0, ⟨#[]⟩)).1 : Int)) := (hnx.cell (p := ⟨g, j * 2, none⟩) hb).trans hcx.1
      have hcb : wr.cell? ⟨g, j * 2 + 1, none⟩ = some (.string (zs.getD j (0, ⟨#[]⟩)).2) := (hnx.cell (p := ⟨g, j * 2 + 1, none⟩) hb).trans hcx.2
      have hx : backAt zs k = (j, zs.getD j (0, ⟨#[]⟩)) := by rw [backAt, ← Hm.out, ← hj]
      obtain ⟨⟨q, s⟩, hq⟩ : ∃ x, x = zs.getD j (0, ⟨#[]⟩) := ⟨_, rfl⟩
      rw [← hq] at hca hcb hx
      obtain ⟨fn, tmps, assign, body, hy, hR⟩ := hY _ (j, q, s) wr hJs (by rw [upto_length]; exact hlt)
      dsimp only at hy hca hcb
      have Hx := Lib.hid hx
      have Hj := Lib.hid hj
      have Hq := Lib.hid hq
      have Hji := Lib.hid hji
      rw [hji]
      clear hx hj hq hji hcx hc hBs
      gi_wp2
      refine hR.mono ?_
      rw [← Hx.out, ← upto_succ]
      rintro e W3 (⟨rfl, hJ3, hk3⟩ | ⟨rfl, hJx3⟩)
      · gi_wp2
        have hfin : (j : Int) - 1 = (m : Int) - 1 - ((k + 1 : Nat) : Int) := by have := Hji.out; omega
        go_roundw
        case rel => exact ⟨k + 1, by omega, by rw [hfin], hJ3, hnx.trans hk3⟩
        case measure => simp [intOf]
      · gi_wp2
        refine bodyPost_ret (results_none rfl _ _ _) rfl ?_
        exact ⟨⟨_, rfl⟩, .inr ⟨_, ⟨k + 1, by omega, rfl⟩, hJx3⟩⟩
    · obtain rfl : k = m := by omega
      have hd : decide ((0 : Int) ≤ (k : Int) - 1 - k) = false := by simp; omega
      gi_wp2
      go_end0
      exact ⟨⟨_, rfl⟩, .inl ⟨_, rfl, hJs⟩⟩

theorem back1_nil_in (F : Fence) (n : Nat) (hF : F.fn 121) (hro : F.round = none) (l Bs c : Nat) (p : Option Addr) (J : List (Nat × Nat × ByteArray) → World → Prop) (W : World) (hBs : W.cell? ⟨Bs, 0, none⟩ = some (.slice p 0 c)) (h0 : J [] W) :
    CallsIn F n Tryd.prog 121 #[.func (.yield l) #[] #[], .pointer (some ⟨Bs, 0, none⟩)] W fun e W' => (∃ v, e = .returned v) ∧ J [] W' := by
  refine callsIn_of_wp Tryd.func121 rfl hF ?_ hro
  simp only [Tryd.ntmps121, List.size_toArray, List.length_cons, List.length_nil, Nat.reduceAdd, Nat.reduceSub, Array.replicate_succ, Array.replicate_zero, List.push_toArray, List.append_toArray, List.nil_append, List.cons_append]
  gi_wp2
  gi_loopw [3] (fun i wr => i = .int .i64 (-1) ∧ J [] wr) (fun _ _ => 0)
  case atStart => exact ⟨rfl, h0⟩
  case round =>
    obtain ⟨rfl, hJs⟩ := hrel
    gi_wp2
    go_end0
    exact ⟨⟨_, rfl⟩, hJs⟩
theorem back_in (F : Fence) (n : Nat) (hF : F.fn 91) (hro : F.round = none) (a : Option Addr) (len cap : Nat) (w : World) :
    CallsIn F n Tryd.prog 91 #[.slice a len cap] w fun e w' => e = .returned (.func (.func 121) #[] #[.pointer (some ⟨w.heap.size, 0, none⟩)]) ∧ w' = w.alloc (.cells #[.slice a len cap] 121) := by
  refine callsIn_of_wp Tryd.func91 rfl hF ?_ hro
  simp only [Tryd.ntmps91, List.size_toArray, List.length_cons, List.length_nil, Nat.reduceAdd, Nat.reduceSub, Array.replicate_succ, Array.replicate_zero, List.push_toArray, List.append_toArray, List.nil_append, List.cons_append]
  gi_wp2
  go_ret
  exact ⟨rfl, rfl⟩
/-- A slice of writes in memory, in a block below n₀; or none. -/
def WritesAt (n₀ : Nat) (W : World) (sv : Value) (zs : List (Nat × ByteArray)) : Prop :=
  (zs = [] ∧ ∃ p c, sv = .slice p 0 c) ∨ ∃ g cap, sv = .slice (some ⟨g, 0, none⟩) zs.length cap ∧ g < n₀ ∧ ∀ j, j < zs.length → W.cell? ⟨g, j * 2, none⟩ = some (.int .i64 ((zs.getD j (0, ⟨#[]⟩)).1 : Int)) ∧ W.cell? ⟨g, j * 2 + 1, none⟩ = some (.string (zs.getD j (0, ⟨#[]⟩)).2)
theorem WritesAt.below {n₀ : Nat} {A B : World} (h : Below n₀ A B) {sv : Value} {zs : List (Nat × ByteArray)} : WritesAt n₀ A sv zs → WritesAt n₀ B sv zs
  | .inl e => .inl e
  | .inr ⟨g, cap, e, hb, hc⟩ => .inr ⟨g, cap, e, hb, fun j hj => ⟨(h.cell (p := ⟨g, j * 2, none⟩) hb).trans (hc j hj).1, (h.cell (p := ⟨g, j * 2 + 1, none⟩) hb).trans (hc j hj).2⟩⟩
theorem DevAt.writesAt {w : World} {D S : Nat} {wv : Value} {sure : List ByteArray} {wait : List (Nat × ByteArray)} {fuse : Int} (h : DevAt w D S wv sure wait fuse) : WritesAt w.heap.size w wv wait := by
  have hw := h.waits
  by_cases h0 : wait = []
  · subst h0
    rcases hw.2 with ⟨hv, _⟩ | ⟨g, cap, cur, fz, hv, _⟩
    · exact .inl ⟨rfl, _, _, hv⟩
    · exact .inl ⟨rfl, _, _, hv⟩
  · have hpos : 0 < wait.length := List.length_pos_iff.2 h0
    obtain ⟨g, cap, hv, _⟩ := hw.some hpos
    have hlt := (hw.lt g (by rw [hv]; rfl)).2
    have hcell := hw.cells (g := g) (by rw [hv]; rfl)
    have hadd : ∀ m, (⟨g, 0, none⟩ : Addr).add m = ⟨g, m, none⟩ := fun m => by unfold Addr.add; split <;> simp_all
    refine .inr ⟨g, cap, hv, hlt, fun j hj => ?_⟩
    have hcw := waitCells_at wait j hj
    exact ⟨by rw [Nat.mul_comm, ← hadd]; exact hcell _ _ hcw.1, by rw [Nat.mul_comm, ← hadd]; exact hcell _ _ hcw.2⟩
theorem back_stops (F : Fence) (n : Nat) (hF : F.fn 121) (hro : F.round = none) (hn : 1 ≤ n) (Bs n₀ : Nat) (sv : Value) (zs : List (Nat × ByteArray)) (hz : zs.length ≤ 1000000) (w : World) (hBs : Bs < n₀) (hn₀ : n₀ ≤ w.heap.size)
    (hc : w.cell? ⟨Bs, 0, none⟩ = some sv) (hI : WritesAt n₀ w sv zs) :
    SeqStopsK F n Tryd.prog 121 #[.pointer (some ⟨Bs, 0, none⟩)] (fun x : Nat × Nat × ByteArray => #[Value.int .i64 (x.1 : Int), Value.agg #[Value.int .i64 (x.2.1 : Int), Value.string x.2.2]]) (Below n₀) (fun ys => ys = upto (backAt zs) zs.length)
      (fun pre => ∃ k, k ≤ zs.length ∧ pre = upto (backAt zs) k) zs.length w := fun l J Jx W hW _ _ hY h0 => by
  have hc' := (hW.cell (p := ⟨Bs, 0, none⟩) (Nat.lt_of_lt_of_le hBs hn₀)).trans hc
  rcases hI.below (hW.mono hn₀) with ⟨rfl, p, c, rfl⟩ | ⟨g, cap, rfl, hb, hcs⟩
  · exact (back1_nil_in F n hF hro l Bs c p J W hc' h0).mono fun e W' ⟨he, hj⟩ => ⟨he, .inl ⟨_, rfl, hj⟩⟩
  · exact back1_in F n hF hro hn l Bs n₀ g cap zs hz hb J Jx hY W hc' hBs hcs h0
end Go.Proofs.YtndcaaikjcicgaaDoor
