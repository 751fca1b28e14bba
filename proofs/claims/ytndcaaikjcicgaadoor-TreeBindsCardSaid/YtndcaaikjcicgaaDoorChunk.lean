/-
  DERIVED. slices.Chunk by two, over texts: the iterator's contract, in the wide fence.
-/
import Derived.RegionIn
import Derived.RangeFuncNested
import Derived.RangeFuncBound
import Derived.RangeFuncCalls
import Derived.RangeFuncLeaves
import Derived.RangeFuncBox
import Derived.Shelf.Abstract
import Derived.Shelf.RegionOpen
import Derived.WalkKit
import Derived.OwnWalkIn
import Derived.TacticsInMore
import Derived.LoopNIn
import Derived.LoopIn
import Derived.Test.YtndcaaikjcicgaaDoorTexts
import Derived.Test.YtndcaaikjcicgaaDoorRound
import Derived.Test.YtndcaaikjcicgaaDoorStrs
import Derived.IntWalk
set_option linter.unusedVariables false
set_option linter.unusedSimpArgs false
namespace Go.Cof
/-- The number of a piece. -/
def pieceAt {m : Nat} (h : 0 < m) (j : Nat) : Fin m := ⟨j % m, Nat.mod_lt _ h⟩
end Go.Cof
namespace Go.Proofs.YtndcaaikjcicgaaDoor
open Go.RowKit Go.Cof Go.Shelf
attribute [local go_sem] Oper.semAt_some
set_option maxRecDepth 100000 in
set_option maxHeartbeats 2000000 in
theorem chunk1_in (n : Nat) (hn : 1 ≤ n) (l Bs Bn g off cap len m : Nat) (Kp : World → World → Prop) (kr : ∀ A, Kp A A) (kt : ∀ A B C, Kp A B → Kp B C → Kp A C) (kd : ∀ A n, Kp A (A.drewN n)) (ks : ∀ A B, Kp A B → B.cell? ⟨Bs, 0, none⟩ = A.cell? ⟨Bs, 0, none⟩) (kn : ∀ A B, Kp A B → B.cell? ⟨Bn, 0, none⟩ = A.cell? ⟨Bn, 0, none⟩) (hlen : len = 2 * m) (hmx : len ≤ 1000000) (hcap : len ≤ cap) (hm0 : 0 < m) (J Jx : List (Fin m) → World → Prop) (hJ : ∀ s W W', J s W → W.grownBy W' none → J s W')
    (hY : ∀ pre x W, J pre W → pre.length < m → YieldAt Fence.wide (n - 1) Tryd.prog l #[.slice (some ⟨g, off + 2 * x.1, none⟩) 2 2] W fun e W' =>
      (e = .returned (.bool true) ∧ J (pre ++ [x]) W' ∧ Kp W W') ∨ (e = .returned (.bool false) ∧ Jx (pre ++ [x]) W'))
    (W : World) (hBs : W.cell? ⟨Bs, 0, none⟩ = some (.slice (some ⟨g, off, none⟩) len cap)) (hBn : W.cell? ⟨Bn, 0, none⟩ = some (.int .i64 2)) (h0 : J [] W) :
    CallsIn Fence.wide n Tryd.prog 139 #[.func (.yield l) #[] #[], .pointer (some ⟨Bs, 0, none⟩), .pointer (some ⟨Bn, 0, none⟩)] W fun e W' => (∃ v, e = .returned v) ∧
      ((∃ ys, ys = upto (pieceAt hm0) m ∧ J ys W') ∨ (∃ pre, (∃ k, k ≤ m ∧ pre = upto (pieceAt hm0) k) ∧ Jx pre W')) := by
  refine callsIn_of_wp Tryd.func139 rfl trivial ?_ rfl
  simp only [Tryd.ntmps139, List.size_toArray, List.length_cons, List.length_nil, Nat.reduceAdd, Nat.reduceSub, Array.replicate_succ, Array.replicate_zero, List.push_toArray, List.append_toArray, List.nil_append, List.cons_append]
  have Hlen := Lib.hid hlen
  clear hlen
  gi_wp2
  gi_loopw [4] (fun i wr => ∃ k : Nat, k ≤ m ∧ i = .int .i64 (2 * k : Nat) ∧ J (upto (pieceAt hm0) k) wr ∧ Kp W wr)
    (fun i _ => len - (intOf i).toNat)
  case atStart => exact ⟨0, Nat.zero_le _, rfl, h0, kr _⟩
  case round =>
    obtain ⟨k, hk, rfl, hJs, hnx⟩ := hrel
    have hc1 : wr.cell? ⟨Bs, 0, none⟩ = some (.slice (some ⟨g, off, none⟩) len cap) := (ks _ _ hnx).trans hBs
    have hc2 : wr.cell? ⟨Bn, 0, none⟩ = some (.int .i64 2) := (kn _ _ hnx).trans hBn
    by_cases hlt : k < m
    · obtain ⟨i, hi⟩ : ∃ i, i = 2 * k := ⟨_, rfl⟩
      have hx : pieceAt hm0 k = ⟨k, hlt⟩ := by unfold pieceAt; exact Fin.ext (Nat.mod_eq_of_lt hlt)
      rw [← hi]
      have Hi := Lib.hid hi
      have hil : (i : Int) < len := by have := Hlen.out; omega
      have hil0 : (i : Int) ≤ len := by omega
      have hic : (i : Int) ≤ cap := by omega
      have hic2 : (i : Int) + 2 ≤ cap := by have := Hlen.out; omega
      have hmin : ¬ ((len - i : Nat) : Int) < 2 := by have := Hlen.out; omega
      have Hx := Lib.hid hx
      have e1 : IntKind.i64.wrap ((i : Int) + 2) = (i : Int) + 2 := IntWalk.i64_in _ (by omega)
      have e2 : (0 : Int) ≤ (i : Int) + 2 := by omega
      have e3 : ((i : Int) + 2).toNat = i + 2 := by omega
      clear hi hx hBs hBn
      gi_wp2
      refine wpIn_wide.2 ?_
      refine wp_region_q (fun w' => ∃ m, w' = wr.drewN m) (by kernel_rfl) (by kernel_rfl) ⟨1, rfl⟩ ?_
      repeat (quiet_step (fail))
      have hmn : (if ((len - i : Nat) : Int) < 2 then ((len - i : Nat) : Int) else 2) = 2 := if_neg (by omega)
      rw [hmn]
      refine wpQuiet_nil ?_
      rintro _ ⟨nq, rfl⟩
      have hJ2 := hJ _ _ (wr.drewN nq) hJs ⟨rfl, rfl, rfl, Nat.le_refl _, fun _ _ _ => rfl⟩
      have hnx2 : Kp W (wr.drewN nq) := kt _ _ _ hnx (kd _ _)
      obtain ⟨fn, tmps, assign, body, hy, hR⟩ := hY _ (pieceAt hm0 k) (wr.drewN nq) hJ2 (by rw [upto_length]; exact hlt)
      rw [Hx.out] at hy
      dsimp only at hy
      rw [← Hi.out] at hy
      clear hmn
      gi_wp2
      refine hR.mono ?_
      rw [← upto_succ]
      rintro e W3 (⟨rfl, hJ3, hk3⟩ | ⟨rfl, hJx3⟩)
      · have hk4 := kt _ _ _ hnx2 hk3
        have hc3 : W3.cell? ⟨Bn, 0, none⟩ = some (.int .i64 2) := (kn _ _ hk3).trans hc2
        gi_wp2
        go_roundw
        case rel => exact ⟨k + 1, by omega, by have := Hi.out; go_num, hJ3, hk4⟩
        case measure => have := Hi.out; have := Hlen.out; simp [intOf]; omega
      · gi_wp2
        refine bodyPost_ret (results_none rfl _ _ _) rfl ?_
        exact ⟨⟨_, rfl⟩, .inr ⟨_, ⟨k + 1, by omega, rfl⟩, hJx3⟩⟩
    · obtain rfl : k = m := by omega
      have hd : ¬ ((2 * k : Nat) : Int) < len := by have := Hlen.out; omega
      have hd2 : decide (((2 * k : Nat) : Int) < len) = false := by simpa using hd
      gi_wp2
      go_end0
      exact ⟨⟨_, rfl⟩, .inl hJs⟩
theorem chunk_in (n : Nat) (a : Option Addr) (len cap : Nat) (w : World) :
    CallsIn Fence.wide n Tryd.prog 114 #[.slice a len cap, .int .i64 2] w fun e w' => e = .returned (.func (.func 139) #[] #[.pointer (some ⟨w.heap.size, 0, none⟩), .pointer (some ⟨w.heap.size + 1, 0, none⟩)]) ∧ w' = (w.alloc (.cells #[.slice a len cap] 22)).alloc (.cells #[.int .i64 2] 3) := by
  refine callsIn_of_wp Tryd.func114 rfl trivial ?_ rfl
  simp only [Tryd.ntmps114, List.size_toArray, List.length_cons, List.length_nil, Nat.reduceAdd, Nat.reduceSub, Array.replicate_succ, Array.replicate_zero, List.push_toArray, List.append_toArray, List.nil_append, List.cons_append]
  gi_wp2
  go_ret
  exact ⟨rfl, rfl⟩
theorem chunk_stops (n : Nat) (hn : 1 ≤ n) (Bs Bn g off cap len m : Nat) (Kp : World → World → Prop) (kr : ∀ A, Kp A A) (kt : ∀ A B C, Kp A B → Kp B C → Kp A C) (kd : ∀ A n, Kp A (A.drewN n)) (ks : ∀ A B, Kp A B → B.cell? ⟨Bs, 0, none⟩ = A.cell? ⟨Bs, 0, none⟩) (kn : ∀ A B, Kp A B → B.cell? ⟨Bn, 0, none⟩ = A.cell? ⟨Bn, 0, none⟩)
    (hlen : len = 2 * m) (hmx : len ≤ 1000000) (hcap : len ≤ cap) (hm0 : 0 < m) (w : World) (hBs : w.cell? ⟨Bs, 0, none⟩ = some (.slice (some ⟨g, off, none⟩) len cap)) (hBn : w.cell? ⟨Bn, 0, none⟩ = some (.int .i64 2)) (hb1 : Bs < w.heap.size) (hb2 : Bn < w.heap.size) :
    SeqStopsK Fence.wide n Tryd.prog 139 #[.pointer (some ⟨Bs, 0, none⟩), .pointer (some ⟨Bn, 0, none⟩)] (fun x : Fin m => #[Value.slice (some ⟨g, off + 2 * x.1, none⟩) 2 2]) Kp (fun ys => ys = upto (pieceAt hm0) m)
      (fun pre => ∃ k, k ≤ m ∧ pre = upto (pieceAt hm0) k) m w := fun l J Jx W hW aJ _ hY h0 =>
  chunk1_in n hn l Bs Bn g off cap len m Kp kr kt kd ks kn hlen hmx hcap hm0 J Jx (fun s A B h hg => aJ s A B none h hg (fun r e => by cases e)) hY W ((hW.cell (p := ⟨Bs, 0, none⟩) hb1).trans hBs) ((hW.cell (p := ⟨Bn, 0, none⟩) hb2).trans hBn) h0
end Go.Proofs.YtndcaaikjcicgaaDoor
