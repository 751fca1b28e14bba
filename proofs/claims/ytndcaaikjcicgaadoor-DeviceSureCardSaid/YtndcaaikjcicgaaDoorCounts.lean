/-
  DERIVED. The walk of the law DeviceCounts.
-/
import Derived.Test.YtndcaaikjcicgaaDoorDevN
set_option linter.unusedVariables false
set_option linter.unusedSimpArgs false
namespace Go.Cof
open Go.RowKit
/-- A slice that reads as numbers. -/
def Nums (w : World) (v : Value) (l : List Int) : Prop :=
  (l = [] ∧ ∃ p c, v = .slice p 0 c) ∨ ∃ B off c, v = .slice (some ⟨B, off, none⟩) l.length c ∧ B < w.heap.size ∧ ∀ i, i < l.length → w.cell? ⟨B, off + i, none⟩ = some (.int .i64 (l.getD i 0))
theorem Nums.len {w : World} {v : Value} {l : List Int} (h : Nums w v l) : ∃ p c, v = .slice p l.length c := by
  rcases h with ⟨rfl, p, c, hv⟩ | ⟨B, off, c, hv, _⟩
  · exact ⟨p, c, hv⟩
  · exact ⟨_, c, hv⟩
theorem Nums.at {w : World} {p : Option Addr} {n c : Nat} {l : List Int} (h : Nums w (.slice p n c) l) (hl : 0 < l.length) : ∃ B off, p = some ⟨B, off, none⟩ ∧ n = l.length ∧ B < w.heap.size ∧ ∀ i, i < l.length → w.cell? ⟨B, off + i, none⟩ = some (.int .i64 (l.getD i 0)) := by
  rcases h with ⟨rfl, _⟩ | ⟨B, off, c, hv, hB, hc⟩
  · simp at hl
  · cases hv
    exact ⟨B, off, rfl, rfl, hB, hc⟩
theorem Nums.keep {w w' : World} {v : Value} {l : List Int} (h : Nums w v l) {S : Nat → Prop} (hk : Keep S w w') (hn : ∀ b, v.ownBlock = some b → ¬ S b) : Nums w' v l := by
  rcases h with h | ⟨B, off, c, hv, hB, hc⟩
  · exact .inl h
  · refine .inr ⟨B, off, c, hv, Nat.lt_of_lt_of_le hB hk.size, fun i hi => ?_⟩
    rw [hk.cell (p := ⟨B, off + i, none⟩) hB (hn B (by rw [hv]; rfl))]
    exact hc i hi
end Go.Cof
namespace Go.Proofs.YtndcaaikjcicgaaDoor
open Go.RowKit Go.Cof
set_option maxRecDepth 100000 in
set_option maxHeartbeats 4000000 in
theorem deviceCounts_any (v : Value) (l : List Int) (w : World) (hg : ErrVar w) (N : Nums w v l) (hl : l.length ≤ maxLen) :
    Calls Tryd.prog 4 #[v] w fun e w' => e = .returned (.bool true) ∧ Keep NoB w w' := by
  obtain ⟨p, c, rfl⟩ := N.len
  unfold maxLen at hl
  obtain ⟨n, hn⟩ : ∃ n, n = l.length := ⟨_, rfl⟩
  rw [← hn] at N hl
  rw [← hn]
  have Hn := Lib.hid hn
  clear hn
  by_cases h60 : 60 < n
  · have d1 : decide ((60 : Int) < n) = true := by simp; omega
    go_enter Tryd.func4, Tryd.ntmps4
    go_wp2_with fail
    go_ret
    exact ⟨rfl, Keep.refl _ _⟩
  have d1 : decide ((60 : Int) < n) = false := by simp; omega
  go_enter Tryd.func4, Tryd.ntmps4
  go_wp2_with fail
  refine (lost_any w hg).mono ?_
  rintro e w1 ⟨rfl, K1⟩
  go_wp2_with fail
  refine wp_world (fun w2 => CountAt w2 w1.heap.size 0 ∧ Keep NoB w w2) ⟨heap_alloc_new w1 _, K1.alloc _⟩ ?_
  intro w2 hw2
  obtain ⟨B, hB⟩ : ∃ B, B = w1.heap.size := ⟨_, rfl⟩
  rw [← hB] at hw2
  rw [← hB]
  have hBw : w.heap.size ≤ B := by rw [hB]; exact K1.size
  clear hB K1
  go_loopw [4, 5] (fun a i wr => ∃ (k : Nat) (x : Int), k ≤ n ∧ i = .int .i64 k ∧ a = .int .i64 x ∧ CountAt wr B x ∧ Keep NoB w wr) (fun _ i _ => n - (intOf i).toNat)
  case atStart => exact ⟨0, 0, by omega, rfl, rfl, hw2⟩
  case round =>
    clear hw2 w2
    obtain ⟨k, x, hk, rfl, rfl, hc, K⟩ := hrel
    by_cases hlt : k < n
    · have j1 : (k : Int) < n := by omega
      have N1 := N.keep K (fun _ _ x => x)
      obtain ⟨b, off, rfl, hnl, hb, hcell⟩ := N1.at (by have := Hn.out; omega)
      have hck := hcell k (by have := Hn.out; omega)
      obtain ⟨y, hy⟩ : ∃ y, y = l.getD k 0 := ⟨_, rfl⟩
      rw [← hy] at hck
      have hbB : b ≠ B := by
        rcases N with ⟨h0, _⟩ | ⟨b', off', c', hv, hb', _⟩
        · have := Hn.out; rw [h0] at this; simp at this; omega
        · cases hv; omega
      have hck0 := hck
      have cB := hc.cell
      clear hcell hy N1 hnl
      by_cases hxy : x < y
      · go_wp2_with fail
        refine (raise_yes hc y hxy).mono ?_
        rintro e w3 ⟨rfl, hc3, K3⟩
        have hck3 : w3.cell? ⟨b, off + k, none⟩ = some (.int .i64 y) := (K3.cell (p := ⟨b, off + k, none⟩) hb hbB).trans hck
        go_wp2_with fail
        have d3 : decide (x < y) = true := by simpa using hxy
        go_quiet (fail)
        have hmx : max x y = y := by omega
        go_wp2_with fail
        refine (get_any (B := B) (n := y) (w := w3.drewN nq) hc3).mono ?_
        rintro e w4 ⟨rfl, hw4⟩
        subst w4
        clear hmx
        go_wp2_with fail
        exact ⟨⟨k + 1, y, by omega, by go_num, rfl, hc3, (K.trans K3 (fun i hi hs => by simp only [Cof.OneB] at hs; omega)).drewN nq⟩, by simp [intOf]; omega⟩
      · have hyx : y ≤ x := by omega
        go_wp2_with fail
        refine (raise_no hc y hyx).mono ?_
        rintro e w3 ⟨rfl, hw3⟩
        subst w3
        go_wp2_with fail
        have d3 : decide (x < y) = false := by simpa using hyx
        have ht := fun X : Ext wr => tell_errno 10 (wr.ext X) (hg.keep (K.thenN (ext_keep wr X)) (fun x => x))
        refine wp_region_q_ext (by kernel_rfl) (by kernel_rfl) ?_
        repeat (quiet_step ((go_at_call 23; exact quiet_ext _ (ht _))))
        refine wpQuiet_nil ?_
        intro X
        have hmx : max x y = x := by omega
        have hcX : CountAt (wr.ext X) B x := hc.keep (ext_keep wr X) (fun x => x)
        have KX := K.thenN (ext_keep wr X)
        go_wp2_with fail
        refine (get_any hcX).mono ?_
        rintro e w4 ⟨rfl, hw4⟩
        subst w4
        clear hmx
        go_wp2_with fail
        exact ⟨⟨k + 1, x, by omega, by go_num, rfl, hcX, KX⟩, by simp [intOf]; omega⟩
    · obtain rfl : k = n := by omega
      go_wp2_with fail
      go_ret
      exact ⟨rfl, K⟩
end Go.Proofs.YtndcaaikjcicgaaDoor
