/-
  DERIVED. device.Image; slices.Equal of texts; slices.ContainsFunc; few; pick.
-/
import Derived.Test.YtndcaaikjcicgaaDoorDevN
import Derived.Test.YtndcaaikjcicgaaDoorStrs
import Derived.IntWalk
set_option linter.unusedVariables false
set_option linter.unusedSimpArgs false
namespace Go.Proofs.YtndcaaikjcicgaaDoor
open Go.RowKit Go.Cof
theorem image_any {w : World} {D S : Nat} {wv : Value} {sure : List ByteArray} {wait : List (Nat × ByteArray)} {fuse : Int} (h : DevAt w D S wv sure wait fuse) :
    Calls Tryd.prog 39 #[.pointer (some ⟨D, 0, none⟩)] w fun e w' => ∃ g c, e = .returned (.slice (some ⟨g, 0, none⟩) 66 c) ∧ Strs w' (.slice (some ⟨g, 0, none⟩) 66 c) sure ∧ w.heap.size ≤ g ∧ Keep NoB w w' := by
  obtain ⟨_, c, cD, _⟩ := h.cell1
  have hb : ∀ j, j < sure.length → w.cell? ⟨S, 0 + j, none⟩ = some (.string (sure.getD j ByteArray.empty)) := fun j hj => by
    rw [Nat.zero_add]; exact (h.block j (by rw [← h.len]; exact hj)).1
  have hl := h.len
  have hc := Tryd.slices_Clone_string S 0 66 c sure w (by omega) (by omega) hb
  rw [List.take_of_length_le (by omega)] at hc
  clear hb
  have Hl := Lib.hid hl
  clear hl
  go_enter Tryd.func39, Tryd.ntmps39
  go_wp2_with fail
  refine hc.mono ?_
  clear hc
  rintro e w1 ⟨v', rfl, ho, hne, hB⟩
  obtain ⟨g, cap, rfl, hg⟩ := own_some ho (by omega)
  go_wp2_with fail
  go_ret
  refine ⟨g, cap, rfl, ?_, hg, Keep.ofBelow hB⟩
  have hlt := (ho.lt g rfl).2
  refine .inr ⟨g, 0, cap, by rw [Hl.out], hlt, fun i hi => ?_⟩
  have := ho.cells (g := g) rfl i (.string (sure.getD i ⟨#[]⟩)) (by simp [hi])
  have hadd : (⟨g, 0, none⟩ : Addr).add i = ⟨g, 0 + i, none⟩ := by unfold Addr.add; split <;> simp_all
  rwa [hadd] at this
theorem image_N {w0 w : World} {D S : Nat} {wv : Value} {sure : List ByteArray} {wait : List (Nat × ByteArray)} {fuse : Int} (h : DevN w0 w D S wv sure wait fuse) :
    Calls Tryd.prog 39 #[.pointer (some ⟨D, 0, none⟩)] w fun e w' => ∃ g c, e = .returned (.slice (some ⟨g, 0, none⟩) 66 c) ∧ Strs w' (.slice (some ⟨g, 0, none⟩) 66 c) sure ∧ w.heap.size ≤ g ∧ DevN w0 w' D S wv sure wait fuse ∧ Keep NoB w w' :=
  (image_any h.dev).mono fun _ _ ⟨g, c, he, hs, hg, hK⟩ => ⟨g, c, he, hs, hg, h.keepN hK, hK⟩
theorem equal_any (v v' : Value) (a b : List ByteArray) (w : World) (A : Strs w v a) (B : Strs w v' b) (ha : a.length ≤ 1000000) (hb : b.length ≤ 1000000) :
    Calls Tryd.prog 41 #[v, v'] w fun e w' => e = .returned (.bool (decide (a = b))) ∧ Keep NoB w w' := by
  by_cases h0 : a = []
  · subst h0
    obtain ⟨p, c, rfl⟩ := A.len
    obtain ⟨p', c', rfl⟩ := B.len
    refine (Tryd.slices_Equal_string_empty p p' c b.length c' w (by omega)).mono fun e w' ⟨he, hw⟩ => ⟨?_, hw ▸ Keep.refl _ _⟩
    rw [he]
    congr 2
    cases b <;> simp
  · by_cases h1 : b = []
    · subst h1
      obtain ⟨p, c, rfl⟩ := A.len
      obtain ⟨p', c', rfl⟩ := B.len
      have hpos : 0 < a.length := List.length_pos_iff.2 h0
      refine (Tryd.slices_Equal_string_lens p p' a.length c 0 c' w (by omega)).mono fun e w' ⟨he, hw⟩ => ⟨?_, hw ▸ Keep.refl _ _⟩
      rw [he]
      congr 2
      simpa using h0
    · obtain ⟨p, c, rfl⟩ := A.len
      obtain ⟨p', c', rfl⟩ := B.len
      obtain ⟨B1, o1, rfl, _, _, hc1⟩ := A.at (List.length_pos_iff.2 h0)
      obtain ⟨B2, o2, rfl, _, _, hc2⟩ := B.at (List.length_pos_iff.2 h1)
      refine (Tryd.slices_Equal_string B1 o1 a.length c B2 o2 b.length c' a b w (Nat.le_refl _) (Nat.le_refl _) (by omega) (by omega) hc1 hc2).mono fun e w' ⟨he, q, hw⟩ => ⟨?_, hw ▸ (Keep.refl _ _).drewN q⟩
      rw [he, List.take_of_length_le (Nat.le_refl _), List.take_of_length_le (Nat.le_refl _)]
theorem few1_any (s : ByteArray) (w : World) : Calls Tryd.prog 80 #[.string s] w fun e w' => e = .returned (.bool (decide (256 < s.size))) ∧ w' = w := by
  go_enter Tryd.func80, Tryd.ntmps80
  go_wp2
  go_ret
  exact ⟨congrArg (fun b => Ending.returned (.bool b)) (by simp only [decide_eq_decide]; omega), rfl⟩
/-- Texts are few, and short. -/
def fewB (l : List ByteArray) : Bool := decide (l.length ≤ 20) && !l.any fun s => decide (256 < s.size)
theorem few_any (v : Value) (l : List ByteArray) (w : World) (S : Strs w v l) (hl : l.length ≤ maxLen) : Calls Tryd.prog 33 #[v] w fun e w' => e = .returned (.bool (fewB l)) ∧ w' = w := by
  unfold maxLen at hl
  by_cases h20 : l.length ≤ 20
  · have hc := containsFunc_any 80 _ few1_any (enters_of Tryd.func80 (by kernel_rfl) rfl) v l w S (by omega)
    have hf : fewB l = !l.any fun s => decide (256 < s.size) := by rw [fewB, decide_eq_true h20]; rfl
    rw [hf]
    obtain ⟨a, c, rfl⟩ := S.len
    have d1 : decide ((l.length : Int) ≤ 20) = true := by simp; omega
    generalize (l.any fun s => decide (256 < s.size)) = b at hc ⊢
    clear hf
    go_enter Tryd.func33, Tryd.ntmps33
    go_wp2_with fail
    refine hc.mono ?_
    clear hc
    rintro e w' ⟨rfl, hw⟩
    subst w'
    go_wp2_with fail
    go_ret
    exact ⟨rfl, rfl⟩
  · have hf : fewB l = false := by rw [fewB, decide_eq_false h20]; rfl
    rw [hf]
    obtain ⟨a, c, rfl⟩ := S.len
    have d1 : decide ((l.length : Int) ≤ 20) = false := by simp; omega
    clear hf h20
    go_enter Tryd.func33, Tryd.ntmps33
    go_wp2_with fail
    go_ret
    exact ⟨rfl, rfl⟩
/-- A number below n, out of any. -/
def pickN (a : Int) (n : Nat) : Nat := (a % 18446744073709551616 % (n : Int)).toNat
theorem pickN_lt (a : Int) (n : Nat) (hn : 0 < n) : pickN a n < n := by
  have h1 := Int.emod_lt_of_pos (a % 18446744073709551616) (show (0 : Int) < n by omega)
  have h2 := Int.emod_nonneg (a % 18446744073709551616) (show (n : Int) ≠ 0 by omega)
  rw [pickN]; omega
theorem pick_any (a : Int) (i : Int) (n : Nat) (hi : i = n) (hn : 0 < n) (hn2 : n ≤ 1000000) (w : World) : Calls Tryd.prog 37 #[.int .i64 a, .int .i64 i] w fun e w' => e = .returned (.int .i64 (pickN a n)) ∧ w' = w := by
  subst hi
  have h2 := Int.emod_nonneg (a % 18446744073709551616) (show (n : Int) ≠ 0 by omega)
  have h1 := Int.emod_lt_of_pos (a % 18446744073709551616) (show (0 : Int) < n by omega)
  have hp : ((pickN a n : Nat) : Int) = a % 18446744073709551616 % (n : Int) := by rw [pickN]; omega
  rw [hp]
  have hn0 : (n : Int) ≠ 0 := by omega
  go_enter Tryd.func37, Tryd.ntmps37
  go_wp2_with fail
  go_ret
  refine ⟨congrArg (fun x => Ending.returned (.int .i64 x)) ?_, rfl⟩
  rw [IntKind.wrap_u64, Int.tmod_eq_emod_of_nonneg (Int.emod_nonneg _ (by decide))]
  unfold wrap64
  omega
end Go.Proofs.YtndcaaikjcicgaaDoor
