/-
  DERIVED. The walk of the reference's New.
-/
import Derived.Test.YtndcaaikjcicgaaDoorPrimes
import Derived.Test.YtndcaaikjcicgaaDoorExt
set_option linter.unusedVariables false
set_option linter.unusedSimpArgs false
namespace Go.Cof
open Go.RowKit
theorem root3_at (i : Nat) (h : i < 64) : rootD (primes64.getD i 0) 3 = roundsK.getD i 0 := by
  rw [← roots3, List.getD_eq_getElem?_getD, List.getD_eq_getElem?_getD, List.getElem?_map]
  have e : i < primes64.length := h
  rw [List.getElem?_eq_getElem e]; rfl
theorem root2_at (i : Nat) (h : i < 8) : rootD (primes64.getD i 0) 2 = startH.getD i 0 := by
  rw [← roots2, List.getD_eq_getElem?_getD, List.getD_eq_getElem?_getD, List.getElem?_map, List.getElem?_take, if_pos h]
  have e : i < primes64.length := Nat.lt_trans h (by decide)
  rw [List.getElem?_eq_getElem e]; rfl
/-- The numbers of a sum, so many of them reckoned. -/
def refNums (i : Nat) : List Nat := times (fun i l => if i < 8 then (l.set (8 + i) (roundsK.getD i 0)).set i (startH.getD i 0) else l.set (8 + i) (roundsK.getD i 0)) i (List.replicate 72 0)
theorem refNums_succ (i : Nat) : refNums (i + 1) = if i < 8 then ((refNums i).set (8 + i) (roundsK.getD i 0)).set i (startH.getD i 0) else (refNums i).set (8 + i) (roundsK.getD i 0) := rfl
theorem refNums_end : refNums 64 = startH ++ roundsK := by decide +kernel
theorem refNums_len (i : Nat) : (refNums i).length = 72 := by
  rw [refNums, times_len (fun i l => by split <;> simp), List.length_replicate]
end Go.Cof
namespace Go.Proofs.YtndcaaikjcicgaaDoor
open Go.RowKit Go.Cof
/-- The reference's numbers lie there. -/
def RefR (w : World) (B : Nat) : Prop := Row w B .u32 100 (startH ++ roundsK)
theorem primes64_small (i : Nat) : primes64.getD i 0 < 65536 := getD_lt (by omega) (by decide) i
set_option maxRecDepth 100000 in
set_option maxHeartbeats 4000000 in
theorem new_any (w : World) : Calls Tryd.prog 12 #[] w fun e w' => e = .returned (.pointer (some ⟨w.heap.size, 0, none⟩)) ∧ RefR w' w.heap.size ∧ Keep NoB w w' := by
  go_enter Tryd.func12, Tryd.ntmps12
  go_wp2_with fail
  refine (primes_any _).mono ?_
  rintro e w1 ⟨v1, rfl, hown, K1⟩
  have R0 : Row w1 w.heap.size .u32 100 (refNums 0) := K1.heap (heap_alloc_new w _) (fun x => x)
  have K : Keep NoB w w1 := ((Keep.refl NoB w).alloc _).thenN K1
  obtain ⟨gp, cp, rfl, hgp⟩ := own_some hown (by decide)
  have RP : PRow w1 gp 3 .i64 primes64 := PRow.ofOwn hown
  have hgp2 : w.heap.size < gp := by simp at hgp; omega
  clear hown K1 hgp
  have hl64 : primes64.length = 64 := rfl
  rw [hl64]
  go_wp2_with fail
  refine wp_world (fun w1 => Row w1 w.heap.size .u32 100 (refNums 0) ∧ PRow w1 gp 3 .i64 primes64 ∧ Keep NoB w w1) ⟨R0, RP, K⟩ ?_
  clear R0 RP K hl64
  intro w3 hw3
  go_loopw [8] (fun i wr => ∃ j : Nat, j ≤ 64 ∧ i = .int .i64 j ∧ Row wr w.heap.size .u32 100 (refNums j) ∧ PRow wr gp 3 .i64 primes64 ∧ Keep NoB w wr) (fun i _ => 64 - (intOf i).toNat)
  case atStart => exact ⟨0, by omega, rfl, hw3⟩
  case round =>
    clear hw3 w3 w1
    obtain ⟨j, hj, rfl, R, RP, K⟩ := hrel
    by_cases hlt : j < 64
    · have j1 : (j : Int) < 64 := by omega
      have cp := RP.cell j hlt
      have h3 := root3_at j hlt
      have h2 := root2_at j
      obtain ⟨p, hp⟩ : ∃ p, p = primes64.getD j 0 := ⟨_, rfl⟩
      have hps : p < 65536 := by rw [hp]; exact primes64_small j
      have hpi : (p : Int) ≤ 65536 := by omega
      rw [← hp] at cp h3 h2
      have H3 := Lib.hid h3
      have H2 := Lib.hid h2
      clear h3 h2 hp
      have hRlt : w.heap.size < wr.heap.size := R.lt
      have hwp : IntKind.u64.wrap (p : Int) = (p : Int) := by rw [IntKind.wrap_u64]; omega
      clear hps
      obtain ⟨r0, hr0⟩ : ∃ r, r = refNums j := ⟨_, rfl⟩
      have hl0 : r0.length = 72 := by rw [hr0, refNums_len]
      have hs := refNums_succ j
      rw [← hr0] at R hs
      have Hl0 := Lib.hid hl0
      have Hs := Lib.hid hs
      clear hr0 hl0 hs
      go_wp2_with fail
      refine wp_region_qt_ext 8 (by kernel_rfl) (by kernel_rfl) ?_
      simp only [List.take_succ_cons, List.take_zero, List.drop_succ_cons, List.drop_zero]
      repeat (quiet_step ((go_at_call 67; exact quiet_ext _ (root_any p 3 (by omega) _))))
      refine wpQuiet_nil ?_
      intro x
      refine wl_world (fun w1 => Row w1 w.heap.size .u32 100 r0 ∧ PRow w1 gp 3 .i64 primes64 ∧ Keep NoB w w1) ⟨R.keep (ext_keep wr x) (fun x => x), RP.keep (ext_keep wr x) (fun x => x), K.thenN (ext_keep wr x)⟩ ?_
      clear R RP K hRlt cp x wr
      intro wr hwr
      obtain ⟨R, RP, K⟩ := hwr
      have c8 := R.cell (8 + j) (by rw [Hl0.out]; omega)
      have f8 := R.free (8 + j)
      by_cases h8 : j < 8
      · have j2 : (j : Int) < 8 := by omega
        go_wp2_with fail
        have R2 := R.store (8 + j) (v := ((rootD p 3 : Nat) : Int)) rfl
        have K2 := K.setCell (p := ⟨w.heap.size, 8 + j, none⟩) (.inr (Nat.le_refl _)) (.int .u32 ((rootD p 3 : Nat) : Int))
        have RP2 := RP.keep ((Keep.refl (OneB w.heap.size) wr).setCell (p := ⟨w.heap.size, 8 + j, none⟩) (.inl rfl) (.int .u32 ((rootD p 3 : Nat) : Int))) (fun e => by simp only [OneB] at e; omega)
        refine wp_world (fun w1 => Row w1 w.heap.size .u32 100 (r0.set (8 + j) (rootD p 3)) ∧ PRow w1 gp 3 .i64 primes64 ∧ Keep NoB w w1) ⟨R2, RP2, K2⟩ ?_
        clear R RP K R2 RP2 K2 c8 f8 wr
        intro wr hwr
        obtain ⟨R, RP, K⟩ := hwr
        have hRlt : w.heap.size < wr.heap.size := R.lt
        refine wp_region_qt_ext 8 (by kernel_rfl) (by kernel_rfl) ?_
        simp only [List.take_succ_cons, List.take_zero, List.drop_succ_cons, List.drop_zero]
        repeat (quiet_step ((go_at_call 67; exact quiet_ext _ (root_any _ 2 (by decide) _))))
        refine wpQuiet_nil ?_
        intro x
        refine wl_world (fun w1 => Row w1 w.heap.size .u32 100 (r0.set (8 + j) (rootD p 3)) ∧ PRow w1 gp 3 .i64 primes64 ∧ Keep NoB w w1) ⟨R.keep (ext_keep wr x) (fun x => x), RP.keep (ext_keep wr x) (fun x => x), K.thenN (ext_keep wr x)⟩ ?_
        clear R RP K hRlt x wr
        intro wr hwr
        obtain ⟨R, RP, K⟩ := hwr
        have c8 := R.cell j (by rw [List.length_set, Hl0.out]; omega)
        have f8 := R.free j
        go_wp2_with fail
        have R2 := R.store j (v := ((rootD p 2 : Nat) : Int)) rfl
        have hs2 : (r0.set (8 + j) (rootD p 3)).set j (rootD p 2) = refNums (j + 1) := by rw [Hs.out, if_pos h8, H3.out, H2.out h8]
        rw [hs2] at R2
        exact ⟨⟨j + 1, by omega, by go_num, R2, RP.keep ((Keep.refl (OneB w.heap.size) wr).setCell (p := ⟨w.heap.size, j, none⟩) (.inl rfl) _) (fun e => by simp only [OneB] at e; omega), K.setCell (p := ⟨w.heap.size, j, none⟩) (.inr (Nat.le_refl _)) _⟩, by simp [intOf]; omega⟩
      · have j2 : decide ((j : Int) < 8) = false := by simp; omega
        go_wp2_with fail
        have R2 := R.store (8 + j) (v := ((rootD p 3 : Nat) : Int)) rfl
        have hs2 : r0.set (8 + j) (rootD p 3) = refNums (j + 1) := by rw [Hs.out, if_neg h8, H3.out]
        rw [hs2] at R2
        exact ⟨⟨j + 1, by omega, by go_num, R2, RP.keep ((Keep.refl (OneB w.heap.size) wr).setCell (p := ⟨w.heap.size, 8 + j, none⟩) (.inl rfl) _) (fun e => by simp only [OneB] at e; omega), K.setCell (p := ⟨w.heap.size, 8 + j, none⟩) (.inr (Nat.le_refl _)) _⟩, by simp [intOf]; omega⟩
    · have hj64 : j = 64 := by omega
      have j1 : decide ((j : Int) < 64) = false := by simp; omega
      rw [hj64, refNums_end] at R
      clear hlt hj hj64
      go_wp2_with fail
      go_ret
      exact ⟨rfl, R, K⟩
end Go.Proofs.YtndcaaikjcicgaaDoor
