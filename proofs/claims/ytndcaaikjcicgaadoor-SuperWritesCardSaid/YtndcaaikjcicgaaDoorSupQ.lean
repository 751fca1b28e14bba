/-
  DERIVED. super.Parse: the refusals of a key, of a short text.
-/
import Derived.Test.YtndcaaikjcicgaaDoorSupP
set_option linter.unusedVariables false
set_option linter.unusedSimpArgs false
namespace Go.Proofs.YtndcaaikjcicgaaDoor
open Go.RowKit Go.Cof
set_option maxRecDepth 100000
set_option maxHeartbeats 4000000 in
theorem supParse_arg (key s : ByteArray) (hk : key.size ≠ 32) (w : World) :
    Calls Tryd.prog 65 #[.string key, .string s] w fun e w' => e = .returned (.tuple #[supVal zeroSup, errVal 1]) ∧ Keep NoB w w' := by
  have j0 : ¬ ((key.size : Nat) : Int) = 32 := by omega
  have hin := info_super
  have hbz := built_zero
  have hzl := zero_len
  have hone := supCells_one zeroSup
  have hi35 : (Tryd.prog.info? 88).map (·.size) = some (supCells zeroSup).toArray.size := by rw [hzl]; exact info_super35
  rw [supVal] at hin ⊢
  obtain ⟨cz, hcz⟩ : ∃ cz, cz = (supCells zeroSup).toArray := ⟨_, rfl⟩
  rw [← hcz] at hin hbz hzl hone hi35 ⊢
  clear hcz
  have Hin := Lib.hid hin
  have Hbz := Lib.hid hbz
  have H35 := Lib.hid hi35
  clear hin hbz hi35
  go_enter Tryd.func65, Tryd.ntmps65
  go_wp2_with (first | (refine wpList_alloc_row rfl 88 rfl Hin.out ?_; refine wl_world (fun w9 => w9.heap[w.heap.size]? = some (.cells cz 88 (0, 0)) ∧ Keep NoB w w9) ⟨heap_alloc_new w _, (Keep.refl NoB w).alloc _⟩ ?_; rintro w9 ⟨hX9, K9⟩) | (refine wpList_build_is rfl 88 #[] rfl cz (by simpa using Hbz.out) ?_) | (refine wpList_store_whole rfl 88 (.tmp 4) (.tmp 14) rfl w.heap.size 88 cz cz rfl rfl hX9 H35.out 35 hzl hzl hone ?_; have hX10 := heap_setRow (c' := cz) hX9; have K10 := K9.setRow (g := w.heap.size) (.inr (Nat.le_refl _)) cz; refine wl_world (fun w10 => w10.heap[w.heap.size]? = some (.cells cz 88 (0, 0)) ∧ Keep NoB w w10) ⟨hX10, K10⟩ ?_; clear hX10 K10; rintro w10 ⟨hX10, K10⟩))
  exact bodyPost_ret (v := .tuple #[.agg cz, errVal 1]) (results_row_slot rfl _ w10 w.heap.size 88 cz (0, 0) _ (errVal 1) rfl rfl hX10 Tryd.underlying88 rfl H35.out) rfl ⟨rfl, K10⟩
set_option maxHeartbeats 4000000 in
theorem supParse_short (key s : ByteArray) (hk : key.size = 32) (hs : s.size < 82) (w : World) :
    Calls Tryd.prog 65 #[.string key, .string s] w fun e w' => e = .returned (.tuple #[supVal zeroSup, errVal 15]) ∧ Keep NoB w w' := by
  have j0 : ((key.size : Nat) : Int) = 32 := by omega
  have j1 : ((s.size : Nat) : Int) < 82 := by omega
  have hin := info_super
  have hbz := built_zero
  have hzl := zero_len
  have hone := supCells_one zeroSup
  have hi35 : (Tryd.prog.info? 88).map (·.size) = some (supCells zeroSup).toArray.size := by rw [hzl]; exact info_super35
  rw [supVal] at hin ⊢
  obtain ⟨cz, hcz⟩ : ∃ cz, cz = (supCells zeroSup).toArray := ⟨_, rfl⟩
  rw [← hcz] at hin hbz hzl hone hi35 ⊢
  clear hcz
  have Hin := Lib.hid hin
  have Hbz := Lib.hid hbz
  have H35 := Lib.hid hi35
  clear hin hbz hi35
  go_enter Tryd.func65, Tryd.ntmps65
  go_wp2_with (first | (refine wpList_alloc_row rfl 88 rfl Hin.out ?_; refine wl_world (fun w9 => w9.heap[w.heap.size]? = some (.cells cz 88 (0, 0)) ∧ Keep NoB w w9) ⟨heap_alloc_new w _, (Keep.refl NoB w).alloc _⟩ ?_; rintro w9 ⟨hX9, K9⟩))
  go_quiet (fail)
  go_wp2_with (first | (refine wpList_build_is rfl 88 #[] rfl cz (by simpa using Hbz.out) ?_) | (refine wpList_store_whole rfl 88 (.tmp 4) (.tmp 36) rfl w.heap.size 88 cz cz rfl rfl (show (w9.drewN nq).heap[w.heap.size]? = _ from hX9) H35.out 35 hzl hzl hone ?_; have hX10 := heap_setRow (c' := cz) (show (w9.drewN nq).heap[w.heap.size]? = _ from hX9); have K10 := (K9.drewN nq).setRow (g := w.heap.size) (.inr (Nat.le_refl _)) cz; refine wl_world (fun w10 => w10.heap[w.heap.size]? = some (.cells cz 88 (0, 0)) ∧ Keep NoB w w10) ⟨hX10, K10⟩ ?_; clear hX10 K10; rintro w10 ⟨hX10, K10⟩))
  exact bodyPost_ret (v := .tuple #[.agg cz, errVal 15]) (results_row_slot rfl _ w10 w.heap.size 88 cz (0, 0) _ (errVal 15) rfl rfl hX10 Tryd.underlying88 rfl H35.out) rfl ⟨rfl, K10⟩
end Go.Proofs.YtndcaaikjcicgaaDoor
