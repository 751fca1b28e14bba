/-
  DERIVED. The reference's SuperParse: the text is read. (UNDER WAY)
-/
import Derived.Test.YtndcaaikjcicgaaDoorSupQ
import Derived.Test.YtndcaaikjcicgaaDoorRound
import Derived.Deep.CutBlock
import Derived.Deep.DeepCutAuto
set_option linter.unusedVariables false
set_option linter.unusedSimpArgs false
namespace Go.Proofs.YtndcaaikjcicgaaDoor
open Go.RowKit Go.Cof
/-- The sides, as far as they are read. -/
def sidesAt (s : ByteArray) (t : Nat) : List Bool := (List.range 32).map fun i => decide (i < t) && decide ((bs s).getD (18 + i) 0 = 49)
theorem sidesAt_len (s : ByteArray) (t : Nat) : (sidesAt s t).length = 32 := by simp [sidesAt]
theorem sidesAt_zero (s : ByteArray) : sidesAt s 0 = List.replicate 32 false := by
  show (List.range 32).map (fun i => decide (i < 0) && decide ((bs s).getD (18 + i) 0 = 49)) = _
  simp only [Nat.not_lt_zero, decide_false, Bool.false_and]
  rfl
theorem sidesAt_all (s : ByteArray) : sidesAt s 32 = (List.range 32).map fun i => decide ((bs s).getD (18 + i) 0 = 49) := by
  refine List.map_congr_left fun i hi => ?_
  rw [decide_eq_true (List.mem_range.1 hi), Bool.true_and]
theorem sidesAt_step (s : ByteArray) (t : Nat) : (sidesAt s t).set t (decide ((bs s).getD (18 + t) 0 = 49)) = sidesAt s (t + 1) := by
  refine List.ext_getElem (by simp [sidesAt]) fun i h1 h2 => ?_
  rw [List.getElem_set]
  simp only [sidesAt, List.getElem_map, List.getElem_range]
  by_cases e : t = i
  · subst e
    rw [if_pos rfl, decide_eq_true (Nat.lt_succ_self t), Bool.true_and]
  · rw [if_neg e]
    have : decide (i < t) = decide (i < t + 1) := by rw [decide_eq_decide]; omega
    rw [this]
theorem supCells_set (a b : Int) (l : List Bool) (r : ByteArray) (t : Nat) (v : Bool) (ht : t < l.length) : (supCells ⟨a, b, l, r⟩).toArray.setIfInBounds (2 + t) (.bool v) = (supCells ⟨a, b, l.set t v, r⟩).toArray := by
  rw [List.setIfInBounds_toArray]
  congr 1
  simp only [supCells]
  rw [List.set_append_left _ _ (by simp; omega), List.set_append_right _ _ (by simp), List.map_set]
  simp
theorem supCells_side (x : SupV) (t : Nat) (ht : t < x.sides.length) : (supCells x).toArray[2 + t]? = some (.bool (x.sides.getD t false)) := by
  rw [List.getElem?_toArray, supCells, List.append_assoc, List.getElem?_append_right (by simp), List.getElem?_append_left (by simp [ht])]
  simp [ht]
theorem supT_len (key : ByteArray) (x : SupV) (hx : x.sides.length = 32) (ho : supMay key x = true) : (supT key x).length = 82 := by
  simp only [supMay, supOk, Bool.and_eq_true, decide_eq_true_eq] at ho
  have h5 : x.root.size = 16 := ho.2.2
  rw [supT, bodyT, headT, List.length_append, List.length_append, List.length_append, List.length_append, List.length_append, be64, be64To_len, be64, be64To_len, sideT, List.length_map, hx, bs_len, h5, Cof.mark, List.length_take, sha_len]
  rfl
theorem bodyT_bytes (x : SupV) : Bytes (bodyT x) := by
  rw [bodyT, headT]
  refine bytes_append (bytes_append (bytes_append (bytes_append ?_ (be64_bytes _)) (be64_bytes _)) ?_) (bs_bytes _)
  · intro x hx
    simp only [List.mem_cons, List.not_mem_nil, or_false] at hx
    rcases hx with rfl | rfl <;> decide
  · intro y hy
    simp only [sideT, List.mem_map] at hy
    obtain ⟨b, _, rfl⟩ := hy
    cases b <;> decide
theorem parseB_of (key s : ByteArray) (hm : supMay key (readSup s) = true) (hs : 82 ≤ s.size) : parseB key s = decide (bs s = supT key (readSup s) ++ List.replicate (s.size - 82) 0) := by
  have hl := supT_len key (readSup s) (readSup_sides s) hm
  rw [parseB, hm, Bool.true_and, Bool.eq_iff_iff, Bool.and_eq_true, decide_eq_true_eq, decide_eq_true_eq, decide_eq_true_eq]
  constructor
  · rintro ⟨h1, h2⟩
    rw [← h1, ← h2, List.take_append_drop]
  · intro h
    have e1 := congrArg (List.take 82) h
    have e2 := congrArg (List.drop 82) h
    rw [List.take_left' hl] at e1
    rw [List.drop_left' hl] at e2
    exact ⟨e1, e2⟩
theorem heap_setCell_row {w : World} {B i : Nat} {cs : Array Value} {t : TypeId} {fr : Nat × Nat} (h : w.heap[B]? = some (.cells cs t fr)) (v : Value) : (w.setCell ⟨B, i, none⟩ v).heap[B]? = some (.cells (cs.setIfInBounds i v) t fr) := by
  have hlt := lt_of_heap h
  have h' : w.heap[B] = .cells cs t fr := by simpa [Array.getElem?_eq_getElem hlt] using h
  show (w.heap.modify B _)[B]? = _
  rw [Array.getElem?_eq_getElem (by simpa using hlt), Array.getElem_modify_self, h']
  rfl
theorem heap_setCell_other {w : World} {B C i : Nat} {o : Option Obj} (h : w.heap[C]? = o) (hn : C ≠ B) (v : Value) : (w.setCell ⟨B, i, none⟩ v).heap[C]? = o := (Below.heap_setCell w ⟨B, i, none⟩ v C hn).trans h
theorem run_storeCells_whole {P : Program} {w : World} {g : Nat} {t : TypeId} {cs cb : Array Value} (hg : w.heap[g]? = some (.cells cs t (0, 0))) (hs : cs.size = cb.size) (h1 : cb.all (·.oneCell') = true) :
    (storeCells ⟨g, 0, none⟩ cb.toList).run P w = .ok () (w.setRow g cb) := by
  have h := run_storeCells_clear P g 0 t (0, 0) cb.toList 0 cs w hg (Clear.zero _) (by simp; omega) (fun v hv => Array.all_eq_true_iff_forall_mem.1 h1 v (by simpa using hv))
  simp only [Nat.add_zero, List.take_zero, List.nil_append, Nat.zero_add, Array.length_toList] at h
  rw [h, List.drop_of_length_le (by simp; omega), List.append_nil]
set_option maxRecDepth 100000
set_option maxHeartbeats 8000000 in
theorem refParse_main (RB : Nat) (key s : ByteArray) (hk : key.size = 32) (hs : 82 ≤ s.size) (hs2 : s.size ≤ 1000) (w : World) (RR : RefR w RB) :
    Calls Tryd.prog 64 #[.pointer (some ⟨RB, 0, none⟩), .string key, .string s] w fun e w' => e = .returned (.tuple #[supVal (parseV key s), .int .i64 (parseE key s)]) ∧ Keep NoB w w' := by
  obtain ⟨PV, hPV⟩ : ∃ P, P = parseV key s := ⟨_, rfl⟩
  obtain ⟨PE, hPE⟩ : ∃ P, P = parseE key s := ⟨_, rfl⟩
  rw [← hPV, ← hPE]
  have HPV := Lib.hid hPV
  have HPE := Lib.hid hPE
  clear hPV hPE
  have j0 : ((key.size : Nat) : Int) = 32 := by omega
  have j1 : ¬ ((s.size : Nat) : Int) < 82 := by omega
  have e1 : (2 : Int) ≤ s.size := by omega
  have e2 : (10 : Int) ≤ s.size := by omega
  have e3 : (66 : Int) ≤ s.size := by omega
  obtain ⟨P2, hP2⟩ : ∃ P, P = s.extract 2 s.size := ⟨_, rfl⟩
  obtain ⟨P10, hP10⟩ : ∃ P, P = s.extract 10 s.size := ⟨_, rfl⟩
  have b2 : bs P2 = (bs s).drop 2 := by rw [hP2, bs_extract, List.take_of_length_le (by rw [List.length_drop, bs_len]; exact Nat.le_refl _)]
  have b10 : bs P10 = (bs s).drop 10 := by rw [hP10, bs_extract, List.take_of_length_le (by rw [List.length_drop, bs_len]; exact Nat.le_refl _)]
  have s2 : P2.size = s.size - 2 := by rw [← bs_len, b2, List.length_drop, bs_len]
  have s10 : P10.size = s.size - 10 := by rw [← bs_len, b10, List.length_drop, bs_len]
  obtain ⟨va, hva⟩ : ∃ a, a = openVer ((bs s).drop 2) := ⟨_, rfl⟩
  obtain ⟨vb, hvb⟩ : ∃ a, a = openVer ((bs s).drop 10) := ⟨_, rfl⟩
  have hn2 := fun w => refNumber_any P2 (by omega) (by omega) w
  have hn10 := fun w => refNumber_any P10 (by omega) (by omega) w
  rw [b2, ← hva, hP2] at hn2
  rw [b10, ← hvb, hP10] at hn10
  have Hn2 := Lib.hid hn2
  have Hn10 := Lib.hid hn10
  have Hva := Lib.hid hva
  have Hvb := Lib.hid hvb
  clear hn2 hn10 b2 b10 s2 s10 hP2 hP10 hva hvb P2 P10
  obtain ⟨cb, hcb⟩ : ∃ cb, cb = (supCells ⟨va, vb, List.replicate 32 false, s.extract 50 66⟩).toArray := ⟨_, rfl⟩
  have hbu := built_sup va vb (s.extract 50 66)
  have hcbl : cb.size = 35 := by rw [hcb, List.size_toArray, supCells_len _ (by simp)]
  have hcb1 : cb.all (·.oneCell') = true := by rw [hcb]; exact supCells_one _
  rw [← hcb] at hbu
  have Hbu := Lib.hid hbu
  have Hcb := Lib.hid hcb
  have h35 : (Tryd.prog.info? 88).map (·.size) = some cb.size := by rw [hcbl]; exact info_super35
  have H35 := Lib.hid h35
  clear hbu hcb h35
  have hin := info_super
  have hzl := zero_len
  rw [supVal] at hin
  obtain ⟨cz, hcz⟩ : ∃ cz, cz = (supCells zeroSup).toArray := ⟨_, rfl⟩
  rw [← hcz] at hin hzl
  have Hin := Lib.hid hin
  have Hcz := Lib.hid hcz
  clear hin hcz
  go_enter Tryd.func64, Tryd.ntmps64
  go_upto_region 5 with (refine wpList_alloc_row rfl 88 rfl Hin.out ?_; refine wl_world (fun w9 => w9.heap[w.heap.size]? = some (.cells cz 88 (0, 0)) ∧ Keep NoB w w9) ⟨heap_alloc_new w _, (Keep.refl NoB w).alloc _⟩ ?_; rintro w9 ⟨hX9, K9⟩)
  go_cut [8] (fun yv wx => ∃ Y, yv = .pointer (some ⟨Y, 0, none⟩) ∧ w.heap.size < Y ∧ wx.heap[Y]? = some (.cells cb 88 (0, 0)) ∧ wx.heap[w.heap.size]? = some (.cells cz 88 (0, 0)) ∧ Keep NoB w wx)
  case first =>
    have h9l : w.heap.size < w9.heap.size := lt_of_heap hX9
    have h9k := K9.size
    refine wp_region_plan [0, 1, 3, 4, 6, 7] (.fork 2 (.fork 5 (.fork 8 (.row [9, 10]) 9 (.row [8, 10])) 9 (.row [5, 8, 10])) 9 (.row [2, 5, 8, 10])) (by kernel_rfl) (by kernel_rfl) (fun c a d v w h => by cases d <;> exact h) ?_
    simp only [pickL, List.getElem?_toArray, List.getElem?_cons_succ, List.getElem?_cons_zero]
    repeat (refine wpEarly_step (fun K hK => ?_); go_simp; refine hK _ ?_; clear hK K)
    refine wpEarly_nil ?_
    refine ⟨?_, ?_⟩
    · simp only [pickL, List.getElem?_toArray, List.getElem?_cons_succ, List.getElem?_cons_zero]
      go_wp2_with fail
      refine (Hn2.out _).mono ?_
      rintro e wx ⟨rfl, hwx⟩
      subst wx
      go_wp2_with fail
      refine ⟨?_, ?_⟩
      · simp only [pickL, List.getElem?_toArray, List.getElem?_cons_succ, List.getElem?_cons_zero]
        go_wp2_with fail
        refine (Hn10.out _).mono ?_
        rintro e wx ⟨rfl, hwx⟩
        subst wx
        go_wp2_with fail
        refine ⟨?_, ?_⟩
        · simp only [pickL, List.getElem?_toArray, List.getElem?_cons_succ, List.getElem?_cons_zero]
          go_wp2_with (first | (refine wpList_alloc_row rfl 88 rfl Hin.out ?_; refine wl_world (fun w12 => w12.heap[w9.heap.size]? = some (.cells cz 88 (0, 0)) ∧ w12.heap[w.heap.size]? = some (.cells cz 88 (0, 0)) ∧ Keep NoB w w12) ⟨heap_alloc_new w9.drew _, ((Keep.refl NoB w9).drew.alloc _).heap hX9 (fun x => x), K9.drew.alloc _⟩ ?_; rintro w12 ⟨hY12, hX12, K12⟩; have hst := run_storeCells_whole (P := Tryd.prog) hY12 (hzl.trans hcbl.symm) hcb1; have hY13 := heap_setRow (c' := cb) hY12; have hX13 := (setRow_other w12 w9.heap.size w.heap.size cb (fun e => by omega)).trans hX12; have K13 := K12.setRow (g := w9.heap.size) (.inr (by omega)) cb) | (refine wpList_build_is rfl 88 #[(0, .tmp 22), (1, .tmp 25), (3, .tmp 27)] rfl cb (by simp only [List.map_toArray, List.map_cons, List.map_nil, List.toList_toArray]; exact Hbu.out) ?_))
          simp only [wpPlan, pickL, List.getElem?_toArray, List.getElem?_cons_succ, List.getElem?_cons_zero]
          go_wp2_with (first | (refine wpList_alloc_row rfl 88 rfl Hin.out ?_; refine wl_world (fun w12 => w12.heap[w9.heap.size]? = some (.cells cz 88 (0, 0)) ∧ w12.heap[w.heap.size]? = some (.cells cz 88 (0, 0)) ∧ Keep NoB w w12) ⟨heap_alloc_new w9.drew _, ((Keep.refl NoB w9).drew.alloc _).heap hX9 (fun x => x), K9.drew.alloc _⟩ ?_; rintro w12 ⟨hY12, hX12, K12⟩; have hst := run_storeCells_whole (P := Tryd.prog) hY12 (hzl.trans hcbl.symm) hcb1; have hY13 := heap_setRow (c' := cb) hY12; have hX13 := (setRow_other w12 w9.heap.size w.heap.size cb (fun e => by omega)).trans hX12; have K13 := K12.setRow (g := w9.heap.size) (.inr (by omega)) cb) | (refine wpList_build_is rfl 88 #[(0, .tmp 22), (1, .tmp 25), (3, .tmp 27)] rfl cb (by simp only [List.map_toArray, List.map_cons, List.map_nil, List.toList_toArray]; exact Hbu.out) ?_))
          go_meet
          case rel => exact ⟨w9.heap.size, rfl, h9l, hY13, hX13, K13⟩
        · simp only [pickL, List.getElem?_toArray, List.getElem?_cons_succ, List.getElem?_cons_zero]
          go_wp2_with (first | (refine wpList_alloc_row rfl 88 rfl Hin.out ?_; refine wl_world (fun w12 => w12.heap[w9.heap.size]? = some (.cells cz 88 (0, 0)) ∧ w12.heap[w.heap.size]? = some (.cells cz 88 (0, 0)) ∧ Keep NoB w w12) ⟨heap_alloc_new w9.drew _, ((Keep.refl NoB w9).drew.alloc _).heap hX9 (fun x => x), K9.drew.alloc _⟩ ?_; rintro w12 ⟨hY12, hX12, K12⟩; have hst := run_storeCells_whole (P := Tryd.prog) hY12 (hzl.trans hcbl.symm) hcb1; have hY13 := heap_setRow (c' := cb) hY12; have hX13 := (setRow_other w12 w9.heap.size w.heap.size cb (fun e => by omega)).trans hX12; have K13 := K12.setRow (g := w9.heap.size) (.inr (by omega)) cb) | (refine wpList_build_is rfl 88 #[(0, .tmp 22), (1, .tmp 25), (3, .tmp 27)] rfl cb (by simp only [List.map_toArray, List.map_cons, List.map_nil, List.toList_toArray]; exact Hbu.out) ?_))
          simp only [wpPlan, pickL, List.getElem?_toArray, List.getElem?_cons_succ, List.getElem?_cons_zero]
          go_wp2_with (first | (refine wpList_alloc_row rfl 88 rfl Hin.out ?_; refine wl_world (fun w12 => w12.heap[w9.heap.size]? = some (.cells cz 88 (0, 0)) ∧ w12.heap[w.heap.size]? = some (.cells cz 88 (0, 0)) ∧ Keep NoB w w12) ⟨heap_alloc_new w9.drew _, ((Keep.refl NoB w9).drew.alloc _).heap hX9 (fun x => x), K9.drew.alloc _⟩ ?_; rintro w12 ⟨hY12, hX12, K12⟩; have hst := run_storeCells_whole (P := Tryd.prog) hY12 (hzl.trans hcbl.symm) hcb1; have hY13 := heap_setRow (c' := cb) hY12; have hX13 := (setRow_other w12 w9.heap.size w.heap.size cb (fun e => by omega)).trans hX12; have K13 := K12.setRow (g := w9.heap.size) (.inr (by omega)) cb) | (refine wpList_build_is rfl 88 #[(0, .tmp 22), (1, .tmp 25), (3, .tmp 27)] rfl cb (by simp only [List.map_toArray, List.map_cons, List.map_nil, List.toList_toArray]; exact Hbu.out) ?_))
          go_meet
          case rel => exact ⟨w9.heap.size, rfl, h9l, hY13, hX13, K13⟩
      · simp only [pickL, List.getElem?_toArray, List.getElem?_cons_succ, List.getElem?_cons_zero]
        go_wp2_with (refine wpList_alloc_row rfl 88 rfl Hin.out ?_; refine wl_world (fun w12 => w12.heap[w9.heap.size]? = some (.cells cz 88 (0, 0)) ∧ w12.heap[w.heap.size]? = some (.cells cz 88 (0, 0)) ∧ Keep NoB w w12) ⟨heap_alloc_new w9.drew _, ((Keep.refl NoB w9).drew.alloc _).heap hX9 (fun x => x), K9.drew.alloc _⟩ ?_; rintro w12 ⟨hY12, hX12, K12⟩; have hst := run_storeCells_whole (P := Tryd.prog) hY12 (hzl.trans hcbl.symm) hcb1; have hY13 := heap_setRow (c' := cb) hY12; have hX13 := (setRow_other w12 w9.heap.size w.heap.size cb (fun e => by omega)).trans hX12; have K13 := K12.setRow (g := w9.heap.size) (.inr (by omega)) cb)
        simp only [wpPlan, pickL, List.getElem?_toArray, List.getElem?_cons_succ, List.getElem?_cons_zero]
        go_wp2_with fail
        refine (Hn10.out _).mono ?_
        rintro e wx ⟨rfl, hwx⟩
        subst wx
        go_wp2_with (refine wpList_build_is rfl 88 #[(0, .tmp 22), (1, .tmp 25), (3, .tmp 27)] rfl cb (by simp only [List.map_toArray, List.map_cons, List.map_nil, List.toList_toArray]; exact Hbu.out) ?_)
        go_meet
        case rel => exact ⟨w9.heap.size, rfl, h9l, hY13, hX13, K13⟩
    · simp only [pickL, List.getElem?_toArray, List.getElem?_cons_succ, List.getElem?_cons_zero]
      go_wp2_with (refine wpList_alloc_row rfl 88 rfl Hin.out ?_; refine wl_world (fun w12 => w12.heap[w9.heap.size]? = some (.cells cz 88 (0, 0)) ∧ w12.heap[w.heap.size]? = some (.cells cz 88 (0, 0)) ∧ Keep NoB w w12) ⟨heap_alloc_new w9.drew _, ((Keep.refl NoB w9).drew.alloc _).heap hX9 (fun x => x), K9.drew.alloc _⟩ ?_; rintro w12 ⟨hY12, hX12, K12⟩; have hst := run_storeCells_whole (P := Tryd.prog) hY12 (hzl.trans hcbl.symm) hcb1; have hY13 := heap_setRow (c' := cb) hY12; have hX13 := (setRow_other w12 w9.heap.size w.heap.size cb (fun e => by omega)).trans hX12; have K13 := K12.setRow (g := w9.heap.size) (.inr (by omega)) cb)
      simp only [wpPlan, pickL, List.getElem?_toArray, List.getElem?_cons_succ, List.getElem?_cons_zero]
      go_wp2_with fail
      refine (Hn2.out _).mono ?_
      rintro e wx ⟨rfl, hwx⟩
      subst wx
      go_wp2_with fail
      refine (Hn10.out _).mono ?_
      rintro e wx ⟨rfl, hwx⟩
      subst wx
      go_wp2_with (refine wpList_build_is rfl 88 #[(0, .tmp 22), (1, .tmp 25), (3, .tmp 27)] rfl cb (by simp only [List.map_toArray, List.map_cons, List.map_nil, List.toList_toArray]; exact Hbu.out) ?_)
      go_meet
      case rel => exact ⟨w9.heap.size, rfl, h9l, hY13, hX13, K13⟩
  case rest =>
    obtain ⟨Y, rfl, hYl, hY0, hX0, K0⟩ := hcut
    rw [Hcb.out, ← sidesAt_zero s] at hY0
    have HY0 := Lib.hid hY0
    have HX0 := Lib.hid hX0
    clear hY0 hX0
    go_wp2_with fail
    go_loopw [9, 29] (fun _ iv wr => ∃ t : Nat, t ≤ 32 ∧ iv = .int .i64 t ∧ Hid (wr.heap[Y]? = some (.cells (supCells ⟨va, vb, sidesAt s t, s.extract 50 66⟩).toArray 88 (0, 0))) ∧ Hid (wr.heap[w.heap.size]? = some (.cells cz 88 (0, 0))) ∧ Keep NoB w wr) (fun _ iv _ => 32 - (intOf iv).toNat)
    case atStart => exact ⟨0, by omega, rfl, HY0, HX0, K0⟩
    case round =>
      obtain ⟨t, ht, rfl, hY, hX, K⟩ := hrel
      by_cases hlt : t < 32
      · have j3 : (t : Int) < 32 := by omega
        have hks : 18 + t < s.size := by omega
        have hki : (18 : Int) + t < s.size := by omega
        have cY : wr.cell? ⟨Y, 2 + t, none⟩ = some (.bool ((sidesAt s t).getD t false)) := by
          rw [cell_of_row wr Y (2 + t) _ _ (0, 0) hY.out]
          exact supCells_side _ t (by rw [sidesAt_len]; exact hlt)
        have fY : wr.frozen? ⟨Y, 2 + t, none⟩ = false := by
          have h := hY.out
          simp [World.frozen?, h]
        have hv : ((s[18 + t].toNat : Int) == 49) = decide ((bs s).getD (18 + t) 0 = 49) := by
          rw [bs_getD s _ hks, Bool.eq_iff_iff, beq_iff_eq, decide_eq_true_eq]
          omega
        have Hv := Lib.hid hv
        clear hv
        go_wp2_with fail
        refine ⟨⟨t + 1, by omega, by go_num, Lib.hid ?_, Lib.hid (heap_setCell_other hX.out (by omega) _), K.setCell (.inr (show w.heap.size ≤ Y by omega)) _⟩, by simp [intOf]; omega⟩
        rw [Hv.out, heap_setCell_row hY.out, supCells_set _ _ _ _ _ _ (by rw [sidesAt_len]; exact hlt), sidesAt_step]
      · obtain rfl : t = 32 := by omega
        have hread : (⟨va, vb, sidesAt s 32, s.extract 50 66⟩ : SupV) = readSup s := by rw [Hva.out, Hvb.out, sidesAt_all]; rfl
        have hYr := hY.out
        rw [hread] at hYr
        have hX5 := hX.out
        have hwr := fun (w : World) (R : RefR w RB) => refSupWrite_any RB key (readSup s) (readSup_sides s) w R
        have hone := supCells_one (readSup s)
        have hoz : cz.all (·.oneCell') = true := by rw [Hcz.out]; exact supCells_one _
        have hcl : (supCells (readSup s)).toArray.size = 35 := by rw [List.size_toArray]; exact supCells_len _ (readSup_sides s)
        have h35r : (Tryd.prog.info? 88).map (·.size) = some (supCells (readSup s)).toArray.size := by rw [hcl]; exact info_super35
        have h35z : (Tryd.prog.info? 88).map (·.size) = some cz.size := by rw [hzl]; exact info_super35
        have hbz : Tryd.prog.built 88 [] = some cz := by rw [Hcz.out]; exact built_zero
        have hvz : supVal zeroSup = .agg cz := by rw [Hcz.out]; rfl
        have hvr : supVal (readSup s) = .agg (supCells (readSup s)).toArray := rfl
        have hpb := fun hm => parseB_of key s hm hs
        have hPV := HPV.out
        have hPE := HPE.out
        rw [parseV] at hPV
        rw [parseE, if_pos hk, if_neg (show ¬ s.size < 82 by omega)] at hPE
        rw [hvr] at hwr
        obtain ⟨W, hW⟩ : ∃ W, W = supW key (readSup s) := ⟨_, rfl⟩
        obtain ⟨E, hE⟩ : ∃ E, E = supE key (readSup s) := ⟨_, rfl⟩
        rw [← hW, ← hE] at hwr
        rw [supW] at hW
        rw [supE] at hE
        obtain ⟨M, hM⟩ : ∃ M, M = supMay key (readSup s) := ⟨_, rfl⟩
        rw [← hM] at hpb hW hE
        have hMB : M = false → parseB key s = false := fun h => by rw [parseB, ← hM, h, Bool.false_and, Bool.false_and]
        have HM : Hid (M = true → supMay key (readSup s) = true) := Lib.hid (fun h => hM.symm.trans h)
        obtain ⟨cr, hcr⟩ : ∃ cr, cr = (supCells (readSup s)).toArray := ⟨_, rfl⟩
        rw [← hcr] at hYr hwr hone hcl h35r hvr
        have Hwr := Lib.hid hwr
        have Hz := Lib.hid h35z
        have Hr := Lib.hid h35r
        have Hbz := Lib.hid hbz
        have Hvr := Lib.hid hvr
        have Hvz := Lib.hid hvz
        have HhX := Lib.hid hX5
        clear hread hwr hcr hvr hvz hX5 h35z h35r hbz HY0 HX0 K0 Hn2 Hn10 Hbu Hcb hcb1 hcbl H35 K9 hX9 Hin Hcz hlt ht hM
        go_wp2_with (first | (refine wpList_load_row rfl 88 (.tmp 8) rfl Y rfl 88 cr (0, 0) _ hYr Tryd.underlying88 rfl Hr.out ?_))
        have HhY := Lib.hid hYr
        have HV := Lib.hid hPV
        have HE := Lib.hid hPE
        clear hYr hPV hPE hX hY HPV HPE Hva Hvb
        refine (Hwr.out _ (RR.keep K (fun x => x))).mono ?_
        rintro e w5 ⟨rfl, K5⟩
        have hX5 := K5.heap HhX.out (fun x => x)
        have hY5 := K5.heap HhY.out (fun x => x)
        have K6 := K.thenN K5
        clear Hwr K5 HhX HhY K
        cases M with
        | false =>
          have hB := hMB rfl
          have hfin : Ending.returned (.tuple #[.agg cz, .int .i64 15]) = .returned (.tuple #[supVal PV, .int .i64 PE]) := by
            rw [HV.out, HE.out, hB, if_neg (fun h => by cases h.2.2), if_neg (fun h => by cases h), Hvz.out]
          have Hfin := Lib.hid hfin
          rw [if_neg (fun h => by cases h)] at hE hW
          clear hB hfin HV HE Hvr Hvz hpb hMB
          subst hE
          subst hW
          go_wp2_with (first | (refine wpList_build_is rfl 88 #[] rfl cz (by simpa using Hbz.out) ?_) | (refine wpList_store_whole rfl 88 (.tmp 6) (.tmp 60) rfl w.heap.size 88 cz cz rfl rfl hX5 Hz.out 35 hzl hzl hoz ?_; have hX10 := heap_setRow (c' := cz) hX5; have K10 := K6.setRow (g := w.heap.size) (.inr (Nat.le_refl _)) cz; refine wl_world (fun w10 => w10.heap[w.heap.size]? = some (.cells cz 88 (0, 0)) ∧ Keep NoB w w10) ⟨hX10, K10⟩ ?_; clear hX10 K10; rintro w10 ⟨hX10, K10⟩))
          exact bodyPost_ret (v := .tuple #[.agg cz, .int .i64 15]) (results_row_slot rfl _ w10 w.heap.size 88 cz (0, 0) _ (.int .i64 15) rfl rfl hX10 Tryd.underlying88 rfl Hz.out) rfl ⟨Hfin.out, K10⟩
        | true =>
          rw [if_pos rfl] at hE hW
          subst hE
          have hMt := HM.out rfl
          have hWs : W.size ≤ 82 := by rw [hW, txt_size, supT_len key _ (readSup_sides s) hMt]; exact Nat.le_refl _
          have hzz := fun w => zeros_any ((s.size : Int) - 82) (s.size - 82) (by omega) (by omega) w
          obtain ⟨Z, hZ⟩ : ∃ Z, Z = txt (List.replicate (s.size - 82) 0) := ⟨_, rfl⟩
          have hZs : Z.size ≤ 1000 := by rw [hZ, txt_size, List.length_replicate]; omega
          rw [← hZ] at hzz
          have hbT : bs (W ++ Z) = supT key (readSup s) ++ List.replicate (s.size - 82) 0 := by
            have hb1 : Bytes (supT key (readSup s)) := by
              have : bs (txt (supT key (readSup s))) = _ := rfl
              rw [supT]
              exact bytes_append (bodyT_bytes _) (mark_bytes _ _)
            have hb2 : Bytes (List.replicate (s.size - 82) 0) := fun x hx => by rw [List.eq_of_mem_replicate hx]; decide
            rw [bs_append, hW, hZ, bs_txt hb1, bs_txt hb2]
          have hcat : ¬ (9223372036854775807 < W.size + Z.size) := by omega
          have Hpb := Lib.hid (hpb rfl)
          have HbT := Lib.hid hbT
          clear hW hpb hMB hZ hbT
          go_wp2_with fail
          refine (hzz _).mono ?_
          rintro e w6 ⟨rfl, K7⟩
          have hX6 := K7.heap hX5 (fun x => x)
          have hY6 := K7.heap hY5 (fun x => x)
          have K8 := K6.thenN K7
          clear hX5 hY5 K6 K7 hzz
          by_cases heq : s = W ++ Z
          · have hB : parseB key s = true := by rw [Hpb.out, decide_eq_true_eq, ← HbT.out, ← heq]
            have hb2 : sameB s (W ++ Z) = true := by rw [← heq]; exact toList_same s
            unfold sameB at hb2
            have hfin : Ending.returned (.tuple #[.agg cr, .int .i64 0]) = .returned (.tuple #[supVal PV, .int .i64 PE]) := by
              rw [HV.out, HE.out, hB, if_pos ⟨hk, hs, rfl⟩, if_pos rfl, Hvr.out]
            have Hfin := Lib.hid hfin
            clear heq hB hfin HV HE Hvr Hvz Hpb HbT
            go_wp2_with (first | (refine wpList_load_row rfl 88 (.tmp 8) rfl Y rfl 88 cr (0, 0) _ hY6 Tryd.underlying88 rfl Hr.out ?_) | (refine wpList_store_whole rfl 88 (.tmp 6) (.tmp 61) rfl w.heap.size 88 cz cr rfl rfl hX6 Hr.out 35 hzl hcl hone ?_; have hX10 := heap_setRow (c' := cr) hX6; have K10 := K8.setRow (g := w.heap.size) (.inr (Nat.le_refl _)) cr; refine wl_world (fun w10 => w10.heap[w.heap.size]? = some (.cells cr 88 (0, 0)) ∧ Keep NoB w w10) ⟨hX10, K10⟩ ?_; clear hX10 K10; rintro w10 ⟨hX10, K10⟩))
            exact bodyPost_ret (v := .tuple #[.agg cr, .int .i64 0]) (results_row_slot rfl _ w10 w.heap.size 88 cr (0, 0) _ (.int .i64 0) rfl rfl hX10 Tryd.underlying88 rfl Hr.out) rfl ⟨Hfin.out, K10⟩
          · have hB : parseB key s = false := by
              rw [Hpb.out, decide_eq_false_iff_not, ← HbT.out]
              exact fun h => heq (bs_inj h)
            have hb2 : sameB s (W ++ Z) = false := toList_ne heq
            unfold sameB at hb2
            have hfin : Ending.returned (.tuple #[.agg cz, .int .i64 15]) = .returned (.tuple #[supVal PV, .int .i64 PE]) := by
              rw [HV.out, HE.out, hB, if_neg (fun h => by cases h.2.2), if_neg (fun h => by cases h), Hvz.out]
            have Hfin := Lib.hid hfin
            clear heq hB hfin HV HE Hvr Hvz Hpb HbT
            go_wp2_with (first | (refine wpList_build_is rfl 88 #[] rfl cz (by simpa using Hbz.out) ?_) | (refine wpList_store_whole rfl 88 (.tmp 6) (.tmp 60) rfl w.heap.size 88 cz cz rfl rfl hX6 Hz.out 35 hzl hzl hoz ?_; have hX10 := heap_setRow (c' := cz) hX6; have K10 := K8.setRow (g := w.heap.size) (.inr (Nat.le_refl _)) cz; refine wl_world (fun w10 => w10.heap[w.heap.size]? = some (.cells cz 88 (0, 0)) ∧ Keep NoB w w10) ⟨hX10, K10⟩ ?_; clear hX10 K10; rintro w10 ⟨hX10, K10⟩))
            exact bodyPost_ret (v := .tuple #[.agg cz, .int .i64 15]) (results_row_slot rfl _ w10 w.heap.size 88 cz (0, 0) _ (.int .i64 15) rfl rfl hX10 Tryd.underlying88 rfl Hz.out) rfl ⟨Hfin.out, K10⟩
theorem refParse_any (RB : Nat) (key s : ByteArray) (hs2 : s.size ≤ 1000) (w : World) (RR : RefR w RB) :
    Calls Tryd.prog 64 #[.pointer (some ⟨RB, 0, none⟩), .string key, .string s] w fun e w' => e = .returned (.tuple #[supVal (parseV key s), .int .i64 (parseE key s)]) ∧ Keep NoB w w' := by
  by_cases hk : key.size = 32
  · by_cases hs : s.size < 82
    · have h1 : parseV key s = zeroSup := by rw [parseV, if_neg (by omega)]
      have h2 : parseE key s = 15 := by rw [parseE, if_pos hk, if_pos hs]
      rw [h1, h2]
      exact refParse_short RB key s hk hs w
    · exact refParse_main RB key s hk (by omega) hs2 w RR
  · have h1 : parseV key s = zeroSup := by rw [parseV, if_neg (by omega)]
    have h2 : parseE key s = 1 := by rw [parseE, if_neg hk]
    rw [h1, h2]
    exact refParse_arg RB key s hk w
end Go.Proofs.YtndcaaikjcicgaaDoor
