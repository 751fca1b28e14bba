/-
  DERIVED. super.Parse: a text of its length is read.
-/
import Derived.Test.YtndcaaikjcicgaaDoorSupS
import Derived.Lib.TrimByte
import Derived.Test.YtndcaaikjcicgaaDoorShelf
set_option linter.unusedVariables false
set_option linter.unusedSimpArgs false
namespace Go.Cof
theorem dropWhile_nil {α : Type} (p : α → Bool) : ∀ l : List α, (∀ x ∈ l.dropWhile p, p x = true) → l.dropWhile p = []
  | [], _ => rfl
  | a :: l, h => by
    by_cases ha : p a = true
    · rw [List.dropWhile_cons_of_pos ha] at h ⊢
      exact dropWhile_nil p l h
    · rw [List.dropWhile_cons_of_neg ha] at h
      exact absurd (h a List.mem_cons_self) ha
theorem dropWhile_all {α : Type} (p : α → Bool) : ∀ l : List α, l.dropWhile p = [] → ∀ x ∈ l, p x = true
  | [], _ => fun x hx => by cases hx
  | a :: l, h => by
    by_cases ha : p a = true
    · rw [List.dropWhile_cons_of_pos ha] at h
      intro x hx
      rcases List.mem_cons.1 hx with rfl | hx
      · exact ha
      · exact dropWhile_all p l h x hx
    · rw [List.dropWhile_cons_of_neg ha] at h
      cases h
theorem dropWhile_of_all {α : Type} (p : α → Bool) : ∀ l : List α, (∀ x ∈ l, p x = true) → l.dropWhile p = []
  | [], _ => rfl
  | a :: l, h => by
    rw [List.dropWhile_cons_of_pos (h a List.mem_cons_self)]
    exact dropWhile_of_all p l fun x hx => h x (List.mem_cons_of_mem _ hx)
theorem trimB_nil (l : List UInt8) (c : UInt8) : Lib.trimB l c = [] ↔ ∀ x ∈ l, x = c := by
  unfold Lib.trimB Lib.trimLeftB Lib.trimRightB
  constructor
  · intro h x hx
    have h1 := dropWhile_all _ _ h
    have h2 := dropWhile_nil (· == c) l.reverse fun y hy => h1 y (List.mem_reverse.2 hy)
    have h3 := dropWhile_all _ _ h2 x (List.mem_reverse.2 hx)
    simpa using h3
  · intro h
    have h2 := dropWhile_of_all (· == c) l.reverse fun y hy => by simpa using h y (List.mem_reverse.1 hy)
    rw [h2]
    rfl
end Go.Cof
namespace Go.Proofs.YtndcaaikjcicgaaDoor
open Go.RowKit Go.Cof
theorem trim_zero (s : ByteArray) : (⟨(Lib.trimB s.data.toList 0).toArray⟩ : ByteArray) = ⟨#[]⟩ ↔ bs s = List.replicate s.size 0 := by
  have e : ((⟨(Lib.trimB s.data.toList 0).toArray⟩ : ByteArray) = ⟨#[]⟩) ↔ Lib.trimB s.data.toList 0 = [] := by
    constructor
    · intro h
      have := congrArg (fun b : ByteArray => b.data.toList) h
      simpa using this
    · intro h
      rw [h]
  rw [e, trimB_nil]
  rw [List.eq_replicate_iff]
  constructor
  · intro h
    refine ⟨bs_len s, fun x hx => ?_⟩
    simp only [bs, List.mem_map] at hx
    obtain ⟨y, hy, rfl⟩ := hx
    rw [h y hy]
    rfl
  · rintro ⟨_, h⟩ x hx
    have := h x.toNat (by simp only [bs, List.mem_map]; exact ⟨x, hx, rfl⟩)
    exact UInt8.toNat_inj.1 this
set_option maxRecDepth 100000
set_option maxHeartbeats 8000000 in
theorem supParse_trim (key s : ByteArray) (hk : key.size = 32) (hs : 82 ≤ s.size) (hs2 : s.size ≤ 1000) (hz : (bs s).drop 82 ≠ List.replicate (s.size - 82) 0) (w : World) :
    Calls Tryd.prog 65 #[.string key, .string s] w fun e w' => e = .returned (.tuple #[supVal zeroSup, errVal 15]) ∧ Keep NoB w w' := by
  have j0 : ((key.size : Nat) : Int) = 32 := by omega
  have j1 : decide ((s.size : Int) < 82) = false := by simp; omega
  have j2 : (82 : Int) ≤ s.size := by omega
  obtain ⟨D, hD⟩ : ∃ D, D = s.extract 82 s.size := ⟨_, rfl⟩
  have hDs : D.size = s.size - 82 := by rw [hD, ByteArray.size_extract]; omega
  have htr := fun w => Tryd.strings_Trim_one D 0 (by decide) w (by omega)
  obtain ⟨T, hT⟩ : ∃ T : ByteArray, T = ⟨(Lib.trimB D.data.toList 0).toArray⟩ := ⟨_, rfl⟩
  rw [← hT] at htr
  have hTn : T ≠ ⟨#[]⟩ := fun h => hz (by
    have := (trim_zero D).1 (hT.symm.trans h)
    rw [hDs, hD, bs_extract, List.take_of_length_le (by rw [List.length_drop, bs_len]; exact Nat.le_refl _)] at this
    exact this)
  rw [hD] at htr
  have hTq : ∀ (w : World) (X : Ext w), Calls Tryd.prog 104 #[.string (s.extract 82 s.size), .string ⟨#[0]⟩] (w.ext X) fun e w' => e = .returned (.string T) ∧ Keep NoB (w.ext X) w' := fun w X => (htr (w.ext X)).mono fun e w' h => ⟨h.1, by rcases h.2 with rfl | rfl; exact Keep.refl _ _; exact (Keep.refl _ _).drew⟩
  have hT2 : T.toList.isEmpty = false := by
    cases h : T.toList with
    | nil => exact absurd (bs_inj (by rw [bs, ← ByteArray.toList_eq, h]; rfl)) hTn
    | cons a l => rfl
  have hin := info_super
  have hbz := built_zero
  have hzl := zero_len
  have hone := supCells_one zeroSup
  have hi35 : (Tryd.prog.info? 88).map (·.size) = some (supCells zeroSup).toArray.size := by rw [hzl]; exact info_super35
  rw [supVal] at hin ⊢
  obtain ⟨cz, hcz⟩ : ∃ cz, cz = (supCells zeroSup).toArray := ⟨_, rfl⟩
  rw [← hcz] at hin hbz hzl hone hi35 ⊢
  clear hcz htr hD hT hTn hz hDs
  have Hin := Lib.hid hin
  have Hbz := Lib.hid hbz
  have H35 := Lib.hid hi35
  have Hq := Lib.hid hTq
  clear hin hbz hi35 hTq
  go_enter Tryd.func65, Tryd.ntmps65
  go_wp2_with (first | (refine wpList_alloc_row rfl 88 rfl Hin.out ?_; refine wl_world (fun w9 => w9.heap[w.heap.size]? = some (.cells cz 88 (0, 0)) ∧ Keep NoB w w9) ⟨heap_alloc_new w _, (Keep.refl NoB w).alloc _⟩ ?_; rintro w9 ⟨hX9, K9⟩))
  refine wp_region_q_ext (by kernel_rfl) (by kernel_rfl) ?_
  iterate 20 ((with_reducible refine wpQuiet_step (fun K hK => ?_)); go_simp; first | (refine hK _ ?_; clear hK K) | (apply Exists.intro; refine ⟨fun _ => ?_, hK _ ?_⟩; (go_at_call 104; exact quiet_ext _ (Hq.out _ _)); clear hK K))
  refine wpQuiet_nil ?_
  intro X
  have hXX := (ext_keep w9 X).heap hX9 (fun x => x)
  have KX := K9.thenN (ext_keep w9 X)
  go_wp2_with (first | (refine wpList_build_is rfl 88 #[] rfl cz (by simpa using Hbz.out) ?_) | (refine wpList_store_whole rfl 88 (.tmp 4) (.tmp 36) rfl w.heap.size 88 cz cz rfl rfl hXX H35.out 35 hzl hzl hone ?_; have hX10 := heap_setRow (c' := cz) hXX; have K10 := KX.setRow (g := w.heap.size) (.inr (Nat.le_refl _)) cz; refine wl_world (fun w10 => w10.heap[w.heap.size]? = some (.cells cz 88 (0, 0)) ∧ Keep NoB w w10) ⟨hX10, K10⟩ ?_; clear hX10 K10; rintro w10 ⟨hX10, K10⟩))
  exact bodyPost_ret (v := .tuple #[.agg cz, errVal 15]) (results_row_slot rfl _ w10 w.heap.size 88 cz (0, 0) _ (errVal 15) rfl rfl hX10 Tryd.underlying88 rfl H35.out) rfl ⟨rfl, K10⟩
set_option maxHeartbeats 8000000 in
theorem supParse_main (key s : ByteArray) (hk : key.size = 32) (hs : 82 ≤ s.size) (hs2 : s.size ≤ 1000) (hz : (bs s).drop 82 = List.replicate (s.size - 82) 0) (w : World) (V : RoundsVar w) :
    Calls Tryd.prog 65 #[.string key, .string s] w fun e w' => e = .returned (.tuple #[supVal (parseV key s), errVal (parseE key s)]) ∧ Keep NoB w w' := by
  obtain ⟨PV, hPV⟩ : ∃ P, P = parseV key s := ⟨_, rfl⟩
  obtain ⟨PE, hPE⟩ : ∃ P, P = parseE key s := ⟨_, rfl⟩
  rw [← hPV, ← hPE]
  rw [parseV] at hPV
  rw [parseE, if_pos hk, if_neg (show ¬ s.size < 82 by omega)] at hPE
  have HPV := Lib.hid hPV
  have HPE := Lib.hid hPE
  clear hPV hPE
  have j0 : ((key.size : Nat) : Int) = 32 := by omega
  have j1 : decide ((s.size : Int) < 82) = false := by simp; omega
  have j2 : (82 : Int) ≤ s.size := by omega
  have j3 : (66 : Int) ≤ s.size := by omega
  obtain ⟨D, hD⟩ : ∃ D, D = s.extract 82 s.size := ⟨_, rfl⟩
  have hDs : D.size = s.size - 82 := by rw [hD, ByteArray.size_extract]; omega
  have htr := fun w => Tryd.strings_Trim_one D 0 (by decide) w (by omega)
  obtain ⟨T, hT⟩ : ∃ T : ByteArray, T = ⟨(Lib.trimB D.data.toList 0).toArray⟩ := ⟨_, rfl⟩
  have hTn : T = ⟨#[]⟩ := hT.trans ((trim_zero D).2 (by rw [hDs, hD, bs_extract, List.take_of_length_le (by rw [List.length_drop, bs_len]; exact Nat.le_refl _), hz]))
  rw [← hT, hTn, hD] at htr
  obtain ⟨M, hM⟩ : ∃ M, M = s.extract 66 82 := ⟨_, rfl⟩
  have hCs : (s.extract 0 66).size = 66 := by rw [ByteArray.size_extract]; omega
  have hml : (markText 122 ([key, s.extract 0 66].map bs)).length ≤ 100000 := by
    simp [markText, be64, be64To_len, bs_len]
    omega
  obtain ⟨G, hG⟩ : ∃ G, G = txt (Cof.mark 122 ([key, s.extract 0 66].map bs)) := ⟨_, rfl⟩
  have e1 : (2 : Int) ≤ s.size := by omega
  have e2 : (10 : Int) ≤ s.size := by omega
  obtain ⟨P2, hP2⟩ : ∃ P, P = s.extract 2 s.size := ⟨_, rfl⟩
  obtain ⟨P10, hP10⟩ : ∃ P, P = s.extract 10 s.size := ⟨_, rfl⟩
  have b2 : bs P2 = (bs s).drop 2 := by rw [hP2, bs_extract, List.take_of_length_le (by rw [List.length_drop, bs_len]; exact Nat.le_refl _)]
  have b10 : bs P10 = (bs s).drop 10 := by rw [hP10, bs_extract, List.take_of_length_le (by rw [List.length_drop, bs_len]; exact Nat.le_refl _)]
  have s2 : P2.size = s.size - 2 := by rw [← bs_len, b2, List.length_drop, bs_len]
  have s10 : P10.size = s.size - 10 := by rw [← bs_len, b10, List.length_drop, bs_len]
  obtain ⟨va, hva⟩ : ∃ a, a = openVer ((bs s).drop 2) := ⟨_, rfl⟩
  obtain ⟨vb, hvb⟩ : ∃ a, a = openVer ((bs s).drop 10) := ⟨_, rfl⟩
  have hn2 := fun w => supNumber_any P2 (by omega) (by omega) w
  have hn10 := fun w => supNumber_any P10 (by omega) (by omega) w
  rw [b2, ← hva, hP2] at hn2
  rw [b10, ← hvb, hP10] at hn10
  have Hn2 := Lib.hid hn2
  have Hn10 := Lib.hid hn10
  have Hva := Lib.hid hva
  have Hvb := Lib.hid hvb
  clear hn2 hn10 b2 b10 s2 s10 hP2 hP10 hva hvb P2 P10
  obtain ⟨cb, hcb⟩ : ∃ cb, cb = (supCells ⟨va, vb, List.replicate 32 false, s.extract 50 66⟩).toArray := ⟨_, rfl⟩
  have hbu := built_sup va vb (s.extract 50 66)
  have hcbl : cb.size = 35 := by rw [hcb, List.size_toArray, supCells_len _ (by simp)]
  have hcb1 : cb.all (·.oneCell') = true := by rw [hcb]; exact supCells_one _
  rw [← hcb] at hbu
  have Hbu := Lib.hid hbu
  have Hcb := Lib.hid hcb
  have h35 : (Tryd.prog.info? 88).map (·.size) = some cb.size := by rw [hcbl]; exact info_super35
  have H35 := Lib.hid h35
  clear hbu hcb h35
  have hin := info_super
  have hzl := zero_len
  rw [supVal] at hin
  obtain ⟨cz, hcz⟩ : ∃ cz, cz = (supCells zeroSup).toArray := ⟨_, rfl⟩
  rw [← hcz] at hin hzl
  have Hin := Lib.hid hin
  have Hcz := Lib.hid hcz
  have Htr : Hid (∀ w : World, Calls Tryd.prog 104 #[.string (s.extract 82 s.size), .string ⟨#[0]⟩] w fun e w' => e = .returned (.string ⟨#[]⟩) ∧ Keep NoB w w') := Lib.hid fun w => (htr w).mono fun e w' h => ⟨h.1, by rcases h.2 with rfl | rfl; exact Keep.refl _ _; exact (Keep.refl _ _).drew⟩
  have HM := Lib.hid hM
  have HG := Lib.hid hG
  have Hd82 := Lib.hid hz
  have Hml := Lib.hid hml
  clear hin hcz htr hM hG hz hT hTn hD hDs hml hCs D T
  go_enter Tryd.func65, Tryd.ntmps65
  go_wp2_with (first | (refine wpList_alloc_row rfl 88 rfl Hin.out ?_; refine wl_world (fun w9 => w9.heap[w.heap.size]? = some (.cells cz 88 (0, 0)) ∧ Keep NoB w w9) ⟨heap_alloc_new w _, (Keep.refl NoB w).alloc _⟩ ?_; rintro w9 ⟨hX9, K9⟩))
  go_region_with (first | (go_at_call 104; refine (Htr.out _).mono ?_; rintro e w1 ⟨rfl, K1⟩) | (go_at_call 19; refine (mark_any 122 (by decide) _ [key, s.extract 0 66] _ (V.keep ((K9.drew.thenN K1).alloc _) (fun x => x)) (Strs.lit (w := w1) [key, s.extract 0 66]) Hml.out (by simp)).mono ?_; rw [← HG.out]; rintro e w2 ⟨rfl, K2⟩))
  have K2' := ((K9.drew.thenN K1).alloc _).thenN K2
  have hX2 := K2.heap (Keep.heap ((Keep.refl NoB _).alloc _) (K1.heap (show w9.drew.heap[w.heap.size]? = _ from hX9) (fun x => x)) (fun x => x)) (fun x => x)
  rw [← HM.out]
  by_cases heq : G = M
  · have hb2 : sameB G M = true := by rw [heq]; exact toList_same M
    unfold sameB at hb2
    rw [hb2, Bool.not_true]
    clear hb2 heq
    go_simp
    go_upto_region 5 with (fail)
    go_cut [6] (fun yv wx => ∃ Y, yv = .pointer (some ⟨Y, 0, none⟩) ∧ w.heap.size < Y ∧ wx.heap[Y]? = some (.cells cb 88 (0, 0)) ∧ wx.heap[w.heap.size]? = some (.cells cz 88 (0, 0)) ∧ Keep NoB w wx)
    case first =>
      have h2l : w.heap.size < w2.heap.size := lt_of_heap hX2
      have h2k := K2'.size
      refine wp_region_plan [0, 1, 3, 4, 6, 7] (.fork 2 (.fork 5 (.fork 8 (.row [9, 10]) 9 (.row [8, 10])) 9 (.row [5, 8, 10])) 9 (.row [2, 5, 8, 10])) (by kernel_rfl) (by kernel_rfl) (fun c a d v w h => by cases d <;> exact h) ?_
      simp only [pickL, List.getElem?_toArray, List.getElem?_cons_succ, List.getElem?_cons_zero]
      repeat (refine wpEarly_step (fun K hK => ?_); go_simp; refine hK _ ?_; clear hK K)
      refine wpEarly_nil ?_
      refine ⟨?_, ?_⟩
      · simp only [pickL, List.getElem?_toArray, List.getElem?_cons_succ, List.getElem?_cons_zero]
        go_wp2_with fail
        refine (Hn2.out _).mono ?_
        rintro e wx ⟨rfl, hwx⟩
        subst wx
        go_wp2_with fail
        refine ⟨?_, ?_⟩
        · simp only [pickL, List.getElem?_toArray, List.getElem?_cons_succ, List.getElem?_cons_zero]
          go_wp2_with fail
          refine (Hn10.out _).mono ?_
          rintro e wx ⟨rfl, hwx⟩
          subst wx
          go_wp2_with fail
          refine ⟨?_, ?_⟩
          · simp only [pickL, List.getElem?_toArray, List.getElem?_cons_succ, List.getElem?_cons_zero]
            go_wp2_with (first | (refine wpList_alloc_row rfl 88 rfl Hin.out ?_; refine wl_world (fun w12 => w12.heap[w2.heap.size]? = some (.cells cz 88 (0, 0)) ∧ w12.heap[w.heap.size]? = some (.cells cz 88 (0, 0)) ∧ Keep NoB w w12) ⟨heap_alloc_new w2.drew _, ((Keep.refl NoB w2).drew.alloc _).heap hX2 (fun x => x), K2'.drew.alloc _⟩ ?_; rintro w12 ⟨hY12, hX12, K12⟩; have hst := run_storeCells_whole (P := Tryd.prog) hY12 (hzl.trans hcbl.symm) hcb1; have hY13 := heap_setRow (c' := cb) hY12; have hX13 := (setRow_other w12 w2.heap.size w.heap.size cb (fun e => by omega)).trans hX12; have K13 := K12.setRow (g := w2.heap.size) (.inr (by omega)) cb) | (refine wpList_build_is rfl 88 #[(0, .tmp 40), (1, .tmp 43), (3, .tmp 45)] rfl cb (by simp only [List.map_toArray, List.map_cons, List.map_nil, List.toList_toArray]; exact Hbu.out) ?_))
            simp only [wpPlan, pickL, List.getElem?_toArray, List.getElem?_cons_succ, List.getElem?_cons_zero]
            go_wp2_with (first | (refine wpList_alloc_row rfl 88 rfl Hin.out ?_; refine wl_world (fun w12 => w12.heap[w2.heap.size]? = some (.cells cz 88 (0, 0)) ∧ w12.heap[w.heap.size]? = some (.cells cz 88 (0, 0)) ∧ Keep NoB w w12) ⟨heap_alloc_new w2.drew _, ((Keep.refl NoB w2).drew.alloc _).heap hX2 (fun x => x), K2'.drew.alloc _⟩ ?_; rintro w12 ⟨hY12, hX12, K12⟩; have hst := run_storeCells_whole (P := Tryd.prog) hY12 (hzl.trans hcbl.symm) hcb1; have hY13 := heap_setRow (c' := cb) hY12; have hX13 := (setRow_other w12 w2.heap.size w.heap.size cb (fun e => by omega)).trans hX12; have K13 := K12.setRow (g := w2.heap.size) (.inr (by omega)) cb) | (refine wpList_build_is rfl 88 #[(0, .tmp 40), (1, .tmp 43), (3, .tmp 45)] rfl cb (by simp only [List.map_toArray, List.map_cons, List.map_nil, List.toList_toArray]; exact Hbu.out) ?_))
            go_meet
            case rel => exact ⟨w2.heap.size, rfl, h2l, hY13, hX13, K13⟩
          · simp only [pickL, List.getElem?_toArray, List.getElem?_cons_succ, List.getElem?_cons_zero]
            go_wp2_with (first | (refine wpList_alloc_row rfl 88 rfl Hin.out ?_; refine wl_world (fun w12 => w12.heap[w2.heap.size]? = some (.cells cz 88 (0, 0)) ∧ w12.heap[w.heap.size]? = some (.cells cz 88 (0, 0)) ∧ Keep NoB w w12) ⟨heap_alloc_new w2.drew _, ((Keep.refl NoB w2).drew.alloc _).heap hX2 (fun x => x), K2'.drew.alloc _⟩ ?_; rintro w12 ⟨hY12, hX12, K12⟩; have hst := run_storeCells_whole (P := Tryd.prog) hY12 (hzl.trans hcbl.symm) hcb1; have hY13 := heap_setRow (c' := cb) hY12; have hX13 := (setRow_other w12 w2.heap.size w.heap.size cb (fun e => by omega)).trans hX12; have K13 := K12.setRow (g := w2.heap.size) (.inr (by omega)) cb) | (refine wpList_build_is rfl 88 #[(0, .tmp 40), (1, .tmp 43), (3, .tmp 45)] rfl cb (by simp only [List.map_toArray, List.map_cons, List.map_nil, List.toList_toArray]; exact Hbu.out) ?_))
            simp only [wpPlan, pickL, List.getElem?_toArray, List.getElem?_cons_succ, List.getElem?_cons_zero]
            go_wp2_with (first | (refine wpList_alloc_row rfl 88 rfl Hin.out ?_; refine wl_world (fun w12 => w12.heap[w2.heap.size]? = some (.cells cz 88 (0, 0)) ∧ w12.heap[w.heap.size]? = some (.cells cz 88 (0, 0)) ∧ Keep NoB w w12) ⟨heap_alloc_new w2.drew _, ((Keep.refl NoB w2).drew.alloc _).heap hX2 (fun x => x), K2'.drew.alloc _⟩ ?_; rintro w12 ⟨hY12, hX12, K12⟩; have hst := run_storeCells_whole (P := Tryd.prog) hY12 (hzl.trans hcbl.symm) hcb1; have hY13 := heap_setRow (c' := cb) hY12; have hX13 := (setRow_other w12 w2.heap.size w.heap.size cb (fun e => by omega)).trans hX12; have K13 := K12.setRow (g := w2.heap.size) (.inr (by omega)) cb) | (refine wpList_build_is rfl 88 #[(0, .tmp 40), (1, .tmp 43), (3, .tmp 45)] rfl cb (by simp only [List.map_toArray, List.map_cons, List.map_nil, List.toList_toArray]; exact Hbu.out) ?_))
            go_meet
            case rel => exact ⟨w2.heap.size, rfl, h2l, hY13, hX13, K13⟩
        · simp only [pickL, List.getElem?_toArray, List.getElem?_cons_succ, List.getElem?_cons_zero]
          go_wp2_with (refine wpList_alloc_row rfl 88 rfl Hin.out ?_; refine wl_world (fun w12 => w12.heap[w2.heap.size]? = some (.cells cz 88 (0, 0)) ∧ w12.heap[w.heap.size]? = some (.cells cz 88 (0, 0)) ∧ Keep NoB w w12) ⟨heap_alloc_new w2.drew _, ((Keep.refl NoB w2).drew.alloc _).heap hX2 (fun x => x), K2'.drew.alloc _⟩ ?_; rintro w12 ⟨hY12, hX12, K12⟩; have hst := run_storeCells_whole (P := Tryd.prog) hY12 (hzl.trans hcbl.symm) hcb1; have hY13 := heap_setRow (c' := cb) hY12; have hX13 := (setRow_other w12 w2.heap.size w.heap.size cb (fun e => by omega)).trans hX12; have K13 := K12.setRow (g := w2.heap.size) (.inr (by omega)) cb)
          simp only [wpPlan, pickL, List.getElem?_toArray, List.getElem?_cons_succ, List.getElem?_cons_zero]
          go_wp2_with fail
          refine (Hn10.out _).mono ?_
          rintro e wx ⟨rfl, hwx⟩
          subst wx
          go_wp2_with (refine wpList_build_is rfl 88 #[(0, .tmp 40), (1, .tmp 43), (3, .tmp 45)] rfl cb (by simp only [List.map_toArray, List.map_cons, List.map_nil, List.toList_toArray]; exact Hbu.out) ?_)
          go_meet
          case rel => exact ⟨w2.heap.size, rfl, h2l, hY13, hX13, K13⟩
      · simp only [pickL, List.getElem?_toArray, List.getElem?_cons_succ, List.getElem?_cons_zero]
        go_wp2_with (refine wpList_alloc_row rfl 88 rfl Hin.out ?_; refine wl_world (fun w12 => w12.heap[w2.heap.size]? = some (.cells cz 88 (0, 0)) ∧ w12.heap[w.heap.size]? = some (.cells cz 88 (0, 0)) ∧ Keep NoB w w12) ⟨heap_alloc_new w2.drew _, ((Keep.refl NoB w2).drew.alloc _).heap hX2 (fun x => x), K2'.drew.alloc _⟩ ?_; rintro w12 ⟨hY12, hX12, K12⟩; have hst := run_storeCells_whole (P := Tryd.prog) hY12 (hzl.trans hcbl.symm) hcb1; have hY13 := heap_setRow (c' := cb) hY12; have hX13 := (setRow_other w12 w2.heap.size w.heap.size cb (fun e => by omega)).trans hX12; have K13 := K12.setRow (g := w2.heap.size) (.inr (by omega)) cb)
        simp only [wpPlan, pickL, List.getElem?_toArray, List.getElem?_cons_succ, List.getElem?_cons_zero]
        go_wp2_with fail
        refine (Hn2.out _).mono ?_
        rintro e wx ⟨rfl, hwx⟩
        subst wx
        go_wp2_with fail
        refine (Hn10.out _).mono ?_
        rintro e wx ⟨rfl, hwx⟩
        subst wx
        go_wp2_with (refine wpList_build_is rfl 88 #[(0, .tmp 40), (1, .tmp 43), (3, .tmp 45)] rfl cb (by simp only [List.map_toArray, List.map_cons, List.map_nil, List.toList_toArray]; exact Hbu.out) ?_)
        go_meet
        case rel => exact ⟨w2.heap.size, rfl, h2l, hY13, hX13, K13⟩
    case rest =>
      obtain ⟨Y, rfl, hYl, hY0, hX0, K0⟩ := hcut
      rw [Hcb.out, ← sidesAt_zero s] at hY0
      have HY0 := Lib.hid hY0
      have HX0 := Lib.hid hX0
      clear hY0 hX0
      go_wp2_with fail
      go_loopw [7, 47] (fun _ iv wr => ∃ t : Nat, t ≤ 32 ∧ iv = .int .i64 t ∧ Hid (wr.heap[Y]? = some (.cells (supCells ⟨va, vb, sidesAt s t, s.extract 50 66⟩).toArray 88 (0, 0))) ∧ Hid (wr.heap[w.heap.size]? = some (.cells cz 88 (0, 0))) ∧ Keep NoB w wr) (fun _ iv _ => 32 - (intOf iv).toNat)
      case atStart => exact ⟨0, by omega, rfl, HY0, HX0, K0⟩
      case round =>
        obtain ⟨t, ht, rfl, hY, hX, K⟩ := hrel
        by_cases hlt : t < 32
        · have j3 : (t : Int) < 32 := by omega
          have hks : 18 + t < s.size := by omega
          have hki : (18 : Int) + t < s.size := by omega
          have cY : wr.cell? ⟨Y, 2 + t, none⟩ = some (.bool ((sidesAt s t).getD t false)) := by
            rw [cell_of_row wr Y (2 + t) _ _ (0, 0) hY.out]
            exact supCells_side _ t (by rw [sidesAt_len]; exact hlt)
          have fY : wr.frozen? ⟨Y, 2 + t, none⟩ = false := by
            have h := hY.out
            simp [World.frozen?, h]
          have hv : ((s[18 + t].toNat : Int) == 49) = decide ((bs s).getD (18 + t) 0 = 49) := by
            rw [bs_getD s _ hks, Bool.eq_iff_iff, beq_iff_eq, decide_eq_true_eq]
            omega
          have Hv := Lib.hid hv
          clear hv
          go_wp2_with fail
          refine ⟨⟨t + 1, by omega, by go_num, Lib.hid ?_, Lib.hid (heap_setCell_other hX.out (by omega) _), K.setCell (.inr (show w.heap.size ≤ Y by omega)) _⟩, by simp [intOf]; omega⟩
          rw [Hv.out, heap_setCell_row hY.out, supCells_set _ _ _ _ _ _ (by rw [sidesAt_len]; exact hlt), sidesAt_step]
        · obtain rfl : t = 32 := by omega
          have hread : (⟨va, vb, sidesAt s 32, s.extract 50 66⟩ : SupV) = readSup s := by rw [Hva.out, Hvb.out, sidesAt_all]; rfl
          have hYr := hY.out
          rw [hread] at hYr
          have hX5 := hX.out
          have hwr := fun (w : World) (R : RoundsVar w) => supWrite_any key (readSup s) (readSup_sides s) w R
          have hone := supCells_one (readSup s)
          have hoz : cz.all (·.oneCell') = true := by rw [Hcz.out]; exact supCells_one _
          have hcl : (supCells (readSup s)).toArray.size = 35 := by rw [List.size_toArray]; exact supCells_len _ (readSup_sides s)
          have h35r : (Tryd.prog.info? 88).map (·.size) = some (supCells (readSup s)).toArray.size := by rw [hcl]; exact info_super35
          have h35z : (Tryd.prog.info? 88).map (·.size) = some cz.size := by rw [hzl]; exact info_super35
          have hbz : Tryd.prog.built 88 [] = some cz := by rw [Hcz.out]; exact built_zero
          have hvz : supVal zeroSup = .agg cz := by rw [Hcz.out]; rfl
          have hvr : supVal (readSup s) = .agg (supCells (readSup s)).toArray := rfl
          have hpb := fun hm => parseB_of key s hm hs
          have hPV := HPV.out
          have hPE := HPE.out
          rw [hvr] at hwr
          obtain ⟨W, hW⟩ : ∃ W, W = supW key (readSup s) := ⟨_, rfl⟩
          obtain ⟨E, hE⟩ : ∃ E, E = supE key (readSup s) := ⟨_, rfl⟩
          rw [← hW, ← hE] at hwr
          rw [supW] at hW
          rw [supE] at hE
          obtain ⟨M, hM⟩ : ∃ M, M = supMay key (readSup s) := ⟨_, rfl⟩
          rw [← hM] at hpb hW hE
          have hMB : M = false → parseB key s = false := fun h => by rw [parseB, ← hM, h, Bool.false_and, Bool.false_and]
          have HM : Hid (M = true → supMay key (readSup s) = true) := Lib.hid (fun h => hM.symm.trans h)
          obtain ⟨cr, hcr⟩ : ∃ cr, cr = (supCells (readSup s)).toArray := ⟨_, rfl⟩
          rw [← hcr] at hYr hwr hone hcl h35r hvr
          have Hwr := Lib.hid hwr
          have Hz := Lib.hid h35z
          have Hr := Lib.hid h35r
          have Hbz := Lib.hid hbz
          have Hvr := Lib.hid hvr
          have Hvz := Lib.hid hvz
          have HhX := Lib.hid hX5
          clear hread hwr hcr hvr hvz hX5 h35z h35r hbz HY0 HX0 K0 Hn2 Hn10 Hbu Hcb hcb1 hcbl H35 K9 hX9 Hin Hcz hlt ht hM K1 K2 K2' hX2 Htr Hml
          go_wp2_with (first | (refine wpList_load_row rfl 88 (.tmp 6) rfl Y rfl 88 cr (0, 0) _ hYr Tryd.underlying88 rfl Hr.out ?_))
          have HhY := Lib.hid hYr
          have HV := Lib.hid hPV
          have HE := Lib.hid hPE
          clear hYr hPV hPE hX hY HPV HPE Hva Hvb
          refine (Hwr.out _ (V.keep K (fun x => x))).mono ?_
          rintro e w5 ⟨rfl, K5⟩
          have hX5 := K5.heap HhX.out (fun x => x)
          have hY5 := K5.heap HhY.out (fun x => x)
          have K6 := K.thenN K5
          clear Hwr K5 HhX HhY K
          cases M with
          | false =>
            have hB := hMB rfl
            have hfin : Ending.returned (.tuple #[.agg cz, errVal 15]) = .returned (.tuple #[supVal PV, errVal PE]) := by
              rw [HV.out, HE.out, hB, if_neg (fun h => by cases h.2.2), if_neg (fun h => by cases h), Hvz.out]
            have Hfin := Lib.hid hfin
            rw [if_neg (fun h => by cases h)] at hE hW
            clear hB hfin HV HE Hvr Hvz hpb hMB
            subst hE
            subst hW
            have he1 : errVal 1 = .iface 37 (.int .i64 1) := rfl
            go_wp2_with (first | (refine wpList_build_is rfl 88 #[] rfl cz (by simpa using Hbz.out) ?_) | (refine wpList_store_whole rfl 88 (.tmp 4) (.tmp 73) rfl w.heap.size 88 cz cz rfl rfl hX5 Hz.out 35 hzl hzl hoz ?_; have hX10 := heap_setRow (c' := cz) hX5; have K10 := K6.setRow (g := w.heap.size) (.inr (Nat.le_refl _)) cz; refine wl_world (fun w10 => w10.heap[w.heap.size]? = some (.cells cz 88 (0, 0)) ∧ Keep NoB w w10) ⟨hX10, K10⟩ ?_; clear hX10 K10; rintro w10 ⟨hX10, K10⟩))
            exact bodyPost_ret (v := .tuple #[.agg cz, errVal 15]) (results_row_slot rfl _ w10 w.heap.size 88 cz (0, 0) _ (errVal 15) rfl rfl hX10 Tryd.underlying88 rfl Hz.out) rfl ⟨Hfin.out, K10⟩
          | true =>
            rw [if_pos rfl] at hE hW
            subst hE
            have he0 : errVal 0 = .nilIface := rfl
            have hMt := HM.out rfl
            have hWl := supT_len key _ (readSup_sides s) hMt
            have hWb : bs W = supT key (readSup s) := by
              rw [hW, bs_txt]
              rw [supT]
              exact bytes_append (bodyT_bytes _) (mark_bytes _ _)
            have HWb := Lib.hid hWb
            have Hpb := Lib.hid (hpb rfl)
            have hX6 := hX5
            have hY6 := hY5
            have K8 := K6
            clear hW hpb hMB hWb hX5 hY5 K6
            by_cases heq : W = s.extract 0 82
            · have hB : parseB key s = true := by
                rw [Hpb.out, decide_eq_true_eq, ← HWb.out, ← Hd82.out, heq, bs_extract, List.drop_zero, List.take_append_drop]
              have hb2 : sameB W (s.extract 0 82) = true := by rw [← heq]; exact toList_same W
              unfold sameB at hb2
              have hfin : Ending.returned (.tuple #[.agg cr, .nilIface]) = .returned (.tuple #[supVal PV, errVal PE]) := by
                rw [HV.out, HE.out, hB, if_pos ⟨hk, hs, rfl⟩, if_pos rfl, Hvr.out]
                rfl
              have Hfin := Lib.hid hfin
              clear heq hB hfin HV HE Hvr Hvz Hpb HWb
              go_wp2_with (first | (refine wpList_load_row rfl 88 (.tmp 6) rfl Y rfl 88 cr (0, 0) _ hY6 Tryd.underlying88 rfl Hr.out ?_) | (refine wpList_store_whole rfl 88 (.tmp 4) (.tmp 75) rfl w.heap.size 88 cz cr rfl rfl hX6 Hr.out 35 hzl hcl hone ?_; have hX10 := heap_setRow (c' := cr) hX6; have K10 := K8.setRow (g := w.heap.size) (.inr (Nat.le_refl _)) cr; refine wl_world (fun w10 => w10.heap[w.heap.size]? = some (.cells cr 88 (0, 0)) ∧ Keep NoB w w10) ⟨hX10, K10⟩ ?_; clear hX10 K10; rintro w10 ⟨hX10, K10⟩))
              exact bodyPost_ret (v := .tuple #[.agg cr, .nilIface]) (results_row_slot rfl _ w10 w.heap.size 88 cr (0, 0) _ .nilIface rfl rfl hX10 Tryd.underlying88 rfl Hr.out) rfl ⟨Hfin.out, K10⟩
            · have hB : parseB key s = false := by
                rw [Hpb.out, decide_eq_false_iff_not]
                intro h
                refine heq (bs_inj ?_)
                rw [HWb.out, bs_extract, List.drop_zero, h, List.take_left' hWl]
              have hb2 : sameB W (s.extract 0 82) = false := toList_ne heq
              unfold sameB at hb2
              have hfin : Ending.returned (.tuple #[.agg cz, errVal 15]) = .returned (.tuple #[supVal PV, errVal PE]) := by
                rw [HV.out, HE.out, hB, if_neg (fun h => by cases h.2.2), if_neg (fun h => by cases h), Hvz.out]
              have Hfin := Lib.hid hfin
              clear heq hB hfin HV HE Hvr Hvz Hpb HWb
              go_wp2_with (first | (refine wpList_build_is rfl 88 #[] rfl cz (by simpa using Hbz.out) ?_) | (refine wpList_store_whole rfl 88 (.tmp 4) (.tmp 73) rfl w.heap.size 88 cz cz rfl rfl hX6 Hz.out 35 hzl hzl hoz ?_; have hX10 := heap_setRow (c' := cz) hX6; have K10 := K8.setRow (g := w.heap.size) (.inr (Nat.le_refl _)) cz; refine wl_world (fun w10 => w10.heap[w.heap.size]? = some (.cells cz 88 (0, 0)) ∧ Keep NoB w w10) ⟨hX10, K10⟩ ?_; clear hX10 K10; rintro w10 ⟨hX10, K10⟩))
              exact bodyPost_ret (v := .tuple #[.agg cz, errVal 15]) (results_row_slot rfl _ w10 w.heap.size 88 cz (0, 0) _ (errVal 15) rfl rfl hX10 Tryd.underlying88 rfl Hz.out) rfl ⟨Hfin.out, K10⟩
  · have hb2 := toList_ne heq
    unfold sameB at hb2
    have hB : parseB key s = false := by
      cases hp : parseB key s with
      | false => rfl
      | true =>
        exfalso
        have hm : supMay key (readSup s) = true := by
          rw [parseB, Bool.and_eq_true, Bool.and_eq_true] at hp
          exact hp.1.1
        have hl := supT_len key _ (readSup_sides s) hm
        rw [parseB_of key s hm hs, decide_eq_true_eq] at hp
        have hbl : (bodyT (readSup s)).length = 66 := by
          rw [supT, List.length_append, Cof.mark, List.length_take, sha_len] at hl
          omega
        refine heq (bs_inj ?_)
        have h66 : (bs s).take 66 = bodyT (readSup s) := by rw [hp, supT, List.append_assoc, List.take_left' hbl]
        rw [HG.out, bs_txt (mark_bytes _ _), HM.out, bs_extract, List.map_cons, List.map_cons, List.map_nil, bs_extract, List.drop_zero, h66, hp, supT, List.append_assoc, List.drop_left' hbl, List.take_left' (by rw [Cof.mark, List.length_take, sha_len]; rfl)]
    have hfin : Ending.returned (.tuple #[.agg cz, errVal 15]) = .returned (.tuple #[supVal PV, errVal PE]) := by
      rw [HPV.out, HPE.out, hB, if_neg (fun h => by cases h.2.2), if_neg (fun h => by cases h), Hcz.out]
      rfl
    have Hfin := Lib.hid hfin
    have hbz : Tryd.prog.built 88 [] = some cz := by rw [Hcz.out]; exact built_zero
    have hoz : cz.all (·.oneCell') = true := by rw [Hcz.out]; exact supCells_one _
    have h35z : (Tryd.prog.info? 88).map (·.size) = some cz.size := by rw [hzl]; exact info_super35
    have Hbz := Lib.hid hbz
    have Hz5 := Lib.hid h35z
    rw [hb2, Bool.not_false]
    clear hB hfin heq hb2 hbz h35z
    go_wp2_with (first | (refine wpList_build_is rfl 88 #[] rfl cz (by simpa using Hbz.out) ?_) | (refine wpList_store_whole rfl 88 (.tmp 4) (.tmp 36) rfl w.heap.size 88 cz cz rfl rfl hX2 Hz5.out 35 hzl hzl hoz ?_; have hX10 := heap_setRow (c' := cz) hX2; have K10 := K2'.setRow (g := w.heap.size) (.inr (Nat.le_refl _)) cz; refine wl_world (fun w10 => w10.heap[w.heap.size]? = some (.cells cz 88 (0, 0)) ∧ Keep NoB w w10) ⟨hX10, K10⟩ ?_; clear hX10 K10; rintro w10 ⟨hX10, K10⟩))
    exact bodyPost_ret (v := .tuple #[.agg cz, errVal 15]) (results_row_slot rfl _ w10 w.heap.size 88 cz (0, 0) _ (errVal 15) rfl rfl hX10 Tryd.underlying88 rfl Hz5.out) rfl ⟨Hfin.out, K10⟩
theorem supParse_any (key s : ByteArray) (hs2 : s.size ≤ 1000) (w : World) (V : RoundsVar w) :
    Calls Tryd.prog 65 #[.string key, .string s] w fun e w' => e = .returned (.tuple #[supVal (parseV key s), errVal (parseE key s)]) ∧ Keep NoB w w' := by
  by_cases hk : key.size = 32
  · by_cases hs : s.size < 82
    · have h1 : parseV key s = zeroSup := by rw [parseV, if_neg (by omega)]
      have h2 : parseE key s = 15 := by rw [parseE, if_pos hk, if_pos hs]
      rw [h1, h2]
      exact supParse_short key s hk hs w
    · by_cases hz : (bs s).drop 82 = List.replicate (s.size - 82) 0
      · exact supParse_main key s hk (by omega) hs2 hz w V
      · have hB : parseB key s = false := by rw [parseB, decide_eq_false hz, Bool.and_false]
        have h1 : parseV key s = zeroSup := by rw [parseV, hB, if_neg (fun h => by cases h.2.2)]
        have h2 : parseE key s = 15 := by rw [parseE, if_pos hk, if_neg hs, hB, if_neg (fun h => by cases h)]
        rw [h1, h2]
        exact supParse_trim key s hk (by omega) hs2 hz w
  · have h1 : parseV key s = zeroSup := by rw [parseV, if_neg (by omega)]
    have h2 : parseE key s = 1 := by rw [parseE, if_neg hk]
    rw [h1, h2]
    exact supParse_arg key s hk w
end Go.Proofs.YtndcaaikjcicgaaDoor
