/-
  DERIVED. The walk of the law SuperWrites.
-/
import Derived.Test.YtndcaaikjcicgaaDoorSupT
import Derived.Test.YtndcaaikjcicgaaDoorNew
import Derived.Test.YtndcaaikjcicgaaDoorLong
import Derived.Laws.StructEq
import Derived.ChangeKeysEq
set_option linter.unusedVariables false
set_option linter.unusedSimpArgs false
namespace Go.Proofs.YtndcaaikjcicgaaDoor
open Go.RowKit Go.Cof
theorem eqItems_same {P : Program} {d : Nat} {e : TypeId} {xs : Array Value} {w : World} (he : P.underlying e = some .bool) : ∀ is : List Nat, (∀ i ∈ is, ∃ b, (part e xs (i * 1)).run P w = .ok (.bool b) w) → (Op.eqItems (d + 1) e 1 xs xs is).run P w = .ok true w
  | [], _ => by simp [Op.eqItems]
  | i :: is, h => by
    obtain ⟨b, hb⟩ := h i List.mem_cons_self
    have ih := eqItems_same (d := d) he is (fun j hj => h j (List.mem_cons_of_mem _ hj))
    simp only [Op.eqItems, Sem.run_bind, hb, Result.andThen_ok, run_equalIn_bool' w d e b b he, ih]
    simp [ih]
set_option maxRecDepth 100000 in
theorem neq_sup (x : SupV) (hx : x.sides.length = 32) (w : World) : (binOp .neq 88 (supVal x) (supVal x)).run Tryd.prog w = .ok (.bool false) w := by
  have u3 := Tryd.underlying3
  have hS : Tryd.prog.underlying 88 = some (.struct (Tryd.prog.fieldsOf 88)) := by kernel_rfl
  have hp : Tryd.prog.stoodInHeld 88 = false := by kernel_rfl
  have h0 : (supCells x)[0]? = some (.int .i64 x.count) := rfl
  have h1 : (supCells x)[1]? = some (.int .i64 x.epoch) := rfl
  have h34 : (supCells x)[34]? = some (.string x.root) := by
    rw [supCells, List.getElem?_append_right (by simp [hx])]
    simp [hx]
  rw [supVal, run_neq_struct, show (10000 : Nat) = 9999 + 1 from rfl, run_equalIn_agg w 9999 88 _ _ hS hp]
  simp only [Program.fieldsOf, Tryd.underlying88]
  obtain ⟨cs, hcs⟩ : ∃ cs, cs = supCells x := ⟨_, rfl⟩
  rw [← hcs] at h0 h1 h34 ⊢
  have Hcs := Lib.hid hcs
  clear hcs
  go_simp
  have hA : (List.take 32 (List.drop 2 cs)) = x.sides.map Value.bool := by
    rw [Hcs.out, supCells, List.append_assoc, List.drop_left' (by rfl), List.take_left' (by rw [List.length_map, hx])]
  rw [hA]
  have hib : ∃ i, Tryd.prog.info? 4 = some i := ⟨_, rfl⟩
  obtain ⟨i, hi⟩ := hib
  have hc : Tryd.prog.cellsOf 4 = 1 := by kernel_rfl
  have hpk : Tryd.prog.plainKey 4 = true := by kernel_rfl
  rw [show (9999 : Nat) = 9998 + 1 from rfl, run_equalIn_array w 9998 _ _ Tryd.underlying86 hi, hc, show (9998 : Nat) = 9997 + 1 from rfl, eqItems_same Tryd.underlying4 _ ?_]
  · rfl
  · intro j hj
    have hj' : j < 32 := List.mem_range.1 hj
    refine ⟨x.sides.getD j false, run_part_plain w hpk ?_⟩
    rw [Nat.mul_one, List.getElem?_toArray, List.getElem?_map, List.getD_eq_getElem?_getD, List.getElem?_eq_getElem (by omega)]
    rfl
set_option maxRecDepth 100000 in
set_option maxHeartbeats 8000000 in
theorem superWrites_any (key : ByteArray) (x : SupV) (hx : x.sides.length = 32) (s : ByteArray) (w : World) (hg : ErrVar w) (V : RoundsVar w) :
    Calls Tryd.prog 10 #[.string key, supVal x, .string s] w fun e w' => e = .returned (.bool true) ∧ Keep NoB w w' := by
  have hr := fun w RB (R : RefR w RB) => refSupWrite_any RB key x hx w R
  have hp := fun w (V : RoundsVar w) => supWrite_any key x hx w V
  obtain ⟨W, hW⟩ : ∃ W, W = supW key x := ⟨_, rfl⟩
  obtain ⟨E, hE⟩ : ∃ E, E = supE key x := ⟨_, rfl⟩
  have hWs : W.size ≤ 82 := by
    rw [hW, supW]
    split
    · rename_i h
      rw [txt_size, supT_len key x hx h]
      exact Nat.le_refl _
    · exact Nat.zero_le _
  rw [← hW, ← hE] at hr hp
  clear hW hE
  obtain ⟨cs, hcs⟩ : ∃ cs, cs = (supCells x).toArray := ⟨_, rfl⟩
  have h34 : cs[34]? = some (.string x.root) := by
    rw [hcs, List.getElem?_toArray, supCells, List.getElem?_append_right (by simp [hx])]
    simp [hx]
  have hsz : cs.size = 35 := by rw [hcs, List.size_toArray]; exact supCells_len x hx
  have hinf : (Tryd.prog.info? 88).map (·.size) = some cs.size := by rw [hsz]; exact info_super35
  have hv : supVal x = .agg cs := by rw [hcs]; rfl
  rw [hv] at hr hp ⊢
  clear hv hcs
  have Hr := Lib.hid hr
  have Hp := Lib.hid hp
  have Hinf := Lib.hid hinf
  clear hr hp hinf hsz
  by_cases h1 : 60 < key.size
  · go_enter Tryd.func10, Tryd.ntmps10
    go_wp2_with fail
    refine (long_any key true (by simp; omega) _).mono ?_
    rintro e w2 ⟨rfl, hw⟩
    subst w2
    go_wp2_with fail
    go_ret
    exact ⟨rfl, (Keep.refl _ _).alloc _⟩
  have hlk := long_any key false (by simp; omega)
  by_cases h2 : 60 < x.root.size
  · go_enter Tryd.func10, Tryd.ntmps10
    go_wp2_with fail
    refine (hlk _).mono ?_
    rintro e w2 ⟨rfl, hw⟩
    subst w2
    go_wp2_with fail
    refine (long_any x.root true (by simp; omega) _).mono ?_
    rintro e w2 ⟨rfl, hw⟩
    subst w2
    go_wp2_with fail
    go_ret
    exact ⟨rfl, (Keep.refl _ _).alloc _⟩
  have hlr := long_any x.root false (by simp; omega)
  by_cases h3 : 300 < s.size
  · have d3 : decide ((300 : Int) < s.size) = true := by simp; omega
    go_enter Tryd.func10, Tryd.ntmps10
    go_wp2_with fail
    refine (hlk _).mono ?_
    rintro e w2 ⟨rfl, hw⟩
    subst w2
    go_wp2_with fail
    refine (hlr _).mono ?_
    rintro e w2 ⟨rfl, hw⟩
    subst w2
    go_wp2_with fail
    go_ret
    exact ⟨rfl, (Keep.refl _ _).alloc _⟩
  have d3 : decide ((300 : Int) < s.size) = false := by simp; omega
  have hs3 : s.size ≤ 300 := by omega
  have hc0 : ¬ (9223372036854775807 < W.size + (⟨#[0, 0]⟩ : ByteArray).size) := by show ¬ (9223372036854775807 < W.size + 2); omega
  have hc1 : ¬ (9223372036854775807 < W.size + (⟨#[120]⟩ : ByteArray).size) := by show ¬ (9223372036854775807 < W.size + 1); omega
  obtain ⟨W0, hW0⟩ : ∃ T, T = W ++ ⟨#[0, 0]⟩ := ⟨_, rfl⟩
  obtain ⟨Wx, hWx⟩ : ∃ T, T = W ++ ⟨#[120]⟩ := ⟨_, rfl⟩
  have hW0s : W0.size ≤ 84 := by rw [hW0, ByteArray.size_append]; show W.size + 2 ≤ 84; omega
  have hWxs : Wx.size ≤ 84 := by rw [hWx, ByteArray.size_append]; show W.size + 1 ≤ 84; omega
  have HW0 := Lib.hid hW0
  have HWx := Lib.hid hWx
  have Hlr := Lib.hid hlr
  clear hW0 hWx h1 h2 h3 hlr
  go_enter Tryd.func10, Tryd.ntmps10
  go_wp2_with fail
  refine (hlk _).mono ?_
  rintro e w2 ⟨rfl, hw⟩
  subst w2
  clear hlk
  go_wp2_with fail
  refine (Hlr.out _).mono ?_
  rintro e w2 ⟨rfl, hw⟩
  subst w2
  have hX1 : (w.alloc (.cells cs 88)).heap[w.heap.size]? = some (.cells cs 88 (0, 0)) := heap_alloc_new w _
  have K1 : Keep NoB w (w.alloc (.cells cs 88)) := (Keep.refl NoB w).alloc _
  obtain ⟨w1, hw1⟩ : ∃ w1, w1 = w.alloc (.cells cs 88) := ⟨_, rfl⟩
  rw [← hw1] at hX1 K1 ⊢
  clear hw1 Hlr h34
  go_wp2_with fail
  refine (new_any w1).mono ?_
  rintro e w2 ⟨rfl, R2, K2⟩
  obtain ⟨RB, hRB⟩ : ∃ RB, RB = w1.heap.size := ⟨_, rfl⟩
  rw [← hRB] at R2
  rw [← hRB]
  have hX2 := K2.heap hX1 (fun x => x)
  have K2' := K1.thenN K2
  obtain ⟨X, hX⟩ : ∃ X, X = w.heap.size := ⟨_, rfl⟩
  rw [← hX] at hX2 ⊢
  clear hRB d3 hX1 K1 hX
  go_wp2_with (refine wpList_load_row rfl 88 (.tmp 4) rfl X rfl 88 cs (0, 0) _ hX2 Tryd.underlying88 rfl Hinf.out ?_)
  refine (Hr.out w2 RB R2).mono ?_
  rintro e w3 ⟨rfl, K3⟩
  have R3 : RefR w3 RB := Keep.heap K3 R2 (fun x => x)
  have hX3 := K3.heap hX2 (fun x => x)
  have K3' := K2'.thenN K3
  clear Hr K2 K2' K3 R2 hX2
  go_wp2_with (refine wpList_load_row rfl 88 (.tmp 4) rfl X rfl 88 cs (0, 0) _ hX3 Tryd.underlying88 rfl Hinf.out ?_)
  refine (Hp.out w3 (V.keep K3' (fun x => x))).mono ?_
  rintro e w4 ⟨rfl, K4⟩
  have R4 : RefR w4 RB := Keep.heap K4 R3 (fun x => x)
  have K4' := K3'.thenN K4
  clear Hp K3' K4 R3 hX3 Hinf
  go_wp2_with fail
  refine (bare_any E E w4 (hg.keep K4' (fun x => x))).mono ?_
  rintro e w5 ⟨rfl, K5⟩
  have R5 : RefR w5 RB := Keep.heap K5 R4 (fun x => x)
  have K5' := K4'.thenN K5
  have b1 : (E == E) = true := by simp
  rw [b1]
  clear b1 K4' K5 R4
  go_wp2_with fail
  rw [← HW0.out, ← HWx.out]
  refine wp_world (fun w8 => Strs w8 (.slice (some ⟨w5.heap.size, 0, none⟩) 4 4) [s, W, W0, Wx] ∧ RefR w8 RB ∧ Keep NoB w w8) ⟨Strs.lit (w := w5) [s, W, W0, Wx], Keep.heap ((Keep.refl NoB w5).alloc _) R5 (fun x => x), K5'.alloc _⟩ ?_
  obtain ⟨B, hB⟩ : ∃ B, B = w5.heap.size := ⟨_, rfl⟩
  rw [← hB]
  clear hB
  intro w8 hw8
  obtain ⟨S8, R8, K8⟩ := hw8
  have hin := info_super
  have hzl := zero_len
  rw [supVal] at hin
  obtain ⟨cz, hcz⟩ : ∃ cz, cz = (supCells zeroSup).toArray := ⟨_, rfl⟩
  rw [← hcz] at hin hzl
  have Hin := Lib.hid hin
  have hgt : Tryd.prog.eqGuardType Tryd.prog.depth 88 = false := by kernel_rfl
  clear R5 K5' hcz hin hc0 hc1
  go_loopw [61] (fun i wr => ∃ j : Nat, j ≤ 4 ∧ i = .int .i64 j ∧ Keep NoB w8 wr) (fun i _ => 4 - (intOf i).toNat)
  case atStart => exact ⟨0, by omega, rfl, Keep.refl _ _⟩
  case round =>
    obtain ⟨j, hj, rfl, K⟩ := hrel
    by_cases hlt : j < 4
    · have j1 : (j : Int) < 4 := by omega
      obtain ⟨q, hq⟩ : ∃ q, q = [s, W, W0, Wx].getD j ⟨#[]⟩ := ⟨_, rfl⟩
      have hqs : q.size ≤ 300 := by
        have : j = 0 ∨ j = 1 ∨ j = 2 ∨ j = 3 := by omega
        rcases this with rfl | rfl | rfl | rfl <;> rw [hq]
        · exact hs3
        · show W.size ≤ 300; omega
        · show W0.size ≤ 300; omega
        · show Wx.size ≤ 300; omega
      have Sr := S8.keep K (fun _ _ x => x)
      obtain ⟨B', off, hBo, _, _, hc⟩ := Sr.at (by simp)
      cases hBo
      have hcj := hc j (by simpa using hlt)
      rw [← hq, Nat.zero_add] at hcj
      have hr := fun w RB (R : RefR w RB) => refParse_any RB key q (by omega) w R
      have hp := fun w (V : RoundsVar w) => supParse_any key q (by omega) w V
      have hne := fun w => neq_sup (parseV key q) (parseV_sides key q) w
      have hl := supCells_len _ (parseV_sides key q)
      have hone := supCells_one (parseV key q)
      obtain ⟨kk, hkk⟩ : ∃ k, k = parseE key q := ⟨_, rfl⟩
      rw [← hkk] at hr hp
      rw [supVal] at hr hp hne
      obtain ⟨cp, hcp⟩ : ∃ c, c = (supCells (parseV key q)).toArray := ⟨_, rfl⟩
      rw [← hcp] at hr hp hne hone
      have hcl : cp.size = 35 := by rw [hcp, List.size_toArray, hl]
      have h35 : (Tryd.prog.info? 88).map (·.size) = some cp.size := by rw [hcl]; exact info_super35
      have H35 := Lib.hid h35
      have Hr := Lib.hid hr
      have Hp := Lib.hid hp
      have Hne := Lib.hid hne
      clear hc Sr hq hkk hcp hr hp hne hl h35
      have Rr : RefR wr RB := Keep.heap K R8 (fun x => x)
      have K9 := K8.thenN K
      go_wp2_with fail
      refine (Hr.out wr RB Rr).mono ?_
      rintro e w9 ⟨rfl, K1⟩
      have K10 := K.thenN K1
      clear Hr K9
      go_wp2_with (first | (refine wpList_alloc_row rfl 88 rfl Hin.out ?_; refine wl_world (fun wa => wa.heap[w9.heap.size]? = some (.cells cz 88 (0, 0)) ∧ Keep NoB w8 wa) ⟨heap_alloc_new w9 _, K10.alloc _⟩ ?_; rintro wa ⟨hXa, Ka⟩) | (refine wpList_store_whole rfl 88 (.tmp 14) (.tmp 70) rfl w9.heap.size 88 cz cp rfl rfl hXa H35.out 35 hzl hcl hone ?_; have hXb := heap_setRow (c' := cp) hXa; have Kb := Ka.setRow (g := w9.heap.size) (.inr K10.size) cp; refine wl_world (fun wb => wb.heap[w9.heap.size]? = some (.cells cp 88 (0, 0)) ∧ Keep NoB w8 wb) ⟨hXb, Kb⟩ ?_; clear hXb Kb; rintro wb ⟨hXb, Kb⟩))
      obtain ⟨g1, hg1⟩ : ∃ g, g = w9.heap.size := ⟨_, rfl⟩
      rw [← hg1] at hXb ⊢
      clear hg1 hXa Ka K10 K1
      refine (Hp.out wb (V.keep (K8.thenN Kb) (fun x => x))).mono ?_
      rintro e w10 ⟨rfl, K2⟩
      have hX10 := K2.heap hXb (fun x => x)
      have K11 := Kb.thenN K2
      clear Hp K2 Kb hXb
      have hlt10 := lt_of_heap hX10
      go_wp2_with (first | (refine wpList_alloc_row rfl 88 rfl Hin.out ?_; refine wl_world (fun wa => wa.heap[w10.heap.size]? = some (.cells cz 88 (0, 0)) ∧ wa.heap[g1]? = some (.cells cp 88 (0, 0)) ∧ Keep NoB w8 wa) ⟨heap_alloc_new w10 _, (Keep.refl NoB w10).alloc _ |>.heap hX10 (fun x => x), K11.alloc _⟩ ?_; rintro wa ⟨hXa, hYa, Ka⟩) | (refine wpList_store_whole rfl 88 (.tmp 16) (.tmp 76) rfl w10.heap.size 88 cz cp rfl rfl hXa H35.out 35 hzl hcl hone ?_; have hXb := heap_setRow (c' := cp) hXa; have hYb := (setRow_other wa w10.heap.size g1 cp (fun e => by omega)).trans hYa; have Kb := Ka.setRow (g := w10.heap.size) (.inr K11.size) cp; refine wl_world (fun wb => wb.heap[w10.heap.size]? = some (.cells cp 88 (0, 0)) ∧ wb.heap[g1]? = some (.cells cp 88 (0, 0)) ∧ Keep NoB w8 wb) ⟨hXb, hYb, Kb⟩ ?_; clear hXb hYb Kb; rintro wc ⟨hXb, hYb, Kb⟩))
      obtain ⟨g2, hg2⟩ : ∃ g, g = w10.heap.size := ⟨_, rfl⟩
      rw [← hg2] at hXb ⊢
      clear hg2 hXa hYa Ka K11 hX10 hlt10
      refine (bare_any kk kk wc (hg.keep (K8.thenN Kb) (fun x => x))).mono ?_
      rintro e w11 ⟨rfl, K3⟩
      have b1 : (kk == kk) = true := by simp
      rw [b1]
      clear b1
      have hX11 := K3.heap hXb (fun x => x)
      have hY11 := K3.heap hYb (fun x => x)
      have K12 := Kb.thenN K3
      have hne := Hne.out
      clear hXb hYb Kb K3 Hne
      go_wp2_with (first | (refine wpList_load_row_w (by rfl) 88 (.tmp 16) rfl g2 rfl 88 cp (0, 0) _ hX11 Tryd.underlying88 rfl H35.out ?_) | (refine wpList_load_row_w (by rfl) 88 (.tmp 14) rfl g1 rfl 88 cp (0, 0) _ hY11 Tryd.underlying88 rfl H35.out ?_))
      exact ⟨⟨j + 1, by omega, by go_num, K12⟩, by simp [intOf]; omega⟩
    · obtain rfl : j = 4 := by omega
      go_wp2_with fail
      go_ret
      exact ⟨rfl, K8.thenN K⟩
end Go.Proofs.YtndcaaikjcicgaaDoor
