/-
  DERIVED. DeviceRests' put: texts written, one by one.
-/
import Derived.Test.YtndcaaikjcicgaaDoorLay
import Derived.Test.YtndcaaikjcicgaaDoorCounts
set_option linter.unusedVariables false
set_option linter.unusedSimpArgs false
namespace Go.Proofs.YtndcaaikjcicgaaDoor
open Go.RowKit Go.Cof
theorem Moved.refl (w : World) (wv : Value) : Moved w wv wv := .inl rfl
theorem Moved.trans {w w1 : World} {a b c : Value} (h : Moved w a b) (k : Moved w1 b c) (hs : w.heap.size ≤ w1.heap.size) : Moved w a c := by
  rcases k with k | k
  · rcases h with h | h
    · exact .inl (k.trans h)
    · exact .inr fun x hx => h x (k ▸ hx)
  · exact .inr fun x hx => Nat.le_trans hs (k x hx)
theorem devB_back {w : World} {D S : Nat} {wv wv' : Value} (h : Moved w wv wv') : ∀ i, i < w.heap.size → DevB D S wv' i → DevB D S wv i := by
  rintro i hi (hb | hb | hb)
  · exact .inl hb
  · exact .inr (.inl hb)
  · rcases h with h | h
    · exact .inr (.inr (h ▸ hb))
    · have := h i hb; omega
/-- Where a text goes. -/
def placeOf (ats : List Int) (i : Nat) : Nat := pickN (wrap64 (ats.getD (i % ats.length) 0 + (i : Int))) 66
theorem placeOf_lt (ats : List Int) (i : Nat) : placeOf ats i < 66 := pickN_lt _ _ (by omega)
def putsOf (ats : List Int) (l : List ByteArray) (k : Nat) : List (Nat × ByteArray) := (List.range k).map fun i => (placeOf ats i, padB (l.getD i ⟨#[]⟩))
theorem putsOf_succ (ats : List Int) (l : List ByteArray) (k : Nat) : putsOf ats l (k + 1) = putsOf ats l k ++ [(placeOf ats k, padB (l.getD k ⟨#[]⟩))] := by simp [putsOf, List.range_succ]
theorem putsOf_len (ats : List Int) (l : List ByteArray) (k : Nat) : (putsOf ats l k).length = k := by simp [putsOf]
set_option maxRecDepth 100000 in
set_option maxHeartbeats 4000000 in
theorem put_any {w0 w : World} {D S : Nat} {wv : Value} {sure : List ByteArray} {wait : List (Nat × ByteArray)} (h : DevN w0 w D S wv sure wait (-1)) (BD BA : Nat) (v av : Value) (l : List ByteArray) (ats : List Int)
    (cD : w.cell? ⟨BD, 0, none⟩ = some (.pointer (some ⟨D, 0, none⟩))) (cA : w.cell? ⟨BA, 0, none⟩ = some av) (hBD : BD < w.heap.size) (hBA : BA < w.heap.size) (nD : ¬ DevB D S wv BD) (nA : ¬ DevB D S wv BA)
    (T : Strs w v l) (N : Nums w av ats) (nT : 0 < l.length → ∀ b, v.ownBlock = some b → ¬ DevB D S wv b) (nN : ∀ b, av.ownBlock = some b → ¬ DevB D S wv b) (hl : l.length ≤ 1000) (hs : ∀ s ∈ l, s.size ≤ 256) (ha : 0 < ats.length) (ha2 : ats.length ≤ 1000) (hw : wait.length ≤ 1000) :
    Calls Tryd.prog 35 #[v, .pointer (some ⟨BD, 0, none⟩), .pointer (some ⟨BA, 0, none⟩)] w fun e w' => e = .returned (.bool true) ∧ ∃ wv', DevN w0 w' D S wv' sure (wait ++ putsOf ats l l.length) (-1) ∧ Moved w wv wv' ∧ Keep (DevB D S wv) w w' := by
  obtain ⟨p, c, rfl⟩ := T.len
  obtain ⟨pa, ca, rfl⟩ := N.len
  obtain ⟨n, hn⟩ : ∃ n, n = l.length := ⟨_, rfl⟩
  obtain ⟨m, hm⟩ : ∃ m, m = ats.length := ⟨_, rfl⟩
  rw [← hn] at T nT hl
  rw [← hm] at N nN cA ha ha2
  rw [← hn]
  obtain ⟨Ba, oa, rfl, -, hBa, hca⟩ := N.at (by rw [← hm]; exact ha)
  have Hn := Lib.hid hn
  have Hm := Lib.hid hm
  clear hn hm
  go_enter Tryd.func35, Tryd.ntmps35
  go_wp2_with fail
  go_loopw [5] (fun i wr => ∃ (k : Nat) (wk : Value), k ≤ n ∧ i = .int .i64 k ∧ DevN w0 wr D S wk sure (wait ++ putsOf ats l k) (-1) ∧ Moved w wv wk ∧ Keep (DevB D S wv) w wr) (fun i _ => n - (intOf i).toNat)
  case atStart => exact ⟨0, wv, by omega, rfl, by rw [show putsOf ats l 0 = [] from rfl, List.append_nil]; exact h, Moved.refl _ _, Keep.refl _ _⟩
  case round =>
    obtain ⟨k, wk, hk, rfl, hd, hM, K⟩ := hrel
    by_cases hlt : k < n
    · have j1 : (k : Int) < n := by omega
      have cD1 := (K.cell (p := ⟨BD, 0, none⟩) hBD nD).trans cD
      have cA1 := (K.cell (p := ⟨BA, 0, none⟩) hBA nA).trans cA
      have T1 := T.keep K (nT (by omega))
      obtain ⟨B, off, rfl, hnl, hB, hc⟩ := T1.at (by have := Hn.out; omega)
      have hck := hc k (by have := Hn.out; omega)
      obtain ⟨q, hq⟩ : ∃ q, q = l.getD k ⟨#[]⟩ := ⟨_, rfl⟩
      rw [← hq] at hck
      have hqs : q.size ≤ 256 := by
        apply hs
        rw [hq, List.getD_eq_getElem?_getD, List.getElem?_eq_getElem (by have := Hn.out; omega)]
        exact List.getElem_mem _
      obtain ⟨r, hr⟩ : ∃ r, r = k % m := ⟨_, rfl⟩
      have hrm : r < m := by rw [hr]; exact Nat.mod_lt _ ha
      have hri : (k : Int) % (m : Int) = (r : Int) := by rw [hr]; omega
      have hca1 := (K.cell (p := ⟨Ba, oa + r, none⟩) hBa (nN Ba rfl)).trans (hca r (by have := Hm.out; omega))
      obtain ⟨y, hy⟩ : ∃ y, y = ats.getD r 0 := ⟨_, rfl⟩
      rw [← hy] at hca1
      have hpl : pickN (wrap64 (y + (k : Int))) 66 = placeOf ats k := by rw [placeOf, hy, hr, ← Hm.out]
      have hpk := pick_any (wrap64 (y + (k : Int))) 66 66 rfl (by omega) (by omega)
      rw [hpl] at hpk
      have hpu := putsOf_succ ats l k
      rw [← hq] at hpu
      have hwr := fun nq => write_N (hd.keepN ((Keep.refl NoB wr).drewN nq)) (placeOf ats k) q (placeOf_lt _ _) hqs (by decide) (by rw [List.length_append, putsOf_len]; omega)
      rw [List.append_assoc, ← hpu] at hwr
      have hri2 : (k : Int).tmod (m : Int) = (r : Int) := by rw [Int.tmod_eq_emod_of_nonneg (by omega)]; exact hri
      rw [← IntWalk.i64_left] at hpk
      have hri0 : (0 : Int) ≤ r := by omega
      have hrm0 : (r : Int) < m := by omega
      have hm0 : ¬ (m = 0) := by omega
      clear hq hr hy hpl hpu hc hnl T1
      go_wp2_with fail
      refine wp_region_qt_drew 15 (by kernel_rfl) (by kernel_rfl) ?_
      simp only [List.take_succ_cons, List.take_zero, List.drop_succ_cons, List.drop_zero]
      repeat (quiet_step ((go_at_call 37; exact Calls.quiet_of_same (hpk _))))
      refine wpQuiet_nil ?_
      intro nq
      have hw2 := hwr nq
      clear hwr hpk hri hri2
      go_wp2_with fail
      refine hw2.mono ?_
      clear hw2
      rintro e w2 ⟨rfl, wk2, hd2, hM2, hK2⟩
      have hd3 : DevN w0 w2 D S wk2 sure (wait ++ putsOf ats l (k + 1)) (-1) := hd2
      go_wp2_with fail
      exact ⟨⟨k + 1, wk2, by omega, by go_num, hd3, hM.trans hM2 K.size, (K.drewN nq).trans hK2 (fun i hi hs => devB_back hM i hi hs)⟩, by simp [intOf]; omega⟩
    · obtain rfl : k = n := by omega
      go_wp2_with fail
      go_ret
      exact ⟨rfl, wk, hd, hM, K⟩
end Go.Proofs.YtndcaaikjcicgaaDoor
