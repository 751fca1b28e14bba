/-
  DERIVED. The walk of the law DeviceSure: the way that is asked.
-/
import Derived.Test.YtndcaaikjcicgaaDoorSure2
import Derived.Deep.CutBlock
import Derived.Deep.DeepCutAuto
set_option linter.unusedVariables false
set_option linter.unusedSimpArgs false
namespace Go.Proofs.YtndcaaikjcicgaaDoor
open Go.RowKit Go.Cof
theorem info_texts : (Tryd.prog.info? 22).map (fun i => (i.zero, i.size, i.bytes)) = some (some (.slice none 0 0), 1, 24) := by kernel_rfl
theorem su_start {w0 w w' : World} {D S M : Nat} (h : DevN w0 w D S (.slice none 0 0) sure0 [] (-1)) (hM : M = w.heap.size) (own : w'.ownsRow w.heap.size 22 1 (.slice (some ⟨M, 0, none⟩) 66 66) 66 (madeCells (Value.cells (.slice none 0 0)) (66 * 1)).toList) (hg : w.grownBy w' none) : Su w0 w' D S M sure0 [] (List.replicate 66 []) := by
  subst hM
  have K : Keep NoB w w' := (Keep.refl NoB w).grown hg (fun k e => by cases e)
  have hs := h.keep.size
  refine ⟨.slice none 0 0, List.replicate 66 nilS, h.keepN K, ?_, ?_, ?_⟩
  · have hget : ∀ k, (List.replicate 66 nilS).getD k nilS = nilS := by
      intro k
      rw [List.getD_eq_getElem?_getD, List.getElem?_replicate]
      split <;> rfl
    have hgm : ∀ k, (List.replicate 66 ([] : List ByteArray)).getD k [] = [] := by
      intro k
      rw [List.getD_eq_getElem?_getD, List.getElem?_replicate]
      split <;> rfl
    refine ⟨?_, List.length_replicate, List.length_replicate, fun k hk => ?_, fun j k b hj hk h1 _ => ?_, fun k b hk hb => ?_⟩
    · rcases own.2 with ⟨hv, _⟩ | ⟨g, cap, cur, hv, _, hh, r1, r2, r3, r4⟩
      · cases hv
      · cases hv
        rw [hh]
        have e1 : cur.toList = List.replicate 66 nilS := by
          rw [List.take_of_length_le (by rw [Array.length_toList]; omega)] at r4
          rw [r4]
          show (madeCells #[Value.slice none 0 0] (66 * 1)).toList = _
          rw [toList_madeCells_one]
          rfl
        rw [← e1]
    · rw [hget, hgm]; exact OwnsN.nil _ _ _ _
    · rw [hget] at h1; cases h1
    · rw [hget] at hb; cases hb
  · rintro b (rfl | ⟨k, hk, hb⟩)
    · exact hs
    · rw [List.getD_eq_getElem?_getD, List.getElem?_replicate] at hb
      split at hb <;> cases hb
  · rintro b hb (rfl | ⟨k, hk, hb2⟩)
    · have := h.lt _ hb; omega
    · rw [List.getD_eq_getElem?_getD, List.getElem?_replicate] at hb2
      split at hb2 <;> cases hb2
theorem Su.cell {w0 w : World} {D S M : Nat} {sure : List ByteArray} {wait : List (Nat × ByteArray)} {ms : List (List ByteArray)} (h : Su w0 w D S M sure wait ms) (k : Nat) (hk : k < 66) :
    w.frozen? ⟨M, k, none⟩ = false ∧ ∃ p c, w.cell? ⟨M, k, none⟩ = some (.slice p (ms.getD k []).length c) ∧ Strs w (.slice p (ms.getD k []).length c) (ms.getD k []) := by
  obtain ⟨wv, vs, h⟩ := h
  obtain ⟨h1, h2⟩ := h.may.cell k hk
  have hT := strs_ofN (h.may.row k hk)
  obtain ⟨p, c, e⟩ := hT.len
  rw [e] at h1 hT
  exact ⟨h2, p, c, h1, hT⟩
/-- A row of one of its own. -/
theorem Su.put {w0 w : World} {D S M : Nat} {sure : List ByteArray} {wait : List (Nat × ByteArray)} {ms : List (List ByteArray)} (h : Su w0 w D S M sure wait ms) (k : Nat) (hk : k < 66) (q : ByteArray) :
    Su w0 ((w.alloc (.cells #[.string q] 9)).setCell ⟨M, k, none⟩ (.slice (some ⟨w.heap.size, 0, none⟩) 1 1)) D S M sure wait (ms.set k [q]) := by
  obtain ⟨wv, vs, h⟩ := h
  refine ⟨wv, _, h.upd k hk _ [q] (((Keep.refl NoB w).alloc _).mono (fun _ _ x => x.elim)) ?_ (.inr fun b hb => ?_)⟩
  · exact (OwnsN.lit w w.heap.size 9 1 #[.string q] 1 (Nat.le_refl _) (by unfold maxLen; omega) rfl).down (Nat.zero_le _)
  · obtain rfl : w.heap.size = b := Option.some.inj hb
    exact Nat.le_refl _
/-- A row that takes one more. -/
theorem Su.more {w0 w : World} {D S M : Nat} {sure : List ByteArray} {wait : List (Nat × ByteArray)} {ms : List (List ByteArray)} (h : Su w0 w D S M sure wait ms) (k : Nat) (hk : k < 66) (n : Nat) (hn : (ms.getD k []).length = n) (h0 : 0 < n) :
    ∃ g c, w.cell? ⟨M, k, none⟩ = some (.slice (some ⟨g, 0, none⟩) n c) ∧ OwnsN w 0 9 1 (.slice (some ⟨g, 0, none⟩) n c) n (strCells (ms.getD k [])) ∧ g ≠ M ∧ M < w.heap.size ∧ w.frozen? ⟨M, k, none⟩ = false ∧
      ∀ w' v q, Keep (fun b => b = g) w w' → OwnsN w' 0 9 1 v (n + 1) (strCells (ms.getD k []) ++ [.string q]) → (v.ownBlock = some g ∨ ∀ b, v.ownBlock = some b → w.heap.size ≤ b) → Su w0 (w'.setCell ⟨M, k, none⟩ v) D S M sure wait (ms.set k (ms.getD k [] ++ [q])) := by
  subst hn
  obtain ⟨wv, vs, h⟩ := h
  obtain ⟨h1, h2⟩ := h.may.cell k hk
  have own := h.may.row k hk
  obtain ⟨g, c, hv, _, _⟩ := own.some h0
  have hgM := h.may.notM k g hk (by rw [hv]; rfl)
  have hlt := lt_of_heap h.may.head
  refine ⟨g, c, by rw [h1, hv], by rw [← hv]; exact own, hgM, hlt, h2, fun w' v q K own' hvb => ?_⟩
  refine ⟨wv, _, h.upd k hk v (ms.getD k [] ++ [q]) (K.mono (fun b _ hb => by rw [hv, show b = g from hb]; rfl)) ?_ ?_⟩
  · rw [List.length_append, strCells_append]; exact own'
  · rw [hv]; exact hvb
theorem set_len1 (ms : List (List ByteArray)) (k : Nat) (x : List ByteArray) (c : Nat) (h : ∀ t, (ms.getD t []).length ≤ c) (hx : x.length ≤ c) : ∀ t, ((ms.set k x).getD t []).length ≤ c := by
  intro t
  by_cases htk : t = k
  · subst htk
    by_cases hl : t < ms.length
    · rw [getD_set_eq _ _ _ _ hl]; exact hx
    · rw [List.set_eq_of_length_le (by omega)]; exact h t
  · rw [getD_set_no _ _ _ _ _ htk]; exact h t
theorem padNil : padB ⟨#[]⟩ = zeroB := by decide +kernel
set_option maxRecDepth 100000 in
set_option maxHeartbeats 8000000 in
theorem sure_yes (v0 v1 : Value) (p2 : Option Addr) (c2 : Nat) (v3 : Value) (l more : List ByteArray) (ats : List Int) (keeps : List Bool) (m : Nat) (hm : m = ats.length) (w : World) (T : Strs w v0 l) (M1 : Strs w v1 more) (N : Nums w (.slice p2 m c2) ats) (B : Bools w v3 keeps)
    (hg : ErrVar w) (h0 : fewB l = true) (h1 : fewB more = true) (ha0 : 0 < m) (ha1 : m ≤ 20) (hk : keeps.length ≤ 30) :
    Calls Tryd.prog 7 #[v0, v1, .slice p2 m c2, v3] w fun e w' => e = .returned (.bool true) ∧ Keep NoB w w' := by
  obtain ⟨l1, l2⟩ := fewB_yes h0
  obtain ⟨m1, m2⟩ := fewB_yes h1
  have hf0 := few_any v0 l w T (by unfold maxLen; omega)
  have hf1 := few_any v1 more w M1 (by unfold maxLen; omega)
  rw [h0] at hf0
  rw [h1] at hf1
  obtain ⟨q0, c0, rfl⟩ := T.len
  obtain ⟨q1, c1, rfl⟩ := M1.len
  obtain ⟨q3, c3, rfl⟩ := B.len
  obtain ⟨n, hn⟩ : ∃ n, n = l.length := ⟨_, rfl⟩
  obtain ⟨n1, hn1⟩ : ∃ n, n = more.length := ⟨_, rfl⟩
  obtain ⟨n3, hn3⟩ : ∃ n, n = keeps.length := ⟨_, rfl⟩
  rw [← hn] at T hf0 l1
  rw [← hn1] at M1 hf1 m1
  rw [← hn3] at B hk
  rw [← hn, ← hn1, ← hn3]
  obtain ⟨Ba, oa, rfl, -, hBa, hca⟩ := N.at (by omega)
  have d0 : ((m : Int) == 0) = false := by simp; omega
  have d1 : decide ((20 : Int) < m) = false := by simp; omega
  have d2 : decide ((30 : Int) < n3) = false := by simp; omega
  have Hca := Lib.hid hca
  clear hca
  have Hn := Lib.hid hn
  have Hn1 := Lib.hid hn1
  have Hn3 := Lib.hid hn3
  have Hm := Lib.hid hm
  have L2 := Lib.hid l2
  have M2 := Lib.hid m2
  clear hn hn1 hn3 hm l2 m2 h0 h1
  obtain ⟨i0, hi0, hz0, hz1, hz2⟩ := info_parts info_texts
  go_enter Tryd.func7, Tryd.ntmps7
  go_wp2_with fail
  refine hf0.mono ?_
  rintro e w' ⟨rfl, hw⟩
  subst w'
  go_wp2_with fail
  refine hf1.mono ?_
  rintro e w' ⟨rfl, hw⟩
  subst w'
  go_wp2_with fail
  refine (lost_any _ hg).mono ?_
  rintro e w2 ⟨rfl, K2⟩
  clear hf0 hf1 d0 d1 d2
  go_wp2_with fail
  refine (new_N _).mono ?_
  rintro e w3 ⟨D, S, rfl, h3⟩
  have H3 := Lib.hid h3
  clear h3
  go_wp2_with (refine wpList_make_full _ rfl _ _ 66 rfl w3.heap.size 22 i0 (.slice none 0 0) 1 Tryd.underlying66 hi0 hz0 hz1 .i64 .i64 _ _ 66 rfl rfl rfl rfl (by rw [hz2]; omega) (by unfold maxLen; omega) (Nat.le_refl _) ?_; intro w4 own4 hgrow4)
  have hsu := su_start H3.out rfl own4 hgrow4
  obtain ⟨M, hM⟩ : ∃ M, M = w3.heap.size := ⟨_, rfl⟩
  rw [← hM] at hsu ⊢
  clear own4 hgrow4 hM H3
  go_loopw [12, 13] (fun i _ wr => ∃ (k : Nat) (wait : List (Nat × ByteArray)) (ms : List (List ByteArray)), k ≤ n ∧ i = .int .i64 k ∧ wait.length = k ∧ Hid (∀ t, (ms.getD t []).length ≤ 1) ∧ Ahead sure0 wait ms ∧ Su w2 wr D S M sure0 wait ms) (fun i _ _ => n - (intOf i).toNat)
  case atStart =>
    refine ⟨0, [], _, by omega, rfl, rfl, Lib.hid (fun t => ?_), fun k hk => .inl ⟨?_, ?_⟩, hsu⟩
    · rw [List.getD_eq_getElem?_getD, List.getElem?_replicate]; split <;> exact Nat.zero_le _
    · rw [List.getD_eq_getElem?_getD, List.getElem?_replicate]; split <;> rfl
    · show sure0.getD k ⟨#[]⟩ = zeroB
      rw [sure0, List.getD_eq_getElem?_getD, List.getElem?_replicate, if_pos hk]; rfl
  case round =>
    clear hsu
    obtain ⟨k, wait, ms, hk1, rfl, hwl, hml, hah, hsu⟩ := hrel
    have hK : Keep NoB w wr := K2.thenN hsu.kept
    by_cases hlt : k < n
    · have j1 : (k : Int) < n := by omega
      obtain ⟨B0, o0, rfl, -, hB0, hc0⟩ := T.at (by have := Hn.out; omega)
      have hc0k := hc0 k (by have := Hn.out; omega)
      obtain ⟨q, hq⟩ : ∃ q, q = l.getD k ⟨#[]⟩ := ⟨_, rfl⟩
      rw [← hq] at hc0k
      have hqs : q.size ≤ 256 := by
        apply L2.out
        rw [hq, List.getD_eq_getElem?_getD, List.getElem?_eq_getElem (by have := Hn.out; omega)]
        exact List.getElem_mem _
      have hck := (hK.cell (p := ⟨B0, o0 + k, none⟩) hB0 (fun x => x)).trans hc0k
      obtain ⟨r, hr⟩ : ∃ r, r = k % m := ⟨_, rfl⟩
      have hrm : r < m := by rw [hr]; exact Nat.mod_lt _ ha0
      have hri2 : (k : Int).tmod (m : Int) = (r : Int) := by rw [Int.tmod_eq_emod_of_nonneg (by omega), hr]; omega
      have hca1 := (hK.cell (p := ⟨Ba, oa + r, none⟩) hBa (fun x => x)).trans (Hca.out r (by have := Hm.out; omega))
      obtain ⟨y, hy⟩ : ∃ y, y = ats.getD r 0 := ⟨_, rfl⟩
      rw [← hy] at hca1
      obtain ⟨pk, hpk0⟩ : ∃ x, x = pickN (wrap64 (y + (k : Int))) 66 := ⟨_, rfl⟩
      have hpk66 : pk < 66 := by rw [hpk0]; exact pickN_lt _ _ (by omega)
      have hpk := pick_any (wrap64 (y + (k : Int))) 66 66 rfl (by omega) (by omega)
      rw [← hpk0] at hpk
      have hri0 : (0 : Int) ≤ r := by omega
      have hrm0 : (r : Int) < m := by omega
      have hm0 : ¬ (m = 0) := by omega
      have Hpk := Lib.hid hpk
      have Hsu := Lib.hid hsu
      have Hah := Lib.hid hah
      have Hc0k := Lib.hid hc0k
      clear hr hy hq hpk0 hc0 hpk hsu hah hc0k
      go_wp2_with (go_at_call 37; refine (Hpk.out _).mono ?_; rintro e wx ⟨rfl, hwx⟩; subst wx)
      refine (write_Su Hsu.out pk q hpk66 hqs (by omega)).mono ?_
      rintro e w5 ⟨rfl, h5⟩
      have hK5 : Keep NoB w w5 := K2.thenN h5.kept
      have hc5 := (hK5.cell (p := ⟨B0, o0 + k, none⟩) hB0 (fun x => x)).trans Hc0k.out
      have H5 := Lib.hid h5
      have hpi : (pk : Int) < 66 := by omega
      clear h5
      go_wp2_with fail
      refine (full_any q hqs _).mono ?_
      rintro e w6 ⟨rfl, K6⟩
      have h6 := H5.out.keepN K6
      obtain ⟨f7, p7, c7, cell7, -⟩ := (h6.keepN ((Keep.refl NoB w6).alloc (.cells #[.string (padB q)] 9))).cell pk hpk66
      have H8 := Lib.hid (h6.put pk hpk66 (padB q))
      have hah2 := Hah.out.step h6.lens.1 h6.lens.2 pk hpk66 (padB q)
      have Hah2 := Lib.hid hah2
      clear h6 H5 Hsu Hah hah2
      go_wp2_with fail
      exact ⟨⟨k + 1, _, _, by omega, by go_num, by rw [List.length_append, hwl]; rfl, Lib.hid (set_len1 _ _ _ _ hml.out (Nat.le_refl _)), Hah2.out, H8.out⟩, by simp [intOf]; omega⟩
    · obtain rfl : k = n := by omega
      have Hsu := Lib.hid hsu
      have hbe := hah.sync
      have Hbe := Lib.hid hbe
      clear hsu hah hbe
      go_wp2_with fail
      refine (sync_Su Hsu.out).mono ?_
      rintro e w5 ⟨rfl, h5⟩
      obtain ⟨sx, hsx⟩ : ∃ x, x = applyW sure0 wait := ⟨_, rfl⟩
      rw [← hsx] at h5
      have Hbe2 : Hid (Behind sx [] ms) := Lib.hid (by rw [hsx]; exact Hbe.out)
      have H5 := Lib.hid h5
      clear h5 hsx Hbe Hsu hwl hK
      go_wp2_with fail
      go_loopw [14, 15] (fun i _ wr => ∃ (j : Nat) (wait : List (Nat × ByteArray)) (ms : List (List ByteArray)), j ≤ n1 ∧ i = .int .i64 j ∧ wait.length = j ∧ Hid (∀ t, (ms.getD t []).length ≤ 2 + j) ∧ Hid (Behind sx wait ms) ∧ Hid (Su w2 wr D S M sx wait ms)) (fun i _ _ => n1 - (intOf i).toNat)
      case atStart => exact ⟨0, [], ms, by omega, rfl, rfl, Lib.hid (fun t => Nat.le_succ_of_le (hml.out t)), Hbe2, H5⟩
      case round =>
        clear H5 Hbe2 hml
        obtain ⟨j, wait, ms, hj1, rfl, hwl, hml, hbe, hsu⟩ := hrel
        have hK : Keep NoB w wr := K2.thenN hsu.out.kept
        by_cases hlt : j < n1
        · have j1 : (j : Int) < n1 := by omega
          obtain ⟨B1, o1, rfl, -, hB1, hc1⟩ := M1.at (by have := Hn1.out; omega)
          have hc1k := hc1 j (by have := Hn1.out; omega)
          obtain ⟨q, hq⟩ : ∃ q, q = more.getD j ⟨#[]⟩ := ⟨_, rfl⟩
          rw [← hq] at hc1k
          have hqs : q.size ≤ 256 := by
            apply M2.out
            rw [hq, List.getD_eq_getElem?_getD, List.getElem?_eq_getElem (by have := Hn1.out; omega)]
            exact List.getElem_mem _
          have hck := (hK.cell (p := ⟨B1, o1 + j, none⟩) hB1 (fun x => x)).trans hc1k
          obtain ⟨r, hr⟩ : ∃ r, r = j % m := ⟨_, rfl⟩
          have hrm : r < m := by rw [hr]; exact Nat.mod_lt _ ha0
          have hri2 : (j : Int).tmod (m : Int) = (r : Int) := by rw [Int.tmod_eq_emod_of_nonneg (by omega), hr]; omega
          have hca1 := (hK.cell (p := ⟨Ba, oa + r, none⟩) hBa (fun x => x)).trans (Hca.out r (by have := Hm.out; omega))
          obtain ⟨y, hy⟩ : ∃ y, y = ats.getD r 0 := ⟨_, rfl⟩
          rw [← hy] at hca1
          obtain ⟨pk, hpk0⟩ : ∃ x, x = pickN (wrap64 (y + 2 * (j : Int))) 66 := ⟨_, rfl⟩
          have hpk66 : pk < 66 := by rw [hpk0]; exact pickN_lt _ _ (by omega)
          have hpk := pick_any (wrap64 (y + 2 * (j : Int))) 66 66 rfl (by omega) (by omega)
          rw [← hpk0] at hpk
          have hri0 : (0 : Int) ≤ r := by omega
          have hrm0 : (r : Int) < m := by omega
          have hm0 : ¬ (m = 0) := by omega
          have Hpk := Lib.hid hpk
          have Hc1k := Lib.hid hc1k
          clear hr hy hq hpk0 hc1 hpk hc1k
          go_wp2_with (go_at_call 37; refine (Hpk.out _).mono ?_; rintro e wx ⟨rfl, hwx⟩; subst wx)
          refine (write_Su hsu.out pk q hpk66 hqs (by omega)).mono ?_
          rintro e w6 ⟨rfl, h6⟩
          have hK6 : Keep NoB w w6 := K2.thenN h6.kept
          have hpi : (pk : Int) < 66 := by omega
          obtain ⟨f6, p6, c6, cell6, -⟩ := h6.cell pk hpk66
          obtain ⟨L, hL⟩ : ∃ L, L = (ms.getD pk []).length := ⟨_, rfl⟩
          rw [← hL] at cell6
          have H6 := Lib.hid h6
          have HL := Lib.hid hL
          clear h6 hL hK hck hca1
          obtain ⟨R, hR⟩ : ∃ R, R = (if ms.getD pk [] = [] then [zeroB] else ms.getD pk []) := ⟨_, rfl⟩
          have HR := Lib.hid hR
          clear hR
          go_upto_if 113 with fail
          go_cut [] (fun wx => Hid (Su w2 wx D S M sx (wait ++ [(pk, padB q)]) (ms.set pk R)))
          case first =>
            by_cases hL0 : L = 0
            · subst hL0
              have hRz : R = [zeroB] := by rw [HR.out, if_pos (List.eq_nil_of_length_eq_zero HL.out.symm)]
              go_wp2_with fail
              refine (full_any ⟨#[]⟩ (by decide) _).mono ?_
              rw [padNil]
              rintro e w7 ⟨rfl, K7⟩
              have h7 := H6.out.keepN K7
              obtain ⟨f8, p8, c8, cell8, -⟩ := (h7.keepN ((Keep.refl NoB w7).alloc (.cells #[.string zeroB] 9))).cell pk hpk66
              have h8 := h7.put pk hpk66 zeroB
              rw [← hRz] at h8
              have H8 := Lib.hid h8
              clear h7 h8 H6
              go_wp2_with fail
              go_meet
              case rel => exact H8
            · have hL1 : ¬ ((L : Int) = 0) := by omega
              have hRz : R = ms.getD pk [] := by
                rw [HR.out, if_neg]
                intro e
                apply hL0
                rw [HL.out, e]; rfl
              have hself : ms.set pk R = ms := by
                rw [hRz, List.getD_eq_getElem?_getD, List.getElem?_eq_getElem (by have := H6.out.lens.2; omega)]
                exact List.set_getElem_self _
              have H8 : Hid (Su w2 w6 D S M sx (wait ++ [(pk, padB q)]) (ms.set pk R)) := Lib.hid (by rw [hself]; exact H6.out)
              clear hself hRz H6
              go_wp2_with fail
              go_meet
              case rel => exact H8
          case rest =>
            have h7 := hcut.out
            clear hcut H6
            have hms : ms.length = 66 := by have := h7.lens.2; rwa [List.length_set] at this
            obtain ⟨nR, hnR⟩ : ∃ x, x = R.length := ⟨_, rfl⟩
            have hgR : (ms.set pk R).getD pk [] = R := getD_set_eq _ _ _ _ (by omega)
            have hR0 : 0 < R.length := by
              rw [HR.out]
              split
              · exact Nat.succ_pos _
              · rename_i h; exact List.length_pos_iff.2 h
            have hR30 : R.length ≤ 2 + j := by
              rw [HR.out]
              split
              · show 1 ≤ 2 + j; omega
              · exact hml.out pk
            have hmm : R ++ [padB q] = mayMore (ms.getD pk []) (padB q) := by rw [mayMore, HR.out]
            obtain ⟨gR, cR, cM, ownR, hgM, hMl, fM, fin8⟩ := h7.more pk hpk66 nR (by rw [hgR, hnR]) (by omega)
            rw [hgR] at ownR fin8
            have hset : (ms.set pk R).set pk (R ++ [padB q]) = ms.set pk (mayMore (ms.getD pk []) (padB q)) := by rw [List.set_set, hmm]
            replace fin8 := fun w' v => fin8 w' v (padB q)
            rw [hset] at fin8
            have HBE : Hid (Behind sx (wait ++ [(pk, padB q)]) (ms.set pk (mayMore (ms.getD pk []) (padB q)))) := Lib.hid (hbe.out.step hms pk hpk66 (padB q))
            have HML : Hid (∀ t, ((ms.set pk (mayMore (ms.getD pk []) (padB q))).getD t []).length ≤ 2 + (j + 1)) := Lib.hid (set_len1 _ _ _ _ (fun t => Nat.le_succ_of_le (hml.out t)) (by rw [← hmm, List.length_append]; show R.length + 1 ≤ _; omega))
            have HF : Hid (∀ w', Su w2 w' D S M sx (wait ++ [(pk, padB q)]) (ms.set pk (mayMore (ms.getD pk []) (padB q))) → Hid (Su w2 w' D S M sx (wait ++ [(pk, padB q)]) (ms.set pk (mayMore (ms.getD pk []) (padB q))))) := Lib.hid (fun w' h => Lib.hid h)
            have hKc : Keep NoB w wc := K2.thenN h7.kept
            have hcq := (hKc.cell (p := ⟨B1, o1 + j, none⟩) hB1 (fun x => x)).trans Hc1k.out
            have hfull := fun w => full_any q hqs w
            obtain ⟨i1, hi1, hz3, hz4, hz5⟩ := info_parts info_string
            have hnR30 : nR ≤ 2 + j := by omega
            clear h7 hgR hmm hset hbe hml hsu hms hR0 hnR hKc
            go_wp2_with fail
            refine wp_region_plan [0, 1, 2, 3, 4, 6, 7, 8, 9] (.fork 5 (.row [10, 11, 12, 13, 14, 15]) 10 (.fork 5 (.row [11, 12, 13, 14, 15]) 11 (.fork 5 (.row [12, 13, 14, 15]) 12 (.row [5, 13, 14, 15])))) (by kernel_rfl) (by kernel_rfl) (fun c a d v w h => by cases d <;> exact h) ?_
            simp only [pickL, List.getElem?_toArray, List.getElem?_cons_succ, List.getElem?_cons_zero]
            repeat (refine wpEarly_step (fun K hK => ?_); go_simp; refine hK _ ?_; clear hK K)
            refine wpEarly_nil ?_
            refine ⟨?_, ?_⟩
            · simp only [pickL, List.getElem?_toArray, List.getElem?_cons_succ, List.getElem?_cons_zero]
              go_wp2_with fail
              simp only [wpPlan, pickL, List.getElem?_toArray, List.getElem?_cons_succ, List.getElem?_cons_zero]
              go_wp2_with fail
              refine (hfull _).mono ?_; rintro e w7 ⟨rfl, K7'⟩; have K7 : Keep NoB wc w7 := ((Keep.refl NoB wc).drew).thenN K7'; have cM7 := (K7.cell (p := ⟨M, pk, none⟩) hMl (fun x => x)).trans cM; have cM7b := (((Keep.refl NoB w7).alloc (.cells #[.string (padB q)] 9)).cell (p := ⟨M, pk, none⟩) (Nat.lt_of_lt_of_le hMl K7.size) (fun x => x)).trans cM7
              go_wp2_with (refine wpList_append_s _ rfl (.tmp 125) (.tmp 132) 22 rfl 0 9 i1 (.string ⟨#[]⟩) 1 16 Tryd.underlying22 hi1 hz3 hz4 hz5 rfl (by decide) _ nR (strCells R) rfl ((ownR.keep K7 (fun _ _ x => x)).alloc _) ⟨w7.heap.size, 0, none⟩ 1 1 [.string (padB q)] rfl rfl (cells_new _ _ _) (by intro u hu; obtain rfl := List.mem_singleton.1 hu; rfl) (by unfold maxLen; omega) (by omega) (Nat.zero_le _) ?_; intro v8 w8 own8 hgrow8 where8; have K8 : Keep (fun b => b = gR) wc w8 := ((K7.mono (S' := fun b => b = gR) (fun _ _ x => x.elim)).alloc _).grown hgrow8 (fun k hk => .inl (by obtain rfl : gR = k := Option.some.inj hk; rfl)); have wh8 : v8.ownBlock = some gR ∨ ∀ b, v8.ownBlock = some b → wc.heap.size ≤ b := where8.imp (fun e => e) (fun h b hb => Nat.le_trans K7.size (Nat.le_trans (by simp) (h b hb))); obtain ⟨g8, cap8, rfl, -, -⟩ := own8.some (Nat.succ_pos _); have H9 := Lib.hid (fin8 w8 _ K8 own8 wh8); have c8 := (K8.cell (p := ⟨M, pk, none⟩) hMl (fun e => hgM e.symm)).trans cM; have f8 := (K8.frozen (p := ⟨M, pk, none⟩) hMl (fun e => hgM e.symm)).trans fM)
              exact ⟨⟨j + 1, _, _, by omega, by go_num, by rw [List.length_append, hwl]; rfl, HML, HBE, HF.out _ H9.out⟩, by simp [intOf]; omega⟩
            · simp only [pickL, List.getElem?_toArray, List.getElem?_cons_succ, List.getElem?_cons_zero]
              go_wp2_with fail
              refine ⟨?_, ?_⟩
              · simp only [pickL, List.getElem?_toArray, List.getElem?_cons_succ, List.getElem?_cons_zero]
                go_wp2_with fail
                simp only [wpPlan, pickL, List.getElem?_toArray, List.getElem?_cons_succ, List.getElem?_cons_zero]
                go_wp2_with fail
                refine (hfull _).mono ?_; rintro e w7 ⟨rfl, K7'⟩; have K7 : Keep NoB wc w7 := ((Keep.refl NoB wc).drew).thenN K7'; have cM7 := (K7.cell (p := ⟨M, pk, none⟩) hMl (fun x => x)).trans cM; have cM7b := (((Keep.refl NoB w7).alloc (.cells #[.string (padB q)] 9)).cell (p := ⟨M, pk, none⟩) (Nat.lt_of_lt_of_le hMl K7.size) (fun x => x)).trans cM7
                go_wp2_with (refine wpList_append_s _ rfl (.tmp 125) (.tmp 132) 22 rfl 0 9 i1 (.string ⟨#[]⟩) 1 16 Tryd.underlying22 hi1 hz3 hz4 hz5 rfl (by decide) _ nR (strCells R) rfl ((ownR.keep K7 (fun _ _ x => x)).alloc _) ⟨w7.heap.size, 0, none⟩ 1 1 [.string (padB q)] rfl rfl (cells_new _ _ _) (by intro u hu; obtain rfl := List.mem_singleton.1 hu; rfl) (by unfold maxLen; omega) (by omega) (Nat.zero_le _) ?_; intro v8 w8 own8 hgrow8 where8; have K8 : Keep (fun b => b = gR) wc w8 := ((K7.mono (S' := fun b => b = gR) (fun _ _ x => x.elim)).alloc _).grown hgrow8 (fun k hk => .inl (by obtain rfl : gR = k := Option.some.inj hk; rfl)); have wh8 : v8.ownBlock = some gR ∨ ∀ b, v8.ownBlock = some b → wc.heap.size ≤ b := where8.imp (fun e => e) (fun h b hb => Nat.le_trans K7.size (Nat.le_trans (by simp) (h b hb))); obtain ⟨g8, cap8, rfl, -, -⟩ := own8.some (Nat.succ_pos _); have H9 := Lib.hid (fin8 w8 _ K8 own8 wh8); have c8 := (K8.cell (p := ⟨M, pk, none⟩) hMl (fun e => hgM e.symm)).trans cM; have f8 := (K8.frozen (p := ⟨M, pk, none⟩) hMl (fun e => hgM e.symm)).trans fM)
                exact ⟨⟨j + 1, _, _, by omega, by go_num, by rw [List.length_append, hwl]; rfl, HML, HBE, HF.out _ H9.out⟩, by simp [intOf]; omega⟩
              · simp only [pickL, List.getElem?_toArray, List.getElem?_cons_succ, List.getElem?_cons_zero]
                go_wp2_with fail
                refine (hfull _).mono ?_; rintro e w7 ⟨rfl, K7'⟩; have K7 : Keep NoB wc w7 := ((Keep.refl NoB wc).drew).thenN K7'; have cM7 := (K7.cell (p := ⟨M, pk, none⟩) hMl (fun x => x)).trans cM; have cM7b := (((Keep.refl NoB w7).alloc (.cells #[.string (padB q)] 9)).cell (p := ⟨M, pk, none⟩) (Nat.lt_of_lt_of_le hMl K7.size) (fun x => x)).trans cM7
                go_wp2_with fail
                refine ⟨?_, ?_⟩
                · simp only [pickL, List.getElem?_toArray, List.getElem?_cons_succ, List.getElem?_cons_zero]
                  go_wp2_with fail
                  simp only [wpPlan, pickL, List.getElem?_toArray, List.getElem?_cons_succ, List.getElem?_cons_zero]
                  go_wp2_with (refine wpList_append_s _ rfl (.tmp 125) (.tmp 132) 22 rfl 0 9 i1 (.string ⟨#[]⟩) 1 16 Tryd.underlying22 hi1 hz3 hz4 hz5 rfl (by decide) _ nR (strCells R) rfl ((ownR.keep K7 (fun _ _ x => x)).alloc _) ⟨w7.heap.size, 0, none⟩ 1 1 [.string (padB q)] rfl rfl (cells_new _ _ _) (by intro u hu; obtain rfl := List.mem_singleton.1 hu; rfl) (by unfold maxLen; omega) (by omega) (Nat.zero_le _) ?_; intro v8 w8 own8 hgrow8 where8; have K8 : Keep (fun b => b = gR) wc w8 := ((K7.mono (S' := fun b => b = gR) (fun _ _ x => x.elim)).alloc _).grown hgrow8 (fun k hk => .inl (by obtain rfl : gR = k := Option.some.inj hk; rfl)); have wh8 : v8.ownBlock = some gR ∨ ∀ b, v8.ownBlock = some b → wc.heap.size ≤ b := where8.imp (fun e => e) (fun h b hb => Nat.le_trans K7.size (Nat.le_trans (by simp) (h b hb))); obtain ⟨g8, cap8, rfl, -, -⟩ := own8.some (Nat.succ_pos _); have H9 := Lib.hid (fin8 w8 _ K8 own8 wh8); have c8 := (K8.cell (p := ⟨M, pk, none⟩) hMl (fun e => hgM e.symm)).trans cM; have f8 := (K8.frozen (p := ⟨M, pk, none⟩) hMl (fun e => hgM e.symm)).trans fM)
                  exact ⟨⟨j + 1, _, _, by omega, by go_num, by rw [List.length_append, hwl]; rfl, HML, HBE, HF.out _ H9.out⟩, by simp [intOf]; omega⟩
                · simp only [pickL, List.getElem?_toArray, List.getElem?_cons_succ, List.getElem?_cons_zero]
                  go_wp2_with fail
                  simp only [wpPlan, pickL, List.getElem?_toArray, List.getElem?_cons_succ, List.getElem?_cons_zero]
                  go_wp2_with (refine wpList_append_s _ rfl (.tmp 125) (.tmp 132) 22 rfl 0 9 i1 (.string ⟨#[]⟩) 1 16 Tryd.underlying22 hi1 hz3 hz4 hz5 rfl (by decide) _ nR (strCells R) rfl ((ownR.keep K7 (fun _ _ x => x)).alloc _) ⟨w7.heap.size, 0, none⟩ 1 1 [.string (padB q)] rfl rfl (cells_new _ _ _) (by intro u hu; obtain rfl := List.mem_singleton.1 hu; rfl) (by unfold maxLen; omega) (by omega) (Nat.zero_le _) ?_; intro v8 w8 own8 hgrow8 where8; have K8 : Keep (fun b => b = gR) wc w8 := ((K7.mono (S' := fun b => b = gR) (fun _ _ x => x.elim)).alloc _).grown hgrow8 (fun k hk => .inl (by obtain rfl : gR = k := Option.some.inj hk; rfl)); have wh8 : v8.ownBlock = some gR ∨ ∀ b, v8.ownBlock = some b → wc.heap.size ≤ b := where8.imp (fun e => e) (fun h b hb => Nat.le_trans K7.size (Nat.le_trans (by simp) (h b hb))); obtain ⟨g8, cap8, rfl, -, -⟩ := own8.some (Nat.succ_pos _); have H9 := Lib.hid (fin8 w8 _ K8 own8 wh8); have c8 := (K8.cell (p := ⟨M, pk, none⟩) hMl (fun e => hgM e.symm)).trans cM; have f8 := (K8.frozen (p := ⟨M, pk, none⟩) hMl (fun e => hgM e.symm)).trans fM)
                  exact ⟨⟨j + 1, _, _, by omega, by go_num, by rw [List.length_append, hwl]; rfl, HML, HBE, HF.out _ H9.out⟩, by simp [intOf]; omega⟩
        · obtain rfl : j = n1 := by omega
          have hB2 := B.keep K2 (fun _ _ x => x)
          have hk30 : keeps.length ≤ 1000000 := by have := Hn3.out; omega
          have hcr := hbe.out.crash keeps
          have Hcr := Lib.hid hcr
          have hml9 := hml
          clear hcr hbe hml hK hwl
          go_wp2_with fail
          refine (crash_Su hsu.out _ keeps hB2 hk30).mono ?_
          rintro e w6 ⟨rfl, h6⟩
          obtain ⟨sc, hsc⟩ : ∃ x, x = crashTo sx wait keeps wait.length := ⟨_, rfl⟩
          rw [← hsc] at h6
          have HC : Hid (∀ t, t < 66 → mayB (ms.getD t []) (sc.getD t ⟨#[]⟩)) := Lib.hid (by rw [hsc]; exact Hcr.out)
          have H6 := Lib.hid h6
          clear h6 hsc Hcr hsu hB2
          go_wp2_with fail
          go_loopw [16] (fun i wr => ∃ t : Nat, t ≤ 66 ∧ i = .int .i64 t ∧ Hid (Su w2 wr D S M sc [] ms)) (fun i _ => 66 - (intOf i).toNat)
          case atStart => exact ⟨0, by omega, rfl, H6⟩
          case round =>
            clear H6
            obtain ⟨t, ht, rfl, hsu⟩ := hrel
            by_cases hlt : t < 66
            · have j1 : (t : Int) < 66 := by omega
              obtain ⟨x, hx⟩ : ∃ x, x = sc.getD t ⟨#[]⟩ := ⟨_, rfl⟩
              obtain ⟨L, hL⟩ : ∃ L, L = (ms.getD t []).length := ⟨_, rfl⟩
              have hmay := HC.out t hlt
              rw [← hx] at hmay
              have hrd := read_Su hsu.out t hlt
              rw [show (applyW sc []).getD t ⟨#[]⟩ = x from hx.symm] at hrd
              have HL := Lib.hid hL
              have Hmay := Lib.hid hmay
              clear hx hL hmay
              go_wp2_with fail
              refine hrd.mono ?_
              rintro e w7 ⟨rfl, h7⟩
              obtain ⟨-, p7, c7, cell7, T7⟩ := h7.cell t hlt
              rw [← HL.out] at cell7 T7
              by_cases hL0 : L = 0
              · subst hL0
                have hxz : x = zeroB := by
                  rcases Hmay.out with ⟨_, h⟩ | h
                  · exact h
                  · rw [List.eq_nil_of_length_eq_zero HL.out.symm] at h; cases h
                subst hxz
                have hb : (zeroB.toList == zeroB.toList) = true := by simp
                have H7 := Lib.hid h7
                have hfu := fun w => full_any ⟨#[]⟩ (by decide) w
                rw [padNil] at hfu
                clear h7 hsu hrd T7
                have hMl : M < w7.heap.size := by
                  obtain ⟨_, _, hP⟩ := H7.out
                  exact lt_of_heap hP.may.head
                go_wp2_with (refine (hfu _).mono ?_; rintro e w8 ⟨rfl, K8⟩; have cell8 := (K8.cell (p := ⟨M, t, none⟩) hMl (fun x => x)).trans cell7; have H8 := Lib.hid (H7.out.keepN K8))
                exact ⟨⟨t + 1, by omega, by go_num, H8⟩, by simp [intOf]; omega⟩
              · have hxm : x ∈ ms.getD t [] := by
                  rcases Hmay.out with ⟨h, _⟩ | h
                  · exact absurd (by rw [HL.out, h]; rfl) hL0
                  · exact h
                have hL1 : ¬ ((L : Int) = 0) := by omega
                have hL2 : (0 : Int) < L := by omega
                have hct := contains_any _ (ms.getD t []) x w7 T7 (by have := hml9.out t; omega) hxm
                have H7 := Lib.hid h7
                clear h7 hsu hrd T7 hxm
                go_wp2_with (go_at_call 47; refine hct.mono ?_; rintro e w8 ⟨rfl, hw8⟩; subst w8)
                exact ⟨⟨t + 1, by omega, by go_num, H7⟩, by simp [intOf]; omega⟩
            · obtain rfl : t = 66 := by omega
              have hKf := K2.thenN hsu.out.kept
              go_wp2_with fail
              go_ret
              exact ⟨rfl, hKf⟩
end Go.Proofs.YtndcaaikjcicgaaDoor
