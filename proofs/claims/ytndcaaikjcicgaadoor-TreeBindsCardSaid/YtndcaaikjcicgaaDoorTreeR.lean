/-
  DERIVED. The reference's tree: mark, marks, rows, Root, Path, Verify.
-/
import Derived.Test.YtndcaaikjcicgaaDoorRefMark
import Derived.Test.YtndcaaikjcicgaaDoorTree
import Derived.Test.YtndcaaikjcicgaaDoorApp
import Derived.IntWalk
import Derived.Deep.CutBlock
import Derived.Deep.DeepCutAuto
import Derived.Deep.RegionHeld3
set_option linter.unusedVariables false
set_option linter.unusedSimpArgs false
namespace Go.Proofs.YtndcaaikjcicgaaDoor
open Go.RowKit Go.Cof
theorem markIs_any (s : ByteArray) (w : World) : Calls Tryd.prog 78 #[.string s] w fun e w' => e = .returned (.bool (decide (s.size = 16))) ∧ w' = w := by
  go_enter Tryd.func78, Tryd.ntmps78
  go_wp2
  go_ret
  refine ⟨congrArg (fun b => Ending.returned (.bool b)) ?_, rfl⟩
  rw [Bool.eq_iff_iff]
  simp
  omega
theorem refIn_any (n : Int) (w : World) : Calls Tryd.prog 77 #[.int .i64 n, .int .i64 0, .int .i64 31] w fun e w' => e = .returned (.bool (decide (0 ≤ n ∧ n ≤ 31))) ∧ w' = w := by
  by_cases h : 0 ≤ n ∧ n ≤ 31
  · rw [decide_eq_true h]; exact in_yes n 0 31 h.1 h.2 w
  · rw [decide_eq_false h]; exact in_no n 0 31 h w
set_option maxRecDepth 100000 in
set_option maxHeartbeats 4000000 in
theorem marks_any (v : Value) (l : List ByteArray) (w : World) (T : Strs w v l) (hl : l.length ≤ 1000000) (m : Nat) (hm : m ≤ 1000) :
    Calls Tryd.prog 72 #[v, .int .i64 m] w fun e w' => e = .returned (.bool (rightB l m)) ∧ w' = w := by
  obtain ⟨a, c, rfl⟩ := T.len
  obtain ⟨n, hn⟩ : ∃ n, n = l.length := ⟨_, rfl⟩
  rw [← hn] at T hl ⊢
  have Hn := Lib.hid hn
  clear hn
  go_enter Tryd.func72, Tryd.ntmps72
  go_wp2_with fail
  go_loopw [9] (fun i wr => ∃ k : Nat, k ≤ n ∧ i = .int .i64 k ∧ (∀ j, j < k → (l.getD j ⟨#[]⟩).size = 16) ∧ wr = w) (fun i _ => n - (intOf i).toNat)
  case atStart => exact ⟨0, by omega, rfl, fun j hj => by omega, rfl⟩
  case round =>
    obtain ⟨k, hk, rfl, hrun, rfl⟩ := hrel
    by_cases hlt : k < n
    · have j1 : (k : Int) < n := by omega
      obtain ⟨b, o, rfl, -, _, hc⟩ := T.at (by have := Hn.out; omega)
      have hx := hc k (by have := Hn.out; omega)
      clear hc
      obtain ⟨s, hs⟩ : ∃ s, s = l.getD k ⟨#[]⟩ := ⟨_, rfl⟩
      rw [← hs] at hx
      have Hs := Lib.hid hs
      clear hs
      by_cases hsz : s.size = 16
      · have hnext : ∀ j, j < k + 1 → (l.getD j ⟨#[]⟩).size = 16 := by
          intro j hj
          rcases Nat.lt_succ_iff_lt_or_eq.1 hj with h | rfl
          · exact hrun j h
          · rw [← Hs.out]; exact hsz
        go_wp2_with (go_at_call 78; refine (markIs_any s _).mono ?_; rw [decide_eq_true hsz]; rintro e w2 ⟨rfl, rfl⟩)
        exact ⟨⟨k + 1, by omega, by go_num, hnext, trivial⟩, by simp [intOf]; omega⟩
      · go_wp2_with (go_at_call 78; refine (markIs_any s _).mono ?_; rw [decide_eq_false hsz]; rintro e w2 ⟨rfl, rfl⟩)
        go_ret
        refine ⟨congrArg (fun b => Ending.returned (.bool b)) ?_, rfl⟩
        symm
        rw [Bool.eq_false_iff]
        intro h
        apply hsz
        rw [Hs.out, List.getD_eq_getElem?_getD, List.getElem?_eq_getElem (by have := Hn.out; omega)]
        exact (rightB_true.1 h).2 _ (List.getElem_mem _)
    · obtain rfl : k = n := by omega
      have hall : ∀ s ∈ l, s.size = 16 := by
        intro s hs
        obtain ⟨j, hj, rfl⟩ := List.getElem_of_mem hs
        have := hrun j (by have := Hn.out; omega)
        rwa [List.getD_eq_getElem?_getD, List.getElem?_eq_getElem hj] at this
      have hb : rightB l m = decide ((k : Int) = m) := by
        rw [Bool.eq_iff_iff, rightB_true, ← Hn.out]
        simp only [decide_eq_true_eq]
        exact ⟨fun h => by omega, fun h => ⟨by omega, hall⟩⟩
      have Hb := Lib.hid hb
      clear hrun hall hb
      go_wp2_with fail
      go_ret
      refine ⟨congrArg (fun b => Ending.returned (.bool b)) ?_, rfl⟩
      rw [Hb.out, Bool.eq_iff_iff]
      simp
set_option maxRecDepth 100000 in
set_option maxHeartbeats 8000000 in
theorem rows_any (RB : Nat) (v : Value) (l : List ByteArray) (w : World) (RR : RefR w RB) (T : Strs w v l) (hl : l.length = 32) (hall : ∀ s ∈ l, s.size = 16) :
    Calls Tryd.prog 73 #[.pointer (some ⟨RB, 0, none⟩), v] w fun e w' => ∃ v', e = .returned v' ∧ Strs w' v' (rowsL l 31) ∧ Keep NoB w w' := by
  obtain ⟨a, c, rfl⟩ := T.len
  obtain ⟨i0, hi0, hz0, hz1, hz2⟩ := info_parts info_string
  have Hall := Lib.hid hall
  rw [hl] at T ⊢
  have Hl := Lib.hid hl
  have T0 := T.keep ((Keep.refl NoB w).alloc (.cells #[] 9)) (fun _ _ x => x)
  have H32 := Lib.hid (show 32 = 0 + l.length by rw [Hl.out])
  clear hl hall
  go_enter Tryd.func73, Tryd.ntmps73
  go_wp2_with (refine wpList_append_t rfl (.tmp 7) (.tmp 8) 22 rfl w.heap.size 9 i0 Tryd.underlying22 hi0 hz0 hz1 hz2 w.heap.size 0 0 [] l rfl (OwnsN.lit w w.heap.size 9 1 #[] 0 (Nat.le_refl _) (Nat.zero_le _) rfl) _ rfl T0 32 H32.out (by omega) (by simp) ?_; intro g2 cap2 w2 own2 hgrow2 where2)
  have K2 : Keep NoB w w2 := ((Keep.refl NoB w).alloc (.cells #[] 9)).trans hgrow2 (fun i hi hx => absurd (show i = w.heap.size from hx) (by omega))
  rw [List.nil_append] at own2
  clear hgrow2 where2 T0 H32
  go_loopw [5, 6] (fun v i wr => ∃ t : Nat, t ≤ 31 ∧ i = .int .i64 (2 * t : Nat) ∧ OwnsN wr w.heap.size 9 1 v (32 + t) (strCells (rowsL l t)) ∧ Keep NoB w wr) (fun _ i _ => 62 - (intOf i).toNat)
  case atStart => exact ⟨0, by omega, rfl, own2, K2⟩
  case round =>
    clear own2 K2 w2
    obtain ⟨t, ht, rfl, own, K⟩ := hrel
    have hlen : (rowsL l t).length = 32 + t := by rw [rowsL_len, Hl.out]
    obtain ⟨g, cap, rfl, hgw, hcap⟩ := own.some (by omega)
    by_cases h31 : t < 31
    · obtain ⟨_, _, hv, hgl, hc, _⟩ := own.at (by omega)
      cases hv
      obtain ⟨x0, hx0⟩ : ∃ x, x = (rowsL l t).getD (2 * t) ⟨#[]⟩ := ⟨_, rfl⟩
      obtain ⟨x1, hx1⟩ : ∃ x, x = (rowsL l t).getD (2 * t + 1) ⟨#[]⟩ := ⟨_, rfl⟩
      have c0 := hc (2 * t) (.string x0) (by rw [hx0, strCells, List.getElem?_map, List.getD_eq_getElem?_getD, List.getElem?_eq_getElem (by omega)]; rfl)
      have c1 := hc (2 * t + 1) (.string x1) (by rw [hx1, strCells, List.getElem?_map, List.getD_eq_getElem?_getD, List.getElem?_eq_getElem (by omega)]; rfl)
      have a16 : ∀ i, i < 32 + t → ((rowsL l t).getD i ⟨#[]⟩).size = 16 := fun i hi => by
        rw [List.getD_eq_getElem?_getD, List.getElem?_eq_getElem (by omega)]
        exact rowsL_all l Hall.out t _ (List.getElem_mem _)
      have hs0 : x0.size = 16 := by rw [hx0]; exact a16 _ (by omega)
      have hs1 : x1.size = 16 := by rw [hx1]; exact a16 _ (by omega)
      have hnext : rowsL l t ++ [mk2 x0 x1] = rowsL l (t + 1) := by rw [hx0, hx1]; rfl
      have hml := two_len x0 x1 (by omega) (by omega)
      obtain ⟨N, hN⟩ : ∃ N, N = 32 + t := ⟨_, rfl⟩
      obtain ⟨i, hi⟩ : ∃ i, i = 2 * t := ⟨_, rfl⟩
      rw [← hN] at own ⊢
      rw [← hi] at c0 c1 ⊢
      have Hnext := Lib.hid hnext
      have HN := Lib.hid hN
      have Hi := Lib.hid hi
      have hiN : (i : Int) + 1 < N := by omega
      have hiN0 : (i : Int) < N := by omega
      have hN63 : (N : Int) < 63 := by omega
      clear hx0 hx1 hc a16 hnext hN hi hlen
      have wr1 : IntKind.i64.wrap ((i : Int) + 1) = (i : Int) + 1 := IntWalk.i64_in _ (by omega)
      have t1 : ((i : Int) + 1).toNat = i + 1 := by omega
      have p1 : (0 : Int) ≤ (i : Int) + 1 := by omega
      go_wp2_with fail
      refine wp_region_pqt_drew 11 [0, 1, 2, 3, 4, 6, 7, 8, 9] (by kernel_rfl) (by kernel_rfl) (fun c a d v w h => by cases d <;> exact h) ?_
      rw [show restOf 11 [0, 1, 2, 3, 4, 6, 7, 8, 9] = [5, 10] from rfl]
      simp only [pickL, List.getElem?_toArray, List.getElem?_cons_succ, List.getElem?_cons_zero, List.drop_succ_cons, List.drop_zero]
      repeat (refine wpEarly_step (fun K hK => ?_); go_simp; refine hK _ ?_; clear hK K)
      refine wpEarly_nil ?_
      repeat (quiet_step (fail))
      refine wpQuiet_nil ?_
      intro nq
      have hS := fun w2 : World => Strs.lit (w := w2) (E := 9) [x0, x1]
      have HS := Lib.hid hS
      have Hm := Lib.hid hml
      clear hS hml
      go_wp2_with (first
        | (go_at_call 20; refine (refMark_any RB 117 (by omega) _ [x0, x1] _ (RR.keep ((K.drewN nq).alloc _) (fun x => x)) (HS.out _) Hm.out (by simp)).mono ?_; rw [mk2_eq]; rintro e w4 ⟨rfl, K4'⟩; have K4 : Keep NoB wr w4 := (((Keep.refl NoB wr).drewN nq).alloc _).thenN K4')
        | (refine wpList_append_s _ rfl (.tmp 22) (.tmp 35) 22 rfl w.heap.size 9 i0 (.string ⟨#[]⟩) 1 16 Tryd.underlying22 hi0 hz0 hz1 hz2 rfl (by decide) _ N (strCells (rowsL l t)) rfl ((own.keep K4 (fun _ _ x => x)).alloc _) ⟨w4.heap.size, 0, none⟩ 1 1 [.string (mk2 x0 x1)] rfl rfl (cells_new _ _ _) (by intro u hu; obtain rfl := List.mem_singleton.1 hu; rfl) (by unfold maxLen; omega) (by omega) (by have := K.size; have := K4.size; simp; omega) ?_; intro v5 w5 own5 hgrow5 where5))
      have own6 : OwnsN w5 w.heap.size 9 1 v5 (32 + (t + 1)) (strCells (rowsL l (t + 1))) := by
        rw [← Hnext.out, strCells_append, ← Nat.add_assoc, ← HN.out]; exact own5
      have K5 : Keep NoB w w5 := ((K.thenN K4).alloc _).grown hgrow5 (fun k hk => .inr (by obtain rfl : g = k := Option.some.inj hk; exact hgw))
      clear own5 where5 hgrow5
      go_wp2_with fail
      exact ⟨⟨t + 1, by omega, by have := Hi.out; go_num, own6, K5⟩, by have := Hi.out; simp [intOf]; omega⟩
    · obtain rfl : t = 31 := by omega
      go_wp2_with fail
      go_ret
      exact ⟨_, rfl, strs_ofN (by rw [hlen]; exact own), K⟩
set_option maxRecDepth 100000 in
set_option maxHeartbeats 4000000 in
theorem refRoot_any (RB : Nat) (v : Value) (l : List ByteArray) (w : World) (RR : RefR w RB) (T : Strs w v l) (hl : l.length ≤ 1000000) :
    Calls Tryd.prog 25 #[.pointer (some ⟨RB, 0, none⟩), v] w fun e w' => e = .returned (.tuple #[.string (rootV l), .int .i64 (rootE l)]) ∧ Keep NoB w w' := by
  by_cases hr : rightB l 32 = true
  · obtain ⟨h32, hall⟩ := rightB_true.1 hr
    have hrows := rows_any RB v l w RR T h32 hall
    have hmk := marks_any v l w T hl 32 (by omega)
    rw [hr] at hmk
    rw [rootV, rootE, if_pos hr, if_pos hr]
    have hat := rows_at l h32 5 (by omega) 0 (by decide)
    rw [← hat]
    have hlen : (rowsL l 31).length = 63 := by rw [rowsL_len, h32]
    have Hlen := Lib.hid hlen
    clear hat hall h32 hlen hr RR
    go_enter Tryd.func25, Tryd.ntmps25
    go_wp2_with (first | (go_at_call 72; refine hmk.mono ?_; rintro e w2 ⟨rfl, rfl⟩) | (go_at_call 73; refine hrows.mono ?_; rintro e w3 ⟨v3, rfl, T3, K3⟩; obtain ⟨p3, c3, rfl⟩ := T3.len; obtain ⟨b3, o3, rfl, -, _, hc3⟩ := T3.at (by rw [Hlen.out]; omega); have h62 := hc3 62 (by rw [Hlen.out]; omega); have hin : (62 : Int) < ((rowsL l 31).length : Nat) := by rw [Hlen.out]; decide))
    exact bodyPost_ret (v := .tuple #[.string ((rowsL l 31).getD 62 ⟨#[]⟩), .int .i64 0]) (by simp [results, Tryd.results25, go_sem]) rfl ⟨rfl, K3⟩
  · have hmk := marks_any v l w T hl 32 (by omega)
    rw [Bool.eq_false_iff.2 hr] at hmk
    rw [rootV, rootE, if_neg hr, if_neg hr]
    clear hr RR
    go_enter Tryd.func25, Tryd.ntmps25
    go_wp2_with (go_at_call 72; refine hmk.mono ?_; rintro e w2 ⟨rfl, rfl⟩)
    exact bodyPost_ret (v := .tuple #[.string ⟨#[]⟩, .int .i64 1]) (by simp [results, Tryd.results25, go_sem]) rfl ⟨rfl, Keep.refl _ _⟩
theorem besideI (k : Nat) : (k % 2 = 1 ∧ beside k + 1 = k) ∨ (k % 2 = 0 ∧ beside k = k + 1) := by
  unfold beside
  split
  · left; omega
  · right; omega
set_option maxRecDepth 100000 in
set_option maxHeartbeats 8000000 in
theorem refPath_any (RB : Nat) (v : Value) (l : List ByteArray) (q : Int) (w : World) (RR : RefR w RB) (T : Strs w v l) (hl : l.length ≤ 1000000) :
    Calls Tryd.prog 28 #[.pointer (some ⟨RB, 0, none⟩), v, .int .i64 q] w fun e w' => ∃ v', e = .returned (.tuple #[v', .int .i64 (pathE l q)]) ∧ Strs w' v' (pathV l q) ∧ Keep NoB w w' := by
  by_cases hr : rightB l 32 = true
  · by_cases hq : 0 ≤ q ∧ q ≤ 31
    · obtain ⟨h32, hall⟩ := rightB_true.1 hr
      have hrows := rows_any RB v l w RR T h32 hall
      have hmk := marks_any v l w T hl 32 (by omega)
      have hin := refIn_any q w
      rw [hr] at hmk
      rw [decide_eq_true hq] at hin
      rw [pathE, if_pos hr, if_pos hq, pathV, if_pos ⟨hr, hq.1, hq.2⟩]
      obtain ⟨k0, rfl⟩ : ∃ k0 : Nat, q = (k0 : Int) := ⟨q.toNat, by omega⟩
      have hk0 : k0 ≤ 31 := by omega
      rw [Int.toNat_natCast]
      obtain ⟨i0, hi0, hz0, hz1, hz2⟩ := info_parts info_string
      have hlen : (rowsL l 31).length = 63 := by rw [rowsL_len, h32]
      have Hlen := Lib.hid hlen
      have Hat := Lib.hid (rows_at l h32)
      clear hall h32 hlen hr RR hq
      go_enter Tryd.func28, Tryd.ntmps28
      go_wp2_with (first | (go_at_call 72; refine hmk.mono ?_; rintro e w2 ⟨rfl, hw2⟩; subst w2) | (go_at_call 77; refine hin.mono ?_; rintro e w2 ⟨rfl, hw2⟩; subst w2) | (go_at_call 73; refine hrows.mono ?_; rintro e w3 ⟨v3, rfl, T3, K3⟩; obtain ⟨p3, c3, rfl⟩ := T3.len; obtain ⟨b3, o3, rfl, -, hb3, hc3⟩ := T3.at (by rw [Hlen.out]; omega)))
      clear hmk hin hrows
      rw [Hlen.out] at T3 hc3 ⊢
      go_loopw [2, 9, 10, 11, 12] (fun kv ov fv nv xv wr => ∃ (i n f kk : Nat), i ≤ 5 ∧ n = 2 ^ (5 - i) ∧ f + 2 * n = 64 ∧ kk = k0 / 2 ^ i ∧ kk < n ∧ kv = .int .i64 kk ∧ fv = .int .i64 f ∧ nv = .int .i64 n ∧ OwnsN wr w3.heap.size 9 1 ov i (strCells (pathL l k0 i)) ∧ Keep NoB w3 wr) (fun _ _ _ n _ _ => (intOf n).toNat)
      case atStart => exact ⟨0, 32, 0, k0, by omega, by decide, by omega, by simp, by omega, rfl, rfl, rfl, OwnsN.nil _ _ _ _, Keep.refl _ _⟩
      case round =>
        obtain ⟨i, n, f, kk, hi, hn, hf, hkk, hlt, rfl, rfl, rfl, own, K4⟩ := hrel
        by_cases h5 : i < 5
        · have hn2 : n = 2 * 2 ^ (5 - (i + 1)) := by rw [hn, show 5 - i = (5 - (i + 1)) + 1 by omega, Nat.pow_succ, Nat.mul_comm]
          have hpos : 0 < 2 ^ (5 - (i + 1)) := Nat.pow_pos (by omega)
          obtain ⟨ob, hob⟩ : ∃ ob, ob = beside kk := ⟨_, rfl⟩
          have hbi := besideI kk
          rw [← hob] at hbi
          have hobn : ob < n := by omega
          have j1 : (1 : Int) < n := by omega
          obtain ⟨x, hx⟩ : ∃ x, x = (rowsL l 31).getD (f + ob) ⟨#[]⟩ := ⟨_, rfl⟩
          have hcx := (K4.cell (p := ⟨b3, o3 + (f + ob), none⟩) hb3 (fun x => x)).trans (hc3 (f + ob) (by omega))
          rw [← hx] at hcx
          have hpath : pathL l k0 i ++ [x] = pathL l k0 (i + 1) := by
            rw [pathL_succ, ← hkk, ← hob, ← Hat.out i hi ob (by rw [← hn]; exact hobn), hx]
            have e1 : 64 - 2 ^ (6 - i) = f := by
              rw [show 6 - i = (5 - i) + 1 by omega, Nat.pow_succ, ← hn]; omega
            rw [e1]
          have Hpath := Lib.hid hpath
          have Hn2 := Lib.hid hn2
          have Hkk := Lib.hid hkk
          clear hn hn2 hkk hx hpath hob
          have hkn : kk ≤ 31 := by omega
          have hfn : f ≤ 62 := by omega
          have hf62 : f + ob < 63 := by omega
          have hn62 : n ≤ 62 := by omega
          have Hf := Lib.hid hf
          have Hlt := Lib.hid hlt
          clear hf hlt hobn hpos Hat T Hlen hc3 T3
          rcases hbi with ⟨hpar, hob⟩ | ⟨hpar, hob⟩
          · have m1 : ((kk : Int).tmod 2) = 1 := by rw [Int.tmod_eq_emod_of_nonneg (by omega)]; omega
            have e1 : (0 : Int) ≤ (f : Int) + ((kk : Int) - 1) := by omega
            have e2 : (f : Int) + ((kk : Int) - 1) < 63 := by omega
            have e3 : ((f : Int) + ((kk : Int) - 1)).toNat = f + ob := by omega
            have hc1 : ((kk : Int) / 2) = ((kk / 2 : Nat) : Int) := by omega
            have d1 : ((kk : Int).tdiv 2) = ((kk / 2 : Nat) : Int) := by rw [Int.tdiv_eq_ediv_of_nonneg (by omega)]; omega
            have d2 : ((n : Int).tdiv 2) = ((n / 2 : Nat) : Int) := by rw [Int.tdiv_eq_ediv_of_nonneg (by omega)]; omega
            have Hob := Lib.hid hob
            clear hob hpar hc1
            go_wp2_with (refine wpList_append_s _ rfl (.tmp 33) (.tmp 40) 22 rfl w3.heap.size 9 i0 (.string ⟨#[]⟩) 1 16 Tryd.underlying22 hi0 hz0 hz1 hz2 rfl (by decide) _ i (strCells (pathL l k0 i)) rfl (own.alloc _) ⟨wr.heap.size, 0, none⟩ 1 1 [.string x] rfl rfl (cells_new _ _ _) (by intro u hu; obtain rfl := List.mem_singleton.1 hu; rfl) (by unfold maxLen; omega) (by omega) (by have := K4.size; simp; omega) ?_; intro v5 w5 own5 hgrow5 where5)
            have hold : ∀ k, u9.ownBlock = some k → w3.heap.size ≤ k := fun k hk => (own.lt k hk).1
            have own6 : OwnsN w5 w3.heap.size 9 1 v5 (i + 1) (strCells (pathL l k0 (i + 1))) := by
              rw [← Hpath.out, strCells_append]; exact own5
            have K5 : Keep NoB w3 w5 := (K4.alloc _).grown hgrow5 (fun k hk => .inr (hold k hk))
            clear own5 where5 hgrow5
            exact ⟨⟨i + 1, n / 2, f + n, kk / 2, by omega, by have := Hn2.out; omega, by have := Hf.out; have := Hn2.out; omega, by rw [Hkk.out, Nat.div_div_eq_div_mul, Nat.pow_succ], by have := Hlt.out; have := Hn2.out; omega, by go_num, by go_num, by go_num, own6, K5⟩, by simp [intOf]; omega⟩
          · have m1 : ((kk : Int).tmod 2) = 0 := by rw [Int.tmod_eq_emod_of_nonneg (by omega)]; omega
            have e1 : (0 : Int) ≤ (f : Int) + ((kk : Int) + 1) := by omega
            have e2 : (f : Int) + ((kk : Int) + 1) < 63 := by omega
            have e3 : ((f : Int) + ((kk : Int) + 1)).toNat = f + ob := by omega
            have hc1 : ((kk : Int) / 2) = ((kk / 2 : Nat) : Int) := by omega
            have d1 : ((kk : Int).tdiv 2) = ((kk / 2 : Nat) : Int) := by rw [Int.tdiv_eq_ediv_of_nonneg (by omega)]; omega
            have d2 : ((n : Int).tdiv 2) = ((n / 2 : Nat) : Int) := by rw [Int.tdiv_eq_ediv_of_nonneg (by omega)]; omega
            have Hob := Lib.hid hob
            clear hob hpar hc1
            go_wp2_with (refine wpList_append_s _ rfl (.tmp 33) (.tmp 40) 22 rfl w3.heap.size 9 i0 (.string ⟨#[]⟩) 1 16 Tryd.underlying22 hi0 hz0 hz1 hz2 rfl (by decide) _ i (strCells (pathL l k0 i)) rfl (own.alloc _) ⟨wr.heap.size, 0, none⟩ 1 1 [.string x] rfl rfl (cells_new _ _ _) (by intro u hu; obtain rfl := List.mem_singleton.1 hu; rfl) (by unfold maxLen; omega) (by omega) (by have := K4.size; simp; omega) ?_; intro v5 w5 own5 hgrow5 where5)
            have hold : ∀ k, u9.ownBlock = some k → w3.heap.size ≤ k := fun k hk => (own.lt k hk).1
            have own6 : OwnsN w5 w3.heap.size 9 1 v5 (i + 1) (strCells (pathL l k0 (i + 1))) := by
              rw [← Hpath.out, strCells_append]; exact own5
            have K5 : Keep NoB w3 w5 := (K4.alloc _).grown hgrow5 (fun k hk => .inr (hold k hk))
            clear own5 where5 hgrow5
            exact ⟨⟨i + 1, n / 2, f + n, kk / 2, by omega, by have := Hn2.out; omega, by have := Hf.out; have := Hn2.out; omega, by rw [Hkk.out, Nat.div_div_eq_div_mul, Nat.pow_succ], by have := Hlt.out; have := Hn2.out; omega, by go_num, by go_num, by go_num, own6, K5⟩, by simp [intOf]; omega⟩
        · obtain rfl : i = 5 := by omega
          obtain rfl : n = 1 := by simpa using hn
          clear hn hf hkk
          go_wp2_with fail
          have T9 : Strs wr u9 (pathL l k0 5) := strs_ofN (by rw [pathL_len]; exact own)
          exact bodyPost_ret (v := .tuple #[u9, .int .i64 0]) (by simp [results, Tryd.results28, go_sem]) rfl ⟨_, rfl, T9, K3.thenN K4⟩
    · have hmk := marks_any v l w T hl 32 (by omega)
      have hin := refIn_any q w
      rw [hr] at hmk
      rw [decide_eq_false hq] at hin
      rw [pathE, if_pos hr, if_neg hq, pathV, if_neg (fun h => hq ⟨h.2.1, h.2.2⟩)]
      clear hr RR hq
      go_enter Tryd.func28, Tryd.ntmps28
      go_wp2_with (first | (go_at_call 72; refine hmk.mono ?_; rintro e w2 ⟨rfl, hw2⟩; subst w2) | (go_at_call 77; refine hin.mono ?_; rintro e w2 ⟨rfl, hw2⟩; subst w2))
      exact bodyPost_ret (v := .tuple #[.slice none 0 0, .int .i64 2]) (by simp [results, Tryd.results28, go_sem]) rfl ⟨_, rfl, .inl ⟨rfl, _, _, rfl⟩, Keep.refl _ _⟩
  · have hmk := marks_any v l w T hl 32 (by omega)
    rw [Bool.eq_false_iff.2 hr] at hmk
    rw [pathE, if_neg hr, pathV, if_neg (fun h => hr h.1)]
    clear hr RR
    go_enter Tryd.func28, Tryd.ntmps28
    go_wp2_with (go_at_call 72; refine hmk.mono ?_; rintro e w2 ⟨rfl, hw2⟩; subst w2)
    exact bodyPost_ret (v := .tuple #[.slice none 0 0, .int .i64 1]) (by simp [results, Tryd.results28, go_sem]) rfl ⟨_, rfl, .inl ⟨rfl, _, _, rfl⟩, Keep.refl _ _⟩
theorem verB_no {root m : ByteArray} {k : Int} {path : List ByteArray} (h : ¬ (m.size = 16 ∧ (0 ≤ k ∧ k ≤ 31) ∧ rightB path 5 = true)) : verB root m k path = false := by
  rw [Bool.eq_false_iff]
  intro hv
  apply h
  simp only [verB, Bool.and_eq_true, decide_eq_true_eq] at hv
  exact ⟨hv.1.1.1, hv.1.1.2, hv.1.2⟩
theorem verB_yes {root m : ByteArray} {k : Int} {path : List ByteArray} (h1 : m.size = 16) (h2 : 0 ≤ k ∧ k ≤ 31) (h3 : rightB path 5 = true) : verB root m k path = decide (foldV path k.toNat m = root) := by
  simp [verB, h1, h2, h3]
set_option maxRecDepth 100000 in
set_option maxHeartbeats 8000000 in
theorem refVerify_any (RB : Nat) (root m : ByteArray) (q : Int) (v : Value) (l : List ByteArray) (w : World) (RR : RefR w RB) (T : Strs w v l) (hl : l.length ≤ 1000000) :
    Calls Tryd.prog 32 #[.pointer (some ⟨RB, 0, none⟩), .string root, .string m, .int .i64 q, v] w fun e w' => e = .returned (.bool (verB root m q l)) ∧ Keep NoB w w' := by
  have hmk := marks_any v l w T hl 5 (by omega)
  have hin := refIn_any q w
  have his := markIs_any m w
  by_cases hm : m.size = 16
  · rw [decide_eq_true hm] at his
    by_cases hq : 0 ≤ q ∧ q ≤ 31
    · rw [decide_eq_true hq] at hin
      by_cases hr : rightB l 5 = true
      · rw [hr] at hmk
        rw [verB_yes hm hq hr]
        obtain ⟨k0, rfl⟩ : ∃ k0 : Nat, q = (k0 : Int) := ⟨q.toNat, by omega⟩
        have hk0 : k0 ≤ 31 := by omega
        rw [Int.toNat_natCast]
        obtain ⟨h5, hall⟩ := rightB_true.1 hr
        obtain ⟨p, c, rfl⟩ := T.len
        obtain ⟨b, off, rfl, -, hb, hc⟩ := T.at (by omega)
        rw [h5] at hmk hc ⊢
        have H5 := Lib.hid h5
        have Hall := Lib.hid hall
        clear hr hq h5 hall hl T
        have hHS := fun (x y : ByteArray) (w2 : World) => Strs.lit (w := w2) (E := 9) [x, y]
        have HS := Lib.hid hHS
        have Hm0 := Lib.hid hm
        clear hHS hm
        go_enter Tryd.func32, Tryd.ntmps32
        go_wp2_with (first | (go_at_call 78; refine his.mono ?_; rintro e w2 ⟨rfl, hw2⟩; subst w2) | (go_at_call 72; refine hmk.mono ?_; rintro e w2 ⟨rfl, hw2⟩; subst w2) | (go_at_call 77; refine hin.mono ?_; rintro e w2 ⟨rfl, hw2⟩; subst w2))
        clear his hmk hin
        go_loopw [2, 3, 12, 13, 14, 30] (fun mv kv _ _ _ iv wr => ∃ (i kk : Nat) (m1 : ByteArray), i ≤ 5 ∧ kk ≤ 31 ∧ iv = .int .i64 i ∧ mv = .string m1 ∧ kv = .int .i64 kk ∧ m1.size = 16 ∧ Hid (foldV (l.drop i) kk m1 = foldV l k0 m) ∧ Keep NoB w wr) (fun _ _ _ _ _ iv _ => 5 - (intOf iv).toNat)
        case atStart => exact ⟨0, k0, m, by omega, hk0, rfl, rfl, rfl, Hm0.out, rfl, Keep.refl _ _⟩
        case round =>
          obtain ⟨i, kk, m1, hi, hkk, rfl, rfl, rfl, hm1, hfold, K⟩ := hrel
          by_cases hlt : i < 5
          · have j1 : (i : Int) < 5 := by omega
            obtain ⟨x, hx⟩ : ∃ x, x = l.getD i ⟨#[]⟩ := ⟨_, rfl⟩
            have hcx := (K.cell (p := ⟨b, off + i, none⟩) hb (fun x => x)).trans (hc i (by omega))
            rw [← hx] at hcx
            have hx16 : x.size = 16 := by
              rw [hx, List.getD_eq_getElem?_getD, List.getElem?_eq_getElem (by rw [H5.out]; exact hlt)]
              exact Hall.out _ (List.getElem_mem _)
            have hstep := foldV_step l i kk m1 (by rw [H5.out]; exact hlt)
            rw [← hx] at hstep
            have d1 : ((kk : Int).tdiv 2) = ((kk / 2 : Nat) : Int) := by rw [Int.tdiv_eq_ediv_of_nonneg (by omega)]; omega
            by_cases hpar : kk % 2 = 1
            · have e1 : ((kk : Int).tmod 2) = 1 := by rw [Int.tmod_eq_emod_of_nonneg (by omega)]; omega
              rw [if_neg (by omega)] at hstep
              have Hstep := Lib.hid (hstep.symm.trans hfold.out)
              have Hml := Lib.hid (two_len x m1 (by omega) (by omega))
              clear hx hstep hpar hfold
              go_wp2_with (go_at_call 20; refine (refMark_any RB 117 (by omega) _ [x, m1] _ (RR.keep (K.alloc _) (fun x => x)) (HS.out x m1 _) Hml.out (by simp)).mono ?_; rw [mk2_eq]; rintro e w4 ⟨rfl, K4⟩)
              exact ⟨⟨i + 1, kk / 2, _, by omega, by omega, by go_num, rfl, by go_num, mk2_size _ _, Hstep, (K.alloc _).thenN K4⟩, by simp [intOf]; omega⟩
            · have e1 : ((kk : Int).tmod 2) = 0 := by rw [Int.tmod_eq_emod_of_nonneg (by omega)]; omega
              rw [if_pos (by omega)] at hstep
              have Hstep := Lib.hid (hstep.symm.trans hfold.out)
              have Hml := Lib.hid (two_len m1 x (by omega) (by omega))
              clear hx hstep hpar hfold
              go_wp2_with (go_at_call 20; refine (refMark_any RB 117 (by omega) _ [m1, x] _ (RR.keep (K.alloc _) (fun x => x)) (HS.out m1 x _) Hml.out (by simp)).mono ?_; rw [mk2_eq]; rintro e w4 ⟨rfl, K4⟩)
              exact ⟨⟨i + 1, kk / 2, _, by omega, by omega, by go_num, rfl, by go_num, mk2_size _ _, Hstep, (K.alloc _).thenN K4⟩, by simp [intOf]; omega⟩
          · obtain rfl : i = 5 := by omega
            have hend : foldV l k0 m = m1 := by
              rw [← hfold.out, List.drop_eq_nil_of_le (by rw [H5.out]; exact Nat.le_refl _)]; rfl
            have Hend := Lib.hid hend
            clear hend hfold
            go_wp2_with fail
            go_ret
            refine ⟨congrArg (fun b => Ending.returned (.bool b)) ?_, K⟩
            rw [Hend.out]
            by_cases hmr : m1 = root
            · subst hmr; simp
            · rw [decide_eq_false hmr, Bool.eq_false_iff]
              intro h
              have h2 : m1.toList = root.toList := by simpa using h
              exact hmr (by rw [ByteArray.toList_eq, ByteArray.toList_eq] at h2; exact bs_inj (by rw [bs, bs, h2]))
      · rw [Bool.eq_false_iff.2 hr] at hmk
        rw [verB_no (fun h => hr h.2.2)]
        clear hr hq hm
        go_enter Tryd.func32, Tryd.ntmps32
        go_wp2_with (first | (go_at_call 78; refine his.mono ?_; rintro e w2 ⟨rfl, hw2⟩; subst w2) | (go_at_call 72; refine hmk.mono ?_; rintro e w2 ⟨rfl, hw2⟩; subst w2) | (go_at_call 77; refine hin.mono ?_; rintro e w2 ⟨rfl, hw2⟩; subst w2))
        go_ret
        exact ⟨rfl, Keep.refl _ _⟩
    · rw [decide_eq_false hq] at hin
      rw [verB_no (fun h => hq h.2.1)]
      clear hq hm hmk
      go_enter Tryd.func32, Tryd.ntmps32
      go_wp2_with (first | (go_at_call 78; refine his.mono ?_; rintro e w2 ⟨rfl, hw2⟩; subst w2) | (go_at_call 77; refine hin.mono ?_; rintro e w2 ⟨rfl, hw2⟩; subst w2))
      go_ret
      exact ⟨rfl, Keep.refl _ _⟩
  · rw [decide_eq_false hm] at his
    rw [verB_no (fun h => hm h.1)]
    clear hm hmk hin
    go_enter Tryd.func32, Tryd.ntmps32
    go_wp2_with (first | (go_at_call 78; refine his.mono ?_; rintro e w2 ⟨rfl, hw2⟩; subst w2))
    go_ret
    exact ⟨rfl, Keep.refl _ _⟩
end Go.Proofs.YtndcaaikjcicgaaDoor
