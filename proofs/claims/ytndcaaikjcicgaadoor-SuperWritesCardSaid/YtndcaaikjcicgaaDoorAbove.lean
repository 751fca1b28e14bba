/-
  DERIVED. The walk of the reference's above.
-/
import Derived.Test.YtndcaaikjcicgaaDoorTimes
set_option linter.unusedVariables false
set_option linter.unusedSimpArgs false
namespace Go.Cof
open Go.RowKit
theorem powD_succ (x j : Nat) : powD x (j + 1) = timesD (powD x j) x := rfl
theorem powD_len (x j : Nat) : (powD x j).length ≤ 1 + 4 * j := by
  induction j with
  | zero => exact Nat.le_refl _
  | succ j ih => rw [powD_succ]; have := timesD_len (powD x j) x; omega
theorem powD_pos (x j : Nat) : 0 < (powD x j).length := by
  induction j with
  | zero => exact Nat.zero_lt_one
  | succ j ih => rw [powD_succ]; exact timesD_pos _ _ ih
theorem getD_lt {l : List Nat} {n : Nat} (hn : 0 < n) (h : ∀ y ∈ l, y < n) (i : Nat) : l.getD i 0 < n := by
  rw [List.getD_eq_getElem?_getD]
  cases hx : l[i]? with
  | none => exact hn
  | some y => exact h y (List.mem_of_getElem? hx)
theorem powD_digits (x j : Nat) : ∀ i, (powD x j).getD i 0 < 65536 := by
  cases j with
  | zero => exact getD_lt (by omega) (fun y hy => by obtain rfl : y = 1 := List.mem_singleton.1 hy; omega)
  | succ j => rw [powD_succ]; exact getD_lt (by omega) (timesD_digits _ _)
theorem fill_snoc (l : List Nat) (j : Nat) : (l ++ List.replicate j 0) ++ [0] = l ++ List.replicate (j + 1) 0 := by
  rw [List.append_assoc, List.replicate_succ']
theorem made_u64 (n : Nat) : (madeCells (Value.cells (.int .u64 0)) (n * 1)).toList = cellsOf .u64 (List.replicate n 0) := by
  show (madeCells #[Value.int .u64 0] (n * 1)).toList = _
  rw [toList_madeCells_one, Nat.mul_one]; simp [cellsOf]
/-- Two rows of the call's own, in two blocks. -/
structure Two (T : TypeId) (w wr : World) (v u : Value) (a b : List Nat) : Prop where
  left : OwnsN wr w.heap.size T 1 v a.length (cellsOf .u64 a)
  right : OwnsN wr w.heap.size T 1 u b.length (cellsOf .u64 b)
  apart : ∀ c, v.ownBlock = some c → u.ownBlock ≠ some c
  keep : Keep NoB w wr
theorem Two.swap {T : TypeId} {w wr : World} {v u : Value} {a b : List Nat} (h : Two T w wr v u a b) : Two T w wr u v b a :=
  ⟨h.right, h.left, fun c h1 h2 => h.apart c h2 h1, h.keep⟩
theorem Two.grow {T : TypeId} {w wr w' : World} {v v' u : Value} {a a' b : List Nat} {o : Obj} (h : Two T w wr v u a b) (hg : (wr.alloc o).grownBy w' v.ownBlock) (ho : OwnsN w' w.heap.size T 1 v' a'.length (cellsOf .u64 a'))
    (hw : v'.ownBlock = v.ownBlock ∨ ∀ c, v'.ownBlock = some c → (wr.alloc o).heap.size ≤ c) : Two T w w' v' u a' b := by
  have K1 : Keep (fun c => v.ownBlock = some c) wr w' := ((Keep.refl _ wr).alloc o).grown hg (fun c hc => .inl hc)
  refine ⟨ho, h.right.keep K1 (fun c hc hs => h.apart c hs hc), fun c hc hu => ?_, (h.keep.alloc o).grown hg (fun c hc => .inr (h.left.lt c hc).1)⟩
  rcases hw with hw | hw
  · exact h.apart c (hw ▸ hc) hu
  · have h1 := hw c hc
    have h2 := (h.right.lt c hu).2
    simp at h1
    omega
end Go.Cof
namespace Go.Proofs.YtndcaaikjcicgaaDoor
open Go.RowKit Go.Cof
set_option maxRecDepth 100000 in
set_option maxHeartbeats 8000000 in
theorem above_any (x k p : Nat) (hx : x ≤ 1099511627776) (hk3 : k ≤ 3) (w : World) :
    Calls Tryd.prog 106 #[.int .u64 x, .int .i64 k, .int .u64 p] w fun e w' => e = .returned (.bool (aboveD x k p)) ∧ Keep NoB w w' := by
  obtain ⟨i0, hi0, hz0, hz1, hz2⟩ := info_parts info_u64
  go_enter Tryd.func106, Tryd.ntmps106
  go_wp2_with fail
  refine wp_world (fun w1 => OwnsN w1 w.heap.size 103 1 (.slice (some ⟨w.heap.size, 0, none⟩) 1 1) (powD x 0).length (cellsOf .u64 (powD x 0)) ∧ Keep NoB w w1) ⟨OwnsN.lit w w.heap.size 103 1 _ 1 (Nat.le_refl _) (by unfold maxLen; omega) rfl, (Keep.refl NoB w).alloc _⟩ ?_
  intro w1 hw1
  go_loopw [7, 12] (fun v i wr => ∃ j : Nat, j ≤ k ∧ i = .int .i64 j ∧ OwnsN wr w.heap.size 103 1 v (powD x j).length (cellsOf .u64 (powD x j)) ∧ Keep NoB w wr) (fun _ i _ => k - (intOf i).toNat)
  case atStart => exact ⟨0, by omega, rfl, hw1⟩
  case round =>
    clear hw1 w1
    obtain ⟨j, hj, rfl, hown, K⟩ := hrel
    have hlen := powD_len x j
    obtain ⟨g, cap, rfl, hg, hcap⟩ := hown.some (powD_pos x j)
    by_cases hlt : j < k
    · have j1 : decide (j < k) = true := by simp; omega
      have R := PRow.ofN hown
      have hlenH := Lib.hid hlen
      go_wp2_with fail
      refine (times_any g cap (powD x j) x (powD_pos x j) (by have := hlenH.out; omega) (powD_digits x j) hx _ R).mono ?_
      rintro e w2 ⟨v2, rfl, hown2, K2⟩
      clear hown R hlenH hlen hcap
      go_wp2_with fail
      exact ⟨⟨j + 1, by omega, by go_num, (OwnsN.of hown2).down K.size, K.thenN K2⟩, by simp [intOf]; omega⟩
    · have hjk : j = k := by omega
      have j1 : decide (j < k) = false := by simp; omega
      rw [hjk] at hown hlen
      rw [hjk] at hcap
      rw [hjk]
      obtain ⟨a, ha⟩ : ∃ a, a = powD x k := ⟨_, rfl⟩
      have hap : 0 < a.length := by rw [ha]; exact powD_pos x k
      rw [← ha] at hown hlen hcap
      rw [← ha]
      have Ha := Lib.hid ha
      clear ha hlt hj
      obtain ⟨n, hn⟩ : ∃ n, n = a.length := ⟨_, rfl⟩
      rw [← hn] at hown hlen hcap hap
      rw [← hn]
      have Hn := Lib.hid hn
      clear hn hjk
      have hn13 : n ≤ 13 := by omega
      clear hlen
      have e2k : IntKind.i64.wrap (2 * (k : Int)) = ((2 * k : Nat) : Int) := by rw [IntWalk.i64_in _ (by omega)]; omega
      go_wp2_with (first | (refine wpList_make_full _ rfl _ _ 188 rfl wr.heap.size 103 i0 (.int .u64 0) 1 Tryd.underlying188 hi0 hz0 hz1 .i64 .i64 _ _ (2 * k) rfl rfl (by omega) (by omega) (by rw [hz2]; omega) (by unfold maxLen; omega) (Nat.le_refl _) ?_; intro w2 own2 hgrow2; rw [made_u64] at own2) | (at_builtin; refine wpList_append_s _ rfl _ _ 188 rfl wr.heap.size 103 i0 (.int .u64 0) 1 8 Tryd.underlying188 hi0 hz0 hz1 hz2 rfl (by decide) _ (2 * k) _ rfl ((OwnsN.of own2).alloc _) ⟨w2.heap.size, 0, none⟩ 1 1 [.int .u64 p] rfl rfl (cells_new _ _ _) (ones1 _ _) (by unfold maxLen; omega) (by omega) (by have := hgrow2.size; simp; omega) ?_; intro v3 w3 own3 hgrow3 where3))
      have own4 : OwnsN w3 wr.heap.size 103 1 v3 (digitsOf p k).length (cellsOf .u64 (digitsOf p k)) := by
        rw [digitsOf, List.length_append, List.length_replicate, cellsOf_append]; exact own3
      have K2 : Keep NoB wr w3 := (((Keep.refl NoB wr).grown hgrow2 (fun c hc => by cases hc)).alloc _).grown hgrow3 (fun c hc => by
        obtain rfl : wr.heap.size = c := Option.some.inj hc
        exact .inr (Nat.le_refl _))
      have T3 : Two 103 w w3 (.slice (some ⟨g, 0, none⟩) n cap) v3 (a ++ List.replicate 0 0) (digitsOf p k) := by
        refine ⟨?_, own4.down K.size, fun c hc hu => ?_, K.thenN K2⟩
        · rw [List.replicate_zero, List.append_nil, ← Hn.out]
          exact hown.keep K2 (fun _ _ x => x)
        · obtain rfl : g = c := Option.some.inj hc
          have h1 := (own4.lt g hu).1
          have h2 := (hown.lt g rfl).2
          omega
      clear own2 hgrow2 own3 hgrow3 where3 own4 K2 hown K e2k
      obtain ⟨d, hd⟩ : ∃ d, d = digitsOf p k := ⟨_, rfl⟩
      have hdl : d.length = 2 * k + 1 := by rw [hd, digitsOf, List.length_append, List.length_replicate]; rfl
      rw [← hd] at T3
      have Hd := Lib.hid hd
      clear hd
      obtain ⟨m, hm⟩ : ∃ m, m = d.length := ⟨_, rfl⟩
      have hm7 : m ≤ 7 := by omega
      have hmp : 0 < m := by omega
      have Hm := Lib.hid hm
      clear hm hdl
      obtain ⟨g3, cap3, hv3, _, _⟩ := T3.right.some (by rw [← Hm.out]; exact hmp)
      rw [← Hm.out] at hv3
      subst hv3
      go_loopw [7] (fun v wr => ∃ q : Nat, q ≤ m - n ∧ Two 103 w wr v (.slice (some ⟨g3, 0, none⟩) m cap3) (a ++ List.replicate q 0) d) (fun v _ => match v with | .slice _ c _ => 100 - c | _ => 0)
      case atStart => exact ⟨0, by omega, T3⟩
      case round =>
        clear T3 w3
        obtain ⟨q, hq, T4⟩ := hrel
        have hl4 : (a ++ List.replicate q 0).length = n + q := by rw [List.length_append, List.length_replicate, ← Hn.out]
        obtain ⟨g4, cap4, hv4, _, _⟩ := T4.left.some (by rw [hl4]; omega)
        rw [hl4] at hv4
        subst hv4
        have Hl4 := Lib.hid hl4
        clear hl4
        have K := T4.keep
        by_cases hlt : q < m - n
        · have j1 : decide (n + q < m) = true := by simp; omega
          have hT := T4.left
          rw [Hl4.out] at hT
          go_wp2_with (first | (at_builtin; refine wpList_append_s _ rfl _ _ 188 rfl w.heap.size 103 i0 (.int .u64 0) 1 8 Tryd.underlying188 hi0 hz0 hz1 hz2 rfl (by decide) _ (n + q) _ rfl (hT.alloc _) ⟨wr.heap.size, 0, none⟩ 1 1 [.int .u64 0] rfl rfl (cells_new _ _ _) (ones1 _ _) (by unfold maxLen; omega) (by omega) (by have := K.size; simp; omega) ?_; intro v5 w5 own5 hgrow5 where5))
          rw [cellsOf_snoc .u64 _ 0 0 rfl, fill_snoc] at own5
          have hl5 : n + q + 1 = (a ++ List.replicate (q + 1) 0).length := by rw [List.length_append, List.length_replicate, ← Hn.out]; omega
          rw [hl5] at own5
          have T5 := T4.grow hgrow5 own5 where5
          obtain ⟨g6, cap6, rfl, _, _⟩ := own5.some (by rw [← hl5]; omega)
          rw [← hl5] at T5
          clear own5 hgrow5 where5 hT T4
          rw [← hl5]
          refine ⟨⟨q + 1, by omega, T5⟩, ?_⟩
          show 100 - (n + q + 1) < 100 - (n + q)
          omega
        · have hqm : q = m - n := by omega
          have j1 : decide (n + q < m) = false := by simp; omega
          obtain ⟨L, hL⟩ : ∃ L, L = n + q := ⟨_, rfl⟩
          obtain ⟨A, hA⟩ : ∃ A, A = a ++ List.replicate q 0 := ⟨_, rfl⟩
          have hAl : Hid (A.length = L) := by show _ = _; rw [hA, hL]; exact Hl4.out
          have hAf : A = fillTo (powD x k) (digitsOf p k).length := by rw [hA, fillTo, ← Hd.out, ← Hm.out, ← Ha.out, ← Hn.out, hqm]
          have HAf := Lib.hid hAf
          rw [← hL] at j1
          rw [← hA, ← hL] at T4
          rw [← hL]
          have hLm : m ≤ L := by omega
          have hL20 : L ≤ 20 := by omega
          clear hqm hAf hA Hl4 hlt hq hL
          have T6 := T4.swap
          clear T4
          have T6' : Two 103 w wr (.slice (some ⟨g3, 0, none⟩) m cap3) (.slice (some ⟨g4, 0, none⟩) L cap4) (d ++ List.replicate 0 0) A := by
            rw [List.replicate_zero, List.append_nil]; exact T6
          clear T6
          go_wp2_with fail
          go_loopw [8] (fun v wr => ∃ q : Nat, q ≤ L - m ∧ Two 103 w wr v (.slice (some ⟨g4, 0, none⟩) L cap4) (d ++ List.replicate q 0) A) (fun v _ => match v with | .slice _ c _ => 100 - c | _ => 0)
          case atStart => exact ⟨0, by omega, T6'⟩
          case round =>
            clear T6' K
            obtain ⟨q, hq, T4⟩ := hrel
            have hl4 : (d ++ List.replicate q 0).length = m + q := by rw [List.length_append, List.length_replicate, ← Hm.out]
            obtain ⟨g5, cap5, hv4, _, _⟩ := T4.left.some (by rw [hl4]; omega)
            rw [hl4] at hv4
            subst hv4
            have Hl4 := Lib.hid hl4
            clear hl4
            have K := T4.keep
            by_cases hlt : q < L - m
            · have j1 : decide (m + q < L) = true := by simp; omega
              have hT := T4.left
              rw [Hl4.out] at hT
              go_wp2_with (first | (at_builtin; refine wpList_append_s _ rfl _ _ 188 rfl w.heap.size 103 i0 (.int .u64 0) 1 8 Tryd.underlying188 hi0 hz0 hz1 hz2 rfl (by decide) _ (m + q) _ rfl (hT.alloc _) ⟨wr.heap.size, 0, none⟩ 1 1 [.int .u64 0] rfl rfl (cells_new _ _ _) (ones1 _ _) (by unfold maxLen; omega) (by omega) (by have := K.size; simp; omega) ?_; intro v5 w5 own5 hgrow5 where5))
              rw [cellsOf_snoc .u64 _ 0 0 rfl, fill_snoc] at own5
              have hl5 : m + q + 1 = (d ++ List.replicate (q + 1) 0).length := by rw [List.length_append, List.length_replicate, ← Hm.out]; omega
              rw [hl5] at own5
              have T5 := T4.grow hgrow5 own5 where5
              obtain ⟨g6, cap6, rfl, _, _⟩ := own5.some (by rw [← hl5]; omega)
              rw [← hl5] at T5
              clear own5 hgrow5 where5 hT T4
              rw [← hl5]
              refine ⟨⟨q + 1, by omega, T5⟩, ?_⟩
              show 100 - (m + q + 1) < 100 - (m + q)
              omega
            · have hqm : q = L - m := by omega
              have j1 : decide (m + q < L) = false := by simp; omega
              obtain ⟨D, hD⟩ : ∃ D, D = d ++ List.replicate q 0 := ⟨_, rfl⟩
              have hmq : m + q = L := by omega
              have hDl : Hid (D.length = L) := by show _ = _; rw [hD, ← hmq]; exact Hl4.out
              have hDf : D = fillTo (digitsOf p k) A.length := by rw [hD, fillTo, hAl.out, ← Hd.out, ← Hm.out, hqm]
              have hfin : aboveD x k p = gtTop A D L := by
                have hu : aboveD x k p = gtTop (fillTo (powD x k) (digitsOf p k).length) (fillTo (digitsOf p k) (fillTo (powD x k) (digitsOf p k).length).length) (fillTo (powD x k) (digitsOf p k).length).length := rfl
                rw [hu, ← HAf.out, ← hDf, hAl.out]
              have Hfin := Lib.hid hfin
              rw [hmq] at j1
              rw [← hD, hmq] at T4
              rw [hmq]
              clear hqm hDf hD Hl4 hlt hq hmq hfin
              have RA : PRow wr g4 103 .u64 A := by
                have := T4.right
                rw [hAl.out] at this
                exact PRow.ofN (l := A) (by rw [hAl.out]; exact this)
              have RD : PRow wr g5 103 .u64 D := by
                have := T4.left
                rw [hDl.out] at this
                exact PRow.ofN (l := D) (by rw [hDl.out]; exact this)
              clear T4
              have jL : (L : Int) ≤ 20 := by omega
              have jL1 : (0 : Int) < L := by omega
              go_wp2_with fail
              refine wp_world (fun w1 => PRow w1 g4 103 .u64 A ∧ PRow w1 g5 103 .u64 D ∧ Keep NoB w w1) ⟨RA, RD, K⟩ ?_
              clear RA RD K
              intro w7 hw7
              go_loopw [9] (fun i wr => ∃ t : Nat, t ≤ L ∧ i = .int .i64 ((t : Int) - 1) ∧ Hid (gtTop A D t = gtTop A D L) ∧ PRow wr g4 103 .u64 A ∧ PRow wr g5 103 .u64 D ∧ Keep NoB w wr) (fun i _ => (intOf i + 1).toNat)
              case atStart => exact ⟨L, by omega, rfl, rfl, hw7⟩
              case round =>
                clear hw7 w7
                obtain ⟨t, ht, rfl, hgt, RA, RD, K⟩ := hrel
                by_cases hz : t = 0
                · subst hz
                  have hr : aboveD x k p = false := by rw [Hfin.out, ← hgt.out]; rfl
                  have Hr := Lib.hid hr
                  clear hr
                  go_wp2_with fail
                  go_ret
                  exact ⟨congrArg (fun b => Ending.returned (.bool b)) Hr.out.symm, K⟩
                · obtain ⟨t', rfl⟩ : ∃ t', t = t' + 1 := ⟨t - 1, by omega⟩
                  have e1 : ((t' + 1 : Nat) : Int) - 1 = (t' : Int) := by omega
                  rw [e1]
                  have ca := RA.cell t' (by rw [hAl.out]; omega)
                  have cd := RD.cell t' (by rw [hDl.out]; omega)
                  have jt : (t' : Int) < L := by omega
                  have hgt2 := hgt.out
                  rw [gtTop] at hgt2
                  obtain ⟨x1, hx1⟩ : ∃ y, y = A.getD t' 0 := ⟨_, rfl⟩
                  obtain ⟨x2, hx2⟩ : ∃ y, y = D.getD t' 0 := ⟨_, rfl⟩
                  rw [← hx1] at ca
                  rw [← hx2] at cd
                  rw [← hx1, ← hx2] at hgt2
                  have Hg2 := Lib.hid hgt2
                  clear hgt2 hx1 hx2 hz e1
                  by_cases heq : x1 = x2
                  · subst heq
                    have hn : Hid (gtTop A D t' = gtTop A D L) := by
                      have := Hg2.out
                      rw [if_pos rfl] at this
                      exact this
                    clear Hg2
                    have j2 : ((x1 : Int) != x1) = false := by simp
                    go_wp2_with fail
                    go_quiet (fail)
                    go_wp2_with fail
                    exact ⟨⟨t', by omega, rfl, hn, RA.drewN nq, RD.drewN nq, K.drewN nq⟩, by simp [intOf]⟩
                  · have j2 : ((x1 : Int) != x2) = true := by simp; omega
                    have hr : aboveD x k p = decide (x2 < x1) := by
                      have := Hg2.out
                      rw [if_neg heq] at this
                      rw [Hfin.out, this]
                    have Hr := Lib.hid hr
                    clear hr
                    go_wp2_with fail
                    go_quiet (fail)
                    go_wp2_with fail
                    go_quiet (fail)
                    go_wp2_with fail
                    go_ret
                    refine ⟨congrArg (fun b => Ending.returned (.bool b)) ?_, (K.drewN _).drewN _⟩
                    rw [Hr.out]
end Go.Proofs.YtndcaaikjcicgaaDoor
