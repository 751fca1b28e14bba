/-
  DERIVED. The walk of the law NearMoved.
-/
import Derived.Test.YtcjilojkhmondaaDoorMovedK
import Derived.Deep.CutBlock
import Derived.Deep.DeepCutAuto
import Derived.RegionTactic
import Derived.Deep.RegionWith
import Derived.Deep.RegionHeld3
set_option linter.unusedVariables false
set_option linter.unusedSimpArgs false
namespace Go.Proofs.YtcjilojkhmondaaDoor
open Go.RowKit Go.Cof Go.Sort Go.Shelf
theorem items_keep {w w' : World} {v : Value} {l : List ItemV} (I : Items w v l) (K : Keep NoB w w') : Items w' v l := ⟨I.rows.keep K (fun _ _ x => x), fun x hx => (I.nums x hx).keep K (fun _ _ x => x)⟩
theorem items_from {w w' : World} {base : Nat} {v v0 : Value} {l L : List ItemV} (I : Items w v0 l) (K : Keep NoB w w') (O : OwnsN w' base 34 3 v L.length (L.flatMap encItem)) (hs : ∀ x ∈ L, x ∈ l) : Items w' v L :=
  ⟨RowsK.ofN encItem_len O, fun x hx => (I.nums x (hs x hx)).keep K (fun _ _ x => x)⟩
set_option maxRecDepth 100000 in
set_option maxHeartbeats 8000000 in
theorem nearMoved_any (v va : Value) (l : List ItemV) (at_ : List Int) (k by_ to_ : Int) (w : World) (I : Items w v l) (N : Nums w va at_) (hl : l.length ≤ maxLen) (ha : at_.length ≤ maxLen) :
    Calls Tryd.prog 3 #[v, va, .int .i64 k, .int .i64 by_, .int .i64 to_] w fun e w' => e = .returned (.bool true) ∧ Keep NoB w w' := by
  have K0 : Keep NoB w ((w.alloc (.cells #[.int .i64 by_] 3)).alloc (.cells #[.int .i64 to_] 3)) := ((Keep.refl _ _).alloc _).alloc _
  have g8 : ((w.alloc (.cells #[.int .i64 by_] 3)).alloc (.cells #[.int .i64 to_] 3)).heap[w.heap.size]? = some (.cells #[.int .i64 by_] 3 (0, 0)) := by
    rw [Below.heap_alloc _ _ _ (by simp)]; exact heap_alloc_new w _
  have g9 : ((w.alloc (.cells #[.int .i64 by_] 3)).alloc (.cells #[.int .i64 to_] 3)).heap[w.heap.size + 1]? = some (.cells #[.int .i64 to_] 3 (0, 0)) := by
    have := heap_alloc_new (w.alloc (.cells #[.int .i64 by_] 3)) (.cells #[.int .i64 to_] 3)
    rwa [show (w.alloc (.cells #[.int .i64 by_] 3)).heap.size = w.heap.size + 1 by simp] at this
  obtain ⟨w0, hw0⟩ : ∃ w0, w0 = (w.alloc (.cells #[.int .i64 by_] 3)).alloc (.cells #[.int .i64 to_] 3) := ⟨_, rfl⟩
  rw [← hw0] at K0 g8 g9
  obtain ⟨b8, hb8⟩ : ∃ b, b = w.heap.size := ⟨_, rfl⟩
  rw [← hb8] at g8 g9
  have hh := held_any v l w0 (items_keep I K0) hl
  have Hw0 := Lib.hid hw0
  cases hB : heldB l with
  | false =>
    rw [hB] at hh
    clear hB
    go_enter Tryd.func3, Tryd.ntmps3
    go_wp2_with fail
    rw [← Hw0.out]
    refine hh.mono ?_
    rintro e w' ⟨rfl, K⟩
    go_wp2_with fail
    go_ret
    exact ⟨rfl, K0.thenN K⟩
  | true =>
  rw [hB] at hh
  have hl65 : l.length ≤ 65 := by
    rw [heldB, Bool.and_eq_true, decide_eq_true_eq] at hB
    exact hB.1
  have hns : ∀ x ∈ l, x.ns.length ≤ 1000000 := by
    intro x hx
    rw [heldB, Bool.and_eq_true, Bool.not_eq_true'] at hB
    have h := hB.2
    rw [List.any_eq_false] at h
    have := h x hx
    simp [wideB] at this
    omega
  clear hB
  obtain ⟨pa, ca, rfl⟩ := N.len
  by_cases h12 : (12 : Int) < at_.length
  · go_enter Tryd.func3, Tryd.ntmps3
    go_wp2_with fail
    rw [← Hw0.out]
    refine hh.mono ?_
    rintro e w' ⟨rfl, K⟩
    go_wp2_with fail
    go_ret
    exact ⟨rfl, K0.thenN K⟩
  have d12 : decide ((12 : Int) < at_.length) = false := by simpa using h12
  have ha2 : at_.length ≤ 12 := by omega
  obtain ⟨na, hna⟩ : ∃ n, n = at_.length := ⟨_, rfl⟩
  rw [← hna] at d12 N
  rw [← hna]
  have Hna := Lib.hid hna
  have HI := Lib.hid I
  have HN := Lib.hid N
  have Hb8 := Lib.hid hb8
  clear h12 hw0 hna I N
  clear hb8
  go_enter Tryd.func3, Tryd.ntmps3
  go_wp2_with fail
  rw [← Hw0.out, ← Hb8.out]
  refine hh.mono ?_
  rintro e w1 ⟨rfl, K1⟩
  clear hh
  go_wp2_with fail
  refine (found_any w1).mono ?_
  rintro e w2 ⟨rfl, K2⟩
  have K2' : Keep NoB w0 w2 := K1.thenN K2
  go_wp2_with fail
  refine (keepRight_any v l w2 (items_keep HI.out (K0.thenN K2')) (by omega) hns).mono ?_
  rintro e w3 ⟨v1, rfl, O3, K3⟩
  have K3' : Keep NoB w0 w3 := K2'.thenN K3
  have Kw3 : Keep NoB w w3 := K0.thenN K3'
  have g8' := K3'.heap g8 (fun x => x)
  have g9' := K3'.heap g9 (fun x => x)
  have c8 : w3.cell? ⟨b8, 0, none⟩ = some (.int .i64 by_) := by rw [cell_of_row _ _ _ _ _ (0, 0) g8']; rfl
  have c9 : w3.cell? ⟨b8 + 1, 0, none⟩ = some (.int .i64 to_) := by rw [cell_of_row _ _ _ _ _ (0, 0) g9']; rfl
  have z8 : w3.frozen? ⟨b8, 0, none⟩ = false := by simp [World.frozen?, g8']
  have z9 : w3.frozen? ⟨b8 + 1, 0, none⟩ = false := by simp [World.frozen?, g9']
  have hs2 : b8 + 1 < w2.heap.size := Nat.lt_of_lt_of_le (lt_of_heap g9) K2'.size
  have hs3 : b8 + 1 < w3.heap.size := lt_of_heap g9'
  have hsw : w.heap.size ≤ w2.heap.size := (K0.thenN K2').size
  have hok := rightL_ok l
  obtain ⟨L, hL⟩ : ∃ L, L = rightL l := ⟨_, rfl⟩
  rw [← hL] at O3 hok
  have lt1 := pickN_lt by_ 101 (by omega)
  have lt2 := pickN_lt to_ 101 (by omega)
  have r1 : IntKind.i64.wrap (((pickN by_ 101 : Nat) : Int) - 50) = ((pickN by_ 101 : Nat) : Int) - 50 := IntWalk.i64_in _ (by omega)
  have r2 : IntKind.i64.wrap (((pickN to_ 101 : Nat) : Int) - 50) = ((pickN to_ 101 : Nat) : Int) - 50 := IntWalk.i64_in _ (by omega)
  obtain ⟨p, hp⟩ : ∃ p, p = ((pickN by_ 101 : Nat) : Int) - 50 := ⟨_, rfl⟩
  obtain ⟨q, hq⟩ : ∃ q, q = ((pickN to_ 101 : Nat) : Int) - 50 := ⟨_, rfl⟩
  have hpb : -50 ≤ p ∧ p ≤ 50 := by omega
  have hqb : -50 ≤ q ∧ q ≤ 50 := by omega
  have Hp := Lib.hid hp
  have Hq := Lib.hid hq
  have HO3 := Lib.hid O3
  have Hok := Lib.hid hok
  clear O3 hok hL hp hq K1 K2 g8 g9 K3 K2' lt1 lt2
  go_upto_region 6 with (fail)
  go_cut [] (fun wx => ∃ m, wx = ((w3.drewN m).setCell ⟨b8, 0, none⟩ (.int .i64 p)).setCell ⟨b8 + 1, 0, none⟩ (.int .i64 q))
  case first =>
    go_region_with (go_at_call 11; refine (pick_any _ _ 101 rfl (by omega) (by omega) _).mono ?_; rintro e wz ⟨rfl, hwz⟩; subst wz)
    all_goals go_wp2_with fail
    all_goals go_meet
    all_goals exact ⟨1, by rw [Hp.out, Hq.out]; rfl⟩
  case rest =>
  obtain ⟨m, hw4⟩ := hcut
  obtain ⟨w4, rfl⟩ : ∃ w4, w4 = wc := ⟨_, rfl⟩
  have Kw4 : Keep NoB w w4 := by rw [hw4]; exact ((Kw3.drewN m).setCell (p := ⟨b8, 0, none⟩) (.inr (by rw [Hb8.out]; exact Nat.le_refl _)) _).setCell (p := ⟨b8 + 1, 0, none⟩) (.inr (by rw [Hb8.out]; exact Nat.le_succ _)) _
  have K34 : Keep (fun b => b = b8 ∨ b = b8 + 1) w3 w4 := by rw [hw4]; exact (((Keep.refl _ w3).drewN m).setCell (p := ⟨b8, 0, none⟩) (.inl (.inl rfl)) _).setCell (p := ⟨b8 + 1, 0, none⟩) (.inl (.inr rfl)) _
  have O4 := HO3.out.keep K34 (fun b hb hS => by
    have := (HO3.out.lt b hb).1
    rcases hS with h | h <;> omega)
  have q9 : w4.cell? ⟨b8 + 1, 0, none⟩ = some (.int .i64 q) := by
    rw [hw4]
    refine World.cell?_setCell_same' _ _ _ ?_
    have : ((w3.drewN m).setCell ⟨b8, 0, none⟩ (.int .i64 p)).cell? ⟨b8 + 1, 0, none⟩ = w3.cell? ⟨b8 + 1, 0, none⟩ := ((((Keep.refl (OneB b8) w3).drewN m).set1 0 _)).cell (p := ⟨b8 + 1, 0, none⟩) hs3 (fun h => by have : b8 + 1 = b8 := h; omega)
    rw [this, c9]; rfl
  have q8 : w4.cell? ⟨b8, 0, none⟩ = some (.int .i64 p) := by
    rw [hw4, ((Keep.refl (OneB (b8 + 1)) ((w3.drewN m).setCell ⟨b8, 0, none⟩ (.int .i64 p))).set1 0 _).cell (p := ⟨b8, 0, none⟩) (by simp [World.setCell, World.drewN]; omega) (fun h => by have : b8 = b8 + 1 := h; omega)]
    exact World.cell?_setCell_same' _ _ _ (by show (w3.cell? ⟨b8, 0, none⟩).isSome = true; rw [c8]; rfl)
  have hs4 : b8 + 1 < w4.heap.size := by rw [hw4]; simp [World.setCell, World.drewN]; omega
  have HO4 := Lib.hid O4
  clear hw4 K34 O4 HO3 K3' Kw3 g8' g9' c8 c9 z8 z9 r1 r2 hs3
  have hst : Sem.run Tryd.prog (store ⟨w4.heap.size, 0, none⟩ (.func (.func 13) #[] #[])) (w4.alloc (.cells #[.nilFunc] 31)) = .ok () ((w4.alloc (.cells #[.nilFunc] 31)).setCell ⟨w4.heap.size, 0, none⟩ (.func (.func 13) #[] #[])) := by
    rw [run_store _ _ _ _ _ rfl]
    have h1 : (w4.alloc (.cells #[.nilFunc] 31)).heap[w4.heap.size]? = some (.cells #[.nilFunc] 31 (0, 0)) := heap_alloc_new w4 _
    have h2 : (w4.alloc (.cells #[.nilFunc] 31)).cell? ⟨w4.heap.size, 0, none⟩ = some .nilFunc := by rw [cell_of_row _ _ _ _ _ (0, 0) h1]; rfl
    have h3 : (w4.alloc (.cells #[.nilFunc] 31)).frozen? ⟨w4.heap.size, 0, none⟩ = false := by unfold World.frozen?; simp only [h1]; rfl
    rw [h2]
    simp [h3]
  have Kw5 : Keep NoB w4 ((w4.alloc (.cells #[.nilFunc] 31)).setCell ⟨w4.heap.size, 0, none⟩ (.func (.func 13) #[] #[])) := ((Keep.refl NoB w4).alloc _).setCell (p := ⟨w4.heap.size, 0, none⟩) (.inr (Nat.le_refl _)) _
  have q12 : ((w4.alloc (.cells #[.nilFunc] 31)).setCell ⟨w4.heap.size, 0, none⟩ (.func (.func 13) #[] #[])).cell? ⟨w4.heap.size, 0, none⟩ = some (.func (.func 13) #[] #[]) := World.cell?_setCell_same' _ _ _ (by rw [cell_of_row _ _ _ _ _ (0, 0) (heap_alloc_new w4 _)]; rfl)
  obtain ⟨w5, hw5⟩ : ∃ w5, w5 = (w4.alloc (.cells #[.nilFunc] 31)).setCell ⟨w4.heap.size, 0, none⟩ (.func (.func 13) #[] #[]) := ⟨_, rfl⟩
  rw [← hw5] at hst Kw5 q12
  have hs5 : w4.heap.size < w5.heap.size := by rw [hw5]; simp [World.setCell]
  obtain ⟨b12, hb12⟩ : ∃ b, b = w4.heap.size := ⟨_, rfl⟩
  have O5 := HO4.out.keep Kw5 (fun _ _ x => x)
  have Kw5' : Keep NoB w w5 := Kw4.thenN Kw5
  have I5 : Items w5 v1 L := items_from HI.out Kw5' O5 Hok.out.sub
  have hav : ∀ x ∈ L, ∃ p n c, x.av = .slice p n c := fun x hx => by obtain ⟨p, c, h⟩ := (I5.nums x hx).len; exact ⟨p, _, c, h⟩
  have hLl : L.length ≤ 65 := Nat.le_trans Hok.out.len hl65
  have hdel := deleteItem_any 17 #[.pointer (some ⟨b12, 0, none⟩)] (fun x => !insideB x.ns) v1 L w2.heap.size w5 O5 hav (by omega)
    (fun x hx W KW => outside_any x b12 W ((HI.out.nums x (Hok.out.sub x hx)).keep (Kw5'.trans KW (fun i hi hS => absurd hi (Nat.not_lt.2 (Nat.le_trans hsw (O5.lt i hS).1)))) (fun _ _ x => x))
      (hns x (Hok.out.sub x hx)) (Nat.lt_of_lt_of_le (by rw [hb12]; exact hs5) KW.size) (by rw [KW.cell (p := ⟨b12, 0, none⟩) (by rw [hb12]; exact hs5) (fun hS => by have := (O5.lt b12 hS).2; have h3 := (HO4.out.lt b12 hS).2; omega), hb12]; exact q12))
    (enters_of Tryd.func17 (by kernel_rfl) rfl)
  obtain ⟨L2, hL2⟩ : ∃ L2, L2 = L.filter (fun x => !!insideB x.ns) := ⟨_, rfl⟩
  rw [← hL2] at hdel
  have hsub : ∀ x ∈ L2, x ∈ L ∧ insideB x.ns = true := fun x hx => by
    rw [hL2, List.mem_filter] at hx
    exact ⟨hx.1, by simpa using hx.2⟩
  have hL2l : L2.length ≤ 65 := by rw [hL2]; exact Nat.le_trans (List.length_filter_le _ _) hLl
  have hns2 : ∀ x ∈ L2, x.ns.length ≤ 1000000 := fun x hx => hns x (Hok.out.sub x (hsub x hx).1)
  have hb12' : w.heap.size ≤ b12 := by rw [hb12]; exact Nat.le_trans (Nat.le_of_lt (by have := Hb8.out; omega)) (Nat.le_of_lt hs4)
  have Hdel := Lib.hid hdel
  have Hsub := Lib.hid hsub
  have Hav := Lib.hid hav
  have HO5 := Lib.hid O5
  have Hw5 := Lib.hid hw5
  have hq12 : w5.cell? ⟨b12, 0, none⟩ = some (.func (.func 13) #[] #[]) := by rw [hb12]; exact q12
  have Hb12 := Lib.hid hb12
  clear hb12
  have hv1 : ∀ b, v1.ownBlock = some b → b < b12 := fun b hb => by rw [Hb12.out]; exact (HO4.out.lt b hb).2
  have q8' := (Kw5.cell (p := ⟨b8, 0, none⟩) (show b8 < w4.heap.size by omega) (fun x => x)).trans q8
  have q9' := (Kw5.cell (p := ⟨b8 + 1, 0, none⟩) hs4 (fun x => x)).trans q9
  have hb5 : b12 < w5.heap.size := by rw [Hb12.out]; exact hs5
  clear hdel hL2 hsub hav O5 I5 hw5 q12 HO4 Kw5 hns hLl q8 q9
  go_wp2_with fail
  rw [← Hb12.out]
  refine Hdel.out.mono ?_
  rintro e w6 ⟨v2, rfl, R6, hb6, K6⟩
  have K6' : Keep NoB w w6 := Kw5'.trans K6 (fun i hi hS => absurd hi (Nat.not_lt.2 (Nat.le_trans hsw (HO5.out.lt i hS).1)))
  have ne6 : ∀ b, b < w2.heap.size → ¬ v1.ownBlock = some b := fun b hb hS => by have := (HO5.out.lt b hS).1; omega
  have p8 := (K6.cell (p := ⟨b8, 0, none⟩) (show b8 < w5.heap.size by omega) (ne6 _ (by show b8 < _; omega))).trans q8'
  have p9 := (K6.cell (p := ⟨b8 + 1, 0, none⟩) (show b8 + 1 < w5.heap.size by omega) (ne6 _ hs2)).trans q9'
  have p12 := (K6.cell (p := ⟨b12, 0, none⟩) hb5 (fun hS => Nat.lt_irrefl _ (hv1 b12 hS))).trans hq12
  have I6 : Items w6 v2 L2 := ⟨R6, fun x hx => (HI.out.nums x (Hok.out.sub x (Hsub.out x hx).1)).keep K6' (fun _ _ x => x)⟩
  have N6 := HN.out.keep K6' (fun _ _ x => x)
  have hz6 : b12 < w6.heap.size := Nat.lt_of_lt_of_le hb5 K6.size
  have hsz6 : b8 + 1 < w6.heap.size := by have := K6.size; omega
  have hnum : ∀ x ∈ L2, numOk x.ns ∧ x.ns.length ≤ 100 := fun x hx => by
    obtain ⟨a, b, e, h1, h2⟩ := inside_two (Hsub.out x hx).2
    rw [e]
    refine ⟨fun n hn => ?_, by simp⟩
    simp only [List.mem_cons, List.not_mem_nil, or_false] at hn
    rcases hn with rfl | rfl <;> omega
  have Hnum := Lib.hid hnum
  clear hnum Kw5' Kw4 hst hs5 hs4 q8' q9' hq12 hv1 ne6 hb6 K6 R6 hb5 K0 hsw hs2 hb12'
  go_wp2_with fail
  have hin := inside_any _ at_ w6 N6 (by omega)
  obtain ⟨B, hB⟩ : ∃ B, B = insideB at_ := ⟨_, rfl⟩
  rw [← hB] at hin
  refine hin.mono ?_
  rintro e w7 ⟨rfl, hw7⟩
  subst w7
  clear hin
  cases B with
  | false =>
    go_wp2_with fail
    all_goals
      go_ret
      exact ⟨rfl, K6'⟩
  | true =>
  obtain ⟨c, d, hat, hc, hd⟩ := inside_two hB.symm
  clear hB
  by_cases hk1 : k < 1
  · go_wp2_with fail
    go_ret
    exact ⟨rfl, K6'⟩
  by_cases hk60 : 60 < k
  · have dk1 : decide (k < 1) = false := by simpa using hk1
    go_wp2_with fail
    go_ret
    exact ⟨rfl, K6'⟩
  have dk1 : decide (k < 1) = false := by simpa using hk1
  have dk60 : decide (60 < k) = false := by simpa using hk60
  obtain ⟨n, hn⟩ : ∃ n, n = L2.length := ⟨_, rfl⟩
  obtain ⟨pv, cv, rfl⟩ := I6.rows.len
  rw [← hn] at I6 hL2l
  rw [← hn]
  have Hn := Lib.hid hn
  have Hat := Lib.hid hat
  clear hn hat
  go_wp2_with fail
  obtain ⟨i0, hi0, hz0, hs0, hb0⟩ := item_info
  go_loopw [13, 14] (fun ov iv wr => ∃ (j : Nat) (o : Value) (M : List ItemV), iv = .int .i64 j ∧ o = ov ∧ j ≤ n ∧ Hid (OwnsN wr w6.heap.size 34 3 o M.length (M.flatMap encItem)) ∧ Hid (MovL wr 3 p q (L2.take j) M) ∧ Keep NoB w6 wr) (fun _ iv _ => n - (intOf iv).toNat)
  case atStart => exact ⟨0, _, [], rfl, rfl, by omega, Lib.hid (OwnsN.nil _ _ _ _), Lib.hid ⟨by simp, fun t x y h => by simp at h⟩, Keep.refl _ _⟩
  case round =>
    obtain ⟨j, o, M, rfl, rfl, hj, O, hM, K⟩ := hrel
    by_cases hlt : j < n
    · have j1 : (j : Int) < n := by omega
      have Ir := items_keep I6 K
      obtain ⟨b, off, rfl, -, hb, hcell⟩ := Ir.rows.at (by have := Hn.out; omega)
      obtain ⟨x, hx⟩ : ∃ x, L2[j]? = some x := ⟨_, List.getElem?_eq_getElem (by have := Hn.out; omega)⟩
      have hra := hcell j x hx
      have hxm : x ∈ L2 := List.mem_of_getElem? hx
      have Nx := I6.nums x hxm
      obtain ⟨a1, a2, he, ha1, ha2'⟩ := inside_two (Hsub.out x hxm).2
      have htk : L2.take (j + 1) = L2.take j ++ [x] := by rw [List.take_succ_eq_append_getElem (List.getElem?_eq_some_iff.1 hx).1, (List.getElem?_eq_some_iff.1 hx).2]
      have Htk := Lib.hid htk
      obtain ⟨nm, tg, av, ns⟩ := x
      simp only at Nx he
      subst he
      have c0 : wr.cell? ⟨b, off + j * 3, none⟩ = some (.string nm) := hra 0 _ rfl
      have c1 : wr.cell? ⟨b, off + j * 3 + 1, none⟩ = some (.string tg) := hra 1 _ rfl
      have c2 : wr.cell? ⟨b, off + j * 3 + 2, none⟩ = some av := hra 2 _ rfl
      obtain ⟨pn, cn, rfl⟩ := Nx.len
      have hmv := fun W (KW : Keep NoB w6 W) => moved_any _ a1 a2 p q b8 (b8 + 1) W (Nx.keep KW (fun _ _ x => x)) ((KW.cell (p := ⟨b8, 0, none⟩) (show b8 < w6.heap.size by omega) (fun x => x)).trans p8) ((KW.cell (p := ⟨b8 + 1, 0, none⟩) hsz6 (fun x => x)).trans p9) (by omega) (by omega)
      have Hmv := Lib.hid hmv
      clear hcell hra hx hxm htk hmv Ir Nx
      go_wp2_with fail
      refine (Hmv.out _ (K.alloc _)).mono ?_
      rintro e w7 ⟨rfl, hbl, K7⟩
      have gX := K7.heap (heap_alloc_new wr (.cells #[.string nm, .string tg, .slice pn 2 cn] 34)) (fun x => x)
      have e0 : w7.cell? ⟨wr.heap.size, 0, none⟩ = some (.string nm) := by rw [cell_of_row _ _ _ _ _ (0, 0) gX]; rfl
      have e1 : w7.cell? ⟨wr.heap.size, 1, none⟩ = some (.string tg) := by rw [cell_of_row _ _ _ _ _ (0, 0) gX]; rfl
      have e2 : w7.cell? ⟨wr.heap.size, 2, none⟩ = some (.slice pn 2 cn) := by rw [cell_of_row _ _ _ _ _ (0, 0) gX]; rfl
      have z2 : w7.frozen? ⟨wr.heap.size, 2, none⟩ = false := by simp [World.frozen?, gX]
      have hs7 : wr.heap.size + 1 < w7.heap.size := by have := lt_of_heap hbl; simpa using this
      have Kr7 : Keep NoB wr w7 := ((Keep.refl NoB wr).alloc _).thenN K7
      obtain ⟨X, hX⟩ : ∃ X, X = wr.heap.size := ⟨_, rfl⟩
      have hXs : (wr.alloc (.cells #[.string nm, .string tg, .slice pn 2 cn] 34)).heap.size = X + 1 := by rw [hX]; simp
      rw [hXs] at hbl
      rw [← hX] at e0 e1 e2 z2 hs7
      have Kr8 : Keep NoB wr (w7.setCell ⟨X, 2, none⟩ (.slice (some ⟨X + 1, 0, none⟩) 2 2)) := Kr7.setCell (p := ⟨X, 2, none⟩) (.inr (by rw [hX]; exact Nat.le_refl _)) _
      have hbl8 : (w7.setCell ⟨X, 2, none⟩ (.slice (some ⟨X + 1, 0, none⟩) 2 2)).heap[X + 1]? = some (.cells #[.int .i64 (a1 + p), .int .i64 (a2 + q)] 3 (0, 0)) := by
        rw [Below.heap_setCell _ _ _ _ (by show X + 1 ≠ X; omega)]; exact hbl
      have ys8 : (w7.setCell ⟨X, 2, none⟩ (.slice (some ⟨X + 1, 0, none⟩) 2 2)).heap.size = w7.heap.size := by simp [World.setCell]
      have hMl : M.length ≤ 65 := by have := hM.out.1; rw [List.length_take] at this; omega
      rw [hXs]
      rw [← hX]
      have HX := Lib.hid hX
      have hO8 := Lib.hid ((O.out.keep Kr8 (fun _ _ x => x)))
      have hws : w6.heap.size ≤ w7.heap.size := Nat.le_trans K.size Kr7.size
      clear hX hXs gX
      go_wp2_with (at_builtin; refine wpList_append_n _ rfl _ _ 22 rfl w6.heap.size 34 i0 _ 3 56 Tryd.underlying22 hi0 hz0 hs0 hb0 rfl (by decide) o _ _ rfl (hO8.out.alloc _) ⟨w7.heap.size, 0, none⟩ 1 1 [.string nm, .string tg, .slice (some ⟨X + 1, 0, none⟩) 2 2] rfl (by simp [World.setCell]) (by have h := cells_new (w7.setCell ⟨X, 2, none⟩ (.slice (some ⟨X + 1, 0, none⟩) 2 2)) [.string nm, .string tg, .slice (some ⟨X + 1, 0, none⟩) 2 2] 34; rw [ys8] at h; exact h) (encItem_one3 nm tg _ 2 2) (by unfold maxLen; omega) (by omega) (by simp [World.setCell]; omega) ?_; intro v' w' own' hgrow)
      have hX := HX.out
      have hrow : ∀ B, o.ownBlock = some B → B < wr.heap.size := fun B hB => (O.out.lt B hB).2
      have K9 : Keep NoB wr ((w7.setCell ⟨X, 2, none⟩ (.slice (some ⟨X + 1, 0, none⟩) 2 2)).alloc (.cells #[.string nm, .string tg, .slice (some ⟨X + 1, 0, none⟩) 2 2] 34)) := Kr8.alloc _
      have K6w : Keep NoB w6 w' := (K.thenN K9).grown hgrow (fun B hB => .inr (hO8.out.lt B hB).1)
      have hint : ∀ (B : Nat) (cs : Array Value), wr.heap[B]? = some (Obj.cells cs 3 (0, 0)) → w'.heap[B]? = wr.heap[B]? := by
        intro B cs hB
        have hBl := lt_of_heap hB
        rw [hgrow.block B (Nat.lt_of_lt_of_le hBl K9.size) (fun e => ?_)]
        · exact K9.block B hBl (fun x => x)
        · rcases O.out.2 with ⟨hv, _⟩ | ⟨g, cap, cur, fz, hv, _, hg, _⟩
          · rw [hv] at e; cases e
          · rw [hv] at e
            have : B = g := Option.some.inj e
            subst this
            rw [hB] at hg
            have := Option.some.inj hg
            simp only [Obj.cells.injEq] at this
            exact absurd this.2.1 (by decide)
      have hnew : w'.heap[X + 1]? = some (.cells #[.int .i64 (a1 + p), .int .i64 (a2 + q)] 3 (0, 0)) := by
        rw [hgrow.block (X + 1) (by have := K9.size; simp [World.setCell]; omega) (fun e => by have := hrow (X + 1) e.symm; omega)]
        rw [Below.heap_alloc _ _ _ (by rw [ys8]; exact hs7)]
        exact hbl8
      have hml := hM.out.snoc (x := ⟨nm, tg, .slice pn 2 cn, [a1, a2]⟩) (y := ⟨nm, tg, .slice (some ⟨X + 1, 0, none⟩) 2 2, [a1 + p, a2 + q]⟩)
      have hM2 : MovL w' 3 p q (L2.take (j + 1)) (M ++ [⟨nm, tg, .slice (some ⟨X + 1, 0, none⟩) 2 2, [a1 + p, a2 + q]⟩]) := by
        rw [Htk.out]
        refine MovL.snoc ⟨hM.out.1, fun t x y h1 h2 => (hM.out.2 t x y h1 h2).keep hint⟩ ⟨rfl, rfl, X + 1, rfl, hnew⟩
      refine ⟨⟨j + 1, v', _, by go_num, rfl, by omega, Lib.hid ?_, Lib.hid hM2, K6w⟩, by simp [intOf]; omega⟩
      rw [List.length_append, List.flatMap_append]
      exact own'
    · obtain rfl : j = n := by omega
      have hML : MovL wr 3 p q L2 M := by
        have := hM.out
        rwa [List.take_of_length_le (by rw [← Hn.out]; exact Nat.le_refl _)] at this
      have hMl : M.length = j := by rw [hML.1]; exact Hn.out.symm
      have Ir := items_keep I6 K
      have Nr := N6.keep K (fun _ _ x => x)
      have IM : Items wr o M := ⟨RowsK.ofN encItem_len O.out, fun y hy => by
        obtain ⟨t, ht, rfl⟩ := List.getElem_of_mem hy
        exact (hML.2 t _ _ (List.getElem?_eq_getElem (by rw [← hML.1]; exact ht)) (List.getElem?_eq_getElem ht)).nums⟩
      have hMns : ∀ y ∈ M, y.ns.length ≤ 1000000 := fun y hy => by
        obtain ⟨t, ht, rfl⟩ := List.getElem_of_mem hy
        rw [(hML.2 t _ _ (List.getElem?_eq_getElem (by rw [← hML.1]; exact ht)) (List.getElem?_eq_getElem ht)).ns]
        simp
      have htop := hML.top (fun x hx => (Hsub.out x hx).2) c d k
      have hat := Hat.out
      subst hat
      have hna : na = 2 := Hna.out
      subst hna
      have hask : ∀ e f : Int, (-1000 ≤ e ∧ e ≤ 1000) → (-1000 ≤ f ∧ f ≤ 1000) → ∀ kk : Int, 1 ≤ kk → kk ≤ 60 → askB 2 [e, f] kk = true := by
        intro e f h1 h2 kk h3 h4
        simp only [askB, List.any_cons, List.any_nil, farB, Bool.and_eq_true, decide_eq_true_eq, Bool.not_eq_true', Bool.or_eq_false_iff, decide_eq_false_iff_not, Bool.or_false]
        refine ⟨⟨⟨rfl, ?_⟩, h3⟩, h4⟩
        omega
      have Hask := Lib.hid hask
      have Htop := Lib.hid htop
      have K8 := K6'.thenN K
      clear hML O hM hask htop
      go_wp2_with fail
      refine (top_yes 2 _ L2 _ [c, d] k ⟨#[]⟩ wr Ir Nr (by have := Hn.out; omega) (by show 2 ≤ 1000000; omega) hns2 (Hask.out c d (by omega) (by omega) k hk1 hk60)).mono ?_
      rintro e w8 ⟨v3, rfl, R8, hb8', K9⟩
      have K89 : Keep NoB w6 w8 := K.thenN K9
      go_wp2_with fail
      refine (moved_any _ c d p q b8 (b8 + 1) w8 (N6.keep K89 (fun _ _ x => x)) ((K89.cell (p := ⟨b8, 0, none⟩) (show b8 < w6.heap.size by omega) (fun x => x)).trans p8) ((K89.cell (p := ⟨b8 + 1, 0, none⟩) hsz6 (fun x => x)).trans p9) (by omega) (by omega)).mono ?_
      rintro e w9 ⟨rfl, hbm, K10⟩
      have Nm : Nums w9 (.slice (some ⟨w8.heap.size, 0, none⟩) 2 2) [c + p, d + q] := by
        refine .inr ⟨w8.heap.size, 0, 2, rfl, lt_of_heap hbm, fun i hi => ?_⟩
        rw [Nat.zero_add, cell_of_row _ _ i _ _ (0, 0) hbm]
        have : i = 0 ∨ i = 1 := by simp at hi; omega
        rcases this with rfl | rfl <;> rfl
      have IM9 := items_keep (items_keep IM K9) K10
      have htc := top_yes 2 o M _ [c + p, d + q] k ⟨#[]⟩ w9 IM9 Nm (by omega) (by show 2 ≤ 1000000; omega) hMns (Hask.out (c + p) (d + q) (by omega) (by omega) k hk1 hk60)
      rw [Htop.out] at htc
      have Htc := Lib.hid htc
      clear htc
      go_wp2_with fail
      refine Htc.out.mono ?_
      rintro e w10 ⟨v4, rfl, R10, _, K11⟩
      have R8' := (R8.keep K10 (fun _ _ x => x)).keep K11 (fun _ _ x => x)
      have hxl : (topV L2 [c, d] k ⟨#[]⟩).length ≤ 1000000 := by rw [topV, List.length_take]; omega
      have heq := equalFound_any v3 v4 _ _ w10 R8' R10 hxl hxl
      rw [decide_eq_true rfl] at heq
      have K12 : Keep NoB w6 w10 := (K89.thenN K10).thenN K11
      have Heq := Lib.hid heq
      clear heq Htc R8 R8' R10 hb8' Nm IM9
      go_wp2_with fail
      refine Heq.out.mono ?_
      rintro e w11 ⟨rfl, q11, rfl⟩
      have K13 : Keep NoB w6 (w10.drewN q11) := K12.drewN q11
      obtain ⟨w11, hw11⟩ : ∃ w11, w11 = w10.drewN q11 := ⟨_, rfl⟩
      rw [← hw11] at K13 ⊢
      clear hw11 Heq K12 hxl Ir Nr IM hMns K9 K10 K11 K89 Htop hbm
      go_wp2_with fail
      go_loopw [20] (fun iv wq => ∃ i : Nat, i ≤ j ∧ iv = .int .i64 i ∧ Keep NoB w6 wq) (fun iv _ => j - (intOf iv).toNat)
      case atStart => exact ⟨0, by omega, rfl, K13⟩
      case round =>
        obtain ⟨i, hi, rfl, Kq⟩ := hrel
        by_cases hlt : i < j
        · have i1 : (i : Int) < j := by omega
          have Iq := items_keep I6 Kq
          obtain ⟨b, off, rfl, -, hb, hcell⟩ := Iq.rows.at (by have := Hn.out; omega)
          obtain ⟨x, hx⟩ : ∃ x, L2[i]? = some x := ⟨_, List.getElem?_eq_getElem (by have := Hn.out; omega)⟩
          have hra := hcell i x hx
          have hxm : x ∈ L2 := List.mem_of_getElem? hx
          have Nx := Iq.nums x hxm
          obtain ⟨a1, a2, he, ha1, ha2'⟩ := inside_two (Hsub.out x hxm).2
          obtain ⟨nm0, hts⟩ := top_self L2 x hxm Hnum.out
          have c2 : wr.cell? ⟨b, off + i * 3 + 2, none⟩ = some x.av := hra 2 _ rfl
          have htc := top_yes 2 _ L2 _ x.ns 1 ⟨#[]⟩ wr Iq Nx (by have := Hn.out; omega) (hns2 x hxm) hns2 (by rw [he]; exact Hask.out a1 a2 (by omega) (by omega) 1 (by omega) (by omega))
          rw [hts] at htc
          obtain ⟨av, hav⟩ : ∃ av, av = x.av := ⟨_, rfl⟩
          rw [← hav] at c2 htc
          obtain ⟨pn, cn, rfl⟩ : ∃ p c, av = .slice p x.ns.length c := by rw [hav]; exact Nx.len
          obtain ⟨nl, hnl⟩ : ∃ nl, nl = x.ns.length := ⟨_, rfl⟩
          rw [← hnl] at c2 htc
          have Htc := Lib.hid htc
          clear htc hts hcell hra hx hxm Nx he Iq hav hnl
          go_wp2_with fail
          refine Htc.out.mono ?_
          rintro e w12 ⟨v5, rfl, R12, _, K14⟩
          have Kq2 := Kq.thenN K14
          obtain ⟨p5, c5, rfl⟩ := R12.len
          obtain ⟨b5, o5, rfl, -, hb5', hcell5⟩ := R12.at (by show 0 < 1; omega)
          have f1 : w12.cell? ⟨b5, o5 + 0 * 2 + 1, none⟩ = some (.int .i64 0) := hcell5 0 _ rfl 1 _ rfl
          have f1' : w12.cell? ⟨b5, o5 + 1, none⟩ = some (.int .i64 0) := by rwa [Nat.zero_mul, Nat.add_zero] at f1
          clear Htc R12 hcell5 f1
          go_wp2_with fail
          exact ⟨⟨i + 1, by omega, by go_num, Kq2⟩, by simp [intOf]; omega⟩
        · obtain rfl : i = j := by omega
          go_wp2_with fail
          go_ret
          exact ⟨rfl, K6'.thenN Kq⟩
end Go.Proofs.YtcjilojkhmondaaDoor
