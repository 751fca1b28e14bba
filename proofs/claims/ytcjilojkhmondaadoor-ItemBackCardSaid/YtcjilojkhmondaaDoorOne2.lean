/-
  DERIVED. item.one: an item's line, of three words or more. (Under way.)
-/
import Derived.Test.YtcjilojkhmondaaDoorOne
import Derived.Test.YtcjilojkhmondaaDoorTake
import Derived.Deep.CutBlock
import Derived.Deep.DeepCutAuto
import Derived.RegionTactic
set_option linter.unusedVariables false
set_option linter.unusedSimpArgs false
namespace Go.Proofs.YtcjilojkhmondaaDoor
open Go.RowKit Go.Cof
def TwoC (N : Nat) (a b : ByteArray) (W : World) : Prop := W.cell? ⟨N, 0, none⟩ = some (.string a) ∧ W.cell? ⟨N, 1, none⟩ = some (.string b)
def intCells (l : List Int) : List Value := l.map (Value.int .i64)
theorem pieces_le (c : UInt8) : ∀ (l : List UInt8), ∀ p ∈ pieces c l, p.length ≤ l.length
  | [], p, hp => by rw [pieces, List.mem_singleton] at hp; rw [hp]; exact Nat.le_refl _
  | b :: l, p, hp => by
    have ih := pieces_le c l
    rw [pieces] at hp
    split at hp
    · rcases List.mem_cons.1 hp with rfl | hp
      · exact Nat.zero_le _
      · have := ih p hp; rw [List.length_cons]; omega
    · split at hp
      · rw [List.mem_singleton.1 hp]; simp
      · rename_i q r e
        rcases List.mem_cons.1 hp with rfl | hp
        · have := ih q (by rw [e]; exact List.mem_cons_self); simpa using this
        · have := ih p (by rw [e]; exact List.mem_cons_of_mem _ hp); rw [List.length_cons]; omega
theorem allNums_none : ∀ (l : List (List UInt8)) (k : Nat) (t : List UInt8), l[k]? = some t → numT t = none → allNums l = none
  | [], k, t, h, _ => by simp at h
  | x :: l, 0, t, h, hn => by
    obtain rfl : x = t := by simpa using h
    rw [allNums, hn]
  | x :: l, k + 1, t, h, hn => by
    rw [allNums]
    cases numT x with
    | none => rfl
    | some n =>
      have := allNums_none l k t (by simpa using h) hn
      simp [this]
theorem allNums_snoc : ∀ (l : List (List UInt8)) (t : List UInt8) (ns : List Int) (n : Int), allNums l = some ns → numT t = some n → allNums (l ++ [t]) = some (ns ++ [n])
  | [], t, ns, n, h, hn => by
    obtain rfl : [] = ns := by simpa [allNums] using h
    simp [allNums, hn]
  | x :: l, t, ns, n, h, hn => by
    rw [allNums] at h
    rw [List.cons_append, allNums]
    cases hx : numT x with
    | none => rw [hx] at h; cases h
    | some v =>
      rw [hx] at h
      cases hl : allNums l with
      | none => rw [hl] at h; cases h
      | some ms =>
        rw [hl] at h
        obtain rfl : v :: ms = ns := by simpa using h
        rw [allNums_snoc l t ms n hl hn]
        rfl
theorem nums_ofN {w : World} {base : Nat} {v : Value} {ns : List Int} (h : OwnsN w base 3 1 v ns.length (intCells ns)) : Nums w v ns := by
  have h0 := h
  rcases h.2 with ⟨hv, hn⟩ | ⟨g, cap, cur, fz, hv, _, hg, _⟩
  · exact .inl ⟨List.eq_nil_of_length_eq_zero hn, none, 0, hv⟩
  · refine .inr ⟨g, 0, cap, hv, lt_of_heap hg, fun i hi => ?_⟩
    have := h0.cells (by rw [hv]; rfl) i (.int .i64 (ns.getD i 0)) (by rw [intCells, List.getElem?_map, List.getD_eq_getElem?_getD, List.getElem?_eq_getElem hi]; rfl)
    rwa [show (⟨g, 0, none⟩ : Addr).add i = ⟨g, 0 + i, none⟩ by unfold Addr.add; split <;> simp_all] at this
theorem own_sl1 {w : World} {base : Nat} {e : TypeId} {size : Nat} {v : Value} {n : Nat} {xs : List Value} (h : OwnsN w base e size v n xs) : ∃ p c, v = .slice p n c := by
  rcases h.2 with ⟨h, hn⟩ | ⟨_, _, _, _, h, _⟩
  · exact ⟨none, 0, by rw [h, hn]⟩
  · exact ⟨_, _, h⟩
theorem int_info : ∃ i, Tryd.prog.info? 3 = some i ∧ i.zero = some (.int .i64 0) ∧ i.size = 1 ∧ i.bytes = 8 := by
  have h : (Tryd.prog.info? 3).map (fun i => (i.zero, i.size, i.bytes)) = some (some (.int .i64 0), 1, 8) := by kernel_rfl
  cases hi : Tryd.prog.info? 3 with
  | none => rw [hi] at h; cases h
  | some i =>
    rw [hi] at h
    simp only [Option.map_some, Option.some.injEq, Prod.mk.injEq] at h
    exact ⟨i, rfl, h.1, h.2.1, h.2.2⟩
set_option maxRecDepth 100000 in
set_option maxHeartbeats 4000000 in
theorem one_more (s : ByteArray) (w : World) (hs : s.size ≤ 1000000) (V : ItemVars w) (hf : 3 ≤ (pieces 32 s.data.toList).length) :
    Calls Tryd.prog 67 #[.string s] w fun e w' => OneSaid s w' e ∧ Keep NoB w w' := by
  have hsp := fun w1 (K : Keep NoB w w1) => split_any s 32 w1 hs (V.keep K)
  have Hsp := Lib.hid hsp
  have HV := Lib.hid V
  clear hsp V
  go_enter Tryd.func67, Tryd.ntmps67
  go_wp2_with fail
  refine (Hsp.out _ ((Keep.refl _ _).alloc _)).mono ?_
  rintro e w1 ⟨P, hP, rfl, hrow, K1⟩
  have hPl : 3 ≤ P.length := by have := congrArg List.length hP; rw [List.length_map] at this; omega
  obtain ⟨a, b, c, R, rfl⟩ : ∃ a b c R, P = a :: b :: c :: R := by
    match P, hPl with
    | a :: b :: c :: R, _ => exact ⟨a, b, c, R, rfl⟩
  have hsz : (w.alloc (.cells #[.string ⟨#[]⟩, .string ⟨#[]⟩, .slice none 0 0] 34)).heap.size = w.heap.size + 1 := by show (w.heap.push _).size = _; rw [Array.size_push]
  rw [hsz] at hrow
  obtain ⟨m, hm⟩ : ∃ m, m = (a :: b :: c :: R).length := ⟨_, rfl⟩
  have hm3 : 3 ≤ m := by rw [hm]; exact hPl
  have h3 : ¬ ((m : Int) < 3) := by omega
  have h0n : 0 < m := by omega
  have h1n : 1 < m := by omega
  have h0m : (0 : Int) < m := by omega
  have h1m : (1 : Int) < m := by omega
  have K0 : Keep NoB w w1 := ((Keep.refl _ _).alloc _).thenN K1
  have hz : w1.heap[w.heap.size]? = some (.cells #[.string ⟨#[]⟩, .string ⟨#[]⟩, .slice none 0 0] 34 (0, 0)) := K1.heap (heap_alloc_new w _) (fun x => x)
  obtain ⟨N, hN⟩ : ∃ N, N = w.heap.size + 1 := ⟨_, rfl⟩
  obtain ⟨Z, hZ⟩ : ∃ Z, Z = w.heap.size := ⟨_, rfl⟩
  rw [← hm]
  rw [← hN] at hrow
  rw [← hZ] at hz
  have cP : ∀ j t, (a :: b :: c :: R)[j]? = some t → w1.cell? ⟨N, j, none⟩ = some (.string t) := fun j t ht => by
    rw [cell_of_row _ _ _ _ _ (0, 0) hrow, List.getElem?_toArray, List.getElem?_map, ht]; rfl
  have hNlt := lt_of_heap hrow
  have L0 : TwoC N a b w1 := ⟨cP 0 a rfl, cP 1 b rfl⟩
  have l0 : ∀ x : InC (TwoC N a b), x.w.cell? ⟨N, 0, none⟩ = some (.string a) := fun x => x.h.1
  have l1 : ∀ x : InC (TwoC N a b), x.w.cell? ⟨N, 1, none⟩ = some (.string b) := fun x => x.h.2
  have HP := Lib.hid hP
  have HcP := Lib.hid cP
  have Hrow := Lib.hid hrow
  have Hm := Lib.hid hm
  have HN := Lib.hid hN
  have HZ := Lib.hid hZ
  have HL0 := Lib.hid L0
  rw [hsz, ← hN]
  clear hP cP hm hrow hN hZ L0 hsz hf hPl Hsp K1
  go_wp2_with fail
  refine wp_region_take (TwoC N a b) [0, 1, 2, 3, 4, 5, 6] [7, 8] (by kernel_rfl) (by kernel_rfl) (fun c a d v w h => by cases d <;> exact h) ?_
  simp only [pickL, List.getElem?_toArray, List.getElem?_cons_succ, List.getElem?_cons_zero]
  repeat (refine wpEarlyC_step (fun K hK => ?_); go_simp; first | (refine ⟨_, fun _ => rfl, hK _ ?_⟩; clear hK K) | (refine hK _ ?_; clear hK K))
  refine wpEarlyC_nil ?_
  clear l0 l1
  simp only [wpRowC, pickL, List.getElem?_toArray, List.getElem?_cons_succ, List.getElem?_cons_zero]
  refine ⟨HL0.out, ?_⟩
  go_wp2_with fail
  have KA : Keep NoB w1 (w1.alloc (.cells #[.string ⟨#[]⟩, .string ⟨#[]⟩, .slice none 0 0] 34)).drew := ((Keep.refl _ _).alloc _).drew
  refine ⟨⟨(KA.cell (p := ⟨N, 0, none⟩) hNlt (fun x => x)).trans HL0.out.1, (KA.cell (p := ⟨N, 1, none⟩) hNlt (fun x => x)).trans HL0.out.2⟩, ?_⟩
  clear KA
  go_wp2_with fail
  have hX0 : (w1.alloc (.cells #[.string a, .string b, .slice none 0 0] 34)).drew.heap[w1.heap.size]? = some (.cells #[.string a, .string b, .slice none 0 0] 34 (0, 0)) := heap_alloc_new w1 _
  have KX0 : Keep NoB w1 (w1.alloc (.cells #[.string a, .string b, .slice none 0 0] 34)).drew := ((Keep.refl _ _).alloc _).drew
  obtain ⟨w2, hw2⟩ : ∃ w2, w2 = (w1.alloc (.cells #[.string a, .string b, .slice none 0 0] 34)).drew := ⟨_, rfl⟩
  obtain ⟨X, hX⟩ : ∃ X, X = w1.heap.size := ⟨_, rfl⟩
  rw [← hw2] at hX0 KX0 ⊢
  rw [← hX] at hX0 ⊢
  have HX := Lib.hid hX
  have HX0 := Lib.hid hX0
  clear hw2 hX hX0
  obtain ⟨ws, hws⟩ : ∃ ws : List (List UInt8), ws = (c :: R).map (·.data.toList) := ⟨_, rfl⟩
  have Hws := Lib.hid hws
  have hm2 : m - 2 + 2 = m := by omega
  clear hws
  go_loopw [26] (fun iv wr => ∃ (k : Nat) (ns : List Int) (av : Value), iv = .int .i64 k ∧ k ≤ m - 2 ∧ Hid (allNums (ws.take k) = some ns ∧ ns.length = k) ∧ Hid (wr.heap[X]? = some (.cells #[.string a, .string b, av] 34 (0, 0))) ∧ Hid (OwnsN wr w1.heap.size 3 1 av k (intCells ns)) ∧ Keep NoB w1 wr) (fun iv _ => m - 2 - (intOf iv).toNat)
  case atStart => exact ⟨0, [], _, rfl, by omega, Lib.hid ⟨by rw [List.take_zero]; rfl, rfl⟩, HX0, Lib.hid (OwnsN.nil _ _ _ _), KX0⟩
  case round =>
    clear KX0 HX0
    obtain ⟨k, ns, av, rfl, hk, hns, hXr, hO, K⟩ := hrel
    obtain ⟨wo, rfl⟩ : ∃ wo, wo = wr := ⟨_, rfl⟩
    have hwl : ws.length = m - 2 := by rw [Hws.out, List.length_map, Hm.out]; simp
    have Hwl := Lib.hid hwl
    clear hwl
    by_cases hlt : k < m - 2
    · have k1 : (k : Int) < ((m - 2 : Nat) : Int) := by omega
      obtain ⟨t, ht⟩ : ∃ t, (c :: R)[k]? = some t := ⟨_, List.getElem?_eq_getElem (by have h := Hm.out; simp at h ⊢; omega)⟩
      have ct : wo.cell? ⟨N, 2 + k, none⟩ = some (.string t) := (K.cell (p := ⟨N, 2 + k, none⟩) hNlt (fun x => x)).trans (HcP.out (2 + k) t (by rw [show 2 + k = k + 1 + 1 by omega]; simpa using ht))
      have hwt : ws[k]? = some t.data.toList := by rw [Hws.out, List.getElem?_map, ht]; rfl
      have htl : t.size ≤ 1000000 := by
        have h1 := pieces_le 32 s.data.toList t.data.toList (by rw [← HP.out]; exact List.mem_map.2 ⟨t, List.mem_cons_of_mem _ (List.mem_cons_of_mem _ (List.mem_of_getElem? ht)), rfl⟩)
        have h2 : s.data.toList.length = s.size := rfl
        have h3 : t.data.toList.length = t.size := rfl
        omega
      have hnum := number_any t wo htl (HV.out.keep (K0.thenN K)).pow (HV.out.keep (K0.thenN K)).errs
      have Hnum := Lib.hid hnum
      have Hwt := Lib.hid hwt
      clear hnum hwt ht
      go_wp2_with fail
      refine Hnum.out.mono ?_
      rintro e w3 ⟨⟨n, B, rfl, hnb⟩, K3⟩
      have Hnb := Lib.hid hnb
      clear hnb
      cases B with
      | false =>
        have hz3 : w3.heap[w.heap.size]? = some (.cells #[.string ⟨#[]⟩, .string ⟨#[]⟩, .slice none 0 0] 34 (0, 0)) := by rw [← HZ.out]; exact (K.thenN K3).heap hz (fun x => x)
        have z0 : w3.cell? ⟨w.heap.size, 0, none⟩ = some (.string ⟨#[]⟩) := by rw [cell_of_row _ _ _ _ _ (0, 0) hz3]; rfl
        have z1 : w3.cell? ⟨w.heap.size, 1, none⟩ = some (.string ⟨#[]⟩) := by rw [cell_of_row _ _ _ _ _ (0, 0) hz3]; rfl
        have z2 : w3.cell? ⟨w.heap.size, 2, none⟩ = some (.slice none 0 0) := by rw [cell_of_row _ _ _ _ _ (0, 0) hz3]; rfl
        have f0 : ∀ i, w3.frozen? ⟨w.heap.size, i, none⟩ = false := fun i => Lib.frozen_of_heap hz3 i
        have hnone : numT t.data.toList = none := by
          have h := Hnb.out
          cases hn : numT t.data.toList with
          | none => rfl
          | some v => rw [hn] at h; cases h.2
        have hone : oneT s.data.toList = none := by
          have hp := HP.out
          have h2 := allNums_none ws k _ Hwt.out hnone
          rw [Hws.out] at h2
          rw [oneT, ← hp]
          show Option.map _ (allNums ((c :: R).map (·.data.toList))) = none
          rw [h2]; rfl
        have hS : ∀ W, OneSaid s W (.returned (.tuple #[.agg #[.string ⟨#[]⟩, .string ⟨#[]⟩, .slice none 0 0], .bool false])) := fun W => ⟨_, _, _, _, _, false, rfl, by rw [hone]⟩
        have HS := Lib.hid hS
        clear hnone hone hS
        go_wp2_with fail
        have hzz : (((w3.setCell ⟨w.heap.size, 0, none⟩ (.string ⟨#[]⟩)).setCell ⟨w.heap.size, 1, none⟩ (.string ⟨#[]⟩)).setCell ⟨w.heap.size, 2, none⟩ (.slice none 0 0)) = w3 := by
          have h1 : w3.setCell ⟨w.heap.size, 0, none⟩ (.string ⟨#[]⟩) = w3 := setCell_same' hz3 rfl
          rw [h1, setCell_same' hz3 rfl, setCell_same' hz3 rfl]
        rw [hzz]
        refine bodyPost_ret (results_cell2 (x := .agg #[.string ⟨#[]⟩, .string ⟨#[]⟩, .slice none 0 0]) rfl rfl ?_) rfl ⟨HS.out _, K0.thenN (K.thenN K3)⟩
        go_simp
      | true =>
        have hsome : numT t.data.toList = some n := by
          have h := Hnb.out
          cases hn : numT t.data.toList with
          | none => rw [hn] at h; cases h
          | some v => rw [hn] at h; rw [h.1]
        have hX3 := K3.heap hXr.out (fun x => x)
        obtain ⟨pv, cv, hav⟩ := own_sl1 hO.out
        subst hav
        have x2 : w3.cell? ⟨X, 2, none⟩ = some (.slice pv k cv) := by rw [cell_of_row _ _ _ _ _ (0, 0) hX3]; rfl
        have hO3 := hO.out.keep K3 (fun _ _ x => x)
        have hs3 : w1.heap.size ≤ w3.heap.size := (K.thenN K3).size
        obtain ⟨ii, hii, hzi, hsi, hbi⟩ := int_info
        have hkm : k ≤ 1000001 := by
          have h1 := pieces_len 32 s.data.toList
          have h2 : m = (pieces 32 s.data.toList).length := by rw [← HP.out, List.length_map]; exact Hm.out
          have h3 : s.data.toList.count 32 ≤ s.data.toList.length := List.count_le_length
          have h4 : s.data.toList.length = s.size := rfl
          omega
        have hfX : ∀ w4, (w3.alloc (.cells #[.int .i64 n] 3)).grownBy w4 (Value.slice pv k cv).ownBlock → w4.heap[X]? = some (.cells #[.string a, .string b, .slice pv k cv] 34 (0, 0)) := by
          intro w4 hg4
          rw [hg4.block X (by show X < (w3.heap.push _).size; rw [Array.size_push]; have := lt_of_heap hX3; omega) (fun e => ?_)]
          · rw [Below.heap_alloc _ _ _ (lt_of_heap hX3)]; exact hX3
          · rcases hO3.2 with ⟨hv, _⟩ | ⟨g, cap, cur, fz, hv, _, hgg, _⟩
            · rw [hv] at e; cases e
            · rw [hv] at e
              have e2 : X = g := Option.some.inj e
              subst e2
              exact absurd (two_types' hX3 hgg) (by decide)
        have HfX := Lib.hid hfX
        have HX3 := Lib.hid hX3
        clear hfX
        have Hsome := Lib.hid hsome
        clear hX3 hsome
        go_wp2_with (at_builtin; refine wpList_append_n _ rfl _ _ 23 rfl w1.heap.size 3 ii _ 1 8 Tryd.underlying23 hii hzi hsi hbi rfl (by decide) (.slice pv k cv) k _ rfl (hO3.alloc _) ⟨w3.heap.size, 0, none⟩ 1 1 [.int .i64 n] rfl rfl (cells_new _ _ _) (by intro u hu; rw [List.mem_singleton.1 hu]; rfl) (by unfold maxLen; omega) (by omega) (by show w1.heap.size ≤ (w3.heap.push _).size; rw [Array.size_push]; omega) ?_; intro v4 w4 own4 hg4; have hX4 := HfX.out _ hg4; have y2 : w4.cell? ⟨X, 2, none⟩ = some (.slice pv k cv) := (cell_of_row _ _ _ _ _ (0, 0) hX4).trans rfl; have fX : w4.frozen? ⟨X, 2, none⟩ = false := Lib.frozen_of_heap hX4 2; obtain ⟨p4, c4, hv4⟩ := own_sl1 own4; subst hv4)
        have KS : Keep (OneB X) w4 (w4.setCell ⟨X, 2, none⟩ (.slice p4 (k + 1) c4)) := (Keep.refl (OneB X) w4).set1 2 _
        have hX5 : (w4.setCell ⟨X, 2, none⟩ (.slice p4 (k + 1) c4)).heap[X]? = some (.cells #[.string a, .string b, .slice p4 (k + 1) c4] 34 (0, 0)) := by
          have hlt := lt_of_heap hX4
          have h' : w4.heap[X] = .cells #[.string a, .string b, .slice pv k cv] 34 (0, 0) := by simpa [Array.getElem?_eq_getElem hlt] using hX4
          show (w4.heap.modify X _)[X]? = _
          rw [Array.getElem?_eq_getElem (by simpa using hlt), Array.getElem_modify_self, h']
          rfl
        have own5 := own4.keep KS (fun g hg hs => by
          have h1 : g = X := hs
          subst h1
          rcases own4.2 with ⟨hv, _⟩ | ⟨g', cap, cur, fz, hv, _, hgg, _⟩
          · rw [hv] at hg; cases hg
          · rw [hv] at hg
            obtain rfl : g' = g := Option.some.inj hg
            exact absurd (two_types' hX4 hgg) (by decide))
        have K5 : Keep NoB w1 (w4.setCell ⟨X, 2, none⟩ (.slice p4 (k + 1) c4)) := (((K.thenN K3).alloc _).grown hg4 (fun q hq => .inr (hO3.lt q hq).1)).trans KS (fun i hi hs => by have h : i = X := hs; have := HX.out; omega)
        refine ⟨⟨k + 1, ns ++ [n], _, by go_num, by omega, Lib.hid ⟨?_, by rw [List.length_append, hns.out.2]; rfl⟩, Lib.hid hX5, Lib.hid ?_, K5⟩, by simp [intOf]; omega⟩
        · have hk2 := (List.getElem?_eq_some_iff.1 Hwt.out)
          rw [List.take_succ_eq_append_getElem hk2.1, hk2.2]
          exact allNums_snoc _ _ _ _ hns.out.1 Hsome.out
        · rw [show intCells (ns ++ [n]) = intCells ns ++ [.int .i64 n] by simp [intCells]]
          exact own5
    · obtain ⟨pv, cv, hav⟩ := own_sl1 hO.out
      subst hav
      have x0 : wo.cell? ⟨X, 0, none⟩ = some (.string a) := by rw [cell_of_row _ _ _ _ _ (0, 0) hXr.out]; rfl
      have x1 : wo.cell? ⟨X, 1, none⟩ = some (.string b) := by rw [cell_of_row _ _ _ _ _ (0, 0) hXr.out]; rfl
      have x2 : wo.cell? ⟨X, 2, none⟩ = some (.slice pv k cv) := by rw [cell_of_row _ _ _ _ _ (0, 0) hXr.out]; rfl
      have hz3 : wo.heap[w.heap.size]? = some (.cells #[.string ⟨#[]⟩, .string ⟨#[]⟩, .slice none 0 0] 34 (0, 0)) := by rw [← HZ.out]; exact K.heap hz (fun x => x)
      have z0 : wo.cell? ⟨w.heap.size, 0, none⟩ = some (.string ⟨#[]⟩) := by rw [cell_of_row _ _ _ _ _ (0, 0) hz3]; rfl
      have z1 : wo.cell? ⟨w.heap.size, 1, none⟩ = some (.string ⟨#[]⟩) := by rw [cell_of_row _ _ _ _ _ (0, 0) hz3]; rfl
      have z2 : wo.cell? ⟨w.heap.size, 2, none⟩ = some (.slice none 0 0) := by rw [cell_of_row _ _ _ _ _ (0, 0) hz3]; rfl
      have f0 : ∀ i, wo.frozen? ⟨w.heap.size, i, none⟩ = false := fun i => Lib.frozen_of_heap hz3 i
      have j1 : ¬ ((k : Int) < ((m - 2 : Nat) : Int)) := by omega
      go_wp2_with fail
      have hZX : w.heap.size < w1.heap.size := by have := lt_of_heap hz; have := HZ.out; omega
      have KZ : Keep (OneB w.heap.size) wo (((wo.setCell ⟨w.heap.size, 0, none⟩ (.string a)).setCell ⟨w.heap.size, 1, none⟩ (.string b)).setCell ⟨w.heap.size, 2, none⟩ (.slice pv k cv)) := (((Keep.refl (OneB w.heap.size) wo).set1 0 _).set1 1 _).set1 2 _
      have hNm : Nums wo (.slice pv k cv) ns := nums_ofN (by rw [hns.out.2]; exact hO.out)
      have hNm2 := hNm.keep KZ (fun g hg hs => by
        have h1 := (hO.out.lt g hg).1
        have h2 : g = w.heap.size := hs
        omega)
      have hIR : IntRow (((wo.setCell ⟨w.heap.size, 0, none⟩ (.string a)).setCell ⟨w.heap.size, 1, none⟩ (.string b)).setCell ⟨w.heap.size, 2, none⟩ (.slice pv k cv)) (.slice pv k cv) := by
        intro g hg
        rcases hO.out.2 with ⟨hv, _⟩ | ⟨g', cap, cur, fz, hv, hbg, hgg, _⟩
        · rw [hv] at hg; cases hg
        · rw [hv] at hg
          obtain rfl : g' = g := Option.some.inj hg
          exact ⟨_, _, KZ.heap hgg (fun hs => by have h2 : g' = w.heap.size := hs; omega)⟩
      have hone : oneT s.data.toList = some (a, b, ns) := by
        have h2 := hns.out.1
        rw [List.take_of_length_le (by rw [Hwl.out]; exact Nat.le_of_eq (by omega)), Hws.out] at h2
        rw [oneT, ← HP.out]
        show Option.map _ (allNums ((c :: R).map (·.data.toList))) = _
        rw [h2]
        rfl
      refine bodyPost_ret (results_cell2 (x := .agg #[.string a, .string b, .slice pv k cv]) rfl rfl ?_) rfl ⟨⟨a, b, _, _, _, true, rfl, by rw [hone]; exact ⟨rfl, rfl, rfl, hNm2, hIR⟩⟩, (K0.thenN K).trans KZ (fun i hi hs => by have h : i = w.heap.size := hs; omega)⟩
      go_simp
end Go.Proofs.YtcjilojkhmondaaDoor
