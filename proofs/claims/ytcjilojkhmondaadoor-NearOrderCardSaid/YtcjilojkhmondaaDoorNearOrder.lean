/-
  DERIVED. The walk of the law NearOrder.
-/
import Derived.Test.YtcjilojkhmondaaDoorNearKit
import Derived.Deep.CutBlock
import Derived.Deep.DeepCutAuto
import Derived.RegionTactic
import Derived.Deep.RegionWith
import Derived.Deep.RegionHeld3
set_option linter.unusedVariables false
set_option linter.unusedSimpArgs false
namespace Go.Proofs.YtcjilojkhmondaaDoor
open Go.RowKit Go.Cof Go.Sort Go.Shelf
theorem heap_setCell_at2 {w : World} {B i : Nat} {cs : Array Value} {t : TypeId} {fr : Nat × Nat} (h : w.heap[B]? = some (.cells cs t fr)) (v : Value) : (w.setCell ⟨B, i, none⟩ v).heap[B]? = some (.cells (cs.setIfInBounds i v) t fr) := by
  have hlt := lt_of_heap h
  have h' : w.heap[B] = .cells cs t fr := by simpa [Array.getElem?_eq_getElem hlt] using h
  show (w.heap.modify B _)[B]? = _
  rw [Array.getElem?_eq_getElem (by simpa using hlt), Array.getElem_modify_self, h']
  rfl
theorem items_own {w w' : World} {base : Nat} {v v0 : Value} {l L : List ItemV} (I : Items w v0 l) (K : Keep NoB w w') (O : OwnsN w' base 34 3 v L.length (L.flatMap encItem)) (hs : ∀ x ∈ L, x ∈ l) : Items w' v L :=
  ⟨RowsK.ofN encItem_len O, fun x hx => (I.nums x (hs x hx)).keep K (fun _ _ x => x)⟩
set_option maxRecDepth 100000 in
set_option maxHeartbeats 8000000 in
theorem nearOrder_any (v va : Value) (l : List ItemV) (at_ : List Int) (k less : Int) (tag : ByteArray) (w : World) (I : Items w v l) (N : Nums w va at_) (hl : l.length ≤ maxLen) (ha : at_.length ≤ maxLen) :
    Calls Tryd.prog 4 #[v, va, .int .i64 k, .int .i64 less, .string tag] w fun e w' => e = .returned (.bool true) ∧ Keep NoB w w' := by
  have hh := held_any v l w I hl
  cases hB : heldB l with
  | false =>
    rw [hB] at hh
    clear hB
    go_enter Tryd.func4, Tryd.ntmps4
    go_wp2_with fail
    refine hh.mono ?_
    rintro e w' ⟨rfl, K⟩
    go_wp2_with fail
    go_ret
    exact ⟨rfl, K⟩
  | true =>
  rw [hB] at hh
  have hl65 : l.length ≤ 65 := by
    rw [heldB, Bool.and_eq_true, decide_eq_true_eq] at hB
    exact hB.1
  have hns : ∀ x ∈ l, x.ns.length ≤ 1000000 := by
    intro x hx
    rw [heldB, Bool.and_eq_true, Bool.not_eq_true'] at hB
    have h := hB.2
    rw [List.any_eq_false] at h
    have := h x hx
    simp [wideB] at this
    omega
  clear hB
  obtain ⟨pa, ca, rfl⟩ := N.len
  by_cases h12 : (12 : Int) < at_.length
  · go_enter Tryd.func4, Tryd.ntmps4
    go_wp2_with fail
    refine hh.mono ?_
    rintro e w' ⟨rfl, K⟩
    go_wp2_with fail
    go_ret
    exact ⟨rfl, K⟩
  have d12 : decide ((12 : Int) < at_.length) = false := by simpa using h12
  have ha2 : at_.length ≤ 12 := by omega
  by_cases h40 : (40 : Int) < tag.size
  · go_enter Tryd.func4, Tryd.ntmps4
    go_wp2_with fail
    refine hh.mono ?_
    rintro e w' ⟨rfl, K⟩
    go_wp2_with fail
    go_ret
    exact ⟨rfl, K⟩
  have d40 : decide ((40 : Int) < tag.size) = false := by simpa using h40
  clear h12 h40
  go_enter Tryd.func4, Tryd.ntmps4
  go_wp2_with fail
  refine hh.mono ?_
  rintro e w1 ⟨rfl, K1⟩
  clear hh
  go_wp2_with fail
  refine (found_any w1).mono ?_
  rintro e w2 ⟨rfl, K2⟩
  have K2' := K1.thenN K2
  have I2 : Items w2 v l := ⟨I.rows.keep K2' (fun _ _ x => x), fun x hx => (I.nums x hx).keep K2' (fun _ _ x => x)⟩
  go_wp2_with fail
  refine (keepRight_any v l w2 I2 (by omega) hns).mono ?_
  rintro e w3 ⟨v1, rfl, O3, K3⟩
  have K3' := K2'.thenN K3
  have hok := rightL_ok l
  obtain ⟨L, hL⟩ : ∃ L, L = rightL l := ⟨_, rfl⟩
  rw [← hL] at O3 hok
  have I3 := items_own I2 K3 O3 hok.sub
  have hLl : L.length ≤ 65 := Nat.le_trans hok.len hl65
  have hLns : ∀ x ∈ L, x.ns.length ≤ 1000000 := fun x hx => hns x (hok.sub x hx)
  have hnd := hok.nodup
  have hav : ∀ x ∈ L, ∃ p n c, x.av = .slice p n c := fun x hx => by obtain ⟨p, c, h⟩ := (I3.nums x hx).len; exact ⟨p, _, c, h⟩
  have N3 := N.keep K3' (fun _ _ x => x)
  have Hok := Lib.hid hok
  have Hnd := Lib.hid hnd
  have Hav := Lib.hid hav
  have HLns := Lib.hid hLns
  have HO3 := Lib.hid O3
  clear hok hL I2 K2 K2' K3 K1 hnd hav hLns hns O3 hl ha I N
  go_wp2_with fail
  cases hask : askB 2 at_ k with
  | false =>
    refine (top_no 2 v1 _ at_ k tag w3 N3 (by omega) hask).mono ?_
    rintro e w4 ⟨rfl, hw⟩
    subst w4
    have he1 : errVal 1 = .iface 53 (.int .i64 1) := rfl
    have hri := ask_any 2 _ at_ k w3 N3 (by omega)
    rw [hask] at hri
    clear hask
    go_wp2_with fail
    refine hri.mono ?_
    rintro e w4 ⟨rfl, hw⟩
    subst w4
    go_wp2_with fail
    go_ret
    exact ⟨rfl, K3'⟩
  | true =>
    refine (top_yes 2 v1 L _ at_ k tag w3 I3 N3 (by omega) (by omega) HLns.out hask).mono ?_
    rintro e w4 ⟨v2, rfl, R4, hb4, K4⟩
    have hk1 : 1 ≤ k ∧ k ≤ 60 := by
      simp only [askB, Bool.and_eq_true, decide_eq_true_eq] at hask
      exact ⟨hask.1.2, hask.2⟩
    have hF := foundL_nodup L at_ tag Hnd.out
    have hFl := foundL_len L at_ tag
    obtain ⟨X, hX⟩ : ∃ X, X = topV L at_ k tag := ⟨_, rfl⟩
    have hX2 : X = (sortF (foundL L at_ tag)).take k.toNat := hX
    have hst : List.Pairwise ltF X := by rw [hX2]; exact (sortF_strict hF).sublist (List.take_sublist _ _)
    have hXl : X.length = min k.toNat (foundL L at_ tag).length := by rw [hX2, List.length_take, sortF_len]
    rw [← hX] at R4
    obtain ⟨p2, c2, rfl⟩ := R4.len
    have hcap2 : X.length ≤ c2 := hb4.2 _ _ _ rfl
    obtain ⟨m, hm⟩ : ∃ m, m = X.length := ⟨_, rfl⟩
    rw [← hm] at R4 hXl hcap2
    rw [← hm]
    have Hask := Lib.hid hask
    have HF := Lib.hid hF
    have HX2 := Lib.hid hX2
    have Hst := Lib.hid hst
    have HXl := Lib.hid hXl
    have Hm := Lib.hid hm
    have hm65 : m ≤ 65 := by omega
    clear hask hF hX hX2 hst hXl hm
    have I4 : Items w4 v1 L := ⟨I3.rows.keep K4 (fun _ _ x => x), fun x hx => (I3.nums x hx).keep K4 (fun _ _ x => x)⟩
    have N4 := N3.keep K4 (fun _ _ x => x)
    have K4' := K3'.thenN K4
    have HO4 := Lib.hid (HO3.out.keep K4 (fun _ _ x => x))
    clear I3 N3 HO3 K4 K3'
    go_wp2_with fail
    go_loopw [13] (fun i wr => ∃ j : Nat, j ≤ m ∧ i = .int .i64 j ∧ Keep NoB w4 wr) (fun i _ => m - (intOf i).toNat)
    case atStart => exact ⟨0, by omega, rfl, Keep.refl _ _⟩
    case round =>
      obtain ⟨j, hj, rfl, K⟩ := hrel
      by_cases hlt : j < m
      · have j1 : (j : Int) < m := by omega
        by_cases hj0 : j = 0
        · subst hj0
          go_wp2_with fail
          refine wp_region_q_ext (by kernel_rfl) (by kernel_rfl) ?_
          iterate 15 ((with_reducible refine wpQuiet_step (fun K hK => ?_)); go_simp; refine hK _ ?_; clear hK K)
          refine wpQuiet_nil ?_
          intro Y
          have KY := K.thenN (ext_keep wr Y)
          go_wp2_with fail
          exact ⟨⟨1, by omega, by go_num, KY⟩, by simp [intOf]; omega⟩
        · obtain ⟨i, rfl⟩ : ∃ i, j = i + 1 := ⟨j - 1, by omega⟩
          have Rr := R4.keep K (fun _ _ x => x)
          obtain ⟨b, off, rfl, -, hb, hcell⟩ := Rr.at (by have := Hm.out; omega)
          obtain ⟨x, hx⟩ : ∃ x, X[i]? = some x := ⟨_, List.getElem?_eq_getElem (by have := Hm.out; omega)⟩
          obtain ⟨y, hy⟩ : ∃ y, X[i + 1]? = some y := ⟨_, List.getElem?_eq_getElem (by have := Hm.out; omega)⟩
          have hneg : cmpF x y < 0 := by
            rw [cmpF_neg]
            have := List.pairwise_iff_getElem.1 Hst.out i (i + 1) (by have := Hm.out; omega) (by have := Hm.out; omega) (by omega)
            rwa [(List.getElem?_eq_some_iff.1 hx).2, (List.getElem?_eq_some_iff.1 hy).2] at this
          have rx := hcell i x hx
          have ry := hcell (i + 1) y hy
          have hcm := fun w => compare_any x y w
          obtain ⟨a, b2⟩ := x
          obtain ⟨c, d⟩ := y
          have e0 : wr.cell? ⟨b, off + i * 2, none⟩ = some (.string a) := rx 0 _ rfl
          have e1 : wr.cell? ⟨b, off + i * 2 + 1, none⟩ = some (.int .i64 b2) := rx 1 _ rfl
          have f0 : wr.cell? ⟨b, off + (i + 1) * 2, none⟩ = some (.string c) := ry 0 _ rfl
          have f1 : wr.cell? ⟨b, off + (i + 1) * 2 + 1, none⟩ = some (.int .i64 d) := ry 1 _ rfl
          obtain ⟨C, hC⟩ : ∃ C, C = cmpF (a, b2) (c, d) := ⟨_, rfl⟩
          rw [← hC] at hcm hneg
          simp only [encF] at hcm
          have Hcm := Lib.hid hcm
          clear hcell rx ry hx hy hcm hC hj0 Rr
          go_wp2_with fail
          have hw1 : IntKind.i64.wrap (i : Int) = (i : Int) := IntWalk.i64_in _ (by omega)
          have hn1 : ((i : Int) + 1).toNat = i + 1 := by omega
          have hi0 : (0 : Int) ≤ (i : Int) + 1 := by omega
          have him : (i : Int) < m := by omega
          refine wp_region_q_ext (by kernel_rfl) (by kernel_rfl) ?_
          iterate 15 ((with_reducible refine wpQuiet_step (fun K hK => ?_)); go_simp; first | (refine hK _ ?_; clear hK K) | (apply Exists.intro; refine ⟨fun _ => ?_, hK _ ?_⟩; (go_at_call 21; exact quiet_ext _ ((Hcm.out _).mono fun e w' h => ⟨h.1, h.2.keep⟩)); clear hK K))
          refine wpQuiet_nil ?_
          intro Y
          have KY := K.thenN (ext_keep wr Y)
          go_wp2_with fail
          exact ⟨⟨i + 2, by omega, by go_num, KY⟩, by simp [intOf]; omega⟩
      · obtain rfl : j = m := by omega
        have I5 : Items wr v1 L := ⟨I4.rows.keep K (fun _ _ x => x), fun x hx => (I4.nums x hx).keep K (fun _ _ x => x)⟩
        have N5 := N4.keep K (fun _ _ x => x)
        have R5 := R4.keep K (fun _ _ x => x)
        have K5 := K4'.thenN K
        have HO5 := Lib.hid (HO4.out.keep K (fun _ _ x => x))
        clear I4 N4 R4 K4' HO4 K hj hlt hb4
        obtain ⟨w5, rfl⟩ : ∃ w5, w5 = wr := ⟨_, rfl⟩
        obtain ⟨p1, c1, rfl⟩ := I5.rows.len
        obtain ⟨n, hn⟩ : ∃ n, n = L.length := ⟨_, rfl⟩
        rw [← hn] at I5 HO5 hLl
        rw [← hn]
        have Hn := Lib.hid hn
        clear hn
        go_wp2_with fail
        go_loopw [14, 15] (fun ov iv wq => ∃ q : Nat, q ≤ n ∧ iv = .int .i64 q ∧ ov = .int .i64 ((foundL (L.take q) at_ tag).length : Nat) ∧ Keep NoB w5 wq) (fun _ iv _ => n - (intOf iv).toNat)
        case atStart => exact ⟨0, by omega, rfl, rfl, Keep.refl _ _⟩
        case round =>
          obtain ⟨q, hq, rfl, rfl, K⟩ := hrel
          by_cases hlt : q < n
          · have q1 : (q : Int) < n := by omega
            have Ir := I5.rows.keep K (fun _ _ x => x)
            obtain ⟨b, off, rfl, -, hb, hcell⟩ := Ir.at (by have := Hn.out; omega)
            obtain ⟨x, hx⟩ : ∃ x, L[q]? = some x := ⟨_, List.getElem?_eq_getElem (by have := Hn.out; omega)⟩
            have hra := hcell q x hx
            have hxm : x ∈ L := List.mem_of_getElem? hx
            have Nx := (I5.nums x hxm).keep K (fun _ _ x => x)
            have Na := N5.keep K (fun _ _ x => x)
            have hxl := HLns.out x hxm
            have hsu := foundL_succ L at_ tag q x hx
            have hof := foundL_len (L.take q) at_ tag
            rw [List.length_take] at hof
            have Hsu := Lib.hid hsu
            obtain ⟨nm, tg, av, ns⟩ := x
            simp only at Nx hxl
            have c0 : wr.cell? ⟨b, off + q * 3, none⟩ = some (.string nm) := hra 0 _ rfl
            have c1' : wr.cell? ⟨b, off + q * 3 + 1, none⟩ = some (.string tg) := hra 1 _ rfl
            have c2' : wr.cell? ⟨b, off + q * 3 + 2, none⟩ = some av := hra 2 _ rfl
            obtain ⟨pn, cn, rfl⟩ := Nx.len
            obtain ⟨x, hxx⟩ : ∃ x : ItemV, x = ⟨nm, tg, .slice pn ns.length cn, ns⟩ := ⟨_, rfl⟩
            rw [← hxx] at Hsu hxm
            have htg : x.tag = tg := by rw [hxx]
            have hfv : foundV at_ x = (nm, farW ns at_) := by rw [hxx]; rfl
            have hfar := fun W (KW : Keep NoB wr W) => far_any _ _ ns at_ W (Nx.keep KW (fun _ _ x => x)) (Na.keep KW (fun _ _ x => x)) hxl (by omega)
            obtain ⟨fd, hfd⟩ : ∃ d, d = farW ns at_ := ⟨_, rfl⟩
            rw [← hfd] at hfar hfv
            obtain ⟨nl, hnl⟩ : ∃ m, m = ns.length := ⟨_, rfl⟩
            rw [← hnl] at hfar c2'
            have Hfar := Lib.hid hfar
            have Hxm := Lib.hid hxm
            have Hfv := Lib.hid hfv
            clear hcell hra hx hxx hfv hfar hfd hnl hxm hsu Ir Nx Na hxl
            by_cases hT : tagB tag x = true
            · rw [hT, if_pos rfl, Hfv.out] at Hsu
              have hcase : tag.toList.isEmpty = true ∨ (tag.toList.isEmpty = false ∧ (@BEq.beq (List UInt8) (@List.instBEq UInt8 instBEqOfDecidableEq) tg.toList tag.toList) = true) := by
                cases he : tag.toList.isEmpty with
                | true => exact .inl rfl
                | false =>
                  refine .inr ⟨rfl, ?_⟩
                  simp only [tagB, Bool.or_eq_true, decide_eq_true_eq, htg] at hT
                  rcases hT with h | h
                  · rw [h, ByteArray.toList_eq] at he; cases he
                  · rw [h]; exact beq_self_eq_true _
              have hmem : (nm, fd) ∈ foundL L at_ tag := by
                rw [← Hfv.out]
                exact List.mem_map.2 ⟨x, List.mem_filter.2 ⟨Hxm.out, hT⟩, rfl⟩
              have hrest := top_rest HF.out hmem k.toNat (by omega)
              have Hrest := Lib.hid hrest
              clear hT hmem hrest htg
              rcases hcase with ht1 | ⟨ht1, ht2⟩
              all_goals
                go_upto_region 20 with (fail)
                go_cut [16] (fun yv wx => ∃ Y, yv = .pointer (some ⟨Y, 0, none⟩) ∧ wx.heap[Y]? = some (.cells #[.string nm, .int .i64 fd] 43 (0, 0)) ∧ Keep NoB wr wx)
                case first =>
                  go_region_held3 (fun w' => w'.cell? ⟨b, off + q * 3, none⟩ = some (.string nm) ∧ w'.cell? ⟨b, off + q * 3 + 2, none⟩ = some (.slice pn nl cn)) (first | exact ⟨c0, c2'⟩ | exact ⟨g0, g2⟩ | exact ⟨G0.out _ _, G2.out _ _⟩ | go_keep) ((first | (go_at_call 22; refine (Hfar.out _ (by first | exact (Keep.refl _ _).drew | exact ((Keep.refl _ _).drew).alloc _ | exact ((Keep.refl _ _).alloc _).drew)).mono ?_; rintro e wz ⟨rfl, qz, hwz⟩; have KZ : Keep NoB wr wz := (by rw [hwz]; first | exact (Keep.refl _ _).drew.drewN _ | exact (((Keep.refl _ _).drew).alloc _).drewN _ | exact (((Keep.refl _ _).alloc _).drew).drewN _); have g0 := (KZ.cell (p := ⟨b, off + q * 3, none⟩) hb (fun x => x)).trans c0; have g2 := (KZ.cell (p := ⟨b, off + q * 3 + 2, none⟩) hb (fun x => x)).trans c2'; have G0 := Lib.hid (fun u u' => (((KZ.setCell (p := ⟨wr.heap.size, 0, none⟩) (.inr (Nat.le_refl _)) u).setCell (p := ⟨wr.heap.size, 1, none⟩) (.inr (Nat.le_refl _)) u').cell (p := ⟨b, off + q * 3, none⟩) hb (fun x => x)).trans c0); have G2 := Lib.hid (fun u u' => (((KZ.setCell (p := ⟨wr.heap.size, 0, none⟩) (.inr (Nat.le_refl _)) u).setCell (p := ⟨wr.heap.size, 1, none⟩) (.inr (Nat.le_refl _)) u').cell (p := ⟨b, off + q * 3 + 2, none⟩) hb (fun x => x)).trans c2'); first | (have hZ : wz.heap[wr.heap.size]? = some (.cells #[.string ⟨#[]⟩, .int .i64 0] 43 (0, 0)) := (by rw [hwz]; exact heap_alloc_new wr _); have z0 : wz.cell? ⟨wr.heap.size, 0, none⟩ = some (.string ⟨#[]⟩) := (by rw [cell_of_row _ _ _ _ _ (0, 0) hZ]; rfl); have z1 : wz.cell? ⟨wr.heap.size, 1, none⟩ = some (.int .i64 0) := (by rw [cell_of_row _ _ _ _ _ (0, 0) hZ]; rfl); have y0 : wz.frozen? ⟨wr.heap.size, 0, none⟩ = false := (by simp [World.frozen?, hZ]); have y1 : wz.frozen? ⟨wr.heap.size, 1, none⟩ = false := (by simp [World.frozen?, hZ]); have HZ := Lib.hid hZ; clear hZ hwz) | clear hwz)))
                  all_goals go_wp2_with fail
                  all_goals go_meet
                  all_goals first
                    | exact ⟨_, rfl, heap_alloc_new _ _, KZ.alloc _⟩
                    | exact ⟨_, rfl, heap_setCell_at2 (heap_setCell_at2 HZ.out _) _, (KZ.setCell (p := ⟨wr.heap.size, 0, none⟩) (.inr (Nat.le_refl _)) _).setCell (p := ⟨wr.heap.size, 1, none⟩) (.inr (Nat.le_refl _)) _⟩
                case rest =>
                  obtain ⟨Y, rfl, hY, KY⟩ := hcut
                  have hYl := lt_of_heap hY
                  have y0 : wc.cell? ⟨Y, 0, none⟩ = some (.string nm) := by rw [cell_of_row _ _ _ _ _ (0, 0) hY]; rfl
                  have y1 : wc.cell? ⟨Y, 1, none⟩ = some (.int .i64 fd) := by rw [cell_of_row _ _ _ _ _ (0, 0) hY]; rfl
                  have K6 := K.thenN KY
                  have R6 := R5.keep K6 (fun _ _ x => x)
                  have hct := fun Z : Ext wc => containsFound_any _ X (nm, fd) (wc.ext Z) (R6.keep (ext_keep wc Z) (fun _ _ x => x)) (by have := Hm.out; omega)
                  simp only [encF] at hct
                  clear c0 c1' c2' Hfar KY hY hb
                  obtain ⟨M, hM⟩ : ∃ M, M = memF (nm, fd) X := ⟨_, rfl⟩
                  rw [← hM] at hct
                  have HM := Lib.hid hM
                  have Hct := Lib.hid hct
                  clear hM hct
                  cases M with
                  | true =>
                    go_wp2_with fail
                    refine wp_region_q_ext (by kernel_rfl) (by kernel_rfl) ?_
                    iterate 21 ((with_reducible refine wpQuiet_step (fun K hK => ?_)); go_simp; first | (refine hK _ ?_; clear hK K) | (apply Exists.intro; refine ⟨fun _ => ?_, hK _ ?_⟩; (go_at_call 23; exact quiet_ext _ ((Hct.out _).mono fun e w' h => ⟨h.1, h.2.keep⟩)); clear hK K))
                    refine wpQuiet_nil ?_
                    intro Z
                    have K7 := K6.thenN (ext_keep wc Z)
                    go_wp2_with fail
                    refine ⟨⟨q + 1, by omega, by go_num, ?_, K7⟩, by simp [intOf]; omega⟩
                    rw [Hsu.out, List.length_append]
                    go_num
                  | false =>
                    have hnm : (nm, fd) ∉ X := fun h => by
                      have h1 := (memF_iff _ _).2 h
                      rw [← HM.out] at h1
                      cases h1
                    rcases Hrest.out with h | ⟨hkF, y, hy, hpos⟩
                    · exact absurd (by rw [HX2.out]; exact h) hnm
                    rw [← HX2.out] at hy
                    obtain ⟨i, hi⟩ : ∃ i, j = i + 1 := ⟨j - 1, by have := HXl.out; omega⟩
                    have hki : k.toNat - 1 = i := by have := HXl.out; omega
                    rw [hki] at hy
                    have dk : decide ((j : Int) < k) = false := by have := HXl.out; simp; omega
                    have hj65 : i < 1000 := by omega
                    obtain ⟨bX, oX, rfl, -, hbX, hcX⟩ := R6.at (by have := Hm.out; omega)
                    have rX := hcX i y hy
                    have hcm := fun W => compare_any (nm, fd) y W
                    obtain ⟨yn, yd⟩ := y
                    have e0 : wc.cell? ⟨bX, oX + i * 2, none⟩ = some (.string yn) := rX 0 _ rfl
                    have e1 : wc.cell? ⟨bX, oX + i * 2 + 1, none⟩ = some (.int .i64 yd) := rX 1 _ rfl
                    obtain ⟨C, hC⟩ : ∃ C, C = cmpF (nm, fd) (yn, yd) := ⟨_, rfl⟩
                    rw [← hC] at hcm hpos
                    simp only [encF] at hcm
                    have Hcm := Lib.hid hcm
                    have dC : decide (C ≤ 0) = false := by simp; omega
                    have hw1 : IntKind.i64.wrap ((j : Int) - 1) = (i : Int) := by rw [show (j : Int) - 1 = (i : Int) by omega]; exact IntWalk.i64_in _ (by omega)
                    have him : (i : Int) < (j : Int) := by omega
                    have hi0 : (0 : Int) ≤ (i : Int) := by omega
                    clear hcX rX hy hcm hC hnm hki hpos hkF hi
                    go_wp2_with fail
                    refine wp_region_q_ext (by kernel_rfl) (by kernel_rfl) ?_
                    iterate 21 ((with_reducible refine wpQuiet_step (fun K hK => ?_)); go_simp; first | (refine hK _ ?_; clear hK K) | (apply Exists.intro; refine ⟨fun _ => ?_, hK _ ?_⟩; (first | (go_at_call 23; exact quiet_ext _ ((Hct.out _).mono fun e w' h => ⟨h.1, h.2.keep⟩)) | (go_at_call 21; exact quiet_ext _ ((Hcm.out _).mono fun e w' h => ⟨h.1, h.2.keep⟩))); clear hK K))
                    refine wpQuiet_nil ?_
                    intro Z
                    have K7 := K6.thenN (ext_keep wc Z)
                    go_wp2_with fail
                    refine ⟨⟨q + 1, by omega, by go_num, ?_, K7⟩, by simp [intOf]; omega⟩
                    rw [Hsu.out, List.length_append]
                    go_num
            · have hT' : tagB tag x = false := by simpa using hT
              rw [if_neg hT, List.append_nil] at Hsu
              have ht1 : tag.toList.isEmpty = false := by
                cases he : tag.toList.isEmpty with
                | false => rfl
                | true =>
                  exfalso
                  refine hT ?_
                  have : tag = ⟨#[]⟩ := toList_inj (by rw [List.isEmpty_iff.1 he, ByteArray.toList_eq])
                  simp [tagB, this]
              have ht2 : (@BEq.beq (List UInt8) (@List.instBEq UInt8 instBEqOfDecidableEq) tg.toList tag.toList) = false := by
                rw [beq_eq_false_iff_ne]
                intro h
                refine hT ?_
                simp [tagB, htg, toList_inj h]
              clear hT hT' htg Hfar
              go_wp2_with fail
              refine ⟨⟨q + 1, by omega, by go_num, ?_, K⟩, by simp [intOf]; omega⟩
              rw [Hsu.out]
          · obtain rfl : q = n := by omega
            have htk : List.take q L = L := List.take_of_length_le (by rw [← Hn.out]; exact Nat.le_refl _)
            rw [htk]
            obtain ⟨fl, hfl⟩ : ∃ f, f = (foundL L at_ tag).length := ⟨_, rfl⟩
            rw [← hfl]
            have hjk : j = min k.toNat fl := by rw [hfl]; exact HXl.out
            have hmn : ((j : Int) == min k (fl : Int)) = true := by simp; omega
            have I6 : Items wr _ L := ⟨I5.rows.keep K (fun _ _ x => x), fun x hx => (I5.nums x hx).keep K (fun _ _ x => x)⟩
            have N6 := N5.keep K (fun _ _ x => x)
            have R6 := R5.keep K (fun _ _ x => x)
            have K6 := K5.thenN K
            have O6 : OwnsN wr w2.heap.size 34 3 (.slice p1 q c1) L.length (L.flatMap encItem) := by
              have h := HO5.out.keep K (fun _ _ x => x)
              rw [show L.length = q from Hn.out.symm]
              exact h
            obtain ⟨kn, hkn⟩ : ∃ kn : Nat, k = kn := ⟨k.toNat, by omega⟩
            have hpk := fun w => pick_any less k kn hkn (by omega) (by omega) w
            have hlt2 := pickN_lt less kn (by omega)
            obtain ⟨ls, hls⟩ : ∃ ls, ls = pickN less kn := ⟨_, rfl⟩
            rw [← hls] at hpk hlt2
            have hask2 : askB 2 at_ (1 + (ls : Int)) = true := by
              have := Hask.out
              simp only [askB, Bool.and_eq_true, decide_eq_true_eq] at this ⊢
              exact ⟨⟨this.1.1, by omega⟩, by omega⟩
            have hls60 : (ls : Int) ≤ 59 := by omega
            have HO6 := Lib.hid O6
            have Hfl := Lib.hid hfl
            have Hkn := Lib.hid hkn
            have Hjk := Lib.hid hjk
            have Hpk := Lib.hid hpk
            have hnav := N6.len
            clear htk hfl hkn hls O6 I5 N5 R5 K5 K HO5 hjk hpk hq hlt
            go_wp2_with fail
            refine (Hpk.out _).mono ?_
            rintro e wz ⟨rfl, hw⟩
            subst hw
            go_wp2_with fail
            refine (top_yes 2 _ L _ at_ _ tag wz I6 N6 (by have := Hn.out; omega) (by omega) HLns.out hask2).mono ?_
            rintro e w7 ⟨v3, rfl, R7, hb7, K7⟩
            have I7 : Items w7 _ L := ⟨I6.rows.keep K7 (fun _ _ x => x), fun x hx => (I6.nums x hx).keep K7 (fun _ _ x => x)⟩
            have N7 := N6.keep K7 (fun _ _ x => x)
            have R7x := R6.keep K7 (fun _ _ x => x)
            have K7' := K6.thenN K7
            have O7 := HO6.out.keep K7 (fun _ _ x => x)
            clear I6 N6 R6 K6 HO6 hb7 K7
            go_wp2_with fail
            refine (cloneItem_any _ L _ w7 O7 Hav.out (by have := Hn.out; omega)).mono ?_
            rintro e w8 ⟨v4, rfl, O8, K8⟩
            go_wp2_with fail
            refine (reverseItem_any v4 L _ w8 O8 Hav.out (by have := Hn.out; omega)).mono ?_
            rintro e w9 ⟨rfl, R9, K9⟩
            have K89 : Keep NoB w7 w9 := K8.trans K9 (fun i hi hs => absurd hi (Nat.not_lt.2 hs))
            have I9 : Items w9 v4 L.reverse := ⟨R9, fun x hx => (I7.nums x (List.mem_reverse.1 hx)).keep K89 (fun _ _ x => x)⟩
            have N9 := N7.keep K89 (fun _ _ x => x)
            have R9x := R7x.keep K89 (fun _ _ x => x)
            have R9y := R7.keep K89 (fun _ _ x => x)
            have K9' := K7'.thenN K89
            clear I7 N7 R7x R7 K7' O7 O8 R9 K9 K8 K89
            go_wp2_with fail
            refine (top_yes 2 v4 L.reverse _ at_ k tag w9 I9 N9 (by rw [List.length_reverse]; have := Hn.out; omega) (by omega) (fun x hx => HLns.out x (List.mem_reverse.1 hx)) Hask.out).mono ?_
            rintro e w10 ⟨v6, rfl, R10, hb10, K10⟩
            have hXe : topV L.reverse at_ k tag = X := by rw [topV_perm (List.reverse_perm L), HX2.out]; rfl
            rw [hXe] at R10
            have R10x := R9x.keep K10 (fun _ _ x => x)
            have R10y := R9y.keep K10 (fun _ _ x => x)
            have K10' := K9'.thenN K10
            clear I9 N9 R9x R9y K9' hb10 K10 hXe
            have hxl : X.length ≤ 1000000 := by have := Hm.out; omega
            have ht := R10x.take (min (1 + (ls : Int)) (j : Int)).toNat (by have := Hm.out; omega) c2
            have hy : topV L at_ (1 + (ls : Int)) tag = X.take (min (1 + (ls : Int)) (j : Int)).toNat := by
              rw [HX2.out, topV, List.take_take]
              have hS := sortF_len (foundL L at_ tag)
              rw [← Hfl.out] at hS
              have hj := Hjk.out
              have hkk := Hkn.out
              by_cases hc : 1 + ls ≤ j
              · congr 1; omega
              · rw [List.take_of_length_le (by omega), List.take_of_length_le (by omega)]
            have hyl : (topV L at_ (1 + (ls : Int)) tag).length ≤ 1000000 := by rw [hy, List.length_take]; omega
            have heq1 := equalFound_any v3 _ _ _ w10 R10y ht hyl (by rw [List.length_take]; omega)
            rw [decide_eq_true hy] at heq1
            have heq2 : ∀ w, (∃ q, w = w10.drewN q) → Calls Tryd.prog 19 #[v6, .slice p2 j c2] w fun e w' => e = .returned (.bool true) ∧ ∃ q, w' = w.drewN q := fun w Q => by
              have h := equalFound_any v6 _ X X w (by obtain ⟨q, rfl⟩ := Q; exact R10.keep ((Keep.refl NoB w10).drewN q) (fun _ _ x => x)) (by obtain ⟨q, rfl⟩ := Q; exact R10x.keep ((Keep.refl NoB w10).drewN q) (fun _ _ x => x)) hxl hxl
              rw [decide_eq_true rfl] at h
              exact h
            have Heq1 := Lib.hid heq1
            have Heq2 := Lib.hid heq2
            clear heq1 heq2 hy hyl ht R10 R10x R10y hxl
            go_wp2_with fail
            refine Heq1.out.mono ?_
            rintro e w11 ⟨rfl, q11, rfl⟩
            go_wp2_with fail
            refine (Heq2.out _ ⟨q11, rfl⟩).mono ?_
            rintro e w12 ⟨rfl, q12, rfl⟩
            go_wp2_with fail
            go_ret
            exact ⟨rfl, by first | exact (K10'.drewN _).drewN _ | exact K10'.drewN _⟩
end Go.Proofs.YtcjilojkhmondaaDoor
