/-
  DERIVED. The reference's Top.
-/
import Derived.Test.YtcjilojkhmondaaDoorSelP
import Derived.Deep.RegionLaw
import Derived.Deep.MidRow
set_option linter.unusedVariables false
set_option linter.unusedSimpArgs false
namespace Go.Proofs.YtcjilojkhmondaaDoor
open Go.RowKit Go.Cof Go.Sort Go.Shelf
theorem topR_no (dim : Int) (v va : Value) (at_ : List Int) (k : Int) (tag : ByteArray) (w : World) (N : Nums w va at_) (ha : at_.length ≤ 1000000) (hn : askB dim at_ k = false) :
    Calls Tryd.prog 30 #[.int .i64 dim, v, va, .int .i64 k, .string tag] w fun e w' => e = .returned (.tuple #[.slice none 0 0, .int .i64 1]) ∧ w' = w := by
  have h := rightAsk_any dim va at_ k w N ha
  rw [hn] at h
  go_enter Tryd.func30, Tryd.ntmps30
  go_wp2_with fail
  refine h.mono ?_
  rintro e w' ⟨rfl, hw⟩
  subst w'
  go_wp2_with fail
  go_ret2
  exact ⟨rfl, rfl⟩
theorem found_at {w : World} {base g n cap : Nat} {L : List FoundV} (h : OwnsN w base 43 2 (.slice (some ⟨g, 0, none⟩) n cap) n (L.flatMap encF)) {i : Nat} {x : FoundV} (hx : L[i]? = some x) : w.cell? ⟨g, i * 2, none⟩ = some (.string x.1) ∧ w.cell? ⟨g, i * 2 + 1, none⟩ = some (.int .i64 x.2) := by
  have f : ∀ t u, (encF x)[t]? = some u → (L.flatMap encF)[i * 2 + t]? = some u := fun t u hu => by
    have ht : t < 2 := (List.getElem?_eq_some_iff.1 hu).1
    rw [flat_get encF_len L i t ht, hx]; exact hu
  have y0 := h.cells rfl (i * 2 + 0) _ (f 0 _ rfl)
  have y1 := h.cells rfl (i * 2 + 1) _ (f 1 _ rfl)
  have e : ∀ j, (⟨g, 0, none⟩ : Addr).add j = ⟨g, j, none⟩ := fun j => by unfold Addr.add; split <;> simp_all
  rw [e, Nat.add_zero] at y0
  rw [e] at y1
  exact ⟨y0, y1⟩
theorem addAt0 (b i : Nat) : (⟨b, 0, none⟩ : Addr).add i = ⟨b, i, none⟩ := by unfold Addr.add; split <;> simp_all
theorem flat_drop : ∀ (L : List FoundV) (m : Nat), (L.flatMap encF).drop (m * 2) = (L.drop m).flatMap encF
  | [], m => by simp
  | x :: L, 0 => by simp
  | x :: L, m + 1 => by
    rw [List.flatMap_cons, List.drop_succ_cons, Nat.succ_mul, Nat.add_comm, ← encF_len x, List.drop_length_add_append, encF_len x, flat_drop L m]
theorem own_sl {w : World} {base : Nat} {e : TypeId} {size : Nat} {v : Value} {n : Nat} {xs : List Value} (h : OwnsN w base e size v n xs) : ∃ p c, v = .slice p n c := by
  rcases h.2 with ⟨h, hn⟩ | ⟨_, _, _, _, h, _⟩
  · exact ⟨none, 0, by rw [h, hn]⟩
  · exact ⟨_, _, h⟩
def lenV : Value → Nat
  | .slice _ n _ => n
  | _ => 0
def AprtV (a b : Value) : Prop := ∀ g, a.ownBlock = some g → b.ownBlock ≠ some g
set_option maxRecDepth 100000 in
set_option maxHeartbeats 8000000 in
theorem topR_yes (dim : Int) (v : Value) (l : List ItemV) (va : Value) (at_ : List Int) (k : Int) (tag : ByteArray) (w : World) (I : Items w v l) (N : Nums w va at_) (hl : l.length ≤ 1000) (ha : at_.length ≤ 1000000) (hns : ∀ x ∈ l, x.ns.length ≤ 1000000) (hn : askB dim at_ k = true) :
    Calls Tryd.prog 30 #[.int .i64 dim, v, va, .int .i64 k, .string tag] w fun e w' => ∃ v', e = .returned (.tuple #[v', .int .i64 0]) ∧ RowsK w' v' 2 encF (topV l at_ k tag) ∧ Keep NoB w w' := by
  have h := rightAsk_any dim va at_ k w N ha
  rw [hn] at h
  have hk1 : 1 ≤ k ∧ k ≤ 60 := by
    simp only [askB, Bool.and_eq_true, decide_eq_true_eq] at hn
    omega
  obtain ⟨K0, rfl⟩ : ∃ K0 : Nat, k = K0 := ⟨k.toNat, by omega⟩
  have hK0 : 1 ≤ K0 ∧ K0 ≤ 60 := by omega
  obtain ⟨p, c, rfl⟩ := I.rows.len
  obtain ⟨n, hn2⟩ : ∃ n, n = l.length := ⟨_, rfl⟩
  rw [← hn2] at I hl
  rw [← hn2]
  have Hn := Lib.hid hn2
  have HI := Lib.hid I
  have HN := Lib.hid N
  have Hns := Lib.hid hns
  have Hh := Lib.hid h
  obtain ⟨i0, hi0, hz0, hs0, hb0⟩ := found_info
  clear hn2 I N hns h hn hk1
  go_enter Tryd.func30, Tryd.ntmps30
  go_wp2_with fail
  refine Hh.out.mono ?_
  rintro e w' ⟨rfl, hw⟩
  subst w'
  go_wp2_with fail
  go_loopw [13, 25] (fun ov i wr => ∃ (j : Nat) (o : Value), j ≤ n ∧ i = .int .i64 j ∧ o = ov ∧ Hid (OwnsN wr w.heap.size 43 2 o (foundL (l.take j) at_ tag).length ((foundL (l.take j) at_ tag).flatMap encF)) ∧ Keep NoB w wr) (fun _ i _ => n - (intOf i).toNat)
  case atStart => exact ⟨0, _, by omega, rfl, rfl, Lib.hid (OwnsN.nil _ _ _ _), Keep.refl _ _⟩
  case round =>
    obtain ⟨j, o, hj, rfl, rfl, O, K⟩ := hrel
    by_cases hlt : j < n
    · have j1 : (j : Int) < n := by omega
      have Ir := HI.out.rows.keep K (fun _ _ x => x)
      obtain ⟨b, off, rfl, -, hb, hcell⟩ := Ir.at (by have := Hn.out; omega)
      obtain ⟨x, hx⟩ : ∃ x, l[j]? = some x := ⟨_, List.getElem?_eq_getElem (by have := Hn.out; omega)⟩
      have hra := hcell j x hx
      have hxm : x ∈ l := List.mem_of_getElem? hx
      have Nx := (HI.out.nums x hxm).keep K (fun _ _ x => x)
      have hxl := Hns.out x hxm
      have hsu := foundL_succ l at_ tag j x hx
      have hfl := foundL_len (l.take j) at_ tag
      rw [List.length_take] at hfl
      have hfar := fun w3 (K3 : Keep NoB wr w3) => farRef_any _ va x.ns at_ w3 (Nx.keep K3 (fun _ _ x => x)) (HN.out.keep (K.thenN K3) (fun _ _ x => x)) hxl ha
      have c0 : wr.cell? ⟨b, off + j * 3, none⟩ = some (.string x.name) := hra 0 _ rfl
      have c1 : wr.cell? ⟨b, off + j * 3 + 1, none⟩ = some (.string x.tag) := hra 1 _ rfl
      have c2 : wr.cell? ⟨b, off + j * 3 + 2, none⟩ = some x.av := hra 2 _ rfl
      obtain ⟨nl, hnl⟩ : ∃ m, m = x.ns.length := ⟨_, rfl⟩
      obtain ⟨pa, ca, hav⟩ := Nx.len
      rw [hav] at c2 hfar
      rw [← hnl] at c2 hfar
      obtain ⟨nm, hnm⟩ : ∃ nm, nm = x.name := ⟨_, rfl⟩
      obtain ⟨tg, htg⟩ : ∃ tg, tg = x.tag := ⟨_, rfl⟩
      obtain ⟨fd, hfd⟩ : ∃ fd, fd = farW x.ns at_ := ⟨_, rfl⟩
      rw [← hnm] at c0
      rw [← htg] at c1
      rw [← hfd] at hfar
      have Hfar := Lib.hid hfar
      have Hsu := Lib.hid hsu
      have Hfl := Lib.hid hfl
      have hfv : foundV at_ x = (nm, fd) := by rw [hnm, hfd]; rfl
      have htb : tagB tag x = (decide (tag = ⟨#[]⟩) || decide (tg = tag)) := by rw [htg]; rfl
      have Hfv := Lib.hid hfv
      have Htb := Lib.hid htb
      obtain ⟨m, hm⟩ : ∃ m, m = (foundL (l.take j) at_ tag).length := ⟨_, rfl⟩
      have hmj : m ≤ j := by omega
      have O2 := O.out
      rw [← hm] at O2
      have HO2 := Lib.hid O2
      have Hm := Lib.hid hm
      clear hcell hsu hx hxm hra hfl hfar hfv htb hnl hav hnm htg hfd Nx Ir O O2 hm hxl
      have hKx : Keep NoB wr (wr.alloc (.cells #[.string nm, .string tg, .slice pa nl ca] 34)) := (Keep.refl _ _).alloc _
      have hskip : tagB tag x = false → (foundL (l.take (j + 1)) at_ tag) = foundL (l.take j) at_ tag := fun h => by rw [Hsu.out, h]; simp
      have hadd : tagB tag x = true → (foundL (l.take (j + 1)) at_ tag) = foundL (l.take j) at_ tag ++ [(nm, fd)] := fun h => by rw [Hsu.out, h, Hfv.out]; simp
      have Hskip := Lib.hid hskip
      have Hadd := Lib.hid hadd
      clear hskip hadd
      have hKs := K.size
      have hfarD := fun q => Hfar.out ((wr.alloc (.cells #[.string nm, .string tg, .slice pa nl ca] 34)).drewN q) (hKx.drewN q)
      have HfarD := Lib.hid hfarD
      clear hfarD
      by_cases hT : tagB tag x = true
      · have hadd := Hadd.out hT
        have hcase : tag.toList.isEmpty = true ∨ (tag.toList.isEmpty = false ∧ (@BEq.beq (List UInt8) (@List.instBEq UInt8 instBEqOfDecidableEq) tag.toList tg.toList) = true) := by
          cases he : tag.toList.isEmpty with
          | true => exact .inl rfl
          | false =>
            refine .inr ⟨rfl, ?_⟩
            rw [Htb.out, Bool.or_eq_true, decide_eq_true_eq, decide_eq_true_eq] at hT
            rcases hT with h | h
            · rw [h, ByteArray.toList_eq] at he; cases he
            · rw [h]; exact beq_self_eq_true _
        have HE := Lib.hid hadd
        clear hT hadd
        rcases hcase with ht1 | ⟨ht1, ht2⟩
        all_goals
          go_wp2_with fail
          refine wp_region_pqt_drew 8 [0, 1, 3, 5] (by kernel_rfl) (by kernel_rfl) (fun c a d v w h => by cases d <;> exact h) ?_
          rw [show restOf 8 [0, 1, 3, 5] = [2, 4, 6, 7] from rfl]
          simp only [pickL, List.getElem?_toArray, List.getElem?_cons_succ, List.getElem?_cons_zero, List.drop_succ_cons, List.drop_zero]
          iterate 4 ((with_reducible refine wpEarly_step (fun K hK => ?_)); go_simp; refine hK _ ?_; clear hK K)
          with_reducible refine wpEarly_nil ?_
          iterate 4 ((with_reducible refine wpQuiet_step (fun K hK => ?_)); go_simp; first | (refine hK _ ?_; clear hK K) | (apply Exists.intro; refine ⟨fun _ => ?_, hK _ ?_⟩; (go_at_call 33; exact Calls.quiet_of (HfarD.out _)); clear hK K))
          refine wpQuiet_nil ?_
          intro q
          have hW1 : OwnsN ((wr.alloc (.cells #[.string nm, .string tg, .slice pa nl ca] 34)).drewN q) w.heap.size 43 2 o m _ := (HO2.out.alloc _).drewN q
          have hK1 : Keep NoB w ((wr.alloc (.cells #[.string nm, .string tg, .slice pa nl ca] 34)).drewN q) := (K.alloc _).drewN q
          refine wl_world (fun w1 => OwnsN w1 w.heap.size 43 2 o m ((foundL (l.take j) at_ tag).flatMap encF) ∧ Keep NoB w w1) ⟨hW1, hK1⟩ ?_
          rintro w1 ⟨hO1, hK⟩
          clear hW1 hK1
          go_wp2_with (at_builtin; refine wpList_append_n _ rfl _ _ 36 rfl w.heap.size 43 i0 _ 2 24 Tryd.underlying36 hi0 hz0 hs0 hb0 rfl (by decide) o _ _ rfl (hO1.alloc _) ⟨w1.heap.size, 0, none⟩ 1 1 [.string nm, .int .i64 fd] rfl rfl (cells_new _ _ _) (encF_one (nm, fd)) (by unfold maxLen; omega) (by omega) (by have := hK.size; simp; omega) ?_; intro v' w' own' hgrow)
          have hK5 : Keep NoB w w' := ((hK.alloc (.cells #[.string nm, .int .i64 fd] 43)).grown hgrow (fun k hk => .inr (hO1.lt k hk).1))
          refine ⟨⟨j + 1, _, by omega, by go_num, rfl, Lib.hid ?_, hK5⟩, by simp [intOf]; omega⟩
          rw [HE.out, List.length_append, List.flatMap_append, ← Hm.out]
          exact own'
      · have hT' : tagB tag x = false := by simpa using hT
        have HE := Lib.hid (Hskip.out hT')
        have hno := hT'
        rw [Htb.out, Bool.or_eq_false_iff, decide_eq_false_iff_not, decide_eq_false_iff_not] at hno
        have ht1 : tag.toList.isEmpty = false := by
          cases he : tag.toList.isEmpty with
          | false => rfl
          | true =>
            exfalso
            exact hno.1 (toList_inj (by rw [List.isEmpty_iff.1 he, ByteArray.toList_eq]))
        have ht2 : (@BEq.beq (List UInt8) (@List.instBEq UInt8 instBEqOfDecidableEq) tag.toList tg.toList) = false := by
          rw [beq_eq_false_iff_ne]
          intro h
          exact hno.2 (toList_inj h).symm
        clear hT hT' hno
        go_wp2_with fail
        refine ⟨⟨j + 1, _, by omega, by go_num, rfl, Lib.hid ?_, K.alloc _⟩, by simp [intOf]; omega⟩
        rw [HE.out, ← Hm.out]
        exact HO2.out.alloc _
    · obtain rfl : j = n := by omega
      have hO := O.out
      have hN : List.take j l = l := List.take_of_length_le (by rw [← Hn.out]; exact Nat.le_refl _)
      rw [hN] at hO
      obtain ⟨F, hF⟩ : ∃ F, F = foundL l at_ tag := ⟨_, rfl⟩
      have hFl : F.length ≤ 1000 := by have := foundL_len l at_ tag; rw [hF]; have := Hn.out; omega
      rw [← hF] at hO
      have HF := Lib.hid hF
      have HO := Lib.hid hO
      clear hF hO hN O
      go_wp2_with fail
      go_loopw [12, 13] (fun ov av wr => ∃ (i : Nat) (o a : Value), i ≤ K0 ∧ o = ov ∧ a = av ∧ Hid ((selK F i).1.length = i ∧ (selK F i).1.length + (selK F i).2.length = F.length) ∧ Hid (OwnsN wr w.heap.size 43 2 o i ((selK F i).1.flatMap encF)) ∧ Hid (OwnsN wr w.heap.size 43 2 a (selK F i).2.length ((selK F i).2.flatMap encF)) ∧ Hid (AprtV o a) ∧ Keep NoB w wr) (fun _ av _ => lenV av)
      case atStart => exact ⟨0, _, _, by omega, rfl, rfl, Lib.hid ⟨rfl, by rw [selK]; simp⟩, Lib.hid (OwnsN.nil _ _ _ _), Lib.hid (by rw [selK]; exact HO.out), Lib.hid (fun g h => by cases h), K⟩
      case round =>
        clear K HO
        obtain ⟨i, o, a, hi, rfl, rfl, hl1, hO, hA, hap, K⟩ := hrel
        obtain ⟨wq, rfl⟩ : ∃ wq, wq = wr := ⟨_, rfl⟩
        obtain ⟨L, hL⟩ : ∃ L, L = (selK F i).2 := ⟨_, rfl⟩
        obtain ⟨O, hOe⟩ : ∃ O, O = (selK F i).1 := ⟨_, rfl⟩
        rw [← hL] at hl1 hA
        rw [← hOe] at hl1 hO
        have HL := Lib.hid hL
        have HOe := Lib.hid hOe
        obtain ⟨po, co, ho⟩ := own_sl hO.out
        obtain ⟨pa, ca, ha2⟩ := own_sl hA.out
        obtain ⟨nl, hnl⟩ : ∃ n, n = L.length := ⟨_, rfl⟩
        rw [← hnl] at ha2 hA
        subst ho ha2
        have Hnl := Lib.hid hnl
        have hnl1000 : nl ≤ 1000 := by have := hl1.out.2; omega
        clear hL hOe hnl
        by_cases hgo : i < K0 ∧ 0 < nl
        · have h1 : (i : Int) < K0 := by omega
          have h2 : (0 : Int) < nl := by omega
          have hgo1 := hgo.1
          have hgo2 := hgo.2
          clear hgo
          obtain ⟨g, cap, hv, -, -⟩ := hA.out.some (by have := Hnl.out; omega)
          cases hv
          go_wp2_with fail
          go_loopw [16, 59] (fun bv tv wx => ∃ t : Nat, t ≤ nl ∧ tv = .int .i64 t ∧ bv = .int .i64 (bestK L t) ∧ Keep NoB wq wx) (fun _ tv _ => nl - (intOf tv).toNat)
          case atStart => exact ⟨0, by omega, rfl, rfl, Keep.refl _ _⟩
          case round =>
            obtain ⟨t, ht, rfl, rfl, Kx⟩ := hrel
            by_cases htl : t < nl
            · have t1 : (t : Int) < nl := by omega
              have hb : bestK L t < nl := by
                rcases Nat.eq_zero_or_pos t with rfl | h0
                · exact hgo2
                · have := bestK_lt L t h0 (by rw [← Hnl.out]; omega); omega
              have b1 : ((bestK L t : Nat) : Int) < nl := by omega
              obtain ⟨x, hx⟩ : ∃ x, L[t]? = some x := ⟨_, List.getElem?_eq_getElem (by rw [← Hnl.out]; exact htl)⟩
              obtain ⟨y, hy⟩ : ∃ y, L[bestK L t]? = some y := ⟨_, List.getElem?_eq_getElem (by rw [← Hnl.out]; exact hb)⟩
              have hAx := hA.out.keep Kx (fun _ _ x => x)
              obtain ⟨x0, x1⟩ := found_at hAx hx
              obtain ⟨y0, y1⟩ := found_at hAx hy
              have hbest : bestK L (t + 1) = if aheadB x y then t else bestK L t := by
                rw [bestK, List.getD_eq_getElem?_getD, List.getD_eq_getElem?_getD, hx, hy]; rfl
              have hah := fun w => ahead_any x y w
              obtain ⟨B, hB⟩ : ∃ B, B = aheadB x y := ⟨_, rfl⟩
              rw [← hB] at hah hbest
              obtain ⟨bk, hbk⟩ : ∃ bk, bk = bestK L t := ⟨_, rfl⟩
              rw [← hbk] at hb b1 y0 y1 hbest ⊢
              obtain ⟨xn, xd⟩ := x
              obtain ⟨yn, yd⟩ := y
              simp only at x0 x1 y0 y1
              have Hah : Hid (∀ w, Calls Tryd.prog 56 #[.agg #[.string xn, .int .i64 xd], .agg #[.string yn, .int .i64 yd]] w fun e w' => e = .returned (.bool B) ∧ Keep NoB w w') := Lib.hid hah
              have Hbest := Lib.hid hbest
              clear hah hB hbest hbk hx hy hAx
              go_wp2_with fail
              go_region_with (go_at_call 56; refine (Hah.out _).mono ?_; rintro e w2 ⟨rfl, K2⟩)
              all_goals
                have Kn : Keep NoB wq w2 := Kx.thenN (((Keep.refl NoB _).drewN 1).thenN K2)
                cases B with
                | true =>
                  go_wp2_with fail
                  exact ⟨⟨t + 1, by omega, by go_num, by rw [Hbest.out]; rfl, Kn⟩, by simp [intOf]; omega⟩
                | false =>
                  go_wp2_with fail
                  exact ⟨⟨t + 1, by omega, by go_num, by rw [Hbest.out]; rfl, Kn⟩, by simp [intOf]; omega⟩
            · obtain rfl : t = nl := by omega
              have hb : bestK L t < t := bestK_lt L t hgo2 (by rw [← Hnl.out]; exact Nat.le_refl _)
              have b1 : ((bestK L t : Nat) : Int) < t := by omega
              have hA2 := hA.out.keep Kx (fun _ _ x => x)
              have hO2 := hO.out.keep Kx (fun _ _ x => x)
              have hK2 := K.thenN Kx
              obtain ⟨y, hy⟩ : ∃ y, L[bestK L t]? = some y := ⟨_, List.getElem?_eq_getElem (by rw [← Hnl.out]; exact hb)⟩
              obtain ⟨y0, y1⟩ := found_at hA2 hy
              have hnx : selNext L = y := by rw [selNext, ← Hnl.out, List.getD_eq_getElem?_getD, hy]; rfl
              have hrs : selRest L = L.take (bestK L t) ++ L.drop (bestK L t + 1) := by rw [selRest, ← Hnl.out]
              have hLne : L ≠ [] := fun e => by have := Hnl.out; rw [e] at this; simp at this; omega
              have hS1 : (selK F (i + 1)).1 = O ++ [y] ∧ (selK F (i + 1)).2 = selRest L := by
                rw [selK, ← HL.out, if_neg hLne, ← HOe.out, hnx]; exact ⟨rfl, rfl⟩
              have hrl := selRest_len L hLne
              obtain ⟨bk, hbk⟩ : ∃ bk, bk = bestK L t := ⟨_, rfl⟩
              rw [← hbk] at hb b1 y0 y1 hrs ⊢
              obtain ⟨yn, yd⟩ := y
              simp only at y0 y1
              have hA3 := hA2.take (bk) (by omega)
              have hcapA : t ≤ ca := by
                rcases hA2.2 with ⟨h, _⟩ | ⟨_, _, _, _, h, _, _, _, hc, _⟩
                · cases h
                · cases h; exact hc
              have HS1 := Lib.hid hS1
              have Hrl := Lib.hid hrl
              have Hrs := Lib.hid hrs
              have HA2 := Lib.hid hA2
              have HO2 := Lib.hid hO2
              have HK2 := Lib.hid hK2
              have hO20 : i ≤ 60 := by omega
              clear hA2 hO2 hK2 hS1 hrl hrs hy hnx hLne hbk hA3
              have hsz := HK2.out.size
              go_wp2_with (at_builtin; refine wpList_append_s _ rfl _ _ 36 rfl w.heap.size 43 i0 _ 2 24 Tryd.underlying36 hi0 hz0 hs0 hb0 rfl (by decide) (.slice po i co) i _ rfl (HO2.out.alloc _) ⟨wr.heap.size, 0, none⟩ 1 1 [.string yn, .int .i64 yd] rfl rfl (cells_new _ _ _) (encF_one (yn, yd)) (by unfold maxLen; omega) (by omega) (by show w.heap.size ≤ (wr.heap.push _).size; rw [Array.size_push]; omega) ?_; intro v6 w6 own6 hg6 hwh6)
              have Kg : Keep (fun b => (Value.slice po i co).ownBlock = some b) wr w6 := ((Keep.refl _ _).alloc _).grown hg6 (fun k hk => .inl hk)
              have hA6 := HA2.out.keep Kg (fun b hb hs => hap.out b hs hb)
              have hgl := (HA2.out.lt g rfl).2
              have hap6 : ∀ b, v6.ownBlock = some b → b ≠ g ∧ b < w6.heap.size := fun b hb => by
                refine ⟨fun e => ?_, (own6.lt b hb).2⟩
                subst e
                rcases hwh6 with h | h
                · exact hap.out b (by rw [← h]; exact hb) rfl
                · have := h b hb
                  have h2 : b < (wr.alloc (.cells #[.string yn, .int .i64 yd] 43)).heap.size := by show b < (wr.heap.push _).size; rw [Array.size_push]; omega
                  omega
              have own6' : OwnsN w6 w.heap.size 43 2 v6 (i + 1) ((selK F (i + 1)).1.flatMap encF) := by
                rw [HS1.out.1, List.flatMap_append]; exact own6
              have K6 : Keep NoB w w6 := HK2.out.trans Kg (fun b hb hs => absurd hb (Nat.not_lt.2 (HO2.out.lt b hs).1))
              have HA6 := Lib.hid hA6
              have Hap6 := Lib.hid hap6
              have H6 := Lib.hid own6'
              have hs6 := K6.size
              have hbk1 : bk ≤ ca := by omega
              have hbk2 : bk + 1 ≤ t := by omega
              obtain ⟨bn, hbn⟩ : ∃ bn, bn = bk + 1 := ⟨_, rfl⟩
              have hbkw : IntKind.i64.wrap ((bk : Int) + 1) = (bn : Int) := by rw [IntWalk.i64_in _ (by omega)]; omega
              rw [← hbn] at hbk2
              have Hbn := Lib.hid hbn
              clear hbn
              clear own6 hg6 hwh6 own6' hA6 hap6 Kg y0 y1 HK2 HO2
              refine wp_region_pqt_drew 7 [0, 1, 2, 3, 4, 5, 6] (by kernel_rfl) (by kernel_rfl) (fun c a d v w h => by cases d <;> exact h) ?_
              rw [show restOf 7 [0, 1, 2, 3, 4, 5, 6] = [] from rfl]
              simp only [pickL, List.getElem?_toArray, List.getElem?_cons_succ, List.getElem?_cons_zero, List.drop_succ_cons, List.drop_zero]
              repeat ((with_reducible refine wpEarly_step (fun K hK => ?_)); go_simp; refine hK _ ?_; clear hK K)
              with_reducible refine wpEarly_nil ?_
              refine wpQuiet_nil ?_
              intro q
              have hnl6 : (L.flatMap encF).length = t * 2 := by rw [flat_len encF_len, Hnl.out]
              have hml : bk + (t - bn) = (selRest L).length := by have h1 := Hrl.out; rw [← Hnl.out] at h1; have := Hbn.out; omega
              have X4 : ∀ (a : Act) (ops : Array Oper) (rest : List Oper) (o : Oper) (Q : Exit → Act → World → Prop) (pp qq : Operand) (ad : Addr) (cc : Nat), (∀ j, ad.add j = ⟨g, bn * 2 + j, none⟩) ∨ t = bn → o.guard = none → o.op = .call { callee := .builtin .append, args := #[pp, qq], argTypes := #[36, 36] } → a.eval pp = .slice (some ⟨g, 0, none⟩) bk ca → a.eval qq = .slice (some ad) (t - bn) cc →
                  (∀ v7 w7, OwnsN w7 w.heap.size 43 2 v7 (selRest L).length ((selRest L).flatMap encF) → (w6.drewN q).grownBy w7 (some g) → (v7.ownBlock = some g ∨ ∀ b, v7.ownBlock = some b → w6.heap.size ≤ b) → wpList Tryd.prog ops Q rest (a.put o.dst v7) w7) → wpList Tryd.prog ops Q (o :: rest) a (w6.drewN q) := by
                intro a ops rest o Q pp qq ad cc had h1 h2 h3 h4 h5
                refine wpList_append_s (w := w6.drewN q) h1 pp qq 36 h2 w.heap.size 43 i0 _ 2 24 Tryd.underlying36 hi0 hz0 hs0 hb0 rfl (by decide) _ bk _ h3 ((HA6.out.take bk (by omega)).drewN q) ad (t - bn) cc ((L.flatMap encF).drop (bn * 2)) h4 (by rw [List.length_drop, hnl6, Nat.sub_mul]) (fun j u hu => ?_) (fun u hu => flatF_one L u (List.mem_of_mem_drop hu)) (by unfold maxLen; omega) (by omega) hs6 ?_
                · rcases had with had | had
                  case inr =>
                    rw [List.drop_of_length_le (by rw [hnl6, had]; exact Nat.le_refl _)] at hu
                    simp at hu
                  rw [List.getElem?_drop] at hu
                  have h6 := HA6.out.cells rfl _ _ hu
                  rw [had j]
                  rw [show (⟨g, 0, none⟩ : Addr).add (bn * 2 + j) = ⟨g, bn * 2 + j, none⟩ from addAt0 g _] at h6
                  exact h6
                · intro v7 w7 h6 h7 h8
                  rw [hml] at h6
                  refine h5 v7 w7 ?_ h7 h8
                  rw [Hrs.out, ← Hbn.out, List.flatMap_append, ← flat_take encF_len, ← flat_drop]
                  rw [Hrs.out, ← Hbn.out] at h6
                  exact h6
              have HX4 := Lib.hid X4
              clear X4
              refine HX4.out _ _ _ _ _ _ _ (if ca = bn then ⟨g, 0, none⟩ else ⟨g, bn * 2, none⟩) (ca - bn) ?_ rfl rfl rfl ?_ ?_
              · by_cases e : ca = bn
                · exact .inr (by omega)
                · left
                  intro j
                  rw [if_neg e]
                  unfold Addr.add
                  simp
              · by_cases e : ca = bn
                · rw [if_pos e]
                  go_simp
                · rw [if_neg e]
                  go_simp
              intro v7 w7 own7 hg7 hwh7
              go_wp2_with fail
              have K7 : Keep (OneB g) w6 w7 := ((Keep.refl _ _).drewN q).grown hg7 (fun k hk => .inl (by cases hk; rfl))
              have own6'' := H6.out.keep K7 (fun b hb hs => (Hap6.out b hb).1 hs)
              have apn : AprtV v6 v7 := by
                intro b hb h7
                rcases hwh7 with h | h
                · rw [h] at h7
                  cases h7
                  exact (Hap6.out _ hb).1 rfl
                · have := h b h7; have := (Hap6.out b hb).2; omega
              refine ⟨⟨i + 1, _, _, by omega, rfl, rfl, Lib.hid ⟨by rw [HS1.out.1, List.length_append]; have := hl1.out.1; simp; omega, by rw [HS1.out.1, HS1.out.2, List.length_append]; have h1 := hl1.out; have h2 := Hrl.out; simp only [List.length_singleton]; omega⟩, Lib.hid own6'', Lib.hid (by rw [HS1.out.2]; exact own7), Lib.hid apn, K6.trans K7 (fun b hb hs => absurd hb (Nat.not_lt.2 (by have h : b = g := hs; rw [h]; exact (HA6.out.lt g rfl).1)))⟩, ?_⟩
              obtain ⟨p7, c7, hv7⟩ := own_sl own7
              rw [hv7]
              show (selRest L).length < t
              have := Hrl.out
              rw [← Hnl.out] at this
              omega
        · have hend : RowsK wq (.slice po i co) 2 encF (topV l at_ K0 tag) := by
            have h0 : topV l at_ K0 tag = O := by
              have hinv := selK_inv F i
              rw [topV, ← HF.out, hinv, ← HL.out, ← HOe.out]
              by_cases e : i < K0
              · have : L = [] := List.eq_nil_of_length_eq_zero (by have := Hnl.out; omega)
                rw [this, sortF_nil, List.append_nil]
                exact List.take_of_length_le (by have := hl1.out.1; show O.length ≤ K0; omega)
              · have hki : K0 = O.length := by have := hl1.out.1; omega
                show (O ++ sortF L).take K0 = O
                rw [hki, List.take_left]
            rw [h0]
            exact RowsK.ofN encF_len (by rw [hl1.out.1]; exact hO.out)
          have Hend := Lib.hid hend
          clear hend
          by_cases e : i < K0
          · have h1 : (i : Int) < K0 := by omega
            obtain rfl : nl = 0 := by omega
            clear hgo
            go_wp2_with fail
            go_ret2
            exact ⟨_, rfl, Hend.out, K⟩
          · have h1 : ¬ ((i : Int) < K0) := by omega
            clear hgo
            go_wp2_with fail
            go_ret2
            exact ⟨_, rfl, Hend.out, K⟩
end Go.Proofs.YtcjilojkhmondaaDoor
