/-
  DERIVED. (*Cells).Top: what is found by cells is what is found at all; and no more are looked at than there are.
-/
import Derived.Test.YtcjilojkhmondaaGreatDoorFarSort
import Derived.Lib.AtoiErrMem
import Derived.Deep.RegionWith
set_option linter.unusedVariables false
set_option linter.unusedSimpArgs false
namespace Go.Cof
open Go.RowKit Go.Sort Go.Shelf
theorem cellAt_ok (x : ItemV) (h : numOk x.ns) (k : Nat) : -4 ≤ (cellAt x).getD k 0 ∧ (cellAt x).getD k 0 ≤ 4 := by
  rw [List.getD_eq_getElem?_getD]
  cases e : (cellAt x)[k]? with
  | none => simp
  | some y =>
    have hy : y ∈ cellAt x := List.mem_of_getElem? e
    rw [cellAt, atK, List.mem_append] at hy
    show -4 ≤ y ∧ y ≤ 4
    rcases hy with hy | hy
    · obtain ⟨n, hn, rfl⟩ := List.mem_map.1 hy
      exact downI_in n (h n (List.mem_of_mem_take hn))
    · obtain ⟨_, rfl⟩ := List.mem_replicate.1 hy
      omega
theorem topV_nil (at_ : List Int) (k : Int) (tag : ByteArray) : topV [] at_ k tag = [] := by
  rw [topV]
  have : foundL [] at_ tag = [] := rfl
  rw [this, Go.Proofs.YtcjilojkhmondaaGreatDoor.sortF_nil, List.take_nil]
theorem topV_len (l : List ItemV) (at_ : List Int) (k : Int) (tag : ByteArray) : (topV l at_ k tag).length ≤ k.toNat := by
  rw [topV, List.length_take]; omega
end Go.Cof
namespace Go.Proofs.YtcjilojkhmondaaGreatDoor
open Go.RowKit Go.Cof Go.Sort Go.Shelf
theorem far_info : ∃ i, Tryz.prog.info? 65 = some i ∧ i.zero = some (.agg #[.int .i64 0, .pointer none]) ∧ i.size = 2 ∧ i.bytes = 16 := by
  have h : (Tryz.prog.info? 65).map (fun i => (i.zero, i.size, i.bytes)) = some (some (.agg #[.int .i64 0, .pointer none]), 2, 16) := by kernel_rfl
  cases hi : Tryz.prog.info? 65 with
  | none => rw [hi] at h; cases h
  | some i =>
    rw [hi] at h
    simp only [Option.map_some, Option.some.injEq, Prod.mk.injEq] at h
    exact ⟨i, rfl, h.1, h.2.1, h.2.2⟩
theorem cellsTop_no (cb dim : Nat) (cv va : Value) (at_ : List Int) (k : Int) (tag : ByteArray) (w : World) (hC : w.heap[cb]? = some (.cells #[.int .i64 dim, cv] 54 (0, 0))) (N : Nums w va at_) (ha : at_.length ≤ 1000000) (hn : askB dim at_ k = false) :
    Calls Tryz.prog 9 #[.pointer (some ⟨cb, 0, none⟩), va, .int .i64 k, .string tag] w fun e w' => e = .returned (.tuple #[.slice none 0 0, .int .i64 0, errVal 1]) ∧ w' = w := by
  have c0 : w.cell? ⟨cb, 0, none⟩ = some (.int .i64 dim) := by rw [cell_of_row _ _ _ _ _ (0, 0) hC]; rfl
  have h := ask_any dim va at_ k w N ha
  rw [hn] at h
  clear hC
  go_enter Tryz.func9, Tryz.ntmps9
  go_wp2_with fail
  refine h.mono ?_
  rintro e w' ⟨rfl, hw⟩
  subst w'
  go_wp2_with fail
  go_ret3
  exact ⟨rfl, rfl⟩
set_option maxRecDepth 100000 in
set_option maxHeartbeats 8000000 in
theorem cellsTop_yes (cb dim : Nat) (cv va : Value) (bs : List (Nat × Value)) (cs : List Cell) (l : List ItemV) (at_ : List Int) (k : Int) (tag : ByteArray) (base : Nat) (w : World) (H : CellsAt w base cb dim cv bs cs) (O : CellsOk cs l) (A : AskOk l at_ dim) (N : Nums w va at_) (hnum : ∀ x ∈ l, Nums w x.av x.ns) (hl : l.length ≤ 1000) (hn : askB dim at_ k = true) :
    Calls Tryz.prog 9 #[.pointer (some ⟨cb, 0, none⟩), va, .int .i64 k, .string tag] w fun e w' => ∃ (v' : Value) (looked : Nat), e = .returned (.tuple #[v', .int .i64 looked, .nilIface]) ∧ RowsK w' v' 2 encF (topV l at_ k tag) ∧ looked ≤ l.length ∧ Keep NoB w w' := by
  have c0 : w.cell? ⟨cb, 0, none⟩ = some (.int .i64 dim) := by rw [cell_of_row _ _ _ _ _ (0, 0) H.head]; rfl
  have c1 : w.cell? ⟨cb, 1, none⟩ = some cv := by rw [cell_of_row _ _ _ _ _ (0, 0) H.head]; rfl
  have hda := A.len
  have hask := ask_any dim va at_ k w N (by have := A.le; omega)
  rw [hn] at hask
  have hk1 : 1 ≤ k ∧ k ≤ 60 := by
    simp only [askB, Bool.and_eq_true, decide_eq_true_eq] at hn
    omega
  obtain ⟨K0, rfl⟩ : ∃ K0 : Nat, k = K0 := ⟨k.toNat, by omega⟩
  have hK0 : 1 ≤ K0 ∧ K0 ≤ 60 := by omega
  have hap : Apart bs := H.ptr
  have hlen := H.len
  have hcs := O.len
  obtain ⟨pc, cc, rfl⟩ := Cells.rows_ptr H
  obtain ⟨n, hnb⟩ : ∃ n, n = bs.length := ⟨_, rfl⟩
  obtain ⟨F, hF⟩ : ∃ F, F = farOf cs bs at_ dim := ⟨_, rfl⟩
  have hFl : F.length = n := by rw [hF, far_len hlen, hnb, hlen]
  rw [← hnb] at c1 H
  obtain ⟨i0, hi0, hz0, hs0, hb0⟩ := far_info
  have HH := Lib.hid H
  have HO := Lib.hid O
  have HA := Lib.hid A
  have HN := Lib.hid N
  have Hnb := Lib.hid hnb
  have HF := Lib.hid hF
  have HFl := Lib.hid hFl
  have Hlen := Lib.hid hlen
  have Hap := Lib.hid hap
  have Hn := Lib.hid hn
  have hn1000 : n ≤ 1000 := by omega
  have Hnum := Lib.hid hnum
  clear H O A N hnb hF hFl hap hda hlen hcs hn hnum
  go_enter Tryz.func9, Tryz.ntmps9
  go_wp2_with fail
  refine hask.mono ?_
  rintro e w1 ⟨rfl, hw1⟩
  subst w1
  clear hask
  go_wp2_with fail
  go_loopw [11, 34] (fun ov iv wr => ∃ (j : Nat) (o : Value), iv = .int .i64 j ∧ o = ov ∧ j ≤ n ∧ Hid (OwnsN wr w.heap.size 65 2 o (F.take j).length ((F.take j).flatMap encFar)) ∧ Keep NoB w wr) (fun _ iv _ => n - (intOf iv).toNat)
  case atStart => exact ⟨0, _, rfl, rfl, by omega, Lib.hid (OwnsN.nil _ _ _ _), Keep.refl _ _⟩
  case round =>
    obtain ⟨j, o, rfl, rfl, hj, hO, K⟩ := hrel
    by_cases hlt : j < n
    · have j1 : (j : Int) < n := by omega
      obtain ⟨c, hc⟩ : ∃ c, cs[j]? = some c := ⟨_, List.getElem?_eq_getElem (by have := Hlen.out; have := Hnb.out; omega)⟩
      obtain ⟨b, hb⟩ := HH.out.get hc
      have Hr := HH.out.keepN K
      have hbc := Hr.cell j b c hb hc
      obtain ⟨g, cap, hv, -, -⟩ := Hr.row.some (by have := Hnb.out; omega)
      cases hv
      have ck := Hr.row.cells rfl j (.pointer (some ⟨b.1, 0, none⟩)) (by rw [ptrs, List.getElem?_map, hb]; rfl)
      rw [addAt] at ck
      obtain ⟨x, hx, hcx⟩ := HO.out.at_ c (List.mem_of_getElem? hc)
      have hxn := HA.out.ns x hx
      have hlst := fun q => least_any cb b.1 dim _ at_ c.1 b.2 va (wr.drewN q) hbc.2.1 (fun k => by rw [hcx]; exact cellAt_ok x hxn.1 k) HA.out.num HA.out.le HA.out.len (HN.out.keep (K.drewN q) (fun _ _ x => x)) Hr.head hbc.1
      have hfg := far_get (at_ := at_) (dim := dim) hb hc
      rw [← HF.out] at hfg
      obtain ⟨bp, hbp⟩ : ∃ bp, bp = b.1 := ⟨_, rfl⟩
      obtain ⟨ln, hln⟩ : ∃ ln, ln = leastK c.1 at_ dim := ⟨_, rfl⟩
      rw [← hbp] at ck hlst hfg
      rw [← hln] at hlst hfg
      have Hfg := Lib.hid hfg
      have hlst0 : Calls Tryz.prog 25 #[.pointer (some ⟨cb, 0, none⟩), .pointer (some ⟨bp, 0, none⟩), va] wr fun e w' => e = .returned (.int .i64 ln) ∧ ∃ q, w' = wr.drewN q := hlst 0
      clear hlst hfg hbp hln hcx hxn hx hbc Hr hb hc
      go_wp2_with fail
      refine hlst0.mono ?_
      rintro e w2 ⟨rfl, q2, rfl⟩
      clear hlst0
      have hown : OwnsN ((wr.drewN q2).alloc (.cells #[.int .i64 ln, .pointer (some ⟨bp, 0, none⟩)] 65)) w.heap.size 65 2 o (F.take j).length ((F.take j).flatMap encFar) := (hO.out.drewN q2).alloc _
      have hsz := K.size
      have hFj : (F.take j).length = j := by rw [List.length_take]; have := HFl.out; omega
      rw [hFj] at hown
      go_wp2_with (refine wpList_append_n _ rfl (.tmp 38) (.tmp 45) 62 rfl w.heap.size 65 i0 _ 2 16 Tryz.underlying62 hi0 hz0 hs0 hb0 rfl (by decide) _ j _ rfl hown ⟨wr.heap.size, 0, none⟩ 1 1 [.int .i64 ln, .pointer (some ⟨bp, 0, none⟩)] rfl rfl (cells_new (wr.drewN q2) _ _) (by
        intro u hu
        simp only [List.mem_cons, List.mem_nil_iff, or_false] at hu
        rcases hu with rfl | rfl <;> rfl) (by unfold maxLen; omega) (by omega) (by show w.heap.size ≤ (wr.heap.push _).size; rw [Array.size_push]; omega) ?_; intro v' w' own' hg)
      have hK' : Keep NoB w w' := ((K.drewN q2).alloc _).grown hg (fun b hb => .inr (hown.lt b hb).1)
      refine ⟨⟨j + 1, _, by go_num, rfl, by omega, Lib.hid ?_, hK'⟩, by simp [intOf]; omega⟩
      have e1 : F.take (j + 1) = F.take j ++ [(ln, bp)] := by
        have hj2 := (List.getElem?_eq_some_iff.1 Hfg.out)
        rw [List.take_succ_eq_append_getElem hj2.1, hj2.2]
      rw [e1, List.length_append, hFj, List.flatMap_append, List.flatMap_cons, List.flatMap_nil, List.append_nil]
      exact own'
    · obtain rfl : j = n := by omega
      have hFt : F.take j = F := List.take_of_length_le (by have := HFl.out; omega)
      have ho := hO.out
      rw [hFt] at ho
      have hsort := sortFarN_any _ F w.heap.size wr ho (by have := HFl.out; omega)
      have Hsort := Lib.hid hsort
      obtain ⟨po, co, rfl⟩ := OwnsN.sl ho
      have Ho := Lib.hid ho
      obtain ⟨m, hm⟩ : ∃ m, m = F.length := ⟨_, rfl⟩
      have hmj : m = j := by rw [hm]; exact HFl.out
      have hm1000 : m ≤ 1000 := by omega
      rw [← hm] at Hsort Ho
      rw [← hm]
      have Hm := Lib.hid hm
      have Hmj := Lib.hid hmj
      clear hO ho hsort hFt hm hmj
      go_wp2_with fail
      refine Hsort.out.mono ?_
      rintro e w2 ⟨rfl, d', ⟨hdp, hds⟩, hown, K2⟩
      have hFO : FarOk d'.toList cs bs at_ dim := farOk_of (d := F.toArray) (by rw [← HF.out]) (by rw [show F.toArray.size = m by rw [Hm.out]; simp]; exact hdp) (by rw [show F.toArray.size = m by rw [Hm.out]; simp]; exact hds)
      have hDl : d'.toList.length = m := by have := hdp.1; simp at this ⊢; rw [this, Hm.out]
      obtain ⟨D, hD⟩ : ∃ D, D = d'.toList := ⟨_, rfl⟩
      rw [← hD] at hFO hDl hown
      have KD : Keep NoB w w2 := K.trans K2 (fun i hi hs => absurd hi (Nat.not_lt.2 hs))
      have HFO := Lib.hid hFO
      have HDl := Lib.hid hDl
      have Hown := Lib.hid hown
      clear hdp hds hFO hDl hown hD Hsort Ho K2 K
      go_wp2_with fail
      go_loopw [14, 15, 52] (fun ov lv iv wr => ∃ (i : Nat) (o : Value), iv = .int .i64 i ∧ o = ov ∧ lv = .int .i64 (seenL cs bs D i).length ∧ i ≤ m ∧ Hid (OwnsN wr w2.heap.size 40 2 o (topV (seenL cs bs D i) at_ K0 tag).length ((topV (seenL cs bs D i) at_ K0 tag).flatMap encF)) ∧ Keep NoB w2 wr) (fun _ _ iv _ => m - (intOf iv).toNat)
      case atStart => exact ⟨0, _, rfl, rfl, by rw [seenL, List.take_zero]; rfl, by omega, Lib.hid (by rw [seenL, List.take_zero, List.flatMap_nil, topV_nil]; exact OwnsN.nil _ _ _ _), Keep.refl _ _⟩
      case round =>
        obtain ⟨i, o, rfl, rfl, rfl, hi, hO, K⟩ := hrel
        by_cases hlt : i < m
        · have i1 : (i : Int) < m := by omega
          obtain ⟨y, hy⟩ : ∃ y, D[i]? = some y := ⟨_, List.getElem?_eq_getElem (by have := HDl.out; omega)⟩
          obtain ⟨ci, b, c, hb, hc, hye⟩ := far_mem (HFO.out.perm.mem_iff.1 (List.mem_of_getElem? hy))
          have hbi : blockItems cs bs y.2 = c.2 := by rw [hye]; exact blockItems_at Hap.out hb hc
          have hsu := seen_succ (cs := cs) (bs := bs) hy
          rw [hbi] at hsu
          have Kr := KD.thenN K
          have Hr := HH.out.keepN Kr
          have hbc := Hr.cell ci b c hb hc
          have hyp : y.2 = b.1 := by rw [hye]
          have Ow := Hown.out.keep K (fun _ _ x => x)
          obtain ⟨g2, cap2, hv, -, -⟩ := Ow.some (by omega)
          cases hv
          have hfy : ∀ t u, (encFar y)[t]? = some u → (D.flatMap encFar)[i * 2 + t]? = some u := fun t u hu => by
            have ht : t < 2 := (List.getElem?_eq_some_iff.1 hu).1
            rw [flat_get encFar_len D i t ht, hy]; exact hu
          have y0 := Ow.cells rfl (i * 2 + 0) _ (hfy 0 _ rfl)
          have y1 := Ow.cells rfl (i * 2 + 1) _ (hfy 1 _ rfl)
          rw [addAt, Nat.add_zero] at y0
          rw [addAt] at y1
          obtain ⟨bp, bv⟩ := b
          simp only at hbc hyp
          obtain ⟨pb, cb2, hbv⟩ := OwnsN.sl hbc.2.2
          obtain ⟨nI, hnI⟩ : ∃ x, x = c.2.length := ⟨_, rfl⟩
          rw [← hnI] at hbv
          subst hbv
          have d8 : wr.cell? ⟨bp, 8, none⟩ = some (.slice pb nI cb2) := by
            rw [cell_of_row _ _ _ _ _ (0, 0) hbc.1, List.getElem?_toArray, List.getElem?_append_right (by rw [ints8, List.length_map, hbc.2.1]; omega), ints8, List.length_map, hbc.2.1]; rfl
          have e0 : wr.cell? ⟨cb, 0, none⟩ = some (.int .i64 dim) := by rw [cell_of_row _ _ _ _ _ (0, 0) Hr.head]; rfl
          have hsub : ∀ x ∈ c.2, x ∈ l := fun x hx => HO.out.perm.mem_iff.1 (List.mem_flatMap.2 ⟨c, List.mem_of_getElem? hc, hx⟩)
          have hcl : c.2.length ≤ 1000 := by
            have h1 := seen_le HFO.out HO.out Hap.out Hlen.out (i + 1)
            rw [hsu, List.length_append] at h1
            omega
          have hT : ∀ w3, Keep NoB wr w3 → Calls Tryz.prog 7 #[.int .i64 dim, .slice pb nI cb2, va, .int .i64 K0, .string tag] w3 fun e w' => ∃ v', e = .returned (.tuple #[v', .nilIface]) ∧ RowsK w' v' 2 encF (topV c.2 at_ K0 tag) ∧ ((∀ b, v'.ownBlock = some b → w3.heap.size ≤ b) ∧ CapOk v') ∧ Keep NoB w3 w' := fun w3 K3 =>
            top_yes dim _ c.2 va at_ K0 tag w3 ⟨RowsK.ofN encItem_len (by have := hbc.2.2.keep K3 (fun _ _ x => x); rw [hnI] at this ⊢; exact this), fun x hx => (Hnum.out x (hsub x hx)).keep (Kr.thenN K3) (fun _ _ x => x)⟩ (HN.out.keep (Kr.thenN K3) (fun _ _ x => x)) hcl (by have := HA.out.len; have := HA.out.le; omega) (fun x hx => by have := HA.out.ns x (hsub x hx); have := HA.out.le; omega) Hn.out
          obtain ⟨yn, yp⟩ := y
          simp only at hyp y0 y1
          subst hyp
          have HT := Lib.hid hT
          have Hsu := Lib.hid hsu
          have Hy := Lib.hid hy
          have Hbi := Lib.hid hbi
          have HnI := Lib.hid hnI
          have Hcl := Lib.hid hcl
          clear hT hsu hy hbi hnI hbc hsub hfy Ow hb hc hye Hr hcl
          obtain ⟨T, hT⟩ : ∃ T, T = topV (seenL cs bs D i) at_ K0 tag := ⟨_, rfl⟩
          have hO2 := hO.out
          rw [← hT] at hO2
          have hTl : T.length ≤ K0 := by rw [hT]; have := topV_len (seenL cs bs D i) at_ K0 tag; omega
          obtain ⟨po2, co2, ho2⟩ := OwnsN.sl hO2
          obtain ⟨tn, htn⟩ : ∃ tn, tn = T.length := ⟨_, rfl⟩
          rw [← htn] at hO2 ho2 hTl
          subst ho2
          have HT2 := Lib.hid hT
          have Htn := Lib.hid htn
          have HO2 := Lib.hid hO2
          have hw1 : IntKind.i64.wrap ((K0 : Int) - 1) = ((K0 - 1 : Nat) : Int) := by rw [IntWalk.i64_in _ (by omega)]; omega
          clear hO hT htn
          go_upto_if 70 with fail
          go_cut [70] (fun bv wx => ∃ (Bo : Bool) (q : Nat), bv = .bool Bo ∧ wx = (wr.alloc (.cells #[.int .i64 yn, .pointer (some ⟨yp, 0, none⟩)] 65)).drewN q ∧ Hid (Bo = true → topV (seenL cs bs D i) at_ K0 tag = topV l at_ K0 tag))
          case first =>
            by_cases hfull : tn = K0
            · have hz0 : ∃ z, T[K0 - 1]? = some z := ⟨_, List.getElem?_eq_getElem (by have := Htn.out; omega)⟩
              obtain ⟨z, hz⟩ := hz0
              obtain ⟨g3, cap3, hv3, -, -⟩ := hO2.some (by omega)
              cases hv3
              have zc := hO2.cells rfl ((K0 - 1) * 2 + 1) (.int .i64 z.2) (by rw [flat_get encF_len T _ 1 (by omega), hz]; rfl)
              rw [addAt] at zc
              obtain ⟨zn, zd⟩ := z
              simp only at zc
              have zc2 := (((Keep.refl NoB wr).alloc (.cells #[.int .i64 yn, .pointer (some ⟨yp, 0, none⟩)] 65)).cell (p := ⟨g3, (K0 - 1) * 2 + 1, none⟩) (hO2.lt g3 rfl).2 (fun x => x)).trans zc
              have HZ := Lib.hid hz
              subst hfull
              have hlt2 : tn - 1 < tn := by omega
              by_cases hbr : zd < yn
              · clear hz hO2
                go_quiet (fail)
                go_wp2_with fail
                have hstop := seen_break HFO.out HO.out HA.out Hap.out Hlen.out (tn : Int) tag Hy.out (by omega) (by rw [← HT2.out, ← Htn.out]; omega) (zn, zd) (by rw [← HT2.out]; exact HZ.out) hbr
                go_meet
                case rel => exact ⟨true, _, rfl, rfl, Lib.hid (fun _ => hstop)⟩
              · clear hz hO2
                go_quiet (fail)
                go_wp2_with fail
                go_meet
                case rel => exact ⟨false, _, rfl, rfl, Lib.hid (fun h => by cases h)⟩
            · clear hO2
              have hne : ¬ ((tn : Int) = K0) := by omega
              go_quiet (fail)
              go_wp2_with fail
              go_meet
              case rel => exact ⟨false, _, rfl, rfl, Lib.hid (fun h => by cases h)⟩
          case rest =>
            obtain ⟨Bo, q, rfl, rfl, HBo⟩ := hcut
            have Kw : Keep NoB wr ((wr.alloc (.cells #[.int .i64 yn, .pointer (some ⟨yp, 0, none⟩)] 65)).drewN q) := ((Keep.refl _ _).alloc _).drewN q
            cases Bo with
            | true =>
              have hle := seen_le HFO.out HO.out Hap.out Hlen.out i
              go_wp2_with fail
              go_ret3
              refine ⟨_, _, rfl, ?_, hle, KD.thenN (K.thenN Kw)⟩
              rw [← HBo.out trivial, ← HT2.out]
              exact RowsK.ofN encF_len (by rw [← Htn.out]; exact HO2.out.keep Kw (fun _ _ x => x))
            | false =>
            go_wp2_with fail
            have f1 : ((wr.alloc (.cells #[.int .i64 yn, .pointer (some ⟨yp, 0, none⟩)] 65)).drewN q).cell? ⟨wr.heap.size, 1, none⟩ = some (.pointer (some ⟨yp, 0, none⟩)) := by
              show (wr.alloc (.cells #[.int .i64 yn, .pointer (some ⟨yp, 0, none⟩)] 65)).cell? ⟨wr.heap.size, 1, none⟩ = _
              rw [cell_of_row _ _ _ _ _ (0, 0) (heap_alloc_new wr _)]; rfl
            have hB : wr.heap.size < ((wr.alloc (.cells #[.int .i64 yn, .pointer (some ⟨yp, 0, none⟩)] 65)).drewN q).heap.size := by show wr.heap.size < (wr.heap.push _).size; rw [Array.size_push]; omega
            have hyl : yp < wr.heap.size := Lib.lt_of_cell d8
            have hcl0 : cb < wr.heap.size := Lib.lt_of_cell e0
            obtain ⟨w4, hw4⟩ : ∃ w4, w4 = (wr.alloc (.cells #[.int .i64 yn, .pointer (some ⟨yp, 0, none⟩)] 65)).drewN q := ⟨_, rfl⟩
            obtain ⟨B, hBe⟩ : ∃ B, B = wr.heap.size := ⟨_, rfl⟩
            rw [← hw4] at Kw f1 hB ⊢
            rw [← hBe] at f1 hB ⊢
            have d8' := (Kw.cell (p := ⟨yp, 8, none⟩) hyl (fun x => x)).trans d8
            have e0' := (Kw.cell (p := ⟨cb, 0, none⟩) hcl0 (fun x => x)).trans e0
            have HKw := Lib.hid Kw
            have hyl4 : yp < w4.heap.size := Nat.lt_of_lt_of_le hyl Kw.size
            have HO4 := Lib.hid (HO2.out.keep Kw (fun _ _ x => x))
            clear hw4 hBe Kw d8 e0 hO2 y0 y1
            go_cut [18, 19] (fun mv ev wx => ev = .nilIface ∧ Hid (RowsK wx mv 2 encF (topV c.2 at_ K0 tag)) ∧ Keep NoB w4 wx)
            case first =>
              go_region_with (go_at_call 7; refine (HT.out _ (HKw.out.drewN 1)).mono ?_; rintro e w5 ⟨v5, rfl, R5, -, K5'⟩)
              all_goals (have HR5' := Lib.hid R5; clear R5; go_wp2_with fail; go_meet; exact ⟨rfl, HR5', ((Keep.refl NoB w4).drewN 1).thenN K5'⟩)
            case rest =>
            obtain ⟨rfl, R5', K5⟩ := hcut
            have R5 := R5'.out
            obtain ⟨v5, rfl⟩ : ∃ v5, v5 = u18 := ⟨_, rfl⟩
            obtain ⟨w5, rfl⟩ : ∃ w5, w5 = wc := ⟨_, rfl⟩
            clear R5'
            have f1' := (K5.cell (p := ⟨B, 1, none⟩) hB (fun x => x)).trans f1
            have d8'' := (K5.cell (p := ⟨yp, 8, none⟩) hyl4 (fun x => x)).trans d8'
            have HO5 := Lib.hid (HO4.out.keep K5 (fun _ _ x => x))
            have HR5 := Lib.hid R5
            have HK5 := Lib.hid (HKw.out.thenN K5)
            have hseen : (seenL cs bs D i).length + nI = (seenL cs bs D (i + 1)).length := by rw [Hsu.out, List.length_append, ← HnI.out]
            have hsl := seen_le HFO.out HO.out Hap.out Hlen.out (i + 1)
            have hwr : IntKind.i64.wrap (((seenL cs bs D i).length : Int) + nI) = ((seenL cs bs D (i + 1)).length : Int) := by rw [IntWalk.i64_in _ (by omega)]; omega
            have Hsl := Lib.hid hsl
            have Hseen := Lib.hid hseen
            clear f1 d8' e0' R5 K5 hseen hsl HO4 HKw hB hyl hyl4 hcl0
            obtain ⟨sn, hsn⟩ : ∃ sn, sn = (seenL cs bs D i).length := ⟨_, rfl⟩
            obtain ⟨sn1, hsn1⟩ : ∃ sn, sn = (seenL cs bs D (i + 1)).length := ⟨_, rfl⟩
            rw [← hsn, ← hsn1] at hwr
            rw [← hsn]
            have Hsn1 := Lib.hid hsn1
            clear hsn hsn1
            obtain ⟨C, hC⟩ : ∃ C, C = topV c.2 at_ K0 tag := ⟨_, rfl⟩
            rw [← hC] at HR5
            have hCl : C.length ≤ K0 := by rw [hC]; have := topV_len c.2 at_ K0 tag; omega
            have HC := Lib.hid hC
            clear hC
            obtain ⟨i9, hi9, hz9, hs9, hb9⟩ := found_info
            have hbase5 : w2.heap.size ≤ w5.heap.size := Nat.le_trans K.size HK5.out.size
            have X4 : ∀ (a : Act) (ops : Array Oper) (rest : List Oper) (o : Oper) (Q : Exit → Act → World → Prop), o.guard = none → o.op = .call { callee := .builtin .append, args := #[.tmp 98, .tmp 99], argTypes := #[27, 27] } → a.eval (.tmp 98) = .slice po2 tn co2 → a.eval (.tmp 99) = v5 →
                (∀ v6 w6, OwnsN w6 w2.heap.size 40 2 v6 (T ++ C).length ((T ++ C).flatMap encF) → Keep (fun b => w2.heap.size ≤ b) w5 w6 → wpList Tryz.prog ops Q rest (a.put o.dst v6) w6) → wpList Tryz.prog ops Q (o :: rest) a w5 := by
              intro a ops rest o Q h1 h2 h3 h4 h5
              refine wpList_append_rows h1 (.tmp 98) (.tmp 99) 27 h2 w2.heap.size 40 i9 _ 24 Tryz.underlying27 hi9 hz9 hs9 hb9 rfl (by decide) encF_len _ tn _ h3 HO5.out v5 C h4 HR5.out (flatF_one C) (by unfold maxLen; omega) (by omega) hbase5 ?_
              intro v6 w6 h6 h7
              exact h5 v6 w6 (by rw [List.length_append, ← Htn.out, List.flatMap_append]; exact h6) h7
            have HX4 := Lib.hid X4
            clear X4
            go_wp2_with (refine HX4.out _ _ _ _ _ rfl rfl rfl rfl ?_; intro v6 w6 own6 K6)
            have hTC : (T ++ C).length ≤ 1000000 := by rw [List.length_append, ← Htn.out]; omega
            have hso := sortFoundN_any v6 (T ++ C) w2.heap.size w6 own6 hTC
            obtain ⟨p6, c6, rfl⟩ := OwnsN.sl own6
            obtain ⟨N6, hN6⟩ : ∃ N6, N6 = (T ++ C).length := ⟨_, rfl⟩
            rw [← hN6] at own6 hso
            rw [← hN6]
            have hcap6 : N6 ≤ c6 := by
              rcases own6.2 with ⟨h, hn⟩ | ⟨_, _, _, _, h, _, _, _, hc, _⟩
              · cases h; omega
              · cases h; exact hc
            have Hso := Lib.hid hso
            have HN6 := Lib.hid hN6
            have HK6 := Lib.hid (HK5.out.ofN.trans (S' := fun b => w2.heap.size ≤ b) K6 (fun _ _ h => h))
            clear hso own6 hN6 K6
            go_wp2_with fail
            refine Hso.out.mono ?_
            rintro e w7 ⟨rfl, own7, K7⟩
            have hmin : (min (K0 : Int) N6) = ((min K0 N6 : Nat) : Int) := by omega
            have hm6 : min K0 N6 ≤ c6 := by omega
            have htop : topV (seenL cs bs D (i + 1)) at_ K0 tag = (sortF (T ++ C)).take (min K0 N6) := by
              rw [Hsu.out, ← top_step, ← HT2.out, ← HC.out]
              show (sortF (T ++ C)).take K0 = _
              rw [← List.take_take, List.take_of_length_le (i := N6) (by rw [sortF_len, ← HN6.out]; exact Nat.le_refl _)]
            have ownE : OwnsN w7 w2.heap.size 40 2 (.slice p6 (min K0 N6) c6) (topV (seenL cs bs D (i + 1)) at_ K0 tag).length ((topV (seenL cs bs D (i + 1)) at_ K0 tag).flatMap encF) := by
              have hlen : (topV (seenL cs bs D (i + 1)) at_ K0 tag).length = min K0 N6 := by rw [htop, List.length_take, sortF_len, ← HN6.out]; omega
              rw [hlen, htop, ← flat_take encF_len]
              rcases own7.2 with ⟨h, hn⟩ | ⟨g7, _, _, _, h, _⟩
              · cases h
                rw [hn, Nat.min_eq_right (Nat.zero_le _), Nat.zero_mul, List.take_zero]
                exact OwnsN.nil _ _ _ _
              · cases h
                exact own7.take _ (by omega)
            have HE := Lib.hid ownE
            have KE : Keep NoB w2 w7 := K.trans (HK6.out.trans K7 (fun _ _ h => h)) (fun i hi hs => absurd hi (Nat.not_lt.2 hs))
            clear own7 K7 htop ownE
            go_wp2_with fail
            exact ⟨⟨i + 1, _, by go_num, rfl, by rw [← Hsn1.out], by omega, HE, KE⟩, by simp [intOf]; omega⟩
        · obtain rfl : i = m := by omega
          have hfin := seen_top HFO.out HO.out Hap.out Hlen.out (K0 : Int) tag
          rw [HDl.out] at hfin
          have ho := hO.out
          rw [hfin] at ho
          have hle := seen_le HFO.out HO.out Hap.out Hlen.out i
          have hR := RowsK.ofN encF_len ho
          have Ho := Lib.hid hR
          clear hO ho hfin hR
          go_wp2_with fail
          go_ret3
          exact ⟨_, _, rfl, Ho.out, hle, KD.thenN K⟩
end Go.Proofs.YtcjilojkhmondaaGreatDoor
