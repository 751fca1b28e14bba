/-
  DERIVED. The walk of the law VaultQuiet.
-/
import Derived.Test.YtncdopmjnficmaaGreatDoorVJBC
import Derived.Test.YtncdopmjnficmaaGreatDoorVJAG
set_option linter.unusedVariables false
set_option linter.unusedSimpArgs false
namespace Go.Cof
open Go.RowKit Go.Proofs.YtncdopmjnficmaaGreatDoor
theorem diffs_succ (a b : List ByteArray) (k : Nat) : diffs a b (k + 1) = if decide (2 ≤ k) && !decide (a.getD k ⟨#[]⟩ = b.getD k ⟨#[]⟩) then diffs a b k + 1 else diffs a b k := by
  rw [diffs, List.range_succ, List.filter_append, List.length_append, diffs]
  cases h : (decide (2 ≤ k) && !decide (a.getD k ⟨#[]⟩ = b.getD k ⟨#[]⟩)) with
  | true => rw [List.filter_cons, h]; rfl
  | false => rw [List.filter_cons, h]; rfl
theorem diffs_two (a b : List ByteArray) : diffs a b 2 = 0 := by
  rw [diffs_succ, diffs_succ]; rfl
theorem diffs_le (a b : List ByteArray) : ∀ k, diffs a b k ≤ k
  | 0 => Nat.le_refl _
  | k + 1 => by
    rw [diffs_succ]
    have := diffs_le a b k
    split <;> omega
end Go.Cof
namespace Go.Proofs.YtncdopmjnficmaaGreatDoor
open Go.RowKit Go.Cof
set_option maxRecDepth 100000
set_option maxHeartbeats 8000000 in
/-- How many blocks of pages are other ones. -/
theorem changed_any {w : World} {va vb : Value} {a b : List ByteArray} (A : Strs w va a) (B : Strs w vb b) (ha : a.length = 66) (hb : b.length = 66) :
    Calls Tryz.prog 11 #[va, vb] w fun e w' => e = .returned (.int .i64 (diffs a b 66)) ∧ Keep NoB w w' := by
  obtain ⟨pa, ca, rfl⟩ := A.len
  obtain ⟨pb, cb, rfl⟩ := B.len
  rw [ha] at A ⊢
  rw [hb] at B ⊢
  obtain ⟨Ba, oa, rfl, -, hBa, hca⟩ := A.at (by omega)
  obtain ⟨Bb, ob, rfl, -, hBb, hcb⟩ := B.at (by omega)
  go_enter Tryz.func11, Tryz.ntmps11
  go_wp2_with fail
  go_loopw [6, 5] (fun i m wr => ∃ k : Nat, 2 ≤ k ∧ k ≤ 66 ∧ i = .int .i64 k ∧ m = .int .i64 (diffs a b k) ∧ Keep NoB w wr) (fun i _ _ => 66 - (intOf i).toNat)
  case atStart => exact ⟨2, by omega, by omega, rfl, by rw [diffs_two]; rfl, Keep.refl _ _⟩
  case round =>
    obtain ⟨k, h2, hk, rfl, rfl, KR⟩ := hrel
    obtain ⟨wo, rfl⟩ : ∃ wo, wo = wr := ⟨_, rfl⟩
    by_cases hlt : k < 66
    · have j1 : (k : Int) < 66 := by omega
      have cka := (KR.cell (p := ⟨Ba, oa + k, none⟩) hBa (fun x => x)).trans (hca k (by omega))
      have ckb := (KR.cell (p := ⟨Bb, ob + k, none⟩) hBb (fun x => x)).trans (hcb k (by omega))
      have hds := diffs_succ a b k
      have hdl := diffs_le a b k
      obtain ⟨s, hs⟩ : ∃ s, s = a.getD k ⟨#[]⟩ := ⟨_, rfl⟩
      obtain ⟨t, ht⟩ : ∃ t, t = b.getD k ⟨#[]⟩ := ⟨_, rfl⟩
      rw [← hs, ← ht, decide_eq_true h2] at hds
      rw [← hs] at cka
      rw [← ht] at ckb
      obtain ⟨c, hc⟩ : ∃ c, c = diffs a b k := ⟨_, rfl⟩
      rw [← hc] at hds hdl ⊢
      have Hds := Lib.hid hds
      have L1 : wo.cell? ⟨Ba, oa + k, none⟩ = some (.string s) ∧ wo.cell? ⟨Bb, ob + k, none⟩ = some (.string t) := ⟨cka, ckb⟩
      have q1 : ∀ z : InC (fun W : World => W.cell? ⟨Ba, oa + k, none⟩ = some (.string s) ∧ W.cell? ⟨Bb, ob + k, none⟩ = some (.string t)), z.w.cell? ⟨Ba, oa + k, none⟩ = some (.string s) := fun z => z.h.1
      have q2 : ∀ z : InC (fun W : World => W.cell? ⟨Ba, oa + k, none⟩ = some (.string s) ∧ W.cell? ⟨Bb, ob + k, none⟩ = some (.string t)), z.w.cell? ⟨Bb, ob + k, none⟩ = some (.string t) := fun z => z.h.2
      have Lc := Lib.hid L1
      clear cka ckb hs ht hc hds L1 hca hcb
      go_wp2_with fail
      refine wp_region_mix (fun W : World => W.cell? ⟨Ba, oa + k, none⟩ = some (.string s) ∧ W.cell? ⟨Bb, ob + k, none⟩ = some (.string t)) [(true, 0), (true, 1), (true, 2), (true, 3), (true, 4), (true, 5), (true, 6), (true, 7), (false, 8)] (by kernel_rfl) (by kernel_rfl) (fun c a d v w h => by cases d <;> exact h) ?_
      simp only [wpMixC, pickL, List.getElem?_toArray, List.getElem?_cons_succ, List.getElem?_cons_zero]
      repeat (refine wpEarlyC_step (fun K hK => ?_); go_simp; first | (refine ⟨_, fun _ => rfl, hK _ ?_⟩; clear hK K; refine wpEarlyC_nil ?_) | (refine hK _ ?_; clear hK K; refine wpEarlyC_nil ?_))
      refine ⟨Lc.out, ?_⟩
      clear q1 q2
      by_cases hst : s = t
      · have hb2 : (!s.toList == t.toList) = false := by rw [hst]; simp
        have hnx : diffs a b (k + 1) = c := by rw [Hds.out, if_neg (by simp [hst])]
        have Hnx := Lib.hid hnx
        clear hst hnx
        go_wp2_with fail
        exact ⟨⟨k + 1, by omega, by omega, by go_num, by rw [Hnx.out], KR.drew⟩, by simp [intOf]; omega⟩
      · have hb2 : (!s.toList == t.toList) = true := by
          have : s.toList ≠ t.toList := fun e => hst (by rw [ByteArray.toList_eq, ByteArray.toList_eq] at e; exact bs_inj (by rw [bs, bs, e]))
          simpa using this
        have hnx : diffs a b (k + 1) = c + 1 := by rw [Hds.out, if_pos (by simp [hst])]
        have Hnx := Lib.hid hnx
        clear hst hnx
        go_wp2_with fail
        exact ⟨⟨k + 1, by omega, by omega, by go_num, by rw [Hnx.out]; go_num, KR.drew⟩, by simp [intOf]; omega⟩
    · obtain rfl : k = 66 := by omega
      go_wp2_with fail
      go_ret
      exact ⟨rfl, KR⟩
theorem one_lists {w : World} {v : Value} {l : List ByteArray} (S : Strs w v l) (E : TypeId) : Lists (w.alloc (.cells #[v] E)) (.slice (some ⟨w.heap.size, 0, none⟩) 1 1) [v] [l] := by
  refine ⟨.inr ⟨w.heap.size, 0, 1, rfl, by simp, fun i hi => ?_⟩, fun i hi => ?_⟩
  · obtain rfl : i = 0 := by simp at hi; omega
    rw [cell_of_row _ _ _ _ E (0, 0) (heap_alloc_new w _)]; rfl
  · obtain rfl : i = 0 := by simp at hi; omega
    exact S.keep ((Keep.refl NoB w).alloc _) (fun _ _ x => x)
theorem upto_get {α : Type} (f : Nat → α) (n i : Nat) (d : α) (h : i < n) : (upto f n).getD i d = f i := by
  rw [upto, List.getD_eq_getElem?_getD, List.getElem?_map, List.getElem?_range h]; rfl
theorem strs_take {w : World} {g n c : Nat} {l : List ByteArray} (S : Strs w (.slice (some ⟨g, 0, none⟩) n c) l) (k : Nat) (hk : k ≤ l.length) (h0 : 0 < l.length) : Strs w (.slice (some ⟨g, 0, none⟩) k c) (l.take k) := by
  obtain ⟨B, off, hB, -, hlt, hc⟩ := S.at h0
  cases hB
  refine .inr ⟨g, 0, c, by rw [List.length_take, Nat.min_eq_left hk], hlt, fun i hi => ?_⟩
  rw [List.length_take, Nat.min_eq_left hk] at hi
  rw [hc i (by omega), List.getD_eq_getElem?_getD, List.getD_eq_getElem?_getD, List.getElem?_take, if_pos hi]
/-- Texts that lie outside of a vault's blocks. -/
structure Img (w : World) (B D C S : Nat) (wv v : Value) (l : List ByteArray) : Prop where
  strs : Strs w v l
  out : ∀ b, v.ownBlock = some b → b < w.heap.size ∧ ¬ VB B D C S wv b
section
variable {w w' : World} {B D C S : Nat} {wv wv' v : Value} {l : List ByteArray}
theorem Img.told (h : Img w B D C S wv v l) (hm : Moved w wv wv') (hk : Keep (VB B D C S wv) w w') : Img w' B D C S wv' v l :=
  ⟨h.strs.keep hk (fun b hb => (h.out b hb).2), fun b hb => ⟨Nat.lt_of_lt_of_le (h.out b hb).1 hk.size, fun hx => by
    rcases vb_moved hm b hx with hx | hx
    · exact (h.out b hb).2 hx
    · have := (h.out b hb).1; omega⟩⟩
theorem Img.keepN (h : Img w B D C S wv v l) (hk : Keep NoB w w') : Img w' B D C S wv v l :=
  ⟨h.strs.keep hk (fun _ _ x => x), fun b hb => ⟨Nat.lt_of_lt_of_le (h.out b hb).1 hk.size, (h.out b hb).2⟩⟩
end
theorem image2_any {w : World} {D S : Nat} {wv : Value} {sure : List ByteArray} {wait : List (Nat × ByteArray)} {fuse : Int} (h : DevAt w D S wv sure wait fuse) :
    Calls Tryz.prog 12 #[.pointer (some ⟨D, 0, none⟩)] w fun e w' => ∃ g c, e = .returned (.slice (some ⟨g, 0, none⟩) 66 c) ∧ 66 ≤ c ∧ Strs w' (.slice (some ⟨g, 0, none⟩) 66 c) sure ∧ w.heap.size ≤ g ∧ Keep NoB w w' := by
  obtain ⟨_, c, cD, _⟩ := h.cell1
  have hb : ∀ j, j < sure.length → w.cell? ⟨S, 0 + j, none⟩ = some (.string (sure.getD j ByteArray.empty)) := fun j hj => by
    rw [Nat.zero_add]; exact (h.block j (by rw [← h.len]; exact hj)).1
  have hl := h.len
  have hc := Tryz.slices_Clone_string S 0 66 c sure w (by omega) (by omega) hb
  rw [List.take_of_length_le (by omega)] at hc
  clear hb
  have Hl := Lib.hid hl
  clear hl
  go_enter Tryz.func12, Tryz.ntmps12
  go_wp2_with fail
  refine hc.mono ?_
  clear hc
  rintro e w1 ⟨v', rfl, ho, hne, hB⟩
  obtain ⟨g, cap, rfl, hg⟩ := own_some ho (by omega)
  go_wp2_with fail
  go_ret
  have hcap : 66 ≤ cap := by
    obtain ⟨g', c', e', _, hn⟩ := (OwnsN.of ho).some (by omega)
    cases e'
    exact hn
  refine ⟨g, cap, rfl, hcap, ?_, hg, Keep.ofBelow hB⟩
  have hlt := (ho.lt g rfl).2
  refine .inr ⟨g, 0, cap, by rw [Hl.out], hlt, fun i hi => ?_⟩
  have := ho.cells (g := g) rfl i (.string (sure.getD i ⟨#[]⟩)) (by simp [hi])
  have hadd : (⟨g, 0, none⟩ : Addr).add i = ⟨g, 0 + i, none⟩ := by unfold Addr.add; split <;> simp_all
  rwa [hadd] at this
theorem image_vn {w0 w : World} {B D C S : Nat} {wv : Value} {V : VaultV} {d : DevV} {n' : Int} (h : VN w0 w B D C S wv V d n') :
    Calls Tryz.prog 12 #[.pointer (some ⟨D, 0, none⟩)] w fun e w' => ∃ g c, e = .returned (.slice (some ⟨g, 0, none⟩) 66 c) ∧ 66 ≤ c ∧ Img w' B D C S wv (.slice (some ⟨g, 0, none⟩) 66 c) d.sure ∧ VN w0 w' B D C S wv V d n' ∧ Keep NoB w w' := by
  refine (image2_any h.dev).mono ?_
  rintro e w' ⟨g, c, he, hcp, hs, hg, hk⟩
  refine ⟨g, c, he, hcp, ⟨hs, fun b hb => ?_⟩, h.keepN hk, hk⟩
  obtain rfl : g = b := Option.some.inj hb
  obtain ⟨_, _, e1, _, hlt, _⟩ := hs.at (by rw [h.dev.len]; omega)
  cases e1
  exact ⟨hlt, fun hx => by have := h.lt _ hx; omega⟩
set_option maxHeartbeats 8000000 in
theorem vaultQuiet_any {w : World} {v : Value} {vs : List Value} {L : List (List ByteArray)} {vm : Value} {more : List ByteArray} (T : Lists w v vs L) (hl : ∀ l ∈ L, l.length ≤ maxLen) (Tm : Strs w vm more) (hmm : more.length ≤ maxLen) (R : RoundsVar w) :
    Calls Tryz.prog 3 #[v, vm] w fun e w' => e = .returned (.bool true) ∧ Keep NoB w w' := by
  have hli := lists_any v vs L w T hl
  obtain ⟨p0, c0, rfl⟩ := T.len
  cases hb : listsB L with
  | false =>
    rw [hb] at hli
    go_enter Tryz.func3, Tryz.ntmps3
    go_wp2_with fail
    refine hli.mono ?_
    rintro e w' ⟨rfl, hw⟩
    subst w'
    go_wp2_with fail
    go_ret
    exact ⟨rfl, Keep.refl _ _⟩
  | true =>
    rw [hb] at hli
    have KA : Keep NoB w (w.alloc (.cells #[vm] 23)) := (Keep.refl _ _).alloc _
    have hli2 := lists_any _ _ _ _ (one_lists Tm 23) (fun l h => by rw [List.mem_singleton.1 h]; exact hmm)
    obtain ⟨n, hn⟩ : ∃ n, n = L.length := ⟨_, rfl⟩
    have h8 := (listsB_yes hb).1
    have Hn := Lib.hid hn
    rw [← hn] at h8 hli ⊢
    clear hn
    cases hb2 : listsB [more] with
    | false =>
      rw [hb2] at hli2
      go_enter Tryz.func3, Tryz.ntmps3
      go_wp2_with fail
      refine hli.mono ?_
      rintro e w' ⟨rfl, hw⟩
      subst w'
      obtain ⟨pm, cm, rfl⟩ := Tm.len
      go_wp2_with fail
      refine hli2.mono ?_
      rintro e w' ⟨rfl, hw⟩
      subst w'
      go_wp2_with fail
      go_ret
      exact ⟨rfl, KA⟩
    | true =>
      rw [hb2] at hli2
      obtain ⟨pm, cm, rfl⟩ := Tm.len
      have hmo := (listsB_yes hb2).2 more (List.mem_singleton.2 rfl)
      obtain ⟨nm, hnm⟩ : ∃ n, n = more.length := ⟨_, rfl⟩
      rw [← hnm] at hli2 Tm hmo KA ⊢
      have Hnm := Lib.hid hnm
      clear hnm
      go_enter Tryz.func3, Tryz.ntmps3
      go_wp2_with fail
      refine hli.mono ?_
      rintro e w' ⟨rfl, hw⟩
      subst w'
      clear hli
      go_wp2_with fail
      refine hli2.mono ?_
      rintro e w' ⟨rfl, hw⟩
      subst w'
      clear hli2
      go_wp2_with fail
      refine (kept_any _ (R.keep KA (fun x => x))).mono ?_
      rintro e w1 ⟨rfl, K1'⟩
      have K1 := KA.thenN K1'
      clear K1' KA
      go_wp2_with fail
      have T1 := T.keep K1 (fun _ _ x => x)
      have Tm1 := Tm.keep K1 (fun _ _ x => x)
      have hla := laid_any T1 hb (R.keep K1 (fun x => x))
      rw [← Hn.out] at hla
      refine hla.mono ?_
      clear hla T T1 Tm
      rintro e w2 ⟨D, C, B, S, wv, hv, hvs, iv, ivs, rfl, st⟩
      obtain ⟨m, hm⟩ : ∃ m, m = n + 1 := ⟨_, rfl⟩
      have hnm : (n : Int) = (m : Int) - 1 := by omega
      have Hm := Lib.hid hm
      have Hnm1 := Lib.hid hnm
      rw [← hm] at st
      obtain ⟨gh, ch, rfl, hgh, hch⟩ := st.had.at (by rw [upto_length, hm]; omega)
      simp only [upto_length] at hch ⊢
      have hcq := hch n (by omega)
      have hsq := st.had.strs n (by rw [upto_length]; omega)
      rw [upto_get _ _ _ _ (by omega)] at hsq
      obtain ⟨hx, hhx⟩ : ∃ x, x = hvs.getD n nilL := ⟨_, rfl⟩
      rw [← hhx] at hcq hsq
      have hinv := laid_inv hb n (by rw [← Hn.out]; exact Nat.le_refl _)
      obtain ⟨p, hp⟩ : ∃ p, p = laidV L n := ⟨_, rfl⟩
      have vn := st.vn
      rw [hadV] at hsq
      rw [← hp] at hinv vn hsq
      have Hinv := Lib.hid hinv
      have HVn := Lib.hid vn
      have h32 := hinv.1.texts
      have h66 := hinv.1.blen
      have Tm2 := Tm1.keep vn.keep (fun _ _ x => x)
      have HTm := Lib.hid Tm1
      have hbh : ∀ b, ListsB (.slice (some ⟨gh, 0, none⟩) m ch) hvs (upto (hadV L) m) b → ¬ VB B D C S wv b := fun b hb => (st.h1 b (by simpa [upto_length] using hb)).1
      have hgV : ¬ VB B D C S wv gh := (st.h1 gh (.inl rfl)).1
      obtain ⟨hxp, hxc, hxe⟩ := hsq.len
      rw [h32] at hxe
      subst hxe
      obtain ⟨xg, xo, hxpe, -, hxl, hxcell⟩ := hsq.at (by omega)
      subst hxpe
      clear hm hnm hhx hp hinv hch st Tm1 hsq
      have mk := @run_makeMap Tryz.prog
      obtain ⟨w3, hw3⟩ : ∃ w3, w3 = w2.alloc (Obj.map #[] 0) := ⟨_, rfl⟩
      have K3 : Keep NoB w2 w3 := by rw [hw3]; exact (Keep.refl _ _).alloc _
      have ms : MapIs w3 w2.heap.size 0 (pagesM p.1.texts 0) := by rw [hw3]; exact World.ownsMap_made _ _ _ _
      obtain ⟨sb, hsb⟩ : ∃ b, b = w2.heap.size := ⟨_, rfl⟩
      have hpg := pages_any (Tm2.keep K3 (fun _ _ x => x)) (by rw [← Hnm.out]; omega) (fun s hs => by have := hmo.2 s hs; omega) 3 (by omega)
      rw [← Hnm.out] at hpg
      go_upto_region 10 with (fail)
      clear mk
      rw [← hw3, ← hsb]
      rw [← hsb] at ms
      have vn3 := vn.keepN K3
      clear hw3
      go_wp2_with fail
      refine hpg.mono ?_
      clear hpg
      rintro e w4 ⟨rfl, hm4, K4⟩
      have hsz3 : sb < w3.heap.size := World.ownsMap.lt ms
      obtain ⟨mb, hmb⟩ : ∃ b, b = w3.heap.size := ⟨_, rfl⟩
      have hms : sb < mb := by omega
      rw [← hmb] at hm4 ⊢
      have Hsb := Lib.hid hsb
      have Hmb := Lib.hid hmb
      clear hsb hmb
      obtain ⟨M, hM⟩ : ∃ M, M = pagesIn more 3 nm := ⟨_, rfl⟩
      have hMp : M.Pairwise (fun p q => p.1 ≠ q.1) := by rw [hM]; exact pagesIn_apart _ _ _
      have hMg : ∀ p ∈ M, badE p = false := by rw [hM]; exact pagesIn_good hmo.2 3 nm (by rw [← Hnm.out]; exact Nat.le_refl _)
      rw [← hM] at hm4
      have HM := Lib.hid hM
      clear hM
      go_wp2_with (first | (at_range; go_loud (refine wpList_range_map rfl _ rfl rfl hm4 ?_; intro w5 hrg5 K5 hs5)))
      go_frame
      obtain ⟨ib, hib⟩ : ∃ b, b = w4.heap.size := ⟨_, rfl⟩
      rw [← hib] at hrg5 ⊢
      have hmlt : mb < ib := by rw [hib]; exact World.ownsMap.lt hm4
      have K35 := (K4.thenN K5)
      have K25 := K3.thenN K35
      have hw1 : wrap64 ((m : Int) - 1) = (n : Int) := by have := Hnm1.out; unfold wrap64; omega
      have hsz2 : w2.heap.size ≤ ib := by rw [hib]; exact (K3.thenN K4).size
      have Hib := Lib.hid hib
      clear hib
      go_loopw [11] (fun ov wr => ∃ (left : Lit → Bool) (cnt : Nat) (Ls : List Int), Hid (Ranging wr mb ib nm M left cnt) ∧ Hid (Seen M (otherE p.1) (fun _ => false) left Ls) ∧ ov = .int .i64 Ls.length ∧ Hid (Keep (OneB ib) w5 wr)) (fun _ wr => wr.rangeLeft mb ib)
      case atStart => exact ⟨_, _, [], Lib.hid hrg5, Lib.hid (Seen.start M _ _), rfl, Lib.hid (Keep.refl _ _)⟩
      case round =>
        clear hrg5
        obtain ⟨left, cnt, Ls, hrg, hseen, rfl, hK⟩ := hrel
        obtain ⟨wo, rfl⟩ : ∃ wo, wo = wr := ⟨_, rfl⟩
        have hrgo := hrg.out
        go_wp2_with (first | (at_next; refine wpList_next_map rfl _ rfl rfl hrgo ?_ ?_))
        · intro hl0
          have hother := hseen.out.finish hl0
          have Hot := Lib.hid hother.1.length_eq
          have Ko : Keep NoB w2 wo := (K25.ofN.then hK.out).trans (Keep.refl NoB wo) (fun i hi hs => hs.elim) |>.mono (fun i hi e => by have h1 : i = ib := e; omega)
          have hcq' := (Ko.cell (p := ⟨gh, n, none⟩) hgh (fun x => x)).trans hcq
          have vno := vn.keepN Ko
          have mso : MapIs wo sb 0 (pagesM p.1.texts 0) := World.ownsMap.kept (World.ownsMap.kept ms (keep_grown K35 none) (by simp)) ⟨hK.out.os, hK.out.tape, hK.out.output, hK.out.size, fun b hb he => hK.out.block b hb (fun e => he (by rw [show b = ib from e]))⟩ (show some sb ≠ some ib by intro e; have := Option.some.inj e; omega)
          have hxo : ∀ i, i < 32 → wo.cell? ⟨xg, xo + i, none⟩ = some (.string (p.1.texts.getD i ⟨#[]⟩)) := fun i hi => (Ko.cell (p := ⟨xg, xo + i, none⟩) hxl (fun x => x)).trans (hxcell i (by omega))
          have hnm3 : n < m := by have := Hnm1.out; omega
          have hnm2 : (n : Int) < (m : Int) := by omega
          obtain ⟨oc, hoc⟩ : ∃ c, c = Ls.length := ⟨_, rfl⟩
          rw [← hoc]
          have Hoc := Lib.hid hoc
          have Hxo := Lib.hid hxo
          have Hbh := Lib.hid hbh
          have HKo := Lib.hid Ko
          clear hoc hxo hother hl0 hseen hrg hrgo hK hxcell hcq vn vn3 ms hbh Ko K35 K25 K5 K4 K3 hm4
          go_wp2_with fail
          have ht2 := (Hinv.out).1.t200
          have vn0 := HVn.out
          clear hw1
          go_loopw [70] (fun iv wr => ∃ k : Nat, k ≤ 32 ∧ iv = .int .i64 k ∧ Hid (MapIs wr sb k (pagesM p.1.texts k)) ∧ Hid (Keep (OneB sb) wo wr)) (fun iv _ => 32 - (intOf iv).toNat)
          case atStart => exact ⟨0, by omega, rfl, Lib.hid mso, Lib.hid (Keep.refl _ _)⟩
          case round =>
            obtain ⟨k, hk, rfl, hmr, hKR⟩ := hrel
            obtain ⟨wp, rfl⟩ : ∃ wp, wp = wr := ⟨_, rfl⟩
            by_cases hlt : k < 32
            · have j1 : (k : Int) < 32 := by omega
              have hxs : xg < sb ∧ gh < sb := by rw [Hsb.out]; exact ⟨hxl, hgh⟩
              have ck := (hKR.out.cell (p := ⟨xg, xo + k, none⟩) (block_lt_of_cell (Hxo.out k hlt)) (fun e => by have h1 : xg = sb := e; omega)).trans (Hxo.out k hlt)
              obtain ⟨s, hs⟩ : ∃ s, s = p.1.texts.getD k ⟨#[]⟩ := ⟨_, rfl⟩
              rw [← hs] at ck
              have hsz : s.size ≤ maxLen := by
                have h5 := getD_mem (P := fun s => s.size ≤ 200) ht2 k (by rw [h32]; exact hlt)
                rw [← hs] at h5
                unfold maxLen; omega
              have hkey : keyOf Tryz.prog 3 (.int .i64 k) = some (.int .i64 k) := Maps.keyOf_int_mk Tryz.underlying3 (by simp [Lit.wf, show IntKind.i64.min = -9223372036854775808 from rfl, show IntKind.i64.max = 9223372036854775807 from rfl]; omega)
              have hval : plainElem (H := Unit) Tryz.prog 9 (.string s) = some (.lit (.string s.data.toList), []) := by simp [plainElem, Tryz.underlying9, hsz]
              have hmo := hmr.out
              have Hs := Lib.hid hs
              clear hs hsz
              go_wp2_with (first | (at_mapUpdate; refine wpList_mapUpdate_own _ rfl _ _ _ 31 rfl 3 9 lawI Tryz.underlying31 _ sb k _ rfl hmo (by unfold maxLen; omega) _ _ _ rfl rfl hkey _ [] hval ?_))
              intro w7 hm7 hg7
              rw [Hs.out, pagesM_put] at hm7
              have K7 : Keep (OneB sb) wo w7 := hKR.out.grown hg7 (fun q hq => .inl (Option.some.inj hq).symm)
              have Hm7 := Lib.hid hm7
              clear hm7 hg7 hmo hmr hval hkey ck hxs
              go_wp2_with fail
              go_roundw
              case rel => exact ⟨k + 1, by omega, by go_num, Hm7, Lib.hid K7⟩
              case measure => simp [intOf]; omega
            · obtain rfl : k = 32 := by omega
              have Kp : Keep NoB w2 wp := (HKo.out.ofN.then hKR.out).mono (fun i hi e => by have h1 : i = sb := e; have := Hsb.out; omega)
              have vnp := vn0.keepN Kp
              have hmr2 := hmr.out
              obtain ⟨M1, hM1⟩ : ∃ M1, M1 = pagesM p.1.texts 32 := ⟨_, rfl⟩
              have hM1p : M1.Pairwise (fun p q => p.1 ≠ q.1) := by rw [hM1]; exact pagesM_apart _ _
              have hM1g : ∀ p ∈ M1, badE p = false := by rw [hM1]; exact pagesM_good ht2 h32
              rw [← hM1] at hmr2
              have HM1 := Lib.hid hM1
              clear hM1 hKR hmr mso vno hcq' Kp Tm2 hlt hk
              go_wp2_with fail
              refine (image_vn vnp).mono ?_
              rintro e w8 ⟨ga, ca, rfl, hca, Ia, vn8, K8⟩
              have hm8 : MapIs w8 sb 32 M1 := World.ownsMap.kept hmr2 (keep_grown K8 none) (by simp)
              clear K8 vnp hmr2
              have htl := tell_vn vn8 rfl (Hinv.out).1 rfl (by omega) (by decide) (R.keep K1 (fun x => x)) hm8 (by decide) hM1g
              obtain ⟨p1, hp1⟩ : ∃ q, q = stepM p M1 := ⟨_, rfl⟩
              have e1 : nextV p.1 p.1.now.epoch (pagesOf M1 (otherE p.1)) = p1.1 := by rw [hp1, stepM]
              have e2 : nextB p.1 p.2 p.1.now.epoch (pagesOf M1 (otherE p.1)) = p1.2 := by rw [hp1, stepM]
              have i1 := step_inv (Hinv.out).1 (Hinv.out).2 (by omega) hM1p hM1g
              rw [← hp1] at i1
              have Hp1 := Lib.hid hp1
              have Hi1 := Lib.hid i1
              clear hp1 i1
              go_wp2_with fail
              refine htl.mono ?_
              clear htl
              rintro e w9 ⟨hs9, K9⟩
              obtain ⟨rfl, wv9, hm9, vn9, -⟩ := told_ok hs9
              rw [e1, e2] at vn9
              have Ia9 := Ia.told hm9 K9
              have vn9' : VN w1 w9 B D C S wv9 p1.1 ⟨p1.2, [], -1⟩ ((n + 1 : Nat) : Int) := vn9
              clear hs9 K9 hm9 vn9 vn8 Ia e1 e2 hm8
              go_wp2_with fail
              refine (image_vn vn9').mono ?_
              rintro e w10 ⟨gb, cb, rfl, hcb, Ib, vn10, K10⟩
              have Ia10 := Ia9.keepN K10
              clear vn9' Ia9 K10
              have hpg := pages_any (HTm.out.keep vn10.keep (fun _ _ x => x)) (by rw [← Hnm.out]; omega) (fun s hs => by have := hmo.2 s hs; omega) 3 (by omega)
              rw [← Hnm.out, ← HM.out] at hpg
              go_wp2_with fail
              refine hpg.mono ?_
              clear hpg
              rintro e w11 ⟨rfl, hm11, K11⟩
              obtain ⟨mb2, hmb2⟩ : ∃ b, b = w10.heap.size := ⟨_, rfl⟩
              rw [← hmb2] at hm11 ⊢
              have vn11 := vn10.keepN K11
              have Ia11 := Ia10.keepN K11
              have Ib11 := Ib.keepN K11
              clear hmb2 vn10 Ia10 Ib K11
              have htl := tell_vn vn11 rfl (Hi1.out).1 rfl (by omega) (by decide) (R.keep K1 (fun x => x)) hm11 (by omega) hMg
              obtain ⟨p2, hp2⟩ : ∃ q, q = stepM p1 M := ⟨_, rfl⟩
              have e1 : nextV p1.1 p1.1.now.epoch (pagesOf M (otherE p1.1)) = p2.1 := by rw [hp2, stepM]
              have e2 : nextB p1.1 p1.2 p1.1.now.epoch (pagesOf M (otherE p1.1)) = p2.2 := by rw [hp2, stepM]
              have i2 := step_inv (Hi1.out).1 (Hi1.out).2 (by omega) hMp hMg
              rw [← hp2] at i2
              have Hp2 := Lib.hid hp2
              have Hi2 := Lib.hid i2
              clear hp2 i2
              go_wp2_with fail
              refine htl.mono ?_
              clear htl
              rintro e w12 ⟨hs12, K12⟩
              obtain ⟨rfl, wv12, hm12, vn12, -⟩ := told_ok hs12
              rw [e1, e2] at vn12
              have Ia12 := Ia11.told hm12 K12
              have Ib12 := Ib11.told hm12 K12
              have vn12' : VN w1 w12 B D C S wv12 p2.1 ⟨p2.2, [], -1⟩ ((n + 1 + 1 : Nat) : Int) := vn12
              clear hs12 K12 hm12 vn12 vn11 Ia11 Ib11 e1 e2 hm11
              go_wp2_with fail
              refine (image_vn vn12').mono ?_
              rintro e w13 ⟨gc, cc, rfl, -, Ic, vn13, K13⟩
              have Ia13 := Ia12.keepN K13
              have Ib13 := Ib12.keepN K13
              clear vn12' Ia12 Ib12 K13
              have htu := turn_vn vn13 rfl (Hi2.out).1 rfl (by omega) (by decide) (R.keep K1 (fun x => x))
              obtain ⟨W3, hW3⟩ : ∃ W, W = pagesOf (pagesM p2.1.texts 32) (fun _ => true) := ⟨_, rfl⟩
              obtain ⟨B3, hB3⟩ : ∃ B, B = nextB p2.1 p2.2 (p2.1.now.epoch + 1) W3 := ⟨_, rfl⟩
              rw [← hW3] at htu
              have HW3 := Lib.hid hW3
              have HB3 := Lib.hid hB3
              clear hW3
              go_wp2_with fail
              refine htu.mono ?_
              clear htu
              rintro e w14 ⟨hs14, K14⟩
              obtain ⟨rfl, wv14, hm14, vn14, -⟩ := told_ok hs14
              rw [← hB3] at vn14
              have Ia14 := Ia13.told hm14 K14
              have Ib14 := Ib13.told hm14 K14
              have Ic14 := Ic.told hm14 K14
              obtain ⟨V3, hV3⟩ : ∃ V, V = nextV p2.1 (p2.1.now.epoch + 1) W3 := ⟨_, rfl⟩
              rw [← hV3] at vn14
              have vn14' : VN w1 w14 B D C S wv14 V3 ⟨B3, [], -1⟩ ((n + 1 + 1 + 1 : Nat) : Int) := vn14
              clear hs14 K14 hm14 vn14 vn13 Ia13 Ib13 Ic hV3 hB3
              go_wp2_with fail
              have i0 := Hinv.out
              have i1 := Hi1.out
              have i2 := Hi2.out
              have hd1 : diffs p.2 p1.2 66 = 0 := by
                rw [Hp1.out, stepM, diffs_next i0.1 (by omega) (pagesOf_ok hM1p hM1g) _ i0.2, pagesOf_size]
                have : M1.filter (otherE p.1) = [] := by
                  rw [List.filter_eq_nil_iff]
                  intro x hx
                  rw [HM1.out] at hx
                  obtain ⟨i, hi, rfl⟩ := pagesM_mem.1 hx
                  have : otherE p.1 ((i : Int), p.1.texts.getD i ⟨#[]⟩) = !((p.1.texts.getD i ⟨#[]⟩).toList == (p.1.texts.getD i ⟨#[]⟩).toList) := rfl
                  rw [this]; simp
                rw [this]; rfl
              have hs1 : ¬ p.2.take 2 = p1.2.take 2 := by
                rw [Hp1.out, stepM]
                exact fun e => slot_new i0.1 (by omega) (pagesOf_ok hM1p hM1g) (.inl rfl) e.symm
              have ht1 : p1.1.texts = p.1.texts := by
                rw [Hp1.out, step_texts h32 hM1p hM1g, HM1.out, textsOf_self h32]
              have hoe : otherE p1.1 = otherE p.1 := by
                funext x; rw [otherE, otherE, ht1]
              have hd2 : diffs p1.2 p2.2 66 = oc := by
                rw [Hp2.out, stepM, diffs_next i1.1 (by omega) (pagesOf_ok hMp hMg) _ i1.2, pagesOf_size, hoe, Hoc.out, Hot.out, List.length_map]
              have hd3 : diffs p2.2 B3 66 = 32 := by
                rw [HB3.out, HW3.out, diffs_next i2.1 (by omega) (pagesOf_ok (pagesM_apart _ _) (pagesM_good i2.1.t200 i2.1.texts)) _ i2.2, pagesOf_size, filter_true, pagesM, List.length_map, List.length_range]
              have l0 : p.2.length = 66 := h66
              have l1 : p1.2.length = 66 := i1.1.blen
              have l2 : p2.2.length = 66 := i2.1.blen
              have l3 : B3.length = 66 := vn14'.dev.len
              have hA := fun W (KW : Keep NoB w14 W) => changed_any (Ia14.strs.keep KW (fun _ _ x => x)) (Ib14.strs.keep KW (fun _ _ x => x)) l0 l1
              have hB := fun W (KW : Keep NoB w14 W) => changed_any (Ib14.strs.keep KW (fun _ _ x => x)) (Ic14.strs.keep KW (fun _ _ x => x)) l1 l2
              have hE := fun W (KW : Keep NoB w14 W) => equal_any _ _ (p.2.take 2) (p1.2.take 2) W (strs_take (Ia14.strs.keep KW (fun _ _ x => x)) 2 (by omega) (by omega)) (strs_take (Ib14.strs.keep KW (fun _ _ x => x)) 2 (by omega) (by omega)) (by rw [List.length_take]; omega) (by rw [List.length_take]; omega)
              have hC := fun W gd cd (KW : Keep NoB w14 W) (Id : Strs W (.slice (some ⟨gd, 0, none⟩) 66 cd) B3) => changed_any (Ic14.strs.keep KW (fun _ _ x => x)) Id l2 l3
              have hI := fun W (KW : Keep NoB w14 W) => image2_any (vn14'.keepN KW).dev
              rw [hd1] at hA
              rw [hd2] at hB
              rw [hd3] at hC
              rw [decide_eq_false hs1] at hE
              have hca2 : 2 ≤ ca := by omega
              have hcb2 : 2 ≤ cb := by omega
              have hca3 : (2 : Int) ≤ (ca : Int) := by omega
              have hcb3 : (2 : Int) ≤ (cb : Int) := by omega
              have Kend := K1.thenN vn14'.keep
              clear hd1 hd2 hd3 hs1 i0 i1 i2 ht1 hoe l0 l1 l2 l3 hca hcb
              refine wp_region_mix (fun _ => True) [(true, 0), (true, 1), (true, 2), (false, 3), (true, 4), (true, 5), (true, 6), (true, 7), (true, 8), (true, 9), (false, 10), (true, 11), (true, 12), (true, 13), (true, 14), (true, 15), (true, 16), (true, 18), (false, 17), (true, 19), (true, 20), (true, 21), (true, 22), (true, 23), (true, 24), (false, 25), (false, 26), (true, 27), (true, 28), (false, 29)] (by kernel_rfl) (by kernel_rfl) (fun c a d v w h => by cases d <;> exact h) ?_
              simp only [wpMixC, pickL, List.getElem?_toArray, List.getElem?_cons_succ, List.getElem?_cons_zero]
              repeat (refine wpEarlyC_step (fun K hK => ?_); go_simp; first | (refine ⟨_, fun _ => rfl, hK _ ?_⟩; clear hK K; refine wpEarlyC_nil ?_) | (refine hK _ ?_; clear hK K; refine wpEarlyC_nil ?_))
              refine ⟨trivial, ?_⟩
              go_wp2_with fail
              refine (hA _ (Keep.refl NoB w14).drew).mono ?_
              clear hA
              rintro e w15 ⟨rfl, K15'⟩
              have K15 := (Keep.refl NoB w14).drew.thenN K15'
              clear K15'
              go_wp2_with fail
              repeat (refine wpEarlyC_step (fun K hK => ?_); go_simp; first | (refine ⟨_, fun _ => rfl, hK _ ?_⟩; clear hK K; refine wpEarlyC_nil ?_) | (refine hK _ ?_; clear hK K; refine wpEarlyC_nil ?_))
              refine ⟨trivial, ?_⟩
              go_wp2_with fail
              refine (hE _ K15).mono ?_
              clear hE
              rintro e w16 ⟨rfl, K16'⟩
              have K16 := K15.thenN K16'
              clear K16' K15
              go_wp2_with fail
              repeat (refine wpEarlyC_step (fun K hK => ?_); go_simp; first | (refine ⟨_, fun _ => rfl, hK _ ?_⟩; clear hK K; refine wpEarlyC_nil ?_) | (refine hK _ ?_; clear hK K; refine wpEarlyC_nil ?_))
              refine ⟨trivial, ?_⟩
              go_wp2_with fail
              refine (hB _ K16).mono ?_
              clear hB
              rintro e w17 ⟨rfl, K17'⟩
              have K17 := K16.thenN K17'
              clear K17' K16
              go_wp2_with fail
              repeat (refine wpEarlyC_step (fun K hK => ?_); go_simp; first | (refine ⟨_, fun _ => rfl, hK _ ?_⟩; clear hK K; refine wpEarlyC_nil ?_) | (refine hK _ ?_; clear hK K; refine wpEarlyC_nil ?_))
              refine ⟨trivial, ?_⟩
              go_wp2_with fail
              refine (hI _ K17).mono ?_
              clear hI
              rintro e w18 ⟨gd, cd, rfl, -, Id, -, K18'⟩
              have K18 := K17.thenN K18'
              clear K18' K17
              go_wp2_with fail
              repeat (refine wpEarlyC_step (fun K hK => ?_); go_simp; first | (refine ⟨_, fun _ => rfl, hK _ ?_⟩; clear hK K; refine wpEarlyC_nil ?_) | (refine hK _ ?_; clear hK K; refine wpEarlyC_nil ?_))
              refine ⟨trivial, ?_⟩
              go_wp2_with fail
              refine (hC _ gd cd K18 Id).mono ?_
              clear hC
              rintro e w19 ⟨rfl, K19'⟩
              have K19 := K18.thenN K19'
              clear K19' K18
              go_wp2_with fail
              repeat (refine wpEarlyC_step (fun K hK => ?_); go_simp; first | (refine ⟨_, fun _ => rfl, hK _ ?_⟩; clear hK K; refine wpEarlyC_nil ?_) | (refine hK _ ?_; clear hK K; refine wpEarlyC_nil ?_))
              refine ⟨trivial, ?_⟩
              go_wp2_with fail
              go_ret
              exact ⟨rfl, Kend.thenN K19⟩
        · intro x c w6 cnt2 hmem hlk hrg6 hlt6 K6 hs6 hen
          have hgood := hMg _ hmem
          simp only [badE, farE, wideE, Bool.or_eq_false_iff, decide_eq_false_iff_not] at hgood
          obtain ⟨i, rfl⟩ : ∃ i : Nat, x = i := ⟨x.toNat, by omega⟩
          have hi32 : i < 32 := by omega
          have hi32' : (i : Int) < 32 := by omega
          have Ko6 : Keep (OneB ib) w5 w6 := hK.out.then K6
          have K26 : Keep (OneB ib) w2 w6 := (K25.ofN).then Ko6
          have c1 : w6.cell? ⟨gh, n, none⟩ = some (.slice (some ⟨xg, xo, none⟩) 32 hxc) := (K26.cell (p := ⟨gh, n, none⟩) hgh (fun e => by have h1 : gh = ib := e; omega)).trans hcq
          have c2 := (K26.cell (p := ⟨xg, xo + i, none⟩) hxl (fun e => by have h1 : xg = ib := e; omega)).trans (hxcell i (by omega))
          have hLs : Ls.length ≤ 6 := by
            have h1 := hseen.out.perm.length_eq
            rw [List.length_map] at h1
            have h2 := List.length_filter_le (fun p' : Entry => !left (.int .i64 p'.1) && otherE p.1 p') M
            have h3 : M.length ≤ nm := by rw [HM.out]; exact pagesIn_len _ _ _
            omega
          have hstep := hseen.out.step hMp hmem hlk rfl
          have hnm3 : n < m := by have := Hnm1.out; omega
          have hnm2 : (n : Int) < (m : Int) := by omega
          obtain ⟨t, ht⟩ : ∃ t, t = p.1.texts.getD i ⟨#[]⟩ := ⟨_, rfl⟩
          have hoe : otherE p.1 ((i : Int), c) = !(c.toList == t.toList) := by rw [ht]; rfl
          rw [← ht] at c2
          have Hstep := Lib.hid hstep
          have Hoe := Lib.hid hoe
          have Hrg6 := Lib.hid hrg6
          have Hlt := Lib.hid (show w6.rangeLeft mb ib < wo.rangeLeft mb ib by rw [hrg6.left_eq, hrgo.left_eq]; exact hlt6)
          have HK6 := Lib.hid Ko6
          clear hstep hoe ht hrg6 hlt6 hrgo hrg hseen hK Ko6 K26 hs6 hgood
          obtain ⟨b, hbq⟩ : ∃ b, b = !(c.toList == t.toList) := ⟨_, rfl⟩
          have hbq' : (!(c.toList == t.toList)) = b := hbq.symm
          have Hbq := Lib.hid hbq
          clear hbq
          cases b with
          | false =>
            have hL := Hstep.out
            rw [Hoe.out, hbq', if_neg (by decide)] at hL
            have HL := Lib.hid hL
            clear hL Hstep Hoe
            go_wp2_with fail
            go_roundw
            case rel => exact ⟨_, _, Ls, Hrg6, HL, rfl, HK6⟩
            case measure => exact Hlt.out
          | true =>
            have hL := Hstep.out
            rw [Hoe.out, hbq', if_pos rfl] at hL
            have HL := Lib.hid hL
            clear hL Hstep Hoe
            go_wp2_with fail
            exact ⟨⟨_, _, Ls ++ [(i : Int)], Hrg6, HL, by rw [List.length_append]; go_num, HK6⟩, Hlt.out⟩
end Go.Proofs.YtncdopmjnficmaaGreatDoor
