/-
  DERIVED. The walk of the law VaultOld.
-/
import Derived.Test.YtncdopmjnficmaaGreatDoorVJBC
import Derived.Test.YtncdopmjnficmaaGreatDoorVJBA
set_option linter.unusedVariables false
set_option linter.unusedSimpArgs false
namespace Go.Proofs.YtncdopmjnficmaaGreatDoor
open Go.RowKit Go.Cof
theorem layP_same (l : List ByteArray) (hl : l.length = 66) (h : ∀ i, i < 66 → (l.getD i ⟨#[]⟩).size = 256) : layP l = l := by
  refine ext_getD ⟨#[]⟩ (by rw [layP, List.length_map, List.length_range, hl]) fun i hi => ?_
  rw [layP, List.length_map, List.length_range] at hi
  rw [layP, List.getD_eq_getElem?_getD, List.getElem?_map, List.getElem?_range hi]
  show laidAt l i = _
  rw [laidAt, if_pos (by omega)]
  have h2 := h i hi
  apply bs_inj
  rw [bs_extract, bs_append, List.drop_zero, List.take_append_of_le_length (by rw [bs_len]; omega), List.take_of_length_le (by rw [bs_len]; omega)]
theorem upto_at {α : Type} (f : Nat → α) (n i : Nat) (d : α) (h : i < n) : (upto f n).getD i d = f i := by
  rw [upto, List.getD_eq_getElem?_getD, List.getElem?_map, List.getElem?_range h]; rfl
section
variable {w0 w : World} {B D C S : Nat} {wv : Value} {V : VaultV} {d : DevV} {n' : Int}
/-- An image is laid down. -/
theorem lay_vn (h : VN w0 w B D C S wv V d n') (v : Value) (l : List ByteArray) (T : Strs w v l) (hl : l.length ≤ 1000000) (hs : ∀ s ∈ l, s.size ≤ 1000000) (hB : ∀ b, v.ownBlock = some b → ¬ DevB D S wv b) :
    Calls Tryz.prog 28 #[.pointer (some ⟨D, 0, none⟩), v] w fun e w' => e = .returned (.tuple #[]) ∧ VN w0 w' B D C S (.slice none 0 0) V ⟨layP l, [], d.fuse⟩ n' ∧ Keep (DevB D S wv) w w' :=
  (lay_any h.dev v l T hl hs hB).mono fun _ _ ⟨he, hd, hk⟩ =>
    have hk' := hk.mono (S' := VB B D C S wv) (fun _ _ x => .inl x)
    ⟨he, h.step (h.vault.keep hk (fun hb => by
        obtain ⟨c, t, f, h1, h2⟩ := devB_row h.dev B hb
        rw [h.vault.row] at h1
        cases h1
        rcases h2 with h2 | h2 | h2 <;> exact absurd h2 (by decide))) hd (h.cnt.keep hk (fun hb => devB_count h.dev h.cnt hb)) (.inr (fun b hb => by cases hb)) hk', hk⟩
end
set_option maxRecDepth 100000
set_option maxHeartbeats 8000000 in
theorem vaultOld_any {w : World} {v : Value} {vs : List Value} {L : List (List ByteArray)} (k : Int) (T : Lists w v vs L) (hl : ∀ l ∈ L, l.length ≤ maxLen) (R : RoundsVar w) (E : ErrVar w) :
    Calls Tryz.prog 6 #[v, .int .i64 k] w fun e w' => e = .returned (.bool true) ∧ Keep NoB w w' := by
  have hli := lists_any v vs L w T hl
  obtain ⟨p0, c0, rfl⟩ := T.len
  cases hb : listsB L with
  | false =>
    rw [hb] at hli
    go_enter Tryz.func6, Tryz.ntmps6
    go_wp2_with fail
    refine hli.mono ?_
    rintro e w' ⟨rfl, hw⟩
    subst w'
    go_wp2_with fail
    go_ret
    exact ⟨rfl, Keep.refl _ _⟩
  | true =>
    rw [hb] at hli
    obtain ⟨n, hn⟩ : ∃ n, n = L.length := ⟨_, rfl⟩
    have h8 := (listsB_yes hb).1
    have Hn := Lib.hid hn
    rw [← hn] at h8 hli ⊢
    clear hn
    go_enter Tryz.func6, Tryz.ntmps6
    go_wp2_with fail
    refine hli.mono ?_
    rintro e w' ⟨rfl, hw⟩
    subst w'
    clear hli
    go_wp2_with fail
    refine (kept_any w R).mono ?_
    rintro e w1 ⟨rfl, K1⟩
    have T1 := T.keep K1 (fun _ _ x => x)
    go_wp2_with fail
    have hla := laid_any T1 hb (R.keep K1 (fun x => x))
    rw [← Hn.out] at hla
    refine hla.mono ?_
    clear hla
    rintro e w2 ⟨D, C, B, S, wv, hv, hvs, iv, ivs, rfl, st⟩
    obtain ⟨m, hm⟩ : ∃ m, m = n + 1 := ⟨_, rfl⟩
    have Hm := Lib.hid hm
    rw [← hm] at st
    obtain ⟨gi, ci, rfl, hgi, hci⟩ := st.img.at (by rw [upto_length, hm]; omega)
    obtain ⟨gh, ch, rfl, hgh, hch⟩ := st.had.at (by rw [upto_length, hm]; omega)
    simp only [upto_length] at hci hch ⊢
    obtain ⟨q, hq⟩ : ∃ q, q = pickN k m := ⟨_, rfl⟩
    have hqm : q < m := by rw [hq]; exact pickN_lt k m (by omega)
    have hpick := pick_any k (m : Int) m rfl (by omega) (by omega)
    rw [← hq] at hpick
    have hq8 : q ≤ 8 := by omega
    have hinv := (laid_inv hb q (by rw [← Hn.out]; omega)).1
    have hcq := hci q hqm
    have hsq := st.img.strs q (by rw [upto_length]; exact hqm)
    have hil := st.img.lt q
    have hbq := fun b hbk => (st.i1 b (.inr ⟨q, by rw [upto_length]; exact hqm, hbk⟩))
    obtain ⟨x, hx⟩ : ∃ x, x = ivs.getD q nilL := ⟨_, rfl⟩
    rw [← hx] at hcq hsq hbq
    rw [upto_at _ _ _ _ hqm] at hsq
    have hcnt := get_any st.vn.cnt
    have Hinv := Lib.hid hinv
    have Hq := Lib.hid hq
    have hnm : (n : Int) + 1 = (m : Int) := by omega
    have Hnm := Lib.hid hnm
    clear hq hx hci hinv hil hnm hm
    obtain ⟨px, cx, rfl⟩ := hsq.len
    go_wp2_with fail
    refine (hpick _).mono ?_
    rintro e w3 ⟨rfl, hw3⟩
    subst w3
    clear hpick
    go_wp2_with fail
    have hB2 := Hinv.out.bsz
    have hL2 := Hinv.out.blen
    have hlp : layP (imgV L q) = imgV L q := layP_same _ hL2 hB2
    have hss : ∀ s ∈ imgV L q, s.size ≤ 1000000 := fun s hs => by
      obtain ⟨i, hi, rfl⟩ := List.getElem_of_mem hs
      have := hB2 i (by rw [← hL2]; exact hi)
      rw [show laidV L q = laidV L q from rfl, ← imgV, List.getD_eq_getElem?_getD, List.getElem?_eq_getElem hi] at this
      simp only [Option.getD_some] at this
      omega
    refine (lay_vn st.vn _ (imgV L q) hsq (by rw [imgV, hL2]; omega) hss (fun b hb hd => hbq b hb (.inl hd))).mono ?_
    rintro e w4 ⟨rfl, vn4, K4⟩
    rw [hlp] at vn4
    have st4 := st.had.keep K4 (fun b hb hx => (st.h1 b hb).1 (.inl hx))
    clear hlp hss hB2 hL2 hsq hcq hbq hcnt hch K4
    have hvb := fun b hb => (st.h1 b hb).1
    clear st
    obtain ⟨V, hV⟩ : ∃ V, V = (laidV L n).1 := ⟨_, rfl⟩
    rw [← hV] at vn4
    go_wp2_with fail
    rw [show (⟨#[48, 49, 50, 51, 52, 53, 54, 55, 56, 57, 97, 98, 99, 100, 101, 102]⟩ : ByteArray) = secB from rfl]
    by_cases hqn : q < n
    · have hbad := openBad_vn (d := ⟨imgV L q, [], -1⟩) vn4.dev vn4.keep (fun b hb => hb.elim (fun x => vn4.own b (.inl x)) (fun x => vn4.own b (.inr (.inr x)))) vn4.cnt (by omega) Hinv.out.bsz (by decide) (R.keep K1 (fun x => x)) (inv_old Hinv.out hqn)
      refine hbad.mono ?_
      clear hbad
      rintro e w5 ⟨rfl, hc5, K5⟩
      have j1 : (q : Int) < wrap64 ((m : Int) - 1) := by have := Hnm.out; unfold wrap64; omega
      have hte := tell_any 15 w5 (E.keep (K1.thenN K5) (fun x => x))
      have hcg := fun W (KW : Keep NoB w5 W) => get_any (hc5.keep KW (fun x => x))
      go_wp2_with fail
      refine hte.mono ?_
      clear hte
      rintro e w6 ⟨rfl, K6⟩
      go_wp2_with fail
      refine (hcg _ K6).mono ?_
      clear hcg
      rintro e w7 ⟨rfl, hw7⟩
      subst w7
      go_wp2_with fail
      go_ret
      exact ⟨rfl, K1.thenN (K5.thenN K6)⟩
    · obtain rfl : q = n := by have := Hnm.out; omega
      have hgood := again_vn vn4 rfl (by omega) Hinv.out.bsz (by decide) (R.keep K1 (fun x => x)) (inv_open Hinv.out)
      refine hgood.mono ?_
      clear hgood
      rintro e w5 ⟨⟨B2, hB2, rfl, vn5⟩, K5⟩
      have j1 : ¬ (q : Int) < wrap64 ((m : Int) - 1) := by have := Hnm.out; unfold wrap64; omega
      have st5 := st4.keep K5 (fun b hb e => hvb b hb (.inr (.inr e)))
      have hcell : w5.cell? ⟨gh, q, none⟩ = some (hvs.getD q nilL) := by
        obtain ⟨g', c', e', _, hc'⟩ := st5.at (by rw [upto_length]; omega)
        cases e'
        exact hc' q (by rw [upto_length]; exact hqm)
      have hstr := st5.strs q (by rw [upto_length]; exact hqm)
      rw [upto_at _ _ _ _ hqm] at hstr
      obtain ⟨y, hy⟩ : ∃ y, y = hvs.getD q nilL := ⟨_, rfl⟩
      rw [← hy] at hcell hstr
      obtain ⟨py, cy, rfl⟩ := hstr.len
      have q1 : ∀ z : InC (fun W : World => W.cell? ⟨gh, q, none⟩ = some (.slice py (hadV L q).length cy)), z.w.cell? ⟨gh, q, none⟩ = some (.slice py (hadV L q).length cy) := fun z => z.h
      clear hy st4 st5
      go_wp2_with fail
      refine wp_region_mix (fun W : World => W.cell? ⟨gh, q, none⟩ = some (.slice py (hadV L q).length cy)) [(true, 0), (true, 1), (true, 2), (true, 3), (true, 4), (true, 5), (true, 6), (true, 7), (true, 9), (true, 10), (true, 11), (true, 12), (false, 8), (false, 13), (true, 14), (false, 15)] (by kernel_rfl) (by kernel_rfl) (fun c a d v w h => by cases d <;> exact h) ?_
      simp only [wpMixC, pickL, List.getElem?_toArray, List.getElem?_cons_succ, List.getElem?_cons_zero]
      repeat (refine wpEarlyC_step (fun K hK => ?_); go_simp; first | (refine ⟨_, fun _ => rfl, hK _ ?_⟩; clear hK K; refine wpEarlyC_nil ?_) | (refine hK _ ?_; clear hK K; refine wpEarlyC_nil ?_))
      refine ⟨hcell, ?_⟩
      go_wp2_with fail
      have vn5' := vn5.keepN (Keep.refl NoB w5).drew
      refine (all_any vn5'.vault).mono ?_
      rintro e w6 ⟨ga, ca, rfl, S6, hga, K6⟩
      have K56 : Keep NoB w5 w6 := (Keep.refl NoB w5).drew.thenN K6
      have hcell6 : w6.cell? ⟨gh, q, none⟩ = some (.slice py (hadV L q).length cy) := (K56.cell (p := ⟨gh, q, none⟩) (block_lt_of_cell hcell) (fun x => x)).trans hcell
      have hstr6 := hstr.keep K56 (fun _ _ x => x)
      have h32 : (hadV L q).length = 32 := Hinv.out.texts
      have heq := equal_any _ _ (hadV L q) (hadV L q) w6 S6 hstr6 (by rw [h32]; decide) (by rw [h32]; decide)
      rw [show decide (hadV L q = hadV L q) = true by simp] at heq
      have Kall := K1.thenN (vn5'.keep.thenN K6)
      clear S6 hstr6 K56 vn5' vn5 hstr q1 h32
      go_wp2_with fail
      refine ⟨hcell6, ?_⟩
      go_wp2_with fail
      refine heq.mono ?_
      clear heq
      rintro e w7 ⟨rfl, K7⟩
      have hcell7 := (K7.cell (p := ⟨gh, q, none⟩) (block_lt_of_cell hcell6) (fun x => x)).trans hcell6
      go_wp2_with fail
      repeat (refine wpEarlyC_step (fun K hK => ?_); go_simp; first | (refine ⟨_, fun _ => rfl, hK _ ?_⟩; clear hK K; refine wpEarlyC_nil ?_) | (refine hK _ ?_; clear hK K; refine wpEarlyC_nil ?_))
      refine ⟨hcell7, ?_⟩
      go_wp2_with fail
      go_ret
      exact ⟨rfl, Kall.thenN K7⟩
end Go.Proofs.YtncdopmjnficmaaGreatDoor
