/-
  DERIVED. The walk of the law VaultWhole. (Its tail stands four times: printed by a program.)
-/
import Derived.Test.YtncdopmjnficmaaGreatDoorVaultQuietX
set_option linter.unusedVariables false
set_option linter.unusedSimpArgs false
namespace Go.Cof
open Go.RowKit Go.Proofs.YtncdopmjnficmaaGreatDoor
theorem ep_next {V : VaultV} {ep : Int} {W : List (Nat × ByteArray)} : (nextV V ep W).texts = putTexts V.texts W := rfl
end Go.Cof
namespace Go.Proofs.YtncdopmjnficmaaGreatDoor
open Go.RowKit Go.Cof
/-- What comes of a telling that may be cut off: whatever is lost then, what is opened. -/
theorem told_after {w0 w w' : World} {B D C S : Nat} {wv : Value} {V : VaultV} {d : DevV} {n : Nat} {ep : Int} {W : List (Nat × ByteArray)} {e : Ending} (h : ToldN w0 w w' B D C S wv secB V d n ep W e) :
    ∃ (er : Int) (wv' : Value) (V' : VaultV) (d' : DevV) (m : Nat), (er = 0 ∨ er = 14) ∧ e = .returned (errVal er) ∧ Moved w wv wv' ∧ VN w0 w' B D C S wv' V' d' m ∧ m ≤ n + 1 ∧ (er = 14 → V'.dead = true) ∧
      ∀ keeps, ∃ (Vx : VaultV) (nx : Nat), InvV secB Vx (crashTo d'.sure d'.wait keeps d'.wait.length) nx ∧ openV secB (crashTo d'.sure d'.wait keeps d'.wait.length) m = some (Vx, (nx : Int)) ∧ ((nx = n + 1 ∧ Vx = nextV V ep W) ∨ (er = 14 ∧ nx = n ∧ Vx = V)) := by
  obtain ⟨wv', d', hm, ⟨he, hv, hi, hs, hw, hf⟩ | ⟨he, hv, hf, hk⟩⟩ := h
  · refine ⟨0, wv', _, d', n + 1, .inl rfl, he, hm, hv, Nat.le_refl _, fun h => (by cases h), fun keeps => ⟨_, n + 1, ?_, ?_, .inl ⟨rfl, rfl⟩⟩⟩
    · rw [hw]; exact hi
    · rw [hw]; exact inv_open hi
  · refine ⟨14, wv', _, d', n, .inr rfl, he, hm, hv, Nat.le_succ _, fun _ => rfl, fun keeps => ?_⟩
    rcases hk keeps with h | h
    · exact ⟨V, n, h, inv_open h, .inr ⟨rfl, rfl, rfl⟩⟩
    · exact ⟨_, n + 1, h, inv_open1 h, .inl ⟨rfl, rfl⟩⟩
theorem crash_moved (w : World) (wv : Value) : Moved w wv (.slice none 0 0) := .inr fun b hb => by cases hb
section
variable {w w' : World} {B B2 D C S : Nat} {wv v : Value} {l : List ByteArray}
/-- Behind an Open: another vault on the same device. -/
theorem Img.opened (h : Img w B D C S wv v l) (hk : Keep (OneB C) w w') (hB : w.heap.size ≤ B2) : Img w' B2 D C S wv v l :=
  ⟨h.strs.keep hk (fun b hb e => (h.out b hb).2 (.inr (.inr e))), fun b hb => ⟨Nat.lt_of_lt_of_le (h.out b hb).1 hk.size, fun hx => by
    rcases hx with hx | hx | hx
    · exact (h.out b hb).2 (.inl hx)
    · have := (h.out b hb).1; omega
    · exact (h.out b hb).2 (.inr (.inr hx))⟩⟩
end
/-- A row of texts that may be written. -/
structure TRow (w : World) (g : Nat) (A : List ByteArray) : Prop where
  row : ∃ cur, w.heap[g]? = some (.cells cur 9 (0, 0)) ∧ cur.toList.take 32 = A.map Value.string
  len : A.length = 32
section
variable {w w' : World} {g : Nat} {A : List ByteArray}
theorem TRow.keep (h : TRow w g A) {S : Nat → Prop} (hk : Keep S w w') (hn : ¬ S g) : TRow w' g A := by
  obtain ⟨cur, h1, h2⟩ := h.row
  exact ⟨⟨cur, hk.heap h1 hn, h2⟩, h.len⟩
theorem TRow.lt (h : TRow w g A) : g < w.heap.size := by
  obtain ⟨cur, h1, h2⟩ := h.row
  exact lt_of_heap h1
theorem TRow.cell (h : TRow w g A) (i : Nat) (hi : i < 32) : w.cell? ⟨g, i, none⟩ = some (.string (A.getD i ⟨#[]⟩)) ∧ w.frozen? ⟨g, i, none⟩ = false := by
  obtain ⟨cur, h4, h5⟩ := h.row
  refine ⟨?_, by simp [World.frozen?, h4]⟩
  rw [cell_of_row w g i cur 9 (0, 0) h4]
  have h1 : (cur.toList.take 32)[i]? = (A.map Value.string)[i]? := by rw [h5]
  rw [List.getElem?_take, if_pos hi] at h1
  simp only [Array.getElem?_toList] at h1
  rw [h1, List.getElem?_map, List.getD_eq_getElem?_getD, List.getElem?_eq_getElem (by rw [h.len]; exact hi)]
  rfl
theorem TRow.set (h : TRow w g A) (i : Nat) (s : ByteArray) : TRow (w.setCell ⟨g, i, none⟩ (.string s)) g (A.set i s) := by
  obtain ⟨cur, h4, h5⟩ := h.row
  refine ⟨⟨cur.setIfInBounds i (.string s), ?_, ?_⟩, by rw [List.length_set]; exact h.len⟩
  · rw [heap_setCell_row h4]
  · rw [Array.toList_setIfInBounds, List.take_set, h5, List.map_set]
theorem TRow.strs (h : TRow w g A) (c : Nat) : Strs w (.slice (some ⟨g, 0, none⟩) 32 c) A :=
  .inr ⟨g, 0, c, by rw [h.len], h.lt, fun i hi => by rw [Nat.zero_add]; exact (h.cell i (by rw [← h.len]; exact hi)).1⟩
end
/-- Texts, as far as a map's range has come. -/
structure AfterIs (T : List ByteArray) (M : List Entry) (left : Lit → Bool) (A : List ByteArray) : Prop where
  len : A.length = 32
  old : ∀ i : Nat, i < 32 → (∀ s, ((i : Int), s) ∈ M → left (.int .i64 i) = true) → A.getD i ⟨#[]⟩ = T.getD i ⟨#[]⟩
  new : ∀ (i : Nat) s, i < 32 → ((i : Int), s) ∈ M → left (.int .i64 i) = false → A.getD i ⟨#[]⟩ = s
theorem AfterIs.start {T : List ByteArray} (hT : T.length = 32) (M : List Entry) : AfterIs T M (Maps.has (encM M)) T := by
  refine ⟨hT, fun _ _ _ => rfl, fun i s hi hm hl => ?_⟩
  have : Maps.has (encM M) (.int .i64 i) = true := by
    rw [encM, Maps.has_eq, List.any_eq_true]
    exact ⟨encE ((i : Int), s), List.mem_map.2 ⟨_, hm, rfl⟩, decide_eq_true ⟨rfl, rfl⟩⟩
  rw [this] at hl; cases hl
theorem AfterIs.step {T A : List ByteArray} {M : List Entry} {left : Lit → Bool} (h : AfterIs T M left A) (hp : M.Pairwise (fun p q => p.1 ≠ q.1)) {x : Nat} {c : ByteArray} (hx : x < 32) (hm : ((x : Int), c) ∈ M) : AfterIs T M (fun z => left z && !z.sameKey (.int .i64 x)) (A.set x c) := by
  refine ⟨by rw [List.length_set]; exact h.len, fun i hi ho => ?_, fun i s hi hmi hl => ?_⟩
  · have hne : i ≠ x := fun e => by
      subst e
      have := ho c hm
      rw [same_int] at this
      simp at this
    rw [getD_set, if_neg (fun e => hne e.1.symm)]
    refine h.old i hi fun s hs => ?_
    have := ho s hs
    simp only [Bool.and_eq_true] at this
    exact this.1
  · rw [getD_set]
    by_cases e : x = i
    · subst e
      rw [if_pos ⟨rfl, by rw [h.len]; exact hi⟩]
      have g1 := getM_mem hp hm
      rw [getM_mem hp hmi] at g1
      exact (Option.some.inj g1).symm
    · rw [if_neg (fun y => e y.1)]
      refine h.new i s hi hmi ?_
      rw [same_int] at hl
      have hne : decide ((i : Int) = (x : Int)) = false := decide_eq_false (fun y => e (Int.ofNat.inj y).symm)
      rw [hne] at hl
      simpa using hl
theorem AfterIs.finish {T A : List ByteArray} {M : List Entry} {left : Lit → Bool} (h : AfterIs T M left A) (hp : M.Pairwise (fun p q => p.1 ≠ q.1)) (hl : ∀ z, left z = false) : A = textsOf T M := by
  refine ext_getD ⟨#[]⟩ (by rw [h.len, textsOf_len]) fun i hi => ?_
  rw [h.len] at hi
  rw [textsOf_at T M i hi]
  cases hg : getM M (i : Int) with
  | none => exact h.old i hi fun s hs => by rw [getM_mem hp hs] at hg; cases hg
  | some s => exact h.new i s hi (mem_getM hg) (hl _)
set_option maxRecDepth 100000
set_option maxHeartbeats 16000000 in
theorem vaultWhole_any {w : World} {v : Value} {vs : List Value} {L : List (List ByteArray)} {vm : Value} {more : List ByteArray} (turn : Bool) (fuse : Int) {kv : Value} {keeps : List Bool} (T : Lists w v vs L) (hl : ∀ l ∈ L, l.length ≤ maxLen) (Tm : Strs w vm more) (hmm : more.length ≤ maxLen) (Kb : Bools w kv keeps) (hkm : keeps.length ≤ maxLen) (R : RoundsVar w) (E : ErrVar w) :
    Calls Tryz.prog 5 #[v, vm, .bool turn, .int .i64 fuse, kv] w fun e w' => e = .returned (.bool true) ∧ Keep NoB w w' := by
  have hli := lists_any v vs L w T hl
  obtain ⟨p0, c0, rfl⟩ := T.len
  obtain ⟨pk, ck, rfl⟩ := Kb.len
  obtain ⟨nk, hnk⟩ : ∃ n, n = keeps.length := ⟨_, rfl⟩
  rw [← hnk] at Kb hkm ⊢
  have Hnk := Lib.hid hnk
  clear hnk
  cases hb : listsB L with
  | false =>
    rw [hb] at hli
    go_enter Tryz.func5, Tryz.ntmps5
    go_wp2_with fail
    refine hli.mono ?_
    rintro e w' ⟨rfl, hw⟩
    subst w'
    go_wp2_with fail
    go_ret
    exact ⟨rfl, Keep.refl _ _⟩
  | true =>
    rw [hb] at hli
    have KA : Keep NoB w (w.alloc (.cells #[vm] 23)) := (Keep.refl _ _).alloc _
    have hli2 := lists_any _ _ _ _ (one_lists Tm 23) (fun l h => by rw [List.mem_singleton.1 h]; exact hmm)
    obtain ⟨n, hn⟩ : ∃ n, n = L.length := ⟨_, rfl⟩
    have h8 := (listsB_yes hb).1
    have Hn := Lib.hid hn
    rw [← hn] at h8 hli ⊢
    clear hn
    cases hb2 : listsB [more] with
    | false =>
      rw [hb2] at hli2
      go_enter Tryz.func5, Tryz.ntmps5
      go_wp2_with fail
      refine hli.mono ?_
      rintro e w' ⟨rfl, hw⟩
      subst w'
      obtain ⟨pm, cm, rfl⟩ := Tm.len
      go_wp2_with fail
      refine hli2.mono ?_
      rintro e w' ⟨rfl, hw⟩
      subst w'
      go_wp2_with fail
      go_ret
      exact ⟨rfl, KA⟩
    | true =>
      rw [hb2] at hli2
      obtain ⟨pm, cm, rfl⟩ := Tm.len
      have hmo := (listsB_yes hb2).2 more (List.mem_singleton.2 rfl)
      obtain ⟨nm, hnm⟩ : ∃ n, n = more.length := ⟨_, rfl⟩
      rw [← hnm] at hli2 Tm hmo KA ⊢
      have Hnm := Lib.hid hnm
      clear hnm
      by_cases hk80 : 80 < nk
      · have j80 : (80 : Int) < (nk : Int) := by omega
        go_enter Tryz.func5, Tryz.ntmps5
        go_wp2_with fail
        refine hli.mono ?_
        rintro e w' ⟨rfl, hw⟩
        subst w'
        go_wp2_with fail
        refine hli2.mono ?_
        rintro e w' ⟨rfl, hw⟩
        subst w'
        go_wp2_with fail
        go_ret
        exact ⟨rfl, KA⟩
      have j80 : ¬ (80 : Int) < (nk : Int) := by omega
      go_enter Tryz.func5, Tryz.ntmps5
      go_wp2_with fail
      refine hli.mono ?_
      rintro e w' ⟨rfl, hw⟩
      subst w'
      clear hli
      go_wp2_with fail
      refine hli2.mono ?_
      rintro e w' ⟨rfl, hw⟩
      subst w'
      clear hli2
      go_wp2_with fail
      refine (kept_any _ (R.keep KA (fun x => x))).mono ?_
      rintro e w1 ⟨rfl, K1'⟩
      have K1 := KA.thenN K1'
      clear K1' KA j80
      go_wp2_with fail
      have T1 := T.keep K1 (fun _ _ x => x)
      have Tm1 := Tm.keep K1 (fun _ _ x => x)
      have Kb1 := Kb.keep K1 (fun _ _ x => x)
      have R1 := R.keep K1 (fun x => x)
      have E1 := E.keep K1 (fun x => x)
      have hla := laid_any T1 hb R1
      rw [← Hn.out] at hla
      refine hla.mono ?_
      clear hla T T1 Tm Kb R E
      rintro e w2 ⟨D, C, B, S, wv, hv, hvs, iv, ivs, rfl, st⟩
      obtain ⟨m, hm⟩ : ∃ m, m = n + 1 := ⟨_, rfl⟩
      have hnm : (n : Int) = (m : Int) - 1 := by omega
      have Hm := Lib.hid hm
      have Hnm1 := Lib.hid hnm
      rw [← hm] at st
      obtain ⟨gh, ch, rfl, hgh, hch⟩ := st.had.at (by rw [upto_length, hm]; omega)
      simp only [upto_length] at hch ⊢
      have hcq := hch n (by omega)
      have hsq := st.had.strs n (by rw [upto_length]; omega)
      rw [upto_get _ _ _ _ (by omega)] at hsq
      have hsb := fun b (hbk : (hvs.getD n nilL).ownBlock = some b) => (st.h1 b (.inr ⟨n, by rw [upto_length]; omega, hbk⟩)).1
      obtain ⟨hx, hhx⟩ : ∃ x, x = hvs.getD n nilL := ⟨_, rfl⟩
      rw [← hhx] at hcq hsq hsb
      have hinv := (laid_inv hb n (by rw [← Hn.out]; exact Nat.le_refl _)).1
      obtain ⟨p, hp⟩ : ∃ p, p = laidV L n := ⟨_, rfl⟩
      have vn := st.vn
      rw [hadV] at hsq
      rw [← hp] at hinv vn hsq
      have Hinv := Lib.hid hinv
      have h32 := hinv.texts
      have ht2 := hinv.t200
      obtain ⟨hxp, hxc, hxe⟩ := hsq.len
      rw [h32] at hxe
      subst hxe
      obtain ⟨xg, xo, hxpe, -, hxl, hxcell⟩ := hsq.at (by omega)
      subst hxpe
      have Ib : Img w2 B D C S wv (.slice (some ⟨xg, xo, none⟩) 32 hxc) p.1.texts := ⟨hsq, fun b hbk => ⟨by cases hbk; exact hxl, hsb b hbk⟩⟩
      have Hw12 := Lib.hid vn.keep.size
      have Hxga0 := Lib.hid hxl
      have hw1 : wrap64 ((m : Int) - 1) = (n : Int) := by have := Hnm1.out; unfold wrap64; omega
      have hnm3 : n < m := by have := Hnm1.out; omega
      have hnm2 : (n : Int) < (m : Int) := by omega
      have hcl := Tryz.slices_Clone_string xg xo 32 hxc p.1.texts w2 (by omega) (by omega) (fun j hj => hxcell j hj)
      rw [List.take_of_length_le (by omega)] at hcl
      obtain ⟨nI, hnI⟩ : ∃ i : Int, i = (n : Int) := ⟨_, rfl⟩
      clear hm hnm hhx hp hinv hch st hsq hxcell hsb hnI
      go_wp2_with fail
      refine hcl.mono ?_
      clear hcl
      rintro e w3 ⟨va, rfl, ho, hne, hBl⟩
      have K3 := Keep.ofBelow hBl
      obtain ⟨ga, ca, rfl, hga⟩ := own_some ho (by omega)
      have hga3 := (ho.lt ga rfl).2
      have Hxga := Lib.hid (show xg < ga from Nat.lt_of_lt_of_le Hxga0.out hga)
      have TR3 : TRow w3 ga p.1.texts := by
        rcases ho.2 with ⟨hx, _⟩ | ⟨g', cap', cur, hx, _, hg', _, _, hsz', htk⟩
        · cases hx
        · cases hx
          exact ⟨⟨cur, hg', by rw [← htk]⟩, h32⟩
      have vn3 := vn.keepN K3
      have Ib3 := Ib.keepN K3
      have hgaV : ¬ VB B D C S wv ga := fun hx => by have := vn.lt ga hx; omega
      have hpick := pick_any fuse 40 40 rfl (by omega) (by omega)
      obtain ⟨fu, hfu⟩ : ∃ f, f = pickN fuse 40 := ⟨_, rfl⟩
      have hfu40 : fu < 40 := by rw [hfu]; exact pickN_lt _ 40 (by omega)
      rw [← hfu] at hpick
      clear hfu ho hBl Ib vn hne hw1 hcq
      go_wp2_with fail
      refine (hpick _).mono ?_
      clear hpick
      rintro e w4 ⟨rfl, hw4⟩
      subst w4
      go_wp2_with fail
      have hmax : max (fu : Int) (-1) = (fu : Int) := by omega
      have hfz := fuse_any vn3.dev (fu : Int) (by omega)
      rw [hmax] at hfz
      refine hfz.mono ?_
      clear hfz hmax
      rintro e w5 ⟨rfl, hd5, K5⟩
      have K5' : Keep (VB B D C S wv) w3 w5 := K5.mono (fun i _ e => .inl (.inl e))
      have vn5 : VN w1 w5 B D C S wv p.1 ⟨p.2, [], (fu : Int)⟩ n := vn3.step (vn3.vault.keep K5 (fun e => by
          obtain ⟨c, t, f, h1, h2⟩ := devB_row vn3.dev D (.inl rfl)
          have e : B = D := e
          rw [← e, vn3.vault.row] at h1
          cases h1
          rcases h2 with h2 | h2 | h2 <;> exact absurd h2 (by decide))) hd5 (vn3.cnt.keep K5 (fun e => devB_count vn3.dev vn3.cnt (.inl e))) (.inl rfl) K5'
      have Ib5 := Ib3.told (.inl rfl) K5'
      have TR5 := TR3.keep K5' hgaV
      clear K5 K5' hd5 vn3 Ib3 TR3 hga3
      cases turn with
      | true =>
        go_wp2_with fail
        have htu := turn_vn vn5 rfl Hinv.out rfl (by omega) (by decide) R1
        have hAT : (nextV p.1 (p.1.now.epoch + 1) (pagesOf (pagesM p.1.texts 32) (fun _ => true))).texts = p.1.texts := by
          rw [ep_next, putTexts_of h32 (pagesM_apart _ _) (pagesM_good ht2 h32) (fun i s _ h => by cases h), textsOf_self h32]
        obtain ⟨A, hA⟩ : ∃ A, A = p.1.texts := ⟨_, rfl⟩
        have Ia5 : Img w5 B D C S wv (.slice (some ⟨ga, 0, none⟩) 32 ca) A := by
          rw [hA]
          exact ⟨TR5.strs ca, fun b hbk => by obtain rfl : ga = b := Option.some.inj hbk; exact ⟨TR5.lt, hgaV⟩⟩
        have hAT := hAT.trans hA.symm
        have hA32 : A.length = 32 := by rw [hA]; exact h32
        clear hA TR5
        refine htu.mono ?_
        clear htu
        rintro e w9 ⟨hs9, K9⟩
        obtain ⟨er, wv9, V9, d9, m9, her, rfl, hm9, vn9, hmn9, hdead, hcr⟩ := told_after hs9
        have Ib9 := Ib5.told hm9 K9
        have Ia9 := Ia5.told hm9 K9
        have Hcr := Lib.hid hcr
        clear hs9 K9 hm9 Ib5 Ia5 hcr
        rcases her with rfl | rfl
        · rw [errVal_zero]
          go_wp2_with fail
          obtain ⟨Vx, nx, hix, hox, hxx⟩ := Hcr.out keeps
          obtain ⟨BX, hBX⟩ : ∃ b, b = crashTo d9.sure d9.wait keeps d9.wait.length := ⟨_, rfl⟩
          rw [← hBX] at hix hox
          have hcrash := crash_vn vn9 _ keeps (by rw [Hnk.out] at Kb1; exact Kb1.keep vn9.keep (fun _ _ x => x)) (by rw [← Hnk.out]; omega) (fun h0 b hbk hx => by
            obtain ⟨Bk, ok, hke, -, hkl, -⟩ := Kb1.at h0
            subst hke
            obtain rfl : Bk = b := Option.some.inj hbk
            have := vn9.own Bk (.inl hx)
            omega)
          rw [← Hnk.out, ← hBX] at hcrash
          have Hix := Lib.hid hix
          clear hBX hix Hcr
          refine hcrash.mono ?_
          clear hcrash
          rintro e w10 ⟨rfl, vn10, K10⟩
          have K10' : Keep (VB B D C S wv9) w9 w10 := K10.mono (fun i _ e => .inl e)
          have Ib10 := Ib9.told (crash_moved w9 wv9) K10'
          have Ia10 := Ia9.told (crash_moved w9 wv9) K10'
          clear K10 K10' vn9 Ib9 Ia9
          go_wp2_with fail
          rw [show (⟨#[48, 49, 50, 51, 52, 53, 54, 55, 56, 57, 97, 98, 99, 100, 101, 102]⟩ : ByteArray) = secB from rfl]
          refine (again_vn vn10 rfl (by omega) Hix.out.bsz (by decide) R1 hox).mono ?_
          rintro e w11 ⟨⟨B2, hB2, rfl, vn11⟩, K11⟩
          have Ib11 := Ib10.opened K11 hB2
          have Ia11 := Ia10.opened K11 hB2
          have hcnt := vaultCount_any vn11.vault
          rw [Hix.out.cnt] at hcnt
          have hcg := fun W (KW : Keep NoB w11 W) => get_any (vn11.cnt.keep KW (fun x => x))
          have mk := @run_makeMap Tryz.prog
          have htx := Hix.out.texts
          clear hox K11 vn10 Ib10 Ia10 hB2
          go_wp2_with fail
          refine hcnt.mono ?_
          clear hcnt
          rintro e w12 ⟨rfl, hw12⟩
          subst w12
          rcases hxx with ⟨hnx, rfl⟩ | ⟨her, hnx, rfl⟩
          · have jn : ((nx : Nat) : Int) = (n : Int) + 1 := by omega
            have jw : wrap64 ((n : Int) + 1) = (n : Int) + 1 := by unfold wrap64; omega
            have jq : ((nx : Int) == (n : Int) + 1) = true := by rw [jn]; exact beq_self_eq_true _
            have jq1 : ((nx : Int) == wrap64 ((n : Int) + 1)) = true := by rw [jw, jn]; exact beq_self_eq_true _
            have hnx9 : nx ≤ n + 1 := by omega
            clear jn jw hnx
            go_wp2_with fail
            refine (all_any vn11.vault).mono ?_
            rintro e w13 ⟨gd, cd, rfl, Sd, hgd, K13⟩
            rw [hAT] at Sd
            have heq := equal_any _ _ A A w13 Sd (Ia11.keepN K13).strs (by rw [hA32]; decide) (by rw [hA32]; decide)
            rw [show decide (A = A) = true by simp] at heq
            have vn13 := vn11.keepN K13
            clear Sd vn11 Ia11 Ib11 hgd
            go_wp2_with fail
            refine heq.mono ?_
            clear heq
            rintro e w14 ⟨rfl, K14⟩
            have vn14 := vn13.keepN K14
            have hcg14 := hcg w14 (K13.thenN K14)
            clear vn13 hcg K13 K14
            go_wp2_with fail
            refine hcg14.mono ?_
            clear hcg14
            rintro e w15 ⟨rfl, hw15⟩
            subst w15
            go_wp2_with fail
            clear mk
            have m0 : MapIs (w14.alloc (Obj.map #[] 0)) w14.heap.size 0 [] := World.ownsMap_made _ _ _ _
            have hkey : keyOf Tryz.prog 3 (.int .i64 0) = some (.int .i64 0) := Maps.keyOf_int_mk Tryz.underlying3 (by decide)
            have hval : plainElem (H := Unit) Tryz.prog 9 (.string ⟨#[122]⟩) = some (.lit (.string (⟨#[122]⟩ : ByteArray).data.toList), []) := by simp [plainElem, Tryz.underlying9, maxLen, ByteArray.size]
            obtain ⟨w16, hrun, hm16, hg16⟩ := World.ownsMap.update m0 lawI Tryz.underlying31 (by decide) hkey hval
            rw [oneM_put] at hm16
            have hm16 : MapIs w16 w14.heap.size 1 (oneM ((0 : Nat) : Int) ⟨#[122]⟩) := hm16
            have K16 : Keep NoB w14 w16 := ((Keep.refl _ _).alloc (Obj.map #[] 0)).grown hg16 (fun k hk => .inr (by cases hk; exact Nat.le_refl _))
            have vn16 := vn14.keepN K16
            obtain ⟨mb3, hmb3⟩ : ∃ b, b = w14.heap.size := ⟨_, rfl⟩
            rw [← hmb3] at hm16 hrun ⊢
            rw [hrun]
            simp only [Result.andThen_ok, Oper.upon_skip]
            clear m0 hkey hval hrun hg16 hmb3 K16 vn14
            have htl := tell_vn vn16 rfl Hix.out rfl (by omega) (by decide) R1 hm16 (by decide) (oneM_good _ _ (by decide) (by decide) (by decide))
            go_wp2_with fail
            refine htl.mono ?_
            clear htl
            rintro e w17 ⟨hs17, K17⟩
            obtain ⟨rfl, wv17, hm17, vn17, -⟩ := told_ok hs17
            go_wp2_with fail
            go_ret
            exact ⟨rfl, K1.thenN vn17.keep⟩
          · exact absurd her (by decide)
        · have hdd := hdead rfl
          rw [errVal_one 14 (by decide)]
          go_wp2_with fail
          refine (tell_errno 14 w9 (E1.keep vn9.keep (fun x => x))).mono ?_
          rintro e w9a ⟨rfl, K9a⟩
          have vn9a := vn9.keepN K9a
          have Ib9a := Ib9.keepN K9a
          have Ia9a := Ia9.keepN K9a
          clear K9a vn9 Ib9 Ia9
          go_wp2_with fail
          refine (tellDeadNil_any vn9a.vault hdd).mono ?_
          rintro e w9b ⟨rfl, K9b⟩
          have vn9b := vn9a.keepN K9b
          have Ib9b := Ib9a.keepN K9b
          have Ia9b := Ia9a.keepN K9b
          clear K9b vn9a Ib9a Ia9a
          rw [errVal_one 6 (by decide)]
          go_wp2_with fail
          refine (tell_errno 6 w9b (E1.keep vn9b.keep (fun x => x))).mono ?_
          rintro e w9c ⟨rfl, K9c⟩
          have vn9 := vn9b.keepN K9c
          have Ib9 := Ib9b.keepN K9c
          have Ia9 := Ia9b.keepN K9c
          clear K9c vn9b Ib9b Ia9b
          go_wp2_with fail
          obtain ⟨Vx, nx, hix, hox, hxx⟩ := Hcr.out keeps
          obtain ⟨BX, hBX⟩ : ∃ b, b = crashTo d9.sure d9.wait keeps d9.wait.length := ⟨_, rfl⟩
          rw [← hBX] at hix hox
          have hcrash := crash_vn vn9 _ keeps (by rw [Hnk.out] at Kb1; exact Kb1.keep vn9.keep (fun _ _ x => x)) (by rw [← Hnk.out]; omega) (fun h0 b hbk hx => by
            obtain ⟨Bk, ok, hke, -, hkl, -⟩ := Kb1.at h0
            subst hke
            obtain rfl : Bk = b := Option.some.inj hbk
            have := vn9.own Bk (.inl hx)
            omega)
          rw [← Hnk.out, ← hBX] at hcrash
          have Hix := Lib.hid hix
          clear hBX hix Hcr
          refine hcrash.mono ?_
          clear hcrash
          rintro e w10 ⟨rfl, vn10, K10⟩
          have K10' : Keep (VB B D C S wv9) w9c w10 := K10.mono (fun i _ e => .inl e)
          have Ib10 := Ib9.told (crash_moved w9c wv9) K10'
          have Ia10 := Ia9.told (crash_moved w9c wv9) K10'
          clear K10 K10' vn9 Ib9 Ia9
          go_wp2_with fail
          rw [show (⟨#[48, 49, 50, 51, 52, 53, 54, 55, 56, 57, 97, 98, 99, 100, 101, 102]⟩ : ByteArray) = secB from rfl]
          refine (again_vn vn10 rfl (by omega) Hix.out.bsz (by decide) R1 hox).mono ?_
          rintro e w11 ⟨⟨B2, hB2, rfl, vn11⟩, K11⟩
          have Ib11 := Ib10.opened K11 hB2
          have Ia11 := Ia10.opened K11 hB2
          have hcnt := vaultCount_any vn11.vault
          rw [Hix.out.cnt] at hcnt
          have hcg := fun W (KW : Keep NoB w11 W) => get_any (vn11.cnt.keep KW (fun x => x))
          have mk := @run_makeMap Tryz.prog
          have htx := Hix.out.texts
          clear hox K11 vn10 Ib10 Ia10 hB2
          go_wp2_with fail
          refine hcnt.mono ?_
          clear hcnt
          rintro e w12 ⟨rfl, hw12⟩
          subst w12
          rcases hxx with ⟨hnx, rfl⟩ | ⟨her, hnx, rfl⟩
          · have jn : ((nx : Nat) : Int) = (n : Int) + 1 := by omega
            have jw : wrap64 ((n : Int) + 1) = (n : Int) + 1 := by unfold wrap64; omega
            have jq : ((nx : Int) == (n : Int) + 1) = true := by rw [jn]; exact beq_self_eq_true _
            have jq1 : ((nx : Int) == wrap64 ((n : Int) + 1)) = true := by rw [jw, jn]; exact beq_self_eq_true _
            have hnx9 : nx ≤ n + 1 := by omega
            clear jn jw hnx
            go_wp2_with fail
            refine (all_any vn11.vault).mono ?_
            rintro e w13 ⟨gd, cd, rfl, Sd, hgd, K13⟩
            rw [hAT] at Sd
            have heq := equal_any _ _ A A w13 Sd (Ia11.keepN K13).strs (by rw [hA32]; decide) (by rw [hA32]; decide)
            rw [show decide (A = A) = true by simp] at heq
            have vn13 := vn11.keepN K13
            clear Sd vn11 Ia11 Ib11 hgd
            go_wp2_with fail
            refine heq.mono ?_
            clear heq
            rintro e w14 ⟨rfl, K14⟩
            have vn14 := vn13.keepN K14
            have hcg14 := hcg w14 (K13.thenN K14)
            clear vn13 hcg K13 K14
            go_wp2_with fail
            refine hcg14.mono ?_
            clear hcg14
            rintro e w15 ⟨rfl, hw15⟩
            subst w15
            go_wp2_with fail
            clear mk
            have m0 : MapIs (w14.alloc (Obj.map #[] 0)) w14.heap.size 0 [] := World.ownsMap_made _ _ _ _
            have hkey : keyOf Tryz.prog 3 (.int .i64 0) = some (.int .i64 0) := Maps.keyOf_int_mk Tryz.underlying3 (by decide)
            have hval : plainElem (H := Unit) Tryz.prog 9 (.string ⟨#[122]⟩) = some (.lit (.string (⟨#[122]⟩ : ByteArray).data.toList), []) := by simp [plainElem, Tryz.underlying9, maxLen, ByteArray.size]
            obtain ⟨w16, hrun, hm16, hg16⟩ := World.ownsMap.update m0 lawI Tryz.underlying31 (by decide) hkey hval
            rw [oneM_put] at hm16
            have hm16 : MapIs w16 w14.heap.size 1 (oneM ((0 : Nat) : Int) ⟨#[122]⟩) := hm16
            have K16 : Keep NoB w14 w16 := ((Keep.refl _ _).alloc (Obj.map #[] 0)).grown hg16 (fun k hk => .inr (by cases hk; exact Nat.le_refl _))
            have vn16 := vn14.keepN K16
            obtain ⟨mb3, hmb3⟩ : ∃ b, b = w14.heap.size := ⟨_, rfl⟩
            rw [← hmb3] at hm16 hrun ⊢
            rw [hrun]
            simp only [Result.andThen_ok, Oper.upon_skip]
            clear m0 hkey hval hrun hg16 hmb3 K16 vn14
            have htl := tell_vn vn16 rfl Hix.out rfl (by omega) (by decide) R1 hm16 (by decide) (oneM_good _ _ (by decide) (by decide) (by decide))
            go_wp2_with fail
            refine htl.mono ?_
            clear htl
            rintro e w17 ⟨hs17, K17⟩
            obtain ⟨rfl, wv17, hm17, vn17, -⟩ := told_ok hs17
            go_wp2_with fail
            go_ret
            exact ⟨rfl, K1.thenN vn17.keep⟩
          · have jn : ((nx : Nat) : Int) = (n : Int) := by omega
            have jw : wrap64 ((n : Int) + 1) = (n : Int) + 1 := by unfold wrap64; omega
            have jq : ((nx : Int) == (n : Int) + 1) = false := by rw [jn]; exact beq_eq_false_iff_ne.2 (by omega)
            have jq1 : ((nx : Int) == wrap64 ((n : Int) + 1)) = false := by rw [jw, jn]; exact beq_eq_false_iff_ne.2 (by omega)
            have jq2 : ((nx : Int) == (n : Int)) = true := by rw [jn]; exact beq_self_eq_true _
            have hnx9 : nx ≤ n + 1 := by omega
            clear jn jw hnx her
            go_wp2_with fail
            refine (all_any vn11.vault).mono ?_
            rintro e w13 ⟨gd, cd, rfl, Sd, hgd, K13⟩
            have heq := equal_any _ _ p.1.texts p.1.texts w13 Sd (Ib11.keepN K13).strs (by rw [h32]; decide) (by rw [h32]; decide)
            rw [show decide (p.1.texts = p.1.texts) = true by simp] at heq
            have vn13 := vn11.keepN K13
            clear Sd vn11 Ia11 Ib11 hgd hcg
            go_wp2_with fail
            refine heq.mono ?_
            clear heq
            rintro e w14 ⟨rfl, K14⟩
            have vn14 := vn13.keepN K14
            clear vn13 K13 K14
            go_wp2_with fail
            clear mk
            have m0 : MapIs (w14.alloc (Obj.map #[] 0)) w14.heap.size 0 [] := World.ownsMap_made _ _ _ _
            have hkey : keyOf Tryz.prog 3 (.int .i64 0) = some (.int .i64 0) := Maps.keyOf_int_mk Tryz.underlying3 (by decide)
            have hval : plainElem (H := Unit) Tryz.prog 9 (.string ⟨#[122]⟩) = some (.lit (.string (⟨#[122]⟩ : ByteArray).data.toList), []) := by simp [plainElem, Tryz.underlying9, maxLen, ByteArray.size]
            obtain ⟨w16, hrun, hm16, hg16⟩ := World.ownsMap.update m0 lawI Tryz.underlying31 (by decide) hkey hval
            rw [oneM_put] at hm16
            have hm16 : MapIs w16 w14.heap.size 1 (oneM ((0 : Nat) : Int) ⟨#[122]⟩) := hm16
            have K16 : Keep NoB w14 w16 := ((Keep.refl _ _).alloc (Obj.map #[] 0)).grown hg16 (fun k hk => .inr (by cases hk; exact Nat.le_refl _))
            have vn16 := vn14.keepN K16
            obtain ⟨mb3, hmb3⟩ : ∃ b, b = w14.heap.size := ⟨_, rfl⟩
            rw [← hmb3] at hm16 hrun ⊢
            rw [hrun]
            simp only [Result.andThen_ok, Oper.upon_skip]
            clear m0 hkey hval hrun hg16 hmb3 K16 vn14
            have htl := tell_vn vn16 rfl Hix.out rfl (by omega) (by decide) R1 hm16 (by decide) (oneM_good _ _ (by decide) (by decide) (by decide))
            go_wp2_with fail
            refine htl.mono ?_
            clear htl
            rintro e w17 ⟨hs17, K17⟩
            obtain ⟨rfl, wv17, hm17, vn17, -⟩ := told_ok hs17
            go_wp2_with fail
            go_ret
            exact ⟨rfl, K1.thenN vn17.keep⟩
      | false =>
        have hpg := fun W (KW : Keep NoB w1 W) => pages_any (w := W) (Tm1.keep KW (fun _ _ x => x)) (by rw [← Hnm.out]; omega) (fun s hs => by have := hmo.2 s hs; omega) n (by omega)
        obtain ⟨M, hM⟩ : ∃ M, M = pagesIn more n nm := ⟨_, rfl⟩
        have hMp : M.Pairwise (fun p q => p.1 ≠ q.1) := by rw [hM]; exact pagesIn_apart _ _ _
        have hMg : ∀ p ∈ M, badE p = false := by rw [hM]; exact pagesIn_good hmo.2 n nm (by rw [← Hnm.out]; exact Nat.le_refl _)
        rw [← Hnm.out, ← hM] at hpg
        clear hM
        go_wp2_with fail
        refine (hpg _ vn5.keep).mono ?_
        rintro e w6 ⟨rfl, hm6, K6⟩
        obtain ⟨mb, hmb⟩ : ∃ b, b = w5.heap.size := ⟨_, rfl⟩
        have Hmb := Lib.hid hmb
        rw [← hmb] at hm6 ⊢
        have vn6 := vn5.keepN K6
        have Ib6 := Ib5.keepN K6
        have TR6 := TR5.keep K6 (fun x => x)
        have hgam : ga < mb := by rw [hmb]; exact TR5.lt
        clear hmb K6 vn5 Ib5 TR5
        go_wp2_with (first | (at_range; refine wpList_range_map rfl _ rfl rfl hm6 ?_; intro w7 hrg7 K7 hs7))
        go_frame
        have hmlt : mb < w6.heap.size := World.ownsMap.lt hm6
        obtain ⟨ib, hib⟩ : ∃ b, b = w6.heap.size := ⟨_, rfl⟩
        rw [← hib] at hrg7 hmlt ⊢
        have vn7 := vn6.keepN K7
        have Ib7 := Ib6.keepN K7
        have TR7 := TR6.keep K7 (fun x => x)
        have hib7 : ∀ b, VB B D C S wv b → b < ib := fun b hbk => by rw [hib]; exact vn6.lt b hbk
        have hw0 := Nat.le_trans vn6.keep.size (Nat.le_of_eq hib.symm)
        have hwga : w1.heap.size ≤ ga := Nat.le_trans Hw12.out hga
        clear hib hm6 K7 vn6 Ib6 TR6
        go_loopw [] (fun wr => ∃ (left : Lit → Bool) (cnt : Nat) (A : List ByteArray), Hid (Ranging wr mb ib nm M left cnt) ∧ Hid (AfterIs p.1.texts M left A) ∧ Hid (TRow wr ga A) ∧ Hid (Keep (fun b => b = ib ∨ b = ga) w7 wr)) (fun wr => wr.rangeLeft mb ib)
        case atStart => exact ⟨_, _, _, Lib.hid hrg7, Lib.hid (AfterIs.start h32 M), Lib.hid TR7, Lib.hid (Keep.refl _ _)⟩
        case round =>
          clear hrg7
          obtain ⟨left, cnt, A, hrg, hsf, hTR, hK⟩ := hrel
          obtain ⟨wo, rfl⟩ : ∃ wo, wo = wr := ⟨_, rfl⟩
          have hrgo := hrg.out
          go_wp2_with (first | (at_next; refine wpList_next_map rfl _ rfl rfl hrgo ?_ ?_))
          · intro hl0
            have hA := hsf.out.finish hMp hl0
            have hA32 := hsf.out.len
            have hX : ∀ b, VB B D C S wv b → ¬ (b = ib ∨ b = ga) := fun b hbk e => by
              rcases e with e | e
              · have := hib7 b hbk; omega
              · exact hgaV (e ▸ hbk)
            have vno := vn7.out hK.out hX (fun b hbk e => by rcases e with e | e <;> omega)
            have Ibo : Img wo B D C S wv (.slice (some ⟨xg, xo, none⟩) 32 hxc) p.1.texts := ⟨Ib7.strs.keep hK.out (fun b hbk e => by
              cases hbk
              have h1 := Hxga.out
              rcases e with e | e
              · have h2 : xg = ib := e; omega
              · have h2 : xg = ga := e; omega), fun b hbk => ⟨Nat.lt_of_lt_of_le (Ib7.out b hbk).1 hK.out.size, (Ib7.out b hbk).2⟩⟩
            have Iao : Img wo B D C S wv (.slice (some ⟨ga, 0, none⟩) 32 ca) A := ⟨hTR.out.strs ca, fun b hbk => by obtain rfl : ga = b := Option.some.inj hbk; exact ⟨hTR.out.lt, hgaV⟩⟩
            have hAT : (nextV p.1 p.1.now.epoch (pagesOf M (otherE p.1))).texts = A := by
              rw [ep_next, hA]; exact putTexts_of h32 hMp hMg fun i s _ ho => other_false ho
            clear hl0 hrg hsf hTR hK hrgo vn7 Ib7 TR7 hX hib7
            go_wp2_with fail
            refine (hpg _ vno.keep).mono ?_
            clear hpg
            rintro e w8 ⟨rfl, hm8, K8⟩
            obtain ⟨mb2, hmb2⟩ : ∃ b, b = wo.heap.size := ⟨_, rfl⟩
            rw [← hmb2] at hm8 ⊢
            have vn8 := vno.keepN K8
            have Ib8 := Ibo.keepN K8
            have Ia8 := Iao.keepN K8
            clear hmb2 vno Ibo Iao K8
            have htl := tell_vn vn8 rfl Hinv.out rfl (by omega) (by decide) R1 hm8 (by omega) hMg
            have Ib5 := Ib8
            have Ia5 := Ia8
            clear Ib8 Ia8
            go_wp2_with fail
            refine htl.mono ?_
            clear htl hm8
            rintro e w9 ⟨hs9, K9⟩
            obtain ⟨er, wv9, V9, d9, m9, her, rfl, hm9, vn9, hmn9, hdead, hcr⟩ := told_after hs9
            have Ib9 := Ib5.told hm9 K9
            have Ia9 := Ia5.told hm9 K9
            have Hcr := Lib.hid hcr
            clear hs9 K9 hm9 Ib5 Ia5 hcr
            rcases her with rfl | rfl
            · rw [errVal_zero]
              go_wp2_with fail
              obtain ⟨Vx, nx, hix, hox, hxx⟩ := Hcr.out keeps
              obtain ⟨BX, hBX⟩ : ∃ b, b = crashTo d9.sure d9.wait keeps d9.wait.length := ⟨_, rfl⟩
              rw [← hBX] at hix hox
              have hcrash := crash_vn vn9 _ keeps (by rw [Hnk.out] at Kb1; exact Kb1.keep vn9.keep (fun _ _ x => x)) (by rw [← Hnk.out]; omega) (fun h0 b hbk hx => by
                obtain ⟨Bk, ok, hke, -, hkl, -⟩ := Kb1.at h0
                subst hke
                obtain rfl : Bk = b := Option.some.inj hbk
                have := vn9.own Bk (.inl hx)
                omega)
              rw [← Hnk.out, ← hBX] at hcrash
              have Hix := Lib.hid hix
              clear hBX hix Hcr
              refine hcrash.mono ?_
              clear hcrash
              rintro e w10 ⟨rfl, vn10, K10⟩
              have K10' : Keep (VB B D C S wv9) w9 w10 := K10.mono (fun i _ e => .inl e)
              have Ib10 := Ib9.told (crash_moved w9 wv9) K10'
              have Ia10 := Ia9.told (crash_moved w9 wv9) K10'
              clear K10 K10' vn9 Ib9 Ia9
              go_wp2_with fail
              rw [show (⟨#[48, 49, 50, 51, 52, 53, 54, 55, 56, 57, 97, 98, 99, 100, 101, 102]⟩ : ByteArray) = secB from rfl]
              refine (again_vn vn10 rfl (by omega) Hix.out.bsz (by decide) R1 hox).mono ?_
              rintro e w11 ⟨⟨B2, hB2, rfl, vn11⟩, K11⟩
              have Ib11 := Ib10.opened K11 hB2
              have Ia11 := Ia10.opened K11 hB2
              have hcnt := vaultCount_any vn11.vault
              rw [Hix.out.cnt] at hcnt
              have hcg := fun W (KW : Keep NoB w11 W) => get_any (vn11.cnt.keep KW (fun x => x))
              have mk := @run_makeMap Tryz.prog
              have htx := Hix.out.texts
              clear hox K11 vn10 Ib10 Ia10 hB2
              go_wp2_with fail
              refine hcnt.mono ?_
              clear hcnt
              rintro e w12 ⟨rfl, hw12⟩
              subst w12
              rcases hxx with ⟨hnx, rfl⟩ | ⟨her, hnx, rfl⟩
              · have jn : ((nx : Nat) : Int) = (n : Int) + 1 := by omega
                have jw : wrap64 ((n : Int) + 1) = (n : Int) + 1 := by unfold wrap64; omega
                have jq : ((nx : Int) == (n : Int) + 1) = true := by rw [jn]; exact beq_self_eq_true _
                have jq1 : ((nx : Int) == wrap64 ((n : Int) + 1)) = true := by rw [jw, jn]; exact beq_self_eq_true _
                have hnx9 : nx ≤ n + 1 := by omega
                clear jn jw hnx
                go_wp2_with fail
                refine (all_any vn11.vault).mono ?_
                rintro e w13 ⟨gd, cd, rfl, Sd, hgd, K13⟩
                rw [hAT] at Sd
                have heq := equal_any _ _ A A w13 Sd (Ia11.keepN K13).strs (by rw [hA32]; decide) (by rw [hA32]; decide)
                rw [show decide (A = A) = true by simp] at heq
                have vn13 := vn11.keepN K13
                clear Sd vn11 Ia11 Ib11 hgd
                go_wp2_with fail
                refine heq.mono ?_
                clear heq
                rintro e w14 ⟨rfl, K14⟩
                have vn14 := vn13.keepN K14
                have hcg14 := hcg w14 (K13.thenN K14)
                clear vn13 hcg K13 K14
                go_wp2_with fail
                refine hcg14.mono ?_
                clear hcg14
                rintro e w15 ⟨rfl, hw15⟩
                subst w15
                go_wp2_with fail
                clear mk
                have m0 : MapIs (w14.alloc (Obj.map #[] 0)) w14.heap.size 0 [] := World.ownsMap_made _ _ _ _
                have hkey : keyOf Tryz.prog 3 (.int .i64 0) = some (.int .i64 0) := Maps.keyOf_int_mk Tryz.underlying3 (by decide)
                have hval : plainElem (H := Unit) Tryz.prog 9 (.string ⟨#[122]⟩) = some (.lit (.string (⟨#[122]⟩ : ByteArray).data.toList), []) := by simp [plainElem, Tryz.underlying9, maxLen, ByteArray.size]
                obtain ⟨w16, hrun, hm16, hg16⟩ := World.ownsMap.update m0 lawI Tryz.underlying31 (by decide) hkey hval
                rw [oneM_put] at hm16
                have hm16 : MapIs w16 w14.heap.size 1 (oneM ((0 : Nat) : Int) ⟨#[122]⟩) := hm16
                have K16 : Keep NoB w14 w16 := ((Keep.refl _ _).alloc (Obj.map #[] 0)).grown hg16 (fun k hk => .inr (by cases hk; exact Nat.le_refl _))
                have vn16 := vn14.keepN K16
                obtain ⟨mb3, hmb3⟩ : ∃ b, b = w14.heap.size := ⟨_, rfl⟩
                rw [← hmb3] at hm16 hrun ⊢
                rw [hrun]
                simp only [Result.andThen_ok, Oper.upon_skip]
                clear m0 hkey hval hrun hg16 hmb3 K16 vn14
                have htl := tell_vn vn16 rfl Hix.out rfl (by omega) (by decide) R1 hm16 (by decide) (oneM_good _ _ (by decide) (by decide) (by decide))
                go_wp2_with fail
                refine htl.mono ?_
                clear htl
                rintro e w17 ⟨hs17, K17⟩
                obtain ⟨rfl, wv17, hm17, vn17, -⟩ := told_ok hs17
                go_wp2_with fail
                go_ret
                exact ⟨rfl, K1.thenN vn17.keep⟩
              · exact absurd her (by decide)
            · have hdd := hdead rfl
              rw [errVal_one 14 (by decide)]
              go_wp2_with fail
              refine (tell_errno 14 w9 (E1.keep vn9.keep (fun x => x))).mono ?_
              rintro e w9a ⟨rfl, K9a⟩
              have vn9a := vn9.keepN K9a
              have Ib9a := Ib9.keepN K9a
              have Ia9a := Ia9.keepN K9a
              clear K9a vn9 Ib9 Ia9
              go_wp2_with fail
              refine (tellDeadNil_any vn9a.vault hdd).mono ?_
              rintro e w9b ⟨rfl, K9b⟩
              have vn9b := vn9a.keepN K9b
              have Ib9b := Ib9a.keepN K9b
              have Ia9b := Ia9a.keepN K9b
              clear K9b vn9a Ib9a Ia9a
              rw [errVal_one 6 (by decide)]
              go_wp2_with fail
              refine (tell_errno 6 w9b (E1.keep vn9b.keep (fun x => x))).mono ?_
              rintro e w9c ⟨rfl, K9c⟩
              have vn9 := vn9b.keepN K9c
              have Ib9 := Ib9b.keepN K9c
              have Ia9 := Ia9b.keepN K9c
              clear K9c vn9b Ib9b Ia9b
              go_wp2_with fail
              obtain ⟨Vx, nx, hix, hox, hxx⟩ := Hcr.out keeps
              obtain ⟨BX, hBX⟩ : ∃ b, b = crashTo d9.sure d9.wait keeps d9.wait.length := ⟨_, rfl⟩
              rw [← hBX] at hix hox
              have hcrash := crash_vn vn9 _ keeps (by rw [Hnk.out] at Kb1; exact Kb1.keep vn9.keep (fun _ _ x => x)) (by rw [← Hnk.out]; omega) (fun h0 b hbk hx => by
                obtain ⟨Bk, ok, hke, -, hkl, -⟩ := Kb1.at h0
                subst hke
                obtain rfl : Bk = b := Option.some.inj hbk
                have := vn9.own Bk (.inl hx)
                omega)
              rw [← Hnk.out, ← hBX] at hcrash
              have Hix := Lib.hid hix
              clear hBX hix Hcr
              refine hcrash.mono ?_
              clear hcrash
              rintro e w10 ⟨rfl, vn10, K10⟩
              have K10' : Keep (VB B D C S wv9) w9c w10 := K10.mono (fun i _ e => .inl e)
              have Ib10 := Ib9.told (crash_moved w9c wv9) K10'
              have Ia10 := Ia9.told (crash_moved w9c wv9) K10'
              clear K10 K10' vn9 Ib9 Ia9
              go_wp2_with fail
              rw [show (⟨#[48, 49, 50, 51, 52, 53, 54, 55, 56, 57, 97, 98, 99, 100, 101, 102]⟩ : ByteArray) = secB from rfl]
              refine (again_vn vn10 rfl (by omega) Hix.out.bsz (by decide) R1 hox).mono ?_
              rintro e w11 ⟨⟨B2, hB2, rfl, vn11⟩, K11⟩
              have Ib11 := Ib10.opened K11 hB2
              have Ia11 := Ia10.opened K11 hB2
              have hcnt := vaultCount_any vn11.vault
              rw [Hix.out.cnt] at hcnt
              have hcg := fun W (KW : Keep NoB w11 W) => get_any (vn11.cnt.keep KW (fun x => x))
              have mk := @run_makeMap Tryz.prog
              have htx := Hix.out.texts
              clear hox K11 vn10 Ib10 Ia10 hB2
              go_wp2_with fail
              refine hcnt.mono ?_
              clear hcnt
              rintro e w12 ⟨rfl, hw12⟩
              subst w12
              rcases hxx with ⟨hnx, rfl⟩ | ⟨her, hnx, rfl⟩
              · have jn : ((nx : Nat) : Int) = (n : Int) + 1 := by omega
                have jw : wrap64 ((n : Int) + 1) = (n : Int) + 1 := by unfold wrap64; omega
                have jq : ((nx : Int) == (n : Int) + 1) = true := by rw [jn]; exact beq_self_eq_true _
                have jq1 : ((nx : Int) == wrap64 ((n : Int) + 1)) = true := by rw [jw, jn]; exact beq_self_eq_true _
                have hnx9 : nx ≤ n + 1 := by omega
                clear jn jw hnx
                go_wp2_with fail
                refine (all_any vn11.vault).mono ?_
                rintro e w13 ⟨gd, cd, rfl, Sd, hgd, K13⟩
                rw [hAT] at Sd
                have heq := equal_any _ _ A A w13 Sd (Ia11.keepN K13).strs (by rw [hA32]; decide) (by rw [hA32]; decide)
                rw [show decide (A = A) = true by simp] at heq
                have vn13 := vn11.keepN K13
                clear Sd vn11 Ia11 Ib11 hgd
                go_wp2_with fail
                refine heq.mono ?_
                clear heq
                rintro e w14 ⟨rfl, K14⟩
                have vn14 := vn13.keepN K14
                have hcg14 := hcg w14 (K13.thenN K14)
                clear vn13 hcg K13 K14
                go_wp2_with fail
                refine hcg14.mono ?_
                clear hcg14
                rintro e w15 ⟨rfl, hw15⟩
                subst w15
                go_wp2_with fail
                clear mk
                have m0 : MapIs (w14.alloc (Obj.map #[] 0)) w14.heap.size 0 [] := World.ownsMap_made _ _ _ _
                have hkey : keyOf Tryz.prog 3 (.int .i64 0) = some (.int .i64 0) := Maps.keyOf_int_mk Tryz.underlying3 (by decide)
                have hval : plainElem (H := Unit) Tryz.prog 9 (.string ⟨#[122]⟩) = some (.lit (.string (⟨#[122]⟩ : ByteArray).data.toList), []) := by simp [plainElem, Tryz.underlying9, maxLen, ByteArray.size]
                obtain ⟨w16, hrun, hm16, hg16⟩ := World.ownsMap.update m0 lawI Tryz.underlying31 (by decide) hkey hval
                rw [oneM_put] at hm16
                have hm16 : MapIs w16 w14.heap.size 1 (oneM ((0 : Nat) : Int) ⟨#[122]⟩) := hm16
                have K16 : Keep NoB w14 w16 := ((Keep.refl _ _).alloc (Obj.map #[] 0)).grown hg16 (fun k hk => .inr (by cases hk; exact Nat.le_refl _))
                have vn16 := vn14.keepN K16
                obtain ⟨mb3, hmb3⟩ : ∃ b, b = w14.heap.size := ⟨_, rfl⟩
                rw [← hmb3] at hm16 hrun ⊢
                rw [hrun]
                simp only [Result.andThen_ok, Oper.upon_skip]
                clear m0 hkey hval hrun hg16 hmb3 K16 vn14
                have htl := tell_vn vn16 rfl Hix.out rfl (by omega) (by decide) R1 hm16 (by decide) (oneM_good _ _ (by decide) (by decide) (by decide))
                go_wp2_with fail
                refine htl.mono ?_
                clear htl
                rintro e w17 ⟨hs17, K17⟩
                obtain ⟨rfl, wv17, hm17, vn17, -⟩ := told_ok hs17
                go_wp2_with fail
                go_ret
                exact ⟨rfl, K1.thenN vn17.keep⟩
              · have jn : ((nx : Nat) : Int) = (n : Int) := by omega
                have jw : wrap64 ((n : Int) + 1) = (n : Int) + 1 := by unfold wrap64; omega
                have jq : ((nx : Int) == (n : Int) + 1) = false := by rw [jn]; exact beq_eq_false_iff_ne.2 (by omega)
                have jq1 : ((nx : Int) == wrap64 ((n : Int) + 1)) = false := by rw [jw, jn]; exact beq_eq_false_iff_ne.2 (by omega)
                have jq2 : ((nx : Int) == (n : Int)) = true := by rw [jn]; exact beq_self_eq_true _
                have hnx9 : nx ≤ n + 1 := by omega
                clear jn jw hnx her
                go_wp2_with fail
                refine (all_any vn11.vault).mono ?_
                rintro e w13 ⟨gd, cd, rfl, Sd, hgd, K13⟩
                have heq := equal_any _ _ p.1.texts p.1.texts w13 Sd (Ib11.keepN K13).strs (by rw [h32]; decide) (by rw [h32]; decide)
                rw [show decide (p.1.texts = p.1.texts) = true by simp] at heq
                have vn13 := vn11.keepN K13
                clear Sd vn11 Ia11 Ib11 hgd hcg
                go_wp2_with fail
                refine heq.mono ?_
                clear heq
                rintro e w14 ⟨rfl, K14⟩
                have vn14 := vn13.keepN K14
                clear vn13 K13 K14
                go_wp2_with fail
                clear mk
                have m0 : MapIs (w14.alloc (Obj.map #[] 0)) w14.heap.size 0 [] := World.ownsMap_made _ _ _ _
                have hkey : keyOf Tryz.prog 3 (.int .i64 0) = some (.int .i64 0) := Maps.keyOf_int_mk Tryz.underlying3 (by decide)
                have hval : plainElem (H := Unit) Tryz.prog 9 (.string ⟨#[122]⟩) = some (.lit (.string (⟨#[122]⟩ : ByteArray).data.toList), []) := by simp [plainElem, Tryz.underlying9, maxLen, ByteArray.size]
                obtain ⟨w16, hrun, hm16, hg16⟩ := World.ownsMap.update m0 lawI Tryz.underlying31 (by decide) hkey hval
                rw [oneM_put] at hm16
                have hm16 : MapIs w16 w14.heap.size 1 (oneM ((0 : Nat) : Int) ⟨#[122]⟩) := hm16
                have K16 : Keep NoB w14 w16 := ((Keep.refl _ _).alloc (Obj.map #[] 0)).grown hg16 (fun k hk => .inr (by cases hk; exact Nat.le_refl _))
                have vn16 := vn14.keepN K16
                obtain ⟨mb3, hmb3⟩ : ∃ b, b = w14.heap.size := ⟨_, rfl⟩
                rw [← hmb3] at hm16 hrun ⊢
                rw [hrun]
                simp only [Result.andThen_ok, Oper.upon_skip]
                clear m0 hkey hval hrun hg16 hmb3 K16 vn14
                have htl := tell_vn vn16 rfl Hix.out rfl (by omega) (by decide) R1 hm16 (by decide) (oneM_good _ _ (by decide) (by decide) (by decide))
                go_wp2_with fail
                refine htl.mono ?_
                clear htl
                rintro e w17 ⟨hs17, K17⟩
                obtain ⟨rfl, wv17, hm17, vn17, -⟩ := told_ok hs17
                go_wp2_with fail
                go_ret
                exact ⟨rfl, K1.thenN vn17.keep⟩
          · intro x c w8 cnt2 hmem hlk hrg8 hlt8 K8 hs8 hen
            have hgood := hMg _ hmem
            simp only [badE, farE, wideE, Bool.or_eq_false_iff, decide_eq_false_iff_not] at hgood
            obtain ⟨i, rfl⟩ : ∃ i : Nat, x = i := ⟨x.toNat, by omega⟩
            have hi32 : i < 32 := by omega
            have hi32' : (i : Int) < 32 := by omega
            have TR8 := hTR.out.keep K8 (fun e => by have h1 : ga = ib := e; omega)
            obtain ⟨cg, fg⟩ := TR8.cell i hi32
            have hsf8 := hsf.out.step hMp hi32 hmem
            have TR9 := TR8.set i c
            have hrg9 := hrg8.keep (S := OneB ga) ((Keep.refl (OneB ga) w8).set1 i (.string c)) (fun e => by have h1 : mb = ga := e; omega) (fun e => by have h1 : ib = ga := e; omega)
            have K79 : Keep (fun b => b = ib ∨ b = ga) w7 (w8.setCell ⟨ga, i, none⟩ (.string c)) := (hK.out.trans K8 (fun b _ e => .inl e)).trans ((Keep.refl (OneB ga) w8).set1 i (.string c)) (fun b _ e => .inr e)
            have Hrg9 := Lib.hid hrg9
            have Hsf := Lib.hid hsf8
            have HT := Lib.hid TR9
            have HK9 := Lib.hid K79
            have Hlt := Lib.hid (show (w8.setCell ⟨ga, i, none⟩ (.string c)).rangeLeft mb ib < wo.rangeLeft mb ib by rw [hrg9.left_eq, hrgo.left_eq]; exact hlt8)
            clear hrg9 hsf8 TR9 K79 TR8 hrg8 hlt8 hrgo hrg hsf hTR hK hs8 hgood hlk
            go_wp2_with fail
            go_roundw
            case rel => exact ⟨_, _, _, Hrg9, Hsf, HT, HK9⟩
            case measure => exact Hlt.out
end Go.Proofs.YtncdopmjnficmaaGreatDoor
