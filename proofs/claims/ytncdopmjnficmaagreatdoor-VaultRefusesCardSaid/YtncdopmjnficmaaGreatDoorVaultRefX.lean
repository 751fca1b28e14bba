/-
  DERIVED. The walk of the law VaultRefuses.
-/
import Derived.Test.YtncdopmjnficmaaGreatDoorVKBD
import Derived.Maps.OwnSet
set_option linter.unusedVariables false
set_option linter.unusedSimpArgs false
namespace Go.Proofs.YtncdopmjnficmaaGreatDoor
open Go.RowKit Go.Cof
theorem MapO.lenIs {w : World} {mo : Option Nat} {nm : Nat} {M : List Entry} (h : MapO w mo nm M) (ty : TypeId) : (Builtin.len_ #[31] ty #[.map mo]).run Tryz.prog w = .ok (.int .i64 (M.length : Int)) w := by
  cases mo with
  | none =>
    have h : M = [] := h
    rw [h]
    exact Maps.len_nil Tryz.underlying31 ty
  | some mb =>
    have := World.ownsMap.len h Tryz.underlying31 ty
    rw [this]
    show Result.ok (Value.int .i64 (((M.map encE).length : Nat) : Int)) w = _
    rw [List.length_map]
theorem MapO.small {w : World} {mo : Option Nat} {nm : Nat} {M : List Entry} (h : MapO w mo nm M) : MapO w mo M.length M := by
  cases mo with
  | none => exact h
  | some mb =>
    obtain ⟨es, clock, hb, F, hs, hD⟩ := h
    refine ⟨es, clock, hb, F, ?_, hD⟩
    have h2 : DataW.map (M.map encE) = DataW.map ((es.toList.map (WideElems.rg Tryz.prog 3 (plainElem Tryz.prog 9))).foldr DataW.insert []) := hD
    have h3 := congrArg (fun D => match D with | DataW.map l => l.length | _ => 0) h2
    simp only [List.length_map, length_sorted, Array.length_toList] at h3
    omega
theorem MapO.look0 {w : World} {mo : Option Nat} {nm : Nat} {M : List Entry} (h : MapO w mo nm M) (k : Int) (hk : (Lit.int .i64 k).wf = true) : (Instr.lookup 31 (.map mo) (.int .i64 k) false).run Tryz.prog w = .ok (.string ((getM M k).getD ⟨#[]⟩)) w := by
  have hz : (zeroValue 9).run Tryz.prog w = .ok (.string ⟨#[]⟩) w := zero_text w
  cases mo with
  | none =>
    have h : M = [] := h
    rw [h]
    have h1 := MapKept.run_checkKey (P := Tryz.prog) (w := w) Tryz.underlying3 (k := .int .i64 k) rfl true 9999
    have h2 := MapKept.run_findKey (P := Tryz.prog) (w := w) (k := .int .i64 k) (l := []) (a := none) Tryz.underlying3 rfl
    simp [Instr.lookup, run_underlying Tryz.underlying31, getM, h1, h2, hz]
  | some mb =>
    have hu := Tryz.underlying9
    obtain ⟨v, ps, hrun, hv⟩ := World.ownsMap.lookup h lawI Tryz.underlying31 hz (zd := .lit (.string [])) (zp := []) (by simp [plainElem, hu, show (ByteArray.mk #[]).size ≤ maxLen from by decide]) (key := .int .i64 k) (kl := .int .i64 k) (Maps.keyOf_int_mk Tryz.underlying3 hk)
    obtain ⟨c, rfl, hc⟩ := elem_string hv
    rw [atKey_enc] at hc
    rw [hrun]
    cases hg : getM M k with
    | none =>
      rw [hg] at hc
      have h3 : [] = c.data.toList := by simpa using hc
      have h4 : (⟨#[]⟩ : ByteArray) = c := ByteArray.ext (Array.toList_inj.1 h3)
      rw [← h4]; rfl
    | some s =>
      rw [hg] at hc
      have h3 : s.data.toList = c.data.toList := by simpa using hc
      have h4 : s = c := ByteArray.ext (Array.toList_inj.1 h3)
      rw [← h4]; rfl
/-- What a range over a map has met: anything far, anything wide. -/
structure RefSeen (M : List Entry) (left : Lit → Bool) (far wide : Bool) : Prop where
  far1 : far = true → ∃ p ∈ M, farE p = true
  far0 : far = false → ∀ p ∈ M, left (.int .i64 p.1) = false → farE p = false
  wide1 : wide = true → ∃ p ∈ M, wideE p = true
  wide0 : wide = false → ∀ p ∈ M, left (.int .i64 p.1) = false → wideE p = false
theorem RefSeen.start (M : List Entry) : RefSeen M (Maps.has (encM M)) false false := by
  have hall : ∀ p ∈ M, Maps.has (encM M) (.int .i64 p.1) = true := fun p hp => by
    rw [encM, Maps.has_eq, List.any_eq_true]
    exact ⟨encE p, List.mem_map.2 ⟨p, hp, rfl⟩, decide_eq_true ⟨rfl, rfl⟩⟩
  exact ⟨(fun h => (by cases h)), (fun _ p hp h => (by rw [hall p hp] at h; cases h)), (fun h => (by cases h)), (fun _ p hp h => (by rw [hall p hp] at h; cases h))⟩
theorem RefSeen.step {M : List Entry} {left : Lit → Bool} {far wide : Bool} (h : RefSeen M left far wide) (hp : M.Pairwise (fun p q => p.1 ≠ q.1)) {x : Int} {c : ByteArray} (hm : (x, c) ∈ M) : RefSeen M (fun z => left z && !z.sameKey (.int .i64 x)) (far || farE (x, c)) (wide || wideE (x, c)) := by
  refine ⟨fun hf => ?_, fun hf p hpm hl => ?_, fun hf => ?_, fun hf p hpm hl => ?_⟩
  · cases far with
    | true => exact h.far1 rfl
    | false => exact ⟨_, hm, hf⟩
  · have h2 := Bool.or_eq_false_iff.1 hf
    rcases left_step hp hm hpm hl with h3 | h3
    · exact h.far0 h2.1 p hpm h3
    · rw [h3]; exact h2.2
  · cases wide with
    | true => exact h.wide1 rfl
    | false => exact ⟨_, hm, hf⟩
  · have h2 := Bool.or_eq_false_iff.1 hf
    rcases left_step hp hm hpm hl with h3 | h3
    · exact h.wide0 h2.1 p hpm h3
    · rw [h3]; exact h2.2
set_option maxRecDepth 100000
set_option maxHeartbeats 8000000 in
theorem vaultRefuses_any {w : World} {mo : Option Nat} {nm0 : Nat} {M : List Entry} (hm0 : MapO w mo nm0 M) (id : Int) (hid : (Lit.int .i64 id).wf = true) (R : RoundsVar w) (E : ErrVar w) :
    Calls Tryz.prog 4 #[.map mo, .int .i64 id] w fun e w' => e = .returned (.bool true) ∧ Keep NoB w w' := by
  have hm := hm0.small
  clear hm0
  have hlen := hm.lenIs 3
  obtain ⟨nm, hnm⟩ : ∃ n, n = M.length := ⟨_, rfl⟩
  rw [← hnm] at hm hlen
  have Hnm := Lib.hid hnm
  clear hnm
  by_cases h10 : 10 < nm
  · have j1 : (10 : Int) < (nm : Int) := by omega
    go_enter Tryz.func4, Tryz.ntmps4
    go_wp2_with fail
    go_ret
    exact ⟨rfl, Keep.refl _ _⟩
  have j1 : ¬ (10 : Int) < (nm : Int) := by omega
  have hMp := hm.pairs
  have hmlt := hm.lt
  obtain ⟨ib, hib⟩ : ∃ b, b = w.heap.size := ⟨_, rfl⟩
  rw [← hib] at hmlt
  have Hib := Lib.hid hib
  go_enter Tryz.func4, Tryz.ntmps4
  go_wp2_with (first | (at_range; refine wpList_range_mapO rfl _ rfl rfl hm ?_; intro w1 hrg1' K1 hs1))
  (try go_frame)
  obtain ⟨cnt1, hrg1⟩ := hrg1'
  rw [← hib] at hrg1 ⊢
  clear hib hlen j1
  go_loopw [5, 6] (fun fv wv wr => ∃ (left : Lit → Bool) (cnt : Nat) (far wide : Bool), fv = .bool far ∧ wv = .bool wide ∧ Hid (RangingO wr mo ib nm M left cnt) ∧ Hid (RefSeen M left far wide) ∧ Hid (Keep NoB w wr)) (fun _ _ wr => rangeLeftO wr mo ib)
  case atStart => exact ⟨_, _, false, false, rfl, rfl, Lib.hid hrg1, Lib.hid (RefSeen.start M), Lib.hid K1⟩
  case round =>
    clear hrg1
    obtain ⟨left, cnt, far, wide, rfl, rfl, hrg, hseen, hK⟩ := hrel
    obtain ⟨wo, rfl⟩ : ∃ wo, wo = wr := ⟨_, rfl⟩
    have hrgo := hrg.out
    go_wp2_with (first | (at_next; refine wpList_next_mapO rfl _ rfl rfl hrgo ?_ ?_))
    · intro hl0
      have hs := hseen.out
      have hf0 : far = false → ∀ p ∈ M, farE p = false := fun h p hp => hs.far0 h p hp (hl0 _)
      have hw0 : wide = false → ∀ p ∈ M, wideE p = false := fun h p hp => hs.wide0 h p hp (hl0 _)
      have hf1 := hs.far1
      have hw1 := hs.wide1
      have Ko := hK.out
      have Ro := R.keep Ko (fun x => x)
      have Eo := E.keep Ko (fun x => x)
      have hmo := hm.keep Ko
      clear hs hseen hrg hrgo hK hl0 hm
      go_wp2_with fail
      refine (new_N _).mono ?_
      rintro e w1a ⟨D, S, rfl, h1⟩
      go_wp2_with fail
      have KA : Keep NoB w1a (w1a.alloc (.cells #[.int .i64 0] 43)) := (Keep.refl _ _).alloc _
      have hc : CountAt (w1a.alloc (.cells #[.int .i64 0] 43)) w1a.heap.size 0 := heap_alloc_new w1a _
      have h2 := h1.keepN KA
      obtain ⟨w2, hw2⟩ : ∃ w2, w2 = w1a.alloc (.cells #[.int .i64 0] 43) := ⟨_, rfl⟩
      obtain ⟨C, hC⟩ : ∃ b, b = w1a.heap.size := ⟨_, rfl⟩
      have hC0 : wo.heap.size ≤ C := by rw [hC]; exact h1.keep.size
      rw [← hw2, ← hC] at hc
      rw [← hw2] at h2
      rw [← hw2, ← hC, show (⟨#[48, 49, 50, 51, 52, 53, 54, 55, 56, 57, 97, 98, 99, 100, 101, 102]⟩ : ByteArray) = secB from rfl]
      clear hw2 hC h1 KA
      refine (open_new h2 hc hC0 Ro).mono ?_
      rintro e w3 ⟨⟨B, hB, rfl, vn⟩, K3⟩
      clear h2 hc hC0 K3 hB
      obtain ⟨V, hV⟩ : ∃ V, V = freshV secB := ⟨_, rfl⟩
      rw [← hV] at vn
      have hi : InvV secB V sure0 0 := by rw [hV]; exact inv_fresh secB sure0 List.length_replicate sure0_at
      have hV0 : ∀ i, V.texts.getD i ⟨#[]⟩ = ⟨#[]⟩ := fun i => by
        rw [hV]
        show (List.replicate 32 (⟨#[]⟩ : ByteArray)).getD i ⟨#[]⟩ = _
        rw [List.getD_eq_getElem?_getD, List.getElem?_replicate]
        split <;> rfl
      have hc0 := hi.cnt
      have htl := tellTop_any vn.vault vn.dev vn.cnt (hmo.keep vn.keep) (by omega) (by omega) (by omega) (by simp) (by rw [hi.sec]; decide) hi.m16 (Ro.keep vn.keep (fun x => x)) (vn.rounds Ro)
      have Hi := Lib.hid hi
      have Hc0 := Lib.hid hc0
      clear hi hV hc0
      go_wp2_with fail
      refine htl.mono ?_
      clear htl
      rintro e w4 ⟨hs4, K4⟩
      have KV4 : Keep NoB wo w4 := vn.keep.trans K4 (fun i hi e => by have := vn.own i e; omega)
      have KW4 := Ko.thenN KV4
      have hmW := hmo.keep KV4
      rcases hs4 with ⟨hd, _⟩ | ⟨_, ⟨p, hpm, hbad⟩, hor, vA, hd4, hc4⟩ | hs4
      · rw [Hi.out.alive] at hd; cases hd
      · have hcnt := fun W (KX : Keep NoB w4 W) => vaultCount_any (vA.keep KX (fun x => x))
        rw [show V.now.count = 0 from Hc0.out] at hcnt
        have hgv : ∀ i, i < 32 → V.texts.getD i ⟨#[]⟩ = ⟨#[]⟩ := fun i _ => hV0 i
        have Hor := Lib.hid hor
        clear hor hbad
        rcases Hor.out with ⟨rfl, q, hq, hqf⟩ | ⟨rfl, q, hq, hqf⟩
        · have hft : far = true := by
            cases far with
            | true => rfl
            | false => rw [hf0 rfl q hq] at hqf; cases hqf
          subst hft
          have hb1 := bare_any 2 2 w4 (E.keep KW4 (fun x => x))
          clear hf0 hf1 hw0 hw1 hq hqf Hor
          cases wide <;> (
            go_wp2_with fail
            refine hb1.mono ?_
            rintro e w5 ⟨rfl, K5⟩
            go_wp2_with fail
            refine (hcnt _ K5).mono ?_
            rintro e w6 ⟨rfl, hw6⟩
            subst w6
            have KW := KW4.thenN K5
            replace vA := vA.keep K5 (fun x => x)
            replace hmW := hmW.keep K5
            by_cases hid2 : id < 0 ∨ 32 ≤ id
            · have hg := vaultGet_far (w := w5) (B := B) id hid2
              have hbr := bare_any 2 2 w5 (E.keep KW (fun x => x))
              rcases hid2 with hid2 | hid2
              · have d0 : decide (id < 0) = true := by simpa using hid2
                go_wp2_with fail
                refine hg.mono ?_
                rintro e w8 ⟨rfl, hw8⟩
                subst w8
                go_wp2_with fail
                refine hbr.mono ?_
                rintro e w9 ⟨rfl, K9⟩
                go_wp2_with fail
                go_ret
                exact ⟨rfl, KW.thenN K9⟩
              · have d0 : decide (id < 0) = false := by simp; omega
                have d1 : decide (32 ≤ id) = true := by simpa using hid2
                go_wp2_with fail
                refine hg.mono ?_
                rintro e w8 ⟨rfl, hw8⟩
                subst w8
                go_wp2_with fail
                refine hbr.mono ?_
                rintro e w9 ⟨rfl, K9⟩
                go_wp2_with fail
                go_ret
                exact ⟨rfl, KW.thenN K9⟩
            · have d0 : decide (id < 0) = false := by simp; omega
              have d1 : decide (32 ≤ id) = false := by simp; omega
              obtain ⟨i, rfl⟩ : ∃ i : Nat, id = i := ⟨id.toNat, by omega⟩
              have hg := vaultGet_any vA i (by omega)
              have hlk := hmW.look0 (i : Int) hid
              rw [hgv i (by omega)] at hg
              obtain ⟨t, ht⟩ : ∃ t, t = (getM M (i : Int)).getD ⟨#[]⟩ := ⟨_, rfl⟩
              rw [← ht] at hlk
              clear ht
              go_wp2_with fail
              refine hg.mono ?_
              rintro e w8 ⟨rfl, hw8⟩
              subst w8
              go_wp2_with fail
              go_ret
              exact ⟨rfl, KW⟩
          )
        · have hwt : wide = true := by
            cases wide with
            | true => rfl
            | false => rw [hw0 rfl q hq] at hqf; cases hqf
          subst hwt
          have hb1 := fun W (KX : Keep NoB w4 W) => bare_any 4 2 W (E.keep (KW4.thenN KX) (fun x => x))
          have hb2 := fun W (KX : Keep NoB w4 W) => bare_any 4 4 W (E.keep (KW4.thenN KX) (fun x => x))
          clear hf0 hf1 hw0 hw1 hq hqf Hor
          cases far with
          | true =>
            go_wp2_with fail
            refine (hb1 _ (Keep.refl _ _)).mono ?_
            rintro e w5a ⟨rfl, K5a⟩
            go_wp2_with fail
            refine (hb2 _ K5a).mono ?_
            rintro e w5 ⟨rfl, K5'⟩
            have K5 := K5a.thenN K5'
            go_wp2_with fail
            refine (hcnt _ K5).mono ?_
            rintro e w6 ⟨rfl, hw6⟩
            subst w6
            have KW := KW4.thenN K5
            replace vA := vA.keep K5 (fun x => x)
            replace hmW := hmW.keep K5
            by_cases hid2 : id < 0 ∨ 32 ≤ id
            · have hg := vaultGet_far (w := w5) (B := B) id hid2
              have hbr := bare_any 2 2 w5 (E.keep KW (fun x => x))
              rcases hid2 with hid2 | hid2
              · have d0 : decide (id < 0) = true := by simpa using hid2
                go_wp2_with fail
                refine hg.mono ?_
                rintro e w8 ⟨rfl, hw8⟩
                subst w8
                go_wp2_with fail
                refine hbr.mono ?_
                rintro e w9 ⟨rfl, K9⟩
                go_wp2_with fail
                go_ret
                exact ⟨rfl, KW.thenN K9⟩
              · have d0 : decide (id < 0) = false := by simp; omega
                have d1 : decide (32 ≤ id) = true := by simpa using hid2
                go_wp2_with fail
                refine hg.mono ?_
                rintro e w8 ⟨rfl, hw8⟩
                subst w8
                go_wp2_with fail
                refine hbr.mono ?_
                rintro e w9 ⟨rfl, K9⟩
                go_wp2_with fail
                go_ret
                exact ⟨rfl, KW.thenN K9⟩
            · have d0 : decide (id < 0) = false := by simp; omega
              have d1 : decide (32 ≤ id) = false := by simp; omega
              obtain ⟨i, rfl⟩ : ∃ i : Nat, id = i := ⟨id.toNat, by omega⟩
              have hg := vaultGet_any vA i (by omega)
              have hlk := hmW.look0 (i : Int) hid
              rw [hgv i (by omega)] at hg
              obtain ⟨t, ht⟩ : ∃ t, t = (getM M (i : Int)).getD ⟨#[]⟩ := ⟨_, rfl⟩
              rw [← ht] at hlk
              clear ht
              go_wp2_with fail
              refine hg.mono ?_
              rintro e w8 ⟨rfl, hw8⟩
              subst w8
              go_wp2_with fail
              go_ret
              exact ⟨rfl, KW⟩
          | false =>
            go_wp2_with fail
            refine (hb2 _ (Keep.refl _ _)).mono ?_
            rintro e w5 ⟨rfl, K5⟩
            go_wp2_with fail
            refine (hcnt _ K5).mono ?_
            rintro e w6 ⟨rfl, hw6⟩
            subst w6
            have KW := KW4.thenN K5
            replace vA := vA.keep K5 (fun x => x)
            replace hmW := hmW.keep K5
            by_cases hid2 : id < 0 ∨ 32 ≤ id
            · have hg := vaultGet_far (w := w5) (B := B) id hid2
              have hbr := bare_any 2 2 w5 (E.keep KW (fun x => x))
              rcases hid2 with hid2 | hid2
              · have d0 : decide (id < 0) = true := by simpa using hid2
                go_wp2_with fail
                refine hg.mono ?_
                rintro e w8 ⟨rfl, hw8⟩
                subst w8
                go_wp2_with fail
                refine hbr.mono ?_
                rintro e w9 ⟨rfl, K9⟩
                go_wp2_with fail
                go_ret
                exact ⟨rfl, KW.thenN K9⟩
              · have d0 : decide (id < 0) = false := by simp; omega
                have d1 : decide (32 ≤ id) = true := by simpa using hid2
                go_wp2_with fail
                refine hg.mono ?_
                rintro e w8 ⟨rfl, hw8⟩
                subst w8
                go_wp2_with fail
                refine hbr.mono ?_
                rintro e w9 ⟨rfl, K9⟩
                go_wp2_with fail
                go_ret
                exact ⟨rfl, KW.thenN K9⟩
            · have d0 : decide (id < 0) = false := by simp; omega
              have d1 : decide (32 ≤ id) = false := by simp; omega
              obtain ⟨i, rfl⟩ : ∃ i : Nat, id = i := ⟨id.toNat, by omega⟩
              have hg := vaultGet_any vA i (by omega)
              have hlk := hmW.look0 (i : Int) hid
              rw [hgv i (by omega)] at hg
              obtain ⟨t, ht⟩ : ∃ t, t = (getM M (i : Int)).getD ⟨#[]⟩ := ⟨_, rfl⟩
              rw [← ht] at hlk
              clear ht
              go_wp2_with fail
              refine hg.mono ?_
              rintro e w8 ⟨rfl, hw8⟩
              subst w8
              go_wp2_with fail
              go_ret
              exact ⟨rfl, KW⟩
      · have hall := hs4.2.1
        have hff : far = false := by
          cases far with
          | false => rfl
          | true =>
            obtain ⟨q, hq, hqf⟩ := hf1 rfl
            have := hall q hq
            rw [badE, hqf] at this; cases this
        have hwf : wide = false := by
          cases wide with
          | false => rfl
          | true =>
            obtain ⟨q, hq, hqf⟩ := hw1 rfl
            have := hall q hq
            rw [badE, hqf, Bool.or_true] at this; cases this
        subst hff
        subst hwf
        obtain ⟨rfl, wv4, hm4, vn4, hi4⟩ := told_ok (told_of vn (n := 0) rfl Hi.out rfl (by decide) hMp hall (.inl rfl) (.inr (.inr hs4)) K4)
        have hcnt := vaultCount_any vn4.vault
        rw [hi4.cnt] at hcnt
        have vA := vn4.vault
        have hgv : ∀ i, i < 32 → (nextV V V.now.epoch (pagesOf M (otherE V))).texts.getD i ⟨#[]⟩ = (getM M (i : Int)).getD ⟨#[]⟩ := fun i hi => by
          show (putTexts V.texts (pagesOf M (otherE V))).getD i ⟨#[]⟩ = _
          rw [putTexts_of Hi.out.texts hMp hall (fun i s _ ho => other_false ho), textsOf_at _ _ i hi, hV0 i]
        clear hf0 hf1 hw0 hw1 hall hs4
        have KW := KW4
        go_wp2_with fail
        refine hcnt.mono ?_
        rintro e w6 ⟨rfl, hw6⟩
        subst w6
        by_cases hid2 : id < 0 ∨ 32 ≤ id
        · have hg := vaultGet_far (w := w4) (B := B) id hid2
          have hbr := bare_any 2 2 w4 (E.keep KW (fun x => x))
          rcases hid2 with hid2 | hid2
          · have d0 : decide (id < 0) = true := by simpa using hid2
            go_wp2_with fail
            refine hg.mono ?_
            rintro e w8 ⟨rfl, hw8⟩
            subst w8
            go_wp2_with fail
            refine hbr.mono ?_
            rintro e w9 ⟨rfl, K9⟩
            go_wp2_with fail
            go_ret
            exact ⟨rfl, KW.thenN K9⟩
          · have d0 : decide (id < 0) = false := by simp; omega
            have d1 : decide (32 ≤ id) = true := by simpa using hid2
            go_wp2_with fail
            refine hg.mono ?_
            rintro e w8 ⟨rfl, hw8⟩
            subst w8
            go_wp2_with fail
            refine hbr.mono ?_
            rintro e w9 ⟨rfl, K9⟩
            go_wp2_with fail
            go_ret
            exact ⟨rfl, KW.thenN K9⟩
        · have d0 : decide (id < 0) = false := by simp; omega
          have d1 : decide (32 ≤ id) = false := by simp; omega
          obtain ⟨i, rfl⟩ : ∃ i : Nat, id = i := ⟨id.toNat, by omega⟩
          have hg := vaultGet_any vA i (by omega)
          have hlk := hmW.look0 (i : Int) hid
          rw [hgv i (by omega)] at hg
          obtain ⟨t, ht⟩ : ∃ t, t = (getM M (i : Int)).getD ⟨#[]⟩ := ⟨_, rfl⟩
          rw [← ht] at hlk hg
          clear ht
          go_wp2_with fail
          refine hg.mono ?_
          rintro e w8 ⟨rfl, hw8⟩
          subst w8
          go_wp2_with fail
          go_ret
          exact ⟨rfl, KW⟩
    · intro x c w2 cnt2 hmem hlk hrg2 hlt2 K2 hs2 hen
      have hseen2 := hseen.out.step hMp hmem
      have K02 : Keep NoB w w2 := hK.out.trans K2 (fun i hi e => by have h1 : i = ib := e; have := Hib.out; omega)
      obtain ⟨q1, hq1⟩ : ∃ q, q = farE (x, c) := ⟨_, rfl⟩
      obtain ⟨q2, hq2⟩ : ∃ q, q = wideE (x, c) := ⟨_, rfl⟩
      rw [← hq1, ← hq2] at hseen2
      have Hs := Lib.hid hseen2
      have Hrg2 := Lib.hid hrg2
      have Hlt := Lib.hid (show rangeLeftO w2 mo ib < rangeLeftO wo mo ib by rw [hrg2.left_eq, hrgo.left_eq]; exact hlt2)
      have HK2 := Lib.hid K02
      clear hseen2 hrg2 hlt2 hrgo hrg hseen hK K2 hs2
      by_cases h300 : 300 < c.size
      · have j3 : (300 : Int) < (c.size : Int) := by omega
        clear hq1 hq2
        go_wp2_with fail
        go_ret
        exact ⟨rfl, HK2.out⟩
      · have j3 : ¬ (300 : Int) < (c.size : Int) := by omega
        have hx : ∃ b0 b1 : Bool, decide (x < 0) = b0 ∧ decide (32 ≤ x) = b1 ∧ q1 = (b0 || b1) := ⟨_, _, rfl, rfl, hq1⟩
        have hc : decide ((200 : Int) < (c.size : Int)) = q2 := by rw [hq2]; show _ = decide (200 < c.size); congr 1; apply propext; omega
        clear hq1 hq2
        obtain ⟨b0, b1, d0, d1, rfl⟩ := hx
        cases far <;> cases wide <;> cases b0 <;> cases b1 <;> cases q2 <;> (go_wp2_with fail; go_roundw; (case rel => exact ⟨_, _, _, _, rfl, rfl, Hrg2, Hs, HK2⟩); (case measure => exact Hlt.out))
end Go.Proofs.YtncdopmjnficmaaGreatDoor
