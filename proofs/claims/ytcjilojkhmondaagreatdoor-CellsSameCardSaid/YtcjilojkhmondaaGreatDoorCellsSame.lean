/-
  DERIVED. CellsSame: the walk.
-/
import Derived.Test.YtcjilojkhmondaaGreatDoorBoth
import Derived.Test.YtcjilojkhmondaaGreatDoorNearKit
import Derived.Test.YtcjilojkhmondaaGreatDoorFoundEq
set_option linter.unusedVariables false
set_option linter.unusedSimpArgs false
namespace Go.Proofs.YtcjilojkhmondaaGreatDoor
open Go.RowKit Go.Cof Go.Sort Go.Shelf
theorem itemsOwn {w w' : World} {base : Nat} {v v0 : Value} {l L : List ItemV} (I : Items w v0 l) (K : Keep NoB w w') (O : OwnsN w' base 42 3 v L.length (L.flatMap encItem)) (hs : ∀ x ∈ L, x ∈ l) : Items w' v L :=
  ⟨RowsK.ofN encItem_len O, fun x hx => (I.nums x (hs x hx)).keep K (fun _ _ x => x)⟩
set_option maxRecDepth 100000 in
set_option maxHeartbeats 8000000 in
theorem cellsSame_any (v va : Value) (l : List ItemV) (at_ : List Int) (k : Int) (tag : ByteArray) (w : World) (I : Items w v l) (N : Nums w va at_) (hl : l.length ≤ maxLen) (ha : at_.length ≤ maxLen) (hg : ErrVar w) :
    Calls Tryz.prog 3 #[v, va, .int .i64 k, .string tag] w fun e w' => e = .returned (.bool true) ∧ Keep NoB w w' := by
  have hh := held_any v l w I hl
  cases hB : heldB l with
  | false =>
    rw [hB] at hh
    clear hB
    go_enter Tryz.func3, Tryz.ntmps3
    go_wp2_with fail
    refine hh.mono ?_
    rintro e w' ⟨rfl, K⟩
    go_wp2_with fail
    go_ret
    exact ⟨rfl, K⟩
  | true =>
  rw [hB] at hh
  have hl65 : l.length ≤ 65 := by
    rw [heldB, Bool.and_eq_true, decide_eq_true_eq] at hB
    exact hB.1
  have hns : ∀ x ∈ l, x.ns.length ≤ 1000000 := by
    intro x hx
    rw [heldB, Bool.and_eq_true, Bool.not_eq_true'] at hB
    have h := hB.2
    rw [List.any_eq_false] at h
    have := h x hx
    simp [wideB] at this
    omega
  clear hB
  obtain ⟨pa, ca, rfl⟩ := N.len
  by_cases h12 : (12 : Int) < at_.length
  · go_enter Tryz.func3, Tryz.ntmps3
    go_wp2_with fail
    refine hh.mono ?_
    rintro e w' ⟨rfl, K⟩
    go_wp2_with fail
    go_ret
    exact ⟨rfl, K⟩
  have d12 : decide ((12 : Int) < at_.length) = false := by simpa using h12
  have ha2 : at_.length ≤ 12 := by omega
  by_cases h40 : (40 : Int) < tag.size
  · go_enter Tryz.func3, Tryz.ntmps3
    go_wp2_with fail
    refine hh.mono ?_
    rintro e w' ⟨rfl, K⟩
    go_wp2_with fail
    go_ret
    exact ⟨rfl, K⟩
  have d40 : decide ((40 : Int) < tag.size) = false := by simpa using h40
  clear h12 h40
  go_enter Tryz.func3, Tryz.ntmps3
  go_wp2_with fail
  refine hh.mono ?_
  rintro e w1 ⟨rfl, K1⟩
  clear hh
  go_wp2_with fail
  refine (found_any w1).mono ?_
  rintro e w2 ⟨rfl, K2⟩
  have K2' := K1.thenN K2
  have I2 : Items w2 v l := ⟨I.rows.keep K2' (fun _ _ x => x), fun x hx => (I.nums x hx).keep K2' (fun _ _ x => x)⟩
  go_wp2_with fail
  refine (keepRight_any v l w2 I2 (by omega) hns).mono ?_
  rintro e w3 ⟨v1, rfl, O3, K3⟩
  have K3' := K2'.thenN K3
  have hok := rightL_ok l
  obtain ⟨L, hL⟩ : ∃ L, L = rightL l := ⟨_, rfl⟩
  rw [← hL] at O3 hok
  have I3 := itemsOwn I2 K3 O3 hok.sub
  have hLl : L.length ≤ 65 := Nat.le_trans hok.len hl65
  have hLns : ∀ x ∈ L, x.ns.length ≤ 1000000 := fun x hx => hns x (hok.sub x hx)
  have hav : ∀ x ∈ L, ∃ p n c, x.av = .slice p n c := fun x hx => by obtain ⟨p, c, h⟩ := (I3.nums x hx).len; exact ⟨p, _, c, h⟩
  have hR : ∀ x ∈ L, numOk x.ns ∧ x.ns.length = 2 := fun x hx => item_ok (hok.ok x hx)
  have N3 := N.keep K3' (fun _ _ x => x)
  obtain ⟨ab, hab⟩ : ∃ ab, ab = askB 2 at_ k := ⟨_, rfl⟩
  obtain ⟨T, hT⟩ : ∃ T, T = askL ab (topV L at_ k tag) := ⟨_, rfl⟩
  have hTl : T.length ≤ 1000000 := by
    rw [hT]
    cases ab with
    | true =>
      show (topV L at_ k tag).length ≤ _
      rw [topV, List.length_take, sortF_len]
      have := foundL_len L at_ tag
      omega
    | false => exact Nat.zero_le _
  have hTr : askL ab (topV L.reverse at_ k tag) = T := by rw [hT, topV_perm L.reverse_perm]
  have hnear := nearTop_both ab 2 v1 L _ at_ k tag hab.symm w3 I3 N3 (by omega) (by omega) hLns
  have hIk := fun w' (K : Keep NoB w3 w') => (⟨I3.rows.keep K (fun _ _ x => x), fun x hx => (I3.nums x hx).keep K (fun _ _ x => x)⟩ : Items w' v1 L)
  have hnew := fun w' (K : Keep NoB w3 w') => newCells_any 2 v1 L w' (hIk w' K) (by omega) (fun x hx => ⟨(hR x hx).1, by have := (hR x hx).2; omega⟩)
  have hct := fun (l2 : List ItemV) (hl2 : l2.Perm L) (C : Nat) (cv : Value) (bs : List (Nat × Value)) (base : Nat) (w' : World) (K : Keep NoB w3 w') (H : CellsAt w' base C 2 cv bs (cellsL l2)) =>
    cellsTop_both ab 2 (by omega) C cv bs l2 (.slice pa at_.length ca) at_ k tag base hab.symm w' H (N3.keep K (fun _ _ x => x)) (fun x hx => (I3.nums x (hl2.mem_iff.1 hx)).keep K (fun _ _ x => x)) (by rw [hl2.length_eq]; omega) (by omega) (fun x hx => hR x (hl2.mem_iff.1 hx))
  have htell := fun w' (K : Keep NoB w3 w') => tell_any (askK ab) w' (hg.keep (K3'.thenN K) (fun x => x))
  obtain ⟨er, her⟩ : ∃ er, er = errVal (askK ab) := ⟨_, rfl⟩
  rw [← hT, ← her] at hnear
  have hct1 := hct L (List.Perm.refl _)
  have hct2 := hct L.reverse L.reverse_perm
  rw [← hT, ← her] at hct1
  rw [hTr, ← her] at hct2
  rw [← her] at htell
  have hbig : ∀ X : List FoundV, X = T → X.length ≤ 1000000 := fun X h => by rw [h]; exact hTl
  have hLf : (L.length : Int) ≤ 65 := by omega
  obtain ⟨nL, hnL⟩ : ∃ n, n = L.length := ⟨_, rfl⟩
  have Hav := Lib.hid hav
  have HO3 := Lib.hid O3
  have Hnear := Lib.hid hnear
  have Hnew := Lib.hid hnew
  have Hct1 := Lib.hid hct1
  have Hct2 := Lib.hid hct2
  have Htell := Lib.hid htell
  have HI3 := Lib.hid I3
  have HLl := Lib.hid hLl
  have HTl := Lib.hid hTl
  have HnL := Lib.hid hnL
  have HR := Lib.hid hR
  obtain ⟨p1, c1, hv1⟩ := I3.rows.len
  subst hv1
  rw [← hnL] at Hnear Hnew HO3 HI3 hLf
  rw [← hnL]
  clear hok hL I2 K2 K2' K3 K1 hav hLns hns O3 hl ha I N hR N3 hnear hIk hnew hct hct1 hct2 htell hab hT hTl hTr her hbig hnL I3 hLl hl65 hg
  go_wp2_with fail
  refine Hnear.out.mono ?_
  rintro e w4 ⟨vN, rfl, R4, K4⟩
  have HR4 := Lib.hid R4
  clear R4
  go_wp2_with fail
  refine (Hnew.out w4 K4).mono ?_
  rintro e w5 ⟨C, cv, bs, rfl, HC, K5⟩
  have K35 := K4.thenN K5
  have Htop := Lib.hid (Hct1.out C cv bs w4.heap.size w5 K35 HC)
  clear HC
  go_wp2_with fail
  refine Htop.out.mono ?_
  rintro e w6 ⟨vC, looked, rfl, R6, hlook, K6⟩
  have K36 := K35.thenN K6
  have HR6 := Lib.hid R6
  have hlk1 : (looked : Int) ≤ nL := by have := HnL.out; omega
  have hlk0 : (0 : Int) ≤ looked := by omega
  clear R6 hlook Htop
  go_wp2_with fail
  refine (Htell.out w6 K36).mono ?_
  rintro e w7 ⟨rfl, K7⟩
  have K37 := K36.thenN K7
  go_wp2_with fail
  refine (Htell.out w7 K37).mono ?_
  rintro e w8 ⟨rfl, K8⟩
  have K38 := K37.thenN K8
  have heq := equalFound_any vN vC T T w8 (HR4.out.keep ((((K5.thenN K6).thenN K7).thenN K8)) (fun _ _ x => x)) (HR6.out.keep (K7.thenN K8) (fun _ _ x => x)) HTl.out HTl.out
  rw [show decide (T = T) = true by simp] at heq
  have Heq := Lib.hid heq
  clear heq
  go_wp2_with fail
  refine Heq.out.mono ?_
  rintro e w9 ⟨rfl, q9, hw9⟩
  have K89 : Keep NoB w8 w9 := by rw [hw9]; exact (Keep.refl _ _).drewN _
  clear hw9
  have K39 := K38.thenN K89
  have O9 := HO3.out.keep K39 (fun _ _ x => x)
  rw [HnL.out] at O9
  have hcl := cloneItem_any _ L w2.heap.size w9 O9 Hav.out (by have := HLl.out; omega)
  rw [← HnL.out] at hcl
  have Hcl := Lib.hid hcl
  clear hcl O9
  go_wp2_with fail
  refine Hcl.out.mono ?_
  rintro e wa ⟨vt, rfl, Oa, Ka⟩
  have K3a := K39.thenN Ka
  rw [HnL.out] at Oa
  have hrv := reverseItem_any vt L w9.heap.size wa Oa Hav.out (by have := HLl.out; omega)
  have Hrv := Lib.hid hrv
  clear hrv
  go_wp2_with fail
  refine Hrv.out.mono ?_
  rintro e wb ⟨rfl, Rb, Kb'⟩
  have Kb : Keep NoB w9 wb := Ka.trans Kb' (fun i hi hs => absurd hi (Nat.not_lt.2 hs))
  have K3b := K39.thenN Kb
  have Ib : Items wb vt L.reverse := ⟨Rb, fun x hx => (HI3.out.nums x (List.mem_reverse.1 hx)).keep K3b (fun _ _ x => x)⟩
  have hnewb := newCells_any 2 vt L.reverse wb Ib (by rw [List.length_reverse]; have := HLl.out; omega) (fun x hx => ⟨(HR.out x (List.mem_reverse.1 hx)).1, by have := (HR.out x (List.mem_reverse.1 hx)).2; omega⟩)
  have Hnewb := Lib.hid hnewb
  clear hnewb Ib Rb Oa
  go_wp2_with fail
  refine Hnewb.out.mono ?_
  rintro e wc ⟨C2, cv2, bs2, rfl, HC2, Kc⟩
  have K3c := K3b.thenN Kc
  have Htop2 := Lib.hid (Hct2.out C2 cv2 bs2 wb.heap.size wc K3c HC2)
  clear HC2
  go_wp2_with fail
  refine Htop2.out.mono ?_
  rintro e wd ⟨vZ, looked2, rfl, Rd, -, Kd⟩
  have K3d := K3c.thenN Kd
  have HRd := Lib.hid Rd
  clear Rd Htop2
  go_wp2_with fail
  refine (Htell.out wd K3d).mono ?_
  rintro e we ⟨rfl, Ke⟩
  have K3e := K3d.thenN Ke
  go_wp2_with fail
  refine (Htell.out we K3e).mono ?_
  rintro e wf ⟨rfl, Kf⟩
  have K3f := K3e.thenN Kf
  have heq2 := equalFound_any vZ vN T T wf (HRd.out.keep (Ke.thenN Kf) (fun _ _ x => x)) (HR4.out.keep (((((((((K5.thenN K6).thenN K7).thenN K8).thenN K89).thenN Kb).thenN Kc).thenN Kd).thenN Ke).thenN Kf) (fun _ _ x => x)) HTl.out HTl.out
  rw [show decide (T = T) = true by simp] at heq2
  have Heq2 := Lib.hid heq2
  clear heq2
  go_wp2_with fail
  refine Heq2.out.mono ?_
  rintro e wg ⟨rfl, qg, rfl⟩
  go_wp2_with fail
  go_ret
  exact ⟨rfl, (K3'.thenN K3f).drewN _⟩
end Go.Proofs.YtcjilojkhmondaaGreatDoor
