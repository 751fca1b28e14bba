/-
  DERIVED. The reference's in, coords, RightAsk, Name, Right, Far, ahead.
-/
import Derived.Test.YtcjilojkhmondaaDoorCellsP
import Derived.Test.YtcjilojkhmondaaDoorRight
import Derived.Deep.RegionWith
set_option linter.unusedVariables false
set_option linter.unusedSimpArgs false
namespace Go.Proofs.YtcjilojkhmondaaDoor
open Go.RowKit Go.Cof Go.Sort Go.Shelf
theorem inR_any (n lo hi : Int) (w : World) : Calls Tryd.prog 54 #[.int .i64 n, .int .i64 lo, .int .i64 hi] w fun e w' => e = .returned (.bool (decide (lo ≤ n) && decide (n ≤ hi))) ∧ w' = w := by
  by_cases h1 : lo ≤ n
  · have d1 : decide (lo ≤ n) = true := by simp [h1]
    rw [d1, Bool.true_and]
    obtain ⟨B, hB⟩ : ∃ B, B = decide (n ≤ hi) := ⟨_, rfl⟩
    rw [← hB]
    have hB' := hB.symm
    clear hB
    go_enter Tryd.func54, Tryd.ntmps54
    go_wp2
    go_ret
    exact ⟨by simp [hB'], rfl⟩
  · have h2 : decide (lo ≤ n) = false := by simp; omega
    rw [h2, Bool.false_and]
    clear h1
    go_enter Tryd.func54, Tryd.ntmps54
    go_wp2
    go_ret
    exact ⟨rfl, rfl⟩
theorem coords_any (v : Value) (l : List Int) (w : World) (N : Nums w v l) (hl : l.length ≤ 1000000) : Calls Tryd.prog 53 #[v] w fun e w' => e = .returned (.bool (!l.any farB)) ∧ w' = w := by
  obtain ⟨p, c, rfl⟩ := N.len
  obtain ⟨n, hn⟩ : ∃ n, n = l.length := ⟨_, rfl⟩
  rw [← hn] at N hl ⊢
  have Hn := Lib.hid hn
  have HN := Lib.hid N
  clear hn N
  go_enter Tryd.func53, Tryd.ntmps53
  go_wp2_with fail
  go_loopw [7] (fun iv wr => ∃ i : Nat, i ≤ n ∧ iv = .int .i64 i ∧ Hid (∀ j, j < i → farB (l.getD j 0) = false) ∧ wr = w) (fun iv _ => n - (intOf iv).toNat)
  case atStart => exact ⟨0, by omega, rfl, Lib.hid (fun j h => by omega), rfl⟩
  case round =>
    obtain ⟨i, hi, rfl, hno, rfl⟩ := hrel
    by_cases hlt : i < n
    · have i1 : (i : Int) < n := by omega
      obtain ⟨b, o, rfl, -, hb, hc⟩ := HN.out.at (by have := Hn.out; omega)
      have ci := hc i (by have := Hn.out; omega)
      obtain ⟨x, hx⟩ : ∃ x, x = l.getD i 0 := ⟨_, rfl⟩
      rw [← hx] at ci
      have Hx := Lib.hid hx
      have hin := fun w => inR_any x (-1000) 1000 w
      obtain ⟨B, hB⟩ : ∃ B, B = (decide (-1000 ≤ x) && decide (x ≤ 1000)) := ⟨_, rfl⟩
      rw [← hB] at hin
      have hBf : farB x = !B := by rw [hB, farB]; by_cases h1 : -1000 ≤ x <;> by_cases h2 : x ≤ 1000 <;> simp [h1, h2] <;> omega
      have Hin := Lib.hid hin
      have HBf := Lib.hid hBf
      clear hc hx hB hBf hin
      cases B with
      | true =>
        go_wp2_with fail
        refine (Hin.out _).mono ?_
        rintro e w1 ⟨rfl, rfl⟩
        go_wp2_with fail
        refine ⟨⟨i + 1, by omega, by go_num, Lib.hid (fun j hj => ?_), by first | rfl | trivial⟩, by simp [intOf]; omega⟩
        by_cases e : j = i
        · rw [e, ← Hx.out, HBf.out]; rfl
        · exact hno.out j (by omega)
      | false =>
        go_wp2_with fail
        refine (Hin.out _).mono ?_
        rintro e w1 ⟨rfl, rfl⟩
        go_wp2_with fail
        go_ret
        refine ⟨?_, rfl⟩
        have : l.any farB = true := List.any_eq_true.2 ⟨x, by
          rw [Hx.out, List.getD_eq_getElem?_getD, List.getElem?_eq_getElem (by have := Hn.out; omega)]
          exact List.getElem_mem _, by rw [HBf.out]; rfl⟩
        rw [this]; rfl
    · obtain rfl : i = n := by omega
      go_wp2_with fail
      go_ret
      refine ⟨?_, rfl⟩
      have : l.any farB = false := by
        rw [List.any_eq_false]
        intro x hx
        obtain ⟨j, hj, rfl⟩ := List.getElem_of_mem hx
        have := hno.out j (by rw [Hn.out]; exact hj)
        rw [List.getD_eq_getElem?_getD, List.getElem?_eq_getElem hj] at this
        simpa using this
      rw [this]; rfl
theorem rightAsk_any (dim : Int) (v : Value) (l : List Int) (k : Int) (w : World) (N : Nums w v l) (hl : l.length ≤ 1000000) : Calls Tryd.prog 28 #[.int .i64 dim, v, .int .i64 k] w fun e w' => e = .returned (.bool (askB dim l k)) ∧ w' = w := by
  have hc := coords_any v l w N hl
  have hin := fun w => inR_any k 1 60 w
  obtain ⟨a, c, rfl⟩ := N.len
  by_cases hd : (l.length : Int) = dim
  · have hd2 : ((l.length : Int) == dim) = true := by simpa using hd
    cases hb : l.any farB with
    | true =>
      have hr : askB dim l k = false := by simp [askB, hb]
      rw [hr]
      rw [hb] at hc
      have Hd := Lib.hid hd
      clear hd hb hr
      go_enter Tryd.func28, Tryd.ntmps28
      go_wp2_with fail
      refine hc.mono ?_
      rintro e w' ⟨rfl, hw⟩
      subst w'
      go_wp2_with fail
      go_ret
      exact ⟨rfl, rfl⟩
    | false =>
      have hr : askB dim l k = (decide (1 ≤ k) && decide (k ≤ 60)) := by simp [askB, hb, hd]
      rw [hr]
      rw [hb] at hc
      obtain ⟨B, hB⟩ : ∃ B, B = (decide (1 ≤ k) && decide (k ≤ 60)) := ⟨_, rfl⟩
      rw [← hB] at hin ⊢
      have Hd := Lib.hid hd
      clear hd hb hr hB
      go_enter Tryd.func28, Tryd.ntmps28
      go_wp2_with fail
      refine hc.mono ?_
      rintro e w' ⟨rfl, hw⟩
      subst w'
      go_wp2_with fail
      refine (hin _).mono ?_
      rintro e w' ⟨rfl, hw⟩
      subst w'
      go_wp2_with fail
      go_ret
      exact ⟨rfl, rfl⟩
  · have hr : askB dim l k = false := by simp [askB, hd]
    rw [hr]
    have hd2 : ((l.length : Int) == dim) = false := by simpa using hd
    clear hd hr hc
    go_enter Tryd.func28, Tryd.ntmps28
    go_wp2_with fail
    go_ret
    exact ⟨rfl, rfl⟩
theorem farRef_any (va vb : Value) (a b : List Int) (w : World) (A : Nums w va a) (B : Nums w vb b) (ha : a.length ≤ 1000000) (hb : b.length ≤ 1000000) :
    Calls Tryd.prog 33 #[va, vb] w fun e w' => e = .returned (.int .i64 (farW a b)) ∧ ∃ q, w' = w.drewN q := by
  obtain ⟨pa, ca, rfl⟩ := A.len
  obtain ⟨pb, cb, rfl⟩ := B.len
  obtain ⟨na, hna⟩ : ∃ n, n = a.length := ⟨_, rfl⟩
  obtain ⟨nb, hnb⟩ : ∃ n, n = b.length := ⟨_, rfl⟩
  rw [← hna] at A ha
  rw [← hnb] at B hb
  rw [← hna, ← hnb]
  have Hna := Lib.hid hna
  have Hnb := Lib.hid hnb
  have HA := Lib.hid A
  have HB := Lib.hid B
  clear hna hnb A B
  go_enter Tryd.func33, Tryd.ntmps33
  go_wp2_with fail
  go_loopw [5, 10] (fun nv iv wr => ∃ i : Nat, i ≤ na ∧ iv = .int .i64 i ∧ nv = .int .i64 (farK a b i) ∧ ∃ q, wr = w.drewN q) (fun _ iv _ => na - (intOf iv).toNat)
  case atStart => exact ⟨0, by omega, rfl, by rw [farK_zero], 0, rfl⟩
  case round =>
    obtain ⟨i, hi, rfl, rfl, q, rfl⟩ := hrel
    by_cases hlt : i < na
    · have i1 : (i : Int) < na := by omega
      by_cases hltb : i < nb
      · have i2 : (i : Int) < nb := by omega
        obtain ⟨bA, oA, rfl, -, hbA, hcA⟩ := HA.out.at (by have := Hna.out; omega)
        obtain ⟨bB, oB, rfl, -, hbB, hcB⟩ := HB.out.at (by have := Hnb.out; omega)
        have cA := hcA i (by have := Hna.out; omega)
        have cB := hcB i (by have := Hnb.out; omega)
        have hs := farK_succ a b i (by have := Hna.out; omega) (by have := Hnb.out; omega)
        obtain ⟨x, hx⟩ : ∃ x, x = a.getD i 0 := ⟨_, rfl⟩
        obtain ⟨y, hy⟩ : ∃ y, y = b.getD i 0 := ⟨_, rfl⟩
        obtain ⟨f, hf⟩ : ∃ f, f = farK a b i := ⟨_, rfl⟩
        rw [← hx] at cA hs
        rw [← hy] at cB hs
        rw [← hf] at hs ⊢
        have Hs := Lib.hid hs
        clear hcA hcB hx hy hf hs
        go_wp2_with fail
        go_quiet (fail)
        go_wp2_with fail
        exact ⟨⟨i + 1, by omega, by go_num, by rw [Hs.out]; rfl, _, rfl⟩, by simp [intOf]; omega⟩
      · have i2 : ¬ ((i : Int) < nb) := by omega
        have e1 : farK a b (i + 1) = farK a b i := by
          rw [farK_all a b (i + 1) (by have := Hnb.out; omega), farK_all a b i (by have := Hnb.out; omega)]
        have E1 := Lib.hid e1
        clear e1
        go_wp2_with fail
        exact ⟨⟨i + 1, by omega, by go_num, by rw [E1.out], _, rfl⟩, by simp [intOf]; omega⟩
    · obtain rfl : i = na := by omega
      have e1 := farK_all a b i (by have := Hna.out; omega)
      have E1 := Lib.hid e1
      clear e1
      go_wp2_with fail
      go_ret
      exact ⟨by first | rfl | (rw [E1.out]; rfl), _, rfl⟩
def aheadB (x y : FoundV) : Bool := decide (x.2 < y.2) || (decide (x.2 = y.2) && Op.bytesLess x.1.toList y.1.toList)
theorem aheadB_iff (x y : FoundV) : aheadB x y = true ↔ ltF x y := by
  simp only [aheadB, ltF, Bool.or_eq_true, Bool.and_eq_true, decide_eq_true_eq]
  rw [← cmpS_neg, cmpS]
  constructor
  · rintro (h | ⟨h1, h2⟩)
    · exact .inl h
    · exact .inr ⟨h1, by rw [if_pos h2]; decide⟩
  · rintro (h | ⟨h1, h2⟩)
    · exact .inl h
    · refine .inr ⟨h1, ?_⟩
      split at h2
      · assumption
      · split at h2 <;> omega
theorem ahead_any (x y : FoundV) (w : World) : Calls Tryd.prog 56 #[.agg (encF x).toArray, .agg (encF y).toArray] w fun e w' => e = .returned (.bool (aheadB x y)) ∧ Keep NoB w w' := by
  obtain ⟨xn, xd⟩ := x
  obtain ⟨yn, yd⟩ := y
  have K : Keep NoB w ((w.alloc (.cells #[.string xn, .int .i64 xd] 43)).alloc (.cells #[.string yn, .int .i64 yd] 43)) := ((Keep.refl _ _).alloc _).alloc _
  by_cases h1 : xd < yd
  · have hr : aheadB (xn, xd) (yn, yd) = true := by simp [aheadB, h1]
    rw [hr]
    clear hr
    show Calls _ _ #[.agg #[.string xn, .int .i64 xd], .agg #[.string yn, .int .i64 yd]] _ _
    go_enter Tryd.func56, Tryd.ntmps56
    go_wp2_with fail
    go_ret
    exact ⟨rfl, K⟩
  · by_cases h2 : xd = yd
    · subst h2
      obtain ⟨B, hB⟩ : ∃ B, B = Op.bytesLess xn.toList yn.toList := ⟨_, rfl⟩
      have hr : aheadB (xn, xd) (yn, xd) = B := by rw [hB]; simp [aheadB]
      rw [hr]
      have hB' := hB.symm
      clear hr hB
      show Calls _ _ #[.agg #[.string xn, .int .i64 xd], .agg #[.string yn, .int .i64 xd]] _ _
      go_enter Tryd.func56, Tryd.ntmps56
      go_wp2_with fail
      go_ret
      exact ⟨by simp [hB'], K⟩
    · have hr : aheadB (xn, xd) (yn, yd) = false := by simp [aheadB, h1, h2]
      have h3 : (xd == yd) = false := by simpa using h2
      rw [hr]
      clear hr
      show Calls _ _ #[.agg #[.string xn, .int .i64 xd], .agg #[.string yn, .int .i64 yd]] _ _
      go_enter Tryd.func56, Tryd.ntmps56
      go_wp2_with fail
      go_ret
      exact ⟨rfl, K⟩
def IsBool (e : Ending) : Prop := ∃ b : Bool, e = .returned (.bool b)
/-- Whatever the text is, it is told. -/
theorem nameR_some (s : ByteArray) (hs : s.size ≤ 1000000) (w : World) : Calls Tryd.prog 83 #[.string s] w fun e w' => IsBool e ∧ w' = w := by
  obtain ⟨n, hn⟩ : ∃ n, n = s.size := ⟨_, rfl⟩
  have hin := fun w => inR_any s.size 1 10 w
  rw [← hn] at hs
  obtain ⟨B, hB⟩ : ∃ B, B = (decide (1 ≤ (s.size : Int)) && decide ((s.size : Int) ≤ 10)) := ⟨_, rfl⟩
  rw [← hB] at hin
  have Hin := Lib.hid hin
  have Hn := Lib.hid hn
  clear hB hin
  go_enter Tryd.func83, Tryd.ntmps83
  go_wp2_with fail
  go_loopw [7] (fun iv wr => ∃ i : Nat, i ≤ s.size ∧ iv = .int .i64 i ∧ wr = w) (fun iv _ => s.size - (intOf iv).toNat)
  case atStart => exact ⟨0, by omega, rfl, rfl⟩
  case round =>
    obtain ⟨i, hi, rfl, rfl⟩ := hrel
    by_cases hlt : i < s.size
    · have i1 : (i : Int) < s.size := by omega
      go_wp2_with fail
      all_goals first | (go_ret; exact ⟨⟨_, rfl⟩, by first | rfl | trivial⟩) | exact ⟨⟨i + 1, by omega, by go_num, by first | rfl | trivial⟩, by simp [intOf]; omega⟩ | exact ⟨⟨1, by omega, by go_num, by first | rfl | trivial⟩, by simp [intOf]; omega⟩
    · obtain rfl : i = s.size := by omega
      go_wp2_with fail
      refine (Hin.out _).mono ?_
      rintro e w' ⟨rfl, hw⟩
      subst w'
      go_wp2_with fail
      go_ret
      exact ⟨⟨B, rfl⟩, rfl⟩
/-- What holds of an item that may be. -/
structure ROk (x : ItemV) (dim : Int) : Prop where
  lo : 1 ≤ dim
  hi : dim ≤ 8
  len : (x.ns.length : Int) = dim
  num : numOk x.ns
theorem numOk_of {l : List Int} (h : l.any farB = false) : numOk l := by
  intro n hn
  rw [List.any_eq_false] at h
  have := h n hn
  simp only [farB, Bool.or_eq_true, decide_eq_true_eq, not_or] at this
  omega
def RTold (x : ItemV) (dim : Int) (e : Ending) : Prop := ∃ b : Bool, e = .returned (.bool b) ∧ (b = true → ROk x dim)
set_option maxHeartbeats 2000000 in
theorem rightR_any (x : ItemV) (dim : Int) (w : World) (N : Nums w x.av x.ns) (hl : x.ns.length ≤ 1000000) (h1 : x.name.size ≤ 1000000) (h2 : x.tag.size ≤ 1000000) :
    Calls Tryd.prog 55 #[.agg (encItem x).toArray, .int .i64 dim] w fun e w' => RTold x dim e ∧ Keep NoB w w' := by
  have hn1 := fun w => nameR_some x.name h1 w
  have hn2 := fun w => nameR_some x.tag h2 w
  have hin := fun w => inR_any dim 1 8 w
  have hco := fun (w' : World) (K : Keep NoB w w') => coords_any x.av x.ns w' (N.keep K (fun _ _ x => x)) hl
  obtain ⟨p, c, hv⟩ := N.len
  obtain ⟨n, hn⟩ : ∃ n, n = x.ns.length := ⟨_, rfl⟩
  obtain ⟨B, hB⟩ : ∃ B, B = (decide (1 ≤ dim) && decide (dim ≤ 8)) := ⟨_, rfl⟩
  obtain ⟨B2, hB2⟩ : ∃ B, B = !x.ns.any farB := ⟨_, rfl⟩
  rw [← hB] at hin
  rw [← hn] at hv
  simp only [← hB2, hv] at hco
  have hfin : B = true → B2 = true → (n : Int) = dim → ROk x dim := by
    intro e1 e2 e3
    rw [e1] at hB
    have hB3 := hB.symm
    simp only [Bool.and_eq_true, decide_eq_true_eq] at hB3
    rw [e2] at hB2
    exact ⟨hB3.1, hB3.2, by rw [← hn]; exact e3, numOk_of (by simpa using hB2.symm)⟩
  have henc : (encItem x).toArray = #[.string x.name, .string x.tag, .slice p n c] := by rw [encItem, hv]
  rw [henc]
  have HI := Lib.hid hin
  have H1 := Lib.hid hn1
  have H2 := Lib.hid hn2
  have HC := Lib.hid hco
  have HFa : Hid (∀ e, e = Ending.returned (.bool false) → RTold x dim e) := Lib.hid (fun e he => ⟨false, he, fun h => by cases h⟩)
  have HTr : Hid (B2 = true → B = true → (n : Int) = dim → ∀ e, e = Ending.returned (.bool B2) → RTold x dim e) := Lib.hid (fun e2 e1 e3 e he => ⟨B2, he, fun _ => hfin e1 e2 e3⟩)
  obtain ⟨nm, hnm⟩ : ∃ nm, nm = x.name := ⟨_, rfl⟩
  obtain ⟨tg, htg⟩ : ∃ tg, tg = x.tag := ⟨_, rfl⟩
  rw [← hnm] at H1 ⊢
  rw [← htg] at H2 ⊢
  have K0 : Keep NoB w (w.alloc (.cells #[.string nm, .string tg, .slice p n c] 34)) := (Keep.refl _ _).alloc _
  clear hfin hin hn1 hn2 hco hB hB2 N hl h1 h2 henc hv hn hnm htg
  by_cases hd : (n : Int) = dim
  · have hd2 : ((n : Int) == dim) = true := by simpa using hd
    have Hd := Lib.hid hd
    clear hd
    go_enter Tryd.func55, Tryd.ntmps55
    go_wp2_with fail
    refine (H1.out _).mono ?_
    rintro e w1 ⟨⟨b1, rfl⟩, hw1⟩
    subst w1
    cases b1 <;> go_wp2_with fail
    all_goals try (go_ret; exact ⟨HFa.out _ rfl, K0⟩)
    all_goals try (refine (H2.out _).mono ?_; rintro e w1 ⟨⟨b2, rfl⟩, hw1⟩; subst w1; cases b2 <;> go_wp2_with fail)
    all_goals try (go_ret; exact ⟨HFa.out _ rfl, K0⟩)
    all_goals (refine (HI.out _).mono ?_; rintro e w1 ⟨rfl, hw1⟩; subst w1; cases B <;> go_wp2_with fail)
    all_goals try (go_ret; exact ⟨HFa.out _ rfl, K0⟩)
    all_goals (refine (HC.out _ K0).mono ?_; rintro e w1 ⟨rfl, hw1⟩; subst w1; go_wp2_with fail; go_ret)
    all_goals (refine ⟨?_, K0⟩; cases B2 with | true => exact HTr.out (by first | rfl | trivial) (by first | rfl | trivial) Hd.out _ rfl | false => exact HFa.out _ rfl)
  · have hd2 : ((n : Int) == dim) = false := by simpa using hd
    clear hd
    go_enter Tryd.func55, Tryd.ntmps55
    go_wp2_with fail
    refine (H1.out _).mono ?_
    rintro e w1 ⟨⟨b1, rfl⟩, hw1⟩
    subst w1
    cases b1 <;> go_wp2_with fail
    all_goals try (go_ret; exact ⟨HFa.out _ rfl, K0⟩)
    all_goals try (refine (H2.out _).mono ?_; rintro e w1 ⟨⟨b2, rfl⟩, hw1⟩; subst w1; cases b2 <;> go_wp2_with fail)
    all_goals try (go_ret; exact ⟨HFa.out _ rfl, K0⟩)
    all_goals (refine (HI.out _).mono ?_; rintro e w1 ⟨rfl, hw1⟩; subst w1; cases B <;> go_wp2_with fail)
    all_goals (go_ret; exact ⟨HFa.out _ rfl, K0⟩)
end Go.Proofs.YtcjilojkhmondaaDoor
