/-
  DERIVED. cofferkeep.ItemBack: what items are written as are these items; what was read is written just so.
-/
import Derived.Test.YtcjilojkhmondaaDoorListed
import Derived.Deep.CutBlock
import Derived.Deep.DeepCutAuto
import Derived.RegionTactic
set_option linter.unusedVariables false
set_option linter.unusedSimpArgs false
namespace Go.Proofs.YtcjilojkhmondaaDoor
open Go.RowKit Go.Cof
theorem held_small {l : List ItemV} (h : heldB l = true) : l.length ≤ 65 ∧ ∀ x ∈ l, x.ns.length ≤ 12 := by
  simp only [heldB, Bool.and_eq_true, Bool.not_eq_true', decide_eq_true_eq] at h
  refine ⟨h.1, fun x hx => ?_⟩
  have := List.any_eq_false.1 h.2 x hx
  simp only [wideB, Bool.or_eq_true, decide_eq_true_eq, not_or] at this
  omega
theorem plain_ns {L l : List ItemV} (h : L.map plainI = l.map plainI) (hs : ∀ x ∈ l, x.ns.length ≤ 1000000) : ∀ x ∈ L, x.ns.length ≤ 1000000 := by
  intro x hx
  have hm : plainI x ∈ L.map plainI := List.mem_map.2 ⟨x, hx, rfl⟩
  rw [h] at hm
  obtain ⟨y, hy, e⟩ := List.mem_map.1 hm
  have := hs y hy
  have e2 : y.ns = x.ns := congrArg (fun p => p.2.2) e
  rw [← e2]; exact this
theorem parse_len {s : List UInt8} {d : Int} {l : List PItem} (h : parseT s = some (d, l)) : l.length ≤ 60 ∧ ∀ x ∈ l, x.2.2.length ≤ 8 := by
  have h1 := (parseT_back h).1
  simp only [printOk, Bool.and_eq_true, decide_eq_true_eq] at h1
  exact ⟨h1.1.1.2, fun x hx => (item_sizes (List.all_eq_true.1 h1.1.2 x hx)).2.2⟩
set_option maxRecDepth 100000 in
set_option maxHeartbeats 4000000 in
/-- The second half: items are written, and read again. -/
theorem itemBack_any (dim : Int) (v : Value) (l : List ItemV) (s : ByteArray) (w : World) (I : Items w v l) (hl : l.length ≤ maxLen) (V : ItemVars w) :
    Calls Tryd.prog 6 #[.int .i64 dim, v, .string s] w fun e w' => e = .returned (.bool true) ∧ Keep NoB w w' := by
  have hh := held_any v l w I hl
  obtain ⟨H, hH⟩ : ∃ b, b = heldB l := ⟨_, rfl⟩
  rw [← hH] at hh
  have Hh := Lib.hid hh
  clear hh
  cases H with
  | false =>
    clear hH
    go_enter Tryd.func6, Tryd.ntmps6
    go_wp2_with fail
    refine Hh.out.mono ?_
    rintro e w1 ⟨rfl, K1⟩
    go_wp2_with fail
    go_ret
    exact ⟨rfl, K1⟩
  | true =>
    by_cases hs : s.size ≤ 500
    · have hsm := held_small hH.symm
      have g5 : ¬ ((500 : Int) < s.size) := by omega
      have hli := fun (W : World) (K : Keep NoB w W) => listed_any W (V.keep K)
      have hpa := fun (W : World) (K : Keep NoB w W) => parse_any s W (by omega) (V.keep K)
      have hprl := fun (W : World) (K : Keep NoB w W) => print_any dim v l W ⟨I.rows.keep K (fun _ _ x => x), fun x hx => (I.nums x hx).keep K (fun _ _ x => x)⟩ hl (fun x hx => by have := hsm.2 x hx; omega) (V.keep K).pow
      have Hli := Lib.hid hli
      have Hpa := Lib.hid hpa
      have Hprl := Lib.hid hprl
      have Hsm := Lib.hid hsm
      have HI := Lib.hid I
      have HV := Lib.hid V
      -- the second half, from any later world
      have hback : ∀ W, Keep NoB w W → printOk dim (l.map plainI) = true → Calls Tryd.prog 37 #[.string ⟨(printT dim (l.map plainI)).toArray⟩] W fun e w' => (∃ (m : Value) (L : List ItemV), e = .returned (.tuple #[.int .i64 dim, m, .nilIface]) ∧ L.map plainI = l.map plainI ∧ Items w' m L) ∧ Keep NoB W w' := by
        intro W K hok
        have hsz : (⟨(printT dim (l.map plainI)).toArray⟩ : ByteArray).size ≤ 1000000 := by
          show (printT dim (l.map plainI)).toArray.size ≤ _
          have h0 := hok
          simp only [printOk, Bool.and_eq_true, decide_eq_true_eq] at h0
          have h1 := rows_len h0.1.2
          have h2 := itoa_len dim (by omega)
          have h3 : (l.map plainI).length = l.length := List.length_map _
          have h4 := hsm.1
          rw [List.size_toArray, printT, List.length_append, List.length_append, List.length_append]
          simp only [dimT, List.length_cons, List.length_nil]
          omega
        refine (parse_any _ W hsz (V.keep K)).mono ?_
        rintro e w' ⟨hsd, K'⟩
        rw [ParseSaid, show (⟨(printT dim (l.map plainI)).toArray⟩ : ByteArray).data.toList = printT dim (l.map plainI) from rfl, parse_print hok] at hsd
        exact ⟨hsd, K'⟩
      have Hback := Lib.hid hback
      clear hH hs hsm hli hpa hprl I V hback
      go_enter Tryd.func6, Tryd.ntmps6
      go_wp2_with fail
      refine Hh.out.mono ?_
      rintro e w1 ⟨rfl, K1⟩
      go_wp2_with fail
      refine (Hli.out _ K1).mono ?_
      rintro e w2 ⟨rfl, K2⟩
      have K12 := K1.thenN K2
      clear K1 K2 Hh Hli
      go_wp2_with fail
      refine (Hpa.out _ K12).mono ?_
      rintro e w3 ⟨hsd, K3⟩
      have K13 := K12.thenN K3
      clear K12 K3 Hpa
      rw [ParseSaid] at hsd
      cases hp : parseT s.data.toList with
      | none =>
        rw [hp] at hsd
        have hsd2 : e = .returned (.tuple #[.int .i64 0, .slice none 0 0, .iface 53 (.int .i64 3)]) := hsd
        clear hp hsd
        subst hsd2
        have K9 : Keep NoB w w3 := K13
        clear K13
        have hpr := Hprl.out _ K9
        by_cases hok : printOk dim (l.map plainI) = true
        · rw [printS, printE, if_pos hok, if_pos hok] at hpr
          have Hpr := Lib.hid hpr
          have hb := fun W (K : Keep NoB w W) => Hback.out W K hok
          have Hb := Lib.hid hb
          clear hpr hb hok
          go_wp2_with fail
          refine Hpr.out.mono ?_
          rintro e w4 ⟨rfl, K4⟩
          have K94 := K9.thenN K4
          go_wp2_with fail
          refine (Hb.out _ K94).mono ?_
          rintro e w5 ⟨⟨m, L, rfl, hL, I2⟩, K5⟩
          have K95 := K94.thenN K5
          have hsm := Hsm.out
          have hLl : L.length = l.length := by have := congrArg List.length hL; simpa using this
          have hns : ∀ x ∈ l, x.ns.length ≤ 1000000 := fun x hx => by have := hsm.2 x hx; omega
          have hal := alike_any m v L l w5 I2 ⟨HI.out.rows.keep K95 (fun _ _ x => x), fun x hx => (HI.out.nums x hx).keep K95 (fun _ _ x => x)⟩ (by omega) (by omega) (plain_ns hL hns) hns
          have hab : alikeB L l = true := decide_eq_true hL
          rw [hab] at hal
          have Hal := Lib.hid hal
          clear hal hab hsm hLl hns I2 hL
          go_wp2_with fail
          refine Hal.out.mono ?_
          rintro e w6 ⟨rfl, K6⟩
          go_wp2_with fail
          go_ret
          exact ⟨rfl, K95.thenN K6⟩
        · have hE : printE dim l = .iface 53 (.int .i64 1) := by rw [printE, if_neg hok]; rfl
          rw [hE] at hpr
          have Hpr := Lib.hid hpr
          clear hpr hE hok
          go_wp2_with fail
          refine Hpr.out.mono ?_
          rintro e w4 ⟨rfl, K4⟩
          go_wp2_with fail
          go_ret
          exact ⟨rfl, K9.thenN K4⟩
      | some y =>
        obtain ⟨d, pl⟩ := y
        rw [hp] at hsd
        obtain ⟨m, L, rfl, hL, I2⟩ := hsd
        have hpl := parse_len hp
        have hb := parseT_back hp
        rw [← hL] at hpl hb
        have h60 : L.length ≤ 60 := by have := hpl.1; rwa [List.length_map] at this
        have h8 : ∀ x ∈ L, x.ns.length ≤ 1000000 := fun x hx => by
          have := hpl.2 (plainI x) (List.mem_map.2 ⟨x, hx, rfl⟩)
          have e : (plainI x).2.2 = x.ns := rfl
          rw [e] at this
          omega
        have hpr := print_any d m L w3 I2 (by unfold maxLen; omega) h8 (HV.out.keep K13).pow
        have e1 : printS d L = s := by rw [printS, if_pos hb.1, hb.2]
        have e2 : printE d L = .nilIface := by rw [printE, if_pos hb.1]
        rw [e1, e2] at hpr
        obtain ⟨p, c, rfl⟩ := I2.rows.len
        obtain ⟨n2, hn2⟩ : ∃ n, n = L.length := ⟨_, rfl⟩
        rw [← hn2] at hpr ⊢
        have bS : (@BEq.beq (List UInt8) (@List.instBEq UInt8 instBEqOfDecidableEq) s.toList s.toList) = true := by rw [beqB, decide_eq_true rfl]
        have Hpr := Lib.hid hpr
        clear hpr e1 e2 hb hpl h8 hL I2 hp hn2 h60
        go_wp2_with fail
        refine Hpr.out.mono ?_
        rintro e w4 ⟨rfl, K4⟩
        have K9 : Keep NoB w w4 := K13.thenN K4
        clear K13 K4
        have hpr := Hprl.out _ K9
        by_cases hok : printOk dim (l.map plainI) = true
        · rw [printS, printE, if_pos hok, if_pos hok] at hpr
          have Hpr := Lib.hid hpr
          have hb := fun W (K : Keep NoB w W) => Hback.out W K hok
          have Hb := Lib.hid hb
          clear hpr hb hok
          go_wp2_with fail
          refine Hpr.out.mono ?_
          rintro e w4 ⟨rfl, K4⟩
          have K94 := K9.thenN K4
          go_wp2_with fail
          refine (Hb.out _ K94).mono ?_
          rintro e w5 ⟨⟨m, L, rfl, hL, I2⟩, K5⟩
          have K95 := K94.thenN K5
          have hsm := Hsm.out
          have hLl : L.length = l.length := by have := congrArg List.length hL; simpa using this
          have hns : ∀ x ∈ l, x.ns.length ≤ 1000000 := fun x hx => by have := hsm.2 x hx; omega
          have hal := alike_any m v L l w5 I2 ⟨HI.out.rows.keep K95 (fun _ _ x => x), fun x hx => (HI.out.nums x hx).keep K95 (fun _ _ x => x)⟩ (by omega) (by omega) (plain_ns hL hns) hns
          have hab : alikeB L l = true := decide_eq_true hL
          rw [hab] at hal
          have Hal := Lib.hid hal
          clear hal hab hsm hLl hns I2 hL
          go_wp2_with fail
          refine Hal.out.mono ?_
          rintro e w6 ⟨rfl, K6⟩
          go_wp2_with fail
          go_ret
          exact ⟨rfl, K95.thenN K6⟩
        · have hE : printE dim l = .iface 53 (.int .i64 1) := by rw [printE, if_neg hok]; rfl
          rw [hE] at hpr
          have Hpr := Lib.hid hpr
          clear hpr hE hok
          go_wp2_with fail
          refine Hpr.out.mono ?_
          rintro e w4 ⟨rfl, K4⟩
          go_wp2_with fail
          go_ret
          exact ⟨rfl, K9.thenN K4⟩
    · have g5 : (500 : Int) < s.size := by omega
      clear hH
      go_enter Tryd.func6, Tryd.ntmps6
      go_wp2_with fail
      refine Hh.out.mono ?_
      rintro e w1 ⟨rfl, K1⟩
      go_wp2_with fail
      go_ret
      exact ⟨rfl, K1⟩
end Go.Proofs.YtcjilojkhmondaaDoor
