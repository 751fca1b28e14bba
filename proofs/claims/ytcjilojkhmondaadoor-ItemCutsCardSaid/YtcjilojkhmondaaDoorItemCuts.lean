/-
  DERIVED. cofferkeep.ItemCuts: the first lines of items' text are the first items; what is cut off within a line is none.
-/
import Derived.Test.YtcjilojkhmondaaDoorItemBack
import Derived.Test.YtcjilojkhmondaaDoorPick
set_option linter.unusedVariables false
set_option linter.unusedSimpArgs false
namespace Go.Proofs.YtcjilojkhmondaaDoor
open Go.RowKit Go.Cof
theorem wrap_small (k : Nat) (h : k ≤ 65) : IntKind.i64.wrap ((k : Int) + 1 - 1) = (k : Int) := by
  have e : (k : Int) + 1 - 1 = k := by omega
  rw [e]
  exact IntWalk.i64_in _ (by omega)
theorem wrap_small3 (k : Nat) (h : k ≤ 65) : wrap64 (k : Int) = k := by unfold wrap64; omega
theorem print_count {dim : Int} {l : List PItem} (h : printOk dim l = true) : (printT dim l).count 10 = l.length + 1 := by
  simp only [printOk, Bool.and_eq_true, decide_eq_true_eq] at h
  have hok : ∀ x ∈ l, ItemOk x := fun x hx => itemOk_of (List.all_eq_true.1 h.1.2 x hx)
  have hp := pieces_rows 10 ((dimT ++ Lib.itoa dim) :: l.map bodyT) [] (by
    intro p hp
    rcases List.mem_cons.1 hp with rfl | hp
    · exact dim_no dim
    · obtain ⟨x, hx, rfl⟩ := List.mem_map.1 hp
      exact body_no (hok x hx))
  have hl := congrArg List.length hp
  rw [List.append_nil, ← print_rows, pieces_len, List.length_append, List.length_cons, List.length_map] at hl
  have : (pieces 10 []).length = 1 := rfl
  omega
set_option maxRecDepth 100000 in
set_option maxHeartbeats 4000000 in
theorem itemCuts_any (dim : Int) (v : Value) (l : List ItemV) (cut : Int) (w : World) (I : Items w v l) (hl : l.length ≤ maxLen) (C : CapOk v) (V : ItemVars w) :
    Calls Tryd.prog 7 #[.int .i64 dim, v, .int .i64 cut] w fun e w' => e = .returned (.bool true) ∧ Keep NoB w w' := by
  have hh := held_any v l w I hl
  obtain ⟨H, hH⟩ : ∃ b, b = heldB l := ⟨_, rfl⟩
  rw [← hH] at hh
  have Hh := Lib.hid hh
  clear hh
  cases H with
  | false =>
    clear hH
    go_enter Tryd.func7, Tryd.ntmps7
    go_wp2_with fail
    refine Hh.out.mono ?_
    rintro e w1 ⟨rfl, K1⟩
    go_wp2_with fail
    go_ret
    exact ⟨rfl, K1⟩
  | true =>
    have hsm := held_small hH.symm
    have hli := fun (W : World) (K : Keep NoB w W) => listed_any W (V.keep K)
    have hprl := fun (W : World) (K : Keep NoB w W) => print_any dim v l W ⟨I.rows.keep K (fun _ _ x => x), fun x hx => (I.nums x hx).keep K (fun _ _ x => x)⟩ hl (fun x hx => by have := hsm.2 x hx; omega) (V.keep K).pow
    have Hli := Lib.hid hli
    have Hprl := Lib.hid hprl
    have Hsm := Lib.hid hsm
    have HI := Lib.hid I
    have HV := Lib.hid V
    clear hH hsm hli hprl I V
    by_cases hok : printOk dim (l.map plainI) = true
    · obtain ⟨s, hs⟩ : ∃ s : ByteArray, s = ⟨(printT dim (l.map plainI)).toArray⟩ := ⟨_, rfl⟩
      have hsd : s.data.toList = printT dim (l.map plainI) := by rw [hs]
      have hpr := fun W K => Hprl.out W K
      simp only [printS, printE, if_pos hok, ← hs] at hpr
      have hsz : s.size ≤ 900000 := by
        have h0 := hok
        simp only [printOk, Bool.and_eq_true, decide_eq_true_eq] at h0
        have h1 := rows_len h0.1.2
        have h2 := itoa_len dim (by omega)
        have h3 : (l.map plainI).length = l.length := List.length_map _
        have h4 := Hsm.out.1
        have h5 : s.size = s.data.toList.length := rfl
        rw [h5, hsd, printT, List.length_append, List.length_append, List.length_append]
        simp only [dimT, List.length_cons, List.length_nil]
        omega
      obtain ⟨c, hc⟩ : ∃ c, c = pickN cut (s.size + 1) := ⟨_, rfl⟩
      have hcs : c ≤ s.size := by rw [hc]; have := pickN_lt cut (s.size + 1) (by omega); omega
      have hpk := fun i (hi : i = ((s.size + 1 : Nat) : Int)) W => pick_any cut i (s.size + 1) hi (by omega) (by omega) W
      rw [← hc] at hpk
      obtain ⟨t, ht⟩ : ∃ t, t = s.extract 0 c := ⟨_, rfl⟩
      have htd : t.data.toList = (printT dim (l.map plainI)).take c := by rw [ht, ByteArray.data_extract, Array.toList_extract, List.extract_eq_take_drop, hsd]; simp
      have htz : t.size ≤ 1000000 := by rw [ht, ByteArray.size_extract]; omega
      have hpa := fun (W : World) (K : Keep NoB w W) => parse_any t W htz (HV.out.keep K)
      have hct := fun W => Tryd.strings_Count_one t 10 W
      have Hpr := Lib.hid hpr
      have Hpk := Lib.hid hpk
      have Hpa := Lib.hid hpa
      have Hct := Lib.hid hct
      have Htd := Lib.hid htd
      have Ht := Lib.hid ht
      have Hsd := Lib.hid hsd
      have Hok := Lib.hid hok
      have c0 : (c : Int) ≤ s.size := by omega
      have w1 : IntKind.i64.wrap ((s.size : Int) + 1) = ((s.size + 1 : Nat) : Int) := IntWalk.i64_in _ (by omega)
      clear hpr hpk hpa hct htd ht hs hsd hok Hprl hc htz
      go_enter Tryd.func7, Tryd.ntmps7
      go_wp2_with fail
      refine Hh.out.mono ?_
      rintro e w1 ⟨rfl, K1⟩
      go_wp2_with fail
      refine (Hli.out _ K1).mono ?_
      rintro e w2 ⟨rfl, K2⟩
      have K12 := K1.thenN K2
      clear K1 K2 Hh Hli
      go_wp2_with fail
      refine (Hpr.out _ K12).mono ?_
      rintro e w3 ⟨rfl, K3⟩
      have K13 := K12.thenN K3
      clear K12 K3 Hpr
      go_wp2_with fail
      refine (Hpk.out _ (by first | rfl | omega) _).mono ?_
      rintro e w4 ⟨rfl, hw⟩
      subst w4
      go_wp2_with fail
      rw [← Ht.out]
      refine (Hpa.out _ K13).mono ?_
      rintro e w5 ⟨hps, K5⟩
      have K15 := K13.thenN K5
      clear K13 K5 Hpa Hpk
      obtain ⟨kk, hkk⟩ : ∃ kk, kk = t.data.toList.count 10 := ⟨_, rfl⟩
      have hct := fun W => Hct.out W
      simp only [Lib.countByte, ← hkk] at hct
      have Hct2 := Lib.hid hct
      clear hct Hct
      by_cases hk0 : kk = 0
      · have hno : parseT t.data.toList = none := parse_no (.inl (by rw [← hkk]; exact hk0))
        rw [ParseSaid, hno] at hps
        have hps2 : e = .returned (.tuple #[.int .i64 0, .slice none 0 0, .iface 53 (.int .i64 3)]) := hps
        clear hps hno hkk
        subst hk0
        subst hps2
        go_wp2_with fail
        rw [← Ht.out]
        refine (Hct2.out _).mono ?_
        rintro e w6 ⟨rfl, hw⟩
        subst w6
        go_wp2_with fail
        go_ret
        exact ⟨rfl, K15⟩
      · have hc1 : 0 < c := by
          rcases Nat.eq_zero_or_pos c with h | h
          · have h1 := Htd.out
            rw [h, List.take_zero] at h1
            rw [h1] at hkk
            exact absurd hkk hk0
          · exact h
        have j0 : ((kk : Int) == 0) = false := by simp; exact hk0
        have j1 : (0 : Int) < c := by omega
        have j2 : IntKind.i64.wrap ((c : Int) - 1) = (c : Int) - 1 := IntWalk.i64_in _ (by omega)
        have j3 : (c : Int) - 1 < s.size := by omega
        have j4 : 0 ≤ (c : Int) - 1 := by omega
        have hcl : c - 1 < s.size := by omega
        have hlast : t.data.toList.getLast? = some s[c - 1] := by
          have h1 : s.data.toList.length = s.size := rfl
          have h2 : (s.data.toList.take c).length = c := by rw [List.length_take, h1]; omega
          rw [Htd.out, ← Hsd.out, List.getLast?_eq_getElem?, h2, List.getElem?_take, if_pos (by omega), List.getElem?_eq_getElem (by rw [h1]; exact hcl)]
          rfl
        have Hkk := Lib.hid hkk
        have Hlast := Lib.hid hlast
        have Hk0 := Lib.hid hk0
        clear hkk hlast hk0
        obtain ⟨B, hB⟩ : ∃ B, B = (((s[c - 1].toNat : Nat) : Int) != 10) := ⟨_, rfl⟩
        have jb := hB.symm
        have hB2 : B = !decide (s[c - 1] = 10) := by
          rw [hB]
          by_cases h : s[c - 1] = 10
          · rw [h, decide_eq_true rfl]; rfl
          · rw [decide_eq_false h]
            simp only [bne, Bool.not_false, Bool.not_eq_true', beq_eq_false_iff_ne]
            intro e
            apply h
            apply UInt8.toNat_inj.1
            have : (10 : UInt8).toNat = 10 := rfl
            omega
        rw [ParseSaid] at hps
        cases hpt : parseT t.data.toList with
        | none =>
          have hB3 : B = true := by
            rw [hB2, Bool.not_eq_true', decide_eq_false_iff_not]
            intro h
            obtain ⟨k, hk⟩ : ∃ k, kk = k + 1 := ⟨kk - 1, by have := Hk0.out; omega⟩
            have h2 := print_cut Hok.out c k (by rw [← Htd.out, ← Hkk.out, hk]) (by rw [← Htd.out, Hlast.out, h])
            rw [← Htd.out, hpt] at h2
            cases h2
          rw [hB3] at jb
          rw [hpt] at hps
          have hps2 : e = .returned (.tuple #[.int .i64 0, .slice none 0 0, .iface 53 (.int .i64 3)]) := hps
          clear hps hB hB2 hpt hB3
          subst hps2
          go_wp2_with fail
          rw [← Ht.out]
          refine (Hct2.out _).mono ?_
          rintro e w6 ⟨rfl, hw⟩
          subst w6
          go_wp2_with fail
          go_ret
          exact ⟨rfl, K15⟩
        | some y =>
          have hlast : s[c - 1] = 10 := by
            by_cases h : s[c - 1] = 10
            · exact h
            · have h2 := parse_no (s := t.data.toList) (.inr (by rw [Hlast.out]; intro e; exact h (Option.some.inj e)))
              rw [hpt] at h2
              cases h2
          have hBf : B = false := by rw [hB2, hlast]; rfl
          rw [hBf] at jb
          clear hBf
          obtain ⟨k, hk⟩ : ∃ k, kk = k + 1 := ⟨kk - 1, by have := Hk0.out; omega⟩
          have h2 := print_cut Hok.out c k (by rw [← Htd.out, ← Hkk.out, hk]) (by rw [← Htd.out, Hlast.out, hlast])
          rw [← Htd.out] at h2
          rw [h2] at hps
          obtain ⟨m, L, rfl, hL, I2⟩ := hps
          have hkl : k ≤ l.length := by
            have h3 := print_count Hok.out
            have h4 : ((printT dim (l.map plainI)).take c).count 10 ≤ (printT dim (l.map plainI)).count 10 := (List.take_sublist _ _).count_le _
            rw [← Htd.out, ← Hkk.out, h3, List.length_map] at h4
            omega
          obtain ⟨p, cp, hv⟩ := HI.out.rows.len
          subst hv
          have hcp : l.length ≤ cp := C p _ cp rfl
          have hkc : (k : Int) ≤ cp := by omega
          have hI3 : Items w5 (.slice p k cp) (l.take k) := ⟨(HI.out.rows.keep K15 (fun _ _ x => x)).take k hkl cp, fun x hx => (HI.out.nums x (List.mem_of_mem_take hx)).keep K15 (fun _ _ x => x)⟩
          have hsm := Hsm.out
          have hk65 : k ≤ 65 := Nat.le_trans hkl hsm.1
          have hns : ∀ x ∈ l.take k, x.ns.length ≤ 1000000 := fun x hx => by have := hsm.2 x (List.mem_of_mem_take hx); omega
          rw [← List.map_take] at hL
          have hlt : (l.take k).length ≤ 65 := by rw [List.length_take]; omega
          have hLl : L.length = (l.take k).length := by have := congrArg List.length hL; simpa using this
          have hal := alike_any m (.slice p k cp) L (l.take k) w5 I2 hI3 (by omega) (by omega) (plain_ns hL hns) hns
          have hab : alikeB L (l.take k) = true := decide_eq_true hL
          rw [hab] at hal
          have Hal := Lib.hid hal
          have jk : (((k : Int) + 1) == 0) = false := by simp; omega
          have jk2 : (k : Int) + 1 - 1 = k := by omega
          have jw3 := wrap_small3 k hk65
          have jw := wrap_small k hk65
          rw [hk] at Hct2
          clear hal hab hsm hlt hLl hns I2 hL hI3 h2 hpt hB hB2 hlast j0 hk
          go_wp2_with fail
          rw [← Ht.out]
          refine (Hct2.out _).mono ?_
          rintro e w6 ⟨rfl, hw⟩
          subst w6
          go_wp2_with fail
          refine Hal.out.mono ?_
          rintro e w7 ⟨rfl, K7⟩
          go_wp2_with fail
          go_ret
          exact ⟨rfl, K15.thenN K7⟩
    · have hE : printE dim l = .iface 53 (.int .i64 1) := by rw [printE, if_neg hok]; rfl
      have hpr := fun W K => Hprl.out W K
      rw [hE] at hpr
      have Hpr := Lib.hid hpr
      clear hpr Hprl hE hok
      go_enter Tryd.func7, Tryd.ntmps7
      go_wp2_with fail
      refine Hh.out.mono ?_
      rintro e w1 ⟨rfl, K1⟩
      go_wp2_with fail
      refine (Hli.out _ K1).mono ?_
      rintro e w2 ⟨rfl, K2⟩
      have K12 := K1.thenN K2
      go_wp2_with fail
      refine (Hpr.out _ K12).mono ?_
      rintro e w3 ⟨rfl, K3⟩
      go_wp2_with fail
      go_ret
      exact ⟨rfl, K12.thenN K3⟩
end Go.Proofs.YtcjilojkhmondaaDoor
