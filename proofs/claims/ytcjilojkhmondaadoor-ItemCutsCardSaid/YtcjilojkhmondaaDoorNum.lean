/-
  DERIVED. item.number: a number without a nought ahead.
-/
import Derived.Test.YtcjilojkhmondaaDoorPrint
set_option linter.unusedVariables false
set_option linter.unusedSimpArgs false
namespace Go.Proofs.YtcjilojkhmondaaDoor
open Go.RowKit Go.Cof
def ErrLike (v : Value) : Prop := v = .nilIface ∨ ∃ te pe, v = .iface te pe
/-- The errors that strconv.Atoi wraps. -/
structure NumErrs (w : World) : Prop where
  range : ∃ ev, w.cell? ⟨3, 0, none⟩ = some ev ∧ ErrLike ev
  form : ∃ ev, w.cell? ⟨2, 0, none⟩ = some ev ∧ ErrLike ev
theorem NumErrs.keep {w w' : World} (h : NumErrs w) {S : Nat → Prop} (hk : Keep S w w') (h1 : ¬ S 3) (h2 : ¬ S 2) : NumErrs w' := by
  obtain ⟨⟨a, ha, ha'⟩, ⟨b, hb, hb'⟩⟩ := h
  exact ⟨⟨a, (hk.cell (p := ⟨3, 0, none⟩) (Lib.lt_of_cell ha) h1).trans ha, ha'⟩, ⟨b, (hk.cell (p := ⟨2, 0, none⟩) (Lib.lt_of_cell hb) h2).trans hb, hb'⟩⟩
theorem keep_bytes (w : World) (e : TypeId) (s : ByteArray) : Keep NoB w (Lib.bytesWorld w e s) := Keep.ofBelow (Lib.bytesWorld_below w e s)
def NumSaid (s : ByteArray) (e : Ending) : Prop := ∃ (n : Int) (b : Bool), e = .returned (.tuple #[.int .i64 n, .bool b]) ∧ (match numT s.data.toList with | some v => n = v ∧ b = true | none => b = false)
set_option maxRecDepth 100000 in
theorem number_any (s : ByteArray) (w : World) (hs : s.size ≤ 1000000) (T : PowVar w) (E : NumErrs w) :
    Calls Tryd.prog 66 #[.string s] w fun e w' => NumSaid s e ∧ Keep NoB w w' := by
  have hbad : ∀ (n : Int) (N : Nat), numT s.data.toList = none → Calls Tryd.prog 88 #[.string s] w (fun e w' => ∃ N, e = .returned (.tuple #[.int .i64 n, .iface 183 (.pointer (some ⟨N, 0, none⟩))]) ∧ Keep NoB w w') →
      Calls Tryd.prog 66 #[.string s] w fun e w' => NumSaid s e ∧ Keep NoB w w' := by
    intro n N hno hc
    have HS : Hid (NumSaid s (.returned (.tuple #[.int .i64 n, .bool false]))) := Lib.hid ⟨n, false, rfl, by rw [hno]⟩
    clear hno
    go_enter Tryd.func66, Tryd.ntmps66
    go_wp2_with fail
    refine hc.mono ?_
    rintro e w1 ⟨N1, rfl, K1⟩
    go_wp2_with fail
    go_ret2
    exact ⟨HS.out, K1⟩
  cases hA : Lib.atoiAll s.data.toList with
  | ok v =>
    have hc := Tryd.strconv_Atoi_ok s (by omega) v hA w
    have hvb := Lib.atoiAll_bounds hA
    obtain ⟨it, hit⟩ : ∃ it : ByteArray, it = ⟨(Lib.itoa v).toArray⟩ := ⟨_, rfl⟩
    have hito := fun w1 (K : Keep NoB w w1) => itoa_any v hvb.1 hvb.2 w1 (T.keep K (fun x => x))
    rw [← hit] at hito
    have hitl : it.data.toList = Lib.itoa v := by rw [hit]
    obtain ⟨B, hB⟩ : ∃ B, B = (it.toList == s.toList) := ⟨_, rfl⟩
    have hS : NumSaid s (.returned (.tuple #[.int .i64 v, .bool B])) := by
      refine ⟨v, B, rfl, ?_⟩
      rw [numT, hA]
      show (match (if Lib.itoa v = s.data.toList then some v else none) with | some v_1 => v = v_1 ∧ B = true | none => B = false)
      rw [ByteArray.toList_eq, ByteArray.toList_eq, hitl] at hB
      by_cases e : Lib.itoa v = s.data.toList
      · rw [if_pos e]
        exact ⟨rfl, by rw [hB, e]; exact beq_self_eq_true _⟩
      · rw [if_neg e]
        rw [hB]
        exact beq_eq_false_iff_ne.2 e
    have HS := Lib.hid hS
    have Hito := Lib.hid hito
    have hB' := hB.symm
    clear hS hito hit hitl hB hbad hA
    go_enter Tryd.func66, Tryd.ntmps66
    go_wp2_with fail
    refine hc.mono ?_
    rintro e w1 ⟨rfl, hw1⟩
    have K1 : Keep NoB w w1 := by
      rcases hw1 with rfl | ⟨t, rfl⟩
      · exact Keep.refl _ _
      · exact keep_bytes _ _ _
    clear hw1
    go_wp2_with fail
    refine (Hito.out _ K1).mono ?_
    rintro e w2 ⟨rfl, K2⟩
    go_wp2_with fail
    go_ret2
    exact ⟨HS.out, K1.thenN K2⟩
  | range =>
    obtain ⟨ev, hv, hev⟩ := E.range
    refine hbad (Lib.atoiSat s.data.toList) 0 (by rw [numT, hA]) ?_
    refine (Tryd.strconv_Atoi_range s (by omega) hA ev w hv hev).mono ?_
    rintro e w' ⟨N, rfl, _, _, hb⟩
    exact ⟨N, rfl, Keep.ofBelow hb⟩
  | _ =>
    obtain ⟨ev, hv, hev⟩ := E.form
    refine hbad 0 0 (by rw [numT, hA]) ?_
    refine (Any.strconv_Atoi_syntax Tryd.laysC172 s (by omega) hA ev w hv hev).mono ?_
    rintro e w' ⟨N, rfl, _, _, hb⟩
    exact ⟨N, rfl, Keep.ofBelow hb⟩
end Go.Proofs.YtcjilojkhmondaaDoor
