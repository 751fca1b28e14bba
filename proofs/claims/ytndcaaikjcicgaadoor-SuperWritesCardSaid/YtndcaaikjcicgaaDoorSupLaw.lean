/-
  DERIVED. SuperWrites: how a block that tells of all is written, and which one any text is, is the document's. For every input; no condition but the row's own (sum.rounds, errors.errorType and utf8's tables as their texts lay them).
-/
import Derived.Test.YtndcaaikjcicgaaDoorLaidS
import Derived.WalkKit
import Derived.ProofKit
import Derived.OpenShut
import Derived.ShutString
import Derived.ChangeOld
import Derived.ChangeArms
import Derived.Below
import Derived.Carry
import Derived.Lib.SmallJoins
import Derived.Test.YtndcaaikjcicgaaDoorSupW
import Derived.Test.YtndcaaikjcicgaaDoorTie
import Derived.Test.YtndcaaikjcicgaaDoorCards
import Derived.SevenTiedAt
set_option linter.unusedSimpArgs false
namespace Go.Proofs.YtndcaaikjcicgaaDoor.superWrites
open Go.ChangeShapes Go.WideShapes Go.ChangeAt Go.RowKit Go.Cof
open Go.ChangeMaps (open_string shut_string)
set_option linter.unusedVariables false

theorem laidOut : laidOutB Tryd.prog = true := by kernel_rfl
def unb : Value → Bool
  | .bool b => b
  | _ => false
set_option maxRecDepth 100000 in
/-- A block that tells of all, as an argument. -/
theorem open_sup {W : World} {H : Type} {enc : TypeId × Value → H} {v : Value} {d : DataW H} {p : List MemPlace} {held : Bool} {spare : Nat → Bool} {r : Reach} {b0 : Nat} (hv : Value.okWide Tryd.prog W r b0 88 v) (h : DataW.Trod enc Tryd.prog W 0 spare held 88 v d p) :
    ∃ x : SupV, v = supVal x ∧ x.sides.length = 32 := by
  obtain ⟨cs, rfl, hsz⟩ := okWide_struct Tryd.underlying88 hv
  have h35 : cs.size = 35 := hsz.trans (by kernel_rfl)
  obtain ⟨fuel, hf⟩ := h
  obtain ⟨xs, n, _, _, _, hxl, hfl⟩ := DataW.trod_struct Tryd.underlying88 hf
  have hx4 : xs.length = 4 := hxl
  simp only [Value.cells] at hfl
  obtain ⟨y0, hy0⟩ : ∃ y, xs[0]? = some y := ⟨_, List.getElem?_eq_getElem (by omega)⟩
  obtain ⟨y1, hy1⟩ : ∃ y, xs[1]? = some y := ⟨_, List.getElem?_eq_getElem (by omega)⟩
  obtain ⟨y2, hy2⟩ : ∃ y, xs[2]? = some y := ⟨_, List.getElem?_eq_getElem (by omega)⟩
  obtain ⟨y3, hy3⟩ : ∃ y, xs[3]? = some y := ⟨_, List.getElem?_eq_getElem (by omega)⟩
  have g0 : DataW.trod enc Tryd.prog W 0 spare held n 3 ((cs.toList.drop 0).take (Tryd.prog.cellsOf 3)) = some y0 := (hfl 0 _ rfl).trans hy0
  have g1 : DataW.trod enc Tryd.prog W 0 spare held n 3 ((cs.toList.drop 1).take (Tryd.prog.cellsOf 3)) = some y1 := (hfl 1 _ rfl).trans hy1
  have g2 : DataW.trod enc Tryd.prog W 0 spare held n 86 ((cs.toList.drop 2).take (Tryd.prog.cellsOf 86)) = some y2 := (hfl 2 _ rfl).trans hy2
  have g3 : DataW.trod enc Tryd.prog W 0 spare held n 9 ((cs.toList.drop 34).take (Tryd.prog.cellsOf 9)) = some y3 := (hfl 3 _ rfl).trans hy3
  have c1 : Tryd.prog.cellsOf 3 = 1 := by kernel_rfl
  have c2 : Tryd.prog.cellsOf 86 = 32 := by kernel_rfl
  have c3 : Tryd.prog.cellsOf 9 = 1 := by kernel_rfl
  have c4 : Tryd.prog.cellsOf 4 = 1 := by kernel_rfl
  rw [c1] at g0 g1
  rw [c2] at g2
  rw [c3] at g3
  obtain ⟨a0, e0, _, _⟩ := DataW.trod_int Tryd.underlying3 g0
  obtain ⟨a1, e1, _, _⟩ := DataW.trod_int Tryd.underlying3 g1
  obtain ⟨a3, e3, _, _⟩ := DataW.trod_string Tryd.underlying9 g3
  obtain ⟨zs, m, _, _, hzc, hzl, hze⟩ := DataW.trod_array Tryd.underlying86 g2
  rw [c4] at hze
  obtain ⟨L, hL⟩ : ∃ L, L = (cs.toList.drop 2).take 32 := ⟨_, rfl⟩
  rw [← hL] at hze hzc
  have hLl : L.length = 32 := by rw [hL, List.length_take, List.length_drop, Array.length_toList, h35]; rfl
  have hLb : ∀ v ∈ L, Value.bool (unb v) = v := by
    intro v hv
    obtain ⟨i, hi, rfl⟩ := List.getElem_of_mem hv
    rw [hLl] at hi
    have hz := hze i hi
    rw [Nat.mul_one, List.getElem?_eq_getElem (by omega)] at hz
    obtain ⟨b, eb, _⟩ := DataW.trod_bool Tryd.underlying4 hz
    have e := congrArg (fun l => l[0]?) eb
    simp only [List.getElem?_take, List.getElem?_drop, Nat.add_zero] at e
    rw [if_pos (by decide), List.getElem?_eq_getElem (by omega)] at e
    have e' : L[i] = .bool b := by simpa using e
    rw [e']
    rfl
  refine ⟨⟨a0, a1, L.map unb, a3⟩, ?_, by simp [hLl]⟩
  have hlist : cs.toList = supCells ⟨a0, a1, L.map unb, a3⟩ := by
    have hm : (L.map unb).map Value.bool = L := by
      rw [List.map_map]
      conv => rhs; rw [← List.map_id L]
      exact List.map_congr_left hLb
    have s0 : cs.toList = (cs.toList.drop 0).take 1 ++ cs.toList.drop 1 := by rw [List.drop_zero, List.take_append_drop]
    have s1 : cs.toList.drop 1 = (cs.toList.drop 1).take 1 ++ cs.toList.drop 2 := by rw [show (2 : Nat) = 1 + 1 from rfl, ← List.drop_drop, List.take_append_drop]
    have s2 : cs.toList.drop 2 = (cs.toList.drop 2).take 32 ++ cs.toList.drop 34 := by rw [show (34 : Nat) = 2 + 32 from rfl, ← List.drop_drop, List.take_append_drop]
    have s3 : cs.toList.drop 34 = (cs.toList.drop 34).take 1 := by rw [List.take_of_length_le (by rw [List.length_drop, Array.length_toList, h35]; decide)]
    rw [supCells, hm, s0, s1, s2, s3, e0, e1, e3, ← hL]
    simp
  rw [supVal, ← hlist]

theorem walk (a0 : ByteArray) (a1 : SupV) (hs : a1.sides.length = 32) (a2 : ByteArray) (w : World) (h : RoundsVar w ∧ ErrVar w) :
    Calls Tryd.prog 10 #[.string a0, supVal a1, .string a2] w fun e w' => e = .returned (.bool true) ∧ Below w.heap.size w w' :=
  (superWrites_any a0 a1 hs a2 w h.2 h.1).mono fun _ _ ⟨he, hk⟩ => ⟨he, hk.toBelow⟩

set_option maxRecDepth 100000 in
theorem lifted (os : Os) (started : os.Started) (H : Type) (enc : TypeId × Value → H) :
    ReturnsInHanded {} Tryd.checked os 10 .any (fun w args => (Rows.superWritesSpec.pre enc Tryd.prog Tryd.f10 [] false w args ∧ laidMetH Tryd.prog laidS w) ∧ sizedMet enc Tryd.prog Tryd.f10 (OpenSpec.ofChange Rows.superWritesSpec) false w args)
      (Rows.superWritesSpec.post enc Tryd.prog Tryd.f10 false true false false) := by
  refine returnsInHanded_of_change_and (C := Tryd.checked) (X := fun w _ => laidMetH Tryd.prog laidS w) (fun _ _ _ hh h => h.of_heap hh) own started (by kernel_rfl) Tryd.func10
    (ChangeSpec.witness_at (enc := enc) (C := Tryd.checked) (os := os) (X := fun w _ => laidMetH Tryd.prog laidS w) false (laidWorldS os) #[.string ByteArray.empty, supVal zeroSup, .string ByteArray.empty] 8 rfl (by kernel_rfl) (by kernel_rfl) (by kernel_rfl) (by kernel_rfl) (by kernel_rfl) (laidWorldS_met os _)) ?_
  intro W base args ds gs before hval0 hW _ _ hL _
  have hval : ∀ (j : Nat) t v, Tryd.f10.params[j]? = some t → args[j]? = some v → Value.okWide Tryd.prog W .any base t v := hval0
  have hW' := hW
  obtain ⟨p, q, hA0, hV, rfl, hfz, hnd⟩ := hW
  have hA : DataW.TrodAll enc Tryd.prog W 0 (fun _ => true) true Tryd.f10.params.toList args.toList ds p := hA0
  rw [Tryd.params10] at hA hval
  obtain ⟨v0, vs0, d0, ds0, p0, q0, hargs, rfl, rfl, h0, r0⟩ := trodAll_cons hA
  obtain ⟨v1, vs1, d1, ds1, p1, q1, rfl, rfl, rfl, h1, r1⟩ := trodAll_cons r0
  obtain ⟨v2, vs2, d2, ds2, p2, q2, rfl, rfl, rfl, h2, r2⟩ := trodAll_cons r1
  obtain ⟨rfl, rfl, rfl⟩ := trodAll_nil r2
  obtain rfl : args = #[v0, v1, v2] := by cases args; simp_all
  obtain ⟨rfl, rfl⟩ := trodVars_none hV
  obtain ⟨a0, rfl, rfl, rfl, w0⟩ := open_string Tryd.underlying9 (hval 0 9 v0 rfl rfl) h0
  have h1k := h1
  obtain ⟨a1, rfl, hs1⟩ := open_sup (hval 1 88 v1 rfl rfl) h1
  obtain ⟨a2, rfl, rfl, rfl, w2⟩ := open_string Tryd.underlying9 (hval 2 9 v2 rfl rfl) h2
  clear hA0 hval0
  simp only [List.append_nil] at hW'
  have hlt1 : ∀ x ∈ p1, x.block < W.heap.size := fun x hx => by simpa using hW'.lt x (by simp [hx])
  refine (walk a0 a1 hs1 a2 W (vars_of_laidS hL)).mono fun e W' ⟨he, hg⟩ => ?_
  subst he
  exact ⟨_, rfl, _, _, _, [], _, [], hW', trodAll_mk1 (shut_bool Tryd.underlying4 _), (trodAll_cons_mk (shut_string Tryd.underlying9 w0) (trodAll_cons_mk (Below.trod laidOut (by kernel_rfl) (of_decide_eq_true (by kernel_rfl)) h1k hg hlt1) (trodAll_cons_mk (shut_string Tryd.underlying9 w2) trodAll_mk0))), rfl, hg.frame _, fun h => by cases h⟩

theorem over : Rows.SuperWritesSaid :=
  OpenClaim.holds_of_wide 10 Tryd.f10 rfl rfl rfl rfl rfl rfl rfl ⟨rfl, rfl, rfl, rfl, rfl⟩ rfl rfl rfl rfl rfl (by kernel_rfl) Tryd.func10 (by kernel_rfl)
    (of_decide_eq_true (by kernel_rfl)) (by unfold Func.isWrapper; first | (rw [if_pos (by decide +kernel)]; kernel_rfl) | (rw [if_neg (by decide +kernel)]; exact ⟨rfl, rfl⟩))
    (fun os started H enc _ => lifted os started H enc)

theorem proved : Rows.SuperWritesCardSaid :=
  Claim7.holds_tied_plain_at .later [] [.data, .data, .handle, .pinned] true (true, "ac3d8caa43514afcae16b746ecd0912486d92fb2f2bd91d6b14db78740f5dda9") true
    over (fun _ h => by cases h) (by kernel_rfl) (fun _ h => by cases h) superWrites_row_tie rfl ⟨rfl, rfl⟩ (by kernel_rfl) rfl
    (fun f fn hf hfn => by
      obtain rfl : f = 10 := Option.some.inj ((show Tryd.prog.funcNamed "coffer/cofferlaw.SuperWrites" = some 10 by kernel_rfl).symm.trans hf) |>.symm
      obtain rfl : fn = Tryd.f10 := (Option.some.inj (Tryd.func10.symm.trans hfn)).symm
      exact ⟨by kernel_rfl, fun j t ht => by
        rw [Tryd.params10] at ht
        have hall : ∀ t ∈ [9, 88, 9], Tryd.prog.wantsStandIn t = false := by
          intro t ht
          simp only [List.mem_cons, List.not_mem_nil, or_false] at ht
          rcases ht with rfl | rfl | rfl <;> kernel_rfl
        exact hall t (List.mem_of_getElem? (by simpa using ht))⟩)
    (by kernel_rfl)
end Go.Proofs.YtndcaaikjcicgaaDoor.superWrites
