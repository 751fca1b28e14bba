/-
  DERIVED. DeviceKeeps: what a device has, whatever is written, made sure, lost, and laid down, and its counter, is the document's. For every input; no condition but the row's own (errors.errorType as its text lays it).
-/
import Derived.Test.YtndcaaikjcicgaaDoorLaid
import Derived.WalkKit
import Derived.ProofKit
import Derived.OpenShut
import Derived.ShutString
import Derived.ChangeOld
import Derived.ChangeSlices
import Derived.Below
import Derived.Carry
import Derived.SliceStrings
import Derived.SizedLaws
import Derived.Test.YtndcaaikjcicgaaDoorKeeps
import Derived.Test.YtndcaaikjcicgaaDoorTie
import Derived.Test.YtndcaaikjcicgaaDoorCards
import Derived.SevenTiedAt
set_option linter.unusedSimpArgs false
namespace Go.Proofs.YtndcaaikjcicgaaDoor.deviceKeeps
open Go.ChangeShapes Go.WideShapes Go.ChangeAt Go.RowKit Go.Cof
open Go.ChangeMaps (open_string shut_string)
set_option linter.unusedVariables false

theorem laidOut : laidOutB Tryd.prog = true := by kernel_rfl
theorem cellsStr : Tryd.prog.cellsOf 9 = 1 := by kernel_rfl
theorem strs_of {W : World} {b off len cap : Nat} {ss : List ByteArray} (hl : len ≤ ss.length) (hb : b < W.heap.size) (hcell : ∀ i, i < ss.length → W.cell? ((⟨b, off, none⟩ : Addr).add i) = some (.string (ss.getD i ByteArray.empty))) :
    Strs W (.slice (some ⟨b, off, none⟩) len cap) (ss.take len) := by
  have hlen : (ss.take len).length = len := by rw [List.length_take]; omega
  refine .inr ⟨b, off, cap, by rw [hlen], hb, fun i hi => ?_⟩
  rw [hlen] at hi
  have hadd : (⟨b, off, none⟩ : Addr).add i = ⟨b, off + i, none⟩ := by unfold Addr.add; split <;> simp_all
  have h := hcell i (by omega)
  rw [hadd] at h
  rw [h]
  have e : (ss.take len).getD i ⟨#[]⟩ = ss.getD i ByteArray.empty := by
    rw [List.getD_eq_getElem?_getD, List.getElem?_take, if_pos hi, List.getD_eq_getElem?_getD]; rfl
  rw [e]

theorem open_strs {W : World} {H : Type} {enc : TypeId × Value → H} {a : Option Addr} {len cap fuel : Nat} {d : DataW H} {p : List MemPlace} (hf : DataW.trod enc Tryd.prog W 0 (fun _ => true) true fuel 22 (Value.slice a len cap).cells.toList = some (d, p)) (hlt : ∀ x ∈ p, x.block < W.heap.size) :
    ∃ l, Strs W (.slice a len cap) l ∧ l.length ≤ maxLen := by
  rcases open_strings Tryd.underlying22 Tryd.underlying9 cellsStr hf with ⟨hcs, hx⟩ | ⟨a, len', cap', ss, hcs, _, hl, hm, hz, hx, hcell, hws⟩
  · simp [Value.cells] at hcs
    obtain ⟨rfl, rfl, rfl⟩ := hcs
    exact ⟨[], .inl ⟨rfl, _, _, rfl⟩, Nat.zero_le _⟩
  · simp [Value.cells] at hcs
    obtain ⟨rfl, rfl, rfl⟩ := hcs
    simp only [if_true] at hz
    by_cases hl0 : len = 0
    · subst hl0
      exact ⟨[], .inl ⟨rfl, _, _, rfl⟩, Nat.zero_le _⟩
    · obtain ⟨b, off, spot⟩ := a
      have hspot : spot = none := by simpa [Addr.add] using World.cell?_spot (hcell 0 (by omega))
      subst hspot
      simp only [Prod.mk.injEq] at hx
      obtain ⟨rfl, rfl⟩ := hx
      have hbW : b < W.heap.size := hlt (.cell b off) (MemPlace.mem_row.2 ⟨0, by omega, by simp⟩)
      exact ⟨_, strs_of (by omega) hbW hcell, by rw [List.length_take]; omega⟩
theorem cellsInt : Tryd.prog.cellsOf 3 = 1 := by kernel_rfl
theorem cellsBool : Tryd.prog.cellsOf 4 = 1 := by kernel_rfl
theorem cellsBools : Tryd.prog.cellsOf 53 = 1 := by kernel_rfl
theorem cellsOp : Tryd.prog.cellsOf 73 = 4 := by kernel_rfl
theorem add_none (b off i : Nat) : (⟨b, off, none⟩ : Addr).add i = ⟨b, off + i, none⟩ := by unfold Addr.add; split <;> simp_all
set_option maxRecDepth 100000 in
theorem open_bools {W : World} {H : Type} {enc : TypeId × Value → H} {cs : List Value} {fuel : Nat} {d : DataW H} {p : List MemPlace} (hf : DataW.trod enc Tryd.prog W 0 (fun _ => true) true fuel 53 cs = some (d, p)) (hlt : ∀ x ∈ p, x.block < W.heap.size) :
    ∃ v l, cs = [v] ∧ Bools W v l := by
  rcases DataW.trod_slice Tryd.underlying53 hf with ⟨rfl, hx⟩ | ⟨a, len, cap, elems, rest, n, _, rfl, hx, hb, hl, hm, hlen, hel, -, -⟩
  · exact ⟨_, [], rfl, .inl ⟨rfl, _, _, rfl⟩⟩
  · by_cases hl0 : len = 0
    · subst hl0
      exact ⟨_, [], rfl, .inl ⟨rfl, _, _, rfl⟩⟩
    · have each : ∀ i, i < len → ∃ b, W.cell? (a.add i) = some (.bool b) := by
        intro i hi
        have h1 := hel i hi
        rw [List.getElem?_eq_getElem (by omega), cellsBool, Nat.mul_one, Option.bind_eq_some_iff] at h1
        obtain ⟨cs', hcs, hy⟩ := h1
        obtain ⟨b, rfl, _⟩ := DataW.trod_bool Tryd.underlying4 hy
        exact ⟨b, cell_of_cells?_one hcs⟩
      obtain ⟨b, off, spot⟩ := a
      have hspot : spot = none := by
        obtain ⟨b0, h0⟩ := each 0 (by omega)
        simpa [Addr.add] using World.cell?_spot h0
      subst hspot
      simp only [Prod.mk.injEq] at hx
      obtain ⟨rfl, rfl⟩ := hx
      have hbW : b < W.heap.size := hlt (.cell b off) (List.mem_append_left _ (MemPlace.mem_row.2 ⟨0, by rw [cellsBool]; omega, by simp⟩))
      refine ⟨_, (List.range len).map (fun i => match W.cell? ⟨b, off + i, none⟩ with | some (.bool x) => x | _ => false), rfl, .inr ⟨b, off, cap, by simp, hbW, fun i hi => ?_⟩⟩
      have hi' : i < len := by simpa using hi
      obtain ⟨x, hx⟩ := each i hi'
      rw [add_none] at hx
      rw [hx, List.getD_eq_getElem?_getD, List.getElem?_map, List.getElem?_range hi']
      simp [hx]
set_option maxRecDepth 100000 in
theorem open_op {W : World} {H : Type} {enc : TypeId × Value → H} {cs : List Value} {fuel : Nat} {d : DataW H} {p : List MemPlace} (hf : DataW.trod enc Tryd.prog W 0 (fun _ => true) true fuel 73 cs = some (d, p)) (hlt : ∀ x ∈ p, x.block < W.heap.size) :
    ∃ o : OpV, cs = [.int .i64 o.what, .int .i64 o.at_, .string o.s, o.kv] ∧ Bools W o.kv o.keeps ∧ -9223372036854775808 ≤ o.at_ ∧ o.at_ ≤ 9223372036854775807 := by
  obtain ⟨xs, n, -, hx, hl, hxl, hfs⟩ := DataW.trod_struct Tryd.underlying73 hf
  have f0 : DataW.trod enc Tryd.prog W 0 (fun _ => true) true n 3 ((cs.drop 0).take (Tryd.prog.cellsOf 3)) = xs[0]? := hfs 0 _ rfl
  have f1 : DataW.trod enc Tryd.prog W 0 (fun _ => true) true n 3 ((cs.drop 1).take (Tryd.prog.cellsOf 3)) = xs[1]? := hfs 1 _ rfl
  have f2 : DataW.trod enc Tryd.prog W 0 (fun _ => true) true n 9 ((cs.drop 2).take (Tryd.prog.cellsOf 9)) = xs[2]? := hfs 2 _ rfl
  have f3 : DataW.trod enc Tryd.prog W 0 (fun _ => true) true n 53 ((cs.drop 3).take (Tryd.prog.cellsOf 53)) = xs[3]? := hfs 3 _ rfl
  rw [cellsOp] at hl
  obtain ⟨c0, c1, c2, c3, rfl⟩ : ∃ c0 c1 c2 c3, cs = [c0, c1, c2, c3] := by
    match cs, hl with
    | [c0, c1, c2, c3], _ => exact ⟨c0, c1, c2, c3, rfl⟩
  obtain ⟨x0, x1, x2, x3, rfl⟩ : ∃ x0 x1 x2 x3, xs = [x0, x1, x2, x3] := by
    match xs, hxl with
    | [x0, x1, x2, x3], _ => exact ⟨x0, x1, x2, x3, rfl⟩
  rw [cellsInt] at f0 f1
  rw [cellsStr] at f2
  rw [cellsBools] at f3
  obtain ⟨z0, e0, _, _⟩ := DataW.trod_int Tryd.underlying3 f0
  obtain ⟨z1, e1, _, hw⟩ := DataW.trod_int Tryd.underlying3 f1
  obtain ⟨s2, e2, _, _⟩ := DataW.trod_string Tryd.underlying9 f2
  simp only [Prod.mk.injEq] at hx
  obtain ⟨rfl, rfl⟩ := hx
  obtain ⟨v, l, e3, B⟩ := open_bools f3 (fun y hy => hlt y (by simp [hy]))
  have g0 : c0 = .int .i64 z0 := by simpa using e0
  have g1 : c1 = .int .i64 z1 := by simpa using e1
  have g2 : c2 = .string s2 := by simpa using e2
  have g3 : c3 = v := by simpa using e3
  subst g0 g1 g2 g3
  refine ⟨⟨z0, z1, s2, c3, l⟩, rfl, B, ?_⟩
  have q1 : IntKind.i64.min = -9223372036854775808 := rfl
  simp [Lit.wf, q1] at hw
  show -9223372036854775808 ≤ z1 ∧ z1 ≤ 9223372036854775807
  omega
theorem cells4 {W : World} {base : Nat} {a : Addr} {x0 x1 x2 x3 : Value} (h : W.cells? base a 4 = some [x0, x1, x2, x3]) : W.cell? (a.add 0) = some x0 ∧ W.cell? (a.add 1) = some x1 ∧ W.cell? (a.add 2) = some x2 ∧ W.cell? (a.add 3) = some x3 := by
  have h1 := (World.cells?_some h).2.2
  exact ⟨h1 0 (by omega), h1 1 (by omega), h1 2 (by omega), h1 3 (by omega)⟩
set_option maxRecDepth 100000 in
theorem open_ops {W : World} {H : Type} {enc : TypeId × Value → H} {a : Option Addr} {len cap fuel : Nat} {d : DataW H} {p : List MemPlace} (hf : DataW.trod enc Tryd.prog W 0 (fun _ => true) true fuel 69 (Value.slice a len cap).cells.toList = some (d, p)) (hlt : ∀ x ∈ p, x.block < W.heap.size) :
    ∃ l, Ops W (.slice a len cap) l := by
  by_cases hl0 : len = 0
  · subst hl0
    exact ⟨[], .inl ⟨rfl, _, _, rfl⟩⟩
  · rcases DataW.trod_slice Tryd.underlying69 hf with ⟨hcs, hx⟩ | ⟨a, len', cap', elems, rest, n, _, hcs, hx, hb, hl, hm, hlen, hel, -, -⟩
    · simp [Value.cells] at hcs
      omega
    · simp [Value.cells] at hcs
      obtain ⟨rfl, rfl, rfl⟩ := hcs
      simp only [Prod.mk.injEq] at hx
      obtain ⟨rfl, rfl⟩ := hx
      have each : ∀ i, i < len → ∃ o : OpV, (W.cell? (a.add (i * 4 + 0)) = some (.int .i64 o.what) ∧ W.cell? (a.add (i * 4 + 1)) = some (.int .i64 o.at_) ∧ W.cell? (a.add (i * 4 + 2)) = some (.string o.s) ∧ W.cell? (a.add (i * 4 + 3)) = some o.kv) ∧ Bools W o.kv o.keeps ∧ -9223372036854775808 ≤ o.at_ ∧ o.at_ ≤ 9223372036854775807 := by
        intro i hi
        have h1 := hel i hi
        have hei : elems[i]? = some (elems[i]'(by omega)) := List.getElem?_eq_getElem (by omega)
        rw [hei, cellsOp, Option.bind_eq_some_iff] at h1
        obtain ⟨cs', hcs, hy⟩ := h1
        obtain ⟨o, rfl, B, lo, hi'⟩ := open_op hy (fun y hy => hlt y (List.mem_append_right _ (List.mem_flatMap.2 ⟨_, List.mem_append_left _ (List.getElem_mem (by omega)), hy⟩)))
        have h4 := cells4 hcs
        simp only [Addr.add_add] at h4
        exact ⟨o, h4, B, lo, hi'⟩
      obtain ⟨b, off, spot⟩ := a
      have hspot : spot = none := by
        obtain ⟨o, ⟨h0, _⟩, _⟩ := each 0 (by omega)
        simpa [Addr.add] using World.cell?_spot h0
      subst hspot
      have hbW : b < W.heap.size := hlt (.cell b off) (List.mem_append_left _ (MemPlace.mem_row.2 ⟨0, by rw [cellsOp]; omega, by simp⟩))
      have key : ∃ l : List OpV, l.length = len ∧ ∀ i o, l[i]? = some o → OpAt W b (off + i * 4) o := by
        have hch : ∀ i : Fin len, ∃ o : OpV, OpAt W b (off + i.1 * 4) o := fun i => by
          obtain ⟨o, ⟨h0, h1, h2, h3⟩, B, lo, hi'⟩ := each i.1 i.2
          rw [add_none] at h0 h1 h2 h3
          exact ⟨o, ⟨by simpa using h0, by rw [Nat.add_assoc]; exact h1, by rw [Nat.add_assoc]; exact h2, by rw [Nat.add_assoc]; exact h3, B, lo, hi'⟩⟩
        refine ⟨List.ofFn fun i => (hch i).choose, by simp, fun i o hio => ?_⟩
        rw [List.getElem?_ofFn] at hio
        split at hio
        · rename_i hi
          cases hio
          exact (hch ⟨i, hi⟩).choose_spec
        · cases hio
      obtain ⟨l, rfl, hall⟩ := key
      exact ⟨l, .inr ⟨b, off, cap, rfl, hbW, hall⟩⟩
set_option maxRecDepth 100000 in
theorem lifted (os : Os) (started : os.Started) (H : Type) (enc : TypeId × Value → H) :
    ReturnsInHanded {} Tryd.checked os 8 .any (fun w args => (Rows.deviceKeepsSpec.pre enc Tryd.prog Tryd.f8 [] false w args ∧ laidMetH Tryd.prog [("errors.errorType", Rows.laid_errors_errorType)] w) ∧ sizedMet enc Tryd.prog Tryd.f8 (OpenSpec.ofChange Rows.deviceKeepsSpec) false w args)
      (Rows.deviceKeepsSpec.post enc Tryd.prog Tryd.f8 false true false false) := by
  refine returnsInHanded_of_change_and (C := Tryd.checked) (X := fun w _ => laidMetH Tryd.prog [("errors.errorType", Rows.laid_errors_errorType)] w) (fun _ _ _ hh h => h.of_heap hh) own started (by kernel_rfl) Tryd.func8
    (ChangeSpec.witness_at (enc := enc) (C := Tryd.checked) (os := os) (X := fun w _ => laidMetH Tryd.prog [("errors.errorType", Rows.laid_errors_errorType)] w) false (laidWorld os) #[.slice none 0 0, .slice none 0 0] 8 rfl (by kernel_rfl) (by kernel_rfl) (by kernel_rfl) (by kernel_rfl) (by kernel_rfl) (laidWorld_met os _)) ?_
  intro W base args ds gs before hval0 hW _ _ hL _
  have hval : ∀ (j : Nat) t v, Tryd.f8.params[j]? = some t → args[j]? = some v → Value.okWide Tryd.prog W .any base t v := hval0
  have hW' := hW
  obtain ⟨p, q, hA0, hV, rfl, hfz, hnd⟩ := hW
  have hA : DataW.TrodAll enc Tryd.prog W 0 (fun _ => true) true Tryd.f8.params.toList args.toList ds p := hA0
  rw [Tryd.params8] at hA hval
  obtain ⟨v0, vs0, d0, ds0, p0, q0, hargs, rfl, rfl, h0, r0⟩ := trodAll_cons hA
  obtain ⟨v1, vs1, d1, ds1, p1, q1, rfl, rfl, rfl, h1, r1⟩ := trodAll_cons r0
  obtain ⟨rfl, rfl, rfl⟩ := trodAll_nil r1
  obtain rfl : args = #[v0, v1] := by cases args; simp_all
  obtain ⟨rfl, rfl⟩ := trodVars_none hV
  obtain ⟨a0, len0, cap0, rfl⟩ := okWide_slice Tryd.underlying69 (hval 0 69 v0 rfl rfl)
  obtain ⟨a1, len1, cap1, rfl⟩ := okWide_slice Tryd.underlying22 (hval 1 22 v1 rfl rfl)
  have h0k := h0
  have h1k := h1
  obtain ⟨fuel0, hf0⟩ := h0
  obtain ⟨fuel1, hf1⟩ := h1
  clear hA0 hval0
  simp only [List.append_nil] at hW'
  have hlt0 : ∀ x ∈ p0, x.block < W.heap.size := fun x hx => by simpa using hW'.lt x (by simp [hx])
  have hlt1 : ∀ x ∈ p1, x.block < W.heap.size := fun x hx => by simpa using hW'.lt x (by simp [hx])
  obtain ⟨l, O⟩ := open_ops hf0 hlt0
  obtain ⟨first, T, hl⟩ := open_strs hf1 hlt1
  refine (deviceKeeps_any _ _ W (errVar_of_laid hL) l O first T).mono fun e W' ⟨he, hk⟩ => ?_
  subst he
  have hg := hk.toBelow
  exact ⟨_, rfl, _, _, _, [], _, [], hW', trodAll_mk1 (shut_bool Tryd.underlying4 _), (trodAll_cons_mk (Below.trod laidOut (by kernel_rfl) (of_decide_eq_true (by kernel_rfl)) h0k hg hlt0) (trodAll_cons_mk (Below.trod laidOut (by kernel_rfl) (of_decide_eq_true (by kernel_rfl)) h1k hg hlt1) trodAll_mk0)), rfl, hg.frame _, fun h => by cases h⟩

theorem over : Rows.DeviceKeepsSaid :=
  OpenClaim.holds_of_wide 8 Tryd.f8 rfl rfl rfl rfl rfl rfl rfl ⟨rfl, rfl, rfl, rfl, rfl⟩ rfl rfl rfl rfl rfl (by kernel_rfl) Tryd.func8 (by kernel_rfl)
    (of_decide_eq_true (by kernel_rfl)) (by unfold Func.isWrapper; first | (rw [if_pos (by decide +kernel)]; kernel_rfl) | (rw [if_neg (by decide +kernel)]; exact ⟨rfl, rfl⟩))
    (fun os started H enc _ => lifted os started H enc)

theorem proved : Rows.DeviceKeepsCardSaid :=
  Claim7.holds_tied_plain_at .later [] [.handle] true (true, "ac3d8caa43514afcae16b746ecd0912486d92fb2f2bd91d6b14db78740f5dda9") true
    over (fun _ h => by cases h) (by kernel_rfl) (fun _ h => by cases h) deviceKeeps_row_tie rfl ⟨rfl, rfl⟩ (by kernel_rfl) rfl
    (fun f fn hf hfn => by
      obtain rfl : f = 8 := Option.some.inj ((show Tryd.prog.funcNamed "coffer/cofferlaw.DeviceKeeps" = some 8 by kernel_rfl).symm.trans hf) |>.symm
      obtain rfl : fn = Tryd.f8 := (Option.some.inj (Tryd.func8.symm.trans hfn)).symm
      exact ⟨by kernel_rfl, fun j t ht => by
        rw [Tryd.params8] at ht
        have hall : ∀ t ∈ [69, 22], Tryd.prog.wantsStandIn t = false := by
          intro t ht
          simp only [List.mem_cons, List.not_mem_nil, or_false] at ht
          rcases ht with rfl | rfl <;> kernel_rfl
        exact hall t (List.mem_of_getElem? (by simpa using ht))⟩)
    (by kernel_rfl)
end Go.Proofs.YtndcaaikjcicgaaDoor.deviceKeeps
