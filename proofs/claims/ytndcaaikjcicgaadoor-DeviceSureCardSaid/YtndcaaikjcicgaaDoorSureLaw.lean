/-
  DERIVED. DeviceSure: whatever is written behind a Sync, and lost, each block is as it was, or as it was written behind it some time. For every input; no condition but the row's own (errors.errorType as its text lays it).
-/
import Derived.Test.YtndcaaikjcicgaaDoorLaid
import Derived.WalkKit
import Derived.ProofKit
import Derived.OpenShut
import Derived.ShutString
import Derived.ChangeOld
import Derived.ChangeSlices
import Derived.Below
import Derived.Carry
import Derived.SliceStrings
import Derived.SizedLaws
import Derived.Test.YtndcaaikjcicgaaDoorSure4
import Derived.Test.YtndcaaikjcicgaaDoorTie
import Derived.Test.YtndcaaikjcicgaaDoorCards
import Derived.SevenTiedAt
set_option linter.unusedSimpArgs false
namespace Go.Proofs.YtndcaaikjcicgaaDoor.deviceSure
open Go.ChangeShapes Go.WideShapes Go.ChangeAt Go.RowKit Go.Cof
open Go.ChangeMaps (open_string shut_string)
set_option linter.unusedVariables false

theorem laidOut : laidOutB Tryd.prog = true := by kernel_rfl
theorem cellsInt : Tryd.prog.cellsOf 3 = 1 := by kernel_rfl
theorem nums_of {W : World} {b off len cap : Nat} {zs : List Int} (hl : len ≤ zs.length) (hb : b < W.heap.size) (hcell : ∀ i, i < zs.length → W.cell? ((⟨b, off, none⟩ : Addr).add i) = some (.int .i64 (zs.getD i 0))) :
    Nums W (.slice (some ⟨b, off, none⟩) len cap) (zs.take len) := by
  have hlen : (zs.take len).length = len := by rw [List.length_take]; omega
  refine .inr ⟨b, off, cap, by rw [hlen], hb, fun i hi => ?_⟩
  rw [hlen] at hi
  have hadd : (⟨b, off, none⟩ : Addr).add i = ⟨b, off + i, none⟩ := by unfold Addr.add; split <;> simp_all
  have h := hcell i (by omega)
  rw [hadd] at h
  rw [h]
  have e : (zs.take len).getD i 0 = zs.getD i 0 := by
    rw [List.getD_eq_getElem?_getD, List.getElem?_take, if_pos hi, List.getD_eq_getElem?_getD]
  rw [e]
theorem cellsStr : Tryd.prog.cellsOf 9 = 1 := by kernel_rfl
theorem strs_of {W : World} {b off len cap : Nat} {ss : List ByteArray} (hl : len ≤ ss.length) (hb : b < W.heap.size) (hcell : ∀ i, i < ss.length → W.cell? ((⟨b, off, none⟩ : Addr).add i) = some (.string (ss.getD i ByteArray.empty))) :
    Strs W (.slice (some ⟨b, off, none⟩) len cap) (ss.take len) := by
  have hlen : (ss.take len).length = len := by rw [List.length_take]; omega
  refine .inr ⟨b, off, cap, by rw [hlen], hb, fun i hi => ?_⟩
  rw [hlen] at hi
  have hadd : (⟨b, off, none⟩ : Addr).add i = ⟨b, off + i, none⟩ := by unfold Addr.add; split <;> simp_all
  have h := hcell i (by omega)
  rw [hadd] at h
  rw [h]
  have e : (ss.take len).getD i ⟨#[]⟩ = ss.getD i ByteArray.empty := by
    rw [List.getD_eq_getElem?_getD, List.getElem?_take, if_pos hi, List.getD_eq_getElem?_getD]; rfl
  rw [e]

theorem open_strs {W : World} {H : Type} {enc : TypeId × Value → H} {a : Option Addr} {len cap fuel : Nat} {d : DataW H} {p : List MemPlace} (hf : DataW.trod enc Tryd.prog W 0 (fun _ => true) true fuel 22 (Value.slice a len cap).cells.toList = some (d, p)) (hlt : ∀ x ∈ p, x.block < W.heap.size) :
    ∃ l, Strs W (.slice a len cap) l ∧ l.length ≤ maxLen := by
  rcases open_strings Tryd.underlying22 Tryd.underlying9 cellsStr hf with ⟨hcs, hx⟩ | ⟨a, len', cap', ss, hcs, _, hl, hm, hz, hx, hcell, hws⟩
  · simp [Value.cells] at hcs
    obtain ⟨rfl, rfl, rfl⟩ := hcs
    exact ⟨[], .inl ⟨rfl, _, _, rfl⟩, Nat.zero_le _⟩
  · simp [Value.cells] at hcs
    obtain ⟨rfl, rfl, rfl⟩ := hcs
    simp only [if_true] at hz
    by_cases hl0 : len = 0
    · subst hl0
      exact ⟨[], .inl ⟨rfl, _, _, rfl⟩, Nat.zero_le _⟩
    · obtain ⟨b, off, spot⟩ := a
      have hspot : spot = none := by simpa [Addr.add] using World.cell?_spot (hcell 0 (by omega))
      subst hspot
      simp only [Prod.mk.injEq] at hx
      obtain ⟨rfl, rfl⟩ := hx
      have hbW : b < W.heap.size := hlt (.cell b off) (MemPlace.mem_row.2 ⟨0, by omega, by simp⟩)
      exact ⟨_, strs_of (by omega) hbW hcell, by rw [List.length_take]; omega⟩
theorem open_nums {W : World} {H : Type} {enc : TypeId × Value → H} {a : Option Addr} {len cap fuel : Nat} {d : DataW H} {p : List MemPlace} (hf : DataW.trod enc Tryd.prog W 0 (fun _ => true) true fuel 30 (Value.slice a len cap).cells.toList = some (d, p)) (hlt : ∀ x ∈ p, x.block < W.heap.size) :
    ∃ l, Nums W (.slice a len cap) l ∧ l.length ≤ maxLen := by
  rcases open_ints Tryd.underlying30 Tryd.underlying3 cellsInt hf with ⟨hcs, hx⟩ | ⟨a, len', cap', zs, hcs, _, hl, hm, hz, hx, hcell, hws⟩
  · simp [Value.cells] at hcs
    obtain ⟨rfl, rfl, rfl⟩ := hcs
    exact ⟨[], .inl ⟨rfl, _, _, rfl⟩, Nat.zero_le _⟩
  · simp [Value.cells] at hcs
    obtain ⟨rfl, rfl, rfl⟩ := hcs
    simp only [if_true] at hz
    by_cases hl0 : len = 0
    · subst hl0
      exact ⟨[], .inl ⟨rfl, _, _, rfl⟩, Nat.zero_le _⟩
    · obtain ⟨b, off, spot⟩ := a
      have hspot : spot = none := by simpa [Addr.add] using World.cell?_spot (hcell 0 (by omega))
      subst hspot
      simp only [Prod.mk.injEq] at hx
      obtain ⟨rfl, rfl⟩ := hx
      have hbW : b < W.heap.size := hlt (.cell b off) (MemPlace.mem_row.2 ⟨0, by omega, by simp⟩)
      exact ⟨_, nums_of (by omega) hbW hcell, by rw [List.length_take]; omega⟩
theorem cellsBool : Tryd.prog.cellsOf 4 = 1 := by kernel_rfl
theorem add_none (b off i : Nat) : (⟨b, off, none⟩ : Addr).add i = ⟨b, off + i, none⟩ := by unfold Addr.add; split <;> simp_all
set_option maxRecDepth 100000 in
theorem open_bools {W : World} {H : Type} {enc : TypeId × Value → H} {cs : List Value} {fuel : Nat} {d : DataW H} {p : List MemPlace} (hf : DataW.trod enc Tryd.prog W 0 (fun _ => true) true fuel 53 cs = some (d, p)) (hlt : ∀ x ∈ p, x.block < W.heap.size) :
    ∃ v l, cs = [v] ∧ Bools W v l ∧ l.length ≤ maxLen := by
  rcases DataW.trod_slice Tryd.underlying53 hf with ⟨rfl, hx⟩ | ⟨a, len, cap, elems, rest, n, _, rfl, hx, hb, hl, hm, hlen, hel, -, -⟩
  · exact ⟨_, [], rfl, .inl ⟨rfl, _, _, rfl⟩, Nat.zero_le _⟩
  · by_cases hl0 : len = 0
    · subst hl0
      exact ⟨_, [], rfl, .inl ⟨rfl, _, _, rfl⟩, Nat.zero_le _⟩
    · have each : ∀ i, i < len → ∃ b, W.cell? (a.add i) = some (.bool b) := by
        intro i hi
        have h1 := hel i hi
        rw [List.getElem?_eq_getElem (by omega), cellsBool, Nat.mul_one, Option.bind_eq_some_iff] at h1
        obtain ⟨cs', hcs, hy⟩ := h1
        obtain ⟨b, rfl, _⟩ := DataW.trod_bool Tryd.underlying4 hy
        exact ⟨b, cell_of_cells?_one hcs⟩
      obtain ⟨b, off, spot⟩ := a
      have hspot : spot = none := by
        obtain ⟨b0, h0⟩ := each 0 (by omega)
        simpa [Addr.add] using World.cell?_spot h0
      subst hspot
      simp only [Prod.mk.injEq] at hx
      obtain ⟨rfl, rfl⟩ := hx
      have hbW : b < W.heap.size := hlt (.cell b off) (List.mem_append_left _ (MemPlace.mem_row.2 ⟨0, by rw [cellsBool]; omega, by simp⟩))
      refine ⟨_, (List.range len).map (fun i => match W.cell? ⟨b, off + i, none⟩ with | some (.bool x) => x | _ => false), rfl, .inr ⟨b, off, cap, by simp, hbW, fun i hi => ?_⟩, by simp; omega⟩
      have hi' : i < len := by simpa using hi
      obtain ⟨x, hx⟩ := each i hi'
      rw [add_none] at hx
      rw [hx, List.getD_eq_getElem?_getD, List.getElem?_map, List.getElem?_range hi']
      simp [hx]
set_option maxRecDepth 100000 in
theorem lifted (os : Os) (started : os.Started) (H : Type) (enc : TypeId × Value → H) :
    ReturnsInHanded {} Tryd.checked os 7 .any (fun w args => (Rows.deviceSureSpec.pre enc Tryd.prog Tryd.f7 [] false w args ∧ laidMetH Tryd.prog [("errors.errorType", Rows.laid_errors_errorType)] w) ∧ sizedMet enc Tryd.prog Tryd.f7 (OpenSpec.ofChange Rows.deviceSureSpec) false w args)
      (Rows.deviceSureSpec.post enc Tryd.prog Tryd.f7 false true false false) := by
  refine returnsInHanded_of_change_and (C := Tryd.checked) (X := fun w _ => laidMetH Tryd.prog [("errors.errorType", Rows.laid_errors_errorType)] w) (fun _ _ _ hh h => h.of_heap hh) own started (by kernel_rfl) Tryd.func7
    (ChangeSpec.witness_at (enc := enc) (C := Tryd.checked) (os := os) (X := fun w _ => laidMetH Tryd.prog [("errors.errorType", Rows.laid_errors_errorType)] w) false (laidWorld os) #[.slice none 0 0, .slice none 0 0, .slice none 0 0, .slice none 0 0] 8 rfl (by kernel_rfl) (by kernel_rfl) (by kernel_rfl) (by kernel_rfl) (by kernel_rfl) (laidWorld_met os _)) ?_
  intro W base args ds gs before hval0 hW _ _ hL _
  have hval : ∀ (j : Nat) t v, Tryd.f7.params[j]? = some t → args[j]? = some v → Value.okWide Tryd.prog W .any base t v := hval0
  have hW' := hW
  obtain ⟨p, q, hA0, hV, rfl, hfz, hnd⟩ := hW
  have hA : DataW.TrodAll enc Tryd.prog W 0 (fun _ => true) true Tryd.f7.params.toList args.toList ds p := hA0
  rw [Tryd.params7] at hA hval
  obtain ⟨v0, vs0, d0, ds0, p0, q0, hargs, rfl, rfl, h0, r0⟩ := trodAll_cons hA
  obtain ⟨v1, vs1, d1, ds1, p1, q1, rfl, rfl, rfl, h1, r1⟩ := trodAll_cons r0
  obtain ⟨v2, vs2, d2, ds2, p2, q2, rfl, rfl, rfl, h2, r2⟩ := trodAll_cons r1
  obtain ⟨v3, vs3, d3, ds3, p3, q3, rfl, rfl, rfl, h3, r3⟩ := trodAll_cons r2
  obtain ⟨rfl, rfl, rfl⟩ := trodAll_nil r3
  obtain rfl : args = #[v0, v1, v2, v3] := by cases args; simp_all
  obtain ⟨rfl, rfl⟩ := trodVars_none hV
  obtain ⟨a0, len0, cap0, rfl⟩ := okWide_slice Tryd.underlying22 (hval 0 22 v0 rfl rfl)
  obtain ⟨a1, len1, cap1, rfl⟩ := okWide_slice Tryd.underlying22 (hval 1 22 v1 rfl rfl)
  obtain ⟨a2, len2, cap2, rfl⟩ := okWide_slice Tryd.underlying30 (hval 2 30 v2 rfl rfl)
  obtain ⟨a3, len3, cap3, rfl⟩ := okWide_slice Tryd.underlying53 (hval 3 53 v3 rfl rfl)
  have h0k := h0
  have h1k := h1
  have h2k := h2
  have h3k := h3
  obtain ⟨fuel0, hf0⟩ := h0
  obtain ⟨fuel1, hf1⟩ := h1
  obtain ⟨fuel2, hf2⟩ := h2
  obtain ⟨fuel3, hf3⟩ := h3
  clear hA0 hval0
  simp only [List.append_nil] at hW'
  have hlt0 : ∀ x ∈ p0, x.block < W.heap.size := fun x hx => by simpa using hW'.lt x (by simp [hx])
  have hlt1 : ∀ x ∈ p1, x.block < W.heap.size := fun x hx => by simpa using hW'.lt x (by simp [hx])
  have hlt2 : ∀ x ∈ p2, x.block < W.heap.size := fun x hx => by simpa using hW'.lt x (by simp [hx])
  have hlt3 : ∀ x ∈ p3, x.block < W.heap.size := fun x hx => by simpa using hW'.lt x (by simp [hx])
  obtain ⟨l, T, hl⟩ := open_strs hf0 hlt0
  obtain ⟨more, M, hm⟩ := open_strs hf1 hlt1
  obtain ⟨ats, N, ha⟩ := open_nums hf2 hlt2
  obtain ⟨v3', keeps, hv3, B, hk3⟩ := open_bools hf3 hlt3
  have hv3' : v3' = .slice a3 len3 cap3 := by simpa [Value.cells] using hv3.symm
  subst hv3'
  refine (deviceSure_any _ _ _ _ l more ats keeps W (errVar_of_laid hL) T M N B hl hm ha hk3).mono fun e W' ⟨he, hk⟩ => ?_
  subst he
  have hg := hk.toBelow
  exact ⟨_, rfl, _, _, _, [], _, [], hW', trodAll_mk1 (shut_bool Tryd.underlying4 _), (trodAll_cons_mk (Below.trod laidOut (by kernel_rfl) (of_decide_eq_true (by kernel_rfl)) h0k hg hlt0) (trodAll_cons_mk (Below.trod laidOut (by kernel_rfl) (of_decide_eq_true (by kernel_rfl)) h1k hg hlt1) (trodAll_cons_mk (Below.trod laidOut (by kernel_rfl) (of_decide_eq_true (by kernel_rfl)) h2k hg hlt2) (trodAll_cons_mk (Below.trod laidOut (by kernel_rfl) (of_decide_eq_true (by kernel_rfl)) h3k hg hlt3) trodAll_mk0)))), rfl, hg.frame _, fun h => by cases h⟩

theorem over : Rows.DeviceSureSaid :=
  OpenClaim.holds_of_wide 7 Tryd.f7 rfl rfl rfl rfl rfl rfl rfl ⟨rfl, rfl, rfl, rfl, rfl⟩ rfl rfl rfl rfl rfl (by kernel_rfl) Tryd.func7 (by kernel_rfl)
    (of_decide_eq_true (by kernel_rfl)) (by unfold Func.isWrapper; first | (rw [if_pos (by decide +kernel)]; kernel_rfl) | (rw [if_neg (by decide +kernel)]; exact ⟨rfl, rfl⟩))
    (fun os started H enc _ => lifted os started H enc)

theorem proved : Rows.DeviceSureCardSaid :=
  Claim7.holds_tied_plain_at .later [] [.handle] true (true, "ac3d8caa43514afcae16b746ecd0912486d92fb2f2bd91d6b14db78740f5dda9") true
    over (fun _ h => by cases h) (by kernel_rfl) (fun _ h => by cases h) deviceSure_row_tie rfl ⟨rfl, rfl⟩ (by kernel_rfl) rfl
    (fun f fn hf hfn => by
      obtain rfl : f = 7 := Option.some.inj ((show Tryd.prog.funcNamed "coffer/cofferkeep.DeviceSure" = some 7 by kernel_rfl).symm.trans hf) |>.symm
      obtain rfl : fn = Tryd.f7 := (Option.some.inj (Tryd.func7.symm.trans hfn)).symm
      exact ⟨by kernel_rfl, fun j t ht => by
        rw [Tryd.params7] at ht
        have hall : ∀ t ∈ [22, 22, 30, 53], Tryd.prog.wantsStandIn t = false := by
          intro t ht
          simp only [List.mem_cons, List.not_mem_nil, or_false] at ht
          rcases ht with rfl | rfl | rfl | rfl <;> kernel_rfl
        exact hall t (List.mem_of_getElem? (by simpa using ht))⟩)
    (by kernel_rfl)
end Go.Proofs.YtndcaaikjcicgaaDoor.deviceSure
