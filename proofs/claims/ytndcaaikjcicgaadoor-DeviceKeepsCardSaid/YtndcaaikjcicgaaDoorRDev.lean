/-
  DERIVED. The walks of the reference's device: what it is in memory; spent, Fuse, Read.
-/
import Derived.Test.YtndcaaikjcicgaaDoorDevN
import Derived.Test.YtndcaaikjcicgaaDoorRefWords
set_option linter.unusedVariables false
set_option linter.unusedSimpArgs false
namespace Go.Cof
open Go.RowKit
theorem setCell_heap {w : World} {B i : Nat} {cur : Array Value} {E : TypeId} {fz : Nat × Nat} (h : w.heap[B]? = some (.cells cur E fz)) (u : Value) : (w.setCell ⟨B, i, none⟩ u).heap[B]? = some (.cells (cur.setIfInBounds i u) E fz) := by
  have hlt := lt_of_heap h
  have h' : w.heap[B] = .cells cur E fz := by simpa [Array.getElem?_eq_getElem hlt] using h
  show (w.heap.modify B _)[B]? = _
  rw [Array.getElem?_eq_getElem (by simpa using hlt), Array.getElem_modify_self, h']
  rfl
/-- A store into a row of one-celled elements. -/
theorem OwnsN.store {w : World} {base : Nat} {E : TypeId} {v : Value} {n : Nat} {xs : List Value} (h : OwnsN w base E 1 v n xs) {B : Nat} (hB : v.ownBlock = Option.some B) (i : Nat) (hi : i < n) (u : Value) : OwnsN (w.setCell ⟨B, i, none⟩ u) base E 1 v n (xs.set i u) := by
  refine ⟨by rw [List.length_set]; exact h.1, ?_⟩
  rcases h.2 with ⟨hv, _⟩ | ⟨g, cap, cur, fz, hv, hb, hg, hf, hc, hm, hs, ht⟩
  · rw [hv] at hB; cases hB
  · rw [hv] at hB
    obtain rfl : g = B := Option.some.inj hB
    refine .inr ⟨g, cap, cur.setIfInBounds i u, fz, hv, hb, setCell_heap hg u, by simpa using hf, hc, hm, by simpa using hs, ?_⟩
    rw [Array.toList_setIfInBounds, List.take_set, ht]
/-- A row's cell. -/
theorem OwnsN.at {w : World} {base : Nat} {E : TypeId} {v : Value} {n : Nat} {xs : List Value} (h : OwnsN w base E 1 v n xs) (hn : 0 < n) : ∃ g cap, v = .slice (Option.some ⟨g, 0, none⟩) n cap ∧ g < w.heap.size ∧ (∀ i u, xs[i]? = Option.some u → w.cell? ⟨g, i, none⟩ = Option.some u) ∧ ∀ i, i < n → w.frozen? ⟨g, i, none⟩ = false := by
  rcases h.2 with ⟨_, h0⟩ | ⟨g, cap, cur, fz, hv, hb, hg, hf, hc, hm, hs, ht⟩
  · omega
  · refine ⟨g, cap, hv, lt_of_heap hg, fun i u hu => ?_, fun i hi => ?_⟩
    · have := h.cells (g := g) (by rw [hv]; rfl) i u hu
      have hadd : (⟨g, 0, none⟩ : Addr).add i = ⟨g, 0 + i, none⟩ := by unfold Addr.add; split <;> simp_all
      rwa [hadd, Nat.zero_add] at this
    · have := hf i (by rw [hs]; omega)
      obtain ⟨lo, hi'⟩ := fz
      simpa [World.frozen?, hg] using this
/-- Where writes go, as cells; what they write. -/
def atCells (l : List (Nat × ByteArray)) : List Value := l.map fun p => .int .i64 (p.1 : Int)
def whatCells (l : List (Nat × ByteArray)) : List Value := l.map fun p => .string p.2
end Go.Cof
namespace Go.Proofs.YtndcaaikjcicgaaDoor
open Go.RowKit Go.Cof
/-- The reference's device. -/
structure RDev (w : World) (D : Nat) (sv av tv : Value) (sure : List ByteArray) (wait : List (Nat × ByteArray)) (fuse : Int) : Prop where
  head : w.heap[D]? = some (.cells #[sv, av, tv, .int .i64 fuse] 139 (0, 0))
  row : OwnsN w 0 9 1 sv 66 (strCells sure)
  ats : OwnsN w 0 3 1 av wait.length (atCells wait)
  whats : OwnsN w 0 9 1 tv wait.length (whatCells wait)
  apart0 : ∀ b, (sv.ownBlock = some b ∨ av.ownBlock = some b ∨ tv.ownBlock = some b) → b ≠ D
  apart1 : ∀ b, sv.ownBlock = some b → av.ownBlock ≠ some b ∧ tv.ownBlock ≠ some b
  apart2 : ∀ b, av.ownBlock = some b → tv.ownBlock ≠ some b
  len : sure.length = 66
  lo : -1 ≤ fuse
  hi : fuse ≤ 9223372036854775807
  small : wait.length ≤ 1000000
  inb : ∀ p, p ∈ wait → p.1 < 66
/-- Its blocks. -/
def RB (D : Nat) (sv av tv : Value) : Nat → Prop := fun b => b = D ∨ sv.ownBlock = some b ∨ av.ownBlock = some b ∨ tv.ownBlock = some b
section
variable {w : World} {D : Nat} {sv av tv : Value} {sure : List ByteArray} {wait : List (Nat × ByteArray)} {fuse : Int}
theorem RDev.keep (h : RDev w D sv av tv sure wait fuse) {w' : World} {X : Nat → Prop} (hk : Keep X w w') (hn : ∀ b, RB D sv av tv b → ¬ X b) : RDev w' D sv av tv sure wait fuse :=
  ⟨hk.heap h.head (hn D (.inl rfl)), h.row.keep hk (fun b hb => hn b (.inr (.inl hb))), h.ats.keep hk (fun b hb => hn b (.inr (.inr (.inl hb)))), h.whats.keep hk (fun b hb => hn b (.inr (.inr (.inr hb)))), h.apart0, h.apart1, h.apart2, h.len, h.lo, h.hi, h.small, h.inb⟩
theorem RDev.cellsD (h : RDev w D sv av tv sure wait fuse) : w.cell? ⟨D, 0, none⟩ = some sv ∧ w.cell? ⟨D, 1, none⟩ = some av ∧ w.cell? ⟨D, 2, none⟩ = some tv ∧ w.cell? ⟨D, 3, none⟩ = some (.int .i64 fuse) ∧ ∀ i, w.frozen? ⟨D, i, none⟩ = false :=
  ⟨by simp [World.cell?, h.head], by simp [World.cell?, h.head], by simp [World.cell?, h.head], by simp [World.cell?, h.head], fun i => by simp [World.frozen?, h.head]⟩
/-- Another head. -/
theorem RDev.setHead (h : RDev w D sv av tv sure wait fuse) (i : Nat) (u : Value) {sv' av' tv' : Value} {wait' : List (Nat × ByteArray)} {fuse' : Int} (hu : (#[sv, av, tv, .int .i64 fuse] : Array Value).setIfInBounds i u = #[sv', av', tv', .int .i64 fuse'])
    (hs : OwnsN w 0 9 1 sv' 66 (strCells sure)) (ha : OwnsN w 0 3 1 av' wait'.length (atCells wait')) (ht : OwnsN w 0 9 1 tv' wait'.length (whatCells wait'))
    (p0 : ∀ b, (sv'.ownBlock = some b ∨ av'.ownBlock = some b ∨ tv'.ownBlock = some b) → b ≠ D) (p1 : ∀ b, sv'.ownBlock = some b → av'.ownBlock ≠ some b ∧ tv'.ownBlock ≠ some b) (p2 : ∀ b, av'.ownBlock = some b → tv'.ownBlock ≠ some b)
    (f0 : -1 ≤ fuse') (f1 : fuse' ≤ 9223372036854775807) (hsm : wait'.length ≤ 1000000) (hib : ∀ p, p ∈ wait' → p.1 < 66) : RDev (w.setCell ⟨D, i, none⟩ u) D sv' av' tv' sure wait' fuse' := by
  have K : Keep (OneB D) w (w.setCell ⟨D, i, none⟩ u) := (Keep.refl _ _).set1 _ _
  exact ⟨by rw [setCell_heap h.head, hu], hs.keep K (fun b hb => p0 b (.inl hb)), ha.keep K (fun b hb => p0 b (.inr (.inl hb))), ht.keep K (fun b hb => p0 b (.inr (.inr hb))), p0, p1, p2, h.len, f0, f1, hsm, hib⟩
theorem RDev.setFuse (h : RDev w D sv av tv sure wait fuse) (f : Int) (f0 : -1 ≤ f) (f1 : f ≤ 9223372036854775807) : RDev (w.setCell ⟨D, 3, none⟩ (.int .i64 f)) D sv av tv sure wait f :=
  h.setHead 3 _ rfl h.row h.ats h.whats h.apart0 h.apart1 h.apart2 f0 f1 h.small h.inb
theorem RDev.reFuse (h : RDev w D sv av tv sure wait fuse) {w' : World} (K : Keep (OneB D) w w') {f : Int} (hh : w'.heap[D]? = some (.cells #[sv, av, tv, .int .i64 f] 139 (0, 0))) (f0 : -1 ≤ f) (f1 : f ≤ 9223372036854775807) : RDev w' D sv av tv sure wait f :=
  ⟨hh, h.row.keep K (fun b hb => h.apart0 b (.inl hb)), h.ats.keep K (fun b hb => h.apart0 b (.inr (.inl hb))), h.whats.keep K (fun b hb => h.apart0 b (.inr (.inr hb))), h.apart0, h.apart1, h.apart2, h.len, f0, f1, h.small, h.inb⟩
theorem spent_any (h : RDev w D sv av tv sure wait fuse) :
    Calls Tryd.prog 94 #[.pointer (some ⟨D, 0, none⟩)] w fun e w' => e = .returned (.bool (decide (fuse = 0))) ∧ RDev w' D sv av tv sure wait (burnt fuse) ∧ Keep (OneB D) w w' := by
  obtain ⟨_, _, _, c3, f⟩ := h.cellsD
  have f3 := f 3
  have hlo := h.lo
  have hhi := h.hi
  clear f
  by_cases hp : 0 < fuse
  · have e1 : decide (fuse = 0) = false := by simp; omega
    have e2 : burnt fuse = fuse - 1 := if_pos hp
    have hd := h.setFuse (fuse - 1) (by omega) (by omega)
    rw [e1, e2]
    clear e1 e2
    go_enter Tryd.func94, Tryd.ntmps94
    go_wp2_with fail
    go_ret
    exact ⟨rfl, hd, (Keep.refl _ _).set1 _ _⟩
  · have e2 : burnt fuse = fuse := if_neg hp
    rw [e2]
    have j1 : fuse ≤ 0 := by omega
    clear e2 hp
    by_cases hz : fuse = 0
    · subst hz
      go_enter Tryd.func94, Tryd.ntmps94
      go_wp2_with fail
      go_ret
      exact ⟨rfl, h, Keep.refl _ _⟩
    · have e1 : decide (fuse = 0) = false := by simp; exact hz
      have e3 : (fuse == 0) = false := by simp; exact hz
      rw [e1]
      clear e1 hz
      go_enter Tryd.func94, Tryd.ntmps94
      go_wp2_with fail
      go_ret
      exact ⟨rfl, h, Keep.refl _ _⟩
theorem refFuse_any (h : RDev w D sv av tv sure wait fuse) (n : Int) (h0 : -9223372036854775808 ≤ n) (hn : n ≤ 9223372036854775807) :
    Calls Tryd.prog 51 #[.pointer (some ⟨D, 0, none⟩), .int .i64 n] w fun e w' => e = .returned (.tuple #[]) ∧ RDev w' D sv av tv sure wait (max n (-1)) ∧ Keep (OneB D) w w' := by
  obtain ⟨_, _, _, c3, f⟩ := h.cellsD
  have f3 := f 3
  clear f
  by_cases hn1 : n < 0
  · have e1 : max n (-1) = -1 := by omega
    have hd := h.reFuse (((Keep.refl _ w).set1 3 (.int .i64 n)).set1 3 (.int .i64 (-1))) (f := -1) (by rw [setCell_heap (setCell_heap h.head _)]; rfl) (by omega) (by omega)
    rw [e1]
    clear e1
    go_enter Tryd.func51, Tryd.ntmps51
    go_wp2_with fail
    go_end0
    exact ⟨rfl, hd, ((Keep.refl _ w).set1 3 (.int .i64 n)).set1 3 (.int .i64 (-1))⟩
  · have hn2 : 0 ≤ n := by omega
    have e1 : max n (-1) = n := by omega
    have hd := h.setFuse n (by omega) (by omega)
    rw [e1]
    clear e1 hn1
    go_enter Tryd.func51, Tryd.ntmps51
    go_wp2_with fail
    go_end0
    exact ⟨rfl, hd, (Keep.refl _ _).set1 _ _⟩
theorem refRead_far (D : Nat) (k : Int) (hk : ¬ (0 ≤ k ∧ k ≤ 65)) (w : World) :
    Calls Tryd.prog 55 #[.pointer (some ⟨D, 0, none⟩), .int .i64 k] w fun e w' => e = .returned (.tuple #[.string ⟨#[]⟩, .int .i64 2]) ∧ w' = w := by
  go_enter Tryd.func55, Tryd.ntmps55
  go_wp2_with fail
  refine (in_no k 0 65 hk w).mono ?_
  rintro e w1 ⟨rfl, hw1⟩
  subst w1
  go_wp2_with fail
  go_ret2
  exact ⟨rfl, rfl⟩
set_option maxRecDepth 100000 in
set_option maxHeartbeats 4000000 in
theorem refRead_at (h : RDev w D sv av tv sure wait fuse) (k : Nat) (hk : k < 66) :
    Calls Tryd.prog 55 #[.pointer (some ⟨D, 0, none⟩), .int .i64 k] w fun e w' => e = .returned (.tuple #[.string ((applyW sure wait).getD k ⟨#[]⟩), .int .i64 0]) ∧ w' = w := by
  obtain ⟨cs, ca, ct, _, _⟩ := h.cellsD
  obtain ⟨S, cS, rfl, hS, hcS, _⟩ := h.row.at (by omega)
  have hc0 := hcS k (.string (sure.getD k ⟨#[]⟩)) (by rw [strCells, List.getElem?_map, List.getD_eq_getElem?_getD, List.getElem?_eq_getElem (by rw [h.len]; exact hk)]; rfl)
  have hsl := h.len
  obtain ⟨n, hn⟩ : ∃ n, n = wait.length := ⟨_, rfl⟩
  have hn6 : n ≤ 1000000 := by rw [hn]; exact h.small
  obtain ⟨pa, cpa, rfl⟩ : ∃ p c, av = .slice p n c := by
    rcases h.ats.2 with ⟨hv, h0⟩ | ⟨g, cap, cur, fz, hv, _⟩
    · exact ⟨_, _, by rw [hv, hn, h0]⟩
    · exact ⟨_, _, by rw [hv, hn]⟩
  have ha := h.ats
  have ht := h.whats
  rw [← hn] at ha ht
  have Hn := Lib.hid hn
  have Hsl := Lib.hid hsl
  clear hn hsl hcS
  have k1 : (k : Int) < 66 := by omega
  go_enter Tryd.func55, Tryd.ntmps55
  go_wp2_with fail
  refine (in_yes k 0 65 (by omega) (by omega) w).mono ?_
  rintro e w1 ⟨rfl, hw1⟩
  subst w1
  go_wp2_with fail
  go_loop [6, 24] (fun s i => ∃ (j : Nat) (q : ByteArray), j ≤ n ∧ i = .int .i64 j ∧ s = .string q ∧ Hid (q = (applyW sure (wait.take j)).getD k ⟨#[]⟩)) (fun _ i => n - (intOf i).toNat)
  case atStart => exact ⟨0, _, by omega, rfl, rfl, by show _ = _; rw [List.take_zero]; simp [applyW]⟩
  case round =>
    obtain ⟨j, q, hj, rfl, rfl, hq⟩ := hrel
    by_cases hlt : j < n
    · have j1 : decide (j < n) = true := by simp; omega
      have j2 : (j : Int) < n := by omega
      obtain ⟨ga, _, hga, _, hcA, _⟩ := ha.at (by omega)
      cases hga
      obtain ⟨gt, ct', rfl, _, hcT, _⟩ := ht.at (by omega)
      obtain ⟨x, hx⟩ : ∃ x, x = wait.getD j (0, ⟨#[]⟩) := ⟨_, rfl⟩
      have hxe : wait[j]? = some x := by rw [hx, List.getD_eq_getElem?_getD, List.getElem?_eq_getElem (by have := Hn.out; omega)]; rfl
      have c1 := hcA j (.int .i64 (x.1 : Int)) (by rw [atCells, List.getElem?_map, hxe]; rfl)
      have c2 := hcT j (.string x.2) (by rw [whatCells, List.getElem?_map, hxe]; rfl)
      have hap := applyW_take sure wait j (by have := Hn.out; omega)
      rw [← hx] at hap
      have Hap := Lib.hid hap
      have Hx := Lib.hid hx
      clear hap hx hxe hcA hcT
      by_cases hxk : x.1 = k
      · have e1 : ((x.1 : Int) == (k : Int)) = true := by simp [hxk]
        have hnew : x.2 = (applyW sure (wait.take (j + 1))).getD k ⟨#[]⟩ := by
          rw [Hap.out, hxk, List.getD_eq_getElem?_getD, List.getElem?_set_self (by rw [applyW_len, Hsl.out]; exact hk)]; rfl
        have Hnew := Lib.hid hnew
        clear hnew hxk
        go_wp2_with fail
        exact ⟨⟨j + 1, x.2, by omega, by go_num, rfl, Hnew⟩, by simp [intOf]; omega⟩
      · have e1 : ((x.1 : Int) == (k : Int)) = false := by simp; omega
        have hnew : q = (applyW sure (wait.take (j + 1))).getD k ⟨#[]⟩ := by
          rw [Hap.out, List.getD_eq_getElem?_getD, List.getElem?_set_ne hxk, ← List.getD_eq_getElem?_getD]; exact hq.out
        have Hnew := Lib.hid hnew
        clear hnew hxk
        go_wp2_with fail
        exact ⟨⟨j + 1, q, by omega, by go_num, rfl, Hnew⟩, by simp [intOf]; omega⟩
    · obtain rfl : j = n := by omega
      have hfin : q = (applyW sure wait).getD k ⟨#[]⟩ := by rw [hq.out, List.take_of_length_le (by rw [← Hn.out]; exact Nat.le_refl _)]
      have j1 : decide (j < j) = false := by simp
      have Hfin := Lib.hid hfin
      clear hfin
      go_wp2_with fail
      go_ret2
      exact ⟨congrArg (fun t => Ending.returned (.tuple #[.string t, .int .i64 0])) (by have := Hfin.out; rwa [List.getD_eq_getElem?_getD] at this), rfl⟩
end
end Go.Proofs.YtndcaaikjcicgaaDoor
