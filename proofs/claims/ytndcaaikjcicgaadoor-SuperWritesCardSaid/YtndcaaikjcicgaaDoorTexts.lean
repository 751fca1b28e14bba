/-
  DERIVED. Texts: as cells; the functions of slices and of the law that only look at them.
-/
import Derived.Test.YtndcaaikjcicgaaDoorStrs
import Derived.Test.YtndcaaikjcicgaaDoorFree
import Derived.Test.YtndcaaikjcicgaaDoorExt
import Derived.Test.YtndcaaikjcicgaaDoorHex
set_option linter.unusedVariables false
set_option linter.unusedSimpArgs false
namespace Go.Cof
open Go.RowKit
/-- Texts as cells. -/
def strCells (l : List ByteArray) : List Value := l.map Value.string
/-- What has come when k rounds are over. -/
def upto {α : Type} (f : Nat → α) (k : Nat) : List α := (List.range k).map f
theorem upto_succ {α : Type} (f : Nat → α) (k : Nat) : upto f (k + 1) = upto f k ++ [f k] := by simp [upto, List.range_succ]
theorem upto_length {α : Type} (f : Nat → α) (k : Nat) : (upto f k).length = k := by simp [upto]
/-- A row's cell. -/
theorem OwnsN.at {w : World} {base : Nat} {E : TypeId} {v : Value} {n : Nat} {xs : List Value} (h : OwnsN w base E 1 v n xs) (hn : 0 < n) : ∃ g cap, v = .slice (Option.some ⟨g, 0, none⟩) n cap ∧ g < w.heap.size ∧ (∀ i u, xs[i]? = Option.some u → w.cell? ⟨g, i, none⟩ = Option.some u) ∧ ∀ i, i < n → w.frozen? ⟨g, i, none⟩ = false := by
  rcases h.2 with ⟨_, h0⟩ | ⟨g, cap, cur, fz, hv, hb, hg, hf, hc, hm, hs, ht⟩
  · omega
  · refine ⟨g, cap, hv, lt_of_heap hg, fun i u hu => ?_, fun i hi => ?_⟩
    · have := h.cells (g := g) (by rw [hv]; rfl) i u hu
      have hadd : (⟨g, 0, none⟩ : Addr).add i = ⟨g, 0 + i, none⟩ := by unfold Addr.add; split <;> simp_all
      rwa [hadd, Nat.zero_add] at this
    · have := hf i (by rw [hs]; omega)
      obtain ⟨lo, hi'⟩ := fz
      simpa [World.frozen?, hg] using this
theorem sameTexts_take (a b : List ByteArray) (k : Nat) (h : ∀ i, i < k → a.getD i ⟨#[]⟩ = b.getD i ⟨#[]⟩) (ha : a.length = k) (hb : b.length = k) : a = b := by
  apply List.ext_getElem (by omega)
  intro i h1 h2
  have := h i (by omega)
  rwa [List.getD_eq_getElem?_getD, List.getD_eq_getElem?_getD, List.getElem?_eq_getElem h1, List.getElem?_eq_getElem h2] at this
end Go.Cof
namespace Go.Proofs.YtndcaaikjcicgaaDoor
open Go.RowKit Go.Cof
theorem info_string : (Tryd.prog.info? 9).map (fun i => (i.zero, i.size, i.bytes)) = some (some (.string ⟨#[]⟩), 1, 16) := by kernel_rfl
theorem strs_ofN {w : World} {base : Nat} {E : TypeId} {v : Value} {l : List ByteArray} (h : OwnsN w base E 1 v l.length (strCells l)) : Strs w v l := by
  by_cases h0 : 0 < l.length
  · obtain ⟨g, cap, rfl, hg, hc, _⟩ := h.at h0
    refine .inr ⟨g, 0, cap, rfl, hg, fun i hi => ?_⟩
    rw [Nat.zero_add]
    exact hc i _ (by rw [strCells, List.getElem?_map, List.getD_eq_getElem?_getD, List.getElem?_eq_getElem hi]; rfl)
  · have hnil : l = [] := List.eq_nil_of_length_eq_zero (by omega)
    subst hnil
    rcases h.2 with ⟨hv, _⟩ | ⟨g, cap, cur, fz, hv, _⟩
    · exact .inl ⟨rfl, _, _, hv⟩
    · exact .inl ⟨rfl, _, _, hv⟩
theorem in_yes (n lo hi : Int) (h1 : lo ≤ n) (h2 : n ≤ hi) (w : World) : Calls Tryd.prog 77 #[.int .i64 n, .int .i64 lo, .int .i64 hi] w fun e w' => e = .returned (.bool true) ∧ w' = w := by
  have d1 : decide (lo ≤ n) = true := by simp [h1]
  have d2 : decide (n ≤ hi) = true := by simp [h2]
  go_enter Tryd.func77, Tryd.ntmps77
  go_wp2
  go_ret
  exact ⟨rfl, rfl⟩
theorem in_no (n lo hi : Int) (h : ¬ (lo ≤ n ∧ n ≤ hi)) (w : World) : Calls Tryd.prog 77 #[.int .i64 n, .int .i64 lo, .int .i64 hi] w fun e w' => e = .returned (.bool false) ∧ w' = w := by
  by_cases h1 : lo ≤ n
  · have h2 : decide (n ≤ hi) = false := by simp; omega
    have d1 : decide (lo ≤ n) = true := by simp [h1]
    clear h
    go_enter Tryd.func77, Tryd.ntmps77
    go_wp2
    go_ret
    exact ⟨rfl, rfl⟩
  · have h2 : decide (lo ≤ n) = false := by simp; omega
    clear h h1
    go_enter Tryd.func77, Tryd.ntmps77
    go_wp2
    go_ret
    exact ⟨rfl, rfl⟩

set_option maxRecDepth 100000 in
set_option maxHeartbeats 4000000 in
theorem indexFunc_any (g : FuncId) (p : ByteArray → Bool) (hp : ∀ s w, Calls Tryd.prog g #[.string s] w fun e w' => e = .returned (.bool (p s)) ∧ w' = w) (eg : ∀ args w, (callFunc g args).run Tryd.prog w = .ok (.enter g args) w) (v : Value) (l : List ByteArray) (w : World) (S : Strs w v l) (hl : l.length ≤ 1000000) :
    Calls Tryd.prog 115 #[v, .func (.func g) #[] #[]] w fun e w' => (∃ i : Int, e = .returned (.int .i64 i) ∧ decide (0 ≤ i) = l.any p) ∧ w' = w := by
  obtain ⟨a, c, rfl⟩ := S.len
  obtain ⟨n, hn⟩ : ∃ n, n = l.length := ⟨_, rfl⟩
  rw [← hn] at S hl
  rw [← hn]
  have Hn := Lib.hid hn
  clear hn
  go_enter Tryd.func115, Tryd.ntmps115
  go_wp2_with fail
  go_loop [8] (fun i => ∃ k : Nat, k ≤ n ∧ i = .int .i64 k ∧ (l.take k).any p = false) (fun i => n - (intOf i).toNat)
  case atStart => exact ⟨0, by omega, rfl, rfl⟩
  case round =>
    obtain ⟨k, hk, rfl, hpre⟩ := hrel
    by_cases hlt : k < n
    · have j1 : decide (k < n) = true := by simp; omega
      obtain ⟨b, off, rfl, hnl, hb, hcell⟩ := S.at (by have := Hn.out; omega)
      have hck := hcell k (by have := Hn.out; omega)
      obtain ⟨s, hs⟩ : ∃ s, s = l.getD k ⟨#[]⟩ := ⟨_, rfl⟩
      rw [← hs] at hck
      have hks : (l.take (k + 1)).any p = p s := by
        rw [List.take_succ_eq_append_getElem (by have := Hn.out; omega), List.any_append, hpre, hs, List.getD_eq_getElem?_getD, List.getElem?_eq_getElem (by have := Hn.out; omega)]
        simp
      have Hks := Lib.hid hks
      have Hpre := Lib.hid hpre
      have hj : (k : Int) < n := by omega
      clear hcell hs hks hpre hnl
      go_wp2_with fail
      refine (hp s w).mono ?_
      rintro e w' ⟨rfl, hw⟩
      subst w'
      cases hps : p s with
      | true =>
        rw [hps] at Hks
        clear hps
        go_wp2_with fail
        go_ret
        refine ⟨⟨(k : Int), rfl, ?_⟩, rfl⟩
        have h1 := Hks.out
        rw [List.any_eq_true] at h1
        obtain ⟨y, hy, hpy⟩ := h1
        have h2 : l.any p = true := List.any_eq_true.2 ⟨y, List.mem_of_mem_take hy, hpy⟩
        rw [h2]
        simp
      | false =>
        rw [hps] at Hks
        clear hps
        go_wp2_with fail
        exact ⟨⟨k + 1, by omega, by go_num, Hks.out⟩, by simp [intOf]; omega⟩
    · obtain rfl : k = n := by omega
      have hall : l.any p = false := by rw [← hpre, List.take_of_length_le (by rw [← Hn.out]; exact Nat.le_refl _)]
      have j1 : decide (k < k) = false := by simp
      have Hall := Lib.hid hall
      clear hall hpre
      go_wp2_with fail
      go_ret
      exact ⟨⟨-1, rfl, by rw [Hall.out]; rfl⟩, rfl⟩
set_option maxRecDepth 100000 in
theorem containsFunc_any (g : FuncId) (p : ByteArray → Bool) (hp : ∀ s w, Calls Tryd.prog g #[.string s] w fun e w' => e = .returned (.bool (p s)) ∧ w' = w) (eg : ∀ args w, (callFunc g args).run Tryd.prog w = .ok (.enter g args) w) (v : Value) (l : List ByteArray) (w : World) (S : Strs w v l) (hl : l.length ≤ 1000000) :
    Calls Tryd.prog 79 #[v, .func (.func g) #[] #[]] w fun e w' => e = .returned (.bool (l.any p)) ∧ w' = w := by
  have hi := indexFunc_any g p hp eg v l w S hl
  obtain ⟨a, c, rfl⟩ := S.len
  generalize l.any p = b at hi ⊢
  clear hp eg
  go_enter Tryd.func79, Tryd.ntmps79
  go_wp2_with fail
  refine hi.mono ?_
  clear hi
  rintro e w' ⟨⟨i, rfl, hd⟩, hw⟩
  subst w'
  go_wp2_with fail
  go_ret
  first | exact ⟨congrArg (fun b => Ending.returned (.bool b)) hd, rfl⟩ | exact ⟨rfl, rfl⟩
set_option maxRecDepth 100000 in
set_option maxHeartbeats 4000000 in
theorem sameTexts_any (v v' : Value) (a b : List ByteArray) (w : World) (A : Strs w v a) (B : Strs w v' b) (ha : a.length ≤ 1000000) (hb : b.length ≤ 1000000) :
    Calls Tryd.prog 30 #[v, v'] w fun e w' => e = .returned (.bool (decide (a = b))) ∧ Keep NoB w w' := by
  obtain ⟨pa, ca, rfl⟩ := A.len
  obtain ⟨pb, cb, rfl⟩ := B.len
  obtain ⟨n, hn⟩ : ∃ n, n = a.length := ⟨_, rfl⟩
  obtain ⟨m, hm⟩ : ∃ m, m = b.length := ⟨_, rfl⟩
  rw [← hn] at A ha ⊢
  rw [← hm] at B hb ⊢
  have Hn := Lib.hid hn
  have Hm := Lib.hid hm
  clear hn hm
  by_cases hne : n = m
  · subst hne
    go_enter Tryd.func30, Tryd.ntmps30
    go_wp2_with fail
    go_loopw [5] (fun i wr => ∃ k : Nat, k ≤ n ∧ i = .int .i64 k ∧ (∀ j, j < k → a.getD j ⟨#[]⟩ = b.getD j ⟨#[]⟩) ∧ Keep NoB w wr) (fun i _ => n - (intOf i).toNat)
    case atStart => exact ⟨0, by omega, rfl, fun j hj => by omega, Keep.refl _ _⟩
    case round =>
      obtain ⟨k, hk, rfl, hrun, K⟩ := hrel
      by_cases hlt : k < n
      · have j1 : (k : Int) < n := by omega
        have A2 := A.keep K (fun _ _ x => x)
        have B2 := B.keep K (fun _ _ x => x)
        obtain ⟨b1, o1, rfl, -, _, hc1⟩ := A2.at (by have := Hn.out; omega)
        obtain ⟨b2, o2, rfl, -, _, hc2⟩ := B2.at (by have := Hm.out; omega)
        have hx := hc1 k (by have := Hn.out; omega)
        have hy := hc2 k (by have := Hm.out; omega)
        clear hc1 hc2 A2 B2
        obtain ⟨s, hs⟩ : ∃ s, s = a.getD k ⟨#[]⟩ := ⟨_, rfl⟩
        obtain ⟨t, ht⟩ : ∃ t, t = b.getD k ⟨#[]⟩ := ⟨_, rfl⟩
        rw [← hs] at hx
        rw [← ht] at hy
        have Hs := Lib.hid hs
        have Ht := Lib.hid ht
        clear hs ht
        go_wp2_with fail
        refine wp_region_qt_drew 8 (by kernel_rfl) (by kernel_rfl) ?_
        simp only [List.take_succ_cons, List.take_zero, List.drop_succ_cons, List.drop_zero]
        repeat (quiet_step (fail))
        refine wpQuiet_nil ?_
        intro nq
        by_cases hst : s = t
        · have hnext : ∀ j, j < k + 1 → a.getD j ⟨#[]⟩ = b.getD j ⟨#[]⟩ := by
            intro j hj
            rcases Nat.lt_succ_iff_lt_or_eq.1 hj with h | rfl
            · exact hrun j h
            · rw [← Hs.out, ← Ht.out, hst]
          go_wp2_with fail
          exact ⟨⟨k + 1, by omega, by go_num, hnext, K.drewN nq⟩, by simp [intOf]; omega⟩
        · have hne : (!s.toList == t.toList) = true := by
            have : s.toList ≠ t.toList := fun e => hst (by rw [ByteArray.toList_eq, ByteArray.toList_eq] at e; exact bs_inj (by rw [bs, bs, e]))
            simpa using this
          have hab : ¬ a = b := fun e => hst (by rw [Hs.out, Ht.out, e])
          have hda := decide_eq_false hab
          go_wp2_with fail
          go_ret
          rw [hda]
          exact ⟨rfl, K.drewN nq⟩
      · obtain rfl : k = n := by omega
        have hab := sameTexts_take a b k hrun Hn.out.symm Hm.out.symm
        have hda := decide_eq_true hab
        go_wp2_with fail
        go_ret
        rw [hda]
        exact ⟨rfl, K⟩
  · have j1 : ¬ ((n : Int) = m) := by omega
    have hd : decide (a = b) = false := by
      rw [decide_eq_false_iff_not]
      intro e
      apply hne
      rw [Hn.out, Hm.out, e]
    rw [hd]
    go_enter Tryd.func30, Tryd.ntmps30
    go_wp2_with fail
    go_ret
    exact ⟨rfl, Keep.refl _ _⟩
end Go.Proofs.YtndcaaikjcicgaaDoor
