/-
  DERIVED. What is found, compared: slices.Equal, slices.Contains.
-/
import Derived.Test.YtcjilojkhmondaaDoorCmp
import Derived.Test.YtcjilojkhmondaaDoorRowsK
import Derived.Laws.StructEq
set_option linter.unusedVariables false
set_option linter.unusedSimpArgs false
namespace Go.Proofs.YtcjilojkhmondaaDoor
open Go.RowKit Go.Cof Go.Sort Go.Shelf
theorem eq_found (x y : FoundV) (w : World) : (Op.equalIn 10000 43 (.agg (encF x).toArray) (.agg (encF y).toArray)).run Tryd.prog w = .ok (decide (x = y)) w := by
  have u3 := Tryd.underlying3
  have u9 := Tryd.underlying9
  have a3 := Tryd.isAgg3
  have z3 := Tryd.sizeOf3
  have a9 := Tryd.isAgg9
  have z9 := Tryd.sizeOf9
  have hS : Tryd.prog.underlying 43 = some (.struct (Tryd.prog.fieldsOf 43)) := by kernel_rfl
  have hp : Tryd.prog.stoodInHeld 43 = false := by kernel_rfl
  obtain ⟨a, b⟩ := x
  obtain ⟨c, d⟩ := y
  simp only [encF]
  rw [show (10000 : Nat) = 9999 + 1 from rfl, run_equalIn_agg w 9999 43 _ _ hS hp]
  simp only [Program.fieldsOf, Tryd.underlying43]
  have hs : (@BEq.beq (List UInt8) (@List.instBEq UInt8 instBEqOfDecidableEq) a.toList c.toList) = decide (a = c) := by
    by_cases h : a = c
    · rw [decide_eq_true h, h]; exact beq_self_eq_true _
    · rw [decide_eq_false h]; exact beq_eq_false_iff_ne.2 fun e => h (toList_inj e)
  go_simp
  by_cases h1 : a = c <;> by_cases h2 : b = d <;> simp [h1, h2, hs]
def memF (x : FoundV) (l : List FoundV) : Bool := l.any fun y => decide (x = y)
theorem memF_iff (x : FoundV) (l : List FoundV) : memF x l = true ↔ x ∈ l := by
  rw [memF, List.any_eq_true]
  constructor
  · rintro ⟨y, hy, h⟩
    rw [of_decide_eq_true h]
    exact hy
  · exact fun h => ⟨x, h, decide_eq_true rfl⟩
theorem memF_no {x : FoundV} {l : List FoundV} (h : x ∉ l) : memF x l = false := by
  cases e : memF x l with
  | false => rfl
  | true => exact absurd ((memF_iff x l).1 e) h
theorem take_snoc_eq {α : Type} (xs ys : List α) (k : Nat) (x y : α) (hx : xs[k]? = some x) (hy : ys[k]? = some y) (h : xs.take k = ys.take k) : xs.take (k + 1) = ys.take (k + 1) ↔ x = y := by
  have hxl := (List.getElem?_eq_some_iff.1 hx).1
  have hyl := (List.getElem?_eq_some_iff.1 hy).1
  rw [List.take_succ_eq_append_getElem hxl, List.take_succ_eq_append_getElem hyl, (List.getElem?_eq_some_iff.1 hx).2, (List.getElem?_eq_some_iff.1 hy).2, h]
  simp
set_option maxRecDepth 100000 in
set_option maxHeartbeats 4000000 in
theorem equalFound_any (vx vy : Value) (xs ys : List FoundV) (w : World) (X : RowsK w vx 2 encF xs) (Y : RowsK w vy 2 encF ys) (hx : xs.length ≤ 1000000) (hy : ys.length ≤ 1000000) :
    Calls Tryd.prog 19 #[vx, vy] w fun e w' => e = .returned (.bool (decide (xs = ys))) ∧ ∃ q, w' = w.drewN q := by
  obtain ⟨px, cx, rfl⟩ := X.len
  obtain ⟨py, cy, rfl⟩ := Y.len
  have hgt : Tryd.prog.eqGuardType Tryd.prog.depth 43 = false := by kernel_rfl
  by_cases hl : xs.length = ys.length
  · obtain ⟨n, hn⟩ : ∃ n, n = xs.length := ⟨_, rfl⟩
    have hn2 : n = ys.length := hn.trans hl
    rw [← hn] at X hx
    rw [← hn2] at Y hy
    rw [← hn, ← hn2]
    have Hn := Lib.hid hn
    have Hn2 := Lib.hid hn2
    clear hn hn2 hl
    go_enter Tryd.func19, Tryd.ntmps19
    go_wp2_with fail
    go_loopw [13] (fun i wr => ∃ k : Nat, k ≤ n ∧ i = .int .i64 k ∧ Hid (xs.take k = ys.take k) ∧ ∃ q, wr = w.drewN q) (fun i _ => n - (intOf i).toNat)
    case atStart => exact ⟨0, by omega, rfl, Lib.hid rfl, 0, rfl⟩
    case round =>
      obtain ⟨k, hk, rfl, hpre, q, rfl⟩ := hrel
      by_cases hlt : k < n
      · have j1 : (k : Int) < n := by omega
        obtain ⟨bx, ox, rfl, -, hbx, hcx⟩ := X.at (by have := Hn.out; omega)
        obtain ⟨by_, oy, rfl, -, hby, hcy⟩ := Y.at (by have := Hn2.out; omega)
        obtain ⟨x, hx1⟩ : ∃ x, xs[k]? = some x := ⟨_, List.getElem?_eq_getElem (by have := Hn.out; omega)⟩
        obtain ⟨y, hy1⟩ : ∃ y, ys[k]? = some y := ⟨_, List.getElem?_eq_getElem (by have := Hn2.out; omega)⟩
        have rx := hcx k x hx1
        have ry := hcy k y hy1
        have hs := take_snoc_eq xs ys k x y hx1 hy1 hpre.out
        have heq := fun w => eq_found x y w
        obtain ⟨a, b⟩ := x
        obtain ⟨c, d⟩ := y
        have c0 : w.cell? ⟨bx, ox + k * 2, none⟩ = some (.string a) := rx 0 _ rfl
        have c1 : w.cell? ⟨bx, ox + k * 2 + 1, none⟩ = some (.int .i64 b) := rx 1 _ rfl
        have d0 : w.cell? ⟨by_, oy + k * 2, none⟩ = some (.string c) := ry 0 _ rfl
        have d1 : w.cell? ⟨by_, oy + k * 2 + 1, none⟩ = some (.int .i64 d) := ry 1 _ rfl
        simp only [encF] at heq
        obtain ⟨B, hB⟩ : ∃ B, B = decide ((a, b) = (c, d)) := ⟨_, rfl⟩
        rw [← hB] at heq
        have HB := Lib.hid hB
        have Hs := Lib.hid hs
        have Hx1 := Lib.hid hx1
        have Hy1 := Lib.hid hy1
        clear hcx hcy rx ry hs hB hx1 hy1
        cases B with
        | true =>
          go_wp2_with fail
          go_quiet (fail)
          go_wp2_with fail
          refine ⟨⟨k + 1, by omega, by go_num, Lib.hid ?_, _, rfl⟩, by simp [intOf]; omega⟩
          exact Hs.out.2 (of_decide_eq_true HB.out.symm)
        | false =>
          have hne : xs ≠ ys := fun e => by
            have h1 := Hx1.out
            have h2 := Hy1.out
            rw [e, h2] at h1
            have := HB.out
            rw [Option.some.inj h1] at this
            simp at this
          have Hne := Lib.hid (decide_eq_false hne)
          clear hne
          go_wp2_with fail
          go_quiet (fail)
          go_wp2_with fail
          go_ret
          exact ⟨by rw [Hne.out]; rfl, _, World.drewN_drewN _ _ _⟩
      · obtain rfl : k = n := by omega
        have hall : xs = ys := by
          have := hpre.out
          rwa [List.take_of_length_le (by rw [← Hn.out]; exact Nat.le_refl _), List.take_of_length_le (by rw [← Hn2.out]; exact Nat.le_refl _)] at this
        have Hall := Lib.hid (decide_eq_true hall)
        clear hall
        go_wp2_with fail
        go_ret
        exact ⟨by rw [Hall.out]; rfl, _, rfl⟩
  · have hne : decide (xs = ys) = false := decide_eq_false fun e => hl (by rw [e])
    rw [hne]
    have h1 : ((xs.length : Int) != (ys.length : Int)) = true := by simp; omega
    clear hne X Y
    go_enter Tryd.func19, Tryd.ntmps19
    go_wp2_with fail
    go_ret
    exact ⟨rfl, 0, by simp [World.drewN]⟩
set_option maxRecDepth 100000 in
set_option maxHeartbeats 4000000 in
theorem indexFound_any (vx : Value) (xs : List FoundV) (x : FoundV) (w : World) (X : RowsK w vx 2 encF xs) (hx : xs.length ≤ 1000000) :
    Calls Tryd.prog 52 #[vx, .agg (encF x).toArray] w fun e w' => (∃ i : Int, e = .returned (.int .i64 i) ∧ decide (0 ≤ i) = memF x xs) ∧ Gr w w' := by
  obtain ⟨px, cx, rfl⟩ := X.len
  have hgt : Tryd.prog.eqGuardType Tryd.prog.depth 43 = false := by kernel_rfl
  obtain ⟨n, hn⟩ : ∃ n, n = xs.length := ⟨_, rfl⟩
  rw [← hn] at X hx
  rw [← hn]
  have Hn := Lib.hid hn
  obtain ⟨a, b⟩ := x
  clear hn
  simp only [encF]
  have X1 := X.keep ((Keep.refl NoB w).alloc (.cells #[.string a, .int .i64 b] 43)) (fun _ _ x => x)
  have e0 : (w.alloc (.cells #[.string a, .int .i64 b] 43)).cell? ⟨w.heap.size, 0, none⟩ = some (.string a) := by rw [cell_of_row _ _ _ _ 43 (0, 0) (heap_alloc_new w _)]; rfl
  have e1 : (w.alloc (.cells #[.string a, .int .i64 b] 43)).cell? ⟨w.heap.size, 1, none⟩ = some (.int .i64 b) := by rw [cell_of_row _ _ _ _ 43 (0, 0) (heap_alloc_new w _)]; rfl
  have hG : Gr w (w.alloc (.cells #[.string a, .int .i64 b] 43)) := (Gr.refl w).alloc _
  obtain ⟨bv, hbv⟩ : ∃ b, b = w.heap.size := ⟨_, rfl⟩
  obtain ⟨w0, hw0⟩ : ∃ w0, w0 = w.alloc (.cells #[.string a, .int .i64 b] 43) := ⟨_, rfl⟩
  rw [← hw0] at X1 e0 e1 hG
  rw [← hbv] at e0 e1
  go_enter Tryd.func52, Tryd.ntmps52
  go_wp2_with fail
  rw [← hw0, ← hbv]
  clear hw0 hbv X
  go_loopw [8] (fun i wr => ∃ k : Nat, k ≤ n ∧ i = .int .i64 k ∧ Hid ((a, b) ∉ xs.take k) ∧ ∃ q, wr = w0.drewN q) (fun i _ => n - (intOf i).toNat)
  case atStart => exact ⟨0, by omega, rfl, Lib.hid (by simp), 0, by simp [World.drewN]⟩
  case round =>
    obtain ⟨k, hk, rfl, hpre, q, rfl⟩ := hrel
    by_cases hlt : k < n
    · have j1 : (k : Int) < n := by omega
      obtain ⟨bx, ox, rfl, -, hbx, hcx⟩ := X1.at (by have := Hn.out; omega)
      obtain ⟨x, hx1⟩ : ∃ x, xs[k]? = some x := ⟨_, List.getElem?_eq_getElem (by have := Hn.out; omega)⟩
      have rx := hcx k x hx1
      have hs : xs.take (k + 1) = xs.take k ++ [x] := by rw [List.take_succ_eq_append_getElem (List.getElem?_eq_some_iff.1 hx1).1, (List.getElem?_eq_some_iff.1 hx1).2]
      have hxm : x ∈ xs := List.mem_of_getElem? hx1
      obtain ⟨c, d⟩ := x
      have heq := fun w => eq_found (a, b) (c, d) w
      have c0 : w0.cell? ⟨bx, ox + k * 2, none⟩ = some (.string c) := rx 0 _ rfl
      have c1 : w0.cell? ⟨bx, ox + k * 2 + 1, none⟩ = some (.int .i64 d) := rx 1 _ rfl
      simp only [encF] at heq
      obtain ⟨B, hB⟩ : ∃ B, B = decide ((a, b) = (c, d)) := ⟨_, rfl⟩
      rw [← hB] at heq
      have HB := Lib.hid hB
      have Hs := Lib.hid hs
      have Hxm := Lib.hid hxm
      clear hcx rx hs hB hx1 hxm
      cases B with
      | true =>
        have hm : (a, b) ∈ xs := by rw [of_decide_eq_true HB.out.symm]; exact Hxm.out
        have Hm := Lib.hid ((memF_iff _ _).2 hm)
        clear hm
        go_wp2_with fail
        go_quiet (fail)
        go_wp2_with fail
        go_ret
        exact ⟨⟨(k : Int), rfl, by rw [Hm.out]; simp⟩, (hG.drewN q).drewN _⟩
      | false =>
        have hpre2 : (a, b) ∉ xs.take (k + 1) := by
          rw [Hs.out, List.mem_append, List.mem_singleton]
          rintro (h | h)
          · exact hpre.out h
          · exact of_decide_eq_false HB.out.symm h
        have Hp2 := Lib.hid hpre2
        clear hpre2
        go_wp2_with fail
        go_quiet (fail)
        go_wp2_with fail
        exact ⟨⟨k + 1, by omega, by go_num, Hp2, _, rfl⟩, by simp [intOf]; omega⟩
    · obtain rfl : k = n := by omega
      have hall : (a, b) ∉ xs := by
        have := hpre.out
        rwa [List.take_of_length_le (by rw [← Hn.out]; exact Nat.le_refl _)] at this
      have Hall := Lib.hid (memF_no hall)
      clear hall
      go_wp2_with fail
      go_ret
      exact ⟨⟨-1, rfl, by rw [Hall.out]; rfl⟩, hG.drewN q⟩
set_option maxRecDepth 100000 in
theorem containsFound_any (vx : Value) (xs : List FoundV) (x : FoundV) (w : World) (X : RowsK w vx 2 encF xs) (hx : xs.length ≤ 1000000) :
    Calls Tryd.prog 23 #[vx, .agg (encF x).toArray] w fun e w' => e = .returned (.bool (memF x xs)) ∧ Gr w w' := by
  have hi := indexFound_any vx xs x (w.alloc (.cells (encF x).toArray 43)) (X.keep ((Keep.refl NoB w).alloc _) (fun _ _ x => x)) hx
  obtain ⟨a, b⟩ := x
  simp only [encF] at hi ⊢
  go_enter Tryd.func23, Tryd.ntmps23
  go_wp2_with fail
  refine hi.mono ?_
  rintro e w' ⟨⟨i, rfl, hii⟩, hG⟩
  have Hii := Lib.hid hii
  clear hii hi
  go_wp2_with fail
  go_ret
  refine ⟨congrArg (fun b => Ending.returned (.bool b)) ?_, ?_⟩
  · rw [← Hii.out]
  · obtain ⟨q, os, hw⟩ := hG
    refine ⟨q, #[.cells #[.string a, .int .i64 b] 43] ++ os, ?_⟩
    rw [hw, alloc_eq_grow, ← grow_grow]
    rfl
end Go.Proofs.YtcjilojkhmondaaDoor
