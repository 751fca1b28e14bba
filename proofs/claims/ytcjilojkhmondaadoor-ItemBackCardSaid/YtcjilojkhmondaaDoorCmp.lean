/-
  DERIVED. near.Compare, and the order that it gives.
-/
import Derived.Test.YtcjilojkhmondaaDoorNums
import Derived.Test.YtcjilojkhmondaaDoorExt
import Derived.Test.YtcjilojkhmondaaDoorProg
import Derived.BigQuiet
import Derived.Deep.QuietTactic
import Derived.Lib.Hide
import Derived.Shelf.Abstract
import Derived.WalkLawsBesides
import Derived.Sort.Grow
import Derived.Shelf.SlSortCmp.NoneTotal
set_option linter.unusedVariables false
set_option linter.unusedSimpArgs false
namespace Go.Cof
open Go.RowKit Go.Sort Go.Shelf
open Go.Proofs (ltOf)
/-- w' is w, but for draws and new blocks. -/
def Gr (w w' : World) : Prop := ∃ q os, w' = Sort.grow (w.drewN q) os
theorem Gr.refl (w : World) : Gr w w := ⟨0, #[], by simp [World.drewN]⟩
theorem Gr.alloc {w w' : World} (h : Gr w w') (o : Obj) : Gr w (w'.alloc o) := by
  obtain ⟨q, os, rfl⟩ := h
  exact ⟨q, os ++ #[o], by rw [Sort.alloc_eq_grow, Sort.grow_grow]⟩
theorem Gr.drewN {w w' : World} (h : Gr w w') (n : Nat) : Gr w (w'.drewN n) := by
  obtain ⟨q, os, rfl⟩ := h
  refine ⟨q + n, os, ?_⟩
  rw [← World.drewN_drewN]
  rfl
theorem Gr.keep {w w' : World} (h : Gr w w') : Keep NoB w w' := by
  obtain ⟨q, os, rfl⟩ := h
  refine ⟨rfl, rfl, rfl, by simp [Sort.grow, World.drewN], fun k hk _ => ?_⟩
  show (w.heap ++ os)[k]? = w.heap[k]?
  rw [Array.getElem?_append_left hk]
def cmpI (x y : Int) : Int := if x < y then -1 else if y < x then 1 else 0
def cmpS (x y : ByteArray) : Int := if Op.bytesLess x.toList y.toList = true then -1 else if x = y then 0 else 1
/-- What is found: a name, and how far. -/
abbrev FoundV := ByteArray × Int
def cmpF (x y : FoundV) : Int := if cmpI x.2 y.2 ≠ 0 then cmpI x.2 y.2 else cmpS x.1 y.1
def encF (x : FoundV) : List Value := [.string x.1, .int .i64 x.2]
theorem cmpI_neg (x y : Int) : cmpI x y < 0 ↔ x < y := by
  unfold cmpI
  split
  · simp; omega
  · split <;> simp <;> omega
theorem cmpI_zero (x y : Int) : cmpI x y = 0 ↔ x = y := by
  unfold cmpI
  split
  · simp; omega
  · split <;> simp <;> omega
theorem less_eq : ∀ (x y : List UInt8), Op.bytesLess x y = decide (x < y)
  | [], [] => by simp [Op.bytesLess]
  | _ :: _, [] => by simp [Op.bytesLess]
  | [], _ :: _ => by simp [Op.bytesLess]
  | a :: x, b :: y => by
    rw [Op.bytesLess, less_eq x y, Bool.eq_iff_iff]
    simp only [List.cons_lt_cons_iff]
    by_cases h : a < b
    · simp [h]
    · by_cases h2 : a = b
      · subst h2
        simp
      · simp [h, h2]
theorem cmpS_neg (x y : ByteArray) : cmpS x y < 0 ↔ x.toList < y.toList := by
  unfold cmpS
  rw [less_eq]
  split
  · rename_i h
    simpa using h
  · rename_i h
    have h' : ¬ x.toList < y.toList := by simpa using h
    split <;> simp [h']
theorem toList_inj {a b : ByteArray} (h : a.toList = b.toList) : a = b := bs_inj (by rw [bs, bs, ← ByteArray.toList_eq, ← ByteArray.toList_eq, h])
def ltF (x y : FoundV) : Prop := x.2 < y.2 ∨ x.2 = y.2 ∧ x.1.toList < y.1.toList
theorem cmpF_neg (x y : FoundV) : cmpF x y < 0 ↔ ltF x y := by
  unfold cmpF ltF
  by_cases h : cmpI x.2 y.2 = 0
  · rw [if_neg (fun e => e h), cmpS_neg]
    have := (cmpI_zero _ _).1 h
    constructor
    · exact fun h => .inr ⟨this, h⟩
    · rintro (h | h)
      · omega
      · exact h.2
  · rw [if_pos h, cmpI_neg]
    constructor
    · exact .inl
    · rintro (h' | h')
      · exact h'
      · exact absurd ((cmpI_zero _ _).2 h'.1) h
theorem ltOf_cmpF (x y : FoundV) : ltOf cmpF x y = true ↔ ltF x y := by
  unfold ltOf
  rw [decide_eq_true_eq]
  exact cmpF_neg x y
theorem ltOf_cmpF_false (x y : FoundV) : ltOf cmpF x y = false ↔ ¬ ltF x y := by
  rw [← ltOf_cmpF]
  simp
theorem str_irrefl (x : List UInt8) : ¬ x < x := by simp
theorem str_trans {x y z : List UInt8} (h1 : x < y) (h2 : y < z) : x < z := by simpa [Sort.ltStr] using Sort.swo_ltStr.trans x y z (by simpa [Sort.ltStr] using h1) (by simpa [Sort.ltStr] using h2)
theorem str_total {x y : List UInt8} (h1 : ¬ x < y) (h2 : ¬ y < x) : x = y := List.le_antisymm h2 h1
theorem swo_cmpF : SWO (ltOf cmpF) where
  irrefl := fun x => (ltOf_cmpF_false x x).2 (by rintro (h | h); omega; exact str_irrefl _ h.2)
  trans := fun x y z h1 h2 => by
    rw [ltOf_cmpF] at h1 h2 ⊢
    rcases h1 with h1 | ⟨h1, h1'⟩ <;> rcases h2 with h2 | ⟨h2, h2'⟩
    · exact .inl (by omega)
    · exact .inl (by omega)
    · exact .inl (by omega)
    · exact .inr ⟨by omega, str_trans h1' h2'⟩
  ntrans := fun x y z h1 h2 => by
    rw [ltOf_cmpF_false] at h1 h2 ⊢
    rintro (h | ⟨h, h'⟩)
    · by_cases e : x.2 < y.2
      · exact h1 (.inl e)
      · exact h2 (.inl (by omega))
    · by_cases e : x.2 < y.2
      · exact h1 (.inl e)
      · by_cases e2 : y.2 < z.2
        · exact h2 (.inl e2)
        · have e3 : x.2 = y.2 := by omega
          have e4 : y.2 = z.2 := by omega
          by_cases f : x.1.toList < y.1.toList
          · exact h1 (.inr ⟨e3, f⟩)
          · by_cases g : y.1.toList < x.1.toList
            · exact h2 (.inr ⟨e4, str_trans g h'⟩)
            · have := str_total f g
              exact h2 (.inr ⟨e4, this ▸ h'⟩)
theorem total_cmpF (x y : FoundV) (h1 : ltOf cmpF x y = false) (h2 : ltOf cmpF y x = false) : x = y := by
  rw [ltOf_cmpF_false] at h1 h2
  have e1 : x.2 = y.2 := by
    have a : ¬ x.2 < y.2 := fun h => h1 (.inl h)
    have b : ¬ y.2 < x.2 := fun h => h2 (.inl h)
    omega
  have e2 : x.1.toList = y.1.toList := str_total (fun h => h1 (.inr ⟨e1, h⟩)) (fun h => h2 (.inr ⟨e1.symm, h⟩))
  exact Prod.ext (toList_inj e2) e1
end Go.Cof
namespace Go.Proofs.YtcjilojkhmondaaDoor
open Go.RowKit Go.Cof
theorem cmpInt_any (x y : Int) (w : World) : Calls Tryd.prog 50 #[.int .i64 x, .int .i64 y] w fun e w' => e = .returned (.int .i64 (cmpI x y)) ∧ w' = w := by
  have nan : ∀ (n : Int) (w : World), Calls Tryd.prog 81 #[.int .i64 n] w fun e w' => e = .returned (.bool false) ∧ w' = w := by
    intro n w
    go_enter Tryd.func81, Tryd.ntmps81
    go_wp2_with fail
    go_ret
    exact ⟨by simp, rfl⟩
  unfold cmpI
  by_cases h1 : x < y
  · rw [if_pos h1]
    go_enter Tryd.func50, Tryd.ntmps50
    go_wp2_with (go_at_call 81; refine (nan _ _).mono ?_; rintro e w' ⟨rfl, rfl⟩)
    go_ret
    exact ⟨rfl, rfl⟩
  · rw [if_neg h1]
    by_cases h2 : y < x
    · rw [if_pos h2]
      go_enter Tryd.func50, Tryd.ntmps50
      go_wp2_with (go_at_call 81; refine (nan _ _).mono ?_; rintro e w' ⟨rfl, rfl⟩)
      go_ret
      exact ⟨rfl, rfl⟩
    · rw [if_neg h2]
      go_enter Tryd.func50, Tryd.ntmps50
      go_wp2_with (go_at_call 81; refine (nan _ _).mono ?_; rintro e w' ⟨rfl, rfl⟩)
      go_ret
      exact ⟨rfl, rfl⟩
theorem cmpStr_any (x y : ByteArray) (w : World) : Calls Tryd.prog 51 #[.string x, .string y] w fun e w' => e = .returned (.int .i64 (cmpS x y)) ∧ w' = w := by
  have nan : ∀ (n : ByteArray) (w : World), Calls Tryd.prog 82 #[.string n] w fun e w' => e = .returned (.bool false) ∧ w' = w := by
    intro n w
    go_enter Tryd.func82, Tryd.ntmps82
    go_wp2_with fail
    go_ret
    exact ⟨by simp, rfl⟩
  unfold cmpS
  by_cases h1 : Op.bytesLess x.toList y.toList = true
  · rw [if_pos h1]
    go_enter Tryd.func51, Tryd.ntmps51
    go_wp2_with (go_at_call 82; refine (nan _ _).mono ?_; rintro e w' ⟨rfl, rfl⟩)
    go_ret
    exact ⟨rfl, rfl⟩
  · rw [if_neg h1]
    have h1' : Op.bytesLess x.toList y.toList = false := by simpa using h1
    clear h1
    by_cases h2 : x = y
    · rw [if_pos h2]
      subst h2
      go_enter Tryd.func51, Tryd.ntmps51
      go_wp2_with (go_at_call 82; refine (nan _ _).mono ?_; rintro e w' ⟨rfl, rfl⟩)
      go_ret
      exact ⟨rfl, rfl⟩
    · rw [if_neg h2]
      have h3 : (@BEq.beq (List UInt8) (@List.instBEq UInt8 instBEqOfDecidableEq) x.toList y.toList) = false := by
        rw [beq_eq_false_iff_ne, ByteArray.toList_eq, ByteArray.toList_eq]
        exact fun e => h2 (bs_inj (by rw [bs, bs, e]))
      clear h2
      go_enter Tryd.func51, Tryd.ntmps51
      go_wp2_with (go_at_call 82; refine (nan _ _).mono ?_; rintro e w' ⟨rfl, rfl⟩)
      go_ret
      exact ⟨rfl, rfl⟩
theorem or_two (x y : Int) (w : World) (v : Value) (S : Nums w v [x, y]) : Calls Tryd.prog 49 #[v] w fun e w' => e = .returned (.int .i64 (if x ≠ 0 then x else y)) ∧ w' = w := by
  obtain ⟨a, c, rfl⟩ := S.len
  obtain ⟨b, off, rfl, _, hb, hc⟩ := S.at (by simp)
  have c0 : w.cell? ⟨b, off, none⟩ = some (.int .i64 x) := hc 0 (by simp)
  have c1 : w.cell? ⟨b, off + 1, none⟩ = some (.int .i64 y) := hc 1 (by simp)
  clear hc S
  obtain ⟨r, hr⟩ : ∃ r, r = if x ≠ 0 then x else y := ⟨_, rfl⟩
  rw [← hr]
  have Hr := Lib.hid hr
  clear hr
  go_enter Tryd.func49, Tryd.ntmps49
  go_wp2_with fail
  go_loop [8] (fun i => ∃ k : Nat, k ≤ 2 ∧ i = .int .i64 k ∧ (0 < k → x = 0) ∧ (1 < k → y = 0)) (fun i => 2 - (intOf i).toNat)
  case atStart => exact ⟨0, by omega, rfl, by omega, by omega⟩
  case round =>
    obtain ⟨k, hk, rfl, h0, h1⟩ := hrel
    have hk3 : k = 0 ∨ k = 1 ∨ k = 2 := by omega
    rcases hk3 with rfl | rfl | rfl
    · by_cases hx : x = 0
      · subst hx
        go_wp2_with fail
        exact ⟨⟨1, by omega, by go_num, fun _ => by first | trivial | rfl, by omega⟩, by simp [intOf]⟩
      · have hx2 : (x != 0) = true := by simpa using hx
        have hr := Hr.out
        rw [if_pos hx] at hr
        subst hr
        clear hx h0 h1
        go_wp2_with fail
        go_ret
        exact ⟨rfl, rfl⟩
    · obtain rfl : x = 0 := h0 (by omega)
      have hr := Hr.out
      rw [if_neg (by omega)] at hr
      subst hr
      by_cases hx : r = 0
      · subst hx
        clear h0 h1
        go_wp2_with fail
        exact ⟨⟨2, by omega, by go_num, fun _ => by first | trivial | rfl, fun _ => by first | trivial | rfl⟩, by simp [intOf]⟩
      · have hx2 : (r != 0) = true := by simpa using hx
        clear hx h0 h1
        go_wp2_with fail
        go_ret
        exact ⟨rfl, rfl⟩
    · obtain rfl : x = 0 := h0 (by omega)
      obtain rfl : y = 0 := h1 (by omega)
      obtain rfl : r = 0 := Hr.out
      clear h0 h1
      go_wp2_with fail
      go_ret
      exact ⟨rfl, rfl⟩
set_option maxRecDepth 100000 in
theorem compare_any (x y : FoundV) (w : World) : Calls Tryd.prog 21 #[.agg (encF x).toArray, .agg (encF y).toArray] w fun e w' => e = .returned (.int .i64 (cmpF x y)) ∧ Gr w w' := by
  obtain ⟨nx, dx⟩ := x
  obtain ⟨ny, dy⟩ := y
  have hf : cmpF (nx, dx) (ny, dy) = if cmpI dx dy ≠ 0 then cmpI dx dy else cmpS nx ny := rfl
  have h1 := cmpInt_any dx dy
  have h2 := cmpStr_any nx ny
  have h3 := fun w v S => or_two (cmpI dx dy) (cmpS nx ny) w v S
  rw [← hf] at h3
  obtain ⟨r, hr⟩ : ∃ r, r = cmpF (nx, dx) (ny, dy) := ⟨_, rfl⟩
  obtain ⟨a, ha⟩ : ∃ r, r = cmpI dx dy := ⟨_, rfl⟩
  obtain ⟨b, hb⟩ : ∃ r, r = cmpS nx ny := ⟨_, rfl⟩
  rw [← hr] at h3 ⊢
  rw [← ha] at h1 h3
  rw [← hb] at h2 h3
  have H3 := Lib.hid h3
  clear hr ha hb hf h3
  simp only [encF]
  go_enter Tryd.func21, Tryd.ntmps21
  go_wp2_with fail
  refine wp_region_qt_drew 10 (by kernel_rfl) (by kernel_rfl) ?_
  simp only [List.take_succ_cons, List.take_zero, List.drop_succ_cons, List.drop_zero]
  iterate 10 ((with_reducible refine wpQuiet_step (fun K hK => ?_)); go_simp; first | (refine hK _ ?_; clear hK K) | (apply Exists.intro; refine ⟨fun _ => ?_, hK _ ?_⟩; (first | (go_at_call 50; exact Calls.quiet_of_same (h1 _)) | (go_at_call 51; exact Calls.quiet_of_same (h2 _))); clear hK K))
  refine wpQuiet_nil ?_
  intro m
  go_wp2_with fail
  have hG : Gr w (((w.alloc (.cells #[.string nx, .int .i64 dx] 43)).alloc (.cells #[.string ny, .int .i64 dy] 43)).drewN m) := (((Gr.refl w).alloc _).alloc _).drewN m
  obtain ⟨W, hW⟩ : ∃ W, W = ((w.alloc (.cells #[.string nx, .int .i64 dx] 43)).alloc (.cells #[.string ny, .int .i64 dy] 43)).drewN m := ⟨_, rfl⟩
  have hs : w.heap.size + 1 + 1 = W.heap.size := by rw [hW]; simp [World.drewN]
  rw [← hW] at hG ⊢
  rw [hs]
  clear hW hs h1 h2
  refine (H3.out _ _ (Nums.lit (w := W) [a, b])).mono ?_
  rintro e w' ⟨rfl, hw⟩
  subst w'
  go_wp2_with fail
  go_ret
  exact ⟨rfl, hG.alloc _⟩
end Go.Proofs.YtcjilojkhmondaaDoor
