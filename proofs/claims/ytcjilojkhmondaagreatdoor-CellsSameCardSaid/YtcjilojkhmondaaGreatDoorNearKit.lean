/-
  DERIVED. slices.Clone, slices.Reverse of points; what the laws on nearest points ask first: found.
-/
import Derived.Test.YtcjilojkhmondaaGreatDoorRight
import Derived.Test.YtcjilojkhmondaaGreatDoorOrder
import Derived.Test.YtcjilojkhmondaaGreatDoorFoundEq
import Derived.Test.YtcjilojkhmondaaGreatDoorPick
set_option linter.unusedVariables false
set_option linter.unusedSimpArgs false
namespace Go.Cof
open Go.RowKit Go.Sort Go.Shelf
/-- A point's cells, of one make. -/
abbrev Three := ByteArray × ByteArray × Option Addr × Nat × Nat
def enc3 (x : Three) : List Value := [.string x.1, .string x.2.1, .slice x.2.2.1 x.2.2.2.1 x.2.2.2.2]
def sliceOf : Value → Option Addr × Nat × Nat
  | .slice p n c => (p, n, c)
  | _ => (none, 0, 0)
def three (x : ItemV) : Three := (x.name, x.tag, sliceOf x.av)
theorem enc3_three (x : ItemV) (h : ∃ p n c, x.av = .slice p n c) : enc3 (three x) = encItem x := by
  obtain ⟨p, n, c, h⟩ := h
  rw [encItem, h, enc3, three, h]
  rfl
theorem enc3_len (x : Three) : (enc3 x).length = 3 := rfl
theorem enc3_one (x : Three) : ∀ v ∈ enc3 x, v.oneCell' = true := by
  intro v hv
  simp only [enc3, List.mem_cons, List.not_mem_nil, or_false] at hv
  rcases hv with rfl | rfl | rfl <;> rfl
theorem flat_three (l : List ItemV) (h : ∀ x ∈ l, ∃ p n c, x.av = .slice p n c) : (l.map three).flatMap enc3 = l.flatMap encItem := by
  rw [List.flatMap_map]
  induction l with
  | nil => rfl
  | cons x l ih =>
    rw [List.flatMap_cons, List.flatMap_cons, ih fun y hy => h y (List.mem_cons_of_mem _ hy)]
    congr 1
    exact enc3_three x (h x List.mem_cons_self)
theorem RowsK.ofThree {w : World} {v : Value} {l : List ItemV} (h : RowsK w v 3 enc3 (l.map three)) (hx : ∀ x ∈ l, ∃ p n c, x.av = .slice p n c) : RowsK w v 3 encItem l := by
  rcases h with ⟨h, hv⟩ | ⟨b, off, c, hv, hb, hc⟩
  · exact .inl ⟨List.map_eq_nil_iff.1 h, hv⟩
  · refine .inr ⟨b, off, c, by rw [hv, List.length_map], hb, fun i x hi => ?_⟩
    have := hc i (three x) (by rw [List.getElem?_map, hi]; rfl)
    rwa [enc3_three x (hx x (List.mem_of_getElem? hi))] at this
theorem flatItem_one (l : List ItemV) (h : ∀ x ∈ l, ∃ p n c, x.av = .slice p n c) : ∀ u ∈ l.flatMap encItem, u.oneCell' = true := by
  intro u hu
  obtain ⟨x, hx, hu⟩ := List.mem_flatMap.1 hu
  obtain ⟨p, n, c, he⟩ := h x hx
  simp only [encItem, he, List.mem_cons, List.not_mem_nil, or_false] at hu
  rcases hu with rfl | rfl | rfl <;> rfl
end Go.Cof
namespace Go.Proofs.YtcjilojkhmondaaGreatDoor
open Go.RowKit Go.Cof Go.Sort Go.Shelf
open Go.Proofs (sortWorldK)
theorem cloneItem_any (v : Value) (l : List ItemV) (base : Nat) (w : World) (h : OwnsN w base 42 3 v l.length (l.flatMap encItem)) (hx : ∀ x ∈ l, ∃ p n c, x.av = .slice p n c) (hl : l.length ≤ 1000000) :
    Calls Tryz.prog 12 #[v] w fun e w' => ∃ v', e = .returned v' ∧ OwnsN w' w.heap.size 42 3 v' l.length (l.flatMap encItem) ∧ Keep NoB w w' := by
  have h0 := h
  obtain ⟨hlen, h⟩ := h
  rcases h with ⟨rfl, hn⟩ | ⟨g, cap, cur, fz, rfl, hb, hg, hcl, hnc, hcm, hcs, ht⟩
  · have hn' : l = [] := List.eq_nil_of_length_eq_zero hn
    subst hn'
    have hcon := AnyE.slices_Clone_nil Tryz.cloneItem 0 0 w
    change Calls Tryz.prog 12 _ _ _ at hcon
    refine hcon.mono ?_
    rintro e w' ⟨he, rfl⟩
    exact ⟨_, he, OwnsN.nil _ _ _ _, Keep.refl _ _⟩
  · obtain ⟨i0, hi0, hz0, hs0, hb0⟩ := item_info
    have hcon := AnyE.slices_Clone Tryz.cloneItem i0 _ 3 56 hi0 hz0 hs0 hb0 rfl (by decide) Tryz.sizeOf42 g 0 l.length cap (l.flatMap encItem) w (flat_len encItem_len l) (by unfold maxLen; omega) (by omega)
      (fun j u hu => by
        have := h0.cells (g := g) rfl j u hu
        rw [show (⟨g, 0, none⟩ : Addr).add j = ⟨g, 0 + j, none⟩ by unfold Addr.add; split <;> simp_all] at this
        exact this) (flatItem_one l hx)
    change Calls Tryz.prog 12 _ _ _ at hcon
    refine hcon.mono ?_
    rintro e w' ⟨v', he, ho, _, hB⟩
    exact ⟨v', he, OwnsN.of ho, Keep.ofBelow hB⟩
theorem reverseItem_any (v : Value) (l : List ItemV) (base : Nat) (w : World) (h : OwnsN w base 42 3 v l.length (l.flatMap encItem)) (hx : ∀ x ∈ l, ∃ p n c, x.av = .slice p n c) (hl : l.length ≤ 1000000) :
    Calls Tryz.prog 13 #[v] w fun e w' => e = .returned (.tuple #[]) ∧ RowsK w' v 3 encItem l.reverse ∧ Keep (fun b => base ≤ b) w w' := by
  have h0 := h
  obtain ⟨hlen, h⟩ := h
  rcases h with ⟨rfl, hn⟩ | ⟨g, cap, cur, fz, rfl, hb, hg, _⟩
  · have hn' : l = [] := List.eq_nil_of_length_eq_zero hn
    subst hn'
    have hcon := AnyQ.slices_Reverse_empty Tryz.reverseItem none 0 w
    change Calls Tryz.prog 13 _ _ _ at hcon
    refine hcon.mono ?_
    rintro e w' ⟨he, rfl⟩
    exact ⟨he, .inl ⟨rfl, _, _, rfl⟩, Keep.refl _ _⟩
  · rw [← flat_three l hx, show l.length = (l.map three).length by simp] at h0
    have hH := HoldsK.ofN enc3_len h0
    have hcon := AnyQ.slices_Reverse Tryz.reverseItem 3 Tryz.isAgg42 Tryz.sizeOf42 enc3 enc3_len enc3_one g 0 cap (l.map three).toArray w hH (by simp; omega)
    change Calls Tryz.prog 13 _ _ _ at hcon
    rw [show (l.map three).toArray.size = l.length by simp] at hcon
    refine hcon.mono ?_
    rintro e w' ⟨he, n, hw⟩
    have hw2 : w' = sortWorldK enc3 3 w g 0 n (l.map three).toArray.reverse #[] := by rw [hw]; exact (grow_empty _).symm
    obtain ⟨h1, h2⟩ := sorted_rows (n := n) (cap := cap) (os := #[]) enc3_len hH (lt_of_heap hg) (d' := (l.map three).toArray.reverse) (by simp)
    rw [← hw2] at h1 h2
    refine ⟨he, ?_, h2.mono fun i _ hi => by rw [show i = g from hi]; exact hb⟩
    have e1 : ((l.map three).toArray.reverse).toList = l.reverse.map three := by simp
    rw [e1, List.length_map, List.length_reverse] at h1
    have h3 : RowsK w' (.slice (some ⟨g, 0, none⟩) l.length cap) 3 enc3 (l.reverse.map three) := h1
    exact h3.ofThree fun x hx' => hx x (List.mem_reverse.1 hx')
def foundItems (b : Nat) : List ItemV := [⟨⟨#[97]⟩, ⟨#[]⟩, .slice (some ⟨b, 0, none⟩) 2 2, [0, 0]⟩, ⟨⟨#[98]⟩, ⟨#[]⟩, .slice (some ⟨b + 1, 0, none⟩) 2 2, [3, 4]⟩, ⟨⟨#[99]⟩, ⟨#[]⟩, .slice (some ⟨b + 1 + 1, 0, none⟩) 2 2, [1, 0]⟩]
theorem nums_lit (w : World) (b : Nat) (hb : b = w.heap.size) (x y : Int) (E : TypeId) : Nums (w.alloc (.cells #[.int .i64 x, .int .i64 y] E)) (.slice (some ⟨b, 0, none⟩) 2 2) [x, y] := by
  subst hb
  exact Nums.lit [x, y]
theorem found_laid (w : World) : ∃ W, W = (((((w.alloc (.cells #[.int .i64 0, .int .i64 0] 3)).alloc (.cells #[.int .i64 3, .int .i64 4] 3)).alloc (.cells #[.int .i64 1, .int .i64 0] 3)).alloc (.cells #[.string ⟨#[97]⟩, .string ⟨#[]⟩, .slice (some ⟨w.heap.size, 0, none⟩) 2 2, .string ⟨#[98]⟩, .string ⟨#[]⟩, .slice (some ⟨w.heap.size + 1, 0, none⟩) 2 2, .string ⟨#[99]⟩, .string ⟨#[]⟩, .slice (some ⟨w.heap.size + 1 + 1, 0, none⟩) 2 2] 42)).alloc (.cells #[.int .i64 0, .int .i64 0] 3)) ∧
    Items W (.slice (some ⟨w.heap.size + 1 + 1 + 1, 0, none⟩) 3 3) (foundItems w.heap.size) ∧ Nums W (.slice (some ⟨w.heap.size + 1 + 1 + 1 + 1, 0, none⟩) 2 2) [0, 0] ∧ Keep NoB w W := by
  obtain ⟨w1, h1⟩ : ∃ w1, w1 = w.alloc (.cells #[.int .i64 0, .int .i64 0] 3) := ⟨_, rfl⟩
  obtain ⟨w2, h2⟩ : ∃ w2, w2 = w1.alloc (.cells #[.int .i64 3, .int .i64 4] 3) := ⟨_, rfl⟩
  obtain ⟨w3, h3⟩ : ∃ w3, w3 = w2.alloc (.cells #[.int .i64 1, .int .i64 0] 3) := ⟨_, rfl⟩
  have s1 : w1.heap.size = w.heap.size + 1 := by rw [h1]; simp
  have s2 : w2.heap.size = w.heap.size + 1 + 1 := by rw [h2]; simp [s1]
  have s3 : w3.heap.size = w.heap.size + 1 + 1 + 1 := by rw [h3]; simp [s2]
  have n1 : Nums w1 (.slice (some ⟨w.heap.size, 0, none⟩) 2 2) [0, 0] := by rw [h1]; exact nums_lit w _ rfl 0 0 _
  have n2 : Nums w2 (.slice (some ⟨w.heap.size + 1, 0, none⟩) 2 2) [3, 4] := by rw [h2]; exact nums_lit w1 _ s1.symm 3 4 _
  have n3 : Nums w3 (.slice (some ⟨w.heap.size + 1 + 1, 0, none⟩) 2 2) [1, 0] := by rw [h3]; exact nums_lit w2 _ s2.symm 1 0 _
  have k1 : Keep NoB w w1 := by rw [h1]; exact (Keep.refl _ _).alloc _
  have k2 : Keep NoB w1 w2 := by rw [h2]; exact (Keep.refl _ _).alloc _
  have k3 : Keep NoB w2 w3 := by rw [h3]; exact (Keep.refl _ _).alloc _
  obtain ⟨w4, h4⟩ : ∃ w4, w4 = w3.alloc (.cells ((foundItems w.heap.size).flatMap encItem).toArray 42) := ⟨_, rfl⟩
  obtain ⟨w5, h5⟩ : ∃ w5, w5 = w4.alloc (.cells #[.int .i64 0, .int .i64 0] 3) := ⟨_, rfl⟩
  have s4 : w4.heap.size = w.heap.size + 1 + 1 + 1 + 1 := by rw [h4]; simp [s3]
  have k4 : Keep NoB w3 w4 := by rw [h4]; exact (Keep.refl _ _).alloc _
  have k5 : Keep NoB w4 w5 := by rw [h5]; exact (Keep.refl _ _).alloc _
  have r4 : RowsK w4 (.slice (some ⟨w.heap.size + 1 + 1 + 1, 0, none⟩) 3 3) 3 encItem (foundItems w.heap.size) := by
    rw [h4, ← s3]
    exact RowsK.lit encItem_len (foundItems w.heap.size)
  have n5 : Nums w5 (.slice (some ⟨w.heap.size + 1 + 1 + 1 + 1, 0, none⟩) 2 2) [0, 0] := by rw [h5]; exact nums_lit w4 _ s4.symm 0 0 _
  refine ⟨w5, ?_, ⟨r4.keep k5 (fun _ _ x => x), ?_⟩, n5, (((k1.then k2).then k3).then k4).then k5⟩
  · rw [h5, h4, h3, h2, h1]
    rfl
  · intro x hx
    simp only [foundItems, List.mem_cons, List.not_mem_nil, or_false] at hx
    rcases hx with rfl | rfl | rfl
    · exact (((n1.keep k2 (fun _ _ x => x)).keep k3 (fun _ _ x => x)).keep k4 (fun _ _ x => x)).keep k5 (fun _ _ x => x)
    · exact ((n2.keep k3 (fun _ _ x => x)).keep k4 (fun _ _ x => x)).keep k5 (fun _ _ x => x)
    · exact (n3.keep k4 (fun _ _ x => x)).keep k5 (fun _ _ x => x)
theorem found_top (b : Nat) : topV (foundItems b) [0, 0] 2 ⟨#[]⟩ = [(⟨#[97]⟩, 0), (⟨#[99]⟩, 1)] := by
  have h1 : foundL (foundItems b) [0, 0] ⟨#[]⟩ = [(⟨#[97]⟩, 0), (⟨#[98]⟩, 25), (⟨#[99]⟩, 1)] := by
    have ht : (foundItems b).filter (tagB ⟨#[]⟩) = foundItems b := List.filter_eq_self.2 fun x _ => by simp [tagB]
    have a1 : farW [0, 0] [0, 0] = 0 := by decide +kernel
    have a2 : farW [3, 4] [0, 0] = 25 := by decide +kernel
    have a3 : farW [1, 0] [0, 0] = 1 := by decide +kernel
    rw [foundL, ht]
    simp [foundItems, foundV, a1, a2, a3]
  have h2 : List.Perm [((⟨#[97]⟩ : ByteArray), (0 : Int)), (⟨#[98]⟩, 25), (⟨#[99]⟩, 1)] [(⟨#[97]⟩, 0), (⟨#[99]⟩, 1), (⟨#[98]⟩, 25)] := List.Perm.cons _ (List.Perm.swap _ _ _)
  rw [topV, h1, sortF_perm h2, sortF_of_pair]
  · rfl
  · refine List.Pairwise.cons ?_ (List.Pairwise.cons ?_ (List.Pairwise.cons ?_ List.Pairwise.nil)) <;> intro y hy <;> simp only [List.mem_cons, List.not_mem_nil, or_false] at hy
    · rcases hy with rfl | rfl <;> rfl
    · subst hy; rfl
set_option maxRecDepth 100000 in
set_option maxHeartbeats 8000000 in
theorem found_any (w : World) : Calls Tryz.prog 5 #[] w fun e w' => e = .returned (.bool true) ∧ Keep NoB w w' := by
  obtain ⟨W, hW, I, N, K⟩ := found_laid w
  have ht := top_yes 2 _ (foundItems w.heap.size) _ [0, 0] 2 ⟨#[]⟩ W I N (by show 3 ≤ 1000; decide) (by decide) (fun x hx => by simp only [foundItems, List.mem_cons, List.not_mem_nil, or_false] at hx; rcases hx with rfl | rfl | rfl <;> (show 2 ≤ 1000000; decide)) (by decide)
  rw [found_top] at ht
  have Ht := Lib.hid ht
  have HW := Lib.hid hW
  clear ht hW I N
  go_enter Tryz.func5, Tryz.ntmps5
  go_wp2_with fail
  rw [← HW.out]
  refine Ht.out.mono ?_
  rintro e w1 ⟨v', rfl, R1, _, K1⟩
  have K1' := K.thenN K1
  clear Ht HW
  go_wp2_with fail
  have R2 : RowsK (w1.alloc (.cells #[.string ⟨#[97]⟩, .int .i64 0, .string ⟨#[99]⟩, .int .i64 1] 40)) (.slice (some ⟨w1.heap.size, 0, none⟩) 2 2) 2 encF [(⟨#[97]⟩, 0), (⟨#[99]⟩, 1)] := RowsK.lit encF_len [(⟨#[97]⟩, 0), (⟨#[99]⟩, 1)]
  refine (equalFound_any v' _ _ _ _ (R1.keep ((Keep.refl NoB w1).alloc _) (fun _ _ x => x)) R2 (by decide) (by decide)).mono ?_
  rw [decide_eq_true rfl]
  rintro e w2 ⟨rfl, q, hw⟩
  have K2 : Keep NoB w w2 := by rw [hw]; exact (K1'.alloc _).drewN q
  clear R1 R2 K1 K1' hw K
  go_wp2_with fail
  have n1 : Nums (w2.alloc (.cells #[.int .i64 0, .int .i64 0] 3)) (.slice (some ⟨w2.heap.size, 0, none⟩) 2 2) [0, 0] := nums_lit w2 _ rfl 0 0 _
  have n2 : Nums ((w2.alloc (.cells #[.int .i64 0, .int .i64 0] 3)).alloc (.cells #[.int .i64 3, .int .i64 4] 3)) (.slice (some ⟨w2.heap.size + 1, 0, none⟩) 2 2) [3, 4] := nums_lit _ _ (by simp) 3 4 _
  refine (far_any _ _ [0, 0] [3, 4] _ (n1.keep ((Keep.refl NoB _).alloc _) (fun _ _ x => x)) n2 (by decide) (by decide)).mono ?_
  rw [show farW [0, 0] [3, 4] = 25 by decide +kernel]
  rintro e w3 ⟨rfl, q3, hw3⟩
  have K3 : Keep NoB w w3 := by rw [hw3]; exact ((K2.alloc _).alloc _).drewN q3
  clear n1 n2 hw3
  go_wp2_with fail
  go_ret
  exact ⟨rfl, K3⟩
end Go.Proofs.YtcjilojkhmondaaGreatDoor
