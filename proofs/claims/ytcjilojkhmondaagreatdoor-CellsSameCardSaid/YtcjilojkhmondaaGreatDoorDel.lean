/-
  DERIVED. slices.DeleteFunc, of points.
-/
import Derived.Test.YtcjilojkhmondaaGreatDoorItem
import Derived.Test.YtcjilojkhmondaaGreatDoorRight
import Derived.Lib.SlKept
set_option linter.unusedVariables false
set_option linter.unusedSimpArgs false
namespace Go.Cof
open Go.RowKit
section
variable {w : World} {base : Nat} {e : TypeId} {size : Nat} {v : Value} {n : Nat} {xs : List Value}
/-- A cell of it is stored. -/
theorem ownsN_setc (h : OwnsN w base e size v n xs) {g : Nat} (hg : v.ownBlock = some g) (j : Nat) (u : Value) : OwnsN (w.setCell ⟨g, j, none⟩ u) base e size v n (xs.set j u) := by
  refine ⟨by rw [List.length_set]; exact h.1, ?_⟩
  rcases h.2 with ⟨hv, _⟩ | ⟨g', cap, cur, fz, hv, hb, hh, hfz, hnc, hcm, hcs, ht⟩
  · rw [hv] at hg; cases hg
  · rw [hv] at hg
    obtain rfl : g' = g := Option.some.inj hg
    have hlt := lt_of_heap hh
    have h' : w.heap[g'] = .cells cur e fz := by simpa [Array.getElem?_eq_getElem hlt] using hh
    have hset : (w.setCell ⟨g', j, none⟩ u).heap[g']? = some (.cells (cur.setIfInBounds j u) e fz) := by
      show (w.heap.modify g' _)[g']? = _
      rw [Array.getElem?_eq_getElem (by simpa using hlt), Array.getElem_modify_self, h']
      rfl
    refine .inr ⟨g', cap, _, fz, hv, hb, hset, by simpa using hfz, hnc, hcm, by simpa using hcs, ?_⟩
    rw [Array.toList_setIfInBounds, List.take_set, ht]
theorem ownsN_free (h : OwnsN w base e size v n xs) {g : Nat} (hg : v.ownBlock = some g) (j : Nat) (hj : j < n * size) : w.frozen? ⟨g, j, none⟩ = false := by
  rcases h.2 with ⟨hv, _⟩ | ⟨g', cap, cur, fz, hv, hb, hh, hfz, hnc, hcm, hcs, ht⟩
  · rw [hv] at hg; cases hg
  · rw [hv] at hg
    obtain rfl : g' = g := Option.some.inj hg
    have := hfz j (by rw [hcs]; exact Nat.lt_of_lt_of_le hj (Nat.mul_le_mul_right _ hnc))
    obtain ⟨lo, hi⟩ := fz
    simpa [World.frozen?, hh] using this
/-- 'clear' of what lies behind the first i. -/
theorem ownsN_clear {P : Program} (h : OwnsN w base e size v n xs) {g : Nat} (hg : v.ownBlock = some g) (t : TypeId) (z : Value) (ht : P.underlying t = some (.slice e)) (hz : ∀ w, (zeroValue e).run P w = .ok z w) (hzs : z.cells.size = size) (h1 : ∀ u ∈ z.cells, u.oneCell' = true)
    (i c : Nat) (hi : i < n) :
    ∃ w', (∀ ty, (Builtin.clear_ #[t] ty #[.slice (some ⟨g, i * size, none⟩) (n - i) c]).run P w = .ok (.tuple #[]) w') ∧ (∃ ys, OwnsN w' base e size v n (xs.take (i * size) ++ ys)) ∧ Keep (OneB g) w w' := by
  rcases h.2 with ⟨hv, _⟩ | ⟨g', cap, cur, fz, hv, hb, hh, hfz, hnc, hcm, hcs, htk⟩
  · rw [hv] at hg; cases hg
  · rw [hv] at hg
    obtain rfl : g' = g := Option.some.inj hg
    obtain ⟨zs, hzs2⟩ : ∃ zs, zs = (Builtin.zeroCells z.cells (n - i)).toList := ⟨_, rfl⟩
    have hzl : zs.length = (n - i) * size := by rw [hzs2, Array.length_toList, size_zeroCells, hzs]
    have hz1 : ∀ u ∈ zs, u.oneCell' = true := by
      intro u hu
      rw [hzs2] at hu
      simp only [Builtin.zeroCells, Array.toList_map, Array.toList_range, List.mem_map, List.mem_range] at hu
      obtain ⟨k, hk, rfl⟩ := hu
      rw [hzs] at hk ⊢
      have hs0 : 0 < size := by
        rcases Nat.eq_zero_or_pos size with h | h
        · rw [h, Nat.mul_zero] at hk; omega
        · exact h
      have hm : k % size < z.cells.size := by rw [hzs]; exact Nat.mod_lt _ hs0
      refine h1 _ ?_
      first
        | (rw [getElem!_pos z.cells _ hm]; exact Array.getElem_mem hm)
        | (simp [Array.getD, hm])
    have hin : i * size + zs.length ≤ cur.size := by
      rw [hzl, hcs, ← Nat.add_mul]
      exact Nat.mul_le_mul_right _ (by omega)
    have hst := run_storeCells_clear P g' (i * size) e fz zs 0 cur w hh hfz (by simpa using hin) hz1
    simp only [Nat.add_zero] at hst
    obtain ⟨m, hm⟩ : ∃ m, n - i = m + 1 := ⟨n - i - 1, by omega⟩
    have hr : ∀ ty, (Builtin.clear_ #[t] ty #[.slice (some ⟨g', i * size, none⟩) (n - i) c]).run P w = .ok (.tuple #[]) (w.setRow g' (cur.toList.take (i * size) ++ zs ++ cur.toList.drop (i * size + zs.length)).toArray) := by
      intro ty
      rw [hm] at hzs2 ⊢
      simp [Builtin.clear_, run_underlying ht, hz, ← hzs2, hst]
    have hsz2 : (cur.toList.take (i * size) ++ zs ++ cur.toList.drop (i * size + zs.length)).toArray.size = cur.size := by
      simp only [List.size_toArray, List.length_append, List.length_take, List.length_drop, Array.length_toList]
      omega
    have hns : n * size ≤ cur.size := by rw [hcs]; exact Nat.mul_le_mul_right _ hnc
    have hcl : cur.toList.length = cur.size := Array.length_toList
    refine ⟨_, hr, ⟨zs, by rw [List.length_append, List.length_take, h.1, hzl, Nat.min_eq_left (Nat.mul_le_mul_right _ (by omega)), ← Nat.add_mul]; congr 1; omega, .inr ⟨g', cap, _, fz, hv, hb, setRow_heap w g' cur _ e _ hh, by rw [hsz2]; exact hfz, hnc, hcm, by rw [hsz2]; exact hcs, ?_⟩⟩, (Keep.refl (OneB g') w).setRow (g := g') (.inl rfl) _⟩
    have e1 : i * size + zs.length = n * size := by rw [hzl, ← Nat.add_mul]; congr 1; omega
    have e2 : xs.take (i * size) = cur.toList.take (i * size) := by
      rw [← htk, List.take_take, Nat.min_eq_left (Nat.mul_le_mul_right _ (by omega))]
    rw [e2]
    show (cur.toList.take (i * size) ++ zs ++ cur.toList.drop (i * size + zs.length)).take (n * size) = _
    rw [List.take_append_of_le_length (by rw [List.length_append, List.length_take]; omega), List.take_of_length_le (by rw [List.length_append, List.length_take]; omega)]
end
section
variable {α : Type} {enc : α → List Value}
theorem flat_set3 [Inhabited α] (hk : ∀ x, (enc x).length = 3) (d : Array α) (i : Nat) (x : α) (a b c : Value) (hx : enc x = [a, b, c]) (hi : i < d.size) :
    (((d.toList.flatMap enc).set (i * 3) a).set (i * 3 + 1) b).set (i * 3 + 2) c = (d.setIfInBounds i x).toList.flatMap enc := by
  apply List.ext_getElem?
  intro t
  have hl : (d.toList.flatMap enc).length = d.size * 3 := by rw [flat_len hk, Array.length_toList]
  have ht : t = t / 3 * 3 + t % 3 := by omega
  have hm : t % 3 < 3 := Nat.mod_lt _ (by omega)
  obtain ⟨q, hq⟩ : ∃ q, q = t / 3 := ⟨_, rfl⟩
  obtain ⟨r, hr⟩ : ∃ r, r = t % 3 := ⟨_, rfl⟩
  rw [← hq, ← hr] at ht
  rw [← hr] at hm
  rw [ht]
  rw [flat_get hk _ q r hm]
  simp only [List.getElem?_set, List.length_set, hl, flat_get hk _ q r hm, Array.toList_setIfInBounds]
  by_cases e : i = q
  · subst e
    have hi' : i < d.toList.length := by simpa using hi
    have hr3 : r = 0 ∨ r = 1 ∨ r = 2 := by omega
    rcases hr3 with rfl | rfl | rfl
    · rw [if_neg (by omega), if_neg (by omega), if_pos (by omega), if_pos (by omega), if_pos rfl, if_pos hi']
      simp [hx]
    · rw [if_neg (by omega), if_pos (by omega), if_pos (by omega), if_pos rfl, if_pos hi']
      simp [hx]
    · rw [if_pos (by omega), if_pos (by omega), if_pos rfl, if_pos hi']
      simp [hx]
  · rw [if_neg (by omega), if_neg (by omega), if_neg (by omega), if_neg e]
end
end Go.Cof
namespace Go.Proofs.YtcjilojkhmondaaGreatDoor
open Go.RowKit Go.Cof Go.Sort Go.Shelf
set_option maxRecDepth 100000 in
set_option maxHeartbeats 4000000 in
/-- The first of them. -/
theorem firstItem_any (g : FuncId) (cb : Array Value) (p : ItemV → Bool) (v : Value) (l : List ItemV) (w : World) (S : RowsK w v 3 encItem l) (hl : l.length ≤ 1000000)
    (hp : ∀ x, x ∈ l → ∀ W, Keep NoB w W → Calls Tryz.prog g (#[.agg (encItem x).toArray] ++ cb) W fun e w' => e = .returned (.bool (p x)) ∧ Keep NoB W w') (eg : ∀ args w, (callFunc g args).run Tryz.prog w = .ok (.enter g args) w) :
    Calls Tryz.prog 30 #[v, .func (.func g) #[] cb] w fun e w' => (∃ i : Int, e = .returned (.int .i64 i) ∧ ((i = -1 ∧ ∀ j, j < l.length → p l.toArray[j]! = false) ∨ ∃ k : Nat, i = k ∧ k < l.length ∧ p l.toArray[k]! = true ∧ ∀ j, j < k → p l.toArray[j]! = false)) ∧ Keep NoB w w' := by
  obtain ⟨a, c, rfl⟩ := S.len
  obtain ⟨n, hn⟩ : ∃ n, n = l.length := ⟨_, rfl⟩
  rw [← hn] at S hl
  rw [← hn]
  have Hn := Lib.hid hn
  have Hp := Lib.hid hp
  clear hn hp
  go_enter Tryz.func30, Tryz.ntmps30
  go_wp2_with fail
  go_loopw [8] (fun i wr => ∃ k : Nat, k ≤ n ∧ i = .int .i64 k ∧ Hid (∀ j, j < k → p l.toArray[j]! = false) ∧ Keep NoB w wr) (fun i _ => n - (intOf i).toNat)
  case atStart => exact ⟨0, by omega, rfl, Lib.hid (fun j hj => by omega), Keep.refl _ _⟩
  case round =>
    obtain ⟨k, hk, rfl, hpre, K⟩ := hrel
    by_cases hlt : k < n
    · have j1 : decide (k < n) = true := by simp; omega
      have Sr := S.keep K (fun _ _ x => x)
      obtain ⟨b, off, rfl, -, hb, hcell⟩ := Sr.at (by have := Hn.out; omega)
      obtain ⟨x, hx⟩ : ∃ x, l[k]? = some x := ⟨_, List.getElem?_eq_getElem (by have := Hn.out; omega)⟩
      have hra := hcell k x hx
      have hkx : l.toArray[k]! = x := by
        rw [getElem!_pos l.toArray k (by simpa using (List.getElem?_eq_some_iff.1 hx).1)]
        simpa using (List.getElem?_eq_some_iff.1 hx).2
      have hxm : x ∈ l := List.mem_of_getElem? hx
      have hcx := Hp.out x hxm wr K
      have Hkx := Lib.hid hkx
      have hj : (k : Int) < n := by omega
      obtain ⟨nm, tg, av, ns⟩ := x
      have c0 : wr.cell? ⟨b, off + k * 3, none⟩ = some (.string nm) := hra 0 _ rfl
      have c1 : wr.cell? ⟨b, off + k * 3 + 1, none⟩ = some (.string tg) := hra 1 _ rfl
      have c2 : wr.cell? ⟨b, off + k * 3 + 2, none⟩ = some av := hra 2 _ rfl
      have Hcx := Lib.hid hcx
      clear hcell hra hx hcx Sr hxm hkx
      go_wp2_with fail
      refine Hcx.out.mono ?_
      rintro e w' ⟨rfl, K2⟩
      have K3 := K.thenN K2
      cases hps : p ⟨nm, tg, av, ns⟩ with
      | true =>
        have Hps := Lib.hid hps
        clear hps Hcx
        go_wp2_with fail
        go_ret
        exact ⟨⟨(k : Int), rfl, .inr ⟨k, rfl, by have := Hn.out; omega, by rw [Hkx.out]; exact Hps.out, hpre.out⟩⟩, K3⟩
      | false =>
        have Hps := Lib.hid hps
        clear hps Hcx
        go_wp2_with fail
        refine ⟨⟨k + 1, by omega, by go_num, Lib.hid (fun j hj => ?_), K3⟩, by simp [intOf]; omega⟩
        by_cases e : j = k
        · subst e; rw [Hkx.out]; exact Hps.out
        · exact hpre.out j (by omega)
    · obtain rfl : k = n := by omega
      have j1 : decide (k < k) = false := by simp
      go_wp2_with fail
      go_ret
      exact ⟨⟨-1, rfl, .inl ⟨rfl, fun j hj => hpre.out j (by have := Hn.out; omega)⟩⟩, K⟩
end Go.Proofs.YtcjilojkhmondaaGreatDoor
