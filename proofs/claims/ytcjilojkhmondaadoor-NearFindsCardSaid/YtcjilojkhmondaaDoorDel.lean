/-
  DERIVED. slices.DeleteFunc, of points.
-/
import Derived.Test.YtcjilojkhmondaaDoorItem
import Derived.Test.YtcjilojkhmondaaDoorRight
import Derived.Lib.SlKept
set_option linter.unusedVariables false
set_option linter.unusedSimpArgs false
namespace Go.Cof
open Go.RowKit
section
variable {w : World} {base : Nat} {e : TypeId} {size : Nat} {v : Value} {n : Nat} {xs : List Value}
/-- A cell of it is stored. -/
theorem ownsN_setc (h : OwnsN w base e size v n xs) {g : Nat} (hg : v.ownBlock = some g) (j : Nat) (u : Value) : OwnsN (w.setCell ⟨g, j, none⟩ u) base e size v n (xs.set j u) := by
  refine ⟨by rw [List.length_set]; exact h.1, ?_⟩
  rcases h.2 with ⟨hv, _⟩ | ⟨g', cap, cur, fz, hv, hb, hh, hfz, hnc, hcm, hcs, ht⟩
  · rw [hv] at hg; cases hg
  · rw [hv] at hg
    obtain rfl : g' = g := Option.some.inj hg
    have hlt := lt_of_heap hh
    have h' : w.heap[g'] = .cells cur e fz := by simpa [Array.getElem?_eq_getElem hlt] using hh
    have hset : (w.setCell ⟨g', j, none⟩ u).heap[g']? = some (.cells (cur.setIfInBounds j u) e fz) := by
      show (w.heap.modify g' _)[g']? = _
      rw [Array.getElem?_eq_getElem (by simpa using hlt), Array.getElem_modify_self, h']
      rfl
    refine .inr ⟨g', cap, _, fz, hv, hb, hset, by simpa using hfz, hnc, hcm, by simpa using hcs, ?_⟩
    rw [Array.toList_setIfInBounds, List.take_set, ht]
theorem ownsN_free (h : OwnsN w base e size v n xs) {g : Nat} (hg : v.ownBlock = some g) (j : Nat) (hj : j < n * size) : w.frozen? ⟨g, j, none⟩ = false := by
  rcases h.2 with ⟨hv, _⟩ | ⟨g', cap, cur, fz, hv, hb, hh, hfz, hnc, hcm, hcs, ht⟩
  · rw [hv] at hg; cases hg
  · rw [hv] at hg
    obtain rfl : g' = g := Option.some.inj hg
    have := hfz j (by rw [hcs]; exact Nat.lt_of_lt_of_le hj (Nat.mul_le_mul_right _ hnc))
    obtain ⟨lo, hi⟩ := fz
    simpa [World.frozen?, hh] using this
/-- 'clear' of what lies behind the first i. -/
theorem ownsN_clear {P : Program} (h : OwnsN w base e size v n xs) {g : Nat} (hg : v.ownBlock = some g) (t : TypeId) (z : Value) (ht : P.underlying t = some (.slice e)) (hz : ∀ w, (zeroValue e).run P w = .ok z w) (hzs : z.cells.size = size) (h1 : ∀ u ∈ z.cells, u.oneCell' = true)
    (i c : Nat) (hi : i < n) :
    ∃ w', (∀ ty, (Builtin.clear_ #[t] ty #[.slice (some ⟨g, i * size, none⟩) (n - i) c]).run P w = .ok (.tuple #[]) w') ∧ (∃ ys, OwnsN w' base e size v n (xs.take (i * size) ++ ys)) ∧ Keep (OneB g) w w' := by
  rcases h.2 with ⟨hv, _⟩ | ⟨g', cap, cur, fz, hv, hb, hh, hfz, hnc, hcm, hcs, htk⟩
  · rw [hv] at hg; cases hg
  · rw [hv] at hg
    obtain rfl : g' = g := Option.some.inj hg
    obtain ⟨zs, hzs2⟩ : ∃ zs, zs = (Builtin.zeroCells z.cells (n - i)).toList := ⟨_, rfl⟩
    have hzl : zs.length = (n - i) * size := by rw [hzs2, Array.length_toList, size_zeroCells, hzs]
    have hz1 : ∀ u ∈ zs, u.oneCell' = true := by
      intro u hu
      rw [hzs2] at hu
      simp only [Builtin.zeroCells, Array.toList_map, Array.toList_range, List.mem_map, List.mem_range] at hu
      obtain ⟨k, hk, rfl⟩ := hu
      rw [hzs] at hk ⊢
      have hs0 : 0 < size := by
        rcases Nat.eq_zero_or_pos size with h | h
        · rw [h, Nat.mul_zero] at hk; omega
        · exact h
      have hm : k % size < z.cells.size := by rw [hzs]; exact Nat.mod_lt _ hs0
      refine h1 _ ?_
      first
        | (rw [getElem!_pos z.cells _ hm]; exact Array.getElem_mem hm)
        | (simp [Array.getD, hm])
    have hin : i * size + zs.length ≤ cur.size := by
      rw [hzl, hcs, ← Nat.add_mul]
      exact Nat.mul_le_mul_right _ (by omega)
    have hst := run_storeCells_clear P g' (i * size) e fz zs 0 cur w hh hfz (by simpa using hin) hz1
    simp only [Nat.add_zero] at hst
    obtain ⟨m, hm⟩ : ∃ m, n - i = m + 1 := ⟨n - i - 1, by omega⟩
    have hr : ∀ ty, (Builtin.clear_ #[t] ty #[.slice (some ⟨g', i * size, none⟩) (n - i) c]).run P w = .ok (.tuple #[]) (w.setRow g' (cur.toList.take (i * size) ++ zs ++ cur.toList.drop (i * size + zs.length)).toArray) := by
      intro ty
      rw [hm] at hzs2 ⊢
      simp [Builtin.clear_, run_underlying ht, hz, ← hzs2, hst]
    have hsz2 : (cur.toList.take (i * size) ++ zs ++ cur.toList.drop (i * size + zs.length)).toArray.size = cur.size := by
      simp only [List.size_toArray, List.length_append, List.length_take, List.length_drop, Array.length_toList]
      omega
    have hns : n * size ≤ cur.size := by rw [hcs]; exact Nat.mul_le_mul_right _ hnc
    have hcl : cur.toList.length = cur.size := Array.length_toList
    refine ⟨_, hr, ⟨zs, by rw [List.length_append, List.length_take, h.1, hzl, Nat.min_eq_left (Nat.mul_le_mul_right _ (by omega)), ← Nat.add_mul]; congr 1; omega, .inr ⟨g', cap, _, fz, hv, hb, setRow_heap w g' cur _ e _ hh, by rw [hsz2]; exact hfz, hnc, hcm, by rw [hsz2]; exact hcs, ?_⟩⟩, (Keep.refl (OneB g') w).setRow (g := g') (.inl rfl) _⟩
    have e1 : i * size + zs.length = n * size := by rw [hzl, ← Nat.add_mul]; congr 1; omega
    have e2 : xs.take (i * size) = cur.toList.take (i * size) := by
      rw [← htk, List.take_take, Nat.min_eq_left (Nat.mul_le_mul_right _ (by omega))]
    rw [e2]
    show (cur.toList.take (i * size) ++ zs ++ cur.toList.drop (i * size + zs.length)).take (n * size) = _
    rw [List.take_append_of_le_length (by rw [List.length_append, List.length_take]; omega), List.take_of_length_le (by rw [List.length_append, List.length_take]; omega)]
end
section
variable {α : Type} {enc : α → List Value}
theorem flat_set3 [Inhabited α] (hk : ∀ x, (enc x).length = 3) (d : Array α) (i : Nat) (x : α) (a b c : Value) (hx : enc x = [a, b, c]) (hi : i < d.size) :
    (((d.toList.flatMap enc).set (i * 3) a).set (i * 3 + 1) b).set (i * 3 + 2) c = (d.setIfInBounds i x).toList.flatMap enc := by
  apply List.ext_getElem?
  intro t
  have hl : (d.toList.flatMap enc).length = d.size * 3 := by rw [flat_len hk, Array.length_toList]
  have ht : t = t / 3 * 3 + t % 3 := by omega
  have hm : t % 3 < 3 := Nat.mod_lt _ (by omega)
  obtain ⟨q, hq⟩ : ∃ q, q = t / 3 := ⟨_, rfl⟩
  obtain ⟨r, hr⟩ : ∃ r, r = t % 3 := ⟨_, rfl⟩
  rw [← hq, ← hr] at ht
  rw [← hr] at hm
  rw [ht]
  rw [flat_get hk _ q r hm]
  simp only [List.getElem?_set, List.length_set, hl, flat_get hk _ q r hm, Array.toList_setIfInBounds]
  by_cases e : i = q
  · subst e
    have hi' : i < d.toList.length := by simpa using hi
    have hr3 : r = 0 ∨ r = 1 ∨ r = 2 := by omega
    rcases hr3 with rfl | rfl | rfl
    · rw [if_neg (by omega), if_neg (by omega), if_pos (by omega), if_pos (by omega), if_pos rfl, if_pos hi']
      simp [hx]
    · rw [if_neg (by omega), if_pos (by omega), if_pos (by omega), if_pos rfl, if_pos hi']
      simp [hx]
    · rw [if_pos (by omega), if_pos (by omega), if_pos rfl, if_pos hi']
      simp [hx]
  · rw [if_neg (by omega), if_neg (by omega), if_neg (by omega), if_neg e]
end
end Go.Cof
namespace Go.Proofs.YtcjilojkhmondaaDoor
open Go.RowKit Go.Cof Go.Sort Go.Shelf
set_option maxRecDepth 100000 in
set_option maxHeartbeats 4000000 in
/-- The first of them. -/
theorem firstItem_any (g : FuncId) (cb : Array Value) (p : ItemV → Bool) (v : Value) (l : List ItemV) (w : World) (S : RowsK w v 3 encItem l) (hl : l.length ≤ 1000000)
    (hp : ∀ x, x ∈ l → ∀ W, Keep NoB w W → Calls Tryd.prog g (#[.agg (encItem x).toArray] ++ cb) W fun e w' => e = .returned (.bool (p x)) ∧ Keep NoB W w') (eg : ∀ args w, (callFunc g args).run Tryd.prog w = .ok (.enter g args) w) :
    Calls Tryd.prog 46 #[v, .func (.func g) #[] cb] w fun e w' => (∃ i : Int, e = .returned (.int .i64 i) ∧ ((i = -1 ∧ ∀ j, j < l.length → p l.toArray[j]! = false) ∨ ∃ k : Nat, i = k ∧ k < l.length ∧ p l.toArray[k]! = true ∧ ∀ j, j < k → p l.toArray[j]! = false)) ∧ Keep NoB w w' := by
  obtain ⟨a, c, rfl⟩ := S.len
  obtain ⟨n, hn⟩ : ∃ n, n = l.length := ⟨_, rfl⟩
  rw [← hn] at S hl
  rw [← hn]
  have Hn := Lib.hid hn
  have Hp := Lib.hid hp
  clear hn hp
  go_enter Tryd.func46, Tryd.ntmps46
  go_wp2_with fail
  go_loopw [8] (fun i wr => ∃ k : Nat, k ≤ n ∧ i = .int .i64 k ∧ Hid (∀ j, j < k → p l.toArray[j]! = false) ∧ Keep NoB w wr) (fun i _ => n - (intOf i).toNat)
  case atStart => exact ⟨0, by omega, rfl, Lib.hid (fun j hj => by omega), Keep.refl _ _⟩
  case round =>
    obtain ⟨k, hk, rfl, hpre, K⟩ := hrel
    by_cases hlt : k < n
    · have j1 : decide (k < n) = true := by simp; omega
      have Sr := S.keep K (fun _ _ x => x)
      obtain ⟨b, off, rfl, -, hb, hcell⟩ := Sr.at (by have := Hn.out; omega)
      obtain ⟨x, hx⟩ : ∃ x, l[k]? = some x := ⟨_, List.getElem?_eq_getElem (by have := Hn.out; omega)⟩
      have hra := hcell k x hx
      have hkx : l.toArray[k]! = x := by
        rw [getElem!_pos l.toArray k (by simpa using (List.getElem?_eq_some_iff.1 hx).1)]
        simpa using (List.getElem?_eq_some_iff.1 hx).2
      have hxm : x ∈ l := List.mem_of_getElem? hx
      have hcx := Hp.out x hxm wr K
      have Hkx := Lib.hid hkx
      have hj : (k : Int) < n := by omega
      obtain ⟨nm, tg, av, ns⟩ := x
      have c0 : wr.cell? ⟨b, off + k * 3, none⟩ = some (.string nm) := hra 0 _ rfl
      have c1 : wr.cell? ⟨b, off + k * 3 + 1, none⟩ = some (.string tg) := hra 1 _ rfl
      have c2 : wr.cell? ⟨b, off + k * 3 + 2, none⟩ = some av := hra 2 _ rfl
      have Hcx := Lib.hid hcx
      clear hcell hra hx hcx Sr hxm hkx
      go_wp2_with fail
      refine Hcx.out.mono ?_
      rintro e w' ⟨rfl, K2⟩
      have K3 := K.thenN K2
      cases hps : p ⟨nm, tg, av, ns⟩ with
      | true =>
        have Hps := Lib.hid hps
        clear hps Hcx
        go_wp2_with fail
        go_ret
        exact ⟨⟨(k : Int), rfl, .inr ⟨k, rfl, by have := Hn.out; omega, by rw [Hkx.out]; exact Hps.out, hpre.out⟩⟩, K3⟩
      | false =>
        have Hps := Lib.hid hps
        clear hps Hcx
        go_wp2_with fail
        refine ⟨⟨k + 1, by omega, by go_num, Lib.hid (fun j hj => ?_), K3⟩, by simp [intOf]; omega⟩
        by_cases e : j = k
        · subst e; rw [Hkx.out]; exact Hps.out
        · exact hpre.out j (by omega)
    · obtain rfl : k = n := by omega
      have j1 : decide (k < k) = false := by simp
      go_wp2_with fail
      go_ret
      exact ⟨⟨-1, rfl, .inl ⟨rfl, fun j hj => hpre.out j (by have := Hn.out; omega)⟩⟩, K⟩
set_option maxRecDepth 100000 in
set_option maxHeartbeats 4000000 in
theorem deleteItem_any (g : FuncId) (cb : Array Value) (p : ItemV → Bool) (v : Value) (l : List ItemV) (base : Nat) (w : World) (h : OwnsN w base 34 3 v l.length (l.flatMap encItem)) (hx : ∀ x ∈ l, ∃ p n c, x.av = .slice p n c) (hl : l.length ≤ 1000)
    (hp : ∀ x, x ∈ l → ∀ W, Keep (fun b => v.ownBlock = some b) w W → Calls Tryd.prog g (#[.agg (encItem x).toArray] ++ cb) W fun e w' => e = .returned (.bool (p x)) ∧ Keep NoB W w') (eg : ∀ args w, (callFunc g args).run Tryd.prog w = .ok (.enter g args) w) :
    Calls Tryd.prog 16 #[v, .func (.func g) #[] cb] w fun e w' => ∃ v', e = .returned v' ∧ RowsK w' v' 3 encItem (l.filter fun x => !p x) ∧ (∀ b, v'.ownBlock = some b → v.ownBlock = some b) ∧ Keep (fun b => v.ownBlock = some b) w w' := by
  have hf := firstItem_any g cb p v l w (RowsK.ofN encItem_len h) (by omega) (fun x hxm W K => hp x hxm W K.ofN) eg
  have hkp : l.filter (fun x => !p x) = Lib.keptUpTo (fun j => !p l.toArray[j]!) l.toArray l.length := by
    have := Lib.keptUpTo_filter (fun x => !p x) l.toArray
    simpa using this.symm
  obtain ⟨pa, ca, rfl⟩ := (RowsK.ofN encItem_len h).len
  obtain ⟨n, hn⟩ : ∃ n, n = l.length := ⟨_, rfl⟩
  rw [← hn] at h hf hl hp
  rw [← hn]
  obtain ⟨d, hd⟩ : ∃ d, d = l.toArray := ⟨_, rfl⟩
  have hdl : d.toList = l := by rw [hd]
  have hds : d.size = n := by rw [hd, hn]; simp
  have hfl : l.filter (fun x => !p x) = Lib.keptUpTo (fun j => !p d[j]!) d n := by rw [hkp, ← hd, ← hn]
  rw [← hd] at hf
  rw [hfl]
  obtain ⟨kp, HKP⟩ : ∃ kp : Nat → Bool, Hid (kp = fun j => !p d[j]!) := ⟨_, rfl⟩
  rw [← HKP.out]
  rw [← hdl] at h
  have hmem : ∀ j, j < n → d[j]! ∈ l := fun j hj => by
    have h1 : d[j]'(by omega) ∈ d.toList := Array.mem_toList_iff.2 (Array.getElem_mem _)
    rw [hdl] at h1
    rw [getElem!_pos d j (by omega)]
    exact h1
  have Hn := Lib.hid hn
  have Hds := Lib.hid hds
  have Hdl := Lib.hid hdl
  have Hp := Lib.hid hp
  have Hx := Lib.hid hx
  have Hmem := Lib.hid hmem
  have HO := Lib.hid h
  have Hf := Lib.hid hf
  clear hn hd hdl hds hkp hfl hp hx hmem h hf
  go_enter Tryd.func16, Tryd.ntmps16
  go_wp2_with fail
  refine Hf.out.mono ?_
  rintro e w1 ⟨⟨i, rfl, hi⟩, K1⟩
  rcases hi with ⟨rfl, hno⟩ | ⟨k, rfl, hk, hyes, hlow⟩
  · have hall : Lib.keptUpTo kp d n = d.toList := by
      rw [Lib.keptUpTo_all _ _ _ (fun j hj => by rw [HKP.out]; show (!p d[j]!) = true; rw [hno j hj]; rfl), ← Hds.out]
      exact Lib.range_map_get d
    have Hall := Lib.hid hall
    clear hno hall
    go_wp2_with fail
    go_ret
    refine ⟨_, rfl, ?_, fun b hb => hb, K1.ofN⟩
    rw [Hall.out]
    have hdn : n = d.toList.length := by rw [Array.length_toList, Hds.out]
    have h0 := HO.out.keep K1 (fun _ _ x => x)
    rw [hdn] at h0
    have h1 := RowsK.ofN encItem_len h0
    rw [← hdn] at h1
    exact h1
  · have hI : Lib.KeptInv kp d (k + 1) k d := Lib.KeptInv.start (fun j hj => by rw [HKP.out]; show (!p d[j]!) = true; rw [hlow j hj]; rfl) (by rw [HKP.out]; show (!p d[k]!) = false; rw [hyes]; rfl)
    have HI := Lib.hid hI
    obtain ⟨g', hown⟩ : ∃ g', pa = some ⟨g', 0, none⟩ := by
      obtain ⟨g', cap, hv, _⟩ := HO.out.some (by omega)
      exact ⟨g', by cases hv; rfl⟩
    subst hown
    have hob : (Value.slice (some ⟨g', 0, none⟩) n ca).ownBlock = some g' := rfl
    have K1' : Keep (OneB g') w w1 := K1.ofN
    have HO1 := Lib.hid (HO.out.keep K1 (fun _ _ x => x))
    have hg : g' < w1.heap.size := (HO1.out.lt g' hob).2
    have hcap : n ≤ ca := by
      rcases HO1.out.2 with ⟨h, _⟩ | ⟨_, _, _, _, h, _, _, _, hc, _⟩
      · cases h
      · cases h; exact hc
    have hne : ((k : Int) == -1) = false := beq_eq_false_iff_ne.2 (by omega)
    clear hlow hyes hI Hf HO K1
    go_wp2_with fail
    go_loopw [5, 6] (fun iv jv wr => ∃ (i j : Nat) (dk : Array ItemV), iv = .int .i64 i ∧ jv = .int .i64 j ∧ j ≤ n ∧ i < n ∧ Hid (Lib.KeptInv kp d j i dk) ∧ Hid (OwnsN wr base 34 3 (.slice (some ⟨g', 0, none⟩) n ca) n (dk.toList.flatMap encItem)) ∧ Keep (OneB g') w wr) (fun _ jv _ => n - (intOf jv).toNat)
    case atStart => exact ⟨k, k + 1, d, rfl, by go_num, by omega, hk, HI, HO1, K1'⟩
    case round =>
      obtain ⟨i, j, dk, rfl, rfl, hjn, hin, hI, O, K⟩ := hrel
      by_cases hlt : j < n
      · have j1 : (j : Int) < n := by omega
        have i1 : (i : Int) < n := by omega
        have hij := hI.out.lt
        have hsz := hI.out.size
        obtain ⟨x, hx⟩ : ∃ x, x = d[j]! := ⟨_, rfl⟩
        have hxl : x ∈ l := by rw [hx]; exact Hmem.out j hlt
        have hdk : dk.toList[j]? = some x := by
          have h1 : dk[j]! = x := by rw [hx]; exact hI.out.high j (by omega)
          rw [getElem!_pos dk j (by rw [hsz, Hds.out]; omega)] at h1
          rw [Array.getElem?_toList, Array.getElem?_eq_getElem (by rw [hsz, Hds.out]; omega), h1]
        obtain ⟨y, hy⟩ : ∃ y, dk.toList[i]? = some y := ⟨_, List.getElem?_eq_getElem (by rw [Array.length_toList, hsz, Hds.out]; exact hin)⟩
        have hcl : ∀ q z, dk.toList[q]? = some z → ∀ t u, (encItem z)[t]? = some u → wr.cell? ⟨g', q * 3 + t, none⟩ = some u := by
          intro q z hq t u hu
          have h1 := O.out.cells hob (q * 3 + t) u (by
            have ht : t < 3 := by have := (List.getElem?_eq_some_iff.1 hu).1; simpa [encItem] using this
            rw [flat_get encItem_len _ q t ht, hq]; exact hu)
          rwa [show (⟨g', 0, none⟩ : Addr).add (q * 3 + t) = ⟨g', q * 3 + t, none⟩ by unfold Addr.add; split <;> simp_all] at h1
        have hpc := fun W (KW : Keep (OneB g') w W) => Hp.out x hxl W (KW.mono fun b _ hb => by rw [show b = g' from hb]; exact hob)
        obtain ⟨px, nx, cx, hav⟩ := Hx.out x hxl
        have henc : encItem x = [.string x.name, .string x.tag, .slice px nx cx] := by rw [encItem, hav]
        obtain ⟨nm, hnm⟩ : ∃ nm, nm = x.name := ⟨_, rfl⟩
        obtain ⟨tg, htg⟩ : ∃ tg, tg = x.tag := ⟨_, rfl⟩
        rw [← hnm, ← htg] at henc
        obtain ⟨B, hB⟩ : ∃ B, B = p x := ⟨_, rfl⟩
        rw [henc, ← hB] at hpc
        have c0 : wr.cell? ⟨g', j * 3, none⟩ = some (.string nm) := hcl j x hdk 0 _ (by rw [henc]; rfl)
        have c1 : wr.cell? ⟨g', j * 3 + 1, none⟩ = some (.string tg) := hcl j x hdk 1 _ (by rw [henc]; rfl)
        have c2 : wr.cell? ⟨g', j * 3 + 2, none⟩ = some (.slice px nx cx) := hcl j x hdk 2 _ (by rw [henc]; rfl)
        have d0 : wr.cell? ⟨g', i * 3, none⟩ = some (.string y.name) := hcl i y hy 0 _ rfl
        have d1 : wr.cell? ⟨g', i * 3 + 1, none⟩ = some (.string y.tag) := hcl i y hy 1 _ rfl
        have d2 : wr.cell? ⟨g', i * 3 + 2, none⟩ = some y.av := hcl i y hy 2 _ rfl
        have Henc := Lib.hid henc
        have HB := Lib.hid hB
        have Hx1 := Lib.hid hx
        have Hpc := Lib.hid hpc
        have hgr : g' < wr.heap.size := (O.out.lt g' hob).2
        clear hcl hdk hy hxl hav hnm htg henc hB hx hpc
        go_wp2_with fail
        refine (Hpc.out _ (K.alloc _)).mono ?_
        rintro e w2 ⟨rfl, K2⟩
        have K2' : Keep (OneB g') w w2 := (K.alloc (.cells #[.string nm, .string tg, .slice px nx cx] 34)).thenN K2
        have Kr : Keep NoB wr w2 := ((Keep.refl NoB wr).alloc (.cells #[.string nm, .string tg, .slice px nx cx] 34)).thenN K2
        have hcb : ∀ (t : Nat) (u : Value), (#[Value.string nm, .string tg, .slice px nx cx])[t]? = some u → w2.cell? ⟨wr.heap.size, t, none⟩ = some u := fun t u hu => (K2.cell (p := ⟨wr.heap.size, t, none⟩) (by simp) (fun x => x)).trans (by rw [cell_of_row _ _ t _ 34 (0, 0) (heap_alloc_new wr _)]; exact hu)
        have e0 : w2.cell? ⟨wr.heap.size, 0, none⟩ = some (.string nm) := hcb 0 _ rfl
        have e1 : w2.cell? ⟨wr.heap.size, 1, none⟩ = some (.string tg) := hcb 1 _ rfl
        have e2 : w2.cell? ⟨wr.heap.size, 2, none⟩ = some (.slice px nx cx) := hcb 2 _ rfl
        have f0 := (Kr.cell (p := ⟨g', i * 3, none⟩) hgr (fun x => x)).trans d0
        have f1 := (Kr.cell (p := ⟨g', i * 3 + 1, none⟩) hgr (fun x => x)).trans d1
        have f2 := (Kr.cell (p := ⟨g', i * 3 + 2, none⟩) hgr (fun x => x)).trans d2
        have O2 := O.out.keep Kr (fun _ _ x => x)
        have z0 := ownsN_free O2 hob (i * 3) (by omega)
        have z1 := ownsN_free O2 hob (i * 3 + 1) (by omega)
        have z2 := ownsN_free O2 hob (i * 3 + 2) (by omega)
        have HO2 := Lib.hid O2
        obtain ⟨bx, hbx⟩ : ∃ b, b = wr.heap.size := ⟨_, rfl⟩
        rw [← hbx] at e0 e1 e2 ⊢
        clear c0 c1 c2 d0 d1 d2 hcb O2 Hpc K2 Kr O hbx
        cases B with
        | true =>
          simp only [Bool.not_true]
          go_wp2_with fail
          refine ⟨⟨i, j + 1, dk, rfl, by go_num, by omega, hin, Lib.hid (hI.out.skip ?_), HO2, K2'⟩, by simp [intOf]; omega⟩
          rw [HKP.out]
          show (!p d[j]!) = false
          rw [← Hx1.out, ← HB.out]
          rfl
        | false =>
          simp only [Bool.not_false]
          go_wp2_with fail
          have hkeep := hI.out.keep (by rw [Hds.out]; exact hlt) (show kp j = true by rw [HKP.out]; show (!p d[j]!) = true; rw [← Hx1.out, ← HB.out]; rfl)
          refine ⟨⟨i + 1, j + 1, _, by go_num, by go_num, by omega, by omega, Lib.hid hkeep, Lib.hid ?_, ((K2'.set1 _ _).set1 _ _).set1 _ _⟩, by simp [intOf]; omega⟩
          rw [← Hx1.out, ← flat_set3 encItem_len dk i x _ _ _ Henc.out (by rw [hsz, Hds.out]; exact hin)]
          exact ownsN_setc (ownsN_setc (ownsN_setc HO2.out hob _ _) hob _ _) hob _ _
      · obtain rfl : j = n := by omega
        obtain ⟨w2, hcl, ⟨ys, O2⟩, K2⟩ := ownsN_clear (P := Tryd.prog) O.out hob 22 (.agg #[.string ⟨#[]⟩, .string ⟨#[]⟩, .slice none 0 0]) Tryd.underlying22 Tryd.zeroValue34 rfl (by intro u hu; simp only [Value.cells, List.mem_toArray, List.mem_cons, List.not_mem_nil, or_false] at hu; rcases hu with rfl | rfl | rfl <;> rfl) i (ca - i) hin
        have i1 : (i : Int) ≤ j := by omega
        have K3 : Keep (OneB g') w w2 := K.then K2
        have HO2 := Lib.hid O2
        have ic : (i : Int) ≤ ca := by omega
        have jc : (j : Int) ≤ ca := by omega
        clear O2 K2
        go_wp2_with fail
        go_ret
        have hlen : (Lib.keptUpTo kp d j).length = i := hI.out.len
        refine ⟨_, rfl, .inr ⟨g', 0, ca, by rw [hlen]; rfl, (HO2.out.lt g' hob).2, fun q x hq t u hu => ?_⟩, fun b hb => hb, K3.mono fun b _ hb => by rw [show b = g' from hb]; exact hob⟩
        have hqi : q < i := by
          have := (List.getElem?_eq_some_iff.1 hq).1
          rwa [hlen] at this
        have ht : t < 3 := by have := (List.getElem?_eq_some_iff.1 hu).1; simpa [encItem] using this
        have hlow := hI.out.low q hqi
        rw [hq] at hlow
        have hqd : q < dk.size := by rw [hI.out.size, Hds.out]; omega
        have hx : dk.toList[q]? = some x := by
          rw [Array.getElem?_toList, Array.getElem?_eq_getElem hqd]
          rw [getElem!_pos dk q hqd] at hlow
          exact hlow.symm
        have h1 := HO2.out.cells hob (q * 3 + t) u (by
          rw [List.getElem?_append_left (by rw [List.length_take, flat_len encItem_len, Array.length_toList]; omega), List.getElem?_take, if_pos (by omega), flat_get encItem_len _ q t ht, hx]
          exact hu)
        rw [show (⟨g', 0, none⟩ : Addr).add (q * 3 + t) = ⟨g', 0 + q * 3 + t, none⟩ by unfold Addr.add; split <;> simp_all] at h1
        exact h1
end Go.Proofs.YtcjilojkhmondaaDoor
