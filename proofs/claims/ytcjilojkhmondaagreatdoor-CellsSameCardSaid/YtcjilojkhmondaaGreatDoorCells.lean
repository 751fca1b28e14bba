/-
  DERIVED. Points in cells, in memory: down, which cell (slices.IndexFunc), how far a cell is (least).
-/
import Derived.Test.YtcjilojkhmondaaGreatDoorCellsP
import Derived.Test.YtcjilojkhmondaaGreatDoorStab3
import Derived.Laws.StructEq
import Derived.ChangeKeysEq
import Derived.BigRegion
import Derived.Deep.CutBlock
import Derived.Deep.DeepCutAuto
import Derived.RegionTactic
set_option linter.unusedVariables false
set_option linter.unusedSimpArgs false
namespace Go.Cof
open Go.RowKit Go.Sort Go.Shelf
def ints8 (l : List Int) : List Value := l.map (Value.int .i64)
theorem ints8_one (l : List Int) : ∀ u ∈ ints8 l, u.oneCell' = true := by
  intro u hu
  obtain ⟨n, _, rfl⟩ := List.mem_map.1 hu
  rfl
theorem eqItems_ints {P : Program} {d : Nat} {e : TypeId} {k : IntKind} {l m : List Int} {w : World} (he : P.underlying e = some (.int k)) (hpk : P.plainKey e = true) (hl : l.length = 8) (hm : m.length = 8) :
    ∀ is : List Nat, (∀ i ∈ is, i < 8) → (Op.eqItems (d + 1) e 1 (ints8 l).toArray (ints8 m).toArray is).run P w = .ok (is.all fun i => decide (l.getD i 0 = m.getD i 0)) w
  | [], _ => by simp [Op.eqItems]
  | i :: is, h => by
    have hi := h i List.mem_cons_self
    have ih := eqItems_ints (d := d) (w := w) he hpk hl hm is (fun j hj => h j (List.mem_cons_of_mem _ hj))
    have ha : (part e (ints8 l).toArray (i * 1)).run P w = .ok (.int .i64 (l.getD i 0)) w := run_part_plain w hpk (by
      rw [Nat.mul_one, List.getElem?_toArray, ints8, List.getElem?_map, List.getD_eq_getElem?_getD, List.getElem?_eq_getElem (by omega)]; rfl)
    have hb : (part e (ints8 m).toArray (i * 1)).run P w = .ok (.int .i64 (m.getD i 0)) w := run_part_plain w hpk (by
      rw [Nat.mul_one, List.getElem?_toArray, ints8, List.getElem?_map, List.getD_eq_getElem?_getD, List.getElem?_eq_getElem (by omega)]; rfl)
    simp only [Op.eqItems, Sem.run_bind, ha, hb, Result.andThen_ok, run_equalIn_int w d e .i64 k _ _ he, ih, List.all_cons]
    by_cases h : l.getD i 0 = m.getD i 0
    · have hb : (l.getD i 0 == m.getD i 0) = true := by simpa using h
      rw [hb, decide_eq_true h, Bool.true_and]
      simp [ih]
    · have hb : (l.getD i 0 == m.getD i 0) = false := by simpa using h
      rw [hb, decide_eq_false h, Bool.false_and]
      simp
set_option maxRecDepth 100000 in
theorem eight (l : List Int) (h : l.length = 8) : ∃ a0 a1 a2 a3 a4 a5 a6 a7, l = [a0, a1, a2, a3, a4, a5, a6, a7] := by
  match l, h with
  | [a0, a1, a2, a3, a4, a5, a6, a7], _ => exact ⟨a0, a1, a2, a3, a4, a5, a6, a7, rfl⟩
theorem all8 {l m : List Int} (hl : l.length = 8) (hm : m.length = 8) : ((List.range 8).all fun i => decide (l.getD i 0 = m.getD i 0)) = decide (l = m) := by
  rw [Bool.eq_iff_iff, List.all_eq_true, decide_eq_true_eq]
  constructor
  · intro h
    apply List.ext_getElem (by omega)
    intro i h1 h2
    have := h i (List.mem_range.2 (by omega))
    rw [decide_eq_true_eq, List.getD_eq_getElem?_getD, List.getD_eq_getElem?_getD, List.getElem?_eq_getElem h1, List.getElem?_eq_getElem h2] at this
    exact this
  · rintro rfl i _
    simp
end Go.Cof
namespace Go.Proofs.YtcjilojkhmondaaGreatDoor
open Go.RowKit Go.Cof Go.Sort Go.Shelf
set_option maxRecDepth 100000 in
theorem eq_at (l m : List Int) (hl : l.length = 8) (hm : m.length = 8) (w : World) : (Op.equalIn 10000 55 (.agg (ints8 l).toArray) (.agg (ints8 m).toArray)).run Tryz.prog w = .ok (decide (l = m)) w := by
  have hib : ∃ i, Tryz.prog.info? 3 = some i := ⟨_, rfl⟩
  obtain ⟨i, hi⟩ := hib
  have hc : Tryz.prog.cellsOf 3 = 1 := by kernel_rfl
  have hpk : Tryz.prog.plainKey 3 = true := by kernel_rfl
  rw [show (10000 : Nat) = 9999 + 1 from rfl, run_equalIn_array w 9999 _ _ Tryz.underlying55 hi, hc, show (9999 : Nat) = 9998 + 1 from rfl, eqItems_ints Tryz.underlying3 hpk hl hm _ (fun i hi => List.mem_range.1 hi), all8 hl hm]
theorem down_any (n : Int) (hn : -1000 ≤ n ∧ n ≤ 1000) (w : World) : Calls Tryz.prog 22 #[.int .i64 n] w fun e w' => e = .returned (.int .i64 (downI n)) ∧ w' = w := by
  have r1 : IntKind.i64.wrap (n + 1000) = n + 1000 := IntWalk.i64_in _ (by omega)
  have hd : (n + 1000).tdiv 250 = (n + 1000) / 250 := Int.tdiv_eq_ediv_of_nonneg (by omega)
  have r2 : IntKind.i64.wrap ((n + 1000) / 250) = (n + 1000) / 250 := IntWalk.i64_in _ (by omega)
  have r3 : IntKind.i64.wrap ((n + 1000) / 250 - 4) = (n + 1000) / 250 - 4 := IntWalk.i64_in _ (by omega)
  unfold downI
  go_enter Tryz.func22, Tryz.ntmps22
  go_wp2_with fail
  go_ret
  exact ⟨by simp [hd, r1, r2, r3], rfl⟩
theorem info_at : (Tryz.prog.info? 55).map (·.size) = some 8 := by kernel_rfl
/-- Whether it is that cell. -/
theorem sameCell_any (pb ab : Nat) (l m : List Int) (sv : Value) (w : World) (hl : l.length = 8) (hm : m.length = 8) (hp : w.heap[pb]? = some (.cells (ints8 l ++ [sv]).toArray 60 (0, 0))) (ha : w.heap[ab]? = some (.cells (ints8 m).toArray 55 (0, 0))) :
    Calls Tryz.prog 24 #[.pointer (some ⟨pb, 0, none⟩), .pointer (some ⟨ab, 0, none⟩)] w fun e w' => e = .returned (.bool (decide (l = m))) ∧ ∃ q, w' = w.drewN q := by
  have heq := fun w => eq_at l m hl hm w
  have hgt : Tryz.prog.eqGuardType Tryz.prog.depth 55 = false := by kernel_rfl
  obtain ⟨B, hB⟩ : ∃ B, B = decide (l = m) := ⟨_, rfl⟩
  rw [← hB] at heq ⊢
  obtain ⟨a0, a1, a2, a3, a4, a5, a6, a7, rfl⟩ := eight l hl
  obtain ⟨b0, b1, b2, b3, b4, b5, b6, b7, rfl⟩ := eight m hm
  have cp : ∀ j u, ([Value.int .i64 a0, .int .i64 a1, .int .i64 a2, .int .i64 a3, .int .i64 a4, .int .i64 a5, .int .i64 a6, .int .i64 a7, sv])[j]? = some u → w.cell? ⟨pb, j, none⟩ = some u := fun j u hu => by
    rw [cell_of_row _ _ j _ 60 (0, 0) hp, List.getElem?_toArray]; exact hu
  have ca : ∀ j u, ([Value.int .i64 b0, .int .i64 b1, .int .i64 b2, .int .i64 b3, .int .i64 b4, .int .i64 b5, .int .i64 b6, .int .i64 b7])[j]? = some u → w.cell? ⟨ab, j, none⟩ = some u := fun j u hu => by
    rw [cell_of_row _ _ j _ 55 (0, 0) ha, List.getElem?_toArray]; exact hu
  have p0 := cp 0 _ rfl
  have p1 := cp 1 _ rfl
  have p2 := cp 2 _ rfl
  have p3 := cp 3 _ rfl
  have p4 := cp 4 _ rfl
  have p5 := cp 5 _ rfl
  have p6 := cp 6 _ rfl
  have p7 := cp 7 _ rfl
  have q0 := ca 0 _ rfl
  have q1 := ca 1 _ rfl
  have q2 := ca 2 _ rfl
  have q3 := ca 3 _ rfl
  have q4 := ca 4 _ rfl
  have q5 := ca 5 _ rfl
  have q6 := ca 6 _ rfl
  have q7 := ca 7 _ rfl
  simp only [ints8, List.map_cons, List.map_nil] at heq
  clear hB hp ha hl hm cp ca
  go_enter Tryz.func24, Tryz.ntmps24
  go_wp2_with fail
  go_quiet (fail)
  go_wp2_with fail
  go_ret
  exact ⟨rfl, _, rfl⟩
set_option maxRecDepth 100000 in
set_option maxHeartbeats 4000000 in
/-- How far a cell is, at least. -/
theorem least_any (cb pb : Nat) (dim : Nat) (cv : Value) (at_ : List Int) (c : List Int) (sv : Value) (va : Value) (w : World) (hc8 : c.length = 8) (hcr : ∀ k, -4 ≤ c.getD k 0 ∧ c.getD k 0 ≤ 4) (hat : numOk at_) (hd : dim ≤ 8) (hda : at_.length = dim)
    (N : Nums w va at_) (hC : w.heap[cb]? = some (.cells #[.int .i64 dim, cv] 54 (0, 0))) (hp : w.heap[pb]? = some (.cells (ints8 c ++ [sv]).toArray 60 (0, 0))) :
    Calls Tryz.prog 25 #[.pointer (some ⟨cb, 0, none⟩), .pointer (some ⟨pb, 0, none⟩), va] w fun e w' => e = .returned (.int .i64 (leastK c at_ dim)) ∧ ∃ q, w' = w.drewN q := by
  have c0 : w.cell? ⟨cb, 0, none⟩ = some (.int .i64 dim) := by rw [cell_of_row _ _ _ _ _ (0, 0) hC]; rfl
  obtain ⟨pa, ca, rfl⟩ := N.len
  have Hda := Lib.hid hda
  rw [hda] at N ⊢
  clear hda
  have HN := Lib.hid N
  have Hp := Lib.hid hp
  clear N hC hp
  go_enter Tryz.func25, Tryz.ntmps25
  go_wp2_with fail
  go_loopw [7, 15] (fun nv iv wr => ∃ i : Nat, i ≤ dim ∧ iv = .int .i64 i ∧ nv = .int .i64 (leastK c at_ i) ∧ ∃ q, wr = w.drewN q) (fun _ iv _ => dim - (intOf iv).toNat)
  case atStart => exact ⟨0, by omega, rfl, rfl, 0, rfl⟩
  case round =>
    obtain ⟨i, hi, rfl, rfl, q, rfl⟩ := hrel
    by_cases hlt : i < dim
    · have i1 : (i : Int) < dim := by omega
      have i8 : (i : Int) < 8 := by omega
      obtain ⟨bA, oA, rfl, -, hbA, hcA⟩ := HN.out.at (by have := Hda.out; omega)
      have cA := hcA i (by have := Hda.out; omega)
      have cP : w.cell? ⟨pb, i, none⟩ = some (.int .i64 (c.getD i 0)) := by
        rw [cell_of_row _ _ _ _ _ (0, 0) Hp.out, List.getElem?_toArray, List.getElem?_append_left (by rw [ints8, List.length_map]; omega), ints8, List.getElem?_map, List.getD_eq_getElem?_getD, List.getElem?_eq_getElem (by omega)]
        rfl
      have hci := hcr i
      have hai := numOk_getD hat i
      have hL := leastK_ok c at_ hcr hat i (by omega)
      have hnext : leastK c at_ (i + 1) = leastK c at_ i + gapI (c.getD i 0 * 250) (at_.getD i 0) * gapI (c.getD i 0 * 250) (at_.getD i 0) := rfl
      obtain ⟨x, hx⟩ : ∃ x, x = c.getD i 0 := ⟨_, rfl⟩
      obtain ⟨y, hy⟩ : ∃ y, y = at_.getD i 0 := ⟨_, rfl⟩
      obtain ⟨n, hn⟩ : ∃ n, n = leastK c at_ i := ⟨_, rfl⟩
      rw [← hx] at cP hci hnext
      rw [← hy] at cA hai hnext
      rw [← hn] at hL hnext ⊢
      have r1 : IntKind.i64.wrap (x * 250) = x * 250 := IntWalk.i64_in _ (by omega)
      have r2 : IntKind.i64.wrap (x * 250 - y) = x * 250 - y := IntWalk.i64_in _ (by omega)
      have r3 : IntKind.i64.wrap (x * 250 + 250) = x * 250 + 250 := IntWalk.i64_in _ (by omega)
      have r4 : IntKind.i64.wrap (x * 250 + 250 - 1) = x * 250 + 250 - 1 := IntWalk.i64_in _ (by omega)
      have r5 : IntKind.i64.wrap (y - (x * 250 + 250 - 1)) = y - (x * 250 + 250 - 1) := IntWalk.i64_in _ (by omega)
      have hgap : max (max (x * 250 - y) (y - (x * 250 + 250 - 1))) 0 = gapI (x * 250) y := rfl
      have Hnext := Lib.hid hnext
      clear hcA hx hy hn hnext
      have mixed : Tryz.prog.follows .mixedOrders = true := by kernel_rfl
      have hif : (if (if x * 250 - y < y - (x * 250 + 250 - 1) then y - (x * 250 + 250 - 1) else x * 250 - y) < 0 then 0 else if x * 250 - y < y - (x * 250 + 250 - 1) then y - (x * 250 + 250 - 1) else x * 250 - y) = gapI (x * 250) y := by
        unfold gapI
        split <;> split <;> omega
      have hg0 : 0 ≤ gapI (x * 250) y ∧ gapI (x * 250) y ≤ 4000 := by unfold gapI; omega
      have hg2 := sq_bound (d := gapI (x * 250) y) (B := 4000) (by omega) (by omega)
      obtain ⟨g, hg⟩ : ∃ g, g = gapI (x * 250) y := ⟨_, rfl⟩
      rw [← hg] at hif hg2 Hnext
      obtain ⟨gg, hgg⟩ : ∃ gg, gg = g * g := ⟨_, rfl⟩
      rw [← hgg] at hg2 Hnext
      have r6 : IntKind.i64.wrap (g * g) = gg := by rw [← hgg]; exact IntWalk.i64_in _ (by omega)
      have r7 : IntKind.i64.wrap (n + gg) = n + gg := IntWalk.i64_in _ (by omega)
      have Hgg := Lib.hid hgg
      have Hif := Lib.hid hif
      clear hg hgg hif hgap hg0 hg2
      go_upto_region 6 with (fail)
      go_big_region_o
      rw [Hif.out]
      clear r1 r2 r3 r4 r5
      go_wp2_with fail
      exact ⟨⟨i + 1, by omega, by go_num, by rw [Hnext.out], _, rfl⟩, by simp [intOf]; omega⟩
    · obtain rfl : i = dim := by omega
      go_wp2_with fail
      go_ret
      exact ⟨rfl, _, rfl⟩
end Go.Proofs.YtcjilojkhmondaaGreatDoor
