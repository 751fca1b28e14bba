/-
  DERIVED. A law's own right: points that may be, of two numbers, each name once.
-/
import Derived.Test.YtcjilojkhmondaaDoorItem
set_option linter.unusedVariables false
set_option linter.unusedSimpArgs false
namespace Go.Proofs.YtcjilojkhmondaaDoor
open Go.RowKit Go.Cof Go.Sort Go.Shelf
def sameName (x y : ItemV) : Bool := decide (y.name = x.name)
def rightStep (out : List ItemV) (x : ItemV) : List ItemV := if itemB x 2 && !out.any (sameName x) then out ++ [x] else out
def rightL (l : List ItemV) : List ItemV := l.foldl rightStep []
theorem rightL_succ (l : List ItemV) (j : Nat) (x : ItemV) (hx : l[j]? = some x) : rightL (l.take (j + 1)) = rightStep (rightL (l.take j)) x := by
  have hj := (List.getElem?_eq_some_iff.1 hx).1
  rw [List.take_succ_eq_append_getElem hj, (List.getElem?_eq_some_iff.1 hx).2, rightL, rightL, List.foldl_append]
  rfl
/-- What holds of what is left. -/
structure RightOk (l out : List ItemV) : Prop where
  sub : ∀ x ∈ out, x ∈ l
  ok : ∀ x ∈ out, itemB x 2 = true
  nodup : (out.map (·.name)).Nodup
  len : out.length ≤ l.length
theorem rightL_ok : ∀ (l : List ItemV), RightOk l (rightL l) := by
  have key : ∀ (l : List ItemV) (n : Nat), n ≤ l.length → RightOk (l.take n) (rightL (l.take n)) := by
    intro l n
    induction n with
    | zero => intro _; rw [List.take_zero]; exact ⟨fun _ h => (by cases h), fun _ h => (by cases h), List.nodup_nil, Nat.le_refl _⟩
    | succ n ih =>
      intro hn
      have h := ih (by omega)
      have hx : l[n]? = some l[n] := List.getElem?_eq_getElem (by omega)
      rw [rightL_succ l n _ hx]
      have ht : l.take (n + 1) = l.take n ++ [l[n]] := List.take_succ_eq_append_getElem (by omega)
      rw [ht, rightStep]
      split
      · rename_i hc
        simp only [Bool.and_eq_true, Bool.not_eq_true'] at hc
        refine ⟨fun x hx => ?_, fun x hx => ?_, ?_, by rw [List.length_append, List.length_append]; have := h.len; simp only [List.length_singleton]; omega⟩
        · rcases List.mem_append.1 hx with hx | hx
          · exact List.mem_append_left _ (h.sub x hx)
          · exact List.mem_append_right _ hx
        · rcases List.mem_append.1 hx with hx | hx
          · exact h.ok x hx
          · rw [List.mem_singleton.1 hx]; exact hc.1
        · rw [List.map_append, List.nodup_append]
          refine ⟨h.nodup, by simp, fun a ha b hb e => ?_⟩
          obtain ⟨y, hy, rfl⟩ := List.mem_map.1 ha
          obtain rfl : b = l[n].name := by simpa using hb
          have : (rightL (l.take n)).any (sameName l[n]) = true := List.any_eq_true.2 ⟨y, hy, by simp [sameName, e]⟩
          rw [this] at hc
          cases hc.2
      · exact ⟨fun x hx => List.mem_append_left _ (h.sub x hx), h.ok, h.nodup, by rw [List.length_append]; have := h.len; omega⟩
  intro l
  have := key l l.length (Nat.le_refl _)
  rwa [List.take_length] at this
theorem right1_any (x y : ItemV) (bx : Nat) (W : World) (hb : bx < W.heap.size) (h0 : W.cell? ⟨bx, 0, none⟩ = some (.string x.name)) (hy : ∃ p c, y.av = .slice p y.ns.length c) :
    Calls Tryd.prog 44 (#[.agg (encItem y).toArray] ++ #[.pointer (some ⟨bx, 0, none⟩)]) W fun e w' => e = .returned (.bool (sameName x y)) ∧ Keep NoB W w' := by
  obtain ⟨nm, tg, av, ns⟩ := y
  simp only at hy
  obtain ⟨p, c, rfl⟩ := hy
  obtain ⟨xn, _, _, _⟩ := x
  simp only at h0
  simp only [encItem, sameName]
  have hs : decide (nm = xn) = (@BEq.beq (List UInt8) (@List.instBEq UInt8 instBEqOfDecidableEq) nm.toList xn.toList) := by
    by_cases h : nm = xn
    · rw [decide_eq_true h, h]; exact (beq_self_eq_true _).symm
    · rw [decide_eq_false h]
      exact (beq_eq_false_iff_ne.2 fun e => h (toList_inj e)).symm
  rw [hs]
  clear hs
  show Calls Tryd.prog 44 #[.agg #[.string nm, .string tg, .slice p ns.length c], .pointer (some ⟨bx, 0, none⟩)] W _
  go_enter Tryd.func44, Tryd.ntmps44
  go_wp2_with fail
  go_ret
  exact ⟨rfl, (Keep.refl _ _).alloc _⟩
theorem item_info : ∃ i, Tryd.prog.info? 34 = some i ∧ i.zero = some (.agg #[.string ⟨#[]⟩, .string ⟨#[]⟩, .slice none 0 0]) ∧ i.size = 3 ∧ i.bytes = 56 := by
  have h : (Tryd.prog.info? 34).map (fun i => (i.zero, i.size, i.bytes)) = some (some (.agg #[.string ⟨#[]⟩, .string ⟨#[]⟩, .slice none 0 0]), 3, 56) := by kernel_rfl
  cases hi : Tryd.prog.info? 34 with
  | none => rw [hi] at h; cases h
  | some i =>
    rw [hi] at h
    simp only [Option.map_some, Option.some.injEq, Prod.mk.injEq] at h
    exact ⟨i, rfl, h.1, h.2.1, h.2.2⟩
theorem encItem_one3 (nm tg : ByteArray) (pa : Option Addr) (nl ca : Nat) : ∀ u ∈ [Value.string nm, .string tg, .slice pa nl ca], u.oneCell' = true := by
  intro u hu
  simp only [List.mem_cons, List.not_mem_nil, or_false] at hu
  rcases hu with rfl | rfl | rfl <;> rfl
theorem encItem_len (x : ItemV) : (encItem x).length = 3 := rfl
set_option maxRecDepth 100000 in
set_option maxHeartbeats 8000000 in
theorem keepRight_any (v : Value) (l : List ItemV) (w : World) (I : Items w v l) (hl : l.length ≤ 1000) (hns : ∀ x ∈ l, x.ns.length ≤ 1000000) :
    Calls Tryd.prog 10 #[v] w fun e w' => ∃ v', e = .returned v' ∧ OwnsN w' w.heap.size 34 3 v' (rightL l).length ((rightL l).flatMap encItem) ∧ Keep NoB w w' := by
  obtain ⟨p, c, rfl⟩ := I.rows.len
  obtain ⟨n, hn2⟩ : ∃ n, n = l.length := ⟨_, rfl⟩
  rw [← hn2] at I hl
  rw [← hn2]
  have Hn := Lib.hid hn2
  obtain ⟨i0, hi0, hz0, hs0, hb0⟩ := item_info
  clear hn2
  go_enter Tryd.func10, Tryd.ntmps10
  go_wp2_with fail
  go_loopw [3, 4] (fun ov i wr => ∃ (j : Nat) (o : Value), j ≤ n ∧ i = .int .i64 j ∧ o = ov ∧ Hid (OwnsN wr w.heap.size 34 3 o (rightL (l.take j)).length ((rightL (l.take j)).flatMap encItem)) ∧ Keep NoB w wr) (fun _ i _ => n - (intOf i).toNat)
  case atStart => exact ⟨0, _, by omega, rfl, rfl, Lib.hid (OwnsN.nil _ _ _ _), Keep.refl _ _⟩
  case round =>
    obtain ⟨j, o, hj, rfl, rfl, O, K⟩ := hrel
    by_cases hlt : j < n
    · have j1 : (j : Int) < n := by omega
      have Ir := I.rows.keep K (fun _ _ x => x)
      obtain ⟨b, off, rfl, -, hb, hcell⟩ := Ir.at (by have := Hn.out; omega)
      obtain ⟨x, hx⟩ : ∃ x, l[j]? = some x := ⟨_, List.getElem?_eq_getElem (by have := Hn.out; omega)⟩
      have hra := hcell j x hx
      have hxm : x ∈ l := List.mem_of_getElem? hx
      have Nx := (I.nums x hxm).keep K (fun _ _ x => x)
      have hxl := hns x hxm
      have hsu := rightL_succ l j x hx
      have Hsu := Lib.hid hsu
      have hok := rightL_ok (l.take j)
      obtain ⟨nm, tg, av, ns⟩ := x
      simp only at Nx hxl
      have c0 : wr.cell? ⟨b, off + j * 3, none⟩ = some (.string nm) := hra 0 _ rfl
      have c1 : wr.cell? ⟨b, off + j * 3 + 1, none⟩ = some (.string tg) := hra 1 _ rfl
      have c2 : wr.cell? ⟨b, off + j * 3 + 2, none⟩ = some av := hra 2 _ rfl
      clear hcell hsu hx hxm hra
      obtain ⟨pa, ca, rfl⟩ := Nx.len
      have hri := itemRight_any ⟨nm, tg, .slice pa ns.length ca, ns⟩ 2 (wr.alloc (.cells #[.string nm, .string tg, .slice pa ns.length ca] 34)) (Nx.keep ((Keep.refl NoB wr).alloc _) (fun _ _ x => x)) hxl
      simp only [encItem] at hri
      obtain ⟨nl, hnl⟩ : ∃ m, m = ns.length := ⟨_, rfl⟩
      obtain ⟨x, hx⟩ : ∃ x : ItemV, x = ⟨nm, tg, .slice pa ns.length ca, ns⟩ := ⟨_, rfl⟩
      have hxn : x.name = nm := by rw [hx]
      have hxe : encItem x = [.string nm, .string tg, .slice pa nl ca] := by rw [hx, hnl]; rfl
      rw [← hx] at hri Hsu
      rw [← hnl] at hri c2
      obtain ⟨R, hR⟩ : ∃ R, R = itemB x 2 := ⟨_, rfl⟩
      rw [← hR] at hri
      have HR := Lib.hid hR
      have Hxn := Lib.hid hxn
      have Hxe := Lib.hid hxe
      have Hok := Lib.hid hok
      clear hx hnl hR hxn hxe Nx hxl hok
      go_wp2_with fail
      refine hri.mono ?_
      rintro e w1 ⟨rfl, K1⟩
      have K1' := (K.alloc (.cells #[.string nm, .string tg, .slice pa nl ca] 34)).thenN K1
      have hcl : ∀ (i : Nat) (u : Value), (#[Value.string nm, .string tg, .slice pa nl ca])[i]? = some u → w1.cell? ⟨wr.heap.size, i, none⟩ = some u := fun i u hu => (K1.cell (p := ⟨wr.heap.size, i, none⟩) (by simp) (fun x => x)).trans (by rw [cell_of_row _ _ i _ 34 (0, 0) (heap_alloc_new wr _)]; exact hu)
      have d0 : w1.cell? ⟨wr.heap.size, 0, none⟩ = some (.string nm) := hcl 0 _ rfl
      have d1 : w1.cell? ⟨wr.heap.size, 1, none⟩ = some (.string tg) := hcl 1 _ rfl
      have d2 : w1.cell? ⟨wr.heap.size, 2, none⟩ = some (.slice pa nl ca) := hcl 2 _ rfl
      have hX1 : wr.heap.size < w1.heap.size := by have := K1.size; simp at this; omega
      have O1 : OwnsN w1 w.heap.size 34 3 o _ _ := (O.out.alloc _).keep K1 (fun _ _ x => x)
      obtain ⟨bx, hbx⟩ : ∃ b, b = wr.heap.size := ⟨_, rfl⟩
      rw [← hbx] at d0 d1 d2 hX1 ⊢
      clear hcl hri hbx K1
      have HO1 := Lib.hid O1
      clear O1
      cases R with
      | false =>
        go_wp2_with fail
        refine ⟨⟨j + 1, _, by omega, by go_num, rfl, Lib.hid ?_, K1'⟩, by simp [intOf]; omega⟩
        rw [Hsu.out, rightStep, ← HR.out, Bool.false_and, if_neg (fun h => by cases h)]
        exact HO1.out
      | true =>
        have hc := containsItem_any 44 #[.pointer (some ⟨bx, 0, none⟩)] (sameName x) o (rightL (l.take j)) w1 (RowsK.ofN encItem_len HO1.out) (by have := Hok.out.len; rw [List.length_take] at this; omega)
          (fun y hy W KW => right1_any x y bx W (Nat.lt_of_lt_of_le hX1 KW.size) (by rw [Hxn.out]; exact (KW.cell (p := ⟨bx, 0, none⟩) hX1 (fun x => x)).trans d0) ((I.nums y (List.mem_of_mem_take (Hok.out.sub y hy))).len))
          (enters_of Tryd.func44 (by kernel_rfl) rfl)
        obtain ⟨C, hC⟩ : ∃ C, C = (rightL (l.take j)).any (sameName x) := ⟨_, rfl⟩
        rw [← hC] at hc
        have HC := Lib.hid hC
        have Hc := Lib.hid hc
        clear hC hc
        go_wp2_with fail
        refine Hc.out.mono ?_
        rintro e w2 ⟨rfl, K2⟩
        have K2' := K1'.thenN K2
        have e0 := (K2.cell (p := ⟨bx, 0, none⟩) hX1 (fun x => x)).trans d0
        have e1 := (K2.cell (p := ⟨bx, 1, none⟩) hX1 (fun x => x)).trans d1
        have e2 := (K2.cell (p := ⟨bx, 2, none⟩) hX1 (fun x => x)).trans d2
        have O2 : OwnsN w2 w.heap.size 34 3 o _ _ := HO1.out.keep K2 (fun _ _ x => x)
        have HO2 := Lib.hid O2
        clear Hc O2 d0 d1 d2 K1' HO1 K2
        cases C with
        | true =>
          go_wp2_with fail
          refine ⟨⟨j + 1, _, by omega, by go_num, rfl, Lib.hid ?_, K2'⟩, by simp [intOf]; omega⟩
          rw [Hsu.out, rightStep, ← HC.out, Bool.not_true, Bool.and_false, if_neg (fun h => by cases h)]
          exact HO2.out
        | false =>
          have hfl := Hok.out.len
          rw [List.length_take] at hfl
          go_wp2_with (at_builtin; refine wpList_append_n _ rfl _ _ 22 rfl w.heap.size 34 i0 _ 3 56 Tryd.underlying22 hi0 hz0 hs0 hb0 rfl (by decide) o _ _ rfl (HO2.out.alloc _) ⟨w2.heap.size, 0, none⟩ 1 1 [.string nm, .string tg, .slice pa nl ca] rfl rfl (cells_new _ _ _) (encItem_one3 nm tg pa nl ca) (by unfold maxLen; omega) (by omega) (by have := K2'.size; simp; omega) ?_; intro v' w' own' hgrow)
          have hK5 : Keep NoB w w' := ((K2'.alloc (.cells #[.string nm, .string tg, .slice pa nl ca] 34)).grown hgrow (fun k hk => .inr (HO2.out.lt k hk).1))
          refine ⟨⟨j + 1, _, by omega, by go_num, rfl, Lib.hid ?_, hK5⟩, by simp [intOf]; omega⟩
          rw [Hsu.out, rightStep, ← HC.out, ← HR.out, Bool.not_false, Bool.and_true, if_pos rfl, List.length_append, List.flatMap_append, List.flatMap_cons, List.flatMap_nil, List.append_nil, Hxe.out]
          exact own'
    · obtain rfl : j = n := by omega
      have hO := O.out
      have hN : List.take j l = l := List.take_of_length_le (by rw [← Hn.out]; exact Nat.le_refl _)
      rw [hN] at hO
      clear O
      go_wp2_with fail
      go_ret
      exact ⟨o, rfl, hO, K⟩
end Go.Proofs.YtcjilojkhmondaaDoor
