/-
  DERIVED. cells.New.
-/
import Derived.Test.YtcjilojkhmondaaGreatDoorCells2
import Derived.Test.YtcjilojkhmondaaGreatDoorTake
set_option linter.unusedVariables false
set_option linter.unusedSimpArgs false
namespace Go.Proofs.YtcjilojkhmondaaGreatDoor
open Go.RowKit Go.Cof Go.Sort Go.Shelf
def idxI (cs : List Cell) (m : List Int) : Int := if hasC cs m then (idxC cs m : Int) else -1
theorem idxC_eq {cs : List Cell} {m : List Int} {k : Nat} {c : Cell} (hc : cs[k]? = some c) (he : c.1 = m) (hno : ∀ j c, j < k → cs[j]? = some c → c.1 ≠ m) : idxI cs m = k := by
  have hk := (List.getElem?_eq_some_iff.1 hc).1
  have hck := (List.getElem?_eq_some_iff.1 hc).2
  have hh : hasC cs m = true := List.any_eq_true.2 ⟨c, List.mem_of_getElem? hc, by simpa using he⟩
  rw [idxI, if_pos hh]
  have : idxC cs m = k := by
    unfold idxC
    rw [List.findIdx_eq hk]
    refine ⟨by rw [hck]; simpa using he, fun j hj => ?_⟩
    simpa using hno j _ hj (List.getElem?_eq_getElem (by omega))
  rw [this]
set_option maxRecDepth 100000 in
set_option maxHeartbeats 4000000 in
/-- Which cell it is. -/
theorem indexCell_any (base C dim ab : Nat) (v : Value) (bs : List (Nat × Value)) (cs : List Cell) (m : List Int) (w : World) (h : CellsAt w base C dim v bs cs) (hm : m.length = 8) (ha : w.heap[ab]? = some (.cells (ints8 m).toArray 55 (0, 0))) (hl : cs.length ≤ 1000) :
    Calls Tryz.prog 23 #[v, .func (.func 24) #[] #[.pointer (some ⟨ab, 0, none⟩)]] w fun e w' => e = .returned (.int .i64 (idxI cs m)) ∧ ∃ q, w' = w.drewN q := by
  obtain ⟨p, c, rfl⟩ : ∃ p c, v = .slice p bs.length c := by
    rcases h.row.2 with ⟨hv, hn⟩ | ⟨g, cap, cur, fz, hv, _⟩
    · exact ⟨none, 0, by rw [hv, hn]⟩
    · exact ⟨_, cap, hv⟩
  obtain ⟨n, hn⟩ : ∃ n, n = bs.length := ⟨_, rfl⟩
  have hn2 : n = cs.length := hn.trans h.len
  rw [← hn] at h ⊢
  have H := Lib.hid h
  have Hn := Lib.hid hn
  have Hn2 := Lib.hid hn2
  have Ha := Lib.hid ha
  have hn1000 : n ≤ 1000 := by omega
  clear h hn hn2 ha hl
  go_enter Tryz.func23, Tryz.ntmps23
  go_wp2_with fail
  go_loopw [8] (fun iv wr => ∃ k : Nat, k ≤ n ∧ iv = .int .i64 k ∧ Hid (∀ j c, j < k → cs[j]? = some c → c.1 ≠ m) ∧ ∃ q, wr = w.drewN q) (fun iv _ => n - (intOf iv).toNat)
  case atStart => exact ⟨0, by omega, rfl, Lib.hid (fun j c h => by omega), 0, rfl⟩
  case round =>
    obtain ⟨k, hk, rfl, hno, q, rfl⟩ := hrel
    by_cases hlt : k < n
    · have k1 : (k : Int) < n := by omega
      obtain ⟨x, hx⟩ : ∃ x, cs[k]? = some x := ⟨_, List.getElem?_eq_getElem (by have := Hn2.out; omega)⟩
      obtain ⟨b, hb⟩ := H.out.get hx
      have hbc := H.out.cell k b x hb hx
      obtain ⟨g, cap, hv, -, -⟩ := H.out.row.some (by have := Hn.out; omega)
      cases hv
      have ck := H.out.row.cells rfl k (.pointer (some ⟨b.1, 0, none⟩)) (by rw [ptrs, List.getElem?_map, hb]; rfl)
      rw [show (⟨g, 0, none⟩ : Addr).add k = ⟨g, k, none⟩ by unfold Addr.add; split <;> simp_all] at ck
      have hs := sameCell_any b.1 ab x.1 m b.2 (w.drewN q) hbc.2.1 hm hbc.1 Ha.out
      obtain ⟨B, hB⟩ : ∃ B, B = decide (x.1 = m) := ⟨_, rfl⟩
      rw [← hB] at hs
      obtain ⟨bp, hbp⟩ : ∃ bp, bp = b.1 := ⟨_, rfl⟩
      rw [← hbp] at ck hs
      have Hs := Lib.hid hs
      have Hx := Lib.hid hx
      have HB := Lib.hid hB
      clear hs hx hB hbp hb hbc
      go_wp2_with fail
      refine Hs.out.mono ?_
      rintro e w1 ⟨rfl, q1, rfl⟩
      cases B with
      | true =>
        have he := idxC_eq Hx.out (of_decide_eq_true HB.out.symm) hno.out
        have He := Lib.hid he
        clear he Hs
        go_wp2_with fail
        go_ret
        exact ⟨by rw [He.out]; rfl, _, rfl⟩
      | false =>
        clear Hs
        go_wp2_with fail
        refine ⟨⟨k + 1, by omega, by go_num, Lib.hid (fun j c hj hc => ?_), _, rfl⟩, by simp [intOf]; omega⟩
        by_cases e : j = k
        · subst e
          rw [Hx.out] at hc
          rw [← Option.some.inj hc]
          exact of_decide_eq_false HB.out.symm
        · exact hno.out j c (by omega) hc
    · obtain rfl : k = n := by omega
      have he : idxI cs m = -1 := by
        rw [idxI, if_neg]
        intro hh
        obtain ⟨c, hc, e⟩ := List.any_eq_true.1 hh
        obtain ⟨j, hj⟩ := List.getElem?_of_mem hc
        exact hno.out j c (by have := (List.getElem?_eq_some_iff.1 hj).1; have := Hn2.out; omega) hj (by simpa using e)
      have He := Lib.hid he
      clear he
      go_wp2_with fail
      go_ret
      exact ⟨by rw [He.out]; rfl, _, rfl⟩
/-- Worlds in which a cell and a row hold just so. -/
def LoadsC (C A : Nat) (v : Value) (ms : List Value) (W : World) : Prop := W.cell? ⟨C, 1, none⟩ = some v ∧ ∀ j u, ms[j]? = some u → W.cell? ⟨A, j, none⟩ = some u
theorem LoadsC.alloc {C A : Nat} {v : Value} {ms : List Value} {W : World} (h : LoadsC C A v ms W) (hC : C < W.heap.size) (hA : A < W.heap.size) (o : Obj) : LoadsC C A v ms (W.alloc o) :=
  ⟨(((Keep.refl NoB W).alloc o).cell (p := ⟨C, 1, none⟩) hC (fun x => x)).trans h.1, fun j u hu => (((Keep.refl NoB W).alloc o).cell (p := ⟨A, j, none⟩) hA (fun x => x)).trans (h.2 j u hu)⟩
/-- Worlds in which cells hold just so. -/
def LoadsL (L : List (Addr × Value)) (W : World) : Prop := ∀ p ∈ L, W.cell? p.1 = some p.2
theorem LoadsL.alloc {L : List (Addr × Value)} {W : World} (h : LoadsL L W) (hl : ∀ p ∈ L, p.1.block < W.heap.size) (o : Obj) : LoadsL L (W.alloc o) := fun p hp => (((Keep.refl NoB W).alloc o).cell (p := p.1) (hl p hp) (fun x => x)).trans (h p hp)
theorem cells_len {cs : List Cell} {l : List ItemV} (h : CellsOk cs l) (a : List Int) : ∀ c ∈ withC cs a, c.2.length ≤ l.length := by
  intro c hc
  have key : ∀ (cs : List Cell), c ∈ cs → c.2.length ≤ (cs.flatMap (·.2)).length := by
    intro cs hc
    induction cs with
    | nil => cases hc
    | cons d cs ih =>
      rw [List.flatMap_cons, List.length_append]
      rcases List.mem_cons.1 hc with rfl | hc
      · omega
      · have := ih hc; omega
  have hp := h.perm.length_eq
  unfold withC at hc
  split at hc
  · have := key cs hc; omega
  · rcases List.mem_append.1 hc with hc | hc
    · have := key cs hc; omega
    · rw [List.mem_singleton.1 hc]; exact Nat.zero_le _
theorem OwnsN.sl {w : World} {base : Nat} {e : TypeId} {size : Nat} {v : Value} {n : Nat} {xs : List Value} (h : OwnsN w base e size v n xs) : ∃ p c, v = .slice p n c := by
  rcases h.2 with ⟨h, hn⟩ | ⟨_, _, _, _, h, _⟩
  · exact ⟨none, 0, by rw [h, hn]⟩
  · exact ⟨_, _, h⟩
theorem Cells.rows_ptr {w : World} {base C dim : Nat} {v : Value} {bs : List (Nat × Value)} {cs : List Cell} (h : CellsAt w base C dim v bs cs) : ∃ p c, v = .slice p bs.length c := by
  rcases h.row.2 with ⟨hv, hn⟩ | ⟨g, cap, cur, fz, hv, _⟩
  · exact ⟨none, 0, by rw [hv, hn]⟩
  · exact ⟨_, cap, hv⟩
theorem CellsAt.headMore {w w' W : World} {base C dim : Nat} {v : Value} {bs : List (Nat × Value)} {cs : List Cell} (h : CellsAt w base C dim v bs cs) (K : Keep NoB w W) (hg : W.grownBy w' v.ownBlock) : w'.heap[C]? = some (.cells #[.int .i64 dim, v] 54 (0, 0)) := by
  have hW := h.keepN K
  rw [hg.block C (lt_of_heap hW.head) (fun e => ?_)]
  · exact hW.head
  · obtain ⟨c', f', hh⟩ := own_type hW.row e.symm
    exact absurd (two_types hW.head hh) (by decide)
theorem CellsAt.cellPut {w w' W : World} {base C dim : Nat} {v : Value} {bs : List (Nat × Value)} {cs : List Cell} (h : CellsAt w base C dim v bs cs) (K : Keep NoB w W) {k : Nat} {b : Nat × Value} {c : Cell} (hb : bs[k]? = some b) (hc : cs[k]? = some c) (hg : W.grownBy w' b.2.ownBlock) : w'.heap[b.1]? = some (.cells (ints8 c.1 ++ [b.2]).toArray 60 (0, 0)) := by
  have hW := h.keepN K
  have hbk := hW.cell k b c hb hc
  rw [hg.block b.1 (lt_of_heap hbk.1) (fun e => ?_)]
  · exact hbk.1
  · obtain ⟨c', f', hh⟩ := own_type hbk.2.2 e.symm
    exact absurd (two_types hbk.1 hh) (by decide)
theorem cell_same {w w' : World} {b i : Nat} (h : w.heap[b]? = w'.heap[b]?) : w.cell? ⟨b, i, none⟩ = w'.cell? ⟨b, i, none⟩ := by
  unfold World.cell?
  simp only [h]
theorem CellsAt.other {w w' W : World} {base C dim : Nat} {v : Value} {bs : List (Nat × Value)} {cs : List Cell} (h : CellsAt w base C dim v bs cs) (K : Keep NoB w W) {k : Nat} {b : Nat × Value} {c : Cell} (hb : bs[k]? = some b) (hc : cs[k]? = some c) (hg : W.grownBy w' b.2.ownBlock) {g : Nat} {cc : Array Value} {t : TypeId} {f : Nat × Nat} (hgc : W.heap[g]? = some (.cells cc t f)) (ht : t ≠ 42) : w'.heap[g]? = some (.cells cc t f) := by
  have hW := h.keepN K
  have hbk := hW.cell k b c hb hc
  rw [hg.block g (lt_of_heap hgc) (fun e => ?_)]
  · exact hgc
  · obtain ⟨c', f', hh⟩ := own_type hbk.2.2 e.symm
    exact absurd (two_types hgc hh) ht
theorem CellsAt.headMore2 {w w' W : World} {base C dim : Nat} {v : Value} {bs : List (Nat × Value)} {cs : List Cell} (h : CellsAt w base C dim v bs cs) (K : Keep NoB w W) {k : Nat} {b : Nat × Value} {c : Cell} (hb : bs[k]? = some b) (hc : cs[k]? = some c) (hg : W.grownBy w' b.2.ownBlock) : w'.heap[C]? = some (.cells #[.int .i64 dim, v] 54 (0, 0)) := h.other K hb hc hg (h.keepN K).head (by decide)
theorem cell_info : ∃ i, Tryz.prog.info? 58 = some i ∧ i.zero = some (.pointer none) ∧ i.size = 1 ∧ i.bytes = 8 := by
  have h : (Tryz.prog.info? 58).map (fun i => (i.zero, i.size, i.bytes)) = some (some (.pointer none), 1, 8) := by kernel_rfl
  cases hi : Tryz.prog.info? 58 with
  | none => rw [hi] at h; cases h
  | some i =>
    rw [hi] at h
    simp only [Option.map_some, Option.some.injEq, Prod.mk.injEq] at h
    exact ⟨i, rfl, h.1, h.2.1, h.2.2⟩
set_option maxRecDepth 100000 in
set_option maxHeartbeats 8000000 in
theorem newCells_any (dim : Nat) (v : Value) (l : List ItemV) (w : World) (I : Items w v l) (hl : l.length ≤ 1000) (hns : ∀ x ∈ l, numOk x.ns ∧ x.ns.length ≤ 8) :
    Calls Tryz.prog 8 #[.int .i64 dim, v] w fun e w' => ∃ C cv bs, e = .returned (.pointer (some ⟨C, 0, none⟩)) ∧ CellsAt w' w.heap.size C dim cv bs (cellsL l) ∧ Keep NoB w w' := by
  obtain ⟨p, c, rfl⟩ := I.rows.len
  obtain ⟨n, hn2⟩ : ∃ n, n = l.length := ⟨_, rfl⟩
  rw [← hn2] at I hl
  rw [← hn2]
  have Hn := Lib.hid hn2
  have HI := Lib.hid I
  have Hns := Lib.hid hns
  obtain ⟨i0, hi0, hz0, hs0, hb0⟩ := item_info
  obtain ⟨i1, hi1, hz1, hs1, hb1⟩ := cell_info
  have mixed : Tryz.prog.follows .mixedOrders = true := by kernel_rfl
  have hC0 : CellsAt (w.alloc (.cells #[.int .i64 dim, .slice none 0 0] 54)) w.heap.size w.heap.size dim (.slice none 0 0) [] (cellsL []) :=
    ⟨heap_alloc_new w _, OwnsN.nil _ _ _ _, rfl, fun i b c h => by simp at h, fun i j b b' h => by simp at h, fun i j b b' g h => by simp at h, Nat.le_refl _, fun b h => by cases h⟩
  have HC0 := Lib.hid hC0
  have hK0 : Keep NoB w (w.alloc (.cells #[.int .i64 dim, .slice none 0 0] 54)) := (Keep.refl _ _).alloc _
  obtain ⟨w0, hw0⟩ : ∃ w0, w0 = w.alloc (.cells #[.int .i64 dim, .slice none 0 0] 54) := ⟨_, rfl⟩
  obtain ⟨C, hC⟩ : ∃ C, C = w.heap.size := ⟨_, rfl⟩
  rw [← hw0] at HC0 hK0
  have Hw0 := Lib.hid hw0
  have HC := Lib.hid hC
  have hHC : Hid (CellsAt w0 w.heap.size C dim (.slice none 0 0) [] (cellsL [])) := by rw [hC]; exact HC0
  clear hn2 I hns hC0 HC0 hw0 hC
  go_enter Tryz.func8, Tryz.ntmps8
  go_wp2_with fail
  rw [← Hw0.out, ← HC.out]
  go_loopw [17] (fun iv wr => ∃ (j : Nat) (cv : Value) (bs : List (Nat × Value)), iv = .int .i64 j ∧ j ≤ n ∧ Hid (CellsAt wr w.heap.size C dim cv bs (cellsL (l.take j))) ∧ Keep NoB w wr) (fun iv _ => n - (intOf iv).toNat)
  case atStart => exact ⟨0, _, [], rfl, by omega, hHC, hK0⟩
  case round =>
    clear hHC hK0
    obtain ⟨j, cv, bs, rfl, hj, hH, K⟩ := hrel
    obtain ⟨wo, rfl⟩ : ∃ wo, wo = wr := ⟨_, rfl⟩
    by_cases hlt : j < n
    · have j1 : (j : Int) < n := by omega
      have HnX0 : Hid (∀ b ∈ bs, ∀ g, b.2.ownBlock = some g → g < wo.heap.size) := Lib.hid (fun b hb g hg => by
        obtain ⟨k, hk⟩ := List.getElem?_of_mem hb
        obtain ⟨c, hc⟩ := hH.out.cellOf hk
        exact ((hH.out.cell k b c hk hc).2.2.lt g hg).2)
      have Ir : Items wo _ l := ⟨HI.out.rows.keep K (fun _ _ x => x), fun x hx => (HI.out.nums x hx).keep K (fun _ _ x => x)⟩
      obtain ⟨b, off, rfl, -, hb, hcell⟩ := Ir.rows.at (by have := Hn.out; omega)
      obtain ⟨x, hx⟩ : ∃ x, l[j]? = some x := ⟨_, List.getElem?_eq_getElem (by have := Hn.out; omega)⟩
      have hra := hcell j x hx
      have hxm : x ∈ l := List.mem_of_getElem? hx
      have Nx := Ir.nums x hxm
      have hxn := Hns.out x hxm
      have hsu := cellsL_succ l j x hx
      have hok := cellsL_ok (l.take j)
      have Hsu := Lib.hid hsu
      have Hok := Lib.hid hok
      obtain ⟨nm, tg, av, ns⟩ := x
      simp only at Nx hxn
      have c0 : wo.cell? ⟨b, off + j * 3, none⟩ = some (.string nm) := hra 0 _ rfl
      have c1 : wo.cell? ⟨b, off + j * 3 + 1, none⟩ = some (.string tg) := hra 1 _ rfl
      have c2 : wo.cell? ⟨b, off + j * 3 + 2, none⟩ = some av := hra 2 _ rfl
      obtain ⟨pn, cn, rfl⟩ := Nx.len
      obtain ⟨nl, hnl⟩ : ∃ nl, nl = ns.length := ⟨_, rfl⟩
      have hnl8 : nl ≤ 8 := by rw [hnl]; exact hxn.2
      have Hx : Hid (encItem ⟨nm, tg, .slice pn ns.length cn, ns⟩ = [.string nm, .string tg, .slice pn nl cn]) := Lib.hid (by rw [hnl]; rfl)
      have hat : Hid (cellAt ⟨nm, tg, .slice pn ns.length cn, ns⟩ = atK ns nl) := Lib.hid (by rw [hnl]; rfl)
      obtain ⟨x, hxx⟩ : ∃ x : ItemV, x = ⟨nm, tg, .slice pn ns.length cn, ns⟩ := ⟨_, rfl⟩
      rw [← hxx] at Hsu Hx hat
      rw [← hnl] at c2 Nx
      have Hnx := Lib.hid Nx
      have Hnok := Lib.hid hxn.1
      have Hnl := Lib.hid hnl
      clear hcell hra hx hsu hok hxn hnl hxx hxm Nx Ir
      go_wp2_with fail
      have gX : ((wo.alloc (.cells #[.string nm, .string tg, .slice pn nl cn] 42)).alloc (.cells #[.int .i64 0, .int .i64 0, .int .i64 0, .int .i64 0, .int .i64 0, .int .i64 0, .int .i64 0, .int .i64 0] 55)).heap[wo.heap.size]? = some (.cells #[.string nm, .string tg, .slice pn nl cn] 42 (0, 0)) := by
        rw [Below.heap_alloc _ _ _ (by simp)]; exact heap_alloc_new wo _
      have gA : ((wo.alloc (.cells #[.string nm, .string tg, .slice pn nl cn] 42)).alloc (.cells #[.int .i64 0, .int .i64 0, .int .i64 0, .int .i64 0, .int .i64 0, .int .i64 0, .int .i64 0, .int .i64 0] 55)).heap[wo.heap.size + 1]? = some (.cells (ints8 (atK ns 0)).toArray 55 (0, 0)) := by
        have h := heap_alloc_new (wo.alloc (.cells #[.string nm, .string tg, .slice pn nl cn] 42)) (.cells #[.int .i64 0, .int .i64 0, .int .i64 0, .int .i64 0, .int .i64 0, .int .i64 0, .int .i64 0, .int .i64 0] 55)
        rw [show (wo.alloc (.cells #[.string nm, .string tg, .slice pn nl cn] 42)).heap.size = wo.heap.size + 1 by simp] at h
        rw [h]
        have e : atK ns 0 = [0, 0, 0, 0, 0, 0, 0, 0] := by rw [atK, List.take_zero]; rfl
        rw [e]; rfl
      have Ka : Keep NoB wo ((wo.alloc (.cells #[.string nm, .string tg, .slice pn nl cn] 42)).alloc (.cells #[.int .i64 0, .int .i64 0, .int .i64 0, .int .i64 0, .int .i64 0, .int .i64 0, .int .i64 0, .int .i64 0] 55)) := ((Keep.refl _ _).alloc _).alloc _
      obtain ⟨wa, hwa⟩ : ∃ wa, wa = (wo.alloc (.cells #[.string nm, .string tg, .slice pn nl cn] 42)).alloc (.cells #[.int .i64 0, .int .i64 0, .int .i64 0, .int .i64 0, .int .i64 0, .int .i64 0, .int .i64 0, .int .i64 0] 55) := ⟨_, rfl⟩
      obtain ⟨X, hX⟩ : ∃ X, X = wo.heap.size := ⟨_, rfl⟩
      obtain ⟨A, hA⟩ : ∃ A, A = X + 1 := ⟨_, rfl⟩
      rw [← hwa, ← hX] at gX gA
      rw [← hwa] at Ka
      rw [← hwa, ← hX, ← hA]
      rw [← hA] at gA
      have HX := Lib.hid hX
      have HA := Lib.hid hA
      have Na := Hnx.out.keep Ka (fun _ _ x => x)
      have HNa := Lib.hid Na
      clear hwa hX hA c0 c1 c2 Na hb
      go_loopw [24] (fun iv wx => ∃ i : Nat, i ≤ nl ∧ iv = .int .i64 i ∧ Hid (wx.heap[A]? = some (.cells (ints8 (atK ns i)).toArray 55 (0, 0))) ∧ Keep (OneB A) wa wx) (fun iv _ => nl - (intOf iv).toNat)
      case atStart => exact ⟨0, by omega, rfl, Lib.hid gA, Keep.refl _ _⟩
      case round =>
        obtain ⟨i, hi, rfl, hgA, Kx⟩ := hrel
        by_cases hlt : i < nl
        · have i1 : (i : Int) < nl := by omega
          have i8 : (i : Int) < 8 := by omega
          have Nx := HNa.out.keep Kx (fun b hb hS => by
            have h1 : b < wo.heap.size := by
              rcases Hnx.out with ⟨h, _⟩ | ⟨B, o', c', hv, hB, _⟩
              · have := Hnl.out; rw [h] at this; simp at this; omega
              · rw [hv] at hb
                obtain rfl : B = b := Option.some.inj hb
                exact hB
            have h2 : b = A := hS
            have := HX.out; have := HA.out; omega)
          obtain ⟨bn, on, rfl, -, hbn, hcn⟩ := Nx.at (by have := Hnl.out; omega)
          have cn' := hcn i (by have := Hnl.out; omega)
          have hset := atK_set ns i (by have := Hnl.out; omega) (by omega)
          have hnum := numOk_getD Hnok.out i
          have hal := atK_len ns i (by have := Hnl.out; omega) (by omega)
          obtain ⟨y, hy⟩ : ∃ y, y = ns.getD i 0 := ⟨_, rfl⟩
          rw [← hy] at cn' hset hnum
          have hdn := fun w => down_any y hnum w
          obtain ⟨d, hd⟩ : ∃ d, d = downI y := ⟨_, rfl⟩
          rw [← hd] at hset hdn
          have cA : wr.cell? ⟨A, i, none⟩ = some (.int .i64 ((atK ns i).getD i 0)) := by
            rw [cell_of_row _ _ _ _ _ (0, 0) hgA.out, List.getElem?_toArray, ints8, List.getElem?_map, List.getD_eq_getElem?_getD, List.getElem?_eq_getElem (by omega)]
            rfl
          have zA : wr.frozen? ⟨A, i, none⟩ = false := by unfold World.frozen?; simp only [hgA.out]; rfl
          have Hset := Lib.hid hset
          have Hdn := Lib.hid hdn
          clear hcn hy hd hset hdn Nx hbn
          go_wp2_with fail
          refine (Hdn.out _).mono ?_
          rintro e w1 ⟨rfl, hw1⟩
          subst w1
          go_wp2_with fail
          refine ⟨⟨i + 1, by omega, by go_num, Lib.hid ?_, Kx.set1 i _⟩, by simp [intOf]; omega⟩
          rw [setCell_heap3 hgA.out, ← Hset.out, ints8, ints8, List.setIfInBounds_toArray, List.map_set]
        · obtain rfl : i = nl := by omega
          have Kr : Keep NoB wo wr := Ka.trans Kx (fun i hi hs => by have h2 : i = A := hs; have := HX.out; have := HA.out; omega)
          have hH2 := hH.out.keepN Kr
          have gX2 := Kx.heap gX (fun hs => by have h2 : X = A := hs; have := HA.out; omega)
          have hm8 : (atK ns i).length = 8 := atK_len ns i (by have := Hnl.out; omega) hnl8
          have hcl : (cellsL (l.take j)).length ≤ 1000 := by have := Hok.out.len; rw [List.length_take] at this; omega
          have hix := indexCell_any w.heap.size C dim A cv bs _ (atK ns i) wr hH2 hm8 hgA.out hcl
          have e0 : wr.cell? ⟨C, 0, none⟩ = some (.int .i64 dim) := by rw [cell_of_row _ _ _ _ _ (0, 0) hH2.head]; rfl
          have e1 : wr.cell? ⟨C, 1, none⟩ = some cv := by rw [cell_of_row _ _ _ _ _ (0, 0) hH2.head]; rfl
          obtain ⟨pc, cc, rfl⟩ := Cells.rows_ptr hH2
          obtain ⟨nb, hnb⟩ : ∃ nb, nb = bs.length := ⟨_, rfl⟩
          rw [← hnb] at e1 hix hH2
          have HH2 := Lib.hid hH2
          have Hix := Lib.hid hix
          have Hnb := Lib.hid hnb
          have Kw : Keep NoB w wr := K.thenN Kr
          clear hH hix hnb hH2 Kx Ka gA Kr K
          go_wp2_with fail
          refine Hix.out.mono ?_
          rintro e w1 ⟨rfl, q1, rfl⟩
          have Hm8 := Lib.hid hm8
          have Hcl := Lib.hid hcl
          have Hlen : Hid (∀ c ∈ withC (cellsL (l.take j)) (atK ns i), c.2.length ≤ 1000) := Lib.hid (fun c hc => by have := cells_len Hok.out (atK ns i) c hc; rw [List.length_take] at this; omega)
          have HgX := Lib.hid (show (wr.drewN q1).heap[X]? = _ from gX2)
          have HgA := Lib.hid (show (wr.drewN q1).heap[A]? = _ from hgA.out)
          have HH3 := Lib.hid (HH2.out.keepN ((Keep.refl NoB wr).drewN q1))
          have Kw1 := Kw.drewN q1
          obtain ⟨wv, hwv⟩ : ∃ wv, wv = wr.drewN q1 := ⟨_, rfl⟩
          rw [← hwv] at HgX HgA HH3 Kw1 ⊢
          obtain ⟨cs, hcs⟩ : ∃ cs, cs = cellsL (l.take j) := ⟨_, rfl⟩
          obtain ⟨m, hm⟩ : ∃ m, m = atK ns i := ⟨_, rfl⟩
          rw [← hcs] at HH3 Hsu Hcl Hlen ⊢
          rw [← hm] at HgA Hm8 hat Hlen ⊢
          clear hwv hcs hm gX gX2 hgA hm8 hcl HH2 Hix Kw e0 e1 Hnx HNa Hnok Hok
          have hil := idxC_lt cs m
          obtain ⟨kk, hkk⟩ : ∃ kk, kk = idxC cs m := ⟨_, rfl⟩
          rw [← hkk] at hil
          have Hil := Lib.hid hil
          have Hkk := Lib.hid hkk
          have hk1000 : kk ≤ 1000 := by
            have h1 := hil.1
            have h2 : (withC cs m).length ≤ cs.length + 1 := by
              unfold withC
              split
              · omega
              · rw [List.length_append, List.length_singleton]; exact Nat.le_refl _
            have := Hcl.out
            omega
          clear hil hkk
          have HnX : ∀ b ∈ bs, b.2.ownBlock ≠ some X := fun b hb e => by have := HnX0.out b hb X e; have := HX.out; omega
          go_upto_if 41 with fail
          go_cut [11] (fun kv wx => ∃ (v2 : Value) (bs2 : List (Nat × Value)), kv = .int .i64 kk ∧ Hid (CellsAt wx w.heap.size C dim v2 bs2 (withC cs m)) ∧ Hid (wx.heap[X]? = some (.cells #[.string nm, .string tg, .slice pn i cn] 42 (0, 0))) ∧ Hid (∀ b ∈ bs2, b.2.ownBlock ≠ some X) ∧ Keep NoB w wx)
          case first =>
            cases hhas : hasC cs m with
            | true =>
              have e1 : idxI cs m = kk := by rw [idxI, if_pos hhas, Hkk.out]
              have e2 : withC cs m = cs := by rw [withC, if_pos hhas]
              rw [e1]
              have HH4 : Hid (CellsAt wv w.heap.size C dim (.slice pc nb cc) bs (withC cs m)) := by rw [e2]; exact HH3
              clear e1 e2
              go_wp2_with fail
              go_meet
              case rel => exact ⟨_, bs, rfl, HH4, HgX, Lib.hid HnX, Kw1⟩
            | false =>
              have e1 : idxI cs m = -1 := by rw [idxI, if_neg (by rw [hhas]; decide)]
              have e2 : withC cs m = cs ++ [(m, [])] := by rw [withC, if_neg (by rw [hhas]; decide)]
              have e3 : kk = nb := by
                rw [Hkk.out, Hnb.out, HH3.out.len]
                unfold idxC
                rw [List.findIdx_eq_length]
                intro c' hc'
                rw [hasC, List.any_eq_false] at hhas
                simpa using hhas c' hc'
              have E2 := Lib.hid e2
              rw [e1]
              obtain ⟨m0, m1, m2, m3, m4, m5, m6, m7, hme⟩ := eight m Hm8.out
              have ca : ∀ j u, ([Value.int .i64 m0, .int .i64 m1, .int .i64 m2, .int .i64 m3, .int .i64 m4, .int .i64 m5, .int .i64 m6, .int .i64 m7])[j]? = some u → wv.cell? ⟨A, j, none⟩ = some u := fun j u hu => by
                rw [cell_of_row _ _ j _ 55 (0, 0) HgA.out, List.getElem?_toArray, hme]; exact hu
              have q0 := ca 0 _ rfl
              have q1 := ca 1 _ rfl
              have q2 := ca 2 _ rfl
              have q3 := ca 3 _ rfl
              have q4 := ca 4 _ rfl
              have q5 := ca 5 _ rfl
              have q6 := ca 6 _ rfl
              have q7 := ca 7 _ rfl
              have d0 : wv.cell? ⟨C, 0, none⟩ = some (.int .i64 dim) := by rw [cell_of_row _ _ _ _ _ (0, 0) HH3.out.head]; rfl
              have d1 : wv.cell? ⟨C, 1, none⟩ = some (.slice pc nb cc) := by rw [cell_of_row _ _ _ _ _ (0, 0) HH3.out.head]; rfl
              have hsz1 : (wv.alloc (.cells #[.int .i64 m0, .int .i64 m1, .int .i64 m2, .int .i64 m3, .int .i64 m4, .int .i64 m5, .int .i64 m6, .int .i64 m7, .slice none 0 0] 60)).heap.size = wv.heap.size + 1 := by show (wv.heap.push _).size = _; rw [Array.size_push]
              have KW : Keep NoB wv ((wv.alloc (.cells #[.int .i64 m0, .int .i64 m1, .int .i64 m2, .int .i64 m3, .int .i64 m4, .int .i64 m5, .int .i64 m6, .int .i64 m7, .slice none 0 0] 60)).alloc (.cells #[.pointer (some ⟨wv.heap.size, 0, none⟩)] 58)).drew := (((Keep.refl _ _).alloc _).alloc _).drew
              have hPb : ((wv.alloc (.cells #[.int .i64 m0, .int .i64 m1, .int .i64 m2, .int .i64 m3, .int .i64 m4, .int .i64 m5, .int .i64 m6, .int .i64 m7, .slice none 0 0] 60)).alloc (.cells #[.pointer (some ⟨wv.heap.size, 0, none⟩)] 58)).drew.heap[wv.heap.size]? = some (.cells (ints8 m ++ [Value.slice none 0 0]).toArray 60 (0, 0)) := by
                show ((wv.alloc (.cells #[.int .i64 m0, .int .i64 m1, .int .i64 m2, .int .i64 m3, .int .i64 m4, .int .i64 m5, .int .i64 m6, .int .i64 m7, .slice none 0 0] 60)).alloc (.cells #[.pointer (some ⟨wv.heap.size, 0, none⟩)] 58)).heap[wv.heap.size]? = _
                rw [Below.heap_alloc _ _ _ (by rw [hsz1]; omega), hme]
                exact heap_alloc_new wv _
              have hnw := cells_new (wv.alloc (.cells #[.int .i64 m0, .int .i64 m1, .int .i64 m2, .int .i64 m3, .int .i64 m4, .int .i64 m5, .int .i64 m6, .int .i64 m7, .slice none 0 0] 60)) [.pointer (some ⟨wv.heap.size, 0, none⟩)] 58
              rw [hsz1] at hnw
              have hCl : C < wv.heap.size := lt_of_heap HH3.out.head
              have hAl : A < wv.heap.size := lt_of_heap HgA.out
              have hnb1000 : nb ≤ 1000 := by have := HH3.out.len; have := Hcl.out; have := Hnb.out; omega
              have hbase := Kw1.size
              have hrow := (HH3.out.keepN KW).row
              rw [← Hnb.out] at hrow
              obtain ⟨ms, hms⟩ : ∃ ms, ms = [Value.int .i64 m0, .int .i64 m1, .int .i64 m2, .int .i64 m3, .int .i64 m4, .int .i64 m5, .int .i64 m6, .int .i64 m7] := ⟨_, rfl⟩
              have L0 : LoadsC C A (.slice pc nb cc) ms wv.drew := by rw [hms]; exact ⟨d1, ca⟩
              have L1 := L0.alloc hCl hAl (.cells #[.int .i64 m0, .int .i64 m1, .int .i64 m2, .int .i64 m3, .int .i64 m4, .int .i64 m5, .int .i64 m6, .int .i64 m7, .slice none 0 0] 60)
              have L2 := L1.alloc (by rw [show (wv.drew.alloc (.cells #[.int .i64 m0, .int .i64 m1, .int .i64 m2, .int .i64 m3, .int .i64 m4, .int .i64 m5, .int .i64 m6, .int .i64 m7, .slice none 0 0] 60)).heap.size = wv.heap.size + 1 from hsz1]; omega) (by rw [show (wv.drew.alloc (.cells #[.int .i64 m0, .int .i64 m1, .int .i64 m2, .int .i64 m3, .int .i64 m4, .int .i64 m5, .int .i64 m6, .int .i64 m7, .slice none 0 0] 60)).heap.size = wv.heap.size + 1 from hsz1]; omega) (.cells #[.pointer (some ⟨wv.heap.size, 0, none⟩)] 58)
              have HL0 := Lib.hid L0
              have HL1 := Lib.hid L1
              have HL2 := Lib.hid L2
              have HKW := Lib.hid KW
              have Hrow := Lib.hid hrow
              have Hnw := Lib.hid hnw
              have HPb := Lib.hid hPb
              have E3 := Lib.hid e3
              have Hme := Lib.hid hme
              have Hca := Lib.hid ca
              have hx1 : ∀ x : InC (LoadsC C A (.slice pc nb cc) ms), x.w.cell? ⟨C, 1, none⟩ = some (.slice pc nb cc) := fun x => x.h.1
              have hy0 : ∀ x : InC (LoadsC C A (.slice pc nb cc) ms), x.w.cell? ⟨A, 0, none⟩ = some (Value.int .i64 m0) := fun x => x.h.2 0 _ (by rw [hms]; rfl)
              have hy1 : ∀ x : InC (LoadsC C A (.slice pc nb cc) ms), x.w.cell? ⟨A, 1, none⟩ = some (Value.int .i64 m1) := fun x => x.h.2 1 _ (by rw [hms]; rfl)
              have hy2 : ∀ x : InC (LoadsC C A (.slice pc nb cc) ms), x.w.cell? ⟨A, 2, none⟩ = some (Value.int .i64 m2) := fun x => x.h.2 2 _ (by rw [hms]; rfl)
              have hy3 : ∀ x : InC (LoadsC C A (.slice pc nb cc) ms), x.w.cell? ⟨A, 3, none⟩ = some (Value.int .i64 m3) := fun x => x.h.2 3 _ (by rw [hms]; rfl)
              have hy4 : ∀ x : InC (LoadsC C A (.slice pc nb cc) ms), x.w.cell? ⟨A, 4, none⟩ = some (Value.int .i64 m4) := fun x => x.h.2 4 _ (by rw [hms]; rfl)
              have hy5 : ∀ x : InC (LoadsC C A (.slice pc nb cc) ms), x.w.cell? ⟨A, 5, none⟩ = some (Value.int .i64 m5) := fun x => x.h.2 5 _ (by rw [hms]; rfl)
              have hy6 : ∀ x : InC (LoadsC C A (.slice pc nb cc) ms), x.w.cell? ⟨A, 6, none⟩ = some (Value.int .i64 m6) := fun x => x.h.2 6 _ (by rw [hms]; rfl)
              have hy7 : ∀ x : InC (LoadsC C A (.slice pc nb cc) ms), x.w.cell? ⟨A, 7, none⟩ = some (Value.int .i64 m7) := fun x => x.h.2 7 _ (by rw [hms]; rfl)
              have Hms := Lib.hid hms
              clear hms hrow hnw hPb hme ca KW e1 e2 e3 hhas L0 L1 L2
              go_upto_region 14 with (fail)
              refine wp_region_take (LoadsC C A (.slice pc nb cc) ms) [0, 1, 2, 3, 4, 5, 6] [7, 8, 9, 10, 11, 12] (by kernel_rfl) (by kernel_rfl) (fun c a d v w h => by cases d <;> exact h) ?_
              simp only [pickL, List.getElem?_toArray, List.getElem?_cons_succ, List.getElem?_cons_zero]
              repeat (refine wpEarlyC_step (fun K hK => ?_); go_simp; first | (refine ⟨_, fun _ => rfl, hK _ ?_⟩; clear hK K) | (refine hK _ ?_; clear hK K))
              refine wpEarlyC_nil ?_
              clear hx1 hy0 hy1 hy2 hy3 hy4 hy5 hy6 hy7
              simp only [wpRowC, pickL, List.getElem?_toArray, List.getElem?_cons_succ, List.getElem?_cons_zero]
              refine ⟨HL0.out, ?_⟩
              go_wp2_with fail
              refine ⟨HL1.out, ?_⟩
              go_wp2_with fail
              refine ⟨HL2.out, ?_⟩
              refine wpList_append_n _ rfl (.tmp 51) (.tmp 55) 52 rfl w.heap.size 58 i1 _ 1 8 Tryz.underlying52 hi1 hz1 hs1 hb1 rfl (by decide) (.slice pc nb cc) nb (ptrs bs) rfl Hrow.out ⟨wv.heap.size + 1, 0, none⟩ 1 1 [.pointer (some ⟨wv.heap.size, 0, none⟩)] rfl rfl Hnw.out (by intro u hu; rw [List.mem_singleton.1 hu]; rfl) (by unfold maxLen; omega) (by omega) (by have := HKW.out.size; omega) ?_
              intro v' w' own' hg
              have hCh := HH3.out.headMore HKW.out hg
              have f1 : w'.cell? ⟨C, 1, none⟩ = some (.slice pc nb cc) := by rw [cell_of_row _ _ _ _ _ (0, 0) hCh]; rfl
              have z1 : w'.frozen? ⟨C, 1, none⟩ = false := by unfold World.frozen?; simp only [hCh]; rfl
              have hmore := HH3.out.more HKW.out hbase (Nat.le_refl _) HPb.out Hm8.out (by rw [← Hnb.out]; exact own') hg
              have hXw : w'.heap[X]? = some (.cells #[.string nm, .string tg, .slice pn i cn] 42 (0, 0)) := by
                have h1 := HKW.out.heap HgX.out (fun x => x)
                rw [hg.block X (lt_of_heap h1) (fun e => ?_)]
                · exact h1
                · obtain ⟨c', f', hh⟩ := own_type Hrow.out e.symm
                  exact absurd (two_types h1 hh) (by decide)
              have hXC : X ≠ C := fun e => by
                have h1 := HgX.out
                rw [e] at h1
                exact absurd (two_types h1 HH3.out.head) (by decide)
              have hXs : (w'.setCell ⟨C, 1, none⟩ v').heap[X]? = some (.cells #[.string nm, .string tg, .slice pn i cn] 42 (0, 0)) := by
                rw [Below.heap_setCell _ _ _ _ (by exact hXC)]; exact hXw
              have Kfin : Keep NoB w (w'.setCell ⟨C, 1, none⟩ v') := Kw1.trans hmore.2 (fun i hi hs => absurd hi (Nat.not_lt.2 hs))
              obtain ⟨pv, nv, cvv, rfl⟩ : ∃ p n c, v' = .slice p n c := by
                rcases own'.2 with ⟨h, _⟩ | ⟨_, _, _, _, h, _⟩
                · exact ⟨_, _, _, h⟩
                · exact ⟨_, _, _, h⟩
              have HM : Hid (CellsAt (w'.setCell ⟨C, 1, none⟩ (.slice pv nv cvv)) w.heap.size C dim (.slice pv nv cvv) (bs ++ [(wv.heap.size, .slice none 0 0)]) (withC cs m)) := by rw [E2.out]; exact hmore.1
              have HXs := Lib.hid hXs
              have hAw : w'.heap[A]? = some (.cells (ints8 m).toArray 55 (0, 0)) := by
                have h1 := HKW.out.heap HgA.out (fun x => x)
                rw [hg.block A (lt_of_heap h1) (fun e => ?_)]
                · exact h1
                · obtain ⟨c', f', hh⟩ := own_type Hrow.out e.symm
                  exact absurd (two_types h1 hh) (by decide)
              have HL3 : Hid (LoadsC C A (.slice pc nb cc) ms w') := Lib.hid ⟨f1, fun j u hu => by
                rw [cell_of_row _ _ j _ 55 (0, 0) hAw, List.getElem?_toArray, Hme.out, ← hu, Hms.out]; rfl⟩
              clear own' hg hmore hXw hXC hXs hCh hbase hAw
              go_wp2_with fail
              refine ⟨HL3.out, ?_⟩
              go_wp2_with fail
              refine ⟨HL3.out, ?_⟩
              go_wp2_with fail
              refine ⟨HL3.out, ?_⟩
              go_wp2_with fail
              go_meet
              case rel =>
                refine ⟨_, _, by rw [E3.out], HM, HXs, Lib.hid (fun b hb => ?_), Kfin⟩
                rcases List.mem_append.1 hb with hb | hb
                · exact HnX b hb
                · rw [List.mem_singleton.1 hb]; intro e; cases e
          case rest =>
            obtain ⟨v2, bs2, rfl, H2, HgX2, HnX2, Kw2⟩ := hcut
            obtain ⟨cc2, hcc2⟩ : ∃ c, (withC cs m)[kk]? = some c := ⟨_, List.getElem?_eq_getElem Hil.out.1⟩
            have hcm : cc2.1 = m := by have := Hil.out.2; rw [hcc2] at this; simpa using this
            obtain ⟨b2, hb2⟩ := H2.out.get hcc2
            have hbc := H2.out.cell kk b2 cc2 hb2 hcc2
            have hcl2 := Hlen.out cc2 (List.mem_of_getElem? hcc2)
            have hkb : kk < bs2.length := (List.getElem?_eq_some_iff.1 hb2).1
            obtain ⟨g2, cap2, hv2, -, -⟩ := H2.out.row.some (by omega)
            have ckk := H2.out.row.cells (by rw [hv2]; rfl) kk (.pointer (some ⟨b2.1, 0, none⟩)) (by rw [ptrs, List.getElem?_map, hb2]; rfl)
            rw [show (⟨g2, 0, none⟩ : Addr).add kk = ⟨g2, kk, none⟩ by unfold Addr.add; split <;> simp_all] at ckk
            obtain ⟨n2, hn2⟩ : ∃ n2, n2 = bs2.length := ⟨_, rfl⟩
            rw [← hn2] at hv2
            obtain ⟨bp, bv⟩ := b2
            simp only at hbc ckk
            obtain ⟨pb, cb, hbv⟩ := OwnsN.sl hbc.2.2
            subst hbv hv2
            obtain ⟨nI, hnI⟩ : ∃ x, x = cc2.2.length := ⟨_, rfl⟩
            rw [← hnI] at hbc hcl2 hb2
            have d1 : wc.cell? ⟨C, 1, none⟩ = some (.slice (some ⟨g2, 0, none⟩) n2 cap2) := by rw [cell_of_row _ _ _ _ _ (0, 0) H2.out.head]; rfl
            have d8 : wc.cell? ⟨bp, 8, none⟩ = some (.slice pb nI cb) := by
              rw [cell_of_row _ _ _ _ _ (0, 0) hbc.1, List.getElem?_toArray, List.getElem?_append_right (by rw [ints8, List.length_map, hbc.2.1]; omega), ints8, List.length_map, hbc.2.1]; rfl
            have x0 : wc.cell? ⟨X, 0, none⟩ = some (.string nm) := by rw [cell_of_row _ _ _ _ _ (0, 0) HgX2.out]; rfl
            have x1 : wc.cell? ⟨X, 1, none⟩ = some (.string tg) := by rw [cell_of_row _ _ _ _ _ (0, 0) HgX2.out]; rfl
            have x2 : wc.cell? ⟨X, 2, none⟩ = some (.slice pn i cn) := by rw [cell_of_row _ _ _ _ _ (0, 0) HgX2.out]; rfl
            have kk1 : (kk : Int) < n2 := by omega
            obtain ⟨L, hL⟩ : ∃ L : List (Addr × Value), L = [(⟨C, 1, none⟩, .slice (some ⟨g2, 0, none⟩) n2 cap2), (⟨g2, kk, none⟩, .pointer (some ⟨bp, 0, none⟩)), (⟨bp, 8, none⟩, .slice pb nI cb), (⟨X, 0, none⟩, .string nm), (⟨X, 1, none⟩, .string tg), (⟨X, 2, none⟩, .slice pn i cn)] := ⟨_, rfl⟩
            have l0 : ∀ x : InC (LoadsL L), x.w.cell? ⟨C, 1, none⟩ = some (.slice (some ⟨g2, 0, none⟩) n2 cap2) := fun x => x.h (_, _) (by rw [hL]; exact List.mem_cons_self)
            have l1 : ∀ x : InC (LoadsL L), x.w.cell? ⟨g2, kk, none⟩ = some (.pointer (some ⟨bp, 0, none⟩)) := fun x => x.h (_, _) (by rw [hL]; exact List.mem_cons_of_mem _ List.mem_cons_self)
            have l2 : ∀ x : InC (LoadsL L), x.w.cell? ⟨bp, 8, none⟩ = some (.slice pb nI cb) := fun x => x.h (_, _) (by rw [hL]; exact List.mem_cons_of_mem _ (List.mem_cons_of_mem _ List.mem_cons_self))
            have l3 : ∀ x : InC (LoadsL L), x.w.cell? ⟨X, 0, none⟩ = some (.string nm) := fun x => x.h (_, _) (by rw [hL]; exact List.mem_cons_of_mem _ (List.mem_cons_of_mem _ (List.mem_cons_of_mem _ List.mem_cons_self)))
            have l4 : ∀ x : InC (LoadsL L), x.w.cell? ⟨X, 1, none⟩ = some (.string tg) := fun x => x.h (_, _) (by rw [hL]; exact List.mem_cons_of_mem _ (List.mem_cons_of_mem _ (List.mem_cons_of_mem _ (List.mem_cons_of_mem _ List.mem_cons_self))))
            have l5 : ∀ x : InC (LoadsL L), x.w.cell? ⟨X, 2, none⟩ = some (.slice pn i cn) := fun x => x.h (_, _) (by rw [hL]; exact List.mem_cons_of_mem _ (List.mem_cons_of_mem _ (List.mem_cons_of_mem _ (List.mem_cons_of_mem _ (List.mem_cons_of_mem _ List.mem_cons_self)))))
            have mem : ∀ W : World, W.cell? ⟨C, 1, none⟩ = some (.slice (some ⟨g2, 0, none⟩) n2 cap2) → W.cell? ⟨g2, kk, none⟩ = some (.pointer (some ⟨bp, 0, none⟩)) → W.cell? ⟨bp, 8, none⟩ = some (.slice pb nI cb) → W.cell? ⟨X, 0, none⟩ = some (.string nm) → W.cell? ⟨X, 1, none⟩ = some (.string tg) → W.cell? ⟨X, 2, none⟩ = some (.slice pn i cn) → LoadsL L W := by
              intro W e0 e1 e2 e3 e4 e5 p hp
              rw [hL] at hp
              simp only [List.mem_cons, List.mem_nil_iff, or_false] at hp
              rcases hp with rfl | rfl | rfl | rfl | rfl | rfl <;> assumption
            have L0 : LoadsL L wc.drew := mem _ d1 ckk d8 x0 x1 x2
            have hblk : ∀ p ∈ L, p.1.block < wc.heap.size := by
              intro p hp
              rw [hL] at hp
              simp only [List.mem_cons, List.mem_nil_iff, or_false] at hp
              rcases hp with rfl | rfl | rfl | rfl | rfl | rfl
              · exact lt_of_heap H2.out.head
              · exact (H2.out.row.lt g2 rfl).2
              · exact lt_of_heap hbc.1
              all_goals exact lt_of_heap HgX2.out
            have L1 := L0.alloc (o := .cells #[.string nm, .string tg, .slice pn i cn] 42) hblk
            have HL0 := Lib.hid L0
            have HL1 := Lib.hid L1
            have Hmem := Lib.hid mem
            have Hbc := Lib.hid hbc
            have Hb2 := Lib.hid hb2
            have Hcc2 := Lib.hid hcc2
            have Hckk := Lib.hid ckk
            have KW : Keep NoB wc (wc.alloc (.cells #[.string nm, .string tg, .slice pn i cn] 42)).drew := ((Keep.refl _ _).alloc _).drew
            have HKW := Lib.hid KW
            have Hown := Lib.hid (hbc.2.2.keep KW (fun _ _ x => x))
            have Hnw : Hid (∀ j u, ([Value.string nm, .string tg, .slice pn i cn])[j]? = some u → (wc.alloc (.cells #[.string nm, .string tg, .slice pn i cn] 42)).drew.cell? ((⟨wc.heap.size, 0, none⟩ : Addr).add j) = some u) := Lib.hid (cells_new wc [.string nm, .string tg, .slice pn i cn] 42)
            have HcI := Lib.hid hnI
            have HL := Lib.hid hL
            have Hbase := Lib.hid Kw2.size
            clear mem L0 L1 hbc hb2 hcc2 ckk KW hL hblk hnI
            go_upto_region 15 with (fail)
            refine wp_region_take (LoadsL L) [0, 1, 2, 3, 4, 5, 6, 7, 8, 9, 10, 11, 12, 13, 14, 15, 16, 17] [18, 19, 20, 21, 22] (by kernel_rfl) (by kernel_rfl) (fun c a d v w h => by cases d <;> exact h) ?_
            simp only [pickL, List.getElem?_toArray, List.getElem?_cons_succ, List.getElem?_cons_zero]
            repeat (refine wpEarlyC_step (fun K hK => ?_); go_simp; first | (refine ⟨_, fun _ => rfl, hK _ ?_⟩; clear hK K) | (refine hK _ ?_; clear hK K))
            refine wpEarlyC_nil ?_
            clear l0 l1 l2 l3 l4 l5
            simp only [wpRowC, pickL, List.getElem?_toArray, List.getElem?_cons_succ, List.getElem?_cons_zero]
            refine ⟨HL0.out, ?_⟩
            go_wp2_with fail
            refine ⟨HL1.out, ?_⟩
            refine wpList_append_s _ rfl (.tmp 75) (.tmp 77) 22 rfl w.heap.size 42 i0 _ 3 56 Tryz.underlying22 hi0 hz0 hs0 hb0 rfl (by decide) (.slice pb nI cb) nI (cc2.2.flatMap encItem) rfl Hown.out ⟨wc.heap.size, 0, none⟩ 1 1 [.string nm, .string tg, .slice pn i cn] rfl rfl Hnw.out (by
              intro u hu
              simp only [List.mem_cons, List.mem_nil_iff, or_false] at hu
              rcases hu with rfl | rfl | rfl <;> rfl) (by unfold maxLen; omega) (by omega) (by have := HKW.out.size; have := Hbase.out; omega) ?_
            intro v' w' own' hg hwh
            have ownX : OwnsN w' w.heap.size 42 3 v' (cc2.2.length + 1) (cc2.2.flatMap encItem ++ encItem x) := by rw [Hx.out, ← HcI.out]; exact own'
            have hput := H2.out.put HKW.out Hb2.out Hcc2.out ownX hg (by
              rcases hwh with h | h
              · exact .inl h
              · exact .inr h)
            have hCh := H2.out.headMore2 HKW.out Hb2.out Hcc2.out hg
            have hbp := H2.out.cellPut HKW.out Hb2.out Hcc2.out hg
            have e0 : w'.cell? ⟨C, 1, none⟩ = some (.slice (some ⟨g2, 0, none⟩) n2 cap2) := by rw [cell_of_row _ _ _ _ _ (0, 0) hCh]; rfl
            have e2 : w'.cell? ⟨bp, 8, none⟩ = some (.slice pb nI cb) := by
              rw [cell_of_row _ _ _ _ _ (0, 0) hbp, List.getElem?_toArray, List.getElem?_append_right (by rw [ints8, List.length_map, Hbc.out.2.1]; omega), ints8, List.length_map, Hbc.out.2.1]; rfl
            have z2 : w'.frozen? ⟨bp, 8, none⟩ = false := by unfold World.frozen?; simp only [hbp]; rfl
            have eX : w'.cell? ⟨X, 0, none⟩ = some (.string nm) ∧ w'.cell? ⟨X, 1, none⟩ = some (.string tg) ∧ w'.cell? ⟨X, 2, none⟩ = some (.slice pn i cn) := by
              have hXb : X ≠ bp := fun e => by
                have h1 := HgX2.out
                rw [e] at h1
                exact absurd (two_types h1 Hbc.out.1) (by decide)
              have hXi : w'.heap[X]? = some (.cells #[.string nm, .string tg, .slice pn i cn] 42 (0, 0)) := by
                have h1 := HKW.out.heap HgX2.out (fun x => x)
                rw [hg.block X (lt_of_heap h1) (fun e => ?_)]
                · exact h1
                · exact HnX2.out _ (List.mem_of_getElem? Hb2.out) e.symm
              exact ⟨by rw [cell_of_row _ _ _ _ _ (0, 0) hXi]; rfl, by rw [cell_of_row _ _ _ _ _ (0, 0) hXi]; rfl, by rw [cell_of_row _ _ _ _ _ (0, 0) hXi]; rfl⟩
            have eK : w'.cell? ⟨g2, kk, none⟩ = some (.pointer (some ⟨bp, 0, none⟩)) := by
              obtain ⟨c', f', hh⟩ := own_type H2.out.row (g := g2) rfl
              have h1 := H2.out.other HKW.out Hb2.out Hcc2.out hg (HKW.out.heap hh (fun x => x)) (by decide)
              have h2 : wc.cell? ⟨g2, kk, none⟩ = w'.cell? ⟨g2, kk, none⟩ := cell_same (by rw [hh, h1])
              rw [← h2]; exact Hckk.out
            have L2 : LoadsL L w' := Hmem.out w' e0 eK e2 eX.1 eX.2.1 eX.2.2
            have HL2 := Lib.hid L2
            obtain ⟨pv, nv, cvv, rfl⟩ : ∃ p n c, v' = .slice p n c := by
              rcases own'.2 with ⟨h, _⟩ | ⟨_, _, _, _, h, _⟩
              · exact ⟨_, _, _, h⟩
              · exact ⟨_, _, _, h⟩
            have HP := Lib.hid hput.1
            have KP : Keep NoB w (w'.setCell ⟨bp, 8, none⟩ (.slice pv nv cvv)) := Kw2.trans hput.2 (fun i hi hs => absurd hi (Nat.not_lt.2 hs))
            clear own' ownX hg hwh hput hCh hbp e0 eX eK L2
            go_wp2_with fail
            refine ⟨HL2.out, ?_⟩
            go_wp2_with fail
            refine ⟨HL2.out, ?_⟩
            go_wp2_with fail
            refine ⟨HL2.out, ?_⟩
            go_wp2_with fail
            exact ⟨⟨j + 1, _, _, by go_num, by omega, by rw [Hsu.out, stepC, hat.out, ← Hkk.out]; exact HP, KP⟩, by simp [intOf]; omega⟩
    · obtain rfl : j = n := by omega
      have hN : List.take j l = l := List.take_of_length_le (by rw [← Hn.out]; exact Nat.le_refl _)
      rw [hN] at hH
      go_wp2_with fail
      go_ret
      exact ⟨C, _, bs, rfl, hH.out, K⟩
end Go.Proofs.YtcjilojkhmondaaGreatDoor
