/-
  DERIVED. item.Print: what it writes, and what it refuses.
-/
import Derived.Test.YtcjilojkhmondaaDoorItoa
import Derived.Deep.RegionWith
import Derived.Deep.CutBlock
import Derived.Deep.DeepCutAuto
import Derived.RegionTactic
set_option linter.unusedVariables false
set_option linter.unusedSimpArgs false
namespace Go.Cof
open Go.RowKit Go.Proofs.YtcjilojkhmondaaDoor
theorem rises_snoc : ∀ (l : List PItem) (x : PItem), risesB (l ++ [x]) = (risesB l && (match l.getLast? with | none => true | some y => decide (y.1.data.toList < x.1.data.toList)))
  | [], x => rfl
  | [y], x => by
    show risesB [y, x] = (risesB [y] && decide (y.1.data.toList < x.1.data.toList))
    simp [risesB]
  | y :: z :: l, x => by
    have ih := rises_snoc (z :: l) x
    show risesB (y :: z :: (l ++ [x])) = _
    have e1 : risesB (y :: z :: (l ++ [x])) = (decide (y.1.data.toList < z.1.data.toList) && risesB (z :: (l ++ [x]))) := rfl
    have e2 : risesB (y :: z :: l) = (decide (y.1.data.toList < z.1.data.toList) && risesB (z :: l)) := rfl
    have e3 : (y :: z :: l).getLast? = (z :: l).getLast? := by simp [List.getLast?_cons_cons]
    rw [e1, e2, e3, Bool.and_assoc, ← ih]
    rfl
theorem name_size {s : ByteArray} (h : nameB s = true) : s.data.toList.length ≤ 10 := by
  unfold nameB at h
  have h1 := (Bool.and_eq_true_iff.1 h).1
  have h2 := (Bool.and_eq_true_iff.1 h1).1
  have h3 := (Bool.and_eq_true_iff.1 h2).2
  exact of_decide_eq_true h3
theorem nums_len : ∀ ns : List Int, (∀ n ∈ ns, -10000 < n ∧ n < 10000) → ((ns.map Lib.itoa).flatMap (fun q => (32 : UInt8) :: q)).length ≤ 6 * ns.length := by
  intro ns
  induction ns with
  | nil => intro _; simp
  | cons n ns ih =>
    intro h
    have := itoa_len n (h n List.mem_cons_self)
    have := ih (fun m hm => h m (List.mem_cons_of_mem _ hm))
    rw [List.map_cons, List.flatMap_cons, List.length_append, List.length_cons, List.length_cons]
    omega
theorem item_sizes {x : PItem} {dim : Int} (h : pitemB x dim = true) : x.1.data.toList.length ≤ 10 ∧ x.2.1.data.toList.length ≤ 10 ∧ x.2.2.length ≤ 8 := by
  simp only [pitemB, Bool.and_eq_true, Bool.or_eq_true, decide_eq_true_eq, Bool.not_eq_true'] at h
  obtain ⟨⟨⟨⟨⟨h1, h2⟩, h3⟩, h4⟩, h5⟩, h6⟩ := h
  refine ⟨name_size h1, ?_, by omega⟩
  rcases h2 with h2 | h2
  · rw [h2]; simp
  · exact name_size h2
theorem line_len {x : PItem} {dim : Int} (h : pitemB x dim = true) : (lineT x).length ≤ 100 := by
  have hk := itemOk_of h
  simp only [pitemB, Bool.and_eq_true, Bool.or_eq_true, decide_eq_true_eq, Bool.not_eq_true'] at h
  obtain ⟨⟨⟨⟨⟨h1, h2⟩, h3⟩, h4⟩, h5⟩, h6⟩ := h
  have n1 := name_size h1
  have n2 : x.2.1.data.toList.length ≤ 10 := by
    rcases h2 with h2 | h2
    · rw [h2]; simp
    · exact name_size h2
  have key : ∀ ns : List Int, (∀ n ∈ ns, -10000 < n ∧ n < 10000) → ((ns.map Lib.itoa).flatMap (fun q => (32 : UInt8) :: q)).length ≤ 6 * ns.length := by
    intro ns
    induction ns with
    | nil => intro _; simp
    | cons n ns ih =>
      intro h
      have := itoa_len n (h n List.mem_cons_self)
      have := ih (fun m hm => h m (List.mem_cons_of_mem _ hm))
      rw [List.map_cons, List.flatMap_cons, List.length_append, List.length_cons, List.length_cons]
      omega
  have := key x.2.2 hk.ns
  rw [lineT, bodyT, List.length_append, List.length_append, List.flatMap_cons, List.length_append, List.length_cons, List.length_singleton]
  omega
def headT (dim : Int) : List UInt8 := dimT ++ Lib.itoa dim ++ [10]
theorem rows_len {l : List PItem} {dim : Int} (h : l.all (pitemB · dim) = true) : (l.flatMap lineT).length ≤ 100 * l.length := by
  induction l with
  | nil => simp
  | cons x l ih =>
    rw [List.all_cons, Bool.and_eq_true] at h
    have := line_len h.1
    have := ih h.2
    rw [List.flatMap_cons, List.length_append, List.length_cons]
    omega
/-- The first j items may be, and rise. -/
def okTo (dim : Int) (l : List ItemV) (j : Nat) : Prop := ((l.take j).map plainI).all (pitemB · dim) = true ∧ risesB ((l.take j).map plainI) = true
theorem okTo_succ {dim : Int} {l : List ItemV} {j : Nat} {x : ItemV} (hx : l[j]? = some x) : okTo dim l (j + 1) ↔ okTo dim l j ∧ itemB x dim = true ∧ (∀ y, 0 < j → l[j - 1]? = some y → y.name.data.toList < x.name.data.toList) := by
  have hj := (List.getElem?_eq_some_iff.1 hx)
  have hjl : j < l.length := hj.1
  have e : (l.take (j + 1)).map plainI = (l.take j).map plainI ++ [plainI x] := by
    rw [List.take_succ_eq_append_getElem hj.1, hj.2, List.map_append]; rfl
  have hl : ((l.take j).map plainI).getLast? = if 0 < j then (l[j - 1]?).map plainI else none := by
    rw [List.getLast?_eq_getElem?, List.length_map, List.length_take, List.getElem?_map, List.getElem?_take]
    split
    · rename_i h
      rw [if_pos (by omega), show min j l.length - 1 = j - 1 by omega]
    · rename_i h
      have : j = 0 := by omega
      subst this
      simp
  unfold okTo
  rw [e, List.all_append, rises_snoc, hl, Bool.and_eq_true, Bool.and_eq_true]
  have hp : [plainI x].all (pitemB · dim) = itemB x dim := by simp [← pitemB_of]
  rw [hp]
  by_cases h0 : 0 < j
  · rw [if_pos h0]
    obtain ⟨y, hy⟩ : ∃ y, l[j - 1]? = some y := ⟨_, List.getElem?_eq_getElem (by omega)⟩
    rw [hy]
    simp only [Option.map_some, decide_eq_true_eq]
    constructor
    · rintro ⟨⟨h1, h2⟩, h3, h4⟩
      exact ⟨⟨h1, h3⟩, h2, fun y' _ e => by obtain rfl := Option.some.inj e; exact h4⟩
    · rintro ⟨⟨h1, h3⟩, h2, h4⟩
      exact ⟨⟨h1, h2⟩, h3, h4 y h0 rfl⟩
  · rw [if_neg h0]
    simp only [and_true]
    constructor
    · rintro ⟨⟨h1, h2⟩, h3⟩
      exact ⟨⟨h1, h3⟩, h2, fun y h => absurd h h0⟩
    · rintro ⟨⟨h1, h3⟩, h2, _⟩
      exact ⟨⟨h1, h2⟩, h3⟩
theorem okTo_zero (dim : Int) (l : List ItemV) : okTo dim l 0 := ⟨rfl, rfl⟩
theorem okTo_down {dim : Int} {l : List ItemV} {j n : Nat} (h : okTo dim l n) (hj : j ≤ n) : okTo dim l j := by
  have e : (l.take j).map plainI = ((l.take n).map plainI).take j := by rw [← List.map_take, List.take_take, Nat.min_eq_left hj]
  refine ⟨?_, by rw [e]; exact risesB_take _ _ h.2⟩
  rw [e]
  exact List.all_eq_true.2 fun x hx => List.all_eq_true.1 h.1 x (List.mem_of_mem_take hx)
theorem printOk_to {dim : Int} {l : List ItemV} : printOk dim (l.map plainI) = true ↔ 1 ≤ dim ∧ dim ≤ 8 ∧ l.length ≤ 60 ∧ okTo dim l l.length := by
  unfold okTo
  rw [List.take_length]
  simp only [printOk, Bool.and_eq_true, decide_eq_true_eq, List.length_map]
  constructor
  · rintro ⟨⟨⟨⟨h1, h2⟩, h3⟩, h4⟩, h5⟩; exact ⟨h1, h2, h3, h4, h5⟩
  · rintro ⟨h1, h2, h3, h4, h5⟩; exact ⟨⟨⟨⟨h1, h2⟩, h3⟩, h4⟩, h5⟩
end Go.Cof
namespace Go.Proofs.YtcjilojkhmondaaDoor
open Go.RowKit Go.Cof
theorem two_types' {w : World} {g : Nat} {c c' : Array Value} {t t' : TypeId} {f f' : Nat × Nat} (h : w.heap[g]? = some (.cells c t f)) (h' : w.heap[g]? = some (.cells c' t' f')) : t = t' := by
  rw [h] at h'
  have := Option.some.inj h'
  simp only [Obj.cells.injEq] at this
  exact this.2.1
def printS (dim : Int) (l : List ItemV) : ByteArray := if printOk dim (l.map plainI) then ⟨(printT dim (l.map plainI)).toArray⟩ else ⟨#[]⟩
def printE (dim : Int) (l : List ItemV) : Value := if printOk dim (l.map plainI) then .nilIface else errVal 1
set_option maxRecDepth 100000 in
set_option maxHeartbeats 8000000 in
theorem print_any (dim : Int) (v : Value) (l : List ItemV) (w : World) (I : Items w v l) (hl : l.length ≤ maxLen) (hns : ∀ x ∈ l, x.ns.length ≤ 1000000) (T : PowVar w) :
    Calls Tryd.prog 38 #[.int .i64 dim, v] w fun e w' => e = .returned (.tuple #[.string (printS dim l), printE dim l]) ∧ Keep NoB w w' := by
  obtain ⟨p, c, rfl⟩ := I.rows.len
  obtain ⟨n, hn⟩ : ∃ n, n = l.length := ⟨_, rfl⟩
  rw [← hn] at I hl ⊢
  have hmax : (n : Int) ≤ 9223372036854775807 := by unfold maxLen at hl; omega
  have HNo : Hid (printOk dim (l.map plainI) = false → Ending.returned (.tuple #[.string (printS dim l), printE dim l]) = .returned (.tuple #[.string ⟨#[]⟩, .iface 53 (.int .i64 1)])) := Lib.hid (fun h => by rw [printS, printE, h]; rfl)
  have Hn := Lib.hid hn
  have HI := Lib.hid I
  have HT := Lib.hid T
  have Hns := Lib.hid hns
  have hfalse : ¬ (1 ≤ dim ∧ dim ≤ 8 ∧ n ≤ 60 ∧ okTo dim l n) → printOk dim (l.map plainI) = false := fun h => by
    cases hp : printOk dim (l.map plainI) with
    | false => rfl
    | true => exact absurd (by rw [hn]; exact printOk_to.1 hp) h
  have HF := Lib.hid hfalse
  obtain ⟨RV, hRV⟩ : ∃ R, R = Ending.returned (.tuple #[.string (printS dim l), printE dim l]) := ⟨_, rfl⟩
  rw [← hRV] at HNo ⊢
  have HRV := Lib.hid hRV
  clear hn I T hns hfalse hRV hl
  by_cases hd : 1 ≤ dim ∧ dim ≤ 8
  case neg =>
    have hno := HNo.out (HF.out (fun h => hd ⟨h.1, h.2.1⟩))
    rw [hno]
    by_cases h1 : dim < 1
    · go_enter Tryd.func38, Tryd.ntmps38
      go_wp2_with fail
      go_ret2
      exact ⟨rfl, Keep.refl _ _⟩
    · have h2 : 8 < dim := by omega
      go_enter Tryd.func38, Tryd.ntmps38
      go_wp2_with fail
      go_ret2
      exact ⟨rfl, Keep.refl _ _⟩
  have h1 : ¬ dim < 1 := by omega
  have h8 : ¬ 8 < dim := by omega
  by_cases h60 : n ≤ 60
  case neg =>
    have hno := HNo.out (HF.out (fun h => h60 h.2.2.1))
    rw [hno]
    have h2 : (60 : Int) < n := by omega
    go_enter Tryd.func38, Tryd.ntmps38
    go_wp2_with fail
    go_ret2
    exact ⟨rfl, Keep.refl _ _⟩
  have h61 : ¬ ((60 : Int) < n) := by omega
  have hB0 := isB_new w
  have K0 : Keep NoB w (w.alloc (.cells #[.pointer none, .slice none 0 0] 109)) := (Keep.refl _ _).alloc _
  have hblt : w.heap.size < (w.alloc (.cells #[.pointer none, .slice none 0 0] 109)).heap.size := by show w.heap.size < (w.heap.push _).size; rw [Array.size_push]; omega
  obtain ⟨wb, hwb⟩ : ∃ wb, wb = w.alloc (.cells #[.pointer none, .slice none 0 0] 109) := ⟨_, rfl⟩
  obtain ⟨b, hb⟩ : ∃ b, b = w.heap.size := ⟨_, rfl⟩
  rw [← hwb, ← hb] at hB0 hblt
  rw [← hwb] at K0
  have Hwb := Lib.hid hwb
  have Hb := Lib.hid hb
  have hdimT := itoa_len dim (by omega)
  have HdimT := Lib.hid hdimT
  have hito := fun w1 (K : Keep NoB w w1) => itoa_any dim (by omega) (by omega) w1 (HT.out.keep K (fun x => x))
  obtain ⟨dt, hdt⟩ : ∃ dt : ByteArray, dt = ⟨(Lib.itoa dim).toArray⟩ := ⟨_, rfl⟩
  rw [← hdt] at hito
  have Hito := Lib.hid (hito wb K0)
  have Hdt := Lib.hid hdt
  have HB0 := Lib.hid hB0
  clear hwb hb hdimT hito hdt hB0
  go_enter Tryd.func38, Tryd.ntmps38
  go_wp2_with fail
  rw [← Hwb.out, ← Hb.out]
  refine Hito.out.mono ?_
  rintro e w1 ⟨rfl, K1⟩
  have hdts : dt.size ≤ 5 := by rw [Hdt.out]; have := HdimT.out; simpa [ByteArray.size] using this
  have hs1 : ((⟨#[100, 105, 109, 32]⟩ : ByteArray) ++ dt ++ (⟨#[10]⟩ : ByteArray)).size = dt.size + 5 := by rw [ByteArray.size_append, ByteArray.size_append]; show 4 + dt.size + 1 = _; omega
  have HB1 := Lib.hid (HB0.out.keepN K1)
  obtain ⟨S0, hS0⟩ : ∃ S0 : ByteArray, S0 = ⟨#[100, 105, 109, 32]⟩ ++ dt ++ ⟨#[10]⟩ := ⟨_, rfl⟩
  have hS0l : S0.data.toList = headT dim := by
    rw [hS0, Hdt.out, ByteArray.data_append, ByteArray.data_append]
    simp [headT, dimT]
  have hS0s : S0.size ≤ 10 := by rw [hS0, hs1]; omega
  have hwr := write_any b b [] S0 w1 HB1.out (by simp; omega) (by have := K1.size; omega)
  rw [List.nil_append, hS0l] at hwr
  have Hwr := Lib.hid hwr
  have HS0 := Lib.hid hS0
  clear hwr hS0 hS0l hS0s hs1
  go_wp2_with fail
  rw [← HS0.out]
  refine Hwr.out.mono ?_
  rintro e w2 ⟨rfl, B2, K2⟩
  have KW : ∀ x, x < w.heap.size → ∀ w', ¬ Wr b b w' x := fun x hx w' hw => by
    have := Hb.out
    rcases hw with h | ⟨h, _⟩ <;> omega
  have HKW := Lib.hid KW
  have KA : Keep NoB w w2 := (K0.thenN K1).trans K2 (fun i hi hs => absurd hs (KW i hi _))
  have HB2 := Lib.hid B2
  have hbw2 : b < w2.heap.size := Nat.lt_of_lt_of_le hblt (Nat.le_trans K1.size K2.size)
  clear KW B2 Hito HB1 HB0 Hwr
  go_wp2_with fail
  go_loopw [30] (fun iv wr => ∃ j : Nat, j ≤ n ∧ iv = .int .i64 j ∧ Hid (okTo dim l j) ∧ Hid (IsB b b (headT dim ++ ((l.take j).map plainI).flatMap lineT) wr) ∧ b < wr.heap.size ∧ Keep NoB w wr) (fun iv _ => n - (intOf iv).toNat)
  case atStart => exact ⟨0, by omega, rfl, Lib.hid (okTo_zero dim l), Lib.hid (by rw [List.take_zero, List.map_nil, List.flatMap_nil, List.append_nil]; exact HB2.out), hbw2, KA⟩
  case round =>
    clear HB2 KA K1 K2 hbw2
    obtain ⟨j, hj, rfl, hok, hB, hbw, K⟩ := hrel
    obtain ⟨wo, rfl⟩ : ∃ wo, wo = wr := ⟨_, rfl⟩
    by_cases hlt : j < n
    · have j1 : (j : Int) < n := by omega
      have Ir := HI.out.rows.keep K (fun _ _ x => x)
      obtain ⟨pb, off, rfl, -, hpb, hcell⟩ := Ir.at (by have := Hn.out; omega)
      obtain ⟨x, hx⟩ : ∃ x, l[j]? = some x := ⟨_, List.getElem?_eq_getElem (by have := Hn.out; omega)⟩
      have hra := hcell j x hx
      have hxm : x ∈ l := List.mem_of_getElem? hx
      have Nx := (HI.out.nums x hxm).keep K (fun _ _ x => x)
      have hsu := okTo_succ (dim := dim) hx
      have c0 : wo.cell? ⟨pb, off + j * 3, none⟩ = some (.string x.name) := hra 0 _ rfl
      have c1 : wo.cell? ⟨pb, off + j * 3 + 1, none⟩ = some (.string x.tag) := hra 1 _ rfl
      have c2 : wo.cell? ⟨pb, off + j * 3 + 2, none⟩ = some x.av := hra 2 _ rfl
      obtain ⟨px, cx, hav⟩ := Nx.len
      have hri := fun w' (Kx : Keep NoB wo w') => itemRight_any x dim w' (Nx.keep Kx (fun _ _ x => x)) (Hns.out x hxm)
      have henc : (encItem x).toArray = #[.string x.name, .string x.tag, .slice px x.ns.length cx] := by rw [encItem, hav]
      rw [henc] at hri
      rw [hav] at c2
      obtain ⟨R, hR⟩ : ∃ R, R = itemB x dim := ⟨_, rfl⟩
      rw [← hR] at hri hsu
      obtain ⟨nx, hnx⟩ : ∃ nx, nx = x.ns.length := ⟨_, rfl⟩
      rw [← hnx] at hri c2
      obtain ⟨nm, hnm⟩ : ∃ nm, nm = x.name := ⟨_, rfl⟩
      obtain ⟨tg, htg⟩ : ∃ tg, tg = x.tag := ⟨_, rfl⟩
      rw [← hnm, ← htg] at hri
      rw [← hnm] at c0
      rw [← htg] at c1
      have hprev : ∀ w', Keep NoB wo w' → 0 < j → ∃ y, l[j - 1]? = some y ∧ w'.cell? ⟨pb, off + (j - 1) * 3, none⟩ = some (.string y.name) := fun w' Kx h0 => by
        obtain ⟨y, hy⟩ : ∃ y, l[j - 1]? = some y := ⟨_, List.getElem?_eq_getElem (by have := Hn.out; omega)⟩
        exact ⟨y, hy, (Kx.cell (p := ⟨pb, off + (j - 1) * 3, none⟩) hpb (fun x => x)).trans (hcell (j - 1) y hy 0 _ rfl)⟩
      have hbody : lineT (plainI x) = nm.data.toList ++ [32] ++ tg.data.toList ++ (x.ns.map Lib.itoa).flatMap (fun q => (32 : UInt8) :: q) ++ [10] := by
        rw [hnm, htg, lineT, bodyT, plainI]
        simp
      have Hsu := Lib.hid hsu
      have Hri := Lib.hid hri
      have Hprev := Lib.hid hprev
      have Hbody := Lib.hid hbody
      have HNx := Lib.hid Nx
      have HR := Lib.hid hR
      have Hnx := Lib.hid hnx
      have Hx := Lib.hid hx
      have HxM := Lib.hid hxm
      have Hav := Lib.hid hav
      have hjn1 : (j : Int) - 1 < n := by omega
      have Hnm := Lib.hid hnm
      have Htg := Lib.hid htg
      clear hsu hri hprev hbody Nx hR hnx hx hav henc hra hcell hxm hnm htg Ir
      go_wp2_with fail
      obtain ⟨wX, hwX⟩ : ∃ wX, wX = wo.alloc (.cells #[.string nm, .string tg, .slice px nx cx] 34) := ⟨_, rfl⟩
      obtain ⟨X, hXe⟩ : ∃ X, X = wo.heap.size := ⟨_, rfl⟩
      have hX : wX.heap[X]? = some (.cells #[.string nm, .string tg, .slice px nx cx] 34 (0, 0)) := by rw [hwX, hXe]; exact heap_alloc_new wo _
      have KX : Keep NoB wo wX := by rw [hwX]; exact (Keep.refl _ _).alloc _
      rw [← hwX, ← hXe]
      have hXlt := lt_of_heap hX
      have x0 : wX.cell? ⟨X, 0, none⟩ = some (.string nm) := by rw [cell_of_row _ _ _ _ _ (0, 0) hX]; rfl
      have x1 : wX.cell? ⟨X, 1, none⟩ = some (.string tg) := by rw [cell_of_row _ _ _ _ _ (0, 0) hX]; rfl
      have x2 : wX.cell? ⟨X, 2, none⟩ = some (.slice px nx cx) := by rw [cell_of_row _ _ _ _ _ (0, 0) hX]; rfl
      have HX := Lib.hid hX
      have HXe := Lib.hid hXe
      have HKX := Lib.hid KX
      have Hri2 := Lib.hid (fun Y : Ext wX => Hri.out (wX.ext Y) (KX.thenN (ext_keep wX Y)))
      have hpbX : pb < wX.heap.size := Nat.lt_of_lt_of_le hpb KX.size
      clear hwX hXe hX KX Hri c0 c1 c2
      go_cut [53] (fun bv wx => ∃ G : Bool, bv = .bool (!G) ∧ Hid (G = true ↔ okTo dim l (j + 1)) ∧ Keep NoB wX wx)
      case first =>
        cases R with
        | false =>
          refine wp_region_q_ext (by kernel_rfl) (by kernel_rfl) ?_
          repeat ((with_reducible refine wpQuiet_step (fun K hK => ?_)); go_simp; first | (refine hK _ ?_; clear hK K) | (apply Exists.intro; refine ⟨fun _ => ?_, hK _ ?_⟩; (go_at_call 43; exact quiet_ext _ (Hri2.out _)); clear hK K))
          refine wpQuiet_nil ?_
          intro Y
          go_wp2_with fail
          go_meet
          case rel => exact ⟨false, rfl, Lib.hid ⟨fun h => (by cases h), fun h => (by have := (Hsu.out.1 h).2.1; cases this)⟩, ext_keep wX Y⟩
        | true =>
          by_cases hj0 : j = 0
          · have hj1 : ¬ (0 < j) := by omega
            have Hj0 := Lib.hid hj0
            clear hj0
            refine wp_region_q_ext (by kernel_rfl) (by kernel_rfl) ?_
            repeat ((with_reducible refine wpQuiet_step (fun K hK => ?_)); go_simp; first | (refine hK _ ?_; clear hK K) | (apply Exists.intro; refine ⟨fun _ => ?_, hK _ ?_⟩; (go_at_call 43; exact quiet_ext _ (Hri2.out _)); clear hK K))
            refine wpQuiet_nil ?_
            intro Y
            go_wp2_with fail
            go_meet
            case rel => exact ⟨true, rfl, Lib.hid ⟨fun _ => Hsu.out.2 ⟨hok.out, (by first | rfl | trivial), fun y h => by have := Hj0.out; omega⟩, fun _ => rfl⟩, ext_keep wX Y⟩
          · have hj1 : 0 < j := by omega
            have hji : (0 : Int) < j := by omega
            obtain ⟨y, hy, hyc⟩ := Hprev.out wX HKX.out (by omega)
            have hw1 : IntKind.i64.wrap ((j : Int) - 1) = ((j - 1 : Nat) : Int) := by rw [IntWalk.i64_in _ (by omega)]; omega
            have hjm : j - 1 < n := by omega
            obtain ⟨S, hS⟩ : ∃ S, S = Op.bytesLess y.name.toList nm.toList := ⟨_, rfl⟩
            have hS' := hS.symm
            have Hy := Lib.hid hy
            have HSS := Lib.hid hS
            obtain ⟨yn, hyn⟩ : ∃ yn, yn = y.name := ⟨_, rfl⟩
            rw [← hyn] at hyc hS'
            have Hyn := Lib.hid hyn
            clear hy hS hyn
            cases S with
            | true =>
              refine wp_region_q_ext (by kernel_rfl) (by kernel_rfl) ?_
              repeat ((with_reducible refine wpQuiet_step (fun K hK => ?_)); go_simp; first | (refine hK _ ?_; clear hK K) | (apply Exists.intro; refine ⟨fun _ => ?_, hK _ ?_⟩; (go_at_call 43; exact quiet_ext _ (Hri2.out _)); clear hK K))
              refine wpQuiet_nil ?_
              intro Y
              go_wp2_with fail
              go_meet
              case rel =>
                refine ⟨true, rfl, Lib.hid ⟨fun _ => Hsu.out.2 ⟨hok.out, (by first | rfl | trivial), fun y2 _ e => ?_⟩, fun _ => rfl⟩, ext_keep wX Y⟩
                rw [Hy.out] at e
                obtain rfl := Option.some.inj e
                have h2 := HSS.out
                rw [less_eq] at h2
                have h3 := of_decide_eq_true h2.symm
                rw [ByteArray.toList_eq, ByteArray.toList_eq, Hnm.out] at h3
                exact h3
            | false =>
              refine wp_region_q_ext (by kernel_rfl) (by kernel_rfl) ?_
              repeat ((with_reducible refine wpQuiet_step (fun K hK => ?_)); go_simp; first | (refine hK _ ?_; clear hK K) | (apply Exists.intro; refine ⟨fun _ => ?_, hK _ ?_⟩; (go_at_call 43; exact quiet_ext _ (Hri2.out _)); clear hK K))
              refine wpQuiet_nil ?_
              intro Y
              go_wp2_with fail
              go_meet
              case rel =>
                refine ⟨false, rfl, Lib.hid ⟨fun h => (by cases h), fun h => ?_⟩, ext_keep wX Y⟩
                have h1 := (Hsu.out.1 h).2.2 y (by omega) Hy.out
                have h2 := HSS.out
                rw [less_eq] at h2
                have h3 := of_decide_eq_false h2.symm
                rw [ByteArray.toList_eq, ByteArray.toList_eq, Hnm.out] at h3
                exact absurd h1 h3
      case rest =>
        obtain ⟨G, rfl, HG, K3⟩ := hcut
        obtain ⟨w3, rfl⟩ : ∃ w3, w3 = wc := ⟨_, rfl⟩
        have Kw3 : Keep NoB w w3 := (K.thenN HKX.out).thenN K3
        cases G with
        | false =>
          have hno := HNo.out (HF.out (fun h => by
            have h2 := HG.out.2 (okTo_down h.2.2.2 (by omega))
            cases h2))
          have Hno := Lib.hid hno
          clear hno
          go_wp2_with fail
          go_ret2
          exact ⟨by rw [Hno.out]; rfl, Kw3⟩
        | true =>
          have hok1 := HG.out.1 (by first | rfl | trivial)
          have hx3 := K3.heap HX.out (fun x => x)
          have y0 : w3.cell? ⟨X, 0, none⟩ = some (.string nm) := by rw [cell_of_row _ _ _ _ _ (0, 0) hx3]; rfl
          have y1 : w3.cell? ⟨X, 1, none⟩ = some (.string tg) := by rw [cell_of_row _ _ _ _ _ (0, 0) hx3]; rfl
          have hit : pitemB (plainI x) dim = true := HR.out.symm.trans (Hsu.out.1 hok1).2.1
          have hsz := item_sizes hit
          have hib := (itemOk_of hit).ns
          have hnx8 : nx ≤ 8 := by have h3 : x.ns.length ≤ 8 := hsz.2.2; have := Hnx.out; omega
          have hszn : nm.size ≤ 10 := by rw [Hnm.out]; exact hsz.1
          have hszt : tg.size ≤ 10 := by rw [Htg.out]; exact hsz.2.1
          obtain ⟨cur, hcur⟩ : ∃ cur, cur = headT dim ++ ((l.take j).map plainI).flatMap lineT := ⟨_, rfl⟩
          have hcl : cur.length ≤ 7000 := by
            have h1 := rows_len hok.out.1
            have h2 : (headT dim).length ≤ 10 := by
              have := HdimT.out
              rw [headT, List.length_append, List.length_append]
              show 4 + _ + 1 ≤ 10
              omega
            have h3 : ((l.take j).map plainI).length ≤ 60 := by rw [List.length_map, List.length_take]; have := Hn.out; omega
            rw [hcur, List.length_append]
            omega
          have hB3 : IsB b b cur w3 := by rw [hcur]; exact hB.out.keepN (HKX.out.thenN K3)
          obtain ⟨S1, hS1⟩ : ∃ S1 : ByteArray, S1 = nm ++ ⟨#[32]⟩ ++ tg := ⟨_, rfl⟩
          have hS1s : S1.size ≤ 21 := by rw [hS1, ByteArray.size_append, ByteArray.size_append]; show nm.size + 1 + tg.size ≤ 21; omega
          have hS1l : S1.data.toList = nm.data.toList ++ [32] ++ tg.data.toList := by rw [hS1, ByteArray.data_append, ByteArray.data_append]; simp
          have hbw3 : b < w3.heap.size := Nat.lt_of_lt_of_le hbw (Nat.le_trans HKX.out.size K3.size)
          have hwr1 := write_any b b cur S1 w3 hB3 (by omega) (by omega)
          have hcat : nm.size + 1 + tg.size ≤ 1000 := by omega
          have hns1 : ((nm ++ ⟨#[32]⟩ : ByteArray)).size = nm.size + 1 := ByteArray.size_append
          have Hwr1 := Lib.hid hwr1
          have HS1 := Lib.hid hS1
          have HS1l := Lib.hid hS1l
          have Hcur := Lib.hid hcur
          have Hx3 := Lib.hid hx3
          have Hib := Lib.hid hib
          have Hsz := Lib.hid hsz
          have Hok1 := Lib.hid hok1
          clear hwr1 hS1 hS1l hcur hx3 hit hib hsz hB3 hok1
          go_wp2_with fail
          rw [← HS1.out]
          refine Hwr1.out.mono ?_
          rintro e w4 ⟨rfl, B4, K4⟩
          have Kw4 : Keep NoB w w4 := Kw3.trans K4 (fun i hi hs => absurd hs (HKW.out i hi _))
          have hx4 := K4.heap Hx3.out (fun hs => by
            rcases hs with h | ⟨_, cs, fz, h⟩
            · have := HXe.out; omega
            · exact absurd (two_types' Hx3.out h) (by decide))
          have z2 : w4.cell? ⟨X, 2, none⟩ = some (.slice px nx cx) := by rw [cell_of_row _ _ _ _ _ (0, 0) hx4]; rfl
          have HB4 := Lib.hid B4
          have hbw4 : b < w4.heap.size := Nat.lt_of_lt_of_le hbw3 K4.size
          clear B4 hx4 Hwr1
          go_wp2_with fail
          go_loopw [65] (fun iv wr => ∃ k : Nat, k ≤ nx ∧ iv = .int .i64 k ∧ Hid (IsB b b (cur ++ S1.data.toList ++ ((x.ns.take k).map Lib.itoa).flatMap (fun q => (32 : UInt8) :: q)) wr) ∧ b < wr.heap.size ∧ Keep NoB w wr) (fun iv _ => nx - (intOf iv).toNat)
          case atStart => exact ⟨0, by omega, rfl, Lib.hid (by rw [List.take_zero, List.map_nil, List.flatMap_nil, List.append_nil]; exact HB4.out), hbw4, Kw4⟩
          case round =>
            clear HB4 Kw4 K4 Kw3 z2 hbw4
            obtain ⟨k, hk, rfl, hBk, hbk, Kk⟩ := hrel
            obtain ⟨w5, rfl⟩ : ∃ w5, w5 = wr := ⟨_, rfl⟩
            by_cases hkn : k < nx
            · have k1 : (k : Int) < nx := by omega
              have Nk := (HI.out.nums x HxM.out).keep Kk (fun _ _ x => x)
              rw [Hav.out, ← Hnx.out] at Nk
              obtain ⟨bn, on, rfl, -, hbn, hcn⟩ := Nk.at (by have := Hnx.out; omega)
              have cn := hcn k (by have := Hnx.out; omega)
              obtain ⟨y, hy⟩ : ∃ y, x.ns[k]? = some y := ⟨_, List.getElem?_eq_getElem (by have := Hnx.out; omega)⟩
              rw [List.getD_eq_getElem?_getD, hy] at cn
              have cn' : w5.cell? ⟨bn, on + k, none⟩ = some (.int .i64 y) := cn
              have hyb := Hib.out y (List.mem_of_getElem? hy)
              have hito := itoa_any y (by omega) (by omega) w5 (HT.out.keep Kk (fun x => x))
              obtain ⟨it, hit⟩ : ∃ it : ByteArray, it = ⟨(Lib.itoa y).toArray⟩ := ⟨_, rfl⟩
              rw [← hit] at hito
              have hitl : it.data.toList = Lib.itoa y := by rw [hit]
              have hits : it.size ≤ 5 := by have := itoa_len y hyb; rw [← hitl] at this; exact this
              have htk : ((x.ns.take (k + 1)).map Lib.itoa).flatMap (fun q => (32 : UInt8) :: q) = ((x.ns.take k).map Lib.itoa).flatMap (fun q => (32 : UInt8) :: q) ++ 32 :: it.data.toList := by
                have hkl := (List.getElem?_eq_some_iff.1 hy)
                rw [List.take_succ_eq_append_getElem hkl.1, hkl.2, List.map_append, List.flatMap_append, hitl]
                simp
              have hlk : (((x.ns.take k).map Lib.itoa).flatMap (fun q => (32 : UInt8) :: q)).length ≤ 48 := by
                have h1 := nums_len (x.ns.take k) (fun n hn => Hib.out n (List.mem_of_mem_take hn))
                have h2 : (x.ns.take k).length ≤ 8 := by rw [List.length_take]; have := Hsz.out.2.2; show min k x.ns.length ≤ 8; have h3 : x.ns.length ≤ 8 := this; omega
                omega
              have Hito := Lib.hid hito
              have Htk := Lib.hid htk
              have Hlk := Lib.hid hlk
              have hcat2 : ((⟨#[32]⟩ : ByteArray) ++ it).size = it.size + 1 := by rw [ByteArray.size_append]; show 1 + it.size = _; omega
              clear cn hcn hy hito hit hitl htk hlk Nk
              go_wp2_with fail
              refine Hito.out.mono ?_
              rintro e w6 ⟨rfl, K6⟩
              obtain ⟨S2, hS2⟩ : ∃ S2 : ByteArray, S2 = ⟨#[32]⟩ ++ it := ⟨_, rfl⟩
              have hS2l : S2.data.toList = 32 :: it.data.toList := by rw [hS2, ByteArray.data_append]; simp
              have hw2 := write_any b b _ S2 w6 (hBk.out.keepN K6) (by
                rw [List.length_append, List.length_append]
                have h1 : S1.data.toList.length = S1.size := rfl
                have h2 : S2.size = it.size + 1 := by rw [hS2]; exact hcat2
                have := Hlk.out
                omega) (by have := K6.size; omega)
              rw [List.append_assoc, hS2l, ← Htk.out] at hw2
              have Hw2 := Lib.hid hw2
              have HS2 := Lib.hid hS2
              clear hw2 hS2 hS2l
              go_wp2_with fail
              rw [← HS2.out]
              refine Hw2.out.mono ?_
              rintro e w7 ⟨rfl, B7, K7⟩
              have HB7 := Lib.hid B7
              clear B7
              go_wp2_with fail
              exact ⟨⟨k + 1, by omega, by go_num, HB7, Nat.lt_of_lt_of_le hbk (Nat.le_trans K6.size K7.size), (Kk.thenN K6).trans K7 (fun i hi hs => absurd hs (HKW.out i hi _))⟩, by simp [intOf]; omega⟩
            · obtain rfl : k = nx := by omega
              have hfull : cur ++ S1.data.toList ++ ((x.ns.take k).map Lib.itoa).flatMap (fun q => (32 : UInt8) :: q) ++ (⟨#[10]⟩ : ByteArray).data.toList = headT dim ++ ((l.take (j + 1)).map plainI).flatMap lineT := by
                have hj2 := (List.getElem?_eq_some_iff.1 Hx.out)
                rw [List.take_of_length_le (by have := Hnx.out; omega), List.take_succ_eq_append_getElem hj2.1, hj2.2, List.map_append, List.flatMap_append, Hcur.out, HS1l.out]
                have h1 : (List.map plainI [x]).flatMap lineT = lineT (plainI x) := by simp
                rw [h1, Hbody.out]
                simp
              have hlk : (((x.ns.take k).map Lib.itoa).flatMap (fun q => (32 : UInt8) :: q)).length ≤ 48 := by
                have h1 := nums_len (x.ns.take k) (fun n hn => Hib.out n (List.mem_of_mem_take hn))
                have h2 : (x.ns.take k).length ≤ 8 := by rw [List.length_take]; have h3 : x.ns.length ≤ 8 := Hsz.out.2.2; omega
                omega
              have hw2 := write_any b b _ ⟨#[10]⟩ w5 hBk.out (by
                rw [List.length_append, List.length_append]
                have h1 : S1.data.toList.length = S1.size := rfl
                show _ + 1 ≤ _
                omega) (by omega)
              rw [hfull] at hw2
              have Hw2 := Lib.hid hw2
              clear hw2 hfull hlk
              go_wp2_with fail
              refine Hw2.out.mono ?_
              rintro e w7 ⟨rfl, B7, K7⟩
              have HB7 := Lib.hid B7
              clear B7
              go_wp2_with fail
              exact ⟨⟨j + 1, by omega, by go_num, Hok1, HB7, Nat.lt_of_lt_of_le hbk K7.size, Kk.trans K7 (fun i hi hs => absurd hs (HKW.out i hi _))⟩, by simp [intOf]; omega⟩
    · obtain rfl : j = n := by omega
      have hall : printOk dim (l.map plainI) = true := printOk_to.2 ⟨hd.1, hd.2, by rw [← Hn.out]; exact h60, by rw [← Hn.out]; exact hok.out⟩
      have hRV2 : RV = Ending.returned (.tuple #[.string ⟨(printT dim (l.map plainI)).toArray⟩, .nilIface]) := by rw [HRV.out, printS, printE, if_pos hall, if_pos hall]
      have hBn := hB.out
      rw [List.take_of_length_le (by have := Hn.out; omega)] at hBn
      have hstr := Tryd.Builder_String_any_k b b _ wo hBn (by omega)
      have Hstr := Lib.hid hstr
      have HRV2 := Lib.hid hRV2
      have hbw' := hbw
      clear hall hRV2 hBn hstr
      go_wp2_with fail
      refine Hstr.out.mono ?_
      rintro e w9 ⟨rfl, -, hBl, -⟩
      go_wp2_with fail
      go_ret2
      refine ⟨by rw [HRV2.out]; rfl, ⟨hBl.os.trans K.os, hBl.tape.trans K.tape, hBl.output.trans K.output, Nat.le_trans K.size hBl.size, fun i hi hn => ?_⟩⟩
      rw [hBl.block i (by have := Hb.out; omega)]
      exact K.block i hi hn
end Go.Proofs.YtcjilojkhmondaaDoor
