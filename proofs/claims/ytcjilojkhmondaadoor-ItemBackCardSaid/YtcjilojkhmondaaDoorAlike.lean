/-
  DERIVED. Items compared: slices.Equal of numbers, slices.EqualFunc of items, a law's own alike. (Under way.)
-/
import Derived.Test.YtcjilojkhmondaaDoorItem
import Derived.Test.YtcjilojkhmondaaDoorFoundEq
set_option linter.unusedVariables false
set_option linter.unusedSimpArgs false
namespace Go.Proofs.YtcjilojkhmondaaDoor
open Go.RowKit Go.Cof Go.Sort Go.Shelf
set_option maxRecDepth 100000 in
set_option maxHeartbeats 4000000 in
theorem equalInt_any (vx vy : Value) (xs ys : List Int) (w : World) (X : Nums w vx xs) (Y : Nums w vy ys) (hx : xs.length ≤ 1000000) (hy : ys.length ≤ 1000000) :
    Calls Tryd.prog 73 #[vx, vy] w fun e w' => e = .returned (.bool (decide (xs = ys))) ∧ Keep NoB w w' := by
  obtain ⟨px, cx, rfl⟩ := X.len
  obtain ⟨py, cy, rfl⟩ := Y.len
  by_cases hl : xs.length = ys.length
  · obtain ⟨n, hn⟩ : ∃ n, n = xs.length := ⟨_, rfl⟩
    have hn2 : n = ys.length := hn.trans hl
    rw [← hn] at X hx
    rw [← hn2] at Y hy
    rw [← hn, ← hn2]
    have Hn := Lib.hid hn
    have Hn2 := Lib.hid hn2
    clear hn hn2 hl
    go_enter Tryd.func73, Tryd.ntmps73
    go_wp2_with fail
    go_loopw [13] (fun i wr => ∃ k : Nat, k ≤ n ∧ i = .int .i64 k ∧ Hid (xs.take k = ys.take k) ∧ ∃ q, wr = w.drewN q) (fun i _ => n - (intOf i).toNat)
    case atStart => exact ⟨0, by omega, rfl, Lib.hid rfl, 0, rfl⟩
    case round =>
      obtain ⟨k, hk, rfl, hpre, q, rfl⟩ := hrel
      by_cases hlt : k < n
      · have j1 : (k : Int) < n := by omega
        obtain ⟨bx, ox, rfl, -, hbx, hcx⟩ := X.at (by have := Hn.out; omega)
        obtain ⟨by_, oy, rfl, -, hby, hcy⟩ := Y.at (by have := Hn2.out; omega)
        obtain ⟨x, hx1⟩ : ∃ x, xs[k]? = some x := ⟨_, List.getElem?_eq_getElem (by have := Hn.out; omega)⟩
        obtain ⟨y, hy1⟩ : ∃ y, ys[k]? = some y := ⟨_, List.getElem?_eq_getElem (by have := Hn2.out; omega)⟩
        have hs := take_snoc_eq xs ys k x y hx1 hy1 hpre.out
        have c0 : w.cell? ⟨bx, ox + k, none⟩ = some (.int .i64 x) := by rw [hcx k (by have := Hn.out; omega), List.getD_eq_getElem?_getD, hx1]; rfl
        have d0 : w.cell? ⟨by_, oy + k, none⟩ = some (.int .i64 y) := by rw [hcy k (by have := Hn2.out; omega), List.getD_eq_getElem?_getD, hy1]; rfl
        obtain ⟨B, hB⟩ : ∃ B, B = decide (x = y) := ⟨_, rfl⟩
        have hB2 : (x == y) = B := by rw [hB]; rfl
        have hB3 : (x != y) = !B := by rw [← hB2]; rfl
        have HB := Lib.hid hB
        have Hs := Lib.hid hs
        have Hx1 := Lib.hid hx1
        have Hy1 := Lib.hid hy1
        clear hcx hcy hs hB hx1 hy1
        cases B with
        | true =>
          rw [Bool.not_true] at hB3
          go_wp2_with fail
          go_quiet (fail)
          go_wp2_with fail
          refine ⟨⟨k + 1, by omega, by go_num, Lib.hid ?_, _, rfl⟩, by simp [intOf]; omega⟩
          exact Hs.out.2 (of_decide_eq_true HB.out.symm)
        | false =>
          rw [Bool.not_false] at hB3
          have hne : xs ≠ ys := fun e => by
            have h1 := Hx1.out
            have h2 := Hy1.out
            rw [e, h2] at h1
            have := HB.out
            rw [Option.some.inj h1] at this
            simp at this
          have Hne := Lib.hid (decide_eq_false hne)
          clear hne
          go_wp2_with fail
          go_quiet (fail)
          go_wp2_with fail
          go_ret
          exact ⟨by rw [Hne.out]; rfl, ((Keep.refl _ _).drewN _).drewN _⟩
      · have hall : xs = ys := by
          have h := hpre.out
          rw [List.take_of_length_le (by have := Hn.out; omega), List.take_of_length_le (by have := Hn2.out; omega)] at h
          exact h
        have j1 : ¬ ((k : Int) < n) := by omega
        have Hall := Lib.hid (decide_eq_true hall)
        clear hall
        go_wp2_with fail
        go_ret
        exact ⟨by rw [Hall.out]; rfl, (Keep.refl _ _).drewN _⟩
  · have hne : xs ≠ ys := fun e => hl (by rw [e])
    rw [decide_eq_false hne]
    have j1 : ((xs.length : Int) != ys.length) = true := by simp; omega
    clear hl hne
    go_enter Tryd.func73, Tryd.ntmps73
    go_wp2_with fail
    go_ret
    exact ⟨rfl, Keep.refl _ _⟩
/-- Two items say the same. -/
def sameI (x y : ItemV) : Bool := decide (x.name = y.name) && decide (x.tag = y.tag) && decide (x.ns = y.ns)
theorem beqB (a b : ByteArray) : (@BEq.beq (List UInt8) (@List.instBEq UInt8 instBEqOfDecidableEq) a.toList b.toList) = decide (a = b) := by
  by_cases h : a = b
  · rw [decide_eq_true h, h]; exact beq_self_eq_true _
  · rw [decide_eq_false h]; exact beq_eq_false_iff_ne.2 fun e => h (toList_inj e)
set_option maxRecDepth 100000 in
set_option maxHeartbeats 4000000 in
theorem alike1_any (x y : ItemV) (w : World) (X : Nums w x.av x.ns) (Y : Nums w y.av y.ns) (hx : x.ns.length ≤ 1000000) (hy : y.ns.length ≤ 1000000) :
    Calls Tryd.prog 72 #[.agg (encItem x).toArray, .agg (encItem y).toArray] w fun e w' => e = .returned (.bool (sameI x y)) ∧ Keep NoB w w' := by
  obtain ⟨n1, t1, a1, s1⟩ := x
  obtain ⟨n2, t2, a2, s2⟩ := y
  simp only at X Y hx hy
  obtain ⟨p1, c1, rfl⟩ := X.len
  obtain ⟨p2, c2, rfl⟩ := Y.len
  have hq := fun (W : World) (K : Keep NoB w W) => equalInt_any _ _ s1 s2 W (X.keep K (fun _ _ x => x)) (Y.keep K (fun _ _ x => x)) hx hy
  simp only [encItem, sameI]
  have b1 := beqB n1 n2
  have b2 := beqB t1 t2
  obtain ⟨B1, hB1⟩ : ∃ b, b = decide (n1 = n2) := ⟨_, rfl⟩
  obtain ⟨B2, hB2⟩ : ∃ b, b = decide (t1 = t2) := ⟨_, rfl⟩
  obtain ⟨B3, hB3⟩ : ∃ b, b = decide (s1 = s2) := ⟨_, rfl⟩
  rw [← hB1] at b1
  rw [← hB2] at b2
  rw [← hB3] at hq
  rw [← hB1, ← hB2, ← hB3]
  obtain ⟨l1, hl1⟩ : ∃ n, n = s1.length := ⟨_, rfl⟩
  obtain ⟨l2, hl2⟩ : ∃ n, n = s2.length := ⟨_, rfl⟩
  rw [← hl1, ← hl2] at hq
  rw [← hl1, ← hl2]
  have Hq := Lib.hid hq
  clear hq hB1 hB2 hB3 hl1 hl2 X Y
  cases B1 with
  | false =>
    simp only [Bool.false_and]
    go_enter Tryd.func72, Tryd.ntmps72
    go_wp2_with fail
    go_ret
    exact ⟨rfl, ((Keep.refl NoB w).alloc _).alloc _⟩
  | true =>
    cases B2 with
    | false =>
      simp only [Bool.true_and, Bool.false_and]
      go_enter Tryd.func72, Tryd.ntmps72
      go_wp2_with fail
      go_ret
      exact ⟨rfl, ((Keep.refl NoB w).alloc _).alloc _⟩
    | true =>
      simp only [Bool.true_and]
      go_enter Tryd.func72, Tryd.ntmps72
      go_wp2_with fail
      refine (Hq.out _ (((Keep.refl NoB w).alloc _).alloc _)).mono ?_
      rintro e w' ⟨rfl, K⟩
      go_wp2_with fail
      go_ret
      exact ⟨rfl, (((Keep.refl NoB w).alloc _).alloc _).thenN K⟩
/-- Two rows of items say the same. -/
def alikeB (xs ys : List ItemV) : Bool := decide (xs.map plainX = ys.map plainX)
  where plainX (x : ItemV) : ByteArray × ByteArray × List Int := (x.name, x.tag, x.ns)
theorem sameI_iff (x y : ItemV) : sameI x y = true ↔ alikeB.plainX x = alikeB.plainX y := by
  simp only [sameI, alikeB.plainX, Bool.and_eq_true, decide_eq_true_eq, Prod.mk.injEq, and_assoc]
set_option maxRecDepth 100000 in
set_option maxHeartbeats 4000000 in
theorem equalItems_any (vx vy : Value) (xs ys : List ItemV) (w : World) (X : Items w vx xs) (Y : Items w vy ys) (hx : xs.length ≤ 1000000) (hy : ys.length ≤ 1000000) (hxn : ∀ x ∈ xs, x.ns.length ≤ 1000000) (hyn : ∀ x ∈ ys, x.ns.length ≤ 1000000) :
    Calls Tryd.prog 71 #[vx, vy, .func (.func 72) #[] #[]] w fun e w' => e = .returned (.bool (alikeB xs ys)) ∧ Keep NoB w w' := by
  obtain ⟨px, cx, rfl⟩ := X.rows.len
  obtain ⟨py, cy, rfl⟩ := Y.rows.len
  have eg := enters_of (args := #[]) Tryd.func72 (by kernel_rfl) rfl
  by_cases hl : xs.length = ys.length
  · obtain ⟨n, hn⟩ : ∃ n, n = xs.length := ⟨_, rfl⟩
    have hn2 : n = ys.length := hn.trans hl
    rw [← hn] at X hx
    rw [← hn2] at Y hy
    rw [← hn, ← hn2]
    have Hn := Lib.hid hn
    have Hn2 := Lib.hid hn2
    clear hn hn2 hl
    go_enter Tryd.func71, Tryd.ntmps71
    go_wp2_with fail
    go_loopw [17] (fun i wr => ∃ k : Nat, k ≤ n ∧ i = .int .i64 k ∧ Hid ((xs.map alikeB.plainX).take k = (ys.map alikeB.plainX).take k) ∧ Keep NoB w wr) (fun i _ => n - (intOf i).toNat)
    case atStart => exact ⟨0, by omega, rfl, Lib.hid rfl, Keep.refl _ _⟩
    case round =>
      obtain ⟨k, hk, rfl, hpre, K⟩ := hrel
      by_cases hlt : k < n
      · have j1 : (k : Int) < n := by omega
        have Xr := X.rows.keep K (fun _ _ x => x)
        have Yr := Y.rows.keep K (fun _ _ x => x)
        obtain ⟨bx, ox, rfl, -, hbx, hcx⟩ := Xr.at (by have := Hn.out; omega)
        obtain ⟨by_, oy, rfl, -, hby, hcy⟩ := Yr.at (by have := Hn2.out; omega)
        obtain ⟨x, hx1⟩ : ∃ x, xs[k]? = some x := ⟨_, List.getElem?_eq_getElem (by have := Hn.out; omega)⟩
        obtain ⟨y, hy1⟩ : ∃ y, ys[k]? = some y := ⟨_, List.getElem?_eq_getElem (by have := Hn2.out; omega)⟩
        have rx := hcx k x hx1
        have ry := hcy k y hy1
        have hxm := List.mem_of_getElem? hx1
        have hym := List.mem_of_getElem? hy1
        have hs := take_snoc_eq (xs.map alikeB.plainX) (ys.map alikeB.plainX) k _ _ (by rw [List.getElem?_map, hx1]; rfl) (by rw [List.getElem?_map, hy1]; rfl) hpre.out
        have Nx := (X.nums x hxm).keep K (fun _ _ x => x)
        have Ny := (Y.nums y hym).keep K (fun _ _ x => x)
        have hcall := fun (W : World) (K : Keep NoB wr W) => alike1_any x y W (Nx.keep K (fun _ _ x => x)) (Ny.keep K (fun _ _ x => x)) (hxn x hxm) (hyn y hym)
        obtain ⟨B, hB⟩ : ∃ B, B = sameI x y := ⟨_, rfl⟩
        rw [← hB] at hcall
        have hsm := sameI_iff x y
        rw [← hB] at hsm
        have hne : B = false → alikeB xs ys = false := fun hb => decide_eq_false fun e => by
          have h1 : (xs.map alikeB.plainX)[k]? = some (alikeB.plainX x) := by rw [List.getElem?_map, hx1]; rfl
          have h2 : (ys.map alikeB.plainX)[k]? = some (alikeB.plainX y) := by rw [List.getElem?_map, hy1]; rfl
          rw [e, h2] at h1
          have := hsm.2 (Option.some.inj h1).symm
          rw [hb] at this
          cases this
        obtain ⟨n1, t1, a1, s1⟩ := x
        obtain ⟨n2, t2, a2, s2⟩ := y
        have x0 : wr.cell? ⟨bx, ox + k * 3, none⟩ = some (.string n1) := rx 0 _ rfl
        have x1 : wr.cell? ⟨bx, ox + k * 3 + 1, none⟩ = some (.string t1) := rx 1 _ rfl
        have x2 : wr.cell? ⟨bx, ox + k * 3 + 2, none⟩ = some a1 := rx 2 _ rfl
        have y0 : wr.cell? ⟨by_, oy + k * 3, none⟩ = some (.string n2) := ry 0 _ rfl
        have y1 : wr.cell? ⟨by_, oy + k * 3 + 1, none⟩ = some (.string t2) := ry 1 _ rfl
        have y2 : wr.cell? ⟨by_, oy + k * 3 + 2, none⟩ = some a2 := ry 2 _ rfl
        simp only at Nx Ny
        obtain ⟨p1, c1, rfl⟩ := Nx.len
        obtain ⟨p2, c2, rfl⟩ := Ny.len
        simp only [encItem] at hcall
        obtain ⟨l1, hl1⟩ : ∃ n, n = s1.length := ⟨_, rfl⟩
        obtain ⟨l2, hl2⟩ : ∃ n, n = s2.length := ⟨_, rfl⟩
        rw [← hl1, ← hl2] at hcall
        rw [← hl1] at x2
        rw [← hl2] at y2
        have Hs := Lib.hid hs
        have Hsm := Lib.hid hsm
        have Hne := Lib.hid hne
        have Hcall := Lib.hid hcall
        clear hcx hcy rx ry hs hB hx1 hy1 hsm hne hcall Nx Ny hxm hym hl1 hl2 Xr Yr
        have hbx2 : bx < (wr.alloc (.cells #[.string n1, .string t1, .slice p1 l1 c1] 34)).heap.size := by show _ < (wr.heap.push _).size; rw [Array.size_push]; omega
        go_wp2_with fail
        refine (Hcall.out _ (((Keep.refl NoB wr).alloc _).alloc _)).mono ?_
        rintro e w' ⟨rfl, K2⟩
        have K3 := K.thenN ((((Keep.refl NoB wr).alloc _).alloc _).thenN K2)
        cases B with
        | true =>
          go_wp2_with fail
          refine ⟨⟨k + 1, by omega, by go_num, Lib.hid ?_, K3⟩, by simp [intOf]; omega⟩
          exact Hs.out.2 (Hsm.out.1 (by first | rfl | trivial))
        | false =>
          go_wp2_with fail
          go_ret
          exact ⟨by rw [Hne.out (by first | rfl | trivial)]; rfl, K3⟩
      · have hall : alikeB xs ys = true := by
          have h := hpre.out
          rw [List.take_of_length_le (by rw [List.length_map]; have := Hn.out; omega), List.take_of_length_le (by rw [List.length_map]; have := Hn2.out; omega)] at h
          exact decide_eq_true h
        have j1 : ¬ ((k : Int) < n) := by omega
        have Hall := Lib.hid hall
        clear hall
        go_wp2_with fail
        go_ret
        exact ⟨by rw [Hall.out]; rfl, K⟩
  · have hne : alikeB xs ys = false := decide_eq_false fun e => hl (by have := congrArg List.length e; simpa using this)
    rw [hne]
    have j1 : ((xs.length : Int) != ys.length) = true := by simp; omega
    clear hl hne
    go_enter Tryd.func71, Tryd.ntmps71
    go_wp2_with fail
    go_ret
    exact ⟨rfl, Keep.refl _ _⟩
theorem alike_any (vx vy : Value) (xs ys : List ItemV) (w : World) (X : Items w vx xs) (Y : Items w vy ys) (hx : xs.length ≤ 1000000) (hy : ys.length ≤ 1000000) (hxn : ∀ x ∈ xs, x.ns.length ≤ 1000000) (hyn : ∀ x ∈ ys, x.ns.length ≤ 1000000) :
    Calls Tryd.prog 39 #[vx, vy] w fun e w' => e = .returned (.bool (alikeB xs ys)) ∧ Keep NoB w w' := by
  have hi := equalItems_any vx vy xs ys w X Y hx hy hxn hyn
  obtain ⟨B, hB⟩ : ∃ B, B = alikeB xs ys := ⟨_, rfl⟩
  rw [← hB] at hi ⊢
  have Hi := Lib.hid hi
  clear hi hB
  go_enter Tryd.func39, Tryd.ntmps39
  go_wp2_with fail
  refine Hi.out.mono ?_
  rintro e w' ⟨rfl, K⟩
  go_wp2_with fail
  go_ret
  exact ⟨rfl, K⟩
end Go.Proofs.YtcjilojkhmondaaDoor
