/-
  DERIVED. NearFinds' short, right, sameFound.
-/
import Derived.Test.YtcjilojkhmondaaDoorCellsTop
import Derived.Test.YtcjilojkhmondaaDoorRefTop
import Derived.Test.YtcjilojkhmondaaDoorFoundEq
import Derived.Test.YtcjilojkhmondaaDoorLong
set_option linter.unusedVariables false
set_option linter.unusedSimpArgs false
namespace Go.Proofs.YtcjilojkhmondaaDoor
open Go.RowKit Go.Cof Go.Sort Go.Shelf
structure ShortOk (l : List ItemV) : Prop where
  len : l.length ≤ 65
  each : ∀ x ∈ l, x.name.size ≤ 60 ∧ x.tag.size ≤ 60 ∧ x.ns.length ≤ 12
def ShortTold (l : List ItemV) (e : Ending) : Prop := ∃ b : Bool, e = .returned (.bool b) ∧ (b = true → ShortOk l)
set_option maxHeartbeats 2000000 in
theorem short_any (v : Value) (l : List ItemV) (w : World) (I : Items w v l) (hl : l.length ≤ maxLen) : Calls Tryd.prog 26 #[v] w fun e w' => ShortTold l e ∧ w' = w := by
  have HNo : Hid (ShortTold l (.returned (.bool false))) := Lib.hid ⟨false, rfl, fun h => by cases h⟩
  obtain ⟨p, c, rfl⟩ := I.rows.len
  obtain ⟨n, hn⟩ : ∃ n, n = l.length := ⟨_, rfl⟩
  rw [← hn] at I hl ⊢
  have Hn := Lib.hid hn
  have HI := Lib.hid I
  have hmax : (n : Int) ≤ 9223372036854775807 := by unfold maxLen at hl; omega
  clear hn I hl
  by_cases h65 : n ≤ 65
  · have h1 : ¬ ((65 : Int) < n) := by omega
    go_enter Tryd.func26, Tryd.ntmps26
    go_wp2_with fail
    go_loopw [3] (fun iv wr => ∃ i : Nat, i ≤ n ∧ iv = .int .i64 i ∧ Hid (∀ j x, j < i → l[j]? = some x → x.name.size ≤ 60 ∧ x.tag.size ≤ 60 ∧ x.ns.length ≤ 12) ∧ wr = w) (fun iv _ => n - (intOf iv).toNat)
    case atStart => exact ⟨0, by omega, rfl, Lib.hid (fun j x h => by omega), rfl⟩
    case round =>
      obtain ⟨i, hi, rfl, hall, rfl⟩ := hrel
      by_cases hlt : i < n
      · have i1 : (i : Int) < n := by omega
        obtain ⟨b, off, rfl, -, hb, hcell⟩ := HI.out.rows.at (by have := Hn.out; omega)
        obtain ⟨x, hx⟩ : ∃ x, l[i]? = some x := ⟨_, List.getElem?_eq_getElem (by have := Hn.out; omega)⟩
        have hra := hcell i x hx
        have hxm : x ∈ l := List.mem_of_getElem? hx
        obtain ⟨pa, ca, hav⟩ := (HI.out.nums x hxm).len
        have c0 : wr.cell? ⟨b, off + i * 3, none⟩ = some (.string x.name) := hra 0 _ rfl
        have c1 : wr.cell? ⟨b, off + i * 3 + 1, none⟩ = some (.string x.tag) := hra 1 _ rfl
        have c2 : wr.cell? ⟨b, off + i * 3 + 2, none⟩ = some x.av := hra 2 _ rfl
        rw [hav] at c2
        obtain ⟨bn, hbn⟩ : ∃ bn, bn = decide (60 < x.name.size) := ⟨_, rfl⟩
        obtain ⟨bt, hbt⟩ : ∃ bt, bt = decide (60 < x.tag.size) := ⟨_, rfl⟩
        have L1 := fun w => long_any x.name bn hbn w
        have L2 := fun w => long_any x.tag bt hbt w
        obtain ⟨nm, hnm⟩ : ∃ nm, nm = x.name := ⟨_, rfl⟩
        obtain ⟨tg, htg⟩ : ∃ tg, tg = x.tag := ⟨_, rfl⟩
        obtain ⟨nl, hnl⟩ : ∃ nl, nl = x.ns.length := ⟨_, rfl⟩
        rw [← hnm] at c0 L1
        rw [← htg] at c1 L2
        rw [← hnl] at c2
        have hstep : bn = false → bt = false → nl ≤ 12 → ∀ j y, j < i + 1 → l[j]? = some y → y.name.size ≤ 60 ∧ y.tag.size ≤ 60 ∧ y.ns.length ≤ 12 := by
          intro e1 e2 e3 j y hj hy
          by_cases e : j = i
          · subst e
            rw [hx] at hy
            obtain rfl := Option.some.inj hy
            rw [e1] at hbn
            rw [e2] at hbt
            have h1 := of_decide_eq_false hbn.symm
            have h2 := of_decide_eq_false hbt.symm
            omega
          · exact hall.out j y (by omega) hy
        have HL1 := Lib.hid L1
        have HL2 := Lib.hid L2
        have HS := Lib.hid hstep
        clear hcell hra hxm hx hav L1 L2 hstep hbn hbt hnm htg hnl
        go_wp2_with fail
        refine (HL1.out _).mono ?_
        rintro e w1 ⟨rfl, hw1⟩
        subst w1
        cases bn with
        | true =>
          go_wp2_with fail
          go_ret
          exact ⟨HNo.out, rfl⟩
        | false =>
          go_wp2_with fail
          refine (HL2.out _).mono ?_
          rintro e w1 ⟨rfl, hw1⟩
          subst w1
          cases bt with
          | true =>
            go_wp2_with fail
            go_ret
            exact ⟨HNo.out, rfl⟩
          | false =>
            by_cases h12 : nl ≤ 12
            · have h2 : ¬ ((12 : Int) < nl) := by omega
              go_wp2_with fail
              exact ⟨⟨i + 1, by omega, by go_num, Lib.hid (HS.out (by first | rfl | trivial) (by first | rfl | trivial) h12), by first | rfl | trivial⟩, by simp [intOf]; omega⟩
            · have h2 : (12 : Int) < nl := by omega
              go_wp2_with fail
              go_ret
              exact ⟨HNo.out, rfl⟩
      · obtain rfl : i = n := by omega
        have hok : ShortOk l := ⟨by rw [← Hn.out]; exact h65, fun x hx => by
          obtain ⟨j, hj⟩ := List.getElem?_of_mem hx
          exact hall.out j x (by have := (List.getElem?_eq_some_iff.1 hj).1; rw [Hn.out]; exact this) hj⟩
        have HYes : Hid (ShortTold l (.returned (.bool true))) := Lib.hid ⟨true, rfl, fun _ => hok⟩
        clear hok
        go_wp2_with fail
        go_ret
        exact ⟨HYes.out, rfl⟩
  · have h1 : (65 : Int) < n := by omega
    go_enter Tryd.func26, Tryd.ntmps26
    go_wp2_with fail
    go_ret
    exact ⟨HNo.out, rfl⟩
theorem sameFound_any (va vb : Value) (l : List FoundV) (w : World) (X : RowsK w va 2 encF l) (Y : RowsK w vb 2 encF l) (hl : l.length ≤ 1000000) : Calls Tryd.prog 32 #[va, vb] w fun e w' => e = .returned (.bool true) ∧ ∃ q, w' = w.drewN q := by
  obtain ⟨pa, ca, rfl⟩ := X.len
  obtain ⟨pb, cb, rfl⟩ := Y.len
  obtain ⟨n, hn⟩ : ∃ n, n = l.length := ⟨_, rfl⟩
  rw [← hn] at X Y hl ⊢
  have Hn := Lib.hid hn
  have HX := Lib.hid X
  have HY := Lib.hid Y
  clear hn X Y
  go_enter Tryd.func32, Tryd.ntmps32
  go_wp2_with fail
  go_loopw [5] (fun iv wr => ∃ i : Nat, i ≤ n ∧ iv = .int .i64 i ∧ ∃ q, wr = w.drewN q) (fun iv _ => n - (intOf iv).toNat)
  case atStart => exact ⟨0, by omega, rfl, 0, rfl⟩
  case round =>
    obtain ⟨i, hi, rfl, q, rfl⟩ := hrel
    by_cases hlt : i < n
    · have i1 : (i : Int) < n := by omega
      obtain ⟨bA, oA, rfl, -, hbA, hcA⟩ := HX.out.at (by have := Hn.out; omega)
      obtain ⟨bB, oB, rfl, -, hbB, hcB⟩ := HY.out.at (by have := Hn.out; omega)
      obtain ⟨x, hx⟩ : ∃ x, l[i]? = some x := ⟨_, List.getElem?_eq_getElem (by have := Hn.out; omega)⟩
      have hA := hcA i x hx
      have hB := hcB i x hx
      have heq := fun w => eq_found x x w
      rw [show decide (x = x) = true by simp] at heq
      obtain ⟨xn, xd⟩ := x
      have a0 : w.cell? ⟨bA, oA + i * 2, none⟩ = some (.string xn) := hA 0 _ rfl
      have a1 : w.cell? ⟨bA, oA + i * 2 + 1, none⟩ = some (.int .i64 xd) := hA 1 _ rfl
      have b0 : w.cell? ⟨bB, oB + i * 2, none⟩ = some (.string xn) := hB 0 _ rfl
      have b1 : w.cell? ⟨bB, oB + i * 2 + 1, none⟩ = some (.int .i64 xd) := hB 1 _ rfl
      have heq' : ∀ w, (Op.equalIn 10000 43 (.agg #[.string xn, .int .i64 xd]) (.agg #[.string xn, .int .i64 xd])).run Tryd.prog w = .ok true w := heq
      have hgt : Tryd.prog.eqGuardType Tryd.prog.depth 43 = false := by kernel_rfl
      clear hA hB hcA hcB hx heq
      go_wp2_with fail
      go_quiet (fail)
      go_wp2_with fail
      exact ⟨⟨i + 1, by omega, by go_num, _, rfl⟩, by simp [intOf]; omega⟩
    · obtain rfl : i = n := by omega
      go_wp2_with fail
      go_ret
      exact ⟨rfl, _, rfl⟩
def RightTold (l : List ItemV) (dim : Int) (e : Ending) : Prop := ∃ b : Bool, e = .returned (.bool b) ∧ (b = true → ∀ x ∈ l, ROk x dim)
set_option maxHeartbeats 4000000 in
theorem rightL_any (dim : Int) (v : Value) (l : List ItemV) (w : World) (I : Items w v l) (O : ShortOk l) : Calls Tryd.prog 29 #[.int .i64 dim, v] w fun e w' => RightTold l dim e ∧ Keep NoB w w' := by
  have HNo : Hid (RightTold l dim (.returned (.bool false))) := Lib.hid ⟨false, rfl, fun h => by cases h⟩
  obtain ⟨p, c, rfl⟩ := I.rows.len
  obtain ⟨n, hn⟩ : ∃ n, n = l.length := ⟨_, rfl⟩
  have hn65 : n ≤ 65 := by have := O.len; omega
  rw [← hn] at I ⊢
  have Hn := Lib.hid hn
  have HI := Lib.hid I
  have HO := Lib.hid O
  clear hn I O
  go_enter Tryd.func29, Tryd.ntmps29
  go_wp2_with fail
  go_loopw [5] (fun iv wr => ∃ i : Nat, i ≤ n ∧ iv = .int .i64 i ∧ Hid (∀ j x, j < i → l[j]? = some x → ROk x dim) ∧ Keep NoB w wr) (fun iv _ => n - (intOf iv).toNat)
  case atStart => exact ⟨0, by omega, rfl, Lib.hid (fun j x h => by omega), Keep.refl _ _⟩
  case round =>
    obtain ⟨i, hi, rfl, hall, K⟩ := hrel
    obtain ⟨wo, rfl⟩ : ∃ wo, wo = wr := ⟨_, rfl⟩
    by_cases hlt : i < n
    · have i1 : (i : Int) < n := by omega
      have Ir := HI.out.rows.keep K (fun _ _ x => x)
      obtain ⟨b, off, rfl, -, hb, hcell⟩ := Ir.at (by have := Hn.out; omega)
      obtain ⟨x, hx⟩ : ∃ x, l[i]? = some x := ⟨_, List.getElem?_eq_getElem (by have := Hn.out; omega)⟩
      have hra := hcell i x hx
      have hxm : x ∈ l := List.mem_of_getElem? hx
      have Nx := (HI.out.nums x hxm).keep K (fun _ _ x => x)
      have hxs := HO.out.each x hxm
      have hri := rightR_any x dim wo Nx (by omega) (by omega) (by omega)
      have c0 : wo.cell? ⟨b, off + i * 3, none⟩ = some (.string x.name) := hra 0 _ rfl
      have c1 : wo.cell? ⟨b, off + i * 3 + 1, none⟩ = some (.string x.tag) := hra 1 _ rfl
      have c2 : wo.cell? ⟨b, off + i * 3 + 2, none⟩ = some x.av := hra 2 _ rfl
      have henc : (encItem x).toArray = #[.string x.name, .string x.tag, x.av] := rfl
      rw [henc] at hri
      obtain ⟨nm, hnm⟩ : ∃ nm, nm = x.name := ⟨_, rfl⟩
      obtain ⟨tg, htg⟩ : ∃ tg, tg = x.tag := ⟨_, rfl⟩
      obtain ⟨av, hav⟩ : ∃ av, av = x.av := ⟨_, rfl⟩
      rw [← hnm, ← htg, ← hav] at hri
      rw [← hnm] at c0
      rw [← htg] at c1
      rw [← hav] at c2
      have Hri := Lib.hid hri
      have Hx := Lib.hid hx
      have hrow : ∀ (k : Nat) (W : World), Keep NoB wo W → k < n → ∃ s, W.cell? ⟨b, off + k * 3, none⟩ = some (.string s) := fun k W KW hk => by
        obtain ⟨y, hy⟩ : ∃ y, l[k]? = some y := ⟨_, List.getElem?_eq_getElem (by have := Hn.out; omega)⟩
        exact ⟨y.name, (KW.cell (p := ⟨b, off + k * 3, none⟩) hb (fun x => x)).trans (hcell k y hy 0 _ rfl)⟩
      have Hrow := Lib.hid hrow
      clear hcell hra hxm hx hri henc hnm htg hav hxs Nx Ir hrow
      go_wp2_with fail
      refine Hri.out.mono ?_
      rintro e w1 ⟨⟨b1, rfl, hb1⟩, K1⟩
      have HB1 := Lib.hid hb1
      clear hb1
      cases b1 with
      | false =>
        go_wp2_with fail
        go_ret
        exact ⟨HNo.out, K.thenN K1⟩
      | true =>
        go_wp2_with fail
        go_loopw [6] (fun kv wx => ∃ k : Nat, k ≤ i ∧ kv = .int .i64 k ∧ Keep NoB wo wx) (fun kv _ => i - (intOf kv).toNat)
        case atStart => exact ⟨0, by omega, rfl, K1⟩
        case round =>
          obtain ⟨k, hk, rfl, Kx⟩ := hrel
          by_cases hki : k < i
          · have k1 : (k : Int) < i := by omega
            have k2 : (k : Int) < n := by omega
            obtain ⟨s1, hs1⟩ := Hrow.out k wr Kx (by omega)
            obtain ⟨s2, hs2⟩ := Hrow.out i wr Kx hlt
            obtain ⟨B, hB⟩ : ∃ B, B = (s1.toList == s2.toList) := ⟨_, rfl⟩
            have hB' := hB.symm
            clear hB
            cases B with
            | true =>
              go_wp2_with fail
              go_quiet (fail)
              go_wp2_with fail
              go_ret
              exact ⟨HNo.out, K.thenN (Kx.drewN _)⟩
            | false =>
              go_wp2_with fail
              go_quiet (fail)
              go_wp2_with fail
              exact ⟨⟨k + 1, by omega, by go_num, Kx.drewN _⟩, by simp [intOf]; omega⟩
          · obtain rfl : k = i := by omega
            go_wp2_with fail
            refine ⟨⟨k + 1, by omega, by go_num, Lib.hid (fun j y hj hy => ?_), K.thenN Kx⟩, by simp [intOf]; omega⟩
            by_cases e : j = k
            · subst e
              rw [Hx.out] at hy
              obtain rfl := Option.some.inj hy
              exact HB1.out (by first | rfl | trivial)
            · exact hall.out j y (by omega) hy
    · obtain rfl : i = n := by omega
      have HYes : Hid (RightTold l dim (.returned (.bool true))) := Lib.hid ⟨true, rfl, fun _ x hx => by
        obtain ⟨j, hj⟩ := List.getElem?_of_mem hx
        exact hall.out j x (by have := (List.getElem?_eq_some_iff.1 hj).1; rw [Hn.out]; exact this) hj⟩
      go_wp2_with fail
      go_ret
      exact ⟨HYes.out, K⟩
end Go.Proofs.YtcjilojkhmondaaDoor
