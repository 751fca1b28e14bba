/-
  DERIVED. The reference's SuperWrite.
-/
import Derived.Test.YtndcaaikjcicgaaDoorSup
import Derived.Test.YtndcaaikjcicgaaDoorMapB
set_option linter.unusedVariables false
set_option linter.unusedSimpArgs false
namespace Go.Proofs.YtndcaaikjcicgaaDoor
open Go.RowKit Go.Cof
theorem refMark16_any (s : ByteArray) (w : World) : Calls Tryd.prog 78 #[.string s] w fun e w' => e = .returned (.bool (decide (s.size = 16))) ∧ w' = w := by
  go_enter Tryd.func78, Tryd.ntmps78
  go_wp2
  go_ret
  refine ⟨congrArg (fun b => Ending.returned (.bool b)) ?_, rfl⟩
  rw [Bool.eq_iff_iff]
  simp
  omega
set_option maxRecDepth 100000 in
set_option maxHeartbeats 8000000 in
theorem refSupWrite_yes (RB : Nat) (key : ByteArray) (x : SupV) (hx : x.sides.length = 32) (hk : key.size = 32) (ho : supOk x = true) (w : World) (RR : RefR w RB) :
    Calls Tryd.prog 62 #[.pointer (some ⟨RB, 0, none⟩), .string key, supVal x] w fun e w' => e = .returned (.tuple #[.string (txt (supT key x)), .int .i64 0]) ∧ Keep NoB w w' := by
  obtain ⟨⟨⟨⟨o1, o2⟩, o3⟩, o4⟩, o5⟩ : (((1 ≤ x.count ∧ x.count ≤ 1099511627776) ∧ 1 ≤ x.epoch) ∧ x.epoch ≤ 1099511627776) ∧ x.root.size = 16 := by simpa [supOk] using ho
  have hi1 := fun w => in_yes x.count 1 1099511627776 o1 o2 w
  have hi2 := fun w => in_yes x.epoch 1 1099511627776 o3 o4 w
  have hi3 := fun w => refMark16_any x.root w
  rw [decide_eq_true o5] at hi3
  obtain ⟨cs, hcs⟩ : ∃ cs, cs = (supCells x).toArray := ⟨_, rfl⟩
  have h0 : cs[0]? = some (.int .i64 x.count) := by rw [hcs]; rfl
  have h1 : cs[1]? = some (.int .i64 x.epoch) := by rw [hcs]; rfl
  have h34 : cs[34]? = some (.string x.root) := by
    rw [hcs, List.getElem?_toArray, supCells, List.getElem?_append_right (by simp [hx])]
    simp [hx]
  have hsd : ∀ i, i < 32 → cs[2 + i]? = some (.bool (x.sides.getD i false)) := by
    intro i hi
    rw [hcs, List.getElem?_toArray, supCells, List.append_assoc, List.getElem?_append_right (by simp), List.getElem?_append_left (by simp [hx, hi])]
    simp [hx, hi]
  have hv : supVal x = .agg cs := by rw [hcs]; rfl
  rw [hv]
  have j0 : ((key.size : Nat) : Int) = 32 := by omega
  have Hsd := Lib.hid hsd
  have Ho := Lib.hid (And.intro o5 (And.intro o2 o4))
  have Hi1 := Lib.hid hi1
  have Hi2 := Lib.hid hi2
  have Hi3 := Lib.hid hi3
  have On := Lib.hid (And.intro o1 o3)
  clear hv hcs hsd hi1 hi2 hi3 o1 o2 o3 o4 o5 ho
  go_enter Tryd.func62, Tryd.ntmps62
  go_wp2_with fail
  refine (Hi1.out _).mono ?_
  rintro e w2 ⟨rfl, hw2⟩
  subst w2
  go_wp2_with fail
  refine (Hi2.out _).mono ?_
  rintro e w2 ⟨rfl, hw2⟩
  subst w2
  go_wp2_with fail
  refine (Hi3.out _).mono ?_
  rintro e w2 ⟨rfl, hw2⟩
  subst w2
  have hK2 : Keep NoB w (w.alloc (.cells cs 88)) := (Keep.refl NoB w).alloc _
  obtain ⟨w2, hw2e⟩ : ∃ w2, w2 = w.alloc (.cells cs 88) := ⟨_, rfl⟩
  rw [← hw2e] at hK2 ⊢
  have hX : w2.heap[w.heap.size]? = some (.cells cs 88 (0, 0)) := by rw [hw2e]; exact heap_alloc_new w _
  clear hw2e
  go_wp2_with fail
  have hXl := lt_of_heap hX
  obtain ⟨X, hXe⟩ : ∃ X, X = w.heap.size := ⟨_, rfl⟩
  rw [← hXe] at hX hXl ⊢
  obtain ⟨o5, o2, o4⟩ := Ho.out
  obtain ⟨o1, o3⟩ := On.out
  clear Ho On Hi1 Hi2 Hi3
  obtain ⟨nc, hnc⟩ : ∃ n : Nat, x.count = n := ⟨x.count.toNat, by omega⟩
  obtain ⟨ne, hne⟩ : ∃ n : Nat, x.epoch = n := ⟨x.epoch.toNat, by omega⟩
  have c0 : w2.cell? ⟨X, 0, none⟩ = some (.int .i64 nc) := by rw [cell_of_row w2 X 0 cs _ (0, 0) hX, h0, hnc]
  have c1 : w2.cell? ⟨X, 1, none⟩ = some (.int .i64 ne) := by rw [cell_of_row w2 X 1 cs _ (0, 0) hX, h1, hne]
  have hnm : ∀ (n : Nat), n < 9223372036854775808 → ∀ Y : Ext w2, Calls Tryd.prog 18 #[.int .i64 n] (w2.ext Y) fun e w' => e = .returned (.string (txt (be64 n))) ∧ Keep NoB (w2.ext Y) w' := fun n hn Y => by have := refNum_int n (w2.ext Y); rwa [u64n_nat n (by omega)] at this
  have hn1 := hnm nc (by omega)
  have hn2 := hnm ne (by omega)
  obtain ⟨A, hA⟩ : ∃ A, A = txt (be64 nc) := ⟨_, rfl⟩
  obtain ⟨B, hB⟩ : ∃ B, B = txt (be64 ne) := ⟨_, rfl⟩
  have hAs : A.size = 8 := by rw [hA, txt_size, be64, be64To_len]
  have hBs : B.size = 8 := by rw [hB, txt_size, be64, be64To_len]
  rw [← hA] at hn1
  rw [← hB] at hn2
  have hc1 : ¬ (9223372036854775807 < (⟨#[99, 102]⟩ : ByteArray).size + A.size) := by show ¬ (9223372036854775807 < 2 + A.size); omega
  have HA := Lib.hid hA
  have HB := Lib.hid hB
  clear hnm hXe h0 h1 hA hB
  have HX := Lib.hid hX
  have Ho := Lib.hid (And.intro hnc (And.intro hne (And.intro o5 (And.intro (show nc ≤ 1099511627776 by omega) (show ne ≤ 1099511627776 by omega)))))
  clear hX o1 o2 o3 o4
  refine wp_region_q_ext (by kernel_rfl) (by kernel_rfl) ?_
  quiet_step (fail)
  quiet_step (fail)
  quiet_step ((go_at_call 18; exact quiet_ext _ (hn1 _)))
  quiet_step (fail)
  obtain ⟨C, hC⟩ : ∃ C, C = (⟨#[99, 102]⟩ : ByteArray) ++ A := ⟨_, rfl⟩
  have hCs : C.size = 10 := by rw [hC, ByteArray.size_append, hAs]; rfl
  rw [← hC]
  have hc2 : ¬ (9223372036854775807 < C.size + B.size) := by omega
  have HC := Lib.hid hC
  clear hC hc1
  quiet_step (fail)
  quiet_step (fail)
  quiet_step ((go_at_call 18; exact quiet_ext _ (hn2 _)))
  quiet_step (fail)
  obtain ⟨S0, hS0⟩ : ∃ S, S = C ++ B := ⟨_, rfl⟩
  have hS0b : bs S0 = headT x := by
    rw [hS0, HC.out, bs_append, bs_append, HA.out, HB.out, bs_txt (be64_bytes _), bs_txt (be64_bytes _), headT, Ho.out.1, Ho.out.2.1, u64n_nat nc (by have := Ho.out.2.2.2.1; omega), u64n_nat ne (by have := Ho.out.2.2.2.2; omega)]
    rfl
  rw [← hS0]
  have HS0 := Lib.hid hS0b
  clear hS0 hS0b hc2 hn1 hn2 hAs hBs hCs
  quiet_step (fail)
  refine wpQuiet_nil ?_
  intro Y
  have hW := hK2.thenN (ext_keep w2 Y)
  have hXW := (ext_keep w2 Y).heap HX.out (fun x => x)
  obtain ⟨W3, hW3⟩ : ∃ W, W = w2.ext Y := ⟨_, rfl⟩
  rw [← hW3] at hW hXW ⊢
  clear hW3 Y
  have hra : W3.rangeAt X 2 (x.sides.map Value.bool) := by
    intro j v hj
    have hjl : j < 32 := by
      have := (List.getElem?_eq_some_iff.1 hj).1
      rwa [List.length_map, hx] at this
    rw [cell_of_row W3 X (2 + j) cs _ (0, 0) hXW, Hsd.out j hjl, ← hj, List.getElem?_map, List.getD_eq_getElem?_getD, List.getElem?_eq_getElem (by omega)]
    rfl
  have hin2 : (Tryd.prog.info? 86).map (·.size) = some (x.sides.map Value.bool).length := by rw [List.length_map, hx]; kernel_rfl
  have hib : (Tryd.prog.info? 4).map (·.size) = some 1 := by kernel_rfl
  have hidx := fun (i : Nat) (hi : i < 32) (w : World) => run_index_bools (P := Tryd.prog) Tryd.underlying86 Tryd.underlying4 rfl hib x.sides i hx hi w
  have c34 : W3.cell? ⟨X, 34, none⟩ = some (.string x.root) := by rw [cell_of_row W3 X 34 cs _ (0, 0) hXW, h34]
  have Hidx := Lib.hid hidx
  clear hidx HX h34 c0 c1 hXl hib
  go_wp2_with (refine wpList_load_mid rfl 86 (.tmp 40) rfl X 2 rfl (x.sides.map Value.bool) _ hra Tryd.underlying86 rfl hin2 ?_)
  clear hra hin2
  have c34x := hW
  go_loopw [8, 10, 42] (fun sv _ iv wr => ∃ (k : Nat) (Sx : ByteArray), k ≤ 32 ∧ iv = .int .i64 k ∧ sv = .string Sx ∧ Hid (bs Sx = headT x ++ sideT (x.sides.take k)) ∧ Keep NoB W3 wr) (fun _ _ iv _ => 32 - (intOf iv).toNat)
  case atStart => exact ⟨0, S0, by omega, rfl, rfl, Lib.hid (by rw [HS0.out]; simp [sideT]), Keep.refl _ _⟩
  case round =>
    obtain ⟨k, Sx, hk1, rfl, rfl, hSx, KW⟩ := hrel
    have hSxl : Sx.size ≤ 100 := by
      have := congrArg List.length hSx.out
      rw [bs_len, List.length_append, headT, sideT, List.length_map, List.length_take, List.length_append, List.length_append, be64, be64To_len, be64, be64To_len] at this
      simp at this
      omega
    by_cases hlt : k < 32
    · have j1 : (k : Int) < 32 := by omega
      have hix := Hidx.out k hlt
      have hst : sideT (x.sides.take (k + 1)) = sideT (x.sides.take k) ++ [if x.sides.getD k false then 49 else 48] := by
        rw [List.take_succ_eq_append_getElem (by omega), sideT, List.map_append, List.getD_eq_getElem?_getD, List.getElem?_eq_getElem (by omega)]
        rfl
      have Hst := Lib.hid hst
      clear hst
      obtain ⟨M2, M3, p1, p2, p3, p4, KM⟩ := map_lit (P := Tryd.prog) 147 4 9 Tryd.underlying147 Tryd.underlying4 (.string ⟨#[49]⟩) (.string ⟨#[48]⟩) wr
      have hmm : (Instr.makeMap 147 none).run Tryd.prog wr = .ok (.map (some wr.heap.size)) (wr.alloc (.map #[] 0)) := run_makeMap_plain wr _
      cases hb : x.sides.getD k false with
      | true =>
        rw [hb] at hix Hst
        have hcat : ¬ (9223372036854775807 < Sx.size + (⟨#[49]⟩ : ByteArray).size) := by show ¬ (9223372036854775807 < Sx.size + 1); omega
        clear hb
        go_wp2_with fail
        exact ⟨⟨k + 1, _, by omega, by go_num, rfl, Lib.hid (by rw [bs_append, hSx.out, Hst.out, List.append_assoc]; rfl), KW.thenN KM⟩, by simp [intOf]; omega⟩
      | false =>
        rw [hb] at hix Hst
        have hcat : ¬ (9223372036854775807 < Sx.size + (⟨#[48]⟩ : ByteArray).size) := by show ¬ (9223372036854775807 < Sx.size + 1); omega
        clear hb
        go_wp2_with fail
        exact ⟨⟨k + 1, _, by omega, by go_num, rfl, Lib.hid (by rw [bs_append, hSx.out, Hst.out, List.append_assoc]; rfl), KW.thenN KM⟩, by simp [intOf]; omega⟩
    · obtain rfl : k = 32 := by omega
      have hcat : ¬ (9223372036854775807 < Sx.size + x.root.size) := by have := Ho.out.2.2.1; omega
      have c34b := (KW.cell (p := ⟨X, 34, none⟩) (lt_of_heap hXW) (fun x => x)).trans c34
      go_wp2_with fail
      obtain ⟨Z, hZ⟩ : ∃ Z, Z = Sx ++ x.root := ⟨_, rfl⟩
      have hZb : bs Z = bodyT x := by
        rw [hZ, bs_append, hSx.out, List.take_of_length_le (by omega)]
        rfl
      have hZs : Z.size ≤ 200 := by rw [hZ, ByteArray.size_append]; have := Ho.out.2.2.1; omega
      rw [← hZ]
      have hml : (markText 122 ([key, Z].map bs)).length ≤ 100000 := by
        simp [markText, be64, be64To_len, bs_len]
        omega
      have hWr := hW.thenN KW
      clear hZ hcat
      refine (refMark_any RB 122 (by decide) _ [key, Z] _ (RR.keep (hWr.alloc _) (fun x => x)) (Strs.lit (w := wr) [key, Z]) hml (by simp)).mono ?_
      rintro e w4 ⟨rfl, K4⟩
      obtain ⟨R, hR⟩ : ∃ R, R = txt (Cof.mark 122 ([key, Z].map bs)) := ⟨_, rfl⟩
      have hRs : R.size ≤ 200 := by rw [hR, txt_size, Cof.mark, List.length_take, sha_len]; omega
      have hfin : Z ++ R = txt (supT key x) := by
        apply bs_inj
        have hb2 : Bytes (Cof.mark 122 [bs key, bodyT x]) := mark_bytes _ _
        have hb3 : Bytes (bodyT x) := by rw [← hZb]; exact bs_bytes Z
        rw [bs_append, hR, List.map_cons, List.map_cons, List.map_nil, hZb, bs_txt hb2, supT, bs_txt (bytes_append hb3 hb2)]
      rw [← hR]
      have hcat : ¬ (9223372036854775807 < Z.size + R.size) := by omega
      have Hfin := Lib.hid hfin
      have hKf := (hWr.alloc (.cells #[.string key, .string Z] 9)).thenN K4
      clear hR hfin hml
      go_wp2_with fail
      rw [← Hfin.out]
      exact bodyPost_ret (v := .tuple #[.string (Z ++ R), .int .i64 0]) (by simp [results, Tryd.results62, go_sem]) rfl ⟨rfl, hKf⟩
set_option maxRecDepth 100000 in
set_option maxHeartbeats 2000000 in
theorem refSupWrite_no (RB : Nat) (key : ByteArray) (x : SupV) (hx : x.sides.length = 32) (h : supMay key x = false) (w : World) :
    Calls Tryd.prog 62 #[.pointer (some ⟨RB, 0, none⟩), .string key, supVal x] w fun e w' => e = .returned (.tuple #[.string ⟨#[]⟩, .int .i64 1]) ∧ Keep NoB w w' := by
  obtain ⟨cs, hcs⟩ : ∃ cs, cs = (supCells x).toArray := ⟨_, rfl⟩
  have h0 : cs[0]? = some (.int .i64 x.count) := by rw [hcs]; rfl
  have h1 : cs[1]? = some (.int .i64 x.epoch) := by rw [hcs]; rfl
  have h34 : cs[34]? = some (.string x.root) := by
    rw [hcs, List.getElem?_toArray, supCells, List.getElem?_append_right (by simp [hx])]
    simp [hx]
  have hv : supVal x = .agg cs := by rw [hcs]; rfl
  rw [hv]
  clear hcs hv
  by_cases hk : key.size = 32
  · have j0 : ((key.size : Nat) : Int) = 32 := by omega
    by_cases hc : 1 ≤ x.count ∧ x.count ≤ 1099511627776
    · have Hi1 := Lib.hid (fun w => in_yes x.count 1 1099511627776 hc.1 hc.2 w)
      by_cases he : 1 ≤ x.epoch ∧ x.epoch ≤ 1099511627776
      · have Hi2 := Lib.hid (fun w => in_yes x.epoch 1 1099511627776 he.1 he.2 w)
        have hr : ¬ x.root.size = 16 := by
          intro hr
          rw [supMay, supOk, decide_eq_true hk, decide_eq_true hc.1, decide_eq_true hc.2, decide_eq_true he.1, decide_eq_true he.2, decide_eq_true hr] at h
          cases h
        have hi3 := fun w => refMark16_any x.root w
        rw [decide_eq_false hr] at hi3
        have Hi3 := Lib.hid hi3
        clear h hk hc he hr hi3
        go_enter Tryd.func62, Tryd.ntmps62
        go_wp2_with fail
        refine (Hi1.out _).mono ?_
        rintro e w2 ⟨rfl, hw2⟩
        subst w2
        go_wp2_with fail
        refine (Hi2.out _).mono ?_
        rintro e w2 ⟨rfl, hw2⟩
        subst w2
        go_wp2_with fail
        refine (Hi3.out _).mono ?_
        rintro e w2 ⟨rfl, hw2⟩
        subst w2
        go_wp2_with fail
        exact bodyPost_ret (v := .tuple #[.string ⟨#[]⟩, .int .i64 1]) (by simp [results, Tryd.results62, go_sem]) rfl ⟨rfl, (Keep.refl NoB w).alloc _⟩
      · have Hi2 := Lib.hid (fun w => in_no x.epoch 1 1099511627776 he w)
        clear h hk hc he
        go_enter Tryd.func62, Tryd.ntmps62
        go_wp2_with fail
        refine (Hi1.out _).mono ?_
        rintro e w2 ⟨rfl, hw2⟩
        subst w2
        go_wp2_with fail
        refine (Hi2.out _).mono ?_
        rintro e w2 ⟨rfl, hw2⟩
        subst w2
        go_wp2_with fail
        exact bodyPost_ret (v := .tuple #[.string ⟨#[]⟩, .int .i64 1]) (by simp [results, Tryd.results62, go_sem]) rfl ⟨rfl, (Keep.refl NoB w).alloc _⟩
    · have Hi1 := Lib.hid (fun w => in_no x.count 1 1099511627776 hc w)
      clear h hk hc
      go_enter Tryd.func62, Tryd.ntmps62
      go_wp2_with fail
      refine (Hi1.out _).mono ?_
      rintro e w2 ⟨rfl, hw2⟩
      subst w2
      go_wp2_with fail
      exact bodyPost_ret (v := .tuple #[.string ⟨#[]⟩, .int .i64 1]) (by simp [results, Tryd.results62, go_sem]) rfl ⟨rfl, (Keep.refl NoB w).alloc _⟩
  · have j0 : ¬ ((key.size : Nat) : Int) = 32 := by omega
    clear h hk
    go_enter Tryd.func62, Tryd.ntmps62
    go_wp2_with fail
    exact bodyPost_ret (v := .tuple #[.string ⟨#[]⟩, .int .i64 1]) (by simp [results, Tryd.results62, go_sem]) rfl ⟨rfl, (Keep.refl NoB w).alloc _⟩
theorem refSupWrite_any (RB : Nat) (key : ByteArray) (x : SupV) (hx : x.sides.length = 32) (w : World) (RR : RefR w RB) :
    Calls Tryd.prog 62 #[.pointer (some ⟨RB, 0, none⟩), .string key, supVal x] w fun e w' => e = .returned (.tuple #[.string (supW key x), .int .i64 (supE key x)]) ∧ Keep NoB w w' := by
  cases h : supMay key x with
  | false =>
    rw [supW, supE, h]
    exact refSupWrite_no RB key x hx h w
  | true =>
    rw [supW, supE, h]
    have h2 := h
    simp only [supMay, Bool.and_eq_true, decide_eq_true_eq] at h2
    exact refSupWrite_yes RB key x hx h2.1 h2.2 w RR
end Go.Proofs.YtndcaaikjcicgaaDoor
