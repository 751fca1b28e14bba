/-
  DERIVED. The walks of the program's tree: right, Root, Path, Verify.
-/
import Derived.Test.YtndcaaikjcicgaaDoorTreeUp
import Derived.Test.YtndcaaikjcicgaaDoorTreeR
import Derived.Test.YtndcaaikjcicgaaDoorTell
set_option linter.unusedVariables false
set_option linter.unusedSimpArgs false
namespace Go.Proofs.YtndcaaikjcicgaaDoor
open Go.RowKit Go.Cof
theorem right1_any (s : ByteArray) (w : World) : Calls Tryd.prog 113 #[.string s] w fun e w' => e = .returned (.bool (decide (s.size ≠ 16))) ∧ w' = w := by
  go_enter Tryd.func113, Tryd.ntmps113
  go_wp2
  go_ret
  refine ⟨congrArg (fun b => Ending.returned (.bool b)) ?_, rfl⟩
  rw [Bool.eq_iff_iff]
  simp
  omega
set_option maxRecDepth 100000 in
theorem right_any (v : Value) (l : List ByteArray) (w : World) (T : Strs w v l) (hl : l.length ≤ 1000000) (m : Nat) (hm : m ≤ 1000) :
    Calls Tryd.prog 74 #[v, .int .i64 m] w fun e w' => e = .returned (.bool (rightB l m)) ∧ w' = w := by
  have hc := containsFunc_any 113 _ right1_any (enters_of Tryd.func113 (by kernel_rfl) rfl) v l w T hl
  have hr : rightB l m = (decide (l.length = m) && !l.any fun s => decide (s.size ≠ 16)) := by
    rw [Bool.eq_iff_iff, rightB_true]
    simp
  rw [hr]
  generalize (l.any fun s => decide (s.size ≠ 16)) = b at hc ⊢
  obtain ⟨p, c, rfl⟩ := T.len
  by_cases hlm : l.length = m
  · rw [decide_eq_true hlm, Bool.true_and]
    have j1 : ((l.length : Nat) : Int) = m := by omega
    subst hlm
    clear hr T
    go_enter Tryd.func74, Tryd.ntmps74
    go_wp2_with (go_at_call 79; refine hc.mono ?_; rintro e w2 ⟨rfl, hw2⟩; subst w2)
    go_ret
    first | exact ⟨rfl, rfl⟩ | exact ⟨congrArg (fun b => Ending.returned (.bool b)) (by simp), rfl⟩
  · rw [decide_eq_false hlm, Bool.false_and]
    have j1 : ¬ ((l.length : Nat) : Int) = m := by omega
    clear hr T hc
    go_enter Tryd.func74, Tryd.ntmps74
    go_wp2_with fail
    go_ret
    exact ⟨rfl, rfl⟩
set_option maxRecDepth 100000 in
set_option maxHeartbeats 4000000 in
theorem treeRoot_any (p : Option Addr) (len cap : Nat) (l : List ByteArray) (w : World) (V : RoundsVar w) (T : Strs w (.slice p len cap) l) (hcap : len ≤ cap) (hl : l.length ≤ 1000000) :
    Calls Tryd.prog 26 #[.slice p len cap] w fun e w' => e = .returned (.tuple #[.string (rootV l), errVal (rootE l)]) ∧ Keep NoB w w' := by
  have hmk := right_any _ l w T hl 32 (by omega)
  by_cases hr : rightB l 32 = true
  · obtain ⟨h32, hall⟩ := rightB_true.1 hr
    rw [hr] at hmk
    rw [rootV, rootE, if_pos hr, if_pos hr]
    have hlen : len = 32 := by
      obtain ⟨p', c', hv⟩ := T.len
      cases hv
      exact h32
    subst hlen
    have Hall := Lib.hid hall
    have Hl := Lib.hid h32
    clear hr hall h32 hl
    go_enter Tryd.func26, Tryd.ntmps26
    go_wp2_with (go_at_call 74; refine hmk.mono ?_; rintro e w2 ⟨rfl, hw2⟩; subst w2)
    clear hmk
    go_loopw [0] (fun v wr => ∃ (i n : Nat) (q : Option Addr) (c : Nat), i ≤ 5 ∧ n = 2 ^ (5 - i) ∧ n ≤ c ∧ v = .slice q n c ∧ Strs wr v (ups i l) ∧ Keep NoB w wr) (fun v _ => match v with | .slice _ n _ => n | _ => 0)
    case atStart => exact ⟨0, 32, p, cap, by omega, by decide, hcap, rfl, T, Keep.refl _ _⟩
    case round =>
      obtain ⟨i, n, q, c, hi, hn, hnc, rfl, T2, K⟩ := hrel
      have hul : (ups i l).length = n := by
        obtain ⟨p', c', hv⟩ := T2.len
        cases hv
        rfl
      by_cases h5 : i < 5
      · obtain ⟨m, hm⟩ : ∃ m, m = 2 ^ (5 - (i + 1)) := ⟨_, rfl⟩
        have hnm : n = 2 * m := by rw [hn, hm, show 5 - i = (5 - (i + 1)) + 1 by omega, Nat.pow_succ, Nat.mul_comm]
        have hpos : 0 < m := by rw [hm]; exact Nat.pow_pos (by omega)
        have hn32 : n ≤ 32 := by
          rw [hn]
          have : i = 0 ∨ i = 1 ∨ i = 2 ∨ i = 3 ∨ i = 4 := by omega
          rcases this with rfl | rfl | rfl | rfl | rfl <;> decide
        have hup := up_any q n c (ups i l) wr (V.keep K (fun x => x)) T2 hnc m hpos (by rw [hul]; exact hnm) (by rw [hul]; omega) (ups_all l Hall.out i)
        have j1 : (1 : Int) < n := by omega
        have Hm := Lib.hid hm
        have Hnm := Lib.hid hnm
        clear hm hnm hn hul
        go_wp2_with (go_at_call 75; refine hup.mono ?_; rintro e w3 ⟨g3, c3, rfl, hc3, hg3, T3, K3⟩)
        exact ⟨⟨i + 1, m, _, c3, by omega, Hm.out, hc3, rfl, T3, K.thenN K3⟩, by have := Hnm.out; show m < n; omega⟩
      · obtain rfl : i = 5 := by omega
        obtain rfl : n = 1 := by simpa using hn
        obtain ⟨b2, o2, rfl, -, _, hc2⟩ := T2.at (by omega)
        have h0 := hc2 0 (by omega)
        rw [Nat.add_zero] at h0
        obtain ⟨x, hx⟩ : ∃ x, x = (ups 5 l).getD 0 ⟨#[]⟩ := ⟨_, rfl⟩
        rw [← hx] at h0
        have Hx := Lib.hid hx
        clear hc2 hul hn hx
        go_wp2_with fail
        rw [← Hx.out]
        exact bodyPost_ret (v := .tuple #[.string x, .nilIface]) (by simp [results, Tryd.results26, go_sem]) rfl ⟨rfl, K⟩
  · rw [Bool.eq_false_iff.2 hr] at hmk
    rw [rootV, rootE, if_neg hr, if_neg hr]
    clear hr T V hcap hl
    go_enter Tryd.func26, Tryd.ntmps26
    go_wp2_with (go_at_call 74; refine hmk.mono ?_; rintro e w2 ⟨rfl, hw2⟩; subst w2)
    exact bodyPost_ret (v := .tuple #[.string ⟨#[]⟩, errVal 1]) (by simp [results, Tryd.results26, go_sem, errVal]) rfl ⟨rfl, Keep.refl _ _⟩
theorem xor_beside (k : Nat) (h : k ≤ 31) : bits BinOp.xor IntKind.i64 (k : Int) 1 = ((beside k : Nat) : Int) := by
  have : ∀ k : Fin 32, bits BinOp.xor IntKind.i64 (k.1 : Int) 1 = ((beside k.1 : Nat) : Int) := by decide +kernel
  exact this ⟨k, by omega⟩
set_option maxRecDepth 100000 in
set_option maxHeartbeats 4000000 in
theorem treePath_any (p : Option Addr) (len cap : Nat) (l : List ByteArray) (k : Int) (w : World) (V : RoundsVar w) (T : Strs w (.slice p len cap) l) (hcap : len ≤ cap) (hl : l.length ≤ 1000000) :
    Calls Tryd.prog 29 #[.slice p len cap, .int .i64 k] w fun e w' => ∃ v', e = .returned (.tuple #[v', errVal (pathE l k)]) ∧ Strs w' v' (pathV l k) ∧ Keep NoB w w' := by
  have hmk := right_any _ l w T hl 32 (by omega)
  by_cases hr : rightB l 32 = true
  · by_cases hk : 0 ≤ k ∧ k ≤ 31
    · obtain ⟨h32, hall⟩ := rightB_true.1 hr
      rw [hr] at hmk
      rw [pathE, if_pos hr, if_pos hk, pathV, if_pos ⟨hr, hk.1, hk.2⟩]
      obtain ⟨k0, rfl⟩ : ∃ k0 : Nat, k = (k0 : Int) := ⟨k.toNat, by omega⟩
      have hk0 : k0 ≤ 31 := by omega
      rw [Int.toNat_natCast]
      have hlen : len = 32 := by
        obtain ⟨p', c', hv⟩ := T.len
        cases hv
        exact h32
      subst hlen
      obtain ⟨i0, hi0, hz0, hz1, hz2⟩ := info_parts info_string
      have Hall := Lib.hid hall
      have Hl := Lib.hid h32
      have j0 : ¬ ((k0 : Int) < 0) := by omega
      have j1 : ¬ ((32 : Int) ≤ k0) := by omega
      clear hr hall h32 hl hk
      go_enter Tryd.func29, Tryd.ntmps29
      go_wp2_with (go_at_call 74; refine hmk.mono ?_; rintro e w2 ⟨rfl, hw2⟩; subst w2)
      clear hmk j0 j1
      go_loopw [0, 1, 6] (fun v kv ov wr => ∃ (i n kk : Nat) (q : Option Addr) (c : Nat), i ≤ 5 ∧ n = 2 ^ (5 - i) ∧ n ≤ c ∧ kk = k0 / 2 ^ i ∧ kk < n ∧ v = .slice q n c ∧ kv = .int .i64 kk ∧ Strs wr v (ups i l) ∧ OwnsN wr w.heap.size 9 1 ov i (strCells (pathL l k0 i)) ∧ (∀ b, v.ownBlock = some b → ov.ownBlock ≠ some b) ∧ Keep NoB w wr) (fun v _ _ _ => match v with | .slice _ n _ => n | _ => 0)
      case atStart => exact ⟨0, 32, k0, p, cap, by omega, by decide, hcap, by simp, by omega, rfl, rfl, T, OwnsN.nil _ _ _ _, (fun b _ h => by cases h), Keep.refl _ _⟩
      case round =>
        obtain ⟨i, n, kk, q, c, hi, hn, hnc, hkk, hlt, rfl, rfl, T2, own, hap, K⟩ := hrel
        have hul : (ups i l).length = n := by
          obtain ⟨p', c', hv⟩ := T2.len
          cases hv
          rfl
        by_cases h5 : i < 5
        · obtain ⟨m, hm⟩ : ∃ m, m = 2 ^ (5 - (i + 1)) := ⟨_, rfl⟩
          have hnm : n = 2 * m := by rw [hn, hm, show 5 - i = (5 - (i + 1)) + 1 by omega, Nat.pow_succ, Nat.mul_comm]
          have hpos : 0 < m := by rw [hm]; exact Nat.pow_pos (by omega)
          have hn32 : n ≤ 32 := by
            rw [hn]
            have : i = 0 ∨ i = 1 ∨ i = 2 ∨ i = 3 ∨ i = 4 := by omega
            rcases this with rfl | rfl | rfl | rfl | rfl <;> decide
          have hkn : kk ≤ 31 := by omega
          have hxor := xor_beside kk hkn
          obtain ⟨ob, hob⟩ : ∃ ob, ob = beside kk := ⟨_, rfl⟩
          have hbi := besideI kk
          rw [← hob] at hbi hxor
          have hobn : ob < n := by omega
          have hob1 : (ob : Int) < n := by omega
          obtain ⟨b2, o2, rfl, -, hb2, hc2⟩ := T2.at (by omega)
          obtain ⟨x, hx⟩ : ∃ x, x = (ups i l).getD ob ⟨#[]⟩ := ⟨_, rfl⟩
          have hcx := hc2 ob (by omega)
          rw [← hx] at hcx
          have hpath : pathL l k0 i ++ [x] = pathL l k0 (i + 1) := by rw [pathL_succ, ← hkk, ← hob, hx]
          have hall := ups_all l Hall.out i
          have hup := fun (w5 : World) (K5 : Keep NoB w w5) (T5 : Strs w5 (.slice (some ⟨b2, o2, none⟩) n c) (ups i l)) => up_any (some ⟨b2, o2, none⟩) n c (ups i l) w5 (V.keep K5 (fun x => x)) T5 hnc m hpos (by rw [hul]; exact hnm) (by rw [hul]; omega) hall
          have Hup := Lib.hid hup
          have Hpath := Lib.hid hpath
          have Hm := Lib.hid hm
          have Hnm := Lib.hid hnm
          have Hkk := Lib.hid hkk
          have Hlt := Lib.hid hlt
          have j1 : (1 : Int) < n := by omega
          have hold : ∀ k, u6.ownBlock = some k → w.heap.size ≤ k := fun k hk => (own.lt k hk).1
          have hapb : u6.ownBlock ≠ some b2 := hap b2 rfl
          clear hx hpath hm hnm hkk hlt hn hul hup hc2 hbi hob hall
          go_wp2_with (refine wpList_append_s _ rfl (.tmp 25) (.tmp 31) 22 rfl w.heap.size 9 i0 (.string ⟨#[]⟩) 1 16 Tryd.underlying22 hi0 hz0 hz1 hz2 rfl (by decide) _ i (strCells (pathL l k0 i)) rfl (own.alloc _) ⟨wr.heap.size, 0, none⟩ 1 1 [.string x] rfl rfl (cells_new _ _ _) (by intro u hu; obtain rfl := List.mem_singleton.1 hu; rfl) (by unfold maxLen; omega) (by omega) (by have := K.size; simp; omega) ?_; intro v5 w5 own5 hgrow5 where5)
          have K5x : Keep (fun k => u6.ownBlock = some k) wr w5 := (((Keep.refl NoB wr).mono (S' := fun k => u6.ownBlock = some k) (fun _ _ h => h.elim)).alloc _).grown hgrow5 (fun k hk => .inl hk)
          have T5 := T2.keep K5x (fun b hb h => by obtain rfl : b2 = b := Option.some.inj hb; exact hapb h)
          have K5 : Keep NoB w w5 := K.trans K5x (fun i hi hx => by have := hold i hx; omega)
          have own6 : OwnsN w5 w.heap.size 9 1 v5 (i + 1) (strCells (pathL l k0 (i + 1))) := by
            rw [← Hpath.out, strCells_append]; exact own5
          clear own5 where5 hgrow5 own
          refine (Hup.out w5 K5 T5).mono ?_
          rintro e w6 ⟨g6, c6, rfl, hc6, hg6, T6, K6⟩
          have own7 := own6.keep K6 (fun _ _ x => x)
          have hap7 : ∀ b, (Value.slice (some ⟨g6, 0, none⟩) m c6).ownBlock = some b → v5.ownBlock ≠ some b := fun b hb h => by
            obtain rfl : g6 = b := Option.some.inj hb
            have := (own6.lt g6 h).2
            omega
          go_wp2_with fail
          exact ⟨⟨i + 1, m, kk / 2, _, c6, by omega, Hm.out, hc6, by rw [Hkk.out, Nat.div_div_eq_div_mul, Nat.pow_succ], by have := Hlt.out; have := Hnm.out; omega, rfl, by go_num, T6, own7, hap7, K5.thenN K6⟩, by have := Hnm.out; show m < n; omega⟩
        · obtain rfl : i = 5 := by omega
          have T9 : Strs wr u6 (pathL l k0 5) := strs_ofN (by rw [pathL_len]; exact own)
          obtain rfl : n = 1 := by simpa using hn
          clear hn hkk hul own hap
          go_wp2_with fail
          exact bodyPost_ret (v := .tuple #[u6, .nilIface]) (by simp [results, Tryd.results29, go_sem]) rfl ⟨_, rfl, T9, K⟩
    · rw [hr] at hmk
      rw [pathE, if_pos hr, if_neg hk, pathV, if_neg (fun h => hk ⟨h.2.1, h.2.2⟩)]
      clear hr T V hcap hl
      by_cases hk0 : k < 0
      · clear hk
        go_enter Tryd.func29, Tryd.ntmps29
        go_wp2_with (go_at_call 74; refine hmk.mono ?_; rintro e w2 ⟨rfl, hw2⟩; subst w2)
        exact bodyPost_ret (v := .tuple #[.slice none 0 0, errVal 2]) (by simp [results, Tryd.results29, go_sem, errVal]) rfl ⟨_, rfl, .inl ⟨rfl, _, _, rfl⟩, Keep.refl _ _⟩
      · have j0 : ¬ (k < 0) := hk0
        have j1 : (32 : Int) ≤ k := by omega
        clear hk hk0
        go_enter Tryd.func29, Tryd.ntmps29
        go_wp2_with (go_at_call 74; refine hmk.mono ?_; rintro e w2 ⟨rfl, hw2⟩; subst w2)
        exact bodyPost_ret (v := .tuple #[.slice none 0 0, errVal 2]) (by simp [results, Tryd.results29, go_sem, errVal]) rfl ⟨_, rfl, .inl ⟨rfl, _, _, rfl⟩, Keep.refl _ _⟩
  · rw [Bool.eq_false_iff.2 hr] at hmk
    rw [pathE, if_neg hr, pathV, if_neg (fun h => hr h.1)]
    clear hr T V hcap hl
    go_enter Tryd.func29, Tryd.ntmps29
    go_wp2_with (go_at_call 74; refine hmk.mono ?_; rintro e w2 ⟨rfl, hw2⟩; subst w2)
    exact bodyPost_ret (v := .tuple #[.slice none 0 0, errVal 1]) (by simp [results, Tryd.results29, go_sem, errVal]) rfl ⟨_, rfl, .inl ⟨rfl, _, _, rfl⟩, Keep.refl _ _⟩
theorem and_one (k : Nat) (h : k ≤ 31) : bits BinOp.and IntKind.i64 (k : Int) 1 = ((k % 2 : Nat) : Int) := by
  have : ∀ k : Fin 32, bits BinOp.and IntKind.i64 (k.1 : Int) 1 = ((k.1 % 2 : Nat) : Int) := by decide +kernel
  exact this ⟨k, by omega⟩
set_option maxRecDepth 100000 in
set_option maxHeartbeats 8000000 in
theorem treeVerify_any (root m : ByteArray) (q : Int) (v : Value) (l : List ByteArray) (w : World) (V : RoundsVar w) (T : Strs w v l) (hl : l.length ≤ 1000000) :
    Calls Tryd.prog 31 #[.string root, .string m, .int .i64 q, v] w fun e w' => e = .returned (.bool (verB root m q l)) ∧ Keep NoB w w' := by
  have hmk := right_any v l w T hl 5 (by omega)
  by_cases hm : m.size = 16
  · have j0 : ((m.size : Nat) : Int) = 16 := by omega
    by_cases hq : 0 ≤ q ∧ q ≤ 31
    · have j1 : ¬ (q < 0) := by omega
      have j2 : ¬ ((32 : Int) ≤ q) := by omega
      by_cases hr : rightB l 5 = true
      · rw [hr] at hmk
        rw [verB_yes hm hq hr]
        obtain ⟨k0, rfl⟩ : ∃ k0 : Nat, q = (k0 : Int) := ⟨q.toNat, by omega⟩
        have hk0 : k0 ≤ 31 := by omega
        rw [Int.toNat_natCast]
        obtain ⟨h5, hall⟩ := rightB_true.1 hr
        obtain ⟨p, c, rfl⟩ := T.len
        obtain ⟨b, off, rfl, -, hb, hc⟩ := T.at (by omega)
        rw [h5] at hmk hc ⊢
        have H5 := Lib.hid h5
        have Hall := Lib.hid hall
        clear hr hq h5 hall hl T
        have hHS := fun (x y : ByteArray) (w2 : World) => Strs.lit (w := w2) (E := 9) [x, y]
        have HS := Lib.hid hHS
        have Hm0 := Lib.hid hm
        clear hHS hm
        go_enter Tryd.func31, Tryd.ntmps31
        go_wp2_with (first | (go_at_call 74; refine hmk.mono ?_; rintro e w2 ⟨rfl, hw2⟩; subst w2))
        clear hmk j0 j1 j2
        go_loopw [1, 2, 10, 29] (fun mv kv _ iv wr => ∃ (i kk : Nat) (m1 : ByteArray), i ≤ 5 ∧ kk ≤ 31 ∧ iv = .int .i64 i ∧ mv = .string m1 ∧ kv = .int .i64 kk ∧ m1.size = 16 ∧ Hid (foldV (l.drop i) kk m1 = foldV l k0 m) ∧ Keep NoB w wr) (fun _ _ _ iv _ => 5 - (intOf iv).toNat)
        case atStart => exact ⟨0, k0, m, by omega, hk0, rfl, rfl, rfl, Hm0.out, rfl, Keep.refl _ _⟩
        case round =>
          obtain ⟨i, kk, m1, hi, hkk, rfl, rfl, rfl, hm1, hfold, K⟩ := hrel
          by_cases hlt : i < 5
          · have j1 : (i : Int) < 5 := by omega
            obtain ⟨x, hx⟩ : ∃ x, x = l.getD i ⟨#[]⟩ := ⟨_, rfl⟩
            have hcx := (K.cell (p := ⟨b, off + i, none⟩) hb (fun x => x)).trans (hc i (by omega))
            rw [← hx] at hcx
            have hx16 : x.size = 16 := by
              rw [hx, List.getD_eq_getElem?_getD, List.getElem?_eq_getElem (by rw [H5.out]; exact hlt)]
              exact Hall.out _ (List.getElem_mem _)
            have hstep := foldV_step l i kk m1 (by rw [H5.out]; exact hlt)
            rw [← hx] at hstep
            have hand := and_one kk hkk
            by_cases hpar : kk % 2 = 0
            · rw [hpar] at hand
              rw [if_pos hpar] at hstep
              have Hstep := Lib.hid (hstep.symm.trans hfold.out)
              have Hml := Lib.hid (two_len m1 x (by omega) (by omega))
              clear hx hstep hpar hfold
              go_wp2_with (go_at_call 19; refine (mark_any 117 (by omega) _ [m1, x] _ (V.keep (K.alloc _) (fun x => x)) (HS.out m1 x _) Hml.out (by simp)).mono ?_; rw [mk2_eq]; rintro e w4 ⟨rfl, K4⟩)
              exact ⟨⟨i + 1, kk / 2, _, by omega, by omega, by go_num, rfl, by go_num, mk2_size _ _, Hstep, (K.alloc _).thenN K4⟩, by simp [intOf]; omega⟩
            · have hp1 : kk % 2 = 1 := by omega
              rw [hp1] at hand
              rw [if_neg hpar] at hstep
              have Hstep := Lib.hid (hstep.symm.trans hfold.out)
              have Hml := Lib.hid (two_len x m1 (by omega) (by omega))
              clear hx hstep hpar hp1 hfold
              go_wp2_with (go_at_call 19; refine (mark_any 117 (by omega) _ [x, m1] _ (V.keep (K.alloc _) (fun x => x)) (HS.out x m1 _) Hml.out (by simp)).mono ?_; rw [mk2_eq]; rintro e w4 ⟨rfl, K4⟩)
              exact ⟨⟨i + 1, kk / 2, _, by omega, by omega, by go_num, rfl, by go_num, mk2_size _ _, Hstep, (K.alloc _).thenN K4⟩, by simp [intOf]; omega⟩
          · obtain rfl : i = 5 := by omega
            have hend : foldV l k0 m = m1 := by
              rw [← hfold.out, List.drop_eq_nil_of_le (by rw [H5.out]; exact Nat.le_refl _)]; rfl
            have Hend := Lib.hid hend
            clear hend hfold
            go_wp2_with fail
            go_ret
            refine ⟨congrArg (fun b => Ending.returned (.bool b)) ?_, K⟩
            rw [Hend.out]
            by_cases hmr : m1 = root
            · subst hmr; simp
            · rw [decide_eq_false hmr, Bool.eq_false_iff]
              intro h
              have h2 : m1.toList = root.toList := by simpa using h
              exact hmr (by rw [ByteArray.toList_eq, ByteArray.toList_eq] at h2; exact bs_inj (by rw [bs, bs, h2]))
      · rw [Bool.eq_false_iff.2 hr] at hmk
        rw [verB_no (fun h => hr h.2.2)]
        clear hr hq hm
        go_enter Tryd.func31, Tryd.ntmps31
        go_wp2_with (first | (go_at_call 74; refine hmk.mono ?_; rintro e w2 ⟨rfl, hw2⟩; subst w2))
        go_ret
        exact ⟨rfl, Keep.refl _ _⟩
    · rw [verB_no (fun h => hq h.2.1)]
      by_cases hk0 : q < 0
      · clear hq hm hmk
        go_enter Tryd.func31, Tryd.ntmps31
        go_wp2_with fail
        go_ret
        exact ⟨rfl, Keep.refl _ _⟩
      · have j2 : (32 : Int) ≤ q := by omega
        clear hq hm hmk
        go_enter Tryd.func31, Tryd.ntmps31
        go_wp2_with fail
        go_ret
        exact ⟨rfl, Keep.refl _ _⟩
  · rw [verB_no (fun h => hm h.1)]
    have j0 : ¬ ((m.size : Nat) : Int) = 16 := by omega
    clear hm hmk
    go_enter Tryd.func31, Tryd.ntmps31
    go_wp2_with fail
    go_ret
    exact ⟨rfl, Keep.refl _ _⟩
end Go.Proofs.YtndcaaikjcicgaaDoor
