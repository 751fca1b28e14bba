/-
  DERIVED. The walk of the reference's Sum.
-/
import Derived.Test.YtndcaaikjcicgaaDoorNew
import Derived.Deep.MidRow
set_option linter.unusedVariables false
set_option linter.unusedSimpArgs false
namespace Go.Cof
open Go.RowKit
/-- The schedule, so many of its words laid. -/
def schedAt (s : List Nat) (t : Nat) : List Nat := if t < 16 then sched0 s t else sched1 s (t - 16)
theorem schedAt_zero (s : List Nat) : schedAt s 0 = List.replicate 64 0 := rfl
theorem schedAt_end (s : List Nat) : schedAt s 64 = sched s := rfl
theorem schedAt_low (s : List Nat) (t : Nat) (h : t < 16) : schedAt s (t + 1) = (schedAt s t).set t (be32 s (4 * t)) := by
  have e : schedAt s t = sched0 s t := if_pos h
  rw [e]
  by_cases h2 : t + 1 < 16
  · rw [schedAt, if_pos h2]; rfl
  · rw [schedAt, if_neg h2, show t + 1 - 16 = 0 by omega, show t = 15 by omega]; rfl
theorem schedAt_high (s : List Nat) (t : Nat) (h : ¬ t < 16) : schedAt s (t + 1) = schedStep (t - 16) (schedAt s t) := by
  rw [schedAt, if_neg (by omega), schedAt, if_neg h, show t + 1 - 16 = (t - 16) + 1 by omega]; rfl
theorem schedAt_len (s : List Nat) (t : Nat) : (schedAt s t).length = 64 := by
  rw [schedAt]; split
  · exact sched0_len _ _
  · exact sched1_len _ _
theorem W32.schedAt (s : List Nat) (hs : ∀ i, s.getD i 0 < 256) (t : Nat) : W32 (schedAt s t) := by
  rw [Cof.schedAt]; split
  · exact W32.sched0 s hs t
  · exact W32.sched1 s hs _
/-- Four bytes, the greatest first: so many of them. -/
def beTo (s : List Nat) (i : Nat) : Nat → Nat
  | 0 => 0
  | k + 1 => beTo s i k * 256 + s.getD (i + k) 0
theorem beTo_four (s : List Nat) (i : Nat) : beTo s i 4 = be32 s i := by
  simp only [beTo, be32, Nat.add_zero]; omega
theorem beTo_lt (s : List Nat) (hs : ∀ i, s.getD i 0 < 256) (i : Nat) : ∀ k, k ≤ 4 → beTo s i k < 256 ^ k := by
  intro k
  induction k with
  | zero => intro _; exact Nat.zero_lt_one
  | succ k ih =>
    intro hk
    have h1 := ih (by omega)
    have h2 := hs (i + k)
    rw [beTo, Nat.pow_succ]
    omega
theorem getD_set_ne (l : List Nat) (i j v : Nat) (h : i ≠ j) : (l.set i v).getD j 0 = l.getD j 0 := by
  simp [List.getD_eq_getElem?_getD, List.getElem?_set_ne h]
theorem sched0_rest (s : List Nat) (k j : Nat) (h : k ≤ j) : (sched0 s k).getD j 0 = 0 := by
  induction k with
  | zero =>
    show (List.replicate 64 0).getD j 0 = 0
    rw [List.getD_eq_getElem?_getD, List.getElem?_replicate]; split <;> rfl
  | succ k ih =>
    have e : sched0 s (k + 1) = (sched0 s k).set k (be32 s (4 * k)) := rfl
    rw [e, getD_set_ne _ _ _ _ (by omega)]
    exact ih (by omega)
theorem set_same (l : List Nat) (i : Nat) (h : i < l.length) (v : Nat) (hv : l.getD i 0 = v) : l.set i v = l := by
  rw [← hv, List.getD_eq_getElem?_getD, List.getElem?_eq_getElem h]
  exact List.set_getElem_self h
theorem part_getD (p : List Nat) (o j : Nat) (h : j < 64) : ((p.drop o).take 64).getD j 0 = p.getD (o + j) 0 := by
  simp only [List.getD_eq_getElem?_getD, List.getElem?_take, h, if_true, List.getElem?_drop]
theorem or32 (a b : Nat) (ha : (a : Int) < 4294967296) (hb : (b : Int) < 4294967296) : ∃ p : Nat, Hid (p = a ||| b) ∧ (p : Int) < 4294967296 ∧ bits BinOp.or IntKind.u32 (a : Int) (b : Int) = (p : Int) := by
  have : a ||| b < 2 ^ 32 := Nat.or_lt_two_pow (by omega) (by omega)
  exact ⟨a ||| b, rfl, by omega, w32_or a b (by omega) (by omega)⟩
/-- 'string([]byte{..})'. -/
theorem run_string_lit {P : Program} (w : World) {E : TypeId} {src dst : TypeId} (hs : P.underlying src = some (.slice E)) (he : P.underlying E = some (.int .u8)) (hd : P.underlying dst = some .string) (l : List Nat) :
    (convert src dst (.slice (some ⟨w.heap.size, 0, none⟩) l.length l.length)).run P (w.alloc (.cells (u8s l).toArray E)) = .ok (.string (txt l)) (w.alloc (.cells (u8s l).toArray E)) :=
  run_string_row (l := l) ⟨_, _, heap_alloc_new w _, by simp; exact List.take_of_length_le (by rw [u8s_len]; exact Nat.le_refl _), fun i _ => by simp⟩ hs he hd
end Go.Cof
namespace Go.Proofs.YtndcaaikjcicgaaDoor
open Go.RowKit Go.Cof
theorem rot_any (X n : Nat) (hx : (X : Int) < 4294967296) (hn : n ≤ 32) (w : World) :
    Calls Tryd.prog 69 #[.int .u32 X, .int .i64 n] w fun e w' => e = .returned (.int .u32 (rotr X n : Nat)) ∧ ∃ k, w' = w.drewN k := by
  have e1 : IntKind.i64.wrap (32 - (n : Int)) = ((32 - n : Nat) : Int) := by rw [IntWalk.i64_in _ (by omega)]; omega
  go_enter Tryd.func69, Tryd.ntmps69
  go_wp2
  go_quiet (fail)
  go_wp2
  go_ret
  have h1 := rotr_add X n (by omega) hn
  have h2 := rotr_lt X n (by omega)
  have h3 : ((X : Int) / 2 ^ n + (X : Int) * 2 ^ (32 - n) % 4294967296) = ((X / 2 ^ n + X * 2 ^ (32 - n) % 4294967296 : Nat) : Int) := by simp
  exact ⟨ret_u32' (by rw [h3, h1]; omega), ⟨_, rfl⟩⟩
theorem rot_quiet (x n : Int) (hx0 : 0 ≤ x) (hx : x < 4294967296) (hn0 : 0 ≤ n) (hn : n ≤ 32) (w : World) (k : Nat) :
    Calls Tryd.prog 69 #[.int .u32 x, .int .i64 n] (w.drewN k) fun e w'' => e = .returned (.int .u32 (rotr x.toNat n.toNat : Nat)) ∧ ∃ m, w'' = w.drewN m := by
  obtain ⟨X, rfl⟩ : ∃ X : Nat, x = X := ⟨x.toNat, by omega⟩
  obtain ⟨N, rfl⟩ : ∃ N : Nat, n = N := ⟨n.toNat, by omega⟩
  exact Calls.quiet_of (rot_any X N hx (by omega) _)

theorem RefR.cell {w : World} {B : Nat} (h : RefR w B) (i : Nat) (hi : i < 64) : w.cell? ⟨B, 8 + i, none⟩ = some (.int .u32 ((roundsK.getD i 0 : Nat) : Int)) := by
  have h1 := Row.cell h (8 + i) (by show 8 + i < 72; omega)
  rw [h1]
  have e : (startH ++ roundsK).getD (8 + i) 0 = roundsK.getD i 0 := by
    rw [List.getD_eq_getElem?_getD, List.getD_eq_getElem?_getD, List.getElem?_append_right (by show 8 ≤ 8 + i; omega)]
    congr 2
    show 8 + i - 8 = i
    omega
  rw [e]
theorem RefR.head {w : World} {B : Nat} (h : RefR w B) : w.rangeAt B 0 (cellsOf .u32 startH) := by
  intro j v hj
  have hlt : j < startH.length := by
    have := (List.getElem?_eq_some_iff.mp hj).1
    rwa [cellsOf_len] at this
  rw [cellsOf_get _ _ _ hlt] at hj
  rw [Nat.zero_add, Row.cell h j (Nat.lt_trans hlt (by decide)), ← hj]
  congr 3
  rw [List.getD_eq_getElem?_getD, List.getD_eq_getElem?_getD, List.getElem?_append_left hlt]
set_option maxRecDepth 100000 in
set_option maxHeartbeats 16000000 in
theorem refSum_any (RB : Nat) (s : ByteArray) (hs : s.size ≤ 100000) (w : World) (RR : RefR w RB) :
    Calls Tryd.prog 14 #[.pointer (some ⟨RB, 0, none⟩), .string s] w fun e w' => e = .returned (.string (txt (sha (bs s)))) ∧ Keep NoB w w' := by
  obtain ⟨i0, hi0, hz0, hz1, hz2⟩ := info_parts info_u8
  have hcv := fun w => Lib.run_convert_string_bytes (P := Tryd.prog) w 9 104 5 s Tryd.underlying9 Tryd.underlying104 Tryd.underlying5
  have hRB : RB < w.heap.size := Row.lt RR
  have hi8 : (Tryd.prog.info? 97).map (·.size) = some (cellsOf .u32 startH).length := by kernel_rfl
  have hi9 : (Tryd.prog.info? 97).map (·.size) = some (ints .u32 startH).size := by kernel_rfl
  have Hi8 := Lib.hid hi8
  have Hi9 := Lib.hid hi9
  clear hi8 hi9
  have hl0 : (bs s).length = s.size := bs_len s
  have Hl0 := Lib.hid hl0
  clear hl0
  go_enter Tryd.func14, Tryd.ntmps14
  go_wp2_with (first | (refine wpList_load_mid rfl 97 _ rfl RB 0 rfl (cellsOf .u32 startH) _ RR.head Tryd.underlying97 rfl Hi8.out ?_) | (refine wpList_store_whole rfl 97 _ _ rfl w.heap.size 97 _ (ints .u32 startH) rfl rfl (heap_alloc_new w _) Hi9.out 8 rfl rfl (ints_one _ _) ?_; refine wl_world (fun w1 => Row w1 w.heap.size .u32 97 startH ∧ Keep NoB w w1 ∧ w.heap.size + 1 ≤ w1.heap.size) ⟨heap_setRow (heap_alloc_new w _), ((Keep.refl NoB w).alloc _).setRow (.inr (Nat.le_refl _)) _, by simp [World.setRow]⟩ ?_; intro w1 hw1; obtain ⟨RH, K, hsz⟩ := hw1) | (at_builtin; refine wpList_append_n _ rfl _ _ 104 rfl (w.heap.size + 1) 5 i0 (.int .u8 0) 1 1 Tryd.underlying104 hi0 hz0 hz1 hz2 rfl (by decide) _ s.size (u8s (bs s)) rfl ((OwnsN.ofBytes w1 (w.heap.size + 1) 5 s hsz (by omega)).alloc _) ⟨(Lib.bytesWorld w1 5 s).heap.size, 0, none⟩ 1 1 [.int .u8 128] rfl rfl (cells_new _ _ _) (ones1 _ _) (by unfold maxLen; omega) (by omega) (by have := Lib.bytesWorld_size w1 5 s; simp; omega) ?_; intro v1 w2 hown1 hgrow1))
  have K2 : Keep NoB w w2 := ((K.bytesWorld _ _).alloc _).grown hgrow1 (fun b hb => by
    obtain rfl : w1.heap.size = b := Option.some.inj hb
    exact .inr (by omega))
  have RH2 : Row w2 w.heap.size .u32 97 startH := (((RH.keep ((Keep.refl NoB w1).bytesWorld _ _) (fun x => x)).alloc _)).grown hgrow1 (fun e => by
    have : w.heap.size = w1.heap.size := Option.some.inj e
    omega)
  have hown2 : OwnsN w2 (w.heap.size + 1) 5 1 v1 (padTo (bs s) 0).length (u8s (padTo (bs s) 0)) := by
    rw [padTo_len, Hl0.out, padTo, List.replicate_zero, List.append_nil, u8s_append]; exact hown1
  clear hown1 hgrow1 hcv RH K hsz Hi8 Hi9
  go_loopw [7] (fun v wr => ∃ k : Nat, k ≤ padZ s.size ∧ OwnsN wr (w.heap.size + 1) 5 1 v (padTo (bs s) k).length (u8s (padTo (bs s) k)) ∧ Row wr w.heap.size .u32 97 startH ∧ Keep NoB w wr) (fun v _ => match v with | .slice _ n _ => 200000 - n | _ => 0)
  case atStart => exact ⟨0, by omega, hown2, RH2, K2⟩
  case round =>
    clear hown2 RH2 K2 w2
    obtain ⟨k, hk, hown, RH, K⟩ := hrel
    have hkz : k ≤ 64 := by have : padZ s.size < 64 := Nat.mod_lt _ (by omega); omega
    have hlen : (padTo (bs s) k).length = s.size + 1 + k := by rw [padTo_len, Hl0.out]
    have Hlen := Lib.hid hlen
    obtain ⟨g, cap, rfl, hg, hcap⟩ := hown.some (by rw [hlen]; omega)
    obtain ⟨n, hn⟩ : ∃ n, n = (padTo (bs s) k).length := ⟨_, rfl⟩
    rw [← hn] at hown hcap
    rw [← hn]
    have hn1 : n = s.size + 1 + k := by rw [hn, hlen]
    have Hn := Lib.hid hn
    clear hlen hn
    by_cases hlt : k < padZ s.size
    · skip
      have j1 : ((n : Int) % 64 != 56) = true := by
        unfold padZ at hlt
        simp only [bne_iff_ne, ne_eq]
        omega
      have hn2 : n ≤ 100100 := by omega
      have Hn1 := Lib.hid hn1
      clear hn1
      go_wp2_with (first | (at_builtin; refine wpList_append_n _ rfl _ _ 104 rfl (w.heap.size + 1) 5 i0 (.int .u8 0) 1 1 Tryd.underlying104 hi0 hz0 hz1 hz2 rfl (by decide) _ n _ rfl (hown.alloc _) ⟨wr.heap.size, 0, none⟩ 1 1 [.int .u8 0] rfl rfl (cells_new _ _ _) (ones1 _ _) (by unfold maxLen; omega) (by omega) (by have := RH.lt; simp; omega) ?_; intro v1 w2 hown1 hgrow1))
      have K2 : Keep NoB w w2 := (K.alloc _).grown hgrow1 (fun b hb => by
        obtain rfl : g = b := Option.some.inj hb
        exact .inr (by omega))
      have RH2 : Row w2 w.heap.size .u32 97 startH := (RH.alloc _).grown hgrow1 (fun e => by
        have : w.heap.size = g := Option.some.inj e
        omega)
      have hown2 : OwnsN w2 (w.heap.size + 1) 5 1 v1 (padTo (bs s) (k + 1)).length (u8s (padTo (bs s) (k + 1))) := by
        rw [← padTo_snoc, padTo_len, Hl0.out, show s.size + 1 + (k + 1) = n + 1 by rw [Hn1.out]; omega]; exact hown1
      clear hgrow1 hown
      obtain ⟨g2, cap2, rfl, _, _⟩ := hown1.some (by omega)
      clear hown1
      refine ⟨⟨k + 1, by omega, hown2, RH2, K2⟩, ?_⟩
      show 200000 - (n + 1) < 200000 - n
      omega
    · have j1 : ((n : Int) % 64 != 56) = false := by
        have e : k = padZ s.size := by omega
        unfold padZ at e
        simp only [bne_eq_false_iff_eq]
        omega
      have hn2 : n ≤ 100100 := by omega
      have hkz2 : k = padZ s.size := by omega
      obtain ⟨N8, hN8⟩ : ∃ N, N = 8 * s.size := ⟨_, rfl⟩
      have e8 : (s.size : Int) * 8 = N8 := by omega
      have b8 : (N8 : Int) ≤ 800000 := by omega
      have HN8 := Lib.hid hN8
      have Hkz2 := Lib.hid hkz2
      have Hn1 := Lib.hid hn1
      clear hn1 hN8 hkz2 hlt hk hkz
      obtain ⟨l1, hl1⟩ : ∃ l, l = padTo (bs s) k := ⟨_, rfl⟩
      rw [← hl1] at hown
      have Hl1 := Lib.hid hl1
      clear hl1
      go_wp2_with fail
      refine wp_world (fun w1 => Row w1 w.heap.size .u32 97 startH ∧ Keep NoB w w1 ∧ OwnsN w1 (w.heap.size + 1) 5 1 (.slice (some ⟨g, 0, none⟩) n cap) (n + 0) (u8s (l1 ++ be64To N8 0))) ⟨RH, K, by rw [be64To, List.append_nil]; exact hown⟩ ?_
      clear RH K hown
      intro w3 hw3
      go_loopw [7, 8] (fun v i wr => ∃ k : Nat, k ≤ 8 ∧ i = .int .i64 (56 - 8 * (k : Int)) ∧ Row wr w.heap.size .u32 97 startH ∧ Keep NoB w wr ∧ OwnsN wr (w.heap.size + 1) 5 1 v (n + k) (u8s (l1 ++ be64To N8 k))) (fun _ i _ => (intOf i + 8).toNat)
      case atStart => exact ⟨0, by omega, rfl, hw3⟩
      case round =>
        clear hw3 w3
        obtain ⟨k2, hk2, rfl, RH, K, hown⟩ := hrel
        by_cases hlt : k2 < 8
        · skip
          obtain ⟨g1, cap1, rfl, hg1, hcap1⟩ := hown.some (by rw [Hn1.out]; omega)
          obtain ⟨q, hq⟩ : ∃ q, q = 8 * (7 - k2) := ⟨_, rfl⟩
          have hq2 : (56 : Int) - 8 * k2 = q := by omega
          rw [hq2]
          have hq3 : (0 : Int) ≤ q := by omega
          have hq4 : (q : Int) ≤ 56 := by omega
          clear hq2
          have Hq := Lib.hid hq
          clear hq
          go_wp2_with (first | (at_builtin; refine wpList_append_n _ rfl _ _ 104 rfl (w.heap.size + 1) 5 i0 (.int .u8 0) 1 1 Tryd.underlying104 hi0 hz0 hz1 hz2 rfl (by decide) _ (n + k2) _ rfl (hown.alloc _) ⟨wr.heap.size, 0, none⟩ 1 1 _ rfl rfl (cells_new _ _ _) (ones1 _ _) (by unfold maxLen; omega) (by omega) (by have := RH.lt; simp; omega) ?_; intro v1 w2 hown1 hgrow1))
          have K2 : Keep NoB w w2 := (K.alloc _).grown hgrow1 (fun b hb => by
            obtain rfl : g1 = b := Option.some.inj hb
            exact .inr (by omega))
          have RH2 : Row w2 w.heap.size .u32 97 startH := (RH.alloc _).grown hgrow1 (fun e => by
            have : w.heap.size = g1 := Option.some.inj e
            omega)
          have hown2 : OwnsN w2 (w.heap.size + 1) 5 1 v1 (n + (k2 + 1)) (u8s (l1 ++ be64To N8 (k2 + 1))) := by
            rw [Hq.out, shr_byte] at hown1
            rw [u8s_append, ← be64To_snoc, ← List.append_assoc, ← u8s_append]
            exact hown1
          have hq6 : (q : Int) - 8 = 56 - 8 * ((k2 + 1 : Nat) : Int) := by rw [Hq.out]; omega
          clear hgrow1 hown hown1 hq3
          exact ⟨⟨k2 + 1, by omega, by rw [hq6], RH2, K2, hown2⟩, by simp [intOf]; omega⟩
        · have hp : u8s (l1 ++ be64To N8 8) = u8s (padded (bs s)) := by
            rw [Hl1.out, Hkz2.out, HN8.out, padTo, padded, be64, Hl0.out]
          have hpl : (padded (bs s)).length = n + 8 := by rw [padded_len, Hl0.out, Hn1.out, Hkz2.out]; omega
          have hk8 : k2 = 8 := by omega
          have hk9 : (56 : Int) - 8 * k2 = -8 := by omega
          rw [hk8] at hown
          rw [hk9]
          clear hk9
          obtain ⟨p, hpp⟩ : ∃ p, p = padded (bs s) := ⟨_, rfl⟩
          have hp64 : p.length % 64 = 0 := by rw [hpp]; exact padded_mod _
          have hpb : Bytes p := by rw [hpp]; exact padded_bytes _ (bs_bytes s)
          rw [hp, ← hpp] at hown
          rw [← hpp] at hpl
          have Hpp := Lib.hid hpp
          clear hp hpp hk8 hlt hk2
          obtain ⟨g1, cap1, rfl, hg1, hcap1⟩ := hown.some (by omega)
          obtain ⟨m, hm⟩ : ∃ m, m = p.length / 64 := ⟨_, rfl⟩
          have hm64 : p.length = 64 * m := by omega
          have hnm : n + 8 = 64 * m := by omega
          rw [hnm] at hown hcap1
          rw [hnm]
          rw [← hm64] at hown
          have RP := BRow.ofN hown
          rw [hm64] at hown
          have Hm := Lib.hid hm
          have Hm64 := Lib.hid hm64
          have Hnm := Lib.hid hnm
          have hm2 : m ≤ 2000 := by omega
          clear hm hm64 hnm hpl hown hp64
          go_wp2_with fail
          refine wp_world (fun w1 => BRow w1 g1 5 p ∧ Row w1 w.heap.size .u32 97 (blocksTo p 0) ∧ Keep NoB w w1) ⟨RP, RH, K⟩ ?_
          clear RH K RP
          intro w3 hw3
          go_loopw [7] (fun v wr => ∃ q off c : Nat, q ≤ m ∧ v = .slice (some ⟨g1, off, none⟩) (64 * (m - q)) c ∧ (q < m → off = 64 * q ∧ 64 * (m - q) ≤ c) ∧ BRow wr g1 5 p ∧ Row wr w.heap.size .u32 97 (blocksTo p q) ∧ Keep NoB w wr) (fun v _ => match v with | .slice _ n _ => n | _ => 0)
          case atStart => exact ⟨0, 0, cap1, by omega, by rw [Nat.sub_zero], fun _ => ⟨rfl, by omega⟩, hw3⟩
          case round =>
            clear hw3 w3
            obtain ⟨q, off, c, hq, rfl, hoc, RP, RH, K⟩ := hrel
            by_cases hlt : q < m
            · obtain ⟨rfl, hc⟩ := hoc hlt
              clear hoc
              obtain ⟨M, hM⟩ : ∃ M, M = 64 * (m - q) := ⟨_, rfl⟩
              have hM64 : 64 ≤ M := by omega
              rw [← hM] at hc
              rw [← hM]
              have j0 : (0 : Int) < M := by omega
              have j00 : decide (0 < M) = true := by simp; omega
              have hMs : (M : Int) ≤ 128000 := by omega
              have HM := Lib.hid hM
              clear hM
              obtain ⟨blk, hblk⟩ : ∃ b, b = (p.drop (64 * q)).take 64 := ⟨_, rfl⟩
              have hbl : ∀ i, blk.getD i 0 < 256 := by rw [hblk]; exact bytes_getD (bytes_take (bytes_drop hpb _) _)
              have hpart : ∀ i, i < 64 → blk.getD i 0 = p.getD (64 * q + i) 0 := fun i hi => by rw [hblk]; exact part_getD p (64 * q) i hi
              have Hbl := Lib.hid hbl
              have Hpart := Lib.hid hpart
              have Hblk := Lib.hid hblk
              clear hbl hpart hblk
              go_wp2_with fail
              obtain ⟨WB, hWB⟩ : ∃ b, b = wr.heap.size := ⟨_, rfl⟩
              have hWBw : w.heap.size < WB := by rw [hWB]; exact RH.lt
              have hWBg : g1 < WB := by rw [hWB]; exact RP.lt
              refine wp_world (fun w1 => Row w1 WB .u32 98 (schedAt blk 0) ∧ BRow w1 g1 5 p ∧ Row w1 w.heap.size .u32 97 (blocksTo p q) ∧ Keep NoB w w1) ⟨by rw [hWB]; exact heap_alloc_new wr _, RP.keep ((Keep.refl NoB wr).alloc _) (fun x => x), RH.alloc _, K.alloc _⟩ ?_
              rw [← hWB]
              clear RP RH K hWB wr
              intro w3 hw3
              go_loopw [65] (fun i wr => ∃ t : Nat, t ≤ 64 ∧ i = .int .i64 t ∧ Row wr WB .u32 98 (schedAt blk t) ∧ BRow wr g1 5 p ∧ Row wr w.heap.size .u32 97 (blocksTo p q) ∧ Keep NoB w wr) (fun i _ => 64 - (intOf i).toNat)
              case atStart => exact ⟨0, by omega, rfl, hw3⟩
              case round =>
                clear hw3 w3
                obtain ⟨t, ht, rfl, RW, RP, RH, K⟩ := hrel
                by_cases hlt64 : t < 64
                · have jt : (t : Int) < 64 := by omega
                  by_cases h16 : t < 16
                  · have jt16 : (t : Int) < 16 := by omega
                    obtain ⟨r, hr⟩ : ∃ r, r = schedAt blk t := ⟨_, rfl⟩
                    have hrl : r.length = 64 := by rw [hr, schedAt_len]
                    have hr0 : r.set t (beTo blk (4 * t) 0) = r := set_same r t (by omega) _ (by rw [hr, schedAt, if_pos h16]; exact sched0_rest _ _ _ (Nat.le_refl _))
                    have hr4 : r.set t (beTo blk (4 * t) 4) = schedAt blk (t + 1) := by rw [schedAt_low blk t h16, hr, beTo_four]
                    rw [← hr] at RW
                    have Hr := Lib.hid hr
                    have Hrl := Lib.hid hrl
                    have Hr0 := Lib.hid hr0
                    have Hr4 := Lib.hid hr4
                    clear hr hrl hr0 hr4
                    have u1 : (4 : Int) * t + 4 ≤ c := by omega
                    have u2 : (4 : Int) * t ≤ M := by omega
                    have u3 : 4 * t + 4 - 4 * t = 4 := by omega
                    go_wp2_with fail
                    clear u3
                    have RW0 : Row wr WB .u32 98 (r.set t (beTo blk (4 * t) 0)) := by rw [Hr0.out]; exact RW
                    refine wp_world (fun w1 => Row w1 WB .u32 98 (r.set t (beTo blk (4 * t) 0)) ∧ BRow w1 g1 5 p ∧ Row w1 w.heap.size .u32 97 (blocksTo p q) ∧ Keep NoB w w1) ⟨RW0, RP, RH, K⟩ ?_
                    clear RW RW0 RP RH K wr
                    intro w3 hw3
                    go_loopw [78] (fun i wr => ∃ j : Nat, j ≤ 4 ∧ i = .int .i64 j ∧ Row wr WB .u32 98 (r.set t (beTo blk (4 * t) j)) ∧ BRow wr g1 5 p ∧ Row wr w.heap.size .u32 97 (blocksTo p q) ∧ Keep NoB w wr) (fun i _ => 4 - (intOf i).toNat)
                    case atStart => exact ⟨0, by omega, rfl, hw3⟩
                    case round =>
                      clear hw3 w3
                      obtain ⟨j, hj, rfl, RW, RP, RH, K⟩ := hrel
                      by_cases hj4 : j < 4
                      · have jj : (j : Int) < 4 := by omega
                        obtain ⟨va, hva⟩ : ∃ v, v = beTo blk (4 * t) j := ⟨_, rfl⟩
                        have hvl : va * 256 ≤ 4294967040 := by
                          have h1 := beTo_lt blk Hbl.out (4 * t) j (by omega)
                          have h2 : 256 ^ j ≤ 256 ^ 3 := Nat.pow_le_pow_right (by omega) (by omega)
                          omega
                        obtain ⟨m1, hm1⟩ : ∃ m1, m1 = va * 256 := ⟨_, rfl⟩
                        have e1 : (va : Int) * 256 = (m1 : Int) := by omega
                        have e2 : (m1 : Int) ≤ 4294967040 := by omega
                        have ct := RW.cell t (by rw [List.length_set, Hrl.out]; omega)
                        have ft := RW.free t
                        have hgt : (r.set t (beTo blk (4 * t) j)).getD t 0 = va := by
                          rw [hva, List.getD_eq_getElem?_getD, List.getElem?_set_self (by rw [Hrl.out]; omega)]; rfl
                        rw [hgt] at ct
                        have cb := RP.cell (64 * q + 4 * t + j) (by rw [Hm64.out]; omega)
                        obtain ⟨b, hb⟩ : ∃ b, b = p.getD (64 * q + 4 * t + j) 0 := ⟨_, rfl⟩
                        have hb2 : b = blk.getD (4 * t + j) 0 := by rw [hb, Hpart.out (4 * t + j) (by omega), Nat.add_assoc]
                        have hb256 : b < 256 := by rw [hb2]; exact Hbl.out _
                        have hbi : (b : Int) ≤ 255 := by omega
                        rw [← hb] at cb
                        have hst : m1 + b = beTo blk (4 * t) (j + 1) := by rw [hm1, hva, beTo, hb2]
                        have Hst := Lib.hid hst
                        clear hva hvl hm1 hgt hb hb2 hb256 hst
                        go_wp2_with fail
                        have K1 : Keep (OneB WB) wr (wr.setCell ⟨WB, t, none⟩ (.int .u32 ((m1 : Int) + (b : Int)))) := (Keep.refl _ _).set1 _ _
                        have RW2 := RW.store t (v := (m1 : Int) + (b : Int)) (n := m1 + b) (by simp)
                        rw [List.set_set, Hst.out] at RW2
                        exact ⟨⟨j + 1, by omega, by go_num, RW2, RP.keep K1 (fun e => by simp only [OneB] at e; omega), RH.keep K1 (fun e => by simp only [OneB] at e; omega), K.setCell (p := ⟨WB, t, none⟩) (.inr (show w.heap.size ≤ WB by omega)) _⟩, by simp [intOf]; omega⟩
                      · have hj5 : j = 4 := by omega
                        have jj : decide ((j : Int) < 4) = false := by simp; omega
                        rw [hj5, Hr4.out] at RW
                        clear hj4 hj hj5
                        go_wp2_with fail
                        exact ⟨⟨t + 1, by omega, by go_num, RW, RP, RH, K⟩, by simp [intOf]; omega⟩
                  · have jt16 : decide ((t : Int) < 16) = false := by simp; omega
                    obtain ⟨r, hr⟩ : ∃ r, r = schedAt blk t := ⟨_, rfl⟩
                    have hrl : r.length = 64 := by rw [hr, schedAt_len]
                    have hrw : W32 r := by rw [hr]; exact W32.schedAt blk Hbl.out t
                    have hst := schedAt_high blk t h16
                    rw [← hr] at RW hst
                    rw [schedStep, show 16 + (t - 16) = t by omega, show 1 + (t - 16) = t - 15 by omega, show 9 + (t - 16) = t - 7 by omega, show 14 + (t - 16) = t - 2 by omega] at hst
                    obtain ⟨q2, e2⟩ : ∃ q, q = t - 2 := ⟨_, rfl⟩
                    obtain ⟨q15, e15⟩ : ∃ q, q = t - 15 := ⟨_, rfl⟩
                    obtain ⟨q7, e7⟩ : ∃ q, q = t - 7 := ⟨_, rfl⟩
                    obtain ⟨q16, e16⟩ : ∃ q, q = t - 16 := ⟨_, rfl⟩
                    rw [← e2, ← e15, ← e7, ← e16] at hst
                    have w2 : IntKind.i64.wrap ((t : Int) - 2) = (q2 : Int) := by rw [IntWalk.i64_in _ (by omega)]; omega
                    have w15 : IntKind.i64.wrap ((t : Int) - 15) = (q15 : Int) := by rw [IntWalk.i64_in _ (by omega)]; omega
                    have w7 : IntKind.i64.wrap ((t : Int) - 7) = (q7 : Int) := by rw [IntWalk.i64_in _ (by omega)]; omega
                    have w16 : IntKind.i64.wrap ((t : Int) - 16) = (q16 : Int) := by rw [IntWalk.i64_in _ (by omega)]; omega
                    have l2 : (q2 : Int) < 64 := by omega
                    have l15 : (q15 : Int) < 64 := by omega
                    have l7 : (q7 : Int) < 64 := by omega
                    have l16 : (q16 : Int) < 64 := by omega
                    have c2 := RW.cell q2 (by omega)
                    have c15 := RW.cell q15 (by omega)
                    have c7 := RW.cell q7 (by omega)
                    have c16 := RW.cell q16 (by omega)
                    have ct := RW.cell t (by omega)
                    have ft := RW.free t
                    obtain ⟨x2, hx2⟩ : ∃ x, x = r.getD q2 0 := ⟨_, rfl⟩
                    obtain ⟨x15, hx15⟩ : ∃ x, x = r.getD q15 0 := ⟨_, rfl⟩
                    obtain ⟨x7, hx7⟩ : ∃ x, x = r.getD q7 0 := ⟨_, rfl⟩
                    obtain ⟨x16, hx16⟩ : ∃ x, x = r.getD q16 0 := ⟨_, rfl⟩
                    obtain ⟨xt, hxt⟩ : ∃ x, x = r.getD t 0 := ⟨_, rfl⟩
                    have b2 : (x2 : Int) < 4294967296 := by have := hrw q2; omega
                    have b15 : (x15 : Int) < 4294967296 := by have := hrw q15; omega
                    rw [← hx2] at c2
                    rw [← hx15] at c15
                    rw [← hx7] at c7
                    rw [← hx16] at c16
                    rw [← hxt] at ct
                    rw [← hx2, ← hx15, ← hx7, ← hx16] at hst
                    obtain ⟨a2, ha2⟩ : ∃ a, a = small1 x2 := ⟨_, rfl⟩
                    obtain ⟨a15, ha15⟩ : ∃ a, a = small0 x15 := ⟨_, rfl⟩
                    have bb2 := small1_bits x2 (by omega)
                    have bb15 := small0_bits x15 (by omega)
                    rw [← ha2] at bb2 hst
                    rw [← ha15] at bb15 hst
                    obtain ⟨s1, S1, d1⟩ := add32 a2 x7
                    obtain ⟨s2, S2, d2⟩ := add32 s1 a15
                    obtain ⟨s3, S3, d3⟩ := add32 s2 x16
                    have hs3 : s3 = (x16 + a15 + x7 + a2) % 4294967296 := by rw [S3.out, S2.out, S1.out]; omega
                    rw [← hs3] at hst
                    have Hst := Lib.hid hst
                    have Hrl := Lib.hid hrl
                    clear hst hrl hr hrw e2 e15 e7 e16 hx2 hx15 hx7 hx16 hxt ha2 ha15 hs3 h16
                    go_wp2_with fail
                    go_quiet (fail)
                    go_wp2_with fail
                    have C7 := Lib.hid c7
                    have C16 := Lib.hid c16
                    have CT := Lib.hid ct
                    clear c7 c16 ct c2 c15 ft
                    refine wp_world (fun w1 => Row w1 WB .u32 98 r ∧ BRow w1 g1 5 p ∧ Row w1 w.heap.size .u32 97 (blocksTo p q) ∧ Keep NoB w w1 ∧ w1.cell? ⟨WB, q7, none⟩ = some (.int .u32 (x7 : Int)) ∧ w1.cell? ⟨WB, q16, none⟩ = some (.int .u32 (x16 : Int)) ∧ w1.cell? ⟨WB, t, none⟩ = some (.int .u32 (xt : Int))) ⟨RW.drewN nq, RP.drewN nq, RH.drewN nq, K.drewN nq, C7.out, C16.out, CT.out⟩ ?_
                    clear RW RP RH K C7 C16 CT nq wr
                    intro wr hwr
                    obtain ⟨RW, RP, RH, K, c7, c16, ct⟩ := hwr
                    have ft := RW.free t
                    refine wp_region_qt_drew 33 (by kernel_rfl) (by kernel_rfl) ?_
                    simp only [List.take_succ_cons, List.take_zero, List.drop_succ_cons, List.drop_zero]
                    repeat (quiet_step ((go_at_call 69; refine rot_quiet _ _ (by omega) ?_ (by decide) (by decide) _ _; first | with_reducible exact b2 | with_reducible exact b15)))
                    refine wpQuiet_nil ?_
                    intro nq2
                    go_wp2_with fail
                    have K1 : Keep (OneB WB) (wr.drewN nq2) ((wr.drewN nq2).setCell ⟨WB, t, none⟩ (.int .u32 (s3 : Int))) := (Keep.refl _ _).set1 _ _
                    have RW2 := (RW.drewN nq2).store t (v := (s3 : Int)) (n := s3) rfl
                    rw [← Hst.out] at RW2
                    have fin : (∃ t' : Nat, t' ≤ 64 ∧ Value.int .i64 ((t : Int) + 1) = .int .i64 t' ∧ Row ((wr.drewN nq2).setCell ⟨WB, t, none⟩ (.int .u32 (s3 : Int))) WB .u32 98 (schedAt blk t') ∧ BRow ((wr.drewN nq2).setCell ⟨WB, t, none⟩ (.int .u32 (s3 : Int))) g1 5 p ∧ Row ((wr.drewN nq2).setCell ⟨WB, t, none⟩ (.int .u32 (s3 : Int))) w.heap.size .u32 97 (blocksTo p q) ∧ Keep NoB w ((wr.drewN nq2).setCell ⟨WB, t, none⟩ (.int .u32 (s3 : Int)))) :=
                      ⟨t + 1, by omega, by go_num, RW2, (RP.drewN nq2).keep K1 (fun e => by simp only [OneB] at e; omega), (RH.drewN nq2).keep K1 (fun e => by simp only [OneB] at e; omega), (K.drewN nq2).setCell (p := ⟨WB, t, none⟩) (.inr (show w.heap.size ≤ WB by omega)) _⟩
                    exact ⟨fin, by simp [intOf]; omega⟩
                · have jt : decide ((t : Int) < 64) = false := by simp; omega
                  have RW1 : Row wr WB .u32 98 (sched blk) := by
                    have : t = 64 := by omega
                    rw [this, schedAt_end] at RW
                    exact RW
                  have LM : W32 (sched blk) := W32.sched1 _ Hbl.out _
                  obtain ⟨h, hh⟩ : ∃ h, h = blocksTo p q := ⟨_, rfl⟩
                  have LH : W32 h := by rw [hh]; exact W32.blocks p q
                  have lh : h.length = 8 := by rw [hh, blocksTo_len]
                  rw [← hh] at RH
                  have Hh := Lib.hid hh
                  clear hh hlt64 ht RW
                  obtain ⟨mm, hmm⟩ : ∃ l, l = sched blk := ⟨_, rfl⟩
                  have lm : mm.length = 64 := by rw [hmm]; exact sched1_len _ _
                  rw [← hmm] at RW1 LM
                  have Hmm := Lib.hid hmm
                  clear hmm
                  have Hlm := Lib.hid lm
                  clear lm
                  obtain ⟨y0, y1, y2, y3, y4, y5, y6, y7, rfl⟩ : ∃ x0 x1 x2 x3 x4 x5 x6 x7, h = [x0, x1, x2, x3, x4, x5, x6, x7] := list8 h lh
                  clear lh
                  have c0 : wr.cell? ⟨w.heap.size, 0, none⟩ = some (.int .u32 (y0 : Int)) := RH.cell 0 (by show 0 < 8; omega)
                  have c1 : wr.cell? ⟨w.heap.size, 1, none⟩ = some (.int .u32 (y1 : Int)) := RH.cell 1 (by show 1 < 8; omega)
                  have c2 : wr.cell? ⟨w.heap.size, 2, none⟩ = some (.int .u32 (y2 : Int)) := RH.cell 2 (by show 2 < 8; omega)
                  have c3 : wr.cell? ⟨w.heap.size, 3, none⟩ = some (.int .u32 (y3 : Int)) := RH.cell 3 (by show 3 < 8; omega)
                  have c4 : wr.cell? ⟨w.heap.size, 4, none⟩ = some (.int .u32 (y4 : Int)) := RH.cell 4 (by show 4 < 8; omega)
                  have c5 : wr.cell? ⟨w.heap.size, 5, none⟩ = some (.int .u32 (y5 : Int)) := RH.cell 5 (by show 5 < 8; omega)
                  have c6 : wr.cell? ⟨w.heap.size, 6, none⟩ = some (.int .u32 (y6 : Int)) := RH.cell 6 (by show 6 < 8; omega)
                  have c7 : wr.cell? ⟨w.heap.size, 7, none⟩ = some (.int .u32 (y7 : Int)) := RH.cell 7 (by show 7 < 8; omega)
                  go_wp2_with fail
                  go_quiet (fail)
                  go_wp2_with fail
                  have hL0 : W32 (stepsV mm [y0, y1, y2, y3, y4, y5, y6, y7] 0) := LH
                  refine wp_world (fun w1 => Row w1 WB .u32 98 mm ∧ BRow w1 g1 5 p ∧ Row w1 w.heap.size .u32 97 [y0, y1, y2, y3, y4, y5, y6, y7] ∧ Keep NoB w w1) ⟨RW1.drewN nq, RP.drewN nq, RH.drewN nq, K.drewN nq⟩ ?_
                  clear RW1 RP RH K c0 c1 c2 c3 c4 c5 c6 c7 nq wr hL0
                  intro w3 hw3
                  go_loopw [15, 16, 17, 18, 19, 20, 21, 22, 150] (fun s0 s1 s2 s3 s4 s5 s6 s7 i wr => ∃ (t x0 x1 x2 x3 x4 x5 x6 x7 : Nat), t ≤ 64 ∧ i = .int .i64 t ∧ s0 = .int .u32 x0 ∧ s1 = .int .u32 x1 ∧ s2 = .int .u32 x2 ∧ s3 = .int .u32 x3 ∧ s4 = .int .u32 x4 ∧ s5 = .int .u32 x5 ∧ s6 = .int .u32 x6 ∧ s7 = .int .u32 x7 ∧ Hid ([x0, x1, x2, x3, x4, x5, x6, x7] = stepsV mm [y0, y1, y2, y3, y4, y5, y6, y7] t) ∧ Row wr WB .u32 98 mm ∧ BRow wr g1 5 p ∧ Row wr w.heap.size .u32 97 [y0, y1, y2, y3, y4, y5, y6, y7] ∧ Keep NoB w wr) (fun _ _ _ _ _ _ _ _ i _ => 64 - (intOf i).toNat)
                  case atStart => exact ⟨0, y0, y1, y2, y3, y4, y5, y6, y7, by omega, rfl, rfl, rfl, rfl, rfl, rfl, rfl, rfl, rfl, rfl, hw3⟩
                  case round =>
                    clear hw3 w3
                    obtain ⟨t, x0, x1, x2, x3, x4, x5, x6, x7, ht, rfl, rfl, rfl, rfl, rfl, rfl, rfl, rfl, rfl, hv, RW, RP, RH, K⟩ := hrel
                    by_cases hlt64 : t < 64
                    · have jt : (t : Int) < 64 := by omega
                      have LV : W32 [x0, x1, x2, x3, x4, x5, x6, x7] := by rw [hv.out]; exact W32.steps _ LH _
                      have b0 : (x0 : Int) < 4294967296 := by have := LV 0; simp at this; omega
                      have b1 : (x1 : Int) < 4294967296 := by have := LV 1; simp at this; omega
                      have b2 : (x2 : Int) < 4294967296 := by have := LV 2; simp at this; omega
                      have b4 : (x4 : Int) < 4294967296 := by have := LV 4; simp at this; omega
                      have b5 : (x5 : Int) < 4294967296 := by have := LV 5; simp at this; omega
                      have b6 : (x6 : Int) < 4294967296 := by have := LV 6; simp at this; omega
                      obtain ⟨rk, hrk⟩ : ∃ r, r = roundsK.getD t 0 := ⟨_, rfl⟩
                      obtain ⟨wk, hwk⟩ : ∃ r, r = mm.getD t 0 := ⟨_, rfl⟩
                      have cr := RefR.cell (Keep.heap K RR (fun x => x)) t hlt64
                      have cw := RW.cell t (by rw [Hlm.out]; omega)
                      rw [← hrk] at cr
                      rw [← hwk] at cw
                      have Hrk := Lib.hid hrk
                      have Hwk := Lib.hid hwk
                      clear hrk hwk
                      obtain ⟨aE, haE⟩ : ∃ a, a = bigE x4 := ⟨_, rfl⟩
                      obtain ⟨aA, haA⟩ : ∃ a, a = bigA x0 := ⟨_, rfl⟩
                      have bE := bigE_bits x4 (by omega)
                      have bA := bigA_bits x0 (by omega)
                      rw [← haE] at bE
                      rw [← haA] at bA
                      have AE := Lib.hid haE
                      have AA := Lib.hid haA
                      clear haE haA
                      obtain ⟨p1, P1, e1⟩ := add32 x7 aE
                      obtain ⟨q1, Q1, d1, e2⟩ := xor32 x5 x6 b5 b6
                      obtain ⟨q3, Q3, d3, e4⟩ := and32 x4 q1 b4 d1
                      obtain ⟨q4, Q4, d4, e5⟩ := xor32 x6 q3 b6 d3
                      obtain ⟨p2, P2, e6⟩ := add32 p1 q4
                      obtain ⟨p3, P3, e7⟩ := add32 p2 rk
                      obtain ⟨p4, P4, e8⟩ := add32 p3 wk
                      have hq : q4 = chs x4 x5 x6 := by rw [Q4.out, Q3.out, Q1.out]; exact chs_alt _ _ _ (by omega) (by omega)
                      have Hq := Lib.hid hq
                      clear hq
                      go_wp2_with fail
                      go_quiet ((go_at_call 69; exact rot_quiet _ _ (by omega) b4 (by decide) (by decide) _ _))
                      clear e1 e2 e4 e5 e6 e7 e8
                      obtain ⟨r1, R1, f1, e1⟩ := and32 x0 x1 b0 b1
                      obtain ⟨r2, R2, f2, e2⟩ := or32 x0 x1 b0 b1
                      obtain ⟨r3, R3, f3, e3⟩ := and32 x2 r2 b2 f2
                      obtain ⟨r4, R4, f4, e4⟩ := or32 r1 r3 f1 f3
                      obtain ⟨t1, T1, g1', e6⟩ := addm32 aA r4
                      obtain ⟨t2, T2, g2, e7⟩ := addm32 p4 t1
                      obtain ⟨t3, T3, g3, e8⟩ := addm32 x3 p4
                      have hr : r4 = maj x0 x1 x2 := by rw [R4.out, R1.out, R3.out, R2.out]; exact maj_alt _ _ _
                      have Hr := Lib.hid hr
                      clear hr
                      go_wp2_with fail
                      refine (rot_any x0 2 b0 (by omega) _).mono ?_
                      rintro e w4 ⟨rfl, k4, rfl⟩
                      go_wp2_with fail
                      refine (rot_any x0 13 b0 (by omega) _).mono ?_
                      rintro e w4 ⟨rfl, k5, rfl⟩
                      go_wp2_with fail
                      refine (rot_any x0 22 b0 (by omega) _).mono ?_
                      rintro e w4 ⟨rfl, k6, rfl⟩
                      go_wp2_with fail
                      have hp : p4 = (x7 + bigE x4 + chs x4 x5 x6 + roundsK.getD t 0 + mm.getD t 0) % 4294967296 := by
                        rw [P4.out, P3.out, P2.out, P1.out, Hq.out, ← AE.out, ← Hrk.out, ← Hwk.out]; omega
                      have htt : t1 = (bigA x0 + maj x0 x1 x2) % 4294967296 := by rw [T1.out, Hr.out, ← AA.out]
                      have hst : Hid ([t2, x0, x1, x2, t3, x4, x5, x6] = stepsV mm [y0, y1, y2, y3, y4, y5, y6, y7] (t + 1)) := by
                        show _ = _
                        rw [stepsV, times_succ, ← stepsV, ← hv.out, T2.out, T3.out, hp, htt]; rfl
                      exact ⟨⟨t + 1, t2, x0, x1, x2, t3, x4, x5, x6, by omega, by go_num, by rw [e7], rfl, rfl, rfl, by rw [e8], rfl, rfl, rfl, hst, RW, RP, RH, K.drewN _⟩, by simp [intOf]; omega⟩
                    · have jt : decide ((t : Int) < 64) = false := by simp; omega
                      have hv64 : [x0, x1, x2, x3, x4, x5, x6, x7] = stepsV mm [y0, y1, y2, y3, y4, y5, y6, y7] 64 := by
                        have : t = 64 := by omega
                        rw [hv.out, this]
                      have Hv64 := Lib.hid hv64
                      obtain ⟨hh, hhh⟩ : ∃ l, l = [y0, y1, y2, y3, y4, y5, y6, y7] := ⟨_, rfl⟩
                      have lhh : hh.length = 8 := by rw [hhh]; rfl
                      rw [← hhh] at RH
                      have Hhh := Lib.hid hhh
                      have Hlhh := Lib.hid lhh
                      clear hv64 hlt64 ht hv hhh lhh
                      go_wp2_with fail
                      refine wp_world (fun w1 => BRow w1 g1 5 p ∧ Row w1 w.heap.size .u32 97 (addTo [x0, x1, x2, x3, x4, x5, x6, x7] hh 0) ∧ Keep NoB w w1) ⟨RP, RH, K⟩ ?_
                      clear RW RP RH K wr
                      intro w3 hw3
                      go_loopw [228] (fun i wr => ∃ j : Nat, j ≤ 8 ∧ i = .int .i64 j ∧ BRow wr g1 5 p ∧ Row wr w.heap.size .u32 97 (addTo [x0, x1, x2, x3, x4, x5, x6, x7] hh j) ∧ Keep NoB w wr) (fun i _ => 8 - (intOf i).toNat)
                      case atStart => exact ⟨0, by omega, rfl, hw3⟩
                      case round =>
                        clear hw3 w3
                        obtain ⟨j, hj, rfl, RP, RH, K⟩ := hrel
                        by_cases hj8 : j < 8
                        · have jj : (j : Int) < 8 := by omega
                          have hix : ∀ w, (Instr.index 97 (.agg #[.int .u32 (x0 : Int), .int .u32 (x1 : Int), .int .u32 (x2 : Int), .int .u32 (x3 : Int), .int .u32 (x4 : Int), .int .u32 (x5 : Int), .int .u32 (x6 : Int), .int .u32 (x7 : Int)]) (.int .i64 j)).run Tryd.prog w = .ok (.int .u32 (([x0, x1, x2, x3, x4, x5, x6, x7].getD j 0 : Nat) : Int)) w :=
                            run_index_ints (P := Tryd.prog) (kd := .u32) Tryd.underlying97 Tryd.underlying96 rfl (by kernel_rfl) [x0, x1, x2, x3, x4, x5, x6, x7] j rfl hj8
                          obtain ⟨xj, hxj⟩ : ∃ x, x = [x0, x1, x2, x3, x4, x5, x6, x7].getD j 0 := ⟨_, rfl⟩
                          rw [← hxj] at hix
                          have hat : addTo [x0, x1, x2, x3, x4, x5, x6, x7] hh (j + 1) = (addTo [x0, x1, x2, x3, x4, x5, x6, x7] hh j).set j (((addTo [x0, x1, x2, x3, x4, x5, x6, x7] hh j).getD j 0 + [x0, x1, x2, x3, x4, x5, x6, x7].getD j 0) % 4294967296) := rfl
                          obtain ⟨G, hG⟩ : ∃ G, G = addTo [x0, x1, x2, x3, x4, x5, x6, x7] hh j := ⟨_, rfl⟩
                          have lG : G.length = 8 := by rw [hG, addTo_len, Hlhh.out]
                          rw [← hG] at RH hat
                          rw [← hxj] at hat
                          have ch := RH.cell j (by omega)
                          have fh := RH.free j
                          obtain ⟨yj, hyj⟩ : ∃ y, y = G.getD j 0 := ⟨_, rfl⟩
                          rw [← hyj] at ch hat
                          obtain ⟨z, Z, gz, ez⟩ := addm32 yj xj
                          rw [← Z.out] at hat
                          have Hat := Lib.hid hat
                          clear hat hyj hxj hG lG
                          go_wp2_with fail
                          have RH2 := RH.store j (v := (z : Int)) (n := z) rfl
                          rw [← Hat.out] at RH2
                          have K1 : Keep (OneB w.heap.size) wr (wr.setCell ⟨w.heap.size, j, none⟩ (.int .u32 (z : Int))) := (Keep.refl _ _).set1 _ _
                          exact ⟨⟨j + 1, by omega, by go_num, RP.keep K1 (fun e => by simp only [OneB] at e; omega), RH2, K.setCell (p := ⟨w.heap.size, j, none⟩) (.inr (Nat.le_refl _)) _⟩, by simp [intOf]; omega⟩
                        · have jj : decide ((j : Int) < 8) = false := by simp; omega
                          have RH1 : Row wr w.heap.size .u32 97 (blocksTo p (q + 1)) := by
                            have hj8' : j = 8 := by omega
                            rw [hj8', Hv64.out, Hhh.out, Hmm.out, Hh.out, Hblk.out] at RH
                            exact RH
                          clear hj8 hj RH
                          by_cases hc64 : c = 64
                          · have hM : M = 64 := by omega
                            have hqm : q + 1 = m := by have := HM.out; omega
                            subst hM
                            subst hc64
                            go_wp2_with fail
                            refine ⟨⟨q + 1, _, _, by omega, by rw [show 64 * (m - (q + 1)) = 0 by omega], fun h => absurd h (by omega), RP, RH1, K⟩, ?_⟩
                            show 0 < 64
                            omega
                          · have hc65 : 64 < c := by omega
                            have hc66 : (64 : Int) < c := by omega
                            have e7 : 64 * (m - (q + 1)) = M - 64 := by have := HM.out; omega
                            go_wp2_with fail
                            refine ⟨⟨q + 1, 64 * q + 64, c - 64, by omega, by rw [e7], fun h => ⟨by omega, by omega⟩, RP, RH1, K⟩, ?_⟩
                            show M - 64 < M
                            omega
            · have hqm : q = m := by omega
              rw [hqm] at RH
              rw [hqm, Nat.sub_self, Nat.mul_zero]
              rw [Hm.out, Hpp.out] at RH
              obtain ⟨h, hh⟩ : ∃ h, h = blocksTo (padded (bs s)) ((padded (bs s)).length / 64) := ⟨_, rfl⟩
              have hl8 : h.length = 8 := by rw [hh, blocksTo_len]
              have W : W32 h := by rw [hh]; exact W32.blocks _ _
              rw [← hh] at RH
              have Hh := Lib.hid hh
              have Hl8 := Lib.hid hl8
              have hi8 : (Tryd.prog.info? 97).map (·.size) = some (ints .u32 h).size := by rw [ints_size, hl8]; kernel_rfl
              have Hi8 := Lib.hid hi8
              clear hh hl8 hi8 hlt hqm hq hoc
              go_wp2_with (first | (refine wpList_load_row rfl 97 _ rfl w.heap.size rfl 97 (ints .u32 h) (0, 0) _ RH Tryd.underlying97 rfl Hi8.out ?_))
              clear RP Hi8
              refine wp_world (fun w1 => Keep NoB w w1) K ?_
              clear K RH
              intro w5 K5
              go_loopw [28, 240] (fun o i wr => ∃ (k : Nat) (A : ByteArray), k ≤ 8 ∧ i = .int .i64 k ∧ o = .string A ∧ Hid (bs A = outWords h k) ∧ Keep NoB w wr) (fun _ i _ => 8 - (intOf i).toNat)
              case atStart => exact ⟨0, _, by omega, rfl, rfl, rfl, K5⟩
              case round =>
                clear K5 w5
                obtain ⟨k4, A, hk4, rfl, rfl, hA, K⟩ := hrel
                have hAs : A.size = 4 * k4 := by rw [← bs_len, hA.out, outWords_len]
                by_cases hlt : k4 < 8
                · have j1 : (k4 : Int) < 8 := by omega
                  have hix := run_index_ints (P := Tryd.prog) (kd := .u32) Tryd.underlying97 Tryd.underlying96 rfl (by kernel_rfl) h k4 Hl8.out hlt
                  obtain ⟨x, hx⟩ : ∃ x, x = h.getD k4 0 := ⟨_, rfl⟩
                  have bx : (x : Int) < 4294967296 := by have := W k4; rw [hx]; omega
                  rw [← hx] at hix
                  obtain ⟨y0, hy0⟩ : ∃ y, y = x / 16777216 % 256 := ⟨_, rfl⟩
                  obtain ⟨y1, hy1⟩ : ∃ y, y = x / 65536 % 256 := ⟨_, rfl⟩
                  obtain ⟨y2, hy2⟩ : ∃ y, y = x / 256 % 256 := ⟨_, rfl⟩
                  obtain ⟨y3, hy3⟩ : ∃ y, y = x % 256 := ⟨_, rfl⟩
                  have e0 : (x : Int) / 16777216 = (y0 : Int) := by omega
                  have e1 : (x : Int) / 65536 % 256 = (y1 : Int) := by omega
                  have e2 : (x : Int) / 256 % 256 = (y2 : Int) := by omega
                  have e3 : (x : Int) % 256 = (y3 : Int) := by omega
                  have hw4 : outWords h (k4 + 1) = outWords h k4 ++ [y0, y1, y2, y3] := by
                    rw [outWords, times_succ, ← outWords, ← hx, hy0, hy1, hy2, hy3]; rfl
                  have hso : ∀ w : World, (convert 104 9 (.slice (some ⟨w.heap.size, 0, none⟩) 4 4)).run Tryd.prog (w.alloc (.cells #[.int .u8 (y0 : Int), .int .u8 (y1 : Int), .int .u8 (y2 : Int), .int .u8 (y3 : Int)] 5)) = .ok (.string (txt [y0, y1, y2, y3])) (w.alloc (.cells #[.int .u8 (y0 : Int), .int .u8 (y1 : Int), .int .u8 (y2 : Int), .int .u8 (y3 : Int)] 5)) :=
                    fun w => run_string_lit w Tryd.underlying104 Tryd.underlying5 Tryd.underlying9 [y0, y1, y2, y3]
                  have hA2 : Hid (bs (A ++ txt [y0, y1, y2, y3]) = outWords h (k4 + 1)) := by
                    show bs _ = _
                    rw [hw4, bs_append, hA.out, bs_txt (fun y hy => by simp only [List.mem_cons, List.not_mem_nil, or_false] at hy; rcases hy with rfl | rfl | rfl | rfl <;> omega)]
                  have hcat : ¬ (9223372036854775807 < A.size + (txt [y0, y1, y2, y3]).size) := by rw [txt_size, hAs]; simp; omega
                  have Hx := Lib.hid hx
                  clear hx hy0 hy1 hy2 hy3 hAs hw4
                  go_wp2_with fail
                  exact ⟨⟨k4 + 1, _, by omega, by go_num, rfl, hA2, K.alloc _⟩, by simp [intOf]; omega⟩
                · have hk : k4 = 8 := by omega
                  have j1 : decide ((k4 : Int) < 8) = false := by simp; omega
                  have hsha : A = txt (sha (bs s)) := by
                    apply bs_inj
                    rw [hA.out, hk, Hh.out, bs_txt (sha_bytes _), sha]
                  have Hsha := Lib.hid hsha
                  clear hk hlt hk4 hsha hAs
                  go_wp2_with fail
                  go_ret
                  exact ⟨congrArg (fun t => Ending.returned (.string t)) Hsha.out, K⟩
end Go.Proofs.YtndcaaikjcicgaaDoor
