/-
  DERIVED. The walks of sum.Num, sum.Sum.
-/
import Derived.Test.YtndcaaikjcicgaaDoorSumBlock
import Derived.Test.YtndcaaikjcicgaaDoorFree
import Derived.Test.YtndcaaikjcicgaaDoorHex
set_option linter.unusedVariables false
set_option linter.unusedSimpArgs false
namespace Go.Proofs.YtndcaaikjcicgaaDoor
open Go.RowKit Go.Cof

theorem be64To_snoc (n k : Nat) : u8s (be64To n k) ++ [Value.int .u8 ((n / 2 ^ (8 * (7 - k)) % 256 : Nat) : Int)] = u8s (be64To n (k + 1)) := by
  rw [be64To, u8s_append]; rfl
theorem shr_byte (n k : Nat) : (n : Int) / 2 ^ (8 * (7 - k)) % 256 = ((n / 2 ^ (8 * (7 - k)) % 256 : Nat) : Int) := by
  simp
set_option maxRecDepth 100000 in
set_option maxHeartbeats 4000000 in
theorem num_any (n : Nat) (hn : n < 9223372036854775808) (w : World) :
    Calls Tryd.prog 17 #[.int .i64 n] w fun e w' => e = .returned (.string (txt (be64 n))) ∧ Keep NoB w w' := by
  obtain ⟨i0, hi0, hz0, hz1, hz2⟩ := info_parts info_u8
  have hn2 : (n : Int) ≤ 9223372036854775807 := by omega
  clear hn
  go_enter Tryd.func17, Tryd.ntmps17
  go_wp2
  go_loopw [3, 4] (fun v i wr => ∃ k : Nat, k ≤ 8 ∧ i = .int .i64 (7 - (k : Int)) ∧ Keep NoB w wr ∧ wr.ownsRow w.heap.size 5 1 v (be64To n k).length (u8s (be64To n k))) (fun _ i _ => (intOf i + 1).toNat)
  case atStart => exact ⟨0, by omega, rfl, Keep.refl _ _, World.ownsRow_nil _ _ _ _⟩
  case round =>
    obtain ⟨k, hk, rfl, K, hown⟩ := hrel
    by_cases hlt : k < 8
    · have j1 : (0 : Int) ≤ 7 - k := by omega
      obtain ⟨q, hq⟩ : ∃ q, q = 7 - k := ⟨_, rfl⟩
      have hq2 : (7 : Int) - k = q := by omega
      rw [hq2]
      have hq3 : (0 : Int) ≤ q := by omega
      have hq4 : (q : Int) ≤ 7 := by omega
      have hq5 : (8 * (q : Int)).toNat = 8 * q := by omega
      clear hq2 j1
      have Hq := Lib.hid hq
      clear hq
      have hlen : (be64To n k).length = k := be64To_len _ _
      have Hlen := Lib.hid hlen
      clear hlen
      go_wp2_with (first | (at_builtin; refine wpList_append_own _ rfl _ _ 104 rfl w.heap.size 5 i0 (.int .u8 0) 1 1 Tryd.underlying104 hi0 hz0 hz1 hz2 rfl (by decide) u3 _ _ rfl (hown.alloc _) ⟨wr.heap.size, 0, none⟩ 1 1 _ rfl rfl (cells_new _ _ _) (ones1 _ _) (by rw [Hlen.out]; unfold maxLen; omega) (by rw [Hlen.out]; omega) (by have := K.size; simp; omega) ?_; intro v' w' hown' hgrow _))
      have e2 : u8s (be64To n k) ++ [Value.int .u8 ((n : Int) / 2 ^ (8 * q) % 256)] = u8s (be64To n (k + 1)) := by
        rw [Hq.out, shr_byte, be64To_snoc]
      have e3 : (be64To n k).length + 1 = (be64To n (k + 1)).length := by rw [be64To, List.length_append]; rfl
      rw [e2, e3] at hown'
      have K2 : Keep NoB w w' := (K.alloc _).grown hgrow (fun b hb => .inr (hown.lt b hb).1)
      have hq6 : (q : Int) - 1 = 7 - ((k + 1 : Nat) : Int) := by rw [Hq.out]; omega
      clear e2 e3 hgrow hown hq3 hq5
      refine ⟨⟨k + 1, by omega, by rw [hq6], K2, hown'⟩, by simp [intOf]⟩
    · obtain rfl : k = 8 := by omega
      have hcv := run_string_own (P := Tryd.prog) hown Tryd.underlying104 Tryd.underlying5 Tryd.underlying9
      go_wp2_with fail
      go_ret
      exact ⟨rfl, K⟩

/-- A text with the byte 128 behind it, and so many of 0. -/
def padTo (s : List Nat) (k : Nat) : List Nat := s ++ [128] ++ List.replicate k 0
theorem padTo_len (s : List Nat) (k : Nat) : (padTo s k).length = s.length + 1 + k := by simp [padTo]; omega
theorem padTo_snoc (s : List Nat) (k : Nat) : u8s (padTo s k) ++ [Value.int .u8 0] = u8s (padTo s (k + 1)) := by
  have e : padTo s (k + 1) = padTo s k ++ [0] := by rw [padTo, padTo, List.replicate_succ', List.append_assoc, List.append_assoc, List.append_assoc]
  rw [e, u8s_append]; rfl
theorem info_u8' : (Tryd.prog.info? 5).map (fun i => (i.zero, i.size, i.bytes)) = some (some (.int .u8 0), 1, 1) := info_u8
theorem be64To_bytes (n k : Nat) : Bytes (be64To n k) := by
  induction k with
  | zero => intro x hx; simp [be64To] at hx
  | succ k ih =>
    rw [be64To]
    refine bytes_append ih ?_
    intro x hx
    obtain rfl : x = _ := List.mem_singleton.1 hx
    exact Nat.mod_lt _ (by omega)
theorem padded_bytes (s : List Nat) (h : Bytes s) : Bytes (padded s) := by
  rw [padded]
  refine bytes_append (bytes_append (bytes_append h ?_) ?_) (be64To_bytes _ _)
  · intro x hx
    obtain rfl : x = 128 := List.mem_singleton.1 hx
    omega
  · intro x hx
    obtain ⟨_, rfl⟩ := List.mem_replicate.1 hx
    omega
set_option maxRecDepth 100000 in
set_option maxHeartbeats 8000000 in
theorem sum_any (s : ByteArray) (hs : s.size ≤ 100000) (w : World) (V : RoundsVar w) :
    Calls Tryd.prog 13 #[.string s] w fun e w' => e = .returned (.string (txt (sha (bs s)))) ∧ Keep NoB w w' := by
  obtain ⟨i0, hi0, hz0, hz1, hz2⟩ := info_parts info_u8
  have hR : 0 < w.heap.size := by
    rcases Nat.lt_or_ge 0 w.heap.size with h' | h'
    · exact h'
    · have := V 0 (by omega)
      simp [World.cell?, Array.getElem?_eq_none h'] at this
  have hcv := fun w => Lib.run_convert_string_bytes (P := Tryd.prog) w 9 104 5 s Tryd.underlying9 Tryd.underlying104 Tryd.underlying5
  have hi8 : (Tryd.prog.info? 97).map (·.size) = some (ints .u32 startH).size := by kernel_rfl
  have Hi8 := Lib.hid hi8
  clear hi8
  go_enter Tryd.func13, Tryd.ntmps13
  have hl0 : (bs s).length = s.size := bs_len s
  have Hl0 := Lib.hid hl0
  clear hl0
  go_wp2_with (first | (refine wpList_store_whole rfl 97 _ _ rfl w.heap.size 97 _ (ints .u32 startH) rfl rfl (heap_alloc_new w _) Hi8.out 8 rfl rfl (ints_one _ _) ?_; refine wl_world (fun w1 => Row w1 w.heap.size .u32 97 startH ∧ Keep NoB w w1 ∧ w.heap.size + 1 ≤ w1.heap.size) ⟨heap_setRow (heap_alloc_new w _), ((Keep.refl NoB w).alloc _).setRow (.inr (Nat.le_refl _)) _, by simp [World.setRow]⟩ ?_; intro w1 hw1; obtain ⟨RH, K, hsz⟩ := hw1) | (at_builtin; refine wpList_append_n _ rfl _ _ 104 rfl (w.heap.size + 1) 5 i0 (.int .u8 0) 1 1 Tryd.underlying104 hi0 hz0 hz1 hz2 rfl (by decide) _ s.size (u8s (bs s)) rfl ((OwnsN.ofBytes w1 (w.heap.size + 1) 5 s hsz (by omega)).alloc _) ⟨(Lib.bytesWorld w1 5 s).heap.size, 0, none⟩ 1 1 [.int .u8 128] rfl rfl (cells_new _ _ _) (ones1 _ _) (by unfold maxLen; omega) (by omega) (by have := Lib.bytesWorld_size w1 5 s; simp; omega) ?_; intro v1 w2 hown1 hgrow1))
  have K2 : Keep NoB w w2 := ((K.bytesWorld _ _).alloc _).grown hgrow1 (fun b hb => by
    obtain rfl : w1.heap.size = b := Option.some.inj hb
    exact .inr (by omega))
  have RH2 : Row w2 w.heap.size .u32 97 startH := (((RH.keep ((Keep.refl NoB w1).bytesWorld _ _) (fun x => x)).alloc _)).grown hgrow1 (fun e => by
    have : w.heap.size = w1.heap.size := Option.some.inj e
    omega)
  have hown2 : OwnsN w2 (w.heap.size + 1) 5 1 v1 (padTo (bs s) 0).length (u8s (padTo (bs s) 0)) := by
    rw [padTo_len, Hl0.out, padTo, List.replicate_zero, List.append_nil, u8s_append]; exact hown1
  clear hown1 hgrow1 hcv RH K hsz Hi8
  go_loopw [4] (fun v wr => ∃ k : Nat, k ≤ padZ s.size ∧ OwnsN wr (w.heap.size + 1) 5 1 v (padTo (bs s) k).length (u8s (padTo (bs s) k)) ∧ Row wr w.heap.size .u32 97 startH ∧ Keep NoB w wr) (fun v _ => match v with | .slice _ n _ => 200000 - n | _ => 0)
  case atStart => exact ⟨0, by omega, hown2, RH2, K2⟩
  case round =>
    clear hown2 RH2 K2 w2
    obtain ⟨k, hk, hown, RH, K⟩ := hrel
    have hkz : k ≤ 64 := by have : padZ s.size < 64 := Nat.mod_lt _ (by omega); omega
    have hlen : (padTo (bs s) k).length = s.size + 1 + k := by rw [padTo_len, Hl0.out]
    have Hlen := Lib.hid hlen
    obtain ⟨g, cap, rfl, hg, hcap⟩ := hown.some (by rw [hlen]; omega)
    obtain ⟨n, hn⟩ : ∃ n, n = (padTo (bs s) k).length := ⟨_, rfl⟩
    rw [← hn] at hown hcap
    rw [← hn]
    have hn1 : n = s.size + 1 + k := by rw [hn, hlen]
    have Hn := Lib.hid hn
    clear hlen hn
    by_cases hlt : k < padZ s.size
    · have j1 : ((n : Int) % 64 != 56) = true := by
        unfold padZ at hlt
        simp only [bne_iff_ne, ne_eq]
        omega
      have hn2 : n ≤ 100100 := by omega
      have Hn1 := Lib.hid hn1
      clear hn1
      go_wp2_with (first | (at_builtin; refine wpList_append_n _ rfl _ _ 104 rfl (w.heap.size + 1) 5 i0 (.int .u8 0) 1 1 Tryd.underlying104 hi0 hz0 hz1 hz2 rfl (by decide) _ n _ rfl (hown.alloc _) ⟨wr.heap.size, 0, none⟩ 1 1 [.int .u8 0] rfl rfl (cells_new _ _ _) (ones1 _ _) (by unfold maxLen; omega) (by omega) (by have := RH.lt; simp; omega) ?_; intro v1 w2 hown1 hgrow1))
      have K2 : Keep NoB w w2 := (K.alloc _).grown hgrow1 (fun b hb => by
        obtain rfl : g = b := Option.some.inj hb
        exact .inr (by omega))
      have RH2 : Row w2 w.heap.size .u32 97 startH := (RH.alloc _).grown hgrow1 (fun e => by
        have : w.heap.size = g := Option.some.inj e
        omega)
      have hown2 : OwnsN w2 (w.heap.size + 1) 5 1 v1 (padTo (bs s) (k + 1)).length (u8s (padTo (bs s) (k + 1))) := by
        rw [← padTo_snoc, padTo_len, Hl0.out, show s.size + 1 + (k + 1) = n + 1 by rw [Hn1.out]; omega]; exact hown1
      clear hgrow1 hown
      obtain ⟨g2, cap2, rfl, _, _⟩ := hown1.some (by omega)
      clear hown1
      refine ⟨⟨k + 1, by omega, hown2, RH2, K2⟩, ?_⟩
      show 200000 - (n + 1) < 200000 - n
      omega
    · have j1 : ((n : Int) % 64 != 56) = false := by
        have e : k = padZ s.size := by omega
        unfold padZ at e
        simp only [bne_eq_false_iff_eq]
        omega
      have hn2 : n ≤ 100100 := by omega
      have hkz2 : k = padZ s.size := by omega
      obtain ⟨N8, hN8⟩ : ∃ N, N = 8 * s.size := ⟨_, rfl⟩
      have e8 : (s.size : Int) * 8 = N8 := by omega
      have b8 : (N8 : Int) ≤ 800000 := by omega
      have HN8 := Lib.hid hN8
      have Hkz2 := Lib.hid hkz2
      have Hn1 := Lib.hid hn1
      clear hn1 hN8 hkz2 hlt hk hkz
      obtain ⟨l1, hl1⟩ : ∃ l, l = padTo (bs s) k := ⟨_, rfl⟩
      rw [← hl1] at hown
      have Hl1 := Lib.hid hl1
      clear hl1
      go_wp2_with fail
      refine wp_world (fun w1 => Row w1 w.heap.size .u32 97 startH ∧ Keep NoB w w1 ∧ OwnsN w1 (w.heap.size + 1) 5 1 (.slice (some ⟨g, 0, none⟩) n cap) (n + 0) (u8s (l1 ++ be64To N8 0))) ⟨RH, K, by rw [be64To, List.append_nil]; exact hown⟩ ?_
      clear RH K hown
      intro w3 hw3
      go_loopw [4, 6] (fun v i wr => ∃ k : Nat, k ≤ 8 ∧ i = .int .i64 (7 - (k : Int)) ∧ Row wr w.heap.size .u32 97 startH ∧ Keep NoB w wr ∧ OwnsN wr (w.heap.size + 1) 5 1 v (n + k) (u8s (l1 ++ be64To N8 k))) (fun _ i _ => (intOf i + 1).toNat)
      case atStart => exact ⟨0, by omega, rfl, hw3⟩
      case round =>
        clear hw3 w3
        obtain ⟨k2, hk2, rfl, RH, K, hown⟩ := hrel
        by_cases hlt : k2 < 8
        · obtain ⟨g1, cap1, rfl, hg1, hcap1⟩ := hown.some (by rw [Hn1.out]; omega)
          obtain ⟨q, hq⟩ : ∃ q, q = 7 - k2 := ⟨_, rfl⟩
          have hq2 : (7 : Int) - k2 = q := by omega
          rw [hq2]
          have hq3 : (0 : Int) ≤ q := by omega
          have hq4 : (q : Int) ≤ 7 := by omega
          have hq5 : (8 * (q : Int)).toNat = 8 * q := by omega
          clear hq2
          have Hq := Lib.hid hq
          clear hq
          go_wp2_with (first | (at_builtin; refine wpList_append_n _ rfl _ _ 104 rfl (w.heap.size + 1) 5 i0 (.int .u8 0) 1 1 Tryd.underlying104 hi0 hz0 hz1 hz2 rfl (by decide) _ (n + k2) _ rfl (hown.alloc _) ⟨wr.heap.size, 0, none⟩ 1 1 _ rfl rfl (cells_new _ _ _) (ones1 _ _) (by unfold maxLen; omega) (by omega) (by have := RH.lt; simp; omega) ?_; intro v1 w2 hown1 hgrow1))
          have K2 : Keep NoB w w2 := (K.alloc _).grown hgrow1 (fun b hb => by
            obtain rfl : g1 = b := Option.some.inj hb
            exact .inr (by omega))
          have RH2 : Row w2 w.heap.size .u32 97 startH := (RH.alloc _).grown hgrow1 (fun e => by
            have : w.heap.size = g1 := Option.some.inj e
            omega)
          have hown2 : OwnsN w2 (w.heap.size + 1) 5 1 v1 (n + (k2 + 1)) (u8s (l1 ++ be64To N8 (k2 + 1))) := by
            rw [Hq.out, shr_byte] at hown1
            rw [u8s_append, ← be64To_snoc, ← List.append_assoc, ← u8s_append]
            exact hown1
          have hq6 : (q : Int) - 1 = 7 - ((k2 + 1 : Nat) : Int) := by rw [Hq.out]; omega
          clear hgrow1 hown hown1 hq3 hq5
          exact ⟨⟨k2 + 1, by omega, by rw [hq6], RH2, K2, hown2⟩, by simp [intOf]⟩
        · have hp : u8s (l1 ++ be64To N8 8) = u8s (padded (bs s)) := by
            rw [Hl1.out, Hkz2.out, HN8.out, padTo, padded, be64, Hl0.out]
          have hpl : (padded (bs s)).length = n + 8 := by rw [padded_len, Hl0.out, Hn1.out, Hkz2.out]; omega
          have hk8 : k2 = 8 := by omega
          have hk9 : (7 : Int) - k2 = -1 := by omega
          rw [hk8] at hown
          rw [hk9]
          clear hk9
          obtain ⟨p, hpp⟩ : ∃ p, p = padded (bs s) := ⟨_, rfl⟩
          have hp64 : p.length % 64 = 0 := by rw [hpp]; exact padded_mod _
          have hpb : Bytes p := by rw [hpp]; exact padded_bytes _ (bs_bytes s)
          rw [hp, ← hpp] at hown
          rw [← hpp] at hpl
          have Hpp := Lib.hid hpp
          clear hp hpp hk8 hlt hk2
          obtain ⟨g1, cap1, rfl, hg1, hcap1⟩ := hown.some (by omega)
          obtain ⟨m, hm⟩ : ∃ m, m = p.length / 64 := ⟨_, rfl⟩
          have hm64 : p.length = 64 * m := by omega
          have hnm : n + 8 = 64 * m := by omega
          rw [hnm] at hown hcap1
          rw [hnm]
          rw [← hm64] at hown
          have RP := BRow.ofN hown
          rw [hm64] at hown
          have Hm := Lib.hid hm
          have Hm64 := Lib.hid hm64
          have Hnm := Lib.hid hnm
          have hm2 : m ≤ 2000 := by omega
          clear hm hm64 hnm hpl hown hp64
          go_wp2_with fail
          refine wp_world (fun w1 => BRow w1 g1 5 p ∧ Row w1 w.heap.size .u32 97 (blocksTo p 0) ∧ Keep NoB w w1) ⟨RP, RH, K⟩ ?_
          clear RH K RP
          intro w3 hw3
          go_loopw [7] (fun i wr => ∃ k : Nat, k ≤ m ∧ i = .int .i64 (64 * (k : Int)) ∧ BRow wr g1 5 p ∧ Row wr w.heap.size .u32 97 (blocksTo p k) ∧ Keep NoB w wr) (fun i _ => (64 * m - (intOf i).toNat))
          case atStart => exact ⟨0, by omega, rfl, hw3⟩
          case round =>
            clear hw3 w3
            obtain ⟨k3, hk3, rfl, RP, RH, K⟩ := hrel
            by_cases hlt : k3 < m
            · have hs1 := run_string_part (P := Tryd.prog) (off := 64 * k3) (k := 64) (cap := cap1 - 64 * k3) RP (by rw [Hm64.out]; omega) Tryd.underlying104 Tryd.underlying5 Tryd.underlying9
              obtain ⟨c, hc⟩ : ∃ c, c = 64 * k3 := ⟨_, rfl⟩
              have hc2 : 64 * (k3 : Int) = c := by omega
              have hc3 : c + 64 ≤ 64 * m := by omega
              have hc4 : (c : Int) + 64 ≤ 64 * (m : Int) := by omega
              have hc5 : (c : Int) < 64 * (m : Int) := by omega
              rw [hc2]
              rw [← hc] at hs1
              obtain ⟨T, hT⟩ : ∃ T, T = txt ((p.drop c).take 64) := ⟨_, rfl⟩
              rw [← hT] at hs1
              have HT := Lib.hid hT
              have Hc := Lib.hid hc
              have Hc2 := Lib.hid hc2
              clear hT hc hc2
              go_wp2_with fail
              have hTs : Hid (T.size = 64) := by
                show T.size = 64
                rw [HT.out, txt_size, List.length_take, List.length_drop, Hm64.out]; omega
              have hbT : bs T = (p.drop (64 * k3)).take 64 := by
                rw [HT.out, bs_txt (bytes_take (bytes_drop hpb _) _), Hc.out]
              refine (sumBlock_any w.heap.size (blocksTo p k3) T hTs (Lib.hid (blocksTo_len p k3)) (W32.blocks p k3) wr RH (V.keep K (fun x => x)) (by omega)).mono ?_
              rintro e w4 ⟨rfl, RH4, K4⟩
              have RP4 := RP.keep K4 (fun e => by simp only [OneB] at e; omega)
              have K5 : Keep NoB w w4 := K.trans K4 (fun i hi e => by simp only [OneB] at e; omega)
              have RH5 : Row w4 w.heap.size .u32 97 (blocksTo p (k3 + 1)) := by
                rw [hbT] at RH4
                exact RH4
              clear RP RH RH4 K K4 hbT hs1
              go_wp2_with fail
              have hc6 : (c : Int) + 64 = 64 * ((k3 + 1 : Nat) : Int) := by rw [Hc.out]; omega
              exact ⟨⟨k3 + 1, by omega, by rw [hc6], RP4, RH5, K5⟩, by simp [intOf]; omega⟩
            · have hk : k3 = m := by omega
              rw [hk] at RH
              rw [hk]
              rw [Hm.out, Hpp.out] at RH
              obtain ⟨h, hh⟩ : ∃ h, h = blocksTo (padded (bs s)) ((padded (bs s)).length / 64) := ⟨_, rfl⟩
              have hl8 : h.length = 8 := by rw [hh, blocksTo_len]
              have W : W32 h := by rw [hh]; exact W32.blocks _ _
              rw [← hh] at RH
              have Hh := Lib.hid hh
              have Hl8 := Lib.hid hl8
              have hi8 : (Tryd.prog.info? 97).map (·.size) = some (ints .u32 h).size := by rw [ints_size, hl8]; kernel_rfl
              have Hi8 := Lib.hid hi8
              clear hh hl8 hi8 hlt hk hk3
              go_wp2_with (first | (refine wpList_load_row rfl 97 _ rfl w.heap.size rfl 97 (ints .u32 h) (0, 0) _ RH Tryd.underlying97 rfl Hi8.out ?_))
              clear RP Hi8
              refine wp_world (fun w1 => Keep NoB w w1) K ?_
              clear K RH
              intro w5 K5
              go_loopw [8, 54] (fun v i wr => ∃ k : Nat, k ≤ 8 ∧ i = .int .i64 k ∧ Keep NoB w wr ∧ wr.ownsRow w.heap.size 5 1 v (outWords h k).length (u8s (outWords h k))) (fun _ i _ => 8 - (intOf i).toNat)
              case atStart => exact ⟨0, by omega, rfl, K5, World.ownsRow_nil _ _ _ _⟩
              case round =>
                clear K5 w5
                obtain ⟨k4, hk4, rfl, K, hown⟩ := hrel
                by_cases hlt : k4 < 8
                · have j1 : (k4 : Int) < 8 := by omega
                  have hix := run_index_ints (P := Tryd.prog) (kd := .u32) Tryd.underlying97 Tryd.underlying96 rfl (by kernel_rfl) h k4 Hl8.out hlt
                  obtain ⟨x, hx⟩ : ∃ x, x = h.getD k4 0 := ⟨_, rfl⟩
                  have bx : (x : Int) < 4294967296 := by have := W k4; rw [hx]; omega
                  rw [← hx] at hix
                  have Hx := Lib.hid hx
                  clear hx
                  have hlen : (outWords h k4).length = 4 * k4 := outWords_len _ _
                  have Hlen := Lib.hid hlen
                  clear hlen
                  go_wp2_with (first | (at_builtin; refine wpList_append_own _ rfl _ _ 104 rfl w.heap.size 5 i0 (.int .u8 0) 1 1 Tryd.underlying104 hi0 hz0 hz1 hz2 rfl (by decide) _ _ _ rfl (hown.alloc _) ⟨wr.heap.size, 0, none⟩ 4 4 _ rfl rfl (cells_new _ _ _) (ones4 _ _ _ _ _) (by rw [Hlen.out]; unfold maxLen; omega) (by rw [Hlen.out]; omega) (by have := K.size; simp; omega) ?_; intro v' w' hown' hgrow _))
                  have e2 : u8s (outWords h k4) ++ [Value.int .u8 ((x : Int) / 16777216), Value.int .u8 ((x : Int) / 65536 % 256), Value.int .u8 ((x : Int) / 256 % 256), Value.int .u8 ((x : Int) % 256)] = u8s (outWords h (k4 + 1)) := by
                    rw [outWords, outWords, times_succ, ← outWords, u8s_append, ← Hx.out, show (x : Int) / 16777216 = ((x / 16777216 % 256 : Nat) : Int) by omega]; rfl
                  have e3 : (outWords h k4).length + 4 = (outWords h (k4 + 1)).length := by rw [Hlen.out, outWords_len]; omega
                  rw [e2, e3] at hown'
                  have K2 : Keep NoB w w' := (K.alloc _).grown hgrow (fun b hb => .inr (hown.lt b hb).1)
                  clear e2 e3 hgrow hown
                  exact ⟨⟨k4 + 1, by omega, by go_num, K2, hown'⟩, by simp [intOf]; omega⟩
                · have hk : k4 = 8 := by omega
                  rw [hk] at hown
                  have hcv := run_string_own (P := Tryd.prog) hown Tryd.underlying104 Tryd.underlying5 Tryd.underlying9
                  have j1 : decide ((k4 : Int) < 8) = false := by simp; omega
                  have hsha : outWords h 8 = sha (bs s) := by rw [Hh.out, sha]
                  rw [hsha] at hcv
                  clear hk hlt hk4 hsha
                  clear hown
                  go_wp2_with fail
                  go_ret
                  exact ⟨rfl, K⟩
end Go.Proofs.YtndcaaikjcicgaaDoor
