/-
  DERIVED. The walks of strconv.FormatInt of base 16 at 256 .. 511, of the reference's Hex.
-/
import Derived.Test.YtndcaaikjcicgaaDoorRefNum
namespace Go.Cof
open Go.RowKit
/-- 'string(a[i:j])' at an array's block. -/
theorem run_string_cut {P : Program} {w : World} {B off k cap : Nat} {T E : TypeId} {l : List Nat} {src dst : TypeId} (h : BRow w B T l) (hk : off + k ≤ l.length)
    (hs : P.underlying src = some (.slice E)) (he : P.underlying E = some (.int .u8)) (hd : P.underlying dst = some .string) : (convert src dst (.slice (some ⟨B, off, none⟩) k cap)).run P w = .ok (.string (txt ((l.drop off).take k))) w := by
  have hlen : ((l.drop off).take k).length = k := by rw [List.length_take, List.length_drop]; omega
  have h1 := run_convert_bytes_arg (P := P) w src E hs he B off k cap (((l.drop off).take k).map fun (x : Nat) => (x : Int)) (by rw [List.length_map, hlen]) ?_ dst hd
  · rw [h1, strOf_txt]
  · intro i hi
    rw [h.cell (off + i) (by omega)]
    have hi2 : off + i < l.length := by omega
    simp [hi, hi2]
end Go.Cof
namespace Go.Proofs.YtndcaaikjcicgaaDoor
open Go.RowKit Go.Cof
/-- What the walks take of the table math/bits.deBruijn64tab. -/
def DebVar (w : World) : Prop := w.cell? ⟨7, 15, none⟩ = some (.int .u8 4)
theorem DebVar.keep {w w' : World} (h : DebVar w) {S : Nat → Prop} (hk : Keep S w w') (hn : ¬ S 7) : DebVar w' := by
  unfold DebVar at *
  rw [← h]
  refine hk.cell ?_ hn
  rcases Nat.lt_or_ge 7 w.heap.size with h' | h'
  · exact h'
  · simp [World.cell?, Array.getElem?_eq_none h'] at h
theorem tz64_16 (w : World) (D : DebVar w) : Calls Tryd.prog 161 #[.int .u64 16] w fun e w' => e = .returned (.int .i64 4) ∧ w' = w := by
  unfold DebVar at D
  have e1 : bits BinOp.and IntKind.u64 16 (IntKind.u64.wrap (-16)) = 16 := by decide +kernel
  have e2 : IntKind.u64.wrap (16 * 285870213051353865) = 4573923408821661840 := by decide +kernel
  have e3 : (4573923408821661840 : Int) / 288230376151711744 = 15 := by decide +kernel
  go_enter Tryd.func161, Tryd.ntmps161
  go_wp2_with fail
  go_ret
  exact ⟨rfl, rfl⟩
theorem tz_16 (w : World) (D : DebVar w) : Calls Tryd.prog 154 #[.int .u64 16] w fun e w' => e = .returned (.int .i64 4) ∧ w' = w := by
  go_enter Tryd.func154, Tryd.ntmps154
  go_wp2_with fail
  refine (tz64_16 w D).mono ?_
  rintro e w2 ⟨rfl, rfl⟩
  go_wp2_with fail
  go_ret
  exact ⟨rfl, rfl⟩
theorem pow2_16 (w : World) : Calls Tryd.prog 153 #[.int .i64 16] w fun e w' => e = .returned (.bool true) ∧ w' = w := by
  have e1 : bits BinOp.and IntKind.i64 16 15 = 0 := by decide +kernel
  go_enter Tryd.func153, Tryd.ntmps153
  go_wp2_with fail
  go_ret
  exact ⟨rfl, rfl⟩
theorem and15_64 (n : Nat) (h : n < 18446744073709551616) : bits .and .u64 (n : Int) 15 = ((n % 16 : Nat) : Int) := by
  have h8 : ∀ c : Nat, c < 18446744073709551616 → (BitVec.ofInt 64 (c : Int)).toNat = c := fun c hc => by
    rw [BitVec.ofInt_natCast, BitVec.toNat_ofNat]; exact Nat.mod_eq_of_lt (by omega)
  show IntKind.u64.wrap ((BitVec.ofInt 64 (n : Int) &&& BitVec.ofInt 64 ((15 : Nat) : Int)).toNat : Int) = _
  rw [BitVec.toNat_and, h8 n h, h8 15 (by omega), IntKind.wrap_u64]
  have : n &&& 15 = n % 16 := Nat.and_two_pow_sub_one_eq_mod n 4
  omega
def digs36 : ByteArray := ⟨#[48, 49, 50, 51, 52, 53, 54, 55, 56, 57, 97, 98, 99, 100, 101, 102, 103, 104, 105, 106, 107, 108, 109, 110, 111, 112, 113, 114, 115, 116, 117, 118, 119, 120, 121, 122]⟩
theorem digs36_at (n : Nat) (h : n < 16) : (bs digs36).getD n 0 = hexDigit n := by
  have : ∀ i : Fin 16, (bs digs36).getD i.val 0 = hexDigit i.val := by decide
  exact this ⟨n, h⟩
theorem digs36_index (k : IntKind) (n : Nat) (h : n < 16) (w : World) : (Instr.index 9 (.string ⟨#[48, 49, 50, 51, 52, 53, 54, 55, 56, 57, 97, 98, 99, 100, 101, 102, 103, 104, 105, 106, 107, 108, 109, 110, 111, 112, 113, 114, 115, 116, 117, 118, 119, 120, 121, 122]⟩) (.int k n)).run Tryd.prog w = .ok (.int .u8 (hexDigit n : Nat)) w := by
  have h1 := run_index_text (P := Tryd.prog) Tryd.underlying9 digs36 k (n : Int) n rfl (Nat.lt_trans h (by decide)) w
  rw [digs36_at n h] at h1
  exact h1
set_option maxRecDepth 100000 in
set_option maxHeartbeats 4000000 in
theorem format_any (x : Nat) (hx : x < 256) (w : World) (D : DebVar w) :
    Calls Tryd.prog 135 #[.slice none 0 0, .int .u64 (256 + (x : Int)), .int .i64 16, .bool false, .bool false] w fun e w' => e = .returned (.tuple #[.slice none 0 0, .string (txt [49, hexDigit (x / 16), hexDigit (x % 16)])]) ∧ Keep NoB w w' := by
  obtain ⟨v, hv⟩ : ∃ v, v = 256 + x := ⟨_, rfl⟩
  have ev : 256 + (x : Int) = (v : Int) := by omega
  rw [ev]
  have ebg : 16 ≤ (v : Int) := by omega
  obtain ⟨v1, hv1⟩ : ∃ a, a = v / 16 := ⟨_, rfl⟩
  have ev1 : (v : Int) / 16 = (v1 : Int) := by omega
  have eb1 : 16 ≤ (v1 : Int) := by omega
  have ev2 : (v1 : Int) / 16 = 1 := by omega
  have h0 := and15_64 v (by omega)
  have h1 := and15_64 v1 (by omega)
  obtain ⟨d0, hd0⟩ : ∃ a, a = v % 16 := ⟨_, rfl⟩
  obtain ⟨d1, hd1⟩ : ∃ a, a = v1 % 16 := ⟨_, rfl⟩
  rw [← hd0] at h0
  rw [← hd1] at h1
  have i0 := digs36_index .u64 d0 (by omega)
  have i1 := digs36_index .u64 d1 (by omega)
  have i2 := digs36_index .u64 1 (by omega)
  have hfin : [49, hexDigit (x / 16), hexDigit (x % 16)] = [hexDigit 1, hexDigit d1, hexDigit d0] := by
    rw [hd0, hd1, hv1, hv, show (256 + x) % 16 = x % 16 by omega, show (256 + x) / 16 % 16 = x / 16 by omega]; rfl
  rw [hfin]
  clear hfin hd0 hd1 hv1 hv ev hx
  go_enter Tryd.func135, Tryd.ntmps135
  have i2' : ∀ w : World, (Instr.index 9 (.string ⟨#[48, 49, 50, 51, 52, 53, 54, 55, 56, 57, 97, 98, 99, 100, 101, 102, 103, 104, 105, 106, 107, 108, 109, 110, 111, 112, 113, 114, 115, 116, 117, 118, 119, 120, 121, 122]⟩) (.int .u64 1)).run Tryd.prog w = .ok (.int .u8 (hexDigit 1 : Nat)) w := i2
  clear i2
  obtain ⟨g1, hg1⟩ : ∃ g, g = hexDigit 1 := ⟨_, rfl⟩
  rw [← hg1] at i2'
  have Hg1 := Lib.hid hg1
  rw [← hg1]
  clear hg1
  go_wp2_with fail
  refine (pow2_16 _).mono ?_
  rintro e w2 ⟨rfl, rfl⟩
  go_wp2_with fail
  refine (tz_16 _ (D.keep ((Keep.refl NoB w).alloc _) (fun x => x))).mono ?_
  rintro e w2 ⟨rfl, rfl⟩
  go_wp2_with fail
  refine wp_world (fun w1 => BRow w1 w.heap.size 224 (List.replicate 65 0) ∧ Keep NoB w w1) ⟨⟨_, _, heap_alloc_new w _, by kernel_rfl, fun i _ => by simp⟩, (Keep.refl NoB w).alloc _⟩ ?_
  intro w1 hw1
  obtain ⟨R, K⟩ := hw1
  have c64 := R.cell 64 (by decide)
  have f64 := R.free 64 (by decide)
  have c63 := R.cell 63 (by decide)
  have f63 := R.free 63 (by decide)
  have c62 := R.cell 62 (by decide)
  have f62 := R.free 62 (by decide)
  have R3 := ((R.store 64 (by simp) (v := (hexDigit d0 : Nat)) rfl).store 63 (by simp) (v := (hexDigit d1 : Nat)) rfl).store 62 (by simp) (v := (g1 : Nat)) rfl
  have K3 : Keep NoB w (((w1.setCell ⟨w.heap.size, 64, none⟩ (.int .u8 (hexDigit d0 : Nat))).setCell ⟨w.heap.size, 63, none⟩ (.int .u8 (hexDigit d1 : Nat))).setCell ⟨w.heap.size, 62, none⟩ (.int .u8 (g1 : Nat))) :=
    ((K.setCell (p := ⟨w.heap.size, 64, none⟩) (.inr (Nat.le_refl _)) _).setCell (p := ⟨w.heap.size, 63, none⟩) (.inr (Nat.le_refl _)) _).setCell (p := ⟨w.heap.size, 62, none⟩) (.inr (Nat.le_refl _)) _
  have hs1 := run_string_cut (P := Tryd.prog) (off := 62) (k := 3) (cap := 3) (src := 104) R3 (by simp) Tryd.underlying104 Tryd.underlying5 Tryd.underlying9
  have hs2 : (((((List.replicate 65 0).set 64 (hexDigit d0)).set 63 (hexDigit d1)).set 62 g1).drop 62).take 3 = [g1, hexDigit d1, hexDigit d0] := rfl
  rw [hs2] at hs1
  clear hs2 R3
  refine wp_loop_rounds 3 ?_
  rw [rounds_succ]
  go_wp2_with fail
  rw [rounds_succ]
  go_wp2_with fail
  rw [rounds_succ]
  go_wp2_with fail
  go_ret2
  exact ⟨rfl, K3⟩
theorem formatInt_in (x : Nat) (hx : x < 256) (w : World) (D : DebVar w) :
    Calls Tryd.prog 108 #[.int .i64 (256 + (x : Int)), .int .i64 16] w fun e w' => e = .returned (.string (txt [49, hexDigit (x / 16), hexDigit (x % 16)])) ∧ Keep NoB w w' := by
  have b1 : (x : Int) ≤ 255 := by omega
  go_enter Tryd.func108, Tryd.ntmps108
  go_wp2_with fail
  refine (format_any x hx _ D).mono ?_
  rintro e w2 ⟨rfl, K⟩
  go_wp2_with fail
  go_ret
  exact ⟨rfl, K⟩
theorem formatInt_any (x : Nat) (hx : x < 256) (w : World) (D : DebVar w) :
    Calls Tryd.prog 70 #[.int .i64 (256 + (x : Int)), .int .i64 16] w fun e w' => e = .returned (.string (txt [49, hexDigit (x / 16), hexDigit (x % 16)])) ∧ Keep NoB w w' := by
  have b1 : (x : Int) ≤ 255 := by omega
  go_enter Tryd.func70, Tryd.ntmps70
  go_wp2_with fail
  refine (formatInt_in x hx _ D).mono ?_
  rintro e w2 ⟨rfl, K⟩
  go_wp2_with fail
  go_ret
  exact ⟨rfl, K⟩
theorem hexDigit_byte (n : Nat) (h : n < 16) : hexDigit n < 256 := by unfold hexDigit; split <;> omega
theorem hexTo_bytes (l : List Nat) (hl : Bytes l) (k : Nat) : Bytes (hexTo l k) := by
  induction k with
  | zero => intro x hx; simp [hexTo] at hx
  | succ k ih =>
    rw [hexTo]
    refine bytes_append ih ?_
    have := bytes_getD hl k
    intro x hx
    simp only [List.mem_cons, List.not_mem_nil, or_false] at hx
    rcases hx with rfl | rfl <;> exact hexDigit_byte _ (by omega)
set_option maxRecDepth 100000 in
set_option maxHeartbeats 4000000 in
theorem refHex_any (s : ByteArray) (hs : s.size ≤ 1000000) (w : World) (D : DebVar w) :
    Calls Tryd.prog 16 #[.string s] w fun e w' => e = .returned (.string (txt (hex (bs s)))) ∧ Keep NoB w w' := by
  go_enter Tryd.func16, Tryd.ntmps16
  go_wp2
  go_loopw [3, 7] (fun o i wr => ∃ (k : Nat) (A : ByteArray), k ≤ s.size ∧ i = .int .i64 k ∧ o = .string A ∧ Hid (bs A = hexTo (bs s) k) ∧ Keep NoB w wr) (fun _ i _ => s.size - (intOf i).toNat)
  case atStart => exact ⟨0, _, by omega, rfl, rfl, rfl, Keep.refl _ _⟩
  case round =>
    obtain ⟨k, A, hk, rfl, rfl, hA, K⟩ := hrel
    have hAs : A.size = 2 * k := by rw [← bs_len, hA.out, hexTo_len]
    by_cases hlt : k < s.size
    · have j1 : (k:Int) < s.size := by omega
      have hb := bs_getD s k hlt
      obtain ⟨x, hx⟩ : ∃ x, x = s[k].toNat := ⟨_, rfl⟩
      have hx256 : x < 256 := by rw [hx]; exact s[k].toNat_lt
      have hxi : (s[k].toNat : Int) = (x : Int) := by omega
      have hxb : (x : Int) ≤ 255 := by omega
      have hadd : (x : Int) + 256 = 256 + (x : Int) := by omega
      have hcat : ¬ (9223372036854775807 < A.size + (txt [hexDigit (x / 16), hexDigit (x % 16)]).size) := by rw [hAs, txt_size]; simp; omega
      have hA2 : Hid (bs (A ++ txt [hexDigit (x / 16), hexDigit (x % 16)]) = hexTo (bs s) (k + 1)) := by
        show bs _ = _
        rw [bs_append, hA.out, hexTo, hb, ← hx, bs_txt (fun y hy => by simp only [List.mem_cons, List.not_mem_nil, or_false] at hy; rcases hy with rfl | rfl <;> exact hexDigit_byte _ (by omega))]
      have Hcat := Lib.hid hcat
      have Hx := Lib.hid hx256
      have Hadd := Lib.hid hadd
      clear hAs hb hx hcat hx256 hadd
      go_wp2_with fail
      have hf := formatInt_any x Hx.out _ (D.keep K (fun x => x))
      rw [← Hadd.out] at hf
      refine hf.mono ?_
      clear hf
      rintro e w2 ⟨rfl, K2⟩
      have hcat := Hcat.out
      obtain ⟨T, hT⟩ : ∃ T, T = txt [49, hexDigit (x / 16), hexDigit (x % 16)] := ⟨_, rfl⟩
      have hTs : (1 : Int) ≤ T.size := by rw [hT, txt_size]; simp
      have hTe : T.extract 1 T.size = txt [hexDigit (x / 16), hexDigit (x % 16)] := by
        have := Hx.out
        apply bs_inj
        rw [bs_extract, hT, txt_size, bs_txt (fun y hy => by simp only [List.mem_cons, List.not_mem_nil, or_false] at hy; rcases hy with rfl | rfl | rfl; omega; exact hexDigit_byte _ (by omega); exact hexDigit_byte _ (by omega)), bs_txt (fun y hy => by simp only [List.mem_cons, List.not_mem_nil, or_false] at hy; rcases hy with rfl | rfl <;> exact hexDigit_byte _ (by omega))]
        rfl
      rw [← hT]
      have HT := Lib.hid hT
      clear hT
      go_wp2_with fail
      exact ⟨⟨k + 1, _, by omega, by go_num, rfl, hA2, K.thenN K2⟩, by simp [intOf]; omega⟩
    · have hk8 : k = s.size := by omega
      have hfin : A = txt (hex (bs s)) := by
        apply bs_inj
        rw [hA.out, hk8, hex, bs_len, bs_txt (hexTo_bytes _ (bs_bytes s) _)]
      have Hfin := Lib.hid hfin
      have j1 : decide (k < s.size) = false := by simp; omega
      have j2 : decide ((k : Int) < s.size) = false := by simp; omega
      clear hk8 hlt hk hfin hAs
      go_wp2_with fail
      go_ret
      exact ⟨congrArg (fun t => Ending.returned (.string t)) Hfin.out, K⟩
end Go.Proofs.YtndcaaikjcicgaaDoor
