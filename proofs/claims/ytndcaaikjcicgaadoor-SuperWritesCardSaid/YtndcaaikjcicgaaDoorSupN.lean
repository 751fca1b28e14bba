/-
  DERIVED. super.number; a block that tells of all, read: in plain Lean.
-/
import Derived.Test.YtndcaaikjcicgaaDoorSupR
import Derived.Test.YtndcaaikjcicgaaDoorUnseal
set_option linter.unusedVariables false
set_option linter.unusedSimpArgs false
namespace Go.Proofs.YtndcaaikjcicgaaDoor
open Go.RowKit Go.Cof
/-- What a text of 82 bytes or more is read as. -/
def readSup (s : ByteArray) : SupV := ⟨openVer ((bs s).drop 2), openVer ((bs s).drop 10), (List.range 32).map fun i => decide ((bs s).getD (18 + i) 0 = 49), s.extract 50 66⟩
theorem readSup_sides (s : ByteArray) : (readSup s).sides.length = 32 := by simp [readSup]
def zeroSup : SupV := ⟨0, 0, List.replicate 32 false, ⟨#[]⟩⟩
/-- It was written so, and behind it there is 0. -/
def parseB (key s : ByteArray) : Bool := supMay key (readSup s) && decide ((bs s).take 82 = supT key (readSup s)) && decide ((bs s).drop 82 = List.replicate (s.size - 82) 0)
def parseE (key s : ByteArray) : Int := if key.size = 32 then (if s.size < 82 then 15 else if parseB key s then 0 else 15) else 1
def parseV (key s : ByteArray) : SupV := if key.size = 32 ∧ 82 ≤ s.size ∧ parseB key s = true then readSup s else zeroSup
theorem parseV_sides (key s : ByteArray) : (parseV key s).sides.length = 32 := by
  rw [parseV]
  split
  · exact readSup_sides s
  · exact List.length_replicate
set_option maxRecDepth 100000 in
set_option maxHeartbeats 4000000 in
theorem supNumber_any (s : ByteArray) (hs : 8 ≤ s.size) (hs2 : s.size ≤ 1000000) (w : World) :
    Calls Tryd.prog 105 #[.string s] w fun e w' => e = .returned (.int .i64 (openVer (bs s))) ∧ w' = w := by
  go_enter Tryd.func105, Tryd.ntmps105
  go_wp2_with fail
  go_loopw [3, 5] (fun v i wr => ∃ k : Nat, k ≤ 8 ∧ i = .int .i64 k ∧ v = .int .i64 (numI (numN ((bs s).take k))) ∧ wr = w) (fun _ i _ => 8 - (intOf i).toNat)
  case atStart => exact ⟨0, by omega, rfl, by rw [List.take_zero]; show _ = Value.int .i64 (wrap64 ((0 : Nat) : Int)); unfold wrap64; rfl, rfl⟩
  case round =>
    obtain ⟨k, hk, rfl, rfl, rfl⟩ := hrel
    by_cases hlt : k < 8
    · have j1 : (k : Int) < 8 := by omega
      have hks : k < s.size := by omega
      have hki : (k : Int) < s.size := by omega
      have hstep := numN_step (bs s) k (by rw [bs_len]; exact hks)
      rw [bs_getD s k hks] at hstep
      have hor := i64_or (numN ((bs s).take k)) s[k].toNat s[k].toNat_lt
      rw [← hstep] at hor
      have Hst := Lib.hid hstep
      have Hor := Lib.hid hor
      clear hstep hor
      have hw8 := s_byte_lt s k hks
      go_wp2_with fail
      exact ⟨⟨k + 1, by omega, by go_num, by rw [Hor.out], trivial⟩, by simp [intOf]; omega⟩
    · obtain rfl : k = 8 := by omega
      go_wp2_with fail
      go_ret
      exact ⟨rfl, rfl⟩
end Go.Proofs.YtndcaaikjcicgaaDoor
