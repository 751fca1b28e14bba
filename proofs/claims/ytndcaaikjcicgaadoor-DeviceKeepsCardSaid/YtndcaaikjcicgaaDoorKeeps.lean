/-
  DERIVED. The walk of DeviceKeeps.
-/
import Derived.Test.YtndcaaikjcicgaaDoorRDev7
import Derived.Test.YtndcaaikjcicgaaDoorApp
import Derived.Deep.CutBlock
import Derived.Deep.DeepCutAuto
import Derived.Deep.RegionHeld3
set_option linter.unusedVariables false
set_option linter.unusedSimpArgs false
namespace Go.Proofs.YtndcaaikjcicgaaDoor
open Go.RowKit Go.Cof
/-- An operation of the law. -/
structure OpV where
  what : Int
  at_ : Int
  s : ByteArray
  kv : Value
  keeps : List Bool
/-- What one operation's four cells are. -/
structure OpAt (w : World) (B off : Nat) (o : OpV) : Prop where
  c0 : w.cell? ⟨B, off, none⟩ = some (.int .i64 o.what)
  c1 : w.cell? ⟨B, off + 1, none⟩ = some (.int .i64 o.at_)
  c2 : w.cell? ⟨B, off + 2, none⟩ = some (.string o.s)
  c3 : w.cell? ⟨B, off + 3, none⟩ = some o.kv
  bs : Bools w o.kv o.keeps
  lo : -9223372036854775808 ≤ o.at_
  hi : o.at_ ≤ 9223372036854775807
theorem OpAt.keep {w w' : World} {B off : Nat} {o : OpV} (h : OpAt w B off o) (hB : B < w.heap.size) (K : Keep NoB w w') : OpAt w' B off o :=
  ⟨(K.cell (p := ⟨B, off, none⟩) hB (fun x => x)).trans h.c0, (K.cell (p := ⟨B, off + 1, none⟩) hB (fun x => x)).trans h.c1, (K.cell (p := ⟨B, off + 2, none⟩) hB (fun x => x)).trans h.c2, (K.cell (p := ⟨B, off + 3, none⟩) hB (fun x => x)).trans h.c3, h.bs.keep K (fun _ _ x => x), h.lo, h.hi⟩
/-- A slice that reads as operations. -/
def Ops (w : World) (v : Value) (l : List OpV) : Prop :=
  (l = [] ∧ ∃ p c, v = .slice p 0 c) ∨ ∃ B off c, v = .slice (some ⟨B, off, none⟩) l.length c ∧ B < w.heap.size ∧ ∀ i o, l[i]? = some o → OpAt w B (off + i * 4) o
theorem Ops.len {w : World} {v : Value} {l : List OpV} (h : Ops w v l) : ∃ p c, v = .slice p l.length c := by
  rcases h with ⟨rfl, p, c, hv⟩ | ⟨B, off, c, hv, _⟩
  · exact ⟨p, c, hv⟩
  · exact ⟨_, c, hv⟩
theorem Ops.at {w : World} {p : Option Addr} {n c : Nat} {l : List OpV} (h : Ops w (.slice p n c) l) (hl : 0 < l.length) : ∃ B off, p = some ⟨B, off, none⟩ ∧ n = l.length ∧ B < w.heap.size ∧ ∀ i o, l[i]? = some o → OpAt w B (off + i * 4) o := by
  rcases h with ⟨rfl, _⟩ | ⟨B, off, c, hv, hB, hc⟩
  · simp at hl
  · cases hv
    exact ⟨B, off, rfl, rfl, hB, hc⟩
theorem st_start {w0 w1 w2 : World} {D S : Nat} {sv : Value} (R0 : RDev w1 w0.heap.size sv (.slice none 0 0) (.slice none 0 0) sure0 [] (-1)) (hsv : ∀ b, sv.ownBlock = some b → w0.heap.size < b) (K1 : Keep NoB w0 w1) (D0 : DevAt w2 D S (.slice none 0 0) sure0 [] (-1)) (hD : w1.heap.size ≤ D) (hS : w1.heap.size ≤ S) (K2 : Keep NoB w1 w2) :
    St w0 (w2.alloc (.cells #[.int .i64 0] 33)) D w0.heap.size w2.heap.size none (sure0, [], -1) (sure0, [], -1) 0 := by
  have K3 : Keep NoB w2 (w2.alloc (.cells #[.int .i64 0] 33)) := (Keep.refl _ _).alloc _
  have l1 : ∀ b, DevB D S (.slice none 0 0) b → w1.heap.size ≤ b ∧ b < w2.heap.size := by
    intro b hb
    refine ⟨?_, devLt (d := (sure0, [], -1)) D0 b hb⟩
    rcases hb with rfl | rfl | hb
    · exact hD
    · exact hS
    · cases hb
  have l2 : ∀ b, RB w0.heap.size sv (.slice none 0 0) (.slice none 0 0) b → w0.heap.size ≤ b ∧ b < w1.heap.size := by
    intro b hb
    refine ⟨?_, RDev.lt (r := (sure0, [], -1)) R0 b hb⟩
    rcases hb with rfl | hb | hb | hb
    · exact Nat.le_refl _
    · exact Nat.le_of_lt (hsv b hb)
    · cases hb
    · cases hb
  have s1 := K1.size
  have s2 := K2.size
  refine ⟨S, .slice none 0 0, sv, .slice none 0 0, .slice none 0 0, D0.keep K3 (fun _ _ x => x), (R0.keep K2 (fun _ _ x => x)).keep K3 (fun _ _ x => x), heap_alloc_new w2 _, ?_, ?_, ⟨?_, ?_⟩, (K1.thenN K2).thenN K3, fun X o e => by cases e⟩
  · rintro b (hb | hb | rfl)
    · have := (l1 b hb).1; omega
    · exact (l2 b hb).1
    · omega
  · intro b hb hx
    have := (l1 b hb).1
    have := (l2 b hx).2
    omega
  · intro hb; have := (l1 _ hb).2; omega
  · intro hb; have := (l2 _ hb).2; omega
set_option maxRecDepth 100000 in
set_option maxHeartbeats 4000000 in
theorem deviceKeeps_any (v v1 : Value) (w : World) (hg : ErrVar w) (l : List OpV) (O : Ops w v l) (first : List ByteArray) (T : Strs w v1 first) :
    Calls Tryd.prog 8 #[v, v1] w fun e w' => e = .returned (.bool true) ∧ Keep NoB w w' := by
  obtain ⟨a, c1, rfl⟩ := T.len
  obtain ⟨n, hn⟩ : ∃ n, n = first.length := ⟨_, rfl⟩
  rw [← hn] at T ⊢
  have Hn := Lib.hid hn
  clear hn
  obtain ⟨p, c, rfl⟩ := O.len
  obtain ⟨m, hlm⟩ : ∃ m, m = l.length := ⟨_, rfl⟩
  rw [← hlm] at O ⊢
  have Hm := Lib.hid hlm
  clear hlm
  by_cases hm : m ≤ 40
  · by_cases hf : n ≤ 80
    · have j1 : ¬ ((40 : Int) < m) := by omega
      have j2 : ¬ ((80 : Int) < n) := by omega
      go_enter Tryd.func8, Tryd.ntmps8
      go_wp2_with fail
      go_loopw [5] (fun i wr => ∃ k : Nat, k ≤ n ∧ i = .int .i64 k ∧ (∀ j, j < k → (first.getD j ⟨#[]⟩).size ≤ 300) ∧ wr = w) (fun i _ => n - (intOf i).toNat)
      case atStart => exact ⟨0, by omega, rfl, fun j hj => by omega, rfl⟩
      case round =>
        obtain ⟨k, hk, rfl, hrun, rfl⟩ := hrel
        by_cases hlt : k < n
        · have j3 : (k : Int) < n := by omega
          obtain ⟨b1, o1, rfl, -, _, hc1⟩ := T.at (by have := Hn.out; omega)
          have hx := hc1 k (by have := Hn.out; omega)
          clear hc1
          obtain ⟨s, hs⟩ : ∃ s, s = first.getD k ⟨#[]⟩ := ⟨_, rfl⟩
          rw [← hs] at hx
          have Hs := Lib.hid hs
          clear hs
          by_cases hsz : s.size ≤ 300
          · have j4 : ¬ ((300 : Int) < s.size) := by omega
            have hnext : ∀ j, j < k + 1 → (first.getD j ⟨#[]⟩).size ≤ 300 := by
              intro j hj
              rcases Nat.lt_succ_iff_lt_or_eq.1 hj with h | rfl
              · exact hrun j h
              · rw [← Hs.out]; exact hsz
            go_wp2_with fail
            exact ⟨⟨k + 1, by omega, by go_num, hnext, trivial⟩, by simp [intOf]; omega⟩
          · have j4 : (300 : Int) < s.size := by omega
            go_wp2_with fail
            go_ret
            exact ⟨rfl, Keep.refl _ _⟩
        · obtain rfl : k = n := by omega
          have hall : ∀ s ∈ first, s.size ≤ 300 := by
            intro s hs
            obtain ⟨j, hj, rfl⟩ := List.getElem_of_mem hs
            have := hrun j (by have := Hn.out; omega)
            rwa [List.getD_eq_getElem?_getD, List.getElem?_eq_getElem hj] at this
          clear hrun
          obtain ⟨W, hW⟩ : ∃ W, W = wr := ⟨_, rfl⟩
          subst hW
          go_wp2_with (first | (go_at_call 48; refine (refNew_any _).mono ?_; rintro e w1 ⟨sv, rfl, R0, hsv, K1⟩) | (go_at_call 34; refine (newDev_any _).mono ?_; rintro e w2 ⟨D, S, rfl, D0, hD, hS, K2⟩))
          have hst := st_start R0 hsv K1 D0 hD hS K2
          obtain ⟨E, hE⟩ : ∃ E, E = W.heap.size := ⟨_, rfl⟩
          obtain ⟨B, hB⟩ : ∃ B, B = w2.heap.size := ⟨_, rfl⟩
          rw [← hE, ← hB] at hst ⊢
          refine wp_world (fun w4 => St W w4 D E B none (sure0, [], -1) (sure0, [], -1) 0) hst ?_
          clear hst R0 hsv K1 D0 hD hS K2 hE hB
          intro w4 hst
          go_loopw [9, 10] (fun cv i wx => ∃ (j : Nat) (d : DSt) (q : Int), j ≤ m ∧ i = .int .i64 j ∧ cv = .int .i64 q ∧ d.2.1.length ≤ j ∧ St W wx D E B none d d q) (fun _ i _ => m - (intOf i).toNat)
          case atStart => exact ⟨0, _, 0, by omega, rfl, rfl, Nat.le_refl _, hst⟩
          case round =>
            clear hst w4
            obtain ⟨j, d, q, hj, rfl, rfl, hdl, hst⟩ := hrel
            by_cases hjm : j < m
            · have j5 : (j : Int) < m := by omega
              obtain ⟨ob, oo, rfl, -, hob, hat⟩ := O.at (by have := Hm.out; omega)
              obtain ⟨o, ho⟩ : ∃ o, l[j]? = some o := ⟨_, List.getElem?_eq_getElem (by have := Hm.out; omega)⟩
              have hoj0 := hat j o ho
              clear hat ho
              have hKw : Keep NoB W wr := hst.kept
              have hoj := hoj0.keep hob hKw
              have o0 := hoj.c0
              have o1 := hoj.c1
              have o2 := hoj.c2
              have o3 := hoj.c3
              have oK := hoj0.bs
              have olo := hoj.lo
              have ohi := hoj.hi
              clear hoj hoj0
              obtain ⟨ow, oa, os, okv, oks⟩ := o
              dsimp only at o0 o1 o2 o3 oK olo ohi
              obtain ⟨okp, okc, rfl⟩ := oK.len
              by_cases hbig : os.size ≤ 300 ∧ oks.length ≤ 40
              · have k1 : ¬ ((300 : Int) < os.size) := by omega
                have k2 : ¬ ((40 : Int) < oks.length) := by omega
                have hX := hst.withX (.cells #[.int .i64 ow, .int .i64 oa, .string os, .slice okp oks.length okc] 73)
                obtain ⟨X, hXe⟩ : ∃ X, X = wr.heap.size := ⟨_, rfl⟩
                go_upto_block 4 with fail
                rw [← hXe] at hX ⊢
                refine wp_world (fun w5 => St W w5 D E B (some (X, .cells #[.int .i64 ow, .int .i64 oa, .string os, .slice okp oks.length okc] 73)) d d q) hX ?_
                clear hX hXe hst hKw o0 o1 o2 o3
                intro w5 h5
                go_cut [9, 12] (fun cv e wx => ∃ (d' : DSt) (q' : Int), cv = .int .i64 q' ∧ d'.2.1.length ≤ j + 1 ∧ St W wx D E B (some (X, .cells #[.int .i64 ow, .int .i64 oa, .string os, .slice okp oks.length okc] 73)) d' d' q')
                case first =>
                  have xc : ∀ w : World, w.heap[X]? = some (.cells #[.int .i64 ow, .int .i64 oa, .string os, .slice okp oks.length okc] 73) → w.cell? ⟨X, 0, none⟩ = some (.int .i64 ow) ∧ w.cell? ⟨X, 1, none⟩ = some (.int .i64 oa) ∧ w.cell? ⟨X, 2, none⟩ = some (.string os) ∧ w.cell? ⟨X, 3, none⟩ = some (.slice okp oks.length okc) := by
                    intro w hw
                    simp [World.cell?, hw]
                  have Xc := Lib.hid xc
                  clear xc
                  obtain ⟨x0, x1, x2, x3⟩ := Xc.out _ h5.xat
                  by_cases e2 : ow = 2
                  · subst e2
                    go_wp2_with (first | (go_at_call 43; refine (fuse_St h5 oa ohi).mono ?_; rintro e w6 ⟨rfl, h6⟩; obtain ⟨y0, y1, y2, y3⟩ := Xc.out _ h6.xat) | (go_at_call 51; refine (refFuse_St h6 oa olo ohi).mono ?_; rintro e w7 ⟨rfl, h7⟩))
                    go_meet
                    case rel => exact ⟨fuS d oa, q, rfl, Nat.le_succ_of_le hdl, h7⟩
                  · by_cases e3 : ow = 3
                    · subst e3
                      go_wp2_with (first | (go_at_call 40; refine (crash_St h5 _ oks oK (by omega)).mono ?_; rintro e w6 ⟨rfl, h6⟩; obtain ⟨y0, y1, y2, y3⟩ := Xc.out _ h6.xat) | (go_at_call 52; refine (refCrash_St h6 _ oks oK (by omega)).mono ?_; rintro e w7 ⟨rfl, h7⟩))
                      go_meet
                      case rel => exact ⟨crS d oks, q, rfl, Nat.zero_le _, h7⟩
                    · by_cases e1 : ow = 1
                      · subst e1
                        have hne : (syE d == syE d) = true := by simp
                        have hg5 := hg.keep h5.kept (fun x => x)
                        go_wp2_with (first | (go_at_call 38; refine (sync_St h5).mono ?_; rintro e w6 ⟨rfl, h6⟩) | (go_at_call 50; refine (refSync_St h6).mono ?_; rintro e w7 ⟨rfl, h7⟩; have hg7 := hg.keep h7.kept (fun x => x)) | (go_at_call 27; refine (bare_any _ _ _ hg7).mono ?_; rintro e w8 ⟨rfl, K8⟩))
                        go_meet
                        case rel => exact ⟨syS d, q, rfl, Nat.le_succ_of_le (Nat.le_trans (syS_len d) hdl), h7.keepN K8⟩
                      · by_cases e0 : ow = 0
                        · subst e0
                          have h5d := h5.keepN ((Keep.refl NoB w5).drew)
                          obtain ⟨v0, v1x, v2x, v3⟩ := Xc.out _ h5d.xat
                          have hd5 : d.2.1.length < 1000000 := by omega
                          have hne : (wrE d oa os == wrE d oa os) = true := by simp
                          go_wp2_with fail
                          go_region_held3 (fun w' => w'.cell? ⟨X, 1, none⟩ = some (.int .i64 oa) ∧ w'.cell? ⟨X, 2, none⟩ = some (.string os)) (first | exact ⟨v1x, v2x⟩ | exact ⟨y1, y2⟩ | exact ⟨z1, z2⟩ | exact ⟨u1, u2⟩) ((first | (go_at_call 36; refine (write_St h5d oa os hd5).mono ?_; rintro e w6 ⟨rfl, h6⟩; obtain ⟨y0, y1, y2, y3⟩ := Xc.out _ h6.xat) | (go_at_call 49; refine (refWrite_St h6 oa os hd5).mono ?_; rintro e w7 ⟨rfl, h7⟩; obtain ⟨z0, z1, z2, z3⟩ := Xc.out _ h7.xat; have hg7 := hg.keep h7.kept (fun x => x)) | (go_at_call 27; refine (bare_any _ _ _ hg7).mono ?_; rintro e w8 ⟨rfl, K8⟩; obtain ⟨u0, u1, u2, u3⟩ := Xc.out _ (h7.keepN K8).xat)))
                          go_wp2_with fail
                          go_meet
                          case rel => exact ⟨wrS d oa os, q, rfl, Nat.le_trans (wrS_len d oa os) (Nat.succ_le_succ hdl), h7.keepN K8⟩
                        · by_cases e4 : ow = 4
                          · subst e4
                            have hsz : ∀ s ∈ first, s.size ≤ 1000000 := fun s hs => Nat.le_trans (hall s hs) (by omega)
                            have hfl : first.length ≤ 1000000 := by have := Hn.out; omega
                            have T5 := T.keep h5.kept (fun _ _ x => x)
                            obtain ⟨i0, hi0, hz0, hz1, hz2⟩ := info_parts info_string
                            have hkl : first.length = k := Hn.out.symm
                            go_wp2_with (first | (go_at_call 53; refine (refLay_St h6 _ first T hfl hsz).mono ?_; rintro e w7 ⟨rfl, h7⟩) | (refine wpList_append_t rfl (.tmp 110) (.tmp 111) 22 rfl w5.heap.size 9 i0 Tryd.underlying22 hi0 hz0 hz1 hz2 w5.heap.size 0 0 [] first rfl (OwnsN.lit w5 w5.heap.size 9 1 #[] 0 (Nat.le_refl _) (Nat.zero_le _) rfl) _ rfl (T5.keep ((Keep.refl NoB w5).alloc (.cells #[] 9)) (fun _ _ x => x)) k (by omega) (by omega) (by simp) ?_; intro g6 cap6 w6 own6 hgrow6 where6; have K6 : Keep NoB w5 w6 := ((Keep.refl NoB w5).alloc (.cells #[] 9)).trans hgrow6 (fun i hi hx => absurd (show i = w5.heap.size from hx) (by omega)); have hv6 := fun b hb => (own6.lt b hb).1; rw [List.nil_append] at own6; have T6 : Strs w6 (.slice (some ⟨g6, 0, none⟩) k cap6) first := strs_ofN (by rw [hkl]; exact own6); clear own6 hgrow6 where6) | (go_at_call 42; refine (lay_St h5 K6 _ first T6 hfl hsz hv6).mono ?_; rintro e w6b ⟨rfl, h6⟩))
                            go_meet
                            case rel => exact ⟨laS d first, q, rfl, Nat.zero_le _, h7⟩
                          · by_cases e5 : ow = 5
                            · subst e5
                              by_cases hq : q < oa
                              · have h5d := h5.keepN ((Keep.refl NoB w5).drew)
                                obtain ⟨v0, v1x, v2x, v3⟩ := Xc.out _ h5d.xat
                                have hg5 := hg.keep h5.kept (fun x => x)
                                go_wp2_with fail
                                go_region_held3 (fun w' => w'.cell? ⟨X, 1, none⟩ = some (.int .i64 oa)) (first | exact v1x) (fail)
                                go_wp2_with (first | (go_at_call 22; refine (raise_St h5d oa).mono ?_; rw [if_pos hq, if_pos hq]; rintro e w6 ⟨rfl, h6⟩; have hg6 := hg.keep h6.kept (fun x => x)) | (go_at_call 27; refine (bare_any _ _ _ hg6).mono ?_; rintro e w8 ⟨rfl, K8⟩))
                                go_meet
                                case rel => exact ⟨d, oa, rfl, Nat.le_succ_of_le hdl, h6.keepN K8⟩
                              · go_wp2_with (first | (go_at_call 22; refine (raise_St h5 oa).mono ?_; rw [if_neg hq, if_neg hq]; rintro e w6 ⟨rfl, h6⟩; have hg6 := hg.keep h6.kept (fun x => x)) | (go_at_call 27; refine (bare_any _ _ _ hg6).mono ?_; rintro e w8 ⟨rfl, K8⟩))
                                go_meet
                                case rel => exact ⟨d, q, rfl, Nat.le_succ_of_le hdl, h6.keepN K8⟩
                            · go_wp2_with fail
                              go_meet
                              case rel => exact ⟨d, q, rfl, Nat.le_succ_of_le hdl, h5⟩
                case rest =>
                  clear h5
                  clear w5
                  obtain ⟨d2, q2, rfl, hd2, h6⟩ := hcut
                  have hx1 : wc.cell? ⟨X, 1, none⟩ = some (.int .i64 oa) := by simp [World.cell?, h6.xat]
                  go_wp2_with (first | (go_at_call 24; refine (get_St h6).mono ?_; rintro e w7 ⟨rfl, rfl⟩) | (go_at_call 39; refine (image_St h6).mono ?_; rintro e w8 ⟨v8, rfl, T8, h8, K8⟩) | (go_at_call 54; refine (refImage_St h8).mono ?_; rintro e w9 ⟨v9, rfl, T9, h9, K9⟩; have T8' := T8.keep K9 (fun _ _ x => x); obtain ⟨hL, _⟩ := h9.lens) | (go_at_call 30; refine (sameTexts_any _ _ _ _ _ T8' T9 (by omega) (by omega)).mono ?_; rintro e w10 ⟨rfl, K10⟩; have h10 := h9.keepN K10; clear h6 h8 T8 K8 T8' T9 h9 K9 hL K10 hx1; have hx1 : w10.cell? ⟨X, 1, none⟩ = some (.int .i64 oa) := by simp [World.cell?, h10.xat]))
                  obtain ⟨w11, hw11⟩ : ∃ w11, w11 = w10.alloc (.cells #[.int .i64 oa, .int .i64 0, .int .i64 1, .int .i64 65, .int .i64 66, .int .i64 (-1)] 3) := ⟨_, rfl⟩
                  have h11 : St W w11 D E B (some (X, .cells #[.int .i64 ow, .int .i64 oa, .string os, .slice okp oks.length okc] 73)) d2 d2 q2 := by rw [hw11]; exact h10.keepN ((Keep.refl NoB w10).alloc _)
                  obtain ⟨L, hL⟩ : ∃ L, L = w10.heap.size := ⟨_, rfl⟩
                  have hcells : L < w11.heap.size ∧ ∀ t : Nat, t < 6 → ∃ z : Int, w11.cell? ⟨L, t, none⟩ = some (.int .i64 z) := by
                    rw [hL, hw11]
                    refine ⟨by simp, fun t ht => ?_⟩
                    have hnew := heap_alloc_new w10 (.cells #[.int .i64 oa, .int .i64 0, .int .i64 1, .int .i64 65, .int .i64 66, .int .i64 (-1)] 3)
                    have : t = 0 ∨ t = 1 ∨ t = 2 ∨ t = 3 ∨ t = 4 ∨ t = 5 := by omega
                    rcases this with rfl | rfl | rfl | rfl | rfl | rfl <;> exact ⟨_, by rw [cell_of_row _ _ _ _ 3 (0, 0) hnew]; rfl⟩
                  rw [← hL]
                  refine wp_world (fun w12 => w12 = w11) hw11.symm ?_
                  rintro w12 rfl
                  clear hw11 hL h10 hx1
                  go_loopw [146] (fun i wx => ∃ t : Nat, t ≤ 6 ∧ i = .int .i64 t ∧ Keep NoB w12 wx) (fun i _ => 6 - (intOf i).toNat)
                  case atStart => exact ⟨0, by omega, rfl, Keep.refl _ _⟩
                  case round =>
                    obtain ⟨t, ht, rfl, Kt⟩ := hrel
                    have h13 := h11.keepN Kt
                    by_cases ht6 : t < 6
                    · have j6 : (t : Int) < 6 := by omega
                      obtain ⟨z, hz⟩ := hcells.2 t ht6
                      have hz2 := (Kt.cell (p := ⟨L, t, none⟩) hcells.1 (fun x => x)).trans hz
                      clear hz
                      have hgt := hg.keep h13.kept (fun x => x)
                      have hq : ∀ q : ByteArray, (q.toList == q.toList) = true := fun q => by simp
                      have hq1 := hq (rdS d2 z)
                      have hne : (rdE z == rdE z) = true := by simp
                      clear hq
                      go_wp2_with (first | (go_at_call 55; refine (refRead_St h13 z).mono ?_; rintro e w14 ⟨rfl, rfl⟩) | (go_at_call 46; refine (read_St h13 z).mono ?_; rintro e w15 ⟨rfl, h15, K15⟩; have hg15 := hgt.keep K15 (fun x => x)) | (go_at_call 27; refine (bare_any _ _ _ hg15).mono ?_; rintro e w16 ⟨rfl, K16⟩))
                      exact ⟨⟨t + 1, by omega, by go_num, (Kt.thenN K15).thenN K16⟩, by simp [intOf]; omega⟩
                    · obtain rfl : t = 6 := by omega
                      have h14 := h13.dropX
                      go_wp2_with fail
                      exact ⟨⟨j + 1, d2, q2, by omega, by go_num, rfl, hd2, h14⟩, by simp [intOf]; omega⟩
              · have k1 : (300 : Int) < os.size ∨ (40 : Int) < oks.length := by omega
                have k3 : (300 : Int) < os.size ∨ (os.size : Int) ≤ 300 := by omega
                go_wp2_with fail
                all_goals go_ret
                all_goals exact ⟨rfl, hKw.alloc _⟩
            · obtain rfl : j = m := by omega
              go_wp2_with fail
              go_ret
              exact ⟨rfl, hst.kept⟩
    · have j1 : ¬ ((40 : Int) < m) := by omega
      have j2 : (80 : Int) < n := by omega
      go_enter Tryd.func8, Tryd.ntmps8
      go_wp2_with fail
      go_ret
      exact ⟨rfl, Keep.refl _ _⟩
  · have j1 : (40 : Int) < m := by omega
    have j2 : (80 : Int) < n ∨ (n : Int) ≤ 80 := by omega
    go_enter Tryd.func8, Tryd.ntmps8
    go_wp2_with fail
    all_goals go_ret
    all_goals exact ⟨rfl, Keep.refl _ _⟩
end Go.Proofs.YtndcaaikjcicgaaDoor
