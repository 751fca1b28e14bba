/-
  DERIVED. item.Parse: the walk. (Under way.)
-/
import Derived.Test.YtcjilojkhmondaaDoorParse
import Derived.Test.YtcjilojkhmondaaDoorAlike
import Derived.Test.YtcjilojkhmondaaDoorRight
import Derived.Deep.CutBlock
import Derived.Deep.DeepCutAuto
import Derived.RegionTactic
set_option linter.unusedVariables false
set_option linter.unusedSimpArgs false
namespace Go.Proofs.YtcjilojkhmondaaDoor
open Go.RowKit Go.Cof
def ParseSaid (s : ByteArray) (w' : World) (e : Ending) : Prop := match parseT s.data.toList with
  | some (d, l) => ∃ (v : Value) (L : List ItemV), e = .returned (.tuple #[.int .i64 d, v, .nilIface]) ∧ L.map plainI = l ∧ Items w' v L
  | none => e = .returned (.tuple #[.int .i64 0, .slice none 0 0, errVal 3])
set_option maxRecDepth 100000 in
set_option maxHeartbeats 8000000 in
theorem parse_any (s : ByteArray) (w : World) (hs : s.size ≤ 1000000) (V : ItemVars w) :
    Calls Tryd.prog 37 #[.string s] w fun e w' => ParseSaid s w' e ∧ Keep NoB w w' := by
  have hsp := split_any s 10 w hs V
  have Hsp := Lib.hid hsp
  have HV := Lib.hid V
  clear hsp V
  go_enter Tryd.func37, Tryd.ntmps37
  go_wp2_with fail
  refine Hsp.out.mono ?_
  rintro e w1 ⟨P, hP, rfl, hrow, K1⟩
  have hPne : P ≠ [] := fun e => by rw [e] at hP; exact pieces_ne 10 _ hP.symm
  obtain ⟨hd, R, rfl⟩ : ∃ hd R, P = hd :: R := by
    cases P with
    | nil => exact absurd rfl hPne
    | cons a R => exact ⟨a, R, rfl⟩
  obtain ⟨m, hm⟩ : ∃ m, m = (hd :: R).length := ⟨_, rfl⟩
  have hm1 : 0 < m := by rw [hm]; simp
  obtain ⟨N, hN⟩ : ∃ N, N = w.heap.size := ⟨_, rfl⟩
  rw [← hm]
  rw [← hN] at hrow ⊢
  have cP : ∀ j t, (hd :: R)[j]? = some t → w1.cell? ⟨N, j, none⟩ = some (.string t) := fun j t ht => by
    rw [cell_of_row _ _ _ _ _ (0, 0) hrow, List.getElem?_toArray, List.getElem?_map, ht]; rfl
  have c0 := cP 0 hd rfl
  have hhead : headOf s.data.toList = hd.data.toList := by rw [headOf, ← hP]; rfl
  have hlines : linesOf s.data.toList = (R.map (·.data.toList)).dropLast := by rw [linesOf, ← hP]; rfl
  have hple : ∀ t ∈ hd :: R, t.size ≤ 1000000 := fun t ht => by
    have h1 := pieces_le 10 s.data.toList t.data.toList (by rw [← hP]; exact List.mem_map.2 ⟨t, ht, rfl⟩)
    have h2 : s.data.toList.length = s.size := rfl
    have h3 : t.data.toList.length = t.size := rfl
    omega
  have hm6 : m ≤ 1000001 := by
    have h1 := pieces_len 10 s.data.toList
    have h2 : m = (pieces 10 s.data.toList).length := by rw [← hP, List.length_map]; exact hm
    have h3 : s.data.toList.count 10 ≤ s.data.toList.length := List.count_le_length
    have h4 : s.data.toList.length = s.size := rfl
    omega
  have hcut : ∀ w, Calls Tryd.prog 65 #[.string hd, .string ⟨#[100, 105, 109, 32]⟩] w fun e w' => e = .returned (.tuple #[.string ⟨(Lib.trimPrefix hd.data.toList dimT).toArray⟩, .bool (Lib.hasPrefix hd.data.toList dimT)]) ∧ w' = w := fun w => Tryd.strings_CutPrefix hd ⟨#[100, 105, 109, 32]⟩ w
  obtain ⟨tp, htp⟩ : ∃ tp : ByteArray, tp = ⟨(Lib.trimPrefix hd.data.toList dimT).toArray⟩ := ⟨_, rfl⟩
  have htpl : tp.data.toList = Lib.trimPrefix hd.data.toList dimT := by rw [htp]
  have htps : tp.size ≤ 1000000 := by
    have h1 : tp.size = (Lib.trimPrefix hd.data.toList dimT).length := by rw [← htpl]; rfl
    have h2 : (Lib.trimPrefix hd.data.toList dimT).length ≤ hd.data.toList.length := by
      unfold Lib.trimPrefix
      split
      · rw [List.length_drop]; omega
      · exact Nat.le_refl _
    have h3 := hple hd List.mem_cons_self
    have h4 : hd.data.toList.length = hd.size := rfl
    omega
  obtain ⟨B, hB⟩ : ∃ B, B = Lib.hasPrefix hd.data.toList dimT := ⟨_, rfl⟩
  rw [← htp, ← hB] at hcut
  have hnum := number_any tp w1 htps (HV.out.keep K1).pow (HV.out.keep K1).errs
  have Hcut := Lib.hid hcut
  have Hnum := Lib.hid hnum
  have Hhead := Lib.hid hhead
  have Hlines := Lib.hid hlines
  have Hple := Lib.hid hple
  have Htpl := Lib.hid htpl
  have HB := Lib.hid hB
  have HcP := Lib.hid cP
  have Hm := Lib.hid hm
  have Hrow := Lib.hid hrow
  have HN := Lib.hid hN
  clear hcut hnum hhead hlines hple htpl hB cP hm hrow hP hPne htp Hsp hN
  go_wp2_with fail
  refine (Hcut.out _).mono ?_
  rintro e w2 ⟨rfl, hw2⟩
  subst w2
  go_wp2_with fail
  refine Hnum.out.mono ?_
  rintro e w3 ⟨⟨n, G, rfl, hnb⟩, K3⟩
  have Hnb := Lib.hid hnb
  clear hnb
  have hno : ∀ W, (B = false ∨ G = false) → ParseSaid s W (.returned (.tuple #[.int .i64 0, .slice none 0 0, .iface 53 (.int .i64 3)])) := by
    intro W h
    have hp : parseT s.data.toList = none := by
      rw [parseT, Hhead.out, ← HB.out, ← Htpl.out]
      rcases h with h | h
      · rw [h]; rfl
      · cases B with
        | false => rfl
        | true =>
          have h2 := Hnb.out
          cases hx : numT tp.data.toList with
          | none => rfl
          | some v => rw [hx] at h2; rw [h2.2] at h; cases h
    rw [ParseSaid, hp]
    rfl
  have Hno := Lib.hid hno
  clear hno
  cases B with
  | false =>
    go_wp2_with fail
    go_ret3
    exact ⟨Hno.out _ (.inl (by first | rfl | trivial)), K1.thenN K3⟩
  | true =>
    cases G with
    | false =>
      go_wp2_with fail
      go_ret3
      exact ⟨Hno.out _ (.inr (by first | rfl | trivial)), K1.thenN K3⟩
    | true =>
      obtain ⟨M, hM⟩ : ∃ M, M = max (m - 1) 1 := ⟨_, rfl⟩
      have hM1 : (max ((m : Int) - 1) 1) = (M : Int) := by omega
      have hMw : IntKind.i64.wrap ((m : Int) - 1) = (m : Int) - 1 := IntWalk.i64_in _ (by omega)
      have hMl : M ≤ m := by omega
      have hMg : 1 ≤ M := by omega
      have HM := Lib.hid hM
      clear hM
      go_upto_region 7 with (fail)
      go_cut [43, 44, 45] (fun lv nv iv wx => ∃ (pp : Addr), lv = .slice (some pp) (M - 1) (m - 1) ∧ Hid (1 < m → pp = ⟨N, 1, none⟩) ∧ nv = .int .i64 ((M - 1 : Nat) : Int) ∧ iv = .int .i64 0 ∧ wx = w3)
      case first =>
        by_cases hm1e : m = 1
        · have Hm1e := Lib.hid hm1e
          go_wp2_with fail
          go_meet
          case rel =>
            have hM0 : M = 1 := by have := HM.out; have := Hm1e.out; omega
            exact ⟨⟨N, 0, none⟩, by rw [hM0, show m - 1 = 0 by have := Hm1e.out; omega]; rfl, Lib.hid (fun h => by have := Hm1e.out; omega), by rw [hM0]; rfl, rfl, rfl⟩
        · go_wp2_with fail
          go_meet
          case rel => exact ⟨_, rfl, Lib.hid (fun h => rfl), rfl, rfl, rfl⟩
      case rest =>
        obtain ⟨pp, rfl, hpp, rfl, rfl, hwx⟩ := hcut
        have hwx2 := hwx.symm
        clear hwx
        subst hwx2
        obtain ⟨Q, hQ⟩ : ∃ Q, Q = M - 1 := ⟨_, rfl⟩
        rw [← hQ]
        obtain ⟨ws, hws⟩ : ∃ ws : List (List UInt8), ws = R.map (·.data.toList) := ⟨_, rfl⟩
        have Hws := Lib.hid hws
        have HQ := Lib.hid hQ
        have hQ6 : Q ≤ 1000001 := by have := HM.out; omega
        have HK1 := Lib.hid K1
        have HK3 := Lib.hid K3
        clear hws hQ K1 K3 hMl hMg hM1 hMw Hrow
        go_wp2_with fail
        go_loopw [10, 45] (fun lv iv wr => ∃ (k : Nat) (L : List ItemV) (v : Value), iv = .int .i64 k ∧ v = lv ∧ k ≤ Q ∧ Hid (allOnes (ws.take k) = some (L.map plainI) ∧ L.length = k) ∧ Hid (OwnsN wr w3.heap.size 34 3 v k (L.flatMap encItem)) ∧ Hid (∀ x ∈ L, Nums wr x.av x.ns ∧ IntRow wr x.av ∧ x.ns.length ≤ 1000000) ∧ Keep NoB w3 wr) (fun _ iv _ => Q - (intOf iv).toNat)
        case atStart => exact ⟨0, [], _, rfl, rfl, by omega, Lib.hid ⟨by rw [List.take_zero]; rfl, rfl⟩, Lib.hid (OwnsN.nil _ _ _ _), Lib.hid (fun x hx => by cases hx), Keep.refl _ _⟩
        case round =>
          obtain ⟨k, L, v, rfl, rfl, hk, hL, hO, hN, K⟩ := hrel
          obtain ⟨wo, rfl⟩ : ∃ wo, wo = wr := ⟨_, rfl⟩
          by_cases hlt : k < Q
          · have k1 : (k : Int) < (Q : Int) := by omega
            have h1m : 1 < m := by have := HM.out; have := HQ.out; omega
            obtain rfl := hpp.out h1m
            have hRl : R.length = m - 1 := by have := Hm.out; simp at this; omega
            obtain ⟨t, ht⟩ : ∃ t, R[k]? = some t := ⟨_, List.getElem?_eq_getElem (by have := HM.out; have := HQ.out; omega)⟩
            have ct : wo.cell? ⟨N, 1 + k, none⟩ = some (.string t) := by
              have h0 := HcP.out (1 + k) t (by rw [show 1 + k = k + 1 by omega]; simpa using ht)
              have h1 := Lib.lt_of_cell h0
              exact ((HK3.out.thenN K).cell (p := ⟨N, 1 + k, none⟩) h1 (fun x => x)).trans h0
            have hwt : ws[k]? = some t.data.toList := by rw [Hws.out, List.getElem?_map, ht]; rfl
            have htl : t.size ≤ 1000000 := Hple.out t (List.mem_cons_of_mem _ (List.mem_of_getElem? ht))
            have hone := fun W (KW : Keep NoB wo W) => one_any t W htl (HV.out.keep (((HK1.out.thenN HK3.out).thenN K).thenN KW))
            have Hone := Lib.hid hone
            have Hwt := Lib.hid hwt
            have Htl := Lib.hid htl
            clear hone hwt ht hRl htl h1m
            go_wp2_with fail
            refine (Hone.out _ (Keep.refl _ _)).mono ?_
            rintro e w4 ⟨⟨nm, tg, pa, na, ca, B, rfl, hob⟩, K4⟩
            have Hob := Lib.hid hob
            clear hob
            cases B with
            | false =>
              have hp : parseT s.data.toList = none := by
                have h1 : oneT t.data.toList = none := by
                  have h := Hob.out
                  cases hx : oneT t.data.toList with
                  | none => rfl
                  | some v => rw [hx] at h; cases h.1
                have h2 : allOnes (linesOf s.data.toList) = none := by
                  refine allOnes_none _ k t.data.toList ?_ h1
                  rw [Hlines.out, List.getElem?_dropLast, if_pos ?_]
                  · have := Hwt.out; rw [Hws.out] at this; exact this
                  · have := HM.out; have := HQ.out; have := Hm.out; rw [List.length_map]; simp at this; omega
                rw [parseT, Hhead.out, ← HB.out, ← Htpl.out]
                have h3 := Hnb.out
                cases hx : numT tp.data.toList with
                | none => simp
                | some v => simp [h2]
              have hsaid : ∀ W, ParseSaid s W (.returned (.tuple #[.int .i64 0, .slice none 0 0, .iface 53 (.int .i64 3)])) := fun W => by rw [ParseSaid, hp]; rfl
              have Hsaid := Lib.hid hsaid
              clear hp hsaid
              go_wp2_with fail
              go_ret3
              exact ⟨Hsaid.out _, (((HK1.out.thenN HK3.out).thenN K).thenN K4).alloc _⟩
            | true =>
              obtain ⟨x, hx⟩ : ∃ x, oneT t.data.toList = some x := by
                have h := Hob.out
                cases hx : oneT t.data.toList with
                | none => rw [hx] at h; cases h
                | some x => exact ⟨x, rfl⟩
              have hob := Hob.out
              rw [hx] at hob
              obtain ⟨-, rfl, rfl, hnx, hix⟩ := hob
              obtain ⟨xn, xt, ns⟩ := x
              simp only at hnx
              have hxl : ns.length ≤ 1000000 := by
                have h1 := oneT_len hx
                have h2 := Htl.out
                have h3 : t.data.toList.length = t.size := rfl
                simp only at h1
                omega
              obtain ⟨pv, cv, hav⟩ := own_sl1 hO.out
              subst hav
              obtain ⟨ii, hii, hzi, hsi, hbi⟩ := item_info
              have hO4 := ((hO.out.keep K4 (fun _ _ x => x)).alloc (.cells #[.string xn, .string xt, .slice pa na ca] 34)).alloc (.cells #[.string xn, .string xt, .slice pa na ca] 34)
              have hs4 : w3.heap.size ≤ w4.heap.size := (K.thenN K4).size
              have Hx := Lib.hid hx
              have Hnx := Lib.hid hnx
              have Hix := Lib.hid hix
              have Hxl := Lib.hid hxl
              have hcn := cells_new (w4.alloc (.cells #[.string xn, .string xt, .slice pa na ca] 34)) [.string xn, .string xt, .slice pa na ca] 34
              have hsz : (w4.alloc (.cells #[.string xn, .string xt, .slice pa na ca] 34)).heap.size = w4.heap.size + 1 := Array.size_push _
              rw [hsz] at hcn
              have Hcn := Lib.hid hcn
              clear hx hnx hix hxl Hone Hob hcn hsz
              go_wp2_with (at_builtin; refine wpList_append_n _ rfl _ _ 22 rfl w3.heap.size 34 ii _ 3 56 Tryd.underlying22 hii hzi hsi hbi rfl (by decide) (.slice pv k cv) k _ rfl hO4 ⟨w4.heap.size + 1, 0, none⟩ 1 1 [.string xn, .string xt, .slice pa na ca] rfl rfl Hcn.out (encItem_one3 xn xt pa na ca) (by unfold maxLen; omega) (by omega) (by simp <;> omega) ?_; intro v5 w5 own5 hg5)
              have KV : Keep (fun b => (Value.slice pv k cv).ownBlock = some b) ((w4.alloc (.cells #[.string xn, .string xt, .slice pa na ca] 34)).alloc (.cells #[.string xn, .string xt, .slice pa na ca] 34)) w5 := (Keep.refl _ _).grown hg5 (fun q hq => .inl hq)
              have K45 : Keep NoB w4 ((w4.alloc (.cells #[.string xn, .string xt, .slice pa na ca] 34)).alloc (.cells #[.string xn, .string xt, .slice pa na ca] 34)) := ((Keep.refl _ _).alloc _).alloc _
              have K35 : Keep NoB w3 w5 := ((K.thenN K4).thenN K45).grown hg5 (fun q hq => .inr (hO.out.lt q hq).1)
              have hkeep : ∀ (u : Value) (l : List Int), Nums w4 u l → IntRow w4 u → Nums w5 u l ∧ IntRow w5 u := by
                intro u l hn hi
                have hne : ∀ b, u.ownBlock = some b → ¬ (Value.slice pv k cv).ownBlock = some b := by
                  intro b hb hv
                  obtain ⟨cs, fz, hc⟩ := hi b hb
                  have hc2 := K45.heap hc (fun x => x)
                  rcases hO4.2 with ⟨hv0, _⟩ | ⟨g, cap, cur, fz2, hv0, _, hgg, _⟩
                  · rw [hv0] at hv; cases hv
                  · rw [hv0] at hv
                    obtain rfl : g = b := Option.some.inj hv
                    exact absurd (two_types' hc2 hgg) (by decide)
                refine ⟨(hn.keep K45 (fun _ _ x => x)).keep KV hne, fun b hb => ?_⟩
                obtain ⟨cs, fz, hc⟩ := hi b hb
                exact ⟨cs, fz, KV.heap (K45.heap hc (fun x => x)) (hne b hb)⟩
              refine ⟨⟨k + 1, L ++ [⟨xn, xt, .slice pa na ca, ns⟩], _, by go_num, rfl, by omega, Lib.hid ⟨?_, by rw [List.length_append, hL.out.2]; rfl⟩, Lib.hid ?_, Lib.hid ?_, K35⟩, by simp [intOf]; omega⟩
              · have hk2 := (List.getElem?_eq_some_iff.1 Hwt.out)
                rw [List.take_succ_eq_append_getElem hk2.1, hk2.2, List.map_append]
                exact allOnes_snoc _ _ _ _ hL.out.1 Hx.out
              · rw [List.flatMap_append]
                exact own5
              · intro y hy
                rcases List.mem_append.1 hy with hy | hy
                · obtain ⟨h1, h2, h3⟩ := hN.out y hy
                  have h4 := hkeep y.av y.ns (h1.keep K4 (fun _ _ x => x)) (fun b hb => by obtain ⟨cs, fz, hc⟩ := h2 b hb; exact ⟨cs, fz, K4.heap hc (fun x => x)⟩)
                  exact ⟨h4.1, h4.2, h3⟩
                · rw [List.mem_singleton.1 hy]
                  have h4 := hkeep (.slice pa na ca) ns Hnx.out Hix.out
                  exact ⟨h4.1, h4.2, Hxl.out⟩
          · obtain rfl : k = Q := by omega
            have k1 : ¬ ((k : Int) < (k : Int)) := by omega
            obtain ⟨pv, cv, hav⟩ := own_sl1 hO.out
            subst hav
            have hlk := hL.out.2
            have hall : allOnes (linesOf s.data.toList) = some (L.map plainI) := by
              have h := hL.out.1
              rw [Hlines.out]
              have e : ws.take k = (R.map (·.data.toList)).dropLast := by
                rw [Hws.out, List.dropLast_eq_take, List.length_map]
                have h1 := HM.out
                have h2 := HQ.out
                have h3 := Hm.out
                simp only [List.length_cons] at h3
                by_cases h4 : R.length = 0
                · have : R = [] := List.eq_nil_of_length_eq_zero h4
                  subst this
                  simp
                · congr 1
                  omega
              rw [← e]
              exact h
            have hit : Items wo (.slice pv L.length cv) L := ⟨RowsK.ofN encItem_len (by rw [hlk]; exact hO.out), fun x hx => (hN.out x hx).1⟩
            have hpr := print_any n (.slice pv L.length cv) L wo hit (by unfold maxLen; omega) (fun x hx => (hN.out x hx).2.2) (HV.out.keep ((HK1.out.thenN HK3.out).thenN K)).pow
            rw [hlk] at hpr
            obtain ⟨PS, hPS⟩ : ∃ p, p = printS n L := ⟨_, rfl⟩
            rw [← hPS] at hpr
            have hparse : ∀ d, numT tp.data.toList = some d → parseT s.data.toList = if printOk d (L.map plainI) = true ∧ printT d (L.map plainI) = s.data.toList then some (d, L.map plainI) else none := by
              intro d hd
              rw [parseT, Hhead.out, ← HB.out, ← Htpl.out, hd, hall]
              simp
            have hd : numT tp.data.toList = some n := by
              have h3 := Hnb.out
              cases hx : numT tp.data.toList with
              | none => rw [hx] at h3; cases h3
              | some v => rw [hx] at h3; rw [h3.1]
            have hpar := hparse n hd
            have Hpar := Lib.hid hpar
            have HPS := Lib.hid hPS
            have Hpr := Lib.hid hpr
            have Hlk := Lib.hid hlk
            have Hit := Lib.hid hit
            clear hpar hPS hpr hparse hd hall hlk hit
            by_cases hok : printOk n (L.map plainI) = true
            · have hE : printE n L = .nilIface := by rw [printE, if_pos hok]
              have hpr := Hpr.out
              rw [hE] at hpr
              have Hpr2 := Lib.hid hpr
              have Hok := Lib.hid hok
              clear hpr Hpr hE hok
              by_cases hsame : PS = s
              · have hb : (@BEq.beq (List UInt8) (@List.instBEq UInt8 instBEqOfDecidableEq) PS.toList s.toList) = true := by rw [beqB, decide_eq_true hsame]
                have Hsame := Lib.hid hsame
                clear hsame
                go_wp2_with fail
                refine Hpr2.out.mono ?_
                rintro e w6 ⟨rfl, K6⟩
                go_wp2_with fail
                go_ret3
                refine ⟨?_, (((HK1.out.thenN HK3.out).thenN K).thenN K6)⟩
                have hpp : printT n (L.map plainI) = s.data.toList := by
                  have h1 := HPS.out
                  rw [printS, if_pos Hok.out, Hsame.out] at h1
                  rw [h1]
                rw [ParseSaid, Hpar.out, if_pos ⟨Hok.out, hpp⟩]
                refine ⟨_, L, rfl, rfl, ?_⟩
                rw [← Hlk.out]
                exact ⟨Hit.out.rows.keep K6 (fun _ _ x => x), fun x hx => (Hit.out.nums x hx).keep K6 (fun _ _ x => x)⟩
              · have hb : (@BEq.beq (List UInt8) (@List.instBEq UInt8 instBEqOfDecidableEq) PS.toList s.toList) = false := by rw [beqB, decide_eq_false hsame]
                have hnp : parseT s.data.toList = none := by
                  rw [Hpar.out, if_neg]
                  rintro ⟨_, h⟩
                  have h1 := HPS.out
                  rw [printS, if_pos Hok.out, h] at h1
                  exact hsame h1
                have Hnp := Lib.hid hnp
                clear hsame hnp
                go_wp2_with fail
                refine Hpr2.out.mono ?_
                rintro e w6 ⟨rfl, K6⟩
                go_wp2_with fail
                go_ret3
                exact ⟨by rw [ParseSaid, Hnp.out]; rfl, (((HK1.out.thenN HK3.out).thenN K).thenN K6)⟩
            · have hE : printE n L = .iface 53 (.int .i64 1) := by rw [printE, if_neg hok]; rfl
              have hnp : parseT s.data.toList = none := by
                rw [Hpar.out, if_neg]
                rintro ⟨h, _⟩
                exact hok h
              have Hnp := Lib.hid hnp
              have hpr := Hpr.out
              rw [hE] at hpr
              have Hpr2 := Lib.hid hpr
              clear hpr Hpr hE hok hnp
              go_wp2_with fail
              refine Hpr2.out.mono ?_
              rintro e w6 ⟨rfl, K6⟩
              go_wp2_with fail
              go_ret3
              exact ⟨by rw [ParseSaid, Hnp.out]; rfl, (((HK1.out.thenN HK3.out).thenN K).thenN K6)⟩
end Go.Proofs.YtcjilojkhmondaaDoor
