/-
  DERIVED. A row that the call owns, of which no cell is frozen (a mark behind its end may stand, as '[]byte(s)' lays it): append onto it.
-/
import Derived.Test.YtcjilojkhmondaaDoorBase2
import Derived.Laws.OwnMore
set_option linter.unusedVariables false
set_option linter.unusedSimpArgs false
namespace Go.Cof
open Go.RowKit

/-- No cell below n is frozen. -/
def Clear (fz : Nat × Nat) (n : Nat) : Prop := ∀ i, i < n → (decide (fz.1 ≤ i) && decide (i < fz.2)) = false
theorem Clear.zero (n : Nat) : Clear (0, 0) n := fun i _ => by simp
/-- The slice v of n elements has the cells xs, in a row from block base on, of which no cell is frozen. -/
def OwnsN (w : World) (base : Nat) (e : TypeId) (size : Nat) (v : Value) (n : Nat) (xs : List Value) : Prop :=
  xs.length = n * size ∧
  ((v = .slice none 0 0 ∧ n = 0) ∨ ∃ g cap cur fz, v = .slice (some ⟨g, 0, none⟩) n cap ∧ base ≤ g ∧ w.heap[g]? = some (.cells cur e fz) ∧ Clear fz cur.size ∧ n ≤ cap ∧ cap ≤ maxLen ∧ cur.size = cap * size ∧ cur.toList.take (n * size) = xs)

section
variable {w : World} {base : Nat} {e : TypeId} {size : Nat} {v : Value} {n : Nat} {xs : List Value}
theorem OwnsN.of (h : w.ownsRow base e size v n xs) : OwnsN w base e size v n xs :=
  ⟨h.1, h.2.elim .inl fun ⟨g, cap, cur, hv, hb, hg, r⟩ => .inr ⟨g, cap, cur, (0, 0), hv, hb, hg, Clear.zero _, r⟩⟩
theorem OwnsN.nil (w : World) (base : Nat) (e : TypeId) (size : Nat) : OwnsN w base e size (.slice none 0 0) 0 [] := ⟨by simp, .inl ⟨rfl, rfl⟩⟩
theorem OwnsN.down {base' : Nat} (h : OwnsN w base' e size v n xs) (hb : base ≤ base') : OwnsN w base e size v n xs :=
  ⟨h.1, h.2.elim .inl fun ⟨g, cap, cur, fz, hv, hg, r⟩ => .inr ⟨g, cap, cur, fz, hv, Nat.le_trans hb hg, r⟩⟩
theorem OwnsN.lt (h : OwnsN w base e size v n xs) : ∀ k, v.ownBlock = some k → base ≤ k ∧ k < w.heap.size := by
  intro k hk
  rcases h.2 with ⟨hv, _⟩ | ⟨g, cap, cur, fz, hv, hb, hg, _⟩
  · rw [hv] at hk; cases hk
  · rw [hv] at hk
    obtain rfl : g = k := Option.some.inj hk
    exact ⟨hb, lt_of_heap hg⟩
theorem OwnsN.keep {w' : World} (h : OwnsN w base e size v n xs) {S : Nat → Prop} (hk : Keep S w w') (hn : ∀ b, v.ownBlock = some b → ¬ S b) : OwnsN w' base e size v n xs := by
  refine ⟨h.1, ?_⟩
  rcases h.2 with h2 | ⟨g, cap, cur, fz, hv, hg, hh, r⟩
  · exact .inl h2
  · exact .inr ⟨g, cap, cur, fz, hv, hg, hk.heap hh (hn g (by rw [hv]; rfl)), r⟩
theorem OwnsN.drewN (h : OwnsN w base e size v n xs) (k : Nat) : OwnsN (w.drewN k) base e size v n xs := h
theorem OwnsN.alloc (h : OwnsN w base e size v n xs) (o : Obj) : OwnsN (w.alloc o) base e size v n xs := h.keep ((Keep.refl NoB w).alloc o) (fun _ _ x => x)
theorem OwnsN.some (h : OwnsN w base e size v n xs) (hn : 0 < n) : ∃ g cap, v = .slice (some ⟨g, 0, none⟩) n cap ∧ base ≤ g ∧ n ≤ cap := by
  rcases h.2 with ⟨_, h0⟩ | ⟨g, cap, cur, fz, hv, hb, _, _, hc, _⟩
  · omega
  · exact ⟨g, cap, hv, hb, hc⟩
theorem OwnsN.cells (h : OwnsN w base e size v n xs) {g : Nat} (hg : v.ownBlock = Option.some g) : ∀ j u, xs[j]? = Option.some u → w.cell? ((⟨g, 0, none⟩ : Addr).add j) = Option.some u := by
  intro j u hu
  rcases h.2 with ⟨hv, _⟩ | ⟨g', cap, cur, fz, hv, _, hh, _, _, _, _, ht⟩
  · rw [hv] at hg; cases hg
  · rw [hv] at hg
    obtain rfl : g' = g := Option.some.inj hg
    have hadd : (⟨g', 0, none⟩ : Addr).add j = ⟨g', j, none⟩ := by unfold Addr.add; split <;> simp_all
    rw [hadd, cell_of_row w g' j cur e fz hh]
    rw [← ht, List.getElem?_take] at hu
    split at hu
    · simpa using hu
    · cases hu
end

/-- Cells are stored one behind the other, none of them frozen. -/
theorem run_storeCells_clear (P : Program) (g o : Nat) (t : TypeId) (fz : Nat × Nat) (vs : List Value) : ∀ (i : Nat) (cur : Array Value) (w : World), w.heap[g]? = some (.cells cur t fz) → Clear fz cur.size → o + i + vs.length ≤ cur.size →
    (∀ v ∈ vs, v.oneCell' = true) → (storeCells ⟨g, o, none⟩ vs i).run P w = .ok () (w.setRow g (cur.toList.take (o + i) ++ vs ++ cur.toList.drop (o + i + vs.length)).toArray) := by
  induction vs with
  | nil =>
    intro i cur w hg _ _ _
    have e : (cur.toList.take (o + i) ++ [] ++ cur.toList.drop (o + i + ([] : List Value).length)).toArray = cur := by simp
    rw [e, setRow_self w g cur t fz hg]
    rfl
  | cons v vs ih =>
    intro i cur w hg hf hl h1
    rw [List.length_cons] at hl
    have hadd : (⟨g, o, none⟩ : Addr).add i = ⟨g, o + i, none⟩ := by unfold Addr.add; split <;> simp_all
    have hin : o + i < cur.size := by omega
    have hc : w.cell? ⟨g, o + i, none⟩ = some cur[o + i] := by simp [World.cell?, hg, hin]
    have hz : w.frozen? ⟨g, o + i, none⟩ = false := by
      have := hf (o + i) hin
      obtain ⟨lo, hi⟩ := fz
      simpa [World.frozen?, hg] using this
    have hs : (store ((⟨g, o, none⟩ : Addr).add i) v).run P w = .ok () (w.setRow g (cur.setIfInBounds (o + i) v)) := by
      rw [hadd, run_store P w _ v _ (h1 v (List.mem_cons_self ..)), hc]
      simp [hz, setCell_eq_setRow w g (o + i) cur t fz v hg]
    have hr := ih (i + 1) (cur.setIfInBounds (o + i) v) (w.setRow g (cur.setIfInBounds (o + i) v)) (setRow_heap w g cur _ t _ hg) (by simpa using hf) (by simp; omega) (fun x hx => h1 x (List.mem_cons_of_mem _ hx))
    have hseg := list_seg_step cur.toList (o + i) v vs (by simp; omega)
    simp only [storeCells, Sem.run_bind, hs, Result.andThen_ok, hr, setRow_setRow]
    refine congrArg (fun l : List Value => Result.ok () (w.setRow g l.toArray)) ?_
    simpa [Array.toList_setIfInBounds, Nat.add_assoc] using hseg

section
variable {P : Program} (w : World)
/-- append onto such a row. -/
theorem run_append_n (base : Nat) (t ty e : TypeId) (i : TypeInfo) (z : Value) (size bytes : Nat) (ht : P.underlying t = some (.slice e)) (hi : P.info? e = some i) (hz : i.zero = some z)
    (hsize : i.size = size) (hby : i.bytes = bytes) (hzs : z.cells.size = size) (hsz : 0 < size) (v : Value) (n : Nat) (xs : List Value) (hown : OwnsN w base e size v n xs)
    (a : Addr) (m c : Nat) (news : List Value) (hl : news.length = m * size) (hnews : ∀ j u, news[j]? = some u → w.cell? (a.add j) = some u) (h1 : ∀ u ∈ news, u.oneCell' = true)
    (h63 : n + m ≤ maxLen) (hbytes : (n + m) * bytes ≤ 140737488355328) (hbase : base ≤ w.heap.size) :
    ∃ v' w', (Builtin.append_ #[t, t] ty #[v, .slice (some a) m c]).run P w = .ok v' w' ∧ OwnsN w' base e size v' (n + m) (xs ++ news) ∧ w.grownBy w' v.ownBlock ∧ (v'.ownBlock = v.ownBlock ∨ ∀ b, v'.ownBlock = some b → w.heap.size ≤ b) := by
  rcases hown.2 with ⟨hv, hn⟩ | ⟨g, cap, cur, fz, hv, hbg, hg, hfz, hnc, hcm, hcs, htk⟩
  · obtain ⟨v', w', r1, r2, r3, _⟩ := run_append_own (P := P) w w.heap.size t ty e i z size bytes ht hi hz hsize hby hzs hsz v n xs ⟨hown.1, .inl ⟨hv, hn⟩⟩ a m c news hl hnews h1 h63 hbytes (Nat.le_refl _)
    exact ⟨v', w', r1, (OwnsN.of r2).down hbase, r3, .inr fun b hb => (r2.lt b hb).1⟩
  · have hcells := hown.cells (g := g) (by rw [hv]; rfl)
    have hlen : (xs ++ news).length = (n + m) * size := by rw [List.length_append, hown.1, hl, Nat.add_mul]
    subst hv
    subst hsize
    subst hby
    by_cases hroom : n + m ≤ cap
    · have hfit : n * i.size + news.length ≤ cur.size := by
        rw [hl, hcs, ← Nat.add_mul]
        exact Nat.mul_le_mul_right _ hroom
      have hf := run_firstCells_some (P := P) w i.size m a m c news hl hnews
      have hst := run_storeCells_clear P g (n * i.size) e fz news 0 cur w hg hfz (by simpa using hfit) h1
      simp only [Nat.add_zero] at hst
      have hr : (Builtin.append_ #[t, t] ty #[.slice (some ⟨g, 0, none⟩) n cap, .slice (some a) m c]).run P w = .ok (.slice (some ⟨g, 0, none⟩) (n + m) cap) (w.setRow g (cur.toList.take (n * i.size) ++ news ++ cur.toList.drop (n * i.size + news.length)).toArray) := by
        simp [Builtin.append_, run_underlying ht, sizeOf, typeInfo, hi, Builtin.lenOf, hroom, hf, Addr.add_lit, hst]
      have hsz2 : (cur.toList.take (n * i.size) ++ news ++ cur.toList.drop (n * i.size + news.length)).toArray.size = cur.size := by
        simp only [List.size_toArray, List.length_append, List.length_take, List.length_drop, Array.length_toList]
        omega
      refine ⟨_, _, hr, ⟨hlen, .inr ⟨g, cap, _, fz, rfl, hbg, setRow_heap w g cur _ e _ hg, by rw [hsz2]; exact hfz, hroom, hcm, by rw [hsz2]; exact hcs, ?_⟩⟩, ⟨rfl, rfl, rfl, by simp, fun k _ hk => setRow_other w g k _ (fun e => hk (by simp [Value.ownBlock, e]))⟩, .inl rfl⟩
      rw [htk, ← hlen]
      exact List.take_left
    · have hsmall : n + m ≤ 9223372036854775807 := by simp only [maxLen] at h63; omega
      have hr := run_append_grow (P := P) w t ty e i z ht hi hz ⟨g, 0, none⟩ n cap xs hown.1 hcells a m c news hl hnews (by omega) (by omega) (growslice_fits (by omega) hbytes)
      have hge := grownCap_ge w (n + m) cap e
      refine ⟨_, _, hr, ⟨hlen, .inr ⟨w.heap.size, _, _, (0, 0), rfl, hbase, heap_alloc_new w.drew _, Clear.zero _, hge, grownCap_le_maxLen w (n + m) cap e h63, ?_, ?_⟩⟩, ⟨rfl, rfl, rfl, by simp, fun k hk _ => Below.heap_alloc w.drew _ k hk⟩, .inr fun b hb => by obtain rfl : w.heap.size = b := Option.some.inj hb; exact Nat.le_refl _⟩
      · simp only [Array.size_append, List.size_toArray, size_zeroCells, hzs, hown.1, hl, ← Nat.add_mul]
        congr 1
        omega
      · simp only [Array.toList_append, List.append_assoc]
        rw [← List.append_assoc, ← hlen]
        exact List.take_left
theorem wpList_append_n {ops : Array Oper} {rest : List Oper} {o : Oper} {a : Act} {Q : Exit → Act → World → Prop} (hgd : o.guard = none) (s x : Operand) (t : TypeId)
    (ho : o.op = .call { callee := .builtin .append, args := #[s, x], argTypes := #[t, t] })
    (base : Nat) (e : TypeId) (i : TypeInfo) (z : Value) (size bytes : Nat) (ht : P.underlying t = some (.slice e)) (hi : P.info? e = some i) (hz : i.zero = some z)
    (hsize : i.size = size) (hby : i.bytes = bytes) (hzs : z.cells.size = size) (hsz : 0 < size) (v : Value) (n : Nat) (xs : List Value) (hs : a.eval s = v) (hown : OwnsN w base e size v n xs)
    (ad : Addr) (m c : Nat) (news : List Value) (hx : a.eval x = .slice (some ad) m c) (hl : news.length = m * size) (hnews : ∀ j u, news[j]? = some u → w.cell? (ad.add j) = some u) (h1 : ∀ u ∈ news, u.oneCell' = true)
    (h63 : n + m ≤ maxLen) (hbytes : (n + m) * bytes ≤ 140737488355328) (hbase : base ≤ w.heap.size)
    (h : ∀ v' w', OwnsN w' base e size v' (n + m) (xs ++ news) → w.grownBy w' v.ownBlock → wpList P ops Q rest (a.put o.dst v') w') : wpList P ops Q (o :: rest) a w := by
  refine wpList_plain hgd fun K hK => ?_
  obtain ⟨v', w', hr, h2, h3, _⟩ := run_append_n (P := P) w base t o.type e i z size bytes ht hi hz hsize hby hzs hsz v n xs hown ad m c news hl hnews h1 h63 hbytes hbase
  unfold Oper.wp execOp
  simp only [ho, resolve, invoke, builtin, Sem.run_bind, Sem.run_pure, Result.andThen_ok, List.map_toArray, List.map_cons, List.map_nil, hs, hx, hr]
  exact hK _ _ (h v' w' h2 h3)
/-- The same, and where the row lies: where it lay, or in a new block. -/
theorem wpList_append_s {ops : Array Oper} {rest : List Oper} {o : Oper} {a : Act} {Q : Exit → Act → World → Prop} (hgd : o.guard = none) (s x : Operand) (t : TypeId)
    (ho : o.op = .call { callee := .builtin .append, args := #[s, x], argTypes := #[t, t] })
    (base : Nat) (e : TypeId) (i : TypeInfo) (z : Value) (size bytes : Nat) (ht : P.underlying t = some (.slice e)) (hi : P.info? e = some i) (hz : i.zero = some z)
    (hsize : i.size = size) (hby : i.bytes = bytes) (hzs : z.cells.size = size) (hsz : 0 < size) (v : Value) (n : Nat) (xs : List Value) (hs : a.eval s = v) (hown : OwnsN w base e size v n xs)
    (ad : Addr) (m c : Nat) (news : List Value) (hx : a.eval x = .slice (some ad) m c) (hl : news.length = m * size) (hnews : ∀ j u, news[j]? = some u → w.cell? (ad.add j) = some u) (h1 : ∀ u ∈ news, u.oneCell' = true)
    (h63 : n + m ≤ maxLen) (hbytes : (n + m) * bytes ≤ 140737488355328) (hbase : base ≤ w.heap.size)
    (h : ∀ v' w', OwnsN w' base e size v' (n + m) (xs ++ news) → w.grownBy w' v.ownBlock → (v'.ownBlock = v.ownBlock ∨ ∀ b, v'.ownBlock = some b → w.heap.size ≤ b) → wpList P ops Q rest (a.put o.dst v') w') : wpList P ops Q (o :: rest) a w := by
  refine wpList_plain hgd fun K hK => ?_
  obtain ⟨v', w', hr, h2, h3, h4⟩ := run_append_n (P := P) w base t o.type e i z size bytes ht hi hz hsize hby hzs hsz v n xs hown ad m c news hl hnews h1 h63 hbytes hbase
  unfold Oper.wp execOp
  simp only [ho, resolve, invoke, builtin, Sem.run_bind, Sem.run_pure, Result.andThen_ok, List.map_toArray, List.map_cons, List.map_nil, hs, hx, hr]
  exact hK _ _ (h v' w' h2 h3 h4)
end
/-- What '[]byte(s)' lays. -/
theorem OwnsN.ofBytes (w : World) (base : Nat) (E : TypeId) (s : ByteArray) (hb : base ≤ w.heap.size) (hs : s.size ≤ 1000000) : OwnsN (Lib.bytesWorld w E s) base E 1 (.slice (Option.some ⟨w.heap.size, 0, none⟩) s.size (grownCap w s.size 0 E)) s.size (u8s (bs s)) := by
  have hge := grownCap_ge w s.size 0 E
  have hle : grownCap w s.size 0 E ≤ maxLen := grownCap_le_maxLen w s.size 0 E (by unfold maxLen; omega)
  have e : (Array.map (fun b => Value.int .u8 (b.toNat : Int)) s.data).toList = u8s (bs s) := by simp [u8s, bs, List.map_map]
  have el : (u8s (bs s)).length = s.size := by rw [u8s_len, bs_len]
  refine ⟨by rw [el, Nat.mul_one], .inr ⟨_, _, _, _, rfl, hb, Lib.bytesWorld_at_new w E s, ?_, hge, hle, ?_, ?_⟩⟩
  · intro i hi
    simp
    omega
  · unfold Lib.bytesCells
    have e1 : s.data.size = s.size := rfl
    simp only [Array.size_append, Array.size_map, Array.size_replicate]
    omega
  · unfold Lib.bytesCells
    rw [Array.toList_append, e, Nat.mul_one, List.take_append_of_le_length (by omega), List.take_of_length_le (by omega)]
theorem BRow.ofN {w : World} {base : Nat} {E : TypeId} {l : List Nat} {g cap : Nat} (h : OwnsN w base E 1 (.slice (some ⟨g, 0, none⟩) l.length cap) l.length (u8s l)) : BRow w g E l := by
  rcases h.2 with ⟨h, _⟩ | ⟨g', cap', cur, fz, hv, _, hg, hf, hc, _, hs, ht⟩
  · cases h
  · cases hv
    exact ⟨cur, fz, hg, by rw [Nat.mul_one] at ht; exact ht, fun i hi => hf i (by omega)⟩
theorem PRow.ofN {w : World} {base : Nat} {E : TypeId} {k : IntKind} {l : List Nat} {g cap : Nat} (h : OwnsN w base E 1 (.slice (some ⟨g, 0, none⟩) l.length cap) l.length (cellsOf k l)) : PRow w g E k l := by
  rcases h.2 with ⟨h, _⟩ | ⟨g', cap', cur, fz, hv, _, hg, hf, hc, _, hs, ht⟩
  · cases h
  · cases hv
    exact ⟨cur, fz, hg, by rw [Nat.mul_one] at ht; exact ht, fun i hi => hf i (by omega)⟩
/-- A row that a literal makes. -/
theorem OwnsN.lit (w : World) (base : Nat) (e : TypeId) (size : Nat) (cs : Array Value) (n : Nat) (hb : base ≤ w.heap.size) (hn : n ≤ maxLen) (hs : cs.size = n * size) : OwnsN (w.alloc (.cells cs e)) base e size (.slice (Option.some ⟨w.heap.size, 0, none⟩) n n) n cs.toList := by
  refine ⟨by rw [Array.length_toList, hs], .inr ⟨_, n, cs, (0, 0), rfl, hb, heap_alloc_new w _, Clear.zero _, Nat.le_refl _, hn, hs, ?_⟩⟩
  rw [List.take_of_length_le (by rw [Array.length_toList, hs]; exact Nat.le_refl _)]
/-- 'string(b[a:b])' at such a block. -/
theorem run_string_part {P : Program} {w : World} {B off k cap : Nat} {E : TypeId} {l : List Nat} {src dst : TypeId} (h : BRow w B E l) (hk : off + k ≤ l.length)
    (hs : P.underlying src = some (.slice E)) (he : P.underlying E = some (.int .u8)) (hd : P.underlying dst = some .string) : (convert src dst (.slice (some ⟨B, off, none⟩) k cap)).run P w = .ok (.string (txt ((l.drop off).take k))) w := by
  have hlen : ((l.drop off).take k).length = k := by rw [List.length_take, List.length_drop]; omega
  have h1 := run_convert_bytes_arg (P := P) w src E hs he B off k cap (((l.drop off).take k).map fun (x : Nat) => (x : Int)) (by rw [List.length_map, hlen]) ?_ dst hd
  · rw [h1, strOf_txt]
  · intro i hi
    rw [h.cell (off + i) (by omega)]
    have hi2 : off + i < l.length := by omega
    simp [hi, hi2]
/-- The world under a new name, within a row of operations. -/
theorem wl_world {P : Program} {ops rest : _} {Q : Exit → Act → World → Prop} {a : Act} {w : World} (R : World → Prop) (h : R w) (k : ∀ w1, R w1 → wpList P ops Q rest a w1) : wpList P ops Q rest a w := k w h
end Go.Cof
