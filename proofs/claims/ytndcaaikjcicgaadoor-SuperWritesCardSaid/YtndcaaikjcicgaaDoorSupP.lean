/-
  DERIVED. The reference's SuperParse.
-/
import Derived.Test.YtndcaaikjcicgaaDoorSupN
import Derived.Laws.Tables
set_option linter.unusedVariables false
set_option linter.unusedSimpArgs false
namespace Go.Cof
open Go.RowKit
section
variable {P : Program} {w : World}
/-- A variable of a row of cells, made. -/
theorem run_alloc_row {t : TypeId} {cs : Array Value} {n : Nat} (hi : (P.info? t).map (fun i => (i.zero, i.size)) = some (some (.agg cs), n)) :
    (Instr.alloc t true (.tuple #[])).run P w = .ok (.pointer (some ⟨w.heap.size, 0, none⟩)) (w.alloc (.cells cs t)) := by
  cases hq : P.info? t with
  | none => simp [hq] at hi
  | some inf =>
    have h1 : inf.zero = some (.agg cs) := by simp [hq] at hi; exact hi.1
    simp [Instr.alloc, zeroValue, typeInfo, hq, h1, newVar, Value.cells, newRow]
theorem wpList_alloc_row {ops : Array Oper} {rest : List Oper} {o : Oper} {a : Act} {Q : Exit → Act → World → Prop} (hg : o.guard = none) (t : TypeId) (ho : o.op = .alloc t) {cs : Array Value} {n : Nat} (hi : (P.info? t).map (fun i => (i.zero, i.size)) = some (some (.agg cs), n))
    (h : wpList P ops Q rest (a.put o.dst (.pointer (some ⟨w.heap.size, 0, none⟩))) (w.alloc (.cells cs t))) : wpList P ops Q (o :: rest) a w :=
  wpList_plain hg fun K hK => by
    unfold Oper.wp execOp
    simp only [ho, Sem.run_bind, Sem.run_pure, Result.andThen_ok, run_alloc_row hi]
    exact hK _ _ h
theorem wpList_build_is {ops : Array Oper} {rest : List Oper} {o : Oper} {a : Act} {Q : Exit → Act → World → Prop} (hg : o.guard = none) (t : TypeId) (parts : Array (Nat × Operand)) (ho : o.op = .build t parts) (cells : Array Value)
    (hf : P.built t (parts.map fun (i, x) => (i, a.eval x)).toList = some cells)
    (h : wpList P ops Q rest (a.put o.dst (.agg cells)) w) : wpList P ops Q (o :: rest) a w :=
  wpList_build hg t parts ho (by rw [hf]; rfl) (by rw [hf]; exact h)
end
/-- A row's cell and a slot are the results. -/
theorem results_row_slot {P : Program} {fn : Func} {p q : Tmp} {ty : TypeId} (h : fn.results = #[.cell p ty, .tmp q]) (tmps : Array Value) (w : World) (g : Nat) (t : TypeId) (cs : Array Value) (fr : Nat × Nat) (d : TypeDesc) (v : Value)
    (hp : tmps.getD p undef = .pointer (some ⟨g, 0, none⟩)) (hq : tmps.getD q undef = v) (hg : w.heap[g]? = some (.cells cs t fr))
    (hu : P.underlying ty = some d) (hd : (match d with | .struct _ | .array _ _ => true | _ => false) = true) (hi : (P.info? ty).map (·.size) = some cs.size) :
    (results fn tmps).run P w = .ok (.tuple #[.agg cs, v]) w := by
  have hp' : tmps[p]?.getD undef = .pointer (some ⟨g, 0, none⟩) := by simpa using hp
  have hq' : tmps[q]?.getD undef = v := by simpa using hq
  simp [results, h, hp', hq', asAddr, run_loadVar_row w g t ty cs fr d hg hu hd hi]
theorem supCells_one (x : SupV) : (supCells x).toArray.all (·.oneCell') = true := by
  rw [List.all_toArray, List.all_eq_true]
  intro v hv
  simp only [supCells, List.mem_append, List.mem_cons, List.not_mem_nil, or_false, List.mem_map] at hv
  rcases hv with ((rfl | rfl) | ⟨b, _, rfl⟩) | rfl <;> rfl
end Go.Cof
namespace Go.Proofs.YtndcaaikjcicgaaDoor
open Go.RowKit Go.Cof
set_option maxRecDepth 100000
theorem info_super : (Tryd.prog.info? 88).map (fun i => (i.zero, i.size)) = some (some (supVal zeroSup), 35) := by kernel_rfl
theorem info_super35 : (Tryd.prog.info? 88).map (·.size) = some 35 := by kernel_rfl
theorem built_zero : Tryd.prog.built 88 [] = some (supCells zeroSup).toArray := by kernel_rfl
theorem built_sup (a b : Int) (s : ByteArray) : Tryd.prog.built 88 [(0, .int .i64 a), (1, .int .i64 b), (3, .string s)] = some (supCells ⟨a, b, List.replicate 32 false, s⟩).toArray := by kernel_rfl
theorem zero_len : (supCells zeroSup).toArray.size = 35 := by kernel_rfl
set_option maxHeartbeats 4000000 in
theorem refParse_arg (RB : Nat) (key s : ByteArray) (hk : key.size ≠ 32) (w : World) :
    Calls Tryd.prog 64 #[.pointer (some ⟨RB, 0, none⟩), .string key, .string s] w fun e w' => e = .returned (.tuple #[supVal zeroSup, .int .i64 1]) ∧ Keep NoB w w' := by
  have j0 : ¬ ((key.size : Nat) : Int) = 32 := by omega
  have hin := info_super
  have hbz := built_zero
  have hzl := zero_len
  have hone := supCells_one zeroSup
  have hi35 : (Tryd.prog.info? 88).map (·.size) = some (supCells zeroSup).toArray.size := by rw [hzl]; exact info_super35
  rw [supVal] at hin ⊢
  obtain ⟨cz, hcz⟩ : ∃ cz, cz = (supCells zeroSup).toArray := ⟨_, rfl⟩
  rw [← hcz] at hin hbz hzl hone hi35 ⊢
  clear hcz
  have Hin := Lib.hid hin
  have Hbz := Lib.hid hbz
  have H35 := Lib.hid hi35
  clear hin hbz hi35
  go_enter Tryd.func64, Tryd.ntmps64
  go_wp2_with (first | (refine wpList_alloc_row rfl 88 rfl Hin.out ?_; refine wl_world (fun w9 => w9.heap[w.heap.size]? = some (.cells cz 88 (0, 0)) ∧ Keep NoB w w9) ⟨heap_alloc_new w _, (Keep.refl NoB w).alloc _⟩ ?_; rintro w9 ⟨hX9, K9⟩) | (refine wpList_build_is rfl 88 #[] rfl cz (by simpa using Hbz.out) ?_) | (refine wpList_store_whole rfl 88 (.tmp 6) (.tmp 15) rfl w.heap.size 88 cz cz rfl rfl hX9 H35.out 35 hzl hzl hone ?_; have hX10 := heap_setRow (c' := cz) hX9; have K10 := K9.setRow (g := w.heap.size) (.inr (Nat.le_refl _)) cz; refine wl_world (fun w10 => w10.heap[w.heap.size]? = some (.cells cz 88 (0, 0)) ∧ Keep NoB w w10) ⟨hX10, K10⟩ ?_; clear hX10 K10; rintro w10 ⟨hX10, K10⟩))
  exact bodyPost_ret (v := .tuple #[.agg cz, .int .i64 1]) (results_row_slot rfl _ w10 w.heap.size 88 cz (0, 0) _ (.int .i64 1) rfl rfl hX10 Tryd.underlying88 rfl H35.out) rfl ⟨rfl, K10⟩
set_option maxHeartbeats 4000000 in
theorem refParse_short (RB : Nat) (key s : ByteArray) (hk : key.size = 32) (hs : s.size < 82) (w : World) :
    Calls Tryd.prog 64 #[.pointer (some ⟨RB, 0, none⟩), .string key, .string s] w fun e w' => e = .returned (.tuple #[supVal zeroSup, .int .i64 15]) ∧ Keep NoB w w' := by
  have j0 : ((key.size : Nat) : Int) = 32 := by omega
  have j1 : ((s.size : Nat) : Int) < 82 := by omega
  have hin := info_super
  have hbz := built_zero
  have hzl := zero_len
  have hone := supCells_one zeroSup
  have hi35 : (Tryd.prog.info? 88).map (·.size) = some (supCells zeroSup).toArray.size := by rw [hzl]; exact info_super35
  rw [supVal] at hin ⊢
  obtain ⟨cz, hcz⟩ : ∃ cz, cz = (supCells zeroSup).toArray := ⟨_, rfl⟩
  rw [← hcz] at hin hbz hzl hone hi35 ⊢
  clear hcz
  have Hin := Lib.hid hin
  have Hbz := Lib.hid hbz
  have H35 := Lib.hid hi35
  clear hin hbz hi35
  go_enter Tryd.func64, Tryd.ntmps64
  go_wp2_with (first | (refine wpList_alloc_row rfl 88 rfl Hin.out ?_; refine wl_world (fun w9 => w9.heap[w.heap.size]? = some (.cells cz 88 (0, 0)) ∧ Keep NoB w w9) ⟨heap_alloc_new w _, (Keep.refl NoB w).alloc _⟩ ?_; rintro w9 ⟨hX9, K9⟩) | (refine wpList_build_is rfl 88 #[] rfl cz (by simpa using Hbz.out) ?_) | (refine wpList_store_whole rfl 88 (.tmp 6) (.tmp 19) rfl w.heap.size 88 cz cz rfl rfl hX9 H35.out 35 hzl hzl hone ?_; have hX10 := heap_setRow (c' := cz) hX9; have K10 := K9.setRow (g := w.heap.size) (.inr (Nat.le_refl _)) cz; refine wl_world (fun w10 => w10.heap[w.heap.size]? = some (.cells cz 88 (0, 0)) ∧ Keep NoB w w10) ⟨hX10, K10⟩ ?_; clear hX10 K10; rintro w10 ⟨hX10, K10⟩))
  exact bodyPost_ret (v := .tuple #[.agg cz, .int .i64 15]) (results_row_slot rfl _ w10 w.heap.size 88 cz (0, 0) _ (.int .i64 15) rfl rfl hX10 Tryd.underlying88 rfl H35.out) rfl ⟨rfl, K10⟩
end Go.Proofs.YtndcaaikjcicgaaDoor
