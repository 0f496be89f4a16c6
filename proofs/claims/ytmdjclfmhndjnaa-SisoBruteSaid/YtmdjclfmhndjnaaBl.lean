/-
  Lists of metrics in memory: rows of eight values each. Condition: none.
-/
import Derived.Test.YtmdjclfmhndjnaaBk
import Derived.Great.BuildSlice
namespace Go.Proofs.Ytmdjclfmhndjnaa
open Go.RowKit
set_option linter.unusedVariables false
/-- a list of metrics, the call's own -/
structure Mx (W : World) (base bg cap : Nat) (ms : List (List Int)) : Prop where
  ow : W.ownsRow base 66 8 (.slice (some ⟨bg, 0, none⟩) ms.length cap) ms.length (ms.flatMap ints8)
  l8 : ∀ m ∈ ms, m.length = 8
theorem flat8 : ∀ (ms : List (List Int)) (h : ∀ m ∈ ms, m.length = 8) (j q : Nat) (m : List Int), ms[j]? = some m → q < 8 → (ms.flatMap ints8)[8 * j + q]? = (ints8 m)[q]?
  | [], h, j, q, m, hm, hq => by simp at hm
  | x :: ms, h, 0, q, m, hm, hq => by
    simp at hm; subst hm
    have hx : (ints8 x).length = 8 := by simp [ints8, h x (by simp)]
    rw [List.flatMap_cons, List.getElem?_append_left (by omega), Nat.mul_zero, Nat.zero_add]
  | x :: ms, h, j + 1, q, m, hm, hq => by
    have hx : (ints8 x).length = 8 := by simp [ints8, h x (by simp)]
    rw [List.flatMap_cons, List.getElem?_append_right (by omega), hx, show 8 * (j + 1) + q - 8 = 8 * j + q from by omega]
    exact flat8 ms (fun m' hm' => h m' (by simp [hm'])) j q m (by simpa using hm) hq
section
variable {W W' : World} {base bg cap : Nat} {ms : List (List Int)}
theorem Mx.blk (h : Mx W base bg cap ms) : ∃ cur, W.heap[bg]? = some (.cells cur 66 (0, 0)) ∧ base ≤ bg ∧ ms.length ≤ cap ∧ cap ≤ maxLen ∧ cur.size = cap * 8 ∧ cur.toList.take (ms.length * 8) = ms.flatMap ints8 := by
  obtain ⟨h1, h2⟩ := h.ow
  rcases h2 with ⟨h2, h3⟩ | ⟨g, cap', cur, h2, h3, h4, h5, h6, h7, h8⟩
  · simp at h2
  · simp only [Value.slice.injEq, Option.some.injEq, Addr.mk.injEq, true_and, and_true] at h2
    obtain ⟨rfl, rfl⟩ := h2
    exact ⟨cur, h4, h3, h5, h6, h7, h8⟩
theorem Mx.lt (h : Mx W base bg cap ms) : bg < W.heap.size := by
  obtain ⟨cur, h1, -⟩ := h.blk
  exact heap_lt' h1
theorem Mx.ge (h : Mx W base bg cap ms) : base ≤ bg := by
  obtain ⟨cur, h1, h2, -⟩ := h.blk
  exact h2
theorem Mx.keep (h : Mx W base bg cap ms) (hk : W'.heap[bg]? = W.heap[bg]?) : Mx W' base bg cap ms := by
  obtain ⟨cur, h1, h2, h3, h4, h5, h6⟩ := h.blk
  exact ⟨⟨h.ow.1, .inr ⟨bg, cap, cur, rfl, h2, hk.trans h1, h3, h4, h5, h6⟩⟩, h.l8⟩
theorem Mx.below (h : Mx W base bg cap ms) (hB : Below W.heap.size W W') : Mx W' base bg cap ms := h.keep (hB.block bg h.lt)
theorem Mx.belowN {n : Nat} (h : Mx W base bg cap ms) (hB : Below n W W') (hn : bg < n) : Mx W' base bg cap ms := h.keep (hB.block bg hn)
theorem Mx.alloc (h : Mx W base bg cap ms) (o : Obj) : Mx (W.alloc o) base bg cap ms := h.keep (heap_alloc_old (h := h.lt) ..)
theorem Mx.grown (h : Mx W base bg cap ms) {row : Option Nat} (hg : W.grownBy W' row) (hne : some bg ≠ row) : Mx W' base bg cap ms := h.keep (hg.block bg h.lt hne)
theorem Mx.row (h : Mx W base bg cap ms) {j : Nat} {m : List Int} (hj : ms[j]? = some m) : W.rangeAt bg (8 * j) (ints8 m) := fun q v hv => by
  obtain ⟨cur, h1, h2, h3, h4, h5, h6⟩ := h.blk
  have hm : m.length = 8 := h.l8 m (List.mem_of_getElem? hj)
  have hq : q < 8 := by have := (List.getElem?_eq_some_iff.1 hv).1; simpa [ints8, hm] using this
  have hjl : j < ms.length := (List.getElem?_eq_some_iff.1 hj).1
  rw [cell_of_row W bg _ cur 66 (0, 0) h1]
  have h7 := flat8 ms h.l8 j q m hj hq
  rw [← h6, List.getElem?_take, if_pos (by omega), hv] at h7
  simpa using h7
theorem Mx.new (m : List Int) (hm : m.length = 8) (hb : base ≤ W.heap.size) {N : Nat} (hN : N = W.heap.size) : Mx (W.alloc (.cells (ints8 m).toArray 66)) base N 1 [m] := by
  subst hN
  have h := World.ownsRow_lit (base := base) (e := 66) (size := 8) W (ints8 m).toArray 1 hb (by unfold maxLen; omega) (by simp [ints8, hm])
  exact ⟨by simpa using h, by simpa using hm⟩
theorem info66b : (Try.prog.info? 66).map (fun i => (i.zero, i.size, i.bytes)) = some (some (.agg (ints8 (List.replicate 8 0)).toArray), 8, 64) := by kernel_rfl
/-- append of one row -/
theorem wp_appM {o : Oper} {a : Act} {K : Act → World → Prop} {Q : Exit → Act → World → Prop} (s x : Operand) (m : List Int) (hm : m.length = 8)
    (ho : o.op = .call { callee := .builtin .append, args := #[s, x], argTypes := #[68, 68] }) (hs : a.eval s = .slice (some ⟨bg, 0, none⟩) ms.length cap) (hx : a.eval x = .slice (some ⟨W.heap.size, 0, none⟩) 1 1)
    (hO : Mx W base bg cap ms) (hn : ms.length < 1000000) (hbase : base ≤ W.heap.size)
    (h : ∀ bg' cap' w', Mx w' base bg' cap' (ms ++ [m]) → W.grownBy w' (some bg) → K (a.put o.dst (.slice (some ⟨bg', 0, none⟩) (ms.length + 1) cap')) w') : o.wp Try.prog a (W.alloc (.cells (ints8 m).toArray 66)) K Q := by
  obtain ⟨i, hi, hz0, hz1, hz2⟩ := info_parts info66b
  have hl : (ints8 m).length = 8 := by simp [ints8, hm]
  obtain ⟨v', w', hr, h2, h3, h4⟩ := run_append_own (P := Try.prog) (W.alloc (.cells (ints8 m).toArray 66)) base 68 o.type 66 i _ 8 64 Try.underlying68 hi hz0 hz1 hz2 (by rfl) (by decide) _ ms.length _ (hO.alloc _).ow ⟨W.heap.size, 0, none⟩ 1 1 (ints8 m) (by simp [hl])
    (fun j u hj => by
      rw [add_lit, cell_of_row _ W.heap.size _ _ _ (0, 0) (heap_alloc_new _ _)]
      simpa using hj) (ints8_one m) (by unfold maxLen; omega) (by omega) (by simp; omega)
  rcases h2.2 with ⟨h5, h6⟩ | ⟨g, cap', cur, h5, _⟩
  · omega
  · rw [h5] at hr h2
    have h6 : Mx w' base g cap' (ms ++ [m]) := ⟨by simpa [List.flatMap_append] using h2, fun m' hm' => by
      rw [List.mem_append] at hm'
      rcases hm' with hm' | hm'
      · exact hO.l8 m' hm'
      · simp at hm'; subst hm'; exact hm⟩
    unfold Oper.wp
    simp only [execOp, ho, resolve, invoke, builtin, Sem.run_bind, Sem.run_pure, Result.andThen_ok, List.map_toArray, List.map_cons, List.map_nil, hs, hx, hr]
    exact h g cap' w' h6 (grownBy_of_alloc h3)
end
theorem ix68 (g n c : Nat) {j : Nat} (hj : j < n) (kd : IntKind) (W : World) : (Instr.indexAt 68 (.slice (some ⟨g, 0, none⟩) n c) (.int kd (j : Int))).run Try.prog W = .ok (.pointer (some ⟨g, 8 * j, none⟩)) W := by
  have h1 : (0 : Int) ≤ (j : Int) ∧ (j : Int) < (n : Int) := by omega
  have hs : (sizeOf 66).run Try.prog W = .ok 8 W := by kernel_rfl
  simp only [Instr.indexAt, Sem.run_bind, run_underlying Try.underlying68, Result.andThen_ok, asIntOf, Sem.run_pure, if_pos h1, hs, Int.toNat_natCast]
  rw [add_lit, Nat.zero_add, Nat.mul_comm]
theorem run_bs68 (m : List Int) (hm : m.length = 8) (W : World) : (Instr.buildSlice 68 1 #[(0, .agg (ints8 m).toArray)]).run Try.prog W = .ok (.slice (some ⟨W.heap.size, 0, none⟩) 1 1) (W.alloc (.cells (ints8 m).toArray 66)) := by
  obtain ⟨i, hi, hz0, hz1, hz2⟩ := info_parts info66b
  match m, hm with
  | [a, b, c, d, e, f, g, h], _ =>
    refine run_buildSlice (P := Try.prog) W 68 66 1 _ _ i _ Try.underlying68 hi hz0 (by rw [hz1]; decide) (by rw [hz1]; decide) ?_
    rw [hz1]
    first
      | kernel_rfl
      | (simp [Instr.fill, Value.cells, ints8, List.zipIdx, List.range, List.range.loop, Array.range]; done)
theorem wpo_bs {o : Oper} {a : Act} {W : World} {K : Act → World → Prop} {Q : Exit → Act → World → Prop} (x : Operand) (m : List Int) (hm : m.length = 8) (ho : o.op = .buildSlice 68 1 #[(0, x)]) (hx : a.eval x = .agg (ints8 m).toArray)
    (h : K (a.put o.dst (.slice (some ⟨W.heap.size, 0, none⟩) 1 1)) (W.alloc (.cells (ints8 m).toArray 66))) : o.wp Try.prog a W K Q := by
  unfold Oper.wp
  have hp : (#[(0, x)] : Array (Nat × Operand)).map (fun (i, x) => (i, a.eval x)) = #[(0, .agg (ints8 m).toArray)] := by simp [hx]
  simp only [execOp, ho, hp, run_bs68 m hm, Sem.run_bind, Sem.run_pure, Result.andThen_ok]
  exact h
theorem wpM_bs {ops : Array Oper} {rest : List Oper} {o : Oper} {a : Act} {W : World} {Q : Exit → Act → World → Prop} (hgd : o.guard = none) (x : Operand) (m : List Int) (hm : m.length = 8) (ho : o.op = .buildSlice 68 1 #[(0, x)]) (hx : a.eval x = .agg (ints8 m).toArray)
    (h : wpList Try.prog ops Q rest (a.put o.dst (.slice (some ⟨W.heap.size, 0, none⟩) 1 1)) (W.alloc (.cells (ints8 m).toArray 66))) : wpList Try.prog ops Q (o :: rest) a W :=
  wpList_plain hgd fun K hK => wpo_bs x m hm ho hx (hK _ _ h)
end Go.Proofs.Ytmdjclfmhndjnaa
