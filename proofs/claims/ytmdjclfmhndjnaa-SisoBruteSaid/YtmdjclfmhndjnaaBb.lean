/-
  Contracts of siso.none and of the observation's methods steps, term and allows. Condition: an observation that lies in memory.
-/
import Derived.Test.YtmdjclfmhndjnaaBa
import Derived.Deep.MidRow
import Derived.Deep.DeepCutAuto
namespace Go.Proofs.Ytmdjclfmhndjnaa
open Go.RowKit
set_option linter.unusedVariables false
def ints8 (m : List Int) : List Value := m.map (Value.int .i64)
theorem heap_lt' {w : World} {b : Nat} {o : Obj} (h : w.heap[b]? = some o) : b < w.heap.size := (Array.getElem?_eq_some_iff.1 h).1
/-- block b holds just these cells -/
def Blk (w : World) (b : Nat) (t : TypeId) (cs : List Value) : Prop := w.heap[b]? = some (.cells cs.toArray t (0, 0))
section
variable {w w' : World} {b : Nat} {t : TypeId} {cs : List Value}
theorem Blk.lt (h : Blk w b t cs) : b < w.heap.size := heap_lt' h
theorem Blk.cell (h : Blk w b t cs) {j : Nat} {v : Value} (hj : cs[j]? = some v) : w.cell? ⟨b, j, none⟩ = some v := by rw [cell_of_row w b j _ _ _ h]; simpa using hj
theorem Blk.icell {m : List Int} (h : Blk w b t (ints8 m)) {j : Nat} (hj : j < m.length) : w.cell? ⟨b, j, none⟩ = some (.int .i64 (gi m j)) := h.cell (by simp [ints8, gi, List.getD, hj])
theorem Blk.frozen (h : Blk w b t cs) (j : Nat) : w.frozen? ⟨b, j, none⟩ = false := frozen_of_row w b j _ _ h
theorem Blk.below (h : Blk w b t cs) (hB : Below w.heap.size w w') : Blk w' b t cs := (hB.block b h.lt).trans h
theorem Blk.belowN {n : Nat} (h : Blk w b t cs) (hB : Below n w w') (hb : b < n) : Blk w' b t cs := (hB.block b hb).trans h
theorem Blk.alloc (h : Blk w b t cs) (o : Obj) : Blk (w.alloc o) b t cs := (heap_alloc_old (h := h.lt) ..).trans h
theorem Blk.drew (h : Blk w b t cs) : Blk w.drew b t cs := h
theorem Blk.drewN (h : Blk w b t cs) (q : Nat) : Blk (w.drewN q) b t cs := h
theorem Blk.new (w : World) (cs : List Value) (t : TypeId) {N : Nat} (hN : N = w.heap.size) : Blk (w.alloc (.cells cs.toArray t)) N t cs := by subst hN; exact heap_alloc_new _ _
theorem Blk.set (h : Blk w b t cs) (j : Nat) (v : Value) : Blk (w.setCell ⟨b, j, none⟩ v) b t (cs.set j v) := by
  have h' : w.heap[b]? = some (.cells cs.toArray t (0, 0)) := h
  obtain ⟨hlt, hk⟩ := Array.getElem?_eq_some_iff.1 h'
  show (w.heap.modify b _)[b]? = _
  rw [Array.getElem?_modify, if_pos rfl, h']
  simp
theorem Blk.other (h : Blk w b t cs) {g : Nat} (hg : g ≠ b) (j : Nat) (v : Value) : Blk (w.setCell ⟨g, j, none⟩ v) b t cs := by
  show (w.heap.modify g _)[b]? = _
  rw [Array.getElem?_modify, if_neg hg]; exact h
theorem grownBy_set (w : World) (b j : Nat) (v : Value) : w.grownBy (w.setCell ⟨b, j, none⟩ v) (some b) :=
  ⟨rfl, rfl, rfl, by show w.heap.size ≤ (w.heap.modify b _).size; rw [Array.size_modify]; exact Nat.le_refl _, fun k _ hk => by
    show (w.heap.modify b _)[k]? = _
    rw [Array.getElem?_modify, if_neg (fun e => hk (by rw [e]))]⟩
end
theorem info66 : (Try.prog.info? 66).map (·.size) = some 8 := by kernel_rfl
theorem res66 {W : World} {b : Nat} {m : List Int} (h : Blk W b 66 (ints8 m)) (hl : m.length = 8) : (loadVar 66 ⟨b, 0, none⟩).run Try.prog W = .ok (.agg (ints8 m).toArray) W :=
  run_loadVar_row (P := Try.prog) W b 66 66 _ (0, 0) _ h Try.underlying66 rfl (by rw [info66]; simp [ints8, hl])
theorem Blk.setAllAux {b : Nat} {t : TypeId} (suf : List Value) : ∀ (cs old pre : List Value) (W : World), Blk W b t (pre ++ old ++ suf) → old.length = cs.length → Blk (W.setCells b pre.length cs) b t (pre ++ cs ++ suf)
  | [], old, pre, W, h, hl => by
    obtain rfl := List.eq_nil_of_length_eq_zero hl
    exact h
  | c :: cs, o :: old, pre, W, h, hl => by
    have h1 := h.set pre.length c
    have e : (pre ++ o :: old ++ suf).set pre.length c = (pre ++ [c]) ++ old ++ suf := by simp
    rw [e] at h1
    have h2 := Blk.setAllAux suf cs old (pre ++ [c]) _ h1 (by simpa using hl)
    rw [List.length_append, List.append_assoc pre [c] cs] at h2
    exact h2
theorem Blk.setAll {W : World} {b : Nat} {t : TypeId} {cs old : List Value} (h : Blk W b t old) (hl : old.length = cs.length) : Blk (W.setCells b 0 cs) b t cs := by
  have := Blk.setAllAux [] cs old [] W (by simpa using h) hl
  simpa using this
theorem grownBy_setCells (b : Nat) : ∀ (cs : List Value) (o : Nat) (W : World), W.grownBy (W.setCells b o cs) (some b)
  | [], _, W => World.grownBy.refl _ _
  | c :: cs, o, W => by
    have h1 := grownBy_set W b o c
    have h2 := grownBy_setCells b cs (o + 1) (W.setCell ⟨b, o, none⟩ c)
    exact ⟨h2.os.trans h1.os, h2.tape.trans h1.tape, h2.output.trans h1.output, Nat.le_trans h1.size h2.size, fun k hk hne => (h2.block k (Nat.lt_of_lt_of_le hk h1.size) hne).trans (h1.block k hk hne)⟩
section
variable {ops : Array Oper} {rest : List Oper} {op : Oper} {a : Act} {w : World} {Q : Exit → Act → World → Prop} {K : Act → World → Prop} {b : Nat} {t : TypeId} {cs old : List Value}
/-- a whole array or struct is read -/
theorem wp_ldrow (ty : TypeId) (x : Operand) (ho : op.op = .load ty x) (hx : a.eval x = .pointer (some ⟨b, 0, none⟩)) (hB : Blk w b t cs) (d : TypeDesc) (hu : Try.prog.underlying ty = some d) (hd : d.isRow = true) (hi : (Try.prog.info? ty).map (·.size) = some cs.length)
    (h : K (a.put op.dst (.agg cs.toArray)) w) : op.wp Try.prog a w K Q :=
  wp_load_mid ty x ho b 0 hx cs d (fun j v hj => by rw [Nat.zero_add]; exact hB.cell hj) hu hd hi h
theorem ldrow (hgd : op.guard = none) (ty : TypeId) (x : Operand) (ho : op.op = .load ty x) (hx : a.eval x = .pointer (some ⟨b, 0, none⟩)) (hB : Blk w b t cs) (d : TypeDesc) (hu : Try.prog.underlying ty = some d) (hd : d.isRow = true) (hi : (Try.prog.info? ty).map (·.size) = some cs.length)
    (h : wpList Try.prog ops Q rest (a.put op.dst (.agg cs.toArray)) w) : wpList Try.prog ops Q (op :: rest) a w :=
  wpList_plain hgd fun _ hK => wp_ldrow ty x ho hx hB d hu hd hi (hK _ _ h)
/-- a whole array or struct is stored over a block -/
theorem wp_strow (ty : TypeId) (x y : Operand) (ho : op.op = .store ty x y) (hx : a.eval x = .pointer (some ⟨b, 0, none⟩)) (hy : a.eval y = .agg cs.toArray) (hB : Blk w b t old) (hl : old.length = cs.length) (hi : (Try.prog.info? ty).map (·.size) = some cs.length) (h1 : ∀ v ∈ cs, v.oneCell' = true)
    (h : ∀ W', Blk W' b t cs → w.grownBy W' (some b) → K (a.put op.dst undef) W') : op.wp Try.prog a w K Q :=
  wp_store_mid ty x y ho b 0 cs.toArray hx hy (fun j hj => ⟨by
    rw [Nat.zero_add, hB.cell (List.getElem?_eq_getElem (by rw [hl]; simpa using hj))]; rfl, by rw [Nat.zero_add]; exact hB.frozen j⟩) (by simpa using hi) (all_oneCell_toArray h1) (h _ (by simpa using hB.setAll hl) (by simpa using grownBy_setCells b cs 0 w))
theorem strow (hgd : op.guard = none) (ty : TypeId) (x y : Operand) (ho : op.op = .store ty x y) (hx : a.eval x = .pointer (some ⟨b, 0, none⟩)) (hy : a.eval y = .agg cs.toArray) (hB : Blk w b t old) (hl : old.length = cs.length) (hi : (Try.prog.info? ty).map (·.size) = some cs.length) (h1 : ∀ v ∈ cs, v.oneCell' = true)
    (h : ∀ W', Blk W' b t cs → w.grownBy W' (some b) → wpList Try.prog ops Q rest (a.put op.dst undef) W') : wpList Try.prog ops Q (op :: rest) a w :=
  wpList_plain hgd fun _ hK => wp_strow ty x y ho hx hy hB hl hi h1 fun W' h2 h3 => hK _ _ (h W' h2 h3)
end
section
variable {ops : Array Oper} {rest : List Oper} {op : Oper} {a : Act} {w : World} {Q : Exit → Act → World → Prop} {K : Act → World → Prop} {b : Nat} {t : TypeId} {cs old pre suf : List Value}
/-- an array or struct is stored into the midst of a block -/
theorem wp_stmid (ty : TypeId) (x y : Operand) (ho : op.op = .store ty x y) {n : Nat} (hx : a.eval x = .pointer (some ⟨b, n, none⟩)) (hn : n = pre.length) (hy : a.eval y = .agg cs.toArray) (hB : Blk w b t (pre ++ old ++ suf)) (hl : old.length = cs.length) (hi : (Try.prog.info? ty).map (·.size) = some cs.length) (h1 : ∀ v ∈ cs, v.oneCell' = true)
    (h : ∀ W', Blk W' b t (pre ++ cs ++ suf) → w.grownBy W' (some b) → K (a.put op.dst undef) W') : op.wp Try.prog a w K Q := by
  subst hn
  refine wp_store_mid ty x y ho b pre.length cs.toArray hx hy (fun j hj => ⟨?_, hB.frozen _⟩) (by simpa using hi) (all_oneCell_toArray h1) (h _ (by simpa using Blk.setAllAux suf cs old pre w hB hl) (by simpa using grownBy_setCells b cs pre.length w))
  have hj' : j < old.length := by rw [hl]; simpa using hj
  rw [hB.cell (j := pre.length + j) (v := old[j]) (by rw [List.append_assoc, List.getElem?_append_right (by omega), Nat.add_sub_cancel_left, List.getElem?_append_left hj', List.getElem?_eq_getElem hj'])]
  rfl
theorem stmid (hgd : op.guard = none) (ty : TypeId) (x y : Operand) (ho : op.op = .store ty x y) {n : Nat} (hx : a.eval x = .pointer (some ⟨b, n, none⟩)) (hn : n = pre.length) (hy : a.eval y = .agg cs.toArray) (hB : Blk w b t (pre ++ old ++ suf)) (hl : old.length = cs.length) (hi : (Try.prog.info? ty).map (·.size) = some cs.length) (h1 : ∀ v ∈ cs, v.oneCell' = true)
    (h : ∀ W', Blk W' b t (pre ++ cs ++ suf) → w.grownBy W' (some b) → wpList Try.prog ops Q rest (a.put op.dst undef) W') : wpList Try.prog ops Q (op :: rest) a w :=
  wpList_plain hgd fun _ hK => wp_stmid ty x y ho hx hn hy hB hl hi h1 fun W' h2 h3 => hK _ _ (h W' h2 h3)
end
theorem ints8_one (m : List Int) : ∀ v ∈ ints8 m, v.oneCell' = true := oneCell_ints .i64 m
theorem i66 {m : List Int} (h : m.length = 8) : (Try.prog.info? 66).map (·.size) = some (ints8 m).length := by rw [info66]; simp [ints8, h]
def NoneInv (w : World) (i : Value) (wr : World) : Prop := ∃ j : Nat, j ≤ 8 ∧ i = .int .i64 j ∧ Blk wr w.heap.size 66 (ints8 (List.replicate j UU ++ List.replicate (8 - j) 0)) ∧ Below w.heap.size w wr
theorem none_init : ints8 (List.replicate 0 UU ++ List.replicate (8 - 0) 0) = [.int .i64 0, .int .i64 0, .int .i64 0, .int .i64 0, .int .i64 0, .int .i64 0, .int .i64 0, .int .i64 0] := rfl
theorem none_step (j : Nat) (hj : j < 8) : (ints8 (List.replicate j UU ++ List.replicate (8 - j) 0)).set j (.int .i64 UU) = ints8 (List.replicate (j + 1) UU ++ List.replicate (8 - (j + 1)) 0) := by
  rcases (by omega : j = 0 ∨ j = 1 ∨ j = 2 ∨ j = 3 ∨ j = 4 ∨ j = 5 ∨ j = 6 ∨ j = 7) with rfl | rfl | rfl | rfl | rfl | rfl | rfl | rfl <;> rfl
set_option maxRecDepth 100000 in
theorem none_any (w : World) : Calls Try.prog 29 #[] w fun e w' => e = .returned (.agg (ints8 none0).toArray) ∧ Below w.heap.size w w' := by
  go_enter Try.func29, Try.ntmps29
  go_wp2
  go_loopw [2] (fun i wr => NoneInv w i wr) (fun i _ => 8 - (intOf i).toNat)
  case atStart => exact ⟨0, by omega, rfl, by rw [none_init]; exact Blk.new w _ 66 rfl, (Below.refl _ w).alloc (Nat.le_refl _) _⟩
  case round =>
    obtain ⟨j, hj, rfl, hb, hB⟩ := hrel
    by_cases hlt : j < 8
    · have hc := hb.icell (j := j) (by simp; omega)
      have hf := hb.frozen j
      have HS := Lib.hid (hb.set j (.int .i64 UU))
      have HB := Lib.hid hB
      have HST := Lib.hid (none_step j hlt)
      clear hb hB
      go_wp2
      go_roundw
      case rel => exact ⟨j + 1, by omega, by go_num, by rw [← HST.out]; exact HS.out, HB.out.setCell (Nat.le_refl _) _⟩
      case measure => simp [intOf]; omega
    · obtain rfl : j = 8 := by omega
      have hc := hb.icell (j := 0) (by simp)
      have hf := hb.frozen 0
      have hS := hb.set 0 (.int .i64 0)
      have hq : Below w.heap.size w (wr.setCell ⟨w.heap.size, 0, none⟩ (.int .i64 0)) := hB.setCell (Nat.le_refl _) _
      have hS' : Blk (wr.setCell ⟨w.heap.size, 0, none⟩ (.int .i64 0)) w.heap.size 66 (ints8 none0) := hS
      have HQ := Lib.hid hq
      clear hS hb hB hq
      go_wp2_with (first
        | (refine ldrow rfl 66 (.tmp 0) rfl rfl hS' _ Try.underlying66 rfl (i66 rfl) ?_)
        | (refine strow rfl 66 (.tmp 0) (.tmp 9) rfl rfl rfl hS' rfl (i66 rfl) (ints8_one _) ?_; intro W' h1 h2; have H1 := Lib.hid h1; have H2 := Lib.hid h2; clear h1 h2 hS'))
      refine bodyPost_ret (v := .agg (ints8 none0).toArray) ?_ rfl ⟨rfl, HQ.out.grown H2.out HQ.out.size (fun k hk => by cases hk; exact Nat.le_refl _)⟩
      rw [results_c rfl]
      have l1 := res66 H1.out rfl
      simp [Act.put, asAddr, l1, Sem.run_pure]
end Go.Proofs.Ytmdjclfmhndjnaa
