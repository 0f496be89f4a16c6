/-
  Blocks known whole, rows beside them, generic facts on rows. Condition: none.
-/
import Derived.Test.YtcbbkflnenkpgaaGreatQ
import Derived.Deep.MidRow
import Derived.Deep.DeepCutAuto
namespace Go.Proofs.YtcbbkflnenkpgaaGreat
open Go.RowKit
set_option linter.unusedVariables false
def ints8 (m : List Int) : List Value := m.map (Value.int .i64)
theorem heap_lt' {w : World} {b : Nat} {o : Obj} (h : w.heap[b]? = some o) : b < w.heap.size := (Array.getElem?_eq_some_iff.1 h).1
/-- block b holds just these cells -/
def Blk (w : World) (b : Nat) (t : TypeId) (cs : List Value) : Prop := w.heap[b]? = some (.cells cs.toArray t (0, 0))
section
variable {w w' : World} {b : Nat} {t : TypeId} {cs : List Value}
theorem Blk.lt (h : Blk w b t cs) : b < w.heap.size := heap_lt' h
theorem Blk.cell (h : Blk w b t cs) {j : Nat} {v : Value} (hj : cs[j]? = some v) : w.cell? ⟨b, j, none⟩ = some v := by rw [cell_of_row w b j _ _ _ h]; simpa using hj
theorem Blk.icell {m : List Int} (h : Blk w b t (ints8 m)) {j : Nat} (hj : j < m.length) : w.cell? ⟨b, j, none⟩ = some (.int .i64 (gi m j)) := h.cell (by simp [ints8, gi, List.getD, hj])
theorem Blk.frozen (h : Blk w b t cs) (j : Nat) : w.frozen? ⟨b, j, none⟩ = false := frozen_of_row w b j _ _ h
theorem Blk.below (h : Blk w b t cs) (hB : Below w.heap.size w w') : Blk w' b t cs := (hB.block b h.lt).trans h
theorem Blk.belowN {n : Nat} (h : Blk w b t cs) (hB : Below n w w') (hb : b < n) : Blk w' b t cs := (hB.block b hb).trans h
theorem Blk.alloc (h : Blk w b t cs) (o : Obj) : Blk (w.alloc o) b t cs := (heap_alloc_old (h := h.lt) ..).trans h
theorem Blk.drew (h : Blk w b t cs) : Blk w.drew b t cs := h
theorem Blk.drewN (h : Blk w b t cs) (q : Nat) : Blk (w.drewN q) b t cs := h
theorem Blk.new (w : World) (cs : List Value) (t : TypeId) {N : Nat} (hN : N = w.heap.size) : Blk (w.alloc (.cells cs.toArray t)) N t cs := by subst hN; exact heap_alloc_new _ _
theorem Blk.set (h : Blk w b t cs) (j : Nat) (v : Value) : Blk (w.setCell ⟨b, j, none⟩ v) b t (cs.set j v) := by
  have h' : w.heap[b]? = some (.cells cs.toArray t (0, 0)) := h
  obtain ⟨hlt, hk⟩ := Array.getElem?_eq_some_iff.1 h'
  show (w.heap.modify b _)[b]? = _
  rw [Array.getElem?_modify, if_pos rfl, h']
  simp
theorem Blk.other (h : Blk w b t cs) {g : Nat} (hg : g ≠ b) (j : Nat) (v : Value) : Blk (w.setCell ⟨g, j, none⟩ v) b t cs := by
  show (w.heap.modify g _)[b]? = _
  rw [Array.getElem?_modify, if_neg hg]; exact h
theorem grownBy_set (w : World) (b j : Nat) (v : Value) : w.grownBy (w.setCell ⟨b, j, none⟩ v) (some b) :=
  ⟨rfl, rfl, rfl, by show w.heap.size ≤ (w.heap.modify b _).size; rw [Array.size_modify]; exact Nat.le_refl _, fun k _ hk => by
    show (w.heap.modify b _)[k]? = _
    rw [Array.getElem?_modify, if_neg (fun e => hk (by rw [e]))]⟩
end
theorem Blk.setAllAux {b : Nat} {t : TypeId} (suf : List Value) : ∀ (cs old pre : List Value) (W : World), Blk W b t (pre ++ old ++ suf) → old.length = cs.length → Blk (W.setCells b pre.length cs) b t (pre ++ cs ++ suf)
  | [], old, pre, W, h, hl => by
    obtain rfl := List.eq_nil_of_length_eq_zero hl
    exact h
  | c :: cs, o :: old, pre, W, h, hl => by
    have h1 := h.set pre.length c
    have e : (pre ++ o :: old ++ suf).set pre.length c = (pre ++ [c]) ++ old ++ suf := by simp
    rw [e] at h1
    have h2 := Blk.setAllAux suf cs old (pre ++ [c]) _ h1 (by simpa using hl)
    rw [List.length_append, List.append_assoc pre [c] cs] at h2
    exact h2
theorem Blk.setAll {W : World} {b : Nat} {t : TypeId} {cs old : List Value} (h : Blk W b t old) (hl : old.length = cs.length) : Blk (W.setCells b 0 cs) b t cs := by
  have := Blk.setAllAux [] cs old [] W (by simpa using h) hl
  simpa using this
theorem grownBy_setCells (b : Nat) : ∀ (cs : List Value) (o : Nat) (W : World), W.grownBy (W.setCells b o cs) (some b)
  | [], _, W => World.grownBy.refl _ _
  | c :: cs, o, W => by
    have h1 := grownBy_set W b o c
    have h2 := grownBy_setCells b cs (o + 1) (W.setCell ⟨b, o, none⟩ c)
    exact ⟨h2.os.trans h1.os, h2.tape.trans h1.tape, h2.output.trans h1.output, Nat.le_trans h1.size h2.size, fun k hk hne => (h2.block k (Nat.lt_of_lt_of_le hk h1.size) hne).trans (h1.block k hk hne)⟩
section
variable {ops : Array Oper} {rest : List Oper} {op : Oper} {a : Act} {w : World} {Q : Exit → Act → World → Prop} {K : Act → World → Prop} {b : Nat} {t : TypeId} {cs old : List Value}
/-- a whole array or struct is read -/
theorem wp_ldrow (ty : TypeId) (x : Operand) (ho : op.op = .load ty x) (hx : a.eval x = .pointer (some ⟨b, 0, none⟩)) (hB : Blk w b t cs) (d : TypeDesc) (hu : Tryz.prog.underlying ty = some d) (hd : d.isRow = true) (hi : (Tryz.prog.info? ty).map (·.size) = some cs.length)
    (h : K (a.put op.dst (.agg cs.toArray)) w) : op.wp Tryz.prog a w K Q :=
  wp_load_mid ty x ho b 0 hx cs d (fun j v hj => by rw [Nat.zero_add]; exact hB.cell hj) hu hd hi h
theorem ldrow (hgd : op.guard = none) (ty : TypeId) (x : Operand) (ho : op.op = .load ty x) (hx : a.eval x = .pointer (some ⟨b, 0, none⟩)) (hB : Blk w b t cs) (d : TypeDesc) (hu : Tryz.prog.underlying ty = some d) (hd : d.isRow = true) (hi : (Tryz.prog.info? ty).map (·.size) = some cs.length)
    (h : wpList Tryz.prog ops Q rest (a.put op.dst (.agg cs.toArray)) w) : wpList Tryz.prog ops Q (op :: rest) a w :=
  wpList_plain hgd fun _ hK => wp_ldrow ty x ho hx hB d hu hd hi (hK _ _ h)
/-- a whole array or struct is stored over a block -/
theorem wp_strow (ty : TypeId) (x y : Operand) (ho : op.op = .store ty x y) (hx : a.eval x = .pointer (some ⟨b, 0, none⟩)) (hy : a.eval y = .agg cs.toArray) (hB : Blk w b t old) (hl : old.length = cs.length) (hi : (Tryz.prog.info? ty).map (·.size) = some cs.length) (h1 : ∀ v ∈ cs, v.oneCell' = true)
    (h : ∀ W', Blk W' b t cs → w.grownBy W' (some b) → K (a.put op.dst undef) W') : op.wp Tryz.prog a w K Q :=
  wp_store_mid ty x y ho b 0 cs.toArray hx hy (fun j hj => ⟨by
    rw [Nat.zero_add, hB.cell (List.getElem?_eq_getElem (by rw [hl]; simpa using hj))]; rfl, by rw [Nat.zero_add]; exact hB.frozen j⟩) (by simpa using hi) (all_oneCell_toArray h1) (h _ (by simpa using hB.setAll hl) (by simpa using grownBy_setCells b cs 0 w))
theorem strow (hgd : op.guard = none) (ty : TypeId) (x y : Operand) (ho : op.op = .store ty x y) (hx : a.eval x = .pointer (some ⟨b, 0, none⟩)) (hy : a.eval y = .agg cs.toArray) (hB : Blk w b t old) (hl : old.length = cs.length) (hi : (Tryz.prog.info? ty).map (·.size) = some cs.length) (h1 : ∀ v ∈ cs, v.oneCell' = true)
    (h : ∀ W', Blk W' b t cs → w.grownBy W' (some b) → wpList Tryz.prog ops Q rest (a.put op.dst undef) W') : wpList Tryz.prog ops Q (op :: rest) a w :=
  wpList_plain hgd fun _ hK => wp_strow ty x y ho hx hy hB hl hi h1 fun W' h2 h3 => hK _ _ (h W' h2 h3)
end
section
variable {ops : Array Oper} {rest : List Oper} {op : Oper} {a : Act} {w : World} {Q : Exit → Act → World → Prop} {K : Act → World → Prop} {b : Nat} {t : TypeId} {cs old pre suf : List Value}
/-- an array or struct is stored into the midst of a block -/
theorem wp_stmid (ty : TypeId) (x y : Operand) (ho : op.op = .store ty x y) {n : Nat} (hx : a.eval x = .pointer (some ⟨b, n, none⟩)) (hn : n = pre.length) (hy : a.eval y = .agg cs.toArray) (hB : Blk w b t (pre ++ old ++ suf)) (hl : old.length = cs.length) (hi : (Tryz.prog.info? ty).map (·.size) = some cs.length) (h1 : ∀ v ∈ cs, v.oneCell' = true)
    (h : ∀ W', Blk W' b t (pre ++ cs ++ suf) → w.grownBy W' (some b) → K (a.put op.dst undef) W') : op.wp Tryz.prog a w K Q := by
  subst hn
  refine wp_store_mid ty x y ho b pre.length cs.toArray hx hy (fun j hj => ⟨?_, hB.frozen _⟩) (by simpa using hi) (all_oneCell_toArray h1) (h _ (by simpa using Blk.setAllAux suf cs old pre w hB hl) (by simpa using grownBy_setCells b cs pre.length w))
  have hj' : j < old.length := by rw [hl]; simpa using hj
  rw [hB.cell (j := pre.length + j) (v := old[j]) (by rw [List.append_assoc, List.getElem?_append_right (by omega), Nat.add_sub_cancel_left, List.getElem?_append_left hj', List.getElem?_eq_getElem hj'])]
  rfl
theorem stmid (hgd : op.guard = none) (ty : TypeId) (x y : Operand) (ho : op.op = .store ty x y) {n : Nat} (hx : a.eval x = .pointer (some ⟨b, n, none⟩)) (hn : n = pre.length) (hy : a.eval y = .agg cs.toArray) (hB : Blk w b t (pre ++ old ++ suf)) (hl : old.length = cs.length) (hi : (Tryz.prog.info? ty).map (·.size) = some cs.length) (h1 : ∀ v ∈ cs, v.oneCell' = true)
    (h : ∀ W', Blk W' b t (pre ++ cs ++ suf) → w.grownBy W' (some b) → wpList Tryz.prog ops Q rest (a.put op.dst undef) W') : wpList Tryz.prog ops Q (op :: rest) a w :=
  wpList_plain hgd fun _ hK => wp_stmid ty x y ho hx hn hy hB hl hi h1 fun W' h2 h3 => hK _ _ (h W' h2 h3)
end
theorem ints8_one (m : List Int) : ∀ v ∈ ints8 m, v.oneCell' = true := oneCell_ints .i64 m
section
variable {P : Program} {w w' w0 : World} {A B : Option Addr} {n c m d g : Nat} {vs us : List Value} {e : TypeId}
theorem bal (h : Below w0.heap.size w0 w) (o : Obj) : Below w0.heap.size w0 (w.alloc o) := h.alloc h.size o
theorem heap_new' {N : Nat} {o : Obj} (hN : N = w.heap.size) : (w.alloc o).heap[N]? = some o := by subst hN; exact heap_alloc_new _ _
theorem heap_old' {N : Nat} {o x : Obj} (h : w.heap[N]? = some x) : (w.alloc o).heap[N]? = some x := by
  rw [heap_alloc_old (h := (Array.getElem?_eq_some_iff.1 h).1)]; exact h
theorem Ownv.of_heap {cs : Array Value} {base : Nat} (h : w.heap[g]? = some (.cells cs e (0, 0))) (hb : base ≤ g) (hm : cs.size ≤ maxLen) : Ownv e w base (some ⟨g, 0, none⟩) cs.size cs.size cs.toList :=
  ⟨by simp, .inr ⟨g, cs.size, cs, rfl, hb, h, Nat.le_refl _, hm, by simp, by rw [Nat.mul_one]; exact List.take_of_length_le (by simp)⟩⟩
/-- append onto a row made since w0; all that is older stays -/
theorem wp_appB {o : Oper} {a : Act} {K : Act → World → Prop} {Q : Exit → Act → World → Prop} (s x : Operand) (t : TypeId)
    (ho : o.op = .call { callee := .builtin .append, args := #[s, x], argTypes := #[t, t] }) {z : Value} {bytes : Nat} (hE : El P t e z bytes) (hs : a.eval s = .slice A n c) (hx : a.eval x = .slice B m d)
    (hB : Below w0.heap.size w0 w) (hO : Ownv e w w0.heap.size A n c vs) (hR : Rdv w B m d us) (h1 : ∀ u ∈ us, u.oneCell' = true) (hby : (n + m) * bytes ≤ 140737488355328) (hm : n + m ≤ maxLen)
    (h : ∀ A' c' w', Ownv e w' w0.heap.size A' (n + m) c' (vs ++ us) → Below w0.heap.size w0 w' → (∀ g, g < w.heap.size → some g ≠ (Value.slice A n c).ownBlock → w'.heap[g]? = w.heap[g]?) → K (a.put o.dst (.slice A' (n + m) c')) w') : o.wp P a w K Q := by
  refine wp_app s x t ho hE hs hx hO hR h1 hby hm hB.size ?_
  intro A' c' w' h2 h3
  exact h A' c' w' h2 (hB.grown h3 hB.size (fun k hk => Ownv.ob' hO hk)) h3.block
end
theorem heap_lt {w : World} {g : Nat} {x : Obj} (h : w.heap[g]? = some x) : g < w.heap.size := (Array.getElem?_eq_some_iff.1 h).1
theorem own_ne_size {e : TypeId} {w : World} {base : Nat} {A : Option Addr} {n c : Nat} {vs : List Value} (h : Ownv e w base A n c vs) : some w.heap.size ≠ (Value.slice A n c).ownBlock := fun he => by
  have := (h.ow.lt _ he.symm).2
  omega

theorem results_cct {fn : Func} {p q u : Tmp} {ty ty' : TypeId} (h : fn.results = #[.cell p ty, .cell q ty', .tmp u]) (tmps : Array Value) (P : Program) (w : World) :
    (results fn tmps).run P w =
      ((asAddr (tmps.getD p undef)).run P w).andThen fun a w₁ => ((loadVar ty a).run P w₁).andThen fun v w₂ => ((asAddr (tmps.getD q undef)).run P w₂).andThen fun b w₃ => ((loadVar ty' b).run P w₃).andThen fun v' w₄ => .ok (.tuple #[v, v', tmps.getD u undef]) w₄ := by
  simp only [results, h]
  simp [Sem.run_bind, Result.andThen]
theorem results_cc {fn : Func} {p q : Tmp} {ty ty' : TypeId} (h : fn.results = #[.cell p ty, .cell q ty']) (tmps : Array Value) (P : Program) (w : World) :
    (results fn tmps).run P w =
      ((asAddr (tmps.getD p undef)).run P w).andThen fun a w₁ => ((loadVar ty a).run P w₁).andThen fun v w₂ => ((asAddr (tmps.getD q undef)).run P w₂).andThen fun b w₃ => ((loadVar ty' b).run P w₃).andThen fun v' w₄ => .ok (.tuple #[v, v']) w₄ := by
  simp only [results, h]
  simp [Sem.run_bind, Result.andThen]
theorem results_c {fn : Func} {p : Tmp} {ty : TypeId} (h : fn.results = #[.cell p ty]) (tmps : Array Value) (P : Program) (w : World) :
    (results fn tmps).run P w = ((asAddr (tmps.getD p undef)).run P w).andThen fun a w₁ => (loadVar ty a).run P w₁ := by
  simp only [results, h]
  simp [Sem.run_bind]
/-- a block of another type is no row -/
theorem blk_ne_row {w : World} {B : Nat} {t e : TypeId} {cs : List Value} {base : Nat} {A : Option Addr} {n c : Nat} {vs : List Value} (hB : Blk w B t cs) (hO : Ownv e w base A n c vs) (ht : t ≠ e) : some B ≠ (Value.slice A n c).ownBlock := by
  intro h
  obtain ⟨hl, h2⟩ := hO.cases
  rcases h2 with ⟨rfl, rfl, rfl⟩ | ⟨g, cur, rfl, hb, hh, _⟩
  · cases h
  · have e1 : B = g := by simpa [Value.ownBlock] using h
    subst e1
    have h1 : w.heap[B]? = some (.cells cs.toArray t (0, 0)) := hB
    rw [h1] at hh
    injection hh with hh
    injection hh with _ h9
    exact ht h9
theorem Blk.grown {w w' : World} {B : Nat} {t : TypeId} {cs : List Value} {row : Option Nat} (h : Blk w B t cs) (hg : w.grownBy w' row) (hne : some B ≠ row) : Blk w' B t cs := (hg.block B h.lt hne).trans h
end Go.Proofs.YtcbbkflnenkpgaaGreat
