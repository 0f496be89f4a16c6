/-
  Bundle of the texts CrSk CrSy. Conditions: none.
-/
import Derived.Test.YtpdalbckmfadbaaGreatBucat
import Derived.Deep.MidRow
import Derived.Deep.DeepCutAuto
import Derived.StillTail
import Derived.OrdersHeld
import Derived.Deep.QuietTactic
import Derived.BigQuiet
namespace Go.Proofs.YtpdalbckmfadbaaGreat.Cr
open Go.RowKit
set_option linter.unusedVariables false
def ints8 (m : List Int) : List Value := m.map (Value.int .i64)
theorem heap_lt' {w : World} {b : Nat} {o : Obj} (h : w.heap[b]? = some o) : b < w.heap.size := (Array.getElem?_eq_some_iff.1 h).1
/-- block b holds just these cells -/
def Blk (w : World) (b : Nat) (t : TypeId) (cs : List Value) : Prop := w.heap[b]? = some (.cells cs.toArray t (0, 0))
section
variable {w w' : World} {b : Nat} {t : TypeId} {cs : List Value}
theorem Blk.lt (h : Blk w b t cs) : b < w.heap.size := heap_lt' h
theorem Blk.cell (h : Blk w b t cs) {j : Nat} {v : Value} (hj : cs[j]? = some v) : w.cell? ⟨b, j, none⟩ = some v := by rw [cell_of_row w b j _ _ _ h]; simpa using hj
theorem Blk.icell {m : List Int} (h : Blk w b t (ints8 m)) {j : Nat} (hj : j < m.length) : w.cell? ⟨b, j, none⟩ = some (.int .i64 (gi m j)) := h.cell (by simp [ints8, gi, List.getD, hj])
theorem Blk.frozen (h : Blk w b t cs) (j : Nat) : w.frozen? ⟨b, j, none⟩ = false := frozen_of_row w b j _ _ h
theorem Blk.below (h : Blk w b t cs) (hB : Below w.heap.size w w') : Blk w' b t cs := (hB.block b h.lt).trans h
theorem Blk.alloc (h : Blk w b t cs) (o : Obj) : Blk (w.alloc o) b t cs := (heap_alloc_old (h := h.lt) ..).trans h
theorem Blk.drew (h : Blk w b t cs) : Blk w.drew b t cs := h
theorem Blk.drewN (h : Blk w b t cs) (q : Nat) : Blk (w.drewN q) b t cs := h
theorem Blk.new (w : World) (cs : List Value) (t : TypeId) {N : Nat} (hN : N = w.heap.size) : Blk (w.alloc (.cells cs.toArray t)) N t cs := by subst hN; exact heap_alloc_new _ _
theorem Blk.set (h : Blk w b t cs) (j : Nat) (v : Value) : Blk (w.setCell ⟨b, j, none⟩ v) b t (cs.set j v) := by
  have h' : w.heap[b]? = some (.cells cs.toArray t (0, 0)) := h
  obtain ⟨hlt, hk⟩ := Array.getElem?_eq_some_iff.1 h'
  show (w.heap.modify b _)[b]? = _
  rw [Array.getElem?_modify, if_pos rfl, h']
  simp
theorem Blk.other (h : Blk w b t cs) {g : Nat} (hg : g ≠ b) (j : Nat) (v : Value) : Blk (w.setCell ⟨g, j, none⟩ v) b t cs := by
  show (w.heap.modify g _)[b]? = _
  rw [Array.getElem?_modify, if_neg hg]; exact h
theorem grownBy_set (w : World) (b j : Nat) (v : Value) : w.grownBy (w.setCell ⟨b, j, none⟩ v) (some b) :=
  ⟨rfl, rfl, rfl, by show w.heap.size ≤ (w.heap.modify b _).size; rw [Array.size_modify]; exact Nat.le_refl _, fun k _ hk => by
    show (w.heap.modify b _)[k]? = _
    rw [Array.getElem?_modify, if_neg (fun e => hk (by rw [e]))]⟩
end
theorem Blk.setAllAux {b : Nat} {t : TypeId} (suf : List Value) : ∀ (cs old pre : List Value) (W : World), Blk W b t (pre ++ old ++ suf) → old.length = cs.length → Blk (W.setCells b pre.length cs) b t (pre ++ cs ++ suf)
  | [], old, pre, W, h, hl => by
    obtain rfl := List.eq_nil_of_length_eq_zero hl
    exact h
  | c :: cs, o :: old, pre, W, h, hl => by
    have h1 := h.set pre.length c
    have e : (pre ++ o :: old ++ suf).set pre.length c = (pre ++ [c]) ++ old ++ suf := by simp
    rw [e] at h1
    have h2 := Blk.setAllAux suf cs old (pre ++ [c]) _ h1 (by simpa using hl)
    rw [List.length_append, List.append_assoc pre [c] cs] at h2
    exact h2
theorem Blk.setAll {W : World} {b : Nat} {t : TypeId} {cs old : List Value} (h : Blk W b t old) (hl : old.length = cs.length) : Blk (W.setCells b 0 cs) b t cs := by
  have := Blk.setAllAux [] cs old [] W (by simpa using h) hl
  simpa using this
theorem grownBy_setCells (b : Nat) : ∀ (cs : List Value) (o : Nat) (W : World), W.grownBy (W.setCells b o cs) (some b)
  | [], _, W => World.grownBy.refl _ _
  | c :: cs, o, W => by
    have h1 := grownBy_set W b o c
    have h2 := grownBy_setCells b cs (o + 1) (W.setCell ⟨b, o, none⟩ c)
    exact ⟨h2.os.trans h1.os, h2.tape.trans h1.tape, h2.output.trans h1.output, Nat.le_trans h1.size h2.size, fun k hk hne => (h2.block k (Nat.lt_of_lt_of_le hk h1.size) hne).trans (h1.block k hk hne)⟩
section
variable {ops : Array Oper} {rest : List Oper} {op : Oper} {a : Act} {w : World} {Q : Exit → Act → World → Prop} {K : Act → World → Prop} {b : Nat} {t : TypeId} {cs old : List Value}
/-- a whole array or struct is read -/
theorem wp_ldrow (ty : TypeId) (x : Operand) (ho : op.op = .load ty x) (hx : a.eval x = .pointer (some ⟨b, 0, none⟩)) (hB : Blk w b t cs) (d : TypeDesc) (hu : Tryz.prog.underlying ty = some d) (hd : d.isRow = true) (hi : (Tryz.prog.info? ty).map (·.size) = some cs.length)
    (h : K (a.put op.dst (.agg cs.toArray)) w) : op.wp Tryz.prog a w K Q :=
  wp_load_mid ty x ho b 0 hx cs d (fun j v hj => by rw [Nat.zero_add]; exact hB.cell hj) hu hd hi h
theorem ldrow (hgd : op.guard = none) (ty : TypeId) (x : Operand) (ho : op.op = .load ty x) (hx : a.eval x = .pointer (some ⟨b, 0, none⟩)) (hB : Blk w b t cs) (d : TypeDesc) (hu : Tryz.prog.underlying ty = some d) (hd : d.isRow = true) (hi : (Tryz.prog.info? ty).map (·.size) = some cs.length)
    (h : wpList Tryz.prog ops Q rest (a.put op.dst (.agg cs.toArray)) w) : wpList Tryz.prog ops Q (op :: rest) a w :=
  wpList_plain hgd fun _ hK => wp_ldrow ty x ho hx hB d hu hd hi (hK _ _ h)
/-- a whole array or struct is stored over a block -/
theorem wp_strow (ty : TypeId) (x y : Operand) (ho : op.op = .store ty x y) (hx : a.eval x = .pointer (some ⟨b, 0, none⟩)) (hy : a.eval y = .agg cs.toArray) (hB : Blk w b t old) (hl : old.length = cs.length) (hi : (Tryz.prog.info? ty).map (·.size) = some cs.length) (h1 : ∀ v ∈ cs, v.oneCell' = true)
    (h : ∀ W', Blk W' b t cs → w.grownBy W' (some b) → K (a.put op.dst undef) W') : op.wp Tryz.prog a w K Q :=
  wp_store_mid ty x y ho b 0 cs.toArray hx hy (fun j hj => ⟨by
    rw [Nat.zero_add, hB.cell (List.getElem?_eq_getElem (by rw [hl]; simpa using hj))]; rfl, by rw [Nat.zero_add]; exact hB.frozen j⟩) (by simpa using hi) (all_oneCell_toArray h1) (h _ (by simpa using hB.setAll hl) (by simpa using grownBy_setCells b cs 0 w))
theorem strow (hgd : op.guard = none) (ty : TypeId) (x y : Operand) (ho : op.op = .store ty x y) (hx : a.eval x = .pointer (some ⟨b, 0, none⟩)) (hy : a.eval y = .agg cs.toArray) (hB : Blk w b t old) (hl : old.length = cs.length) (hi : (Tryz.prog.info? ty).map (·.size) = some cs.length) (h1 : ∀ v ∈ cs, v.oneCell' = true)
    (h : ∀ W', Blk W' b t cs → w.grownBy W' (some b) → wpList Tryz.prog ops Q rest (a.put op.dst undef) W') : wpList Tryz.prog ops Q (op :: rest) a w :=
  wpList_plain hgd fun _ hK => wp_strow ty x y ho hx hy hB hl hi h1 fun W' h2 h3 => hK _ _ (h W' h2 h3)
end
section
variable {ops : Array Oper} {rest : List Oper} {op : Oper} {a : Act} {w : World} {Q : Exit → Act → World → Prop} {K : Act → World → Prop} {b : Nat} {t : TypeId} {cs old pre suf : List Value}
/-- an array or struct is stored into the midst of a block -/
theorem wp_stmid (ty : TypeId) (x y : Operand) (ho : op.op = .store ty x y) {n : Nat} (hx : a.eval x = .pointer (some ⟨b, n, none⟩)) (hn : n = pre.length) (hy : a.eval y = .agg cs.toArray) (hB : Blk w b t (pre ++ old ++ suf)) (hl : old.length = cs.length) (hi : (Tryz.prog.info? ty).map (·.size) = some cs.length) (h1 : ∀ v ∈ cs, v.oneCell' = true)
    (h : ∀ W', Blk W' b t (pre ++ cs ++ suf) → w.grownBy W' (some b) → K (a.put op.dst undef) W') : op.wp Tryz.prog a w K Q := by
  subst hn
  refine wp_store_mid ty x y ho b pre.length cs.toArray hx hy (fun j hj => ⟨?_, hB.frozen _⟩) (by simpa using hi) (all_oneCell_toArray h1) (h _ (by simpa using Blk.setAllAux suf cs old pre w hB hl) (by simpa using grownBy_setCells b cs pre.length w))
  have hj' : j < old.length := by rw [hl]; simpa using hj
  rw [hB.cell (j := pre.length + j) (v := old[j]) (by rw [List.append_assoc, List.getElem?_append_right (by omega), Nat.add_sub_cancel_left, List.getElem?_append_left hj', List.getElem?_eq_getElem hj'])]
  rfl
theorem stmid (hgd : op.guard = none) (ty : TypeId) (x y : Operand) (ho : op.op = .store ty x y) {n : Nat} (hx : a.eval x = .pointer (some ⟨b, n, none⟩)) (hn : n = pre.length) (hy : a.eval y = .agg cs.toArray) (hB : Blk w b t (pre ++ old ++ suf)) (hl : old.length = cs.length) (hi : (Tryz.prog.info? ty).map (·.size) = some cs.length) (h1 : ∀ v ∈ cs, v.oneCell' = true)
    (h : ∀ W', Blk W' b t (pre ++ cs ++ suf) → w.grownBy W' (some b) → wpList Tryz.prog ops Q rest (a.put op.dst undef) W') : wpList Tryz.prog ops Q (op :: rest) a w :=
  wpList_plain hgd fun _ hK => wp_stmid ty x y ho hx hn hy hB hl hi h1 fun W' h2 h3 => hK _ _ (h W' h2 h3)
end
theorem ints8_one (m : List Int) : ∀ v ∈ ints8 m, v.oneCell' = true := oneCell_ints .i64 m
section
variable {P : Program} {w w' w0 : World} {A B : Option Addr} {n c m d g : Nat} {vs us : List Value} {e : TypeId}
theorem bal (h : Below w0.heap.size w0 w) (o : Obj) : Below w0.heap.size w0 (w.alloc o) := h.alloc h.size o
theorem heap_new' {N : Nat} {o : Obj} (hN : N = w.heap.size) : (w.alloc o).heap[N]? = some o := by subst hN; exact heap_alloc_new _ _
theorem heap_old' {N : Nat} {o x : Obj} (h : w.heap[N]? = some x) : (w.alloc o).heap[N]? = some x := by
  rw [heap_alloc_old (h := (Array.getElem?_eq_some_iff.1 h).1)]; exact h
theorem Ownv.of_heap {cs : Array Value} {base : Nat} (h : w.heap[g]? = some (.cells cs e (0, 0))) (hb : base ≤ g) (hm : cs.size ≤ maxLen) : Ownv e w base (some ⟨g, 0, none⟩) cs.size cs.size cs.toList :=
  ⟨by simp, .inr ⟨g, cs.size, cs, rfl, hb, h, Nat.le_refl _, hm, by simp, by rw [Nat.mul_one]; exact List.take_of_length_le (by simp)⟩⟩
end
theorem heap_lt {w : World} {g : Nat} {x : Obj} (h : w.heap[g]? = some x) : g < w.heap.size := (Array.getElem?_eq_some_iff.1 h).1
theorem results_cct {fn : Func} {p q u : Tmp} {ty ty' : TypeId} (h : fn.results = #[.cell p ty, .cell q ty', .tmp u]) (tmps : Array Value) (P : Program) (w : World) :
    (results fn tmps).run P w =
      ((asAddr (tmps.getD p undef)).run P w).andThen fun a w₁ => ((loadVar ty a).run P w₁).andThen fun v w₂ => ((asAddr (tmps.getD q undef)).run P w₂).andThen fun b w₃ => ((loadVar ty' b).run P w₃).andThen fun v' w₄ => .ok (.tuple #[v, v', tmps.getD u undef]) w₄ := by
  simp only [results, h]
  simp [Sem.run_bind, Result.andThen]
theorem results_c {fn : Func} {p : Tmp} {ty : TypeId} (h : fn.results = #[.cell p ty]) (tmps : Array Value) (P : Program) (w : World) :
    (results fn tmps).run P w = ((asAddr (tmps.getD p undef)).run P w).andThen fun a w₁ => (loadVar ty a).run P w₁ := by
  simp only [results, h]
  simp [Sem.run_bind]
/-- a block of another type is no row -/
theorem blk_ne_row {w : World} {B : Nat} {t e : TypeId} {cs : List Value} {base : Nat} {A : Option Addr} {n c : Nat} {vs : List Value} (hB : Blk w B t cs) (hO : Ownv e w base A n c vs) (ht : t ≠ e) : some B ≠ (Value.slice A n c).ownBlock := by
  intro h
  obtain ⟨hl, h2⟩ := hO.cases
  rcases h2 with ⟨rfl, rfl, rfl⟩ | ⟨g, cur, rfl, hb, hh, _⟩
  · cases h
  · have e1 : B = g := by simpa [Value.ownBlock] using h
    subst e1
    have h1 : w.heap[B]? = some (.cells cs.toArray t (0, 0)) := hB
    rw [h1] at hh
    injection hh with hh
    injection hh with _ h9
    exact ht h9
theorem Blk.grown {w w' : World} {B : Nat} {t : TypeId} {cs : List Value} {row : Option Nat} (h : Blk w B t cs) (hg : w.grownBy w' row) (hne : some B ≠ row) : Blk w' B t cs := (hg.block B h.lt hne).trans h
end Go.Proofs.YtpdalbckmfadbaaGreat.Cr

namespace Go.Proofs.YtpdalbckmfadbaaGreat.Cr
open Go.RowKit
set_option linter.unusedVariables false
theorem not_ready_of_waits {ops : Array Oper} {md : Region.Mode} {z i : Nat} {listed : Array Bool} (hw : Region.waitsFor md ops z i = true) (hun : listed.getD i true = false) : z ∉ Region.ready md ops listed := by
  intro hr
  obtain ⟨oj, hoj, e, he, hb, hon⟩ := Region.waitsFor_spec hw
  obtain ⟨_, o', ho', hall⟩ := mem_ready.1 hr
  have : oj = o' := Option.some.inj (hoj.symm.trans ho')
  subst this
  have h2 := hall e he hb
  rw [hon, getD_both hun] at h2
  cases h2
section
variable {P : Program} {ops : Array Oper} {Q : Exit → Act → World → Prop} {md : Region.Mode} {S : World → Prop} {p : Nat}
/-- whatever order is picked from here on; S holds until p has run -/
def wpAnyP (P : Program) (md : Region.Mode) (ops : Array Oper) (Q : Exit → Act → World → Prop) (S : World → Prop) (p : Nat) : Nat → Array Bool → Act → World → Prop
  | 0, listed, a, w => Region.ready md ops listed = [] ∧ Q .normal a w
  | fuel + 1, listed, a, w => (Region.ready md ops listed = [] → Q .normal a w) ∧
    ∀ i ∈ Region.ready md ops listed, wpOp P ops Q i (fun a' w' => ((listed.setIfInBounds i true).getD p true = false → S w') ∧ wpAnyP P md ops Q S p fuel (listed.setIfInBounds i true) a' w') a w
theorem wpAny_of_P : ∀ (fuel : Nat) (listed : Array Bool) (a : Act) (w : World), wpAnyP P md ops Q S p fuel listed a w → wpAny P md ops Q fuel listed a w
  | 0, _, _, _, h => h
  | fuel + 1, _, _, _, h => ⟨h.1, fun i hi => wpOp_mono (fun a' w' h' => wpAny_of_P fuel _ a' w' h'.2) (h.2 i hi)⟩
theorem getD_unset {listed : Array Bool} {i p : Nat} (h : (listed.setIfInBounds i true).getD p true = false) : listed.getD p true = false := by
  by_cases hip : i = p
  · subst hip
    by_cases hi : i < listed.size
    · simp [Array.getD, hi] at h
    · simp [Array.getD, hi] at h
  · rwa [getD_set_ne true hip] at h
theorem wpAnyP_first {T : World → Prop} {needs : Prop} {i : Nat} {oi : Oper} {v : Value} (hi : ops[i]? = some oi) (hsel : ∀ (j : Nat) (o : Oper) cs b, ops[j]? = some o → o.op ≠ .select cs b)
    (hQ : ∀ c a w, Q (.panic c) (a.put oi.dst v) w → Q (.panic c) a w) (hT : ∀ w, (needs → S w) → T w) (hw : needs → Region.waitsFor md ops p i = true) (hip : p ≠ i) :
    ∀ (fuel : Nat) (listed : Array Bool) (a : Act) (w : World),
      (∀ j oj, ops[j]? = some oj → j ≠ i → listed.getD j true = false → (∀ e ∈ oj.after, Region.binds md e = true → e.on ≠ i) → oi.apart ops oj = true) →
      i ∈ Region.ready md ops listed → YieldsIf P ops T oi v a → (needs → listed.getD p true = false) → (listed.getD p true = false → S w) →
      wpAnyP P md ops Q S p fuel (listed.setIfInBounds i true) (a.put oi.dst v) w → wpAnyP P md ops Q S p (fuel + 1) listed a w := by
  intro fuel
  induction fuel with
  | zero =>
    intro listed a w _ hr hy hp hS H
    refine ⟨fun h => (by rw [h] at hr; cases hr), fun j hj => ?_⟩
    by_cases hji : j = i
    · subst hji; exact hy.wpOp hi (hT w fun n => hS (hp n)) ⟨fun h => hS (getD_unset h), H⟩
    · have := ready_mono hj hji
      rw [H.1] at this
      cases this
  | succ fuel ih =>
    intro listed a w hfree hr hy hp hS H
    refine ⟨fun h => (by rw [h] at hr; cases hr), fun j hj => ?_⟩
    by_cases hji : j = i
    · subst hji; exact hy.wpOp hi (hT w fun n => hS (hp n)) ⟨fun h => hS (getD_unset h), H⟩
    · have hun := (mem_ready.1 hr).1
      have h1 := H.2 j (ready_mono hj hji)
      obtain ⟨hjun, oj, hoj, hall⟩ := mem_ready.1 hj
      have hnot : ∀ e ∈ oj.after, Region.binds md e = true → e.on ≠ i := fun e he hb heq => by
        have h9 := hall e he hb
        rw [heq, getD_both hun] at h9
        cases h9
      have h2 := wpOp_putIf hoj (hfree j oj hoj hji hjun hnot) (fun cs b => hsel i oi cs b hi) (fun cs b => hsel j oj cs b hoj) hQ hy h1
      have hfree' : ∀ k ok, ops[k]? = some ok → k ≠ i → (listed.setIfInBounds j true).getD k true = false →
          (∀ e ∈ ok.after, Region.binds md e = true → e.on ≠ i) → oi.apart ops ok = true := fun k ok hk hki hun' hno => hfree k ok hk hki (getD_unset hun') hno
      refine wpOp_mono (fun a' w' h3 => ?_) h2
      have hpp : needs → (listed.setIfInBounds j true).getD p true = false := fun n => by
        have hjp : j ≠ p := fun e => not_ready_of_waits (hw n) hun (e ▸ hj)
        rw [getD_set_ne true hjp]; exact hp n
      have hSS : (listed.setIfInBounds j true).getD p true = false → S w' := fun hp => by
        exact h3.2.1 (by rw [Array.setIfInBounds_comm _ _ (Ne.symm hji), getD_set_ne true (Ne.symm hip)]; exact hp)
      refine ⟨hSS, ih (listed.setIfInBounds j true) a' w' hfree' (ready_mono hr (Ne.symm hji)) h3.1 hpp hSS ?_⟩
      rw [Array.setIfInBounds_comm _ _ hji]
      exact h3.2.2
/-- an operation that loads what S holds, ahead of p -/
theorem wpAnyP_take {i : Nat} {oi : Oper} {v : Value} {fuel : Nat} {listed : Array Bool} {a : Act} {w : World} (hi : ops[i]? = some oi)
    (hs : Region.noSelect ops = true) (hf : Region.free md ops listed i = true) (hr : (Region.ready md ops listed).contains i = true) (hz : Region.waitsFor md ops p i = true) (hp : listed.getD p true = false) (hip : p ≠ i)
    (hQ : ∀ c a w, Q (.panic c) (a.put oi.dst v) w → Q (.panic c) a w) (hy : YieldsIf P ops S oi v a) (hS : S w)
    (h : wpAnyP P md ops Q S p fuel (listed.setIfInBounds i true) (a.put oi.dst v) w) : wpAnyP P md ops Q S p (fuel + 1) listed a w :=
  wpAnyP_first (needs := True) hi (Region.noSelect_spec hs) hQ (fun w h => h trivial) (fun _ => hz) hip fuel listed a w (Region.free_spec hi hf) (by simpa using hr) hy (fun _ => hp) (fun _ => hS) h
/-- an operation that asks nothing of the world -/
theorem wpAnyP_takeW {i : Nat} {oi : Oper} {v : Value} {fuel : Nat} {listed : Array Bool} {a : Act} {w : World} (hi : ops[i]? = some oi)
    (hs : Region.noSelect ops = true) (hf : Region.free md ops listed i = true) (hr : (Region.ready md ops listed).contains i = true) (hip : p ≠ i)
    (hQ : ∀ c a w, Q (.panic c) (a.put oi.dst v) w → Q (.panic c) a w) (hy : YieldsIf P ops (fun _ => True) oi v a) (hS : S w)
    (h : wpAnyP P md ops Q S p fuel (listed.setIfInBounds i true) (a.put oi.dst v) w) : wpAnyP P md ops Q S p (fuel + 1) listed a w :=
  wpAnyP_first (needs := False) hi (Region.noSelect_spec hs) hQ (fun w h => trivial) (fun h => h.elim) hip fuel listed a w (Region.free_spec hi hf) (by simpa using hr) hy (fun h => h.elim) (fun _ => hS) h
/-- the only one that may come up -/
theorem wpAnyP_one {i : Nat} {oi : Oper} {fuel : Nat} {listed : Array Bool} {a : Act} {w : World} (hi : ops[i]? = some oi) (hr : Region.ready md ops listed = [i]) (hg : oi.guard = none) (hp : (listed.setIfInBounds i true).getD p true = true)
    (h : ∀ K : Act → World → Prop, (∀ a' w', wpAnyP P md ops Q S p fuel (listed.setIfInBounds i true) a' w' → K a' w') → oi.wp P a w K Q) : wpAnyP P md ops Q S p (fuel + 1) listed a w := by
  refine ⟨fun h0 => ?_, fun j hj => ?_⟩
  · rw [hr] at h0
    cases h0
  · rw [hr] at hj
    have hj' : j = i := by simpa using hj
    subst hj'
    unfold wpOp
    simp only [hi]
    rw [if_pos (by simp [Region.wanted, hg])]
    exact .inl (h _ fun _ _ h2 => ⟨fun h9 => (by rw [hp] at h9; cases h9), h2⟩)
theorem wpAnyP_done {listed : Array Bool} {a : Act} {w : World} (hr : Region.ready md ops listed = []) (h : Q .normal a w) : ∀ fuel, wpAnyP P md ops Q S p fuel listed a w
  | 0 => ⟨hr, h⟩
  | _ + 1 => ⟨fun _ => h, by rw [hr]; simp⟩
theorem wp_region_P {id : Nat} {a : Act} {w : World} (S : World → Prop) (p : Nat) (hm : P.follows .mixedOrders = true) (h : wpAnyP P .any ops Q S p ops.size (Array.replicate ops.size false) a w.drew) : (Code.region id ops true).wp P Q a w :=
  wp_region_any hm (wpAny_of_P _ _ _ _ h)
/-- whichever of several comes up -/
theorem wpAnyP_cases {L : List Nat} {fuel : Nat} {listed : Array Bool} {a : Act} {w : World} (hr : Region.ready md ops listed = L) (hne : L ≠ []) (hS : ∀ w, S w)
    (h : ∀ i ∈ L, ∃ oi, ops[i]? = some oi ∧ oi.guard = none ∧ ∀ K : Act → World → Prop, (∀ a' w', wpAnyP P md ops Q S p fuel (listed.setIfInBounds i true) a' w' → K a' w') → oi.wp P a w K Q) : wpAnyP P md ops Q S p (fuel + 1) listed a w := by
  refine ⟨fun h0 => absurd (hr.symm.trans h0) hne, fun j hj => ?_⟩
  rw [hr] at hj
  obtain ⟨oi, hi, hg, hK⟩ := h j hj
  unfold wpOp
  simp only [hi]
  rw [if_pos (by simp [Region.wanted, hg])]
  exact .inl (hK _ fun _ _ h2 => ⟨fun _ => hS _, h2⟩)
/-- one of two -/
theorem wpAnyP_two {i j : Nat} {oi oj : Oper} {fuel : Nat} {listed : Array Bool} {a : Act} {w : World} (hi : ops[i]? = some oi) (hj : ops[j]? = some oj) (hr : Region.ready md ops listed = [i, j]) (gi : oi.guard = none) (gj : oj.guard = none) (hS : ∀ w, S w)
    (h1 : ∀ K : Act → World → Prop, (∀ a' w', wpAnyP P md ops Q S p fuel (listed.setIfInBounds i true) a' w' → K a' w') → oi.wp P a w K Q)
    (h2 : ∀ K : Act → World → Prop, (∀ a' w', wpAnyP P md ops Q S p fuel (listed.setIfInBounds j true) a' w' → K a' w') → oj.wp P a w K Q) : wpAnyP P md ops Q S p (fuel + 1) listed a w :=
  wpAnyP_cases hr (by simp) hS fun q hq => by
    simp only [List.mem_cons, List.not_mem_nil, or_false] at hq
    rcases hq with rfl | rfl
    · exact ⟨_, hi, gi, h1⟩
    · exact ⟨_, hj, gj, h2⟩
/-- one of three -/
theorem wpAnyP_three {i j k : Nat} {oi oj ok : Oper} {fuel : Nat} {listed : Array Bool} {a : Act} {w : World} (hi : ops[i]? = some oi) (hj : ops[j]? = some oj) (hk : ops[k]? = some ok) (hr : Region.ready md ops listed = [i, j, k]) (gi : oi.guard = none) (gj : oj.guard = none) (gk : ok.guard = none) (hS : ∀ w, S w)
    (h1 : ∀ K : Act → World → Prop, (∀ a' w', wpAnyP P md ops Q S p fuel (listed.setIfInBounds i true) a' w' → K a' w') → oi.wp P a w K Q)
    (h2 : ∀ K : Act → World → Prop, (∀ a' w', wpAnyP P md ops Q S p fuel (listed.setIfInBounds j true) a' w' → K a' w') → oj.wp P a w K Q)
    (h3 : ∀ K : Act → World → Prop, (∀ a' w', wpAnyP P md ops Q S p fuel (listed.setIfInBounds k true) a' w' → K a' w') → ok.wp P a w K Q) : wpAnyP P md ops Q S p (fuel + 1) listed a w :=
  wpAnyP_cases hr (by simp) hS fun q hq => by
    simp only [List.mem_cons, List.not_mem_nil, or_false] at hq
    rcases hq with rfl | rfl | rfl
    · exact ⟨_, hi, gi, h1⟩
    · exact ⟨_, hj, gj, h2⟩
    · exact ⟨_, hk, gk, h3⟩
end
section
variable {P : Program} {ops : Array Oper} {Q : Exit → Act → World → Prop} {md : Region.Mode} {S : World → Prop} {p : Nat}
theorem P_start {id : Nat} {a : Act} {w : World} (S : World → Prop) (p n : Nat) (l0 : Array Bool) (hn : ops.size = n) (hl : Array.replicate n false = l0) (hm : P.follows .mixedOrders = true) (h : wpAnyP P .any ops Q S p n l0 a w.drew) : (Code.region id ops true).wp P Q a w := by
  subst hl; subst hn; exact wp_region_P S p hm h
theorem P_take (i d : Nat) (v : Value) (l' : Array Bool) {oi : Oper} {fuel : Nat} {listed : Array Bool} {ts : Array Value} {ds : List Deferred} {w : World} (hi : ops[i]? = some oi) (hd : oi.dst = some d) (hl : listed.setIfInBounds i true = l')
    (hs : Region.noSelect ops = true) (hf : Region.free md ops listed i = true) (hr : (Region.ready md ops listed).contains i = true) (hz : Region.waitsFor md ops p i = true) (hp : listed.getD p true = false) (hip : p ≠ i)
    (hQ : ∀ c a w, Q (.panic c) (a.put oi.dst v) w → Q (.panic c) a w) (hy : YieldsIf P ops S oi v ⟨ts, ds⟩) (hS : S w)
    (h : wpAnyP P md ops Q S p fuel l' ⟨ts.setIfInBounds d v, ds⟩ w) : wpAnyP P md ops Q S p (fuel + 1) listed ⟨ts, ds⟩ w := by
  subst hl
  refine wpAnyP_take hi hs hf hr hz hp hip hQ hy hS ?_
  rw [hd]; exact h
theorem P_takeW (i d : Nat) (v : Value) (l' : Array Bool) {oi : Oper} {fuel : Nat} {listed : Array Bool} {ts : Array Value} {ds : List Deferred} {w : World} (hi : ops[i]? = some oi) (hd : oi.dst = some d) (hl : listed.setIfInBounds i true = l')
    (hs : Region.noSelect ops = true) (hf : Region.free md ops listed i = true) (hr : (Region.ready md ops listed).contains i = true) (hip : p ≠ i)
    (hQ : ∀ c a w, Q (.panic c) (a.put oi.dst v) w → Q (.panic c) a w) (hy : YieldsIf P ops (fun _ => True) oi v ⟨ts, ds⟩) (hS : S w)
    (h : wpAnyP P md ops Q S p fuel l' ⟨ts.setIfInBounds d v, ds⟩ w) : wpAnyP P md ops Q S p (fuel + 1) listed ⟨ts, ds⟩ w := by
  subst hl
  refine wpAnyP_takeW hi hs hf hr hip hQ hy hS ?_
  rw [hd]; exact h
theorem P_one (i : Nat) (l' : Array Bool) {oi : Oper} {fuel : Nat} {listed : Array Bool} {a : Act} {w : World} (hi : ops[i]? = some oi) (hl : listed.setIfInBounds i true = l') (hr : Region.ready md ops listed = [i]) (hg : oi.guard = none) (hp : l'.getD p true = true)
    (h : ∀ K : Act → World → Prop, (∀ a' w', wpAnyP P md ops Q S p fuel l' a' w' → K a' w') → oi.wp P a w K Q) : wpAnyP P md ops Q S p (fuel + 1) listed a w := by
  subst hl; exact wpAnyP_one hi hr hg hp h
theorem P_oneS (i : Nat) (l' : Array Bool) {oi : Oper} {fuel : Nat} {listed : Array Bool} {a : Act} {w : World} (hi : ops[i]? = some oi) (hl : listed.setIfInBounds i true = l') (hr : Region.ready md ops listed = [i]) (hg : oi.guard = none)
    (h : ∀ K : Act → World → Prop, (∀ a' w', S w' → wpAnyP P md ops Q S p fuel l' a' w' → K a' w') → oi.wp P a w K Q) : wpAnyP P md ops Q S p (fuel + 1) listed a w := by
  subst hl
  refine ⟨fun h0 => ?_, fun j hj => ?_⟩
  · rw [hr] at h0
    cases h0
  · rw [hr] at hj
    have hj' : j = i := by simpa using hj
    subst hj'
    unfold wpOp
    simp only [hi]
    rw [if_pos (by simp [Region.wanted, hg])]
    exact .inl (h _ fun _ _ h1 h2 => ⟨fun _ => h1, h2⟩)
/-- as P_takeW, behind p -/
theorem P_takeX (i d : Nat) (v : Value) (l' : Array Bool) {oi : Oper} {fuel : Nat} {listed : Array Bool} {ts : Array Value} {ds : List Deferred} {w : World} (hi : ops[i]? = some oi) (hd : oi.dst = some d) (hl : listed.setIfInBounds i true = l')
    (hs : Region.noSelect ops = true) (hf : Region.free md ops listed i = true) (hr : (Region.ready md ops listed).contains i = true) (hip : p ≠ i)
    (hQ : ∀ c a w, Q (.panic c) (a.put oi.dst v) w → Q (.panic c) a w) (hy : YieldsIf P ops (fun _ => True) oi v ⟨ts, ds⟩) (hp : listed.getD p true = true)
    (h : wpAnyP P md ops Q S p fuel l' ⟨ts.setIfInBounds d v, ds⟩ w) : wpAnyP P md ops Q S p (fuel + 1) listed ⟨ts, ds⟩ w := by
  subst hl
  refine wpAnyP_first (needs := False) hi (Region.noSelect_spec hs) hQ (fun w h => trivial) (fun h => h.elim) hip fuel listed _ w (Region.free_spec hi hf) (by simpa using hr) hy (fun h => h.elim) (fun h => by rw [hp] at h; cases h) ?_
  rw [hd]; exact h
/-- as P_one, of a guarded operation that is wanted -/
theorem P_oneG (i : Nat) (l' : Array Bool) {oi : Oper} {fuel : Nat} {listed : Array Bool} {a : Act} {w : World} (hi : ops[i]? = some oi) (hl : listed.setIfInBounds i true = l') (hr : Region.ready md ops listed = [i]) (hg : Region.wanted oi (yielded ops a.tmps) = true) (hp : l'.getD p true = true)
    (h : ∀ K : Act → World → Prop, (∀ a' w', wpAnyP P md ops Q S p fuel l' a' w' → K a' w') → oi.wp P a w K Q) : wpAnyP P md ops Q S p (fuel + 1) listed a w := by
  subst hl
  refine ⟨fun h0 => ?_, fun j hj => ?_⟩
  · rw [hr] at h0
    cases h0
  · rw [hr] at hj
    have hj' : j = i := by simpa using hj
    subst hj'
    unfold wpOp
    simp only [hi]
    rw [if_pos hg]
    exact .inl (h _ fun _ _ h2 => ⟨fun h9 => (by rw [hp] at h9; cases h9), h2⟩)
theorem P_two (i j : Nat) (l1 l2 : Array Bool) {oi oj : Oper} {fuel : Nat} {listed : Array Bool} {a : Act} {w : World} (hi : ops[i]? = some oi) (hj : ops[j]? = some oj) (e1 : listed.setIfInBounds i true = l1) (e2 : listed.setIfInBounds j true = l2) (hr : Region.ready md ops listed = [i, j]) (gi : oi.guard = none) (gj : oj.guard = none) (hS : ∀ w, S w)
    (h1 : ∀ K : Act → World → Prop, (∀ a' w', wpAnyP P md ops Q S p fuel l1 a' w' → K a' w') → oi.wp P a w K Q)
    (h2 : ∀ K : Act → World → Prop, (∀ a' w', wpAnyP P md ops Q S p fuel l2 a' w' → K a' w') → oj.wp P a w K Q) : wpAnyP P md ops Q S p (fuel + 1) listed a w := by
  subst e1; subst e2; exact wpAnyP_two hi hj hr gi gj hS h1 h2
theorem P_three (i j k : Nat) (l1 l2 l3 : Array Bool) {oi oj ok : Oper} {fuel : Nat} {listed : Array Bool} {a : Act} {w : World} (hi : ops[i]? = some oi) (hj : ops[j]? = some oj) (hk : ops[k]? = some ok) (e1 : listed.setIfInBounds i true = l1) (e2 : listed.setIfInBounds j true = l2) (e3 : listed.setIfInBounds k true = l3)
    (hr : Region.ready md ops listed = [i, j, k]) (gi : oi.guard = none) (gj : oj.guard = none) (gk : ok.guard = none) (hS : ∀ w, S w)
    (h1 : ∀ K : Act → World → Prop, (∀ a' w', wpAnyP P md ops Q S p fuel l1 a' w' → K a' w') → oi.wp P a w K Q)
    (h2 : ∀ K : Act → World → Prop, (∀ a' w', wpAnyP P md ops Q S p fuel l2 a' w' → K a' w') → oj.wp P a w K Q)
    (h3 : ∀ K : Act → World → Prop, (∀ a' w', wpAnyP P md ops Q S p fuel l3 a' w' → K a' w') → ok.wp P a w K Q) : wpAnyP P md ops Q S p (fuel + 1) listed a w := by
  subst e1; subst e2; subst e3; exact wpAnyP_three hi hj hk hr gi gj gk hS h1 h2 h3
theorem P_done {listed : Array Bool} {a : Act} {w : World} (hr : Region.ready md ops listed = []) (h : Q .normal a w) : ∀ fuel, wpAnyP P md ops Q S p fuel listed a w := wpAnyP_done hr h
theorem wp_mkd {w : World} {o : Oper} {ts : Array Value} {ds : List Deferred} {K : Act → World → Prop} {Q : Exit → Act → World → Prop} (d : Nat) (l r : Operand) (t : TypeId) {e : TypeId} {n : Nat}
    (ho : o.op = .makeSlice t l r) (hd : o.dst = some d) {z : Value} {bytes : Nat} (hE : El P t e z bytes) {kl kr : IntKind} (hs : (⟨ts, ds⟩ : Act).eval l = .int kl (n : Int)) (hx : (⟨ts, ds⟩ : Act).eval r = .int kr (n : Int))
    (hby : bytes * n ≤ 281474976710656) (hm : n ≤ maxLen)
    (h : ∀ A w', Ownv e w' w.heap.size A n n (List.replicate n z) → Below w.heap.size w w' → A ≠ none → K ⟨ts.setIfInBounds d (.slice A n n), ds⟩ w') : o.wp P ⟨ts, ds⟩ w K Q :=
  wp_mk l r t ho hE hs hx hby hm fun A w' h1 h2 h3 => by rw [hd]; exact h A w' h1 h2 h3
end
section
variable {P : Program} {ops : Array Oper} {Q : Exit → Act → World → Prop} {md : Region.Mode} {S : World → Prop} {p : Nat}
/-- every listed operation's forerunners are listed -/
def ClosedR (md : Region.Mode) (ops : Array Oper) (listed : Array Bool) : Prop := ∀ j oj, ops[j]? = some oj → listed.getD j true = true → ∀ e ∈ oj.after, Region.binds md e = true → listed.getD e.on true = true
def closedB (md : Region.Mode) (ops : Array Oper) (listed : Array Bool) : Bool := (List.range ops.size).all fun j => match ops[j]? with
  | some oj => !listed.getD j true || oj.after.all fun e => !Region.binds md e || listed.getD e.on true
  | none => true
theorem closedB_spec {listed : Array Bool} (h : closedB md ops listed = true) : ClosedR md ops listed := by
  intro j oj hj hl e he hb
  unfold closedB at h
  rw [List.all_eq_true] at h
  have h1 := h j (by simpa using (Array.getElem?_eq_some_iff.1 hj).1)
  simp only [hj, hl, Bool.not_true, Bool.false_or] at h1
  obtain ⟨q, hq, rfl⟩ := Array.mem_iff_getElem.1 he
  have h2 := (Array.all_eq_true.1 h1) q hq
  simpa [hb] using h2
theorem getD_both_true {listed : Array Bool} {i : Nat} (h : listed.getD i false = true) : listed.getD i true = true := by
  by_cases hi : i < listed.size
  · simpa [Array.getD, hi] using h
  · simp [Array.getD, hi]
theorem closed_set {listed : Array Bool} (h : ClosedR md ops listed) {i : Nat} (hi : i ∈ Region.ready md ops listed) : ClosedR md ops (listed.setIfInBounds i true) := by
  intro j oj hj hl e he hb
  have up : ∀ q, listed.getD q true = true → (listed.setIfInBounds i true).getD q true = true := fun q hq => by
    by_cases e : i = q
    · subst e
      by_cases hs : i < listed.size
      · simp [Array.getD, hs]
      · simp [Array.getD, hs]
    · rw [getD_set_ne true e]; exact hq
  by_cases hji : i = j
  · subst hji
    obtain ⟨_, o', ho', hall⟩ := mem_ready.1 hi
    have : oj = o' := Option.some.inj (hj.symm.trans ho')
    subst this
    exact up _ (getD_both_true (hall e he hb))
  · rw [getD_set_ne true hji] at hl
    exact up _ (h j oj hj hl e he hb)
/-- a path of forerunners -/
def pathB (md : Region.Mode) (ops : Array Oper) (i : Nat) : Nat → List Nat → Bool
  | q, [] => Region.waitsFor md ops q i
  | q, x :: xs => Region.waitsFor md ops q x && pathB md ops i x xs
theorem path_listed {i : Nat} {listed : Array Bool} (hc : ClosedR md ops listed) : ∀ (xs : List Nat) (q : Nat), pathB md ops i q xs = true → (∃ oq, ops[q]? = some oq) → listed.getD q true = true → listed.getD i true = true
  | [], q, h, _, hq => by
    obtain ⟨oj, hoj, e, he, hb, hon⟩ := Region.waitsFor_spec h
    rw [← hon]; exact hc q oj hoj hq e he hb
  | x :: xs, q, h, _, hq => by
    simp only [pathB, Bool.and_eq_true] at h
    obtain ⟨oj, hoj, e, he, hb, hon⟩ := Region.waitsFor_spec h.1
    have hx : listed.getD x true = true := by rw [← hon]; exact hc q oj hoj hq e he hb
    cases xs with
    | nil =>
      obtain ⟨ox, hox, -⟩ := Region.waitsFor_spec h.2
      exact path_listed hc [] x h.2 ⟨ox, hox⟩ hx
    | cons y ys =>
      have h3 := h.2
      simp only [pathB, Bool.and_eq_true] at h3
      obtain ⟨ox, hox, -⟩ := Region.waitsFor_spec h3.1
      exact path_listed hc (y :: ys) x h.2 ⟨ox, hox⟩ hx
theorem not_ready_path {i : Nat} {listed : Array Bool} {xs : List Nat} (hc : ClosedR md ops listed) (hp : pathB md ops i p xs = true) (hun : listed.getD i true = false) : p ∉ Region.ready md ops listed := by
  intro hr
  obtain ⟨_, oj, hoj, hall⟩ := mem_ready.1 hr
  have key : listed.getD i true = true := by
    cases xs with
    | nil =>
      obtain ⟨oj', hoj', e, he, hb, hon⟩ := Region.waitsFor_spec hp
      have : oj = oj' := Option.some.inj (hoj.symm.trans hoj')
      subst this
      rw [← hon]; exact getD_both_true (hall e he hb)
    | cons x xs =>
      simp only [pathB, Bool.and_eq_true] at hp
      obtain ⟨oj', hoj', e, he, hb, hon⟩ := Region.waitsFor_spec hp.1
      have : oj = oj' := Option.some.inj (hoj.symm.trans hoj')
      subst this
      have hx : listed.getD x true = true := by rw [← hon]; exact getD_both_true (hall e he hb)
      have hex : ∃ ox, ops[x]? = some ox := by
        cases xs with
        | nil =>
          obtain ⟨ox, hox, -⟩ := Region.waitsFor_spec hp.2
          exact ⟨ox, hox⟩
        | cons y ys =>
          have h3 := hp.2
          simp only [pathB, Bool.and_eq_true] at h3
          obtain ⟨ox, hox, -⟩ := Region.waitsFor_spec h3.1
          exact ⟨ox, hox⟩
      exact path_listed hc xs x hp.2 hex hx
  rw [key] at hun
  cases hun
theorem wpAnyP_firstT {i : Nat} {oi : Oper} {v : Value} {xs : List Nat} (hi : ops[i]? = some oi) (hsel : ∀ (j : Nat) (o : Oper) cs b, ops[j]? = some o → o.op ≠ .select cs b)
    (hQ : ∀ c a w, Q (.panic c) (a.put oi.dst v) w → Q (.panic c) a w) (hw : pathB md ops i p xs = true) (hip : p ≠ i) :
    ∀ (fuel : Nat) (listed : Array Bool) (a : Act) (w : World), ClosedR md ops listed →
      (∀ j oj, ops[j]? = some oj → j ≠ i → listed.getD j true = false → (∀ e ∈ oj.after, Region.binds md e = true → e.on ≠ i) → oi.apart ops oj = true) →
      i ∈ Region.ready md ops listed → YieldsIf P ops S oi v a → listed.getD p true = false → S w →
      wpAnyP P md ops Q S p fuel (listed.setIfInBounds i true) (a.put oi.dst v) w → wpAnyP P md ops Q S p (fuel + 1) listed a w := by
  intro fuel
  induction fuel with
  | zero =>
    intro listed a w hc _ hr hy hp hS H
    refine ⟨fun h => (by rw [h] at hr; cases hr), fun j hj => ?_⟩
    by_cases hji : j = i
    · subst hji; exact hy.wpOp hi hS ⟨fun _ => hS, H⟩
    · have := ready_mono hj hji
      rw [H.1] at this
      cases this
  | succ fuel ih =>
    intro listed a w hc hfree hr hy hp hS H
    refine ⟨fun h => (by rw [h] at hr; cases hr), fun j hj => ?_⟩
    by_cases hji : j = i
    · subst hji; exact hy.wpOp hi hS ⟨fun _ => hS, H⟩
    · have hun := (mem_ready.1 hr).1
      have h1 := H.2 j (ready_mono hj hji)
      obtain ⟨hjun, oj, hoj, hall⟩ := mem_ready.1 hj
      have hnot : ∀ e ∈ oj.after, Region.binds md e = true → e.on ≠ i := fun e he hb heq => by
        have h9 := hall e he hb
        rw [heq, getD_both hun] at h9
        cases h9
      have h2 := wpOp_putIf hoj (hfree j oj hoj hji hjun hnot) (fun cs b => hsel i oi cs b hi) (fun cs b => hsel j oj cs b hoj) hQ hy h1
      have hfree' : ∀ k ok, ops[k]? = some ok → k ≠ i → (listed.setIfInBounds j true).getD k true = false →
          (∀ e ∈ ok.after, Region.binds md e = true → e.on ≠ i) → oi.apart ops ok = true := fun k ok hk hki hun' hno => hfree k ok hk hki (getD_unset hun') hno
      refine wpOp_mono (fun a' w' h3 => ?_) h2
      have hjp : j ≠ p := fun e => not_ready_path hc hw hun (e ▸ hj)
      have hpp : (listed.setIfInBounds j true).getD p true = false := by rw [getD_set_ne true hjp]; exact hp
      have hS' : S w' := h3.2.1 (by rw [Array.setIfInBounds_comm _ _ (Ne.symm hji), getD_set_ne true (Ne.symm hip)]; exact hpp)
      refine ⟨fun _ => hS', ih (listed.setIfInBounds j true) a' w' (closed_set hc hj) hfree' (ready_mono hr (Ne.symm hji)) h3.1 hpp hS' ?_⟩
      rw [Array.setIfInBounds_comm _ _ hji]
      exact h3.2.2
/-- a load that comes ahead of p along a path -/
theorem P_takeT (i d : Nat) (v : Value) (l' : Array Bool) (xs : List Nat) {oi : Oper} {fuel : Nat} {listed : Array Bool} {ts : Array Value} {ds : List Deferred} {w : World} (hi : ops[i]? = some oi) (hd : oi.dst = some d) (hl : listed.setIfInBounds i true = l')
    (hs : Region.noSelect ops = true) (hf : Region.free md ops listed i = true) (hr : (Region.ready md ops listed).contains i = true) (hz : pathB md ops i p xs = true) (hc : closedB md ops listed = true) (hp : listed.getD p true = false) (hip : p ≠ i)
    (hQ : ∀ c a w, Q (.panic c) (a.put oi.dst v) w → Q (.panic c) a w) (hy : YieldsIf P ops S oi v ⟨ts, ds⟩) (hS : S w)
    (h : wpAnyP P md ops Q S p fuel l' ⟨ts.setIfInBounds d v, ds⟩ w) : wpAnyP P md ops Q S p (fuel + 1) listed ⟨ts, ds⟩ w := by
  subst hl
  refine wpAnyP_firstT hi (Region.noSelect_spec hs) hQ hz hip fuel listed _ w (closedB_spec hc) (Region.free_spec hi hf) (by simpa using hr) hy hp hS ?_
  rw [hd]; exact h
theorem P_twoS (i j : Nat) (l1 l2 : Array Bool) {oi oj : Oper} {fuel : Nat} {listed : Array Bool} {a : Act} {w : World} (hi : ops[i]? = some oi) (hj : ops[j]? = some oj) (e1 : listed.setIfInBounds i true = l1) (e2 : listed.setIfInBounds j true = l2) (hr : Region.ready md ops listed = [i, j]) (gi : oi.guard = none) (gj : oj.guard = none)
    (h1 : ∀ K : Act → World → Prop, (∀ a' w', S w' → wpAnyP P md ops Q S p fuel l1 a' w' → K a' w') → oi.wp P a w K Q)
    (h2 : ∀ K : Act → World → Prop, (∀ a' w', S w' → wpAnyP P md ops Q S p fuel l2 a' w' → K a' w') → oj.wp P a w K Q) : wpAnyP P md ops Q S p (fuel + 1) listed a w := by
  subst e1; subst e2
  refine ⟨fun h0 => (by rw [hr] at h0; cases h0), fun q hq => ?_⟩
  rw [hr] at hq
  simp only [List.mem_cons, List.not_mem_nil, or_false] at hq
  rcases hq with rfl | rfl
  · unfold wpOp
    simp only [hi]
    rw [if_pos (by simp [Region.wanted, gi])]
    exact .inl (h1 _ fun _ _ q1 q2 => ⟨fun _ => q1, q2⟩)
  · unfold wpOp
    simp only [hj]
    rw [if_pos (by simp [Region.wanted, gj])]
    exact .inl (h2 _ fun _ _ q1 q2 => ⟨fun _ => q1, q2⟩)
end
def noPanic (Q : Exit → Act → World → Prop) : Exit → Act → World → Prop
  | .panic _, _, _ => False
  | e, a, w => Q e a w
theorem wp_nopanic {P : Program} {c : Code} {Q : Exit → Act → World → Prop} {a : Act} {w : World} (h : c.wp P (noPanic Q) a w) : c.wp P Q a w :=
  Code.wp_mono (fun e a w h => by cases e <;> first | exact h | exact h.elim) h
theorem noPanic_normal {Q : Exit → Act → World → Prop} {a : Act} {w : World} (h : Q .normal a w) : noPanic Q .normal a w := h
end Go.Proofs.YtpdalbckmfadbaaGreat.Cr

