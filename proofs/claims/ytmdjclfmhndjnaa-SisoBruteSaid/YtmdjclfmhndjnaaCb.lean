/-
  Slices whose elements are rows of several cells: reading, appending, making. Condition: none.
-/
import Derived.Test.YtmdjclfmhndjnaaCa
namespace Go.Proofs.Ytmdjclfmhndjnaa
open Go.RowKit
set_option linter.unusedVariables false
/-- what an element type of sz cells owes -/
structure ElR (P : Program) (t e : TypeId) (z : Value) (sz bytes : Nat) : Prop where
  u : P.underlying t = some (.slice e)
  i : (P.info? e).map (fun i => (i.zero, i.size, i.bytes)) = some (some z, sz, bytes)
  s : ∀ W, (sizeOf e).run P W = .ok sz W
  c : z.cells.size = sz
  p : 0 < sz
/-- a slice of rows, the call's own -/
structure Rw (e : TypeId) (sz : Nat) (W : World) (base : Nat) (A : Option Addr) (cap : Nat) (rs : List (List Value)) : Prop where
  ow : W.ownsRow base e sz (.slice A rs.length cap) rs.length rs.flatten
  l : ∀ r ∈ rs, r.length = sz
theorem flatR (sz : Nat) : ∀ (rs : List (List Value)) (h : ∀ r ∈ rs, r.length = sz) (j q : Nat) (r : List Value), rs[j]? = some r → q < sz → rs.flatten[sz * j + q]? = r[q]?
  | [], h, j, q, m, hm, hq => by simp at hm
  | x :: ms, h, 0, q, m, hm, hq => by
    simp at hm; subst hm
    have hx : x.length = sz := h x (by simp)
    rw [List.flatten_cons, List.getElem?_append_left (by omega), Nat.mul_zero, Nat.zero_add]
  | x :: ms, h, j + 1, q, m, hm, hq => by
    have hx : x.length = sz := h x (by simp)
    rw [List.flatten_cons, List.getElem?_append_right (by rw [hx, Nat.mul_add]; omega), hx, show sz * (j + 1) + q - sz = sz * j + q from by rw [Nat.mul_add]; omega]
    exact flatR sz ms (fun m' hm' => h m' (by simp [hm'])) j q m (by simpa using hm) hq
section
variable {P : Program} {W W' : World} {base cap e sz : Nat} {A : Option Addr} {rs : List (List Value)}
theorem Rw.cases (h : Rw e sz W base A cap rs) : (A = none ∧ rs = [] ∧ cap = 0) ∨ ∃ bg cur, A = some ⟨bg, 0, none⟩ ∧ W.heap[bg]? = some (.cells cur e (0, 0)) ∧ base ≤ bg ∧ rs.length ≤ cap ∧ cap ≤ maxLen ∧ cur.size = cap * sz ∧ cur.toList.take (rs.length * sz) = rs.flatten := by
  obtain ⟨h1, h2⟩ := h.ow
  rcases h2 with ⟨h2, h3⟩ | ⟨g, cap', cur, h2, h3, h4, h5, h6, h7, h8⟩
  · left
    simp only [Value.slice.injEq] at h2
    exact ⟨h2.1, List.eq_nil_of_length_eq_zero h3, h2.2.2⟩
  · right
    simp only [Value.slice.injEq, true_and] at h2
    obtain ⟨rfl, rfl⟩ := h2
    exact ⟨g, cur, rfl, h4, h3, h5, h6, h7, h8⟩
theorem Rw.ge (h : Rw e sz W base A cap rs) (hA : A ≠ none) : base ≤ blk A ∧ blk A < W.heap.size := by
  rcases h.cases with ⟨h1, -⟩ | ⟨bg, cur, rfl, h1, h2, -⟩
  · exact absurd h1 hA
  · exact ⟨h2, heap_lt' h1⟩
theorem Rw.keep (h : Rw e sz W base A cap rs) (hk : ∀ b, b < W.heap.size → (A ≠ none → b = blk A) → A ≠ none → W'.heap[b]? = W.heap[b]?) : Rw e sz W' base A cap rs := by
  rcases h.cases with ⟨rfl, rfl, rfl⟩ | ⟨bg, cur, rfl, h1, h2, h3, h4, h5, h6⟩
  · exact ⟨⟨by simp, .inl ⟨rfl, rfl⟩⟩, h.l⟩
  · exact ⟨⟨h.ow.1, .inr ⟨bg, cap, cur, rfl, h2, (hk bg (heap_lt' h1) (fun _ => rfl) (by simp)).trans h1, h3, h4, h5, h6⟩⟩, h.l⟩
theorem Rw.below (h : Rw e sz W base A cap rs) (hB : Below W.heap.size W W') : Rw e sz W' base A cap rs := h.keep fun b hb _ _ => hB.block b hb
theorem Rw.alloc (h : Rw e sz W base A cap rs) (o : Obj) : Rw e sz (W.alloc o) base A cap rs := h.keep fun b hb _ _ => heap_alloc_old (h := hb) ..
theorem Rw.grown (h : Rw e sz W base A cap rs) {row : Option Nat} (hg : W.grownBy W' row) (hne : A ≠ none → some (blk A) ≠ row) : Rw e sz W' base A cap rs := h.keep fun b hb h1 h2 => hg.block b hb (by rw [h1 h2]; exact hne h2)
theorem Rw.row (h : Rw e sz W base A cap rs) {j : Nat} {r : List Value} (hj : rs[j]? = some r) : W.rangeAt (blk A) (sz * j) r := fun q v hv => by
  have hr : r.length = sz := h.l r (List.mem_of_getElem? hj)
  have hq : q < sz := by have := (List.getElem?_eq_some_iff.1 hv).1; omega
  have hjl : j < rs.length := (List.getElem?_eq_some_iff.1 hj).1
  rcases h.cases with ⟨rfl, rfl, rfl⟩ | ⟨bg, cur, rfl, h1, h2, h3, h4, h5, h6⟩
  · simp at hj
  show W.cell? ⟨bg, sz * j + q, none⟩ = some v
  rw [cell_of_row W bg _ cur e (0, 0) h1]
  have h7 := flatR sz rs h.l j q r hj hq
  have h8 : sz * j + q < rs.length * sz := by
    have : sz * (j + 1) ≤ rs.length * sz := by rw [Nat.mul_comm]; exact Nat.mul_le_mul_right _ hjl
    rw [Nat.mul_add] at this; omega
  rw [← h6, List.getElem?_take, if_pos h8, hv] at h7
  simpa using h7
theorem Rw.ptr (h : Rw e sz W base A cap rs) (hn : 0 < rs.length) : A = some ⟨blk A, 0, none⟩ := by
  rcases h.cases with ⟨rfl, rfl, rfl⟩ | ⟨bg, cur, rfl, -⟩
  · simp at hn
  · rfl
theorem Rw.nil (e sz : Nat) (W : World) (base : Nat) : Rw e sz W base none 0 [] := ⟨⟨by simp, .inl ⟨rfl, rfl⟩⟩, by simp⟩
/-- the address of a row -/
theorem ixR {t : TypeId} {z : Value} {bytes : Nat} (E : ElR P t e z sz bytes) (g n c : Nat) {j : Nat} (hj : j < n) (kd : IntKind) (W : World) : (Instr.indexAt t (.slice (some ⟨g, 0, none⟩) n c) (.int kd (j : Int))).run P W = .ok (.pointer (some ⟨g, sz * j, none⟩)) W := by
  have h1 : (0 : Int) ≤ (j : Int) ∧ (j : Int) < (n : Int) := by omega
  simp only [Instr.indexAt, Sem.run_bind, run_underlying E.u, Result.andThen_ok, asIntOf, Sem.run_pure, if_pos h1, E.s, Int.toNat_natCast]
  rw [add_lit, Nat.zero_add, Nat.mul_comm]
/-- append of one row -/
theorem wp_appR {o : Oper} {a : Act} {K : Act → World → Prop} {Q : Exit → Act → World → Prop} {t : TypeId} {z : Value} {bytes : Nat} (E : ElR P t e z sz bytes) (s x : Operand) (m : List Value) (hm : m.length = sz) (h1 : ∀ u ∈ m, u.oneCell' = true)
    (ho : o.op = .call { callee := .builtin .append, args := #[s, x], argTypes := #[t, t] }) (hs : a.eval s = .slice A rs.length cap) {N : Nat} (hN : N = W.heap.size) (hx : a.eval x = .slice (some ⟨N, 0, none⟩) 1 1)
    (hO : Rw e sz W base A cap rs) (hn : (rs.length + 1) * bytes ≤ 140737488355328) (hn2 : rs.length + 1 ≤ maxLen) (hbase : base ≤ W.heap.size)
    (h : ∀ A' cap' w', Rw e sz w' base A' cap' (rs ++ [m]) → W.grownBy w' (Value.slice A rs.length cap).ownBlock → A' ≠ none → K (a.put o.dst (.slice A' (rs.length + 1) cap')) w') : o.wp P a (W.alloc (.cells m.toArray e)) K Q := by
  subst hN
  obtain ⟨i, hi, hz0, hz1, hz2⟩ := info_parts E.i
  obtain ⟨v', w', hr, h2, h3, h4⟩ := run_append_own (P := P) (W.alloc (.cells m.toArray e)) base t o.type e i _ sz bytes E.u hi hz0 hz1 hz2 E.c E.p _ rs.length _ (hO.alloc _).ow ⟨W.heap.size, 0, none⟩ 1 1 m (by simp [hm])
    (fun j u hj => by
      rw [add_lit, cell_of_row _ W.heap.size _ _ _ (0, 0) (heap_alloc_new _ _)]
      simpa using hj) h1 hn2 hn (by simp; omega)
  rcases h2.2 with ⟨h5, h6⟩ | ⟨g, cap', cur, h5, _⟩
  · omega
  · rw [h5] at hr h2
    have h6 : Rw e sz w' base (some ⟨g, 0, none⟩) cap' (rs ++ [m]) := ⟨by simpa [List.flatten_append] using h2, fun m' hm' => by
      rw [List.mem_append] at hm'
      rcases hm' with hm' | hm'
      · exact hO.l m' hm'
      · simp at hm'; subst hm'; exact hm⟩
    unfold Oper.wp
    simp only [execOp, ho, resolve, invoke, builtin, Sem.run_bind, Sem.run_pure, Result.andThen_ok, List.map_toArray, List.map_cons, List.map_nil, hs, hx, hr]
    exact h _ cap' w' h6 (grownBy_of_alloc h3) (by simp)
/-- make -/
theorem wp_mkR {o : Oper} {ts : Array Value} {ds : List Deferred} {K : Act → World → Prop} {Q : Exit → Act → World → Prop} (d : Nat) (l r : Operand) (t : TypeId) {z z0 : Value} {bytes n : Nat}
    (ho : o.op = .makeSlice t l r) (hd : o.dst = some d) (E : ElR P t e z sz bytes) (hz : z.cells = (List.replicate sz z0).toArray) {kl kr : IntKind} (hs : (⟨ts, ds⟩ : Act).eval l = .int kl (n : Int)) (hx : (⟨ts, ds⟩ : Act).eval r = .int kr (n : Int))
    (hby : bytes * n ≤ 281474976710656) (hm : n ≤ maxLen)
    (h : ∀ w', W.heap.size = W.heap.size → Blk w' W.heap.size e (List.replicate (n * sz) z0) → w'.heap.size = W.heap.size + 1 → Below W.heap.size W w' → K ⟨ts.setIfInBounds d (.slice (some ⟨W.heap.size, 0, none⟩) n n), ds⟩ w') : o.wp P ⟨ts, ds⟩ W K Q := by
  obtain ⟨i, hi, hz0, hz1, hz2⟩ := info_parts E.i
  have hb' : ((bytes : Nat) : Int) * (n : Int) ≤ 281474976710656 := by
    have h' : ((bytes * n : Nat) : Int) ≤ 281474976710656 := by omega
    rwa [Int.natCast_mul] at h'
  have hr := run_make (P := P) W t e i z E.u hi hz0 kl kr n n (by omega) (Int.le_refl _) (by rw [hz2]; exact hb') (by unfold maxLen at hm; omega)
  simp only [Int.toNat_natCast] at hr
  have hmc : madeCells z.cells (n * i.size) = (List.replicate (n * sz) z0).toArray := by
    have hp := E.p
    rw [hz1, hz]
    apply Array.ext
    · simp [madeCells]
    · intro j h1 h2
      have hj : j < n * sz := by simpa [madeCells] using h1
      have hmod : j % sz < sz := Nat.mod_lt _ hp
      simp [madeCells, hmod]
  unfold Oper.wp
  simp only [execOp, ho, Sem.run_bind, Sem.run_pure, Result.andThen_ok, hs, hx, hr]
  refine (show K (Act.put ⟨ts, ds⟩ o.dst _) _ from ?_)
  rw [hd, hmc]
  exact h _ rfl (Blk.new W _ e rfl) (by simp) ((Below.refl _ _).alloc (Nat.le_refl _) _)
end
end Go.Proofs.Ytmdjclfmhndjnaa
