/-
  Generic facts on rows and blocks. Condition: none.
-/
import Derived.Test.YtmdjclfmhndjnaaX
import Derived.Deep.DeepCutAuto
namespace Go.Proofs.Ytmdjclfmhndjnaa
open Go.RowKit
set_option linter.unusedVariables false
section
variable {P : Program} {w w' w0 : World} {A B : Option Addr} {n c m d g : Nat} {vs us : List Value} {e : TypeId}
theorem bal (h : Below w0.heap.size w0 w) (o : Obj) : Below w0.heap.size w0 (w.alloc o) := h.alloc h.size o
theorem heap_new' {N : Nat} {o : Obj} (hN : N = w.heap.size) : (w.alloc o).heap[N]? = some o := by subst hN; exact heap_alloc_new _ _
theorem heap_old' {N : Nat} {o x : Obj} (h : w.heap[N]? = some x) : (w.alloc o).heap[N]? = some x := by
  rw [heap_alloc_old (h := (Array.getElem?_eq_some_iff.1 h).1)]; exact h
theorem Ownv.of_heap {cs : Array Value} {base : Nat} (h : w.heap[g]? = some (.cells cs e (0, 0))) (hb : base ≤ g) (hm : cs.size ≤ maxLen) : Ownv e w base (some ⟨g, 0, none⟩) cs.size cs.size cs.toList :=
  ⟨by simp, .inr ⟨g, cs.size, cs, rfl, hb, h, Nat.le_refl _, hm, by simp, by rw [Nat.mul_one]; exact List.take_of_length_le (by simp)⟩⟩
/-- append onto a row made since w0; all that is older stays -/
theorem wp_appB {o : Oper} {a : Act} {K : Act → World → Prop} {Q : Exit → Act → World → Prop} (s x : Operand) (t : TypeId)
    (ho : o.op = .call { callee := .builtin .append, args := #[s, x], argTypes := #[t, t] }) {z : Value} {bytes : Nat} (hE : El P t e z bytes) (hs : a.eval s = .slice A n c) (hx : a.eval x = .slice B m d)
    (hB : Below w0.heap.size w0 w) (hO : Ownv e w w0.heap.size A n c vs) (hR : Rdv w B m d us) (h1 : ∀ u ∈ us, u.oneCell' = true) (hby : (n + m) * bytes ≤ 140737488355328) (hm : n + m ≤ maxLen)
    (h : ∀ A' c' w', Ownv e w' w0.heap.size A' (n + m) c' (vs ++ us) → Below w0.heap.size w0 w' → (∀ g, g < w.heap.size → some g ≠ (Value.slice A n c).ownBlock → w'.heap[g]? = w.heap[g]?) → K (a.put o.dst (.slice A' (n + m) c')) w') : o.wp P a w K Q := by
  refine wp_app s x t ho hE hs hx hO hR h1 hby hm hB.size ?_
  intro A' c' w' h2 h3
  exact h A' c' w' h2 (hB.grown h3 hB.size (fun k hk => Ownv.ob' hO hk)) h3.block
end
theorem heap_lt {w : World} {g : Nat} {x : Obj} (h : w.heap[g]? = some x) : g < w.heap.size := (Array.getElem?_eq_some_iff.1 h).1
theorem own_ne_size {e : TypeId} {w : World} {base : Nat} {A : Option Addr} {n c : Nat} {vs : List Value} (h : Ownv e w base A n c vs) : some w.heap.size ≠ (Value.slice A n c).ownBlock := fun he => by
  have := (h.ow.lt _ he.symm).2
  omega
def RegP (W0 : World) (N : Nat) (V : List Value) (v : Value) (wx : World) : Prop := ∃ A c, v = .slice A N c ∧ Ownv 5 wx W0.heap.size A N c V ∧ Below W0.heap.size W0 wx
end Go.Proofs.Ytmdjclfmhndjnaa
