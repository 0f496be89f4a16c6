/-
  A region whose order is open, walked with a written-out list of what has run: laws of Bo with literal bookkeeping. Condition: none.
-/
import Derived.Test.YtmdjclfmhndjnaaBo
namespace Go.Proofs.Ytmdjclfmhndjnaa
open Go.RowKit
set_option linter.unusedVariables false
section
variable {P : Program} {ops : Array Oper} {Q : Exit → Act → World → Prop} {md : Region.Mode} {S : World → Prop} {p : Nat}
theorem P_start {id : Nat} {a : Act} {w : World} (S : World → Prop) (p n : Nat) (l0 : Array Bool) (hn : ops.size = n) (hl : Array.replicate n false = l0) (hm : P.follows .mixedOrders = true) (h : wpAnyP P .any ops Q S p n l0 a w.drew) : (Code.region id ops true).wp P Q a w := by
  subst hl; subst hn; exact wp_region_P S p hm h
theorem P_take (i d : Nat) (v : Value) (l' : Array Bool) {oi : Oper} {fuel : Nat} {listed : Array Bool} {ts : Array Value} {ds : List Deferred} {w : World} (hi : ops[i]? = some oi) (hd : oi.dst = some d) (hl : listed.setIfInBounds i true = l')
    (hs : Region.noSelect ops = true) (hf : Region.free md ops listed i = true) (hr : (Region.ready md ops listed).contains i = true) (hz : Region.waitsFor md ops p i = true) (hp : listed.getD p true = false) (hip : p ≠ i)
    (hQ : ∀ c a w, Q (.panic c) (a.put oi.dst v) w → Q (.panic c) a w) (hy : YieldsIf P ops S oi v ⟨ts, ds⟩) (hS : S w)
    (h : wpAnyP P md ops Q S p fuel l' ⟨ts.setIfInBounds d v, ds⟩ w) : wpAnyP P md ops Q S p (fuel + 1) listed ⟨ts, ds⟩ w := by
  subst hl
  refine wpAnyP_take hi hs hf hr hz hp hip hQ hy hS ?_
  rw [hd]; exact h
theorem P_takeW (i d : Nat) (v : Value) (l' : Array Bool) {oi : Oper} {fuel : Nat} {listed : Array Bool} {ts : Array Value} {ds : List Deferred} {w : World} (hi : ops[i]? = some oi) (hd : oi.dst = some d) (hl : listed.setIfInBounds i true = l')
    (hs : Region.noSelect ops = true) (hf : Region.free md ops listed i = true) (hr : (Region.ready md ops listed).contains i = true) (hip : p ≠ i)
    (hQ : ∀ c a w, Q (.panic c) (a.put oi.dst v) w → Q (.panic c) a w) (hy : YieldsIf P ops (fun _ => True) oi v ⟨ts, ds⟩) (hS : S w)
    (h : wpAnyP P md ops Q S p fuel l' ⟨ts.setIfInBounds d v, ds⟩ w) : wpAnyP P md ops Q S p (fuel + 1) listed ⟨ts, ds⟩ w := by
  subst hl
  refine wpAnyP_takeW hi hs hf hr hip hQ hy hS ?_
  rw [hd]; exact h
theorem P_one (i : Nat) (l' : Array Bool) {oi : Oper} {fuel : Nat} {listed : Array Bool} {a : Act} {w : World} (hi : ops[i]? = some oi) (hl : listed.setIfInBounds i true = l') (hr : Region.ready md ops listed = [i]) (hg : oi.guard = none) (hp : l'.getD p true = true)
    (h : ∀ K : Act → World → Prop, (∀ a' w', wpAnyP P md ops Q S p fuel l' a' w' → K a' w') → oi.wp P a w K Q) : wpAnyP P md ops Q S p (fuel + 1) listed a w := by
  subst hl; exact wpAnyP_one hi hr hg hp h
theorem P_oneS (i : Nat) (l' : Array Bool) {oi : Oper} {fuel : Nat} {listed : Array Bool} {a : Act} {w : World} (hi : ops[i]? = some oi) (hl : listed.setIfInBounds i true = l') (hr : Region.ready md ops listed = [i]) (hg : oi.guard = none)
    (h : ∀ K : Act → World → Prop, (∀ a' w', S w' → wpAnyP P md ops Q S p fuel l' a' w' → K a' w') → oi.wp P a w K Q) : wpAnyP P md ops Q S p (fuel + 1) listed a w := by
  subst hl
  refine ⟨fun h0 => ?_, fun j hj => ?_⟩
  · rw [hr] at h0
    cases h0
  · rw [hr] at hj
    have hj' : j = i := by simpa using hj
    subst hj'
    unfold wpOp
    simp only [hi]
    rw [if_pos (by simp [Region.wanted, hg])]
    exact .inl (h _ fun _ _ h1 h2 => ⟨fun _ => h1, h2⟩)
/-- as P_takeW, behind p -/
theorem P_takeX (i d : Nat) (v : Value) (l' : Array Bool) {oi : Oper} {fuel : Nat} {listed : Array Bool} {ts : Array Value} {ds : List Deferred} {w : World} (hi : ops[i]? = some oi) (hd : oi.dst = some d) (hl : listed.setIfInBounds i true = l')
    (hs : Region.noSelect ops = true) (hf : Region.free md ops listed i = true) (hr : (Region.ready md ops listed).contains i = true) (hip : p ≠ i)
    (hQ : ∀ c a w, Q (.panic c) (a.put oi.dst v) w → Q (.panic c) a w) (hy : YieldsIf P ops (fun _ => True) oi v ⟨ts, ds⟩) (hp : listed.getD p true = true)
    (h : wpAnyP P md ops Q S p fuel l' ⟨ts.setIfInBounds d v, ds⟩ w) : wpAnyP P md ops Q S p (fuel + 1) listed ⟨ts, ds⟩ w := by
  subst hl
  refine wpAnyP_first (needs := False) hi (Region.noSelect_spec hs) hQ (fun w h => trivial) (fun h => h.elim) hip fuel listed _ w (Region.free_spec hi hf) (by simpa using hr) hy (fun h => h.elim) (fun h => by rw [hp] at h; cases h) ?_
  rw [hd]; exact h
/-- as P_one, of a guarded operation that is wanted -/
theorem P_oneG (i : Nat) (l' : Array Bool) {oi : Oper} {fuel : Nat} {listed : Array Bool} {a : Act} {w : World} (hi : ops[i]? = some oi) (hl : listed.setIfInBounds i true = l') (hr : Region.ready md ops listed = [i]) (hg : Region.wanted oi (yielded ops a.tmps) = true) (hp : l'.getD p true = true)
    (h : ∀ K : Act → World → Prop, (∀ a' w', wpAnyP P md ops Q S p fuel l' a' w' → K a' w') → oi.wp P a w K Q) : wpAnyP P md ops Q S p (fuel + 1) listed a w := by
  subst hl
  refine ⟨fun h0 => ?_, fun j hj => ?_⟩
  · rw [hr] at h0
    cases h0
  · rw [hr] at hj
    have hj' : j = i := by simpa using hj
    subst hj'
    unfold wpOp
    simp only [hi]
    rw [if_pos hg]
    exact .inl (h _ fun _ _ h2 => ⟨fun h9 => (by rw [hp] at h9; cases h9), h2⟩)
theorem P_two (i j : Nat) (l1 l2 : Array Bool) {oi oj : Oper} {fuel : Nat} {listed : Array Bool} {a : Act} {w : World} (hi : ops[i]? = some oi) (hj : ops[j]? = some oj) (e1 : listed.setIfInBounds i true = l1) (e2 : listed.setIfInBounds j true = l2) (hr : Region.ready md ops listed = [i, j]) (gi : oi.guard = none) (gj : oj.guard = none) (hS : ∀ w, S w)
    (h1 : ∀ K : Act → World → Prop, (∀ a' w', wpAnyP P md ops Q S p fuel l1 a' w' → K a' w') → oi.wp P a w K Q)
    (h2 : ∀ K : Act → World → Prop, (∀ a' w', wpAnyP P md ops Q S p fuel l2 a' w' → K a' w') → oj.wp P a w K Q) : wpAnyP P md ops Q S p (fuel + 1) listed a w := by
  subst e1; subst e2; exact wpAnyP_two hi hj hr gi gj hS h1 h2
theorem P_three (i j k : Nat) (l1 l2 l3 : Array Bool) {oi oj ok : Oper} {fuel : Nat} {listed : Array Bool} {a : Act} {w : World} (hi : ops[i]? = some oi) (hj : ops[j]? = some oj) (hk : ops[k]? = some ok) (e1 : listed.setIfInBounds i true = l1) (e2 : listed.setIfInBounds j true = l2) (e3 : listed.setIfInBounds k true = l3)
    (hr : Region.ready md ops listed = [i, j, k]) (gi : oi.guard = none) (gj : oj.guard = none) (gk : ok.guard = none) (hS : ∀ w, S w)
    (h1 : ∀ K : Act → World → Prop, (∀ a' w', wpAnyP P md ops Q S p fuel l1 a' w' → K a' w') → oi.wp P a w K Q)
    (h2 : ∀ K : Act → World → Prop, (∀ a' w', wpAnyP P md ops Q S p fuel l2 a' w' → K a' w') → oj.wp P a w K Q)
    (h3 : ∀ K : Act → World → Prop, (∀ a' w', wpAnyP P md ops Q S p fuel l3 a' w' → K a' w') → ok.wp P a w K Q) : wpAnyP P md ops Q S p (fuel + 1) listed a w := by
  subst e1; subst e2; subst e3; exact wpAnyP_three hi hj hk hr gi gj gk hS h1 h2 h3
theorem P_done {listed : Array Bool} {a : Act} {w : World} (hr : Region.ready md ops listed = []) (h : Q .normal a w) : ∀ fuel, wpAnyP P md ops Q S p fuel listed a w := wpAnyP_done hr h
theorem wp_mkd {w : World} {o : Oper} {ts : Array Value} {ds : List Deferred} {K : Act → World → Prop} {Q : Exit → Act → World → Prop} (d : Nat) (l r : Operand) (t : TypeId) {e : TypeId} {n : Nat}
    (ho : o.op = .makeSlice t l r) (hd : o.dst = some d) {z : Value} {bytes : Nat} (hE : El P t e z bytes) {kl kr : IntKind} (hs : (⟨ts, ds⟩ : Act).eval l = .int kl (n : Int)) (hx : (⟨ts, ds⟩ : Act).eval r = .int kr (n : Int))
    (hby : bytes * n ≤ 281474976710656) (hm : n ≤ maxLen)
    (h : ∀ A w', Ownv e w' w.heap.size A n n (List.replicate n z) → Below w.heap.size w w' → A ≠ none → K ⟨ts.setIfInBounds d (.slice A n n), ds⟩ w') : o.wp P ⟨ts, ds⟩ w K Q :=
  wp_mk l r t ho hE hs hx hby hm fun A w' h1 h2 h3 => by rw [hd]; exact h A w' h1 h2 h3
end
end Go.Proofs.Ytmdjclfmhndjnaa
