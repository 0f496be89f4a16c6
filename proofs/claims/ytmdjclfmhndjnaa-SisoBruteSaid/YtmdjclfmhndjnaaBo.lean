/-
  A region whose order is open: what is loaded is held until operation p has run; what needs no world may be taken at any time. Condition: none.
-/
import Derived.Test.YtmdjclfmhndjnaaBm
namespace Go.Proofs.Ytmdjclfmhndjnaa
open Go.RowKit
set_option linter.unusedVariables false
section
variable {P : Program} {ops : Array Oper} {Q : Exit → Act → World → Prop} {md : Region.Mode} {S : World → Prop} {p : Nat}
/-- whatever order is picked from here on; S holds until p has run -/
def wpAnyP (P : Program) (md : Region.Mode) (ops : Array Oper) (Q : Exit → Act → World → Prop) (S : World → Prop) (p : Nat) : Nat → Array Bool → Act → World → Prop
  | 0, listed, a, w => Region.ready md ops listed = [] ∧ Q .normal a w
  | fuel + 1, listed, a, w => (Region.ready md ops listed = [] → Q .normal a w) ∧
    ∀ i ∈ Region.ready md ops listed, wpOp P ops Q i (fun a' w' => ((listed.setIfInBounds i true).getD p true = false → S w') ∧ wpAnyP P md ops Q S p fuel (listed.setIfInBounds i true) a' w') a w
theorem wpAny_of_P : ∀ (fuel : Nat) (listed : Array Bool) (a : Act) (w : World), wpAnyP P md ops Q S p fuel listed a w → wpAny P md ops Q fuel listed a w
  | 0, _, _, _, h => h
  | fuel + 1, _, _, _, h => ⟨h.1, fun i hi => wpOp_mono (fun a' w' h' => wpAny_of_P fuel _ a' w' h'.2) (h.2 i hi)⟩
theorem getD_unset {listed : Array Bool} {i p : Nat} (h : (listed.setIfInBounds i true).getD p true = false) : listed.getD p true = false := by
  by_cases hip : i = p
  · subst hip
    by_cases hi : i < listed.size
    · simp [Array.getD, hi] at h
    · simp [Array.getD, hi] at h
  · rwa [getD_set_ne true hip] at h
theorem wpAnyP_first {T : World → Prop} {needs : Prop} {i : Nat} {oi : Oper} {v : Value} (hi : ops[i]? = some oi) (hsel : ∀ (j : Nat) (o : Oper) cs b, ops[j]? = some o → o.op ≠ .select cs b)
    (hQ : ∀ c a w, Q (.panic c) (a.put oi.dst v) w → Q (.panic c) a w) (hT : ∀ w, (needs → S w) → T w) (hw : needs → Region.waitsFor md ops p i = true) (hip : p ≠ i) :
    ∀ (fuel : Nat) (listed : Array Bool) (a : Act) (w : World),
      (∀ j oj, ops[j]? = some oj → j ≠ i → listed.getD j true = false → (∀ e ∈ oj.after, Region.binds md e = true → e.on ≠ i) → oi.apart ops oj = true) →
      i ∈ Region.ready md ops listed → YieldsIf P ops T oi v a → (needs → listed.getD p true = false) → (listed.getD p true = false → S w) →
      wpAnyP P md ops Q S p fuel (listed.setIfInBounds i true) (a.put oi.dst v) w → wpAnyP P md ops Q S p (fuel + 1) listed a w := by
  intro fuel
  induction fuel with
  | zero =>
    intro listed a w _ hr hy hp hS H
    refine ⟨fun h => (by rw [h] at hr; cases hr), fun j hj => ?_⟩
    by_cases hji : j = i
    · subst hji; exact hy.wpOp hi (hT w fun n => hS (hp n)) ⟨fun h => hS (getD_unset h), H⟩
    · have := ready_mono hj hji
      rw [H.1] at this
      cases this
  | succ fuel ih =>
    intro listed a w hfree hr hy hp hS H
    refine ⟨fun h => (by rw [h] at hr; cases hr), fun j hj => ?_⟩
    by_cases hji : j = i
    · subst hji; exact hy.wpOp hi (hT w fun n => hS (hp n)) ⟨fun h => hS (getD_unset h), H⟩
    · have hun := (mem_ready.1 hr).1
      have h1 := H.2 j (ready_mono hj hji)
      obtain ⟨hjun, oj, hoj, hall⟩ := mem_ready.1 hj
      have hnot : ∀ e ∈ oj.after, Region.binds md e = true → e.on ≠ i := fun e he hb heq => by
        have h9 := hall e he hb
        rw [heq, getD_both hun] at h9
        cases h9
      have h2 := wpOp_putIf hoj (hfree j oj hoj hji hjun hnot) (fun cs b => hsel i oi cs b hi) (fun cs b => hsel j oj cs b hoj) hQ hy h1
      have hfree' : ∀ k ok, ops[k]? = some ok → k ≠ i → (listed.setIfInBounds j true).getD k true = false →
          (∀ e ∈ ok.after, Region.binds md e = true → e.on ≠ i) → oi.apart ops ok = true := fun k ok hk hki hun' hno => hfree k ok hk hki (getD_unset hun') hno
      refine wpOp_mono (fun a' w' h3 => ?_) h2
      have hpp : needs → (listed.setIfInBounds j true).getD p true = false := fun n => by
        have hjp : j ≠ p := fun e => not_ready_of_waits (hw n) hun (e ▸ hj)
        rw [getD_set_ne true hjp]; exact hp n
      have hSS : (listed.setIfInBounds j true).getD p true = false → S w' := fun hp => by
        exact h3.2.1 (by rw [Array.setIfInBounds_comm _ _ (Ne.symm hji), getD_set_ne true (Ne.symm hip)]; exact hp)
      refine ⟨hSS, ih (listed.setIfInBounds j true) a' w' hfree' (ready_mono hr (Ne.symm hji)) h3.1 hpp hSS ?_⟩
      rw [Array.setIfInBounds_comm _ _ hji]
      exact h3.2.2
/-- an operation that loads what S holds, ahead of p -/
theorem wpAnyP_take {i : Nat} {oi : Oper} {v : Value} {fuel : Nat} {listed : Array Bool} {a : Act} {w : World} (hi : ops[i]? = some oi)
    (hs : Region.noSelect ops = true) (hf : Region.free md ops listed i = true) (hr : (Region.ready md ops listed).contains i = true) (hz : Region.waitsFor md ops p i = true) (hp : listed.getD p true = false) (hip : p ≠ i)
    (hQ : ∀ c a w, Q (.panic c) (a.put oi.dst v) w → Q (.panic c) a w) (hy : YieldsIf P ops S oi v a) (hS : S w)
    (h : wpAnyP P md ops Q S p fuel (listed.setIfInBounds i true) (a.put oi.dst v) w) : wpAnyP P md ops Q S p (fuel + 1) listed a w :=
  wpAnyP_first (needs := True) hi (Region.noSelect_spec hs) hQ (fun w h => h trivial) (fun _ => hz) hip fuel listed a w (Region.free_spec hi hf) (by simpa using hr) hy (fun _ => hp) (fun _ => hS) h
/-- an operation that asks nothing of the world -/
theorem wpAnyP_takeW {i : Nat} {oi : Oper} {v : Value} {fuel : Nat} {listed : Array Bool} {a : Act} {w : World} (hi : ops[i]? = some oi)
    (hs : Region.noSelect ops = true) (hf : Region.free md ops listed i = true) (hr : (Region.ready md ops listed).contains i = true) (hip : p ≠ i)
    (hQ : ∀ c a w, Q (.panic c) (a.put oi.dst v) w → Q (.panic c) a w) (hy : YieldsIf P ops (fun _ => True) oi v a) (hS : S w)
    (h : wpAnyP P md ops Q S p fuel (listed.setIfInBounds i true) (a.put oi.dst v) w) : wpAnyP P md ops Q S p (fuel + 1) listed a w :=
  wpAnyP_first (needs := False) hi (Region.noSelect_spec hs) hQ (fun w h => trivial) (fun h => h.elim) hip fuel listed a w (Region.free_spec hi hf) (by simpa using hr) hy (fun h => h.elim) (fun _ => hS) h
/-- the only one that may come up -/
theorem wpAnyP_one {i : Nat} {oi : Oper} {fuel : Nat} {listed : Array Bool} {a : Act} {w : World} (hi : ops[i]? = some oi) (hr : Region.ready md ops listed = [i]) (hg : oi.guard = none) (hp : (listed.setIfInBounds i true).getD p true = true)
    (h : ∀ K : Act → World → Prop, (∀ a' w', wpAnyP P md ops Q S p fuel (listed.setIfInBounds i true) a' w' → K a' w') → oi.wp P a w K Q) : wpAnyP P md ops Q S p (fuel + 1) listed a w := by
  refine ⟨fun h0 => ?_, fun j hj => ?_⟩
  · rw [hr] at h0
    cases h0
  · rw [hr] at hj
    have hj' : j = i := by simpa using hj
    subst hj'
    unfold wpOp
    simp only [hi]
    rw [if_pos (by simp [Region.wanted, hg])]
    exact .inl (h _ fun _ _ h2 => ⟨fun h9 => (by rw [hp] at h9; cases h9), h2⟩)
theorem wpAnyP_done {listed : Array Bool} {a : Act} {w : World} (hr : Region.ready md ops listed = []) (h : Q .normal a w) : ∀ fuel, wpAnyP P md ops Q S p fuel listed a w
  | 0 => ⟨hr, h⟩
  | _ + 1 => ⟨fun _ => h, by rw [hr]; simp⟩
theorem wp_region_P {id : Nat} {a : Act} {w : World} (S : World → Prop) (p : Nat) (hm : P.follows .mixedOrders = true) (h : wpAnyP P .any ops Q S p ops.size (Array.replicate ops.size false) a w.drew) : (Code.region id ops true).wp P Q a w :=
  wp_region_any hm (wpAny_of_P _ _ _ _ h)
/-- whichever of several comes up -/
theorem wpAnyP_cases {L : List Nat} {fuel : Nat} {listed : Array Bool} {a : Act} {w : World} (hr : Region.ready md ops listed = L) (hne : L ≠ []) (hS : ∀ w, S w)
    (h : ∀ i ∈ L, ∃ oi, ops[i]? = some oi ∧ oi.guard = none ∧ ∀ K : Act → World → Prop, (∀ a' w', wpAnyP P md ops Q S p fuel (listed.setIfInBounds i true) a' w' → K a' w') → oi.wp P a w K Q) : wpAnyP P md ops Q S p (fuel + 1) listed a w := by
  refine ⟨fun h0 => absurd (hr.symm.trans h0) hne, fun j hj => ?_⟩
  rw [hr] at hj
  obtain ⟨oi, hi, hg, hK⟩ := h j hj
  unfold wpOp
  simp only [hi]
  rw [if_pos (by simp [Region.wanted, hg])]
  exact .inl (hK _ fun _ _ h2 => ⟨fun _ => hS _, h2⟩)
/-- one of two -/
theorem wpAnyP_two {i j : Nat} {oi oj : Oper} {fuel : Nat} {listed : Array Bool} {a : Act} {w : World} (hi : ops[i]? = some oi) (hj : ops[j]? = some oj) (hr : Region.ready md ops listed = [i, j]) (gi : oi.guard = none) (gj : oj.guard = none) (hS : ∀ w, S w)
    (h1 : ∀ K : Act → World → Prop, (∀ a' w', wpAnyP P md ops Q S p fuel (listed.setIfInBounds i true) a' w' → K a' w') → oi.wp P a w K Q)
    (h2 : ∀ K : Act → World → Prop, (∀ a' w', wpAnyP P md ops Q S p fuel (listed.setIfInBounds j true) a' w' → K a' w') → oj.wp P a w K Q) : wpAnyP P md ops Q S p (fuel + 1) listed a w :=
  wpAnyP_cases hr (by simp) hS fun q hq => by
    simp only [List.mem_cons, List.not_mem_nil, or_false] at hq
    rcases hq with rfl | rfl
    · exact ⟨_, hi, gi, h1⟩
    · exact ⟨_, hj, gj, h2⟩
/-- one of three -/
theorem wpAnyP_three {i j k : Nat} {oi oj ok : Oper} {fuel : Nat} {listed : Array Bool} {a : Act} {w : World} (hi : ops[i]? = some oi) (hj : ops[j]? = some oj) (hk : ops[k]? = some ok) (hr : Region.ready md ops listed = [i, j, k]) (gi : oi.guard = none) (gj : oj.guard = none) (gk : ok.guard = none) (hS : ∀ w, S w)
    (h1 : ∀ K : Act → World → Prop, (∀ a' w', wpAnyP P md ops Q S p fuel (listed.setIfInBounds i true) a' w' → K a' w') → oi.wp P a w K Q)
    (h2 : ∀ K : Act → World → Prop, (∀ a' w', wpAnyP P md ops Q S p fuel (listed.setIfInBounds j true) a' w' → K a' w') → oj.wp P a w K Q)
    (h3 : ∀ K : Act → World → Prop, (∀ a' w', wpAnyP P md ops Q S p fuel (listed.setIfInBounds k true) a' w' → K a' w') → ok.wp P a w K Q) : wpAnyP P md ops Q S p (fuel + 1) listed a w :=
  wpAnyP_cases hr (by simp) hS fun q hq => by
    simp only [List.mem_cons, List.not_mem_nil, or_false] at hq
    rcases hq with rfl | rfl | rfl
    · exact ⟨_, hi, gi, h1⟩
    · exact ⟨_, hj, gj, h2⟩
    · exact ⟨_, hk, gk, h3⟩
end
/-- three new rows -/
structure Mk3 (W w : World) (n : Nat) (A1 A2 A3 : Option Addr) : Prop where
  o1 : Ownv 3 w W.heap.size A1 n n (List.replicate n (.int .i64 0))
  o2 : Ownv 3 w W.heap.size A2 n n (List.replicate n (.int .i64 0))
  o3 : Ownv 5 w W.heap.size A3 n n (List.replicate n (.int .u8 0))
  n12 : blk A1 ≠ blk A2
  n13 : blk A1 ≠ blk A3
  n23 : blk A2 ≠ blk A3
  b : Below W.heap.size W w
theorem chain3 {w0 w1 w2 w3 : World} {n : Nat} {A1 A2 A3 : Option Addr} {e1 e2 e3 : TypeId} {v1 v2 v3 : List Value} (hn : 0 < n) (h1 : Ownv e1 w1 w0.heap.size A1 n n v1) (b1 : Below w0.heap.size w0 w1)
    (h2 : Ownv e2 w2 w1.heap.size A2 n n v2) (b2 : Below w1.heap.size w1 w2) (h3 : Ownv e3 w3 w2.heap.size A3 n n v3) (b3 : Below w2.heap.size w2 w3) :
    Ownv e1 w3 w0.heap.size A1 n n v1 ∧ Ownv e2 w3 w0.heap.size A2 n n v2 ∧ Ownv e3 w3 w0.heap.size A3 n n v3 ∧ blk A1 < blk A2 ∧ blk A2 < blk A3 ∧ Below w0.heap.size w0 w3 := by
  have g1 := h1.blk_ge hn
  have g2 := h2.blk_ge hn
  have g3 := h3.blk_ge hn
  exact ⟨(h1.below b2).below b3, (h2.below b3).mono b1.size, h3.mono (Nat.le_trans b1.size b2.size), by omega, by omega, (b1.trans (b2.mono b1.size)).trans (b3.mono (Nat.le_trans b1.size b2.size))⟩
end Go.Proofs.Ytmdjclfmhndjnaa
