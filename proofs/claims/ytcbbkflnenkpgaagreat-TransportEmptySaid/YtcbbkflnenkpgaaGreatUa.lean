/-
  Laws of a region whose order is open, inside a fence for activations: what is loaded is held until operation p has run. Condition: none.
-/
import Derived.Test.YtcbbkflnenkpgaaGreatTe
import Derived.OrdersIn
namespace Go.Proofs.YtcbbkflnenkpgaaGreat
open Go.RowKit
set_option linter.unusedVariables false
section
variable {F : Fence} {n : Nat} {P : Program} {ops : Array Oper} {Q : Exit → Act → World → Prop} {md : Region.Mode} {S : World → Prop} {p : Nat}
/-- it yields v in a world that meets S, and makes no call -/
def YieldsFor (P : Program) (ops : Array Oper) (S : World → Prop) (o : Oper) (v : Value) (a : Act) : Prop := YieldsIf P ops S o v a ∧ ∀ w, o.about P w a.eval = none
theorem YieldsFor.goes {i : Nat} {o : Oper} {v : Value} {a : Act} (hro : F.round = none) (hi : ops[i]? = some o) (hy : YieldsFor P ops S o v a) {K : Act → World → Prop} {w : World} (hS : S w) (h : K (a.put o.dst v) w) : wpOpIn F n P ops Q i K a w := by
  have hab : ∀ f, o.about P w a.eval = some f → F.fn f := fun f hf => by rw [hy.2 w] at hf; cases hf
  unfold wpOpIn
  simp only [hi]
  rcases hy.1 with ⟨hw, hv⟩ | ⟨hw, rfl⟩
  · simp only [hw, if_true, Oper.wpIn, hro, Oper.semAt_none, hv w hS, Oper.uponIn]; exact ⟨hab, h⟩
  · simp only [hw, Bool.false_eq_true, if_false]; exact ⟨hab, h⟩
theorem YieldsFor.same {o : Oper} {v : Value} {a a' : Act} (hy : YieldsFor P ops S o v a) (he : execOp a'.eval o = execOp a.eval o) (hw : Region.wanted o (yielded ops a'.tmps) = Region.wanted o (yielded ops a.tmps)) (hb : ∀ w, o.about P w a'.eval = o.about P w a.eval) : YieldsFor P ops S o v a' :=
  ⟨hy.1.of_same he hw, fun w => by rw [hb w]; exact hy.2 w⟩
theorem wpOpIn_for {j : Nat} {oi oj : Oper} {v : Value} (hro : F.round = none) (hj : ops[j]? = some oj) (hap : oi.apart ops oj = true) (hsi : ∀ cs b, oi.op ≠ .select cs b) (hsj : ∀ cs b, oj.op ≠ .select cs b)
    (hQ : ∀ c a w, Q (.panic c) (a.put oi.dst v) w → Q (.panic c) a w) {K : Act → World → Prop} {a : Act} {w : World} (hy : YieldsFor P ops S oi v a) (h : wpOpIn F n P ops Q j K (a.put oi.dst v) w) :
    wpOpIn F n P ops Q j (fun a' w' => YieldsFor P ops S oi v a' ∧ K (a'.put oi.dst v) w') a w := by
  obtain ⟨h1, h2, h3⟩ := Oper.apart_spec hap
  have hk : ∀ (b : Act), YieldsFor P ops S oi v b → ∀ u, YieldsFor P ops S oi v (b.put oj.dst u) := fun b hb u => hb.same (execOp_put oi hsi b oj.dst u h3) (wanted_put oi b oj.dst u h3) (fun w => about_put oi w b oj.dst u h3)
  have hd : ∀ d, YieldsFor P ops S oi v { a with defers := d :: a.defers } := fun d => hy.same rfl rfl (fun _ => rfl)
  have hc : ∀ (b : Act) u, (b.put oj.dst u).put oi.dst v = (b.put oi.dst v).put oj.dst u := fun b u => (Act.put_comm b v u h2).symm
  unfold wpOpIn at *
  simp only [hj] at *
  rw [wanted_put oj a oi.dst v h1, about_put oj w a oi.dst v h1] at h
  by_cases hw : Region.wanted oj (yielded ops a.tmps) = true
  · rw [if_pos hw] at h ⊢
    unfold Oper.wpIn at *
    rw [about_put oj w a oi.dst v h1] at h
    refine ⟨h.1, ?_⟩
    have h9 := h.2
    rw [hro, Oper.semAt_none, execOp_put oj hsj a oi.dst v h1] at h9
    rw [hro, Oper.semAt_none]
    cases hr : (execOp a.eval oj).run P w with
    | ok x w' =>
      rw [hr] at h9
      cases x with
      | value u => exact ⟨hk a hy u, by rw [hc]; exact h9⟩
      | skip => exact ⟨hk a hy _, by rw [hc]; exact h9⟩
      | defer d => exact ⟨hk _ (hd d) _, by rw [hc, ← Act.put_defers]; exact h9⟩
      | enter f args =>
        refine ⟨h9.1, CallsIn.mono h9.2 fun e w'' he => ?_⟩
        cases e with
        | returned u => exact ⟨hk a hy u, by rw [hc]; exact he⟩
        | panicked c => exact hQ _ _ _ he
        | outgrown => exact he
      | row r args => exact ⟨h9.1, RowsIn.mono h9.2 fun u w'' he => ⟨hk a hy u, by rw [hc]; exact he⟩⟩
      | round l f tmps assign body =>
        refine ⟨h9.1, RoundIn.mono h9.2 fun e w'' he => ?_⟩
        cases e with
        | returned u => exact ⟨hk a hy u, by rw [hc]; exact he⟩
        | panicked c => exact hQ _ _ _ he
        | outgrown => exact he
      | _ => exact h9
    | halt x w' =>
      rw [hr] at h9
      cases x with
      | panic u => exact hQ _ _ _ h9
      | _ => exact h9
  · rw [if_neg hw] at h ⊢
    exact ⟨h.1, hk a hy _, by rw [hc]; exact h.2⟩
/-- whatever order is picked from here on; S holds until p has run -/
def wpInP (F : Fence) (n : Nat) (P : Program) (md : Region.Mode) (ops : Array Oper) (Q : Exit → Act → World → Prop) (S : World → Prop) (p : Nat) : Nat → Array Bool → Act → World → Prop
  | 0, listed, a, w => Region.ready md ops listed = [] ∧ Q .normal a w
  | fuel + 1, listed, a, w => (Region.ready md ops listed = [] → Q .normal a w) ∧
    ∀ i ∈ Region.ready md ops listed, wpOpIn F n P ops Q i (fun a' w' => ((listed.setIfInBounds i true).getD p true = false → S w') ∧ wpInP F n P md ops Q S p fuel (listed.setIfInBounds i true) a' w') a w
theorem wpAnyIn_of_P : ∀ (fuel : Nat) (listed : Array Bool) (a : Act) (w : World), wpInP F n P md ops Q S p fuel listed a w → wpAnyIn F n P md ops Q fuel listed a w
  | 0, _, _, _, h => h
  | fuel + 1, _, _, _, h => ⟨h.1, fun i hi => wpOpIn_mono (fun a' w' h' => wpAnyIn_of_P fuel _ a' w' h'.2) (h.2 i hi)⟩
theorem wpInP_first {T : World → Prop} {i : Nat} {oi : Oper} {v : Value} {xs : List Nat} {needs : Prop} (hro : F.round = none) (hi : ops[i]? = some oi) (hsel : ∀ (j : Nat) (o : Oper) cs b, ops[j]? = some o → o.op ≠ .select cs b)
    (hQ : ∀ c a w, Q (.panic c) (a.put oi.dst v) w → Q (.panic c) a w) (hT : ∀ w, (needs → S w) → T w) (hw : needs → pathB md ops i p xs = true) (hip : p ≠ i) :
    ∀ (fuel : Nat) (listed : Array Bool) (a : Act) (w : World), (needs → ClosedR md ops listed) →
      (∀ j oj, ops[j]? = some oj → j ≠ i → listed.getD j true = false → (∀ e ∈ oj.after, Region.binds md e = true → e.on ≠ i) → oi.apart ops oj = true) →
      i ∈ Region.ready md ops listed → YieldsFor P ops T oi v a → (needs → listed.getD p true = false) → (listed.getD p true = false → S w) →
      wpInP F n P md ops Q S p fuel (listed.setIfInBounds i true) (a.put oi.dst v) w → wpInP F n P md ops Q S p (fuel + 1) listed a w := by
  intro fuel
  induction fuel with
  | zero =>
    intro listed a w hc _ hr hy hp hS H
    refine ⟨fun h => (by rw [h] at hr; cases hr), fun j hj => ?_⟩
    by_cases hji : j = i
    · subst hji; exact hy.goes hro hi (hT w fun m => hS (hp m)) ⟨fun h => hS (getD_unset h), H⟩
    · have := ready_mono hj hji
      rw [H.1] at this
      cases this
  | succ fuel ih =>
    intro listed a w hc hfree hr hy hp hS H
    refine ⟨fun h => (by rw [h] at hr; cases hr), fun j hj => ?_⟩
    by_cases hji : j = i
    · subst hji; exact hy.goes hro hi (hT w fun m => hS (hp m)) ⟨fun h => hS (getD_unset h), H⟩
    · have hun := (mem_ready.1 hr).1
      have h1 := H.2 j (ready_mono hj hji)
      obtain ⟨hjun, oj, hoj, hall⟩ := mem_ready.1 hj
      have hnot : ∀ e ∈ oj.after, Region.binds md e = true → e.on ≠ i := fun e he hb heq => by
        have h9 := hall e he hb
        rw [heq, getD_both hun] at h9
        cases h9
      have h2 := wpOpIn_for hro hoj (hfree j oj hoj hji hjun hnot) (fun cs b => hsel i oi cs b hi) (fun cs b => hsel j oj cs b hoj) hQ hy h1
      have hfree' : ∀ k ok, ops[k]? = some ok → k ≠ i → (listed.setIfInBounds j true).getD k true = false →
          (∀ e ∈ ok.after, Region.binds md e = true → e.on ≠ i) → oi.apart ops ok = true := fun k ok hk hki hun' hno => hfree k ok hk hki (getD_unset hun') hno
      refine wpOpIn_mono (fun a' w' h3 => ?_) h2
      have hpp : needs → (listed.setIfInBounds j true).getD p true = false := fun m => by
        have hjp : j ≠ p := fun e => not_ready_path (hc m) (hw m) hun (e ▸ hj)
        rw [getD_set_ne true hjp]; exact hp m
      have hSS : (listed.setIfInBounds j true).getD p true = false → S w' := fun hp => by
        exact h3.2.1 (by rw [Array.setIfInBounds_comm _ _ (Ne.symm hji), getD_set_ne true (Ne.symm hip)]; exact hp)
      refine ⟨hSS, ih (listed.setIfInBounds j true) a' w' (fun m => closed_set (hc m) hj) hfree' (ready_mono hr (Ne.symm hji)) h3.1 hpp hSS ?_⟩
      rw [Array.setIfInBounds_comm _ _ hji]
      exact h3.2.2
theorem PI_start {id : Nat} {a : Act} {w : World} (S : World → Prop) (p m : Nat) (l0 : Array Bool) (hn : ops.size = m) (hl : Array.replicate m false = l0) (hm : P.follows .mixedOrders = true) (h : wpInP F n P .any ops Q S p m l0 a w.drew) : (Code.region id ops true).wpIn F n P Q a w := by
  subst hl; subst hn; exact wpIn_region_any hm (wpAnyIn_of_P _ _ _ _ h)
theorem PI_takeT (i d : Nat) (v : Value) (l' : Array Bool) (xs : List Nat) {oi : Oper} {fuel : Nat} {listed : Array Bool} {ts : Array Value} {ds : List Deferred} {w : World} (hro : F.round = none) (hi : ops[i]? = some oi) (hd : oi.dst = some d) (hl : listed.setIfInBounds i true = l')
    (hs : Region.noSelect ops = true) (hf : Region.free md ops listed i = true) (hr : (Region.ready md ops listed).contains i = true) (hz : pathB md ops i p xs = true) (hc : closedB md ops listed = true) (hp : listed.getD p true = false) (hip : p ≠ i)
    (hQ : ∀ c a w, Q (.panic c) (a.put oi.dst v) w → Q (.panic c) a w) (hy : YieldsFor P ops S oi v ⟨ts, ds⟩) (hS : S w)
    (h : wpInP F n P md ops Q S p fuel l' ⟨ts.setIfInBounds d v, ds⟩ w) : wpInP F n P md ops Q S p (fuel + 1) listed ⟨ts, ds⟩ w := by
  subst hl
  refine wpInP_first (needs := True) hro hi (Region.noSelect_spec hs) hQ (fun w h => h trivial) (fun _ => hz) hip fuel listed _ w (fun _ => closedB_spec hc) (Region.free_spec hi hf) (by simpa using hr) hy (fun _ => hp) (fun _ => hS) ?_
  rw [hd]; exact h
theorem PI_takeW (i d : Nat) (v : Value) (l' : Array Bool) {oi : Oper} {fuel : Nat} {listed : Array Bool} {ts : Array Value} {ds : List Deferred} {w : World} (hro : F.round = none) (hi : ops[i]? = some oi) (hd : oi.dst = some d) (hl : listed.setIfInBounds i true = l')
    (hs : Region.noSelect ops = true) (hf : Region.free md ops listed i = true) (hr : (Region.ready md ops listed).contains i = true) (hip : p ≠ i)
    (hQ : ∀ c a w, Q (.panic c) (a.put oi.dst v) w → Q (.panic c) a w) (hy : YieldsFor P ops (fun _ => True) oi v ⟨ts, ds⟩) (hS : S w)
    (h : wpInP F n P md ops Q S p fuel l' ⟨ts.setIfInBounds d v, ds⟩ w) : wpInP F n P md ops Q S p (fuel + 1) listed ⟨ts, ds⟩ w := by
  subst hl
  refine wpInP_first (xs := []) (needs := False) hro hi (Region.noSelect_spec hs) hQ (fun w h => trivial) (fun h => h.elim) hip fuel listed _ w (fun h => h.elim) (Region.free_spec hi hf) (by simpa using hr) hy (fun h => h.elim) (fun _ => hS) ?_
  rw [hd]; exact h
theorem PI_oneS (i : Nat) (l' : Array Bool) {oi : Oper} {fuel : Nat} {listed : Array Bool} {a : Act} {w : World} (hi : ops[i]? = some oi) (hl : listed.setIfInBounds i true = l') (hr : Region.ready md ops listed = [i]) (hg : oi.guard = none)
    (h : ∀ K : Act → World → Prop, (∀ a' w', S w' → wpInP F n P md ops Q S p fuel l' a' w' → K a' w') → oi.wpIn F n P a w K Q) : wpInP F n P md ops Q S p (fuel + 1) listed a w := by
  subst hl
  refine ⟨fun h0 => ?_, fun j hj => ?_⟩
  · rw [hr] at h0
    cases h0
  · rw [hr] at hj
    have hj' : j = i := by simpa using hj
    subst hj'
    unfold wpOpIn
    simp only [hi]
    rw [if_pos (by simp [Region.wanted, hg])]
    exact h _ fun _ _ h1 h2 => ⟨fun _ => h1, h2⟩
theorem PI_one (i : Nat) (l' : Array Bool) {oi : Oper} {fuel : Nat} {listed : Array Bool} {a : Act} {w : World} (hi : ops[i]? = some oi) (hl : listed.setIfInBounds i true = l') (hr : Region.ready md ops listed = [i]) (hg : oi.guard = none) (hp : l'.getD p true = true)
    (h : ∀ K : Act → World → Prop, (∀ a' w', wpInP F n P md ops Q S p fuel l' a' w' → K a' w') → oi.wpIn F n P a w K Q) : wpInP F n P md ops Q S p (fuel + 1) listed a w := by
  subst hl
  refine ⟨fun h0 => ?_, fun j hj => ?_⟩
  · rw [hr] at h0
    cases h0
  · rw [hr] at hj
    have hj' : j = i := by simpa using hj
    subst hj'
    unfold wpOpIn
    simp only [hi]
    rw [if_pos (by simp [Region.wanted, hg])]
    exact h _ fun _ _ h2 => ⟨fun h9 => (by rw [hp] at h9; cases h9), h2⟩
theorem PI_done {listed : Array Bool} {a : Act} {w : World} (hr : Region.ready md ops listed = []) (h : Q .normal a w) : ∀ fuel, wpInP F n P md ops Q S p fuel listed a w
  | 0 => ⟨hr, h⟩
  | _ + 1 => ⟨fun _ => h, by rw [hr]; simp⟩
end
theorem wpIn_nopanic {F : Fence} {n : Nat} {P : Program} {c : Code} {Q : Exit → Act → World → Prop} {a : Act} {w : World} (h : c.wpIn F n P (noPanic Q) a w) : c.wpIn F n P Q a w :=
  wpIn_mono h (fun e a w h => by cases e <;> first | exact h | exact h.elim)
end Go.Proofs.YtcbbkflnenkpgaaGreat
