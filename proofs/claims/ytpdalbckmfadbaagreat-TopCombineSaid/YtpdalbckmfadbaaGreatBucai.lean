/-
  Bundle of the texts Ch Iq Ci Cl Cm Cn Ea. Conditions: none.
-/
import Derived.Test.YtpdalbckmfadbaaGreatBucah
import Derived.Deep.QuietTactic
import Derived.BigQuiet
namespace Go.Proofs.YtpdalbckmfadbaaGreat
open Go.RowKit
set_option linter.unusedVariables false
section
variable {P : Program} {ops : Array Oper} {Q : Exit → Act → World → Prop} {md : Region.Mode} {S : World → Prop} {p : Nat}
/-- every listed operation's forerunners are listed -/
def ClosedR (md : Region.Mode) (ops : Array Oper) (listed : Array Bool) : Prop := ∀ j oj, ops[j]? = some oj → listed.getD j true = true → ∀ e ∈ oj.after, Region.binds md e = true → listed.getD e.on true = true
def closedB (md : Region.Mode) (ops : Array Oper) (listed : Array Bool) : Bool := (List.range ops.size).all fun j => match ops[j]? with
  | some oj => !listed.getD j true || oj.after.all fun e => !Region.binds md e || listed.getD e.on true
  | none => true
theorem closedB_spec {listed : Array Bool} (h : closedB md ops listed = true) : ClosedR md ops listed := by
  intro j oj hj hl e he hb
  unfold closedB at h
  rw [List.all_eq_true] at h
  have h1 := h j (by simpa using (Array.getElem?_eq_some_iff.1 hj).1)
  simp only [hj, hl, Bool.not_true, Bool.false_or] at h1
  obtain ⟨q, hq, rfl⟩ := Array.mem_iff_getElem.1 he
  have h2 := (Array.all_eq_true.1 h1) q hq
  simpa [hb] using h2
theorem getD_both_true {listed : Array Bool} {i : Nat} (h : listed.getD i false = true) : listed.getD i true = true := by
  by_cases hi : i < listed.size
  · simpa [Array.getD, hi] using h
  · simp [Array.getD, hi]
theorem closed_set {listed : Array Bool} (h : ClosedR md ops listed) {i : Nat} (hi : i ∈ Region.ready md ops listed) : ClosedR md ops (listed.setIfInBounds i true) := by
  intro j oj hj hl e he hb
  have up : ∀ q, listed.getD q true = true → (listed.setIfInBounds i true).getD q true = true := fun q hq => by
    by_cases e : i = q
    · subst e
      by_cases hs : i < listed.size
      · simp [Array.getD, hs]
      · simp [Array.getD, hs]
    · rw [getD_set_ne true e]; exact hq
  by_cases hji : i = j
  · subst hji
    obtain ⟨_, o', ho', hall⟩ := mem_ready.1 hi
    have : oj = o' := Option.some.inj (hj.symm.trans ho')
    subst this
    exact up _ (getD_both_true (hall e he hb))
  · rw [getD_set_ne true hji] at hl
    exact up _ (h j oj hj hl e he hb)
/-- a path of forerunners -/
def pathB (md : Region.Mode) (ops : Array Oper) (i : Nat) : Nat → List Nat → Bool
  | q, [] => Region.waitsFor md ops q i
  | q, x :: xs => Region.waitsFor md ops q x && pathB md ops i x xs
theorem path_listed {i : Nat} {listed : Array Bool} (hc : ClosedR md ops listed) : ∀ (xs : List Nat) (q : Nat), pathB md ops i q xs = true → (∃ oq, ops[q]? = some oq) → listed.getD q true = true → listed.getD i true = true
  | [], q, h, _, hq => by
    obtain ⟨oj, hoj, e, he, hb, hon⟩ := Region.waitsFor_spec h
    rw [← hon]; exact hc q oj hoj hq e he hb
  | x :: xs, q, h, _, hq => by
    simp only [pathB, Bool.and_eq_true] at h
    obtain ⟨oj, hoj, e, he, hb, hon⟩ := Region.waitsFor_spec h.1
    have hx : listed.getD x true = true := by rw [← hon]; exact hc q oj hoj hq e he hb
    cases xs with
    | nil =>
      obtain ⟨ox, hox, -⟩ := Region.waitsFor_spec h.2
      exact path_listed hc [] x h.2 ⟨ox, hox⟩ hx
    | cons y ys =>
      have h3 := h.2
      simp only [pathB, Bool.and_eq_true] at h3
      obtain ⟨ox, hox, -⟩ := Region.waitsFor_spec h3.1
      exact path_listed hc (y :: ys) x h.2 ⟨ox, hox⟩ hx
theorem not_ready_path {i : Nat} {listed : Array Bool} {xs : List Nat} (hc : ClosedR md ops listed) (hp : pathB md ops i p xs = true) (hun : listed.getD i true = false) : p ∉ Region.ready md ops listed := by
  intro hr
  obtain ⟨_, oj, hoj, hall⟩ := mem_ready.1 hr
  have key : listed.getD i true = true := by
    cases xs with
    | nil =>
      obtain ⟨oj', hoj', e, he, hb, hon⟩ := Region.waitsFor_spec hp
      have : oj = oj' := Option.some.inj (hoj.symm.trans hoj')
      subst this
      rw [← hon]; exact getD_both_true (hall e he hb)
    | cons x xs =>
      simp only [pathB, Bool.and_eq_true] at hp
      obtain ⟨oj', hoj', e, he, hb, hon⟩ := Region.waitsFor_spec hp.1
      have : oj = oj' := Option.some.inj (hoj.symm.trans hoj')
      subst this
      have hx : listed.getD x true = true := by rw [← hon]; exact getD_both_true (hall e he hb)
      have hex : ∃ ox, ops[x]? = some ox := by
        cases xs with
        | nil =>
          obtain ⟨ox, hox, -⟩ := Region.waitsFor_spec hp.2
          exact ⟨ox, hox⟩
        | cons y ys =>
          have h3 := hp.2
          simp only [pathB, Bool.and_eq_true] at h3
          obtain ⟨ox, hox, -⟩ := Region.waitsFor_spec h3.1
          exact ⟨ox, hox⟩
      exact path_listed hc xs x hp.2 hex hx
  rw [key] at hun
  cases hun
theorem wpAnyP_firstT {i : Nat} {oi : Oper} {v : Value} {xs : List Nat} (hi : ops[i]? = some oi) (hsel : ∀ (j : Nat) (o : Oper) cs b, ops[j]? = some o → o.op ≠ .select cs b)
    (hQ : ∀ c a w, Q (.panic c) (a.put oi.dst v) w → Q (.panic c) a w) (hw : pathB md ops i p xs = true) (hip : p ≠ i) :
    ∀ (fuel : Nat) (listed : Array Bool) (a : Act) (w : World), ClosedR md ops listed →
      (∀ j oj, ops[j]? = some oj → j ≠ i → listed.getD j true = false → (∀ e ∈ oj.after, Region.binds md e = true → e.on ≠ i) → oi.apart ops oj = true) →
      i ∈ Region.ready md ops listed → YieldsIf P ops S oi v a → listed.getD p true = false → S w →
      wpAnyP P md ops Q S p fuel (listed.setIfInBounds i true) (a.put oi.dst v) w → wpAnyP P md ops Q S p (fuel + 1) listed a w := by
  intro fuel
  induction fuel with
  | zero =>
    intro listed a w hc _ hr hy hp hS H
    refine ⟨fun h => (by rw [h] at hr; cases hr), fun j hj => ?_⟩
    by_cases hji : j = i
    · subst hji; exact hy.wpOp hi hS ⟨fun _ => hS, H⟩
    · have := ready_mono hj hji
      rw [H.1] at this
      cases this
  | succ fuel ih =>
    intro listed a w hc hfree hr hy hp hS H
    refine ⟨fun h => (by rw [h] at hr; cases hr), fun j hj => ?_⟩
    by_cases hji : j = i
    · subst hji; exact hy.wpOp hi hS ⟨fun _ => hS, H⟩
    · have hun := (mem_ready.1 hr).1
      have h1 := H.2 j (ready_mono hj hji)
      obtain ⟨hjun, oj, hoj, hall⟩ := mem_ready.1 hj
      have hnot : ∀ e ∈ oj.after, Region.binds md e = true → e.on ≠ i := fun e he hb heq => by
        have h9 := hall e he hb
        rw [heq, getD_both hun] at h9
        cases h9
      have h2 := wpOp_putIf hoj (hfree j oj hoj hji hjun hnot) (fun cs b => hsel i oi cs b hi) (fun cs b => hsel j oj cs b hoj) hQ hy h1
      have hfree' : ∀ k ok, ops[k]? = some ok → k ≠ i → (listed.setIfInBounds j true).getD k true = false →
          (∀ e ∈ ok.after, Region.binds md e = true → e.on ≠ i) → oi.apart ops ok = true := fun k ok hk hki hun' hno => hfree k ok hk hki (getD_unset hun') hno
      refine wpOp_mono (fun a' w' h3 => ?_) h2
      have hjp : j ≠ p := fun e => not_ready_path hc hw hun (e ▸ hj)
      have hpp : (listed.setIfInBounds j true).getD p true = false := by rw [getD_set_ne true hjp]; exact hp
      have hS' : S w' := h3.2.1 (by rw [Array.setIfInBounds_comm _ _ (Ne.symm hji), getD_set_ne true (Ne.symm hip)]; exact hpp)
      refine ⟨fun _ => hS', ih (listed.setIfInBounds j true) a' w' (closed_set hc hj) hfree' (ready_mono hr (Ne.symm hji)) h3.1 hpp hS' ?_⟩
      rw [Array.setIfInBounds_comm _ _ hji]
      exact h3.2.2
/-- a load that comes ahead of p along a path -/
theorem P_takeT (i d : Nat) (v : Value) (l' : Array Bool) (xs : List Nat) {oi : Oper} {fuel : Nat} {listed : Array Bool} {ts : Array Value} {ds : List Deferred} {w : World} (hi : ops[i]? = some oi) (hd : oi.dst = some d) (hl : listed.setIfInBounds i true = l')
    (hs : Region.noSelect ops = true) (hf : Region.free md ops listed i = true) (hr : (Region.ready md ops listed).contains i = true) (hz : pathB md ops i p xs = true) (hc : closedB md ops listed = true) (hp : listed.getD p true = false) (hip : p ≠ i)
    (hQ : ∀ c a w, Q (.panic c) (a.put oi.dst v) w → Q (.panic c) a w) (hy : YieldsIf P ops S oi v ⟨ts, ds⟩) (hS : S w)
    (h : wpAnyP P md ops Q S p fuel l' ⟨ts.setIfInBounds d v, ds⟩ w) : wpAnyP P md ops Q S p (fuel + 1) listed ⟨ts, ds⟩ w := by
  subst hl
  refine wpAnyP_firstT hi (Region.noSelect_spec hs) hQ hz hip fuel listed _ w (closedB_spec hc) (Region.free_spec hi hf) (by simpa using hr) hy hp hS ?_
  rw [hd]; exact h
theorem P_twoS (i j : Nat) (l1 l2 : Array Bool) {oi oj : Oper} {fuel : Nat} {listed : Array Bool} {a : Act} {w : World} (hi : ops[i]? = some oi) (hj : ops[j]? = some oj) (e1 : listed.setIfInBounds i true = l1) (e2 : listed.setIfInBounds j true = l2) (hr : Region.ready md ops listed = [i, j]) (gi : oi.guard = none) (gj : oj.guard = none)
    (h1 : ∀ K : Act → World → Prop, (∀ a' w', S w' → wpAnyP P md ops Q S p fuel l1 a' w' → K a' w') → oi.wp P a w K Q)
    (h2 : ∀ K : Act → World → Prop, (∀ a' w', S w' → wpAnyP P md ops Q S p fuel l2 a' w' → K a' w') → oj.wp P a w K Q) : wpAnyP P md ops Q S p (fuel + 1) listed a w := by
  subst e1; subst e2
  refine ⟨fun h0 => (by rw [hr] at h0; cases h0), fun q hq => ?_⟩
  rw [hr] at hq
  simp only [List.mem_cons, List.not_mem_nil, or_false] at hq
  rcases hq with rfl | rfl
  · unfold wpOp
    simp only [hi]
    rw [if_pos (by simp [Region.wanted, gi])]
    exact .inl (h1 _ fun _ _ q1 q2 => ⟨fun _ => q1, q2⟩)
  · unfold wpOp
    simp only [hj]
    rw [if_pos (by simp [Region.wanted, gj])]
    exact .inl (h2 _ fun _ _ q1 q2 => ⟨fun _ => q1, q2⟩)
end
end Go.Proofs.YtpdalbckmfadbaaGreat

namespace Go.Proofs.YtpdalbckmfadbaaGreat
open Go.RowKit
set_option linter.unusedVariables false
def noPanic (Q : Exit → Act → World → Prop) : Exit → Act → World → Prop
  | .panic _, _, _ => False
  | e, a, w => Q e a w
theorem wp_nopanic {P : Program} {c : Code} {Q : Exit → Act → World → Prop} {a : Act} {w : World} (h : c.wp P (noPanic Q) a w) : c.wp P Q a w :=
  Code.wp_mono (fun e a w h => by cases e <;> first | exact h | exact h.elim) h
theorem noPanic_normal {Q : Exit → Act → World → Prop} {a : Act} {w : World} (h : Q .normal a w) : noPanic Q .normal a w := h
/-- what has run, told by a number -/
def bz (n m : Nat) : Array Bool := ((List.range n).map m.testBit).toArray
theorem z0 {α : Type} {l : List α} {i : Nat} {a : α} : l.toArray.setIfInBounds i a = (l.set i a).toArray := List.setIfInBounds_toArray _ _ _
theorem z1 {α : Type} {x a : α} {xs : List α} : (x :: xs).set 0 a = a :: xs := List.set_cons_zero
theorem z2 {α : Type} {x a : α} {xs : List α} {n : Nat} : (x :: xs).set (n + 1) a = x :: xs.set n a := List.set_cons_succ
def ckI (md : Region.Mode) (ops : Array Oper) (n m m' i : Nat) : Bool := decide ((bz n m).setIfInBounds i true = bz n m') && (Region.ready md ops (bz n m)).contains i
def ckD (ops : Array Oper) (i d : Nat) : Bool := match ops[i]? with
  | some o => decide (o.dst = some d)
  | none => false
def ckW (md : Region.Mode) (ops : Array Oper) (p n m m' i d : Nat) : Bool := ckI md ops n m m' i && ckD ops i d && Region.noSelect ops && Region.free md ops (bz n m) i && decide (p ≠ i)
def ckT (md : Region.Mode) (ops : Array Oper) (p n m m' i d : Nat) (xs : List Nat) : Bool := ckW md ops p n m m' i d && pathB md ops i p xs && closedB md ops (bz n m) && decide ((bz n m).getD p true = false)
def ckO (md : Region.Mode) (ops : Array Oper) (n m m' i : Nat) : Bool := decide ((bz n m).setIfInBounds i true = bz n m') && decide (Region.ready md ops (bz n m) = [i])
section
variable {P : Program} {ops : Array Oper} {Q : Exit → Act → World → Prop} {md : Region.Mode} {S : World → Prop} {p n m fuel : Nat} {ts : Array Value} {ds : List Deferred} {w : World} {oi : Oper} {a : Act}
theorem ckD_of {i d : Nat} (h : ckD ops i d = true) (hi : ops[i]? = some oi) : oi.dst = some d := by
  unfold ckD at h; rw [hi] at h; exact of_decide_eq_true h
theorem ckW_of {m' i d : Nat} (h : ckW md ops p n m m' i d = true) (hi : ops[i]? = some oi) : ((bz n m).setIfInBounds i true = bz n m' ∧ (Region.ready md ops (bz n m)).contains i = true) ∧ oi.dst = some d ∧ Region.noSelect ops = true ∧ Region.free md ops (bz n m) i = true ∧ p ≠ i := by
  unfold ckW at h
  simp only [Bool.and_eq_true, decide_eq_true_eq, ckI] at h
  obtain ⟨⟨⟨⟨⟨h1, h2⟩, h3⟩, h4⟩, h5⟩, h6⟩ := h
  exact ⟨⟨h1, h2⟩, ckD_of h3 hi, h4, h5, h6⟩
theorem Q_start {id : Nat} (S : World → Prop) (p n : Nat) (h : wpAnyP P .any ops (noPanic Q) S p n (bz n 0) a w.drew) (hn : ops.size = n := by kernel_rfl) (hl : Array.replicate n false = bz n 0 := by kernel_rfl) (hm : P.follows .mixedOrders = true := by kernel_rfl) : (Code.region id ops true).wp P Q a w :=
  wp_nopanic (P_start S p n (bz n 0) hn hl hm h)
/-- an operation that asks nothing of the world -/
theorem Q_W (i d m' : Nat) (v : Value) (hi : ops[i]? = some oi) (hS : S w) (h : wpAnyP P md ops (noPanic Q) S p fuel (bz n m') ⟨ts.setIfInBounds d v, ds⟩ w)
    (hc : ckW md ops p n m m' i d = true := by kernel_rfl) (hy : YieldsIf P ops (fun _ => True) oi v ⟨ts, ds⟩ := by exact .inl ⟨by rfl, fun _ _ => by go_simp⟩) : wpAnyP P md ops (noPanic Q) S p (fuel + 1) (bz n m) ⟨ts, ds⟩ w := by
  obtain ⟨⟨h1, h2⟩, h3, h4, h5, h6⟩ := ckW_of hc hi
  exact P_takeW i d v _ hi h3 h1 h4 h5 h2 h6 (fun _ _ _ h => h) hy hS h
/-- a load, taken while a path of operations stands between it and p -/
theorem Q_T (i d m' : Nat) (v : Value) (xs : List Nat) (hi : ops[i]? = some oi) (hS : S w) (hy : YieldsIf P ops S oi v ⟨ts, ds⟩) (h : wpAnyP P md ops (noPanic Q) S p fuel (bz n m') ⟨ts.setIfInBounds d v, ds⟩ w)
    (hc : ckT md ops p n m m' i d xs = true := by kernel_rfl) : wpAnyP P md ops (noPanic Q) S p (fuel + 1) (bz n m) ⟨ts, ds⟩ w := by
  unfold ckT at hc
  simp only [Bool.and_eq_true, decide_eq_true_eq] at hc
  obtain ⟨⟨⟨hc, g1⟩, g2⟩, g3⟩ := hc
  obtain ⟨⟨h1, h2⟩, h3, h4, h5, h6⟩ := ckW_of hc hi
  exact P_takeT i d v _ xs hi h3 h1 h4 h5 h2 g1 g2 g3 h6 (fun _ _ _ h => h) hy hS h
/-- as Q_W, behind p -/
theorem Q_X (i d m' : Nat) (v : Value) (hi : ops[i]? = some oi) (h : wpAnyP P md ops (noPanic Q) S p fuel (bz n m') ⟨ts.setIfInBounds d v, ds⟩ w)
    (hc : ckW md ops p n m m' i d = true := by kernel_rfl) (hp : (bz n m).getD p true = true := by kernel_rfl) (hy : YieldsIf P ops (fun _ => True) oi v ⟨ts, ds⟩ := by exact .inl ⟨by rfl, fun _ _ => by go_simp⟩) : wpAnyP P md ops (noPanic Q) S p (fuel + 1) (bz n m) ⟨ts, ds⟩ w := by
  obtain ⟨⟨h1, h2⟩, h3, h4, h5, h6⟩ := ckW_of hc hi
  exact P_takeX i d v _ hi h3 h1 h4 h5 h2 h6 (fun _ _ _ h => h) hy hp h
/-- the only one that is ready -/
theorem Q_1 (i m' : Nat) (hi : ops[i]? = some oi) (h : ∀ K : Act → World → Prop, (∀ a' w', wpAnyP P md ops Q S p fuel (bz n m') a' w' → K a' w') → oi.wp P a w K Q)
    (hc : ckO md ops n m m' i = true := by kernel_rfl) (hg : Region.wanted oi (yielded ops a.tmps) = true := by rfl) (hp : (bz n m').getD p true = true := by kernel_rfl) : wpAnyP P md ops Q S p (fuel + 1) (bz n m) a w := by
  unfold ckO at hc
  simp only [Bool.and_eq_true, decide_eq_true_eq] at hc
  exact P_oneG i _ hi hc.1 hc.2 hg hp h
theorem Q_1S (i m' : Nat) (hi : ops[i]? = some oi) (h : ∀ K : Act → World → Prop, (∀ a' w', S w' → wpAnyP P md ops Q S p fuel (bz n m') a' w' → K a' w') → oi.wp P a w K Q)
    (hc : ckO md ops n m m' i = true := by kernel_rfl) (hg : oi.guard = none := by rfl) : wpAnyP P md ops Q S p (fuel + 1) (bz n m) a w := by
  unfold ckO at hc
  simp only [Bool.and_eq_true, decide_eq_true_eq] at hc
  exact P_oneS i _ hi hc.1 hc.2 hg h
theorem Q_2S (i j m1 m2 : Nat) {oj : Oper} (hi : ops[i]? = some oi) (hj : ops[j]? = some oj)
    (h1 : ∀ K : Act → World → Prop, (∀ a' w', S w' → wpAnyP P md ops Q S p fuel (bz n m1) a' w' → K a' w') → oi.wp P a w K Q)
    (h2 : ∀ K : Act → World → Prop, (∀ a' w', S w' → wpAnyP P md ops Q S p fuel (bz n m2) a' w' → K a' w') → oj.wp P a w K Q)
    (e1 : (bz n m).setIfInBounds i true = bz n m1 := by kernel_rfl) (e2 : (bz n m).setIfInBounds j true = bz n m2 := by kernel_rfl) (hr : Region.ready md ops (bz n m) = [i, j] := by kernel_rfl) (gi : oi.guard = none := by rfl) (gj : oj.guard = none := by rfl) : wpAnyP P md ops Q S p (fuel + 1) (bz n m) a w :=
  P_twoS i j _ _ hi hj e1 e2 hr gi gj h1 h2
theorem Q_end (h : Q .normal a w) (hr : Region.ready md ops (bz n m) = [] := by kernel_rfl) : wpAnyP P md ops (noPanic Q) S p fuel (bz n m) a w := P_done hr (noPanic_normal h) fuel
end
end Go.Proofs.YtpdalbckmfadbaaGreat

namespace Go.Proofs.YtpdalbckmfadbaaGreat
open Go.RowKit
set_option linter.unusedVariables false
def Ob.eT (o : Ob) (i : Nat) : Int := ext (o.tot i - gi o.s i - gi o.a i)
def Ob.bT (o : Ob) (i : Nat) : Int := if o.tot i < 0 then 1 else 0
/-- what holds all through -/
structure Rq (w : World) (bf bg N bA cap b6 b12 B0 : Nat) (o : Ob) (W : World) (vs : List Value) (r1 r2 r3 : RowD) : Prop where
  sw : Sw w bf bg N bA cap W o.f o.b
  d6 : Blk W b6 104 zero28
  d12 : Blk W b12 104 vs
  tt : TT B0 W r1 r2 r3
  sz : B0 ≤ W.heap.size
structure RqS (w : World) (bf bg bA b6 b12 B0 : Nat) : Prop where
  hf : bf < B0
  hg : bg < B0
  hA : bA < B0
  h6 : b6 < b12
  h12 : b12 < B0
  hw6 : w.heap.size ≤ b6
  hfge : w.heap.size ≤ bf
section
variable {w W W' : World} {bf bg N bA cap b6 b12 B0 : Nat} {o : Ob} {vs vs' : List Value} {r1 r2 r3 q1 q2 q3 : RowD}
theorem Rq.call (h : Rq w bf bg N bA cap b6 b12 B0 o W vs r1 r2 r3) (hB : Below W.heap.size W W') : Rq w bf bg N bA cap b6 b12 B0 o W' vs r1 r2 r3 := ⟨h.sw.call hB, h.d6.below hB, h.d12.below hB, h.tt.below hB, Nat.le_trans h.sz hB.size⟩
theorem Rq.grow (h : Rq w bf bg N bA cap b6 b12 B0 o W vs r1 r2 r3) (hs : RqS w bf bg bA b6 b12 B0) {row : Option Nat} (hg : W.grownBy W' row) (hr : ∀ g, row = some g → B0 ≤ g) (ht : TT B0 W' q1 q2 q3) : Rq w bf bg N bA cap b6 b12 B0 o W' vs q1 q2 q3 := by
  have a1 := hs.h12
  have a2 := hs.h6
  have a3 := hs.hw6
  exact ⟨h.sw.grownR hg hr hs.hf hs.hg hs.hA (by omega), h.d6.grownR hg hr (by omega), h.d12.grownR hg hr hs.h12, ht, Nat.le_trans h.sz hg.size⟩
end
section
variable {W : World} {B0 i gx : Nat} {v : Int} {A : Option Addr} {c : Nat} {r2 r3 : RowD} {op : Oper} {ts : Array Value} {ds : List Deferred} {K : Act → World → Prop} {Q : Exit → Act → World → Prop} {o : Ob}
end
end Go.Proofs.YtpdalbckmfadbaaGreat

namespace Go.Proofs.YtpdalbckmfadbaaGreat
open Go.RowKit
set_option linter.unusedVariables false
/-- the bits of a codeword that a step takes: inputs, parities -/
def inW (bs : List Bool) : List Bool := bs ++ [tu (fin bs) 0, tu (fin bs) 1, tu (fin bs) 2]
def outW (bs : List Bool) : List Bool := parL s0 bs ++ [tz (fin bs) 0, tz (fin bs) 1, tz (fin bs) 2]
def bq (b : Bool) : Nat := if b then 1 else 0
theorem inW_len (bs : List Bool) : (inW bs).length = bs.length + 3 := by simp [inW]
end Go.Proofs.YtpdalbckmfadbaaGreat

namespace Go.Proofs.YtpdalbckmfadbaaGreat
open Go.RowKit
set_option linter.unusedVariables false
/-- a decision: where its three rows lie, what they read as -/
structure Dc where
  A1 : Option Addr
  n1 : Nat
  c1 : Nat
  t : List Int
  A2 : Option Addr
  n2 : Nat
  c2 : Nat
  e : List Int
  A3 : Option Addr
  n3 : Nat
  c3 : Nat
  b : List Int
def Dc.val (d : Dc) : Value := .agg #[.slice d.A1 d.n1 d.c1, .slice d.A2 d.n2 d.c2, .slice d.A3 d.n3 d.c3]
structure DcAt (W : World) (d : Dc) : Prop where
  t : Rd .i64 W d.A1 d.n1 d.c1 d.t
  e : Rd .i64 W d.A2 d.n2 d.c2 d.e
  b : Rd .u8 W d.A3 d.n3 d.c3 d.b
  u : ∀ x ∈ d.b, 0 ≤ x ∧ x < 256
theorem DcAt.below {W W' : World} {d : Dc} (h : DcAt W d) (hB : Below W.heap.size W W') : DcAt W' d := ⟨Rdv.below h.t hB, Rdv.below h.e hB, Rdv.below h.b hB, h.u⟩
theorem DcAt.alloc {W : World} {d : Dc} (h : DcAt W d) (o : Obj) : DcAt (W.alloc o) d := ⟨Rdv.alloc h.t o, Rdv.alloc h.e o, Rdv.alloc h.b o, h.u⟩
/-! ### the two decoders in plain Lean -/
theorem gN_val (o : Ob) (i bit : Nat) (f g : List Int) (hf : ∀ b ∈ brT, UU ≤ gi f b.fr) (hg : ∀ b ∈ brT, UU ≤ gi g b.tt) : gN o i bit f g 16 = o.val i bit f g := by
  have key : ∀ (l : List Br), (∀ b ∈ l, b ∈ brT) → ∀ best, UU ≤ best → l.foldl (fun best x => max best (o.vX i bit f g x)) best = l.foldl (o.vB i bit f g) best ∧ True := by
    intro l
    induction l with
    | nil => intro _ best _; exact ⟨rfl, trivial⟩
    | cons b l ih =>
      intro hl best hb
      have hb1 := hf b (hl b (by simp))
      have hb2 := hg b (hl b (by simp))
      have e : max best (o.vX i bit f g b) = o.vB i bit f g best b := by
        unfold Ob.vX Ob.vB
        by_cases h1 : b.bt = bit ∧ gi f b.fr ≠ UU ∧ gi g b.tt ≠ UU
        · rw [if_pos h1, if_pos ⟨h1.1, by omega, by omega⟩]
        · rw [if_neg h1, if_neg (fun h => h1 ⟨h.1, by omega, by omega⟩)]; omega
      simp only [List.foldl_cons]
      rw [e]
      refine ih (fun c hc => hl c (by simp [hc])) _ ?_
      rw [← e]; omega
  have e16 : brT.take 16 = brT := rfl
  unfold gN Ob.val
  rw [e16]
  exact (key brT (fun _ h => h) UU (Int.le_refl _)).1
theorem met_ge {B : Int} {m : List Int} (h : Met B m) (hB : B ≤ 1125899906842624) (j : Nat) (hj : j < 8) : UU ≤ gi m j := by
  have := h.bd j hj
  rw [UU_eq] at *
  omega
theorem tN_tot {o : Ob} (h : o.ok) (i : Nat) (hi : i < o.s.length) : o.tN i = o.tot i := by
  have hl := h.2.1
  have hl2 := h.2.2.1
  have hf := f_met h i (by omega)
  have hb := bd_met h (o.s.length - (i + 1)) (by omega)
  unfold Ob.tN Ob.tot
  have q : ∀ bit, gN o i bit (o.f i) (o.b (i + 1)) 16 = o.val i bit (o.f i) (o.b (i + 1)) := fun bit =>
    gN_val o i bit _ _ (fun b hb' => met_ge hf (by omega) _ (br_bd b hb').1) (fun b hb' => met_ge hb (by omega) _ (br_bd b hb').2.2.2)
  rw [q, q]
theorem rows_same {o : Ob} (h : o.ok) : (List.range o.a.length).map o.tN = (List.range o.a.length).map o.tot ∧ (List.range o.a.length).map o.eN = (List.range o.a.length).map o.eT ∧ (List.range o.a.length).map o.bN = (List.range o.a.length).map o.bT := by
  have hl2 := h.2.2.1
  have hlt : ∀ i, i ∈ List.range o.a.length → i < o.s.length := fun i hi => by
    have : i < o.a.length := by simpa using hi
    omega
  refine ⟨List.map_congr_left fun i hi => tN_tot h i (hlt i hi), List.map_congr_left fun i hi => ?_, List.map_congr_left fun i hi => ?_⟩
  · unfold Ob.eN Ob.eT; rw [tN_tot h i (hlt i hi)]
  · unfold Ob.bN Ob.bT; rw [tN_tot h i (hlt i hi)]
end Go.Proofs.YtpdalbckmfadbaaGreat

namespace Go.Proofs.YtpdalbckmfadbaaGreat
open Go.RowKit
set_option linter.unusedVariables false
open Classical in
noncomputable def Ob.dE (o : Ob) : List Int := if o.ok then (List.range o.a.length).map o.eT else []
open Classical in
noncomputable def Ob.dB (o : Ob) : List Int := if o.ok then (List.range o.a.length).map o.bT else []
/-! ### the examples -/
end Go.Proofs.YtpdalbckmfadbaaGreat

namespace Go.Proofs.YtpdalbckmfadbaaGreat
open Go.RowKit
set_option linter.unusedVariables false
theorem eq_of_le {a b : Int} (h : ∀ v, a ≤ v ↔ b ≤ v) : a = b := Int.le_antisymm ((h b).2 (Int.le_refl _)) ((h a).1 (Int.le_refl _))
theorem foldF_le (o : Ob) (i : Nat) (m : List Int) (t : Nat) (ht : t < 8) (v : Int) : ∀ (l : List Br) (nx : List Int), (∀ b ∈ l, b ∈ brT) → nx.length = 8 →
    (gi (l.foldl (o.fB i m) nx) t ≤ v ↔ gi nx t ≤ v ∧ ∀ b ∈ l, b.tt = t → o.allow i b = true → UU < gi m b.fr → gi m b.fr + o.term i b ≤ v)
  | [], nx, _, _ => by simp
  | b :: l, nx, hb, hn => by
    have hb1 := br_bd b (hb b (by simp))
    have hlen : (o.fB i m nx b).length = 8 := by unfold Ob.fB; split <;> simp [hn]
    rw [List.foldl_cons, foldF_le o i m t ht v l _ (fun c hc => hb c (by simp [hc])) hlen]
    have key : gi (o.fB i m nx b) t ≤ v ↔ gi nx t ≤ v ∧ (b.tt = t → o.allow i b = true → UU < gi m b.fr → gi m b.fr + o.term i b ≤ v) := by
      unfold Ob.fB
      by_cases hc : o.allow i b = true ∧ UU < gi m b.fr
      · rw [if_pos hc, gi_set' _ _ _ _ (by omega)]
        by_cases e : b.tt = t
        · rw [if_pos e, e]
          constructor
          · intro h; exact ⟨by omega, fun _ _ _ => by omega⟩
          · rintro ⟨h1, h2⟩; have := h2 rfl hc.1 hc.2; omega
        · rw [if_neg e]
          exact ⟨fun h => ⟨h, fun e' => absurd e' e⟩, fun h => h.1⟩
      · rw [if_neg hc]
        exact ⟨fun h => ⟨h, fun _ h1 h2 => absurd ⟨h1, h2⟩ hc⟩, fun h => h.1⟩
    rw [key]
    simp only [List.mem_cons, forall_eq_or_imp, and_assoc]
theorem foldB_le (o : Ob) (i : Nat) (m : List Int) (t : Nat) (ht : t < 8) (v : Int) : ∀ (l : List Br) (nx : List Int), (∀ b ∈ l, b ∈ brT) → nx.length = 8 →
    (gi (l.foldl (o.bB i m) nx) t ≤ v ↔ gi nx t ≤ v ∧ ∀ b ∈ l, b.fr = t → o.allow i b = true → UU < gi m b.tt → gi m b.tt + o.term i b ≤ v)
  | [], nx, _, _ => by simp
  | b :: l, nx, hb, hn => by
    have hb1 := br_bd b (hb b (by simp))
    have hlen : (o.bB i m nx b).length = 8 := by unfold Ob.bB; split <;> simp [hn]
    rw [List.foldl_cons, foldB_le o i m t ht v l _ (fun c hc => hb c (by simp [hc])) hlen]
    have key : gi (o.bB i m nx b) t ≤ v ↔ gi nx t ≤ v ∧ (b.fr = t → o.allow i b = true → UU < gi m b.tt → gi m b.tt + o.term i b ≤ v) := by
      unfold Ob.bB
      by_cases hc : o.allow i b = true ∧ UU < gi m b.tt
      · rw [if_pos hc, gi_set' _ _ _ _ (by omega)]
        by_cases e : b.fr = t
        · rw [if_pos e, e]
          constructor
          · intro h; exact ⟨by omega, fun _ _ _ => by omega⟩
          · rintro ⟨h1, h2⟩; have := h2 rfl hc.1 hc.2; omega
        · rw [if_neg e]
          exact ⟨fun h => ⟨h, fun e' => absurd e' e⟩, fun h => h.1⟩
      · rw [if_neg hc]
        exact ⟨fun h => ⟨h, fun _ h1 h2 => absurd ⟨h1, h2⟩ hc⟩, fun h => h.1⟩
    rw [key]
    simp only [List.mem_cons, forall_eq_or_imp, and_assoc]
theorem foldV_le (o : Ob) (i bit : Nat) (f g : List Int) (v : Int) : ∀ (l : List Br) (best : Int),
    (l.foldl (o.vB i bit f g) best ≤ v ↔ best ≤ v ∧ ∀ b ∈ l, b.bt = bit → UU < gi f b.fr → UU < gi g b.tt → gi f b.fr + o.term i b + gi g b.tt ≤ v)
  | [], best => by simp
  | b :: l, best => by
    rw [List.foldl_cons, foldV_le o i bit f g v l]
    have key : o.vB i bit f g best b ≤ v ↔ best ≤ v ∧ (b.bt = bit → UU < gi f b.fr → UU < gi g b.tt → gi f b.fr + o.term i b + gi g b.tt ≤ v) := by
      unfold Ob.vB
      by_cases hc : b.bt = bit ∧ UU < gi f b.fr ∧ UU < gi g b.tt
      · rw [if_pos hc]
        constructor
        · intro h; exact ⟨by omega, fun _ _ _ => by omega⟩
        · rintro ⟨h1, h2⟩; have := h2 hc.1 hc.2.1 hc.2.2; omega
      · rw [if_neg hc]
        exact ⟨fun h => ⟨h, fun h1 h2 h3 => absurd ⟨h1, h2, h3⟩ hc⟩, fun h => h.1⟩
    rw [key]
    simp only [List.mem_cons, forall_eq_or_imp, and_assoc]
theorem fwd_le (o : Ob) (i : Nat) (m : List Int) (t : Nat) (ht : t < 8) (v : Int) : gi (o.fwd i m) t ≤ v ↔ UU ≤ v ∧ ∀ b ∈ brT, b.tt = t → o.allow i b = true → UU < gi m b.fr → gi m b.fr + o.term i b ≤ v := by
  unfold Ob.fwd
  rw [foldF_le o i m t ht v brT noneL (fun _ h => h) (by simp [noneL]), gi_noneL t ht]
theorem bwd_le (o : Ob) (i : Nat) (m : List Int) (t : Nat) (ht : t < 8) (v : Int) : gi (o.bwd i m) t ≤ v ↔ UU ≤ v ∧ ∀ b ∈ brT, b.fr = t → o.allow i b = true → UU < gi m b.tt → gi m b.tt + o.term i b ≤ v := by
  unfold Ob.bwd
  rw [foldB_le o i m t ht v brT noneL (fun _ h => h) (by simp [noneL]), gi_noneL t ht]
theorem val_le (o : Ob) (i bit : Nat) (f g : List Int) (v : Int) : o.val i bit f g ≤ v ↔ UU ≤ v ∧ ∀ b ∈ brT, b.bt = bit → UU < gi f b.fr → UU < gi g b.tt → gi f b.fr + o.term i b + gi g b.tt ≤ v := by
  unfold Ob.val
  exact foldV_le o i bit f g v brT UU
/-! ### turning -/
def bx (c b : Br) : Br := ⟨b.fr ^^^ c.fr, b.bt ^^^ c.bt, b.pr ^^^ c.pr, b.tt ^^^ c.tt⟩
theorem bx_mem : ∀ c ∈ brT, ∀ b ∈ brT, bx c b ∈ brT ∧ bx c (bx c b) = b ∧ ((bx c b).bt = tailBit (bx c b).fr ↔ (c.bt = tailBit c.fr ↔ b.bt = tailBit b.fr)) := by decide
theorem x8 : ∀ a, a < 8 → ∀ b, b < 8 → a ^^^ b < 8 ∧ a ^^^ b ^^^ b = a := by decide
theorem x8_inj {a b c : Nat} (ha : a < 8) (hb : b < 8) (hc : c < 8) : a ^^^ c = b ^^^ c ↔ a = b :=
  ⟨fun h => by rw [← (x8 a ha c hc).2, ← (x8 b hb c hc).2, h], fun h => by rw [h]⟩
theorem all_bx {c : Br} (hc : c ∈ brT) {P : Br → Prop} : (∀ b ∈ brT, P (bx c b)) ↔ ∀ b ∈ brT, P b :=
  ⟨fun h b hb => by have := h _ (bx_mem c hc b hb).1; rwa [(bx_mem c hc b hb).2.1] at this, fun h b hb => h _ (bx_mem c hc b hb).1⟩
theorem sg_x : ∀ a, a < 2 → ∀ b, b < 2 → (1 - 2 * ((a ^^^ b : Nat) : Int)) = (1 - 2 * (a : Int)) * (1 - 2 * (b : Int)) ∧ (1 - 2 * (b : Int)) * (1 - 2 * (b : Int)) = 1 := by decide
/-- o' is o turned by the codeword with the branches c -/
structure Tn (o o' : Ob) (c : Nat → Br) : Prop where
  n : o'.s.length = o.s.length
  k : o'.k = o.k
  mem : ∀ i, i < o.s.length → c i ∈ brT
  st : ∀ i, i < o.s.length → (c i).tt = (c (i + 1)).fr
  s0 : (c 0).fr = 0
  sn : (c o.s.length).fr = 0
  tl : ∀ i, i < o.s.length → o.k ≤ i → (c i).bt = tailBit (c i).fr
  x : ∀ i, i < o.s.length → o'.x i = o.x i * (1 - 2 * ((c i).bt : Int))
  p : ∀ i, i < o.s.length → gi o'.p i = gi o.p i * (1 - 2 * ((c i).pr : Int))
theorem Tn.fr {o o' : Ob} {c : Nat → Br} (h : Tn o o' c) (i : Nat) (hi : i ≤ o.s.length) : (c i).fr < 8 := by
  rcases Nat.lt_or_ge i o.s.length with h1 | h1
  · exact (br_bd _ (h.mem i h1)).1
  · have : i = o.s.length := by omega
    rw [this, h.sn]; decide
theorem Tn.term {o o' : Ob} {c : Nat → Br} (h : Tn o o' c) (i : Nat) (hi : i < o.s.length) (b : Br) (hb : b ∈ brT) : o'.term i b = o.term i (bx (c i) b) := by
  obtain ⟨-, b1, b2, -⟩ := br_bd b hb
  obtain ⟨-, c1, c2, -⟩ := br_bd _ (h.mem i hi)
  unfold Ob.term bx
  rw [h.x i hi, h.p i hi]
  dsimp only
  rw [(sg_x _ b1 _ c1).1, (sg_x _ b2 _ c2).1]
  rw [Int.mul_assoc, Int.mul_assoc, Int.mul_comm (1 - 2 * ((c i).bt : Int)), Int.mul_comm (1 - 2 * ((c i).pr : Int))]
theorem Tn.allow {o o' : Ob} {c : Nat → Br} (h : Tn o o' c) (i : Nat) (hi : i < o.s.length) (b : Br) (hb : b ∈ brT) : o'.allow i b = o.allow i (bx (c i) b) := by
  unfold Ob.allow
  rw [h.k]
  by_cases hk : i < o.k
  · simp [hk]
  · have h1 := (bx_mem _ (h.mem i hi) b hb).2.2
    have h2 := h.tl i hi (by omega)
    simp only [h2, true_iff] at h1
    have h3 : decide ((bx (c i) b).bt = tailBit (bx (c i) b).fr) = decide (b.bt = tailBit b.fr) := by simp only [h1]
    rw [h3]
theorem Tn.fwd {o o' : Ob} {c : Nat → Br} (h : Tn o o' c) (i : Nat) (hi : i < o.s.length) (m m' : List Int) (hm : ∀ t, t < 8 → gi m' t = gi m (t ^^^ (c i).fr)) :
    ∀ t, t < 8 → gi (o'.fwd i m') t = gi (o.fwd i m) (t ^^^ (c (i + 1)).fr) := by
  intro t ht
  have hc := h.mem i hi
  have hc4 := (br_bd _ hc).2.2.2
  rw [← h.st i hi]
  refine eq_of_le fun v => ?_
  rw [fwd_le _ _ _ _ ht, fwd_le _ _ _ _ (x8 _ ht _ hc4).1]
  refine and_congr_right fun _ => ?_
  refine Iff.trans ?_ (all_bx hc)
  refine forall₂_congr fun b hb => ?_
  have b4 := br_bd b hb
  rw [h.term i hi b hb, h.allow i hi b hb, hm _ b4.1]
  show _ ↔ (b.tt ^^^ (c i).tt = t ^^^ (c i).tt → _)
  rw [x8_inj b4.2.2.2 ht hc4]
  rfl
theorem Tn.bwd {o o' : Ob} {c : Nat → Br} (h : Tn o o' c) (i : Nat) (hi : i < o.s.length) (m m' : List Int) (hm : ∀ t, t < 8 → gi m' t = gi m (t ^^^ (c (i + 1)).fr)) :
    ∀ t, t < 8 → gi (o'.bwd i m') t = gi (o.bwd i m) (t ^^^ (c i).fr) := by
  intro t ht
  have hc := h.mem i hi
  have hc1 := (br_bd _ hc).1
  rw [← h.st i hi] at hm
  refine eq_of_le fun v => ?_
  rw [bwd_le _ _ _ _ ht, bwd_le _ _ _ _ (x8 _ ht _ hc1).1]
  refine and_congr_right fun _ => ?_
  refine Iff.trans ?_ (all_bx hc)
  refine forall₂_congr fun b hb => ?_
  have b4 := br_bd b hb
  rw [h.term i hi b hb, h.allow i hi b hb, hm _ b4.2.2.2]
  show _ ↔ (b.fr ^^^ (c i).fr = t ^^^ (c i).fr → _)
  rw [x8_inj b4.1 ht hc1]
  rfl
theorem x2_inj : ∀ a, a < 2 → ∀ b, b < 2 → ∀ c, c < 2 → (a ^^^ c = b ^^^ c ↔ a = b) := by decide
theorem Tn.val {o o' : Ob} {c : Nat → Br} (h : Tn o o' c) (i : Nat) (hi : i < o.s.length) (bit : Nat) (hbit : bit < 2) (f f' g g' : List Int) (hf : ∀ t, t < 8 → gi f' t = gi f (t ^^^ (c i).fr)) (hg : ∀ t, t < 8 → gi g' t = gi g (t ^^^ (c (i + 1)).fr)) :
    o'.val i bit f' g' = o.val i (bit ^^^ (c i).bt) f g := by
  have hc := h.mem i hi
  rw [← h.st i hi] at hg
  refine eq_of_le fun v => ?_
  rw [val_le, val_le]
  refine and_congr_right fun _ => ?_
  refine Iff.trans ?_ (all_bx hc)
  refine forall₂_congr fun b hb => ?_
  have b4 := br_bd b hb
  rw [h.term i hi b hb, hf _ b4.1, hg _ b4.2.2.2]
  show _ ↔ (b.bt ^^^ (c i).bt = bit ^^^ (c i).bt → _)
  rw [x2_inj _ b4.2.1 _ hbit _ (br_bd _ hc).2.1]
  rfl
theorem Tn.f {o o' : Ob} {c : Nat → Br} (h : Tn o o' c) : ∀ i, i ≤ o.s.length → ∀ t, t < 8 → gi (o'.f i) t = gi (o.f i) (t ^^^ (c i).fr)
  | 0, _, t, ht => by rw [h.s0, Nat.xor_zero]; rfl
  | i + 1, hi, t, ht => h.fwd i (by omega) _ _ (h.f i (by omega)) t ht
theorem Tn.bd {o o' : Ob} {c : Nat → Br} (h : Tn o o' c) : ∀ d, d ≤ o.s.length → ∀ t, t < 8 → gi (o'.bd d) t = gi (o.bd d) (t ^^^ (c (o.s.length - d)).fr)
  | 0, _, t, ht => by rw [Nat.sub_zero, h.sn, Nat.xor_zero]; rfl
  | d + 1, hd, t, ht => by
    show gi (o'.bwd (o'.s.length - 1 - d) (o'.bd d)) t = gi (o.bwd (o.s.length - 1 - d) (o.bd d)) _
    have e1 : o.s.length - 1 - d = o.s.length - (d + 1) := by omega
    have e2 : o.s.length - (d + 1) + 1 = o.s.length - d := by omega
    rw [h.n, e1]
    exact h.bwd _ (by omega) _ _ (by rw [e2]; exact h.bd d (by omega)) t ht
theorem Tn.tot {o o' : Ob} {c : Nat → Br} (h : Tn o o' c) (i : Nat) (hi : i < o.s.length) : o'.tot i = o.tot i * (1 - 2 * ((c i).bt : Int)) := by
  have hb := h.bd (o.s.length - (i + 1)) (by omega)
  have e : o.s.length - (o.s.length - (i + 1)) = i + 1 := by omega
  rw [e] at hb
  unfold Ob.tot Ob.b
  rw [h.n]
  have q : ∀ bit, bit < 2 → _ := fun bit hb2 => h.val i hi bit hb2 _ _ _ _ (h.f i (by omega)) hb
  rw [q 0 (by decide), q 1 (by decide)]
  rcases (by have := (br_bd _ (h.mem i hi)).2.1; omega : (c i).bt = 0 ∨ (c i).bt = 1) with e | e <;> rw [e]
  · simp
  · show (Int.tdiv (o.val i 1 _ _ - o.val i 0 _ _) 2) = Int.tdiv (o.val i 0 _ _ - o.val i 1 _ _) 2 * (1 - 2 * 1)
    rw [show (1 - 2 * 1 : Int) = -1 from rfl, Int.mul_neg_one, ← Int.neg_tdiv, Int.neg_sub]
end Go.Proofs.YtpdalbckmfadbaaGreat

