/-
  Bundle of the texts Iq. Conditions: none.
-/
import Derived.Test.YtpdalbckmfadbaaGreatBuhaj
namespace Go.Proofs.YtpdalbckmfadbaaGreat
open Go.RowKit
set_option linter.unusedVariables false
def noPanic (Q : Exit → Act → World → Prop) : Exit → Act → World → Prop
  | .panic _, _, _ => False
  | e, a, w => Q e a w
theorem wp_nopanic {P : Program} {c : Code} {Q : Exit → Act → World → Prop} {a : Act} {w : World} (h : c.wp P (noPanic Q) a w) : c.wp P Q a w :=
  Code.wp_mono (fun e a w h => by cases e <;> first | exact h | exact h.elim) h
theorem noPanic_normal {Q : Exit → Act → World → Prop} {a : Act} {w : World} (h : Q .normal a w) : noPanic Q .normal a w := h
/-- what has run, told by a number -/
def bz (n m : Nat) : Array Bool := ((List.range n).map m.testBit).toArray
theorem z0 {α : Type} {l : List α} {i : Nat} {a : α} : l.toArray.setIfInBounds i a = (l.set i a).toArray := List.setIfInBounds_toArray _ _ _
theorem z1 {α : Type} {x a : α} {xs : List α} : (x :: xs).set 0 a = a :: xs := List.set_cons_zero
theorem z2 {α : Type} {x a : α} {xs : List α} {n : Nat} : (x :: xs).set (n + 1) a = x :: xs.set n a := List.set_cons_succ
def ckI (md : Region.Mode) (ops : Array Oper) (n m m' i : Nat) : Bool := decide ((bz n m).setIfInBounds i true = bz n m') && (Region.ready md ops (bz n m)).contains i
def ckD (ops : Array Oper) (i d : Nat) : Bool := match ops[i]? with
  | some o => decide (o.dst = some d)
  | none => false
def ckW (md : Region.Mode) (ops : Array Oper) (p n m m' i d : Nat) : Bool := ckI md ops n m m' i && ckD ops i d && Region.noSelect ops && Region.free md ops (bz n m) i && decide (p ≠ i)
def ckT (md : Region.Mode) (ops : Array Oper) (p n m m' i d : Nat) (xs : List Nat) : Bool := ckW md ops p n m m' i d && pathB md ops i p xs && closedB md ops (bz n m) && decide ((bz n m).getD p true = false)
def ckO (md : Region.Mode) (ops : Array Oper) (n m m' i : Nat) : Bool := decide ((bz n m).setIfInBounds i true = bz n m') && decide (Region.ready md ops (bz n m) = [i])
section
variable {P : Program} {ops : Array Oper} {Q : Exit → Act → World → Prop} {md : Region.Mode} {S : World → Prop} {p n m fuel : Nat} {ts : Array Value} {ds : List Deferred} {w : World} {oi : Oper} {a : Act}
theorem ckD_of {i d : Nat} (h : ckD ops i d = true) (hi : ops[i]? = some oi) : oi.dst = some d := by
  unfold ckD at h; rw [hi] at h; exact of_decide_eq_true h
theorem ckW_of {m' i d : Nat} (h : ckW md ops p n m m' i d = true) (hi : ops[i]? = some oi) : ((bz n m).setIfInBounds i true = bz n m' ∧ (Region.ready md ops (bz n m)).contains i = true) ∧ oi.dst = some d ∧ Region.noSelect ops = true ∧ Region.free md ops (bz n m) i = true ∧ p ≠ i := by
  unfold ckW at h
  simp only [Bool.and_eq_true, decide_eq_true_eq, ckI] at h
  obtain ⟨⟨⟨⟨⟨h1, h2⟩, h3⟩, h4⟩, h5⟩, h6⟩ := h
  exact ⟨⟨h1, h2⟩, ckD_of h3 hi, h4, h5, h6⟩
theorem Q_start {id : Nat} (S : World → Prop) (p n : Nat) (h : wpAnyP P .any ops (noPanic Q) S p n (bz n 0) a w.drew) (hn : ops.size = n := by kernel_rfl) (hl : Array.replicate n false = bz n 0 := by kernel_rfl) (hm : P.follows .mixedOrders = true := by kernel_rfl) : (Code.region id ops true).wp P Q a w :=
  wp_nopanic (P_start S p n (bz n 0) hn hl hm h)
/-- an operation that asks nothing of the world -/
theorem Q_W (i d m' : Nat) (v : Value) (hi : ops[i]? = some oi) (hS : S w) (h : wpAnyP P md ops (noPanic Q) S p fuel (bz n m') ⟨ts.setIfInBounds d v, ds⟩ w)
    (hc : ckW md ops p n m m' i d = true := by kernel_rfl) (hy : YieldsIf P ops (fun _ => True) oi v ⟨ts, ds⟩ := by exact .inl ⟨by rfl, fun _ _ => by go_simp⟩) : wpAnyP P md ops (noPanic Q) S p (fuel + 1) (bz n m) ⟨ts, ds⟩ w := by
  obtain ⟨⟨h1, h2⟩, h3, h4, h5, h6⟩ := ckW_of hc hi
  exact P_takeW i d v _ hi h3 h1 h4 h5 h2 h6 (fun _ _ _ h => h) hy hS h
/-- a load, taken while a path of operations stands between it and p -/
theorem Q_T (i d m' : Nat) (v : Value) (xs : List Nat) (hi : ops[i]? = some oi) (hS : S w) (hy : YieldsIf P ops S oi v ⟨ts, ds⟩) (h : wpAnyP P md ops (noPanic Q) S p fuel (bz n m') ⟨ts.setIfInBounds d v, ds⟩ w)
    (hc : ckT md ops p n m m' i d xs = true := by kernel_rfl) : wpAnyP P md ops (noPanic Q) S p (fuel + 1) (bz n m) ⟨ts, ds⟩ w := by
  unfold ckT at hc
  simp only [Bool.and_eq_true, decide_eq_true_eq] at hc
  obtain ⟨⟨⟨hc, g1⟩, g2⟩, g3⟩ := hc
  obtain ⟨⟨h1, h2⟩, h3, h4, h5, h6⟩ := ckW_of hc hi
  exact P_takeT i d v _ xs hi h3 h1 h4 h5 h2 g1 g2 g3 h6 (fun _ _ _ h => h) hy hS h
/-- the only one that is ready -/
theorem Q_1 (i m' : Nat) (hi : ops[i]? = some oi) (h : ∀ K : Act → World → Prop, (∀ a' w', wpAnyP P md ops Q S p fuel (bz n m') a' w' → K a' w') → oi.wp P a w K Q)
    (hc : ckO md ops n m m' i = true := by kernel_rfl) (hg : Region.wanted oi (yielded ops a.tmps) = true := by rfl) (hp : (bz n m').getD p true = true := by kernel_rfl) : wpAnyP P md ops Q S p (fuel + 1) (bz n m) a w := by
  unfold ckO at hc
  simp only [Bool.and_eq_true, decide_eq_true_eq] at hc
  exact P_oneG i _ hi hc.1 hc.2 hg hp h
theorem Q_1S (i m' : Nat) (hi : ops[i]? = some oi) (h : ∀ K : Act → World → Prop, (∀ a' w', S w' → wpAnyP P md ops Q S p fuel (bz n m') a' w' → K a' w') → oi.wp P a w K Q)
    (hc : ckO md ops n m m' i = true := by kernel_rfl) (hg : oi.guard = none := by rfl) : wpAnyP P md ops Q S p (fuel + 1) (bz n m) a w := by
  unfold ckO at hc
  simp only [Bool.and_eq_true, decide_eq_true_eq] at hc
  exact P_oneS i _ hi hc.1 hc.2 hg h
theorem Q_2S (i j m1 m2 : Nat) {oj : Oper} (hi : ops[i]? = some oi) (hj : ops[j]? = some oj)
    (h1 : ∀ K : Act → World → Prop, (∀ a' w', S w' → wpAnyP P md ops Q S p fuel (bz n m1) a' w' → K a' w') → oi.wp P a w K Q)
    (h2 : ∀ K : Act → World → Prop, (∀ a' w', S w' → wpAnyP P md ops Q S p fuel (bz n m2) a' w' → K a' w') → oj.wp P a w K Q)
    (e1 : (bz n m).setIfInBounds i true = bz n m1 := by kernel_rfl) (e2 : (bz n m).setIfInBounds j true = bz n m2 := by kernel_rfl) (hr : Region.ready md ops (bz n m) = [i, j] := by kernel_rfl) (gi : oi.guard = none := by rfl) (gj : oj.guard = none := by rfl) : wpAnyP P md ops Q S p (fuel + 1) (bz n m) a w :=
  P_twoS i j _ _ hi hj e1 e2 hr gi gj h1 h2
theorem Q_end (h : Q .normal a w) (hr : Region.ready md ops (bz n m) = [] := by kernel_rfl) : wpAnyP P md ops (noPanic Q) S p fuel (bz n m) a w := P_done hr (noPanic_normal h) fuel
end
end Go.Proofs.YtpdalbckmfadbaaGreat

