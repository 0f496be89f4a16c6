/-
  Plain facts on the trellis code, no program in sight: linearity of parity, state and tail, and the free distance 6 of the ended code.
-/
import Derived.Test.YtmdjclfmhndjnaaN
namespace Go.Proofs.Ytmdjclfmhndjnaa
open Go.RowKit
set_option linter.unusedVariables false
def tlS (a b c : Bool) (j : Nat) : St3 := if j = 0 then (a, b, c) else if j = 1 then (false, a, b) else if j = 2 then (false, false, a) else (false, false, false)
def tlU (a b c : Bool) (j : Nat) : Bool := if j = 0 then (b ^^ c) else if j = 1 then (a ^^ b) else a
def tlZ (a b c : Bool) (j : Nat) : Bool := if j = 0 then (a ^^ c) else if j = 1 then b else a
theorem tl_step (a b c : Bool) (j : Nat) (h : j < 3) : stp (tlS a b c j) (tlU a b c j) = tlS a b c (j + 1) ∧ par (tlS a b c j) (tlU a b c j) = tlZ a b c j ∧ ((tlS a b c j).2.1 ^^ (tlS a b c j).2.2) = tlU a b c j := by
  rcases (by omega : j = 0 ∨ j = 1 ∨ j = 2) with rfl | rfl | rfl <;> cases a <;> cases b <;> cases c <;> decide
def tu (s : St3) (j : Nat) : Bool := tlU s.1 s.2.1 s.2.2 j
def tz (s : St3) (j : Nat) : Bool := tlZ s.1 s.2.1 s.2.2 j
def fin (bs : List Bool) : St3 := bs.foldl stp s0
def xorS (s t : St3) : St3 := (s.1 ^^ t.1, s.2.1 ^^ t.2.1, s.2.2 ^^ t.2.2)
def xorL (x y : List Bool) : List Bool := List.zipWith xor x y
theorem stp_xor (s t : St3) (x y : Bool) : stp (xorS s t) (x ^^ y) = xorS (stp s x) (stp t y) := by
  obtain ⟨a, b, c⟩ := s; obtain ⟨d, e, f⟩ := t
  show ((x ^^ y) ^^ (b ^^ e) ^^ (c ^^ f), (a ^^ d), (b ^^ e)) = ((x ^^ b ^^ c) ^^ (y ^^ e ^^ f), a ^^ d, b ^^ e)
  refine Prod.ext ?_ rfl
  show ((x ^^ y) ^^ (b ^^ e) ^^ (c ^^ f)) = ((x ^^ b ^^ c) ^^ (y ^^ e ^^ f))
  cases b <;> cases c <;> cases e <;> cases f <;> cases x <;> cases y <;> rfl
theorem par_xor (s t : St3) (x y : Bool) : par (xorS s t) (x ^^ y) = (par s x ^^ par t y) := by
  obtain ⟨a, b, c⟩ := s; obtain ⟨d, e, f⟩ := t
  simp only [par, xorS]
  cases a <;> cases b <;> cases c <;> cases d <;> cases e <;> cases f <;> cases x <;> cases y <;> rfl
theorem tu_xor (s t : St3) (j : Nat) : tu (xorS s t) j = (tu s j ^^ tu t j) := by
  obtain ⟨a, b, c⟩ := s; obtain ⟨d, e, f⟩ := t
  simp only [tu, tlU, xorS]
  split
  · cases b <;> cases c <;> cases e <;> cases f <;> rfl
  · split
    · cases a <;> cases b <;> cases d <;> cases e <;> rfl
    · rfl
theorem tz_xor (s t : St3) (j : Nat) : tz (xorS s t) j = (tz s j ^^ tz t j) := by
  obtain ⟨a, b, c⟩ := s; obtain ⟨d, e, f⟩ := t
  simp only [tz, tlZ, xorS]
  split
  · cases a <;> cases c <;> cases d <;> cases f <;> rfl
  · split <;> rfl
theorem fold_xor : ∀ (x y : List Bool) (s t : St3), x.length = y.length → (xorL x y).foldl stp (xorS s t) = xorS (x.foldl stp s) (y.foldl stp t)
  | [], [], s, t, _ => rfl
  | [], _ :: _, _, _, h => by cases h
  | _ :: _, [], _, _, h => by cases h
  | a :: x, b :: y, s, t, h => by
    simp only [xorL, List.zipWith_cons_cons, List.foldl_cons]
    rw [show (a ^^ b) = xor a b from rfl, stp_xor]
    exact fold_xor x y _ _ (by simpa using h)
theorem parL_xor : ∀ (x y : List Bool) (s t : St3), x.length = y.length → parL (xorS s t) (xorL x y) = xorL (parL s x) (parL t y)
  | [], [], s, t, _ => rfl
  | [], _ :: _, _, _, h => by cases h
  | _ :: _, [], _, _, h => by cases h
  | a :: x, b :: y, s, t, h => by
    simp only [xorL, List.zipWith_cons_cons, parL]
    rw [stp_xor, par_xor]
    congr 1
    exact parL_xor x y _ _ (by simpa using h)
theorem s0_xor : xorS s0 s0 = s0 := rfl
theorem fin_xor (x y : List Bool) (h : x.length = y.length) : fin (xorL x y) = xorS (fin x) (fin y) := by
  have := fold_xor x y s0 s0 h
  rwa [s0_xor] at this
theorem par0_xor (x y : List Bool) (h : x.length = y.length) : parL s0 (xorL x y) = xorL (parL s0 x) (parL s0 y) := by
  have := parL_xor x y s0 s0 h
  rwa [s0_xor] at this
theorem xorL_app (a b c d : List Bool) (h : a.length = c.length) : xorL (a ++ b) (c ++ d) = xorL a c ++ xorL b d := List.zipWith_append h
theorem xorL_len (x y : List Bool) (h : x.length = y.length) : (xorL x y).length = x.length := by simp [xorL, h]
theorem xorL_self : ∀ x : List Bool, xorL x x = List.replicate x.length false
  | [] => rfl
  | a :: x => by simp only [xorL, List.zipWith_cons_cons, List.length_cons, List.replicate_succ, bne_self_eq_false]; congr 1; exact xorL_self x
/-- the number of ones -/
def wt (l : List Bool) : Nat := l.count true
def w1 (b : Bool) : Nat := if b then 1 else 0
theorem wt_app (a b : List Bool) : wt (a ++ b) = wt a + wt b := List.count_append
theorem wt_cons (a : Bool) (b : List Bool) : wt (a :: b) = w1 a + wt b := by
  unfold wt w1; rw [List.count_cons]; cases a <;> simp <;> omega
theorem wt_nil : wt [] = 0 := rfl
def tlW (s : St3) : Nat := w1 (tu s 0) + w1 (tu s 1) + w1 (tu s 2) + w1 (tz s 0) + w1 (tz s 1) + w1 (tz s 2)
/-- a lower bound of what is still to come -/
def pot : St3 → Nat
  | (false, false, false) => 0
  | (false, false, true) => 2
  | (false, true, false) => 3
  | (false, true, true) => 3
  | (true, false, false) => 4
  | (true, false, true) => 4
  | (true, true, false) => 3
  | (true, true, true) => 3
theorem pot_tail : ∀ s : St3, pot s ≤ tlW s := by
  rintro ⟨a, b, c⟩; cases a <;> cases b <;> cases c <;> decide
theorem pot_step : ∀ (s : St3) (x : Bool), pot s ≤ w1 x + w1 (par s x) + pot (stp s x) := by
  rintro ⟨a, b, c⟩ x; cases a <;> cases b <;> cases c <;> cases x <;> decide
theorem pot_le (bs : List Bool) : ∀ s, pot s ≤ wt bs + wt (parL s bs) + tlW (bs.foldl stp s) := by
  induction bs with
  | nil => intro s; simpa [wt, parL] using pot_tail s
  | cons x bs ih =>
    intro s
    have h1 := pot_step s x
    have h2 := ih (stp s x)
    simp only [parL, List.foldl_cons, wt_cons]
    omega
theorem free6 (bs : List Bool) (h : true ∈ bs) : 6 ≤ wt bs + wt (parL s0 bs) + tlW (fin bs) := by
  unfold fin
  induction bs with
  | nil => cases h
  | cons x bs ih =>
    simp only [parL, List.foldl_cons, wt_cons]
    cases x with
    | true =>
      have h1 := pot_le bs (stp s0 true)
      have h2 : pot (stp s0 true) = 4 := rfl
      have h3 : w1 true + w1 (par s0 true) = 2 := rfl
      omega
    | false =>
      have h1 : stp s0 false = s0 := rfl
      have h2 : true ∈ bs := by simpa using h
      have h3 := ih h2
      rw [h1]
      omega
/-- The word of a turbo code over bits. -/
def wordB (x m : List Bool) : List Bool :=
  x ++ [tu (fin x) 0, tz (fin x) 1, tu (fin m) 0, tz (fin m) 1] ++ (parL s0 x ++ [tz (fin x) 0, tu (fin x) 2, tz (fin m) 0, tu (fin m) 2]) ++ (parL s0 m ++ [tu (fin x) 1, tz (fin x) 2, tu (fin m) 1, tz (fin m) 2])
theorem wordB_len (x m : List Bool) (h : m.length = x.length) : (wordB x m).length = 3 * (x.length + 4) := by
  simp only [wordB, List.length_append, parL_len, List.length_cons, List.length_nil, h]; omega
theorem wordB_xor (x y m l : List Bool) (h : x.length = y.length) (h' : m.length = l.length) : wordB (xorL x y) (xorL m l) = xorL (wordB x m) (wordB y l) := by
  unfold wordB
  rw [xorL_app _ _ _ _ (by simp [parL_len, h]), xorL_app _ _ _ _ (by simp [h]), xorL_app _ _ _ _ h, xorL_app _ _ _ _ (by simp [parL_len, h]), xorL_app _ _ _ _ (by simp [parL_len, h'])]
  rw [fin_xor x y h, fin_xor m l h', par0_xor x y h, par0_xor m l h']
  simp only [tu_xor, tz_xor]
  rfl
theorem wordB_wt (x m : List Bool) (h : true ∈ x) : 6 ≤ wt (wordB x m) := by
  have := free6 x h
  unfold tlW at this
  simp only [wordB, wt_app, wt_cons, wt_nil]
  omega
/-- distance -/
def dst (x y : List Bool) : Nat := wt (xorL x y)
theorem xorL_true : ∀ x y : List Bool, x.length = y.length → x ≠ y → true ∈ xorL x y
  | [], [], _, h => absurd rfl h
  | [], _ :: _, h, _ => by cases h
  | _ :: _, [], h, _ => by cases h
  | a :: x, b :: y, hl, h => by
    simp only [xorL, List.zipWith_cons_cons, List.mem_cons]
    by_cases hab : a = b
    · subst hab
      exact .inr (xorL_true x y (by simpa using hl) (by intro e; exact h (by rw [e])))
    · left; cases a <;> cases b <;> simp_all
theorem word_dst (x y m l : List Bool) (h : x.length = y.length) (h' : m.length = l.length) (hne : x ≠ y) : 6 ≤ dst (wordB x m) (wordB y l) := by
  unfold dst
  rw [← wordB_xor x y m l h h']
  exact wordB_wt _ _ (xorL_true x y h hne)
end Go.Proofs.Ytmdjclfmhndjnaa
