/-
  The sweeps of an observation in plain Lean: branches, one step of the metrics, totals; bounds on what they compute. Condition: none.
-/
import Derived.Test.YtmdjclfmhndjnaaZb
namespace Go.Proofs.Ytmdjclfmhndjnaa
open Go.RowKit
set_option linter.unusedVariables false
structure Br where
  fr : Nat
  bt : Nat
  pr : Nat
  tt : Nat
deriving DecidableEq
def UU : Int := -1125899906842624
theorem UU_eq : UU = -1125899906842624 := rfl
def brT : List Br := [⟨0, 0, 0, 0⟩, ⟨0, 1, 1, 4⟩, ⟨1, 0, 0, 4⟩, ⟨1, 1, 1, 0⟩, ⟨2, 0, 1, 5⟩, ⟨2, 1, 0, 1⟩, ⟨3, 0, 1, 1⟩, ⟨3, 1, 0, 5⟩, ⟨4, 0, 1, 2⟩, ⟨4, 1, 0, 6⟩, ⟨5, 0, 1, 6⟩, ⟨5, 1, 0, 2⟩, ⟨6, 0, 0, 7⟩, ⟨6, 1, 1, 3⟩, ⟨7, 0, 0, 3⟩, ⟨7, 1, 1, 7⟩]
/-- an observation -/
structure Ob where
  s : List Int
  p : List Int
  a : List Int
def Ob.k (o : Ob) : Nat := o.a.length
def Ob.ok (o : Ob) : Prop := 1 ≤ o.a.length ∧ o.a.length ≤ 6144 ∧ o.s.length = o.a.length + 3 ∧ o.p.length = o.a.length + 3 ∧ (∀ v ∈ o.s, -127 ≤ v ∧ v ≤ 127) ∧ (∀ v ∈ o.p, -127 ≤ v ∧ v ≤ 127) ∧ (∀ v ∈ o.a, -127 ≤ v ∧ v ≤ 127)
def Ob.x (o : Ob) (i : Nat) : Int := if i < o.k then gi o.s i + gi o.a i else gi o.s i
def Ob.term (o : Ob) (i : Nat) (b : Br) : Int := o.x i * (1 - 2 * (b.bt : Int)) + gi o.p i * (1 - 2 * (b.pr : Int))
def tailBit (s : Nat) : Nat := (s / 2 + s) % 2
def Ob.allow (o : Ob) (i : Nat) (b : Br) : Bool := decide (i < o.k) || decide (b.bt = tailBit b.fr)
/-- one branch of a step forward -/
def Ob.fB (o : Ob) (i : Nat) (m nx : List Int) (b : Br) : List Int := if o.allow i b = true ∧ UU < gi m b.fr then nx.set b.tt (max (gi nx b.tt) (gi m b.fr + o.term i b)) else nx
def Ob.bB (o : Ob) (i : Nat) (m nx : List Int) (b : Br) : List Int := if o.allow i b = true ∧ UU < gi m b.tt then nx.set b.fr (max (gi nx b.fr) (gi m b.tt + o.term i b)) else nx
def noneL : List Int := List.replicate 8 UU
def none0 : List Int := 0 :: List.replicate 7 UU
def Ob.fwd (o : Ob) (i : Nat) (m : List Int) : List Int := brT.foldl (o.fB i m) noneL
def Ob.bwd (o : Ob) (i : Nat) (m : List Int) : List Int := brT.foldl (o.bB i m) noneL
/-- the metrics ahead of step i -/
def Ob.f (o : Ob) : Nat → List Int
  | 0 => none0
  | i + 1 => o.fwd i (o.f i)
/-- the metrics behind the last d steps have been gone back -/
def Ob.bd (o : Ob) : Nat → List Int
  | 0 => none0
  | d + 1 => o.bwd (o.s.length - 1 - d) (o.bd d)
def Ob.b (o : Ob) (i : Nat) : List Int := o.bd (o.s.length - i)
/-- the greatest value of a bit -/
def Ob.vB (o : Ob) (i bit : Nat) (f b : List Int) (best : Int) (x : Br) : Int := if x.bt = bit ∧ UU < gi f x.fr ∧ UU < gi b x.tt then max best (gi f x.fr + o.term i x + gi b x.tt) else best
def Ob.val (o : Ob) (i bit : Nat) (f b : List Int) : Int := brT.foldl (o.vB i bit f b) UU
def Ob.tot (o : Ob) (i : Nat) : Int := (o.val i 0 (o.f i) (o.b (i + 1)) - o.val i 1 (o.f i) (o.b (i + 1))).tdiv 2
def ext (v : Int) : Int := min (max ((3 * v).tdiv 4) (-127)) 127
/-- what a list of metrics is: eight values, each unreachable or small -/
structure Met (B : Int) (m : List Int) : Prop where
  len : m.length = 8
  bd : ∀ j, j < 8 → gi m j = UU ∨ (-B ≤ gi m j ∧ gi m j ≤ B)
theorem br_bd : ∀ b ∈ brT, b.fr < 8 ∧ b.bt < 2 ∧ b.pr < 2 ∧ b.tt < 8 := by decide
theorem mul_sgn (x : Int) (t : Nat) (ht : t < 2) : x * (1 - 2 * (t : Int)) = x ∨ x * (1 - 2 * (t : Int)) = -x := by
  rcases (by omega : t = 0 ∨ t = 1) with rfl | rfl
  · left; simp
  · right; simp
theorem Ob.x_bd {o : Ob} (h : o.ok) (i : Nat) (hi : i < o.s.length) : -254 ≤ o.x i ∧ o.x i ≤ 254 := by
  obtain ⟨h1, h2, h3, h4, h5, h6, h7⟩ := h
  unfold Ob.x
  have := h5 _ (gi_mem o.s i hi)
  split
  · rename_i hk
    have := h7 _ (gi_mem o.a i hk)
    omega
  · omega
theorem Ob.p_bd {o : Ob} (h : o.ok) (i : Nat) (hi : i < o.s.length) : -127 ≤ gi o.p i ∧ gi o.p i ≤ 127 := by
  obtain ⟨h1, h2, h3, h4, h5, h6, h7⟩ := h
  exact h6 _ (gi_mem o.p i (by omega))
theorem Ob.term_bd {o : Ob} (h : o.ok) (i : Nat) (hi : i < o.s.length) (b : Br) (hb : b ∈ brT) : -381 ≤ o.term i b ∧ o.term i b ≤ 381 := by
  have h1 := o.x_bd h i hi
  have h2 := o.p_bd h i hi
  obtain ⟨-, b1, b2, -⟩ := br_bd b hb
  unfold Ob.term
  rcases mul_sgn (o.x i) b.bt b1 with e1 | e1 <;> rcases mul_sgn (gi o.p i) b.pr b2 with e2 | e2 <;> rw [e1, e2] <;> omega
theorem gi_noneL (j : Nat) (hj : j < 8) : gi noneL j = UU := by
  rw [gi_eq _ _ (by simpa [noneL] using hj)]
  exact List.getElem_replicate ..
theorem noneL_met (B : Int) : Met B noneL := ⟨List.length_replicate .., fun j hj => .inl (gi_noneL j hj)⟩
theorem gi_none0 (j : Nat) (hj : j < 8) : gi none0 j = if j = 0 then 0 else UU := by
  rcases (by omega : j = 0 ∨ j = 1 ∨ j = 2 ∨ j = 3 ∨ j = 4 ∨ j = 5 ∨ j = 6 ∨ j = 7) with rfl | rfl | rfl | rfl | rfl | rfl | rfl | rfl <;> rfl
theorem none0_met (B : Int) (hB : 0 ≤ B) : Met B none0 := ⟨rfl, fun j hj => by
  rw [gi_none0 j hj]
  split
  · exact .inr (by omega)
  · exact .inl rfl⟩
theorem gi_set' (xs : List Int) (k : Nat) (v : Int) (j : Nat) (h : j < xs.length) : gi (xs.set k v) j = if k = j then v else gi xs j := by
  rw [gi_eq _ _ (by rw [List.length_set]; exact h), List.getElem_set, gi_eq _ _ h]
theorem met_set {B : Int} {m : List Int} (h : Met B m) (j : Nat) (v : Int) (hv : -B ≤ v ∧ v ≤ B) : Met B (m.set j v) := ⟨by rw [List.length_set]; exact h.len, fun q hq => by
  rw [gi_set' _ _ _ _ (by rw [h.len]; exact hq)]
  split
  · exact .inr hv
  · exact h.bd q hq⟩
theorem max_bd {a b B : Int} (ha : a = UU ∨ (-B ≤ a ∧ a ≤ B)) (hb : -B ≤ b ∧ b ≤ B) (hB : B ≤ 100000000) : -B ≤ max a b ∧ max a b ≤ B := by
  rw [UU_eq] at ha
  omega
theorem fold_met {o : Ob} (h : o.ok) (i : Nat) (hi : i < o.s.length) {B : Int} (hB : B ≤ 50000000) {m : List Int} (hm : Met B m) (g : Ob → Nat → List Int → List Int → Br → List Int)
    (hg : ∀ (nx : List Int) (b : Br), b ∈ brT → Met (B + 381) nx → Met (B + 381) (g o i m nx b)) : ∀ (l : List Br) (nx : List Int), (∀ b ∈ l, b ∈ brT) → Met (B + 381) nx → Met (B + 381) (l.foldl (g o i m) nx)
  | [], nx, _, hn => hn
  | b :: l, nx, hl, hn => fold_met h i hi hB hm g hg l _ (fun c hc => hl c (List.mem_cons_of_mem _ hc)) (hg nx b (hl b List.mem_cons_self) hn)
theorem fB_met {o : Ob} (h : o.ok) (i : Nat) (hi : i < o.s.length) {B : Int} (hB : B ≤ 50000000) (h0 : 0 ≤ B) {m : List Int} (hm : Met B m) (nx : List Int) (b : Br) (hb : b ∈ brT) (hn : Met (B + 381) nx) : Met (B + 381) (o.fB i m nx b) := by
  unfold Ob.fB
  split
  · rename_i hc
    obtain ⟨b1, -, -, b4⟩ := br_bd b hb
    have ht := o.term_bd h i hi b hb
    have h1 := hm.bd _ b1
    have h2 := hn.bd _ b4
    have hc2 := hc.2
    refine met_set hn _ _ (max_bd h2 ?_ (by omega))
    rcases h1 with h1 | h1
    · omega
    · omega
  · exact hn
theorem bB_met {o : Ob} (h : o.ok) (i : Nat) (hi : i < o.s.length) {B : Int} (hB : B ≤ 50000000) (h0 : 0 ≤ B) {m : List Int} (hm : Met B m) (nx : List Int) (b : Br) (hb : b ∈ brT) (hn : Met (B + 381) nx) : Met (B + 381) (o.bB i m nx b) := by
  unfold Ob.bB
  split
  · rename_i hc
    obtain ⟨b1, -, -, b4⟩ := br_bd b hb
    have ht := o.term_bd h i hi b hb
    have h1 := hm.bd _ b4
    have h2 := hn.bd _ b1
    have hc2 := hc.2
    refine met_set hn _ _ (max_bd h2 ?_ (by omega))
    rcases h1 with h1 | h1
    · omega
    · omega
  · exact hn
theorem fwd_met {o : Ob} (h : o.ok) (i : Nat) (hi : i < o.s.length) {B : Int} (hB : B ≤ 50000000) (h0 : 0 ≤ B) {m : List Int} (hm : Met B m) (l : List Br) (hl : ∀ b ∈ l, b ∈ brT) : Met (B + 381) (l.foldl (o.fB i m) noneL) :=
  fold_met h i hi hB hm (fun o i m nx b => o.fB i m nx b) (fun nx b hb hn => fB_met h i hi hB h0 hm nx b hb hn) l noneL hl (noneL_met _)
theorem bwd_met {o : Ob} (h : o.ok) (i : Nat) (hi : i < o.s.length) {B : Int} (hB : B ≤ 50000000) (h0 : 0 ≤ B) {m : List Int} (hm : Met B m) (l : List Br) (hl : ∀ b ∈ l, b ∈ brT) : Met (B + 381) (l.foldl (o.bB i m) noneL) :=
  fold_met h i hi hB hm (fun o i m nx b => o.bB i m nx b) (fun nx b hb hn => bB_met h i hi hB h0 hm nx b hb hn) l noneL hl (noneL_met _)
theorem Met.mono {B C : Int} {m : List Int} (h : Met B m) (hC : B ≤ C) : Met C m := ⟨h.len, fun j hj => (h.bd j hj).imp id (fun h => by omega)⟩
theorem f_met {o : Ob} (h : o.ok) : ∀ i, i ≤ o.s.length → Met (381 * (i : Int)) (o.f i)
  | 0, _ => none0_met _ (by simp)
  | i + 1, hi => by
    have h1 := f_met h i (by omega)
    have h3 := h.2.1
    have h4 := h.2.2.1
    have := fwd_met h i (by omega) (B := 381 * (i : Int)) (by omega) (by omega) h1 brT (fun _ hb => hb)
    refine Met.mono this ?_
    push_cast
    omega
theorem bd_met {o : Ob} (h : o.ok) : ∀ d, d ≤ o.s.length → Met (381 * (d : Int)) (o.bd d)
  | 0, _ => none0_met _ (by simp)
  | d + 1, hd => by
    have h1 := bd_met h d (by omega)
    have h3 := h.2.1
    have h4 := h.2.2.1
    have := bwd_met h (o.s.length - 1 - d) (by omega) (B := 381 * (d : Int)) (by omega) (by omega) h1 brT (fun _ hb => hb)
    refine Met.mono this ?_
    push_cast
    omega
/-- eight values, written out -/
theorem Met.eight {B : Int} {m : List Int} (h : Met B m) : ∃ a b c d e f g i, m = [a, b, c, d, e, f, g, i] := by
  have hl := h.len
  match m, hl with
  | [a, b, c, d, e, f, g, i], _ => exact ⟨a, b, c, d, e, f, g, i, rfl⟩
end Go.Proofs.Ytmdjclfmhndjnaa
