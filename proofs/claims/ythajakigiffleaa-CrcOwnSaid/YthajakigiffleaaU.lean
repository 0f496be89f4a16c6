/-
  Plain facts for CrcOwn: rows in blocks of their own are written one element at a time, and the rows beside them stay as they are.
-/
import Derived.Test.YthajakigiffleaaQ
namespace Go.Proofs.Ythajakigiffleaa
open Go.RowKit CM
set_option linter.unusedVariables false
theorem Ownv.blk_of {e : TypeId} {w : World} {base : Nat} {A : Option Addr} {n c : Nat} {vs : List Value} (h : Ownv e w base A n c vs) (hA : A ≠ none) : base ≤ blk A ∧ blk A < w.heap.size := by
  obtain ⟨hl, h2⟩ := h.cases
  rcases h2 with ⟨rfl, rfl, rfl⟩ | ⟨g, cur, rfl, hb, hh, hnc, hcm, hs, ht⟩
  · exact absurd rfl hA
  · exact ⟨hb, (Array.getElem?_eq_some_iff.1 hh).1⟩
/-- Three rows of their own, a kept copy, and the literal that lists the three. -/
structure OwnSt (w2 : World) (s t u : Sv) (K : Option Addr) (kn kc : Nat) (ks : List Int) (N : Nat) (wr : World) : Prop where
  b : Below w2.heap.size w2 wr
  k : Rd .u8 wr K kn kc ks
  l : Rdv wr (some ⟨N, 0, none⟩) 3 3 [s.v, t.v, u.v]
  s : ∃ vs, Own .u8 5 wr w2.heap.size s.A s.n s.c vs
  t : ∃ vs, Own .u8 5 wr w2.heap.size t.A t.n t.c vs
  u : ∃ vs, Own .u8 5 wr w2.heap.size u.A u.n u.c vs
/-- Where the blocks lie. -/
structure Sep (s t u : Sv) (K : Option Addr) (N : Nat) : Prop where
  st : s.A ≠ none → t.A ≠ none → blk s.A ≠ blk t.A
  su : s.A ≠ none → u.A ≠ none → blk s.A ≠ blk u.A
  tu : t.A ≠ none → u.A ≠ none → blk t.A ≠ blk u.A
  sk : s.A ≠ none → K ≠ none → blk s.A ≠ blk K
  tk : t.A ≠ none → K ≠ none → blk t.A ≠ blk K
  uk : u.A ≠ none → K ≠ none → blk u.A ≠ blk K
  sn : s.A ≠ none → blk s.A ≠ N
  tn : t.A ≠ none → blk t.A ≠ N
  un : u.A ≠ none → blk u.A ≠ N
theorem own_some {w : World} {base : Nat} {A : Option Addr} {n c : Nat} {vs : List Int} (h : Own .u8 5 w base A n c vs) {q : Nat} (hq : q < n) : A ≠ none := by
  intro hA
  subst hA
  obtain ⟨hl, h2⟩ := Ownv.cases h
  rcases h2 with ⟨_, rfl, _⟩ | ⟨g, cur, h3, _⟩
  · omega
  · cases h3
theorem ne_row {A B : Option Addr} (h : A ≠ none → blk A ≠ blk B) : A ≠ none → some (blk A) ≠ some (blk B) := fun hA he => h hA (Option.some.inj he)
theorem own_grown {w w' : World} {base : Nat} {A B : Option Addr} {n c : Nat} (h : ∃ vs, Own .u8 5 w base A n c vs) (hg : w.grownBy w' (some (blk B))) (hne : A ≠ none → blk A ≠ blk B) : ∃ vs, Own .u8 5 w' base A n c vs := by
  obtain ⟨vs, h⟩ := h
  exact ⟨vs, Ownv.grown h hg (ne_row hne)⟩
variable {w2 wr : World} {s t u : Sv} {K : Option Addr} {kn kc N : Nat} {ks : List Int}
theorem below_set {x : Sv} {vs : List Int} {q : Nat} (hb : Below w2.heap.size w2 wr) (h : Own .u8 5 wr w2.heap.size x.A x.n x.c vs) (hq : q < x.n) (v : Int) : Below w2.heap.size w2 (wr.setCell (adr x.A q) (.int .u8 v)) :=
  hb.grown (Own.set_ h hq v).2 hb.size (fun k hk => by injection hk with hk; rw [← hk]; exact (Ownv.blk_of h (own_some h hq)).1)
theorem OwnSt.set_s (h : OwnSt w2 s t u K kn kc ks N wr) (hp : Sep s t u K N) {q : Nat} (hq : q < s.n) (v : Int) : OwnSt w2 s t u K kn kc ks N (wr.setCell (adr s.A q) (.int .u8 v)) := by
  obtain ⟨vs, hs⟩ := h.s
  have hA := own_some hs hq
  have hg := (Own.set_ hs hq v).2
  exact ⟨below_set h.b hs hq v, Rdv.grown h.k hg (ne_row fun hk => (hp.sk hA hk).symm), Rdv.grown h.l hg (fun _ he => hp.sn hA (Option.some.inj he).symm), ⟨_, (Own.set_ hs hq v).1⟩, own_grown h.t hg (fun ht => (hp.st hA ht).symm), own_grown h.u hg (fun hu => (hp.su hA hu).symm)⟩
theorem OwnSt.set_t (h : OwnSt w2 s t u K kn kc ks N wr) (hp : Sep s t u K N) {q : Nat} (hq : q < t.n) (v : Int) : OwnSt w2 s t u K kn kc ks N (wr.setCell (adr t.A q) (.int .u8 v)) := by
  obtain ⟨vs, hs⟩ := h.t
  have hA := own_some hs hq
  have hg := (Own.set_ hs hq v).2
  exact ⟨below_set h.b hs hq v, Rdv.grown h.k hg (ne_row fun hk => (hp.tk hA hk).symm), Rdv.grown h.l hg (fun _ he => hp.tn hA (Option.some.inj he).symm), own_grown h.s hg (fun ht => hp.st ht hA), ⟨_, (Own.set_ hs hq v).1⟩, own_grown h.u hg (fun hu => (hp.tu hA hu).symm)⟩
theorem OwnSt.set_u (h : OwnSt w2 s t u K kn kc ks N wr) (hp : Sep s t u K N) {q : Nat} (hq : q < u.n) (v : Int) : OwnSt w2 s t u K kn kc ks N (wr.setCell (adr u.A q) (.int .u8 v)) := by
  obtain ⟨vs, hs⟩ := h.u
  have hA := own_some hs hq
  have hg := (Own.set_ hs hq v).2
  exact ⟨below_set h.b hs hq v, Rdv.grown h.k hg (ne_row fun hk => (hp.uk hA hk).symm), Rdv.grown h.l hg (fun _ he => hp.un hA (Option.some.inj he).symm), own_grown h.s hg (fun ht => hp.su ht hA), own_grown h.t hg (fun hu => hp.tu hu hA), ⟨_, (Own.set_ hs hq v).1⟩⟩
/-- One of the three, by its place. -/
theorem OwnSt.pick (h : OwnSt w2 s t u K kn kc ks N wr) (j : Nat) (hj : j < 3) : ∃ x : Sv, wr.cell? (adr (some ⟨N, 0, none⟩) j) = some (.slice x.A x.n x.c) ∧ (∀ W, OwnSt w2 s t u K kn kc ks N W → ∃ vs, Own .u8 5 W w2.heap.size x.A x.n x.c vs) ∧ (Sep s t u K N → ∀ W q v, OwnSt w2 s t u K kn kc ks N W → q < x.n → OwnSt w2 s t u K kn kc ks N (W.setCell (adr x.A q) (.int .u8 v))) := by
  rcases (by omega : j = 0 ∨ j = 1 ∨ j = 2) with rfl | rfl | rfl
  · exact ⟨s, h.l.at_ 0 _ rfl, fun W hW => hW.s, fun hp W q v hW hq => hW.set_s hp hq v⟩
  · exact ⟨t, h.l.at_ 1 _ rfl, fun W hW => hW.t, fun hp W q v hW hq => hW.set_t hp hq v⟩
  · exact ⟨u, h.l.at_ 2 _ rfl, fun W hW => hW.u, fun hp W q v hW hq => hW.set_u hp hq v⟩
def RowsInv (w2 : World) (s t u : Sv) (K : Option Addr) (kn kc : Nat) (ks : List Int) (N : Nat) (i : Value) (wr : World) : Prop := ∃ j : Nat, j ≤ 3 ∧ i = .int .i64 j ∧ OwnSt w2 s t u K kn kc ks N wr
def InnInv (w2 : World) (s t u : Sv) (K : Option Addr) (kn kc : Nat) (ks : List Int) (N n : Nat) (i : Value) (wr : World) : Prop := ∃ j : Nat, j ≤ n ∧ i = .int .i64 j ∧ OwnSt w2 s t u K kn kc ks N wr
def EndInv (w1 : World) (A : Option Addr) (n c : Nat) (i : Value) (wr : World) : Prop := ∃ j : Nat, j ≤ n ∧ i = .int .i64 j ∧ (∃ vs, Own .u8 5 wr w1.heap.size A n c vs) ∧ Below w1.heap.size w1 wr
theorem aRes_len (k : Int) (xs : List Int) : (aRes k xs).length ≤ xs.length + 24 := by
  have := sLen_cases k
  unfold aRes
  split
  · simp
  · split
    · rw [List.length_append, crcSum_len]; omega
    · simp
theorem hid_row {w : World} {b : Nat} {A : Option Addr} {n c : Nat} {vs : List Int} (h : Own .u8 5 w b A n c vs) : ∃ vs, Own .u8 5 w b A n c vs := ⟨vs, h⟩
end Go.Proofs.Ythajakigiffleaa
