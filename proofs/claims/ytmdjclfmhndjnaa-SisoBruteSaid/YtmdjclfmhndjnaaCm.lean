/-
  Contracts of few and equal; the two decoders' answers are the same in plain Lean. Condition: lists that lie in memory.
-/
import Derived.Test.YtmdjclfmhndjnaaCl
namespace Go.Proofs.Ytmdjclfmhndjnaa
open Go.RowKit
set_option linter.unusedVariables false
/-- a decision: where its three rows lie, what they read as -/
structure Dc where
  A1 : Option Addr
  n1 : Nat
  c1 : Nat
  t : List Int
  A2 : Option Addr
  n2 : Nat
  c2 : Nat
  e : List Int
  A3 : Option Addr
  n3 : Nat
  c3 : Nat
  b : List Int
def Dc.val (d : Dc) : Value := .agg #[.slice d.A1 d.n1 d.c1, .slice d.A2 d.n2 d.c2, .slice d.A3 d.n3 d.c3]
structure DcAt (W : World) (d : Dc) : Prop where
  t : Rd .i64 W d.A1 d.n1 d.c1 d.t
  e : Rd .i64 W d.A2 d.n2 d.c2 d.e
  b : Rd .u8 W d.A3 d.n3 d.c3 d.b
  u : ∀ x ∈ d.b, 0 ≤ x ∧ x < 256
theorem DcAt.below {W W' : World} {d : Dc} (h : DcAt W d) (hB : Below W.heap.size W W') : DcAt W' d := ⟨Rdv.below h.t hB, Rdv.below h.e hB, Rdv.below h.b hB, h.u⟩
theorem DcAt.alloc {W : World} {d : Dc} (h : DcAt W d) (o : Obj) : DcAt (W.alloc o) d := ⟨Rdv.alloc h.t o, Rdv.alloc h.e o, Rdv.alloc h.b o, h.u⟩
def EqP (p : Bool) (w : World) (e : Ending) (w' : World) : Prop := e = .returned (.bool p) ∧ Below w.heap.size w w'
set_option maxRecDepth 100000 in
theorem equal_any (d d' : Dc) (w : World) (h : DcAt w d) (h' : DcAt w d') : Calls Try.prog 14 #[d.val, d'.val] w (EqP (decide (d.t = d'.t) && (decide (d.e = d'.e) && decide (d.b = d'.b))) w) := by
  have H := Lib.hid ((h.alloc (.cells #[.slice d.A1 d.n1 d.c1, .slice d.A2 d.n2 d.c2, .slice d.A3 d.n3 d.c3] 28)).alloc (.cells #[.slice d'.A1 d'.n1 d'.c1, .slice d'.A2 d'.n2 d'.c2, .slice d'.A3 d'.n3 d'.c3] 28))
  have H' := Lib.hid ((h'.alloc (.cells #[.slice d.A1 d.n1 d.c1, .slice d.A2 d.n2 d.c2, .slice d.A3 d.n3 d.c3] 28)).alloc (.cells #[.slice d'.A1 d'.n1 d'.c1, .slice d'.A2 d'.n2 d'.c2, .slice d'.A3 d'.n3 d'.c3] 28))
  have HT := Lib.hid (fun W (g : DcAt W d) (g' : DcAt W d') => ints_any _ _ _ _ _ _ _ _ W g.t g'.t)
  have HE := Lib.hid (fun W (g : DcAt W d) (g' : DcAt W d') => ints_any _ _ _ _ _ _ _ _ W g.e g'.e)
  have HBB := Lib.hid (fun W (g : DcAt W d) (g' : DcAt W d') => same_any _ _ _ _ _ _ _ _ W g.b g'.b g.u g'.u)
  clear h h'
  unfold Dc.val
  generalize decide (d.t = d'.t) = p1 at *
  generalize decide (d.e = d'.e) = p2 at *
  generalize decide (d.b = d'.b) = p3 at *
  cases p1 with
  | false =>
    go_enter Try.func14, Try.ntmps14
    go_wp2_with fail
    refine (HT.out _ H.out H'.out).mono ?_
    rintro e w1 ⟨rfl, q1, rfl⟩
    go_wp2
    go_ret
    exact ⟨rfl, (((Below.refl _ w).alloc (Nat.le_refl _) _).alloc (by simp) _).trans (Qt.below ⟨q1, rfl⟩ _)⟩
  | true =>
    cases p2 with
    | false =>
      go_enter Try.func14, Try.ntmps14
      go_wp2_with fail
      refine (HT.out _ H.out H'.out).mono ?_
      rintro e w1 ⟨rfl, q1, rfl⟩
      go_wp2_with fail
      refine (HE.out _ (H.out.below (Qt.below ⟨q1, rfl⟩ _)) (H'.out.below (Qt.below ⟨q1, rfl⟩ _))).mono ?_
      rintro e w1 ⟨rfl, q2, rfl⟩
      go_wp2
      go_ret
      exact ⟨rfl, (((Below.refl _ w).alloc (Nat.le_refl _) _).alloc (by simp) _).trans (Qt.below ⟨q1 + q2, rfl⟩ _)⟩
    | true =>
      go_enter Try.func14, Try.ntmps14
      go_wp2_with fail
      refine (HT.out _ H.out H'.out).mono ?_
      rintro e w1 ⟨rfl, q1, rfl⟩
      go_wp2_with fail
      refine (HE.out _ (H.out.below (Qt.below ⟨q1, rfl⟩ _)) (H'.out.below (Qt.below ⟨q1, rfl⟩ _))).mono ?_
      rintro e w1 ⟨rfl, q2, rfl⟩
      go_wp2_with fail
      refine (HBB.out _ (H.out.below (Qt.below ⟨q1 + q2, rfl⟩ _)) (H'.out.below (Qt.below ⟨q1 + q2, rfl⟩ _))).mono ?_
      rintro e w1 ⟨rfl, rfl⟩
      go_wp2
      go_ret
      exact ⟨rfl, (((Below.refl _ w).alloc (Nat.le_refl _) _).alloc (by simp) _).trans (Qt.below ⟨q1 + q2, rfl⟩ _)⟩
theorem few_any (m : Int) (S P A : Option Addr) (n c p d k e : Nat) (w : World) (h1 : n ≤ 9223372036854775807) (h2 : p ≤ 9223372036854775807) (h3 : k ≤ 9223372036854775807) :
    Calls Try.prog 9 #[.int .i64 m, .slice S n c, .slice P p d, .slice A k e] w (fun e w' => e = .returned (.bool (decide ((n : Int) ≤ m ∧ (p : Int) ≤ m ∧ (k : Int) ≤ m))) ∧ w = w') := by
  by_cases a1 : (n : Int) ≤ m
  · by_cases a2 : (p : Int) ≤ m
    · by_cases a3 : (k : Int) ≤ m
      · rw [decide_eq_true ⟨a1, a2, a3⟩]
        go_enter Try.func9, Try.ntmps9
        go_wp2
        go_ret
        exact ⟨rfl, rfl⟩
      · rw [decide_eq_false (fun h => a3 h.2.2)]
        go_enter Try.func9, Try.ntmps9
        go_wp2
        go_ret
        exact ⟨rfl, rfl⟩
    · rw [decide_eq_false (fun h => a2 h.2.1)]
      go_enter Try.func9, Try.ntmps9
      go_wp2
      go_ret
      exact ⟨rfl, rfl⟩
  · rw [decide_eq_false (fun h => a1 h.1)]
    go_enter Try.func9, Try.ntmps9
    go_wp2
    go_ret
    exact ⟨rfl, rfl⟩
/-! ### the two decoders in plain Lean -/
theorem gN_val (o : Ob) (i bit : Nat) (f g : List Int) (hf : ∀ b ∈ brT, UU ≤ gi f b.fr) (hg : ∀ b ∈ brT, UU ≤ gi g b.tt) : gN o i bit f g 16 = o.val i bit f g := by
  have key : ∀ (l : List Br), (∀ b ∈ l, b ∈ brT) → ∀ best, UU ≤ best → l.foldl (fun best x => max best (o.vX i bit f g x)) best = l.foldl (o.vB i bit f g) best ∧ True := by
    intro l
    induction l with
    | nil => intro _ best _; exact ⟨rfl, trivial⟩
    | cons b l ih =>
      intro hl best hb
      have hb1 := hf b (hl b (by simp))
      have hb2 := hg b (hl b (by simp))
      have e : max best (o.vX i bit f g b) = o.vB i bit f g best b := by
        unfold Ob.vX Ob.vB
        by_cases h1 : b.bt = bit ∧ gi f b.fr ≠ UU ∧ gi g b.tt ≠ UU
        · rw [if_pos h1, if_pos ⟨h1.1, by omega, by omega⟩]
        · rw [if_neg h1, if_neg (fun h => h1 ⟨h.1, by omega, by omega⟩)]; omega
      simp only [List.foldl_cons]
      rw [e]
      refine ih (fun c hc => hl c (by simp [hc])) _ ?_
      rw [← e]; omega
  have e16 : brT.take 16 = brT := rfl
  unfold gN Ob.val
  rw [e16]
  exact (key brT (fun _ h => h) UU (Int.le_refl _)).1
theorem met_ge {B : Int} {m : List Int} (h : Met B m) (hB : B ≤ 1125899906842624) (j : Nat) (hj : j < 8) : UU ≤ gi m j := by
  have := h.bd j hj
  rw [UU_eq] at *
  omega
theorem tN_tot {o : Ob} (h : o.ok) (i : Nat) (hi : i < o.s.length) : o.tN i = o.tot i := by
  have hl := h.2.1
  have hl2 := h.2.2.1
  have hf := f_met h i (by omega)
  have hb := bd_met h (o.s.length - (i + 1)) (by omega)
  unfold Ob.tN Ob.tot
  have q : ∀ bit, gN o i bit (o.f i) (o.b (i + 1)) 16 = o.val i bit (o.f i) (o.b (i + 1)) := fun bit =>
    gN_val o i bit _ _ (fun b hb' => met_ge hf (by omega) _ (br_bd b hb').1) (fun b hb' => met_ge hb (by omega) _ (br_bd b hb').2.2.2)
  rw [q, q]
theorem rows_same {o : Ob} (h : o.ok) : (List.range o.a.length).map o.tN = (List.range o.a.length).map o.tot ∧ (List.range o.a.length).map o.eN = (List.range o.a.length).map o.eT ∧ (List.range o.a.length).map o.bN = (List.range o.a.length).map o.bT := by
  have hl2 := h.2.2.1
  have hlt : ∀ i, i ∈ List.range o.a.length → i < o.s.length := fun i hi => by
    have : i < o.a.length := by simpa using hi
    omega
  refine ⟨List.map_congr_left fun i hi => tN_tot h i (hlt i hi), List.map_congr_left fun i hi => ?_, List.map_congr_left fun i hi => ?_⟩
  · unfold Ob.eN Ob.eT; rw [tN_tot h i (hlt i hi)]
  · unfold Ob.bN Ob.bT; rw [tN_tot h i (hlt i hi)]
end Go.Proofs.Ytmdjclfmhndjnaa
