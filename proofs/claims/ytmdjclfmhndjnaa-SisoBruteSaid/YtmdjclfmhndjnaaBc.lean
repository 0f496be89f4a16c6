/-
  Contracts of the observation's methods steps, term and allows. Condition: an observation that lies in memory.
-/
import Derived.Test.YtmdjclfmhndjnaaBb
import Derived.IntWalk
namespace Go.Proofs.Ytmdjclfmhndjnaa
open Go.RowKit
set_option linter.unusedVariables false
/-- an observation lies behind a pointer -/
structure ObsAt (W : World) (bo : Nat) (o : Ob) (S P A : Option Addr) (cs cp ca : Nat) : Prop where
  blk : Blk W bo 89 [.slice S o.s.length cs, .slice P o.p.length cp, .slice A o.a.length ca]
  s : Rd .i64 W S o.s.length cs o.s
  p : Rd .i64 W P o.p.length cp o.p
  a : Rd .i64 W A o.a.length ca o.a
section
variable {W W' : World} {bo : Nat} {o : Ob} {S P A : Option Addr} {cs cp ca : Nat}
theorem ObsAt.below (h : ObsAt W bo o S P A cs cp ca) (hB : Below W.heap.size W W') : ObsAt W' bo o S P A cs cp ca := ⟨h.blk.below hB, Rdv.below h.s hB, Rdv.below h.p hB, Rdv.below h.a hB⟩
theorem ObsAt.alloc (h : ObsAt W bo o S P A cs cp ca) (ob : Obj) : ObsAt (W.alloc ob) bo o S P A cs cp ca := ⟨h.blk.alloc ob, Rdv.alloc h.s ob, Rdv.alloc h.p ob, Rdv.alloc h.a ob⟩
theorem ObsAt.c0 (h : ObsAt W bo o S P A cs cp ca) : W.cell? ⟨bo, 0, none⟩ = some (.slice S o.s.length cs) := h.blk.cell rfl
theorem ObsAt.c1 (h : ObsAt W bo o S P A cs cp ca) : W.cell? ⟨bo, 1, none⟩ = some (.slice P o.p.length cp) := h.blk.cell rfl
theorem ObsAt.c2 (h : ObsAt W bo o S P A cs cp ca) : W.cell? ⟨bo, 2, none⟩ = some (.slice A o.a.length ca) := h.blk.cell rfl
end
theorem steps_any (bo : Nat) (o : Ob) (S P A : Option Addr) (cs cp ca : Nat) (w : World) (h : ObsAt w bo o S P A cs cp ca) :
    Calls Try.prog 30 #[.pointer (some ⟨bo, 0, none⟩)] w fun e w' => e = .returned (.int .i64 (o.s.length : Int)) ∧ w = w' := by
  have hc := h.c0
  have hb := (Rdv.bd h.s).1
  clear h
  go_enter Try.func30, Try.ntmps30
  go_wp2
  go_ret
  exact ⟨rfl, rfl⟩
def brV (b : Br) : List Value := ints8 [(b.fr : Int), (b.bt : Int), (b.pr : Int), (b.tt : Int)]
def brA (b : Br) : Value := .agg #[.int .i64 (b.fr : Int), .int .i64 (b.bt : Int), .int .i64 (b.pr : Int), .int .i64 (b.tt : Int)]
theorem tail_bits (n : Nat) (h : n < 8) : bits .xor .i64 (bits .and .i64 ((n : Int) / 2) 1) (bits .and .i64 (n : Int) 1) = ((tailBit n : Nat) : Int) := by
  rcases (by omega : n = 0 ∨ n = 1 ∨ n = 2 ∨ n = 3 ∨ n = 4 ∨ n = 5 ∨ n = 6 ∨ n = 7) with rfl | rfl | rfl | rfl | rfl | rfl | rfl | rfl <;> decide
set_option maxRecDepth 100000 in
theorem allows_any (bo : Nat) (o : Ob) (S P A : Option Addr) (cs cp ca i : Nat) (b : Br) (w : World) (h : ObsAt w bo o S P A cs cp ca) (hb : b ∈ brT) :
    Calls Try.prog 47 #[.pointer (some ⟨bo, 0, none⟩), .int .i64 (i : Int), brA b] w fun e w' => e = .returned (.bool (o.allow i b)) ∧ Below w.heap.size w w' := by
  have hc := (h.alloc (.cells #[.int .i64 (b.fr : Int), .int .i64 (b.bt : Int), .int .i64 (b.pr : Int), .int .i64 (b.tt : Int)] 77)).c2
  have hbd := (Rdv.bd h.a).1
  obtain ⟨b1, b2, b3, b4⟩ := br_bd b hb
  have HT := Lib.hid (tail_bits b.fr b1)
  unfold brA
  unfold Ob.allow
  by_cases hk : i < o.k
  · have hd : decide ((i : Int) < (o.a.length : Int)) = true := by simp; exact hk
    rw [show decide (i < o.k) = true from by simpa using hk, Bool.true_or]
    unfold Ob.k at hk
    clear h hb
    go_enter Try.func47, Try.ntmps47
    go_wp2
    go_ret
    exact ⟨rfl, (Below.refl _ w).alloc (Nat.le_refl _) _⟩
  · have hd : decide ((i : Int) < (o.a.length : Int)) = false := by
      have hk' : ¬ i < o.a.length := hk
      simp; omega
    rw [show decide (i < o.k) = false from by simpa using hk, Bool.false_or]
    unfold Ob.k at hk
    clear h hb
    go_enter Try.func47, Try.ntmps47
    go_wp2
    go_ret
    refine ⟨ret_bool ?_, (Below.refl _ w).alloc (Nat.le_refl _) _⟩
    rw [HT.out]
    by_cases e : b.bt = tailBit b.fr
    · rw [beq_t (by omega)]; simp [e]
    · rw [beq_f (by omega)]; simp [e]
theorem sgn_bd (x B : Int) (t : Nat) (ht : t < 2) (hB : -B ≤ x ∧ x ≤ B) : -B ≤ x * (1 - 2 * (t : Int)) ∧ x * (1 - 2 * (t : Int)) ≤ B := by
  rcases mul_sgn x t ht with e | e <;> rw [e] <;> omega
set_option maxRecDepth 100000 in
theorem term_any (bo : Nat) (o : Ob) (S P A : Option Addr) (cs cp ca i : Nat) (b : Br) (w : World) (h : ObsAt w bo o S P A cs cp ca) (hb : b ∈ brT) (ho : o.ok) (hi : i < o.s.length) :
    Calls Try.prog 43 #[.pointer (some ⟨bo, 0, none⟩), .int .i64 (i : Int), brA b] w fun e w' => e = .returned (.int .i64 (o.term i b)) ∧ Below w.heap.size w w' := by
  have h' := h.alloc (.cells #[.int .i64 (b.fr : Int), .int .i64 (b.bt : Int), .int .i64 (b.pr : Int), .int .i64 (b.tt : Int)] 77)
  have hc0 := h'.c0
  have hc1 := h'.c1
  have hc2 := h'.c2
  have hbd := (Rdv.bd h.s).1
  obtain ⟨b1, b2, b3, b4⟩ := br_bd b hb
  have hx := o.x_bd ho i hi
  have hp := o.p_bd ho i hi
  have hpl : i < o.p.length := by have := ho.2.2.1; have := ho.2.2.2.1; omega
  have hixS := fun W => Rdv.ix h.s el22 hi .i64 W
  have hixP := fun W => Rdv.ix h.p el22 hpl .i64 W
  have hcS := Rd.cell h'.s hi
  have hcP := Rd.cell h'.p hpl
  have q1 := sgn_bd (o.x i) 254 b.bt b2 hx
  have q2 := sgn_bd (gi o.p i) 127 b.pr b3 hp
  have hsv : -127 ≤ gi o.s i ∧ gi o.s i ≤ 127 := ho.2.2.2.2.1 _ (gi_mem o.s i hi)
  have w1 : IntKind.i64.wrap (2 * (b.bt : Int)) = 2 * (b.bt : Int) := IntWalk.i64_in _ (by omega)
  have w2 : IntKind.i64.wrap (1 - 2 * (b.bt : Int)) = 1 - 2 * (b.bt : Int) := IntWalk.i64_in _ (by omega)
  have w3 : IntKind.i64.wrap (2 * (b.pr : Int)) = 2 * (b.pr : Int) := IntWalk.i64_in _ (by omega)
  have w4 : IntKind.i64.wrap (1 - 2 * (b.pr : Int)) = 1 - 2 * (b.pr : Int) := IntWalk.i64_in _ (by omega)
  have w6 : IntKind.i64.wrap (gi o.p i * (1 - 2 * (b.pr : Int))) = gi o.p i * (1 - 2 * (b.pr : Int)) := IntWalk.i64_in _ (by omega)
  unfold brA
  unfold Ob.term
  by_cases hk : i < o.k
  · have hd : decide ((i : Int) < (o.a.length : Int)) = true := by simp; exact hk
    have hka : i < o.a.length := hk
    have hixA := fun W => Rdv.ix h.a el22 hka .i64 W
    have hcA := Rd.cell h'.a hka
    have hav : -127 ≤ gi o.a i ∧ gi o.a i ≤ 127 := ho.2.2.2.2.2.2 _ (gi_mem o.a i hka)
    have ex : o.x i = gi o.s i + gi o.a i := by unfold Ob.x; rw [if_pos hk]
    rw [ex] at q1 hx ⊢
    have w5 : IntKind.i64.wrap ((gi o.s i + gi o.a i) * (1 - 2 * (b.bt : Int))) = (gi o.s i + gi o.a i) * (1 - 2 * (b.bt : Int)) := IntWalk.i64_in _ (by omega)
    have w7 : IntKind.i64.wrap ((gi o.s i + gi o.a i) * (1 - 2 * (b.bt : Int)) + gi o.p i * (1 - 2 * (b.pr : Int))) = (gi o.s i + gi o.a i) * (1 - 2 * (b.bt : Int)) + gi o.p i * (1 - 2 * (b.pr : Int)) := IntWalk.i64_in _ (by omega)
    clear h h' hb ho ex
    generalize gi o.s i = sv at *
    generalize gi o.a i = av at *
    generalize gi o.p i = pv at *
    go_enter Try.func43, Try.ntmps43
    go_wp2
    go_quiet (fail)
    go_wp2
    go_ret
    exact ⟨rfl, ((Below.refl _ w).alloc (Nat.le_refl _) _).trans (Qt.below ⟨_, rfl⟩ _)⟩
  · have hd : decide ((i : Int) < (o.a.length : Int)) = false := by
      have hk' : ¬ i < o.a.length := hk
      simp; omega
    have ex : o.x i = gi o.s i := by unfold Ob.x; rw [if_neg hk]
    rw [ex] at q1 hx ⊢
    have w5 : IntKind.i64.wrap (gi o.s i * (1 - 2 * (b.bt : Int))) = gi o.s i * (1 - 2 * (b.bt : Int)) := IntWalk.i64_in _ (by omega)
    have w7 : IntKind.i64.wrap (gi o.s i * (1 - 2 * (b.bt : Int)) + gi o.p i * (1 - 2 * (b.pr : Int))) = gi o.s i * (1 - 2 * (b.bt : Int)) + gi o.p i * (1 - 2 * (b.pr : Int)) := IntWalk.i64_in _ (by omega)
    clear h h' hb ho ex
    generalize gi o.s i = sv at *
    generalize gi o.p i = pv at *
    go_enter Try.func43, Try.ntmps43
    go_wp2
    go_quiet (fail)
    go_wp2
    go_ret
    exact ⟨rfl, ((Below.refl _ w).alloc (Nat.le_refl _) _).trans (Qt.below ⟨_, rfl⟩ _)⟩
end Go.Proofs.Ytmdjclfmhndjnaa
