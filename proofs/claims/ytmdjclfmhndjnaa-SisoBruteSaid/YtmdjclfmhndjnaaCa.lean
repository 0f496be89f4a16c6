/-
  Contracts of the reference's sign, input, allowed, Extrinsic and Branches. Condition: lists that lie in memory.
-/
import Derived.Test.YtmdjclfmhndjnaaBn
namespace Go.Proofs.Ytmdjclfmhndjnaa
open Go.RowKit
set_option linter.unusedVariables false
theorem sign_any (t : Nat) (ht : t < 2) (w : World) : Calls Try.prog 37 #[.int .i64 (t : Int)] w fun e w' => e = .returned (.int .i64 (1 - 2 * (t : Int))) ∧ w = w' := by
  go_enter Try.func37, Try.ntmps37
  go_wp2
  go_ret
  exact ⟨rfl, rfl⟩
theorem input_any (S A : Option Addr) (cs ca : Nat) (o : Ob) (i : Nat) (w : World) (hS : Rd .i64 w S o.s.length cs o.s) (hA : Rd .i64 w A o.a.length ca o.a) (ho : o.ok) (hi : i < o.s.length) :
    Calls Try.prog 36 #[.slice S o.s.length cs, .slice A o.a.length ca, .int .i64 (i : Int)] w fun e w' => e = .returned (.int .i64 (o.x i)) ∧ Qt w w' := by
  have hsv : -127 ≤ gi o.s i ∧ gi o.s i ≤ 127 := ho.2.2.2.2.1 _ (gi_mem o.s i hi)
  have hixS := fun W => Rdv.ix hS el22 hi .i64 W
  have hcS := Rd.cell hS hi
  have hbd := (Rdv.bd hA).1
  by_cases hk : i < o.a.length
  · have hixA := fun W => Rdv.ix hA el22 hk .i64 W
    have hcA := Rd.cell hA hk
    have hav : -127 ≤ gi o.a i ∧ gi o.a i ≤ 127 := ho.2.2.2.2.2.2 _ (gi_mem o.a i hk)
    have ex : o.x i = gi o.s i + gi o.a i := by unfold Ob.x; rw [if_pos (show i < o.k from hk)]
    rw [ex]
    have w5 : IntKind.i64.wrap (gi o.s i + gi o.a i) = gi o.s i + gi o.a i := IntWalk.i64_in _ (by omega)
    clear hS hA ho ex
    generalize gi o.s i = sv at *
    generalize gi o.a i = av at *
    go_enter Try.func36, Try.ntmps36
    go_wp2
    go_quiet (fail)
    go_wp2
    go_ret
    exact ⟨rfl, _, rfl⟩
  · have ex : o.x i = gi o.s i := by unfold Ob.x; rw [if_neg (show ¬ i < o.k from hk)]
    rw [ex]
    clear hS hA ho ex
    generalize gi o.s i = sv at *
    go_enter Try.func36, Try.ntmps36
    go_wp2
    go_ret
    exact ⟨rfl, Qt.refl _⟩
theorem allowed_any (b : Br) (t : Bool) (w : World) (hb : b ∈ brT) :
    Calls Try.prog 51 #[brA b, .bool t] w fun e w' => e = .returned (.bool (!t || decide (b.bt = tailBit b.fr))) ∧ Below w.heap.size w w' := by
  obtain ⟨b1, b2, b3, b4⟩ := br_bd b hb
  unfold brA
  cases t with
  | false =>
    go_enter Try.func51, Try.ntmps51
    go_wp2
    go_ret
    exact ⟨rfl, (Below.refl _ w).alloc (Nat.le_refl _) _⟩
  | true =>
    go_enter Try.func51, Try.ntmps51
    go_wp2
    go_ret
    refine ⟨ret_bool ?_, (Below.refl _ w).alloc (Nat.le_refl _) _⟩
    have e1 : ((tailBit b.fr : Nat) : Int) = ((b.fr : Int) / 2 + (b.fr : Int)) % 2 := by unfold tailBit; omega
    rw [← e1, Bool.not_true, Bool.false_or]
    by_cases e : b.bt = tailBit b.fr
    · rw [beq_t (by omega)]; simp [e]
    · rw [beq_f (by omega)]; simp [e]
theorem extr_any (v : Int) (w : World) (hv : -3000000000000000000 ≤ v ∧ v ≤ 3000000000000000000) : Calls Try.prog 27 #[.int .i64 v] w fun e w' => e = .returned (.int .i64 (ext v)) ∧ w = w' := by
  have hq := tdiv_bd (3 * v) 4 (by omega) 9000000000000000000 (by omega)
  have v3 : IntKind.i64.wrap (3 * v) = 3 * v := IntWalk.i64_in _ (by omega)
  have v4 : IntKind.i64.wrap ((3 * v).tdiv 4) = (3 * v).tdiv 4 := IntWalk.i64_in _ (by omega)
  have HE := Lib.hid (show ext v = min (max ((3 * v).tdiv 4) (-127)) 127 from rfl)
  go_enter Try.func27, Try.ntmps27
  go_wp2
  all_goals
    go_ret
    refine ⟨ret_int ?_, rfl⟩
    rw [HE.out]
    (repeat' split) <;> omega
end Go.Proofs.Ytmdjclfmhndjnaa
