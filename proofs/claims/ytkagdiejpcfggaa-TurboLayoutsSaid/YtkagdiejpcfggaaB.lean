/-
  Contracts of qpp.divisors, qpp.coprime, (qpp.poly).at and of the reference's Valid and common. Conditions: a block size where one is said.
-/
import Derived.Test.YtkagdiejpcfggaaS
import Derived.Test.YtkagdiejpcfggaaR
namespace Go.Proofs.Ytkagdiejpcfggaa
open Go.RowKit
set_option linter.unusedVariables false
theorem el33 : El Try.prog 33 3 (.int .i64 0) 8 := ⟨by kernel_rfl, by kernel_rfl, fun _ => by kernel_rfl, rfl⟩
set_option maxHeartbeats 2000000 in
theorem rvalid_any (k : Int) (w : World) : Calls Try.prog 66 #[.int .i64 k] w fun e w' => e = .returned (.bool (validK k)) ∧ w = w' := by
  have hV : Hid (∀ b : Bool, (b = true ↔ (40 ≤ k ∧ k ≤ 512 ∧ k % 8 = 0 ∨ 528 ≤ k ∧ k ≤ 1024 ∧ k % 16 = 0 ∨ 1056 ≤ k ∧ k ≤ 2048 ∧ k % 32 = 0 ∨ 2112 ≤ k ∧ k ≤ 6144 ∧ k % 64 = 0)) → b = validK k) := Lib.hid (by
    intro b hb; unfold validK; rw [Bool.eq_iff_iff, hb, decide_eq_true_iff])
  generalize validK k = V at *
  rcases (by omega : k < 40 ∨ (40 ≤ k ∧ k ≤ 512) ∨ (512 < k ∧ k < 528) ∨ (528 ≤ k ∧ k ≤ 1024) ∨ (1024 < k ∧ k < 1056) ∨ (1056 ≤ k ∧ k ≤ 2048) ∨ (2048 < k ∧ k < 2112) ∨ (2112 ≤ k ∧ k ≤ 6144) ∨ 6144 < k) with h | ⟨h, h'⟩ | ⟨h, h'⟩ | ⟨h, h'⟩ | ⟨h, h'⟩ | ⟨h, h'⟩ | ⟨h, h'⟩ | ⟨h, h'⟩ | h
  all_goals (
    go_enter Try.func66, Try.ntmps66
    go_wp2
    all_goals (
      go_ret
      refine ⟨ret_bool (hV.out _ ?_), rfl⟩
      first
       | (refine iff_of_false (by decide) ?_; omega)
       | (refine iff_of_true rfl ?_; omega)
       | (rw [beq_iff_eq]; omega)
       | (simp only [decide_eq_true_eq]; omega)
       | (simp; omega)))
def GcdInv (g : Nat) (a b : Value) (w wr : World) : Prop := ∃ x y : Nat, a = .int .i64 x ∧ b = .int .i64 y ∧ Nat.gcd x y = g ∧ x ≤ 100000 ∧ y ≤ 100000 ∧ Qt w wr
theorem common_any (a b : Nat) (ha : a ≤ 100000) (hb : b ≤ 100000) (w : World) : Calls Try.prog 67 #[.int .i64 a, .int .i64 b] w fun e w' => e = .returned (.int .i64 (Nat.gcd a b : Int)) ∧ Qt w w' := by
  obtain ⟨g, hgg⟩ : ∃ g, Nat.gcd a b = g := ⟨_, rfl⟩
  rw [hgg]
  go_enter Try.func67, Try.ntmps67
  go_wp2
  go_loopw [0, 1] (fun x y wr => GcdInv g x y w wr) (fun _ y _ => (intOf y).toNat)
  case atStart => exact ⟨a, b, rfl, rfl, hgg, ha, hb, Qt.refl _⟩
  case round =>
    obtain ⟨x, y, rfl, rfl, hg, hx, hy, hQ⟩ := hrel
    by_cases h : 0 < y
    · have hG : Hid (Nat.gcd y (x % y) = g) := Lib.hid (by rw [← hg, Nat.gcd_comm x y, Nat.gcd_rec y x, Nat.gcd_comm])
      have hr : (x : Int).tmod (y : Int) = ((x % y : Nat) : Int) := rfl
      have hl := Nat.mod_lt x h
      clear hg
      go_wp2
      go_quiet (fail)
      go_wp2
      go_roundw
      case rel => exact ⟨y, x % y, by go_num, by go_num, hG.out, by omega, by omega, hQ.drewN _⟩
      case measure => simp [intOf]; omega
    · obtain rfl : y = 0 := by omega
      rw [Nat.gcd_zero_right] at hg
      subst hg
      go_wp2
      go_ret
      exact ⟨ret_int rfl, hQ⟩
end Go.Proofs.Ytkagdiejpcfggaa
