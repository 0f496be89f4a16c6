/-
  Contracts of the reference's Order and of qpp.Bits with its inner functions. Condition: none.
-/
import Derived.Test.YtkagdiejpcfggaaF
namespace Go.Proofs.Ytkagdiejpcfggaa
open Go.RowKit
set_option linter.unusedVariables false
def OrdInv (w : World) (k f1 f2 : Nat) (i : Value) (o : Value) (wr : World) : Prop :=
  ∃ (j : Nat) (A : Option Addr) (c : Nat), j ≤ k ∧ i = .int .i64 j ∧ o = .slice A j c ∧ Own .i64 3 wr w.heap.size A j c ((List.range j).map fun q => (((f1 * q + f2 * q % k * q) % k : Nat) : Int)) ∧ Below w.heap.size w wr
set_option maxRecDepth 100000 in
set_option maxHeartbeats 1000000 in
theorem rorder_any (k : Int) (w : World) : Calls Try.prog 32 #[.int .i64 k] w fun e w' => ∃ A n c, e = .returned (.tuple #[.slice A n c, .int .i64 (permE k)]) ∧ Own .i64 3 w' w.heap.size A n c (ordR k) ∧ Below w.heap.size w w' := by
  by_cases hv : validK k = true
  · obtain ⟨kb0, kb1⟩ := valid_bd hv
    obtain ⟨n, rfl⟩ : ∃ n : Nat, k = (n : Int) := ⟨k.toNat, by omega⟩
    have hP := prm hv
    have e1 : prmR1 (n : Int) = (f1N n : Int) := by unfold prmR1; rw [if_pos hv, Int.toNat_natCast]
    have e2 : prmR2 (n : Int) = (f2N n : Int) := by unfold prmR2; rw [if_pos hv, Int.toNat_natCast]
    have e3 : permE (n : Int) = 0 := by unfold permE; rw [if_pos hv]
    have e4 : ordR (n : Int) = (List.range n).map fun q => (((f1N n * q + f2N n * q % n * q) % n : Nat) : Int) := by unfold ordR; rw [if_pos hv, Int.toNat_natCast]; rfl
    have ho := fun W => Lib.hid (params_any (n : Int) W)
    rw [e1, e2, e3] at ho
    rw [e3, e4]
    have hf1 := hP.b1
    have hf2 := hP.b2
    clear e1 e2 e3 e4 hv hP
    generalize f1N n = f1 at *
    generalize f2N n = f2 at *
    go_enter Try.func32, Try.ntmps32
    go_wp2_with fail
    refine (ho _).out.mono ?_
    rintro e w1 ⟨rfl, hQ1⟩
    go_wp2_with fail
    go_loopw [8, 7] (fun i o wr => OrdInv w n f1 f2 i o wr) (fun i _ _ => n - (intOf i).toNat)
    case atStart => exact ⟨0, none, 0, by omega, rfl, rfl, Own.nilv _ _ _ _, hQ1.below _⟩
    case round =>
      obtain ⟨j, A, c, hj, rfl, rfl, hO, hB⟩ := hrel
      clear ho hQ1
      by_cases hlt : j < n
      · obtain ⟨m1, h1'⟩ : ∃ m : Nat, m = f1 * j := ⟨_, rfl⟩
        obtain ⟨m2, h2'⟩ : ∃ m : Nat, m = f2 * j := ⟨_, rfl⟩
        obtain ⟨m3, h3'⟩ : ∃ m : Nat, m = m2 % n := ⟨_, rfl⟩
        obtain ⟨m4, h4'⟩ : ∃ m : Nat, m = m3 * j := ⟨_, rfl⟩
        obtain ⟨m6, h6'⟩ : ∃ m : Nat, m = (m1 + m4) % n := ⟨_, rfl⟩
        have q1 : (f1 : Int) * (j : Int) = (m1 : Int) := by rw [h1', Int.natCast_mul]
        have q2 : (f2 : Int) * (j : Int) = (m2 : Int) := by rw [h2', Int.natCast_mul]
        have q3 : (m2 : Int).tmod (n : Int) = (m3 : Int) := by rw [h3']; rfl
        have q4 : (m3 : Int) * (j : Int) = (m4 : Int) := by rw [h4', Int.natCast_mul]
        have q6 : ((m1 : Int) + (m4 : Int)).tmod (n : Int) = (m6 : Int) := by rw [h6', ← Int.natCast_add]; rfl
        have q3' : (m2 : Int) % (n : Int) = (m3 : Int) := by rw [h3']; rfl
        have q6' : ((m1 : Int) + (m4 : Int)) % (n : Int) = (m6 : Int) := by rw [h6', ← Int.natCast_add]; rfl
        have b1 : m1 ≤ 6144000 := by have := mul_bd hf1 (show j ≤ 6144 by omega); omega
        have b2 : m2 ≤ 37748736 := by have := mul_bd hf2 (show j ≤ 6144 by omega); omega
        have b3 : m3 ≤ 6144 := by rw [h3']; have := Nat.mod_lt m2 (show 0 < n by omega); omega
        have b4 : m4 ≤ 37748736 := by rw [h4']; have := mul_bd b3 (show j ≤ 6144 by omega); omega
        have HE : Hid (((List.range (j + 1)).map fun q => (((f1 * q + f2 * q % n * q) % n : Nat) : Int)) = ((List.range j).map fun q => (((f1 * q + f2 * q % n * q) % n : Nat) : Int)) ++ [(m6 : Int)]) := Lib.hid (by
          rw [List.range_succ, List.map_append, h6', h4', h3', h2', h1']; rfl)
        have hsz := hB.size
        clear h1' h2' h3' h4' h6'
        generalize ((List.range j).map fun q => (((f1 * q + f2 * q % n * q) % n : Nat) : Int)) = vs at *
        go_wp2_with (at_builtin; refine list_of rfl fun K hK => wp_app1 _ _ 33 rfl el33 rfl (.int .i64 (m6 : Int)) rfl rfl hO (by omega) (by omega) hsz ?_; intro A' c' w' hO' hg; refine hK _ _ ?_; clear hK K)
        go_roundw
        case rel => exact ⟨j + 1, A', c', by omega, by go_num, rfl, by rw [HE.out]; exact Own.of_eq hO' rfl (by simp), hB.grown hg hsz (fun k hk => Ownv.ob' hO hk)⟩
        case measure => simp [intOf]; omega
      · obtain rfl : j = n := by omega
        go_wp2
        go_ret2
        exact ⟨A, j, c, rfl, hO, hB⟩
  · have e1 : prmR1 k = 0 := by unfold prmR1; rw [if_neg hv]
    have e2 : prmR2 k = 0 := by unfold prmR2; rw [if_neg hv]
    have e3 : permE k = 2 := by unfold permE; rw [if_neg hv]
    have e4 : ordR k = [] := by unfold ordR; rw [if_neg hv]
    have ho := fun W => Lib.hid (params_any k W)
    rw [e1, e2, e3] at ho
    rw [e3, e4]
    clear e1 e2 e3 e4 hv
    go_enter Try.func32, Try.ntmps32
    go_wp2_with fail
    refine (ho _).out.mono ?_
    rintro e w1 ⟨rfl, hQ1⟩
    go_wp2
    go_ret2
    exact ⟨none, 0, 0, rfl, Own.nilv _ _ _ _, hQ1.below _⟩
end Go.Proofs.Ytkagdiejpcfggaa
