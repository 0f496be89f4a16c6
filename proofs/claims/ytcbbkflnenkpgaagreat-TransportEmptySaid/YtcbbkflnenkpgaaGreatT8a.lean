import Derived.Test.YtcbbkflnenkpgaaGreatT7
namespace Go.Proofs.YtcbbkflnenkpgaaGreat
open Go.RowKit
set_option linter.unusedVariables false
def sLen (k : Int) : Nat := if k = 1 then 24 else if k = 2 then 24 else if k = 3 then 16 else if k = 4 then 8 else 0
def sPoly (k : Int) : Int := if k = 1 then 0x864cfb else if k = 2 then 0x800063 else if k = 3 then 0x1021 else if k = 4 then 0x9b else 0
theorem sLen_cases (k : Int) : sLen k = 0 ∨ 8 ≤ sLen k ∧ sLen k ≤ 24 := by unfold sLen; repeat (split <;> try omega)
set_option maxHeartbeats 400000 in
set_option maxRecDepth 100000 in
theorem of_lit (k : Int) (w : World) (h : k = 0 ∨ k = 1 ∨ k = 2 ∨ k = 3 ∨ k = 4) :
    Calls Tryz.prog 85 #[.int .i64 k] w fun e w' => e = .returned (.agg #[.int .i64 (sLen k : Int), .int .u32 (sPoly k)]) ∧ Below w.heap.size w w' := by
  rcases h with rfl | rfl | rfl | rfl | rfl
  all_goals
    go_enter Tryz.func85, Tryz.ntmps85
    go_wp2
    refine bodyPost_ret (v := .agg #[_, _]) (by simp [results, Tryz.results85, go_sem]; exact ⟨rfl, rfl⟩) rfl ⟨rfl, ?_⟩
    exact (((Below.refl _ _).alloc (Nat.le_refl _) _).alloc (by simp) _)
set_option maxHeartbeats 400000 in
set_option maxRecDepth 100000 in
theorem of_out (k : Int) (w : World) (h : k < 0 ∨ 5 ≤ k) :
    Calls Tryz.prog 85 #[.int .i64 k] w fun e w' => e = .returned (.agg #[.int .i64 (sLen k : Int), .int .u32 (sPoly k)]) ∧ Below w.heap.size w w' := by
  have e1 : sLen k = 0 := by unfold sLen; repeat (first | rw [if_neg (by omega)] | rfl)
  have e2 : sPoly k = 0 := by unfold sPoly; repeat (first | rw [if_neg (by omega)] | rfl)
  rw [e1, e2]
  clear e1 e2
  rcases h with h | h
  · go_enter Tryz.func85, Tryz.ntmps85
    go_wp2
    refine bodyPost_ret (v := .agg #[_, _]) (by simp [results, Tryz.results85, go_sem]) rfl ⟨rfl, ?_⟩
    exact (((Below.refl _ _).alloc (Nat.le_refl _) _).alloc (by simp) _)
  · have h0 : decide (k < 0) = false := by simp; omega
    go_enter Tryz.func85, Tryz.ntmps85
    go_wp2
    refine bodyPost_ret (v := .agg #[_, _]) (by simp [results, Tryz.results85, go_sem]) rfl ⟨rfl, ?_⟩
    exact (((Below.refl _ _).alloc (Nat.le_refl _) _).alloc (by simp) _)
theorem of_any (k : Int) (w : World) :
    Calls Tryz.prog 85 #[.int .i64 k] w fun e w' => e = .returned (.agg #[.int .i64 (sLen k : Int), .int .u32 (sPoly k)]) ∧ Below w.heap.size w w' := by
  by_cases h : k < 0 ∨ 5 ≤ k
  · exact of_out k w h
  · exact of_lit k w (by omega)
set_option maxRecDepth 100000 in
theorem len_any (k : Int) (w : World) : Calls Tryz.prog 81 #[.int .i64 k] w fun e w' => e = .returned (.int .i64 (sLen k : Int)) ∧ Below w.heap.size w w' := by
  have h1 := Lib.hid (of_any k w)
  generalize sLen k = L at *
  generalize sPoly k = p at *
  have hfld : ∀ W, (Instr.field 122 (.agg #[.int .i64 (L : Int), .int .u32 p]) 0).run Tryz.prog W = .ok (.int .i64 (L : Int)) W := fun _ => by kernel_rfl
  go_enter Tryz.func81, Tryz.ntmps81
  go_wp2_with fail
  refine h1.out.mono ?_
  rintro e w1 ⟨rfl, hB⟩
  go_wp2
  go_ret
  exact ⟨rfl, hB⟩
end Go.Proofs.YtcbbkflnenkpgaaGreat
