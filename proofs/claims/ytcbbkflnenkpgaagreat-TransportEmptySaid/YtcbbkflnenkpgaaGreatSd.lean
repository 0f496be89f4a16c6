/-
  Contracts of segment.Valid, of plan and of the specification's Plan. Condition: none.
-/
import Derived.Test.YtcbbkflnenkpgaaGreatSc
namespace Go.Proofs.YtcbbkflnenkpgaaGreat
open Go.RowKit
set_option linter.unusedVariables false
theorem vkd0 {k x : Int} (h : VK k ↔ x = 0) : (x == 0) = decide (VK k) := by
  by_cases hm : x = 0
  · rw [decide_eq_true (h.2 hm), hm]; rfl
  · rw [decide_eq_false (fun h9 => hm (h.1 h9))]; exact beq_f hm
def notIn (k : Int) (j : Nat) : Prop := (1 ≤ j → k < 40 ∨ 512 < k) ∧ (2 ≤ j → k < 528 ∨ 1024 < k) ∧ (3 ≤ j → k < 1056 ∨ 2048 < k) ∧ (4 ≤ j → k < 2112 ∨ 6144 < k)
def VlInv (w : World) (k : Int) (i : Value) (wr : World) : Prop := ∃ j : Nat, j ≤ 4 ∧ i = .int .i64 j ∧ notIn k j ∧ Below w.heap.size w wr
set_option maxHeartbeats 1600000 in
set_option maxRecDepth 100000 in
theorem valid_seg (k : Int) (w : World) : Calls Tryz.prog 51 #[.int .i64 k] w fun e w' => e = .returned (.bool (decide (VK k))) ∧ Below w.heap.size w w' := by
  go_enter Tryz.func51, Tryz.ntmps51
  go_wp2_with (go_at_call 92; refine (spans_any _).mono ?_; rintro e w1 ⟨rfl, hB1⟩)
  go_loopw [6] (fun i wr => VlInv w k i wr) (fun i _ => 4 - (intOf i).toNat)
  case atStart => exact ⟨0, by omega, rfl, by unfold notIn; omega, hB1⟩
  case round =>
    obtain ⟨j, hj, rfl, hno, hB⟩ := hrel
    have HB := Lib.hid hB
    have HNO := Lib.hid hno
    clear hno hB hB1
    rcases (by omega : j = 0 ∨ j = 1 ∨ j = 2 ∨ j = 3 ∨ j = 4) with rfl | rfl | rfl | rfl | rfl
    · simp only [ints8, spansL, List.map_cons, List.map_nil]
      rw [show ((0 : Nat) : Int) = 0 from rfl]
      have hidx : ∀ W, (Instr.index 135 (Value.agg #[.int .i64 40, .int .i64 512, .int .i64 8, .int .i64 528, .int .i64 1024, .int .i64 16, .int .i64 1056, .int .i64 2048, .int .i64 32, .int .i64 2112, .int .i64 6144, .int .i64 64]) (.int .i64 0)).run Tryz.prog W = .ok (.agg #[.int .i64 40, .int .i64 512, .int .i64 8]) W := fun _ => by kernel_rfl
      by_cases h1 : 40 ≤ k
      · by_cases h2 : k ≤ 512
        · have e := Lib.hid (vkd0 (k := k) (x := (k - 40) % 8) (by unfold VK; omega))
          clear hj
          go_wp2
          go_ret
          exact ⟨ret_bool e.out, HB.out.alloc HB.out.size _⟩
        · go_wp2
          go_roundw
          case rel => exact ⟨1, by omega, by go_num, by have := HNO.out; unfold notIn at this ⊢; omega, HB.out.alloc HB.out.size _⟩
          case measure => simp [intOf]
      · go_wp2
        go_roundw
        case rel => exact ⟨1, by omega, by go_num, by have := HNO.out; unfold notIn at this ⊢; omega, HB.out.alloc HB.out.size _⟩
        case measure => simp [intOf]
    · simp only [ints8, spansL, List.map_cons, List.map_nil]
      rw [show ((1 : Nat) : Int) = 1 from rfl]
      have hidx : ∀ W, (Instr.index 135 (Value.agg #[.int .i64 40, .int .i64 512, .int .i64 8, .int .i64 528, .int .i64 1024, .int .i64 16, .int .i64 1056, .int .i64 2048, .int .i64 32, .int .i64 2112, .int .i64 6144, .int .i64 64]) (.int .i64 1)).run Tryz.prog W = .ok (.agg #[.int .i64 528, .int .i64 1024, .int .i64 16]) W := fun _ => by kernel_rfl
      by_cases h1 : 528 ≤ k
      · by_cases h2 : k ≤ 1024
        · have e := Lib.hid (vkd0 (k := k) (x := (k - 528) % 16) (by unfold VK; omega))
          clear hj
          go_wp2
          go_ret
          exact ⟨ret_bool e.out, HB.out.alloc HB.out.size _⟩
        · go_wp2
          go_roundw
          case rel => exact ⟨2, by omega, by go_num, by have := HNO.out; unfold notIn at this ⊢; omega, HB.out.alloc HB.out.size _⟩
          case measure => simp [intOf]
      · go_wp2
        go_roundw
        case rel => exact ⟨2, by omega, by go_num, by have := HNO.out; unfold notIn at this ⊢; omega, HB.out.alloc HB.out.size _⟩
        case measure => simp [intOf]
    · simp only [ints8, spansL, List.map_cons, List.map_nil]
      rw [show ((2 : Nat) : Int) = 2 from rfl]
      have hidx : ∀ W, (Instr.index 135 (Value.agg #[.int .i64 40, .int .i64 512, .int .i64 8, .int .i64 528, .int .i64 1024, .int .i64 16, .int .i64 1056, .int .i64 2048, .int .i64 32, .int .i64 2112, .int .i64 6144, .int .i64 64]) (.int .i64 2)).run Tryz.prog W = .ok (.agg #[.int .i64 1056, .int .i64 2048, .int .i64 32]) W := fun _ => by kernel_rfl
      by_cases h1 : 1056 ≤ k
      · by_cases h2 : k ≤ 2048
        · have e := Lib.hid (vkd0 (k := k) (x := (k - 1056) % 32) (by unfold VK; omega))
          clear hj
          go_wp2
          go_ret
          exact ⟨ret_bool e.out, HB.out.alloc HB.out.size _⟩
        · go_wp2
          go_roundw
          case rel => exact ⟨3, by omega, by go_num, by have := HNO.out; unfold notIn at this ⊢; omega, HB.out.alloc HB.out.size _⟩
          case measure => simp [intOf]
      · go_wp2
        go_roundw
        case rel => exact ⟨3, by omega, by go_num, by have := HNO.out; unfold notIn at this ⊢; omega, HB.out.alloc HB.out.size _⟩
        case measure => simp [intOf]
    · simp only [ints8, spansL, List.map_cons, List.map_nil]
      rw [show ((3 : Nat) : Int) = 3 from rfl]
      have hidx : ∀ W, (Instr.index 135 (Value.agg #[.int .i64 40, .int .i64 512, .int .i64 8, .int .i64 528, .int .i64 1024, .int .i64 16, .int .i64 1056, .int .i64 2048, .int .i64 32, .int .i64 2112, .int .i64 6144, .int .i64 64]) (.int .i64 3)).run Tryz.prog W = .ok (.agg #[.int .i64 2112, .int .i64 6144, .int .i64 64]) W := fun _ => by kernel_rfl
      by_cases h1 : 2112 ≤ k
      · by_cases h2 : k ≤ 6144
        · have e := Lib.hid (vkd0 (k := k) (x := (k - 2112) % 64) (by unfold VK; omega))
          clear hj
          go_wp2
          go_ret
          exact ⟨ret_bool e.out, HB.out.alloc HB.out.size _⟩
        · go_wp2
          go_roundw
          case rel => exact ⟨4, by omega, by go_num, by have := HNO.out; unfold notIn at this ⊢; omega, HB.out.alloc HB.out.size _⟩
          case measure => simp [intOf]
      · go_wp2
        go_roundw
        case rel => exact ⟨4, by omega, by go_num, by have := HNO.out; unfold notIn at this ⊢; omega, HB.out.alloc HB.out.size _⟩
        case measure => simp [intOf]
    · have e : decide (VK k) = false := by
        have := HNO.out
        rw [decide_eq_false_iff_not]; unfold VK; unfold notIn at this; omega
      go_wp2
      go_ret
      exact ⟨ret_bool e.symm, HB.out⟩
end Go.Proofs.YtcbbkflnenkpgaaGreat
