/-
  Contracts of the specification's functions on block sizes, of must and of the layout's methods. Condition: none.
-/
import Derived.Test.YtcbbkflnenkpgaaGreatSb
namespace Go.Proofs.YtcbbkflnenkpgaaGreat
open Go.RowKit
set_option linter.unusedVariables false
set_option maxRecDepth 100000 in
theorem must_ok (e : Int) (w : World) : Calls Tryz.prog 44 #[.bool true, .int .i64 e] w fun en w' => en = .returned (.tuple #[]) ∧ w = w' := by
  go_enter Tryz.func44, Tryz.ntmps44
  go_wp2
  go_end0
  exact ⟨rfl, rfl⟩
/-- a panic with a number of an error -/
def pan (e : Int) : List PanicEntry := [{ v := .iface 29 (.int .i64 e), recovered := false }]
set_option maxRecDepth 100000 in
theorem must_bad (e : Int) (w : World) : Calls Tryz.prog 44 #[.bool false, .int .i64 e] w fun en w' => en = .panicked (pan e) ∧ w = w' := by
  go_enter Tryz.func44, Tryz.ntmps44
  go_wp2
  simp [bodyPost, pan]
set_option maxRecDepth 100000 in
theorem size_any (x0 x1 x2 x3 x4 x5 x6 i : Int) (w : World) : Calls Tryz.prog 48 #[.agg #[.int .i64 x0, .int .i64 x1, .int .i64 x2, .int .i64 x3, .int .i64 x4, .int .i64 x5, .int .i64 x6], .int .i64 i] w fun en w' =>
    en = .returned (.int .i64 (if i < x5 then x3 else x2)) ∧ Below w.heap.size w w' := by
  by_cases h : i < x5
  · rw [if_pos h]
    go_enter Tryz.func48, Tryz.ntmps48
    go_wp2
    go_ret
    exact ⟨rfl, (Below.refl _ _).alloc (Nat.le_refl _) _⟩
  · rw [if_neg h]
    go_enter Tryz.func48, Tryz.ntmps48
    go_wp2
    go_ret
    exact ⟨rfl, (Below.refl _ _).alloc (Nat.le_refl _) _⟩
set_option maxRecDepth 100000 in
theorem check_lay (x0 x1 x2 x3 x4 x5 x6 : Int) (w : World) : Calls Tryz.prog 49 #[.agg #[.int .i64 x0, .int .i64 x1, .int .i64 x2, .int .i64 x3, .int .i64 x4, .int .i64 x5, .int .i64 x6]] w fun en w' =>
    en = .returned (.int .i64 (if 1 < x1 then 24 else 0)) ∧ Below w.heap.size w w' := by
  by_cases h : 1 < x1
  · rw [if_pos h]
    go_enter Tryz.func49, Tryz.ntmps49
    go_wp2
    go_ret
    exact ⟨rfl, (Below.refl _ _).alloc (Nat.le_refl _) _⟩
  · rw [if_neg h]
    go_enter Tryz.func49, Tryz.ntmps49
    go_wp2
    go_ret
    exact ⟨rfl, (Below.refl _ _).alloc (Nat.le_refl _) _⟩
theorem vkd {k m : Int} (h : VK k ↔ k % m = 0) : (k % m == 0) = decide (VK k) := by
  by_cases hm : k % m = 0
  · rw [decide_eq_true (h.2 hm), hm]; rfl
  · rw [decide_eq_false (fun h9 => hm (h.1 h9))]; exact beq_f hm
set_option maxRecDepth 100000 in
set_option maxHeartbeats 1000000 in
theorem rvalid_any (k : Int) (w : World) : Calls Tryz.prog 119 #[.int .i64 k] w fun e w' => e = .returned (.bool (decide (VK k))) ∧ w = w' := by
  by_cases h1 : k < 40 ∨ (512 < k ∧ k < 528) ∨ (1024 < k ∧ k < 1056) ∨ (2048 < k ∧ k < 2112) ∨ 6144 < k
  · have e : decide (VK k) = false := by rw [decide_eq_false_iff_not]; unfold VK; omega
    rw [e]
    rcases h1 with h1 | ⟨h1, h2⟩ | ⟨h1, h2⟩ | ⟨h1, h2⟩ | h1 <;>
    · go_enter Tryz.func119, Tryz.ntmps119
      go_wp2
      go_ret
      exact ⟨rfl, rfl⟩
  by_cases h8 : 40 ≤ k ∧ k ≤ 512
  · obtain ⟨h2, h3⟩ := h8
    have e := Lib.hid (vkd (k := k) (m := 8) (by unfold VK; omega))
    clear h1
    go_enter Tryz.func119, Tryz.ntmps119
    go_wp2
    all_goals
      go_ret
      exact ⟨ret_bool (by first | exact e.out | (rw [← e.out]; symm; first | assumption | (apply beq_t; assumption))), rfl⟩
  by_cases h16 : 528 ≤ k ∧ k ≤ 1024
  · obtain ⟨h2, h3⟩ := h16
    have e := Lib.hid (vkd (k := k) (m := 16) (by unfold VK; omega))
    clear h1
    go_enter Tryz.func119, Tryz.ntmps119
    go_wp2
    all_goals
      go_ret
      exact ⟨ret_bool (by first | exact e.out | (rw [← e.out]; symm; first | assumption | (apply beq_t; assumption))), rfl⟩
  by_cases h32 : 1056 ≤ k ∧ k ≤ 2048
  · obtain ⟨h2, h3⟩ := h32
    have e := Lib.hid (vkd (k := k) (m := 32) (by unfold VK; omega))
    clear h1
    go_enter Tryz.func119, Tryz.ntmps119
    go_wp2
    all_goals
      go_ret
      exact ⟨ret_bool (by first | exact e.out | (rw [← e.out]; symm; first | assumption | (apply beq_t; assumption))), rfl⟩
  by_cases h64 : 2112 ≤ k ∧ k ≤ 6144
  · obtain ⟨h2, h3⟩ := h64
    have e := Lib.hid (vkd (k := k) (m := 64) (by unfold VK; omega))
    clear h1
    go_enter Tryz.func119, Tryz.ntmps119
    go_wp2
    all_goals
      go_ret
      exact ⟨ret_bool (by first | exact e.out | (rw [← e.out]; symm; first | assumption | (apply beq_t; assumption))), rfl⟩
  omega
theorem ix_unique {n i : Nat} (hn : n ≤ 6144) (h1 : ∀ t, t < i → SZ t < n) (h2 : n ≤ SZ i) : ix n = i := by
  rcases Nat.lt_trichotomy i (ix n) with h4 | h4 | h4
  · have := ix_below h4 hn; omega
  · exact h4.symm
  · have := h1 _ h4
    have := ix_ge hn; omega
/-- as many sizes lie below k + 1 as below k, and one more if k is one -/
theorem ix_succ {k : Nat} (h : k ≤ 6144) : (VK (k : Int) → SZ (ix k) = k ∧ ix (k + 1) = ix k + 1) ∧ (¬ VK (k : Int) → ix (k + 1) = ix k) := by
  have a1 := ix_ge h
  have a2 := ix_lt h
  have a3 : ∀ t, t < ix k → SZ t < k := fun t ht => ix_below ht h
  constructor
  · intro hv
    have e : SZ (ix k) = k := by
      obtain ⟨j, hj, hk⟩ := vk_SZ hv
      have hk' : k = SZ j := by omega
      rcases Nat.lt_trichotomy j (ix k) with h4 | h4 | h4
      · have := a3 _ h4; omega
      · rw [← h4, hk']
      · have := SZ_mono h4; omega
    refine ⟨e, ?_⟩
    by_cases h5 : k = 6144
    · subst h5; decide
    · refine ix_unique (by omega) (fun t ht => ?_) ?_
      · have := SZ_le (show t ≤ ix k by omega); omega
      · have := SZ_mono (show ix k < ix k + 1 by omega); omega
  · intro hv
    have h5 : k ≠ 6144 := by rintro rfl; apply hv; unfold VK; omega
    have h6 : SZ (ix k) ≠ k := fun h9 => hv (by rw [← h9]; exact SZ_vk _ a2)
    exact ix_unique (by omega) (fun t ht => by have := a3 t ht; omega) (by omega)
def RsInv (w : World) (out k : Value) (wr : World) : Prop := ∃ (q : Nat) (A : Option Addr) (c : Nat), q ≤ 6145 ∧ k = .int .i64 q ∧ out = .slice A (ix q) c ∧ Own .i64 3 wr w.heap.size A (ix q) c (szL (ix q)) ∧ Below w.heap.size w wr
theorem vk_of_nx {q n : Nat} (hn : n ≤ 6144) (h1 : n ≤ q) (h2 : q ≤ nx n) : VK (q : Int) ↔ q = nx n := by
  constructor
  · intro h
    by_cases h3 : q = nx n
    · exact h3
    · exact absurd h (nx_not hn (by omega) (by omega))
  · rintro rfl; exact nx_vk hn
set_option maxRecDepth 100000 in
theorem rnext_ok (n : Nat) (w : World) (hn : n ≤ 6144) : Calls Tryz.prog 118 #[.int .i64 n] w fun e w' => e = .returned (.tuple #[.int .i64 (nx n : Int), .int .i64 0]) ∧ w = w' := by
  have hge := nx_ge hn
  have hle := nx_le hn
  have HV := Lib.hid (fun q h1 h2 => vk_of_nx (q := q) hn h1 h2)
  generalize nx n = N at *
  go_enter Tryz.func118, Tryz.ntmps118
  go_wp2
  go_loop [0] (fun k => ∃ q : Nat, n ≤ q ∧ q ≤ N ∧ k = .int .i64 q) (fun k => N - (intOf k).toNat)
  case atStart => exact ⟨n, Nat.le_refl _, hge, rfl⟩
  case round =>
    obtain ⟨q, h1, h2, rfl⟩ := hrel
    have hv := HV.out q h1 h2
    by_cases hq : q = N
    · have hd : decide (VK (q : Int)) = true := decide_eq_true (hv.2 hq)
      clear hv
      subst hq
      go_wp2_with (go_at_call 119; refine (rvalid_any _ _).mono ?_; rintro e w' ⟨rfl, rfl⟩; rw [hd])
      go_ret2
      exact ⟨rfl, rfl⟩
    · have hd : decide (VK (q : Int)) = false := decide_eq_false (fun h => hq (hv.1 h))
      clear hv
      go_wp2_with (go_at_call 119; refine (rvalid_any _ _).mono ?_; rintro e w' ⟨rfl, rfl⟩; rw [hd])
      go_round
      case rel => exact ⟨q + 1, by omega, by omega, by go_num⟩
      case measure => simp [intOf]; omega
set_option maxRecDepth 100000 in
theorem rnext_bad (n : Int) (w : World) (hn : n < 0 ∨ 6144 < n) : Calls Tryz.prog 118 #[.int .i64 n] w fun e w' => e = .returned (.tuple #[.int .i64 0, .int .i64 2]) ∧ w = w' := by
  rcases hn with h | h <;>
  · go_enter Tryz.func118, Tryz.ntmps118
    go_wp2
    go_ret2
    exact ⟨rfl, rfl⟩
end Go.Proofs.YtcbbkflnenkpgaaGreat
