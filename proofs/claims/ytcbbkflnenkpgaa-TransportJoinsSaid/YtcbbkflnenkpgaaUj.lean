/-
  Contracts of the rate matcher's of, buffer, Buffer and Usable, and of what they call of package slices. Condition: a block size from 40 to 6144, fewer filler bits, a limit of at least 1.
-/
import Derived.Test.YtcbbkflnenkpgaaUi
import Derived.Lib.SliceRun
namespace Go.Proofs.Ytcbbkflnenkpgaa
open Go.RowKit
set_option linter.unusedVariables false
theorem info122 : (Try.prog.info? 122).map (·.size) = some 4 := by kernel_rfl
theorem res122 {W : World} {b : Nat} {m : List Int} (h : Blk W b 122 (ints8 m)) (hl : m.length = 4) : (loadVar 122 ⟨b, 0, none⟩).run Try.prog W = .ok (.agg (ints8 m).toArray) W :=
  run_loadVar_row (P := Try.prog) W b 122 122 _ (0, 0) _ h Try.underlying122 rfl (by rw [info122]; simp [ints8, hl])
theorem szB_bd (k : Nat) {lim : Int} (h : 1 ≤ lim) : 1 ≤ szB k lim ∧ szB k lim ≤ 3 * nB k := by
  have := nB_pos (k := k)
  unfold szB
  split <;> omega
set_option maxRecDepth 100000 in
set_option maxHeartbeats 1000000 in
theorem rof_ok (k f : Nat) (lim : Int) (w : World) (h1 : 40 ≤ k) (h2 : k ≤ 6144) (hf : f < k) (hl : 1 ≤ lim) : Calls Try.prog 101 #[.int .i64 k, .int .i64 f, .int .i64 lim] w fun e w' => e = .returned (.tuple #[.agg #[.int .i64 k, .int .i64 f, .int .i64 (rwS (k + 4)), .int .i64 (szB k lim)], .int .i64 0]) ∧ Below w.heap.size w w' := by
  have HR := Lib.hid (fun W => crows_any (k + 4) W (by omega) (by omega))
  have hsz : szB k lim = if lim ≤ ((3 * nB k : Nat) : Int) then lim.toNat else 3 * nB k := rfl
  have hN := nB_le h2
  have hNR : nB k = 32 * rwS (k + 4) := rfl
  generalize szB k lim = Z at *
  generalize nB k = N at *
  generalize rwS (k + 4) = R at *
  push_cast at HR
  have q1 : decide ((k : Int) < 40) = false := by simp; omega
  have q2 : decide ((6144 : Int) < (k : Int)) = false := by simp; omega
  have q3 : decide ((f : Int) < 0) = false := by simp
  have q4 : decide ((k : Int) ≤ (f : Int)) = false := by simp; omega
  have q5 : decide (lim < 1) = false := by simp; omega
  have hmin : min lim (96 * (R : Int)) = (Z : Int) := by rw [hsz]; split <;> omega
  have hwm : IntKind.i64.wrap (96 * (R : Int)) = 96 * (R : Int) := by rw [IntKind.wrap_i64]; omega
  by_cases hlim : lim ≤ 96 * (R : Int)
  · have hz : lim = (Z : Int) := by rw [hsz]; split <;> omega
    clear hsz hNR hmin
    go_enter Try.func101, Try.ntmps101
    go_wp2_with (go_at_call 114; refine (HR.out _).mono ?_; rintro e w1 ⟨rfl, rfl⟩)
    refine bodyPost_ret (v := .tuple #[.agg #[.int .i64 k, .int .i64 f, .int .i64 R, .int .i64 Z], .int .i64 0]) ?_ rfl ⟨rfl, bal (Below.refl _ w) _⟩
    have l1 := res122 (m := [(k : Int), f, R, Z]) (Blk.new w (ints8 [(k : Int), f, R, Z]) 122 rfl) rfl
    simp only [ints8, List.map_cons, List.map_nil] at l1
    rw [results_ct rfl]
    simp [Act.put, asAddr, l1, Sem.run_pure, Result.andThen]
  · have hz : 96 * (R : Int) = (Z : Int) := by rw [hsz]; split <;> omega
    have hlz : (Z : Int) < lim := by omega
    have hZb : Z ≤ 20000 := by omega
    clear hlim
    clear hsz hNR hmin
    go_enter Try.func101, Try.ntmps101
    go_wp2_with (go_at_call 114; refine (HR.out _).mono ?_; rintro e w1 ⟨rfl, rfl⟩)
    refine bodyPost_ret (v := .tuple #[.agg #[.int .i64 k, .int .i64 f, .int .i64 R, .int .i64 Z], .int .i64 0]) ?_ rfl ⟨rfl, bal (Below.refl _ w) _⟩
    have l1 := res122 (m := [(k : Int), f, R, Z]) (Blk.new w (ints8 [(k : Int), f, R, Z]) 122 rfl) rfl
    simp only [ints8, List.map_cons, List.map_nil] at l1
    rw [results_ct rfl]
    simp [Act.put, asAddr, l1, Sem.run_pure, Result.andThen]
set_option maxRecDepth 100000 in
theorem buf0_ok (k f Z : Nat) (w : World) (h1 : 40 ≤ k) (h2 : k ≤ 6144) (hZ : Z ≤ 3 * nB k) : Calls Try.prog 102 #[.agg #[.int .i64 k, .int .i64 f, .int .i64 (rwS (k + 4)), .int .i64 Z]] w fun e w' => ∃ A, e = .returned (.slice A Z (3 * nB k)) ∧ Rd .i64 w' A Z (3 * nB k) ((bufL k f).take Z) ∧ Below w.heap.size w w' := by
  have HF := Lib.hid (fun W => full_any k f Z W h1 h2)
  have hN := nB_le h2
  generalize nB k = N at *
  generalize rwS (k + 4) = R at *
  obtain ⟨WB, hWB⟩ : ∃ B, B = w.heap.size := ⟨_, rfl⟩
  obtain ⟨W0, hW0⟩ : ∃ W, W = w.alloc (.cells #[.int .i64 k, .int .i64 f, .int .i64 R, .int .i64 Z] 122) := ⟨_, rfl⟩
  have hw0 : Blk W0 WB 122 [.int .i64 k, .int .i64 f, .int .i64 R, .int .i64 Z] := by rw [hW0, hWB]; exact Blk.new w [.int .i64 k, .int .i64 f, .int .i64 R, .int .i64 Z] 122 rfl
  have hb0 : Below w.heap.size w W0 := by rw [hW0]; exact bal (Below.refl _ w) _
  have HW := Lib.hid (hw0.drew)
  go_enter Try.func102, Try.ntmps102
  go_wp2_with fail
  rw [← hWB, ← hW0]
  clear hWB hW0 hw0
  refine wp_nopanic ?_
  refine P_start (fun W => Blk W WB 122 [.int .i64 k, .int .i64 f, .int .i64 R, .int .i64 Z]) 5 6 #[false, false, false, false, false, false] (by kernel_rfl) (by kernel_rfl) (by kernel_rfl) ?_
  refine P_take 0 3 (.agg #[.int .i64 k, .int .i64 f, .int .i64 R, .int .i64 Z]) #[true, false, false, false, false, false] rfl rfl (by kernel_rfl) (by kernel_rfl) (by kernel_rfl) (by kernel_rfl) (by kernel_rfl) (by kernel_rfl) (by decide) (fun _ _ _ h => h) (yieldsIf_load_mid rfl 122 (.tmp 1) rfl WB 0 rfl [.int .i64 k, .int .i64 f, .int .i64 R, .int .i64 Z] _ (fun W hS j v hj => by rw [Nat.zero_add]; exact Blk.cell hS hj) Try.underlying122 rfl info122) HW.out ?_
  simp only [List.setIfInBounds_toArray, List.set_cons_zero, List.set_cons_succ]
  refine P_takeW 2 5 (.pointer (some ⟨WB, 3, none⟩)) #[true, false, true, false, false, false] rfl rfl (by kernel_rfl) (by kernel_rfl) (by kernel_rfl) (by kernel_rfl) (by decide) (fun _ _ _ h => h) (Or.inl ⟨by rfl, fun W hS => by go_simp⟩) HW.out ?_
  simp only [List.setIfInBounds_toArray, List.set_cons_zero, List.set_cons_succ]
  refine P_take 3 6 (.int .i64 (Z : Int)) #[true, false, true, true, false, false] rfl rfl (by kernel_rfl) (by kernel_rfl) (by kernel_rfl) (by kernel_rfl) (by kernel_rfl) (by kernel_rfl) (by decide) (fun _ _ _ h => h) (Or.inl ⟨by rfl, fun W hS => by have s0 := Blk.cell hS (j := 3) (v := .int .i64 Z) rfl; go_simp⟩) HW.out ?_
  simp only [List.setIfInBounds_toArray, List.set_cons_zero, List.set_cons_succ]
  refine P_oneS 1 #[true, true, true, true, false, false] rfl (by kernel_rfl) (by kernel_rfl) rfl (fun K hK => ?_)
  go_simp
  refine (HF.out _).mono ?_
  rintro e w5 ⟨A, rfl, hO5, hB5⟩
  have hB5' := (Below.refl w.heap.size W0).drew.trans (hB5.mono (by have := hb0.size; exact this))
  have HW5 := Lib.hid (HW.out.below hB5)
  have HO5 := Lib.hid hO5
  have HB5 := Lib.hid (hb0.trans hB5')
  have hsl := fun W => Rdv.slh (Own.rd hO5) el34 .i64 (m := Z) (by omega) W
  clear hO5 hB5 hB5'
  refine hK _ _ HW5.out ?_
  clear hK K
  refine P_takeW 4 7 (.slice A Z (3 * N)) #[true, true, true, true, true, false] rfl rfl (by kernel_rfl) (by kernel_rfl) (by kernel_rfl) (by kernel_rfl) (by decide) (fun _ _ _ h => h) (Or.inl ⟨by rfl, fun W hS => by go_simp⟩) HW5.out ?_
  simp only [List.setIfInBounds_toArray, List.set_cons_zero, List.set_cons_succ]
  refine P_one 5 #[true, true, true, true, true, true] rfl (by kernel_rfl) (by kernel_rfl) rfl (by kernel_rfl) (fun K hK => ?_)
  go_simp
  refine hK _ _ ?_
  clear hK K
  refine P_done (by kernel_rfl) ?_ _
  refine noPanic_normal ?_
  go_wp2
  go_ret
  exact ⟨A, rfl, Rd.upto (Own.rd HO5.out) (by omega), HB5.out⟩
theorem cloneI_any (A : Option Addr) (n c : Nat) (xs : List Int) (w : World) (h : Rd .i64 w A n c xs) (hn : n ≤ 200000) :
    Calls Try.prog 51 #[.slice A n c] w fun e w' => ∃ A' c', e = .returned (.slice A' n c') ∧ Own .i64 3 w' w.heap.size A' n c' xs ∧ Below w.heap.size w w' := by
  have e1 := fun W => Lib.run_eql_slice_nil (P := Try.prog) W 34 3 A n c 0 0 el34.u
  cases A with
  | none =>
    have hc := h.nil rfl
    have hnc := h.le
    obtain rfl : n = 0 := by omega
    subst hc
    obtain rfl : xs = [] := List.eq_nil_of_length_eq_zero h.len
    go_enter Try.func51, Try.ntmps51
    go_wp2
    go_ret
    exact ⟨none, 0, rfl, Own.nilv .i64 3 w _, Below.refl _ _⟩
  | some ad =>
    have h1 := Rdv.alloc h (.cells #[] 3)
    have hO0 : Ownv 3 (w.alloc (.cells #[] 3)) w.heap.size (some ⟨w.heap.size, 0, none⟩) 0 0 [] := Ownv.lit w #[] 3 rfl (Nat.le_refl _) (Nat.zero_le _)
    go_enter Try.func51, Try.ntmps51
    go_wp2_with (at_builtin; go_loud (refine list_of rfl fun K hK => wp_app _ _ 34 rfl el34 rfl rfl hO0 h1 (oneCell_ints .i64 xs) (by omega) (by unfold maxLen; omega) (by simp) ?_); intro A' c' w' hO hg; refine hK _ _ ?_; clear hK K)
    go_ret
    exact ⟨A', c', ret_sl rfl rfl rfl, Own.of_eq hO (Nat.zero_add n) (List.nil_append _), (Below.refl _ _).grown (grownBy_of_alloc hg) (Nat.le_refl _) (by simp [Value.ownBlock])⟩
set_option maxRecDepth 100000 in
theorem buffer_ok (k f : Nat) (lim : Int) (w : World) (h1 : 40 ≤ k) (h2 : k ≤ 6144) (hf : f < k) (hl : 1 ≤ lim) : Calls Try.prog 84 #[.int .i64 k, .int .i64 f, .int .i64 lim] w fun e w' => ∃ A c, e = .returned (.tuple #[.slice A (szB k lim) c, .int .i64 0]) ∧ Own .i64 3 w' w.heap.size A (szB k lim) c ((bufL k f).take (szB k lim)) ∧ Below w.heap.size w w' := by
  have HOF := Lib.hid (fun W => rof_ok k f lim W h1 h2 hf hl)
  have hzb := szB_bd k hl
  have HBF := Lib.hid (fun W => buf0_ok k f (szB k lim) W h1 h2 hzb.2)
  have hN := nB_le h2
  generalize szB k lim = Z at *
  generalize nB k = N at *
  generalize rwS (k + 4) = R at *
  go_enter Try.func84, Try.ntmps84
  go_wp2_with fail
  refine (HOF.out _).mono ?_
  rintro e w1 ⟨rfl, hB1⟩
  have HL := Lib.hid (Blk.new w1 [.int .i64 k, .int .i64 f, .int .i64 R, .int .i64 Z] 122 rfl)
  have HB1 := Lib.hid (bal hB1 (.cells #[.int .i64 k, .int .i64 f, .int .i64 R, .int .i64 Z] 122))
  have hL := HL.out
  clear hB1
  go_wp2_with (refine ldrow (cs := [.int .i64 k, .int .i64 f, .int .i64 R, .int .i64 Z]) rfl 122 (.tmp 8) rfl rfl hL _ Try.underlying122 rfl info122 ?_)
  clear hL
  refine (HBF.out _).mono ?_
  rintro e w2 ⟨A, rfl, hR, hB2⟩
  have HR := Lib.hid hR
  have HB2 := Lib.hid (HB1.out.trans (hB2.mono HB1.out.size))
  clear hR hB2
  go_wp2_with fail
  refine (cloneI_any A Z _ _ w2 HR.out (by omega)).mono ?_
  rintro e w3 ⟨A', c', rfl, hO, hB3⟩
  have HO := Lib.hid hO
  have HB3 := Lib.hid (HB2.out.trans (hB3.mono HB2.out.size))
  have HS := Lib.hid HB2.out.size
  clear hO hB3
  go_wp2
  go_ret2
  exact ⟨A', c', rfl, Ownv.mono HO.out HS.out, HB3.out⟩
end Go.Proofs.Ytcbbkflnenkpgaa
