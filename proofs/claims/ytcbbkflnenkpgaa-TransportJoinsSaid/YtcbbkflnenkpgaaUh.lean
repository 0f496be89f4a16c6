/-
  The circular buffer filled in stream by stream; contracts of its closures. Condition: a block size from 40 to 6144, fewer filler bits.
-/
import Derived.Test.YtcbbkflnenkpgaaUg
namespace Go.Proofs.Ytcbbkflnenkpgaa
open Go.RowKit
set_option linter.unusedVariables false
def pS (N s j : Nat) : Nat := if s = 0 then j else N + 2 * j + s - 1
theorem pS_lt {N s j : Nat} (hs : s ≤ 2) (hj : j < N) : pS N s j < 3 * N := by unfold pS; split <;> omega
theorem pS_iff {N s j x : Nat} (hs : s ≤ 2) (hj : j < N) (hx : x < 3 * N) : (sxN N x = s ∧ jxN N x = j) ↔ pS N s j = x := by
  unfold sxN jxN pS
  split <;> split <;> omega
theorem jxN_lt {N x : Nat} (hx : x < 3 * N) : jxN N x < N := by unfold jxN; split <;> omega
theorem sxN_le (N x : Nat) : sxN N x ≤ 2 := by unfold sxN; split <;> omega
/-- the streams before s are filled in, and the first j elements of s -/
def fuV (k f s j x : Nat) : Int := if sxN (nB k) x < s ∨ (sxN (nB k) x = s ∧ jxN (nB k) x < j) then vX k f x else 0
def fulS (k f s j : Nat) : List Int := (List.range (3 * nB k)).map (fuV k f s j)
theorem fulS_len (k f s j : Nat) : (fulS k f s j).length = 3 * nB k := by simp [fulS]
theorem fulS_gi (k f s j x : Nat) (h : x < 3 * nB k) : gi (fulS k f s j) x = fuV k f s j x := by
  rw [gi_eq _ _ (by rw [fulS_len]; exact h)]; simp [fulS]
theorem fulS_set {k f s j : Nat} (hs : s ≤ 2) (hj : j < nB k) : (fulS k f s j).set (pS (nB k) s j) (elV k f s (ordV (k + 4) s j)) = fulS k f s (j + 1) := by
  refine ext_gi (by simp [fulS_len]) fun x hx => ?_
  have hx' : x < 3 * nB k := by simpa [fulS_len] using hx
  rw [gi_set _ _ _ _ (by rw [fulS_len]; exact pS_lt hs hj), fulS_gi _ _ _ _ _ hx', fulS_gi _ _ _ _ _ hx']
  have hi := pS_iff hs hj hx'
  by_cases e : pS (nB k) s j = x
  · rw [if_pos e]
    obtain ⟨e1, e2⟩ := hi.2 e
    unfold fuV
    rw [if_pos (.inr ⟨e1, by omega⟩)]
    unfold vX
    rw [e1, e2]
  · rw [if_neg e]
    have h9 : ¬ (sxN (nB k) x = s ∧ jxN (nB k) x = j) := fun h => e (hi.1 h)
    unfold fuV
    by_cases h8 : sxN (nB k) x < s ∨ (sxN (nB k) x = s ∧ jxN (nB k) x < j)
    · rw [if_pos h8, if_pos (by omega)]
    · rw [if_neg h8, if_neg (by omega)]
theorem fulS_next (k f s : Nat) : fulS k f s (nB k) = fulS k f (s + 1) 0 := by
  refine ext_gi (by rw [fulS_len, fulS_len]) fun x hx => ?_
  rw [fulS_len] at hx
  rw [fulS_gi _ _ _ _ _ hx, fulS_gi _ _ _ _ _ hx]
  have := jxN_lt hx
  unfold fuV
  by_cases h8 : sxN (nB k) x < s + 1
  · rw [if_pos (by omega), if_pos (.inl h8)]
  · rw [if_neg (by omega), if_neg (by omega)]
theorem fulS_all (k f : Nat) : fulS k f 3 0 = bufL k f := by
  refine ext_gi (by rw [fulS_len, bufL, bufT_len]) fun x hx => ?_
  rw [fulS_len] at hx
  have := sxN_le (nB k) x
  rw [fulS_gi _ _ _ _ _ hx, bufL, bufT_gi _ _ _ _ hx]
  unfold fuV
  rw [if_pos (.inl (by omega))]
theorem fulS_none (k f : Nat) : fulS k f 0 0 = List.replicate (3 * nB k) 0 := by
  refine List.ext_getElem (by simp [fulS]) fun x h1 h2 => ?_
  simp [fulS, fuV]
set_option maxRecDepth 100000 in
theorem at0_any (s d SB DB : Nat) (i : Int) (w : World) (hS : Blk w SB 3 [.int .i64 s]) (hD : Blk w DB 3 [.int .i64 d]) (hs : s ≤ 2) (hd : d ≤ 6148) (h1 : 0 ≤ i) (h2 : i ≤ 7000) : Calls Try.prog 117 #[.int .i64 i, .pointer (some ⟨SB, 0, none⟩), .pointer (some ⟨DB, 0, none⟩)] w fun e w' => e = .returned (.int .i64 (((s * d : Nat) : Int) + i)) ∧ w = w' := by
  have c1 := hS.cell (j := 0) (v := .int .i64 s) rfl
  have c2 := hD.cell (j := 0) (v := .int .i64 d) rfl
  have hm : (s : Int) * (d : Int) = ((s * d : Nat) : Int) := by push_cast; rfl
  have hb : s * d ≤ 12296 := by have := Nat.mul_le_mul hs hd; omega
  generalize s * d = P at *
  go_enter Try.func117, Try.ntmps117
  go_wp2
  go_ret
  exact ⟨rfl, by trivial⟩
theorem at_lo {k f s : Nat} {i : Int} (h1 : 0 ≤ i) (h : s < 2 → (f : Int) ≤ i) : ((s * (k + 4) : Nat) : Int) + i = elV k f s i := by
  unfold elV
  rw [if_neg (by omega)]
theorem at_hi {k f s : Nat} {i : Int} (h : i < (f : Int)) (hs : s < 2) : elV k f s i = -1 := by
  unfold elV
  rw [if_pos (.inr ⟨hs, h⟩)]
set_option maxRecDepth 100000 in
theorem at1_any (k f s WB PB SB DB : Nat) (R Z : Value) (i : Int) (w : World) (hW : Blk w WB 122 [.int .i64 k, .int .i64 f, R, Z]) (hP : Blk w PB 105 [.func (.func 117) #[] #[.pointer (some ⟨SB, 0, none⟩), .pointer (some ⟨DB, 0, none⟩)]]) (hS : Blk w SB 3 [.int .i64 s]) (hD : Blk w DB 3 [.int .i64 ((k + 4 : Nat) : Int)]) (hs : s < 2) (hk : k ≤ 6144) (h1 : 0 ≤ i) (h2 : i ≤ 7000) :
    Calls Try.prog 118 #[.int .i64 i, .pointer (some ⟨WB, 0, none⟩), .pointer (some ⟨PB, 0, none⟩)] w fun e w' => e = .returned (.int .i64 (elV k f s i)) ∧ w = w' := by
  have c1 := hW.cell (j := 1) (v := .int .i64 f) rfl
  by_cases h : i < (f : Int)
  · rw [at_hi h hs]
    have q : decide (i < (f : Int)) = true := by simp [h]
    go_enter Try.func118, Try.ntmps118
    go_wp2
    go_ret
    exact ⟨rfl, by trivial⟩
  · have q : decide (i < (f : Int)) = false := by simp; omega
    have c2 := hP.cell (j := 0) (v := .func (.func 117) #[] #[.pointer (some ⟨SB, 0, none⟩), .pointer (some ⟨DB, 0, none⟩)]) rfl
    have HA := Lib.hid (at0_any s (k + 4) SB DB i w hS hD (by omega) (by omega) h1 h2)
    rw [at_lo (k := k) (f := f) (s := s) h1 (fun _ => by omega)] at HA
    go_enter Try.func118, Try.ntmps118
    go_wp2_with fail
    refine HA.out.mono ?_
    rintro e w' ⟨rfl, rfl⟩
    go_wp2
    go_ret
    exact ⟨rfl, by trivial⟩
end Go.Proofs.Ytcbbkflnenkpgaa
