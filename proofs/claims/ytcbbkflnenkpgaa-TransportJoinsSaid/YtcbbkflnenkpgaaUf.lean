/-
  The circular buffer in plain Lean; contracts of the reference's element and Usable. Condition: a block size from 40 to 6144, fewer filler bits.
-/
import Derived.Test.YtcbbkflnenkpgaaUe
namespace Go.Proofs.Ytcbbkflnenkpgaa
open Go.RowKit
set_option linter.unusedVariables false
def elV (k f s : Nat) (i : Int) : Int := if i < 0 ∨ (s < 2 ∧ i < (f : Int)) then -1 else ((s * (k + 4) : Nat) : Int) + i
/-- of which stream the element at place x is, and which element of it -/
def sxN (N x : Nat) : Nat := if x < N then 0 else (x - N) % 2 + 1
def jxN (N x : Nat) : Nat := if x < N then x else (x - N) / 2
def nB (k : Nat) : Nat := 32 * rwS (k + 4)
def vX (k f x : Nat) : Int := elV k f (sxN (nB k) x) (ordV (k + 4) (sxN (nB k) x) (jxN (nB k) x))
def bufT (k f n : Nat) : List Int := (List.range n).map (vX k f)
def bufL (k f : Nat) : List Int := bufT k f (3 * nB k)
theorem bufT_len (k f n : Nat) : (bufT k f n).length = n := by simp [bufT]
theorem bufT_succ (k f n : Nat) : bufT k f (n + 1) = bufT k f n ++ [vX k f n] := by simp [bufT, List.range_succ]
theorem bufT_gi (k f n x : Nat) (h : x < n) : gi (bufT k f n) x = vX k f x := by
  rw [gi_eq _ _ (by rw [bufT_len]; exact h)]; simp [bufT]
theorem nB_le {k : Nat} (h : k ≤ 6144) : nB k ≤ 6176 := by unfold nB; have := rwS_le (d := k + 4) (by omega); omega
theorem nB_pos {k : Nat} : 1 ≤ nB k := by unfold nB; have := rwS_pos (d := k + 4) (by omega); omega
theorem mxV_bd {d m : Nat} (hm : m < 32 * rwS d) : -1 ≤ mxV d m ∧ mxV d m < (d : Int) := by
  unfold mxV
  have := rwS_ge d
  split <;> omega
theorem ordV_bd {d s k : Nat} (hd : 1 ≤ d) : -1 ≤ ordV d s k ∧ ordV d s k < (d : Int) := mxV_bd (mx0_lt (Nat.mod_lt _ (by have := rwS_pos hd; omega)))
/-- how many are usable -/
def usC (xs : List Int) : Nat := (xs.filter fun x => decide (0 ≤ x)).length
theorem usC_snoc (xs : List Int) (x : Int) : usC (xs ++ [x]) = usC xs + if 0 ≤ x then 1 else 0 := by
  unfold usC
  rw [List.filter_append, List.length_append]
  by_cases h : 0 ≤ x
  · simp [h]
  · simp [h]
theorem usC_le (xs : List Int) : usC xs ≤ xs.length := List.length_filter_le _ _
theorem vX_lo {k f j : Nat} (h : j < nB k) : vX k f j = elV k f 0 (ordV (k + 4) 0 j) := by
  unfold vX sxN jxN
  rw [if_pos h, if_pos h]
theorem vX_hi {k f j : Nat} : vX k f (nB k + 2 * j) = elV k f 1 (ordV (k + 4) 1 j) ∧ vX k f (nB k + 2 * j + 1) = elV k f 2 (ordV (k + 4) 2 j) := by
  unfold vX sxN jxN
  constructor
  · rw [if_neg (by omega), if_neg (by omega), show (nB k + 2 * j - nB k) % 2 + 1 = 1 by omega, show (nB k + 2 * j - nB k) / 2 = j by omega]
  · rw [if_neg (by omega), if_neg (by omega), show (nB k + 2 * j + 1 - nB k) % 2 + 1 = 2 by omega, show (nB k + 2 * j + 1 - nB k) / 2 = j by omega]
set_option maxRecDepth 100000 in
theorem elem_any (k f s : Nat) (i : Int) (w : World) (hk : k ≤ 6144) (hs : s ≤ 2) (h1 : -1 ≤ i) (h2 : i ≤ 7000) : Calls Try.prog 89 #[.int .i64 k, .int .i64 f, .int .i64 s, .int .i64 i] w fun e w' => e = .returned (.int .i64 (elV k f s i)) ∧ w = w' := by
  by_cases h : i < 0
  · have e : elV k f s i = -1 := by unfold elV; rw [if_pos (.inl h)]
    have q : decide (i < 0) = true := by simp [h]
    rw [e]
    go_enter Try.func89, Try.ntmps89
    go_wp2
    go_ret
    exact ⟨rfl, by trivial⟩
  · have q : decide (i < 0) = false := by simp; omega
    by_cases h3 : s < 2 ∧ i < (f : Int)
    · have e : elV k f s i = -1 := by unfold elV; rw [if_pos (.inr h3)]
      have q2 : decide ((s : Int) < 2) = true := by simp; omega
      have q3 : decide (i < (f : Int)) = true := by simp [h3.2]
      rw [e]
      go_enter Try.func89, Try.ntmps89
      go_wp2
      go_ret
      exact ⟨rfl, by trivial⟩
    · have e : elV k f s i = ((s * (k + 4) : Nat) : Int) + i := by unfold elV; rw [if_neg (by omega)]
      have hm : (s : Int) * ((k : Int) + 4) = ((s * (k + 4) : Nat) : Int) := by push_cast; rfl
      have hb : s * (k + 4) ≤ 12296 := by
        have := Nat.mul_le_mul hs (show k + 4 ≤ 6148 by omega); omega
      rw [e]
      by_cases h4 : s < 2
      · have q2 : decide ((s : Int) < 2) = true := by simp; omega
        have q3 : decide (i < (f : Int)) = false := by simp; omega
        generalize ((s * (k + 4) : Nat)) = P at *
        go_enter Try.func89, Try.ntmps89
        go_wp2
        go_ret
        exact ⟨rfl, by trivial⟩
      · have q2 : decide ((s : Int) < 2) = false := by simp; omega
        generalize ((s * (k + 4) : Nat)) = P at *
        go_enter Try.func89, Try.ntmps89
        go_wp2
        go_ret
        exact ⟨rfl, by trivial⟩
def UsI (w : World) (n : Nat) (xs : List Int) (c i : Value) (wr : World) : Prop := ∃ j : Nat, j ≤ n ∧ i = .int .i64 j ∧ c = .int .i64 (usC (xs.take j)) ∧ Qt w wr
set_option maxRecDepth 100000 in
theorem rus_any (A : Option Addr) (n c : Nat) (xs : List Int) (w : World) (hx : Rd .i64 w A n c xs) (hn : n ≤ 100000) : Calls Try.prog 55 #[.slice A n c] w fun e w' => e = .returned (.int .i64 (usC xs)) ∧ Qt w w' := by
  have hl := hx.len
  go_enter Try.func55, Try.ntmps55
  go_wp2
  go_loopw [3, 4] (fun c i wr => UsI w n xs c i wr) (fun _ i _ => n - (intOf i).toNat)
  case atStart => exact ⟨0, Nat.zero_le _, rfl, rfl, 0, rfl⟩
  case round =>
    obtain ⟨j, hj, rfl, rfl, q0, rfl⟩ := hrel
    by_cases hlt : j < n
    · have hc := Rd.cell hx hlt
      have hix := fun W => Rdv.ix hx el34 hlt .i64 W
      have hsn := usC_snoc (xs.take j) (gi xs j)
      have hle := usC_le (xs.take j)
      rw [List.length_take] at hle
      have htk : xs.take (j + 1) = xs.take j ++ [gi xs j] := by rw [List.take_succ_eq_append_getElem (by omega), gi_eq _ _ (by omega)]
      rw [← htk] at hsn
      have HSN := Lib.hid hsn
      clear hsn htk
      generalize gi xs j = x at *
      generalize usC (xs.take j) = u at *
      by_cases h0 : 0 ≤ x
      · go_wp2
        go_roundw
        case rel => exact ⟨j + 1, by omega, by go_num, by rw [HSN.out, if_pos h0]; push_cast; rfl, by first | exact ⟨_, rfl⟩ | exact Qt.drewN ⟨_, rfl⟩ _⟩
        case measure => simp [intOf]; omega
      · go_wp2
        go_roundw
        case rel => exact ⟨j + 1, by omega, by go_num, by rw [HSN.out, if_neg h0]; rfl, by first | exact ⟨_, rfl⟩ | exact Qt.drewN ⟨_, rfl⟩ _⟩
        case measure => simp [intOf]; omega
    · obtain rfl : j = n := by omega
      rw [List.take_of_length_le (by omega)]
      go_wp2
      go_ret
      exact ⟨rfl, by first | exact ⟨_, rfl⟩ | exact Qt.drewN ⟨_, rfl⟩ _⟩
end Go.Proofs.Ytcbbkflnenkpgaa
