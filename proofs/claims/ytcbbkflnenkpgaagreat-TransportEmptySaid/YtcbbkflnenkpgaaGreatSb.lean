/-
  Contracts of slices.BinarySearch over the block sizes, Next, Valid. Condition: none.
-/
import Derived.Test.YtcbbkflnenkpgaaGreatSa
namespace Go.Proofs.YtcbbkflnenkpgaaGreat
open Go.RowKit
set_option linter.unusedVariables false
def BsInv (n : Nat) (i j : Value) : Prop := ∃ p q : Nat, p ≤ q ∧ q ≤ 188 ∧ i = .int .i64 p ∧ j = .int .i64 q ∧ (∀ t, t < p → SZ t < n) ∧ (q < 188 → n ≤ SZ q)
def BsPost (n : Nat) (w : World) (e : Ending) (w' : World) : Prop := (∃ b : Bool, e = .returned (.tuple #[.int .i64 (ix n : Int), .bool b])) ∧ w = w'
set_option maxRecDepth 100000 in
set_option maxHeartbeats 800000 in
theorem bsearch_any (A : Option Addr) (c n : Nat) (w : World) (hn : n ≤ 6144) (h : Rd .i64 w A 188 c (szL 188)) :
    Calls Tryz.prog 90 #[.slice A 188 c, .int .i64 n] w (BsPost n w) := by
  have H := Lib.hid h
  clear h
  go_enter Tryz.func90, Tryz.ntmps90
  go_wp2
  go_loop [7, 8] (fun i j => BsInv n i j) (fun i j => (intOf j).toNat - (intOf i).toNat)
  case atStart => exact ⟨0, 188, by omega, by omega, rfl, rfl, fun t ht => by omega, fun h => by omega⟩
  case round =>
    obtain ⟨p, q, hpq, hq, rfl, rfl, h1, h2⟩ := hrel
    have H1 := Lib.hid h1
    have H2 := Lib.hid h2
    clear h1 h2
    by_cases hlt : p < q
    · have hm : (p + q) / 2 < 188 := by omega
      have hc := Rd.cell H.out hm
      rw [gi_szL _ _ hm] at hc
      have hix := fun W => Rdv.ixI H.out el34 hm .i64 (((p : Int) + q) / 2) (by omega) W
      have hml : p ≤ (p + q) / 2 ∧ (p + q) / 2 < q := by omega
      have hmi : ((p : Int) + q) / 2 = ((p + q) / 2 : Nat) := by omega
      have HMI := Lib.hid hmi
      clear hmi
      by_cases hs : SZ ((p + q) / 2) < n
      · have hd : decide ((SZ ((p + q) / 2) : Int) < (n : Int)) = true := by simp; exact hs
        go_wp2_with (go_at_call 124; refine (less_any _ _ _).mono ?_; rintro e w' ⟨rfl, rfl⟩; rw [hd])
        go_round
        case rel => exact ⟨(p + q) / 2 + 1, q, by omega, hq, by rw [HMI.out]; go_num, rfl, fun t ht => Nat.lt_of_le_of_lt (SZ_le (by omega)) hs, H2.out⟩
        case measure => simp [intOf]; omega
      · have hd : decide ((SZ ((p + q) / 2) : Int) < (n : Int)) = false := by simp; omega
        go_wp2_with (go_at_call 124; refine (less_any _ _ _).mono ?_; rintro e w' ⟨rfl, rfl⟩; rw [hd])
        go_round
        case rel => exact ⟨p, (p + q) / 2, by omega, by omega, rfl, by rw [HMI.out], H1.out, fun _ => by omega⟩
        case measure => simp [intOf]; omega
    · obtain rfl : p = q := by omega
      have e : p = ix n := by
        have h3 := ix_lt hn
        rcases Nat.lt_trichotomy p (ix n) with h4 | h4 | h4
        · have := ix_below h4 hn
          have := H2.out (by omega); omega
        · exact h4
        · have := H1.out _ h4
          have := ix_ge hn; omega
      have hm := ix_lt hn
      rw [← e] at hm
      have hc := Rd.cell H.out hm
      rw [gi_szL _ _ hm] at hc
      have hix := fun W => Rdv.ix H.out el34 hm .i64 W
      have HE := Lib.hid e
      clear e
      by_cases hs : SZ p = n
      · have hd : ((SZ p : Int) == (n : Int)) = true := beq_t (by omega)
        go_wp2
        go_ret2
        exact ⟨⟨_, by rw [← HE.out]; rfl⟩, rfl⟩
      · have hd : ((SZ p : Int) == (n : Int)) = false := beq_f (by omega)
        go_wp2_with (go_at_call 125; refine (nan1_any _ _).mono ?_; rintro e w' ⟨rfl, rfl⟩)
        go_ret2
        exact ⟨⟨_, by rw [← HE.out]; rfl⟩, rfl⟩
end Go.Proofs.YtcbbkflnenkpgaaGreat
