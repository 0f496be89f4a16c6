/-
  Both Joins in one form. Condition: a list of rows of bytes that lies in memory, each of at most 100000.
-/
import Derived.Test.YtcbbkflnenkpgaaTa
namespace Go.Proofs.Ytcbbkflnenkpgaa
open Go.RowKit CM
set_option linter.unusedVariables false
/-- the error of a Join -/
def jE (b : Int) (L : List Sv) : Int := if b < 1 ∨ 79560 < b then 2 else jErr b.toNat L
/-- the bits of a Join -/
def jR (b : Int) (L : List Sv) : List Int := if b < 1 ∨ 79560 < b then [] else jRes b.toNat L
def JAll (b : Int) (L : List Sv) (w : World) (e : Ending) (w' : World) : Prop := ∃ A' n' c', e = .returned (.tuple #[.slice A' n' c', .int .i64 (jE b L)]) ∧ Rd .u8 w' A' n' c' (jR b L) ∧ Below w.heap.size w w'
theorem jbad_all {b : Int} {L : List Sv} {w w' : World} {e : Ending} (h : JBad 2 w e w') (hb : b < 1 ∨ 79560 < b) : JAll b L w e w' := by
  obtain ⟨rfl, hB⟩ := h
  refine ⟨none, 0, 0, by rw [jE, if_pos hb], ?_, hB⟩
  rw [jR, if_pos hb]
  exact Rd.nilv _ _
theorem jpost_all {b : Int} {L : List Sv} {w w' : World} {e : Ending} (h : JPost b.toNat L w e w') (hb : ¬ (b < 1 ∨ 79560 < b)) : JAll b L w e w' := by
  obtain ⟨A', n', c', rfl, hR, hB⟩ := h
  refine ⟨A', n', c', by rw [jE, if_neg hb], ?_, hB⟩
  rw [jR, if_neg hb]
  exact hR
theorem join_all (b : Int) (A : Option Addr) (n c : Nat) (L : List Sv) (w : World) (hL : RL w A n c L) (hs : ∀ s ∈ L, s.n ≤ 100000) : Calls Try.prog 37 #[.int .i64 b, .slice A n c] w (JAll b L w) := by
  by_cases hb : b < 1 ∨ 79560 < b
  · exact (join_bad b A n c w hb).mono fun e w' he => jbad_all he hb
  · have h := join_any b.toNat A n c L w (by omega) (by omega) hL hs
    rw [show ((b.toNat : Nat) : Int) = b by omega] at h
    exact h.mono fun e w' he => jpost_all he hb
theorem rjoin_all (b : Int) (A : Option Addr) (n c : Nat) (L : List Sv) (w : World) (hL : RL w A n c L) (hs : ∀ s ∈ L, s.n ≤ 100000) (hy : ∀ s ∈ L, Byt s.xs) : Calls Try.prog 38 #[.int .i64 b, .slice A n c] w (JAll b L w) := by
  by_cases hb : b < 1 ∨ 79560 < b
  · exact (rjoin_bad b A n c w hb).mono fun e w' he => jbad_all he hb
  · have h := rjoin_any b.toNat A n c L w (by omega) (by omega) hL hs hy
    rw [show ((b.toNat : Nat) : Int) = b by omega] at h
    exact h.mono fun e w' he => jpost_all he hb
end Go.Proofs.Ytcbbkflnenkpgaa
