/-
  Both Splits in one form. Condition: bytes that lie in memory, at most 100000.
-/
import Derived.Test.YtcbbkflnenkpgaaSx
namespace Go.Proofs.Ytcbbkflnenkpgaa
open Go.RowKit CM
set_option linter.unusedVariables false
set_option maxRecDepth 100000 in
theorem rsplit_bad (A : Option Addr) (n c : Nat) (w : World) (hn : n ≤ 100000) (h : n < 1 ∨ 79560 < n) : Calls Try.prog 35 #[.slice A n c] w (SpBad 2 w) := by
  have HP := Lib.hid (fun W => rplan_bad (n : Int) W (by omega))
  simp only [ints8, zero7, List.map_cons, List.map_nil] at HP
  clear h
  go_enter Try.func35, Try.ntmps35
  go_wp2_with fail
  refine (HP.out _).mono ?_
  rintro e w1 ⟨rfl, hB1⟩
  have HB := Lib.hid (bal hB1 (.cells #[.int .i64 0, .int .i64 0, .int .i64 0, .int .i64 0, .int .i64 0, .int .i64 0, .int .i64 0] 23))
  clear hB1
  go_wp2
  go_ret2
  exact ⟨rfl, HB.out⟩
set_option maxRecDepth 100000 in
theorem rsplit_bit (A : Option Addr) (n c : Nat) (xs : List Int) (w : World) (hx : Rd .u8 w A n c xs) (h1 : 1 ≤ n) (h2 : n ≤ 79560) (hv : ValidB xs = false) : Calls Try.prog 35 #[.slice A n c] w (SpBad 3 w) := by
  have HP := Lib.hid (fun W => rplan_ok n W h1 h2)
  unfold RpPost LY at HP
  simp only [ints8, List.map_cons, List.map_nil] at HP
  have HX := Lib.hid hx
  go_enter Try.func35, Try.ntmps35
  go_wp2_with fail
  refine (HP.out _).mono ?_
  rintro e w1 ⟨rfl, hB1⟩
  have HB := Lib.hid (fun o => bal hB1 o)
  have hb := Lib.hid (fun o => right_any A n c xs (w1.alloc o) (Rdv.alloc (Rdv.below HX.out hB1) o))
  rw [hv] at hb
  clear hB1
  go_wp2_with fail
  refine (hb.out _).mono ?_
  rintro e w' ⟨rfl, rfl⟩
  go_wp2
  go_ret2
  exact ⟨rfl, HB.out _⟩
/-- the error of a Split -/
def sE (xs : List Int) : Int := if xs.length < 1 ∨ 79560 < xs.length then 2 else if ValidB xs = true then 0 else 3
/-- the blocks of a Split -/
def sD (xs : List Int) : List (List Int) := if sE xs = 0 then segs xs.length (List.replicate (fi xs.length) 0 ++ xs) (bC xs.length) else []
structure SpAllS (w : World) (xs : List Int) (w' : World) (A' : Option Addr) (n' c' : Nat) (L : List Sv) : Prop where
  b : BL w' w.heap.size A' c' L
  n : n' = L.length
  l : L.map (·.xs) = sD xs
  y : ∀ s ∈ L, Bit s.xs
  k : Below w.heap.size w w'
def SpAll (xs : List Int) (w : World) (e : Ending) (w' : World) : Prop := ∃ A' n' c' L, e = .returned (.tuple #[.slice A' n' c', .int .i64 (sE xs)]) ∧ SpAllS w xs w' A' n' c' L
theorem segB_bit {b : Nat} {d : List Int} (h : Bit d) : Bit (segB b d) := by
  unfold segB; split
  · exact h
  · exact bit_app h (bit_sum (by decide) h)
theorem segs_bit {b k : Nat} {full : List Int} (h : Bit full) : ∀ d ∈ segs b full k, Bit d := by
  intro d hd
  unfold segs at hd
  obtain ⟨i, _, rfl⟩ := List.mem_map.1 hd
  exact segB_bit (bit_take _ (bit_drop _ h))
theorem SpAll.bad {xs : List Int} {k : Int} {w w' : World} {e : Ending} (h : SpBad k w e w') (hk : sE xs = k) (h0 : k ≠ 0) : SpAll xs w e w' := by
  obtain ⟨rfl, hB⟩ := h
  exact ⟨none, 0, 0, [], by rw [hk], BL.nil _ _, rfl, by unfold sD; rw [if_neg (by rw [hk]; exact h0)]; rfl, by simp, hB⟩
theorem SpAll.ok {xs : List Int} {w w' : World} {A' : Option Addr} {c' : Nat} {L : List Sv} (hb : Bit xs) (hE : sE xs = 0) (hBL : BL w' w.heap.size A' c' L) (hxs : L.map (·.xs) = segs xs.length (List.replicate (fi xs.length) 0 ++ xs) (bC xs.length)) (hB : Below w.heap.size w w') : SpAll xs w (.returned (.tuple #[.slice A' L.length c', .int .i64 0])) w' := by
  refine ⟨A', L.length, c', L, by rw [hE], hBL, rfl, by unfold sD; rw [if_pos hE]; exact hxs, fun s hs => ?_, hB⟩
  have h1 : s.xs ∈ L.map (·.xs) := List.mem_map.2 ⟨s, hs, rfl⟩
  rw [hxs] at h1
  exact segs_bit (bit_app (bit_zeros _) hb) _ h1
theorem split_all (A : Option Addr) (n c : Nat) (xs : List Int) (w : World) (hx : Rd .u8 w A n c xs) (hy : Byt xs) : Calls Try.prog 34 #[.slice A n c] w (SpAll xs w) := by
  have hl := hx.len
  by_cases h : n < 1 ∨ 79560 < n
  · exact (split_bad A n c w h).mono fun e w' he => SpAll.bad he (by unfold sE; rw [hl, if_pos h]) (by decide)
  · by_cases hv : ValidB xs = true
    · have hE : sE xs = 0 := by unfold sE; rw [hl, if_neg h, if_pos hv]
      refine (split_ok A n c xs w hx (by omega) (by omega) hv).mono ?_
      rintro e w' ⟨A', c', L, rfl, hBL, hxs, hB⟩
      exact SpAll.ok (bit_of (fun x hx => (hy x hx).1) hv) hE hBL (by rw [hl]; exact hxs) hB
    · have hf : ValidB xs = false := by simpa using hv
      exact (split_bit A n c xs w hx (by omega) (by omega) hf).mono fun e w' he => SpAll.bad he (by unfold sE; rw [hl, if_neg h, if_neg hv]) (by decide)
theorem rsplit_all (A : Option Addr) (n c : Nat) (xs : List Int) (w : World) (hx : Rd .u8 w A n c xs) (hy : Byt xs) (hn : n ≤ 100000) : Calls Try.prog 35 #[.slice A n c] w (SpAll xs w) := by
  have hl := hx.len
  by_cases h : n < 1 ∨ 79560 < n
  · exact (rsplit_bad A n c w hn h).mono fun e w' he => SpAll.bad he (by unfold sE; rw [hl, if_pos h]) (by decide)
  · by_cases hv : ValidB xs = true
    · have hE : sE xs = 0 := by unfold sE; rw [hl, if_neg h, if_pos hv]
      have hb := bit_of (fun x hx => (hy x hx).1) hv
      refine (rsplit_ok A n c xs w hx (by omega) (by omega) hb).mono ?_
      rintro e w' ⟨A', c', L, rfl, hBL, hxs, hB⟩
      exact SpAll.ok hb hE hBL (by rw [hl]; exact hxs) hB
    · have hf : ValidB xs = false := by simpa using hv
      exact (rsplit_bit A n c xs w hx (by omega) (by omega) hf).mono fun e w' he => SpAll.bad he (by unfold sE; rw [hl, if_neg h, if_neg hv]) (by decide)
end Go.Proofs.Ytcbbkflnenkpgaa
