/-
  Contracts of slices.Grow, slices.Concat. Condition: slices that lie in memory.
-/
import Derived.Test.YtmdjclfmhndjnaaCg
namespace Go.Proofs.Ytmdjclfmhndjnaa
open Go.RowKit
set_option linter.unusedVariables false
theorem grow_any (n : Nat) (w : World) (hn : n ≤ 1000000) :
    Calls Try.prog 56 #[.slice none 0 0, .int .i64 n] w fun e w' => ∃ A' c', e = .returned (.slice A' 0 c') ∧ Ownv 5 w' w.heap.size A' 0 c' [] ∧ Below w.heap.size w w' := by
  by_cases h0 : n = 0
  · subst h0
    go_enter Try.func56, Try.ntmps56
    go_wp2
    go_ret
    exact ⟨none, 0, rfl, Ownv.nilv 5 w _, Below.refl _ _⟩
  · have h1 : (0 : Int) < (n : Int) := by omega
    go_enter Try.func56, Try.ntmps56
    go_wp2_with (at_builtin; go_loud (refine list_of rfl fun K hK => wp_appz _ _ 26 3 rfl el26 (kn := .i64) (by kernel_rfl) rfl n rfl rfl rfl (Ownv.nilv 5 w w.heap.size) (by omega) (by omega) (Nat.le_refl _) ?_); intro A' c' w' hO hg; have hsl := fun W => Rdv.slh hO.rd el26 .i64 (Nat.zero_le c') W; refine hK _ _ ?_; clear hK K)
    go_ret
    exact ⟨A', c', rfl, Ownv.upto hO (Nat.zero_le _), (Below.refl _ _).grown hg (Nat.le_refl _) (by simp [Value.ownBlock])⟩
theorem el100 : El Try.prog 100 26 (.slice none 0 0) 24 := ⟨by kernel_rfl, by kernel_rfl, fun _ => by kernel_rfl, rfl⟩
/-- A slice value and what it reads as. -/
structure Sv where
  A : Option Addr
  n : Nat
  c : Nat
  xs : List Int
def Sv.v (s : Sv) : Value := .slice s.A s.n s.c
def flat (L : List Sv) (j : Nat) : List Int := (L.take j).flatMap (·.xs)
def tot (L : List Sv) (j : Nat) : Nat := ((L.take j).map (·.n)).sum
theorem take_get {L : List Sv} {j : Nat} {s : Sv} (h : L[j]? = some s) : L.take (j + 1) = L.take j ++ [s] := by
  rw [List.take_add_one, h]; rfl
theorem flat_succ {L : List Sv} {j : Nat} {s : Sv} (h : L[j]? = some s) : flat L (j + 1) = flat L j ++ s.xs := by
  unfold flat; rw [take_get h, List.flatMap_append]; simp
theorem tot_succ {L : List Sv} {j : Nat} {s : Sv} (h : L[j]? = some s) : tot L (j + 1) = tot L j + s.n := by
  unfold tot; rw [take_get h, List.map_append, List.sum_append]; simp
theorem tot_le {L : List Sv} {j k : Nat} (h : j ≤ k) : tot L j ≤ tot L k := by
  induction k with
  | zero => obtain rfl : j = 0 := by omega
            exact Nat.le_refl _
  | succ k ih =>
    by_cases hj : j = k + 1
    · subst hj; exact Nat.le_refl _
    · refine Nat.le_trans (ih (by omega)) ?_
      unfold tot
      rw [List.take_add_one, List.map_append, List.sum_append]; omega
def Cc1 (L : List Sv) (n : Nat) (sz i : Value) : Prop := ∃ j : Nat, j ≤ n ∧ i = .int .i64 j ∧ sz = .int .i64 (tot L j : Int)
def Cc2 (w1 : World) (B : Nat) (L : List Sv) (n : Nat) (out i : Value) (wr : World) : Prop := ∃ (j : Nat) (A : Option Addr) (c : Nat), j ≤ n ∧ i = .int .i64 j ∧ out = .slice A (tot L j) c ∧ Own .u8 5 wr B A (tot L j) c (flat L j) ∧ Below w1.heap.size w1 wr
set_option maxHeartbeats 800000 in
theorem concat_any (A : Option Addr) (n c : Nat) (L : List Sv) (w : World) (h : Rdv w A n c (L.map Sv.v)) (hs : ∀ s ∈ L, Rd .u8 w s.A s.n s.c s.xs) (ht : tot L n ≤ 1000000) :
    Calls Try.prog 42 #[.slice A n c] w fun e w' => ∃ A' c', e = .returned (.slice A' (tot L n) c') ∧ Own .u8 5 w' w.heap.size A' (tot L n) c' (flat L n) ∧ Below w.heap.size w w' := by
  have hbd := h.bd.1
  have hl := h.len
  rw [List.length_map] at hl
  have HL := Lib.hid hl; clear hl
  have hget : ∀ j, j < n → ∃ s, L[j]? = some s ∧ w.cell? (adr A j) = some (.slice s.A s.n s.c) ∧ Rd .u8 w s.A s.n s.c s.xs := fun j hj => by
    have hj' : j < L.length := by rw [HL.out]; exact hj
    exact ⟨L[j], List.getElem?_eq_getElem hj', h.at_ j _ (by simp [hj', Sv.v]), hs _ (List.getElem_mem hj')⟩
  have HG := Lib.hid hget; clear hget hs
  go_enter Try.func42, Try.ntmps42
  go_wp2
  go_loop [3, 11] (fun sz i => Cc1 L n sz i) (fun _ i => n - (intOf i).toNat)
  case atStart => exact ⟨0, by omega, rfl, rfl⟩
  case round =>
    obtain ⟨j, hj, rfl, rfl⟩ := hrel
    by_cases hlt : j < n
    · obtain ⟨s, hs, hc, hR⟩ := HG.out j hlt
      have hix := fun W => Rdv.ix h el100 hlt .i64 W
      have hts := tot_succ hs
      have htl := tot_le (L := L) (show j + 1 ≤ n by omega)
      have HTS := Lib.hid hts
      have HS := Lib.hid hs
      have hb3 : tot L j + s.n ≤ 1000000 := by omega
      clear hts hs
      go_wp2
      go_round
      case rel => exact ⟨j + 1, by omega, by go_num, by rw [HTS.out]; go_num⟩
      case measure => simp [intOf]; omega
    · obtain rfl : j = n := by omega
      go_wp2_with (go_at_call 56; refine (grow_any _ _ (by omega)).mono ?_; rintro e w1 ⟨A1, c1, rfl, hO1, hB1⟩)
      go_loopw [6, 27] (fun out i wr => Cc2 w w.heap.size L j out i wr) (fun _ i _ => j - (intOf i).toNat)
      case atStart => exact ⟨0, A1, c1, by omega, rfl, rfl, Own.of_eq hO1 rfl rfl, hB1⟩
      case round =>
        obtain ⟨q, A2, c2, hq, rfl, rfl, hO2, hB2⟩ := hrel
        by_cases hlq : q < j
        · obtain ⟨s, hs, hc, hR⟩ := HG.out q hlq
          have hh2 := Rdv.below h hB2
          have hix := fun W => Rdv.ix hh2 el100 hlq .i64 W
          have hc2 := (hB2.cell (p := adr A q) (World.block_lt_of_cell? w _ hc)).trans hc
          have hR2 := Rdv.below hR hB2
          have hts := tot_succ hs
          have htl := tot_le (L := L) (show q + 1 ≤ j by omega)
          have HTS := Lib.hid hts
          have HS := Lib.hid hs
          have hb3 : tot L q + s.n ≤ 1000000 := by omega
          have hsz := hB2.size
          clear hts hs hc
          go_wp2_with (at_builtin; go_loud (refine list_of rfl fun K hK => wp_app _ _ 26 rfl el26 rfl rfl hO2 hR2 (oneCell_ints .u8 _) (by omega) (by unfold maxLen; omega) hsz ?_); intro A' c' w' hO' hg; refine hK _ _ ?_; clear hK K)
          go_roundw
          case rel => exact ⟨q + 1, A', c', by omega, by go_num, by rw [HTS.out], Own.of_eq hO' HTS.out.symm (by rw [flat_succ HS.out, List.map_append]), hB2.grown hg hsz (fun k hk => Ownv.ob' hO2 hk)⟩
          case measure => simp [intOf]; omega
        · obtain rfl : q = j := by omega
          go_wp2
          go_ret
          exact ⟨A2, c2, rfl, hO2, hB2⟩

end Go.Proofs.Ytmdjclfmhndjnaa
