import Derived.Test.YtcbbkflnenkpgaaGreatT8
namespace Go.Proofs.YtcbbkflnenkpgaaGreat
open Go.RowKit
set_option linter.unusedVariables false
theorem el55 : El Tryz.prog 28 25 (.slice none 0 0) 24 := ⟨by kernel_rfl, by kernel_rfl, fun _ => by kernel_rfl, rfl⟩
/-- A slice value and what it reads as. -/
structure Sv where
  A : Option Addr
  n : Nat
  c : Nat
  xs : List Int
def Sv.v (s : Sv) : Value := .slice s.A s.n s.c
def flat (L : List Sv) (j : Nat) : List Int := (L.take j).flatMap (·.xs)
def tot (L : List Sv) (j : Nat) : Nat := ((L.take j).map (·.n)).sum
theorem take_get {L : List Sv} {j : Nat} {s : Sv} (h : L[j]? = some s) : L.take (j + 1) = L.take j ++ [s] := by
  rw [List.take_add_one, h]; rfl
theorem flat_succ {L : List Sv} {j : Nat} {s : Sv} (h : L[j]? = some s) : flat L (j + 1) = flat L j ++ s.xs := by
  unfold flat; rw [take_get h, List.flatMap_append]; simp
theorem tot_succ {L : List Sv} {j : Nat} {s : Sv} (h : L[j]? = some s) : tot L (j + 1) = tot L j + s.n := by
  unfold tot; rw [take_get h, List.map_append, List.sum_append]; simp
theorem tot_le {L : List Sv} {j k : Nat} (h : j ≤ k) : tot L j ≤ tot L k := by
  induction k with
  | zero => obtain rfl : j = 0 := by omega
            exact Nat.le_refl _
  | succ k ih =>
    by_cases hj : j = k + 1
    · subst hj; exact Nat.le_refl _
    · refine Nat.le_trans (ih (by omega)) ?_
      unfold tot
      rw [List.take_add_one, List.map_append, List.sum_append]; omega
def Cc1 (L : List Sv) (n : Nat) (sz i : Value) : Prop := ∃ j : Nat, j ≤ n ∧ i = .int .i64 j ∧ sz = .int .i64 (tot L j : Int)
def Cc2 (w1 : World) (B : Nat) (L : List Sv) (n : Nat) (out i : Value) (wr : World) : Prop := ∃ (j : Nat) (A : Option Addr) (c : Nat), j ≤ n ∧ i = .int .i64 j ∧ out = .slice A (tot L j) c ∧ Own .u8 5 wr B A (tot L j) c (flat L j) ∧ Below w1.heap.size w1 wr
set_option maxHeartbeats 800000 in
set_option maxRecDepth 100000 in
theorem concat_any (A : Option Addr) (n c : Nat) (L : List Sv) (w : World) (h : Rdv w A n c (L.map Sv.v)) (hs : ∀ s ∈ L, Rd .u8 w s.A s.n s.c s.xs) (ht : tot L n ≤ 1000000) :
    Calls Tryz.prog 31 #[.slice A n c] w fun e w' => ∃ A' c', e = .returned (.slice A' (tot L n) c') ∧ Own .u8 5 w' w.heap.size A' (tot L n) c' (flat L n) ∧ Below w.heap.size w w' := by
  have hbd := h.bd.1
  have hl := h.len
  rw [List.length_map] at hl
  have HL := Lib.hid hl; clear hl
  have hget : ∀ j, j < n → ∃ s, L[j]? = some s ∧ w.cell? (adr A j) = some (.slice s.A s.n s.c) ∧ Rd .u8 w s.A s.n s.c s.xs := fun j hj => by
    have hj' : j < L.length := by rw [HL.out]; exact hj
    exact ⟨L[j], List.getElem?_eq_getElem hj', h.at_ j _ (by simp [hj', Sv.v]), hs _ (List.getElem_mem hj')⟩
  have HG := Lib.hid hget; clear hget hs
  go_enter Tryz.func31, Tryz.ntmps31
  go_wp2
  go_loop [3, 11] (fun sz i => Cc1 L n sz i) (fun _ i => n - (intOf i).toNat)
  case atStart => exact ⟨0, by omega, rfl, rfl⟩
  case round =>
    obtain ⟨j, hj, rfl, rfl⟩ := hrel
    by_cases hlt : j < n
    · obtain ⟨s, hs, hc, hR⟩ := HG.out j hlt
      have hix := fun W => Rdv.ix h el55 hlt .i64 W
      have hts := tot_succ hs
      have htl := tot_le (L := L) (show j + 1 ≤ n by omega)
      have HTS := Lib.hid hts
      have HS := Lib.hid hs
      have hb3 : tot L j + s.n ≤ 1000000 := by omega
      clear hts hs
      go_wp2
      go_round
      case rel => exact ⟨j + 1, by omega, by go_num, by rw [HTS.out]; go_num⟩
      case measure => simp [intOf]; omega
    · obtain rfl : j = n := by omega
      go_wp2_with (go_at_call 71; refine (grow_any _ _ (by omega)).mono ?_; rintro e w1 ⟨A1, c1, rfl, hO1, hB1⟩)
      go_loopw [6, 27] (fun out i wr => Cc2 w w.heap.size L j out i wr) (fun _ i _ => j - (intOf i).toNat)
      case atStart => exact ⟨0, A1, c1, by omega, rfl, rfl, Own.of_eq hO1 rfl rfl, hB1⟩
      case round =>
        obtain ⟨q, A2, c2, hq, rfl, rfl, hO2, hB2⟩ := hrel
        by_cases hlq : q < j
        · obtain ⟨s, hs, hc, hR⟩ := HG.out q hlq
          have hh2 := Rdv.below h hB2
          have hix := fun W => Rdv.ix hh2 el55 hlq .i64 W
          have hc2 := (hB2.cell (p := adr A q) (World.block_lt_of_cell? w _ hc)).trans hc
          have hR2 := Rdv.below hR hB2
          have hts := tot_succ hs
          have htl := tot_le (L := L) (show q + 1 ≤ j by omega)
          have HTS := Lib.hid hts
          have HS := Lib.hid hs
          have hb3 : tot L q + s.n ≤ 1000000 := by omega
          have hsz := hB2.size
          clear hts hs hc
          go_wp2_with (at_builtin; go_loud (refine list_of rfl fun K hK => wp_app _ _ 25 rfl el53 rfl rfl hO2 hR2 (oneCell_ints .u8 _) (by omega) (by unfold maxLen; omega) hsz ?_); intro A' c' w' hO' hg; refine hK _ _ ?_; clear hK K)
          go_roundw
          case rel => exact ⟨q + 1, A', c', by omega, by go_num, by rw [HTS.out], Own.of_eq hO' HTS.out.symm (by rw [flat_succ HS.out, List.map_append]), hB2.grown hg hsz (fun k hk => Ownv.ob' hO2 hk)⟩
          case measure => simp [intOf]; omega
        · obtain rfl : q = j := by omega
          go_wp2
          go_ret
          exact ⟨A2, c2, rfl, hO2, hB2⟩

/-! ### Attach -/
def aRes (k : Int) (xs : List Int) : List Int := if sLen k = 0 then [] else if ValidB xs = true then xs ++ crcSum k xs else []
set_option maxHeartbeats 800000 in
set_option maxRecDepth 100000 in
theorem attach_any (k : Int) (A : Option Addr) (n c : Nat) (xs : List Int) (w : World) (hx : Rd .u8 w A n c xs) (hn : n ≤ 100000) :
    Calls Tryz.prog 18 #[.int .i64 k, .slice A n c] w fun e w' => ∃ A' n' c', e = .returned (.tuple #[.slice A' n' c', .int .i64 (cErr k xs)]) ∧ Own .u8 5 w' w.heap.size A' n' c' (aRes k xs) ∧ Below w.heap.size w w' := by
  have hxl := hx.len
  have HXL := Lib.hid hxl; clear hxl
  by_cases h0 : cErr k xs = 0
  · have h1 : sLen k ≠ 0 := by intro h; unfold cErr at h0; rw [if_pos h] at h0; cases h0
    have h2 : ValidB xs = true := by
      by_cases hv : ValidB xs = true
      · exact hv
      · unfold cErr at h0; rw [if_neg h1, if_neg hv] at h0; cases h0
    have e2 : aRes k xs = xs ++ crcSum k xs := by rw [aRes, if_neg h1, if_pos h2]
    have hcmp := Lib.hid (compute_ok k A n c xs w hx h1 h2)
    have hN := sLen_cases k
    rw [h0, e2]
    have hlb : sLen k ≤ 24 := by omega
    clear h0 e2 h1 h2 hN
    generalize crcSum k xs = S at *
    generalize sLen k = N at *
    go_enter Tryz.func18, Tryz.ntmps18
    go_wp2_with fail
    refine hcmp.out.mono ?_
    rintro e w1 ⟨A1, c1, rfl, hO1, hB1⟩
    have hx1 := Rdv.below hx hB1
    have hR1 := Own.rd hO1
    have hx2 := Rdv.alloc hx1 (.cells #[.slice A n c, .slice A1 N c1] 25)
    have hR2 := Rdv.alloc hR1 (.cells #[.slice A n c, .slice A1 N c1] 25)
    have hlit := (Ownv.lit (base := 0) w1 #[.slice A n c, .slice A1 N c1] 25 rfl (Nat.zero_le _) (by show 2 ≤ maxLen; unfold maxLen; omega)).rd
    have htot : tot [⟨A, n, c, xs⟩, ⟨A1, N, c1, S⟩] 2 = n + N := by simp [tot]
    have hflat : flat [⟨A, n, c, xs⟩, ⟨A1, N, c1, S⟩] 2 = xs ++ S := by simp [flat]
    have hcc := concat_any (some ⟨w1.heap.size, 0, none⟩) 2 2 [⟨A, n, c, xs⟩, ⟨A1, N, c1, S⟩] _ hlit (by
      intro s hs
      simp only [List.mem_cons, List.not_mem_nil, or_false] at hs
      rcases hs with rfl | rfl
      · exact hx2
      · exact hR2) (by rw [htot]; omega)
    rw [htot, hflat] at hcc
    have HCC := Lib.hid hcc; clear hcc htot hflat
    go_wp2_with (go_at_call 31; refine HCC.out.mono ?_; rintro e w2 ⟨A2, c2, rfl, hO2, hB2⟩)
    go_ret2
    have hz1 := hB1.size
    have hz2 : w1.heap.size ≤ (w1.alloc (.cells #[.slice A n c, .slice A1 N c1] 25)).heap.size := by simp
    exact ⟨A2, _, c2, rfl, Ownv.mono hO2 (by omega), (hB1.trans (((Below.refl _ w1).alloc (Nat.le_refl _) _).mono hz1)).trans (hB2.mono (by omega))⟩
  · have e2 : aRes k xs = [] := by
      by_cases h1 : sLen k = 0
      · rw [aRes, if_pos h1]
      · by_cases hv : ValidB xs = true
        · exfalso; apply h0; rw [cErr, if_neg h1, if_pos hv]
        · rw [aRes, if_neg h1, if_neg hv]
    have hcmp := Lib.hid (compute_any k A n c xs w hx)
    have hne := bne_t h0
    rw [e2]
    clear h0 e2
    generalize cErr k xs = E at *
    go_enter Tryz.func18, Tryz.ntmps18
    go_wp2_with fail
    refine hcmp.out.mono ?_
    rintro e w1 ⟨A1, n1, c1, rfl, hO1, hB1⟩
    go_wp2
    go_ret2
    exact ⟨none, 0, 0, rfl, Own.nilv _ _ _ _, hB1⟩
end Go.Proofs.YtcbbkflnenkpgaaGreat
