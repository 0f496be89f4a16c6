/-
  Bundle of the texts CrT8a CrT8 CrT9 CrT10. Conditions: none.
-/
import Derived.Test.YtpdalbckmfadbaaBunav
import Derived.Deep.RegionHeld3
namespace Go.Proofs.Ytpdalbckmfadbaa.Cr
open Go.RowKit
set_option linter.unusedVariables false
def sLen (k : Int) : Nat := if k = 1 then 24 else if k = 2 then 24 else if k = 3 then 16 else if k = 4 then 8 else 0
def sPoly (k : Int) : Int := if k = 1 then 0x864cfb else if k = 2 then 0x800063 else if k = 3 then 0x1021 else if k = 4 then 0x9b else 0
theorem sLen_cases (k : Int) : sLen k = 0 ∨ 8 ≤ sLen k ∧ sLen k ≤ 24 := by unfold sLen; repeat (split <;> try omega)
set_option maxHeartbeats 400000 in
set_option maxRecDepth 100000 in
theorem of_lit (k : Int) (w : World) (h : k = 0 ∨ k = 1 ∨ k = 2 ∨ k = 3 ∨ k = 4) :
    Calls Try.prog 41 #[.int .i64 k] w fun e w' => e = .returned (.agg #[.int .i64 (sLen k : Int), .int .u32 (sPoly k)]) ∧ Below w.heap.size w w' := by
  rcases h with rfl | rfl | rfl | rfl | rfl
  all_goals
    go_enter Try.func41, Try.ntmps41
    go_wp2
    refine bodyPost_ret (v := .agg #[_, _]) (by simp [results, Try.results41, go_sem]; exact ⟨rfl, rfl⟩) rfl ⟨rfl, ?_⟩
    exact (((Below.refl _ _).alloc (Nat.le_refl _) _).alloc (by simp) _)
set_option maxHeartbeats 400000 in
set_option maxRecDepth 100000 in
theorem of_out (k : Int) (w : World) (h : k < 0 ∨ 5 ≤ k) :
    Calls Try.prog 41 #[.int .i64 k] w fun e w' => e = .returned (.agg #[.int .i64 (sLen k : Int), .int .u32 (sPoly k)]) ∧ Below w.heap.size w w' := by
  have e1 : sLen k = 0 := by unfold sLen; repeat (first | rw [if_neg (by omega)] | rfl)
  have e2 : sPoly k = 0 := by unfold sPoly; repeat (first | rw [if_neg (by omega)] | rfl)
  rw [e1, e2]
  clear e1 e2
  rcases h with h | h
  · go_enter Try.func41, Try.ntmps41
    go_wp2
    refine bodyPost_ret (v := .agg #[_, _]) (by simp [results, Try.results41, go_sem]) rfl ⟨rfl, ?_⟩
    exact (((Below.refl _ _).alloc (Nat.le_refl _) _).alloc (by simp) _)
  · have h0 : decide (k < 0) = false := by simp; omega
    go_enter Try.func41, Try.ntmps41
    go_wp2
    refine bodyPost_ret (v := .agg #[_, _]) (by simp [results, Try.results41, go_sem]) rfl ⟨rfl, ?_⟩
    exact (((Below.refl _ _).alloc (Nat.le_refl _) _).alloc (by simp) _)
theorem of_any (k : Int) (w : World) :
    Calls Try.prog 41 #[.int .i64 k] w fun e w' => e = .returned (.agg #[.int .i64 (sLen k : Int), .int .u32 (sPoly k)]) ∧ Below w.heap.size w w' := by
  by_cases h : k < 0 ∨ 5 ≤ k
  · exact of_out k w h
  · exact of_lit k w (by omega)
set_option maxRecDepth 100000 in
theorem len_any (k : Int) (w : World) : Calls Try.prog 17 #[.int .i64 k] w fun e w' => e = .returned (.int .i64 (sLen k : Int)) ∧ Below w.heap.size w w' := by
  have h1 := Lib.hid (of_any k w)
  generalize sLen k = L at *
  generalize sPoly k = p at *
  have hfld : ∀ W, (Instr.field 73 (.agg #[.int .i64 (L : Int), .int .u32 p]) 0).run Try.prog W = .ok (.int .i64 (L : Int)) W := fun _ => by kernel_rfl
  go_enter Try.func17, Try.ntmps17
  go_wp2_with fail
  refine h1.out.mono ?_
  rintro e w1 ⟨rfl, hB⟩
  go_wp2
  go_ret
  exact ⟨rfl, hB⟩
end Go.Proofs.Ytpdalbckmfadbaa.Cr

namespace Go.Proofs.Ytpdalbckmfadbaa.Cr
open Go.RowKit
set_option linter.unusedVariables false
def crcSum (k : Int) (xs : List Int) : List Int := splitL (crcFold (sLen k) (sPoly k) xs) (sLen k)
set_option maxHeartbeats 1000000 in
set_option maxRecDepth 100000 in
theorem compute_ok (k : Int) (A : Option Addr) (n c : Nat) (xs : List Int) (w : World) (hx : Rd .u8 w A n c xs) (hk : sLen k ≠ 0) (hv : ValidB xs = true) :
    Calls Try.prog 19 #[.int .i64 k, .slice A n c] w fun e w' => ∃ A' c', e = .returned (.tuple #[.slice A' (sLen k) c', .int .i64 0]) ∧ Own .u8 5 w' w.heap.size A' (sLen k) c' (crcSum k xs) ∧ Below w.heap.size w w' := by
  have hN := sLen_cases k
  have h1 := Lib.hid (of_any k w)
  unfold crcSum
  generalize sLen k = L at *
  generalize sPoly k = p at *
  have hb0 : ((L : Int) == 0) = false := beq_f (by omega)
  have hL8 : 8 ≤ L ∧ L ≤ 24 := by omega
  clear hk hN
  go_enter Try.func19, Try.ntmps19
  go_wp2_with fail
  refine h1.out.mono ?_
  rintro e w1 ⟨rfl, hB1⟩
  have hx1 := Rdv.below hx hB1
  have hx2 := Rdv.alloc hx1 (.cells #[.int .i64 L, .int .u32 p] 73)
  go_wp2_with (go_at_call 18; refine (invalid_any A n c xs _ hx2).mono ?_; rintro e w' ⟨rfl, rfl⟩)
  have hx3 := Rdv.drew (Rdv.alloc hx2 (.cells #[.slice A n c] 24))
  have hbc : ((w1.alloc (Obj.cells #[.int .i64 (L : Int), .int .u32 p] 73)).alloc (Obj.cells #[.slice A n c] 24)).drew.cell? ⟨w1.heap.size + 1, 0, none⟩ = some (.slice A n c) := by simp [go_sem]
  have hk0 : ((w1.alloc (Obj.cells #[.int .i64 (L : Int), .int .u32 p] 73)).alloc (Obj.cells #[.slice A n c] 24)).drew.cell? ⟨w1.heap.size, 0, none⟩ = some (.int .i64 (L : Int)) := by simp [go_sem]
  have hk1 : ((w1.alloc (Obj.cells #[.int .i64 (L : Int), .int .u32 p] 73)).alloc (Obj.cells #[.slice A n c] 24)).drew.cell? ⟨w1.heap.size, 1, none⟩ = some (.int .u32 p) := by simp [go_sem]
  have hsz3 : w1.heap.size + 1 < ((w1.alloc (Obj.cells #[.int .i64 (L : Int), .int .u32 p] 73)).alloc (Obj.cells #[.slice A n c] 24)).drew.heap.size := by simp
  have hdv := Lib.hid (divide_any L p _ A n c xs _ hx3 hsz3 hbc (by omega) (by omega))
  go_region_held3 (fun W => W.cell? ⟨w1.heap.size, 0, none⟩ = some (.int .i64 L) ∧ W.cell? ⟨w1.heap.size, 1, none⟩ = some (.int .u32 p)) (first | (simp [go_sem]; done) | exact ⟨hm0, hm1⟩ | exact ⟨hm2, hm3⟩)
    (first
      | (go_at_call 46; refine (values_any A n c _).mono ?_; rintro e w' ⟨rfl, rfl⟩)
      | (go_at_call 45; refine hdv.out.mono ?_; rintro e w3 ⟨rfl, hB3⟩; have hm0 := (hB3.cell (p := ⟨w1.heap.size, 0, none⟩) (by simp; omega)).trans hk0; have hm1 := (hB3.cell (p := ⟨w1.heap.size, 1, none⟩) (by simp; omega)).trans hk1; have hz3 := hB3.size)
      | (go_at_call 44; refine (split_any _ L _ (by omega)).mono ?_; rintro e w4 ⟨A4, c4, rfl, hO4, hB4⟩; have hm2 := (hB4.cell (p := ⟨w1.heap.size, 0, none⟩) (show w1.heap.size < w3.heap.size by simp at hz3; omega)).trans hm0; have hm3 := (hB4.cell (p := ⟨w1.heap.size, 1, none⟩) (show w1.heap.size < w3.heap.size by simp at hz3; omega)).trans hm1))
  go_wp2
  go_ret2
  have hz3' : w1.heap.size + 1 + 1 ≤ w3.heap.size := by simpa using hz3
  have hz1 := hB1.size
  refine ⟨A4, c4, rfl, Ownv.mono hO4 (by omega), ?_⟩
  exact ((hB1.trans ((((Below.refl _ w1).alloc (Nat.le_refl _) _).alloc (by simp) _).drew.mono hz1)).trans (hB3.mono (by simp; omega))).trans (hB4.mono (by omega))
def cErr (k : Int) (xs : List Int) : Int := if sLen k = 0 then 2 else if ValidB xs = true then 0 else 3
def cRes (k : Int) (xs : List Int) : List Int := if sLen k = 0 then [] else if ValidB xs = true then crcSum k xs else []
set_option maxHeartbeats 1000000 in
set_option maxRecDepth 100000 in
theorem compute_any (k : Int) (A : Option Addr) (n c : Nat) (xs : List Int) (w : World) (hx : Rd .u8 w A n c xs) :
    Calls Try.prog 19 #[.int .i64 k, .slice A n c] w fun e w' => ∃ A' n' c', e = .returned (.tuple #[.slice A' n' c', .int .i64 (cErr k xs)]) ∧ Own .u8 5 w' w.heap.size A' n' c' (cRes k xs) ∧ Below w.heap.size w w' := by
  by_cases h0 : sLen k = 0
  · have h1 := Lib.hid (of_any k w)
    have e1 : cErr k xs = 2 := by rw [cErr, if_pos h0]
    have e2 : cRes k xs = [] := by rw [cRes, if_pos h0]
    rw [e1, e2]
    rw [h0] at h1
    generalize sPoly k = p at *
    clear e1 e2 h0
    go_enter Try.func19, Try.ntmps19
    go_wp2_with fail
    refine h1.out.mono ?_
    rintro e w1 ⟨rfl, hB1⟩
    go_wp2
    go_ret2
    exact ⟨none, 0, 0, rfl, Own.nilv _ _ _ _, hB1.trans (((Below.refl _ w1).alloc (Nat.le_refl _) _).mono hB1.size)⟩
  · by_cases hv : ValidB xs = true
    · have e1 : cErr k xs = 0 := by rw [cErr, if_neg h0, if_pos hv]
      have e2 : cRes k xs = crcSum k xs := by rw [cRes, if_neg h0, if_pos hv]
      rw [e1, e2]
      exact (compute_ok k A n c xs w hx h0 hv).mono fun e w' ⟨A', c', h⟩ => ⟨A', _, c', h⟩
    · have h1 := Lib.hid (of_any k w)
      have e1 : cErr k xs = 3 := by rw [cErr, if_neg h0, if_neg hv]
      have e2 : cRes k xs = [] := by rw [cRes, if_neg h0, if_neg hv]
      have hv' : ValidB xs = false := by simpa using hv
      rw [e1, e2]
      clear e1 e2 hv
      generalize sLen k = L at *
      generalize sPoly k = p at *
      have hb0 : ((L : Int) == 0) = false := beq_f (by omega)
      go_enter Try.func19, Try.ntmps19
      go_wp2_with fail
      refine h1.out.mono ?_
      rintro e w1 ⟨rfl, hB1⟩
      have hx1 := Rdv.below hx hB1
      have hx2 := Rdv.alloc hx1 (.cells #[.int .i64 L, .int .u32 p] 73)
      go_wp2_with (go_at_call 18; refine (invalid_any A n c xs _ hx2).mono ?_; rintro e w' ⟨rfl, rfl⟩)
      go_ret2
      exact ⟨none, 0, 0, rfl, Own.nilv _ _ _ _, hB1.trans (((Below.refl _ w1).alloc (Nat.le_refl _) _).mono hB1.size)⟩
end Go.Proofs.Ytpdalbckmfadbaa.Cr

namespace Go.Proofs.Ytpdalbckmfadbaa.Cr
open Go.RowKit
set_option linter.unusedVariables false
theorem el55 : El Try.prog 91 24 (.slice none 0 0) 24 := ⟨by kernel_rfl, by kernel_rfl, fun _ => by kernel_rfl, rfl⟩
/-- A slice value and what it reads as. -/
structure Sv where
  A : Option Addr
  n : Nat
  c : Nat
  xs : List Int
def Sv.v (s : Sv) : Value := .slice s.A s.n s.c
def flat (L : List Sv) (j : Nat) : List Int := (L.take j).flatMap (·.xs)
def tot (L : List Sv) (j : Nat) : Nat := ((L.take j).map (·.n)).sum
theorem take_get {L : List Sv} {j : Nat} {s : Sv} (h : L[j]? = some s) : L.take (j + 1) = L.take j ++ [s] := by
  rw [List.take_add_one, h]; rfl
theorem flat_succ {L : List Sv} {j : Nat} {s : Sv} (h : L[j]? = some s) : flat L (j + 1) = flat L j ++ s.xs := by
  unfold flat; rw [take_get h, List.flatMap_append]; simp
theorem tot_succ {L : List Sv} {j : Nat} {s : Sv} (h : L[j]? = some s) : tot L (j + 1) = tot L j + s.n := by
  unfold tot; rw [take_get h, List.map_append, List.sum_append]; simp
theorem tot_le {L : List Sv} {j k : Nat} (h : j ≤ k) : tot L j ≤ tot L k := by
  induction k with
  | zero => obtain rfl : j = 0 := by omega
            exact Nat.le_refl _
  | succ k ih =>
    by_cases hj : j = k + 1
    · subst hj; exact Nat.le_refl _
    · refine Nat.le_trans (ih (by omega)) ?_
      unfold tot
      rw [List.take_add_one, List.map_append, List.sum_append]; omega
def Cc1 (L : List Sv) (n : Nat) (sz i : Value) : Prop := ∃ j : Nat, j ≤ n ∧ i = .int .i64 j ∧ sz = .int .i64 (tot L j : Int)
def Cc2 (w1 : World) (B : Nat) (L : List Sv) (n : Nat) (out i : Value) (wr : World) : Prop := ∃ (j : Nat) (A : Option Addr) (c : Nat), j ≤ n ∧ i = .int .i64 j ∧ out = .slice A (tot L j) c ∧ Own .u8 5 wr B A (tot L j) c (flat L j) ∧ Below w1.heap.size w1 wr
set_option maxHeartbeats 800000 in
set_option maxRecDepth 100000 in
theorem concat_any (A : Option Addr) (n c : Nat) (L : List Sv) (w : World) (h : Rdv w A n c (L.map Sv.v)) (hs : ∀ s ∈ L, Rd .u8 w s.A s.n s.c s.xs) (ht : tot L n ≤ 1000000) :
    Calls Try.prog 47 #[.slice A n c] w fun e w' => ∃ A' c', e = .returned (.slice A' (tot L n) c') ∧ Own .u8 5 w' w.heap.size A' (tot L n) c' (flat L n) ∧ Below w.heap.size w w' := by
  have hbd := h.bd.1
  have hl := h.len
  rw [List.length_map] at hl
  have HL := Lib.hid hl; clear hl
  have hget : ∀ j, j < n → ∃ s, L[j]? = some s ∧ w.cell? (adr A j) = some (.slice s.A s.n s.c) ∧ Rd .u8 w s.A s.n s.c s.xs := fun j hj => by
    have hj' : j < L.length := by rw [HL.out]; exact hj
    exact ⟨L[j], List.getElem?_eq_getElem hj', h.at_ j _ (by simp [hj', Sv.v]), hs _ (List.getElem_mem hj')⟩
  have HG := Lib.hid hget; clear hget hs
  go_enter Try.func47, Try.ntmps47
  go_wp2
  go_loop [3, 11] (fun sz i => Cc1 L n sz i) (fun _ i => n - (intOf i).toNat)
  case atStart => exact ⟨0, by omega, rfl, rfl⟩
  case round =>
    obtain ⟨j, hj, rfl, rfl⟩ := hrel
    by_cases hlt : j < n
    · obtain ⟨s, hs, hc, hR⟩ := HG.out j hlt
      have hix := fun W => Rdv.ix h el55 hlt .i64 W
      have hts := tot_succ hs
      have htl := tot_le (L := L) (show j + 1 ≤ n by omega)
      have HTS := Lib.hid hts
      have HS := Lib.hid hs
      have hb3 : tot L j + s.n ≤ 1000000 := by omega
      clear hts hs
      go_wp2
      go_round
      case rel => exact ⟨j + 1, by omega, by go_num, by rw [HTS.out]; go_num⟩
      case measure => simp [intOf]; omega
    · obtain rfl : j = n := by omega
      go_wp2_with (go_at_call 67; refine (grow_any _ _ (by omega)).mono ?_; rintro e w1 ⟨A1, c1, rfl, hO1, hB1⟩)
      go_loopw [6, 27] (fun out i wr => Cc2 w w.heap.size L j out i wr) (fun _ i _ => j - (intOf i).toNat)
      case atStart => exact ⟨0, A1, c1, by omega, rfl, rfl, Own.of_eq hO1 rfl rfl, hB1⟩
      case round =>
        obtain ⟨q, A2, c2, hq, rfl, rfl, hO2, hB2⟩ := hrel
        by_cases hlq : q < j
        · obtain ⟨s, hs, hc, hR⟩ := HG.out q hlq
          have hh2 := Rdv.below h hB2
          have hix := fun W => Rdv.ix hh2 el55 hlq .i64 W
          have hc2 := (hB2.cell (p := adr A q) (World.block_lt_of_cell? w _ hc)).trans hc
          have hR2 := Rdv.below hR hB2
          have hts := tot_succ hs
          have htl := tot_le (L := L) (show q + 1 ≤ j by omega)
          have HTS := Lib.hid hts
          have HS := Lib.hid hs
          have hb3 : tot L q + s.n ≤ 1000000 := by omega
          have hsz := hB2.size
          clear hts hs hc
          go_wp2_with (at_builtin; go_loud (refine list_of rfl fun K hK => wp_app _ _ 24 rfl el53 rfl rfl hO2 hR2 (oneCell_ints .u8 _) (by omega) (by unfold maxLen; omega) hsz ?_); intro A' c' w' hO' hg; refine hK _ _ ?_; clear hK K)
          go_roundw
          case rel => exact ⟨q + 1, A', c', by omega, by go_num, by rw [HTS.out], Own.of_eq hO' HTS.out.symm (by rw [flat_succ HS.out, List.map_append]), hB2.grown hg hsz (fun k hk => Ownv.ob' hO2 hk)⟩
          case measure => simp [intOf]; omega
        · obtain rfl : q = j := by omega
          go_wp2
          go_ret
          exact ⟨A2, c2, rfl, hO2, hB2⟩

/-! ### Attach -/
def aRes (k : Int) (xs : List Int) : List Int := if sLen k = 0 then [] else if ValidB xs = true then xs ++ crcSum k xs else []
set_option maxHeartbeats 800000 in
set_option maxRecDepth 100000 in
theorem attach_any (k : Int) (A : Option Addr) (n c : Nat) (xs : List Int) (w : World) (hx : Rd .u8 w A n c xs) (hn : n ≤ 100000) :
    Calls Try.prog 22 #[.int .i64 k, .slice A n c] w fun e w' => ∃ A' n' c', e = .returned (.tuple #[.slice A' n' c', .int .i64 (cErr k xs)]) ∧ Own .u8 5 w' w.heap.size A' n' c' (aRes k xs) ∧ Below w.heap.size w w' := by
  have hxl := hx.len
  have HXL := Lib.hid hxl; clear hxl
  by_cases h0 : cErr k xs = 0
  · have h1 : sLen k ≠ 0 := by intro h; unfold cErr at h0; rw [if_pos h] at h0; cases h0
    have h2 : ValidB xs = true := by
      by_cases hv : ValidB xs = true
      · exact hv
      · unfold cErr at h0; rw [if_neg h1, if_neg hv] at h0; cases h0
    have e2 : aRes k xs = xs ++ crcSum k xs := by rw [aRes, if_neg h1, if_pos h2]
    have hcmp := Lib.hid (compute_ok k A n c xs w hx h1 h2)
    have hN := sLen_cases k
    rw [h0, e2]
    have hlb : sLen k ≤ 24 := by omega
    clear h0 e2 h1 h2 hN
    generalize crcSum k xs = S at *
    generalize sLen k = N at *
    go_enter Try.func22, Try.ntmps22
    go_wp2_with fail
    refine hcmp.out.mono ?_
    rintro e w1 ⟨A1, c1, rfl, hO1, hB1⟩
    have hx1 := Rdv.below hx hB1
    have hR1 := Own.rd hO1
    have hx2 := Rdv.alloc hx1 (.cells #[.slice A n c, .slice A1 N c1] 24)
    have hR2 := Rdv.alloc hR1 (.cells #[.slice A n c, .slice A1 N c1] 24)
    have hlit := (Ownv.lit (base := 0) w1 #[.slice A n c, .slice A1 N c1] 24 rfl (Nat.zero_le _) (by show 2 ≤ maxLen; unfold maxLen; omega)).rd
    have htot : tot [⟨A, n, c, xs⟩, ⟨A1, N, c1, S⟩] 2 = n + N := by simp [tot]
    have hflat : flat [⟨A, n, c, xs⟩, ⟨A1, N, c1, S⟩] 2 = xs ++ S := by simp [flat]
    have hcc := concat_any (some ⟨w1.heap.size, 0, none⟩) 2 2 [⟨A, n, c, xs⟩, ⟨A1, N, c1, S⟩] _ hlit (by
      intro s hs
      simp only [List.mem_cons, List.not_mem_nil, or_false] at hs
      rcases hs with rfl | rfl
      · exact hx2
      · exact hR2) (by rw [htot]; omega)
    rw [htot, hflat] at hcc
    have HCC := Lib.hid hcc; clear hcc htot hflat
    go_wp2_with (go_at_call 47; refine HCC.out.mono ?_; rintro e w2 ⟨A2, c2, rfl, hO2, hB2⟩)
    go_ret2
    have hz1 := hB1.size
    have hz2 : w1.heap.size ≤ (w1.alloc (.cells #[.slice A n c, .slice A1 N c1] 24)).heap.size := by simp
    exact ⟨A2, _, c2, rfl, Ownv.mono hO2 (by omega), (hB1.trans (((Below.refl _ w1).alloc (Nat.le_refl _) _).mono hz1)).trans (hB2.mono (by omega))⟩
  · have e2 : aRes k xs = [] := by
      by_cases h1 : sLen k = 0
      · rw [aRes, if_pos h1]
      · by_cases hv : ValidB xs = true
        · exfalso; apply h0; rw [cErr, if_neg h1, if_pos hv]
        · rw [aRes, if_neg h1, if_neg hv]
    have hcmp := Lib.hid (compute_any k A n c xs w hx)
    have hne := bne_t h0
    rw [e2]
    clear h0 e2
    generalize cErr k xs = E at *
    go_enter Try.func22, Try.ntmps22
    go_wp2_with fail
    refine hcmp.out.mono ?_
    rintro e w1 ⟨A1, n1, c1, rfl, hO1, hB1⟩
    go_wp2
    go_ret2
    exact ⟨none, 0, 0, rfl, Own.nilv _ _ _ _, hB1⟩
end Go.Proofs.Ytpdalbckmfadbaa.Cr

namespace Go.Proofs.Ytpdalbckmfadbaa.Cr
open Go.RowKit
set_option linter.unusedVariables false
theorem splitL_len (v : Int) (n : Nat) : (splitL v n).length = n := by simp [splitL]
def chkErr (k : Int) (xs : List Int) : Int :=
  if sLen k = 0 then 2 else if ValidB xs = true then (if xs.length < sLen k then 5 else if crcSum k (xs.take (xs.length - sLen k)) = xs.drop (xs.length - sLen k) then 0 else 11) else 3
def chkRes (k : Int) (xs : List Int) : List Int := if chkErr k xs = 0 then xs.take (xs.length - sLen k) else []
set_option maxHeartbeats 1000000 in
set_option maxRecDepth 100000 in
theorem check_any (k : Int) (A : Option Addr) (n c : Nat) (xs : List Int) (w : World) (hx : Rd .u8 w A n c xs) (hn : n ≤ 100000) :
    Calls Try.prog 10 #[.int .i64 k, .slice A n c] w fun e w' => ∃ A' n' c', e = .returned (.tuple #[.slice A' n' c', .int .i64 (chkErr k xs)]) ∧ Own .u8 5 w' w.heap.size A' n' c' (chkRes k xs) ∧ Below w.heap.size w w' := by
  have hN := sLen_cases k
  have hxl := hx.len
  have hl := fun W => Lib.hid (len_any k W)
  by_cases h0 : sLen k = 0
  · have e1 : chkErr k xs = 2 := by rw [chkErr, if_pos h0]
    have e2 : chkRes k xs = [] := by rw [chkRes, e1]; rfl
    rw [e1, e2]
    rw [h0] at hl
    clear e1 e2 h0 hN hxl
    go_enter Try.func10, Try.ntmps10
    go_wp2_with fail
    refine (hl _).out.mono ?_
    rintro e w1 ⟨rfl, hB1⟩
    go_wp2_with fail
    refine (hl _).out.mono ?_
    rintro e w2 ⟨rfl, hB2⟩
    go_wp2
    go_ret2
    exact ⟨none, 0, 0, rfl, Own.nilv _ _ _ _, hB1.trans (hB2.mono hB1.size)⟩
  · by_cases hv : ValidB xs = true
    · by_cases hs : xs.length < sLen k
      · have e1 : chkErr k xs = 5 := by rw [chkErr, if_neg h0, if_pos hv, if_pos hs]
        have e2 : chkRes k xs = [] := by rw [chkRes, e1]; rfl
        rw [e1, e2]
        rw [hxl] at hs
        clear e1 e2 hxl
        generalize sLen k = L at *
        have hb : ((L : Int) == 0) = false := beq_f (by omega)
        have hL8 : 1 ≤ L ∧ L ≤ 24 := by omega
        clear hN h0
        go_enter Try.func10, Try.ntmps10
        go_wp2_with fail
        refine (hl _).out.mono ?_
        rintro e w1 ⟨rfl, hB1⟩
        go_wp2_with fail
        refine (hl _).out.mono ?_
        rintro e w2 ⟨rfl, hB2⟩
        have hx2 := Rdv.below (Rdv.below hx hB1) hB2
        go_wp2_with (go_at_call 18; refine (invalid_any A n c xs _ hx2).mono ?_; rintro e w' ⟨rfl, rfl⟩)
        go_ret2
        exact ⟨none, 0, 0, rfl, Own.nilv _ _ _ _, hB1.trans (hB2.mono hB1.size)⟩
      · have hc := fun W hW => Lib.hid (compute_ok k A (xs.length - sLen k) c (xs.take (xs.length - sLen k)) W hW h0 (validB_take _ hv))
        by_cases hq : crcSum k (xs.take (xs.length - sLen k)) = xs.drop (xs.length - sLen k)
        · have e1 : chkErr k xs = 0 := by rw [chkErr, if_neg h0, if_pos hv, if_neg hs, if_pos hq]
          have e2 : chkRes k xs = xs.take (xs.length - sLen k) := by rw [chkRes, e1]; rfl
          rw [e1, e2]
          rw [hxl] at *
          clear e1 e2
          have HQ : decide (crcSum k (xs.take (n - sLen k)) = xs.drop (n - sLen k)) = true := by simpa using hq
          clear hq
          generalize crcSum k (xs.take (n - sLen k)) = S at *
          generalize sLen k = L at *
          have hb : ((L : Int) == 0) = false := beq_f (by omega)
          have hL8 : 1 ≤ L ∧ L ≤ 24 := by omega
          have em0 : (n : Int) - (L : Int) = ((n - L : Nat) : Int) := by omega
          have hmn : n - L ≤ n := by omega
          generalize n - L = m at *
          clear hN h0
          go_enter Try.func10, Try.ntmps10
          go_wp2_with fail
          refine (hl _).out.mono ?_
          rintro e w1 ⟨rfl, hB1⟩
          go_wp2_with fail
          refine (hl _).out.mono ?_
          rintro e w2 ⟨rfl, hB2⟩
          have hx2 := Rdv.below (Rdv.below hx hB1) hB2
          have hsl := fun W => Rdv.slh hx2 el53 .i64 (show m ≤ c by have := Rdv.le hx; omega) W
          have hsl2 := fun W => Rdv.sll hx2 el53 .i64 hmn W
          go_wp2_with (go_at_call 18; refine (invalid_any A n c xs _ hx2).mono ?_; rintro e w' ⟨rfl, rfl⟩)
          refine (hc _ (Rd.upto hx2 hmn)).out.mono ?_
          rintro e w3 ⟨A3, c3, rfl, hO3, hB3⟩
          have hx3 := Rdv.below hx2 hB3
          have hd3 := Rd.cut_ hx3 (l := m) (m := n) hmn (Nat.le_refl _)
          rw [List.take_of_length_le (Nat.le_of_eq hx.len)] at hd3
          go_wp2_with (go_at_call 20; refine (equal_any A3 (cut A c m) L c3 _ _ S (xs.drop m) _ (Own.rd hO3) hd3).mono ?_; rintro e w4 ⟨rfl, hQ4⟩)
          have hz2 := Nat.le_trans hB1.size hB2.size
          have hz3 := hB3.size
          have hz4 := (hQ4.below w3.heap.size).size
          have hx4 := Rdv.below (Rd.upto hx3 (show m ≤ n by omega)) (hQ4.below _)
          go_wp2_with (go_at_call 21; refine (clone_any A m c _ _ hx4 (by omega)).mono ?_; rintro e w5 ⟨A5, c5, rfl, hO5, hB5⟩)
          have hfb : Below w.heap.size w w5 := (((hB1.trans (hB2.mono hB1.size)).trans (hB3.mono hz2)).trans (hQ4.below _)).trans (hB5.mono (by omega))
          go_ret2
          exact ⟨A5, m, c5, rfl, Ownv.mono hO5 (by omega), hfb⟩
        · have e1 : chkErr k xs = 11 := by rw [chkErr, if_neg h0, if_pos hv, if_neg hs, if_neg hq]
          have e2 : chkRes k xs = [] := by rw [chkRes, e1]; rfl
          rw [e1, e2]
          rw [hxl] at *
          clear e1 e2
          have HQ : decide (crcSum k (xs.take (n - sLen k)) = xs.drop (n - sLen k)) = false := by simpa using hq
          clear hq
          generalize crcSum k (xs.take (n - sLen k)) = S at *
          generalize sLen k = L at *
          have hb : ((L : Int) == 0) = false := beq_f (by omega)
          have hL8 : 1 ≤ L ∧ L ≤ 24 := by omega
          have em0 : (n : Int) - (L : Int) = ((n - L : Nat) : Int) := by omega
          have hmn : n - L ≤ n := by omega
          generalize n - L = m at *
          clear hN h0
          go_enter Try.func10, Try.ntmps10
          go_wp2_with fail
          refine (hl _).out.mono ?_
          rintro e w1 ⟨rfl, hB1⟩
          go_wp2_with fail
          refine (hl _).out.mono ?_
          rintro e w2 ⟨rfl, hB2⟩
          have hx2 := Rdv.below (Rdv.below hx hB1) hB2
          have hsl := fun W => Rdv.slh hx2 el53 .i64 (show m ≤ c by have := Rdv.le hx; omega) W
          have hsl2 := fun W => Rdv.sll hx2 el53 .i64 hmn W
          go_wp2_with (go_at_call 18; refine (invalid_any A n c xs _ hx2).mono ?_; rintro e w' ⟨rfl, rfl⟩)
          refine (hc _ (Rd.upto hx2 hmn)).out.mono ?_
          rintro e w3 ⟨A3, c3, rfl, hO3, hB3⟩
          have hx3 := Rdv.below hx2 hB3
          have hd3 := Rd.cut_ hx3 (l := m) (m := n) hmn (Nat.le_refl _)
          rw [List.take_of_length_le (Nat.le_of_eq hx.len)] at hd3
          go_wp2_with (go_at_call 20; refine (equal_any A3 (cut A c m) L c3 _ _ S (xs.drop m) _ (Own.rd hO3) hd3).mono ?_; rintro e w4 ⟨rfl, hQ4⟩)
          have hz2 := Nat.le_trans hB1.size hB2.size
          have hfb : Below w.heap.size w w4 := ((hB1.trans (hB2.mono hB1.size)).trans (hB3.mono hz2)).trans (hQ4.below _)
          go_wp2
          go_ret2
          exact ⟨none, 0, 0, rfl, Own.nilv _ _ _ _, hfb⟩
    · have e1 : chkErr k xs = 3 := by rw [chkErr, if_neg h0, if_neg hv]
      have e2 : chkRes k xs = [] := by rw [chkRes, e1]; rfl
      have hv' : ValidB xs = false := by simpa using hv
      rw [e1, e2]
      clear e1 e2 hxl hv
      generalize sLen k = L at *
      have hb : ((L : Int) == 0) = false := beq_f (by omega)
      go_enter Try.func10, Try.ntmps10
      go_wp2_with fail
      refine (hl _).out.mono ?_
      rintro e w1 ⟨rfl, hB1⟩
      go_wp2_with fail
      refine (hl _).out.mono ?_
      rintro e w2 ⟨rfl, hB2⟩
      have hx2 := Rdv.below (Rdv.below hx hB1) hB2
      go_wp2_with (go_at_call 18; refine (invalid_any A n c xs _ hx2).mono ?_; rintro e w' ⟨rfl, rfl⟩)
      go_ret2
      exact ⟨none, 0, 0, rfl, Own.nilv _ _ _ _, hB1.trans (hB2.mono hB1.size)⟩

/-! ### Mask -/
def maskL (xs : List Int) (id : Int) : Nat → List Int
  | 0 => xs
  | j + 1 => (maskL xs id j).set (xs.length - 16 + j) (xor8 (gi (maskL xs id j) (xs.length - 16 + j)) (gi (splitL id 16) j))
theorem maskL_len (xs : List Int) (id : Int) (j : Nat) : (maskL xs id j).length = xs.length := by
  induction j with
  | zero => rfl
  | succ j ih => simp only [maskL, List.length_set, ih]
def mErr (xs : List Int) : Int := if ValidB xs = true then (if xs.length < 16 then 5 else 0) else 3
def mRes (xs : List Int) (id : Int) : List Int := if ValidB xs = true then (if xs.length < 16 then [] else maskL xs id 16) else []
def MaskInv (w : World) (xs : List Int) (id : Int) (n : Nat) (A : Option Addr) (c : Nat) (A2 : Option Addr) (c2 : Nat) (i : Value) (wr : World) : Prop := ∃ j : Nat, j ≤ 16 ∧ i = .int .i64 j ∧ Own .u8 5 wr w.heap.size A n c (maskL xs id j) ∧ Rd .u8 wr A2 16 c2 (splitL id 16) ∧ Below w.heap.size w wr
end Go.Proofs.Ytpdalbckmfadbaa.Cr

