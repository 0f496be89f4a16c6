/-
  Bundle of the texts CrT8 CrT9 CrT10 Ih. Conditions: none.
-/
import Derived.Test.YtpdalbckmfadbaaGreatBucar
import Derived.Deep.RegionHeld3
namespace Go.Proofs.YtpdalbckmfadbaaGreat.Cr
open Go.RowKit
set_option linter.unusedVariables false
def crcSum (k : Int) (xs : List Int) : List Int := splitL (crcFold (sLen k) (sPoly k) xs) (sLen k)
set_option maxHeartbeats 1000000 in
set_option maxRecDepth 100000 in
theorem compute_ok (k : Int) (A : Option Addr) (n c : Nat) (xs : List Int) (w : World) (hx : Rd .u8 w A n c xs) (hk : sLen k ≠ 0) (hv : ValidB xs = true) :
    Calls Tryz.prog 64 #[.int .i64 k, .slice A n c] w fun e w' => ∃ A' c', e = .returned (.tuple #[.slice A' (sLen k) c', .int .i64 0]) ∧ Own .u8 5 w' w.heap.size A' (sLen k) c' (crcSum k xs) ∧ Below w.heap.size w w' := by
  have hN := sLen_cases k
  have h1 := Lib.hid (of_any k w)
  unfold crcSum
  generalize sLen k = L at *
  generalize sPoly k = p at *
  have hb0 : ((L : Int) == 0) = false := beq_f (by omega)
  have hL8 : 8 ≤ L ∧ L ≤ 24 := by omega
  clear hk hN
  go_enter Tryz.func64, Tryz.ntmps64
  go_wp2_with fail
  refine h1.out.mono ?_
  rintro e w1 ⟨rfl, hB1⟩
  have hx1 := Rdv.below hx hB1
  have hx2 := Rdv.alloc hx1 (.cells #[.int .i64 L, .int .u32 p] 118)
  go_wp2_with (go_at_call 63; refine (invalid_any A n c xs _ hx2).mono ?_; rintro e w' ⟨rfl, rfl⟩)
  have hx3 := Rdv.drew (Rdv.alloc hx2 (.cells #[.slice A n c] 22))
  have hbc : ((w1.alloc (Obj.cells #[.int .i64 (L : Int), .int .u32 p] 118)).alloc (Obj.cells #[.slice A n c] 22)).drew.cell? ⟨w1.heap.size + 1, 0, none⟩ = some (.slice A n c) := by simp [go_sem]
  have hk0 : ((w1.alloc (Obj.cells #[.int .i64 (L : Int), .int .u32 p] 118)).alloc (Obj.cells #[.slice A n c] 22)).drew.cell? ⟨w1.heap.size, 0, none⟩ = some (.int .i64 (L : Int)) := by simp [go_sem]
  have hk1 : ((w1.alloc (Obj.cells #[.int .i64 (L : Int), .int .u32 p] 118)).alloc (Obj.cells #[.slice A n c] 22)).drew.cell? ⟨w1.heap.size, 1, none⟩ = some (.int .u32 p) := by simp [go_sem]
  have hsz3 : w1.heap.size + 1 < ((w1.alloc (Obj.cells #[.int .i64 (L : Int), .int .u32 p] 118)).alloc (Obj.cells #[.slice A n c] 22)).drew.heap.size := by simp
  have hdv := Lib.hid (divide_any L p _ A n c xs _ hx3 hsz3 hbc (by omega) (by omega))
  go_region_held3 (fun W => W.cell? ⟨w1.heap.size, 0, none⟩ = some (.int .i64 L) ∧ W.cell? ⟨w1.heap.size, 1, none⟩ = some (.int .u32 p)) (first | (simp [go_sem]; done) | exact ⟨hm0, hm1⟩ | exact ⟨hm2, hm3⟩)
    (first
      | (go_at_call 112; refine (values_any A n c _).mono ?_; rintro e w' ⟨rfl, rfl⟩)
      | (go_at_call 111; refine hdv.out.mono ?_; rintro e w3 ⟨rfl, hB3⟩; have hm0 := (hB3.cell (p := ⟨w1.heap.size, 0, none⟩) (by simp; omega)).trans hk0; have hm1 := (hB3.cell (p := ⟨w1.heap.size, 1, none⟩) (by simp; omega)).trans hk1; have hz3 := hB3.size)
      | (go_at_call 110; refine (split_any _ L _ (by omega)).mono ?_; rintro e w4 ⟨A4, c4, rfl, hO4, hB4⟩; have hm2 := (hB4.cell (p := ⟨w1.heap.size, 0, none⟩) (show w1.heap.size < w3.heap.size by simp at hz3; omega)).trans hm0; have hm3 := (hB4.cell (p := ⟨w1.heap.size, 1, none⟩) (show w1.heap.size < w3.heap.size by simp at hz3; omega)).trans hm1))
  go_wp2
  go_ret2
  have hz3' : w1.heap.size + 1 + 1 ≤ w3.heap.size := by simpa using hz3
  have hz1 := hB1.size
  refine ⟨A4, c4, rfl, Ownv.mono hO4 (by omega), ?_⟩
  exact ((hB1.trans ((((Below.refl _ w1).alloc (Nat.le_refl _) _).alloc (by simp) _).drew.mono hz1)).trans (hB3.mono (by simp; omega))).trans (hB4.mono (by omega))
def cErr (k : Int) (xs : List Int) : Int := if sLen k = 0 then 2 else if ValidB xs = true then 0 else 3
def cRes (k : Int) (xs : List Int) : List Int := if sLen k = 0 then [] else if ValidB xs = true then crcSum k xs else []
set_option maxHeartbeats 1000000 in
set_option maxRecDepth 100000 in
theorem compute_any (k : Int) (A : Option Addr) (n c : Nat) (xs : List Int) (w : World) (hx : Rd .u8 w A n c xs) :
    Calls Tryz.prog 64 #[.int .i64 k, .slice A n c] w fun e w' => ∃ A' n' c', e = .returned (.tuple #[.slice A' n' c', .int .i64 (cErr k xs)]) ∧ Own .u8 5 w' w.heap.size A' n' c' (cRes k xs) ∧ Below w.heap.size w w' := by
  by_cases h0 : sLen k = 0
  · have h1 := Lib.hid (of_any k w)
    have e1 : cErr k xs = 2 := by rw [cErr, if_pos h0]
    have e2 : cRes k xs = [] := by rw [cRes, if_pos h0]
    rw [e1, e2]
    rw [h0] at h1
    generalize sPoly k = p at *
    clear e1 e2 h0
    go_enter Tryz.func64, Tryz.ntmps64
    go_wp2_with fail
    refine h1.out.mono ?_
    rintro e w1 ⟨rfl, hB1⟩
    go_wp2
    go_ret2
    exact ⟨none, 0, 0, rfl, Own.nilv _ _ _ _, hB1.trans (((Below.refl _ w1).alloc (Nat.le_refl _) _).mono hB1.size)⟩
  · by_cases hv : ValidB xs = true
    · have e1 : cErr k xs = 0 := by rw [cErr, if_neg h0, if_pos hv]
      have e2 : cRes k xs = crcSum k xs := by rw [cRes, if_neg h0, if_pos hv]
      rw [e1, e2]
      exact (compute_ok k A n c xs w hx h0 hv).mono fun e w' ⟨A', c', h⟩ => ⟨A', _, c', h⟩
    · have h1 := Lib.hid (of_any k w)
      have e1 : cErr k xs = 3 := by rw [cErr, if_neg h0, if_neg hv]
      have e2 : cRes k xs = [] := by rw [cRes, if_neg h0, if_neg hv]
      have hv' : ValidB xs = false := by simpa using hv
      rw [e1, e2]
      clear e1 e2 hv
      generalize sLen k = L at *
      generalize sPoly k = p at *
      have hb0 : ((L : Int) == 0) = false := beq_f (by omega)
      go_enter Tryz.func64, Tryz.ntmps64
      go_wp2_with fail
      refine h1.out.mono ?_
      rintro e w1 ⟨rfl, hB1⟩
      have hx1 := Rdv.below hx hB1
      have hx2 := Rdv.alloc hx1 (.cells #[.int .i64 L, .int .u32 p] 118)
      go_wp2_with (go_at_call 63; refine (invalid_any A n c xs _ hx2).mono ?_; rintro e w' ⟨rfl, rfl⟩)
      go_ret2
      exact ⟨none, 0, 0, rfl, Own.nilv _ _ _ _, hB1.trans (((Below.refl _ w1).alloc (Nat.le_refl _) _).mono hB1.size)⟩
end Go.Proofs.YtpdalbckmfadbaaGreat.Cr

namespace Go.Proofs.YtpdalbckmfadbaaGreat.Cr
open Go.RowKit
set_option linter.unusedVariables false
theorem el55 : El Tryz.prog 49 22 (.slice none 0 0) 24 := ⟨by kernel_rfl, by kernel_rfl, fun _ => by kernel_rfl, rfl⟩
/-- A slice value and what it reads as. -/
structure Sv where
  A : Option Addr
  n : Nat
  c : Nat
  xs : List Int
def Sv.v (s : Sv) : Value := .slice s.A s.n s.c
def flat (L : List Sv) (j : Nat) : List Int := (L.take j).flatMap (·.xs)
def tot (L : List Sv) (j : Nat) : Nat := ((L.take j).map (·.n)).sum
theorem take_get {L : List Sv} {j : Nat} {s : Sv} (h : L[j]? = some s) : L.take (j + 1) = L.take j ++ [s] := by
  rw [List.take_add_one, h]; rfl
theorem flat_succ {L : List Sv} {j : Nat} {s : Sv} (h : L[j]? = some s) : flat L (j + 1) = flat L j ++ s.xs := by
  unfold flat; rw [take_get h, List.flatMap_append]; simp
theorem tot_succ {L : List Sv} {j : Nat} {s : Sv} (h : L[j]? = some s) : tot L (j + 1) = tot L j + s.n := by
  unfold tot; rw [take_get h, List.map_append, List.sum_append]; simp
theorem tot_le {L : List Sv} {j k : Nat} (h : j ≤ k) : tot L j ≤ tot L k := by
  induction k with
  | zero => obtain rfl : j = 0 := by omega
            exact Nat.le_refl _
  | succ k ih =>
    by_cases hj : j = k + 1
    · subst hj; exact Nat.le_refl _
    · refine Nat.le_trans (ih (by omega)) ?_
      unfold tot
      rw [List.take_add_one, List.map_append, List.sum_append]; omega
def Cc1 (L : List Sv) (n : Nat) (sz i : Value) : Prop := ∃ j : Nat, j ≤ n ∧ i = .int .i64 j ∧ sz = .int .i64 (tot L j : Int)
def Cc2 (w1 : World) (B : Nat) (L : List Sv) (n : Nat) (out i : Value) (wr : World) : Prop := ∃ (j : Nat) (A : Option Addr) (c : Nat), j ≤ n ∧ i = .int .i64 j ∧ out = .slice A (tot L j) c ∧ Own .u8 5 wr B A (tot L j) c (flat L j) ∧ Below w1.heap.size w1 wr
set_option maxHeartbeats 800000 in
set_option maxRecDepth 100000 in
theorem concat_any (A : Option Addr) (n c : Nat) (L : List Sv) (w : World) (h : Rdv w A n c (L.map Sv.v)) (hs : ∀ s ∈ L, Rd .u8 w s.A s.n s.c s.xs) (ht : tot L n ≤ 1000000) :
    Calls Tryz.prog 67 #[.slice A n c] w fun e w' => ∃ A' c', e = .returned (.slice A' (tot L n) c') ∧ Own .u8 5 w' w.heap.size A' (tot L n) c' (flat L n) ∧ Below w.heap.size w w' := by
  have hbd := h.bd.1
  have hl := h.len
  rw [List.length_map] at hl
  have HL := Lib.hid hl; clear hl
  have hget : ∀ j, j < n → ∃ s, L[j]? = some s ∧ w.cell? (adr A j) = some (.slice s.A s.n s.c) ∧ Rd .u8 w s.A s.n s.c s.xs := fun j hj => by
    have hj' : j < L.length := by rw [HL.out]; exact hj
    exact ⟨L[j], List.getElem?_eq_getElem hj', h.at_ j _ (by simp [hj', Sv.v]), hs _ (List.getElem_mem hj')⟩
  have HG := Lib.hid hget; clear hget hs
  go_enter Tryz.func67, Tryz.ntmps67
  go_wp2
  go_loop [3, 11] (fun sz i => Cc1 L n sz i) (fun _ i => n - (intOf i).toNat)
  case atStart => exact ⟨0, by omega, rfl, rfl⟩
  case round =>
    obtain ⟨j, hj, rfl, rfl⟩ := hrel
    by_cases hlt : j < n
    · obtain ⟨s, hs, hc, hR⟩ := HG.out j hlt
      have hix := fun W => Rdv.ix h el55 hlt .i64 W
      have hts := tot_succ hs
      have htl := tot_le (L := L) (show j + 1 ≤ n by omega)
      have HTS := Lib.hid hts
      have HS := Lib.hid hs
      have hb3 : tot L j + s.n ≤ 1000000 := by omega
      clear hts hs
      go_wp2
      go_round
      case rel => exact ⟨j + 1, by omega, by go_num, by rw [HTS.out]; go_num⟩
      case measure => simp [intOf]; omega
    · obtain rfl : j = n := by omega
      go_wp2_with (go_at_call 113; refine (grow_any _ _ (by omega)).mono ?_; rintro e w1 ⟨A1, c1, rfl, hO1, hB1⟩)
      go_loopw [6, 27] (fun out i wr => Cc2 w w.heap.size L j out i wr) (fun _ i _ => j - (intOf i).toNat)
      case atStart => exact ⟨0, A1, c1, by omega, rfl, rfl, Own.of_eq hO1 rfl rfl, hB1⟩
      case round =>
        obtain ⟨q, A2, c2, hq, rfl, rfl, hO2, hB2⟩ := hrel
        by_cases hlq : q < j
        · obtain ⟨s, hs, hc, hR⟩ := HG.out q hlq
          have hh2 := Rdv.below h hB2
          have hix := fun W => Rdv.ix hh2 el55 hlq .i64 W
          have hc2 := (hB2.cell (p := adr A q) (World.block_lt_of_cell? w _ hc)).trans hc
          have hR2 := Rdv.below hR hB2
          have hts := tot_succ hs
          have htl := tot_le (L := L) (show q + 1 ≤ j by omega)
          have HTS := Lib.hid hts
          have HS := Lib.hid hs
          have hb3 : tot L q + s.n ≤ 1000000 := by omega
          have hsz := hB2.size
          clear hts hs hc
          go_wp2_with (at_builtin; go_loud (refine list_of rfl fun K hK => wp_app _ _ 22 rfl el53 rfl rfl hO2 hR2 (oneCell_ints .u8 _) (by omega) (by unfold maxLen; omega) hsz ?_); intro A' c' w' hO' hg; refine hK _ _ ?_; clear hK K)
          go_roundw
          case rel => exact ⟨q + 1, A', c', by omega, by go_num, by rw [HTS.out], Own.of_eq hO' HTS.out.symm (by rw [flat_succ HS.out, List.map_append]), hB2.grown hg hsz (fun k hk => Ownv.ob' hO2 hk)⟩
          case measure => simp [intOf]; omega
        · obtain rfl : q = j := by omega
          go_wp2
          go_ret
          exact ⟨A2, c2, rfl, hO2, hB2⟩

/-! ### Attach -/
def aRes (k : Int) (xs : List Int) : List Int := if sLen k = 0 then [] else if ValidB xs = true then xs ++ crcSum k xs else []
set_option maxHeartbeats 800000 in
set_option maxRecDepth 100000 in
theorem attach_any (k : Int) (A : Option Addr) (n c : Nat) (xs : List Int) (w : World) (hx : Rd .u8 w A n c xs) (hn : n ≤ 100000) :
    Calls Tryz.prog 26 #[.int .i64 k, .slice A n c] w fun e w' => ∃ A' n' c', e = .returned (.tuple #[.slice A' n' c', .int .i64 (cErr k xs)]) ∧ Own .u8 5 w' w.heap.size A' n' c' (aRes k xs) ∧ Below w.heap.size w w' := by
  have hxl := hx.len
  have HXL := Lib.hid hxl; clear hxl
  by_cases h0 : cErr k xs = 0
  · have h1 : sLen k ≠ 0 := by intro h; unfold cErr at h0; rw [if_pos h] at h0; cases h0
    have h2 : ValidB xs = true := by
      by_cases hv : ValidB xs = true
      · exact hv
      · unfold cErr at h0; rw [if_neg h1, if_neg hv] at h0; cases h0
    have e2 : aRes k xs = xs ++ crcSum k xs := by rw [aRes, if_neg h1, if_pos h2]
    have hcmp := Lib.hid (compute_ok k A n c xs w hx h1 h2)
    have hN := sLen_cases k
    rw [h0, e2]
    have hlb : sLen k ≤ 24 := by omega
    clear h0 e2 h1 h2 hN
    generalize crcSum k xs = S at *
    generalize sLen k = N at *
    go_enter Tryz.func26, Tryz.ntmps26
    go_wp2_with fail
    refine hcmp.out.mono ?_
    rintro e w1 ⟨A1, c1, rfl, hO1, hB1⟩
    have hx1 := Rdv.below hx hB1
    have hR1 := Own.rd hO1
    have hx2 := Rdv.alloc hx1 (.cells #[.slice A n c, .slice A1 N c1] 22)
    have hR2 := Rdv.alloc hR1 (.cells #[.slice A n c, .slice A1 N c1] 22)
    have hlit := (Ownv.lit (base := 0) w1 #[.slice A n c, .slice A1 N c1] 22 rfl (Nat.zero_le _) (by show 2 ≤ maxLen; unfold maxLen; omega)).rd
    have htot : tot [⟨A, n, c, xs⟩, ⟨A1, N, c1, S⟩] 2 = n + N := by simp [tot]
    have hflat : flat [⟨A, n, c, xs⟩, ⟨A1, N, c1, S⟩] 2 = xs ++ S := by simp [flat]
    have hcc := concat_any (some ⟨w1.heap.size, 0, none⟩) 2 2 [⟨A, n, c, xs⟩, ⟨A1, N, c1, S⟩] _ hlit (by
      intro s hs
      simp only [List.mem_cons, List.not_mem_nil, or_false] at hs
      rcases hs with rfl | rfl
      · exact hx2
      · exact hR2) (by rw [htot]; omega)
    rw [htot, hflat] at hcc
    have HCC := Lib.hid hcc; clear hcc htot hflat
    go_wp2_with (go_at_call 67; refine HCC.out.mono ?_; rintro e w2 ⟨A2, c2, rfl, hO2, hB2⟩)
    go_ret2
    have hz1 := hB1.size
    have hz2 : w1.heap.size ≤ (w1.alloc (.cells #[.slice A n c, .slice A1 N c1] 22)).heap.size := by simp
    exact ⟨A2, _, c2, rfl, Ownv.mono hO2 (by omega), (hB1.trans (((Below.refl _ w1).alloc (Nat.le_refl _) _).mono hz1)).trans (hB2.mono (by omega))⟩
  · have e2 : aRes k xs = [] := by
      by_cases h1 : sLen k = 0
      · rw [aRes, if_pos h1]
      · by_cases hv : ValidB xs = true
        · exfalso; apply h0; rw [cErr, if_neg h1, if_pos hv]
        · rw [aRes, if_neg h1, if_neg hv]
    have hcmp := Lib.hid (compute_any k A n c xs w hx)
    have hne := bne_t h0
    rw [e2]
    clear h0 e2
    generalize cErr k xs = E at *
    go_enter Tryz.func26, Tryz.ntmps26
    go_wp2_with fail
    refine hcmp.out.mono ?_
    rintro e w1 ⟨A1, n1, c1, rfl, hO1, hB1⟩
    go_wp2
    go_ret2
    exact ⟨none, 0, 0, rfl, Own.nilv _ _ _ _, hB1⟩
end Go.Proofs.YtpdalbckmfadbaaGreat.Cr

namespace Go.Proofs.YtpdalbckmfadbaaGreat.Cr
open Go.RowKit
set_option linter.unusedVariables false
theorem splitL_len (v : Int) (n : Nat) : (splitL v n).length = n := by simp [splitL]
def chkErr (k : Int) (xs : List Int) : Int :=
  if sLen k = 0 then 2 else if ValidB xs = true then (if xs.length < sLen k then 5 else if crcSum k (xs.take (xs.length - sLen k)) = xs.drop (xs.length - sLen k) then 0 else 11) else 3
def chkRes (k : Int) (xs : List Int) : List Int := if chkErr k xs = 0 then xs.take (xs.length - sLen k) else []
set_option maxHeartbeats 1000000 in
set_option maxRecDepth 100000 in
theorem check_any (k : Int) (A : Option Addr) (n c : Nat) (xs : List Int) (w : World) (hx : Rd .u8 w A n c xs) (hn : n ≤ 100000) :
    Calls Tryz.prog 24 #[.int .i64 k, .slice A n c] w fun e w' => ∃ A' n' c', e = .returned (.tuple #[.slice A' n' c', .int .i64 (chkErr k xs)]) ∧ Own .u8 5 w' w.heap.size A' n' c' (chkRes k xs) ∧ Below w.heap.size w w' := by
  have hN := sLen_cases k
  have hxl := hx.len
  have hl := fun W => Lib.hid (len_any k W)
  by_cases h0 : sLen k = 0
  · have e1 : chkErr k xs = 2 := by rw [chkErr, if_pos h0]
    have e2 : chkRes k xs = [] := by rw [chkRes, e1]; rfl
    rw [e1, e2]
    rw [h0] at hl
    clear e1 e2 h0 hN hxl
    go_enter Tryz.func24, Tryz.ntmps24
    go_wp2_with fail
    refine (hl _).out.mono ?_
    rintro e w1 ⟨rfl, hB1⟩
    go_wp2_with fail
    refine (hl _).out.mono ?_
    rintro e w2 ⟨rfl, hB2⟩
    go_wp2
    go_ret2
    exact ⟨none, 0, 0, rfl, Own.nilv _ _ _ _, hB1.trans (hB2.mono hB1.size)⟩
  · by_cases hv : ValidB xs = true
    · by_cases hs : xs.length < sLen k
      · have e1 : chkErr k xs = 5 := by rw [chkErr, if_neg h0, if_pos hv, if_pos hs]
        have e2 : chkRes k xs = [] := by rw [chkRes, e1]; rfl
        rw [e1, e2]
        rw [hxl] at hs
        clear e1 e2 hxl
        generalize sLen k = L at *
        have hb : ((L : Int) == 0) = false := beq_f (by omega)
        have hL8 : 1 ≤ L ∧ L ≤ 24 := by omega
        clear hN h0
        go_enter Tryz.func24, Tryz.ntmps24
        go_wp2_with fail
        refine (hl _).out.mono ?_
        rintro e w1 ⟨rfl, hB1⟩
        go_wp2_with fail
        refine (hl _).out.mono ?_
        rintro e w2 ⟨rfl, hB2⟩
        have hx2 := Rdv.below (Rdv.below hx hB1) hB2
        go_wp2_with (go_at_call 63; refine (invalid_any A n c xs _ hx2).mono ?_; rintro e w' ⟨rfl, rfl⟩)
        go_ret2
        exact ⟨none, 0, 0, rfl, Own.nilv _ _ _ _, hB1.trans (hB2.mono hB1.size)⟩
      · have hc := fun W hW => Lib.hid (compute_ok k A (xs.length - sLen k) c (xs.take (xs.length - sLen k)) W hW h0 (validB_take _ hv))
        by_cases hq : crcSum k (xs.take (xs.length - sLen k)) = xs.drop (xs.length - sLen k)
        · have e1 : chkErr k xs = 0 := by rw [chkErr, if_neg h0, if_pos hv, if_neg hs, if_pos hq]
          have e2 : chkRes k xs = xs.take (xs.length - sLen k) := by rw [chkRes, e1]; rfl
          rw [e1, e2]
          rw [hxl] at *
          clear e1 e2
          have HQ : decide (crcSum k (xs.take (n - sLen k)) = xs.drop (n - sLen k)) = true := by simpa using hq
          clear hq
          generalize crcSum k (xs.take (n - sLen k)) = S at *
          generalize sLen k = L at *
          have hb : ((L : Int) == 0) = false := beq_f (by omega)
          have hL8 : 1 ≤ L ∧ L ≤ 24 := by omega
          have em0 : (n : Int) - (L : Int) = ((n - L : Nat) : Int) := by omega
          have hmn : n - L ≤ n := by omega
          generalize n - L = m at *
          clear hN h0
          go_enter Tryz.func24, Tryz.ntmps24
          go_wp2_with fail
          refine (hl _).out.mono ?_
          rintro e w1 ⟨rfl, hB1⟩
          go_wp2_with fail
          refine (hl _).out.mono ?_
          rintro e w2 ⟨rfl, hB2⟩
          have hx2 := Rdv.below (Rdv.below hx hB1) hB2
          have hsl := fun W => Rdv.slh hx2 el53 .i64 (show m ≤ c by have := Rdv.le hx; omega) W
          have hsl2 := fun W => Rdv.sll hx2 el53 .i64 hmn W
          go_wp2_with (go_at_call 63; refine (invalid_any A n c xs _ hx2).mono ?_; rintro e w' ⟨rfl, rfl⟩)
          refine (hc _ (Rd.upto hx2 hmn)).out.mono ?_
          rintro e w3 ⟨A3, c3, rfl, hO3, hB3⟩
          have hx3 := Rdv.below hx2 hB3
          have hd3 := Rd.cut_ hx3 (l := m) (m := n) hmn (Nat.le_refl _)
          rw [List.take_of_length_le (Nat.le_of_eq hx.len)] at hd3
          go_wp2_with (go_at_call 65; refine (equal_any A3 (cut A c m) L c3 _ _ S (xs.drop m) _ (Own.rd hO3) hd3).mono ?_; rintro e w4 ⟨rfl, hQ4⟩)
          have hz2 := Nat.le_trans hB1.size hB2.size
          have hz3 := hB3.size
          have hz4 := (hQ4.below w3.heap.size).size
          have hx4 := Rdv.below (Rd.upto hx3 (show m ≤ n by omega)) (hQ4.below _)
          go_wp2_with (go_at_call 60; refine (clone_any A m c _ _ hx4 (by omega)).mono ?_; rintro e w5 ⟨A5, c5, rfl, hO5, hB5⟩)
          have hfb : Below w.heap.size w w5 := (((hB1.trans (hB2.mono hB1.size)).trans (hB3.mono hz2)).trans (hQ4.below _)).trans (hB5.mono (by omega))
          go_ret2
          exact ⟨A5, m, c5, rfl, Ownv.mono hO5 (by omega), hfb⟩
        · have e1 : chkErr k xs = 11 := by rw [chkErr, if_neg h0, if_pos hv, if_neg hs, if_neg hq]
          have e2 : chkRes k xs = [] := by rw [chkRes, e1]; rfl
          rw [e1, e2]
          rw [hxl] at *
          clear e1 e2
          have HQ : decide (crcSum k (xs.take (n - sLen k)) = xs.drop (n - sLen k)) = false := by simpa using hq
          clear hq
          generalize crcSum k (xs.take (n - sLen k)) = S at *
          generalize sLen k = L at *
          have hb : ((L : Int) == 0) = false := beq_f (by omega)
          have hL8 : 1 ≤ L ∧ L ≤ 24 := by omega
          have em0 : (n : Int) - (L : Int) = ((n - L : Nat) : Int) := by omega
          have hmn : n - L ≤ n := by omega
          generalize n - L = m at *
          clear hN h0
          go_enter Tryz.func24, Tryz.ntmps24
          go_wp2_with fail
          refine (hl _).out.mono ?_
          rintro e w1 ⟨rfl, hB1⟩
          go_wp2_with fail
          refine (hl _).out.mono ?_
          rintro e w2 ⟨rfl, hB2⟩
          have hx2 := Rdv.below (Rdv.below hx hB1) hB2
          have hsl := fun W => Rdv.slh hx2 el53 .i64 (show m ≤ c by have := Rdv.le hx; omega) W
          have hsl2 := fun W => Rdv.sll hx2 el53 .i64 hmn W
          go_wp2_with (go_at_call 63; refine (invalid_any A n c xs _ hx2).mono ?_; rintro e w' ⟨rfl, rfl⟩)
          refine (hc _ (Rd.upto hx2 hmn)).out.mono ?_
          rintro e w3 ⟨A3, c3, rfl, hO3, hB3⟩
          have hx3 := Rdv.below hx2 hB3
          have hd3 := Rd.cut_ hx3 (l := m) (m := n) hmn (Nat.le_refl _)
          rw [List.take_of_length_le (Nat.le_of_eq hx.len)] at hd3
          go_wp2_with (go_at_call 65; refine (equal_any A3 (cut A c m) L c3 _ _ S (xs.drop m) _ (Own.rd hO3) hd3).mono ?_; rintro e w4 ⟨rfl, hQ4⟩)
          have hz2 := Nat.le_trans hB1.size hB2.size
          have hfb : Below w.heap.size w w4 := ((hB1.trans (hB2.mono hB1.size)).trans (hB3.mono hz2)).trans (hQ4.below _)
          go_wp2
          go_ret2
          exact ⟨none, 0, 0, rfl, Own.nilv _ _ _ _, hfb⟩
    · have e1 : chkErr k xs = 3 := by rw [chkErr, if_neg h0, if_neg hv]
      have e2 : chkRes k xs = [] := by rw [chkRes, e1]; rfl
      have hv' : ValidB xs = false := by simpa using hv
      rw [e1, e2]
      clear e1 e2 hxl hv
      generalize sLen k = L at *
      have hb : ((L : Int) == 0) = false := beq_f (by omega)
      go_enter Tryz.func24, Tryz.ntmps24
      go_wp2_with fail
      refine (hl _).out.mono ?_
      rintro e w1 ⟨rfl, hB1⟩
      go_wp2_with fail
      refine (hl _).out.mono ?_
      rintro e w2 ⟨rfl, hB2⟩
      have hx2 := Rdv.below (Rdv.below hx hB1) hB2
      go_wp2_with (go_at_call 63; refine (invalid_any A n c xs _ hx2).mono ?_; rintro e w' ⟨rfl, rfl⟩)
      go_ret2
      exact ⟨none, 0, 0, rfl, Own.nilv _ _ _ _, hB1.trans (hB2.mono hB1.size)⟩

/-! ### Mask -/
end Go.Proofs.YtpdalbckmfadbaaGreat.Cr

namespace Go.Proofs.YtpdalbckmfadbaaGreat
open Go.RowKit
set_option linter.unusedVariables false
attribute [local go_sem] Oper.semAt_some
theorem below_grown {w w1 w2 : World} {D : Nat} (h : Below w.heap.size w w1) (hg : w1.grownBy w2 (some D)) : w.grownBy w2 (some D) :=
  ⟨hg.os.trans h.os, hg.tape.trans h.tape, hg.output.trans h.output, Nat.le_trans h.size hg.size, fun j hj hne => (hg.block j (Nat.lt_of_lt_of_le hj h.size) hne).trans (h.block j hj)⟩
set_option maxRecDepth 100000 in
theorem agrees_any {D k : Nat} {vs a bs : List Int} {h : Nat} {V : Option Addr} {vc : Nat} {O : Option Addr} {oc : Nat} {I : Option Addr} {ic : Nat} {A : Option Addr} {ac : Nat} {B : Option Addr} {bn bc : Nat} (R : Option Addr) (rn rc : Nat) (xs : List Int) (w : World) (hs : DS w D k vs a bs h V vc O oc I ic A ac B bn bc) (hr : Rd .u8 w R rn rc xs) (hh : h ≤ 100000) :
    Calls Tryz.prog 98 #[.pointer (some ⟨D, 0, none⟩), .slice R rn rc] w fun e w' => e = .returned (.bool (decide (2 ≤ h) && decide (xs = bs))) ∧ Below w.heap.size w w' := by
  have k5 := hs.b.cell (j := 5) (v := .int .i64 (h : Int)) rfl
  have k4 := hs.b.cell (j := 4) (v := .slice B bn bc) rfl
  have HEQ := Lib.hid (Cr.equal_any R B rn rc bn bc xs bs w hr hs.p)
  clear hs hr
  by_cases h2 : 2 ≤ h
  · have q : decide ((h : Int) ≥ 2) = true := by simp; omega
    rw [decide_eq_true h2, Bool.true_and]
    clear h2
    generalize decide (xs = bs) = p at *
    go_enter Tryz.func98, Tryz.ntmps98
    go_wp2_with fail
    refine HEQ.out.mono ?_
    rintro e w1 ⟨rfl, q1, rfl⟩
    go_wp2
    go_ret
    exact ⟨rfl, Qt.below ⟨q1, rfl⟩ _⟩
  · have q : decide ((h : Int) ≥ 2) = false := by simp; omega
    rw [decide_eq_false h2, Bool.false_and]
    clear h2
    go_enter Tryz.func98, Tryz.ntmps98
    go_wp2
    go_ret
    exact ⟨rfl, Below.refl _ _⟩
set_option maxRecDepth 100000 in
theorem pass1_any {D k : Nat} {vs a bs : List Int} {h : Nat} {V : Option Addr} {vc : Nat} {O : Option Addr} {oc : Nat} {I : Option Addr} {ic : Nat} {A : Option Addr} {ac : Nat} {B : Option Addr} {bn bc : Nat} (b3 b4 : Nat) (R : Option Addr) (rn rc : Nat) (xs : List Int) (w : World) (hs : DS w D k vs a bs h V vc O oc I ic A ac B bn bc) (hr : Rd .u8 w R rn rc xs) (hh : h ≤ 100000) (h3 : Blk w b3 90 [.pointer (some ⟨D, 0, none⟩)]) (h4 : Blk w b4 22 [.slice R rn rc]) :
    Calls Tryz.prog 97 #[.pointer (some ⟨b3, 0, none⟩), .pointer (some ⟨b4, 0, none⟩)] w fun e w' => e = .returned (.bool (decide (2 ≤ h) && decide (xs = bs))) ∧ Below w.heap.size w w' := by
  have HAG := Lib.hid (agrees_any R rn rc xs w hs hr hh)
  have k3 := h3.cell (j := 0) (v := .pointer (some ⟨D, 0, none⟩)) rfl
  have k4 := h4.cell (j := 0) (v := .slice R rn rc) rfl
  clear hs hr h3 h4
  generalize (decide (2 ≤ h) && decide (xs = bs)) = p at *
  go_enter Tryz.func97, Tryz.ntmps97
  go_wp2_with fail
  refine HAG.out.mono ?_
  rintro e w1 ⟨rfl, hB⟩
  go_wp2
  go_ret
  exact ⟨rfl, hB⟩
set_option maxRecDepth 100000 in
theorem pass2_any (b5 b4 : Nat) (kind : Int) (R : Option Addr) (rn rc : Nat) (xs : List Int) (w : World) (hr : Rd .u8 w R rn rc xs) (hn : rn ≤ 100000) (h5 : Blk w b5 24 [.int .i64 kind]) (h4 : Blk w b4 22 [.slice R rn rc]) :
    Calls Tryz.prog 99 #[.pointer (some ⟨b5, 0, none⟩), .pointer (some ⟨b4, 0, none⟩)] w fun e w' => e = .returned (.bool (decide (Cr.chkErr kind xs = 0))) ∧ Below w.heap.size w w' := by
  have HCK := Lib.hid (Cr.check_any kind R rn rc xs w hr hn)
  have k5 := h5.cell (j := 0) (v := .int .i64 kind) rfl
  have k4 := h4.cell (j := 0) (v := .slice R rn rc) rfl
  clear hr h5 h4
  by_cases hE : Cr.chkErr kind xs = 0
  · rw [decide_eq_true hE]
    rw [hE] at HCK
    clear hE
    go_enter Tryz.func99, Tryz.ntmps99
    go_wp2_with fail
    refine HCK.out.mono ?_
    rintro e w1 ⟨A', n', c', rfl, hO, hB⟩
    clear hO
    go_wp2
    go_ret
    exact ⟨rfl, hB⟩
  · rw [decide_eq_false hE]
    have q : (Cr.chkErr kind xs == 0) = false := beq_f hE
    generalize Cr.chkErr kind xs = E at *
    clear hE
    go_enter Tryz.func99, Tryz.ntmps99
    go_wp2_with fail
    refine HCK.out.mono ?_
    rintro e w1 ⟨A', n', c', rfl, hO, hB⟩
    clear hO
    go_wp2
    go_ret
    exact ⟨rfl, hB⟩
set_option maxRecDepth 100000 in
set_option maxHeartbeats 1000000 in
theorem passes0_any {D k : Nat} {vs a bs : List Int} {h : Nat} {V : Option Addr} {vc : Nat} {O : Option Addr} {oc : Nat} {I : Option Addr} {ic : Nat} {A : Option Addr} {ac : Nat} {B : Option Addr} {bn bc : Nat} (R : Option Addr) (rn rc : Nat) (xs : List Int) (w : World) (hs : DS w D k vs a bs h V vc O oc I ic A ac B bn bc) (hr : Rd .u8 w R rn rc xs) (hrn : R ≠ none → blk R ≠ D) (hh : h ≤ 100000) (hn : rn ≤ 100000) :
    Calls Tryz.prog 51 #[.pointer (some ⟨D, 0, none⟩), .slice R rn rc, .int .i64 0] w fun e w' => e = .returned (.bool (decide (2 ≤ h) && decide (xs = bs))) ∧ DS w' D k vs a xs h V vc O oc I ic A ac R rn rc ∧ w.grownBy w' (some D) := by
  have hD := hs.b.lt
  have HB0 : Hid (Below w.heap.size w ((((w.alloc (.cells #[.pointer (some ⟨D, 0, none⟩)] 90)).alloc (.cells #[.slice R rn rc] 22)).alloc (.cells #[.int .i64 0] 24)).alloc (.cells #[.nilFunc, .nilFunc] 151))) := Lib.hid (((((Below.refl _ w).alloc (Nat.le_refl _) _).alloc (by simp) _).alloc (by simp; omega) _).alloc (by simp; omega) _)
  have hL0 : Blk ((((w.alloc (.cells #[.pointer (some ⟨D, 0, none⟩)] 90)).alloc (.cells #[.slice R rn rc] 22)).alloc (.cells #[.int .i64 0] 24)).alloc (.cells #[.nilFunc, .nilFunc] 151)) (w.heap.size + 1 + 1 + 1) 151 [.nilFunc, .nilFunc] := Blk.new (((w.alloc (.cells #[.pointer (some ⟨D, 0, none⟩)] 90)).alloc (.cells #[.slice R rn rc] 22)).alloc (.cells #[.int .i64 0] 24)) [.nilFunc, .nilFunc] 151 (by simp)
  have H3 : Hid (Blk ((((w.alloc (.cells #[.pointer (some ⟨D, 0, none⟩)] 90)).alloc (.cells #[.slice R rn rc] 22)).alloc (.cells #[.int .i64 0] 24)).alloc (.cells #[.nilFunc, .nilFunc] 151)) w.heap.size 90 [.pointer (some ⟨D, 0, none⟩)]) := Lib.hid ((((Blk.new w [.pointer (some ⟨D, 0, none⟩)] 90 rfl).alloc _).alloc _).alloc _)
  have H4 : Hid (Blk ((((w.alloc (.cells #[.pointer (some ⟨D, 0, none⟩)] 90)).alloc (.cells #[.slice R rn rc] 22)).alloc (.cells #[.int .i64 0] 24)).alloc (.cells #[.nilFunc, .nilFunc] 151)) (w.heap.size + 1) 22 [.slice R rn rc]) := Lib.hid (((Blk.new (w.alloc (.cells #[.pointer (some ⟨D, 0, none⟩)] 90)) [.slice R rn rc] 22 (by simp)).alloc _).alloc _)
  have H5 : Hid (Blk ((((w.alloc (.cells #[.pointer (some ⟨D, 0, none⟩)] 90)).alloc (.cells #[.slice R rn rc] 22)).alloc (.cells #[.int .i64 0] 24)).alloc (.cells #[.nilFunc, .nilFunc] 151)) (w.heap.size + 1 + 1) 24 [.int .i64 0]) := Lib.hid ((Blk.new ((w.alloc (.cells #[.pointer (some ⟨D, 0, none⟩)] 90)).alloc (.cells #[.slice R rn rc] 22)) [.int .i64 0] 24 (by simp)).alloc _)
  have HS := Lib.hid hs
  have HR := Lib.hid hr
  clear hs hr
  go_enter Tryz.func51, Tryz.ntmps51
  go_wp2_with (refine strow (cs := [.func (.func 97) #[] #[.pointer (some ⟨w.heap.size, 0, none⟩), .pointer (some ⟨w.heap.size + 1, 0, none⟩)], .func (.func 99) #[] #[.pointer (some ⟨w.heap.size + 1 + 1, 0, none⟩), .pointer (some ⟨w.heap.size + 1, 0, none⟩)]]) rfl 151 (.tmp 7) (.tmp 11) rfl rfl rfl hL0 rfl (by kernel_rfl) (by simp [Value.oneCell']) ?_
               intro W5 g1 g2
               have HA := Lib.hid g1
               have HB3 := Lib.hid (H3.out.grown g2 (by simp; omega))
               have HB4 := Lib.hid (H4.out.grown g2 (by simp))
               have HB5 := Lib.hid (H5.out.grown g2 (by simp))
               have HBW := Lib.hid (HB0.out.grown g2 HB0.out.size (fun j e => by cases e; omega))
               have HDS5 := Lib.hid (DS.below HS.out HBW.out)
               have HR5 := Lib.hid (Rdv.below HR.out HBW.out)
               have k5 := HB5.out.cell (j := 0) (v := .int .i64 0) rfl
               have kf : W5.cell? ⟨w.heap.size + 1 + 1 + 1, 0, none⟩ = some (.func (.func 97) #[] #[.pointer (some ⟨w.heap.size, 0, none⟩), .pointer (some ⟨w.heap.size + 1, 0, none⟩)]) := HA.out.cell rfl
               clear g1 g2 hL0 H3 H4 H5 HB0)
  refine (pass1_any w.heap.size (w.heap.size + 1) R rn rc xs W5 HDS5.out HR5.out hh HB3.out HB4.out).mono ?_
  rintro e w6 ⟨rfl, hB6⟩
  have HD6 := Lib.hid (DS.below HDS5.out hB6)
  have HR6 := Lib.hid (Rdv.below HR5.out hB6)
  have k63 := (HB3.out.below hB6).cell (j := 0) (v := .pointer (some ⟨D, 0, none⟩)) rfl
  have k64 := (HB4.out.below hB6).cell (j := 0) (v := .slice R rn rc) rfl
  have k6d := HD6.out.b.cell (j := 4) (v := .slice B bn bc) rfl
  have f6d := HD6.out.b.frozen 4
  have HBW6 := Lib.hid (HBW.out.trans (hB6.mono HBW.out.size))
  have hg : w6.grownBy (w6.setCell ⟨D, 4, none⟩ (.slice R rn rc)) (some D) := grownBy_set _ _ _ _
  have HF : Hid (DS (w6.setCell ⟨D, 4, none⟩ (.slice R rn rc)) D k vs a xs h V vc O oc I ic A ac R rn rc) := Lib.hid ⟨HD6.out.b.set 4 _, Rdv.grown HD6.out.v hg (nesome HD6.out.nv), Rdv.grown HD6.out.o hg (nesome HD6.out.no), Rdv.grown HD6.out.i hg (nesome HD6.out.ni), Rdv.grown HD6.out.a hg (nesome HD6.out.na), Rdv.grown HR6.out hg (nesome hrn), HD6.out.nv, HD6.out.no, HD6.out.ni, HD6.out.na, hrn⟩
  have HG : Hid (w.grownBy (w6.setCell ⟨D, 4, none⟩ (.slice R rn rc)) (some D)) := Lib.hid (below_grown HBW6.out hg)
  clear hB6 hg HA HB3 HB4 HB5 k5 kf
  generalize hp : (decide (2 ≤ h) && decide (xs = bs)) = p
  have HP := Lib.hid hp
  clear hp
  go_wp2
  go_ret
  exact ⟨ret_bool HP.out.symm, HF.out, HG.out⟩
set_option maxRecDepth 100000 in
set_option maxHeartbeats 1000000 in
theorem passes1_any {D k : Nat} {vs a bs : List Int} {h : Nat} {V : Option Addr} {vc : Nat} {O : Option Addr} {oc : Nat} {I : Option Addr} {ic : Nat} {A : Option Addr} {ac : Nat} {B : Option Addr} {bn bc : Nat} (R : Option Addr) (rn rc : Nat) (xs : List Int) (w : World) (hs : DS w D k vs a bs h V vc O oc I ic A ac B bn bc) (hr : Rd .u8 w R rn rc xs) (hrn : R ≠ none → blk R ≠ D) (hh : h ≤ 100000) (hn : rn ≤ 100000) :
    Calls Tryz.prog 51 #[.pointer (some ⟨D, 0, none⟩), .slice R rn rc, .int .i64 1] w fun e w' => e = .returned (.bool (decide (Cr.chkErr 1 xs = 0))) ∧ DS w' D k vs a xs h V vc O oc I ic A ac R rn rc ∧ w.grownBy w' (some D) := by
  have hD := hs.b.lt
  have HB0 : Hid (Below w.heap.size w ((((w.alloc (.cells #[.pointer (some ⟨D, 0, none⟩)] 90)).alloc (.cells #[.slice R rn rc] 22)).alloc (.cells #[.int .i64 1] 24)).alloc (.cells #[.nilFunc, .nilFunc] 151))) := Lib.hid (((((Below.refl _ w).alloc (Nat.le_refl _) _).alloc (by simp) _).alloc (by simp; omega) _).alloc (by simp; omega) _)
  have hL0 : Blk ((((w.alloc (.cells #[.pointer (some ⟨D, 0, none⟩)] 90)).alloc (.cells #[.slice R rn rc] 22)).alloc (.cells #[.int .i64 1] 24)).alloc (.cells #[.nilFunc, .nilFunc] 151)) (w.heap.size + 1 + 1 + 1) 151 [.nilFunc, .nilFunc] := Blk.new (((w.alloc (.cells #[.pointer (some ⟨D, 0, none⟩)] 90)).alloc (.cells #[.slice R rn rc] 22)).alloc (.cells #[.int .i64 1] 24)) [.nilFunc, .nilFunc] 151 (by simp)
  have H3 : Hid (Blk ((((w.alloc (.cells #[.pointer (some ⟨D, 0, none⟩)] 90)).alloc (.cells #[.slice R rn rc] 22)).alloc (.cells #[.int .i64 1] 24)).alloc (.cells #[.nilFunc, .nilFunc] 151)) w.heap.size 90 [.pointer (some ⟨D, 0, none⟩)]) := Lib.hid ((((Blk.new w [.pointer (some ⟨D, 0, none⟩)] 90 rfl).alloc _).alloc _).alloc _)
  have H4 : Hid (Blk ((((w.alloc (.cells #[.pointer (some ⟨D, 0, none⟩)] 90)).alloc (.cells #[.slice R rn rc] 22)).alloc (.cells #[.int .i64 1] 24)).alloc (.cells #[.nilFunc, .nilFunc] 151)) (w.heap.size + 1) 22 [.slice R rn rc]) := Lib.hid (((Blk.new (w.alloc (.cells #[.pointer (some ⟨D, 0, none⟩)] 90)) [.slice R rn rc] 22 (by simp)).alloc _).alloc _)
  have H5 : Hid (Blk ((((w.alloc (.cells #[.pointer (some ⟨D, 0, none⟩)] 90)).alloc (.cells #[.slice R rn rc] 22)).alloc (.cells #[.int .i64 1] 24)).alloc (.cells #[.nilFunc, .nilFunc] 151)) (w.heap.size + 1 + 1) 24 [.int .i64 1]) := Lib.hid ((Blk.new ((w.alloc (.cells #[.pointer (some ⟨D, 0, none⟩)] 90)).alloc (.cells #[.slice R rn rc] 22)) [.int .i64 1] 24 (by simp)).alloc _)
  have HS := Lib.hid hs
  have HR := Lib.hid hr
  clear hs hr
  go_enter Tryz.func51, Tryz.ntmps51
  go_wp2_with (refine strow (cs := [.func (.func 97) #[] #[.pointer (some ⟨w.heap.size, 0, none⟩), .pointer (some ⟨w.heap.size + 1, 0, none⟩)], .func (.func 99) #[] #[.pointer (some ⟨w.heap.size + 1 + 1, 0, none⟩), .pointer (some ⟨w.heap.size + 1, 0, none⟩)]]) rfl 151 (.tmp 7) (.tmp 11) rfl rfl rfl hL0 rfl (by kernel_rfl) (by simp [Value.oneCell']) ?_
               intro W5 g1 g2
               have HA := Lib.hid g1
               have HB3 := Lib.hid (H3.out.grown g2 (by simp; omega))
               have HB4 := Lib.hid (H4.out.grown g2 (by simp))
               have HB5 := Lib.hid (H5.out.grown g2 (by simp))
               have HBW := Lib.hid (HB0.out.grown g2 HB0.out.size (fun j e => by cases e; omega))
               have HDS5 := Lib.hid (DS.below HS.out HBW.out)
               have HR5 := Lib.hid (Rdv.below HR.out HBW.out)
               have k5 := HB5.out.cell (j := 0) (v := .int .i64 1) rfl
               have kf : W5.cell? ⟨w.heap.size + 1 + 1 + 1, 1, none⟩ = some (.func (.func 99) #[] #[.pointer (some ⟨w.heap.size + 1 + 1, 0, none⟩), .pointer (some ⟨w.heap.size + 1, 0, none⟩)]) := HA.out.cell rfl
               clear g1 g2 hL0 H3 H4 H5 HB0)
  refine (pass2_any (w.heap.size + 1 + 1) (w.heap.size + 1) 1 R rn rc xs W5 HR5.out hn HB5.out HB4.out).mono ?_
  rintro e w6 ⟨rfl, hB6⟩
  have HD6 := Lib.hid (DS.below HDS5.out hB6)
  have HR6 := Lib.hid (Rdv.below HR5.out hB6)
  have k63 := (HB3.out.below hB6).cell (j := 0) (v := .pointer (some ⟨D, 0, none⟩)) rfl
  have k64 := (HB4.out.below hB6).cell (j := 0) (v := .slice R rn rc) rfl
  have k6d := HD6.out.b.cell (j := 4) (v := .slice B bn bc) rfl
  have f6d := HD6.out.b.frozen 4
  have HBW6 := Lib.hid (HBW.out.trans (hB6.mono HBW.out.size))
  have hg : w6.grownBy (w6.setCell ⟨D, 4, none⟩ (.slice R rn rc)) (some D) := grownBy_set _ _ _ _
  have HF : Hid (DS (w6.setCell ⟨D, 4, none⟩ (.slice R rn rc)) D k vs a xs h V vc O oc I ic A ac R rn rc) := Lib.hid ⟨HD6.out.b.set 4 _, Rdv.grown HD6.out.v hg (nesome HD6.out.nv), Rdv.grown HD6.out.o hg (nesome HD6.out.no), Rdv.grown HD6.out.i hg (nesome HD6.out.ni), Rdv.grown HD6.out.a hg (nesome HD6.out.na), Rdv.grown HR6.out hg (nesome hrn), HD6.out.nv, HD6.out.no, HD6.out.ni, HD6.out.na, hrn⟩
  have HG : Hid (w.grownBy (w6.setCell ⟨D, 4, none⟩ (.slice R rn rc)) (some D)) := Lib.hid (below_grown HBW6.out hg)
  clear hB6 hg HA HB3 HB4 HB5 k5 kf
  generalize hp : (decide (Cr.chkErr 1 xs = 0)) = p
  have HP := Lib.hid hp
  clear hp
  go_wp2
  go_ret
  exact ⟨ret_bool HP.out.symm, HF.out, HG.out⟩
set_option maxRecDepth 100000 in
set_option maxHeartbeats 1000000 in
theorem passes2_any {D k : Nat} {vs a bs : List Int} {h : Nat} {V : Option Addr} {vc : Nat} {O : Option Addr} {oc : Nat} {I : Option Addr} {ic : Nat} {A : Option Addr} {ac : Nat} {B : Option Addr} {bn bc : Nat} (kind : Int) (hk : 1 < kind) (R : Option Addr) (rn rc : Nat) (xs : List Int) (w : World) (hs : DS w D k vs a bs h V vc O oc I ic A ac B bn bc) (hr : Rd .u8 w R rn rc xs) (hrn : R ≠ none → blk R ≠ D) (hh : h ≤ 100000) (hn : rn ≤ 100000) :
    Calls Tryz.prog 51 #[.pointer (some ⟨D, 0, none⟩), .slice R rn rc, .int .i64 kind] w fun e w' => e = .returned (.bool (decide (Cr.chkErr kind xs = 0))) ∧ DS w' D k vs a xs h V vc O oc I ic A ac R rn rc ∧ w.grownBy w' (some D) := by
  have hD := hs.b.lt
  have HB0 : Hid (Below w.heap.size w ((((w.alloc (.cells #[.pointer (some ⟨D, 0, none⟩)] 90)).alloc (.cells #[.slice R rn rc] 22)).alloc (.cells #[.int .i64 kind] 24)).alloc (.cells #[.nilFunc, .nilFunc] 151))) := Lib.hid (((((Below.refl _ w).alloc (Nat.le_refl _) _).alloc (by simp) _).alloc (by simp; omega) _).alloc (by simp; omega) _)
  have hL0 : Blk ((((w.alloc (.cells #[.pointer (some ⟨D, 0, none⟩)] 90)).alloc (.cells #[.slice R rn rc] 22)).alloc (.cells #[.int .i64 kind] 24)).alloc (.cells #[.nilFunc, .nilFunc] 151)) (w.heap.size + 1 + 1 + 1) 151 [.nilFunc, .nilFunc] := Blk.new (((w.alloc (.cells #[.pointer (some ⟨D, 0, none⟩)] 90)).alloc (.cells #[.slice R rn rc] 22)).alloc (.cells #[.int .i64 kind] 24)) [.nilFunc, .nilFunc] 151 (by simp)
  have H3 : Hid (Blk ((((w.alloc (.cells #[.pointer (some ⟨D, 0, none⟩)] 90)).alloc (.cells #[.slice R rn rc] 22)).alloc (.cells #[.int .i64 kind] 24)).alloc (.cells #[.nilFunc, .nilFunc] 151)) w.heap.size 90 [.pointer (some ⟨D, 0, none⟩)]) := Lib.hid ((((Blk.new w [.pointer (some ⟨D, 0, none⟩)] 90 rfl).alloc _).alloc _).alloc _)
  have H4 : Hid (Blk ((((w.alloc (.cells #[.pointer (some ⟨D, 0, none⟩)] 90)).alloc (.cells #[.slice R rn rc] 22)).alloc (.cells #[.int .i64 kind] 24)).alloc (.cells #[.nilFunc, .nilFunc] 151)) (w.heap.size + 1) 22 [.slice R rn rc]) := Lib.hid (((Blk.new (w.alloc (.cells #[.pointer (some ⟨D, 0, none⟩)] 90)) [.slice R rn rc] 22 (by simp)).alloc _).alloc _)
  have H5 : Hid (Blk ((((w.alloc (.cells #[.pointer (some ⟨D, 0, none⟩)] 90)).alloc (.cells #[.slice R rn rc] 22)).alloc (.cells #[.int .i64 kind] 24)).alloc (.cells #[.nilFunc, .nilFunc] 151)) (w.heap.size + 1 + 1) 24 [.int .i64 kind]) := Lib.hid ((Blk.new ((w.alloc (.cells #[.pointer (some ⟨D, 0, none⟩)] 90)).alloc (.cells #[.slice R rn rc] 22)) [.int .i64 kind] 24 (by simp)).alloc _)
  have HS := Lib.hid hs
  have HR := Lib.hid hr
  clear hs hr
  go_enter Tryz.func51, Tryz.ntmps51
  go_wp2_with (refine strow (cs := [.func (.func 97) #[] #[.pointer (some ⟨w.heap.size, 0, none⟩), .pointer (some ⟨w.heap.size + 1, 0, none⟩)], .func (.func 99) #[] #[.pointer (some ⟨w.heap.size + 1 + 1, 0, none⟩), .pointer (some ⟨w.heap.size + 1, 0, none⟩)]]) rfl 151 (.tmp 7) (.tmp 11) rfl rfl rfl hL0 rfl (by kernel_rfl) (by simp [Value.oneCell']) ?_
               intro W5 g1 g2
               have HA := Lib.hid g1
               have HB3 := Lib.hid (H3.out.grown g2 (by simp; omega))
               have HB4 := Lib.hid (H4.out.grown g2 (by simp))
               have HB5 := Lib.hid (H5.out.grown g2 (by simp))
               have HBW := Lib.hid (HB0.out.grown g2 HB0.out.size (fun j e => by cases e; omega))
               have HDS5 := Lib.hid (DS.below HS.out HBW.out)
               have HR5 := Lib.hid (Rdv.below HR.out HBW.out)
               have k5 := HB5.out.cell (j := 0) (v := .int .i64 kind) rfl
               have kf : W5.cell? ⟨w.heap.size + 1 + 1 + 1, 1, none⟩ = some (.func (.func 99) #[] #[.pointer (some ⟨w.heap.size + 1 + 1, 0, none⟩), .pointer (some ⟨w.heap.size + 1, 0, none⟩)]) := HA.out.cell rfl
               clear g1 g2 hL0 H3 H4 H5 HB0)
  refine (pass2_any (w.heap.size + 1 + 1) (w.heap.size + 1) kind R rn rc xs W5 HR5.out hn HB5.out HB4.out).mono ?_
  rintro e w6 ⟨rfl, hB6⟩
  have HD6 := Lib.hid (DS.below HDS5.out hB6)
  have HR6 := Lib.hid (Rdv.below HR5.out hB6)
  have k63 := (HB3.out.below hB6).cell (j := 0) (v := .pointer (some ⟨D, 0, none⟩)) rfl
  have k64 := (HB4.out.below hB6).cell (j := 0) (v := .slice R rn rc) rfl
  have k6d := HD6.out.b.cell (j := 4) (v := .slice B bn bc) rfl
  have f6d := HD6.out.b.frozen 4
  have HBW6 := Lib.hid (HBW.out.trans (hB6.mono HBW.out.size))
  have hg : w6.grownBy (w6.setCell ⟨D, 4, none⟩ (.slice R rn rc)) (some D) := grownBy_set _ _ _ _
  have HF : Hid (DS (w6.setCell ⟨D, 4, none⟩ (.slice R rn rc)) D k vs a xs h V vc O oc I ic A ac R rn rc) := Lib.hid ⟨HD6.out.b.set 4 _, Rdv.grown HD6.out.v hg (nesome HD6.out.nv), Rdv.grown HD6.out.o hg (nesome HD6.out.no), Rdv.grown HD6.out.i hg (nesome HD6.out.ni), Rdv.grown HD6.out.a hg (nesome HD6.out.na), Rdv.grown HR6.out hg (nesome hrn), HD6.out.nv, HD6.out.no, HD6.out.ni, HD6.out.na, hrn⟩
  have HG : Hid (w.grownBy (w6.setCell ⟨D, 4, none⟩ (.slice R rn rc)) (some D)) := Lib.hid (below_grown HBW6.out hg)
  clear hB6 hg HA HB3 HB4 HB5 k5 kf
  generalize hp : (decide (Cr.chkErr kind xs = 0)) = p
  have HP := Lib.hid hp
  clear hp
  go_wp2
  go_ret
  exact ⟨ret_bool HP.out.symm, HF.out, HG.out⟩
end Go.Proofs.YtpdalbckmfadbaaGreat

