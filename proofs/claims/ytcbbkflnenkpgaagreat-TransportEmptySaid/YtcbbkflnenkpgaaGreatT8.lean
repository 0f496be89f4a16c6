import Derived.Test.YtcbbkflnenkpgaaGreatT8a
import Derived.Deep.RegionHeld3
namespace Go.Proofs.YtcbbkflnenkpgaaGreat
open Go.RowKit
set_option linter.unusedVariables false
def crcSum (k : Int) (xs : List Int) : List Int := splitL (crcFold (sLen k) (sPoly k) xs) (sLen k)
set_option maxHeartbeats 1000000 in
set_option maxRecDepth 100000 in
theorem compute_ok (k : Int) (A : Option Addr) (n c : Nat) (xs : List Int) (w : World) (hx : Rd .u8 w A n c xs) (hk : sLen k ≠ 0) (hv : ValidB xs = true) :
    Calls Tryz.prog 40 #[.int .i64 k, .slice A n c] w fun e w' => ∃ A' c', e = .returned (.tuple #[.slice A' (sLen k) c', .int .i64 0]) ∧ Own .u8 5 w' w.heap.size A' (sLen k) c' (crcSum k xs) ∧ Below w.heap.size w w' := by
  have hN := sLen_cases k
  have h1 := Lib.hid (of_any k w)
  unfold crcSum
  generalize sLen k = L at *
  generalize sPoly k = p at *
  have hb0 : ((L : Int) == 0) = false := beq_f (by omega)
  have hL8 : 8 ≤ L ∧ L ≤ 24 := by omega
  clear hk hN
  go_enter Tryz.func40, Tryz.ntmps40
  go_wp2_with fail
  refine h1.out.mono ?_
  rintro e w1 ⟨rfl, hB1⟩
  have hx1 := Rdv.below hx hB1
  have hx2 := Rdv.alloc hx1 (.cells #[.int .i64 L, .int .u32 p] 122)
  go_wp2_with (go_at_call 82; refine (invalid_any A n c xs _ hx2).mono ?_; rintro e w' ⟨rfl, rfl⟩)
  have hx3 := Rdv.drew (Rdv.alloc hx2 (.cells #[.slice A n c] 25))
  have hbc : ((w1.alloc (Obj.cells #[.int .i64 (L : Int), .int .u32 p] 122)).alloc (Obj.cells #[.slice A n c] 25)).drew.cell? ⟨w1.heap.size + 1, 0, none⟩ = some (.slice A n c) := by simp [go_sem]
  have hk0 : ((w1.alloc (Obj.cells #[.int .i64 (L : Int), .int .u32 p] 122)).alloc (Obj.cells #[.slice A n c] 25)).drew.cell? ⟨w1.heap.size, 0, none⟩ = some (.int .i64 (L : Int)) := by simp [go_sem]
  have hk1 : ((w1.alloc (Obj.cells #[.int .i64 (L : Int), .int .u32 p] 122)).alloc (Obj.cells #[.slice A n c] 25)).drew.cell? ⟨w1.heap.size, 1, none⟩ = some (.int .u32 p) := by simp [go_sem]
  have hsz3 : w1.heap.size + 1 < ((w1.alloc (Obj.cells #[.int .i64 (L : Int), .int .u32 p] 122)).alloc (Obj.cells #[.slice A n c] 25)).drew.heap.size := by simp
  have hdv := Lib.hid (divide_any L p _ A n c xs _ hx3 hsz3 hbc (by omega) (by omega))
  go_region_held3 (fun W => W.cell? ⟨w1.heap.size, 0, none⟩ = some (.int .i64 L) ∧ W.cell? ⟨w1.heap.size, 1, none⟩ = some (.int .u32 p)) (first | (simp [go_sem]; done) | exact ⟨hm0, hm1⟩ | exact ⟨hm2, hm3⟩)
    (first
      | (go_at_call 88; refine (values_any A n c _).mono ?_; rintro e w' ⟨rfl, rfl⟩)
      | (go_at_call 87; refine hdv.out.mono ?_; rintro e w3 ⟨rfl, hB3⟩; have hm0 := (hB3.cell (p := ⟨w1.heap.size, 0, none⟩) (by simp; omega)).trans hk0; have hm1 := (hB3.cell (p := ⟨w1.heap.size, 1, none⟩) (by simp; omega)).trans hk1; have hz3 := hB3.size)
      | (go_at_call 86; refine (split_any _ L _ (by omega)).mono ?_; rintro e w4 ⟨A4, c4, rfl, hO4, hB4⟩; have hm2 := (hB4.cell (p := ⟨w1.heap.size, 0, none⟩) (show w1.heap.size < w3.heap.size by simp at hz3; omega)).trans hm0; have hm3 := (hB4.cell (p := ⟨w1.heap.size, 1, none⟩) (show w1.heap.size < w3.heap.size by simp at hz3; omega)).trans hm1))
  go_wp2
  go_ret2
  have hz3' : w1.heap.size + 1 + 1 ≤ w3.heap.size := by simpa using hz3
  have hz1 := hB1.size
  refine ⟨A4, c4, rfl, Ownv.mono hO4 (by omega), ?_⟩
  exact ((hB1.trans ((((Below.refl _ w1).alloc (Nat.le_refl _) _).alloc (by simp) _).drew.mono hz1)).trans (hB3.mono (by simp; omega))).trans (hB4.mono (by omega))
def cErr (k : Int) (xs : List Int) : Int := if sLen k = 0 then 2 else if ValidB xs = true then 0 else 3
def cRes (k : Int) (xs : List Int) : List Int := if sLen k = 0 then [] else if ValidB xs = true then crcSum k xs else []
set_option maxHeartbeats 1000000 in
set_option maxRecDepth 100000 in
theorem compute_any (k : Int) (A : Option Addr) (n c : Nat) (xs : List Int) (w : World) (hx : Rd .u8 w A n c xs) :
    Calls Tryz.prog 40 #[.int .i64 k, .slice A n c] w fun e w' => ∃ A' n' c', e = .returned (.tuple #[.slice A' n' c', .int .i64 (cErr k xs)]) ∧ Own .u8 5 w' w.heap.size A' n' c' (cRes k xs) ∧ Below w.heap.size w w' := by
  by_cases h0 : sLen k = 0
  · have h1 := Lib.hid (of_any k w)
    have e1 : cErr k xs = 2 := by rw [cErr, if_pos h0]
    have e2 : cRes k xs = [] := by rw [cRes, if_pos h0]
    rw [e1, e2]
    rw [h0] at h1
    generalize sPoly k = p at *
    clear e1 e2 h0
    go_enter Tryz.func40, Tryz.ntmps40
    go_wp2_with fail
    refine h1.out.mono ?_
    rintro e w1 ⟨rfl, hB1⟩
    go_wp2
    go_ret2
    exact ⟨none, 0, 0, rfl, Own.nilv _ _ _ _, hB1.trans (((Below.refl _ w1).alloc (Nat.le_refl _) _).mono hB1.size)⟩
  · by_cases hv : ValidB xs = true
    · have e1 : cErr k xs = 0 := by rw [cErr, if_neg h0, if_pos hv]
      have e2 : cRes k xs = crcSum k xs := by rw [cRes, if_neg h0, if_pos hv]
      rw [e1, e2]
      exact (compute_ok k A n c xs w hx h0 hv).mono fun e w' ⟨A', c', h⟩ => ⟨A', _, c', h⟩
    · have h1 := Lib.hid (of_any k w)
      have e1 : cErr k xs = 3 := by rw [cErr, if_neg h0, if_neg hv]
      have e2 : cRes k xs = [] := by rw [cRes, if_neg h0, if_neg hv]
      have hv' : ValidB xs = false := by simpa using hv
      rw [e1, e2]
      clear e1 e2 hv
      generalize sLen k = L at *
      generalize sPoly k = p at *
      have hb0 : ((L : Int) == 0) = false := beq_f (by omega)
      go_enter Tryz.func40, Tryz.ntmps40
      go_wp2_with fail
      refine h1.out.mono ?_
      rintro e w1 ⟨rfl, hB1⟩
      have hx1 := Rdv.below hx hB1
      have hx2 := Rdv.alloc hx1 (.cells #[.int .i64 L, .int .u32 p] 122)
      go_wp2_with (go_at_call 82; refine (invalid_any A n c xs _ hx2).mono ?_; rintro e w' ⟨rfl, rfl⟩)
      go_ret2
      exact ⟨none, 0, 0, rfl, Own.nilv _ _ _ _, hB1.trans (((Below.refl _ w1).alloc (Nat.le_refl _) _).mono hB1.size)⟩
end Go.Proofs.YtcbbkflnenkpgaaGreat
