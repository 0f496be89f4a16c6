import Derived.Test.YthajakigiffleaaM2
namespace Go.Proofs.Ythajakigiffleaa
open Go.RowKit
set_option linter.unusedVariables false
theorem bnext {w w1 w2 : World} (h : Below w.heap.size w w1) (h2 : Below w1.heap.size w1 w2) : Below w.heap.size w w2 := h.trans (h2.mono h.size)
theorem bstep {w w1 w2 : World} (h : Below w.heap.size w w1) (o : Obj) (h2 : Below (w1.alloc o).heap.size (w1.alloc o) w2) : Below w.heap.size w w2 :=
  bnext (bnext h ((Below.refl _ w1).alloc (Nat.le_refl _) o)) h2
theorem rstep {k : IntKind} {w1 w2 : World} {A : Option Addr} {n c : Nat} {xs : List Int} (h : Rd k w1 A n c xs) (o : Obj) (h2 : Below (w1.alloc o).heap.size (w1.alloc o) w2) : Rd k w2 A n c xs := Rdv.below (Rdv.alloc h o) h2
theorem rd_lit (w : World) (xs : List Int) (N m : Nat) (hN : N = w.heap.size) (hm : m = xs.length) (h : m ≤ 100000) (cs : Array Value) (hcs : cs.toList = xs.map (Value.int .u8)) : Rd .u8 (w.alloc (.cells cs 5)) (some ⟨N, 0, none⟩) m m xs := by
  have hsz : cs.size = m := by rw [← Array.length_toList, hcs, List.length_map, hm]
  have := (Ownv.lit (base := 0) w cs 5 hN (Nat.zero_le _) (by rw [hsz]; unfold maxLen; omega)).rd
  rw [hsz, hcs] at this
  exact this
theorem same_true (A B : Option Addr) (n c m d : Nat) (xs : List Int) (w : World) (hx : Rd .u8 w A n c xs) (hy : Rd .u8 w B m d xs) :
    Calls Try.prog 14 #[.slice A n c, .slice B m d] w fun e w' => e = .returned (.bool true) ∧ Below w.heap.size w w' :=
  (same_any A B n c m d xs xs w hx hy).mono fun e w' ⟨he, hq⟩ => ⟨by rw [he]; simp, hq.below _⟩
theorem k1 : crcSum 4 [1] = [1, 0, 0, 1, 1, 0, 1, 1] := by decide +kernel
theorem k2 : crcSum 4 [1, 0] = [1, 0, 1, 0, 1, 1, 0, 1] := by decide +kernel
theorem k3 : crcSum 3 [1] = [0, 0, 0, 1, 0, 0, 0, 0, 0, 0, 1, 0, 0, 0, 0, 1] := by decide +kernel
theorem k4 : chkErr 4 [1, 1, 0, 0, 1, 1, 0, 1, 1] = 0 := by decide +kernel
theorem k4r : chkRes 4 [1, 1, 0, 0, 1, 1, 0, 1, 1] = [1] := by decide +kernel
theorem k5 : chkErr 4 [0, 1, 0, 0, 1, 1, 0, 1, 1] = 11 := by decide +kernel
set_option maxHeartbeats 2000000 in
set_option maxRecDepth 100000 in
theorem known_any (w : World) : Calls Try.prog 11 #[] w fun e w' => e = .returned (.bool true) ∧ Below w.heap.size w w' := by
  go_enter Try.func11, Try.ntmps11
  go_wp2_with fail
  have r1 := rd_lit w [1] w.heap.size 1 rfl rfl (by omega) #[.int .u8 1] rfl
  refine (compute_ok 4 _ _ _ [1] _ r1 (by decide) (by decide)).mono ?_
  rintro e w1 ⟨A1, c1, rfl, hO1, hB1⟩
  rw [k1] at hO1
  go_wp2_with fail
  have r2 := rd_lit w1 [1, 0] w1.heap.size 2 rfl rfl (by omega) #[.int .u8 1, .int .u8 0] rfl
  refine (compute_ok 4 _ _ _ [1, 0] _ r2 (by decide) (by decide)).mono ?_
  rintro e w2 ⟨A2, c2, rfl, hO2, hB2⟩
  rw [k2] at hO2
  go_wp2_with fail
  have r3 := rd_lit w2 [1] w2.heap.size 1 rfl rfl (by omega) #[.int .u8 1] rfl
  refine (compute_ok 3 _ _ _ [1] _ r3 (by decide) (by decide)).mono ?_
  rintro e w3 ⟨A3, c3, rfl, hO3, hB3⟩
  rw [k3] at hO3
  go_wp2_with fail
  have r4 := rd_lit w3 [1, 1, 0, 0, 1, 1, 0, 1, 1] w3.heap.size 9 rfl rfl (by omega) #[.int .u8 1, .int .u8 1, .int .u8 0, .int .u8 0, .int .u8 1, .int .u8 1, .int .u8 0, .int .u8 1, .int .u8 1] rfl
  refine (check_any 4 _ _ _ _ _ r4 (by omega)).mono ?_
  rintro e w4 ⟨A4, n4, c4, he4, hO4, hB4⟩
  rw [k4] at he4
  subst he4
  rw [k4r] at hO4
  go_wp2_with fail
  have r5 := rd_lit w4 [0, 1, 0, 0, 1, 1, 0, 1, 1] w4.heap.size 9 rfl rfl (by omega) #[.int .u8 0, .int .u8 1, .int .u8 0, .int .u8 0, .int .u8 1, .int .u8 1, .int .u8 0, .int .u8 1, .int .u8 1] rfl
  refine (check_any 4 _ _ _ _ _ r5 (by omega)).mono ?_
  rintro e w5 ⟨A5, n5, c5, he5, hO5, hB5⟩
  rw [k5] at he5
  subst he5
  have a1 := rstep (rstep (rstep (rstep (Own.rd hO1) _ hB2) _ hB3) _ hB4) _ hB5
  have a2 := rstep (rstep (rstep (Own.rd hO2) _ hB3) _ hB4) _ hB5
  have a3 := rstep (rstep (Own.rd hO3) _ hB4) _ hB5
  have a4 := rstep (Own.rd hO4) _ hB5
  have hB := bstep (bstep (bstep (bstep (bstep (Below.refl _ w) _ hB1) _ hB2) _ hB3) _ hB4) _ hB5
  clear hO1 hO2 hO3 hO4 hO5 hB1 hB2 hB3 hB4 hB5 r1 r2 r3 r4 r5
  go_wp2_with fail
  have q1 := rd_lit w5 [1, 0, 0, 1, 1, 0, 1, 1] w5.heap.size 8 rfl rfl (by omega) #[.int .u8 1, .int .u8 0, .int .u8 0, .int .u8 1, .int .u8 1, .int .u8 0, .int .u8 1, .int .u8 1] rfl
  refine (same_true _ _ _ _ _ _ _ _ (Rdv.alloc a1 _) q1).mono ?_
  rintro e w6 ⟨rfl, hB6⟩
  have b2 := rstep a2 _ hB6
  have b3 := rstep a3 _ hB6
  have b4 := rstep a4 _ hB6
  have hC := bstep hB _ hB6
  clear hB6 q1
  go_wp2_with fail
  have q2 := rd_lit w6 [1, 0, 1, 0, 1, 1, 0, 1] w6.heap.size 8 rfl rfl (by omega) #[.int .u8 1, .int .u8 0, .int .u8 1, .int .u8 0, .int .u8 1, .int .u8 1, .int .u8 0, .int .u8 1] rfl
  refine (same_true _ _ _ _ _ _ _ _ (Rdv.alloc b2 _) q2).mono ?_
  rintro e w7 ⟨rfl, hB7⟩
  have d3 := rstep b3 _ hB7
  have d4 := rstep b4 _ hB7
  have hD := bstep hC _ hB7
  clear hB7 q2
  go_wp2_with fail
  have q3 := rd_lit w7 [0, 0, 0, 1, 0, 0, 0, 0, 0, 0, 1, 0, 0, 0, 0, 1] w7.heap.size 16 rfl rfl (by omega) #[.int .u8 0, .int .u8 0, .int .u8 0, .int .u8 1, .int .u8 0, .int .u8 0, .int .u8 0, .int .u8 0, .int .u8 0, .int .u8 0, .int .u8 1, .int .u8 0, .int .u8 0, .int .u8 0, .int .u8 0, .int .u8 1] rfl
  refine (same_true _ _ _ _ _ _ _ _ (Rdv.alloc d3 _) q3).mono ?_
  rintro e w8 ⟨rfl, hB8⟩
  have f4 := rstep d4 _ hB8
  have hE := bstep hD _ hB8
  clear hB8 q3
  go_wp2_with fail
  have q4 := rd_lit w8 [1] w8.heap.size 1 rfl rfl (by omega) #[.int .u8 1] rfl
  refine (same_true _ _ _ _ _ _ _ _ (Rdv.alloc f4 _) q4).mono ?_
  rintro e w9 ⟨rfl, hB9⟩
  go_wp2
  go_ret
  exact ⟨rfl, bstep hE _ hB9⟩
/-! ### the two texts agree -/
theorem polyN_zero (k : Int) : polyN k = 0 ↔ sLen k = 0 := by rw [polyN_sLen]; split <;> simp_all
theorem err_agree (k : Int) (xs : List Int) : refErr k xs = cErr k xs := by
  unfold refErr cErr
  by_cases h : sLen k = 0
  · rw [if_pos ((polyN_zero k).2 h), if_pos h]
  · rw [if_neg (fun e => h ((polyN_zero k).1 e)), if_neg h]
theorem res_agree (k : Int) {xs : List Int} (h0 : ∀ x ∈ xs, 0 ≤ x) : refRes k xs = cRes k xs := by
  unfold refRes cRes
  by_cases h : sLen k = 0
  · rw [if_pos ((polyN_zero k).2 h), if_pos h]
  · rw [if_neg (fun e => h ((polyN_zero k).1 e)), if_neg h]
    by_cases hv : ValidB xs = true
    · rw [if_pos hv, if_pos hv, sum_agree h (bit_of h0 hv)]
    · rw [if_neg hv, if_neg hv]
theorem rlen_agree (k : Int) : rLen k = (sLen k : Int) := by
  rw [rLen_eq, polyN_sLen]; split <;> simp_all
theorem chkerr_agree (k : Int) {xs : List Int} (h0 : ∀ x ∈ xs, 0 ≤ x) : rChkErr k xs = chkErr k xs := by
  unfold rChkErr chkErr
  by_cases h : sLen k = 0
  · rw [if_pos ((polyN_zero k).2 h), if_pos h]
  · rw [if_neg (fun e => h ((polyN_zero k).1 e)), if_neg h]
    have e1 : polyN k - 1 = sLen k := by rw [polyN_sLen, if_neg h]; omega
    rw [e1]
    by_cases hv : ValidB xs = true
    · rw [if_pos hv, if_pos hv, sum_agree h (bit_of (fun x hx => h0 x (List.mem_of_mem_take hx)) (validB_take _ hv))]
    · rw [if_neg hv, if_neg hv]
theorem chkres_agree (k : Int) {xs : List Int} (h0 : ∀ x ∈ xs, 0 ≤ x) : rChkRes k xs = chkRes k xs := by
  unfold rChkRes chkRes
  rw [chkerr_agree k h0]
  by_cases h : sLen k = 0
  · have e : chkErr k xs ≠ 0 := by rw [chkErr, if_pos h]; decide
    rw [if_neg e, if_neg e]
  · have e1 : polyN k - 1 = sLen k := by rw [polyN_sLen, if_neg h]; omega
    rw [e1]
end Go.Proofs.Ythajakigiffleaa
