import Derived.Test.YtcbbkflnenkpgaaGreatM2
namespace Go.Proofs.YtcbbkflnenkpgaaGreat
open Go.RowKit CM
set_option linter.unusedVariables false
theorem cErr_zero {k : Int} {xs : List Int} (h : cErr k xs = 0) : sLen k ≠ 0 ∧ ValidB xs = true := by
  unfold cErr at h
  by_cases h1 : sLen k = 0
  · rw [if_pos h1] at h; cases h
  · by_cases hv : ValidB xs = true
    · exact ⟨h1, hv⟩
    · rw [if_neg h1, if_neg hv] at h; cases h
theorem cErr_of {k : Int} {xs : List Int} (h : sLen k ≠ 0) (hv : ValidB xs = true) : cErr k xs = 0 := by unfold cErr; rw [if_neg h, if_pos hv]
theorem cRes_of {k : Int} {xs : List Int} (h : sLen k ≠ 0) (hv : ValidB xs = true) : cRes k xs = crcSum k xs := by unfold cRes; rw [if_neg h, if_pos hv]
theorem crcSum_len (k : Int) (xs : List Int) : (crcSum k xs).length = sLen k := by unfold crcSum; rw [splitL_len]
theorem bit_sum {k : Int} (h : sLen k ≠ 0) {xs : List Int} (hx : Bit xs) : Bit (crcSum k xs) := by
  rw [← ib_bl hx, crcSum_bits h]; exact bit_ib _
theorem bit_app {xs ys : List Int} (hx : Bit xs) (hy : Bit ys) : Bit (xs ++ ys) := by
  intro x h; rcases List.mem_append.1 h with h | h
  · exact hx x h
  · exact hy x h
theorem bit_take {xs : List Int} (n : Nat) (hx : Bit xs) : Bit (xs.take n) := fun x h => hx x (List.mem_of_mem_take h)
theorem bit_zeros (n : Nat) : Bit (List.replicate n 0) := by
  intro x h; rw [List.mem_replicate] at h; exact .inl h.2
theorem bl_app (xs ys : List Int) : bl (xs ++ ys) = bl xs ++ bl ys := by simp [bl]
theorem bl_zeros (n : Nat) : bl (List.replicate n 0) = List.replicate n false := by simp [bl]
theorem gi_ib (bs : List Bool) (j : Nat) (h : j < bs.length) : gi (bs.map ib) j = ib bs[j] := by
  rw [gi_eq _ _ (by simpa using h)]; simp
theorem addL_ib (us bs : List Bool) (h : us.length = bs.length) : addL (us.map ib) (bs.map ib) = (List.zipWith Bool.xor us bs).map ib := by
  refine ext_gi (by simp [addL, h]) fun j hj => ?_
  have hj' : j < us.length := by simpa [addL] using hj
  have e1 : gi (addL (us.map ib) (bs.map ib)) j = xor8 (gi (us.map ib) j) (gi (bs.map ib) j) := by
    rw [gi_eq _ _ hj]; simp [addL]
  rw [e1, gi_ib _ _ hj', gi_ib _ _ (by omega), xor8_ib, gi_ib _ _ (by simp; omega)]
  simp
theorem bit_add {xs ys : List Int} (hx : Bit xs) (hy : Bit ys) (h : xs.length = ys.length) : Bit (addL xs ys) := by
  rw [← ib_bl hx, ← ib_bl hy, addL_ib _ _ (by rw [bit_len, bit_len, h])]; exact bit_ib _
theorem sum_add {k : Int} (h : sLen k ≠ 0) {xs ys : List Int} (hx : Bit xs) (hy : Bit ys) (hl : xs.length = ys.length) : crcSum k (addL xs ys) = addL (crcSum k xs) (crcSum k ys) := by
  have hb : (bl xs).length = (bl ys).length := by rw [bit_len, bit_len, hl]
  rw [← ib_bl hx, ← ib_bl hy, addL_ib _ _ hb, crcSum_bits h, crcSum_bits h, crcSum_bits h, addL_ib _ _ (by rw [bitsOf_len, bitsOf_len]), ← bitsOf_xor, ← run_xor _ _ _ _ hb, Nat.xor_zero]
theorem back {k : Int} (h : sLen k ≠ 0) {xs : List Int} (hx : Bit xs) : chkErr k (xs ++ crcSum k xs) = 0 ∧ chkRes k (xs ++ crcSum k xs) = xs := by
  have hl := crcSum_len k xs
  have e1 : (xs ++ crcSum k xs).length - sLen k = xs.length := by rw [List.length_append, hl]; omega
  have e : chkErr k (xs ++ crcSum k xs) = 0 := by
    unfold chkErr
    rw [if_neg h, if_pos (bit_valid (bit_app hx (bit_sum h hx))), if_neg (by rw [List.length_append, hl]; omega), e1, List.take_left, List.drop_left, if_pos rfl]
  refine ⟨e, ?_⟩
  unfold chkRes
  rw [if_pos e, e1, List.take_left]
theorem run_zero_bits {k : Int} (h : sLen k ≠ 0) (bs : List Bool) (hr : run (sLen k) (nPoly k) 0 bs = 0) : crcSum k (bs.map ib) = List.replicate (sLen k) 0 := by
  rw [crcSum_bits h, hr]
  refine ext_gi (by simp [bitsOf_len]) fun j hj => ?_
  have hj' : j < sLen k := by simpa [bitsOf_len] using hj
  rw [gi_ib _ _ (by rw [bitsOf_len]; exact hj'), gi_eq _ _ (by simpa using hj')]
  simp [bitsOf, ib]
theorem residue {k : Int} (h : sLen k ≠ 0) {xs : List Int} (hx : Bit xs) : crcSum k (xs ++ crcSum k xs) = List.replicate (sLen k) 0 := by
  obtain ⟨h1, h2, h3, h4⟩ := nPoly_ok h
  rw [← ib_bl hx, crcSum_bits h, ← List.map_append]
  exact run_zero_bits h _ ((run_zero_iff h1 h3 h4 _ _ (bitsOf_len _ _)).2 rfl)
theorem leading {k : Int} (h : sLen k ≠ 0) {xs : List Int} (hx : Bit xs) (z : Nat) : crcSum k (List.replicate z 0 ++ xs) = crcSum k xs := by
  have e : List.replicate z 0 ++ xs = (List.replicate z false ++ bl xs).map ib := by
    rw [List.map_append, ib_bl hx]; congr 1; simp [ib]
  rw [e, crcSum_bits h, run_append, run_zero_zeros, ← crcSum_bits h, ib_bl hx]
end Go.Proofs.YtcbbkflnenkpgaaGreat
