import Derived.Test.YtcbbkflnenkpgaaT4
namespace Go.Proofs.Ytcbbkflnenkpgaa
open Go.RowKit
set_option linter.unusedVariables false
def rChkErr (k : Int) (xs : List Int) : Int :=
  if polyN k = 0 then 2 else if ValidB xs = true then (if xs.length < polyN k - 1 then 5 else if refSum (polyL k) (xs.take (xs.length - (polyN k - 1))) = xs.drop (xs.length - (polyN k - 1)) then 0 else 11) else 3
def rChkRes (k : Int) (xs : List Int) : List Int := if rChkErr k xs = 0 then xs.take (xs.length - (polyN k - 1)) else []
theorem rLen_eq (k : Int) : rLen k = ((polyN k - 1 : Nat) : Int) := by
  unfold rLen; have := polyN_cases k; omega
theorem validB_take {xs : List Int} (m : Nat) (h : ValidB xs = true) : ValidB (xs.take m) = true := by
  unfold ValidB at *
  rw [List.all_eq_true] at *
  intro x hx; exact h x (List.mem_of_mem_take hx)
set_option maxHeartbeats 800000 in
theorem rcheck_any (k : Int) (A : Option Addr) (n c : Nat) (xs : List Int) (w : World) (hx : Rd .u8 w A n c xs) (hn : n ≤ 100000) :
    Calls Try.prog 44 #[.int .i64 k, .slice A n c] w fun e w' => ∃ A' n' c', e = .returned (.tuple #[.slice A' n' c', .int .i64 (rChkErr k xs)]) ∧ Rd .u8 w' A' n' c' (rChkRes k xs) ∧ Below w.heap.size w w' := by
  have hN := polyN_cases k
  have hxl := hx.len
  have HXL := Lib.hid hxl
  have hl := fun W => Lib.hid (rlen_any k W)
  rw [rLen_eq] at hl
  by_cases h0 : polyN k = 0
  · have e1 : rChkErr k xs = 2 := by rw [rChkErr, if_pos h0]
    have e2 : rChkRes k xs = [] := by rw [rChkRes, e1]; rfl
    rw [e1, e2]
    rw [h0] at hl
    clear e1 e2 h0 hN hxl
    go_enter Try.func44, Try.ntmps44
    go_wp2_with fail
    refine (hl _).out.mono ?_
    rintro e w1 ⟨rfl, hB1⟩
    go_wp2_with fail
    refine (hl _).out.mono ?_
    rintro e w2 ⟨rfl, hB2⟩
    go_wp2
    go_ret2
    exact ⟨none, 0, 0, rfl, Rd.nilv _ _, hB1.trans (hB2.mono hB1.size)⟩
  · have hg0 : 1 ≤ (polyL k).length := by rw [polyL_len]; omega
    by_cases hv : ValidB xs = true
    · by_cases hs : xs.length < polyN k - 1
      · have e1 : rChkErr k xs = 5 := by rw [rChkErr, if_neg h0, if_pos hv, if_pos hs]
        have e2 : rChkRes k xs = [] := by rw [rChkRes, e1]; rfl
        rw [e1, e2]
        rw [hxl] at hs
        clear e1 e2 hxl
        generalize polyN k = N at *
        have hb : (((N - 1 : Nat) : Int) == 0) = false := beq_f (by omega)
        have hL8 : 1 ≤ N - 1 ∧ N - 1 ≤ 24 := by omega
        generalize N - 1 = L at *
        go_enter Try.func44, Try.ntmps44
        go_wp2_with fail
        refine (hl _).out.mono ?_
        rintro e w1 ⟨rfl, hB1⟩
        go_wp2_with fail
        refine (hl _).out.mono ?_
        rintro e w2 ⟨rfl, hB2⟩
        have hx2 := Rdv.below (Rdv.below hx hB1) hB2
        go_wp2_with (go_at_call 82; refine (valid_any A n c xs _ hx2).mono ?_; rintro e w' ⟨rfl, rfl⟩)
        go_ret2
        exact ⟨none, 0, 0, rfl, Rd.nilv _ _, hB1.trans (hB2.mono hB1.size)⟩
      · have hc := fun W hW => Lib.hid (rcompute_any k A (xs.length - (polyN k - 1)) c (xs.take (xs.length - (polyN k - 1))) W hW (by omega))
        have hE : refErr k (xs.take (xs.length - (polyN k - 1))) = 0 := by rw [refErr, if_neg h0, if_pos (validB_take _ hv)]
        have hR : refRes k (xs.take (xs.length - (polyN k - 1))) = refSum (polyL k) (xs.take (xs.length - (polyN k - 1))) := by rw [refRes, if_neg h0, if_pos (validB_take _ hv)]
        rw [hE, hR] at hc
        by_cases hq : refSum (polyL k) (xs.take (xs.length - (polyN k - 1))) = xs.drop (xs.length - (polyN k - 1))
        · have e1 : rChkErr k xs = 0 := by rw [rChkErr, if_neg h0, if_pos hv, if_neg hs, if_pos hq]
          have e2 : rChkRes k xs = xs.take (xs.length - (polyN k - 1)) := by rw [rChkRes, e1]; rfl
          rw [e1, e2]
          rw [hxl] at *
          clear e1 e2 hE hR
          have HQ : decide (refSum (polyL k) (xs.take (n - (polyN k - 1))) = xs.drop (n - (polyN k - 1))) = true := by simpa using hq
          clear hq
          generalize refSum (polyL k) (xs.take (n - (polyN k - 1))) = S at *
          generalize polyN k = N at *
          have hb : (((N - 1 : Nat) : Int) == 0) = false := beq_f (by omega)
          have hL8 : 1 ≤ N - 1 ∧ N - 1 ≤ 24 := by omega
          generalize N - 1 = L at *
          have em0 : (n : Int) - (L : Int) = ((n - L : Nat) : Int) := by omega
          have hmn : n - L ≤ n := by omega
          generalize n - L = m at *
          go_enter Try.func44, Try.ntmps44
          go_wp2_with fail
          refine (hl _).out.mono ?_
          rintro e w1 ⟨rfl, hB1⟩
          go_wp2_with fail
          refine (hl _).out.mono ?_
          rintro e w2 ⟨rfl, hB2⟩
          have hx2 := Rdv.below (Rdv.below hx hB1) hB2
          have hsl := fun W => Rdv.slh hx2 el53 .i64 (show m ≤ c by have := Rdv.le hx; omega) W
          have hsl2 := fun W => Rdv.sll hx2 el53 .i64 (hmn) W
          go_wp2_with (go_at_call 82; refine (valid_any A n c xs _ hx2).mono ?_; rintro e w' ⟨rfl, rfl⟩)
          refine (hc _ (Rd.upto hx2 hmn)).out.mono ?_
          rintro e w3 ⟨A3, n3, c3, rfl, hR3, hB3⟩
          have hx3 := Rdv.below hx2 hB3
          have hd3 := Rd.cut_ hx3 (l := m) (m := n) hmn (Nat.le_refl _)
          rw [List.take_of_length_le (Nat.le_of_eq hx.len)] at hd3
          go_wp2_with (go_at_call 45; refine (same_any A3 (cut A c m) n3 c3 _ _ S (xs.drop m) _ hR3 hd3).mono ?_; rintro e w4 ⟨rfl, hQ4⟩)
          have hfin : Rd .u8 w4 A m c (xs.take m) := Rdv.below (Rd.upto hx3 (hmn)) (hQ4.below _)
          have hfb : Below w.heap.size w w4 := ((hB1.trans (hB2.mono hB1.size)).trans (hB3.mono (Nat.le_trans hB1.size hB2.size))).trans (hQ4.below _)
          go_ret2
          exact ⟨A, m, c, rfl, hfin, hfb⟩
        · have e1 : rChkErr k xs = 11 := by rw [rChkErr, if_neg h0, if_pos hv, if_neg hs, if_neg hq]
          have e2 : rChkRes k xs = [] := by rw [rChkRes, e1]; rfl
          rw [e1, e2]
          rw [hxl] at *
          clear e1 e2 hE hR
          have HQ : decide (refSum (polyL k) (xs.take (n - (polyN k - 1))) = xs.drop (n - (polyN k - 1))) = false := by simpa using hq
          clear hq
          generalize refSum (polyL k) (xs.take (n - (polyN k - 1))) = S at *
          generalize polyN k = N at *
          have hb : (((N - 1 : Nat) : Int) == 0) = false := beq_f (by omega)
          have hL8 : 1 ≤ N - 1 ∧ N - 1 ≤ 24 := by omega
          generalize N - 1 = L at *
          have em0 : (n : Int) - (L : Int) = ((n - L : Nat) : Int) := by omega
          have hmn : n - L ≤ n := by omega
          generalize n - L = m at *
          go_enter Try.func44, Try.ntmps44
          go_wp2_with fail
          refine (hl _).out.mono ?_
          rintro e w1 ⟨rfl, hB1⟩
          go_wp2_with fail
          refine (hl _).out.mono ?_
          rintro e w2 ⟨rfl, hB2⟩
          have hx2 := Rdv.below (Rdv.below hx hB1) hB2
          have hsl := fun W => Rdv.slh hx2 el53 .i64 (show m ≤ c by have := Rdv.le hx; omega) W
          have hsl2 := fun W => Rdv.sll hx2 el53 .i64 (hmn) W
          go_wp2_with (go_at_call 82; refine (valid_any A n c xs _ hx2).mono ?_; rintro e w' ⟨rfl, rfl⟩)
          refine (hc _ (Rd.upto hx2 hmn)).out.mono ?_
          rintro e w3 ⟨A3, n3, c3, rfl, hR3, hB3⟩
          have hx3 := Rdv.below hx2 hB3
          have hd3 := Rd.cut_ hx3 (l := m) (m := n) hmn (Nat.le_refl _)
          rw [List.take_of_length_le (Nat.le_of_eq hx.len)] at hd3
          go_wp2_with (go_at_call 45; refine (same_any A3 (cut A c m) n3 c3 _ _ S (xs.drop m) _ hR3 hd3).mono ?_; rintro e w4 ⟨rfl, hQ4⟩)
          have hfb : Below w.heap.size w w4 := ((hB1.trans (hB2.mono hB1.size)).trans (hB3.mono (Nat.le_trans hB1.size hB2.size))).trans (hQ4.below _)
          go_ret2
          exact ⟨none, 0, 0, rfl, Rd.nilv _ _, hfb⟩
    · have e1 : rChkErr k xs = 3 := by rw [rChkErr, if_neg h0, if_neg hv]
      have e2 : rChkRes k xs = [] := by rw [rChkRes, e1]; rfl
      have hv' : ValidB xs = false := by simpa using hv
      rw [e1, e2]
      clear e1 e2 hxl hv
      generalize polyN k = N at *
      have hb : (((N - 1 : Nat) : Int) == 0) = false := beq_f (by omega)
      generalize N - 1 = L at *
      go_enter Try.func44, Try.ntmps44
      go_wp2_with fail
      refine (hl _).out.mono ?_
      rintro e w1 ⟨rfl, hB1⟩
      go_wp2_with fail
      refine (hl _).out.mono ?_
      rintro e w2 ⟨rfl, hB2⟩
      have hx2 := Rdv.below (Rdv.below hx hB1) hB2
      go_wp2_with (go_at_call 82; refine (valid_any A n c xs _ hx2).mono ?_; rintro e w' ⟨rfl, rfl⟩)
      go_ret2
      exact ⟨none, 0, 0, rfl, Rd.nilv _ _, hB1.trans (hB2.mono hB1.size)⟩

def addL (xs ys : List Int) : List Int := (List.range xs.length).map fun j => xor8 (gi xs j) (gi ys j)
def AddInv (w : World) (n : Nat) (xs ys : List Int) (out i : Value) (wr : World) : Prop := ∃ (j : Nat) (A : Option Addr) (c : Nat), j ≤ n ∧ out = .slice A j c ∧ i = .int .i64 j ∧
  Own .u8 5 wr w.heap.size A j c ((List.range j).map fun j => xor8 (gi xs j) (gi ys j)) ∧ Below w.heap.size w wr
end Go.Proofs.Ytcbbkflnenkpgaa
