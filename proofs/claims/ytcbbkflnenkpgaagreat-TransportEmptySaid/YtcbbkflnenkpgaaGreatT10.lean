import Derived.Test.YtcbbkflnenkpgaaGreatT9
namespace Go.Proofs.YtcbbkflnenkpgaaGreat
open Go.RowKit
set_option linter.unusedVariables false
theorem splitL_len (v : Int) (n : Nat) : (splitL v n).length = n := by simp [splitL]
def chkErr (k : Int) (xs : List Int) : Int :=
  if sLen k = 0 then 2 else if ValidB xs = true then (if xs.length < sLen k then 5 else if crcSum k (xs.take (xs.length - sLen k)) = xs.drop (xs.length - sLen k) then 0 else 11) else 3
def chkRes (k : Int) (xs : List Int) : List Int := if chkErr k xs = 0 then xs.take (xs.length - sLen k) else []
set_option maxHeartbeats 1000000 in
set_option maxRecDepth 100000 in
theorem check_any (k : Int) (A : Option Addr) (n c : Nat) (xs : List Int) (w : World) (hx : Rd .u8 w A n c xs) (hn : n ≤ 100000) :
    Calls Tryz.prog 38 #[.int .i64 k, .slice A n c] w fun e w' => ∃ A' n' c', e = .returned (.tuple #[.slice A' n' c', .int .i64 (chkErr k xs)]) ∧ Own .u8 5 w' w.heap.size A' n' c' (chkRes k xs) ∧ Below w.heap.size w w' := by
  have hN := sLen_cases k
  have hxl := hx.len
  have hl := fun W => Lib.hid (len_any k W)
  by_cases h0 : sLen k = 0
  · have e1 : chkErr k xs = 2 := by rw [chkErr, if_pos h0]
    have e2 : chkRes k xs = [] := by rw [chkRes, e1]; rfl
    rw [e1, e2]
    rw [h0] at hl
    clear e1 e2 h0 hN hxl
    go_enter Tryz.func38, Tryz.ntmps38
    go_wp2_with fail
    refine (hl _).out.mono ?_
    rintro e w1 ⟨rfl, hB1⟩
    go_wp2_with fail
    refine (hl _).out.mono ?_
    rintro e w2 ⟨rfl, hB2⟩
    go_wp2
    go_ret2
    exact ⟨none, 0, 0, rfl, Own.nilv _ _ _ _, hB1.trans (hB2.mono hB1.size)⟩
  · by_cases hv : ValidB xs = true
    · by_cases hs : xs.length < sLen k
      · have e1 : chkErr k xs = 5 := by rw [chkErr, if_neg h0, if_pos hv, if_pos hs]
        have e2 : chkRes k xs = [] := by rw [chkRes, e1]; rfl
        rw [e1, e2]
        rw [hxl] at hs
        clear e1 e2 hxl
        generalize sLen k = L at *
        have hb : ((L : Int) == 0) = false := beq_f (by omega)
        have hL8 : 1 ≤ L ∧ L ≤ 24 := by omega
        clear hN h0
        go_enter Tryz.func38, Tryz.ntmps38
        go_wp2_with fail
        refine (hl _).out.mono ?_
        rintro e w1 ⟨rfl, hB1⟩
        go_wp2_with fail
        refine (hl _).out.mono ?_
        rintro e w2 ⟨rfl, hB2⟩
        have hx2 := Rdv.below (Rdv.below hx hB1) hB2
        go_wp2_with (go_at_call 82; refine (invalid_any A n c xs _ hx2).mono ?_; rintro e w' ⟨rfl, rfl⟩)
        go_ret2
        exact ⟨none, 0, 0, rfl, Own.nilv _ _ _ _, hB1.trans (hB2.mono hB1.size)⟩
      · have hc := fun W hW => Lib.hid (compute_ok k A (xs.length - sLen k) c (xs.take (xs.length - sLen k)) W hW h0 (validB_take _ hv))
        by_cases hq : crcSum k (xs.take (xs.length - sLen k)) = xs.drop (xs.length - sLen k)
        · have e1 : chkErr k xs = 0 := by rw [chkErr, if_neg h0, if_pos hv, if_neg hs, if_pos hq]
          have e2 : chkRes k xs = xs.take (xs.length - sLen k) := by rw [chkRes, e1]; rfl
          rw [e1, e2]
          rw [hxl] at *
          clear e1 e2
          have HQ : decide (crcSum k (xs.take (n - sLen k)) = xs.drop (n - sLen k)) = true := by simpa using hq
          clear hq
          generalize crcSum k (xs.take (n - sLen k)) = S at *
          generalize sLen k = L at *
          have hb : ((L : Int) == 0) = false := beq_f (by omega)
          have hL8 : 1 ≤ L ∧ L ≤ 24 := by omega
          have em0 : (n : Int) - (L : Int) = ((n - L : Nat) : Int) := by omega
          have hmn : n - L ≤ n := by omega
          generalize n - L = m at *
          clear hN h0
          go_enter Tryz.func38, Tryz.ntmps38
          go_wp2_with fail
          refine (hl _).out.mono ?_
          rintro e w1 ⟨rfl, hB1⟩
          go_wp2_with fail
          refine (hl _).out.mono ?_
          rintro e w2 ⟨rfl, hB2⟩
          have hx2 := Rdv.below (Rdv.below hx hB1) hB2
          have hsl := fun W => Rdv.slh hx2 el53 .i64 (show m ≤ c by have := Rdv.le hx; omega) W
          have hsl2 := fun W => Rdv.sll hx2 el53 .i64 hmn W
          go_wp2_with (go_at_call 82; refine (invalid_any A n c xs _ hx2).mono ?_; rintro e w' ⟨rfl, rfl⟩)
          refine (hc _ (Rd.upto hx2 hmn)).out.mono ?_
          rintro e w3 ⟨A3, c3, rfl, hO3, hB3⟩
          have hx3 := Rdv.below hx2 hB3
          have hd3 := Rd.cut_ hx3 (l := m) (m := n) hmn (Nat.le_refl _)
          rw [List.take_of_length_le (Nat.le_of_eq hx.len)] at hd3
          go_wp2_with (go_at_call 83; refine (equal_any A3 (cut A c m) L c3 _ _ S (xs.drop m) _ (Own.rd hO3) hd3).mono ?_; rintro e w4 ⟨rfl, hQ4⟩)
          have hz2 := Nat.le_trans hB1.size hB2.size
          have hz3 := hB3.size
          have hz4 := (hQ4.below w3.heap.size).size
          have hx4 := Rdv.below (Rd.upto hx3 (show m ≤ n by omega)) (hQ4.below _)
          go_wp2_with (go_at_call 50; refine (clone_any A m c _ _ hx4 (by omega)).mono ?_; rintro e w5 ⟨A5, c5, rfl, hO5, hB5⟩)
          have hfb : Below w.heap.size w w5 := (((hB1.trans (hB2.mono hB1.size)).trans (hB3.mono hz2)).trans (hQ4.below _)).trans (hB5.mono (by omega))
          go_ret2
          exact ⟨A5, m, c5, rfl, Ownv.mono hO5 (by omega), hfb⟩
        · have e1 : chkErr k xs = 11 := by rw [chkErr, if_neg h0, if_pos hv, if_neg hs, if_neg hq]
          have e2 : chkRes k xs = [] := by rw [chkRes, e1]; rfl
          rw [e1, e2]
          rw [hxl] at *
          clear e1 e2
          have HQ : decide (crcSum k (xs.take (n - sLen k)) = xs.drop (n - sLen k)) = false := by simpa using hq
          clear hq
          generalize crcSum k (xs.take (n - sLen k)) = S at *
          generalize sLen k = L at *
          have hb : ((L : Int) == 0) = false := beq_f (by omega)
          have hL8 : 1 ≤ L ∧ L ≤ 24 := by omega
          have em0 : (n : Int) - (L : Int) = ((n - L : Nat) : Int) := by omega
          have hmn : n - L ≤ n := by omega
          generalize n - L = m at *
          clear hN h0
          go_enter Tryz.func38, Tryz.ntmps38
          go_wp2_with fail
          refine (hl _).out.mono ?_
          rintro e w1 ⟨rfl, hB1⟩
          go_wp2_with fail
          refine (hl _).out.mono ?_
          rintro e w2 ⟨rfl, hB2⟩
          have hx2 := Rdv.below (Rdv.below hx hB1) hB2
          have hsl := fun W => Rdv.slh hx2 el53 .i64 (show m ≤ c by have := Rdv.le hx; omega) W
          have hsl2 := fun W => Rdv.sll hx2 el53 .i64 hmn W
          go_wp2_with (go_at_call 82; refine (invalid_any A n c xs _ hx2).mono ?_; rintro e w' ⟨rfl, rfl⟩)
          refine (hc _ (Rd.upto hx2 hmn)).out.mono ?_
          rintro e w3 ⟨A3, c3, rfl, hO3, hB3⟩
          have hx3 := Rdv.below hx2 hB3
          have hd3 := Rd.cut_ hx3 (l := m) (m := n) hmn (Nat.le_refl _)
          rw [List.take_of_length_le (Nat.le_of_eq hx.len)] at hd3
          go_wp2_with (go_at_call 83; refine (equal_any A3 (cut A c m) L c3 _ _ S (xs.drop m) _ (Own.rd hO3) hd3).mono ?_; rintro e w4 ⟨rfl, hQ4⟩)
          have hz2 := Nat.le_trans hB1.size hB2.size
          have hfb : Below w.heap.size w w4 := ((hB1.trans (hB2.mono hB1.size)).trans (hB3.mono hz2)).trans (hQ4.below _)
          go_wp2
          go_ret2
          exact ⟨none, 0, 0, rfl, Own.nilv _ _ _ _, hfb⟩
    · have e1 : chkErr k xs = 3 := by rw [chkErr, if_neg h0, if_neg hv]
      have e2 : chkRes k xs = [] := by rw [chkRes, e1]; rfl
      have hv' : ValidB xs = false := by simpa using hv
      rw [e1, e2]
      clear e1 e2 hxl hv
      generalize sLen k = L at *
      have hb : ((L : Int) == 0) = false := beq_f (by omega)
      go_enter Tryz.func38, Tryz.ntmps38
      go_wp2_with fail
      refine (hl _).out.mono ?_
      rintro e w1 ⟨rfl, hB1⟩
      go_wp2_with fail
      refine (hl _).out.mono ?_
      rintro e w2 ⟨rfl, hB2⟩
      have hx2 := Rdv.below (Rdv.below hx hB1) hB2
      go_wp2_with (go_at_call 82; refine (invalid_any A n c xs _ hx2).mono ?_; rintro e w' ⟨rfl, rfl⟩)
      go_ret2
      exact ⟨none, 0, 0, rfl, Own.nilv _ _ _ _, hB1.trans (hB2.mono hB1.size)⟩

/-! ### Mask -/
def maskL (xs : List Int) (id : Int) : Nat → List Int
  | 0 => xs
  | j + 1 => (maskL xs id j).set (xs.length - 16 + j) (xor8 (gi (maskL xs id j) (xs.length - 16 + j)) (gi (splitL id 16) j))
theorem maskL_len (xs : List Int) (id : Int) (j : Nat) : (maskL xs id j).length = xs.length := by
  induction j with
  | zero => rfl
  | succ j ih => simp only [maskL, List.length_set, ih]
def mErr (xs : List Int) : Int := if ValidB xs = true then (if xs.length < 16 then 5 else 0) else 3
def mRes (xs : List Int) (id : Int) : List Int := if ValidB xs = true then (if xs.length < 16 then [] else maskL xs id 16) else []
def MaskInv (w : World) (xs : List Int) (id : Int) (n : Nat) (A : Option Addr) (c : Nat) (A2 : Option Addr) (c2 : Nat) (i : Value) (wr : World) : Prop := ∃ j : Nat, j ≤ 16 ∧ i = .int .i64 j ∧ Own .u8 5 wr w.heap.size A n c (maskL xs id j) ∧ Rd .u8 wr A2 16 c2 (splitL id 16) ∧ Below w.heap.size w wr
end Go.Proofs.YtcbbkflnenkpgaaGreat
