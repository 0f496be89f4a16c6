import Derived.Test.YthajakigiffleaaT9
namespace Go.Proofs.Ythajakigiffleaa
open Go.RowKit
set_option linter.unusedVariables false
theorem splitL_len (v : Int) (n : Nat) : (splitL v n).length = n := by simp [splitL]
def chkErr (k : Int) (xs : List Int) : Int :=
  if sLen k = 0 then 2 else if ValidB xs = true then (if xs.length < sLen k then 5 else if crcSum k (xs.take (xs.length - sLen k)) = xs.drop (xs.length - sLen k) then 0 else 11) else 3
def chkRes (k : Int) (xs : List Int) : List Int := if chkErr k xs = 0 then xs.take (xs.length - sLen k) else []
set_option maxHeartbeats 1000000 in
theorem check_any (k : Int) (A : Option Addr) (n c : Nat) (xs : List Int) (w : World) (hx : Rd .u8 w A n c xs) (hn : n ≤ 100000) :
    Calls Try.prog 17 #[.int .i64 k, .slice A n c] w fun e w' => ∃ A' n' c', e = .returned (.tuple #[.slice A' n' c', .int .i64 (chkErr k xs)]) ∧ Own .u8 5 w' w.heap.size A' n' c' (chkRes k xs) ∧ Below w.heap.size w w' := by
  have hN := sLen_cases k
  have hxl := hx.len
  have hl := fun W => Lib.hid (len_any k W)
  by_cases h0 : sLen k = 0
  · have e1 : chkErr k xs = 2 := by rw [chkErr, if_pos h0]
    have e2 : chkRes k xs = [] := by rw [chkRes, e1]; rfl
    rw [e1, e2]
    rw [h0] at hl
    clear e1 e2 h0 hN hxl
    go_enter Try.func17, Try.ntmps17
    go_wp2_with fail
    refine (hl _).out.mono ?_
    rintro e w1 ⟨rfl, hB1⟩
    go_wp2_with fail
    refine (hl _).out.mono ?_
    rintro e w2 ⟨rfl, hB2⟩
    go_wp2
    go_ret2
    exact ⟨none, 0, 0, rfl, Own.nilv _ _ _ _, hB1.trans (hB2.mono hB1.size)⟩
  · by_cases hv : ValidB xs = true
    · by_cases hs : xs.length < sLen k
      · have e1 : chkErr k xs = 5 := by rw [chkErr, if_neg h0, if_pos hv, if_pos hs]
        have e2 : chkRes k xs = [] := by rw [chkRes, e1]; rfl
        rw [e1, e2]
        rw [hxl] at hs
        clear e1 e2 hxl
        generalize sLen k = L at *
        have hb : ((L : Int) == 0) = false := beq_f (by omega)
        have hL8 : 1 ≤ L ∧ L ≤ 24 := by omega
        clear hN h0
        go_enter Try.func17, Try.ntmps17
        go_wp2_with fail
        refine (hl _).out.mono ?_
        rintro e w1 ⟨rfl, hB1⟩
        go_wp2_with fail
        refine (hl _).out.mono ?_
        rintro e w2 ⟨rfl, hB2⟩
        have hx2 := Rdv.below (Rdv.below hx hB1) hB2
        go_wp2_with (go_at_call 25; refine (invalid_any A n c xs _ hx2).mono ?_; rintro e w' ⟨rfl, rfl⟩)
        go_ret2
        exact ⟨none, 0, 0, rfl, Own.nilv _ _ _ _, hB1.trans (hB2.mono hB1.size)⟩
      · have hc := fun W hW => Lib.hid (compute_ok k A (xs.length - sLen k) c (xs.take (xs.length - sLen k)) W hW h0 (validB_take _ hv))
        by_cases hq : crcSum k (xs.take (xs.length - sLen k)) = xs.drop (xs.length - sLen k)
        · have e1 : chkErr k xs = 0 := by rw [chkErr, if_neg h0, if_pos hv, if_neg hs, if_pos hq]
          have e2 : chkRes k xs = xs.take (xs.length - sLen k) := by rw [chkRes, e1]; rfl
          rw [e1, e2]
          rw [hxl] at *
          clear e1 e2
          have HQ : decide (crcSum k (xs.take (n - sLen k)) = xs.drop (n - sLen k)) = true := by simpa using hq
          clear hq
          generalize crcSum k (xs.take (n - sLen k)) = S at *
          generalize sLen k = L at *
          have hb : ((L : Int) == 0) = false := beq_f (by omega)
          have hL8 : 1 ≤ L ∧ L ≤ 24 := by omega
          have em0 : (n : Int) - (L : Int) = ((n - L : Nat) : Int) := by omega
          have hmn : n - L ≤ n := by omega
          generalize n - L = m at *
          clear hN h0
          go_enter Try.func17, Try.ntmps17
          go_wp2_with fail
          refine (hl _).out.mono ?_
          rintro e w1 ⟨rfl, hB1⟩
          go_wp2_with fail
          refine (hl _).out.mono ?_
          rintro e w2 ⟨rfl, hB2⟩
          have hx2 := Rdv.below (Rdv.below hx hB1) hB2
          have hsl := fun W => Rdv.slh hx2 el23 .i64 (show m ≤ c by have := Rdv.le hx; omega) W
          have hsl2 := fun W => Rdv.sll hx2 el23 .i64 hmn W
          go_wp2_with (go_at_call 25; refine (invalid_any A n c xs _ hx2).mono ?_; rintro e w' ⟨rfl, rfl⟩)
          refine (hc _ (Rd.upto hx2 hmn)).out.mono ?_
          rintro e w3 ⟨A3, c3, rfl, hO3, hB3⟩
          have hx3 := Rdv.below hx2 hB3
          have hd3 := Rd.cut_ hx3 (l := m) (m := n) hmn (Nat.le_refl _)
          rw [List.take_of_length_le (Nat.le_of_eq hx.len)] at hd3
          go_wp2_with (go_at_call 30; refine (equal_any A3 (cut A c m) L c3 _ _ S (xs.drop m) _ (Own.rd hO3) hd3).mono ?_; rintro e w4 ⟨rfl, hQ4⟩)
          have hz2 := Nat.le_trans hB1.size hB2.size
          have hz3 := hB3.size
          have hz4 := (hQ4.below w3.heap.size).size
          have hx4 := Rdv.below (Rd.upto hx3 (show m ≤ n by omega)) (hQ4.below _)
          go_wp2_with (go_at_call 31; refine (clone_any A m c _ _ hx4 (by omega)).mono ?_; rintro e w5 ⟨A5, c5, rfl, hO5, hB5⟩)
          have hfb : Below w.heap.size w w5 := (((hB1.trans (hB2.mono hB1.size)).trans (hB3.mono hz2)).trans (hQ4.below _)).trans (hB5.mono (by omega))
          go_ret2
          exact ⟨A5, m, c5, rfl, Ownv.mono hO5 (by omega), hfb⟩
        · have e1 : chkErr k xs = 11 := by rw [chkErr, if_neg h0, if_pos hv, if_neg hs, if_neg hq]
          have e2 : chkRes k xs = [] := by rw [chkRes, e1]; rfl
          rw [e1, e2]
          rw [hxl] at *
          clear e1 e2
          have HQ : decide (crcSum k (xs.take (n - sLen k)) = xs.drop (n - sLen k)) = false := by simpa using hq
          clear hq
          generalize crcSum k (xs.take (n - sLen k)) = S at *
          generalize sLen k = L at *
          have hb : ((L : Int) == 0) = false := beq_f (by omega)
          have hL8 : 1 ≤ L ∧ L ≤ 24 := by omega
          have em0 : (n : Int) - (L : Int) = ((n - L : Nat) : Int) := by omega
          have hmn : n - L ≤ n := by omega
          generalize n - L = m at *
          clear hN h0
          go_enter Try.func17, Try.ntmps17
          go_wp2_with fail
          refine (hl _).out.mono ?_
          rintro e w1 ⟨rfl, hB1⟩
          go_wp2_with fail
          refine (hl _).out.mono ?_
          rintro e w2 ⟨rfl, hB2⟩
          have hx2 := Rdv.below (Rdv.below hx hB1) hB2
          have hsl := fun W => Rdv.slh hx2 el23 .i64 (show m ≤ c by have := Rdv.le hx; omega) W
          have hsl2 := fun W => Rdv.sll hx2 el23 .i64 hmn W
          go_wp2_with (go_at_call 25; refine (invalid_any A n c xs _ hx2).mono ?_; rintro e w' ⟨rfl, rfl⟩)
          refine (hc _ (Rd.upto hx2 hmn)).out.mono ?_
          rintro e w3 ⟨A3, c3, rfl, hO3, hB3⟩
          have hx3 := Rdv.below hx2 hB3
          have hd3 := Rd.cut_ hx3 (l := m) (m := n) hmn (Nat.le_refl _)
          rw [List.take_of_length_le (Nat.le_of_eq hx.len)] at hd3
          go_wp2_with (go_at_call 30; refine (equal_any A3 (cut A c m) L c3 _ _ S (xs.drop m) _ (Own.rd hO3) hd3).mono ?_; rintro e w4 ⟨rfl, hQ4⟩)
          have hz2 := Nat.le_trans hB1.size hB2.size
          have hfb : Below w.heap.size w w4 := ((hB1.trans (hB2.mono hB1.size)).trans (hB3.mono hz2)).trans (hQ4.below _)
          go_wp2
          go_ret2
          exact ⟨none, 0, 0, rfl, Own.nilv _ _ _ _, hfb⟩
    · have e1 : chkErr k xs = 3 := by rw [chkErr, if_neg h0, if_neg hv]
      have e2 : chkRes k xs = [] := by rw [chkRes, e1]; rfl
      have hv' : ValidB xs = false := by simpa using hv
      rw [e1, e2]
      clear e1 e2 hxl hv
      generalize sLen k = L at *
      have hb : ((L : Int) == 0) = false := beq_f (by omega)
      go_enter Try.func17, Try.ntmps17
      go_wp2_with fail
      refine (hl _).out.mono ?_
      rintro e w1 ⟨rfl, hB1⟩
      go_wp2_with fail
      refine (hl _).out.mono ?_
      rintro e w2 ⟨rfl, hB2⟩
      have hx2 := Rdv.below (Rdv.below hx hB1) hB2
      go_wp2_with (go_at_call 25; refine (invalid_any A n c xs _ hx2).mono ?_; rintro e w' ⟨rfl, rfl⟩)
      go_ret2
      exact ⟨none, 0, 0, rfl, Own.nilv _ _ _ _, hB1.trans (hB2.mono hB1.size)⟩

/-! ### Mask -/
def maskL (xs : List Int) (id : Int) : Nat → List Int
  | 0 => xs
  | j + 1 => (maskL xs id j).set (xs.length - 16 + j) (xor8 (gi (maskL xs id j) (xs.length - 16 + j)) (gi (splitL id 16) j))
theorem maskL_len (xs : List Int) (id : Int) (j : Nat) : (maskL xs id j).length = xs.length := by
  induction j with
  | zero => rfl
  | succ j ih => simp only [maskL, List.length_set, ih]
def mErr (xs : List Int) : Int := if ValidB xs = true then (if xs.length < 16 then 5 else 0) else 3
def mRes (xs : List Int) (id : Int) : List Int := if ValidB xs = true then (if xs.length < 16 then [] else maskL xs id 16) else []
def MaskInv (w : World) (xs : List Int) (id : Int) (n : Nat) (A : Option Addr) (c : Nat) (A2 : Option Addr) (c2 : Nat) (i : Value) (wr : World) : Prop := ∃ j : Nat, j ≤ 16 ∧ i = .int .i64 j ∧ Own .u8 5 wr w.heap.size A n c (maskL xs id j) ∧ Rd .u8 wr A2 16 c2 (splitL id 16) ∧ Below w.heap.size w wr
set_option maxHeartbeats 1000000 in
theorem mask_any (A : Option Addr) (n c : Nat) (xs : List Int) (id : Int) (w : World) (hx : Rd .u8 w A n c xs) (hn : n ≤ 100000) (hid0 : 0 ≤ id) (hid1 : id ≤ 65535) :
    Calls Try.prog 22 #[.slice A n c, .int .u16 id] w fun e w' => ∃ A' n' c', e = .returned (.tuple #[.slice A' n' c', .int .i64 (mErr xs)]) ∧ Own .u8 5 w' w.heap.size A' n' c' (mRes xs id) ∧ Below w.heap.size w w' := by
  have hxl := hx.len
  by_cases hv : ValidB xs = true
  · by_cases hs : xs.length < 16
    · have e1 : mErr xs = 5 := by rw [mErr, if_pos hv, if_pos hs]
      have e2 : mRes xs id = [] := by rw [mRes, if_pos hv, if_pos hs]
      rw [e1, e2]
      rw [hxl] at hs
      clear e1 e2 hxl
      go_enter Try.func22, Try.ntmps22
      go_wp2_with (go_at_call 25; refine (invalid_any A n c xs _ hx).mono ?_; rintro e w' ⟨rfl, rfl⟩)
      go_ret2
      exact ⟨none, 0, 0, rfl, Own.nilv _ _ _ _, Below.refl _ _⟩
    · have e1 : mErr xs = 0 := by rw [mErr, if_pos hv, if_neg hs]
      have e2 : mRes xs id = maskL xs id 16 := by rw [mRes, if_pos hv, if_neg hs]
      rw [e1, e2]
      have hwid : IntKind.u32.wrap id = id := IntWalk.u32_in _ (by omega)
      have hs' : 16 ≤ n := by omega
      have HM : Hid (∀ j, maskL xs id (j + 1) = (maskL xs id j).set (n - 16 + j) (xor8 (gi (maskL xs id j) (n - 16 + j)) (gi (splitL id 16) j))) := by intro j; rw [← hxl]; rfl
      have HL : Hid (∀ j, (maskL xs id j).length = n) := fun j => (maskL_len xs id j).trans hxl
      clear e1 e2 hs hxl hwid
      go_enter Try.func22, Try.ntmps22
      go_wp2_with (first
        | (go_at_call 25; refine (invalid_any A n c xs _ hx).mono ?_; rintro e w' ⟨rfl, rfl⟩)
        | (go_at_call 31; refine (clone_any A n c xs _ hx (by omega)).mono ?_; rintro e w1 ⟨A1, c1, rfl, hO1, hB1⟩)
        | (go_at_call 26; refine (split_any _ 16 _ (by omega)).mono ?_; rintro e w2 ⟨A2, c2, rfl, hO2, hB2⟩))
      have hne : blk A1 ≠ blk A2 := by
        have h1 := Ownv.blk_ge hO1 (by have := Rdv.le (Own.rd hO1); omega)
        have h2 := Ownv.blk_ge hO2 (by have := Rdv.le (Own.rd hO2); omega)
        omega
      have hO12 : Own .u8 5 w2 w.heap.size A1 n c1 (maskL xs id 0) := Ownv.below hO1 hB2
      have hB12 := hB1.trans (hB2.mono hB1.size)
      clear hO1 hB1 hB2
      go_loopw [22] (fun i wr => MaskInv w xs id n A1 c1 A2 c2 i wr) (fun i _ => 16 - (intOf i).toNat)
      case atStart => exact ⟨0, by omega, rfl, hO12, Own.rd hO2, hB12⟩
      case round =>
        obtain ⟨j, hj, rfl, hOj, hRj, hBj⟩ := hrel
        by_cases hlt : j < 16
        · have hlt2 : n - 16 + j < n := by omega
          have hix := fun W => Rdv.ix hRj el23 hlt .i64 W
          have hcell := Rd.cell hRj hlt
          have em : (n : Int) - 16 + (j : Int) = ((n - 16 + j : Nat) : Int) := by omega
          have hix2 := fun W => Rdv.ixI (Own.rd hOj) el23 hlt2 .i64 ((n : Int) - 16 + (j : Int)) em W
          have hcell2 := Rd.cell (Own.rd hOj) hlt2
          have hfz := Ownv.frozen hOj (by have := Rdv.le (Own.rd hOj); omega) (n - 16 + j)
          have HSET := Lib.hid (Own.set_ hOj hlt2 (xor8 (gi (maskL xs id j) (n - 16 + j)) (gi (splitL id 16) j)))
          clear em
          go_wp2
          exact ⟨⟨j + 1, by omega, by go_num, by rw [HM.out]; exact HSET.out.1, Rdv.grown hRj HSET.out.2 (fun _ h => hne (by injection h with h; exact h.symm)),
            hBj.grown HSET.out.2 hBj.size (fun k hk => by injection hk with hk; rw [← hk]; exact (Ownv.blk_ge hOj (by have := Rdv.le (Own.rd hOj); omega)).1)⟩, by simp [intOf]; omega⟩
        · obtain rfl : j = 16 := by omega
          go_wp2
          go_ret2
          exact ⟨A1, n, c1, rfl, hOj, hBj⟩
  · have e1 : mErr xs = 3 := by rw [mErr, if_neg hv]
    have e2 : mRes xs id = [] := by rw [mRes, if_neg hv]
    have hv' : ValidB xs = false := by simpa using hv
    rw [e1, e2]
    clear e1 e2 hxl hv
    go_enter Try.func22, Try.ntmps22
    go_wp2_with (go_at_call 25; refine (invalid_any A n c xs _ hx).mono ?_; rintro e w' ⟨rfl, rfl⟩)
    go_ret2
    exact ⟨none, 0, 0, rfl, Own.nilv _ _ _ _, Below.refl _ _⟩
end Go.Proofs.Ythajakigiffleaa
