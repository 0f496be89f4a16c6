/-
  Contracts of the specification's right and check. Condition: slices that lie in memory.
-/
import Derived.Test.YtcbbkflnenkpgaaSn
namespace Go.Proofs.Ytcbbkflnenkpgaa
open Go.RowKit CM
set_option linter.unusedVariables false
set_option maxRecDepth 100000 in
set_option maxHeartbeats 400000 in
theorem right_any (A : Option Addr) (n c : Nat) (xs : List Int) (w : World) (h : Rd .u8 w A n c xs) :
    Calls Try.prog 74 #[.slice A n c] w fun e w' => e = .returned (.bool (ValidB xs)) ∧ w = w' := by
  have hbd := h.bd.1
  go_enter Try.func74, Try.ntmps74
  go_wp2
  go_loop [3] (fun i => IdxInv n xs i) (fun i => n - (intOf i).toNat)
  case atStart => exact ⟨0, by omega, rfl, by intro q hq; omega⟩
  case round =>
    obtain ⟨j, hj, rfl, hv⟩ := hrel
    by_cases hlt : j < n
    · have hc := Rd.cell h hlt
      have hix := fun W => Rdv.ix h el53 hlt .i64 W
      have HV := Lib.hid hv; clear hv
      by_cases h1 : gi xs j ≤ 1
      · have h1' : decide (1 < gi xs j) = false := by simp; omega
        go_wp2
        go_round
        case rel => exact ⟨j + 1, by omega, by go_num, fun q hq => lt_succ_cases HV.out h1 q hq⟩
        case measure => simp [intOf]; omega
      · have h1' : decide (1 < gi xs j) = true := by simp; omega
        have hf := Lib.hid (validB_f (by rw [h.len]; exact hlt) (by omega : 1 < gi xs j))
        go_wp2
        go_ret
        exact ⟨ret_bool hf.out.symm, rfl⟩
    · have hf := Lib.hid (validB_t (xs := xs) (by rw [h.len]; intro q hq; exact hv q (by omega)))
      go_wp2
      go_ret
      exact ⟨ret_bool hf.out.symm, rfl⟩
def padB (xs : List Int) : List Bool := bl xs ++ List.replicate 24 false
def remB (xs : List Int) (i : Nat) : Nat := dvr 24 0x800063 0 ((padB xs).take i)
theorem padB_len (xs : List Int) : (padB xs).length = xs.length + 24 := by simp [padB, bit_len]
theorem remB_lt (xs : List Int) (i : Nat) : remB xs i < 16777216 := dvr_lt (L := 24) (p := 0x800063) (by decide) (by decide) _ _ (by decide)
theorem remB_succ (xs : List Int) (i : Nat) (h : i < xs.length + 24) : remB xs (i + 1) = dv 24 0x800063 (remB xs i) ((padB xs).getD i false) := by
  unfold remB
  rw [List.take_succ_eq_append_getElem (by rw [padB_len]; exact h), dvr_snoc]
  congr 1
  simp [List.getD, padB_len, h]
theorem i64_xor_nat (a b : Nat) (ha : a < 4611686018427387904) (hb : b < 4611686018427387904) : bits .xor .i64 (a : Int) (b : Int) = ((a ^^^ b : Nat) : Int) := by
  have hx : a ^^^ b < 2 ^ 62 := Nat.xor_lt_two_pow (by omega) (by omega)
  have e : ∀ c : Nat, c < 4611686018427387904 → (BitVec.ofInt 64 (c : Int)).toNat = c := fun c hc => by
    rw [BitVec.ofInt_natCast, BitVec.toNat_ofNat]; exact Nat.mod_eq_of_lt (by omega)
  show IntKind.i64.wrap ((BitVec.ofInt 64 (a : Int) ^^^ BitVec.ofInt 64 (b : Int)).toNat : Int) = _
  rw [BitVec.toNat_xor, e a ha, e b hb, IntKind.wrap_i64]
  omega
theorem dv_val (r : Nat) (b : Bool) : dv 24 0x800063 r b = if 16777216 ≤ 2 * r + b.toNat then (2 * r + b.toNat) ^^^ 25165923 else 2 * r + b.toNat := rfl
theorem pad_lo (xs : List Int) (i : Nat) (h : i < xs.length) : (padB xs).getD i false = decide (gi xs i = 1) := by
  unfold padB
  rw [List.getD_eq_getElem?_getD, List.getElem?_append_left (by rw [bit_len]; exact h), ← List.getD_eq_getElem?_getD, bl_getD]
theorem pad_hi (xs : List Int) (i : Nat) (h : xs.length ≤ i) : (padB xs).getD i false = false := by
  unfold padB
  rw [List.getD_eq_getElem?_getD, List.getElem?_append_right (by rw [bit_len]; exact h)]
  rw [List.getElem?_replicate]; split <;> rfl
def CkInv (n : Nat) (xs : List Int) (r i : Value) : Prop := ∃ j : Nat, j ≤ n + 24 ∧ i = .int .i64 j ∧ r = .int .i64 (remB xs j : Int)
theorem bit_val (R k : Nat) : ((R : Int) / 2 ^ k).tmod 2 % 256 = ib (R.testBit k) := by
  have e : (R : Int) / 2 ^ k = ((R / 2 ^ k : Nat) : Int) := by simp
  rw [e, Nat.testBit_eq_decide_div_mod_eq]
  generalize R / 2 ^ k = q
  rw [Int.tmod_eq_emod_of_nonneg (Int.natCast_nonneg _)]
  rcases Nat.mod_two_eq_zero_or_one q with h | h
  · rw [h]; simp [ib]; omega
  · rw [h]; simp [ib]; omega
def Ck2 (w : World) (R : Nat) (out i : Value) (wr : World) : Prop := ∃ (j : Nat) (A : Option Addr) (c : Nat), j ≤ 24 ∧ i = .int .i64 (23 - (j : Int)) ∧ out = .slice A j c ∧ Own .u8 5 wr w.heap.size A j c (((bitsOf 24 R).map ib).take j) ∧ Below w.heap.size w wr
set_option maxRecDepth 100000 in
set_option maxHeartbeats 1000000 in
theorem rchk_any (A : Option Addr) (n c : Nat) (xs : List Int) (w : World) (h : Rd .u8 w A n c xs) (hb : Bit xs) (hn : n ≤ 100000) :
    Calls Try.prog 75 #[.slice A n c] w fun e w' => ∃ A' c', e = .returned (.slice A' 24 c') ∧ Own .u8 5 w' w.heap.size A' 24 c' (crcSum 2 xs) ∧ Below w.heap.size w w' := by
  have hl := h.len
  have HL := Lib.hid hl
  have HSUM := Lib.hid (show (bitsOf 24 (remB xs (n + 24))).map ib = crcSum 2 xs by
    have h1 := dvr_sum (bl xs)
    rw [ib_bl hb] at h1
    rw [← h1]; unfold remB padB
    rw [List.take_of_length_le (by simp [bit_len, hl])])
  clear hl
  go_enter Try.func75, Try.ntmps75
  go_wp2
  go_loop [3, 4] (fun r i => CkInv n xs r i) (fun _ i => n + 24 - (intOf i).toNat)
  case atStart => exact ⟨0, by omega, rfl, by simp [remB, dvr]⟩
  case round =>
    obtain ⟨j, hj, rfl, rfl⟩ := hrel
    by_cases hlt : j < n + 24
    · have hlt2 := remB_lt xs j
      have hs := remB_succ xs j (by rw [HL.out]; exact hlt)
      rw [dv_val] at hs
      have HJ := Lib.hid (remB_lt xs (j + 1))
      by_cases hjn : j < n
      · rw [pad_lo xs j (by rw [HL.out]; exact hjn)] at hs
        have hc := Rd.cell h hjn
        have hix := fun W => Rdv.ix h el53 hjn .i64 W
        rcases hb (gi xs j) (gi_mem xs j (by rw [HL.out]; exact hjn)) with hg | hg
        · rw [hg] at hs hc
          clear hg
          simp only [show decide ((0 : Int) = 1) = false from rfl, Bool.toNat_false, Nat.add_zero] at hs
          obtain ⟨T, hT⟩ : ∃ T, T = 2 * remB xs j := ⟨_, rfl⟩
          rw [← hT] at hs
          have hTl : T < 33554432 := by omega
          have hm : wrap64 (2 * (remB xs j : Int)) = T := by unfold wrap64; omega
          have hw : wrap64 (T : Int) = T := by unfold wrap64; omega
          have hw1 : wrap64 ((T : Int) + 1) = T + 1 := by unfold wrap64; omega
          have HTL := Lib.hid hTl
          clear hT hlt2
          by_cases hge : 16777216 ≤ T
          · rw [if_pos hge] at hs
            have hx := i64_xor_nat (T) 25165923 (by omega) (by decide)
            rw [← hs] at hx
            have hx : bits .xor .i64 ((T : Int)) 25165923 = (remB xs (j + 1) : Int) := by rw [← hx]; rfl
            clear hs
            generalize hR1 : remB xs (j + 1) = R1 at *
            generalize hR0 : remB xs j = R0 at *
            have HR1 := Lib.hid hR1
            clear hR1 hR0 HJ
            have a2 : decide ((16777216 : Int) ≤ (T : Int)) = true := by simp; omega
            clear hge hTl
            go_wp2
            go_round
            case rel => exact ⟨j + 1, by omega, by go_num, by rw [HR1.out]⟩
            case measure => simp [intOf]; omega
          · rw [if_neg hge] at hs
            have HS := Lib.hid hs
            clear hs
            generalize hR0 : remB xs j = R0 at *
            clear hR0 HJ
            have a2 : decide ((16777216 : Int) ≤ (T : Int)) = false := by simp; omega
            clear hge hTl
            go_wp2
            go_round
            case rel => exact ⟨j + 1, by omega, by go_num, by rw [HS.out]; go_num⟩
            case measure => simp [intOf]; omega
        · rw [hg] at hs hc
          clear hg
          rw [show decide ((1 : Int) = 1) = true from rfl, Bool.toNat_true] at hs
          obtain ⟨T, hT⟩ : ∃ T, T = 2 * remB xs j := ⟨_, rfl⟩
          rw [← hT] at hs
          have hTl : T < 33554432 := by omega
          have hm : wrap64 (2 * (remB xs j : Int)) = T := by unfold wrap64; omega
          have hw : wrap64 (T : Int) = T := by unfold wrap64; omega
          have hw1 : wrap64 ((T : Int) + 1) = T + 1 := by unfold wrap64; omega
          have HTL := Lib.hid hTl
          clear hT hlt2
          by_cases hge : 16777216 ≤ T + 1
          · rw [if_pos hge] at hs
            have hx := i64_xor_nat (T + 1) 25165923 (by omega) (by decide)
            rw [← hs] at hx
            have hx : bits .xor .i64 ((T : Int) + 1) 25165923 = (remB xs (j + 1) : Int) := by rw [← hx]; rfl
            clear hs
            generalize hR1 : remB xs (j + 1) = R1 at *
            generalize hR0 : remB xs j = R0 at *
            have HR1 := Lib.hid hR1
            clear hR1 hR0 HJ
            have a2 : decide ((16777216 : Int) ≤ (T : Int) + 1) = true := by simp; omega
            clear hge hTl
            go_wp2
            go_round
            case rel => exact ⟨j + 1, by omega, by go_num, by rw [HR1.out]⟩
            case measure => simp [intOf]; omega
          · rw [if_neg hge] at hs
            have HS := Lib.hid hs
            clear hs
            generalize hR0 : remB xs j = R0 at *
            clear hR0 HJ
            have a2 : decide ((16777216 : Int) ≤ (T : Int) + 1) = false := by simp; omega
            clear hge hTl
            go_wp2
            go_round
            case rel => exact ⟨j + 1, by omega, by go_num, by rw [HS.out]; go_num⟩
            case measure => simp [intOf]; omega
      · rw [pad_hi xs j (by rw [HL.out]; omega)] at hs
        simp only [Bool.toNat_false, Nat.add_zero] at hs
        obtain ⟨T, hT⟩ : ∃ T, T = 2 * remB xs j := ⟨_, rfl⟩
        rw [← hT] at hs
        have hTl : T < 33554432 := by omega
        have hm : wrap64 (2 * (remB xs j : Int)) = T := by unfold wrap64; omega
        have hw : wrap64 (T : Int) = T := by unfold wrap64; omega
        have hw1 : wrap64 ((T : Int) + 1) = T + 1 := by unfold wrap64; omega
        have HTL := Lib.hid hTl
        clear hT hlt2
        by_cases hge : 16777216 ≤ T
        · rw [if_pos hge] at hs
          have hx := i64_xor_nat (T) 25165923 (by omega) (by decide)
          rw [← hs] at hx
          have hx : bits .xor .i64 ((T : Int)) 25165923 = (remB xs (j + 1) : Int) := by rw [← hx]; rfl
          clear hs
          generalize hR1 : remB xs (j + 1) = R1 at *
          generalize hR0 : remB xs j = R0 at *
          have HR1 := Lib.hid hR1
          clear hR1 hR0 HJ
          have a2 : decide ((16777216 : Int) ≤ (T : Int)) = true := by simp; omega
          clear hge hTl
          go_wp2
          go_round
          case rel => exact ⟨j + 1, by omega, by go_num, by rw [HR1.out]⟩
          case measure => simp [intOf]; omega
        · rw [if_neg hge] at hs
          have HS := Lib.hid hs
          clear hs
          generalize hR0 : remB xs j = R0 at *
          clear hR0 HJ
          have a2 : decide ((16777216 : Int) ≤ (T : Int)) = false := by simp; omega
          clear hge hTl
          go_wp2
          go_round
          case rel => exact ⟨j + 1, by omega, by go_num, by rw [HS.out]; go_num⟩
          case measure => simp [intOf]; omega
    · obtain rfl : j = n + 24 := by omega
      have hRl := remB_lt xs (n + 24)
      obtain ⟨R, hR⟩ : ∃ R, R = remB xs (n + 24) := ⟨_, rfl⟩
      rw [← hR] at hRl HSUM ⊢
      have HR := Lib.hid hRl
      clear hR hRl
      go_wp2
      go_loopw [6, 7] (fun out i wr => Ck2 w R out i wr) (fun _ i _ => (intOf i + 1).toNat)
      case atStart => exact ⟨0, none, 0, by omega, by go_num, rfl, Ownv.nilv 5 w _, Below.refl _ _⟩
      case round =>
        obtain ⟨j, A1, c1, hj, rfl, rfl, hO, hB⟩ := hrel
        have HO := Lib.hid hO
        have HB := Lib.hid hB
        clear hO hB
        by_cases hlt : j < 24
        · go_wp2_with (at_builtin; refine list_of rfl fun K hK => wp_app1 _ _ 53 rfl el53 rfl (.int .u8 _) rfl rfl HO.out (by omega) (by omega) HB.out.size ?_; intro A' c' w' hO' hg; have HO' := Lib.hid hO'; have HG := Lib.hid hg; clear hO' hg; refine hK _ _ ?_; clear hK K)
          have hbit := bit_val R (23 - j)
          have hget : ((bitsOf 24 R).map ib)[j]? = some (ib (R.testBit (23 - j))) := by
            rw [List.getElem?_map]; simp [bitsOf, hlt]
          go_roundw
          case rel => exact ⟨j + 1, A', c', by omega, by rw [show ((j + 1 : Nat) : Int) = (j : Int) + 1 by omega, show (23 : Int) - ((j : Int) + 1) = 23 - j - 1 by omega], rfl, Own.of_eq HO'.out rfl (by rw [List.take_add_one, hget, List.map_append, hbit]; rfl), HB.out.grown HG.out HB.out.size (fun k hk => Ownv.ob' HO.out hk)⟩
          case measure => simp [intOf]; omega
        · obtain rfl : j = 24 := by omega
          go_wp2
          go_ret
          exact ⟨A1, c1, rfl, by have := HO.out; rw [List.take_of_length_le (by simp [bitsOf_len]), HSUM.out] at this; exact this, HB.out⟩
end Go.Proofs.Ytcbbkflnenkpgaa
