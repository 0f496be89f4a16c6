/-
  Bundle of the texts CrM2 CrP Rc. Conditions: none.
-/
import Derived.Test.YtpdalbckmfadbaaGreatBuhax
import Derived.Test.YtpdalbckmfadbaaGreatBuhav
namespace Go.Proofs.YtpdalbckmfadbaaGreat.Cr
open Go.RowKit CM
def ib (b : Bool) : Int := if b then 1 else 0
def bl (xs : List Int) : List Bool := xs.map fun x => decide (x = 1)
def Bit (xs : List Int) : Prop := ∀ x ∈ xs, x = 0 ∨ x = 1
theorem ib_bl {xs : List Int} (h : Bit xs) : (bl xs).map ib = xs := by
  unfold bl; rw [List.map_map]
  conv => rhs; rw [← List.map_id xs]
  apply List.map_congr_left
  intro x hx
  rcases h x hx with rfl | rfl <;> rfl
theorem bit_ib (bs : List Bool) : Bit (bs.map ib) := by
  intro x hx
  obtain ⟨b, _, rfl⟩ := List.mem_map.1 hx
  cases b <;> simp [ib]
theorem bit_valid {xs : List Int} (h : Bit xs) : ValidB xs = true := by
  unfold ValidB; rw [List.all_eq_true]; intro x hx
  rcases h x hx with rfl | rfl <;> rfl
theorem bit_of {xs : List Int} (h0 : ∀ x ∈ xs, 0 ≤ x) (h : ValidB xs = true) : Bit xs := by
  unfold ValidB at h; rw [List.all_eq_true] at h
  intro x hx
  have h1 := h0 x hx
  have h2 := h x hx
  simp at h2; omega
theorem ofInt_u32 (a : Nat) (ha : a < 4294967296) : (BitVec.ofInt 32 (a : Int)).toNat = a := by
  rw [BitVec.ofInt_natCast, BitVec.toNat_ofNat]; exact Nat.mod_eq_of_lt (by omega)
theorem u32_and_nat (a b : Nat) (ha : a < 4294967296) (hb : b < 4294967296) : bits .and .u32 (a : Int) (b : Int) = ((a &&& b : Nat) : Int) := by
  have hx : a &&& b < 2 ^ 32 := Nat.and_lt_two_pow _ (by omega)
  show IntKind.u32.wrap ((BitVec.ofInt 32 (a : Int) &&& BitVec.ofInt 32 (b : Int)).toNat : Int) = _
  rw [BitVec.toNat_and, ofInt_u32 a ha, ofInt_u32 b hb, IntKind.wrap_u32]
  omega
theorem u32_xor_nat (a b : Nat) (ha : a < 4294967296) (hb : b < 4294967296) : bits .xor .u32 (a : Int) (b : Int) = ((a ^^^ b : Nat) : Int) := by
  have hx : a ^^^ b < 2 ^ 32 := Nat.xor_lt_two_pow (by omega) (by omega)
  show IntKind.u32.wrap ((BitVec.ofInt 32 (a : Int) ^^^ BitVec.ofInt 32 (b : Int)).toNat : Int) = _
  rw [BitVec.toNat_xor, ofInt_u32 a ha, ofInt_u32 b hb, IntKind.wrap_u32]
  omega
theorem xor8_ib (a b : Bool) : xor8 (ib a) (ib b) = ib (a ^^ b) := by cases a <;> cases b <;> decide
theorem u32_xor_ib (a b : Bool) : bits .xor .u32 (ib a) (ib b) = ib (a ^^ b) := by cases a <;> cases b <;> decide
theorem u32_and_one (x : Nat) (hx : x < 4294967296) : bits .and .u32 (x : Int) 1 = ib (x.testBit 0) := by
  have := u32_and_nat x 1 hx (by decide)
  rw [show ((1 : Nat) : Int) = 1 from rfl] at this
  rw [this, Nat.and_one_is_mod, Nat.testBit_zero]
  rcases Nat.mod_two_eq_zero_or_one x with h | h <;> rw [h] <;> rfl
theorem two_pow_le {L : Nat} (hL : L ≤ 31) : 2 ^ L ≤ 2147483648 := Nat.pow_le_pow_right (n := 2) (by decide) hL
theorem div_pow_bit (r j : Nat) : (r / 2 ^ j).testBit 0 = r.testBit j := by
  rw [← Nat.shiftRight_eq_div_pow, Nat.testBit_shiftRight, Nat.add_zero]
theorem crcStep_nat {L p r : Nat} (_ : 1 ≤ L) (hL2 : L ≤ 31) (hp : p < 2 ^ L) (hr : r < 2 ^ L) (b : Bool) : crcStep L (p : Int) (r : Int) (ib b) = (st L p r b : Int) := by
  have h2 := two_pow_le hL2
  have hpos := Nat.two_pow_pos L
  unfold crcStep
  have e1 : (r : Int) * 2 % 4294967296 = ((2 * r : Nat) : Int) := by omega
  have e2 : ((2 : Int) ^ L % 4294967296 - 1) % 4294967296 = ((2 ^ L - 1 : Nat) : Int) := by
    have : (2 : Int) ^ L = ((2 ^ L : Nat) : Int) := by simp
    rw [this]; omega
  have e3 : (r : Int) / 2 ^ (L - 1) = ((r / 2 ^ (L - 1) : Nat) : Int) := by simp
  have e4 : (ib b) % 4294967296 = ib b := by cases b <;> rfl
  have hq : r / 2 ^ (L - 1) < 4294967296 := Nat.lt_of_le_of_lt (Nat.div_le_self _ _) (by omega)
  rw [e1, e2, e3, e4, u32_and_nat _ _ (by omega) (by omega), Nat.and_two_pow_sub_one_eq_mod, u32_and_one _ hq, div_pow_bit, u32_xor_ib]
  have e5 : ib (r.testBit (L - 1) ^^ b) * (p : Int) % 4294967296 = (((if (r.testBit (L - 1) ^^ b) then p else 0) : Nat) : Int) := by
    cases (r.testBit (L - 1) ^^ b)
    · simp [ib]
    · simp only [ib, if_true]; omega
  rw [e5, u32_xor_nat _ _ (Nat.lt_of_lt_of_le (Nat.mod_lt _ hpos) (by omega)) (by split <;> omega)]
  rfl
theorem crcFold_nat {L p : Nat} (hL : 1 ≤ L) (hL2 : L ≤ 31) (hp : p < 2 ^ L) (bs : List Bool) : crcFold L (p : Int) (bs.map ib) = (run L p 0 bs : Int) := by
  have key : ∀ (bs : List Bool) (r : Nat), r < 2 ^ L → (bs.map ib).foldl (crcStep L (p : Int)) (r : Int) = (run L p r bs : Int) := by
    intro bs
    induction bs with
    | nil => intro r _; rfl
    | cons b bs ih =>
      intro r hr
      rw [List.map_cons, List.foldl_cons, crcStep_nat hL hL2 hp hr]
      exact ih _ (st_lt hp r b)
  exact key bs 0 (Nat.two_pow_pos L)
theorem splitL_nat {L r : Nat} (hr : r < 4294967296) : splitL (r : Int) L = (bitsOf L r).map ib := by
  unfold splitL bitsOf
  rw [List.map_map]
  apply List.map_congr_left
  intro j hj
  have e3 : (r : Int) / 2 ^ (L - 1 - j) = ((r / 2 ^ (L - 1 - j) : Nat) : Int) := by simp
  have hq : r / 2 ^ (L - 1 - j) < 4294967296 := Nat.lt_of_le_of_lt (Nat.div_le_self _ _) hr
  rw [e3, u32_and_one _ hq, div_pow_bit]
  simp only [Function.comp]
  cases r.testBit (L - 1 - j) <;> decide
def nPoly (k : Int) : Nat := if k = 1 then 0x864cfb else if k = 2 then 0x800063 else if k = 3 then 0x1021 else if k = 4 then 0x9b else 0
theorem sPoly_nat (k : Int) : sPoly k = (nPoly k : Int) := by unfold sPoly nPoly; repeat (split <;> try rfl)
theorem nPoly_ok {k : Int} (h : sLen k ≠ 0) : 1 ≤ sLen k ∧ sLen k ≤ 31 ∧ nPoly k < 2 ^ sLen k ∧ (nPoly k).testBit 0 = true := by
  unfold sLen at h
  by_cases h1 : k = 1
  · subst h1; decide
  by_cases h2 : k = 2
  · subst h2; decide
  by_cases h3 : k = 3
  · subst h3; decide
  by_cases h4 : k = 4
  · subst h4; decide
  · exfalso; apply h; simp [h1, h2, h3, h4]
theorem crcSum_bits {k : Int} (h : sLen k ≠ 0) (bs : List Bool) : crcSum k (bs.map ib) = (bitsOf (sLen k) (run (sLen k) (nPoly k) 0 bs)).map ib := by
  obtain ⟨h1, h2, h3, h4⟩ := nPoly_ok h
  unfold crcSum
  rw [sPoly_nat, crcFold_nat h1 h2 h3, splitL_nat]
  have := run_lt h3 bs 0 (Nat.two_pow_pos _)
  have := two_pow_le h2
  omega
/-! ### the reference's long division -/
theorem gi_set (m : List Int) (i t : Nat) (v : Int) (hi : i < m.length) : gi (m.set i v) t = if i = t then v else gi m t := by
  unfold gi
  simp only [List.getD_eq_getElem?_getD, List.getElem?_set]
  split
  · rename_i h; subst h; simp
  · rfl
theorem gi_inner (g m : List Int) (i : Nat) : ∀ q, i + q ≤ m.length → ∀ t, gi (innerTo g m i q) t = if i ≤ t ∧ t < i + q then xor8 (gi m t) (gi g (t - i)) else gi m t
  | 0, _, t => by rw [if_neg (by omega)]; rfl
  | q + 1, hq, t => by
    unfold innerTo xorStep
    rw [gi_set _ _ _ _ (by rw [len_innerTo]; omega), gi_inner g m i q (by omega), gi_inner g m i q (by omega)]
    by_cases ht : i + q = t
    · subst ht
      rw [if_pos rfl, if_neg (by omega), if_pos (by omega), show i + q - i = q by omega]
    · rw [if_neg ht]
      by_cases h2 : i ≤ t ∧ t < i + q
      · rw [if_pos h2, if_pos (by omega)]
      · rw [if_neg h2, if_neg (by omega)]
theorem gi_map_ib (bs : List Bool) (t : Nat) : gi (bs.map ib) t = ib (bs.getD t false) := by
  unfold gi
  simp only [List.getD_eq_getElem?_getD, List.getElem?_map]
  cases bs[t]? <;> rfl
theorem gi_app_zeros (xs : List Int) (L t : Nat) : gi (xs ++ List.replicate L 0) t = gi xs t := by
  unfold gi
  simp only [List.getD_eq_getElem?_getD, List.getElem?_append]
  split
  · rfl
  · rename_i h
    rw [List.getElem?_eq_none (l := xs) (by omega), List.getElem?_replicate]
    split <;> rfl
theorem bitsOf_getD (L r t : Nat) : (bitsOf L r).getD t false = (decide (t < L) && r.testBit (L - 1 - t)) := by
  unfold bitsOf
  simp only [List.getD_eq_getElem?_getD, List.getElem?_map]
  by_cases h : t < L
  · rw [List.getElem?_range h]; simp [h]
  · rw [List.getElem?_eq_none (by simp; omega)]; simp [h]
/-- After i rounds the division's row holds, from i on, the bits and the register. -/
theorem outTo_bits {L p : Nat} (hL : 1 ≤ L) (hp : p < 2 ^ L) (bs : List Bool) : ∀ i, i ≤ bs.length → ∀ t, i ≤ t →
    gi (outTo ((true :: bitsOf L p).map ib) (bs.map ib ++ List.replicate L 0) i) t = ib (bs.getD t false ^^ (decide (t < i + L) && (run L p 0 (bs.take i)).testBit (L - 1 - (t - i))))
  | 0, _, t, _ => by
    unfold outTo
    rw [gi_app_zeros, gi_map_ib]
    simp [run]
  | i + 1, hi, t, ht => by
    have hlen : (outTo ((true :: bitsOf L p).map ib) (bs.map ib ++ List.replicate L 0) i).length = bs.length + L := by rw [len_outTo]; simp
    have h0 := outTo_bits hL hp bs i (by omega) i (Nat.le_refl _)
    have h1 := outTo_bits hL hp bs i (by omega) t (by omega)
    have hget : bs[i]? = some (bs.getD i false) := by simp [List.getD, show i < bs.length by omega]
    have hrun : run L p 0 (bs.take (i + 1)) = st L p (run L p 0 (bs.take i)) (bs.getD i false) := by
      rw [List.take_add_one, hget, Option.toList, run_append]; rfl
    rw [hrun]
    unfold outTo
    generalize outTo ((true :: bitsOf L p).map ib) (bs.map ib ++ List.replicate L 0) i = m at *
    generalize run L p 0 (bs.take i) = r at *
    rw [Nat.sub_self, Nat.sub_zero] at h0
    simp only [show i < i + L by omega, decide_true, Bool.true_and] at h0
    unfold outStep
    rw [h0]
    have hgl : ((true :: bitsOf L p).map ib).length = L + 1 := by simp [bitsOf_len]
    rw [hgl]
    rw [st_bit]
    have htop : (bs.getD i false ^^ r.testBit (L - 1)) = (r.testBit (L - 1) ^^ bs.getD i false) := Bool.xor_comm _ _
    by_cases hb : (r.testBit (L - 1) ^^ bs.getD i false) = true
    · rw [if_pos (by rw [htop, hb]; rfl), gi_inner _ _ _ _ (by rw [hlen]; omega), hb]
      by_cases hin : t < i + (L + 1)
      · rw [if_pos ⟨by omega, hin⟩, h1, gi_map_ib, xor8_ib]
        congr 1
        obtain ⟨d, rfl⟩ : ∃ d, t = i + 1 + d := ⟨t - (i + 1), by omega⟩
        have hd : d < L := by omega
        rw [show i + 1 + d - i = d + 1 by omega, show i + 1 + d - (i + 1) = d by omega, List.getD_cons_succ, bitsOf_getD]
        simp only [hd, show i + 1 + d < i + 1 + L by omega, decide_true, Bool.true_and, show L - 1 - d < L by omega]
        by_cases hdL : d + 1 < L
        · simp only [show i + 1 + d < i + L by omega, show 1 ≤ L - 1 - d by omega, decide_true, Bool.true_and]
          rw [show L - 1 - (d + 1) = L - 1 - d - 1 by omega, Bool.xor_assoc]
        · simp only [show ¬ (i + 1 + d < i + L) by omega, show ¬ (1 ≤ L - 1 - d) by omega, decide_false, Bool.false_and, Bool.xor_false, Bool.false_xor]
      · rw [if_neg (by omega), h1]
        simp only [show ¬ (t < i + L) by omega, show ¬ (t < i + 1 + L) by omega, decide_false, Bool.false_and]
    · rw [if_neg (by rw [htop]; intro e; apply hb; cases hx : (r.testBit (L - 1) ^^ bs.getD i false) <;> rw [hx] at e <;> first | rfl | (exact absurd e (by decide))), h1]
      have hb' : (r.testBit (L - 1) ^^ bs.getD i false) = false := by simpa using hb
      rw [hb']
      congr 1
      obtain ⟨d, rfl⟩ : ∃ d, t = i + 1 + d := ⟨t - (i + 1), by omega⟩
      rw [show i + 1 + d - i = d + 1 by omega, show i + 1 + d - (i + 1) = d by omega]
      simp only [Bool.false_and, Bool.xor_false]
      by_cases hdL : d + 1 < L
      · simp only [show i + 1 + d < i + L by omega, show i + 1 + d < i + 1 + L by omega, show L - 1 - d < L by omega, show 1 ≤ L - 1 - d by omega, decide_true, Bool.true_and]
        rw [show L - 1 - (d + 1) = L - 1 - d - 1 by omega]
      · simp only [show ¬ (i + 1 + d < i + L) by omega, decide_false, Bool.false_and]
        by_cases hd2 : d < L
        · simp only [show ¬ (1 ≤ L - 1 - d) by omega, decide_false, Bool.and_false, Bool.false_and]
        · simp only [show ¬ (i + 1 + d < i + 1 + L) by omega, decide_false, Bool.false_and]
theorem refSum_bits {L p : Nat} (hL : 1 ≤ L) (hp : p < 2 ^ L) (bs : List Bool) : refSum ((true :: bitsOf L p).map ib) (bs.map ib) = (bitsOf L (run L p 0 bs)).map ib := by
  have hgl : ((true :: bitsOf L p).map ib).length - 1 = L := by simp [bitsOf_len]
  refine ext_gi ?_ fun j hj => ?_
  · rw [refSum_len (by simp), hgl, List.length_map, bitsOf_len]
  · rw [refSum_len (by simp), hgl] at hj
    unfold refSum
    rw [hgl, List.length_map]
    have h := outTo_bits hL hp bs bs.length (Nat.le_refl _) (bs.length + j) (by omega)
    have e : gi ((outTo ((true :: bitsOf L p).map ib) (bs.map ib ++ List.replicate L 0) bs.length).drop bs.length) j = gi (outTo ((true :: bitsOf L p).map ib) (bs.map ib ++ List.replicate L 0) bs.length) (bs.length + j) := by
      unfold gi; simp only [List.getD_eq_getElem?_getD, List.getElem?_drop]
    rw [e, h, gi_map_ib, bitsOf_getD, List.take_of_length_le (Nat.le_refl _), show bs.length + j - bs.length = j by omega]
    congr 1
    have : bs.getD (bs.length + j) false = false := by simp [List.getD]
    rw [this]
    simp [hj]
theorem polyL_bits {k : Int} (h : sLen k ≠ 0) : polyL k = (true :: bitsOf (sLen k) (nPoly k)).map ib := by
  unfold sLen at h
  by_cases h1 : k = 1
  · subst h1; decide +kernel
  by_cases h2 : k = 2
  · subst h2; decide +kernel
  by_cases h3 : k = 3
  · subst h3; decide +kernel
  by_cases h4 : k = 4
  · subst h4; decide +kernel
  · exfalso; apply h; simp [h1, h2, h3, h4]
theorem polyN_sLen (k : Int) : polyN k = if sLen k = 0 then 0 else sLen k + 1 := by
  unfold polyN sLen
  by_cases h1 : k = 1
  · simp [h1]
  by_cases h2 : k = 2
  · simp [h2]
  by_cases h3 : k = 3
  · simp [h3]
  by_cases h4 : k = 4
  · simp [h4]
  · simp [h1, h2, h3, h4]
/-- THE TWO TEXTS AGREE. -/
theorem sum_agree {k : Int} (h : sLen k ≠ 0) {xs : List Int} (hx : Bit xs) : refSum (polyL k) xs = crcSum k xs := by
  obtain ⟨h1, h2, h3, h4⟩ := nPoly_ok h
  rw [← ib_bl hx, polyL_bits h, refSum_bits h1 h3, crcSum_bits h]
end Go.Proofs.YtpdalbckmfadbaaGreat.Cr

namespace Go.Proofs.YtpdalbckmfadbaaGreat.Cr
open Go.RowKit CM
set_option linter.unusedVariables false
theorem crcSum_len (k : Int) (xs : List Int) : (crcSum k xs).length = sLen k := by unfold crcSum; rw [splitL_len]
theorem bit_sum {k : Int} (h : sLen k ≠ 0) {xs : List Int} (hx : Bit xs) : Bit (crcSum k xs) := by
  rw [← ib_bl hx, crcSum_bits h]; exact bit_ib _
theorem bit_app {xs ys : List Int} (hx : Bit xs) (hy : Bit ys) : Bit (xs ++ ys) := by
  intro x h; rcases List.mem_append.1 h with h | h
  · exact hx x h
  · exact hy x h
theorem gi_ib (bs : List Bool) (j : Nat) (h : j < bs.length) : gi (bs.map ib) j = ib bs[j] := by
  rw [gi_eq _ _ (by simpa using h)]; simp
theorem back {k : Int} (h : sLen k ≠ 0) {xs : List Int} (hx : Bit xs) : chkErr k (xs ++ crcSum k xs) = 0 ∧ chkRes k (xs ++ crcSum k xs) = xs := by
  have hl := crcSum_len k xs
  have e1 : (xs ++ crcSum k xs).length - sLen k = xs.length := by rw [List.length_append, hl]; omega
  have e : chkErr k (xs ++ crcSum k xs) = 0 := by
    unfold chkErr
    rw [if_neg h, if_pos (bit_valid (bit_app hx (bit_sum h hx))), if_neg (by rw [List.length_append, hl]; omega), e1, List.take_left, List.drop_left, if_pos rfl]
  refine ⟨e, ?_⟩
  unfold chkRes
  rw [if_pos e, e1, List.take_left]
end Go.Proofs.YtpdalbckmfadbaaGreat.Cr

namespace Go.Proofs.YtpdalbckmfadbaaGreat.Cr
open Go.RowKit
theorem polyN_zero (k : Int) : polyN k = 0 ↔ sLen k = 0 := by rw [polyN_sLen]; split <;> simp_all
theorem chkerr_agree (k : Int) {xs : List Int} (h0 : ∀ x ∈ xs, 0 ≤ x) : rChkErr k xs = chkErr k xs := by
  unfold rChkErr chkErr
  by_cases h : sLen k = 0
  · rw [if_pos ((polyN_zero k).2 h), if_pos h]
  · rw [if_neg (fun e => h ((polyN_zero k).1 e)), if_neg h]
    have e1 : polyN k - 1 = sLen k := by rw [polyN_sLen, if_neg h]; omega
    rw [e1]
    by_cases hv : ValidB xs = true
    · rw [if_pos hv, if_pos hv, sum_agree h (bit_of (fun x hx => h0 x (List.mem_of_mem_take hx)) (validB_take _ hv))]
    · rw [if_neg hv, if_neg hv]
end Go.Proofs.YtpdalbckmfadbaaGreat.Cr
namespace Go.Proofs.YtpdalbckmfadbaaGreat
open Go.RowKit
set_option linter.unusedVariables false
attribute [local go_sem] Oper.semAt_some
/-- the test of decisions -/
noncomputable def psN (kind : Int) (xs bs : List Int) (half : Nat) : Bool := if kind = 0 then decide (2 ≤ half) && decide (xs = bs) else decide (Cr.chkErr kind xs = 0)
set_option maxRecDepth 100000 in
theorem rpasses_any (R : Option Addr) (rn rc : Nat) (xs : List Int) (B : Option Addr) (bn bc : Nat) (bs : List Int) (kind : Int) (half : Nat) (w : World) (hr : Rd .u8 w R rn rc xs) (hb : Rd .u8 w B bn bc bs) (h1 : ∀ x ∈ xs, 0 ≤ x ∧ x < 256) (h2 : ∀ x ∈ bs, 0 ≤ x ∧ x < 256) (hn : rn ≤ 100000) :
    Calls Tryz.prog 58 #[.slice R rn rc, .slice B bn bc, .int .i64 kind, .int .i64 (half : Int)] w fun e w' => e = .returned (.bool (psN kind xs bs half)) ∧ Below w.heap.size w w' := by
  by_cases hk : kind = 0
  · have c1 := conv_rd hr
    have c2 := conv_rd hb
    have e : psN kind xs bs half = (decide (2 ≤ half) && ((strOfNums xs).toList == (strOfNums bs).toList)) := by unfold psN; rw [if_pos hk, strEq h1 h2]
    rw [e, hk]
    clear h1 h2 hr hb e hk
    generalize strOfNums xs = s at *
    generalize strOfNums bs = t at *
    by_cases h2 : 2 ≤ half
    · have q : decide ((half : Int) ≥ 2) = true := by simp; omega
      rw [decide_eq_true h2, Bool.true_and]
      clear h2
      go_enter Tryz.func58, Tryz.ntmps58
      go_wp2
      go_ret
      exact ⟨rfl, Below.refl _ _⟩
    · have q : decide ((half : Int) ≥ 2) = false := by simp; omega
      rw [decide_eq_false h2, Bool.false_and]
      clear h2
      go_enter Tryz.func58, Tryz.ntmps58
      go_wp2
      go_ret
      exact ⟨rfl, Below.refl _ _⟩
  · have HCK := Lib.hid (Cr.rcheck_any kind R rn rc xs w hr hn)
    rw [Cr.chkerr_agree kind (fun x hx => (h1 x hx).1)] at HCK
    have e : psN kind xs bs half = decide (Cr.chkErr kind xs = 0) := by unfold psN; rw [if_neg hk]
    rw [e]
    have hk0 : (kind == 0) = false := by simpa using hk
    clear hr hb h1 h2 e hk
    obtain ⟨v, hv⟩ : ∃ v, v = Cr.chkErr kind xs := ⟨_, rfl⟩
    rw [← hv] at HCK ⊢
    clear hv
    by_cases hE : v = 0
    · rw [hE] at HCK ⊢
      go_enter Tryz.func58, Tryz.ntmps58
      go_wp2_with (go_at_call 107; refine HCK.out.mono ?_; rintro e w1 ⟨A', n', c', rfl, hR', hB⟩)
      go_ret
      exact ⟨rfl, hB⟩
    · have q : (v == 0) = false := by simpa using hE
      rw [decide_eq_false hE]
      clear hE
      go_enter Tryz.func58, Tryz.ntmps58
      go_wp2_with (go_at_call 107; refine HCK.out.mono ?_; rintro e w1 ⟨A', n', c', rfl, hR', hB⟩)
      go_ret
      exact ⟨rfl, hB⟩
end Go.Proofs.YtpdalbckmfadbaaGreat

