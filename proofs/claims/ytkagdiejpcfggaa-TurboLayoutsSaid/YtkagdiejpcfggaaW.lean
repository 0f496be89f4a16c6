/-
  Contracts of turbo.Bits and turbo.Check. Condition: a bound on the length.
-/
import Derived.Test.YtkagdiejpcfggaaT
namespace Go.Proofs.Ytkagdiejpcfggaa
open Go.RowKit
set_option linter.unusedVariables false
def kLen (n : Nat) : Int := (n : Int) / 3 - 4
def goodLen (n : Nat) : Prop := n % 3 = 0 ∧ validK (kLen n) = true
theorem goodLen_bd {n : Nat} (h : goodLen n) : ∃ k : Nat, kLen n = k ∧ n = 3 * (k + 4) ∧ validK (k : Int) = true ∧ 40 ≤ k ∧ k ≤ 6144 := by
  obtain ⟨h1, h2⟩ := h
  have h3 := valid_bd h2
  refine ⟨(kLen n).toNat, by omega, ?_, by rw [Int.toNat_of_nonneg (by omega)]; exact h2, by omega, by omega⟩
  unfold kLen at *
  omega
set_option maxRecDepth 100000 in
theorem bits_mod (A : Option Addr) (n c : Nat) (w : World) (hm : n % 3 ≠ 0) (hn : (n : Int) ≤ 9223372036854775807) :
    Calls Try.prog 22 #[.slice A n c] w fun e w' => e = .returned (.tuple #[.slice none 0 0, .int .i64 2]) ∧ Below w.heap.size w w' := by
  have h1 : ((n : Int) % 3 != 0) = true := bne_t (by omega)
  go_enter Try.func22, Try.ntmps22
  go_wp2
  go_ret2
  exact ⟨rfl, Below.refl _ _⟩
set_option maxRecDepth 100000 in
theorem bits_len (A : Option Addr) (n c : Nat) (w : World) (hm : n % 3 = 0) (hv : validK (kLen n) = false) (hn : (n : Int) ≤ 9223372036854775807) :
    Calls Try.prog 22 #[.slice A n c] w fun e w' => e = .returned (.tuple #[.slice none 0 0, .int .i64 2]) ∧ Below w.heap.size w w' := by
  have h1 : ((n : Int) % 3 != 0) = false := bne_f (by omega)
  have hc := fun W => Lib.hid (valid_any (kLen n) W)
  rw [hv] at hc
  unfold kLen at hc
  go_enter Try.func22, Try.ntmps22
  go_wp2_with (go_at_call 27; refine (hc _).out.mono ?_; rintro e w1 ⟨rfl, hB⟩)
  go_ret2
  exact ⟨rfl, hB⟩
set_option maxRecDepth 100000 in
theorem bits_bit (A : Option Addr) (n c : Nat) (xs : List Int) (w : World) (h : Rd .u8 w A n c xs) (hg : goodLen n) (hb : ValidB xs = false) :
    Calls Try.prog 22 #[.slice A n c] w fun e w' => e = .returned (.tuple #[.slice none 0 0, .int .i64 3]) ∧ Below w.heap.size w w' := by
  have hbd := h.bd.1
  have h1 : ((n : Int) % 3 != 0) = false := bne_f (by have := hg.1; omega)
  have hc := fun W => Lib.hid (valid_any (kLen n) W)
  rw [hg.2] at hc
  unfold kLen at hc
  have HH := Lib.hid h
  have hq := fun W h => Lib.hid (contains_any2 A n c xs W h)
  rw [hb] at hq
  clear h hg
  go_enter Try.func22, Try.ntmps22
  go_wp2_with (first
    | (go_at_call 27; refine (hc _).out.mono ?_; rintro e w1 ⟨rfl, hB⟩)
    | (go_at_call 42; refine (hq _ (Rdv.below HH.out hB)).out.mono ?_; rintro e w2 ⟨rfl, rfl⟩))
  go_ret2
  exact ⟨rfl, hB⟩
set_option maxRecDepth 100000 in
theorem bits_ok (A : Option Addr) (n c k : Nat) (xs : List Int) (w : World) (h : Rd .u8 w A n c xs) (hk : n = 3 * (k + 4)) (hv : validK (k : Int) = true) (hb : ValidB xs = true) :
    Calls Try.prog 22 #[.slice A n c] w fun e w' => ∃ A' c', e = .returned (.tuple #[.slice A' k c', .int .i64 0]) ∧ Own .u8 5 w' w.heap.size A' k c' (xs.take k) ∧ Below w.heap.size w w' := by
  have hbd := h.bd.1
  obtain ⟨k0, k1⟩ := valid_len hv
  have hle := h.le
  have hkn : k ≤ n := by omega
  have h1 : ((n : Int) % 3 != 0) = false := bne_f (by omega)
  have h3 : (n : Int) / 3 - 4 = (k : Int) := by omega
  have hc := fun W => Lib.hid (valid_any (k : Int) W)
  rw [hv] at hc
  have HH := Lib.hid h
  have hq := fun W h => Lib.hid (contains_any2 A n c xs W h)
  rw [hb] at hq
  have hsl := fun W => Rdv.slh h el22 .i64 (m := k) (by omega) W
  clear h hk
  go_enter Try.func22, Try.ntmps22
  go_wp2_with (first
    | (go_at_call 27; refine (hc _).out.mono ?_; rintro e w1 ⟨rfl, hB⟩)
    | (go_at_call 42; refine (hq _ (Rdv.below HH.out hB)).out.mono ?_; rintro e w2 ⟨rfl, rfl⟩)
    | (go_at_call 44; refine (clone_any A k c (xs.take k) _ (Rd.upto (Rdv.below HH.out hB) hkn) (by omega)).mono ?_; rintro e w3 ⟨A3, c3, rfl, hO3, hB3⟩))
  go_ret2
  exact ⟨A3, c3, rfl, Ownv.mono hO3 hB.size, hB.trans (hB3.mono hB.size)⟩
/-- bytes that are bits -/
def toB (xs : List Int) : List Bool := xs.map fun x => decide (x = 1)
theorem toB_ib (xs : List Int) (h0 : ∀ x ∈ xs, 0 ≤ x) (hv : ValidB xs = true) : (toB xs).map ib = xs := by
  unfold toB
  rw [List.map_map]
  have h1 : ∀ x ∈ xs, (ib ∘ fun x => decide (x = 1)) x = x := by
    intro x hx
    have h2 := List.all_eq_true.1 hv x hx
    have h3 := h0 x hx
    simp only [decide_eq_true_eq] at h2
    simp only [Function.comp, ib]
    by_cases e : x = 1
    · simp [e]
    · rw [if_neg (by simpa using e)]; omega
  rw [List.map_congr_left h1, List.map_id']
theorem ib_inj : ∀ {x y : List Bool}, x.map ib = y.map ib → x = y := by
  intro x y h
  refine (List.map_inj_right (f := ib) ?_).1 h
  intro a b; cases a <;> cases b <;> decide
theorem check_len (A : Option Addr) (n c : Nat) (w : World) (hg : ¬ goodLen n) (hn : (n : Int) ≤ 9223372036854775807) :
    Calls Try.prog 24 #[.slice A n c] w fun e w' => e = .returned (.int .i64 2) ∧ Below w.heap.size w w' := by
  have hq : ∀ W, Hid (Calls Try.prog 22 #[.slice A n c] W fun e w' => e = .returned (.tuple #[.slice none 0 0, .int .i64 2]) ∧ Below W.heap.size W w') := fun W => Lib.hid (by
    by_cases hm : n % 3 = 0
    · exact bits_len A n c W hm (by
        by_cases hv : validK (kLen n) = true
        · exact absurd ⟨hm, hv⟩ hg
        · simpa using hv) hn
    · exact bits_mod A n c W hm hn)
  clear hg
  go_enter Try.func24, Try.ntmps24
  go_wp2_with (go_at_call 22; refine (hq _).out.mono ?_; rintro e w1 ⟨rfl, hB⟩)
  go_ret
  exact ⟨rfl, hB⟩
theorem check_bit (A : Option Addr) (n c : Nat) (xs : List Int) (w : World) (h : Rd .u8 w A n c xs) (hg : goodLen n) (hb : ValidB xs = false) :
    Calls Try.prog 24 #[.slice A n c] w fun e w' => e = .returned (.int .i64 3) ∧ Below w.heap.size w w' := by
  have hq := fun W h => Lib.hid (bits_bit A n c xs W h hg hb)
  clear hg
  go_enter Try.func24, Try.ntmps24
  go_wp2_with (go_at_call 22; refine (hq _ h).out.mono ?_; rintro e w1 ⟨rfl, hB⟩)
  go_ret
  exact ⟨rfl, hB⟩
def chkE (n : Nat) (bs : List Bool) : Int := if wordI (bs.take (n / 3 - 4)) = bs.map ib then 0 else 11
theorem check_ok (A : Option Addr) (n c : Nat) (bs : List Bool) (w : World) (h : Rd .u8 w A n c (bs.map ib)) (hg : goodLen n) :
    Calls Try.prog 24 #[.slice A n c] w fun e w' => e = .returned (.int .i64 (chkE n bs)) ∧ Below w.heap.size w w' := by
  obtain ⟨k, -, hk, hv, k0, k1⟩ := goodLen_bd hg
  have e1 : n / 3 - 4 = k := by omega
  have hq := fun W h => Lib.hid (bits_ok A n c k (bs.map ib) W h hk hv (valid_ib bs))
  have hl : bs.length = n := by have := h.len; simpa using this
  have HH := Lib.hid h
  have e2 : (bs.map ib).take k = (bs.take k).map ib := by rw [List.map_take]
  rw [e2] at hq
  by_cases hw : wordI (bs.take k) = bs.map ib
  · have e3 : chkE n bs = 0 := by unfold chkE; rw [e1, if_pos hw]
    rw [e3]
    have hd : decide (wordI (bs.take k) = bs.map ib) = true := by simpa using hw
    clear hg h e1 e2 e3 hl hw hk
    go_enter Try.func24, Try.ntmps24
    go_wp2_with (first
      | (go_at_call 22; refine (hq _ HH.out).out.mono ?_; rintro e w1 ⟨A1, c1, rfl, hO1, hB1⟩)
      | (go_at_call 11; refine (enc_any A1 k c1 (bs.take k) _ (Own.rd hO1) hv).mono ?_; rintro e w2 ⟨A2, c2, rfl, hO2, hB2⟩)
      | (go_at_call 45; refine (equal_any A2 A (3 * (k + 4)) c2 n c (wordI (bs.take k)) (bs.map ib) _ (Own.rd hO2) (Rdv.below (Rdv.below HH.out hB1) hB2)).mono ?_; rintro e w3 ⟨rfl, hQ3⟩; rw [hd]))
    go_ret
    exact ⟨rfl, (hB1.trans (hB2.mono hB1.size)).trans (hQ3.below _)⟩
  · have e3 : chkE n bs = 11 := by unfold chkE; rw [e1, if_neg hw]
    rw [e3]
    have hd : decide (wordI (bs.take k) = bs.map ib) = false := by simpa using hw
    clear hg h e1 e2 e3 hl hw hk
    go_enter Try.func24, Try.ntmps24
    go_wp2_with (first
      | (go_at_call 22; refine (hq _ HH.out).out.mono ?_; rintro e w1 ⟨A1, c1, rfl, hO1, hB1⟩)
      | (go_at_call 11; refine (enc_any A1 k c1 (bs.take k) _ (Own.rd hO1) hv).mono ?_; rintro e w2 ⟨A2, c2, rfl, hO2, hB2⟩)
      | (go_at_call 45; refine (equal_any A2 A (3 * (k + 4)) c2 n c (wordI (bs.take k)) (bs.map ib) _ (Own.rd hO2) (Rdv.below (Rdv.below HH.out hB1) hB2)).mono ?_; rintro e w3 ⟨rfl, hQ3⟩; rw [hd]))
    go_ret
    exact ⟨rfl, (hB1.trans (hB2.mono hB1.size)).trans (hQ3.below _)⟩
end Go.Proofs.Ytkagdiejpcfggaa
