/-
  The contracts of the turbo functions and of their reference, each for all its inputs in one form. Condition: a bound on the length.
-/
import Derived.Test.YtkagdiejpcfggaaZh
namespace Go.Proofs.Ytkagdiejpcfggaa
open Go.RowKit
set_option linter.unusedVariables false
def encE (xs : List Int) : Int := if validK (xs.length : Int) = true then (if ValidB xs = true then 0 else 3) else 2
def encW (xs : List Int) : List Int := if validK (xs.length : Int) = true then (if ValidB xs = true then wordI (toB xs) else []) else []
theorem wordI_len (bs : List Bool) : (wordI bs).length = 3 * (bs.length + 4) := by
  unfold wordI
  rw [List.length_map, wordB_len _ _ (mixB_len bs)]
theorem enc_all (A : Option Addr) (n c : Nat) (xs : List Int) (w : World) (h : Rd .u8 w A n c xs) (h0 : ∀ x ∈ xs, 0 ≤ x) :
    Calls Try.prog 11 #[.slice A n c] w fun e w' => ∃ A' m c', e = .returned (.tuple #[.slice A' m c', .int .i64 (encE xs)]) ∧ Own .u8 5 w' w.heap.size A' m c' (encW xs) ∧ Below w.heap.size w w' := by
  have hl := h.len
  by_cases hv : validK (n : Int) = true
  · by_cases hb : ValidB xs = true
    · have e1 : encE xs = 0 := by unfold encE; rw [hl, if_pos hv, if_pos hb]
      have e2 : encW xs = wordI (toB xs) := by unfold encW; rw [hl, if_pos hv, if_pos hb]
      rw [e1, e2]
      have ht := toB_ib xs h0 hb
      refine (enc_any A n c (toB xs) w (by rw [ht]; exact h) hv).mono ?_
      rintro e w' ⟨A', c', rfl, hO, hB⟩
      exact ⟨A', _, c', rfl, hO, hB⟩
    · have e1 : encE xs = 3 := by unfold encE; rw [hl, if_pos hv, if_neg hb]
      have e2 : encW xs = [] := by unfold encW; rw [hl, if_pos hv, if_neg hb]
      rw [e1, e2]
      refine (enc_badbit A n c xs w h hv (by simpa using hb)).mono ?_
      rintro e w' ⟨rfl, hB⟩
      exact ⟨none, 0, 0, rfl, Own.nilv _ _ _ _, hB⟩
  · have e1 : encE xs = 2 := by unfold encE; rw [hl, if_neg hv]
    have e2 : encW xs = [] := by unfold encW; rw [hl, if_neg hv]
    rw [e1, e2]
    refine (enc_badlen A n c w (by simpa using hv) (by have := h.bd.1; omega)).mono ?_
    rintro e w' ⟨rfl, hB⟩
    exact ⟨none, 0, 0, rfl, Own.nilv _ _ _ _, hB⟩
theorem renc_all (A : Option Addr) (n c : Nat) (xs : List Int) (w : World) (h : Rd .u8 w A n c xs) (h0 : ∀ x ∈ xs, 0 ≤ x) :
    Calls Try.prog 12 #[.slice A n c] w fun e w' => ∃ A' m c', e = .returned (.tuple #[.slice A' m c', .int .i64 (encE xs)]) ∧ Own .u8 5 w' w.heap.size A' m c' (encW xs) ∧ Below w.heap.size w w' := by
  have hl := h.len
  by_cases hv : validK (n : Int) = true
  · by_cases hb : ValidB xs = true
    · have e1 : encE xs = 0 := by unfold encE; rw [hl, if_pos hv, if_pos hb]
      have e2 : encW xs = wordI (toB xs) := by unfold encW; rw [hl, if_pos hv, if_pos hb]
      rw [e1, e2]
      have ht := toB_ib xs h0 hb
      refine (renc_any A n c (toB xs) w (by rw [ht]; exact h) hv).mono ?_
      rintro e w' ⟨A', c', rfl, hO, hB⟩
      exact ⟨A', _, c', rfl, hO, hB⟩
    · have e1 : encE xs = 3 := by unfold encE; rw [hl, if_pos hv, if_neg hb]
      have e2 : encW xs = [] := by unfold encW; rw [hl, if_pos hv, if_neg hb]
      rw [e1, e2]
      refine (renc_bit A n c xs w h h0 hv (by simpa using hb)).mono ?_
      rintro e w' ⟨rfl, hB⟩
      exact ⟨none, 0, 0, rfl, Own.nilv _ _ _ _, hB⟩
  · have e1 : encE xs = 2 := by unfold encE; rw [hl, if_neg hv]
    have e2 : encW xs = [] := by unfold encW; rw [hl, if_neg hv]
    rw [e1, e2]
    refine (renc_len A n c w (by simpa using hv)).mono ?_
    rintro e w' ⟨rfl, hB⟩
    exact ⟨none, 0, 0, rfl, Own.nilv _ _ _ _, hB⟩
theorem encW_wf (xs : List Int) : ∀ x ∈ encW xs, 0 ≤ x ∧ x < 256 := by
  unfold encW
  split
  · split
    · exact wordI_wf _
    · intro x hx; cases hx
  · intro x hx; cases hx
open Classical in
noncomputable def bitE (xs : List Int) : Int := if goodLen xs.length then (if ValidB xs = true then 0 else 3) else 2
open Classical in
noncomputable def bitW (xs : List Int) : List Int := if goodLen xs.length then (if ValidB xs = true then xs.take (xs.length / 3 - 4) else []) else []
open Classical in
noncomputable def chkA (xs : List Int) : Int := if goodLen xs.length then (if ValidB xs = true then chkE xs.length (toB xs) else 3) else 2
theorem bits_all (A : Option Addr) (n c : Nat) (xs : List Int) (w : World) (h : Rd .u8 w A n c xs) :
    Calls Try.prog 22 #[.slice A n c] w fun e w' => ∃ A' m c', e = .returned (.tuple #[.slice A' m c', .int .i64 (bitE xs)]) ∧ Own .u8 5 w' w.heap.size A' m c' (bitW xs) ∧ Below w.heap.size w w' := by
  have hl := h.len
  have hbd := h.bd.1
  by_cases hg : goodLen n
  · by_cases hb : ValidB xs = true
    · have e1 : bitE xs = 0 := by unfold bitE; rw [hl, if_pos hg, if_pos hb]
      have e2 : bitW xs = xs.take (n / 3 - 4) := by unfold bitW; rw [hl, if_pos hg, if_pos hb]
      rw [e1, e2]
      obtain ⟨k, -, hk, hv, -, -⟩ := goodLen_bd hg
      have e3 : n / 3 - 4 = k := by omega
      rw [e3]
      refine (bits_ok A n c k xs w h hk hv hb).mono ?_
      rintro e w' ⟨A', c', rfl, hO, hB⟩
      exact ⟨A', _, c', rfl, hO, hB⟩
    · have e1 : bitE xs = 3 := by unfold bitE; rw [hl, if_pos hg, if_neg hb]
      have e2 : bitW xs = [] := by unfold bitW; rw [hl, if_pos hg, if_neg hb]
      rw [e1, e2]
      refine (bits_bit A n c xs w h hg (by simpa using hb)).mono ?_
      rintro e w' ⟨rfl, hB⟩
      exact ⟨none, 0, 0, rfl, Own.nilv _ _ _ _, hB⟩
  · have e1 : bitE xs = 2 := by unfold bitE; rw [hl, if_neg hg]
    have e2 : bitW xs = [] := by unfold bitW; rw [hl, if_neg hg]
    rw [e1, e2]
    by_cases hm : n % 3 = 0
    · have hv : validK (kLen n) = false := by
        by_cases hv : validK (kLen n) = true
        · exact absurd ⟨hm, hv⟩ hg
        · simpa using hv
      refine (bits_len A n c w hm hv (by omega)).mono ?_
      rintro e w' ⟨rfl, hB⟩
      exact ⟨none, 0, 0, rfl, Own.nilv _ _ _ _, hB⟩
    · refine (bits_mod A n c w hm (by omega)).mono ?_
      rintro e w' ⟨rfl, hB⟩
      exact ⟨none, 0, 0, rfl, Own.nilv _ _ _ _, hB⟩
theorem rbits_all (A : Option Addr) (n c : Nat) (xs : List Int) (w : World) (h : Rd .u8 w A n c xs) :
    Calls Try.prog 23 #[.slice A n c] w fun e w' => ∃ A' m c', e = .returned (.tuple #[.slice A' m c', .int .i64 (bitE xs)]) ∧ Own .u8 5 w' w.heap.size A' m c' (bitW xs) ∧ Below w.heap.size w w' := by
  have hl := h.len
  have hbd := h.bd.1
  by_cases hg : goodLen n
  · obtain ⟨k, -, hk, hv, -, -⟩ := goodLen_bd hg
    by_cases hb : ValidB xs = true
    · have e1 : bitE xs = 0 := by unfold bitE; rw [hl, if_pos hg, if_pos hb]
      have e2 : bitW xs = xs.take (n / 3 - 4) := by unfold bitW; rw [hl, if_pos hg, if_pos hb]
      rw [e1, e2]
      have e3 : n / 3 - 4 = k := by omega
      rw [e3]
      refine (rbits_any A n c k xs w h hk hv).mono ?_
      rintro e w' ⟨hB, -, h2⟩
      obtain ⟨A', c', rfl, hO⟩ := h2 hb
      exact ⟨A', _, c', rfl, hO, hB⟩
    · have e1 : bitE xs = 3 := by unfold bitE; rw [hl, if_pos hg, if_neg hb]
      have e2 : bitW xs = [] := by unfold bitW; rw [hl, if_pos hg, if_neg hb]
      rw [e1, e2]
      refine (rbits_any A n c k xs w h hk hv).mono ?_
      rintro e w' ⟨hB, h1, -⟩
      obtain rfl := h1 (by simpa using hb)
      exact ⟨none, 0, 0, rfl, Own.nilv _ _ _ _, hB⟩
  · have e1 : bitE xs = 2 := by unfold bitE; rw [hl, if_neg hg]
    have e2 : bitW xs = [] := by unfold bitW; rw [hl, if_neg hg]
    rw [e1, e2]
    refine (rbits_bad A n c w hg (by omega)).mono ?_
    rintro e w' ⟨rfl, hB⟩
    exact ⟨none, 0, 0, rfl, Own.nilv _ _ _ _, hB⟩
theorem check_all (A : Option Addr) (n c : Nat) (xs : List Int) (w : World) (h : Rd .u8 w A n c xs) (h0 : ∀ x ∈ xs, 0 ≤ x) :
    Calls Try.prog 24 #[.slice A n c] w fun e w' => e = .returned (.int .i64 (chkA xs)) ∧ Below w.heap.size w w' := by
  have hl := h.len
  have hbd := h.bd.1
  by_cases hg : goodLen n
  · by_cases hb : ValidB xs = true
    · have e1 : chkA xs = chkE n (toB xs) := by unfold chkA; rw [hl, if_pos hg, if_pos hb]
      rw [e1]
      exact check_ok A n c (toB xs) w (by rw [toB_ib xs h0 hb]; exact h) hg
    · have e1 : chkA xs = 3 := by unfold chkA; rw [hl, if_pos hg, if_neg hb]
      rw [e1]
      exact check_bit A n c xs w h hg (by simpa using hb)
  · have e1 : chkA xs = 2 := by unfold chkA; rw [hl, if_neg hg]
    rw [e1]
    exact check_len A n c w hg (by omega)
theorem rcheck_all (A : Option Addr) (n c : Nat) (xs : List Int) (w : World) (h : Rd .u8 w A n c xs) (h0 : ∀ x ∈ xs, 0 ≤ x) :
    Calls Try.prog 25 #[.slice A n c] w fun e w' => e = .returned (.int .i64 (chkA xs)) ∧ Below w.heap.size w w' := by
  have hl := h.len
  have hbd := h.bd.1
  by_cases hg : goodLen n
  · by_cases hb : ValidB xs = true
    · have e1 : chkA xs = chkE n (toB xs) := by unfold chkA; rw [hl, if_pos hg, if_pos hb]
      rw [e1]
      exact rcheck_ok A n c (toB xs) w (by rw [toB_ib xs h0 hb]; exact h) hg
    · have e1 : chkA xs = 3 := by unfold chkA; rw [hl, if_pos hg, if_neg hb]
      rw [e1]
      exact rcheck_bit A n c xs w h hg (by simpa using hb)
  · have e1 : chkA xs = 2 := by unfold chkA; rw [hl, if_neg hg]
    rw [e1]
    exact rcheck_len A n c w hg (by omega)
theorem bitW_wf (xs : List Int) (h : ∀ x ∈ xs, 0 ≤ x ∧ x < 256) : ∀ x ∈ bitW xs, 0 ≤ x ∧ x < 256 := by
  unfold bitW
  split
  · split
    · exact fun x hx => h x (List.mem_of_mem_take hx)
    · intro x hx; cases hx
  · intro x hx; cases hx
theorem bnext2 {w w1 w2 : World} (h : Below w.heap.size w w1) (h2 : Below w1.heap.size w1 w2) : Below w.heap.size w w2 := h.trans (h2.mono h.size)
theorem wf_u8 {xs : List Int} (h : ∀ x ∈ xs, (Lit.int .u8 x).wf = true) : ∀ x ∈ xs, 0 ≤ x ∧ x < 256 := fun x hx => by
  have := bounds_u8 (h x hx); omega
end Go.Proofs.Ytkagdiejpcfggaa
