/-
  Bundle of the texts TuW TuZb TuZi TuZj TuZk TuZl TuZm TuEi. Conditions: none.
-/
import Derived.Test.YtpdalbckmfadbaaBunao
import Derived.Test.YtpdalbckmfadbaaBunar
import Derived.Test.YtpdalbckmfadbaaBunam
namespace Go.Proofs.Ytpdalbckmfadbaa.Tu
open Go.RowKit
set_option linter.unusedVariables false
def kLen (n : Nat) : Int := (n : Int) / 3 - 4
def goodLen (n : Nat) : Prop := n % 3 = 0 ∧ validK (kLen n) = true
theorem goodLen_bd {n : Nat} (h : goodLen n) : ∃ k : Nat, kLen n = k ∧ n = 3 * (k + 4) ∧ validK (k : Int) = true ∧ 40 ≤ k ∧ k ≤ 6144 := by
  obtain ⟨h1, h2⟩ := h
  have h3 := valid_bd h2
  refine ⟨(kLen n).toNat, by omega, ?_, by rw [Int.toNat_of_nonneg (by omega)]; exact h2, by omega, by omega⟩
  unfold kLen at *
  omega
/-- bytes that are bits -/
def toB (xs : List Int) : List Bool := xs.map fun x => decide (x = 1)
theorem toB_ib (xs : List Int) (h0 : ∀ x ∈ xs, 0 ≤ x) (hv : ValidB xs = true) : (toB xs).map ib = xs := by
  unfold toB
  rw [List.map_map]
  have h1 : ∀ x ∈ xs, (ib ∘ fun x => decide (x = 1)) x = x := by
    intro x hx
    have h2 := List.all_eq_true.1 hv x hx
    have h3 := h0 x hx
    simp only [decide_eq_true_eq] at h2
    simp only [Function.comp, ib]
    by_cases e : x = 1
    · simp [e]
    · rw [if_neg (by simpa using e)]; omega
  rw [List.map_congr_left h1, List.map_id']
theorem ib_inj : ∀ {x y : List Bool}, x.map ib = y.map ib → x = y := by
  intro x y h
  refine (List.map_inj_right (f := ib) ?_).1 h
  intro a b; cases a <;> cases b <;> decide
def chkE (n : Nat) (bs : List Bool) : Int := if wordI (bs.take (n / 3 - 4)) = bs.map ib then 0 else 11
end Go.Proofs.Ytpdalbckmfadbaa.Tu

namespace Go.Proofs.Ytpdalbckmfadbaa.Tu
open Go.RowKit
set_option linter.unusedVariables false
theorem strNe {xs ys : List Int} (hx : ∀ x ∈ xs, 0 ≤ x ∧ x < 256) (hy : ∀ x ∈ ys, 0 ≤ x ∧ x < 256) : ((strOfNums xs).toList != (strOfNums ys).toList) = !decide (xs = ys) := by
  rw [← strEq hx hy]; rfl
theorem wordI_wf (bs : List Bool) : ∀ x ∈ wordI bs, 0 ≤ x ∧ x < 256 := ib_wf _
def wordC (bs : List Bool) : List Bool := bs ++ parL s0 bs ++ [tu (fin bs) 0, tu (fin bs) 1, tu (fin bs) 2] ++ [tz (fin bs) 0, tz (fin bs) 1, tz (fin bs) 2]
end Go.Proofs.Ytpdalbckmfadbaa.Tu

namespace Go.Proofs.Ytpdalbckmfadbaa.Tu
open Go.RowKit
set_option linter.unusedVariables false
def encE (xs : List Int) : Int := if validK (xs.length : Int) = true then (if ValidB xs = true then 0 else 3) else 2
def encW (xs : List Int) : List Int := if validK (xs.length : Int) = true then (if ValidB xs = true then wordI (toB xs) else []) else []
theorem wordI_len (bs : List Bool) : (wordI bs).length = 3 * (bs.length + 4) := by
  unfold wordI
  rw [List.length_map, wordB_len _ _ (mixB_len bs)]
theorem enc_all (A : Option Addr) (n c : Nat) (xs : List Int) (w : World) (h : Rd .u8 w A n c xs) (h0 : ∀ x ∈ xs, 0 ≤ x) :
    Calls Try.prog 23 #[.slice A n c] w fun e w' => ∃ A' m c', e = .returned (.tuple #[.slice A' m c', .int .i64 (encE xs)]) ∧ Own .u8 5 w' w.heap.size A' m c' (encW xs) ∧ Below w.heap.size w w' := by
  have hl := h.len
  by_cases hv : validK (n : Int) = true
  · by_cases hb : ValidB xs = true
    · have e1 : encE xs = 0 := by unfold encE; rw [hl, if_pos hv, if_pos hb]
      have e2 : encW xs = wordI (toB xs) := by unfold encW; rw [hl, if_pos hv, if_pos hb]
      rw [e1, e2]
      have ht := toB_ib xs h0 hb
      refine (enc_any A n c (toB xs) w (by rw [ht]; exact h) hv).mono ?_
      rintro e w' ⟨A', c', rfl, hO, hB⟩
      exact ⟨A', _, c', rfl, hO, hB⟩
    · have e1 : encE xs = 3 := by unfold encE; rw [hl, if_pos hv, if_neg hb]
      have e2 : encW xs = [] := by unfold encW; rw [hl, if_pos hv, if_neg hb]
      rw [e1, e2]
      refine (enc_badbit A n c xs w h hv (by simpa using hb)).mono ?_
      rintro e w' ⟨rfl, hB⟩
      exact ⟨none, 0, 0, rfl, Own.nilv _ _ _ _, hB⟩
  · have e1 : encE xs = 2 := by unfold encE; rw [hl, if_neg hv]
    have e2 : encW xs = [] := by unfold encW; rw [hl, if_neg hv]
    rw [e1, e2]
    refine (enc_badlen A n c w (by simpa using hv) (by have := h.bd.1; omega)).mono ?_
    rintro e w' ⟨rfl, hB⟩
    exact ⟨none, 0, 0, rfl, Own.nilv _ _ _ _, hB⟩
theorem encW_wf (xs : List Int) : ∀ x ∈ encW xs, 0 ≤ x ∧ x < 256 := by
  unfold encW
  split
  · split
    · exact wordI_wf _
    · intro x hx; cases hx
  · intro x hx; cases hx
open Classical in
noncomputable def bitE (xs : List Int) : Int := if goodLen xs.length then (if ValidB xs = true then 0 else 3) else 2
open Classical in
noncomputable def bitW (xs : List Int) : List Int := if goodLen xs.length then (if ValidB xs = true then xs.take (xs.length / 3 - 4) else []) else []
open Classical in
noncomputable def chkA (xs : List Int) : Int := if goodLen xs.length then (if ValidB xs = true then chkE xs.length (toB xs) else 3) else 2
theorem bitW_wf (xs : List Int) (h : ∀ x ∈ xs, 0 ≤ x ∧ x < 256) : ∀ x ∈ bitW xs, 0 ≤ x ∧ x < 256 := by
  unfold bitW
  split
  · split
    · exact fun x hx => h x (List.mem_of_mem_take hx)
    · intro x hx; cases hx
  · intro x hx; cases hx
theorem bnext2 {w w1 w2 : World} (h : Below w.heap.size w w1) (h2 : Below w1.heap.size w1 w2) : Below w.heap.size w w2 := h.trans (h2.mono h.size)
theorem wf_u8 {xs : List Int} (h : ∀ x ∈ xs, (Lit.int .u8 x).wf = true) : ∀ x ∈ xs, 0 ≤ x ∧ x < 256 := fun x hx => by
  have := bounds_u8 (h x hx); omega
end Go.Proofs.Ytpdalbckmfadbaa.Tu

namespace Go.Proofs.Ytpdalbckmfadbaa.Tu
open Go.RowKit
set_option linter.unusedVariables false
theorem xor_ib8 (a b : Bool) : bits .xor .u8 (ib a) (ib b) = ib (a ^^ b) := by cases a <;> cases b <;> decide
theorem szK_valid (u : Nat) : validK (szK u : Int) = true := by
  unfold validK szK
  simp only [decide_eq_true_eq]
  left
  omega
theorem szK_bd (u : Nat) : 40 ≤ szK u ∧ szK u ≤ 512 := by unfold szK; omega
theorem xorL_get (x y : List Bool) (h : x.length = y.length) (q : Nat) (hq : q < x.length) : (xorL x y)[q]'(by rw [xorL_len _ _ h]; exact hq) = (x[q] ^^ y[q]'(by omega)) := by
  simp [xorL]
theorem mixB_xor (x y : List Bool) (h : x.length = y.length) : mixB (xorL x y) = xorL (mixB x) (mixB y) := by
  refine List.ext_getElem (by rw [mixB_len, xorL_len _ _ h, xorL_len _ _ (by rw [mixB_len, mixB_len, h]), mixB_len]) fun q h1 h2 => ?_
  rw [xorL_get _ _ (by rw [mixB_len, mixB_len, h]) q (by rw [mixB_len, xorL_len _ _ h] at h1; rw [mixB_len]; exact h1)]
  simp only [mixB, List.getElem_map, List.getElem_range]
  rw [xorL_len _ _ h, h]
  have a1 : ∀ l : List Bool, l.getD (piN y.length q) false = if hp : piN y.length q < l.length then l[piN y.length q]'hp else false := fun l => by
    by_cases hp : piN y.length q < l.length
    · rw [dif_pos hp, List.getD_eq_getElem?_getD, List.getElem?_eq_getElem hp]; rfl
    · rw [dif_neg hp, List.getD_eq_getElem?_getD, List.getElem?_eq_none (by omega)]; rfl
  rw [a1, a1, a1]
  by_cases hp : piN y.length q < y.length
  · rw [dif_pos hp, dif_pos (by rw [xorL_len _ _ h, h]; exact hp), dif_pos (by rw [h]; exact hp), xorL_get _ _ h _ (by rw [h]; exact hp)]
  · rw [dif_neg hp, dif_neg (by rw [xorL_len _ _ h, h]; exact hp), dif_neg (by rw [h]; exact hp)]
    rfl
theorem wordI_xor (x y : List Bool) (h : x.length = y.length) : wordI (xorL x y) = (xorL (wordB x (mixB x)) (wordB y (mixB y))).map ib := by
  unfold wordI
  rw [mixB_xor _ _ h, wordB_xor _ _ _ _ h (by rw [mixB_len, mixB_len, h])]
theorem gi_bits (x : List Bool) (q : Nat) (hq : q < x.length) : ∃ p, x[q]'hq = p ∧ gi (x.map ib) q = ib p := ⟨_, rfl, gi_ib _ _ hq⟩
theorem ib_ne (a b : Bool) : (ib a != ib b) = (a ^^ b) := by cases a <;> cases b <;> decide
def XorInv (w : World) (z : List Bool) (k : Nat) (M : Option Addr) (i : Value) (wr : World) : Prop :=
  ∃ (j : Nat) (vs : List Int), j ≤ k ∧ i = .int .i64 j ∧ Own .u8 5 wr w.heap.size M k k vs ∧ (∀ q, q < j → gi vs q = gi (z.map ib) q) ∧ Below w.heap.size w wr
end Go.Proofs.Ytpdalbckmfadbaa.Tu

namespace Go.Proofs.Ytpdalbckmfadbaa.Tu
open Go.RowKit
set_option linter.unusedVariables false
def orM (k : Nat) : Nat → Nat
  | 0 => 0
  | i + 1 => orM k i ||| (1 <<< piN k i)
set_option maxRecDepth 100000 in
theorem orM_all : (List.range 60).all (fun u => orM (40 + 8 * u) (40 + 8 * u) == 2 ^ (40 + 8 * u) - 1) = true := by decide +kernel
theorem orM_mem (k : Nat) : ∀ n t, (orM k n).testBit t = true → ∃ i, i < n ∧ piN k i = t
  | 0, t, h => by rw [orM, Nat.zero_testBit] at h; cases h
  | n + 1, t, h => by
    rw [orM, Nat.testBit_or, Bool.or_eq_true] at h
    rcases h with h | h
    · obtain ⟨i, hi, e⟩ := orM_mem k n t h
      exact ⟨i, by omega, e⟩
    · refine ⟨n, by omega, ?_⟩
      rw [Nat.one_shiftLeft, Nat.testBit_two_pow] at h
      simpa using h
theorem pi_onto (u t : Nat) (h : t < szK u) : ∃ i, i < szK u ∧ piN (szK u) i = t := by
  have hc := List.all_eq_true.1 orM_all (u % 60) (List.mem_range.2 (Nat.mod_lt _ (by omega)))
  have hc : orM (szK u) (szK u) = 2 ^ szK u - 1 := by simpa [szK] using hc
  exact orM_mem _ _ _ (by rw [hc, Nat.testBit_two_pow_sub_one]; simpa using h)
theorem all_once : ∀ (k : Nat) (l : List Nat), l.length = k → (∀ t, t < k → t ∈ l) → (∀ x ∈ l, x < k) ∧ ∀ t, t < k → l.count t = 1
  | 0, l, hl, _ => by
    obtain rfl := List.eq_nil_of_length_eq_zero hl
    exact ⟨by simp, by intro t ht; omega⟩
  | k + 1, l, hl, h => by
    have hm := h k (by omega)
    have hp := List.perm_cons_erase hm
    obtain ⟨h1, h2⟩ := all_once k (l.erase k) (by rw [List.length_erase_of_mem hm]; omega) (fun t ht => (List.mem_erase_of_ne (by omega)).2 (h t (by omega)))
    refine ⟨fun x hx => ?_, fun t ht => ?_⟩
    · rcases List.mem_cons.1 (hp.mem_iff.1 hx) with e | e
      · omega
      · have := h1 x e; omega
    · rw [hp.count_eq, List.count_cons]
      by_cases e : t = k
      · subst e
        rw [if_pos (by simp), List.count_eq_zero.2 (fun hh => by have := h1 _ hh; omega)]
      · rw [if_neg (by simp; omega), h2 t (by omega)]
theorem count_ints (l : List Nat) (t : Nat) : (l.map fun i : Nat => (i : Int)).count (t : Int) = l.count t := by
  induction l with
  | nil => rfl
  | cons a l ih =>
    rw [List.map_cons, List.count_cons, List.count_cons, ih]
    congr 1
    by_cases e : a = t
    · subst e; simp
    · rw [if_neg (fun hh => e (by have := eq_of_beq hh; omega)), if_neg (by simpa using e)]
theorem perm_map {k u : Nat} (hk : k = szK u) : (∀ i, i < k → piN k i < k) ∧ ∀ t, t < k → ((List.range k).map (piN k)).count t = 1 := by
  subst hk
  obtain ⟨h1, h2⟩ := all_once (szK u) ((List.range (szK u)).map (piN (szK u))) (by simp) (fun t ht => by
    obtain ⟨i, hi, e⟩ := pi_onto u t ht
    exact List.mem_map.2 ⟨i, List.mem_range.2 hi, e⟩)
  exact ⟨fun i hi => h1 _ (List.mem_map.2 ⟨i, List.mem_range.2 hi, rfl⟩), h2⟩
theorem range_cnt : ∀ (k t : Nat), (List.range k).count t = if t < k then 1 else 0
  | 0, t => by simp
  | k + 1, t => by
    rw [List.range_succ, List.count_append, range_cnt k t, List.count_cons, List.count_nil]
    by_cases e : k = t
    · subst e; simp
    · rw [if_neg (show ¬ (k == t) = true by simpa using e)]
      by_cases h : t < k
      · rw [if_pos h, if_pos (by omega)]
      · rw [if_neg h, if_neg (by omega)]
theorem shift_cnt (b : Nat) : ∀ (k t : Nat), ((List.range k).map fun q => b + q).count t = if b ≤ t ∧ t < b + k then 1 else 0
  | 0, t => by rw [if_neg (by omega)]; rfl
  | k + 1, t => by
    rw [List.range_succ, List.map_append, List.count_append, shift_cnt b k t, List.map_cons, List.map_nil, List.count_cons, List.count_nil]
    by_cases e : b + k = t
    · rw [if_neg (by omega), if_pos (show (b + k == t) = true by simpa using e), if_pos (by omega)]
    · rw [if_neg (show ¬ (b + k == t) = true by simpa using e)]
      by_cases h : b ≤ t ∧ t < b + k
      · rw [if_pos h, if_pos (by omega)]
      · rw [if_neg h, if_neg (by omega)]
theorem map_congr_range {α : Type} (k : Nat) (f g : Nat → α) (h : ∀ i, i < k → f i = g i) : (List.range k).map f = (List.range k).map g := List.map_congr_left fun i hi => h i (List.mem_range.1 hi)
theorem sysP1 (k : Nat) : sysP k 1 k = (List.range k).map fun i : Nat => (i : Int) := map_congr_range _ _ _ fun i hi => rng_gi hi
theorem sysP2 (k : Nat) : sysP k 2 k = ((List.range k).map (piN k)).map fun i : Nat => (i : Int) := by
  rw [List.map_map]
  refine map_congr_range _ _ _ fun i hi => ?_
  show gi (ordL k) i = _
  rw [gi_eq _ _ (by simpa [ordL] using hi)]
  simp [ordL]
theorem parP_map (k code : Nat) : parP k code k = ((List.range k).map fun q => code * (k + 4) + q).map fun i : Nat => (i : Int) := by
  rw [List.map_map]; rfl
theorem cnt3 (a b c t : Nat) : ([(a : Int), (b : Int), (c : Int)]).count (t : Int) = (if a = t then 1 else 0) + (if b = t then 1 else 0) + (if c = t then 1 else 0) := by
  have := count_ints [a, b, c] t
  rw [show ([(a : Int), (b : Int), (c : Int)]) = [a, b, c].map fun i : Nat => (i : Int) from rfl, this]
  simp only [List.count_cons, List.count_nil, beq_iff_eq]
  omega
theorem cnt_sys1 (k t : Nat) : (sysL k 1).count (t : Int) = (if t < k then 1 else 0) + ((if k = t then 1 else 0) + (if 2 * (k + 4) + k = t then 1 else 0) + (if k + 4 + k + 1 = t then 1 else 0)) := by
  rw [sysL_eq, List.count_append, sysP1, count_ints, range_cnt, cnt3]; rfl
theorem cnt_sys2 (k u t : Nat) (hk : k = szK u) : (sysL k 2).count (t : Int) = (if t < k then 1 else 0) + ((if k + 2 = t then 1 else 0) + (if 2 * (k + 4) + (k + 2) = t then 1 else 0) + (if k + 4 + (k + 2) + 1 = t then 1 else 0)) := by
  obtain ⟨h1, h2⟩ := perm_map hk
  rw [sysL_eq, List.count_append, sysP2, count_ints, cnt3]
  have e : ((List.range k).map (piN k)).count t = if t < k then 1 else 0 := by
    by_cases h : t < k
    · rw [if_pos h]; exact h2 t h
    · rw [if_neg h]
      refine List.count_eq_zero.2 fun hm => ?_
      obtain ⟨i, hi, e⟩ := List.mem_map.1 hm
      have := h1 i (List.mem_range.1 hi)
      omega
  rw [e]; rfl
theorem cnt_par (k code t : Nat) : (parI k code).count (t : Int) = (if code * (k + 4) ≤ t ∧ t < code * (k + 4) + k then 1 else 0) + ((if k + 4 + atN k code = t then 1 else 0) + (if atN k code + 1 = t then 1 else 0) + (if 2 * (k + 4) + atN k code + 1 = t then 1 else 0)) := by
  rw [parI_eq, List.count_append, parP_map, count_ints, shift_cnt, cnt3]
theorem cnt_all (k u t : Nat) (hk : k = szK u) (ht : t < 3 * (k + 4)) : (sysL k 1).count (t : Int) + (parI k 1).count (t : Int) + ((sysL k 2).count (t : Int) + (parI k 2).count (t : Int)) = if t < k then 2 else 1 := by
  rw [cnt_sys1, cnt_sys2 k u t hk, cnt_par, cnt_par, show atN k 1 = k from by unfold atN; omega, show atN k 2 = k + 2 from by unfold atN; omega]
  clear hk
  by_cases h1 : t < k
  · repeat (first | rw [if_pos (by omega)] | rw [if_neg (by omega)])
  · by_cases h2 : t < k + 4
    · obtain h | h | h | h : t = k ∨ t = k + 1 ∨ t = k + 2 ∨ t = k + 3 := by omega
      all_goals subst h; repeat (first | rw [if_pos (by omega)] | rw [if_neg (by omega)])
    · by_cases h3 : t < 2 * (k + 4)
      · by_cases h4 : t < 2 * k + 4
        · repeat (first | rw [if_pos (by omega)] | rw [if_neg (by omega)])
        · obtain h | h | h | h : t = 2 * k + 4 ∨ t = 2 * k + 5 ∨ t = 2 * k + 6 ∨ t = 2 * k + 7 := by omega
          all_goals subst h; repeat (first | rw [if_pos (by omega)] | rw [if_neg (by omega)])
      · by_cases h4 : t < 3 * k + 8
        · repeat (first | rw [if_pos (by omega)] | rw [if_neg (by omega)])
        · obtain h | h | h | h : t = 3 * k + 8 ∨ t = 3 * k + 9 ∨ t = 3 * k + 10 ∨ t = 3 * k + 11 := by omega
          all_goals subst h; repeat (first | rw [if_pos (by omega)] | rw [if_neg (by omega)])
theorem sysL_len (k code : Nat) : (sysL k code).length = k + 3 := by rw [sysL_eq]; simp [sysP]
theorem parI_len (k code : Nat) : (parI k code).length = k + 3 := by rw [parI_eq]; simp [parP]
theorem gi_app_l (a b : List Int) (i : Nat) (h : i < a.length) : gi (a ++ b) i = gi a i := by
  rw [gi_eq _ _ (by rw [List.length_append]; omega), gi_eq _ _ h, List.getElem_append_left]
theorem sys_bd (k code u i : Nat) (hk : k = szK u) (hc : code = 1 ∨ code = 2) (hi : i < k + 3) : 0 ≤ gi (sysL k code) i ∧ gi (sysL k code) i < ((3 * (k + 4) : Nat) : Int) ∧ (i < k → gi (sysL k code) i < (k : Int)) := by
  have hl : (sysP k code k).length = k := by simp [sysP]
  by_cases h : i < k
  · have e : gi (sysL k code) i = gi (osL k code) i := by
      rw [sysL_eq, gi_app_l _ _ _ (by rw [hl]; exact h), gi_eq _ _ (by rw [hl]; exact h)]
      simp [sysP]
    rw [e]
    rcases hc with rfl | rfl
    · rw [rng_gi h]; omega
    · have e2 : gi (osL k 2) i = (piN k i : Int) := by
        show gi (ordL k) i = _
        rw [gi_eq _ _ (by simpa [ordL] using h)]
        simp [ordL]
      rw [e2]
      have := (perm_map hk).1 i h
      omega
  · have hm := gi_mem (sysL k code) i (by rw [sysL_len]; exact hi)
    have hm2 : gi (sysL k code) i ∈ [(atN k code : Int), ((2 * (k + 4) + atN k code : Nat) : Int), ((k + 4 + atN k code + 1 : Nat) : Int)] := by
      have e : gi (sysL k code) i = gi [(atN k code : Int), ((2 * (k + 4) + atN k code : Nat) : Int), ((k + 4 + atN k code + 1 : Nat) : Int)] (i - k) := by
        rw [gi_eq _ _ (by rw [sysL_len]; exact hi), gi_eq _ _ (by simp; omega)]
        simp only [sysL_eq]
        rw [List.getElem_append_right (by rw [hl]; omega)]
        simp only [hl]
      rw [e]
      exact gi_mem _ _ (by simp; omega)
    have ha : atN k code ≤ k + 2 := by unfold atN; omega
    simp only [List.mem_cons, List.not_mem_nil, or_false] at hm2
    rcases hm2 with e | e | e <;> rw [e] <;> omega
theorem par_bd (k code i : Nat) (hc : code = 1 ∨ code = 2) (hi : i < k + 3) : 0 ≤ gi (parI k code) i ∧ gi (parI k code) i < ((3 * (k + 4) : Nat) : Int) := by
  have hm := gi_mem (parI k code) i (by rw [parI_len]; exact hi)
  have ha : atN k code ≤ k + 2 := by unfold atN; omega
  rw [parI_eq] at hm
  rcases List.mem_append.1 hm with h | h
  · obtain ⟨q, hq, e⟩ := List.mem_map.1 h
    have := List.mem_range.1 hq
    rw [parI_eq, ← e]
    rcases hc with rfl | rfl <;> omega
  · rw [parI_eq]
    simp only [List.mem_cons, List.not_mem_nil, or_false] at h
    rcases h with e | e | e <;> rw [e] <;> omega
theorem count_take (l : List Int) (j : Nat) (t : Int) (h : j < l.length) : (l.take (j + 1)).count t = (l.take j).count t + if gi l j = t then 1 else 0 := by
  rw [List.take_succ_eq_append_getElem h, List.count_append, List.count_cons, List.count_nil, gi_eq _ _ h]
  simp
def cntC (k code t : Nat) : Nat := (if 2 ≤ code then (sysL k 1).count (t : Int) + (parI k 1).count (t : Int) else 0) + (if 3 ≤ code then (sysL k 2).count (t : Int) + (parI k 2).count (t : Int) else 0)
def LstInv (w : World) (k N : Nat) (M : Option Addr) (i : Value) (wr : World) : Prop :=
  ∃ (code : Nat) (cs : List Int), 1 ≤ code ∧ code ≤ 3 ∧ i = .int .i64 code ∧ Own .i64 3 wr w.heap.size M N N cs ∧ (∀ t, t < N → gi cs t = (cntC k code t : Int)) ∧ Below w.heap.size w wr
theorem cntC_next (k code t : Nat) (h : code = 1 ∨ code = 2) : cntC k (code + 1) t = cntC k code t + (sysL k code).count (t : Int) + (parI k code).count (t : Int) := by
  rcases h with rfl | rfl
  · simp [cntC]
  · simp [cntC]; omega
theorem cntC_end (k u t : Nat) (hk : k = szK u) (ht : t < 3 * (k + 4)) : cntC k 3 t = if t < k then 2 else 1 := by
  rw [← cnt_all k u t hk ht]; simp [cntC]
theorem cnt_step (c : Nat → Nat) (cs S P : List Int) (N j p q : Nat) (hl : cs.length = N) (hp : p < N) (hq : q < N) (hS : gi S j = (p : Int)) (hP : gi P j = (q : Int)) (hj : j < S.length) (hj' : j < P.length)
    (h : ∀ t, t < N → gi cs t = ((c t + (S.take j).count (t : Int) + (P.take j).count (t : Int) : Nat) : Int)) :
    ∀ t, t < N → gi ((cs.set p (gi cs p + 1)).set q (gi (cs.set p (gi cs p + 1)) q + 1)) t = ((c t + (S.take (j + 1)).count (t : Int) + (P.take (j + 1)).count (t : Int) : Nat) : Int) := by
  intro t ht
  rw [gi_set _ _ _ _ (by rw [List.length_set]; omega), gi_set _ _ _ _ (by omega), gi_set _ _ _ _ (by omega), count_take _ _ _ hj, count_take _ _ _ hj', hS, hP]
  have ht' := h t ht
  by_cases e1 : p = t
  · subst e1
    by_cases e2 : q = p
    · subst e2; rw [if_pos rfl, if_pos rfl, if_pos rfl]; omega
    · rw [if_neg e2, if_pos rfl, if_pos rfl, if_neg (by omega)]; omega
  · by_cases e2 : q = t
    · subst e2; rw [if_pos rfl, if_neg e1, if_neg (by omega), if_pos rfl]; omega
    · rw [if_neg e2, if_neg e1, if_neg (by omega), if_neg (by omega)]; omega
def LstIn (w w1 : World) (k N code : Nat) (M A B : Option Addr) (c d : Nat) (i : Value) (wr : World) : Prop :=
  ∃ (j : Nat) (cs : List Int), j ≤ k + 3 ∧ i = .int .i64 j ∧ Own .i64 3 wr w.heap.size M N N cs ∧ (∀ t, t < N → gi cs t = ((cntC k code t + ((sysL k code).take j).count (t : Int) + ((parI k code).take j).count (t : Int) : Nat) : Int)) ∧ Own .i64 3 wr w1.heap.size A (k + 3) c (sysL k code) ∧ Own .i64 3 wr w1.heap.size B (k + 3) d (parI k code) ∧ Below w.heap.size w wr
theorem cnt_bd (k code j t : Nat) : cntC k code t + ((sysL k code).take j).count (t : Int) + ((parI k code).take j).count (t : Int) ≤ 6 * (k + 3) := by
  have h1 := List.count_le_length (l := sysL k 1) (a := (t : Int))
  have h2 := List.count_le_length (l := parI k 1) (a := (t : Int))
  have h3 := List.count_le_length (l := sysL k 2) (a := (t : Int))
  have h4 := List.count_le_length (l := parI k 2) (a := (t : Int))
  have h5 := List.count_le_length (l := (sysL k code).take j) (a := (t : Int))
  have h6 := List.count_le_length (l := (parI k code).take j) (a := (t : Int))
  rw [List.length_take] at h5 h6
  rw [sysL_len] at h1 h3 h5
  rw [parI_len] at h2 h4 h6
  unfold cntC
  split <;> split <;> omega
end Go.Proofs.Ytpdalbckmfadbaa.Tu

namespace Go.Proofs.Ytpdalbckmfadbaa.Tu
open Go.RowKit
set_option linter.unusedVariables false
/-- distance of the first q bits -/
def dstQ (x y : List Bool) (q : Nat) : Nat := wt ((xorL x y).take q)
theorem w1_le (b : Bool) : w1 b ≤ 1 := by cases b <;> decide
theorem dstQ_zero (x y : List Bool) : dstQ x y 0 = 0 := rfl
theorem dstQ_succ (x y : List Bool) (h : x.length = y.length) (q : Nat) (hq : q < x.length) : dstQ x y (q + 1) = dstQ x y q + w1 (x[q] ^^ y[q]'(by omega)) := by
  unfold dstQ
  rw [List.take_succ_eq_append_getElem (by rw [xorL_len _ _ h]; exact hq), wt_app, xorL_get _ _ h _ hq, wt_cons, wt_nil, Nat.add_zero]
theorem dstQ_le (x y : List Bool) (q : Nat) : dstQ x y q ≤ q := by
  unfold dstQ wt
  exact Nat.le_trans List.count_le_length (by rw [List.length_take]; omega)
theorem dstQ_all (x y : List Bool) (h : x.length = y.length) (n : Nat) (hn : n = x.length) : dstQ x y n = dst x y := by
  subst hn
  unfold dstQ dst
  rw [List.take_of_length_le (by rw [xorL_len _ _ h]; exact Nat.le_refl _)]
theorem wt_false (n : Nat) : wt (List.replicate n false) = 0 := by
  unfold wt; rw [List.count_replicate]; rfl
theorem dst_self (x : List Bool) : dst x x = 0 := by unfold dst; rw [xorL_self, wt_false]
theorem dst_pos {x y : List Bool} (h : x.length = y.length) (hne : x ≠ y) : 0 < dst x y := by
  unfold dst wt
  exact List.count_pos_iff.2 (xorL_true x y h hne)
theorem dst_set : ∀ (x y : List Bool) (k : Nat) (b : Bool), dst (x.set k b) y ≤ dst x y + 1
  | [], y, k, b => by simp
  | a :: x, [], k, b => by cases k <;> simp [dst, xorL, wt]
  | a :: x, c :: y, 0, b => by
    have h1 := w1_le (b ^^ c)
    simp only [List.set_cons_zero, dst, xorL, List.zipWith_cons_cons, wt_cons]
    omega
  | a :: x, c :: y, k + 1, b => by
    have h := dst_set x y k b
    simp only [dst] at h
    simp only [List.set_cons_succ, dst, xorL, List.zipWith_cons_cons, wt_cons]
    simp only [xorL] at h
    omega
def wrd (x : List Bool) : List Bool := wordB x (mixB x)
theorem wrd_len (x : List Bool) : (wrd x).length = 3 * (x.length + 4) := wordB_len x _ (mixB_len x)
theorem wrd_ne {x y : List Bool} (h : x.length = y.length) (hne : x ≠ y) : 6 ≤ dst (wrd x) (wrd y) := word_dst x y _ _ h (by rw [mixB_len, mixB_len, h]) hne
theorem wrd_take (x : List Bool) : (wrd x).take x.length = x := by
  unfold wrd wordB
  simp only [List.append_assoc]
  rw [List.take_append_of_le_length (Nat.le_refl _), List.take_of_length_le (Nat.le_refl _)]
theorem good_wrd {u k : Nat} (hk : k = szK u) : goodLen (3 * (k + 4)) := by
  refine ⟨by omega, ?_⟩
  have h := szK_valid u
  rw [← hk] at h
  rw [show kLen (3 * (k + 4)) = (k : Int) from by unfold kLen; omega]
  exact h
theorem wf_u16 {xs : List Int} (h : ∀ x ∈ xs, (Lit.int .u16 x).wf = true) : ∀ x ∈ xs, 0 ≤ x ∧ x < 65536 := fun x hx => by
  have := bounds_u16 (h x hx); omega
def FlipInv (w : World) (P : List Bool) (L : Nat) (A : Option Addr) (c n : Nat) (i : Value) (wr : World) : Prop :=
  ∃ (j : Nat) (bs : List Bool), j ≤ n ∧ i = .int .i64 j ∧ bs.length = L ∧ dst bs P ≤ j ∧ Own .u8 5 wr w.heap.size A L c (bs.map ib) ∧ Below w.heap.size w wr
end Go.Proofs.Ytpdalbckmfadbaa.Tu

namespace Go.Proofs.Ytpdalbckmfadbaa.Tu
open Go.RowKit
set_option linter.unusedVariables false
def gB (l : List Bool) (i : Nat) : Bool := l.getD i false
theorem gB_l {a b : List Bool} {i : Nat} (h : i < a.length) : gB (a ++ b) i = gB a i := by
  unfold gB; rw [List.getD_eq_getElem?_getD, List.getD_eq_getElem?_getD, List.getElem?_append_left h]
theorem gB_r {a b : List Bool} {i j : Nat} (h : i = a.length + j) : gB (a ++ b) i = gB b j := by
  subst h
  unfold gB; rw [List.getD_eq_getElem?_getD, List.getD_eq_getElem?_getD, List.getElem?_append_right (by omega), show a.length + j - a.length = j by omega]
theorem gB_range (l : List Bool) : (List.range l.length).map (gB l) = l := by
  refine List.ext_getElem (by simp) fun i h1 h2 => ?_
  simp [gB, h2]
def T0 (x m : List Bool) : List Bool := [tu (fin x) 0, tz (fin x) 1, tu (fin m) 0, tz (fin m) 1]
def T1 (x m : List Bool) : List Bool := [tz (fin x) 0, tu (fin x) 2, tz (fin m) 0, tu (fin m) 2]
def T2 (x m : List Bool) : List Bool := [tu (fin x) 1, tz (fin x) 2, tu (fin m) 1, tz (fin m) 2]
theorem wrd_eq (x : List Bool) : wrd x = x ++ (T0 x (mixB x) ++ (parL s0 x ++ (T1 x (mixB x) ++ (parL s0 (mixB x) ++ T2 x (mixB x))))) := by
  unfold wrd wordB T0 T1 T2; simp only [List.append_assoc]
section
variable {x : List Bool} {k : Nat} (hx : x.length = k)
include hx
theorem wg0 {i : Nat} (h : i < k) : gB (wrd x) i = gB x i := by rw [wrd_eq, gB_l (by omega)]
theorem wg1 {i j : Nat} (h : j < 4) (e : i = k + j) : gB (wrd x) i = gB (T0 x (mixB x)) j := by rw [wrd_eq, gB_r (j := j) (by omega), gB_l (by simpa [T0] using h)]
theorem wg2 {i j : Nat} (h : j < k) (e : i = k + 4 + j) : gB (wrd x) i = gB (parL s0 x) j := by
  rw [wrd_eq, gB_r (j := 4 + j) (by omega), gB_r (j := j) (by simp [T0]), gB_l (by rw [parL_len]; omega)]
theorem wg3 {i j : Nat} (h : j < 4) (e : i = 2 * k + 4 + j) : gB (wrd x) i = gB (T1 x (mixB x)) j := by
  rw [wrd_eq, gB_r (j := k + 4 + j) (by omega), gB_r (j := k + j) (by simp [T0]; omega), gB_r (j := j) (by rw [parL_len]; omega), gB_l (by simpa [T1] using h)]
theorem wg4 {i j : Nat} (h : j < k) (e : i = 2 * k + 8 + j) : gB (wrd x) i = gB (parL s0 (mixB x)) j := by
  rw [wrd_eq, gB_r (j := k + 8 + j) (by omega), gB_r (j := k + 4 + j) (by simp [T0]; omega), gB_r (j := 4 + j) (by rw [parL_len]; omega), gB_r (j := j) (by simp [T1]), gB_l (by rw [parL_len, mixB_len]; omega)]
theorem wg5 {i j : Nat} (h : j < 4) (e : i = 3 * k + 8 + j) : gB (wrd x) i = gB (T2 x (mixB x)) j := by
  rw [wrd_eq, gB_r (j := 2 * k + 8 + j) (by omega), gB_r (j := 2 * k + 4 + j) (by simp [T0]; omega), gB_r (j := k + 4 + j) (by rw [parL_len]; omega), gB_r (j := k + j) (by simp [T1]; omega), gB_r (j := j) (by rw [parL_len, mixB_len]; omega)]
end
def inC (x : List Bool) (code : Nat) : List Bool := if code = 1 then x else mixB x
theorem inC_len (x : List Bool) (code : Nat) : (inC x code).length = x.length := by unfold inC; split <;> simp [mixB_len]
def selB (W : List Bool) (L : List Int) : List Bool := L.map fun i => gB W i.toNat
theorem selB_app (W : List Bool) (a b : List Int) : selB W (a ++ b) = selB W a ++ selB W b := List.map_append
theorem selB_len (W : List Bool) (L : List Int) : (selB W L).length = L.length := by simp [selB]
theorem osL_gi (k code i : Nat) (hc : code = 1 ∨ code = 2) (h : i < k) : gi (osL k code) i = ((if code = 1 then i else piN k i : Nat) : Int) := by
  rcases hc with rfl | rfl
  · rw [rng_gi h]; rfl
  · show gi (ordL k) i = _
    rw [gi_eq _ _ (by simpa [ordL] using h)]
    simp [ordL]
theorem sel_sysP {x : List Bool} {k code u : Nat} (hx : x.length = k) (hk : k = szK u) (hc : code = 1 ∨ code = 2) : selB (wrd x) (sysP k code k) = inC x code := by
  have e : selB (wrd x) (sysP k code k) = (List.range k).map fun i => gB x (if code = 1 then i else piN k i) := by
    unfold selB sysP
    rw [List.map_map]
    refine List.map_congr_left fun i hi => ?_
    have hi := List.mem_range.1 hi
    show gB (wrd x) (gi (osL k code) i).toNat = _
    rw [osL_gi k code i hc hi, Int.toNat_natCast]
    refine wg0 hx ?_
    split
    · exact hi
    · exact (perm_map hk).1 i hi
  rw [e]
  rcases hc with rfl | rfl
  · subst hx; exact gB_range x
  · subst hx; rfl
theorem gB_cons3 (a b c d : Bool) : gB [a, b, c, d] 0 = a ∧ gB [a, b, c, d] 1 = b ∧ gB [a, b, c, d] 2 = c ∧ gB [a, b, c, d] 3 = d := ⟨rfl, rfl, rfl, rfl⟩
theorem sel_sys {x : List Bool} {k code u : Nat} (hx : x.length = k) (hk : k = szK u) (hc : code = 1 ∨ code = 2) :
    selB (wrd x) (sysL k code) = inC x code ++ [tu (fin (inC x code)) 0, tu (fin (inC x code)) 1, tu (fin (inC x code)) 2] := by
  rw [sysL_eq, selB_app, sel_sysP hx hk hc]
  congr 1
  simp only [selB, List.map_cons, List.map_nil, Int.toNat_natCast]
  rcases hc with rfl | rfl
  · rw [show atN k 1 = k from by unfold atN; omega, wg1 hx (j := 0) (by omega) (by omega), wg5 hx (j := 0) (by omega) (by omega), wg3 hx (j := 1) (by omega) (by omega)]; rfl
  · rw [show atN k 2 = k + 2 from by unfold atN; omega, wg1 hx (j := 2) (by omega) (by omega), wg5 hx (j := 2) (by omega) (by omega), wg3 hx (j := 3) (by omega) (by omega)]; rfl
theorem sel_parP {x : List Bool} {k code : Nat} (hx : x.length = k) (hc : code = 1 ∨ code = 2) : selB (wrd x) (parP k code k) = parL s0 (inC x code) := by
  have e : selB (wrd x) (parP k code k) = (List.range k).map (gB (parL s0 (inC x code))) := by
    unfold selB parP
    rw [List.map_map]
    refine List.map_congr_left fun i hi => ?_
    have hi := List.mem_range.1 hi
    show gB (wrd x) ((code * (k + 4) + i : Nat) : Int).toNat = _
    rw [Int.toNat_natCast]
    rcases hc with rfl | rfl
    · exact wg2 hx hi (by omega)
    · exact wg4 hx hi (by omega)
  rw [e]
  have hl : (parL s0 (inC x code)).length = k := by rw [parL_len, inC_len, hx]
  have := gB_range (parL s0 (inC x code))
  rwa [hl] at this
theorem sel_par {x : List Bool} {k code : Nat} (hx : x.length = k) (hc : code = 1 ∨ code = 2) :
    selB (wrd x) (parI k code) = parL s0 (inC x code) ++ [tz (fin (inC x code)) 0, tz (fin (inC x code)) 1, tz (fin (inC x code)) 2] := by
  rw [parI_eq, selB_app, sel_parP hx hc]
  congr 1
  simp only [selB, List.map_cons, List.map_nil, Int.toNat_natCast]
  rcases hc with rfl | rfl
  · rw [show atN k 1 = k from by unfold atN; omega, wg3 hx (j := 0) (by omega) (by omega), wg1 hx (j := 1) (by omega) (by omega), wg5 hx (j := 1) (by omega) (by omega)]; rfl
  · rw [show atN k 2 = k + 2 from by unfold atN; omega, wg3 hx (j := 2) (by omega) (by omega), wg1 hx (j := 3) (by omega) (by omega), wg5 hx (j := 3) (by omega) (by omega)]; rfl
/-- what the walk puts together -/
theorem got_word {x S P : List Bool} {k code u : Nat} (hx : x.length = k) (hk : k = szK u) (hc : code = 1 ∨ code = 2) (hS : S = selB (wrd x) (sysL k code)) (hP : P = selB (wrd x) (parI k code)) :
    S.take k = inC x code ∧ S.take k ++ P.take k ++ (S.drop k ++ P.drop k) = wordC (inC x code) := by
  have hl : (inC x code).length = k := by rw [inC_len, hx]
  have hl2 : (parL s0 (inC x code)).length = k := by rw [parL_len, hl]
  subst hS hP
  rw [sel_sys hx hk hc, sel_par hx hc]
  have e1 : ∀ (a b : List Bool), a.length = k → (a ++ b).take k = a ∧ (a ++ b).drop k = b := by
    intro a b h; subst h; exact ⟨List.take_left, List.drop_left⟩
  rw [(e1 _ _ hl).1, (e1 _ _ hl).2, (e1 _ _ hl2).1, (e1 _ _ hl2).2]
  refine ⟨rfl, ?_⟩
  unfold wordC
  simp only [List.append_assoc]
end Go.Proofs.Ytpdalbckmfadbaa.Tu

namespace Go.Proofs.Ytpdalbckmfadbaa.Tu
open Go.RowKit
set_option linter.unusedVariables false
/-- the inverse permutation behind j steps -/
def invT (k : Nat) : Nat → List Int
  | 0 => List.replicate k 0
  | j + 1 => (invT k j).set (piN k j) (j : Int)
theorem invT_len (k : Nat) : ∀ j, (invT k j).length = k
  | 0 => List.length_replicate ..
  | j + 1 => by simp only [invT]; rw [List.length_set, invT_len k j]
def invL (k : Nat) : List Int := invT k k
theorem invset_any (A : Option Addr) (n c : Nat) (vs : List Int) (v : Nat) (j : Int) (base : Nat) (w : World) (h : Own .i64 3 w base A n c vs) (hj : v < n) :
    Calls Try.prog 56 #[.slice A n c, .int .i64 j, .int .i64 (v : Int)] w fun e w' => e = .returned (.tuple #[]) ∧ Own .i64 3 w' base A n c (vs.set v j) ∧ w.grownBy w' (some (blk A)) := by
  have hix := fun W => Rdv.ix (Own.rd h) el33 hj .i64 W
  have hcell := Rd.cell (Own.rd h) hj
  have hfz := Ownv.frozen h (by have := Rdv.le (Own.rd h); omega) v
  have HSET := Lib.hid (Own.set_ h hj j)
  clear h
  go_enter Try.func56, Try.ntmps56
  go_wp2
  go_returns
  exact ⟨rfl, HSET.out.1, HSET.out.2⟩
def MakSt (w wr : World) (k f1 f2 b : Nat) (A : Option Addr) (T : Nat → List Int) (j : Nat) : Prop :=
  Own .i64 3 wr w.heap.size A k k (T j) ∧ Obj3 wr w.heap.size b k f1 f2 ∧ Below w.heap.size w wr
def MakInv (w : World) (k f1 f2 b : Nat) (A : Option Addr) (T : Nat → List Int) (i : Value) (wr : World) : Prop := ∃ j : Nat, j ≤ k ∧ i = .int .i64 j ∧ MakSt w wr k f1 f2 b A T j
def invR (k : Int) : List Int := if validK k = true then invL k.toNat else []
set_option maxRecDepth 100000 in
set_option maxHeartbeats 1000000 in
theorem madev_any (k : Int) (w : World) : Calls Try.prog 54 #[.int .i64 k, .func (.func 56) #[] #[]] w fun e w' => ∃ A n, e = .returned (.tuple #[.slice A n n, .int .i64 (permE k)]) ∧ Own .i64 3 w' w.heap.size A n n (invR k) ∧ Below w.heap.size w w' := by
  by_cases hv : validK k = true
  · obtain ⟨kb0, kb1⟩ := valid_bd hv
    obtain ⟨n, rfl⟩ : ∃ n : Nat, k = (n : Int) := ⟨k.toNat, by omega⟩
    have hP := prm hv
    have e1 : permV (n : Int) = .agg #[.int .i64 n, .int .i64 (f1N n : Int), .int .i64 (f2N n : Int)] := by unfold permV; rw [if_pos hv, Int.toNat_natCast]
    have e2 : permE (n : Int) = 0 := by unfold permE; rw [if_pos hv]
    have e3 : invR (n : Int) = invT n n := by unfold invR; rw [if_pos hv, Int.toNat_natCast]; rfl
    rw [e2, e3]
    have ho := fun W => Lib.hid (of_any (n : Int) W)
    rw [e1, e2] at ho
    have hf1 := hP.b1
    have hf2 := hP.b2
    have HT : Hid (∀ j, invT n (j + 1) = (invT n j).set ((f1N n * j + f2N n * j % n * j) % n) (j : Int)) := Lib.hid (fun j => rfl)
    have hT0 : invT n 0 = List.replicate n 0 := rfl
    clear e1 e2 e3 hv hP
    generalize invT n = T at *
    generalize f1N n = f1 at *
    generalize f2N n = f2 at *
    go_enter Try.func54, Try.ntmps54
    go_wp2_with fail
    refine (ho _).out.mono ?_
    rintro e w1 ⟨rfl, hB1⟩
    have hO1 := Obj3.new w1 n f1 f2
    go_wp2_with (at_make; refine list_of rfl fun K hK => wp_mk (n := n) _ _ 22 rfl el33 rfl rfl (by omega) (by unfold maxLen; omega) ?_; intro Am wm hOm hBm hA; refine hK _ _ ?_; clear hK K)
    have hsz := hB1.size
    have hO2 : Obj3 wm w.heap.size w1.heap.size n f1 f2 := (hO1.mono hsz).below hBm
    have hblk : blk Am ≠ w1.heap.size := by
      have := (Ownv.blk_ge hOm (by omega)).1
      simp at this
      omega
    have hst : MakSt w wm n f1 f2 w1.heap.size Am T 0 := ⟨Own.of_eq (Ownv.mono hOm (by simp; omega)) rfl (by rw [hT0]; simp), hO2, (hB1.alloc hsz _).trans (hBm.mono (by simp; omega))⟩
    have HBLK := Lib.hid hblk
    clear hO1 hO2 hOm hBm hblk hsz hB1 hT0
    generalize w1.heap.size = b at *
    go_loopw [21] (fun i wr => MakInv w n f1 f2 b Am T i wr) (fun i _ => n - (intOf i).toNat)
    case atStart => exact ⟨0, by omega, rfl, hst⟩
    case round =>
      obtain ⟨j, hj, rfl, hO, hobj, hB⟩ := hrel
      clear hst
      by_cases hlt : j < n
      · obtain ⟨c0, c1, c2, f0, f1', f2'⟩ := hobj.facts
        have ha := fun W => Lib.hid (at_any n f1 f2 j (by omega) (by omega) hf1 hf2 (by omega) W)
        obtain ⟨pv, hpv⟩ : ∃ pv, pv = (f1 * j + f2 * j % n * j) % n := ⟨_, rfl⟩
        have hpn : pv < n := by rw [hpv]; exact Nat.mod_lt _ (by omega)
        have HPV := Lib.hid hpv
        rw [← hpv] at ha
        clear f0 f1' f2' hpv
        unfold polyV at ha
        go_wp2_with (first
          | (go_at_call 74; refine (ha _).out.mono ?_; rintro e w4 ⟨rfl, hB4⟩)
          | (go_at_call 56; refine (invset_any Am n n (T j) pv (j : Int) w.heap.size _ (Ownv.below hO hB4) hpn).mono ?_; rintro e w5 ⟨rfl, hO5, hg5⟩))
        refine ⟨⟨j + 1, by omega, by go_num, by rw [HT.out j, ← HPV.out]; exact hO5, Ownv.grown (hobj.below hB4) hg5 (fun _ he => HBLK.out (Option.some.inj he).symm), ?_⟩, by simp [intOf]; omega⟩
        have hB' := hB.trans (hB4.mono hB.size)
        exact grown_below hB' hg5 (Ownv.blk_ge hO (by omega)).1 hB'.size
      · obtain rfl : j = n := by omega
        go_wp2
        go_ret2
        exact ⟨Am, j, rfl, hO, hB⟩
  · have e1 : permV k = .agg #[.int .i64 0, .int .i64 0, .int .i64 0] := by unfold permV; rw [if_neg hv]
    have e2 : permE k = 2 := by unfold permE; rw [if_neg hv]
    have e3 : invR k = [] := by unfold invR; rw [if_neg hv]
    rw [e2, e3]
    have ho := fun W => Lib.hid (of_any k W)
    rw [e1, e2] at ho
    clear e1 e2 e3 hv
    go_enter Try.func54, Try.ntmps54
    go_wp2_with fail
    refine (ho _).out.mono ?_
    rintro e w1 ⟨rfl, hB1⟩
    go_wp2
    go_ret2
    exact ⟨none, 0, rfl, Own.nilv _ _ _ _, hB1.alloc hB1.size _⟩
theorem inverse_any (k : Int) (w : World) : Calls Try.prog 29 #[.int .i64 k] w fun e w' => ∃ A n, e = .returned (.tuple #[.slice A n n, .int .i64 (permE k)]) ∧ Own .i64 3 w' w.heap.size A n n (invR k) ∧ Below w.heap.size w w' := by
  go_enter Try.func29, Try.ntmps29
  go_wp2_with fail
  refine (madev_any k _).mono ?_
  rintro e w1 ⟨A, n, rfl, hO, hB⟩
  go_wp2
  go_ret2
  exact ⟨A, n, rfl, hO, hB⟩
/-- the two lists are inverse to each other -/
theorem invT_gi {k : Nat} (h1 : ∀ i, i < k → piN k i < k) (h2 : ∀ i j, i < k → j < k → piN k i = piN k j → i = j) : ∀ n, n ≤ k → ∀ i, i < n → gi (invT k n) (piN k i) = (i : Int)
  | 0, _, i, hi => by omega
  | n + 1, hn, i, hi => by
    simp only [invT]
    rw [gi_set _ _ _ _ (by rw [invT_len]; exact h1 n (by omega))]
    by_cases e : piN k n = piN k i
    · rw [if_pos e, h2 n i (by omega) (by omega) e]
    · rw [if_neg e]
      have : i ≠ n := fun h => e (by rw [h])
      exact invT_gi h1 h2 n (by omega) i (by omega)
end Go.Proofs.Ytpdalbckmfadbaa.Tu

