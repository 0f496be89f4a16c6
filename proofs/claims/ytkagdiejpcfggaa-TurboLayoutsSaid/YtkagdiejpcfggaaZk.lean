/-
  Plain facts: in the two layouts together an index below the block size occurs twice, any other once. Condition: a block size of at most 512.
-/
import Derived.Test.YtkagdiejpcfggaaZj
namespace Go.Proofs.Ytkagdiejpcfggaa
open Go.RowKit
set_option linter.unusedVariables false
def orM (k : Nat) : Nat → Nat
  | 0 => 0
  | i + 1 => orM k i ||| (1 <<< piN k i)
set_option maxRecDepth 100000 in
theorem orM_all : (List.range 60).all (fun u => orM (40 + 8 * u) (40 + 8 * u) == 2 ^ (40 + 8 * u) - 1) = true := by decide +kernel
theorem orM_mem (k : Nat) : ∀ n t, (orM k n).testBit t = true → ∃ i, i < n ∧ piN k i = t
  | 0, t, h => by rw [orM, Nat.zero_testBit] at h; cases h
  | n + 1, t, h => by
    rw [orM, Nat.testBit_or, Bool.or_eq_true] at h
    rcases h with h | h
    · obtain ⟨i, hi, e⟩ := orM_mem k n t h
      exact ⟨i, by omega, e⟩
    · refine ⟨n, by omega, ?_⟩
      rw [Nat.one_shiftLeft, Nat.testBit_two_pow] at h
      simpa using h
theorem pi_onto (u t : Nat) (h : t < szK u) : ∃ i, i < szK u ∧ piN (szK u) i = t := by
  have hc := List.all_eq_true.1 orM_all (u % 60) (List.mem_range.2 (Nat.mod_lt _ (by omega)))
  have hc : orM (szK u) (szK u) = 2 ^ szK u - 1 := by simpa [szK] using hc
  exact orM_mem _ _ _ (by rw [hc, Nat.testBit_two_pow_sub_one]; simpa using h)
theorem all_once : ∀ (k : Nat) (l : List Nat), l.length = k → (∀ t, t < k → t ∈ l) → (∀ x ∈ l, x < k) ∧ ∀ t, t < k → l.count t = 1
  | 0, l, hl, _ => by
    obtain rfl := List.eq_nil_of_length_eq_zero hl
    exact ⟨by simp, by intro t ht; omega⟩
  | k + 1, l, hl, h => by
    have hm := h k (by omega)
    have hp := List.perm_cons_erase hm
    obtain ⟨h1, h2⟩ := all_once k (l.erase k) (by rw [List.length_erase_of_mem hm]; omega) (fun t ht => (List.mem_erase_of_ne (by omega)).2 (h t (by omega)))
    refine ⟨fun x hx => ?_, fun t ht => ?_⟩
    · rcases List.mem_cons.1 (hp.mem_iff.1 hx) with e | e
      · omega
      · have := h1 x e; omega
    · rw [hp.count_eq, List.count_cons]
      by_cases e : t = k
      · subst e
        rw [if_pos (by simp), List.count_eq_zero.2 (fun hh => by have := h1 _ hh; omega)]
      · rw [if_neg (by simp; omega), h2 t (by omega)]
theorem count_ints (l : List Nat) (t : Nat) : (l.map fun i : Nat => (i : Int)).count (t : Int) = l.count t := by
  induction l with
  | nil => rfl
  | cons a l ih =>
    rw [List.map_cons, List.count_cons, List.count_cons, ih]
    congr 1
    by_cases e : a = t
    · subst e; simp
    · rw [if_neg (fun hh => e (by have := eq_of_beq hh; omega)), if_neg (by simpa using e)]
theorem perm_map {k u : Nat} (hk : k = szK u) : (∀ i, i < k → piN k i < k) ∧ ∀ t, t < k → ((List.range k).map (piN k)).count t = 1 := by
  subst hk
  obtain ⟨h1, h2⟩ := all_once (szK u) ((List.range (szK u)).map (piN (szK u))) (by simp) (fun t ht => by
    obtain ⟨i, hi, e⟩ := pi_onto u t ht
    exact List.mem_map.2 ⟨i, List.mem_range.2 hi, e⟩)
  exact ⟨fun i hi => h1 _ (List.mem_map.2 ⟨i, List.mem_range.2 hi, rfl⟩), h2⟩
theorem range_cnt : ∀ (k t : Nat), (List.range k).count t = if t < k then 1 else 0
  | 0, t => by simp
  | k + 1, t => by
    rw [List.range_succ, List.count_append, range_cnt k t, List.count_cons, List.count_nil]
    by_cases e : k = t
    · subst e; simp
    · rw [if_neg (show ¬ (k == t) = true by simpa using e)]
      by_cases h : t < k
      · rw [if_pos h, if_pos (by omega)]
      · rw [if_neg h, if_neg (by omega)]
theorem shift_cnt (b : Nat) : ∀ (k t : Nat), ((List.range k).map fun q => b + q).count t = if b ≤ t ∧ t < b + k then 1 else 0
  | 0, t => by rw [if_neg (by omega)]; rfl
  | k + 1, t => by
    rw [List.range_succ, List.map_append, List.count_append, shift_cnt b k t, List.map_cons, List.map_nil, List.count_cons, List.count_nil]
    by_cases e : b + k = t
    · rw [if_neg (by omega), if_pos (show (b + k == t) = true by simpa using e), if_pos (by omega)]
    · rw [if_neg (show ¬ (b + k == t) = true by simpa using e)]
      by_cases h : b ≤ t ∧ t < b + k
      · rw [if_pos h, if_pos (by omega)]
      · rw [if_neg h, if_neg (by omega)]
theorem map_congr_range {α : Type} (k : Nat) (f g : Nat → α) (h : ∀ i, i < k → f i = g i) : (List.range k).map f = (List.range k).map g := List.map_congr_left fun i hi => h i (List.mem_range.1 hi)
theorem sysP1 (k : Nat) : sysP k 1 k = (List.range k).map fun i : Nat => (i : Int) := map_congr_range _ _ _ fun i hi => rng_gi hi
theorem sysP2 (k : Nat) : sysP k 2 k = ((List.range k).map (piN k)).map fun i : Nat => (i : Int) := by
  rw [List.map_map]
  refine map_congr_range _ _ _ fun i hi => ?_
  show gi (ordL k) i = _
  rw [gi_eq _ _ (by simpa [ordL] using hi)]
  simp [ordL]
theorem parP_map (k code : Nat) : parP k code k = ((List.range k).map fun q => code * (k + 4) + q).map fun i : Nat => (i : Int) := by
  rw [List.map_map]; rfl
theorem cnt3 (a b c t : Nat) : ([(a : Int), (b : Int), (c : Int)]).count (t : Int) = (if a = t then 1 else 0) + (if b = t then 1 else 0) + (if c = t then 1 else 0) := by
  have := count_ints [a, b, c] t
  rw [show ([(a : Int), (b : Int), (c : Int)]) = [a, b, c].map fun i : Nat => (i : Int) from rfl, this]
  simp only [List.count_cons, List.count_nil, beq_iff_eq]
  omega
theorem cnt_sys1 (k t : Nat) : (sysL k 1).count (t : Int) = (if t < k then 1 else 0) + ((if k = t then 1 else 0) + (if 2 * (k + 4) + k = t then 1 else 0) + (if k + 4 + k + 1 = t then 1 else 0)) := by
  rw [sysL_eq, List.count_append, sysP1, count_ints, range_cnt, cnt3]; rfl
theorem cnt_sys2 (k u t : Nat) (hk : k = szK u) : (sysL k 2).count (t : Int) = (if t < k then 1 else 0) + ((if k + 2 = t then 1 else 0) + (if 2 * (k + 4) + (k + 2) = t then 1 else 0) + (if k + 4 + (k + 2) + 1 = t then 1 else 0)) := by
  obtain ⟨h1, h2⟩ := perm_map hk
  rw [sysL_eq, List.count_append, sysP2, count_ints, cnt3]
  have e : ((List.range k).map (piN k)).count t = if t < k then 1 else 0 := by
    by_cases h : t < k
    · rw [if_pos h]; exact h2 t h
    · rw [if_neg h]
      refine List.count_eq_zero.2 fun hm => ?_
      obtain ⟨i, hi, e⟩ := List.mem_map.1 hm
      have := h1 i (List.mem_range.1 hi)
      omega
  rw [e]; rfl
theorem cnt_par (k code t : Nat) : (parI k code).count (t : Int) = (if code * (k + 4) ≤ t ∧ t < code * (k + 4) + k then 1 else 0) + ((if k + 4 + atN k code = t then 1 else 0) + (if atN k code + 1 = t then 1 else 0) + (if 2 * (k + 4) + atN k code + 1 = t then 1 else 0)) := by
  rw [parI_eq, List.count_append, parP_map, count_ints, shift_cnt, cnt3]
theorem cnt_all (k u t : Nat) (hk : k = szK u) (ht : t < 3 * (k + 4)) : (sysL k 1).count (t : Int) + (parI k 1).count (t : Int) + ((sysL k 2).count (t : Int) + (parI k 2).count (t : Int)) = if t < k then 2 else 1 := by
  rw [cnt_sys1, cnt_sys2 k u t hk, cnt_par, cnt_par, show atN k 1 = k from by unfold atN; omega, show atN k 2 = k + 2 from by unfold atN; omega]
  clear hk
  by_cases h1 : t < k
  · repeat (first | rw [if_pos (by omega)] | rw [if_neg (by omega)])
  · by_cases h2 : t < k + 4
    · obtain h | h | h | h : t = k ∨ t = k + 1 ∨ t = k + 2 ∨ t = k + 3 := by omega
      all_goals subst h; repeat (first | rw [if_pos (by omega)] | rw [if_neg (by omega)])
    · by_cases h3 : t < 2 * (k + 4)
      · by_cases h4 : t < 2 * k + 4
        · repeat (first | rw [if_pos (by omega)] | rw [if_neg (by omega)])
        · obtain h | h | h | h : t = 2 * k + 4 ∨ t = 2 * k + 5 ∨ t = 2 * k + 6 ∨ t = 2 * k + 7 := by omega
          all_goals subst h; repeat (first | rw [if_pos (by omega)] | rw [if_neg (by omega)])
      · by_cases h4 : t < 3 * k + 8
        · repeat (first | rw [if_pos (by omega)] | rw [if_neg (by omega)])
        · obtain h | h | h | h : t = 3 * k + 8 ∨ t = 3 * k + 9 ∨ t = 3 * k + 10 ∨ t = 3 * k + 11 := by omega
          all_goals subst h; repeat (first | rw [if_pos (by omega)] | rw [if_neg (by omega)])
theorem sysL_len (k code : Nat) : (sysL k code).length = k + 3 := by rw [sysL_eq]; simp [sysP]
theorem parI_len (k code : Nat) : (parI k code).length = k + 3 := by rw [parI_eq]; simp [parP]
theorem gi_app_l (a b : List Int) (i : Nat) (h : i < a.length) : gi (a ++ b) i = gi a i := by
  rw [gi_eq _ _ (by rw [List.length_append]; omega), gi_eq _ _ h, List.getElem_append_left]
theorem sys_bd (k code u i : Nat) (hk : k = szK u) (hc : code = 1 ∨ code = 2) (hi : i < k + 3) : 0 ≤ gi (sysL k code) i ∧ gi (sysL k code) i < ((3 * (k + 4) : Nat) : Int) ∧ (i < k → gi (sysL k code) i < (k : Int)) := by
  have hl : (sysP k code k).length = k := by simp [sysP]
  by_cases h : i < k
  · have e : gi (sysL k code) i = gi (osL k code) i := by
      rw [sysL_eq, gi_app_l _ _ _ (by rw [hl]; exact h), gi_eq _ _ (by rw [hl]; exact h)]
      simp [sysP]
    rw [e]
    rcases hc with rfl | rfl
    · rw [rng_gi h]; omega
    · have e2 : gi (osL k 2) i = (piN k i : Int) := by
        show gi (ordL k) i = _
        rw [gi_eq _ _ (by simpa [ordL] using h)]
        simp [ordL]
      rw [e2]
      have := (perm_map hk).1 i h
      omega
  · have hm := gi_mem (sysL k code) i (by rw [sysL_len]; exact hi)
    have hm2 : gi (sysL k code) i ∈ [(atN k code : Int), ((2 * (k + 4) + atN k code : Nat) : Int), ((k + 4 + atN k code + 1 : Nat) : Int)] := by
      have e : gi (sysL k code) i = gi [(atN k code : Int), ((2 * (k + 4) + atN k code : Nat) : Int), ((k + 4 + atN k code + 1 : Nat) : Int)] (i - k) := by
        rw [gi_eq _ _ (by rw [sysL_len]; exact hi), gi_eq _ _ (by simp; omega)]
        simp only [sysL_eq]
        rw [List.getElem_append_right (by rw [hl]; omega)]
        simp only [hl]
      rw [e]
      exact gi_mem _ _ (by simp; omega)
    have ha : atN k code ≤ k + 2 := by unfold atN; omega
    simp only [List.mem_cons, List.not_mem_nil, or_false] at hm2
    rcases hm2 with e | e | e <;> rw [e] <;> omega
theorem par_bd (k code i : Nat) (hc : code = 1 ∨ code = 2) (hi : i < k + 3) : 0 ≤ gi (parI k code) i ∧ gi (parI k code) i < ((3 * (k + 4) : Nat) : Int) := by
  have hm := gi_mem (parI k code) i (by rw [parI_len]; exact hi)
  have ha : atN k code ≤ k + 2 := by unfold atN; omega
  rw [parI_eq] at hm
  rcases List.mem_append.1 hm with h | h
  · obtain ⟨q, hq, e⟩ := List.mem_map.1 h
    have := List.mem_range.1 hq
    rw [parI_eq, ← e]
    rcases hc with rfl | rfl <;> omega
  · rw [parI_eq]
    simp only [List.mem_cons, List.not_mem_nil, or_false] at h
    rcases h with e | e | e <;> rw [e] <;> omega
theorem count_take (l : List Int) (j : Nat) (t : Int) (h : j < l.length) : (l.take (j + 1)).count t = (l.take j).count t + if gi l j = t then 1 else 0 := by
  rw [List.take_succ_eq_append_getElem h, List.count_append, List.count_cons, List.count_nil, gi_eq _ _ h]
  simp
def cntC (k code t : Nat) : Nat := (if 2 ≤ code then (sysL k 1).count (t : Int) + (parI k 1).count (t : Int) else 0) + (if 3 ≤ code then (sysL k 2).count (t : Int) + (parI k 2).count (t : Int) else 0)
def LstInv (w : World) (k N : Nat) (M : Option Addr) (i : Value) (wr : World) : Prop :=
  ∃ (code : Nat) (cs : List Int), 1 ≤ code ∧ code ≤ 3 ∧ i = .int .i64 code ∧ Own .i64 3 wr w.heap.size M N N cs ∧ (∀ t, t < N → gi cs t = (cntC k code t : Int)) ∧ Below w.heap.size w wr
theorem cntC_next (k code t : Nat) (h : code = 1 ∨ code = 2) : cntC k (code + 1) t = cntC k code t + (sysL k code).count (t : Int) + (parI k code).count (t : Int) := by
  rcases h with rfl | rfl
  · simp [cntC]
  · simp [cntC]; omega
theorem cntC_end (k u t : Nat) (hk : k = szK u) (ht : t < 3 * (k + 4)) : cntC k 3 t = if t < k then 2 else 1 := by
  rw [← cnt_all k u t hk ht]; simp [cntC]
theorem cnt_step (c : Nat → Nat) (cs S P : List Int) (N j p q : Nat) (hl : cs.length = N) (hp : p < N) (hq : q < N) (hS : gi S j = (p : Int)) (hP : gi P j = (q : Int)) (hj : j < S.length) (hj' : j < P.length)
    (h : ∀ t, t < N → gi cs t = ((c t + (S.take j).count (t : Int) + (P.take j).count (t : Int) : Nat) : Int)) :
    ∀ t, t < N → gi ((cs.set p (gi cs p + 1)).set q (gi (cs.set p (gi cs p + 1)) q + 1)) t = ((c t + (S.take (j + 1)).count (t : Int) + (P.take (j + 1)).count (t : Int) : Nat) : Int) := by
  intro t ht
  rw [gi_set _ _ _ _ (by rw [List.length_set]; omega), gi_set _ _ _ _ (by omega), gi_set _ _ _ _ (by omega), count_take _ _ _ hj, count_take _ _ _ hj', hS, hP]
  have ht' := h t ht
  by_cases e1 : p = t
  · subst e1
    by_cases e2 : q = p
    · subst e2; rw [if_pos rfl, if_pos rfl, if_pos rfl]; omega
    · rw [if_neg e2, if_pos rfl, if_pos rfl, if_neg (by omega)]; omega
  · by_cases e2 : q = t
    · subst e2; rw [if_pos rfl, if_neg e1, if_neg (by omega), if_pos rfl]; omega
    · rw [if_neg e2, if_neg e1, if_neg (by omega), if_neg (by omega)]; omega
def LstIn (w w1 : World) (k N code : Nat) (M A B : Option Addr) (c d : Nat) (i : Value) (wr : World) : Prop :=
  ∃ (j : Nat) (cs : List Int), j ≤ k + 3 ∧ i = .int .i64 j ∧ Own .i64 3 wr w.heap.size M N N cs ∧ (∀ t, t < N → gi cs t = ((cntC k code t + ((sysL k code).take j).count (t : Int) + ((parI k code).take j).count (t : Int) : Nat) : Int)) ∧ Own .i64 3 wr w1.heap.size A (k + 3) c (sysL k code) ∧ Own .i64 3 wr w1.heap.size B (k + 3) d (parI k code) ∧ Below w.heap.size w wr
theorem cnt_bd (k code j t : Nat) : cntC k code t + ((sysL k code).take j).count (t : Int) + ((parI k code).take j).count (t : Int) ≤ 6 * (k + 3) := by
  have h1 := List.count_le_length (l := sysL k 1) (a := (t : Int))
  have h2 := List.count_le_length (l := parI k 1) (a := (t : Int))
  have h3 := List.count_le_length (l := sysL k 2) (a := (t : Int))
  have h4 := List.count_le_length (l := parI k 2) (a := (t : Int))
  have h5 := List.count_le_length (l := (sysL k code).take j) (a := (t : Int))
  have h6 := List.count_le_length (l := (parI k code).take j) (a := (t : Int))
  rw [List.length_take] at h5 h6
  rw [sysL_len] at h1 h3 h5
  rw [parI_len] at h2 h4 h6
  unfold cntC
  split <;> split <;> omega
end Go.Proofs.Ytkagdiejpcfggaa
