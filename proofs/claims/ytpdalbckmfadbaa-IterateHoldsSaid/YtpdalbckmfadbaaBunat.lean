/-
  Bundle of the texts Ic TuZr. Conditions: none.
-/
import Derived.Test.YtpdalbckmfadbaaBunal
import Derived.Test.YtpdalbckmfadbaaBunai
import Derived.Test.YtpdalbckmfadbaaBunas
import Derived.Test.YtpdalbckmfadbaaBunar
namespace Go.Proofs.Ytpdalbckmfadbaa
open Go.RowKit
set_option linter.unusedVariables false
/-- the observation of a half-iteration -/
def obH (vs : List Int) (k code : Nat) (a : List Int) : Ob := ⟨pk vs (Tu.sysL k code), pk vs (Tu.parI k code), a⟩
/-- the code of half-iteration h -/
def cdN (h : Nat) : Nat := if h % 2 = 1 then 1 else 2
def bkL (k code : Nat) : List Int := if code = 1 then Tu.ordL k else Tu.invL k
/-- the a priori values behind h half-iterations -/
noncomputable def apN (vs : List Int) (k : Nat) : Nat → List Int
  | 0 => List.replicate k 0
  | h + 1 => pk (obH vs k (cdN (h + 1)) (apN vs k h)).dE (bkL k (cdN (h + 1)))
/-- the observation of half-iteration h + 1 -/
noncomputable def obN (vs : List Int) (k h : Nat) : Ob := obH vs k (cdN (h + 1)) (apN vs k h)
/-- the decisions of half-iteration h + 1 -/
noncomputable def decN (vs : List Int) (k h : Nat) : List Int := if cdN (h + 1) = 1 then (obN vs k h).dB else pk (obN vs k h).dB (Tu.invL k)
theorem sys_len (k code : Nat) : (Tu.sysL k code).length = k + 3 := by simp [Tu.sysL, Tu.stepsP_len]
theorem par_len (k code : Nat) : (Tu.parI k code).length = k + 3 := by simp [Tu.parI, Tu.stepsP_len]
theorem cnt2 (f : Nat → Nat) (i j t : Nat) (hij : i < j) (hi : f i = t) (hj : f j = t) : ∀ k, j < k → 2 ≤ ((List.range k).map f).count t
  | 0, h => by omega
  | k + 1, h => by
    rw [List.range_succ, List.map_append, List.count_append]
    by_cases e : j = k
    · subst e
      have h1 : 0 < ((List.range j).map f).count t := List.count_pos_iff.2 (List.mem_map.2 ⟨i, List.mem_range.2 hij, hi⟩)
      have h2 : [f j].count t = 1 := by rw [hj]; simp
      rw [List.map_cons, List.map_nil, h2]; omega
    · have := cnt2 f i j t hij hi hj k (by omega)
      omega
section
variable {k u : Nat} (hk : k = Tu.szK u)
include hk
theorem pi_inj (i j : Nat) (hi : i < k) (hj : j < k) (e : Tu.piN k i = Tu.piN k j) : i = j := by
  have hp := Tu.perm_map hk
  have h1 := hp.2 (Tu.piN k i) (hp.1 i hi)
  rcases Nat.lt_trichotomy i j with h | h | h
  · have := cnt2 (Tu.piN k) i j _ h rfl e.symm k hj
    omega
  · exact h
  · have := cnt2 (Tu.piN k) j i _ h e.symm rfl k hi
    omega
theorem inv_gi (i : Nat) (hi : i < k) : gi (Tu.invL k) (Tu.piN k i) = (i : Int) := Tu.invT_gi (Tu.perm_map hk).1 (fun i j => pi_inj hk i j) k (Nat.le_refl _) i hi
theorem pi_inv (i : Nat) (hi : i < k) : ∃ j, j < k ∧ Tu.piN k j = i ∧ gi (Tu.invL k) i = (j : Int) := by
  obtain ⟨j, hj, e⟩ := Tu.pi_onto u i (by rw [← hk]; exact hi)
  rw [← hk] at hj e
  exact ⟨j, hj, e, by rw [← e]; exact inv_gi hk j hj⟩
theorem sys_bd {code : Nat} (hc : code = 1 ∨ code = 2) {j : Nat} (hj : j < k + 3) : ∃ p : Nat, gi (Tu.sysL k code) j = (p : Int) ∧ p < 3 * (k + 4) := by
  have hm := gi_mem (Tu.sysL k code) j (by rw [sys_len]; exact hj)
  obtain ⟨v, hv⟩ : ∃ v, gi (Tu.sysL k code) j = v := ⟨_, rfl⟩
  rw [hv] at hm ⊢
  rw [Tu.sysL_eq] at hm
  rcases List.mem_append.1 hm with h | h
  · unfold Tu.sysP at h
    obtain ⟨q, hq, rfl⟩ := List.mem_map.1 h
    have hq := List.mem_range.1 hq
    rw [Tu.osL_gi k code q hc hq]
    refine ⟨_, rfl, ?_⟩
    split
    · omega
    · have := (Tu.perm_map hk).1 q hq; omega
  · have ha : Tu.atN k code ≤ k + 2 := by unfold Tu.atN; omega
    simp only [List.mem_cons, List.not_mem_nil, or_false] at h
    rcases h with rfl | rfl | rfl
    · exact ⟨_, rfl, by omega⟩
    · exact ⟨_, rfl, by omega⟩
    · exact ⟨_, rfl, by omega⟩
omit hk in
theorem par_bd {code : Nat} (hc : code = 1 ∨ code = 2) {j : Nat} (hj : j < k + 3) : ∃ p : Nat, gi (Tu.parI k code) j = (p : Int) ∧ p < 3 * (k + 4) := by
  have hm := gi_mem (Tu.parI k code) j (by rw [par_len]; exact hj)
  obtain ⟨v, hv⟩ : ∃ v, gi (Tu.parI k code) j = v := ⟨_, rfl⟩
  rw [hv] at hm ⊢
  rw [Tu.parI_eq] at hm
  rcases List.mem_append.1 hm with h | h
  · unfold Tu.parP at h
    obtain ⟨q, hq, rfl⟩ := List.mem_map.1 h
    have hq := List.mem_range.1 hq
    refine ⟨_, rfl, ?_⟩
    rcases hc with rfl | rfl <;> omega
  · have ha : Tu.atN k code ≤ k + 2 := by unfold Tu.atN; omega
    simp only [List.mem_cons, List.not_mem_nil, or_false] at h
    rcases h with rfl | rfl | rfl
    · exact ⟨_, rfl, by omega⟩
    · exact ⟨_, rfl, by omega⟩
    · exact ⟨_, rfl, by omega⟩
/-- the values of a word with right signs -/
def Sgn (vs : List Int) (k : Nat) (x : List Bool) (m : Nat → Int) : Prop := ∀ q, q < 3 * (k + 4) → gi vs q = m q * (1 - 2 * (bq (Tu.gB (Tu.wrd x) q) : Int)) ∧ 1 ≤ m q ∧ m q ≤ 127
theorem ob_rgt {x : List Bool} {vs : List Int} {m : Nat → Int} {code : Nat} {a : List Int} (hx : x.length = k) (hc : code = 1 ∨ code = 2) (hv : Sgn vs k x m) (hal : a.length = k)
    (ha : ∀ j, j < k → 0 ≤ gi a j * (1 - 2 * (bq ((Tu.inC x code).getD j false) : Int)) ∧ -127 ≤ gi a j ∧ gi a j ≤ 127) :
    Rgt (obH vs k code a) k (Tu.inC x code) (fun j => m (gi (Tu.sysL k code) j).toNat) (fun j => m (gi (Tu.parI k code) j).toNat) := by
  have hb := Tu.szK_bd u
  rw [← hk] at hb
  refine ⟨by rw [Tu.inC_len, hx], by omega, by omega, by show (pk _ _).length = _; rw [pk_len, sys_len], by show (pk _ _).length = _; rw [pk_len, par_len], hal, fun j hj => ?_, fun j hj => ?_, ha⟩
  · obtain ⟨p, e, hp⟩ := sys_bd hk hc hj
    obtain ⟨h1, h2, h3⟩ := hv p hp
    have hs : Tu.gB (Tu.selB (Tu.wrd x) (Tu.sysL k code)) j = Tu.gB (inW (Tu.inC x code)) j := by rw [Tu.sel_sys hx hk hc]; rfl
    have hw : Tu.gB (Tu.selB (Tu.wrd x) (Tu.sysL k code)) j = Tu.gB (Tu.wrd x) p := by
      unfold Tu.selB Tu.gB
      rw [List.getD_eq_getElem?_getD, List.getElem?_map, List.getElem?_eq_getElem (by rw [sys_len]; exact hj), ← gi_eq _ _ (by rw [sys_len]; exact hj), e]
      simp [List.getD]
    rw [hw] at hs
    show gi (pk vs _) j = _ ∧ _
    rw [gi_pk (by rw [sys_len]; exact hj), e, Int.toNat_natCast, h1, hs]
    exact ⟨rfl, h2, h3⟩
  · obtain ⟨p, e, hp⟩ := par_bd (k := k) hc hj
    obtain ⟨h1, h2, h3⟩ := hv p hp
    have hs : Tu.gB (Tu.selB (Tu.wrd x) (Tu.parI k code)) j = Tu.gB (outW (Tu.inC x code)) j := by rw [Tu.sel_par hx hc]; rfl
    have hw : Tu.gB (Tu.selB (Tu.wrd x) (Tu.parI k code)) j = Tu.gB (Tu.wrd x) p := by
      unfold Tu.selB Tu.gB
      rw [List.getD_eq_getElem?_getD, List.getElem?_map, List.getElem?_eq_getElem (by rw [par_len]; exact hj), ← gi_eq _ _ (by rw [par_len]; exact hj), e]
      simp [List.getD]
    rw [hw] at hs
    show gi (pk vs _) j = _ ∧ _
    rw [gi_pk (by rw [par_len]; exact hj), e, Int.toNat_natCast, h1, hs]
    exact ⟨rfl, h2, h3⟩
theorem mix_get {x : List Bool} (hx : x.length = k) {j : Nat} (hj : j < k) : (Tu.mixB x).getD j false = x.getD (Tu.piN k j) false := by
  subst hx
  unfold Tu.mixB
  simp [List.getD, hj]
/-- right signs: the first two half-iterations decide right -/
theorem clean_two {x : List Bool} {vs : List Int} {m : Nat → Int} (hx : x.length = k) (hv : Sgn vs k x m) : decN vs k 0 = x.map ib ∧ decN vs k 1 = x.map ib := by
  have r1 := ob_rgt hk hx (.inl rfl) hv (a := List.replicate k 0) (List.length_replicate ..) (fun j hj => by rw [gi_zero]; omega)
  obtain ⟨d1, l1, e1⟩ := clean_plain r1
  have ha : ∀ j, j < k → gi (apN vs k 1) j = gi (obH vs k 1 (List.replicate k 0)).dE (Tu.piN k j) := fun j hj => by
    show gi (pk _ (Tu.ordL k)) j = _
    rw [gi_pk (by rw [Tu.ordL_len]; exact hj)]
    congr 1
    rw [gi_eq _ _ (by rw [Tu.ordL_len]; exact hj)]
    simp [Tu.ordL]
  have hal : (apN vs k 1).length = k := by show (pk _ (Tu.ordL k)).length = k; rw [pk_len, Tu.ordL_len]
  have r2 := ob_rgt hk hx (.inr rfl) hv (a := apN vs k 1) hal (fun j hj => by
    rw [ha j hj]
    show 0 ≤ _ * (1 - 2 * (bq ((Tu.mixB x).getD j false) : Int)) ∧ _
    rw [mix_get hk hx hj]
    exact e1 _ ((Tu.perm_map hk).1 j hj))
  obtain ⟨d2, -, -⟩ := clean_plain r2
  refine ⟨d1, ?_⟩
  show pk (obH vs k 2 (apN vs k 1)).dB (Tu.invL k) = _
  rw [d2]
  have il : (Tu.invL k).length = k := Tu.invT_len k k
  refine ext_gi (by rw [pk_len, il]; simp [hx]) fun i hi => ?_
  have hi : i < k := by rw [pk_len, il] at hi; exact hi
  obtain ⟨j, hj, e2, e3⟩ := pi_inv hk i hi
  rw [gi_pk (by rw [il]; exact hi), e3, Int.toNat_natCast]
  show gi ((Tu.mixB x).map ib) j = _
  rw [gi_ib _ _ (by rw [Tu.mixB_len, hx]; exact hj), gi_ib _ _ (by rw [hx]; exact hi)]
  have := mix_get hk hx hj
  rw [e2] at this
  simp only [List.getD_eq_getElem?_getD] at this
  rw [List.getElem?_eq_getElem (by rw [Tu.mixB_len, hx]; exact hj), List.getElem?_eq_getElem (by rw [hx]; exact hi)] at this
  simp only [Option.getD_some] at this
  rw [this]
end
end Go.Proofs.Ytpdalbckmfadbaa

namespace Go.Proofs.Ytpdalbckmfadbaa.Tu
open Go.RowKit Go.Shelf
set_option linter.unusedVariables false
attribute [local go_sem] Oper.semAt_some
open Classical in
noncomputable def psI (k code : Int) : List (Int × Int) := if okCode k code then stepsP k.toNat code.toNat else []
open Classical in
noncomputable def eI (k code : Int) : Int := if okCode k code then 0 else 2
theorem ok_nat {k code : Int} (h : okCode k code) : ∃ a c : Nat, k = (a : Int) ∧ code = (c : Int) ∧ validK (a : Int) = true ∧ (c = 1 ∨ c = 2) := by
  obtain ⟨h1, h2, h3⟩ := h
  have h4 : 40 ≤ k := by
    unfold validK at h1
    simp only [decide_eq_true_eq] at h1
    omega
  exact ⟨k.toNat, code.toNat, by omega, by omega, by rw [Int.toNat_of_nonneg (by omega)]; exact h1, by omega⟩
theorem psI_ok {a c : Nat} (h : okCode (a : Int) (c : Int)) : psI a c = stepsP a c := by unfold psI; rw [if_pos h, Int.toNat_natCast, Int.toNat_natCast]
theorem psI_bad {k code : Int} (h : ¬ okCode k code) : psI k code = [] := by unfold psI; rw [if_neg h]
def LayP (w : World) (ps : List (Int × Int)) (er : Int) (e : Ending) (w' : World) : Prop :=
  ∃ A c B d, e = .returned (.tuple #[.slice A ps.length c, .slice B ps.length d, .int .i64 er]) ∧ Own .i64 3 w' w.heap.size A ps.length c (ps.map Prod.fst) ∧ Own .i64 3 w' w.heap.size B ps.length d (ps.map Prod.snd) ∧ Below w.heap.size w w'
theorem lay_all (k code : Int) (w : World) : Calls Try.prog 31 #[.int .i64 k, .int .i64 code] w (LayP w (psI k code) (eI k code)) := by
  by_cases h : okCode k code
  · obtain ⟨a, c, rfl, rfl, hv, hc⟩ := ok_nat h
    rw [psI_ok h, show eI a c = 0 from by unfold eI; rw [if_pos h]]
    refine (lay_any a c w hv hc).mono ?_
    rintro e w' ⟨A, n, B, d, rfl, hA, hB, hb⟩
    unfold LayP
    rw [stepsP_len]
    exact ⟨A, n, B, d, rfl, hA, hB, hb⟩
  · rw [psI_bad h, show eI k code = 2 from by unfold eI; rw [if_neg h]]
    refine (lay_bad k code w h).mono ?_
    rintro e w' ⟨rfl, hb⟩
    exact ⟨none, 0, none, 0, rfl, Own.nilv _ _ _ _, Own.nilv _ _ _ _, hb⟩
end Go.Proofs.Ytpdalbckmfadbaa.Tu

