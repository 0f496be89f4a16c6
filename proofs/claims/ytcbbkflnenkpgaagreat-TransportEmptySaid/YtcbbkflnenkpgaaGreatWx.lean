/-
  Positions, Match and each over the closure of Encode, both texts of them, in one. Condition: see the single theorems.
-/
import Derived.Test.YtcbbkflnenkpgaaGreatUy
import Derived.Test.YtcbbkflnenkpgaaGreatWa
namespace Go.Proofs.YtcbbkflnenkpgaaGreat
open Go.RowKit Go.Shelf
set_option linter.unusedVariables false
/-- the element that step i comes to -/
def rgV (B : List Int) (st N i : Nat) : Int := gi B ((st + i) % N)
/-- what has been selected behind t steps -/
def selL (B : List Int) (st N : Nat) : Nat → List Int
  | 0 => []
  | t + 1 => selL B st N t ++ (if 0 ≤ rgV B st N t then [rgV B st N t] else [])
theorem selL_pre (B : List Int) (st N s : Nat) : ∀ t, s ≤ t → ∃ r, selL B st N t = selL B st N s ++ r
  | 0, h => by obtain rfl : s = 0 := by omega
               exact ⟨[], by simp⟩
  | t + 1, h => by
    by_cases hs : s = t + 1
    · subst hs; exact ⟨[], by simp⟩
    · obtain ⟨r, hr⟩ := selL_pre B st N s t (by omega)
      refine ⟨r ++ (if 0 ≤ rgV B st N t then [rgV B st N t] else []), ?_⟩
      simp only [selL]
      rw [hr, List.append_assoc]
theorem selL_mono {B : List Int} {st N s t : Nat} (h : s ≤ t) : (selL B st N s).length ≤ (selL B st N t).length := by
  obtain ⟨r, hr⟩ := selL_pre B st N s t h
  rw [hr, List.length_append]; omega
/-- a shorter selection is the beginning of a longer one -/
theorem selL_take {B : List Int} {st N s t : Nat} (h : (selL B st N s).length ≤ (selL B st N t).length) : selL B st N s = (selL B st N t).take (selL B st N s).length := by
  rcases Nat.le_total s t with h1 | h1
  · obtain ⟨r, hr⟩ := selL_pre B st N s t h1
    rw [hr, List.take_left]
  · obtain ⟨r, hr⟩ := selL_pre B st N t s h1
    have h2 : r = [] := by
      apply List.eq_nil_of_length_eq_zero
      rw [hr, List.length_append] at h; omega
    subst h2
    rw [List.append_nil] at hr
    rw [hr, List.take_length]
theorem selL_uniq {B : List Int} {st N s t : Nat} (h : (selL B st N s).length = (selL B st N t).length) : selL B st N s = selL B st N t := by
  have h1 := selL_take (B := B) (st := st) (N := N) (s := s) (t := t) (Nat.le_of_eq h)
  rw [h, List.take_length] at h1
  exact h1
theorem selL_step {B : List Int} {st N t : Nat} (h : 0 ≤ rgV B st N t) : selL B st N (t + 1) = selL B st N t ++ [rgV B st N t] := by
  simp only [selL]; rw [if_pos h]
theorem selL_skip {B : List Int} {st N t : Nat} (h : rgV B st N t < 0) : selL B st N (t + 1) = selL B st N t := by
  simp only [selL]; rw [if_neg (by omega), List.append_nil]
theorem selL_hit {B : List Int} {st N j : Nat} (hj : j < N) (hu : 0 ≤ gi B j) (t : Nat) : (selL B st N t).length + 1 ≤ (selL B st N (t + N)).length := by
  obtain ⟨d, hd⟩ : ∃ d, d = (st + t) % N := ⟨_, rfl⟩
  have hdN : d < N := by rw [hd]; exact Nat.mod_lt _ (by omega)
  obtain ⟨x, hx⟩ : ∃ x, x = if d ≤ j then j - d else j + N - d := ⟨_, rfl⟩
  have hxN : x < N := by rw [hx]; split <;> omega
  have hm : (st + (t + x)) % N = j := by
    rw [← Nat.add_assoc, Nat.add_mod, ← hd]
    rw [Nat.mod_eq_of_lt hxN, hx]
    split
    · rw [show d + (j - d) = j by omega, Nat.mod_eq_of_lt hj]
    · rw [show d + (j + N - d) = j + N by omega, Nat.add_mod_right, Nat.mod_eq_of_lt hj]
  have hr : 0 ≤ rgV B st N (t + x) := by unfold rgV; rw [hm]; exact hu
  have h1 := selL_mono (B := B) (st := st) (N := N) (show t ≤ t + x by omega)
  have h2 := selL_mono (B := B) (st := st) (N := N) (show t + x + 1 ≤ t + N by omega)
  rw [selL_step hr, List.length_append] at h2
  simp only [List.length_singleton] at h2
  omega
theorem selL_many {B : List Int} {st N j : Nat} (hj : j < N) (hu : 0 ≤ gi B j) : ∀ m, m ≤ (selL B st N (m * N)).length
  | 0 => Nat.zero_le _
  | m + 1 => by
    have h1 := selL_many (B := B) (st := st) hj hu m
    have h2 := selL_hit (B := B) (st := st) hj hu (m * N)
    rw [Nat.add_mul, Nat.one_mul]; omega
theorem selL_lt {B : List Int} {st N j : Nat} (hj : j < N) (hu : 0 ≤ gi B j) {t e : Nat} (h : (selL B st N t).length < e) : t < e * N := by
  apply Classical.byContradiction
  intro hn
  have h1 := selL_many (B := B) (st := st) hj hu e
  have h2 := selL_mono (B := B) (st := st) (N := N) (show e * N ≤ t by omega)
  omega
/-- the elements of a selection lie in the buffer -/
theorem selL_mem {B : List Int} {st N : Nat} (hN : 0 < N) (hl : N ≤ B.length) : ∀ t x, x ∈ selL B st N t → 0 ≤ x ∧ x ∈ B
  | 0, x, h => by simp [selL] at h
  | t + 1, x, h => by
    simp only [selL] at h
    rcases List.mem_append.1 h with h | h
    · exact selL_mem hN hl t x h
    · split at h
      · rename_i hu
        have hx : x = rgV B st N t := by simpa using h
        rw [hx]
        exact ⟨hu, gi_mem B _ (Nat.lt_of_lt_of_le (Nat.mod_lt _ hN) hl)⟩
      · simp at h
theorem usC_ne {xs : List Int} : usC xs ≠ 0 ↔ ∃ j, j < xs.length ∧ 0 ≤ gi xs j := by
  constructor
  · intro h
    apply Classical.byContradiction
    intro hn
    apply h
    unfold usC
    rw [List.length_eq_zero_iff, List.filter_eq_nil_iff]
    intro x hx
    obtain ⟨j, hj, rfl⟩ := List.getElem_of_mem hx
    have h2 : ¬ 0 ≤ gi xs j := fun h3 => hn ⟨j, hj, h3⟩
    rw [gi_eq _ _ hj] at h2
    simpa using h2
  · rintro ⟨j, hj, hu⟩ h
    unfold usC at h
    rw [List.length_eq_zero_iff, List.filter_eq_nil_iff] at h
    have := h (gi xs j) (gi_mem xs j hj)
    simp at this
    omega
/-- the start of a redundancy version -/
def stS (k Z rv : Nat) : Nat := rwS (k + 4) * (2 * ((Z + 8 * rwS (k + 4) - 1) / (8 * rwS (k + 4))) * rv + 2) % Z
theorem ceil_two (Z p : Nat) (hp : 0 < p) : (Z + p - 1) / p = if 0 < Z % p then Z / p + 1 else Z / p := by
  have h := Nat.div_add_mod Z p
  have hm := Nat.mod_lt Z hp
  generalize Z / p = a at *
  generalize Z % p = r at *
  split
  · rw [show Z + p - 1 = (r - 1) + p * (a + 1) by rw [Nat.mul_add, Nat.mul_one]; omega, Nat.add_mul_div_left _ _ hp, Nat.div_eq_of_lt (by omega), Nat.zero_add]
  · rw [show Z + p - 1 = (p - 1) + p * a by omega, Nat.add_mul_div_left _ _ hp, Nat.div_eq_of_lt (by omega), Nat.zero_add]
end Go.Proofs.YtcbbkflnenkpgaaGreat

namespace Go.Proofs.YtcbbkflnenkpgaaGreat
open Go.RowKit Go.Shelf
set_option linter.unusedVariables false
attribute [local go_sem] Oper.semAt_some
structure StF (R Z rv P Q C D E F G S : Nat) : Prop where
  p : IntKind.i64.wrap (8 * (R : Int)) = (P : Int)
  zp : IntKind.i64.wrap ((Z : Int) + (P : Int)) = (Z : Int) + (P : Int)
  q : IntKind.i64.wrap ((Z : Int) + (P : Int) - 1) = (Q : Int)
  c : (Q : Int).tdiv (P : Int) = (C : Int)
  cw : IntKind.i64.wrap (C : Int) = (C : Int)
  d : IntKind.i64.wrap (2 * (C : Int)) = (D : Int)
  e : IntKind.i64.wrap ((D : Int) * (rv : Int)) = (E : Int)
  f : IntKind.i64.wrap ((E : Int) + 2) = (F : Int)
  g : IntKind.i64.wrap ((R : Int) * (F : Int)) = (G : Int)
  s : (G : Int).tmod (Z : Int) = (S : Int)
  sw : IntKind.i64.wrap (S : Int) = (S : Int)
  p0 : ¬ P = 0
  z0 : ¬ Z = 0
theorem stF (k Z rv : Nat) (h2 : k ≤ 6144) (hZ1 : 1 ≤ Z) (hZ : Z ≤ 20000) (hrv : rv ≤ 3) : ∃ P Q C D E F G, StF (rwS (k + 4)) Z rv P Q C D E F G (stS k Z rv) ∧ C = (Z + P - 1) / P ∧ P = 8 * rwS (k + 4) := by
  have hR := rwS_le (d := k + 4) (by omega)
  have hR1 := rwS_pos (d := k + 4) (by omega)
  obtain ⟨R, hRe⟩ : ∃ R, R = rwS (k + 4) := ⟨_, rfl⟩
  have hst : stS k Z rv = R * (2 * ((Z + 8 * R - 1) / (8 * R)) * rv + 2) % Z := by rw [hRe]; rfl
  rw [hst]
  rw [← hRe] at hR hR1 ⊢
  obtain ⟨C, hC⟩ : ∃ C, C = (Z + 8 * R - 1) / (8 * R) := ⟨_, rfl⟩
  have hC1 : C ≤ 30000 := by rw [hC]; exact Nat.le_trans (Nat.div_le_self _ _) (by omega)
  obtain ⟨E, hE⟩ : ∃ E, E = 2 * C * rv := ⟨_, rfl⟩
  have hE1 : E ≤ 180000 := by
    rw [hE]; exact Nat.le_trans (Nat.mul_le_mul_left (2 * C) hrv) (by omega)
  obtain ⟨G, hG⟩ : ∃ G, G = R * (E + 2) := ⟨_, rfl⟩
  have hG1 : G ≤ 193 * 180002 := by rw [hG]; exact Nat.mul_le_mul hR (by omega)
  have hS : G % Z < Z := Nat.mod_lt _ (by omega)
  rw [← hC, ← hE, ← hG]
  refine ⟨8 * R, Z + 8 * R - 1, C, 2 * C, E, E + 2, G, ⟨?_, ?_, ?_, ?_, ?_, ?_, ?_, ?_, ?_, ?_, ?_, by omega, by omega⟩, hC, rfl⟩
  · rw [IntKind.wrap_i64]; omega
  · rw [IntKind.wrap_i64]; omega
  · rw [IntKind.wrap_i64]; omega
  · rw [Int.tdiv_eq_ediv_of_nonneg (by omega), hC]; rfl
  · rw [IntKind.wrap_i64]; omega
  · rw [IntKind.wrap_i64]; omega
  · have e : ((2 * C : Nat) : Int) * (rv : Int) = (E : Int) := by rw [hE]; push_cast; rfl
    rw [e, IntKind.wrap_i64]; omega
  · rw [IntKind.wrap_i64]; omega
  · have e : (R : Int) * ((E + 2 : Nat) : Int) = (G : Int) := by rw [hG]; push_cast; rfl
    rw [e, IntKind.wrap_i64]; omega
  · rw [Int.tmod_eq_emod_of_nonneg (by omega)]; rfl
  · rw [IntKind.wrap_i64]; omega
set_option maxRecDepth 100000 in
theorem start_any (k f Z rv : Nat) (w : World) (h2 : k ≤ 6144) (hZ1 : 1 ≤ Z) (hZ : Z ≤ 20000) (hrv : rv ≤ 3) :
    Calls Tryz.prog 114 #[.agg #[.int .i64 k, .int .i64 f, .int .i64 (rwS (k + 4)), .int .i64 Z], .int .i64 rv] w fun e w' => e = .returned (.int .i64 (stS k Z rv)) ∧ Below w.heap.size w w' := by
  obtain ⟨P, Q, C, D, E, F, G, hF, -, -⟩ := stF k Z rv h2 hZ1 hZ hrv
  obtain ⟨f1, f2, f3, f4, f5, f6, f7, f8, f9, f10, f11, f12, f13⟩ := hF
  generalize stS k Z rv = S at *
  generalize rwS (k + 4) = R at *
  clear h2 hZ1 hZ hrv
  go_enter Tryz.func114, Tryz.ntmps114
  go_wp2_with fail
  go_quiet (fail)
  go_wp2
  go_ret
  exact ⟨rfl, ((Below.refl _ w).alloc (Nat.le_refl _) _).trans (Qt.below ⟨_, rfl⟩ _)⟩
theorem usable_any (x : Int) (w : World) : Calls Tryz.prog 109 #[.int .i64 x] w fun e w' => e = .returned (.bool (decide (0 ≤ x))) ∧ w = w' := by
  by_cases h : 0 ≤ x
  · rw [decide_eq_true h]
    go_enter Tryz.func109, Tryz.ntmps109
    go_wp2
    go_ret
    exact ⟨ret_bool (by first | (simp; done) | (simp; omega)), rfl⟩
  · rw [decide_eq_false h]
    go_enter Tryz.func109, Tryz.ntmps109
    go_wp2
    go_ret
    exact ⟨ret_bool (by first | (simp; done) | (simp; omega)), rfl⟩
set_option maxRecDepth 100000 in
theorem rstart_any (k Z rv : Nat) (w : World) (h1 : 40 ≤ k) (h2 : k ≤ 6144) (hZ1 : 1 ≤ Z) (hZ : Z ≤ 20000) (hrv : rv ≤ 3) :
    Calls Tryz.prog 78 #[.int .i64 k, .int .i64 Z, .int .i64 rv] w fun e w' => e = .returned (.int .i64 (stS k Z rv)) ∧ w = w' := by
  obtain ⟨P, Q, C, D, E, F, G, hF, hCq, hPq⟩ := stF k Z rv h2 hZ1 hZ hrv
  have hR1 := rwS_pos (d := k + 4) (by omega)
  obtain ⟨f1, f2, f3, f4, f5, f6, f7, f8, f9, f10, f11, f12, f13⟩ := hF
  have HRR := Lib.hid (fun W => rrows_any (k + 4) W (by omega) (by omega))
  have hP0 : 0 < P := by omega
  have hcl : C = if 0 < Z % P then Z / P + 1 else Z / P := by rw [hCq]; exact ceil_two Z P hP0
  have hkw : IntKind.i64.wrap ((k : Int) + 4) = ((k + 4 : Nat) : Int) := by rw [IntKind.wrap_i64]; omega
  generalize stS k Z rv = S at *
  generalize rwS (k + 4) = R at *
  have hdq : (Z : Int).tdiv (P : Int) = ((Z / P : Nat) : Int) := by rw [Int.tdiv_eq_ediv_of_nonneg (by omega)]; rfl
  have hmq : (Z : Int).tmod (P : Int) = ((Z % P : Nat) : Int) := by rw [Int.tmod_eq_emod_of_nonneg (by omega)]; rfl
  have hdl := Nat.div_le_self Z P
  have hml : Z % P < P := Nat.mod_lt _ hP0
  obtain ⟨a, ha⟩ : ∃ a, a = Z / P := ⟨_, rfl⟩
  obtain ⟨r, hr⟩ : ∃ r, r = Z % P := ⟨_, rfl⟩
  rw [← ha] at hdq hcl hdl
  rw [← hr] at hmq hcl hml
  have hde : (Z : Int) / (P : Int) = (a : Int) := by rw [ha]; rfl
  have hme : (Z : Int) % (P : Int) = (r : Int) := by rw [hr]; rfl
  have haw : IntKind.i64.wrap (a : Int) = (a : Int) := by rw [IntKind.wrap_i64]; omega
  clear ha hr hCq hPq h1 h2 hrv hP0 hR1
  by_cases hr0 : 0 < r
  · rw [if_pos hr0] at hcl
    have hac : IntKind.i64.wrap ((a : Int) + 1) = (C : Int) := by rw [IntKind.wrap_i64]; omega
    have hac2 : (a : Int) + 1 = (C : Int) := by omega
    clear hcl
    go_enter Tryz.func78, Tryz.ntmps78
    go_wp2_with (go_at_call 120; refine (HRR.out _).mono ?_; rintro e w1 ⟨rfl, rfl⟩)
    go_ret
    exact ⟨rfl, rfl⟩
  · rw [if_neg hr0] at hcl
    subst hcl
    have hrz : r = 0 := by omega
    subst hrz
    go_enter Tryz.func78, Tryz.ntmps78
    go_wp2_with (go_at_call 120; refine (HRR.out _).mono ?_; rintro e w1 ⟨rfl, rfl⟩)
    go_ret
    exact ⟨rfl, rfl⟩
def CfI (w : World) (n : Nat) (xs : List Int) (i : Value) (wr : World) : Prop := ∃ j : Nat, j ≤ n ∧ i = .int .i64 j ∧ (∀ q, q < j → gi xs q < 0) ∧ w = wr
set_option maxRecDepth 100000 in
theorem ixu_any (A : Option Addr) (n c : Nat) (xs : List Int) (w : World) (hx : Rd .i64 w A n c xs) (hn : n ≤ 100000) :
    Calls Tryz.prog 135 #[.slice A n c, .func (.func 109) #[] #[]] w fun e w' => ∃ r : Int, e = .returned (.int .i64 r) ∧ ((r = -1 ∧ ∀ q, q < n → gi xs q < 0) ∨ (0 ≤ r ∧ ∃ q, q < n ∧ 0 ≤ gi xs q)) ∧ w = w' := by
  go_enter Tryz.func135, Tryz.ntmps135
  go_wp2
  go_loopw [8] (fun i wr => CfI w n xs i wr) (fun i _ => n - (intOf i).toNat)
  case atStart => exact ⟨0, by omega, rfl, by intro q hq; omega, rfl⟩
  case round =>
    obtain ⟨j, hj, rfl, hv, rfl⟩ := hrel
    have HV := Lib.hid hv
    clear hv
    by_cases hlt : j < n
    · have hc := Rd.cell hx hlt
      have hix := fun W => Rdv.ix hx el34 hlt .i64 W
      by_cases h0 : 0 ≤ gi xs j
      · have HU := Lib.hid (usable_any (gi xs j) w)
        rw [decide_eq_true h0] at HU
        have H0 := Lib.hid h0
        clear h0
        generalize hgv : gi xs j = gv at *
        go_wp2_with (go_at_call 109; refine HU.out.mono ?_; rintro e w1 ⟨rfl, rfl⟩)
        go_ret
        exact ⟨_, rfl, .inr ⟨by omega, j, hlt, by rw [hgv]; exact H0.out⟩, rfl⟩
      · have HU := Lib.hid (usable_any (gi xs j) w)
        rw [decide_eq_false h0] at HU
        have H0 : Hid (gi xs j < 0) := Lib.hid (by omega)
        clear h0
        generalize hgv : gi xs j = gv at *
        go_wp2_with (go_at_call 109; refine HU.out.mono ?_; rintro e w1 ⟨rfl, rfl⟩)
        go_roundw
        case rel => exact ⟨j + 1, by omega, by go_num, lt_succ_cases HV.out (by rw [hgv]; exact H0.out), rfl⟩
        case measure => simp [intOf]; omega
    · have he : j = n := by omega
      subst he
      go_wp2
      go_ret
      exact ⟨-1, rfl, .inl ⟨rfl, HV.out⟩, rfl⟩
theorem cfu_any (A : Option Addr) (n c : Nat) (xs : List Int) (w : World) (hx : Rd .i64 w A n c xs) (hn : n ≤ 100000) :
    Calls Tryz.prog 112 #[.slice A n c, .func (.func 109) #[] #[]] w fun e w' => e = .returned (.bool (decide (usC xs ≠ 0))) ∧ w = w' := by
  have HI := Lib.hid (ixu_any A n c xs w hx hn)
  have hl := hx.len
  have HU := Lib.hid (usC_ne (xs := xs))
  go_enter Tryz.func112, Tryz.ntmps112
  go_wp2_with fail
  refine HI.out.mono ?_
  rintro e w1 ⟨r, rfl, h, rfl⟩
  rcases h with ⟨rfl, hv⟩ | ⟨h0, q, hq, hu⟩
  · have hd : decide (usC xs ≠ 0) = false := by
      rw [decide_eq_false_iff_not]
      intro h
      obtain ⟨j, hj, hg⟩ := HU.out.1 h
      have := hv j (by omega)
      omega
    have HD := Lib.hid hd
    clear hd hv
    go_wp2
    go_ret
    exact ⟨ret_bool (by first | (rw [HD.out]; done) | (rw [HD.out]; simp; done) | (rw [HD.out]; simp; omega)), rfl⟩
  · have hd : decide (usC xs ≠ 0) = true := by
      rw [decide_eq_true_iff]
      exact HU.out.2 ⟨q, by omega, hu⟩
    have HD := Lib.hid hd
    clear hd hu
    go_wp2
    go_ret
    exact ⟨ret_bool (by first | (rw [HD.out]; done) | (rw [HD.out]; simp; done) | (rw [HD.out]; simp; omega)), rfl⟩
end Go.Proofs.YtcbbkflnenkpgaaGreat

namespace Go.Proofs.YtcbbkflnenkpgaaGreat
open Go.RowKit Go.Shelf
set_option linter.unusedVariables false
attribute [local go_sem] Oper.semAt_some
def SeqF {α : Type} (m gf : Nat) (lb : Array Value) (encs : α → Array Value) (Kp : World → World → Prop) (S Sp : List α → Prop) (Ok : List α → α → Prop) (T : Nat) (w : World) : Prop :=
  ∀ (l : Nat) (J Jx : List α → World → Prop) (W : World), Below w.heap.size w W → ClB J → ClB Jx →
    (∀ pre x W1, J pre W1 → Ok pre x → YieldAt Fence.wide (m - 1) Tryz.prog l (encs x) W1 fun e W' =>
      (e = .returned (.bool true) ∧ J (pre ++ [x]) W' ∧ Kp W1 W') ∨ (e = .returned (.bool false) ∧ Jx (pre ++ [x]) W')) →
    (∀ pre W, J pre W → pre.length < T) → J [] W →
    CallsIn Fence.wide m Tryz.prog gf (#[.func (.yield l) #[] #[]] ++ lb) W fun e W' => (∃ v, e = .returned v) ∧ ((∃ xs, S xs ∧ J xs W') ∨ (∃ pre, Sp pre ∧ Jx pre W'))
theorem rangeF {α : Type} {g : Operand} {ps : Array Tmp} {assign body : Code} {Q : Exit → Act → World → Prop} {a : Act} {w : World}
    {gf : Nat} {lb : Array Value} (hg : a.eval g = .func (.func gf) #[] lb) (eg : ∀ args w, (callFunc gf args).run Tryz.prog w = .ok (.enter gf args) w)
    {encs : α → Array Value} {Kp : World → World → Prop} {S Sp : List α → Prop} {Ok : List α → α → Prop} {w0 : World} {T : Nat} (hseq : SeqF 2 gf lb encs Kp S Sp Ok T w0)
    (hKt : ∀ {A B C : World}, Kp A B → Kp B C → Kp A C) (hKb : ∀ (W : World) (l : Nat) (o o' : Obj), w.heap.size ≤ l → W.heap[l]? = some o → o.isCells = false → Kp W (W.putObj l o')) (hb0 : Below w0.heap.size w0 w) (hps : ∀ x, (encs x).size = ps.size)
    (I : List α → World → Prop) (Ix : Code → List α → World → Prop) (hI : ClB I) (hIx : ∀ c, ClB (Ix c)) (hIp : ClP w.heap.size I) (hIxp : ∀ c, ClP w.heap.size (Ix c)) (hIT : ∀ pre W, I pre W → pre.length < T) (h0 : I [] w) (a₁ : α → Act)
    (hassign : ∀ (l : Nat) (x : α) (W : World) (K : Act → World → Prop), K (a₁ x) W →
      assign.wpIn (Fence.wide.inRound l) 1 Tryz.prog (Exit.then K (fun _ _ _ => False)) { tmps := (ps.zip (encs x)).foldl (fun t (p, v) => t.setIfInBounds p v) a.tmps, defers := [] } W)
    (hbody : ∀ (l : Nat) (pre : List α) (x : α) (W : World), I pre W → Ok pre x → body.wpIn (Fence.wide.inRound l) 1 Tryz.prog (ownPostK Kp I Ix (pre ++ [x]) W) (a₁ x) W)
    (hdone : ∀ (D : Nat) (xs : List α) (W : World), w.heap.size ≤ D → S xs → I xs W → W.heap[D]? = some (.deferred (some [])) → Q .normal { a with defers := { target := .collected D, args := #[] } :: a.defers } W)
    (hstop : ∀ (D : Nat) (c : Code) (pre : List α) (W : World), w.heap.size ≤ D → Sp pre → Ix c pre W → W.heap[D]? = some (.deferred (some [])) → c.wpIn Fence.wide 3 Tryz.prog Q { a with defers := { target := .collected D, args := #[] } :: a.defers } W) :
    (Code.rangeFunc g ps assign body).wpIn Fence.wide 3 Tryz.prog Q a w := by
  refine wpIn_rangeFunc fun fn hfn => ?_
  obtain ⟨n, hn⟩ : ∃ n, n = w.heap.size := ⟨_, rfl⟩
  rw [← hn] at hKb hIp hIxp hdone hstop
  obtain ⟨rc, hrc⟩ : ∃ rc : LoopState → Option Code → Loop, rc = fun st pe => { state := st, pending := pe, fn, tmps := a.tmps, params := ps, assign, body, defers := n } := ⟨_, rfl⟩
  obtain ⟨W1, hW1⟩ : ∃ W1, W1 = (w.alloc (.deferred (some []))).alloc (.loop (rc .ready none)) := ⟨_, rfl⟩
  have hs1 : W1.heap.size = n + 2 := by rw [hW1, hn]; simp
  have hL1 : W1.heap[n + 1]? = some (.loop (rc .ready none)) := by
    rw [hW1, hn]
    have h := World.alloc_heap_new (w.alloc (.deferred (some []))) (.loop (rc .ready none))
    rwa [World.size_alloc] at h
  have hK1 : W1.heap[n]? = some (.deferred (some [])) := by
    rw [hW1, hn]
    exact (Below.heap_alloc _ _ _ (by simp)).trans (World.alloc_heap_new w _)
  have hI1 : I [] W1 := by rw [hW1]; exact hI.alloc _ (hI.alloc _ h0)
  have hb1 : Below w0.heap.size w0 W1 := by
    rw [hW1]
    exact hb0.trans ((((Below.refl _ w).alloc (Nat.le_refl _) _).alloc (by simp) _).mono hb0.size)
  -- the loop's two blocks: nothing behind them turns them
  have two : ∀ {A B : World} {row : Option Nat} {o p : Obj}, A.grownBy B row → (∀ r, row = some r → W1.heap.size ≤ r) → A.heap[n + 1]? = some o ∧ A.heap[n]? = some p → B.heap[n + 1]? = some o ∧ B.heap[n]? = some p := fun {A B row o p} hgr hr h =>
    ⟨(hgr.block _ (Array.getElem?_eq_some_iff.1 h.1).1 (fun e => by have := hr _ e.symm; omega)).trans h.1, (hgr.block _ (Array.getElem?_eq_some_iff.1 h.2).1 (fun e => by have := hr _ e.symm; omega)).trans h.2⟩
  have up : ∀ {row : Option Nat}, (∀ r, row = some r → W1.heap.size ≤ r) → ∀ r, row = some r → n ≤ r := fun hr r e => by have := hr r e; omega
  refine ⟨n + 1, [{ target := .collected n, args := #[] }], W1, { target := .fn (.func gf) lb, args := #[.func (.yield (n + 1)) #[] #[]] }, W1, gf, #[.func (.yield (n + 1)) #[] #[]] ++ lb, W1, ?_, ?_, ?_, ?_, fun _ => by omega, ?_⟩
  · rw [hW1, hrc, hn]
    exact run_enterLoop_outer _ _ _ _ _
  · simp only [resolve, hg]
    simp [go_sem]
  · intro f hf
    simp [Target.leads] at hf
    subst hf
    trivial
  · simp [invoke, go_sem, eg]
  refine (hseq (n + 1)
    (fun pre W => I pre W ∧ W.heap[n + 1]? = some (.loop (rc .ready none)) ∧ W.heap[n]? = some (.deferred (some [])))
    (fun pre W => ∃ c, Ix c pre W ∧ W.heap[n + 1]? = some (.loop (rc .done (some c))) ∧ W.heap[n]? = some (.deferred (some [])))
    W1 hb1 (fun s A B hs hb => ⟨hI s A B hs.1 hb, two (grown_of_below hb) nofun hs.2⟩)
    (fun s A B ⟨c, hc, hs⟩ hb => ⟨c, hIx c s A B hc hb, two (grown_of_below hb) nofun hs⟩) ?_ (fun pre W h => hIT pre W h.1) ⟨hI1, hL1, hK1⟩).mono ?_
  · rintro pre x W ⟨hi, hl, hk⟩ hlen
    have hlt : n + 1 < W.heap.size := (Array.getElem?_eq_some_iff.1 hl).1
    obtain ⟨Wb, hWb⟩ : ∃ Wb, Wb = W.putObj (n + 1) (.loop { rc .ready none with state := .busy }) := ⟨_, rfl⟩
    have hlb : Wb.heap[n + 1]? = some (.loop { rc .ready none with state := .busy }) := by rw [hWb]; exact World.putObj_heap_same hlt
    have hkb : Wb.heap[n]? = some (.deferred (some [])) := by rw [hWb]; exact (World.putObj_heap_other (by omega)).trans hk
    have hib : I pre Wb := by rw [hWb]; exact hIp _ _ _ _ _ hi (by omega) hl rfl
    have hpb : Kp W Wb := by rw [hWb]; exact hKb _ _ _ _ (by omega) hl rfl
    have hyl := run_yield (P := Tryz.prog) (args := encs x) hl (by rw [hrc]; exact hps x)
    rw [hrc] at hyl
    refine ⟨fn, _, assign, body, hyl, roundIn_of_wpIn hfn (hassign _ x W _ ⟨_, run_beginRound hl (by rw [hrc]), ?_⟩)⟩
    rw [← hWb]
    refine wpIn_mono (hbody _ pre x _ hib hlen) ?_
    have close : ∀ (jump : Option Code) (W3 : World), KeepsOthers Wb W3 → ∃ W4, W4 = W3.putObj (n + 1) (.loop (rc (if jump.isNone then .ready else .done) jump)) ∧ (Instr.endRound (n + 1) jump).run Tryz.prog W3 = .ok (.bool jump.isNone) W4 ∧
        (∃ o : Obj, W3.heap[n + 1]? = some o ∧ o.isCells = false) ∧ W4.heap[n + 1]? = some (.loop (rc (if jump.isNone then .ready else .done) jump)) ∧ W4.heap[n]? = some (.deferred (some [])) := fun jump W3 hk3 => by
      have hl3 := hk3.same _ _ hlb rfl
      have hr3 := run_endRound (P := Tryz.prog) jump hl3
      rw [hrc] at hr3 ⊢
      exact ⟨_, rfl, hr3, ⟨_, hl3, rfl⟩, World.putObj_heap_same (Array.getElem?_eq_some_iff.1 hl3).1, (World.putObj_heap_other (by omega)).trans (hk3.same _ _ hkb rfl)⟩
    have away : ∀ (c : Code) (W3 : World), KeepsOthers Wb W3 → Ix c (pre ++ [x]) W3 → ∃ v W4, (Instr.endRound (n + 1) (some c)).run Tryz.prog W3 = .ok v W4 ∧ v = .bool false ∧ ∃ c', Ix c' (pre ++ [x]) W4 ∧ W4.heap[n + 1]? = some (.loop (rc .done (some c'))) ∧ W4.heap[n]? = some (.deferred (some [])) := fun c W3 hk3 hi3 => by
      obtain ⟨W4, e4, hr, ⟨o, ho, hc⟩, h1, h2⟩ := close (some c) W3 hk3
      exact ⟨_, W4, hr, rfl, c, by rw [e4]; exact hIxp c _ _ _ _ _ hi3 (by omega) ho hc, h1, h2⟩
    rintro e a3 W3 hp
    cases e with
    | normal =>
      obtain ⟨hk3, hp3, hi3⟩ := hp
      obtain ⟨W4, e4, hr, ⟨o, ho, hc⟩, h1, h2⟩ := close none W3 hk3
      refine ⟨_, W4, hr, .inl ⟨rfl, ⟨?_, h1, h2⟩, hKt (hKt hpb hp3) ?_⟩⟩
      · rw [e4]; exact hIp _ _ _ _ _ hi3 (by omega) ho hc
      · rw [e4]; exact hKb _ _ _ _ (by omega) ho hc
    | ret =>
      obtain ⟨v, W4, hr, hv, h⟩ := away .ret W3 hp.1 hp.2
      exact ⟨v, W4, hr, .inr ⟨by rw [hv], h⟩⟩
    | exit id =>
      obtain ⟨v, W4, hr, hv, h⟩ := away (.exit id) W3 hp.1 hp.2
      exact ⟨v, W4, hr, .inr ⟨by rw [hv], h⟩⟩
    | goto t =>
      obtain ⟨v, W4, hr, hv, h⟩ := away (.goto t) W3 hp.1 hp.2
      exact ⟨v, W4, hr, .inr ⟨by rw [hv], h⟩⟩
    | panic ch => exact hp.elim
    | outgrown => exact hp.elim
  · rintro e W2 ⟨⟨v, rfl⟩, h⟩
    rcases h with ⟨xs, hS, hi, hl, hk⟩ | ⟨pre, hSp, c, hi, hl, hk⟩
    · have hr := run_endLoop (P := Tryz.prog) hl (by rw [hrc]; simp)
      rw [hrc] at hr
      exact ⟨none, _, hr, hdone _ xs _ (Nat.le_refl _) hS (hIp _ _ _ _ _ hi (by omega) hl rfl) ((World.putObj_heap_other (by omega)).trans hk)⟩
    · have hr := run_endLoop (P := Tryz.prog) hl (by rw [hrc]; simp)
      rw [hrc] at hr
      exact ⟨some c, _, hr, hstop _ c pre _ (Nat.le_refl _) hSp (hIxp c _ _ _ _ _ hi (by omega) hl rfl) ((World.putObj_heap_other (by omega)).trans hk)⟩

def encI (x : Int) : Array Value := #[.int .i64 x]
set_option maxRecDepth 100000 in
theorem around_any (A : Option Addr) (N c st : Nat) (w : World) : Calls Tryz.prog 113 #[.slice A N c, .int .i64 st] w fun e w' => e = .returned (.func (.func 138) #[] #[.pointer (some ⟨w.heap.size + 1, 0, none⟩), .pointer (some ⟨w.heap.size, 0, none⟩)]) ∧ Blk w' w.heap.size 60 [.slice A N c] ∧ Blk w' (w.heap.size + 1) 3 [.int .i64 st] ∧ Below w.heap.size w w' := by
  have hmf : ∀ (fn : Fn) (first cap : Array Value) (w : World), (Instr.makeFunc fn first cap).run Tryz.prog w = .ok (.func fn first cap) w := fun _ _ _ _ => rfl
  go_enter Tryz.func113, Tryz.ntmps113
  go_wp2
  go_ret
  exact ⟨rfl, (Blk.new w [.slice A N c] 60 rfl).alloc _, Blk.new (w.alloc _) [.int .i64 st] 3 (by simp), ((Below.refl _ w).alloc (Nat.le_refl _) _).alloc (by simp) _⟩
theorem least (P : Nat → Prop) : ∀ n v, v ≤ n → P v → ∃ v, P v ∧ ∀ u, u < v → ¬ P u
  | 0, v, h, hv => ⟨v, hv, fun u hu => by omega⟩
  | n + 1, v, h, hv => by
    by_cases hx : ∃ u, u < v ∧ P u
    · obtain ⟨u, hu, hp⟩ := hx
      exact least P n u (by omega) hp
    · exact ⟨v, hv, fun u hu hp => hx ⟨u, hu, hp⟩⟩
open Classical in
/-- the least number of a kind -/
noncomputable def mz (P : Nat → Prop) : Nat := if h : ∃ v, P v ∧ ∀ u, u < v → ¬ P u then Classical.choose h else 0
theorem mz_spec {P : Nat → Prop} {v : Nat} (hv : P v) : P (mz P) ∧ mz P ≤ v := by
  have h := least P v v (Nat.le_refl _) hv
  unfold mz
  rw [dif_pos h]
  have hs := Classical.choose_spec h
  refine ⟨hs.1, ?_⟩
  apply Classical.byContradiction
  intro hn
  exact hs.2 v (by omega) hv
/-- the ring's state -/
structure ArS (B : List Int) (N : Nat) (A : Option Addr) (c BB : Nat) (J : List Int → World → Prop) (pre : List Int) (wr : World) : Prop where
  j : J pre wr
  b : Blk wr BB 60 [.slice A N c]
  r : Rd .i64 wr A N c B
def ArM (B : List Int) (st N : Nat) (A : Option Addr) (c BB T : Nat) (J : List Int → World → Prop) (i : Value) (wr : World) (v : Nat) : Prop :=
  ∃ pre : List Int, v = T - pre.length ∧ i = .int .i64 (((st + pre.length) % N : Nat) : Int) ∧ ArS B N A c BB J pre wr
set_option maxRecDepth 100000 in
set_option maxHeartbeats 2000000 in
theorem ar_in (l : Nat) (B : List Int) (st N : Nat) (A : Option Addr) (c FB BB T : Nat) (hN1 : 1 ≤ N) (hN : N ≤ 100000) (hst : st < N) (Kp : World → World → Prop) (W : World)
    (hF : Blk W FB 3 [.int .i64 st]) (hB : Blk W BB 60 [.slice A N c]) (hR : Rd .i64 W A N c B)
    (hkp : ∀ X Y, Kp X Y → Blk X BB 60 [.slice A N c] → Rd .i64 X A N c B → Blk Y BB 60 [.slice A N c] ∧ Rd .i64 Y A N c B)
    (J Jx : List Int → World → Prop) (hJ : ClB J) (hJx : ClB Jx)
    (hY : ∀ pre x W1, J pre W1 → x = rgV B st N pre.length → YieldAt Fence.wide 1 Tryz.prog l (encI x) W1 fun e W' =>
      (e = .returned (.bool true) ∧ J (pre ++ [x]) W' ∧ Kp W1 W') ∨ (e = .returned (.bool false) ∧ Jx (pre ++ [x]) W'))
    (hT : ∀ pre W, J pre W → pre.length < T) (h0 : J [] W) :
    CallsIn Fence.wide 2 Tryz.prog 138 #[.func (.yield l) #[] #[], .pointer (some ⟨FB, 0, none⟩), .pointer (some ⟨BB, 0, none⟩)] W fun e W' => (∃ v, e = .returned v) ∧ ((∃ xs : List Int, False ∧ J xs W') ∨ (∃ pre, True ∧ Jx pre W')) := by
  have c1 := hF.cell (j := 0) (v := .int .i64 st) rfl
  have HKP := Lib.hid hkp
  have HT := Lib.hid hT
  have HY := Lib.hid hY
  have HS0 : Hid (ArS B N A c BB J [] W) := Lib.hid ⟨h0, hB, hR⟩
  have hm0 : (st + 0) % N = st := Nat.mod_eq_of_lt (by omega)
  clear hkp hT hF hB hR h0 hY
  refine callsIn_of_wp Tryz.func138 rfl trivial ?_ rfl
  simp only [Tryz.ntmps138, List.size_toArray, List.length_cons, List.length_nil, Nat.reduceAdd, Nat.reduceSub, Array.replicate_succ, Array.replicate_zero, List.push_toArray, List.append_toArray, List.nil_append, List.cons_append]
  gi_wp2_with fail
  gi_loopw [4] (fun i wr => ∃ v, ArM B st N A c BB T J i wr v) (fun i wr => mz (ArM B st N A c BB T J i wr))
  case atStart => exact ⟨T - 0, [], rfl, by simp only [List.length_nil]; rw [hm0], HS0.out⟩
  case round =>
    obtain ⟨v0, hv0⟩ := hrel
    have hsp := (mz_spec hv0).1
    obtain ⟨M, hM⟩ : ∃ M, M = mz (ArM B st N A c BB T J u4 wr) := ⟨_, rfl⟩
    rw [← hM] at hsp
    clear hv0 c1 HS0
    obtain ⟨pre, hMe, rfl, hS⟩ := hsp
    have hpl := HT.out pre wr hS.j
    obtain ⟨p, hp⟩ : ∃ p, p = (st + pre.length) % N := ⟨_, rfl⟩
    have hpN : p < N := by rw [hp]; exact Nat.mod_lt _ (by omega)
    have HPX := Lib.hid (show rgV B st N pre.length = gi B p by rw [hp]; rfl)
    have HPN := Lib.hid (show (p + 1) % N = (st + (pre.length + 1)) % N by rw [hp, Nat.mod_add_mod, Nat.add_assoc])
    rw [← hp] at hM ⊢
    have HM := Lib.hid hM
    clear hM
    have cB := hS.b.cell (j := 0) (v := .slice A N c) rfl
    have cj := Rd.cell hS.r (j := p) hpN
    have ixp := fun W => Rdv.ix hS.r el34 (j := p) hpN .i64 W
    obtain ⟨x, hx⟩ : ∃ x, x = gi B p := ⟨_, rfl⟩
    rw [← hx] at cj HPX
    obtain ⟨fn, tmps, assign, body, hy, hRD⟩ := HY.out pre x wr hS.j HPX.out.symm
    unfold encI at hy
    have HRD := Lib.hid hRD
    have HSB := Lib.hid hS.b
    have HSR := Lib.hid hS.r
    obtain ⟨r, hr⟩ : ∃ r, r = (p + 1) % N := ⟨_, rfl⟩
    have hrw : IntKind.i64.wrap ((p : Int) + 1) = (p : Int) + 1 := by rw [IntKind.wrap_i64]; omega
    have hrm : ((p : Int) + 1).tmod (N : Int) = (r : Int) := by rw [Int.tmod_eq_emod_of_nonneg (by omega), hr]; rfl
    have hre : ((p : Int) + 1) % (N : Int) = (r : Int) := by rw [hr]; rfl
    have hrN : r < N := by rw [hr]; exact Nat.mod_lt _ (by omega)
    have hrw2 : IntKind.i64.wrap (r : Int) = (r : Int) := by rw [IntKind.wrap_i64]; omega
    have hN0 : ¬ N = 0 := by omega
    have HR := Lib.hid hr
    clear hRD hS hp hx hr
    gi_wp2_with fail
    refine HRD.out.mono ?_
    rintro e W7 (⟨rfl, hJ7, hk7⟩ | ⟨rfl, hJx7⟩)
    · obtain ⟨hb7, hr7⟩ := HKP.out _ _ hk7 HSB.out HSR.out
      have cB7 := hb7.cell (j := 0) (v := .slice A N c) rfl
      have HN7 : Hid (ArM B st N A c BB T J (.int .i64 (r : Int)) W7 (T - (pre.length + 1))) := Lib.hid ⟨pre ++ [x], by simp, by rw [HR.out, HPN.out]; simp, hJ7, hb7, hr7⟩
      clear hb7 hr7 hk7
      gi_wp2
      go_roundw
      case rel => exact ⟨_, HN7.out⟩
      case measure =>
        have h9 := (mz_spec HN7.out).2
        have h8 := HM.out
        omega
    · gi_wp2
      go_end0
      exact ⟨⟨_, rfl⟩, .inr ⟨_, trivial, hJx7⟩⟩
end Go.Proofs.YtcbbkflnenkpgaaGreat

namespace Go.Proofs.YtcbbkflnenkpgaaGreat
open Go.RowKit Go.Shelf
set_option linter.unusedVariables false
attribute [local go_sem] Oper.semAt_some
section
variable {P : Program} {w : World} {n : Nat} {e : TypeId}
theorem callR {l n g : Nat} {args : Array Value} {W : World} {Q : Ending → World → Prop} (h : Calls P g args W Q) : Fence.wide.fn g ∧ CallsIn (Fence.wide.inRound l) n P g args W Q := ⟨trivial, CallsIn.inRound l (callsIn_wide.2 h)⟩
/-- an append in a round -/
theorem listAp {P : Program} {Q : Exit → Act → World → Prop} {n l : Nat} {ops : Array Oper} {rest : List Oper} {a : Act} {w : World} {d : Option Tmp} {aa : Array Operand} {ts : Array TypeId} {t : TypeId} {ps : String} {af : Array Edge} (hL : ¬ LetsOut Q)
    (h : ∀ K : Act → World → Prop, (∀ a w, wpListIn (Fence.wide.inRound l) n P ops Q rest a w → K a w) → ({ dst := d, op := .call { callee := .builtin .append, args := aa, argTypes := ts }, type := t, pos := ps, after := af, guard := none } : Oper).wp P a w K Q) :
    wpListIn (Fence.wide.inRound l) n P ops Q ({ dst := d, op := .call { callee := .builtin .append, args := aa, argTypes := ts }, type := t, pos := ps, after := af, guard := none } :: rest) a w := listRn_of rfl nofun hL h
/-- make with length 0 -/
theorem wp_mk0 {o : Oper} {a : Act} {K : Act → World → Prop} {Q : Exit → Act → World → Prop} (l r : Operand) (t : TypeId)
    (ho : o.op = .makeSlice t l r) {z : Value} {bytes : Nat} (hE : El P t e z bytes) {kl kr : IntKind} (hs : a.eval l = .int kl 0) (hx : a.eval r = .int kr (n : Int))
    (hby : bytes * n ≤ 281474976710656) (hm : n ≤ maxLen)
    (h : ∀ A w', Ownv e w' w.heap.size A 0 n [] → Below w.heap.size w w' → K (a.put o.dst (.slice A 0 n)) w') : o.wp P a w K Q := by
  obtain ⟨i, hi, hz0, hz1, hz2⟩ := info_parts hE.i
  have hb' : ((bytes : Nat) : Int) * (n : Int) ≤ 281474976710656 := by
    have h' : ((bytes * n : Nat) : Int) ≤ 281474976710656 := by omega
    rwa [Int.natCast_mul] at h'
  have hr := run_make (P := P) w t e i z hE.u hi hz0 kl kr 0 n (by omega) (by omega) (by rw [hz2]; exact hb') (by unfold maxLen at hm; omega)
  simp only [Int.toNat_natCast, Int.toNat_zero] at hr
  unfold Oper.wp
  simp only [execOp, ho, Sem.run_bind, Sem.run_pure, Result.andThen_ok, hs, hx, hr]
  have h2 := World.ownsRow_lit (e := e) (size := 1) w (madeCells z.cells (n * i.size)) n (Nat.le_refl _) hm (by rw [size_madeCells, hz1])
  rw [hz1, hE.z1, Nat.mul_one] at h2 ⊢
  refine h _ _ ?_ ((Below.refl _ _).alloc (Nat.le_refl _) _)
  have h3 : Ownv e (w.alloc (.cells (madeCells #[z] n) e)) w.heap.size (some ⟨w.heap.size, 0, none⟩) n n (madeCells #[z] n).toList := ⟨h2⟩
  exact h3.upto (Nat.zero_le _)
end
theorem Rdv.keepN {B OB : Nat} {W W' : World} {A : Option Addr} {n c : Nat} {vs : List Value} (h : Rdv W A n c vs) (hk : KpN B OB W W') (hA : A ≠ none → blk A ≠ OB ∧ blk A < B) : Rdv W' A n c vs := by
  by_cases hc : 0 < c
  · obtain ⟨b, o, rfl, hb⟩ := h.ptr hc
    have h1 := hA (by simp)
    refine ⟨h.len, h.le, h.cm, h.nil, h.spot, fun _ a ha => Nat.lt_of_lt_of_le (h.lt hc a ha) hk.1, fun j v hj => ?_⟩
    rw [← h.at_ j v hj]
    exact World.cell?_of_block (hk.2 b h1.2 h1.1)
  · have h1 := h.le
    have h2 := h.len
    obtain rfl : vs = [] := List.eq_nil_of_length_eq_zero (by omega)
    exact ⟨h.len, h.le, h.cm, h.nil, fun h9 => absurd h9 hc, fun h9 => absurd h9 hc, by simp⟩
/-- the ring's own memory stays -/
def ArKp (BB : Nat) (A : Option Addr) (N c : Nat) (B : List Int) (X Y : World) : Prop := (Blk X BB 60 [.slice A N c] → Blk Y BB 60 [.slice A N c]) ∧ (Rd .i64 X A N c B → Rd .i64 Y A N c B)
theorem ArKp.rfl' {BB : Nat} {A : Option Addr} {N c : Nat} {B : List Int} {X : World} : ArKp BB A N c B X X := ⟨id, id⟩
theorem ArKp.trans {BB : Nat} {A : Option Addr} {N c : Nat} {B : List Int} {X Y Z : World} (h : ArKp BB A N c B X Y) (k : ArKp BB A N c B Y Z) : ArKp BB A N c B X Z := ⟨fun x => k.1 (h.1 x), fun x => k.2 (h.2 x)⟩
theorem ArKp.put {BB : Nat} {A : Option Addr} {N c : Nat} {B : List Int} {W : World} {D l : Nat} (o' : Obj) (hB : BB < D) (hA : A ≠ none → blk A < D) (hl : D ≤ l) : ArKp BB A N c B W (W.putObj l o') :=
  ⟨fun h => (World.putObj_heap_other (by omega)).trans h, fun h => Rdv.grown0 h (grownBy_putObj' W l o') (fun hc e => by
    obtain ⟨b, o, rfl, hb⟩ := h.ptr hc
    have h2 := hA (by simp)
    rw [Option.some.injEq] at e
    omega)⟩
theorem ar_seq (B : List Int) (st N : Nat) (A : Option Addr) (c FB BB T : Nat) (hN1 : 1 ≤ N) (hN : N ≤ 100000) (hst : st < N) (w : World)
    (hF : Blk w FB 3 [.int .i64 st]) (hB : Blk w BB 60 [.slice A N c]) (hR : Rd .i64 w A N c B) :
    SeqF 2 138 #[.pointer (some ⟨FB, 0, none⟩), .pointer (some ⟨BB, 0, none⟩)] encI (ArKp BB A N c B) (fun _ => False) (fun _ => True) (fun pre x => x = rgV B st N pre.length) T w :=
  fun l J Jx W hb hJ hJx hY hT h0 => ar_in l B st N A c FB BB T hN1 hN hst (ArKp BB A N c B) W (hF.below hb) (hB.below hb) (Rdv.below hR hb)
    (fun X Y hk hbx hrx => ⟨hk.1 hbx, hk.2 hrx⟩) J Jx hJ hJx hY hT h0
/-- while positions are collected -/
structure PsK (w : World) (Bz : Nat) (B : List Int) (st N OB EB e : Nat) (t : Nat) (W : World) : Prop where
  o : ∃ A c, Blk W OB 60 [.slice A (selL B st N t).length c] ∧ Own .i64 3 W Bz A (selL B st N t).length c (selL B st N t)
  eb : Blk W EB 3 [.int .i64 e]
  bl : Below w.heap.size w W
  hs : Bz ≤ W.heap.size
theorem PsK.clB {w : World} {Bz : Nat} {B : List Int} {st N OB EB e : Nat} {W W' : World} {t : Nat} (h : PsK w Bz B st N OB EB e t W) (hb : Below W.heap.size W W') : PsK w Bz B st N OB EB e t W' := by
  obtain ⟨A, c, h1, h2⟩ := h.o
  exact ⟨⟨A, c, h1.below hb, Ownv.below h2 hb⟩, h.eb.below hb, h.bl.trans (hb.mono h.bl.size), Nat.le_trans h.hs hb.size⟩
theorem PsK.clP {w : World} {Bz Bq : Nat} {B : List Int} {st N OB EB e : Nat} {W : World} {t l : Nat} {o : Obj} (h : PsK w Bz B st N OB EB e t W) (o' : Obj) (hw : w.heap.size ≤ Bq) (hl : Bq ≤ l) (hk : W.heap[l]? = some o) (ho : o.isCells = false) : PsK w Bz B st N OB EB e t (W.putObj l o') := by
  obtain ⟨A, c, h1, h2⟩ := h.o
  have hg := grownBy_putObj' W l o'
  exact ⟨⟨A, c, h1.put o' hk ho, Ownv.put h2 o' hk ho⟩, h.eb.put o' hk ho, h.bl.grown hg h.bl.size (fun k e => by cases e; omega), Nat.le_trans h.hs hg.size⟩
/-- one more position -/
theorem PsK.next {w W W2 : World} {Bz : Nat} {B : List Int} {st N OB EB e t : Nat} (h : PsK w Bz B st N OB EB e t W) {A A2 : Option Addr} {c c2 : Nat} {x : Int} (hw : w.heap.size ≤ Bz) (hwO : w.heap.size ≤ OB) (hEO : EB ≠ OB) (hEB : EB < Bz) (hx : x = rgV B st N t) (hx0 : 0 ≤ x)
    (hX : Blk W OB 60 [.slice A (selL B st N t).length c]) (hO : Own .i64 3 W Bz A (selL B st N t).length c (selL B st N t))
    (hO2 : Ownv 3 W2 Bz A2 ((selL B st N t).length + 1) c2 ((selL B st N t).map (Value.int .i64) ++ [.int .i64 x])) (hg : W.grownBy W2 ((Value.slice A (selL B st N t).length c).ownBlock)) :
    KeepsOthers W (W2.setCell ⟨OB, 0, none⟩ (.slice A2 ((selL B st N t).length + 1) c2)) ∧ (∀ BB AA N' c', BB ≠ OB → (AA ≠ none → blk AA ≠ OB ∧ blk AA < Bz) → ArKp BB AA N' c' B W (W2.setCell ⟨OB, 0, none⟩ (.slice A2 ((selL B st N t).length + 1) c2))) ∧ PsK w Bz B st N OB EB e (t + 1) (W2.setCell ⟨OB, 0, none⟩ (.slice A2 ((selL B st N t).length + 1) c2)) := by
  have hob : ∀ k, (Value.slice A (selL B st N t).length c).ownBlock = some k → Bz ≤ k := fun k hk => Ownv.ob' hO hk
  have hx2 : Blk W2 OB 60 [.slice A (selL B st N t).length c] := hX.grown hg (blk_ne_row hX hO (by decide))
  have hg2 := grownBy_set W2 OB 0 (.slice A2 ((selL B st N t).length + 1) c2)
  have hs1 : selL B st N (t + 1) = selL B st N t ++ [x] := by rw [hx] at hx0 ⊢; exact selL_step hx0
  have hl1 : (selL B st N (t + 1)).length = (selL B st N t).length + 1 := by rw [hs1, List.length_append]; rfl
  have hO2' : Own .i64 3 W2 Bz A2 (selL B st N (t + 1)).length c2 (selL B st N (t + 1)) := by
    rw [hl1, hs1]; unfold Own; simpa using hO2
  have hbd := h.bl
  have hs := h.hs
  refine ⟨KeepsOthers.trans (KeepsOthers.of_grownBy hg (fun j o hj => row_cells hO j o hj)) (KeepsOthers.setCell _ _ _), ?_, ⟨⟨A2, c2, by rw [hl1]; exact hx2.set 0 _, own_set_blk hx2 hO2' (by decide) 0 _⟩, ?_, ?_, ?_⟩⟩
  · intro BB AA N' c' hBO hAO
    have hk := KpN.trans (KpN.grown hg (fun r hr => .inr (hob r hr)) hs) (KpN.grown hg2 (fun r hr => .inl (Option.some.inj hr).symm) (Nat.le_trans hs hg.size))
    exact ⟨fun hB => (hB.grown hg (blk_ne_row hB hO (by decide))).other (fun e => hBO e.symm) 0 _, fun hR => Rdv.keepN hR hk hAO⟩
  · exact (h.eb.grown hg (fun e => by have := hob _ e.symm; omega)).other (fun e => hEO e.symm) 0 _
  · exact (hbd.grown hg hbd.size (fun k hk => Nat.le_trans hw (hob k hk))).grown hg2 (Nat.le_trans hbd.size hg.size) (fun k hk => by cases hk; exact hwO)
  · exact Nat.le_trans hs (Nat.le_trans hg.size hg2.size)
theorem PsK.skip {w W : World} {Bz : Nat} {B : List Int} {st N OB EB e t : Nat} (h : PsK w Bz B st N OB EB e t W) (hx : rgV B st N t < 0) : PsK w Bz B st N OB EB e (t + 1) W := by
  obtain ⟨h1, h2, h3, h4⟩ := h
  exact ⟨by rw [selL_skip hx]; exact h1, h2, h3, h4⟩
/-- what Positions gives -/
def PoPost (B : List Int) (st N e : Nat) (w : World) (en : Ending) (w' : World) : Prop :=
  Below w.heap.size w w' ∧ ((e ≠ 0 ∧ usC B = 0 ∧ en = .returned (.tuple #[.slice none 0 0, .int .i64 10])) ∨
    ((e = 0 ∨ usC B ≠ 0) ∧ ∃ A c T, (selL B st N T).length = e ∧ en = .returned (.tuple #[.slice A e c, .int .i64 0]) ∧ Own .i64 3 w' w.heap.size A e c (selL B st N T)))
set_option maxRecDepth 100000 in
set_option maxHeartbeats 4000000 in
theorem positions_any (k f rv e : Nat) (lim : Int) (w : World) (h1 : 40 ≤ k) (h2 : k ≤ 6144) (hf : f < k) (hl : 1 ≤ lim) (hrv : rv ≤ 3) (he : e ≤ 131072) :
    Calls Tryz.prog 68 #[.int .i64 k, .int .i64 f, .int .i64 lim, .int .i64 rv, .int .i64 e] w (PoPost ((bufL k f).take (szB k lim)) (stS k (szB k lim) rv) (szB k lim) e w) := by
  have HOF := Lib.hid (fun W => rof_ok k f lim W h1 h2 hf hl)
  have hzb := szB_bd k hl
  have hN := nB_le h2
  have HBF := Lib.hid (fun W => buf0_ok k f (szB k lim) W h1 h2 hzb.2)
  have hZ1 := hzb.1
  have hZ2 : szB k lim ≤ 20000 := by omega
  have HST := Lib.hid (fun W => start_any k f (szB k lim) rv W h2 hZ1 hZ2 hrv)
  have hst : stS k (szB k lim) rv < szB k lim := Nat.mod_lt _ (by omega)
  have hBl : ((bufL k f).take (szB k lim)).length = szB k lim := by rw [List.length_take, show (bufL k f).length = 3 * nB k from by unfold bufL; exact bufT_len _ _ _]; omega
  clear h1 h2 hf hl
  generalize (bufL k f).take (szB k lim) = B at *
  generalize stS k (szB k lim) rv = st at *
  generalize szB k lim = Z at *
  generalize nB k = M at *
  generalize rwS (k + 4) = R at *
  refine (callsIn_wide (n := 3)).1 ?_
  refine callsIn_of_wp_marks Tryz.func68 rfl trivial ?_
  simp only [Tryz.ntmps68, List.size_toArray, List.length_cons, List.length_nil, Nat.reduceAdd, Nat.reduceSub, Array.replicate_succ, Array.replicate_zero, List.push_toArray, List.append_toArray, List.nil_append, List.cons_append]
  refine wpIn_wide.2 ?_
  have HE0 := Lib.hid (Blk.new w [.int .i64 e] 3 rfl)
  have HB0 := Lib.hid (bal (Below.refl _ w) (.cells [Value.int .i64 e].toArray 3))
  go_wp2_with fail
  refine wp_scope_straight ?_
  go_wp2_with fail
  refine (HOF.out _).mono ?_
  rintro en w1 ⟨rfl, hB1⟩
  have HE1 := Lib.hid ((HE0.out.below hB1).alloc (.cells #[.int .i64 k, .int .i64 f, .int .i64 R, .int .i64 Z] 155))
  have HW1 := Lib.hid (Blk.new w1 [.int .i64 k, .int .i64 f, .int .i64 R, .int .i64 Z] 155 rfl)
  have HB1 := Lib.hid (bal (HB0.out.trans (hB1.mono HB0.out.size)) (.cells #[.int .i64 k, .int .i64 f, .int .i64 R, .int .i64 Z] 155))
  have HEW : Hid (w.heap.size < w1.heap.size) := Lib.hid ((HE0.out.below hB1).lt)
  have hW1 := HW1.out
  have cE := HE1.out.cell (j := 0) (v := .int .i64 e) rfl
  clear hB1 HE0 HB0
  have q1 : decide ((rv : Int) < 0) = false := by first | (simp; done) | (simp; omega)
  have q2 : decide ((rv : Int) > 3) = false := by simp; omega
  have q3 : decide ((e : Int) < 0) = false := by first | (simp; done) | (simp; omega)
  have q4 : decide ((e : Int) > 131072) = false := by simp; omega
  go_wp2_with (refine ldrow (cs := [.int .i64 k, .int .i64 f, .int .i64 R, .int .i64 Z]) rfl 155 (.tmp 12) rfl rfl hW1 _ Tryz.underlying155 rfl info122 ?_)
  refine (HBF.out _).mono ?_
  rintro en w2 ⟨Ab, rfl, hR, hB2⟩
  have HR2 := Lib.hid hR
  have HE2 := Lib.hid (HE1.out.below hB2)
  have HW2 := Lib.hid (HW1.out.below hB2)
  have HB2 := Lib.hid (HB1.out.trans (hB2.mono HB1.out.size))
  have HWZ : Hid (w1.heap.size < w2.heap.size) := Lib.hid HW2.out.lt
  have cE2 := HE2.out.cell (j := 0) (v := .int .i64 e) rfl
  clear hR hB2 hW1 cE HE1 HW1 HB1
  by_cases he0 : e = 0
  · subst he0
    go_wp2_with fail
    exact ⟨_, results_tmp2 rfl _ _ _, HB2.out, .inr ⟨.inl rfl, none, 0, 0, rfl, rfl, Own.nilv _ _ _ _⟩⟩
  · have q5 : ((e : Int) == 0) = false := beq_f (by omega)
    have HNE := Lib.hid he0
    have HCF := Lib.hid (cfu_any Ab Z (3 * M) B w2 HR2.out (by omega))
    by_cases hu : usC B = 0
    · rw [decide_eq_false (by simpa using hu)] at HCF
      have HU := Lib.hid hu
      clear hu he0
      go_wp2_with fail
      refine HCF.out.mono ?_
      rintro en w3 ⟨rfl, rfl⟩
      go_wp2_with fail
      exact ⟨_, results_tmp2 rfl _ _ _, HB2.out, .inl ⟨HNE.out, HU.out, rfl⟩⟩
    · rw [decide_eq_true hu] at HCF
      have HU := Lib.hid hu
      obtain ⟨jj, hjj, hju⟩ := usC_ne.1 hu
      have HJ := Lib.hid (show jj < Z ∧ 0 ≤ gi B jj from ⟨by omega, hju⟩)
      clear hu he0 hjj hju
      go_wp2_with fail
      refine HCF.out.mono ?_
      rintro en w3 ⟨rfl, rfl⟩
      have hW2 := HW2.out
      go_wp2_with (first
        | (at_make; refine list_of rfl fun K hK => wp_mk0 (n := e) (kl := .i64) (kr := .i64) _ _ 60 rfl el34 rfl rfl (by omega) (by unfold maxLen; omega) ?_; intro A4 w4 hO4 hB4; have HO4 := Lib.hid hO4; have hW4 := (hW2.below hB4).alloc (.cells #[.slice A4 0 e] 60); have HE4 := Lib.hid ((HE2.out.below hB4).alloc (.cells #[.slice A4 0 e] 60)); have HB4 := Lib.hid hB4; clear hO4 hB4; refine hK _ _ ?_; clear hK K)
        | go_step3
        | (refine ldrow (cs := [.int .i64 k, .int .i64 f, .int .i64 R, .int .i64 Z]) rfl 155 (.tmp 12) rfl rfl hW4 _ Tryz.underlying155 rfl info122 ?_))
      have HBA : Hid (Ab ≠ none → blk Ab < w2.heap.size) := Lib.hid (fun hA => by
        obtain ⟨p, hp⟩ := Option.ne_none_iff_exists'.1 hA
        rw [hp]; exact HR2.out.lt (by omega) p hp)
      refine (HST.out _).mono ?_
      rintro en w5 ⟨rfl, hB5⟩
      have HO5 := Lib.hid (Ownv.below (Ownv.alloc HO4.out (.cells #[.slice A4 0 e] 60)) hB5)
      have HX5 := Lib.hid ((Blk.new w4 [.slice A4 0 e] 60 rfl).below hB5)
      have HE5 := Lib.hid (HE4.out.below hB5)
      have HA5 := Lib.hid (Below.trans (bal HB4.out (.cells #[.slice A4 0 e] 60)) (hB5.mono (bal HB4.out (.cells #[.slice A4 0 e] 60)).size))
      have HS4 := Lib.hid HB4.out.size
      have HS5 := Lib.hid HX5.out.lt
      clear hB5
      go_wp2_with fail
      refine (around_any _ _ _ _ _).mono ?_
      rintro en w6 ⟨rfl, hb6, hf6, hB6⟩
      have HO6 := Lib.hid (Ownv.below HO5.out hB6)
      have HX6 := Lib.hid (HX5.out.below hB6)
      have HE6 := Lib.hid (HE5.out.below hB6)
      have HA6 := Lib.hid (HA5.out.trans (hB6.mono HA5.out.size))
      have HBB := Lib.hid hb6
      have HR6 := Lib.hid (Rdv.below HR2.out HA6.out)
      have HSL := Lib.hid hf6.lt
      have HFB := Lib.hid hf6
      clear hB6 hb6 hf6
      have HSEQ := Lib.hid (ar_seq B st Z Ab (3 * M) (w5.heap.size + 1) w5.heap.size (e * Z) (by omega) (by omega) hst w6 HFB.out HBB.out HR6.out)
      have HK : Hid (PsK w w2.heap.size B st Z w4.heap.size w.heap.size e 0 w6) := Lib.hid ⟨⟨A4, e, HX6.out, HO6.out⟩, HE6.out, HB2.out.trans (HA6.out.mono HB2.out.size), HA6.out.size⟩
      have HIT : Hid (∀ t, (selL B st Z t).length < e → t < e * Z) := Lib.hid (fun t ht => selL_lt HJ.out.1 HJ.out.2 ht)
      have HST := HWZ.out
      have HS4' := HS4.out
      have HS5' := HS5.out
      have HSL' := HSL.out
      have HEW' := HEW.out
      clear HO4 HO5 HX5 HE5 HA5 HO6 HX6 HE6 HR6 HBB HFB cE2 hW4 HE4 HCF HJ
      go_wp2_with fail
      refine (wpIn_wide (n := 3)).1 ?_
      refine' rangeF (w0 := w6) (gf := 138) (lb := #[.pointer (some ⟨w5.heap.size + 1, 0, none⟩), .pointer (some ⟨w5.heap.size, 0, none⟩)]) (T := e * Z) rfl (enters_of Tryz.func138 (by kernel_rfl) rfl) HSEQ.out ArKp.trans
        (fun W l o o' hl h1 h2 => ArKp.put o' (by omega) (fun hA => by have := HBA.out hA; omega) hl) (Below.refl _ _) (fun _ => rfl)
        (fun pre W => PsK w w2.heap.size B st Z w4.heap.size w.heap.size e pre.length W ∧ (selL B st Z pre.length).length < e)
        (fun c pre W => c = .exit 1 ∧ PsK w w2.heap.size B st Z w4.heap.size w.heap.size e pre.length W ∧ (selL B st Z pre.length).length = e)
        (fun s X Y h hb => ⟨h.1.clB hb, h.2⟩) (fun c s X Y h hb => ⟨h.1, h.2.1.clB hb, h.2.2⟩)
        (fun s X l o o' h hl hk ho => ⟨h.1.clP o' (by omega) hl hk ho, h.2⟩) (fun c s X l o o' h hl hk ho => ⟨h.1, h.2.1.clP o' (by omega) hl hk ho, h.2.2⟩)
        (fun pre W h => HIT.out _ h.2) ⟨HK.out, Nat.pos_of_ne_zero HNE.out⟩ _ ?assign ?body ?done ?stop
      case assign =>
        intro l x W K hK
        unfold encI
        gi_wp2
        exact hK
      case done =>
        rintro D xs W hD h
        exact h.elim
      case stop =>
        rintro D c pre W hD _ ⟨rfl, hI, hlen⟩ hK
        obtain ⟨A, c, hx, hO⟩ := hI.o
        have cO := hx.cell (j := 0) (v := .slice A (selL B st Z pre.length).length c) rfl
        have HO9 := Lib.hid (Ownv.mono (Ownv.put hO (.deferred none) hK rfl) (show w.heap.size ≤ w2.heap.size by omega))
        have HB9 := Lib.hid (hI.bl.grown (grownBy_putObj' W D (.deferred none)) hI.bl.size (fun k e => by cases e; omega))
        have HLE := Lib.hid hlen
        rw [hlen] at cO
        clear hO hx hI
        refine wpIn_exit ?_
        go_wp2
        refine ⟨by simp, .inl ⟨_, _, rfl, run_takeDeferred hK, ?_⟩⟩
        refine ⟨_, results_tmp2 rfl _ _ _, HB9.out, .inr ⟨.inr HU.out, A, c, pre.length, HLE.out, rfl, ?_⟩⟩
        have := HO9.out
        rw [HLE.out] at this
        exact this
      case body =>
        rintro l pre x W ⟨hI, hlt⟩ rfl
        have hpl : ∀ x : Int, (pre ++ [x]).length = pre.length + 1 := fun x => by simp
        have HUS := Lib.hid (usable_any (rgV B st Z pre.length) W)
        by_cases h0 : 0 ≤ rgV B st Z pre.length
        · obtain ⟨A, c, hx, hO⟩ := hI.o
          rw [decide_eq_true h0] at HUS
          obtain ⟨x, hxe⟩ : ∃ x, x = rgV B st Z pre.length := ⟨_, rfl⟩
          have HI := Lib.hid hI
          have HXE := Lib.hid hxe
          have HXP := Lib.hid (show 0 ≤ x by rw [hxe]; exact h0)
          have cO := hx.cell (j := 0) (v := .slice A (selL B st Z pre.length).length c) rfl
          have hne := blk_ne_row hx hO (by decide)
          have HX := Lib.hid hx
          have HO := Lib.hid hO
          rw [← hxe] at HUS ⊢
          have hsz := hI.hs
          have HPL := Lib.hid hpl
          have HML := Lib.hid (show (selL B st Z (pre.length + 1)).length = (selL B st Z pre.length).length + 1 by rw [selL_step h0, List.length_append]; rfl)
          clear hI hx hO h0 hxe hpl
          gi_wp2_with (first
            | ((with_reducible refine callR ?_); refine HUS.out.mono ?_; rintro en W1 ⟨rfl, rfl⟩)
            | ((with_reducible refine listAp ?hL ?hh); (case hL => exact fun ⟨_, _, h⟩ => h); intro K hK; refine wp_app1 (w := W) (base := w2.heap.size) _ _ 60 rfl el34 rfl (.int .i64 x) rfl rfl HO.out (by omega) (by omega) hsz ?_; intro A2 c2 W2 hO2 hg2; have HN := Lib.hid (PsK.next HI.out (by omega) (by omega) (by omega) (by omega) HXE.out HXP.out HX.out HO.out hO2 hg2); have hx2 := HX.out.grown hg2 hne; have c2' := hx2.cell (j := 0) (v := .slice A (selL B st Z pre.length).length c) rfl; have f2' := hx2.frozen 0; have cE3 := HN.out.2.2.eb.cell (j := 0) (v := .int .i64 e) rfl; clear hO2 hg2; refine hK _ _ ?_; clear hK K))
          all_goals (rename_i hq)
          all_goals (first
            | (refine ⟨HN.out.1, HN.out.2.1 _ _ _ _ (by omega) (fun hA => ⟨by have := HBA.out hA; omega, HBA.out hA⟩), ?_⟩
               show PsK _ _ _ _ _ _ _ _ (pre ++ [_]).length _ ∧ (selL B st Z (pre ++ [_]).length).length < e
               rw [HPL.out]
               exact ⟨HN.out.2.2, by rw [HML.out]; have h9 := beq_eq_false_iff_ne.1 hq; omega⟩)
            | (refine ⟨HN.out.1, rfl, ?_⟩
               show PsK _ _ _ _ _ _ _ _ (pre ++ [_]).length _ ∧ (selL B st Z (pre ++ [_]).length).length = e
               rw [HPL.out]
               exact ⟨HN.out.2.2, by rw [HML.out]; have h9 := eq_of_beq hq; omega⟩))
        · rw [decide_eq_false h0] at HUS
          have HI := Lib.hid hI
          have HLT := Lib.hid hlt
          have H0 : Hid (rgV B st Z pre.length < 0) := Lib.hid (by omega)
          have HPL := Lib.hid hpl
          clear hI h0 hlt hpl
          generalize hgx : rgV B st Z pre.length = x at *
          gi_wp2_with ((with_reducible refine callR ?_); refine HUS.out.mono ?_; rintro en W1 ⟨rfl, rfl⟩)
          refine ⟨KeepsOthers.refl _, ArKp.rfl', ?_⟩
          show PsK _ _ _ _ _ _ _ _ (pre ++ [_]).length _ ∧ _
          rw [HPL.out, selL_skip (by rw [hgx]; exact H0.out)]
          exact ⟨PsK.skip HI.out (by rw [hgx]; exact H0.out), HLT.out⟩
end Go.Proofs.YtcbbkflnenkpgaaGreat

namespace Go.Proofs.YtcbbkflnenkpgaaGreat
open Go.RowKit Go.Shelf
set_option linter.unusedVariables false
attribute [local go_sem] Oper.semAt_some
set_option maxRecDepth 100000 in
theorem rv77_any (k f : Nat) (lim : Int) (w : World) (h1 : 40 ≤ k) (h2 : k ≤ 6144) (hf : f < k) (hl : 1 ≤ lim) : Calls Tryz.prog 77 #[.int .i64 k, .int .i64 f, .int .i64 lim] w fun e w' => e = .returned (.bool true) ∧ w = w' := by
  have q1 : decide ((k : Int) ≥ 40) = true := by first | (simp; done) | (simp; omega)
  have q2 : decide ((k : Int) ≤ 6144) = true := by first | (simp; done) | (simp; omega)
  have q3 : decide ((f : Int) ≥ 0) = true := by first | (simp; done) | (simp; omega)
  have q4 : decide ((f : Int) < (k : Int)) = true := by first | (simp; done) | (simp; omega)
  have q5 : decide (lim ≥ 1) = true := by first | (simp; done) | (simp; omega)
  go_enter Tryz.func77, Tryz.ntmps77
  go_wp2
  go_ret
  exact ⟨ret_bool (by first | (simp; done) | (simp; omega)), rfl⟩
def RpI (B : List Int) (st N e : Nat) (w : World) (o i : Value) (wr : World) : Prop := ∃ (t u : Nat) (A : Option Addr) (c : Nat), u = st + t ∧ (selL B st N t).length ≤ e ∧ o = .slice A (selL B st N t).length c ∧ i = .int .i64 (u : Int) ∧ Own .i64 3 wr w.heap.size A (selL B st N t).length c (selL B st N t) ∧ Below w.heap.size w wr
set_option maxRecDepth 100000 in
set_option maxHeartbeats 4000000 in
theorem rpos_ok (k f rv e : Nat) (lim : Int) (w : World) (h1 : 40 ≤ k) (h2 : k ≤ 6144) (hf : f < k) (hl : 1 ≤ lim) (hrv : rv ≤ 3) (he : e ≤ 131072) :
    Calls Tryz.prog 35 #[.int .i64 k, .int .i64 f, .int .i64 lim, .int .i64 rv, .int .i64 e] w (PoPost ((bufL k f).take (szB k lim)) (stS k (szB k lim) rv) (szB k lim) e w) := by
  have HVA := Lib.hid (fun W => rv77_any k f lim W h1 h2 hf hl)
  have hzb := szB_bd k hl
  have hN := nB_le h2
  have HBF := Lib.hid (fun W => rbuf_ok k f lim W h1 h2 hf hl)
  have hZ1 := hzb.1
  have hZ2 : szB k lim ≤ 20000 := by omega
  have HST := Lib.hid (fun W => rstart_any k (szB k lim) rv W h1 h2 hZ1 hZ2 hrv)
  have hst : stS k (szB k lim) rv < szB k lim := Nat.mod_lt _ (by omega)
  have hBl : ((bufL k f).take (szB k lim)).length = szB k lim := by rw [List.length_take, show (bufL k f).length = 3 * nB k from by unfold bufL; exact bufT_len _ _ _]; omega
  clear h1 h2 hf hl
  generalize (bufL k f).take (szB k lim) = B at *
  generalize stS k (szB k lim) rv = st at *
  generalize szB k lim = Z at *
  clear hzb
  generalize nB k = M at *
  clear hN
  have q1 : decide ((rv : Int) < 0) = false := by first | (simp; done) | (simp; omega)
  have q2 : decide ((rv : Int) > 3) = false := by simp; omega
  have q3 : decide ((e : Int) < 0) = false := by first | (simp; done) | (simp; omega)
  have q4 : decide ((e : Int) > 131072) = false := by simp; omega
  have hT : e * Z ≤ 131072 * 20000 := Nat.mul_le_mul he hZ2
  have HT0 := Lib.hid (show e * Z ≤ 131072 * 20000 from Nat.mul_le_mul he hZ2)
  have HT0 := Lib.hid (show e * Z ≤ 131072 * 20000 from Nat.mul_le_mul he hZ2)
  have HT0 := Lib.hid (show e * Z ≤ 131072 * 20000 from Nat.mul_le_mul he hZ2)
  have HT0 := Lib.hid (show e * Z ≤ 131072 * 20000 from Nat.mul_le_mul he hZ2)
  have HT0 := Lib.hid (show e * Z ≤ 131072 * 20000 from Nat.mul_le_mul he hZ2)
  have HT0 := Lib.hid (show e * Z ≤ 131072 * 20000 from Nat.mul_le_mul he hZ2)
  go_enter Tryz.func35, Tryz.ntmps35
  go_wp2_with (go_at_call 77; refine (HVA.out _).mono ?_; rintro en w0 ⟨rfl, rfl⟩)
  refine (HBF.out _).mono ?_
  rintro en w2 ⟨Ab, cb, rfl, hR, hB2⟩
  have HR2 := Lib.hid hR
  have HB2 := Lib.hid hB2
  clear hR hB2
  by_cases he0 : e = 0
  · have HR := Lib.hid HR2.out
    have HIT : Hid (∀ t, (selL B st Z t).length < e → t < e * Z) := Lib.hid (fun t h => absurd h (by omega))
    have q6 : decide ((e : Int) > 0) = false := by rw [decide_eq_false_iff_not]; omega
    have q6b : decide (0 < (e : Int)) = false := by rw [decide_eq_false_iff_not]; omega
    have q6c : ¬ 0 < e := by omega
    have HEZ := Lib.hid he0
    clear he0
    go_wp2_with (go_at_call 78; refine (HST.out _).mono ?_; rintro en w4 ⟨rfl, rfl⟩)
    go_loopw [13, 14] (fun o i wr => RpI B st Z e w2 o i wr) (fun _ i _ => (st + e * Z) - (intOf i).toNat)
    case atStart => exact ⟨0, st, none, 0, rfl, Nat.zero_le _, rfl, rfl, Own.nilv _ _ _ _, Below.refl _ _⟩
    case round =>
      obtain ⟨t, u, A, c, hu, hle, rfl, rfl, hO, hB⟩ := hrel
      have HO := Lib.hid hO
      have HB := Lib.hid hB
      clear hO hB
      by_cases hlt : (selL B st Z t).length < e
      · exact absurd hlt (by have := HEZ.out; omega)
      · have he2 : (selL B st Z t).length = e := by omega
        have hq9 : decide (((selL B st Z t).length : Int) < (e : Int)) = false := by simp; omega
        have HE2 := Lib.hid he2
        clear he2 hle hu
        go_wp2
        go_ret2
        have h9 := Ownv.mono HO.out (show w.heap.size ≤ _ from HB2.out.size)
        refine ⟨HB2.out.trans (HB.out.mono HB2.out.size), .inr ⟨.inl HEZ.out, A, c, t, HE2.out, (by rw [HE2.out]; rfl), ?_⟩⟩
        rw [HE2.out] at h9
        exact h9
  · have q6 : decide ((e : Int) > 0) = true := by rw [decide_eq_true_iff]; omega
    have q6b : decide (0 < (e : Int)) = true := by rw [decide_eq_true_iff]; omega
    have q6c : 0 < e := by omega
    have HNE := Lib.hid he0
    clear he0
    by_cases hu : usC B = 0
    · have HUS := Lib.hid (rus_any Ab Z cb B w2 HR2.out (by omega))
      have HU0 := Lib.hid hu
      rw [hu] at HUS
      clear hu
      go_wp2_with (go_at_call 74; refine HUS.out.mono ?_; rintro en w3 ⟨rfl, hq3⟩; have HQ3 := Lib.hid hq3; clear hq3)
      go_ret2
      exact ⟨HB2.out.trans (Qt.below HQ3.out _), .inl ⟨HNE.out, HU0.out, rfl⟩⟩
    · have HUS := Lib.hid (rus_any Ab Z cb B w2 HR2.out (by omega))
      have HU0 := Lib.hid hu
      obtain ⟨jj, hjj, hju⟩ := usC_ne.1 hu
      have HIT : Hid (∀ t, (selL B st Z t).length < e → t < e * Z) := Lib.hid (fun t ht => selL_lt (by omega) hju ht)
      have q7 : (((usC B : Nat) : Int) == 0) = false := beq_f (by omega)
      generalize hus : usC B = us at *
      clear hu hjj hju
      go_wp2_with (go_at_call 74; refine HUS.out.mono ?_; rintro en w3 ⟨rfl, hq3⟩; have HQ3 := Lib.hid hq3; clear hq3)
      have HR := Lib.hid (Rdv.below HR2.out (Qt.below HQ3.out _))
      have HB3 := Lib.hid (HB2.out.trans (Qt.below HQ3.out _))
      go_wp2_with (go_at_call 78; refine (HST.out _).mono ?_; rintro en w4 ⟨rfl, rfl⟩)
      go_loopw [13, 14] (fun o i wr => RpI B st Z e w3 o i wr) (fun _ i _ => (st + e * Z) - (intOf i).toNat)
      case atStart => exact ⟨0, st, none, 0, rfl, Nat.zero_le _, rfl, rfl, Own.nilv _ _ _ _, Below.refl _ _⟩
      case round =>
        obtain ⟨t, u, A, c, hu, hle, rfl, rfl, hO, hB⟩ := hrel
        have HO := Lib.hid hO
        have HB := Lib.hid hB
        clear hO hB
        by_cases hlt : (selL B st Z t).length < e
        · have hrx := Rdv.below HR.out HB.out
          have ht := HIT.out t hlt
          obtain ⟨p, hp⟩ : ∃ p, p = u % Z := ⟨_, rfl⟩
          have hpZ : p < Z := by rw [hp]; exact Nat.mod_lt _ (by omega)
          have hc := Rd.cell hrx hpZ
          have hix := fun W => Rdv.ix hrx el34 hpZ .i64 W
          have HX := Lib.hid (show rgV B st Z t = gi B p by rw [hp, hu]; rfl)
          have hrw : IntKind.i64.wrap ((u : Int) + 1) = (u : Int) + 1 := by have hT := HT0.out; rw [IntKind.wrap_i64]; omega
          have hrm : (u : Int).tmod (Z : Int) = (p : Int) := by rw [Int.tmod_eq_emod_of_nonneg (by omega), hp]; rfl
          have hre : (u : Int) % (Z : Int) = (p : Int) := by rw [hp]; rfl
          have hrw2 : IntKind.i64.wrap (p : Int) = (p : Int) := by rw [IntKind.wrap_i64]; omega
          have hz0 : ¬ Z = 0 := by omega
          have HU := Lib.hid hu
          have HT := Lib.hid (show u < st + e * Z by omega)
          obtain ⟨x, hx⟩ : ∃ x, x = gi B p := ⟨_, rfl⟩
          rw [← hx] at hc HX
          have HLE := Lib.hid (show (selL B st Z t).length + 1 ≤ e by omega)
          have HSZ := Lib.hid (show (selL B st Z t).length ≤ 131072 by omega)
          clear ht hu hp hx hle
          by_cases h0 : 0 ≤ x
          · have qx : decide (x ≥ 0) = true := by first | (simp; done) | (simp; omega)
            have HS := Lib.hid (selL_step (B := B) (st := st) (N := Z) (t := t) (by rw [HX.out]; exact h0))
            have HSL : Hid ((selL B st Z (t + 1)).length = (selL B st Z t).length + 1) := Lib.hid (by rw [HS.out, List.length_append]; rfl)
            have hm9 := HSZ.out
            have hq9 : decide (((selL B st Z t).length : Int) < (e : Int)) = true := by simp; omega
            clear hlt
            go_wp2_with (at_builtin; refine list_of rfl fun K hK => wp_app1 _ _ 60 rfl el34 rfl (.int .i64 x) rfl rfl HO.out (by omega) (by omega) HB.out.size ?_; intro A' c' w' hO' hg; have HO' := Lib.hid hO'; have HGR := Lib.hid hg; clear hO' hg; refine hK _ _ ?_; clear hK K)
            go_roundw
            case rel => exact ⟨t + 1, u + 1, A', c', by have := HU.out; omega, by rw [HSL.out]; exact HLE.out, by rw [HSL.out], by go_num, Own.of_eq HO'.out HSL.out.symm (by rw [HS.out, List.map_append, HX.out]; rfl), HB.out.grown HGR.out HB.out.size (fun k hk => Ownv.ob' HO.out hk)⟩
            case measure => have := HT.out; simp [intOf]; omega
          · have qx : decide (x ≥ 0) = false := by first | (simp; done) | (simp; omega)
            have HS := Lib.hid (selL_skip (B := B) (st := st) (N := Z) (t := t) (by rw [HX.out]; omega))
            have hq9 : decide (((selL B st Z t).length : Int) < (e : Int)) = true := by simp; omega
            clear hlt
            go_wp2
            go_roundw
            case rel => exact ⟨t + 1, u + 1, A, c, by have := HU.out; omega, by rw [HS.out]; have := HLE.out; omega, by rw [HS.out], by go_num, Own.of_eq HO.out (by rw [HS.out]) (by rw [HS.out]), HB.out⟩
            case measure => have := HT.out; simp [intOf]; omega
        · have he2 : (selL B st Z t).length = e := by omega
          have hq9 : decide (((selL B st Z t).length : Int) < (e : Int)) = false := by simp; omega
          have HE2 := Lib.hid he2
          clear he2 hle hu
          go_wp2
          go_ret2
          have h9 := Ownv.mono HO.out (show w.heap.size ≤ _ from HB3.out.size)
          refine ⟨HB3.out.trans (HB.out.mono HB3.out.size), .inr ⟨.inr (by rw [hus]; exact HU0.out), A, c, t, HE2.out, (by rw [HE2.out]; rfl), ?_⟩⟩
          rw [HE2.out] at h9
          exact h9
end Go.Proofs.YtcbbkflnenkpgaaGreat

namespace Go.Proofs.YtcbbkflnenkpgaaGreat
open Go.RowKit Go.Shelf
set_option linter.unusedVariables false
attribute [local go_sem] Oper.semAt_some
set_option maxRecDepth 100000 in
theorem inv4_any (b : Int) (w : World) : Calls Tryz.prog 70 #[.int .u8 b] w fun e w' => e = .returned (.bool (decide (1 < b))) ∧ w = w' := by
  go_enter Tryz.func70, Tryz.ntmps70
  go_wp2
  go_wp2
  go_ret
  exact ⟨rfl, rfl⟩
set_option maxRecDepth 100000 in
set_option maxHeartbeats 400000 in
theorem idx4_any (A : Option Addr) (n c : Nat) (xs : List Int) (w : World) (h : Rd .u8 w A n c xs) :
    Calls Tryz.prog 115 #[.slice A n c, .func (.func 70) #[] #[]] w (IdxPost xs w) := by
  have hbd := h.bd.1
  go_enter Tryz.func115, Tryz.ntmps115
  go_wp2
  go_loop [8] (fun i => IdxInv n xs i) (fun i => n - (intOf i).toNat)
  case atStart => exact ⟨0, by omega, rfl, by intro q hq; omega⟩
  case round =>
    obtain ⟨j, hj, rfl, hv⟩ := hrel
    by_cases hlt : j < n
    · have hc := Rd.cell h hlt
      have hix := fun W => Rdv.ix h el53 hlt .i64 W
      have HV := Lib.hid hv; clear hv
      by_cases h1 : gi xs j ≤ 1
      · have h1' : decide (1 < gi xs j) = false := by simp; omega
        go_wp2_with (go_at_call 70; refine (inv4_any _ _).mono ?_; rintro e w' ⟨rfl, rfl⟩)
        go_round
        case rel => exact ⟨j + 1, by omega, by go_num, fun q hq => lt_succ_cases HV.out h1 q hq⟩
        case measure => simp [intOf]; omega
      · have h1' : decide (1 < gi xs j) = true := by simp; omega
        have hf := Lib.hid (validB_f (by rw [h.len]; exact hlt) (by omega : 1 < gi xs j))
        go_wp2_with (go_at_call 70; refine (inv4_any _ _).mono ?_; rintro e w' ⟨rfl, rfl⟩)
        go_ret
        exact ⟨_, rfl, by rw [hf.out]; simp, rfl⟩
    · have hf := Lib.hid (validB_t (xs := xs) (by rw [h.len]; intro q hq; exact hv q (by omega)))
      go_wp2
      go_ret
      exact ⟨_, rfl, by rw [hf.out]; simp, rfl⟩
set_option maxRecDepth 100000 in
theorem contains4_any (A : Option Addr) (n c : Nat) (xs : List Int) (w : World) (h : Rd .u8 w A n c xs) :
    Calls Tryz.prog 69 #[.slice A n c, .func (.func 70) #[] #[]] w fun e w' => e = .returned (.bool (!ValidB xs)) ∧ w = w' := by
  go_enter Tryz.func69, Tryz.ntmps69
  go_wp2_with (go_at_call 115; refine (idx4_any A n c xs w h).mono ?_; rintro e w' ⟨r, rfl, hr, rfl⟩)
  go_ret
  refine ⟨ret_bool ?_, rfl⟩
  cases hv : ValidB xs <;> simp_all
end Go.Proofs.YtcbbkflnenkpgaaGreat

namespace Go.Proofs.YtcbbkflnenkpgaaGreat
open Go.RowKit Go.Shelf
set_option linter.unusedVariables false
attribute [local go_sem] Oper.semAt_some
/-- what Match gives -/
def MtPost (xs B : List Int) (st N e : Nat) (w : World) (en : Ending) (w' : World) : Prop :=
  Below w.heap.size w w' ∧ ((e ≠ 0 ∧ usC B = 0 ∧ en = .returned (.tuple #[.slice none 0 0, .int .i64 10])) ∨
    ((e = 0 ∨ usC B ≠ 0) ∧ ∃ A c T, (selL B st N T).length = e ∧ en = .returned (.tuple #[.slice A e c, .int .i64 0]) ∧ A ≠ none ∧ Own .u8 5 w' w.heap.size A e c ((selL B st N T).map fun p => gi xs p.toNat)))
def MtI (xs L : List Int) (e : Nat) (Am : Option Addr) (w : World) (i : Value) (wr : World) : Prop := ∃ (j : Nat) (cur : List Int), j ≤ e ∧ i = .int .i64 (j : Int) ∧ Own .u8 5 wr w.heap.size Am e e cur ∧ (∀ q, q < j → gi cur q = gi xs (gi L q).toNat) ∧ Below w.heap.size w wr
set_option maxRecDepth 100000 in
set_option maxHeartbeats 4000000 in
theorem match_any (A : Option Addr) (n c : Nat) (xs : List Int) (k f rv e : Nat) (lim : Int) (w : World) (hx : Rd .u8 w A n c xs) (hv : ValidB xs = true) (hn : n = 3 * (k + 4)) (h1 : 40 ≤ k) (h2 : k ≤ 6144) (hf : f < k) (hl : 1 ≤ lim) (hrv : rv ≤ 3) (he : e ≤ 131072)
    (hBn : ∀ x, x ∈ (bufL k f).take (szB k lim) → x < (n : Int)) (hZ0 : 0 < szB k lim) (hZl : szB k lim ≤ ((bufL k f).take (szB k lim)).length) :
    Calls Tryz.prog 29 #[.slice A n c, .int .i64 f, .int .i64 lim, .int .i64 rv, .int .i64 e] w (MtPost xs ((bufL k f).take (szB k lim)) (stS k (szB k lim) rv) (szB k lim) e w) := by
  have HPO := Lib.hid (fun W => positions_any k f rv e lim W h1 h2 hf hl hrv he)
  have HCO := Lib.hid (fun W (h : Rd .u8 W A n c xs) => contains4_any A n c xs W h)
  rw [hv] at HCO
  have HSM := Lib.hid (fun T x => selL_mem (B := (bufL k f).take (szB k lim)) (st := stS k (szB k lim) rv) (N := szB k lim) hZ0 hZl T x)
  generalize (bufL k f).take (szB k lim) = B at *
  generalize stS k (szB k lim) rv = st at *
  generalize szB k lim = Z at *
  have a1 : (n : Int).tdiv 3 = ((k + 4 : Nat) : Int) := by rw [Int.tdiv_eq_ediv_of_nonneg (by omega), hn]; omega
  have a2 : (n : Int) / 3 = ((k + 4 : Nat) : Int) := by omega
  have a3 : (n : Int).tmod 3 = 0 := by rw [Int.tmod_eq_emod_of_nonneg (by omega)]; omega
  have a4 : (n : Int) % 3 = 0 := by omega
  have a5 : IntKind.i64.wrap (((k + 4 : Nat) : Int) - 4) = (k : Int) := by rw [IntKind.wrap_i64]; omega
  have a6 : IntKind.i64.wrap ((k + 4 : Nat) : Int) = ((k + 4 : Nat) : Int) := by rw [IntKind.wrap_i64]; omega
  have HX := Lib.hid hx
  have HBN := Lib.hid hBn
  have HN := Lib.hid hn
  obtain ⟨k4, hk4⟩ : ∃ k4, k4 = k + 4 := ⟨_, rfl⟩
  rw [← hk4] at a1 a2 a5 a6
  clear hx hBn hn h1 h2 hf hl hv hk4 hZ0 hZl
  go_enter Tryz.func29, Tryz.ntmps29
  go_wp2_with fail
  refine (HPO.out _).mono ?_
  rintro en w1 ⟨hB1, h⟩
  have HB1 := Lib.hid hB1
  have HX1 := Lib.hid (Rdv.below HX.out hB1)
  clear hB1
  rcases h with ⟨hne, hu0, rfl⟩ | ⟨hor, Ap, cp, T, hlen, rfl, hO⟩
  · have HNE := Lib.hid hne
    have HU0 := Lib.hid hu0
    clear hne hu0
    go_wp2_with (go_at_call 69; refine (HCO.out _ HX1.out).mono ?_; rintro en w2 ⟨rfl, rfl⟩)
    go_ret2
    exact ⟨HB1.out, .inl ⟨HNE.out, HU0.out, rfl⟩⟩
  · have HLN := Lib.hid hlen
    have HOR := Lib.hid hor
    have HLL : Hid (∀ q, q < e → 0 ≤ gi (selL B st Z T) q ∧ gi (selL B st Z T) q < (n : Int)) := Lib.hid (fun q hq => by
      have h9 := HSM.out T _ (gi_mem (selL B st Z T) q (by omega))
      exact ⟨h9.1, HBN.out _ h9.2⟩)
    have HTL := Lib.hid hlen
    obtain ⟨L, hL⟩ : ∃ L, selL B st Z T = L := ⟨_, rfl⟩
    have HTE := Lib.hid hL
    rw [hL] at HLN HLL hO
    clear hL
    have HRP := Lib.hid (Own.rd hO)
    clear hlen hor hO
    go_wp2_with (first
      | (go_at_call 69; refine (HCO.out _ HX1.out).mono ?_; rintro en w2 ⟨rfl, rfl⟩)
      | (at_make; refine list_of rfl fun K hK => wp_mk (n := e) _ _ 25 rfl el53 rfl rfl (by omega) (by unfold maxLen; omega) ?_
         intro Am w3 hO3 hB3 hA
         have HO3 := Lib.hid hO3
         have HA := Lib.hid hA
         have HB3 := Lib.hid hB3
         clear hO3 hB3 hA
         refine hK _ _ ?_
         clear hK K))
    go_loopw [52] (fun i wr => MtI xs L e Am w1 i wr) (fun i _ => e - (intOf i).toNat)
    case atStart => exact ⟨0, List.replicate e 0, Nat.zero_le _, rfl, by have := HO3.out; unfold Own; simpa using this, fun q hq => by omega, HB3.out⟩
    case round =>
      obtain ⟨j, cur, hj, rfl, hO, hsame, hB⟩ := hrel
      have HB := Lib.hid hB
      have HS := Lib.hid hsame
      by_cases hlt : j < e
      · have hlj := HLL.out j hlt
        have hrp := Rdv.below HRP.out HB.out
        have hrx := Rdv.below HX1.out HB.out
        have cp1 := Rd.cell hrp hlt
        have ip1 := fun W => Rdv.ix hrp el34 hlt .i64 W
        obtain ⟨p, hp⟩ : ∃ p : Nat, gi L j = (p : Int) := ⟨(gi L j).toNat, by omega⟩
        have HP := Lib.hid hp
        rw [hp] at cp1 hlj
        have hpn : p < n := by omega
        have cx1 := Rd.cell hrx hpn
        have ix1 := fun W => Rdv.ix hrx el53 hpn .i64 W
        have hcu := Rd.cell (Own.rd hO) hlt
        have hfu := Ownv.frozen hO (by omega) j
        have hiu := fun W => Rdv.ix (Own.rd hO) el53 hlt .i64 W
        obtain ⟨x, hxe⟩ : ∃ x, gi xs p = x := ⟨_, rfl⟩
        have HXE := Lib.hid hxe
        rw [hxe] at cx1
        have HST := Lib.hid (Own.set_ hO hlt x)
        have hbA := (Ownv.blk_ge hO (by omega)).1
        have HB2 := Lib.hid (hB.grown (Own.set_ hO hlt x).2 hB.size (fun k e => by cases e; exact hbA))
        have hcl := (Own.rd hO).len
        clear hO hB hsame hp hxe hlj
        go_wp2
        go_roundw
        case rel => exact ⟨j + 1, cur.set j x, by omega, by go_num, HST.out.1, lt_succ_cases (fun q hq => by rw [gi_set _ _ _ _ (by omega), if_neg (by omega)]; exact HS.out q hq) (by rw [gi_set _ _ _ _ (by omega), if_pos rfl, HP.out, ← HXE.out]; rfl), HB2.out⟩
        case measure => simp [intOf]; omega
      · obtain rfl : j = e := by omega
        have hle := (Own.rd hO).len
        have HLE := Lib.hid (show cur = L.map fun p => gi xs p.toNat from by
          have hL := HLN.out
          have hml : (L.map fun p => gi xs p.toNat).length = L.length := List.length_map ..
          refine ext_gi (by omega) fun q hq => ?_
          rw [hsame q (by omega), gi_eq (L.map fun p => gi xs p.toNat) q (by omega), List.getElem_map, gi_eq L q (by omega)])
        have HO9 := Lib.hid (Ownv.mono hO (show w.heap.size ≤ w1.heap.size from HB1.out.size))
        clear hO hB hsame hle
        go_wp2
        go_ret2
        refine ⟨HB1.out.trans (HB.out.mono HB1.out.size), .inr ⟨HOR.out, Am, j, T, HTL.out, rfl, HA.out, ?_⟩⟩
        have h9 := HO9.out
        rw [HLE.out] at h9
        rw [HTE.out]
        exact h9
end Go.Proofs.YtcbbkflnenkpgaaGreat

namespace Go.Proofs.YtcbbkflnenkpgaaGreat
open Go.RowKit Go.Shelf
set_option linter.unusedVariables false
theorem sxN_le2 (N x : Nat) : sxN N x ≤ 2 := by
  unfold sxN
  split <;> omega
theorem vX_bd (k f x : Nat) : vX k f x < ((3 * (k + 4) : Nat) : Int) := by
  unfold vX
  have h1 := (ordV_bd (d := k + 4) (s := sxN (nB k) x) (k := jxN (nB k) x) (by omega)).2
  have h2 := Nat.mul_le_mul_right (k + 4) (sxN_le2 (nB k) x)
  generalize ordV (k + 4) (sxN (nB k) x) (jxN (nB k) x) = v at *
  generalize sxN (nB k) x = s at *
  unfold elV
  generalize s * (k + 4) = m at *
  split <;> omega
theorem bufL_bd (k f Z : Nat) : ∀ x, x ∈ (bufL k f).take Z → x < ((3 * (k + 4) : Nat) : Int) := by
  intro x hx
  have h := List.mem_of_mem_take hx
  unfold bufL bufT at h
  obtain ⟨j, -, rfl⟩ := List.mem_map.1 h
  exact vX_bd k f j
theorem match_ok (A : Option Addr) (c : Nat) (xs : List Int) (k f rv e : Nat) (lim : Int) (w : World) (hx : Rd .u8 w A (3 * (k + 4)) c xs) (hv : ValidB xs = true) (h1 : 40 ≤ k) (h2 : k ≤ 6144) (hf : f < k) (hl : 1 ≤ lim) (hrv : rv ≤ 3) (he : e ≤ 131072) :
    Calls Tryz.prog 29 #[.slice A (3 * (k + 4)) c, .int .i64 f, .int .i64 lim, .int .i64 rv, .int .i64 e] w (MtPost xs ((bufL k f).take (szB k lim)) (stS k (szB k lim) rv) (szB k lim) e w) := by
  have hzb := szB_bd k hl
  refine match_any A _ c xs k f rv e lim w hx hv rfl h1 h2 hf hl hrv he (bufL_bd k f _) hzb.1 ?_
  rw [List.length_take, show (bufL k f).length = 3 * nB k from by unfold bufL; exact bufT_len _ _ _]
  omega
end Go.Proofs.YtcbbkflnenkpgaaGreat

namespace Go.Proofs.YtcbbkflnenkpgaaGreat
open Go.RowKit Go.Shelf
set_option linter.unusedVariables false
attribute [local go_sem] Oper.semAt_some
/-- what the closure of Encode reads -/
structure ClS (LB CB EB b : Nat) (lim : Int) (rv : Nat) (A : Option Addr) (n c : Nat) (xs : List Int) (Ae : Option Addr) (me ce i e : Nat) (W : World) : Prop where
  l : Blk W LB 51 (ints8 (LY b))
  c3 : W.cell? ⟨CB, 3, none⟩ = some (.int .i64 lim)
  c4 : W.cell? ⟨CB, 4, none⟩ = some (.int .i64 (rv : Int))
  e0 : W.cell? ⟨EB, 0, none⟩ = some (.slice Ae me ce)
  r : ∃ es : List Int, Rd .i64 W Ae me ce es ∧ gi es i = (e : Int)
  x : Rd .u8 W A n c xs
  hi : i < me
theorem ClS.below {LB CB EB b : Nat} {lim : Int} {rv : Nat} {A : Option Addr} {n c : Nat} {xs : List Int} {Ae : Option Addr} {me ce i e : Nat} {W W' : World} (h : ClS LB CB EB b lim rv A n c xs Ae me ce i e W) (hb : Below W.heap.size W W') : ClS LB CB EB b lim rv A n c xs Ae me ce i e W' := by
  obtain ⟨es, h1, h2⟩ := h.r
  exact ⟨h.l.below hb, cell_below h.c3 hb, cell_below h.c4 hb, cell_below h.e0 hb, ⟨es, Rdv.below h1 hb, h2⟩, Rdv.below h.x hb, h.hi⟩
theorem ClS.ce {LB CB EB b : Nat} {lim : Int} {rv : Nat} {A : Option Addr} {n c : Nat} {xs : List Int} {Ae : Option Addr} {me ce i e : Nat} {W : World} (h : ClS LB CB EB b lim rv A n c xs Ae me ce i e W) : W.cell? (adr Ae i) = some (.int .i64 (e : Int)) := by
  obtain ⟨es, h1, h2⟩ := h.r
  rw [← h2]; exact Rd.cell h1 h.hi
set_option maxRecDepth 100000 in
set_option maxHeartbeats 4000000 in
theorem cl28_any (LB CB EB b i e rv k : Nat) (lim : Int) (A Ae : Option Addr) (n c me ce : Nat) (xs B : List Int) (st Z : Nat) (W : World) (hS : ClS LB CB EB b lim rv A n c xs Ae me ce i e W)
    (hM : ∀ w, Rd .u8 w A n c xs → Calls Tryz.prog 29 #[.slice A n c, .int .i64 (fl b i : Int), .int .i64 lim, .int .i64 rv, .int .i64 e] w (MtPost xs B st Z e w)) :
    Calls Tryz.prog 28 #[.int .i64 i, .slice A n c, .pointer (some ⟨LB, 0, none⟩), .pointer (some ⟨CB, 0, none⟩), .pointer (some ⟨EB, 0, none⟩)] W (MtPost xs B st Z e W) := by
  have HM := Lib.hid hM
  have HS4 := Lib.hid hS
  have HSD := Lib.hid (ClS.below HS4.out ((Below.refl W.heap.size W).drew))
  clear hM hS
  go_enter Tryz.func28, Tryz.ntmps28
  go_wp2_with fail
  refine P_start (ClS LB CB EB b lim rv A n c xs Ae me ce i e) 12 17 #[false, false, false, false, false, false, false, false, false, false, false, false, false, false, false, false, false] (by kernel_rfl) (by kernel_rfl) (by kernel_rfl) ?_
  refine P_takeW 0 9 (.slice A n c) #[true, false, false, false, false, false, false, false, false, false, false, false, false, false, false, false, false] rfl rfl (by kernel_rfl) (by kernel_rfl) (by kernel_rfl) (by kernel_rfl) (by decide) (fun _ _ _ h => h) (Or.inl ⟨by rfl, fun W hS => by go_simp⟩) HSD.out ?_
  simp only [List.setIfInBounds_toArray, List.set_cons_zero, List.set_cons_succ]
  refine P_takeT 1 10 (.agg (ints8 (LY b)).toArray) #[true, true, false, false, false, false, false, false, false, false, false, false, false, false, false, false, false] [3] rfl rfl (by kernel_rfl) (by kernel_rfl) (by kernel_rfl) (by kernel_rfl) (by kernel_rfl) (by kernel_rfl) (by kernel_rfl) (by decide) (fun _ _ _ h => h) (yieldsIf_load_mid rfl 51 (.tmp 2) rfl LB (0) rfl (ints8 (LY b)) _ (fun W hS => fun q v hv => hS.l.cell (by rw [Nat.zero_add]; exact hv)) Tryz.underlying51 rfl (by rw [info23]; rfl)) HSD.out ?_
  simp only [List.setIfInBounds_toArray, List.set_cons_zero, List.set_cons_succ]
  refine P_takeW 2 11 (.int .i64 (i : Int)) #[true, true, true, false, false, false, false, false, false, false, false, false, false, false, false, false, false] rfl rfl (by kernel_rfl) (by kernel_rfl) (by kernel_rfl) (by kernel_rfl) (by decide) (fun _ _ _ h => h) (Or.inl ⟨by rfl, fun W hS => by go_simp⟩) HSD.out ?_
  simp only [List.setIfInBounds_toArray, List.set_cons_zero, List.set_cons_succ]
  refine P_takeW 4 13 (.pointer (some ⟨CB, 3, none⟩)) #[true, true, true, false, true, false, false, false, false, false, false, false, false, false, false, false, false] rfl rfl (by kernel_rfl) (by kernel_rfl) (by kernel_rfl) (by kernel_rfl) (by decide) (fun _ _ _ h => h) (Or.inl ⟨by rfl, fun W hS => by go_simp⟩) HSD.out ?_
  simp only [List.setIfInBounds_toArray, List.set_cons_zero, List.set_cons_succ]
  refine P_take 5 14 (.int .i64 lim) #[true, true, true, false, true, true, false, false, false, false, false, false, false, false, false, false, false] rfl rfl (by kernel_rfl) (by kernel_rfl) (by kernel_rfl) (by kernel_rfl) (by kernel_rfl) (by kernel_rfl) (by decide) (fun _ _ _ h => h) (Or.inl ⟨by rfl, fun W hS => by have h1 := hS.c3; go_simp⟩) HSD.out ?_
  simp only [List.setIfInBounds_toArray, List.set_cons_zero, List.set_cons_succ]
  refine P_takeW 6 15 (.pointer (some ⟨CB, 4, none⟩)) #[true, true, true, false, true, true, true, false, false, false, false, false, false, false, false, false, false] rfl rfl (by kernel_rfl) (by kernel_rfl) (by kernel_rfl) (by kernel_rfl) (by decide) (fun _ _ _ h => h) (Or.inl ⟨by rfl, fun W hS => by go_simp⟩) HSD.out ?_
  simp only [List.setIfInBounds_toArray, List.set_cons_zero, List.set_cons_succ]
  refine P_take 7 16 (.int .i64 (rv : Int)) #[true, true, true, false, true, true, true, true, false, false, false, false, false, false, false, false, false] rfl rfl (by kernel_rfl) (by kernel_rfl) (by kernel_rfl) (by kernel_rfl) (by kernel_rfl) (by kernel_rfl) (by decide) (fun _ _ _ h => h) (Or.inl ⟨by rfl, fun W hS => by have h1 := hS.c4; go_simp⟩) HSD.out ?_
  simp only [List.setIfInBounds_toArray, List.set_cons_zero, List.set_cons_succ]
  refine P_takeT 8 17 (.slice Ae me ce) #[true, true, true, false, true, true, true, true, true, false, false, false, false, false, false, false, false] [11, 10] rfl rfl (by kernel_rfl) (by kernel_rfl) (by kernel_rfl) (by kernel_rfl) (by kernel_rfl) (by kernel_rfl) (by kernel_rfl) (by decide) (fun _ _ _ h => h) (Or.inl ⟨by rfl, fun W hS => by have h1 := hS.e0; go_simp⟩) HSD.out ?_
  simp only [List.setIfInBounds_toArray, List.set_cons_zero, List.set_cons_succ]
  refine P_takeW 9 18 (.int .i64 (i : Int)) #[true, true, true, false, true, true, true, true, true, true, false, false, false, false, false, false, false] rfl rfl (by kernel_rfl) (by kernel_rfl) (by kernel_rfl) (by kernel_rfl) (by decide) (fun _ _ _ h => h) (Or.inl ⟨by rfl, fun W hS => by go_simp⟩) HSD.out ?_
  simp only [List.setIfInBounds_toArray, List.set_cons_zero, List.set_cons_succ]
  refine P_takeT 10 19 (.pointer (some (adr Ae i))) #[true, true, true, false, true, true, true, true, true, true, true, false, false, false, false, false, false] [11] rfl rfl (by kernel_rfl) (by kernel_rfl) (by kernel_rfl) (by kernel_rfl) (by kernel_rfl) (by kernel_rfl) (by kernel_rfl) (by decide) (fun _ _ _ h => h) (Or.inl ⟨by rfl, fun W hS => by obtain ⟨es, h2, -⟩ := hS.r; have h1 := fun W => Rdv.ix h2 el34 hS.hi .i64 W; go_simp⟩) HSD.out ?_
  simp only [List.setIfInBounds_toArray, List.set_cons_zero, List.set_cons_succ]
  refine P_take 11 20 (.int .i64 (e : Int)) #[true, true, true, false, true, true, true, true, true, true, true, true, false, false, false, false, false] rfl rfl (by kernel_rfl) (by kernel_rfl) (by kernel_rfl) (by kernel_rfl) (by kernel_rfl) (by kernel_rfl) (by decide) (fun _ _ _ h => h) (Or.inl ⟨by rfl, fun W hS => by have h1 := hS.ce; go_simp⟩) HSD.out ?_
  simp only [List.setIfInBounds_toArray, List.set_cons_zero, List.set_cons_succ]
  refine P_oneS 3 #[true, true, true, true, true, true, true, true, true, true, true, true, false, false, false, false, false] rfl (by kernel_rfl) (by kernel_rfl) rfl (fun K hK => ?_)
  go_simp
  refine (tfil_any b i _).mono ?_
  rintro en wa ⟨rfl, hBa⟩
  have HSa := Lib.hid (ClS.below HSD.out hBa)
  have HBa := Lib.hid (((Below.refl W.heap.size W).drew).trans hBa)
  clear hBa
  refine hK _ _ HSa.out ?_
  clear hK K
  refine P_one 12 #[true, true, true, true, true, true, true, true, true, true, true, true, true, false, false, false, false] rfl (by kernel_rfl) (by kernel_rfl) rfl (by kernel_rfl) (fun K hK => ?_)
  go_simp
  refine (HM.out _ HSa.out.x).mono ?_
  rintro en wb ⟨hBb, h⟩
  have HBb := Lib.hid (HBa.out.trans (hBb.mono HBa.out.size))
  clear hBb
  rcases h with ⟨hne, hu0, rfl⟩ | ⟨hor, Am, cm, T, hlen, rfl, hA, hO⟩
  · have HNE := Lib.hid hne
    have HU0 := Lib.hid hu0
    clear hne hu0
    refine hK _ _ ?_
    clear hK K
    refine P_takeX 13 22 (.slice none 0 0) #[true, true, true, true, true, true, true, true, true, true, true, true, true, true, false, false, false] rfl rfl (by kernel_rfl) (by kernel_rfl) (by kernel_rfl) (by kernel_rfl) (by decide) (fun _ _ _ h => h) (Or.inl ⟨by rfl, fun W hS => by go_simp⟩) rfl ?_
    simp only [List.setIfInBounds_toArray, List.set_cons_zero, List.set_cons_succ]
    refine P_takeX 14 23 (.int .i64 10) #[true, true, true, true, true, true, true, true, true, true, true, true, true, true, true, false, false] rfl rfl (by kernel_rfl) (by kernel_rfl) (by kernel_rfl) (by kernel_rfl) (by decide) (fun _ _ _ h => h) (Or.inl ⟨by rfl, fun W hS => by go_simp⟩) rfl ?_
    simp only [List.setIfInBounds_toArray, List.set_cons_zero, List.set_cons_succ]
    refine P_one 15 #[true, true, true, true, true, true, true, true, true, true, true, true, true, true, true, true, false] rfl (by kernel_rfl) (by kernel_rfl) rfl (by kernel_rfl) (fun K hK => ?_)
    go_simp
    refine hK _ _ ?_
    clear hK K
    refine P_one 16 #[true, true, true, true, true, true, true, true, true, true, true, true, true, true, true, true, true] rfl (by kernel_rfl) (by kernel_rfl) rfl (by kernel_rfl) (fun K hK => ?_)
    go_simp
    refine hK _ _ ?_
    clear hK K
    refine P_done (by kernel_rfl) ?_ _
    go_wp2
    go_ret2
    exact ⟨HBb.out, .inl ⟨HNE.out, HU0.out, rfl⟩⟩
  · have HOR := Lib.hid hor
    have HLN := Lib.hid hlen
    have HO := Lib.hid hO
    clear hor hlen hO
    refine hK _ _ ?_
    clear hK K
    refine P_takeX 13 22 (.slice Am e cm) #[true, true, true, true, true, true, true, true, true, true, true, true, true, true, false, false, false] rfl rfl (by kernel_rfl) (by kernel_rfl) (by kernel_rfl) (by kernel_rfl) (by decide) (fun _ _ _ h => h) (Or.inl ⟨by rfl, fun W hS => by go_simp⟩) rfl ?_
    simp only [List.setIfInBounds_toArray, List.set_cons_zero, List.set_cons_succ]
    refine P_takeX 14 23 (.int .i64 0) #[true, true, true, true, true, true, true, true, true, true, true, true, true, true, true, false, false] rfl rfl (by kernel_rfl) (by kernel_rfl) (by kernel_rfl) (by kernel_rfl) (by decide) (fun _ _ _ h => h) (Or.inl ⟨by rfl, fun W hS => by go_simp⟩) rfl ?_
    simp only [List.setIfInBounds_toArray, List.set_cons_zero, List.set_cons_succ]
    refine P_one 15 #[true, true, true, true, true, true, true, true, true, true, true, true, true, true, true, true, false] rfl (by kernel_rfl) (by kernel_rfl) rfl (by kernel_rfl) (fun K hK => ?_)
    go_simp
    refine hK _ _ ?_
    clear hK K
    refine P_one 16 #[true, true, true, true, true, true, true, true, true, true, true, true, true, true, true, true, true] rfl (by kernel_rfl) (by kernel_rfl) rfl (by kernel_rfl) (fun K hK => ?_)
    go_simp
    refine hK _ _ ?_
    clear hK K
    refine P_done (by kernel_rfl) ?_ _
    go_wp2
    go_ret2
    exact ⟨HBb.out, .inr ⟨HOR.out, Am, cm, T, HLN.out, rfl, hA, Ownv.mono HO.out HBa.out.size⟩⟩
end Go.Proofs.YtcbbkflnenkpgaaGreat

namespace Go.Proofs.YtcbbkflnenkpgaaGreat
open Go.RowKit Go.Shelf
set_option linter.unusedVariables false
attribute [local go_sem] Oper.semAt_some
/-- what the closure gives: an error or a row -/
def CePost (bad : Prop) (ys : List Int) (W : World) (en : Ending) (w' : World) : Prop :=
  Below W.heap.size W w' ∧ ((bad ∧ en = .returned (.tuple #[.slice none 0 0, .int .i64 10])) ∨ (¬ bad ∧ ∃ A' n' c', en = .returned (.tuple #[.slice A' n' c', .int .i64 0]) ∧ A' ≠ none ∧ Own .u8 5 w' W.heap.size A' n' c' ys))
def EwE (w : World) (C : Nat) (bad : Nat → Prop) (Y : Nat → List Int) (out i : Value) (wr : World) : Prop :=
  ∃ (j : Nat) (A : Option Addr) (c : Nat) (L : List Sv), j ≤ C ∧ out = .slice A L.length c ∧ i = .int .i64 (j : Int) ∧ L.length = j ∧ BL wr w.heap.size A c L ∧ L.map (·.xs) = (List.range j).map Y ∧ (∀ q, q < j → ¬ bad q) ∧ Below w.heap.size w wr
/-- what each gives -/
def EaPost (C : Nat) (bad : Nat → Prop) (Y : Nat → List Int) (W : World) (en : Ending) (w' : World) : Prop :=
  Below W.heap.size W w' ∧ (((∃ q, q < C ∧ bad q) ∧ en = .returned (.tuple #[.slice none 0 0, .int .i64 10])) ∨ ((∀ q, q < C → ¬ bad q) ∧ ∃ A c L, en = .returned (.tuple #[.slice A L.length c, .int .i64 0]) ∧ BL w' W.heap.size A c L ∧ L.map (·.xs) = (List.range C).map Y))
set_option maxRecDepth 100000 in
set_option maxHeartbeats 2000000 in
theorem each20e_any (A0 : Option Addr) (C c0 : Nat) (L0 : List Sv) (p1 p2 p3 : Value) (bad : Nat → Prop) (Y : Nat → List Int) (W : World) (hL : RL W A0 C c0 L0) (hC : C ≤ 1000)
    (hcl : ∀ (j : Nat) (s : Sv) (wr : World), L0[j]? = some s → Below W.heap.size W wr → Calls Tryz.prog 28 #[.int .i64 (j : Int), .slice s.A s.n s.c, p1, p2, p3] wr (CePost (bad j) (Y j) wr)) :
    Calls Tryz.prog 20 #[.slice A0 C c0, .func (.func 28) #[] #[p1, p2, p3]] W (EaPost C bad Y W) := by
  have hl0 := hL.len
  have HC := Lib.hid hcl
  have HL := Lib.hid hL
  clear hcl
  go_enter Tryz.func20, Tryz.ntmps20
  go_wp2
  go_loopw [6, 13] (fun out i wr => EwE W C bad Y out i wr) (fun _ i _ => C - (intOf i).toNat)
  case atStart => exact ⟨0, none, 0, [], by omega, rfl, rfl, rfl, BL.nil W _, rfl, fun q hq => by omega, Below.refl _ _⟩
  case round =>
    obtain ⟨j, A, c, L, hj, rfl, rfl, hlen, hBL, hxs, hnb, hB⟩ := hrel
    have HBL := Lib.hid hBL
    have HX := Lib.hid hxs
    have HB := Lib.hid hB
    have HNB := Lib.hid hnb
    subst hlen
    by_cases hlt : L.length < C
    · have hRL := HL.out.below hB
      obtain ⟨s, hs, hc, hR⟩ := hRL.get hlt
      have hix := fun W => Rdv.ix hRL.o el55 (j := L.length) hlt .i64 W
      have hcl := Lib.hid (HC.out L.length s wr hs hB)
      clear hBL hxs hR hRL hs hL hnb hB
      go_wp2_with fail
      refine hcl.out.mono ?_
      rintro en w1 ⟨hB', h⟩
      have HB' := Lib.hid hB'
      rcases h with ⟨hbad, rfl⟩ | ⟨hnb2, A', n', c', rfl, hA', hO'⟩
      · have HBAD := Lib.hid hbad
        have HD := Lib.hid (HB.out.trans (hB'.mono HB.out.size))
        have HLT := Lib.hid hlt
        clear hbad hB'
        go_wp2
        go_ret2
        exact ⟨HD.out, .inl ⟨⟨_, HLT.out, HBAD.out⟩, rfl⟩⟩
      · have HO' := Lib.hid hO'
        have HA' := Lib.hid hA'
        have HN2 := Lib.hid hnb2
        have HBL1 := Lib.hid (HBL.out.below hB')
        have HZ1 := Lib.hid (Nat.le_trans HB.out.size hB'.size)
        clear hO' hA' hnb2 hB' hcl
        go_wp2_with (at_builtin; refine list_of rfl fun K hK => wp_app1 (w := w1) (base := W.heap.size) _ _ 28 rfl el55 rfl (.slice A' n' c') rfl rfl HBL1.out.o (by omega) (by omega) HZ1.out ?_; intro A2 c2 w2 hO2 hg2; have HO2 := Lib.hid hO2; have HG2 := Lib.hid hg2; clear hO2 hg2; refine hK _ _ ?_; clear hK K)
        have hge := (Ownv.blk_of HO'.out HA'.out).1
        have hBL2 : BL w2 W.heap.size A2 c2 (L ++ [⟨A', n', c', Y L.length⟩]) :=
          BL.push HBL1.out (s := ⟨A', n', c', Y L.length⟩) (Ownv.mono HO'.out HB.out.size) HA'.out
            (fun t ht => by have h8 := (Ownv.blk_of (HBL.out.r t ht).1 (HBL.out.r t ht).2).2; exact Nat.ne_of_lt (Nat.lt_of_lt_of_le h8 hge)) HO2.out HG2.out
        have hob : ∀ k, (Value.slice A L.length c).ownBlock = some k → W.heap.size ≤ k := fun k hk => Ownv.ob' HBL1.out.o hk
        have hB1 := HB.out.trans (HB'.out.mono HB.out.size)
        have hB2 := hB1.grown HG2.out hB1.size hob
        go_roundw
        case rel => exact ⟨L.length + 1, A2, c2, L ++ [⟨A', n', c', Y L.length⟩], by omega, by first | (simp; done) | rfl, by first | (simp; done) | rfl | go_num, by simp, hBL2, by rw [List.map_append, HX.out, List.range_succ, List.map_append]; rfl, lt_succ_cases HNB.out HN2.out, hB2⟩
        case measure => simp [intOf]; omega
    · have he : L.length = C := by omega
      have HF : Hid (L.map (·.xs) = (List.range C).map Y) := Lib.hid (by rw [HX.out, he])
      have HNC : Hid (∀ q, q < C → ¬ bad q) := Lib.hid (by rw [← he]; exact HNB.out)
      clear hBL hxs hnb
      go_wp2
      go_ret2
      exact ⟨HB.out, .inr ⟨HNC.out, A, c, L, rfl, HBL.out, HF.out⟩⟩
end Go.Proofs.YtcbbkflnenkpgaaGreat

