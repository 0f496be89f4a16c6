/-
  Bundle of the texts Ee Ib TuA TuS TuB TuC. Conditions: none.
-/
import Derived.Test.YtpdalbckmfadbaaGreatBuham
import Derived.Test.YtpdalbckmfadbaaGreatProg
import Derived.Test.YtpdalbckmfadbaaGreatBuhaa
import Derived.Handy
namespace Go.Proofs.YtpdalbckmfadbaaGreat
open Go.RowKit
set_option linter.unusedVariables false
/-- the magnitude with the sign of place q -/
def sgM (M : Int) (x y q : Nat) : Int := if q = x ∨ q = y then -M else M
def lossM (M : Int) (n e i : Nat) : Int := (if e < i then 2 * M else 0) + (if n ≤ e ∧ e < n + i then 2 * M else 0)
def oZ (M : Int) (k x y : Nat) : Ob := ⟨(List.range (k + 3)).map (sgM M x y), (List.range (k + 3)).map (fun j => sgM M x y (k + 3 + j)), List.replicate k 0⟩
theorem gi_zero (k j : Nat) : gi (List.replicate k (0 : Int)) j = 0 := by
  unfold gi
  rw [List.getD_eq_getElem?_getD, List.getElem?_replicate]
  split <;> rfl
theorem sgM_bd {M : Int} (hM : 1 ≤ M ∧ M ≤ 127) (x y q : Nat) : -M ≤ sgM M x y q ∧ sgM M x y q ≤ M := by unfold sgM; split <;> omega
theorem oZ_x (M : Int) (k x y i : Nat) (hi : i < k + 3) : (oZ M k x y).x i = sgM M x y i := by
  unfold Ob.x oZ
  dsimp only
  rw [gi_zero, gi_range _ hi, Int.add_zero, ite_self]
theorem oZ_p (M : Int) (k x y i : Nat) (hi : i < k + 3) : gi (oZ M k x y).p i = sgM M x y (k + 3 + i) := gi_range _ hi
theorem oZ_len (M : Int) (k x y : Nat) : (oZ M k x y).s.length = k + 3 := by simp [oZ]
theorem oZ_ok {M : Int} (hM : 1 ≤ M ∧ M ≤ 127) {k : Nat} (hk : 1 ≤ k ∧ k ≤ 200) (x y : Nat) : (oZ M k x y).ok := by
  refine ⟨by simp [oZ]; omega, by simp [oZ]; omega, by simp [oZ], by simp [oZ], ?_, ?_, ?_⟩ <;> intro v hv
  · obtain ⟨j, -, rfl⟩ := List.mem_map.1 hv
    have := sgM_bd hM x y j
    omega
  · obtain ⟨j, -, rfl⟩ := List.mem_map.1 hv
    have := sgM_bd hM x y (k + 3 + j)
    omega
  · have := List.eq_of_mem_replicate hv
    omega
theorem oZ_Z {M : Int} (hM : 1 ≤ M ∧ M ≤ 127) (k x y : Nat) : ∀ i, i ≤ k + 3 → 2 * (M * (i : Int)) - lossM M (k + 3) x i - lossM M (k + 3) y i ≤ (oZ M k x y).Z i
  | 0, _ => by
    have hx : lossM M (k + 3) x 0 = 0 := by unfold lossM; rw [if_neg (by omega), if_neg (by omega)]; rfl
    have hy : lossM M (k + 3) y 0 = 0 := by unfold lossM; rw [if_neg (by omega), if_neg (by omega)]; rfl
    rw [hx, hy]
    simp [Ob.Z]
  | i + 1, hi => by
    have ih := oZ_Z hM k x y i (by omega)
    have e1 : M * ((i + 1 : Nat) : Int) = M * (i : Int) + M := by push_cast; rw [Int.mul_add, Int.mul_one]
    have step : ∀ e, lossM M (k + 3) e (i + 1) = lossM M (k + 3) e i + (if e = i then 2 * M else 0) + (if e = k + 3 + i then 2 * M else 0) := fun e => by
      unfold lossM
      by_cases h1 : e < i <;> by_cases h2 : e = i <;> by_cases h3 : k + 3 ≤ e ∧ e < k + 3 + i <;> by_cases h4 : e = k + 3 + i
      all_goals first
        | omega
        | (simp only [h1, h2, h3, h4, if_true, if_false, show (e < i + 1) = (e < i ∨ e = i) from by apply propext; omega, show (k + 3 ≤ e ∧ e < k + 3 + (i + 1)) = ((k + 3 ≤ e ∧ e < k + 3 + i) ∨ e = k + 3 + i) from by apply propext; omega]; split <;> split <;> omega)
        | skip
    simp only [Ob.Z]
    rw [oZ_x M k x y i (by omega), oZ_p M k x y i (by omega), e1, step x, step y]
    unfold sgM
    generalize lossM M (k + 3) x i = lx at *
    generalize lossM M (k + 3) y i = ly at *
    generalize M * (i : Int) = mi at *
    by_cases h1 : x = i <;> by_cases h2 : y = i <;> by_cases h3 : x = k + 3 + i <;> by_cases h4 : y = k + 3 + i
    all_goals first
      | omega
      | (rw [if_pos (by omega), if_pos (by omega)]; simp only [h1, h2, h3, h4, if_true, if_false]; omega)
      | skip
theorem oZ_hol {M : Int} (hM : 1 ≤ M ∧ M ≤ 127) {k : Nat} (hk : 1 ≤ k ∧ k ≤ 200) (x y : Nat) : Hol (oZ M k x y) M := by
  refine ⟨oZ_ok hM hk x y, hM, fun i hi => ?_, fun i hi => ?_, ?_⟩
  · rw [oZ_len] at hi; rw [oZ_x M k x y i hi]; exact sgM_bd hM _ _ _
  · rw [oZ_len] at hi; rw [oZ_p M k x y i hi]; exact sgM_bd hM _ _ _
  · have h := oZ_Z hM k x y (k + 3) (Nat.le_refl _)
    rw [oZ_len, Int.mul_assoc]
    have l : ∀ e, lossM M (k + 3) e (k + 3) ≤ 2 * M := fun e => by
      unfold lossM
      split <;> split <;> omega
    have := l x
    have := l y
    omega
theorem holds_plain {M : Int} (hM : 1 ≤ M ∧ M ≤ 127) {k : Nat} (hk : 1 ≤ k ∧ k ≤ 200) (x y : Nat) {bs : List Bool} (hb : bs.length = k) (o : Ob) (hs : o.s.length = k + 3) (hp : o.p.length = k + 3) (ha : o.a = List.replicate k 0)
    (h1 : ∀ j, j < k + 3 → gi o.s j = sgM M x y j * (1 - 2 * (bq ((inW bs).getD j false) : Int)))
    (h2 : ∀ j, j < k + 3 → gi o.p j = sgM M x y (k + 3 + j) * (1 - 2 * (bq ((outW bs).getD j false) : Int))) : o.ok ∧ o.dB = bs.map ib := by
  have hok := oZ_ok hM hk x y
  have hk2 : bs.length = (oZ M k x y).a.length := by rw [hb]; simp [oZ]
  have e : o = (oZ M k x y).turn bs := by
    have q1 : o.s = flp (oZ M k x y).s (inW bs) := ext_gi (by rw [flp_len, oZ_len, hs]) fun j hj => by
      rw [hs] at hj
      rw [gi_flp, h1 j hj]
      congr 1
      exact (gi_range _ hj).symm
    have q2 : o.p = flp (oZ M k x y).p (outW bs) := ext_gi (by rw [flp_len, hp]; simp [oZ]) fun j hj => by
      rw [hp] at hj
      rw [gi_flp, h2 j hj, oZ_p M k x y j hj]
    have q3 : o.a = flp (oZ M k x y).a bs := ext_gi (by rw [flp_len, ha]; simp [oZ]) fun j hj => by
      rw [gi_flp, ha]
      show _ = gi (List.replicate k 0) j * _
      rw [gi_zero, Int.zero_mul]
    unfold Ob.turn
    rw [← q1, ← q2, ← q3]
  rw [e]
  refine ⟨turn_ok hok bs, ?_⟩
  have ht := turn_tn hok hk2
  have hh := oZ_hol hM hk x y
  have hal : ((oZ M k x y).turn bs).a.length = k := by show (flp _ _).length = k; rw [flp_len]; simp [oZ]
  unfold Ob.dB
  rw [if_pos (turn_ok hok bs), hal]
  refine ext_gi (by simp [hb]) fun j hj => ?_
  have hj : j < k := by simpa using hj
  rw [gi_range _ hj, gi_ib bs j (by omega)]
  unfold Ob.bT
  rw [ht.tot j (by rw [oZ_len]; omega)]
  have hpos := hh.tot j (by rw [oZ_len]; omega)
  have hbt : (cW bs j).bt = bq (bs[j]'(by omega)) := by
    show bq ((inW bs).getD j false) = _
    rw [inW_lo bs j (by omega)]
    simp [List.getD, show j < bs.length from by omega]
  rw [hbt]
  generalize bs[j]'_ = b
  cases b
  · show (if (oZ M k x y).tot j * (1 - 2 * 0) < 0 then (1 : Int) else 0) = 0
    rw [if_neg (by omega)]
  · show (if (oZ M k x y).tot j * (1 - 2 * 1) < 0 then (1 : Int) else 0) = 1
    rw [if_pos (by omega)]
end Go.Proofs.YtpdalbckmfadbaaGreat

namespace Go.Proofs.YtpdalbckmfadbaaGreat
open Go.RowKit
set_option linter.unusedVariables false
theorem sq_sg (b : Bool) : (1 - 2 * (bq b : Int)) * (1 - 2 * (bq b : Int)) = 1 := by cases b <;> rfl
theorem mul_sg (m : Int) (b : Bool) : m * (1 - 2 * (bq b : Int)) * (1 - 2 * (bq b : Int)) = m := by rw [Int.mul_assoc, sq_sg, Int.mul_one]
theorem sg_bd {m : Int} (b : Bool) (h : -127 ≤ m ∧ m ≤ 127) : -127 ≤ m * (1 - 2 * (bq b : Int)) ∧ m * (1 - 2 * (bq b : Int)) ≤ 127 := by
  cases b
  · simp [bq]; omega
  · show -127 ≤ m * (1 - 2 * 1) ∧ m * (1 - 2 * 1) ≤ 127
    omega
/-- right signs -/
structure Rgt (o : Ob) (k : Nat) (bs : List Bool) (m1 m2 : Nat → Int) : Prop where
  b : bs.length = k
  k1 : 1 ≤ k
  k2 : k ≤ 6144
  ls : o.s.length = k + 3
  lp : o.p.length = k + 3
  la : o.a.length = k
  s : ∀ j, j < k + 3 → gi o.s j = m1 j * (1 - 2 * (bq ((inW bs).getD j false) : Int)) ∧ 1 ≤ m1 j ∧ m1 j ≤ 127
  p : ∀ j, j < k + 3 → gi o.p j = m2 j * (1 - 2 * (bq ((outW bs).getD j false) : Int)) ∧ 1 ≤ m2 j ∧ m2 j ≤ 127
  a : ∀ j, j < k → 0 ≤ gi o.a j * (1 - 2 * (bq (bs.getD j false) : Int)) ∧ -127 ≤ gi o.a j ∧ gi o.a j ≤ 127
theorem mem_gi {l : List Int} {v : Int} (h : v ∈ l) : ∃ j, j < l.length ∧ gi l j = v := by
  obtain ⟨j, hj, rfl⟩ := List.getElem_of_mem h
  exact ⟨j, hj, gi_eq _ _ hj⟩
theorem Rgt.ok {o : Ob} {k : Nat} {bs : List Bool} {m1 m2 : Nat → Int} (h : Rgt o k bs m1 m2) : o.ok := by
  refine ⟨by rw [h.la]; exact h.k1, by rw [h.la]; exact h.k2, by rw [h.ls, h.la], by rw [h.lp, h.la], fun v hv => ?_, fun v hv => ?_, fun v hv => ?_⟩
  · obtain ⟨j, hj, rfl⟩ := mem_gi hv
    obtain ⟨e, h1, h2⟩ := h.s j (by rw [← h.ls]; exact hj)
    rw [e]; exact sg_bd _ (by omega)
  · obtain ⟨j, hj, rfl⟩ := mem_gi hv
    obtain ⟨e, h1, h2⟩ := h.p j (by rw [← h.lp]; exact hj)
    rw [e]; exact sg_bd _ (by omega)
  · obtain ⟨j, hj, rfl⟩ := mem_gi hv
    exact (h.a j (by rw [← h.la]; exact hj)).2
theorem Rgt.cle {o : Ob} {k : Nat} {bs : List Bool} {m1 m2 : Nat → Int} (h : Rgt o k bs m1 m2) : Cle (o.turn bs) := by
  refine ⟨turn_ok h.ok bs, fun i hi => ?_, fun i hi => ?_, fun i hi => ?_⟩
  · have hi : i < k + 3 := by simpa [Ob.turn, flp_len, h.ls] using hi
    obtain ⟨e, h1, -⟩ := h.s i hi
    show 1 ≤ gi (flp o.s (inW bs)) i
    rw [gi_flp, e, mul_sg]; exact h1
  · have hi : i < k + 3 := by simpa [Ob.turn, flp_len, h.ls] using hi
    obtain ⟨e, h1, -⟩ := h.p i hi
    show 0 ≤ gi (flp o.p (outW bs)) i
    rw [gi_flp, e, mul_sg]; omega
  · have hi : i < k := by simpa [Ob.turn, flp_len, h.la] using hi
    show 0 ≤ gi (flp o.a bs) i
    rw [gi_flp]; exact (h.a i hi).1
theorem ext_bd (v : Int) : -127 ≤ ext v ∧ ext v ≤ 127 := by unfold ext; omega
theorem clean_plain {o : Ob} {k : Nat} {bs : List Bool} {m1 m2 : Nat → Int} (h : Rgt o k bs m1 m2) :
    o.dB = bs.map ib ∧ o.dE.length = k ∧ ∀ j, j < k → 0 ≤ gi o.dE j * (1 - 2 * (bq (bs.getD j false) : Int)) ∧ -127 ≤ gi o.dE j ∧ gi o.dE j ≤ 127 := by
  have hok := h.ok
  have hc := h.cle
  have hbl : bs.length = o.a.length := by rw [h.b, h.la]
  have ht := turn_tn hok hbl
  have hE := turn_dE hok hbl
  have hel : o.dE.length = k := by unfold Ob.dE; rw [if_pos hok]; simp [h.la]
  have tl : (o.turn bs).s.length = k + 3 := by show (flp _ _).length = _; rw [flp_len, h.ls]
  have tal : (o.turn bs).a.length = k := by show (flp _ _).length = _; rw [flp_len, h.la]
  have tt : ∀ j, j < k → (o.turn bs).x j ≤ (o.turn bs).tot j := fun j hj => hc.tot j (by rw [tl]; omega)
  refine ⟨?_, hel, fun j hj => ⟨?_, ?_⟩⟩
  · unfold Ob.dB
    rw [if_pos hok, h.la]
    refine ext_gi (by simp [h.b]) fun j hj => ?_
    have hj : j < k := by simpa using hj
    rw [gi_range _ hj, gi_ib bs j (by rw [h.b]; exact hj)]
    unfold Ob.bT
    have h1 := tt j hj
    have h2 := hc.x j (by rw [tl]; omega)
    rw [ht.tot j (by rw [h.ls]; omega)] at h1
    have hbt : (cW bs j).bt = bq (bs[j]'(by rw [h.b]; exact hj)) := by
      show bq ((inW bs).getD j false) = _
      rw [inW_lo bs j (by rw [h.b]; exact hj)]
      simp [List.getD, show j < bs.length from by rw [h.b]; exact hj]
    rw [hbt] at h1
    generalize bs[j]'_ = b at *
    cases b
    · simp [bq] at h1; simp [ib]; omega
    · have h1 : (o.turn bs).x j ≤ o.tot j * (1 - 2 * 1) := h1
      show (if o.tot j < 0 then (1 : Int) else 0) = 1
      rw [if_pos (by omega)]
  · have e : gi (o.turn bs).dE j = gi (flp o.dE bs) j := by rw [hE]
    rw [gi_flp] at e
    rw [← e]
    unfold Ob.dE
    rw [if_pos (turn_ok hok bs), tal, gi_range _ hj]
    unfold Ob.eT
    refine ext_nonneg ?_
    have h1 := tt j hj
    unfold Ob.x at h1
    rw [if_pos (by show j < (o.turn bs).a.length; rw [tal]; exact hj)] at h1
    omega
  · unfold Ob.dE
    rw [if_pos hok, h.la, gi_range _ hj]
    exact ext_bd _
end Go.Proofs.YtpdalbckmfadbaaGreat

namespace Go.Proofs.YtpdalbckmfadbaaGreat.Tu
open Go.RowKit
set_option linter.unusedVariables false
def validK (k : Int) : Bool := decide (40 ≤ k ∧ k ≤ 512 ∧ k % 8 = 0 ∨ 528 ≤ k ∧ k ≤ 1024 ∧ k % 16 = 0 ∨ 1056 ≤ k ∧ k ≤ 2048 ∧ k % 32 = 0 ∨ 2112 ≤ k ∧ k ≤ 6144 ∧ k % 64 = 0)
def spansV : Value := .agg #[.int .i64 40, .int .i64 512, .int .i64 8, .int .i64 528, .int .i64 1024, .int .i64 16, .int .i64 1056, .int .i64 2048, .int .i64 32, .int .i64 2112, .int .i64 6144, .int .i64 64]
theorem spans_any (w : World) : Calls Tryz.prog 68 #[] w fun e w' => e = .returned spansV ∧ Below w.heap.size w w' := by
  go_enter Tryz.func68, Tryz.ntmps68
  go_wp2
  refine bodyPost_ret (v := spansV) (by simp [results, Tryz.results68, go_sem]; rfl) rfl ?_
  exact ⟨rfl, (Below.refl _ w).alloc (Nat.le_refl _) _⟩
theorem span0 (W : World) : (Instr.index 122 spansV (.int .i64 0)).run Tryz.prog W = .ok (.agg #[.int .i64 40, .int .i64 512, .int .i64 8]) W := by kernel_rfl
theorem span1 (W : World) : (Instr.index 122 spansV (.int .i64 1)).run Tryz.prog W = .ok (.agg #[.int .i64 528, .int .i64 1024, .int .i64 16]) W := by kernel_rfl
theorem span2 (W : World) : (Instr.index 122 spansV (.int .i64 2)).run Tryz.prog W = .ok (.agg #[.int .i64 1056, .int .i64 2048, .int .i64 32]) W := by kernel_rfl
theorem span3 (W : World) : (Instr.index 122 spansV (.int .i64 3)).run Tryz.prog W = .ok (.agg #[.int .i64 2112, .int .i64 6144, .int .i64 64]) W := by kernel_rfl
def SpanInv (k : Int) (w : World) (i : Value) (wr : World) : Prop := ∃ j : Nat, j ≤ 4 ∧ i = .int .i64 j ∧ (0 < j → ¬ (40 ≤ k ∧ k ≤ 512)) ∧ (1 < j → ¬ (528 ≤ k ∧ k ≤ 1024)) ∧ (2 < j → ¬ (1056 ≤ k ∧ k ≤ 2048)) ∧ (3 < j → ¬ (2112 ≤ k ∧ k ≤ 6144)) ∧ Below w.heap.size w wr
theorem valid_any (k : Int) (w : World) : Calls Tryz.prog 27 #[.int .i64 k] w fun e w' => e = .returned (.bool (validK k)) ∧ Below w.heap.size w w' := by
  have hV : Hid (∀ b : Bool, (b = true ↔ (40 ≤ k ∧ k ≤ 512 ∧ k % 8 = 0 ∨ 528 ≤ k ∧ k ≤ 1024 ∧ k % 16 = 0 ∨ 1056 ≤ k ∧ k ≤ 2048 ∧ k % 32 = 0 ∨ 2112 ≤ k ∧ k ≤ 6144 ∧ k % 64 = 0)) → b = validK k) := Lib.hid (by
    intro b hb; unfold validK; rw [Bool.eq_iff_iff, hb, decide_eq_true_iff])
  generalize validK k = V at *
  go_enter Tryz.func27, Tryz.ntmps27
  go_wp2_with fail
  refine (spans_any _).mono ?_
  rintro e w1 ⟨rfl, hB1⟩
  have e0 := span0; have e1 := span1; have e2 := span2; have e3 := span3
  generalize spansV = SV at *
  go_wp2_with fail
  go_loopw [6] (fun i wr => SpanInv k w i wr) (fun i _ => 4 - (intOf i).toNat)
  case atStart => exact ⟨0, by omega, rfl, by omega, by omega, by omega, by omega, hB1⟩
  case round =>
    obtain ⟨j, hj, rfl, h1, h2, h3, h4, hB⟩ := hrel
    have H1 := Lib.hid h1; have H2 := Lib.hid h2; have H3 := Lib.hid h3; have H4 := Lib.hid h4
    clear h1 h2 h3 h4
    rcases (by omega : j = 0 ∨ j = 1 ∨ j = 2 ∨ j = 3 ∨ j = 4) with rfl | rfl | rfl | rfl | rfl
    all_goals try simp only [Int.ofNat_zero, Int.ofNat_one, Int.cast_ofNat_Int]
    all_goals go_wp2
    all_goals (have h1 := H1.out; have h2 := H2.out; have h3 := H3.out; have h4 := H4.out)
    all_goals first
      | exact ⟨⟨_, by omega, rfl, by omega, by omega, by omega, by omega, hB.alloc hB.size _⟩, by simp [intOf]⟩
      | exact ⟨⟨1, by omega, rfl, by omega, by omega, by omega, by omega, hB.alloc hB.size _⟩, by simp [intOf]⟩
      | exact ⟨⟨2, by omega, rfl, by omega, by omega, by omega, by omega, hB.alloc hB.size _⟩, by simp [intOf]⟩
      | exact ⟨⟨3, by omega, rfl, by omega, by omega, by omega, by omega, hB.alloc hB.size _⟩, by simp [intOf]⟩
      | exact ⟨⟨4, by omega, rfl, by omega, by omega, by omega, by omega, hB.alloc hB.size _⟩, by simp [intOf]⟩
      | (go_ret
         refine ⟨ret_bool (hV.out _ ?_), by first | exact hB.alloc hB.size _ | exact hB⟩
         first
          | (rw [beq_iff_eq]; omega)
          | (refine iff_of_false (by decide) ?_; omega))
end Go.Proofs.YtpdalbckmfadbaaGreat.Tu

namespace Go.Proofs.YtpdalbckmfadbaaGreat.Tu
open Go.RowKit
set_option linter.unusedVariables false
def strip : Nat → Nat → Nat → Option Nat
  | 0, _, _ => none
  | f + 1, p, k => if k % p = 0 then strip f p (k / p) else some k
def dvs : Nat → Nat → Nat → List Nat → Option (List Nat)
  | 0, _, _, _ => none
  | f + 1, p, k, acc => if k ≤ 1 then some acc else match strip 14 p k with
    | none => none
    | some k2 => dvs f (p + 1) k2 (if k % p = 0 then acc ++ [p] else acc)
def cop (f : Nat) (D : List Nat) : Bool := D.all fun p => decide (f % p ≠ 0)
def fnd : Nat → Nat → List Nat → Option Nat
  | 0, _, _ => none
  | n + 1, f, D => if cop f D = true then some f else fnd n (f + 2) D
def fndG : Nat → Nat → Nat → Option Nat
  | 0, _, _ => none
  | n + 1, f, k => if 1 < Nat.gcd f k then fndG n (f + 2) k else some f
def prodL (D : List Nat) : Nat := D.foldl (· * ·) 1
def validN (k : Nat) : Bool := validK (k : Int)
def chk (k : Nat) : Bool := match dvs 100 2 k [] with
  | none => false
  | some D => match fnd 50 3 D with
    | none => false
    | some F => decide (D.length ≤ 12 ∧ fndG 50 3 k = some F ∧ F ≤ 1000 ∧ prodL D ≤ 6144) && D.all (fun p => decide (1 ≤ p))
theorem chk_all : ((List.range 6145).all fun k => !validN k || chk k) = true := by decide +kernel
def dvL (k : Nat) : List Nat := (dvs 100 2 k []).getD []
def f1N (k : Nat) : Nat := (fnd 50 3 (dvL k)).getD 0
def f2N (k : Nat) : Nat := prodL (dvL k)
structure Prm (k : Nat) : Prop where
  k0 : 40 ≤ k
  k1 : k ≤ 6144
  d : dvs 100 2 k [] = some (dvL k)
  f : fnd 50 3 (dvL k) = some (f1N k)
  g : fndG 50 3 k = some (f1N k)
  l : (dvL k).length ≤ 12
  b1 : f1N k ≤ 1000
  b2 : f2N k ≤ 6144
  p : ∀ q ∈ dvL k, 1 ≤ q
theorem valid_bd {k : Int} (h : validK k = true) : 40 ≤ k ∧ k ≤ 6144 := by
  unfold validK at h
  rw [decide_eq_true_iff] at h
  omega
theorem prm {k : Nat} (h : validK (k : Int) = true) : Prm k := by
  obtain ⟨h0, h1⟩ := valid_bd h
  have hc := List.all_eq_true.1 chk_all k (List.mem_range.2 (by omega))
  have hv : validN k = true := h
  rw [hv] at hc
  have hc : chk k = true := by simpa using hc
  unfold chk at hc
  have e1 : dvs 100 2 k [] = some (dvL k) := by
    unfold dvL
    cases hd : dvs 100 2 k [] with
    | none => rw [hd] at hc; cases hc
    | some D => rfl
  rw [e1] at hc
  simp only at hc
  have e2 : fnd 50 3 (dvL k) = some (f1N k) := by
    unfold f1N
    cases hd : fnd 50 3 (dvL k) with
    | none => rw [hd] at hc; cases hc
    | some D => rfl
  rw [e2] at hc
  simp only [Bool.and_eq_true, decide_eq_true_iff] at hc
  obtain ⟨⟨c1, c2, c3, c4⟩, c5⟩ := hc
  exact ⟨by omega, by omega, e1, e2, c2, c1, c3, c4, fun q hq => by have := List.all_eq_true.1 c5 q hq; simpa using this⟩
theorem dvs_len : ∀ (f p k : Nat) (acc D : List Nat), dvs f p k acc = some D → acc.length ≤ D.length
  | 0, _, _, _, _, h => by cases h
  | f + 1, p, k, acc, D, h => by
    unfold dvs at h
    split at h
    · cases h; exact Nat.le_refl _
    · split at h
      · cases h
      · have := dvs_len f (p + 1) _ _ D h
        split at this
        · rw [List.length_append] at this; simp at this; omega
        · exact this
theorem dvs_pre : ∀ (f p k : Nat) (acc D : List Nat), dvs f p k acc = some D → ∃ t, D = acc ++ t
  | 0, _, _, _, _, h => by cases h
  | f + 1, p, k, acc, D, h => by
    unfold dvs at h
    split at h
    · cases h; exact ⟨[], by simp⟩
    · split at h
      · cases h
      · obtain ⟨t, ht⟩ := dvs_pre f (p + 1) _ _ D h
        split at ht
        · exact ⟨[p] ++ t, by rw [ht, List.append_assoc]⟩
        · exact ⟨t, ht⟩
/-- One step of the search for divisors. -/
theorem dvs_step {f p k : Nat} {acc D : List Nat} (h : dvs f p k acc = some D) (hk : 1 < k) : ∃ f' k2, f = f' + 1 ∧ strip 14 p k = some k2 ∧ dvs f' (p + 1) k2 (if k % p = 0 then acc ++ [p] else acc) = some D := by
  cases f with
  | zero => cases h
  | succ f =>
    unfold dvs at h
    rw [if_neg (by omega)] at h
    cases hs : strip 14 p k with
    | none => rw [hs] at h; cases h
    | some k2 => rw [hs] at h; exact ⟨f, k2, rfl, rfl, h⟩
theorem dvs_end {f p k : Nat} {acc D : List Nat} (h : dvs f p k acc = some D) (hk : k ≤ 1) : acc = D := by
  cases f with
  | zero => cases h
  | succ f => unfold dvs at h; rw [if_pos hk] at h; exact Option.some.inj h
theorem strip_step {f p k K : Nat} (h : strip f p k = some K) (hk : k % p = 0) : ∃ f', f = f' + 1 ∧ strip f' p (k / p) = some K := by
  cases f with
  | zero => cases h
  | succ f => unfold strip at h; rw [if_pos hk] at h; exact ⟨f, rfl, h⟩
theorem strip_end {f p k K : Nat} (h : strip f p k = some K) (hk : k % p ≠ 0) : k = K := by
  cases f with
  | zero => cases h
  | succ f => unfold strip at h; rw [if_neg hk] at h; exact Option.some.inj h
theorem fnd_le : ∀ (n f : Nat) (D : List Nat) (F : Nat), fnd n f D = some F → f ≤ F
  | 0, _, _, _, h => by cases h
  | n + 1, f, D, F, h => by
    unfold fnd at h
    split at h
    · cases h; exact Nat.le_refl _
    · have := fnd_le n (f + 2) D F h; omega
theorem fnd_step {n f : Nat} {D : List Nat} {F : Nat} (h : fnd n f D = some F) (hc : cop f D = false) : f + 2 ≤ F ∧ ∃ n', fnd n' (f + 2) D = some F := by
  cases n with
  | zero => cases h
  | succ n => unfold fnd at h; rw [if_neg (by rw [hc]; decide)] at h; exact ⟨fnd_le _ _ _ _ h, n, h⟩
theorem fnd_end {n f : Nat} {D : List Nat} {F : Nat} (h : fnd n f D = some F) (hc : cop f D = true) : f = F := by
  cases n with
  | zero => cases h
  | succ n => unfold fnd at h; rw [if_pos hc] at h; exact Option.some.inj h
theorem fndG_le : ∀ (n f k F : Nat), fndG n f k = some F → f ≤ F
  | 0, _, _, _, h => by cases h
  | n + 1, f, k, F, h => by
    unfold fndG at h
    split at h
    · have := fndG_le n (f + 2) k F h; omega
    · cases h; exact Nat.le_refl _
theorem fndG_step {n f k F : Nat} (h : fndG n f k = some F) (hc : 1 < Nat.gcd f k) : f + 2 ≤ F ∧ ∃ n', fndG n' (f + 2) k = some F := by
  cases n with
  | zero => cases h
  | succ n => unfold fndG at h; rw [if_pos hc] at h; exact ⟨fndG_le _ _ _ _ h, n, h⟩
theorem fndG_end {n f k F : Nat} (h : fndG n f k = some F) (hc : ¬ 1 < Nat.gcd f k) : f = F := by
  cases n with
  | zero => cases h
  | succ n => unfold fndG at h; rw [if_neg hc] at h; exact Option.some.inj h
theorem foldl_mul (D : List Nat) : ∀ a, D.foldl (· * ·) a = a * prodL D := by
  induction D with
  | nil => intro a; simp [prodL]
  | cons d D ih => intro a; simp only [prodL, List.foldl_cons]; rw [ih, ih (1 * d)]; rw [Nat.one_mul, Nat.mul_assoc]
theorem prodL_app (a b : List Nat) : prodL (a ++ b) = prodL a * prodL b := by
  unfold prodL; rw [List.foldl_append, foldl_mul]; rfl
theorem prodL_pos {D : List Nat} (h : ∀ q ∈ D, 1 ≤ q) : 1 ≤ prodL D := by
  induction D with
  | nil => simp [prodL]
  | cons d D ih =>
    rw [show d :: D = [d] ++ D from rfl, prodL_app]
    have h1 := h d (by simp)
    have h2 := ih fun q hq => h q (by simp [hq])
    have : prodL [d] = d := by simp [prodL]
    rw [this]
    exact Nat.mul_pos h1 h2
theorem prodL_le {a t : List Nat} (h : ∀ q ∈ a ++ t, 1 ≤ q) : prodL a ≤ prodL (a ++ t) := by
  rw [prodL_app]
  exact Nat.le_mul_of_pos_right _ (prodL_pos fun q hq => h q (List.mem_append_right _ hq))
/-- The permutation. -/
def piN (k i : Nat) : Nat := (f1N k * i + f2N k * i % k * i) % k
def ordL (k : Nat) : List Int := (List.range k).map fun i => (piN k i : Int)
end Go.Proofs.YtpdalbckmfadbaaGreat.Tu

namespace Go.Proofs.YtpdalbckmfadbaaGreat.Tu
open Go.RowKit
set_option linter.unusedVariables false
theorem el33 : El Tryz.prog 34 3 (.int .i64 0) 8 := ⟨by kernel_rfl, by kernel_rfl, fun _ => by kernel_rfl, rfl⟩
set_option maxHeartbeats 2000000 in
theorem rvalid_any (k : Int) (w : World) : Calls Tryz.prog 139 #[.int .i64 k] w fun e w' => e = .returned (.bool (validK k)) ∧ w = w' := by
  have hV : Hid (∀ b : Bool, (b = true ↔ (40 ≤ k ∧ k ≤ 512 ∧ k % 8 = 0 ∨ 528 ≤ k ∧ k ≤ 1024 ∧ k % 16 = 0 ∨ 1056 ≤ k ∧ k ≤ 2048 ∧ k % 32 = 0 ∨ 2112 ≤ k ∧ k ≤ 6144 ∧ k % 64 = 0)) → b = validK k) := Lib.hid (by
    intro b hb; unfold validK; rw [Bool.eq_iff_iff, hb, decide_eq_true_iff])
  generalize validK k = V at *
  rcases (by omega : k < 40 ∨ (40 ≤ k ∧ k ≤ 512) ∨ (512 < k ∧ k < 528) ∨ (528 ≤ k ∧ k ≤ 1024) ∨ (1024 < k ∧ k < 1056) ∨ (1056 ≤ k ∧ k ≤ 2048) ∨ (2048 < k ∧ k < 2112) ∨ (2112 ≤ k ∧ k ≤ 6144) ∨ 6144 < k) with h | ⟨h, h'⟩ | ⟨h, h'⟩ | ⟨h, h'⟩ | ⟨h, h'⟩ | ⟨h, h'⟩ | ⟨h, h'⟩ | ⟨h, h'⟩ | h
  all_goals (
    go_enter Tryz.func139, Tryz.ntmps139
    go_wp2
    all_goals (
      go_ret
      refine ⟨ret_bool (hV.out _ ?_), rfl⟩
      first
       | (refine iff_of_false (by decide) ?_; omega)
       | (refine iff_of_true rfl ?_; omega)
       | (rw [beq_iff_eq]; omega)
       | (simp only [decide_eq_true_eq]; omega)
       | (simp; omega)))
def GcdInv (g : Nat) (a b : Value) (w wr : World) : Prop := ∃ x y : Nat, a = .int .i64 x ∧ b = .int .i64 y ∧ Nat.gcd x y = g ∧ x ≤ 100000 ∧ y ≤ 100000 ∧ Qt w wr
theorem common_any (a b : Nat) (ha : a ≤ 100000) (hb : b ≤ 100000) (w : World) : Calls Tryz.prog 140 #[.int .i64 a, .int .i64 b] w fun e w' => e = .returned (.int .i64 (Nat.gcd a b : Int)) ∧ Qt w w' := by
  obtain ⟨g, hgg⟩ : ∃ g, Nat.gcd a b = g := ⟨_, rfl⟩
  rw [hgg]
  go_enter Tryz.func140, Tryz.ntmps140
  go_wp2
  go_loopw [0, 1] (fun x y wr => GcdInv g x y w wr) (fun _ y _ => (intOf y).toNat)
  case atStart => exact ⟨a, b, rfl, rfl, hgg, ha, hb, Qt.refl _⟩
  case round =>
    obtain ⟨x, y, rfl, rfl, hg, hx, hy, hQ⟩ := hrel
    by_cases h : 0 < y
    · have hG : Hid (Nat.gcd y (x % y) = g) := Lib.hid (by rw [← hg, Nat.gcd_comm x y, Nat.gcd_rec y x, Nat.gcd_comm])
      have hr : (x : Int).tmod (y : Int) = ((x % y : Nat) : Int) := rfl
      have hl := Nat.mod_lt x h
      clear hg
      go_wp2
      go_quiet (fail)
      go_wp2
      go_roundw
      case rel => exact ⟨y, x % y, by go_num, by go_num, hG.out, by omega, by omega, hQ.drewN _⟩
      case measure => simp [intOf]; omega
    · obtain rfl : y = 0 := by omega
      rw [Nat.gcd_zero_right] at hg
      subst hg
      go_wp2
      go_ret
      exact ⟨ret_int rfl, hQ⟩
end Go.Proofs.YtpdalbckmfadbaaGreat.Tu

namespace Go.Proofs.YtpdalbckmfadbaaGreat.Tu
open Go.RowKit
set_option linter.unusedVariables false
/-- A list of numbers as Go's ints. -/
def ints (D : List Nat) : List Int := D.map fun (d : Nat) => (d : Int)
theorem ints_len (D : List Nat) : (ints D).length = D.length := by simp [ints]
theorem gi_ints (D : List Nat) (j : Nat) (h : j < D.length) : gi (ints D) j = (D[j] : Int) := by
  rw [gi_eq _ _ (by rw [ints_len]; exact h)]; simp [ints]
def polyV (k f1 f2 : Nat) : Value := .agg #[.int .i64 k, .int .i64 f1, .int .i64 f2]
theorem mul_bd {a b A B : Nat} (ha : a ≤ A) (hb : b ≤ B) : a * b ≤ A * B := Nat.mul_le_mul ha hb
theorem at_any (k f1 f2 i : Nat) (hk0 : 0 < k) (hk : k ≤ 6144) (h1 : f1 ≤ 1000) (h2 : f2 ≤ 6144) (hi : i ≤ 6144) (w : World) :
    Calls Tryz.prog 121 #[polyV k f1 f2, .int .i64 i] w fun e w' => e = .returned (.int .i64 (((f1 * i + f2 * i % k * i) % k : Nat) : Int)) ∧ Below w.heap.size w w' := by
  have a1 := mul_bd h1 hi
  have a2 := mul_bd h2 hi
  have a3 : f2 * i % k < k := Nat.mod_lt _ hk0
  have a4 := mul_bd (show f2 * i % k ≤ 6144 by omega) hi
  obtain ⟨m1, h1'⟩ : ∃ m : Nat, m = f1 * i := ⟨_, rfl⟩
  obtain ⟨m2, h2'⟩ : ∃ m : Nat, m = f2 * i := ⟨_, rfl⟩
  obtain ⟨m3, h3'⟩ : ∃ m : Nat, m = m2 % k := ⟨_, rfl⟩
  obtain ⟨m4, h4'⟩ : ∃ m : Nat, m = m3 * i := ⟨_, rfl⟩
  obtain ⟨m6, h6'⟩ : ∃ m : Nat, m = (m1 + m4) % k := ⟨_, rfl⟩
  have e1 : (f1 : Int) * (i : Int) = (m1 : Int) := by rw [h1', Int.natCast_mul]
  have e2 : (f2 : Int) * (i : Int) = (m2 : Int) := by rw [h2', Int.natCast_mul]
  have e3 : (m2 : Int).tmod (k : Int) = (m3 : Int) := by rw [h3']; rfl
  have e4 : (m3 : Int) * (i : Int) = (m4 : Int) := by rw [h4', Int.natCast_mul]
  have e6 : ((m1 : Int) + (m4 : Int)).tmod (k : Int) = (m6 : Int) := by rw [h6', ← Int.natCast_add]; rfl
  have e3' : (m2 : Int) % (k : Int) = (m3 : Int) := by rw [h3']; rfl
  have e6' : ((m1 : Int) + (m4 : Int)) % (k : Int) = (m6 : Int) := by rw [h6', ← Int.natCast_add]; rfl
  rw [← h1', ← h2', ← h3', ← h4', ← h6']
  have b1 : m1 ≤ 6144000 := by omega
  have b2 : m2 ≤ 37748736 := by omega
  have b3 : m3 ≤ 6144 := by rw [h3']; have := Nat.mod_lt m2 hk0; omega
  have b4 : m4 ≤ 37748736 := by rw [h4']; have := mul_bd b3 hi; omega
  clear h1' h2' h3' h4' h6' a1 a2 a3 a4
  unfold polyV
  go_enter Tryz.func121, Tryz.ntmps121
  go_wp2
  go_quiet (fail)
  go_wp2
  go_ret
  exact ⟨rfl, ((Below.refl _ w).alloc (Nat.le_refl _) _).trans (Qt.below ⟨_, rfl⟩ _)⟩
def CopInv (f : Nat) (D : List Nat) (i : Value) : Prop := ∃ j : Nat, j ≤ D.length ∧ i = .int .i64 j ∧ ∀ q, (h : q < j) → (h2 : q < D.length) → f % D[q] ≠ 0
theorem coprime_any (f : Nat) (hf : f ≤ 100000) (A : Option Addr) (n c : Nat) (D : List Nat) (hD : ∀ q ∈ D, 1 ≤ q) (w : World) (h : Rd .i64 w A n c (ints D)) :
    Calls Tryz.prog 150 #[.int .i64 f, .slice A n c] w fun e w' => e = .returned (.bool (cop f D)) ∧ w = w' := by
  have hbd := h.bd.1
  have hl := h.len
  rw [ints_len] at hl
  have HL := Lib.hid hl
  go_enter Tryz.func150, Tryz.ntmps150
  go_wp2
  go_loop [9] (fun i => CopInv f D i) (fun i => n - (intOf i).toNat)
  case atStart => exact ⟨0, by omega, rfl, by intro q hq; omega⟩
  case round =>
    obtain ⟨j, hj, rfl, hv⟩ := hrel
    rw [hl] at hj
    clear hl
    by_cases hlt : j < n
    · have hix := fun W => Rdv.ix h el33 hlt .i64 W
      have hcell := Rd.cell h hlt
      have hj' : j < D.length := by rw [HL.out]; exact hlt
      rw [gi_ints _ _ hj'] at hcell
      have hp := hD _ (List.getElem_mem hj')
      have hr : (f : Int).tmod (D[j] : Int) = ((f % D[j] : Nat) : Int) := rfl
      have HV := Lib.hid hv
      clear hv hD
      generalize hd : D[j] = d at *
      by_cases h0 : f % d = 0
      · have hz : ((f % d : Nat) : Int) = 0 := by omega
        have hc : cop f D = false := by
          unfold cop; rw [Bool.eq_false_iff]; intro hc
          have := List.all_eq_true.1 hc d (by rw [← hd]; exact List.getElem_mem hj')
          simp [h0] at this
        rw [hz] at hr
        have HC := Lib.hid hc; clear hc
        go_wp2
        go_ret
        exact ⟨ret_bool HC.out.symm, rfl⟩
      · have hz : (((f % d : Nat) : Int) == 0) = false := beq_f (by omega)
        have H0 := Lib.hid h0
        clear h0
        go_wp2
        go_round
        case rel => exact ⟨j + 1, by omega, by go_num, fun q hq h2 => by
          by_cases e : q = j
          · subst e; rw [hd]; exact H0.out
          · exact HV.out q (by omega) h2⟩
        case measure => simp [intOf]; omega
    · have hc : cop f D = true := by
        unfold cop; rw [List.all_eq_true]; intro p hp
        obtain ⟨q, hq, rfl⟩ := List.getElem_of_mem hp
        have := hv q (by rw [HL.out] at hq; omega) hq
        simpa using this
      have HC := Lib.hid hc; clear hc hv
      go_wp2
      go_ret
      exact ⟨ret_bool HC.out.symm, rfl⟩
/-- The array that divisors fills, as far as it is filled. -/
def DivSt (w wr : World) (b : Nat) (acc : List Nat) : Prop := ∃ vs, Own .i64 225 wr w.heap.size (some ⟨b, 0, none⟩) 50 50 vs ∧ (∀ q, (h : q < acc.length) → gi vs q = (acc[q] : Int)) ∧ Below w.heap.size w wr
theorem DivSt.cell {w wr : World} {b : Nat} {acc : List Nat} (h : DivSt w wr b acc) (j : Nat) (hj : j < 50) : ∃ v, wr.cell? ⟨b, j, none⟩ = some (.int .i64 v) := by
  obtain ⟨vs, hO, _⟩ := h
  have := Rd.cell (Own.rd hO) hj
  rw [adr_some, Nat.zero_add] at this
  exact ⟨_, this⟩
theorem DivSt.frozen {w wr : World} {b : Nat} {acc : List Nat} (h : DivSt w wr b acc) (j : Nat) : wr.frozen? ⟨b, j, none⟩ = false := by
  obtain ⟨vs, hO, _⟩ := h
  have := Ownv.frozen hO (by omega) j
  rwa [adr_some, Nat.zero_add] at this
theorem DivSt.push {w wr : World} {b : Nat} {acc : List Nat} (h : DivSt w wr b acc) (hj : acc.length < 50) (p : Nat) : DivSt w (wr.setCell ⟨b, acc.length, none⟩ (.int .i64 p)) b (acc ++ [p]) := by
  obtain ⟨vs, hO, hv, hB⟩ := h
  have hs := Own.set_ hO hj (p : Int)
  rw [adr_some, Nat.zero_add] at hs
  have hl := (Own.rd hO).len
  refine ⟨_, hs.1, fun q hq => ?_, hB.grown hs.2 hB.size (fun k hk => by injection hk with hk; rw [← hk]; exact (Ownv.blk_ge hO (by omega)).1)⟩
  rw [List.length_append] at hq
  simp only [List.length_cons, List.length_nil] at hq
  rw [gi_eq _ _ (by rw [List.length_set]; omega), List.getElem_set]
  by_cases e : acc.length = q
  · subst e; rw [if_pos rfl, List.getElem_append_right (Nat.le_refl _)]; simp
  · rw [if_neg e, List.getElem_append_left (by omega), ← gi_eq vs q (by omega)]
    exact hv q (by omega)
theorem slice122 (b n : Nat) (hn : n ≤ 50) (W : World) : (Instr.sliceAt 225 (.pointer (some ⟨b, 0, none⟩)) none (some (.int .i64 (n : Int))) (some (.int .i64 (n : Int)))).run Tryz.prog W = .ok (.slice (some ⟨b, 0, none⟩) n n) W := by
  have h1 : Tryz.prog.arrayLen 225 = 50 := by kernel_rfl
  have h2 : ∀ W, (sizeOf (Tryz.prog.elem 225)).run Tryz.prog W = .ok 1 W := fun _ => by kernel_rfl
  rw [run_sliceAt_array_hm W 225 ⟨b, 0, none⟩ (by kernel_rfl) .i64 .i64 n n (by omega) (by omega) (by rw [h1]; omega), h2]
  have h3 : slicedAt ⟨b, 0, none⟩ 0 n n 1 = .slice (some ⟨b, 0, none⟩) n n := by
    unfold slicedAt
    rw [Nat.zero_mul, add_lit, Nat.add_zero, ite_self, Nat.sub_zero]
  rw [Result.andThen_ok, Int.toNat_natCast, h3]
def DivInv (w : World) (b : Nat) (D : List Nat) (k n p : Value) (wr : World) : Prop :=
  ∃ (kk q : Nat) (acc : List Nat), k = .int .i64 kk ∧ n = .int .i64 acc.length ∧ p = .int .i64 q ∧ 1 ≤ kk ∧ kk ≤ 6144 ∧ 2 ≤ q ∧ q ≤ 102 ∧ dvs (102 - q) q kk acc = some D ∧ DivSt w wr b acc
def StripInv (q K : Nat) (k : Value) : Prop := ∃ (f x : Nat), k = .int .i64 x ∧ 1 ≤ x ∧ x ≤ 6144 ∧ strip f q x = some K
set_option maxHeartbeats 1000000 in
theorem divisors_any (k : Nat) (D : List Nat) (hk0 : 1 ≤ k) (hk : k ≤ 6144) (hD : dvs 100 2 k [] = some D) (hDl : D.length ≤ 12) (w : World) :
    Calls Tryz.prog 149 #[.int .i64 k] w fun e w' => e = .returned (.slice (some ⟨w.heap.size, 0, none⟩) D.length D.length) ∧ Rd .i64 w' (some ⟨w.heap.size, 0, none⟩) D.length D.length (ints D) ∧ Below w.heap.size w w' := by
  go_enter Tryz.func149, Tryz.ntmps149
  go_wp2
  go_loopw [0, 4, 5] (fun kv nv pv wr => DivInv w w.heap.size D kv nv pv wr) (fun _ _ pv _ => 102 - (intOf pv).toNat)
  case atStart => exact ⟨k, 2, [], rfl, rfl, rfl, hk0, hk, by omega, by omega, hD, ⟨List.replicate 50 0, Own.of_eq (Ownv.lit w _ 225 rfl (Nat.le_refl _) (by unfold maxLen; decide)) rfl rfl, (by intro q hq; cases hq), (Below.refl _ w).alloc (Nat.le_refl _) _⟩⟩
  case round =>
    obtain ⟨kk, q, acc, rfl, rfl, rfl, h1, h2, hq2, hq102, hd, hst⟩ := hrel
    clear hD hk0 hk
    by_cases hk1 : 1 < kk
    · obtain ⟨f', k2, hf, hs, hd'⟩ := dvs_step hd hk1
      obtain rfl : f' = 102 - (q + 1) := by omega
      have HS := Lib.hid hs
      have ht : (kk : Int).tmod (q : Int) = ((kk % q : Nat) : Int) := rfl
      have hm : (kk : Int) % (q : Int) = ((kk % q : Nat) : Int) := rfl
      have hfq : q < 102 := by omega
      clear hd hs hf
      by_cases h0 : kk % q = 0
      · rw [if_pos h0] at hd'
        rw [h0] at ht hm
        have hl := dvs_len _ _ _ _ _ hd'
        rw [List.length_append] at hl
        simp only [List.length_cons, List.length_nil] at hl
        have HD := Lib.hid hd'
        obtain ⟨cv, hcell⟩ := hst.cell acc.length (by omega)
        have hfz := hst.frozen acc.length
        have HST := Lib.hid (hst.push (by omega) q)
        have HLN : Hid ((acc ++ [q]).length = acc.length + 1) := Lib.hid (by simp)
        clear hd' h0 hst
        go_wp2
        go_loop [0] (fun x => StripInv q k2 x) (fun x => (intOf x).toNat)
        case atStart => exact ⟨14, kk, rfl, h1, h2, HS.out⟩
        case round =>
          obtain ⟨g, x, rfl, hx1, hx2, hxs⟩ := hrel
          have hxt : (x : Int).tmod (q : Int) = ((x % q : Nat) : Int) := rfl
          have hxm : (x : Int) % (q : Int) = ((x % q : Nat) : Int) := rfl
          have hxq : (x : Int).tdiv (q : Int) = ((x / q : Nat) : Int) := rfl
          have hxd : (x : Int) / (q : Int) = ((x / q : Nat) : Int) := rfl
          by_cases hx0 : x % q = 0
          · rw [hx0] at hxt hxm
            obtain ⟨g', rfl, hg⟩ := strip_step hxs hx0
            have hge : 1 ≤ x / q := by
              rcases Nat.eq_zero_or_pos (x / q) with e | e
              · have := Nat.div_add_mod x q; rw [e, hx0] at this; omega
              · exact e
            have hlt : x / q < x := Nat.div_lt_self hx1 hq2
            have HG := Lib.hid hg
            clear hxs hg hx0
            generalize x / q = y at *
            go_wp2
            go_round
            case rel => exact ⟨g', y, by go_num, hge, by omega, HG.out⟩
            case measure => simp [intOf]; omega
          · have hxe := strip_end hxs hx0
            subst hxe
            obtain ⟨m, hm', hmp⟩ : ∃ m : Nat, x % q = m ∧ m ≠ 0 := ⟨_, rfl, hx0⟩
            rw [hm'] at hxt hxm
            have hz : ((m : Int) == 0) = false := beq_f (by omega)
            clear hx0 hxs
            go_wp2
            go_roundw
            case rel => exact ⟨x, q + 1, _, rfl, by rw [HLN.out]; go_num, by go_num, hx1, hx2, by omega, by omega, HD.out, HST.out⟩
            case measure => simp [intOf]; omega
      · rw [if_neg h0] at hd'
        obtain ⟨m0, hm0, hmp0⟩ : ∃ m : Nat, kk % q = m ∧ m ≠ 0 := ⟨_, rfl, h0⟩
        rw [hm0] at ht hm
        have hz0 : ((m0 : Int) == 0) = false := beq_f (by omega)
        have HD := Lib.hid hd'
        have HST := Lib.hid hst
        clear hd' h0 hst hm0
        go_wp2
        go_loop [0] (fun x => StripInv q k2 x) (fun x => (intOf x).toNat)
        case atStart => exact ⟨14, kk, rfl, h1, h2, HS.out⟩
        case round =>
          obtain ⟨g, x, rfl, hx1, hx2, hxs⟩ := hrel
          have hxt : (x : Int).tmod (q : Int) = ((x % q : Nat) : Int) := rfl
          have hxm : (x : Int) % (q : Int) = ((x % q : Nat) : Int) := rfl
          have hxq : (x : Int).tdiv (q : Int) = ((x / q : Nat) : Int) := rfl
          have hxd : (x : Int) / (q : Int) = ((x / q : Nat) : Int) := rfl
          by_cases hx0 : x % q = 0
          · rw [hx0] at hxt hxm
            obtain ⟨g', rfl, hg⟩ := strip_step hxs hx0
            have hge : 1 ≤ x / q := by
              rcases Nat.eq_zero_or_pos (x / q) with e | e
              · have := Nat.div_add_mod x q; rw [e, hx0] at this; omega
              · exact e
            have hlt : x / q < x := Nat.div_lt_self hx1 hq2
            have HG := Lib.hid hg
            clear hxs hg hx0
            generalize x / q = y at *
            go_wp2
            go_round
            case rel => exact ⟨g', y, by go_num, hge, by omega, HG.out⟩
            case measure => simp [intOf]; omega
          · have hxe := strip_end hxs hx0
            subst hxe
            obtain ⟨m, hm', hmp⟩ : ∃ m : Nat, x % q = m ∧ m ≠ 0 := ⟨_, rfl, hx0⟩
            rw [hm'] at hxt hxm
            have hz : ((m : Int) == 0) = false := beq_f (by omega)
            clear hx0 hxs
            go_wp2
            go_roundw
            case rel => exact ⟨x, q + 1, _, rfl, by go_num, by go_num, hx1, hx2, by omega, by omega, HD.out, HST.out⟩
            case measure => simp [intOf]; omega
    · have he := dvs_end hd (by omega)
      subst he
      have hsl := slice122 w.heap.size acc.length (by omega)
      have hb : acc.length ≤ 50 := by omega
      have HST := Lib.hid hst
      clear hst hd
      go_wp2
      go_ret
      obtain ⟨vs, hO, hv, hB⟩ := HST.out
      refine ⟨rfl, ?_, hB⟩
      have hl := (Own.rd hO).len
      have hr := Rdv.upto (Ownv.rd (Ownv.upto hO (m := acc.length) hb)) (Nat.le_refl _)
      refine ⟨by simp [ints], Nat.le_refl _, by unfold maxLen; omega, nofun, (Own.rd hO).spot ∘ fun _ => by omega, (Own.rd hO).lt ∘ fun _ => by omega, fun q v hq => ?_⟩
      rw [List.getElem?_map] at hq
      cases hq2 : (ints acc)[q]? with
      | none => rw [hq2] at hq; cases hq
      | some x =>
        rw [hq2] at hq
        obtain rfl := Option.some.inj hq
        obtain ⟨hql, hqe⟩ := List.getElem?_eq_some_iff.1 hq2
        rw [ints_len] at hql
        have hc := Rd.cell (Own.rd hO) (show q < 50 by omega)
        rw [hc, hv q hql, ← hqe, ← gi_eq, gi_ints _ _ hql]
end Go.Proofs.YtpdalbckmfadbaaGreat.Tu

