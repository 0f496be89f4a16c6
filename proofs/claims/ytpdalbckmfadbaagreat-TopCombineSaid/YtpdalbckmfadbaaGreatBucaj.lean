/-
  Bundle of the texts Eb Ia Ec Ed Ee Ib TuA TuS TuB. Conditions: none.
-/
import Derived.Test.YtpdalbckmfadbaaGreatBucai
import Derived.Test.YtpdalbckmfadbaaGreatProg
import Derived.Test.YtpdalbckmfadbaaGreatBucaa
import Derived.Handy
namespace Go.Proofs.YtpdalbckmfadbaaGreat
open Go.RowKit
set_option linter.unusedVariables false
/-- a list with inverted signs where bits are one -/
def flp (xs : List Int) (bs : List Bool) : List Int := (List.range xs.length).map (fun i => if bs.getD i false = true then -gi xs i else gi xs i)
theorem flp_len (xs : List Int) (bs : List Bool) : (flp xs bs).length = xs.length := by simp [flp]
theorem gi_range {n i : Nat} (f : Nat → Int) (h : i < n) : gi ((List.range n).map f) i = f i := by simp [gi, List.getD, h]
theorem gi_over {xs : List Int} {i : Nat} (h : xs.length ≤ i) : gi xs i = 0 := by simp [gi, List.getD, h]
theorem gi_flp (xs : List Int) (bs : List Bool) (i : Nat) : gi (flp xs bs) i = gi xs i * (1 - 2 * (bq (bs.getD i false) : Int)) := by
  rcases Nat.lt_or_ge i xs.length with h | h
  · unfold flp
    rw [gi_range _ h]
    cases bs.getD i false <;> simp [bq]
  · rw [gi_over h, gi_over (by rw [flp_len]; exact h), Int.zero_mul]
def sn (s : St3) : Nat := 4 * bq s.1 + 2 * bq s.2.1 + bq s.2.2
def stW (bs : List Bool) (i : Nat) : St3 := ((inW bs).take i).foldl stp s0
def cW (bs : List Bool) (i : Nat) : Br := ⟨sn (stW bs i), bq ((inW bs).getD i false), bq ((outW bs).getD i false), sn (stW bs (i + 1))⟩
theorem br_stp : ∀ (s : St3) (x : Bool), (⟨sn s, bq x, bq (par s x), sn (stp s x)⟩ : Br) ∈ brT := by
  rintro ⟨a, b, c⟩ x; cases a <;> cases b <;> cases c <;> cases x <;> decide
theorem parL_app (l m : List Bool) : ∀ s, parL s (l ++ m) = parL s l ++ parL (l.foldl stp s) m := by
  induction l with
  | nil => intro s; rfl
  | cons x l ih => intro s; simp [parL, ih]
theorem parL_get (l : List Bool) : ∀ (s : St3) (i : Nat), i < l.length → (parL s l).getD i false = par ((l.take i).foldl stp s) (l.getD i false) := by
  induction l with
  | nil => intro s i h; simp at h
  | cons x l ih =>
    intro s i h
    cases i with
    | zero => simp [parL]
    | succ i =>
      have := ih (stp s x) i (by simpa using h)
      simpa [parL] using this
theorem tail_all : ∀ s : St3, parL s [tu s 0, tu s 1, tu s 2] = [tz s 0, tz s 1, tz s 2] ∧ [tu s 0, tu s 1, tu s 2].foldl stp s = s0 ∧
    bq (tu s 0) = tailBit (sn s) ∧ bq (tu s 1) = tailBit (sn ([tu s 0].foldl stp s)) ∧ bq (tu s 2) = tailBit (sn ([tu s 0, tu s 1].foldl stp s)) := by
  rintro ⟨a, b, c⟩; cases a <;> cases b <;> cases c <;> decide
theorem outW_eq (bs : List Bool) : outW bs = parL s0 (inW bs) := by
  unfold outW inW
  rw [parL_app]
  congr 1
  exact (tail_all (fin bs)).1.symm
theorem stW_succ (bs : List Bool) (i : Nat) (hi : i < bs.length + 3) : stW bs (i + 1) = stp (stW bs i) ((inW bs).getD i false) := by
  have hl : i < (inW bs).length := by rw [inW_len]; exact hi
  unfold stW
  rw [List.take_succ_eq_append_getElem hl, List.foldl_append]
  simp [List.getD, hl]
theorem cW_mem (bs : List Bool) (i : Nat) (hi : i < bs.length + 3) : cW bs i ∈ brT := by
  unfold cW
  rw [stW_succ bs i hi, outW_eq, parL_get _ _ _ (by rw [inW_len]; exact hi)]
  exact br_stp _ _
theorem cW_end (bs : List Bool) : (cW bs (bs.length + 3)).fr = 0 := by
  show sn (stW bs (bs.length + 3)) = 0
  unfold stW
  rw [List.take_of_length_le (by rw [inW_len]; omega)]
  unfold inW
  rw [List.foldl_append]
  have := (tail_all (fin bs)).2.1
  unfold fin at this ⊢
  rw [this]
  rfl
theorem inW_lo (bs : List Bool) (i : Nat) (h : i < bs.length) : (inW bs).getD i false = bs.getD i false := by
  unfold inW
  simp [List.getD, List.getElem?_append_left h]
theorem cW_tail (bs : List Bool) (i : Nat) (hi : i < bs.length + 3) (hk : bs.length ≤ i) : (cW bs i).bt = tailBit (cW bs i).fr := by
  obtain ⟨j, rfl⟩ : ∃ j, i = bs.length + j := ⟨i - bs.length, by omega⟩
  show bq ((inW bs).getD (bs.length + j) false) = tailBit (sn (stW bs (bs.length + j)))
  have e1 : (inW bs).getD (bs.length + j) false = [tu (fin bs) 0, tu (fin bs) 1, tu (fin bs) 2].getD j false := by
    unfold inW
    rw [List.getD_eq_getElem?_getD, List.getD_eq_getElem?_getD, List.getElem?_append_right (by omega), Nat.add_sub_cancel_left]
  have e2 : stW bs (bs.length + j) = ([tu (fin bs) 0, tu (fin bs) 1, tu (fin bs) 2].take j).foldl stp (fin bs) := by
    unfold stW inW
    rw [List.take_append, List.foldl_append, List.take_of_length_le (by omega)]
    unfold fin
    congr 2
    omega
  obtain ⟨-, -, t0, t1, t2⟩ := tail_all (fin bs)
  rw [e1, e2]
  rcases (by omega : j = 0 ∨ j = 1 ∨ j = 2) with rfl | rfl | rfl
  · exact t0
  · exact t1
  · exact t2
/-- an observation turned by the codeword of bits -/
def Ob.turn (o : Ob) (bs : List Bool) : Ob := ⟨flp o.s (inW bs), flp o.p (outW bs), flp o.a bs⟩
theorem turn_tn {o : Ob} (h : o.ok) {bs : List Bool} (hb : bs.length = o.a.length) : Tn o (o.turn bs) (cW bs) := by
  have hn := h.2.2.1
  refine ⟨flp_len _ _, flp_len _ _, fun i hi => cW_mem bs i (by omega), fun i hi => rfl, rfl, ?_, fun i hi hk => cW_tail bs i (by omega) (by rw [hb]; exact hk), fun i hi => ?_, fun i hi => gi_flp _ _ i⟩
  · rw [hn, ← hb]; exact cW_end bs
  · unfold Ob.x Ob.turn Ob.k
    dsimp only
    rw [flp_len, gi_flp, gi_flp]
    show _ = _ * (1 - 2 * (bq ((inW bs).getD i false) : Int))
    by_cases hk : i < o.a.length
    · rw [if_pos hk, if_pos hk, inW_lo bs i (by omega), Int.add_mul]
    · rw [if_neg hk, if_neg hk]
theorem flp_bd {xs : List Int} (h : ∀ v ∈ xs, -127 ≤ v ∧ v ≤ 127) (bs : List Bool) : ∀ v ∈ flp xs bs, -127 ≤ v ∧ v ≤ 127 := by
  intro v hv
  obtain ⟨i, hi, rfl⟩ := List.mem_map.1 hv
  have hi : i < xs.length := by simpa using hi
  have := h (gi xs i) (by simp [gi, List.getD, hi])
  split <;> omega
theorem turn_ok {o : Ob} (h : o.ok) (bs : List Bool) : (o.turn bs).ok := by
  obtain ⟨h1, h2, h3, h4, h5, h6, h7⟩ := h
  refine ⟨?_, ?_, ?_, ?_, flp_bd h5 _, flp_bd h6 _, flp_bd h7 _⟩ <;> simp only [Ob.turn, flp_len] <;> assumption
theorem ext_neg (v : Int) : ext (-v) = -ext v := by
  unfold ext
  rw [Int.mul_neg, Int.neg_tdiv]
  generalize (3 * v).tdiv 4 = u
  omega
theorem turn_dE {o : Ob} (h : o.ok) {bs : List Bool} (hb : bs.length = o.a.length) : (o.turn bs).dE = flp o.dE bs := by
  have hn := h.2.2.1
  have ht := turn_tn h hb
  unfold Ob.dE
  rw [if_pos h, if_pos (turn_ok h bs)]
  refine ext_gi (by simp [flp_len, Ob.turn]) fun j hj => ?_
  have hj : j < o.a.length := by simpa [flp_len, Ob.turn] using hj
  rw [gi_flp, gi_range _ hj, gi_range _ (by simpa [flp_len, Ob.turn] using hj)]
  unfold Ob.eT
  rw [ht.tot j (by omega)]
  show ext (_ * (1 - 2 * (bq ((inW bs).getD j false) : Int)) - gi (flp o.s (inW bs)) j - gi (flp o.a bs) j) = _
  rw [gi_flp, gi_flp, inW_lo bs j (by omega)]
  cases bs.getD j false
  · simp [bq]
  · show ext (_ * (1 - 2 * 1) - _ * (1 - 2 * 1) - _ * (1 - 2 * 1)) = _ * (1 - 2 * 1)
    rw [show (1 - 2 * 1 : Int) = -1 from rfl]
    simp only [Int.mul_neg_one]
    rw [← ext_neg]
    congr 1
    omega
/-! ### the theorem of the stage -/
def phi (t : Nat) : Int := [0, 4, 3, 3, 2, 4, 3, 3].getD t 0
def psi (t : Nat) : Int := [0, 2, 3, 3, 4, 4, 3, 3].getD t 0
theorem phi_step : ∀ b ∈ brT, phi b.tt ≤ phi b.fr + b.bt + b.pr ∧ psi b.fr ≤ psi b.tt + b.bt + b.pr ∧ (b.bt = 1 → 6 ≤ phi b.fr + 1 + b.pr + psi b.tt) := by decide
theorem phi_bd : ∀ t, t < 8 → 0 ≤ phi t ∧ phi t ≤ 4 ∧ 0 ≤ psi t ∧ psi t ≤ 4 := by decide
/-- the metric of the zero word -/
def Ob.Z (o : Ob) : Nat → Int
  | 0 => 0
  | i + 1 => o.Z i + o.x i + gi o.p i
structure Hol (o : Ob) (M : Int) : Prop where
  ok : o.ok
  m : 1 ≤ M ∧ M ≤ 127
  x : ∀ i, i < o.s.length → -M ≤ o.x i ∧ o.x i ≤ M
  p : ∀ i, i < o.s.length → -M ≤ gi o.p i ∧ gi o.p i ≤ M
  z : 2 * M * (o.s.length : Int) - 4 * M ≤ o.Z o.s.length
theorem Hol.zb {o : Ob} {M : Int} (h : Hol o M) : ∀ i, i ≤ o.s.length → -(254 * (i : Int)) ≤ o.Z i ∧ o.Z i ≤ 254 * (i : Int)
  | 0, _ => by simp [Ob.Z]
  | i + 1, hi => by
    have h1 := h.zb i (by omega)
    have h2 := h.x i (by omega)
    have h3 := h.p i (by omega)
    have h4 := h.m
    simp only [Ob.Z]
    omega
theorem Hol.zd {o : Ob} {M : Int} (h : Hol o M) : ∀ d i, i + d ≤ o.s.length → -(254 * (d : Int)) ≤ o.Z (i + d) - o.Z i ∧ o.Z (i + d) - o.Z i ≤ 254 * (d : Int)
  | 0, i, _ => by simp
  | d + 1, i, hi => by
    have h1 := h.zd d i (by omega)
    have h2 := h.x (i + d) (by omega)
    have h3 := h.p (i + d) (by omega)
    have h4 := h.m
    rw [show i + (d + 1) = (i + d) + 1 from rfl]
    simp only [Ob.Z]
    omega
theorem Hol.nb {o : Ob} {M : Int} (h : Hol o M) : o.s.length ≤ 6147 := by have := h.ok.2.1; have := h.ok.2.2.1; omega
theorem term_hol {o : Ob} {M : Int} (h : Hol o M) (i : Nat) (hi : i < o.s.length) (b : Br) (hb : b ∈ brT) : o.term i b ≤ 4 * M - o.x i - gi o.p i - 2 * (M * ((b.bt : Int) + b.pr)) := by
  obtain ⟨-, h1, h2, -⟩ := br_bd b hb
  have h3 := h.x i hi
  have h4 := h.p i hi
  unfold Ob.term
  rcases (by omega : b.bt = 0 ∨ b.bt = 1) with e | e <;> rcases (by omega : b.pr = 0 ∨ b.pr = 1) with e' | e' <;> rw [e, e'] <;> simp <;> omega
theorem Hol.f {o : Ob} {M : Int} (h : Hol o M) : ∀ i, i ≤ o.s.length → ∀ t, t < 8 → gi (o.f i) t ≤ 4 * M * (i : Int) - o.Z i - 2 * (M * phi t)
  | 0, _, t, ht => by
    have h4 := h.m
    have hp := phi_bd t ht
    show gi none0 t ≤ _
    rw [gi_none0 t ht]
    simp only [Ob.Z]
    split
    · rename_i e; subst e; simp [phi]
    · have : M * phi t ≤ M * 4 := Int.mul_le_mul_of_nonneg_left hp.2.1 (by omega)
      rw [UU_eq]; omega
  | i + 1, hi, t, ht => by
    have h4 := h.m
    have hp := phi_bd t ht
    have hz := h.zb (i + 1) hi
    have hn := h.nb
    have m4 : M * phi t ≤ M * 4 := Int.mul_le_mul_of_nonneg_left hp.2.1 (by omega)
    have mi : 0 ≤ M * ((i : Int) + 1) := Int.mul_nonneg (by omega) (by omega)
    have ec : 4 * M * ((i : Int) + 1) = 4 * (M * ((i : Int) + 1)) := Int.mul_assoc ..
    refine (fwd_le o i (o.f i) t ht _).2 ⟨?_, fun b hb e _ _ => ?_⟩
    · rw [UU_eq]; push_cast; rw [ec]; omega
    · have h1 := h.f i (by omega) b.fr (br_bd b hb).1
      have h2 := term_hol h i (by omega) b hb
      have h3 := (phi_step b hb).1
      rw [e] at h3
      have h5 : M * phi t ≤ M * (phi b.fr + b.bt + b.pr) := Int.mul_le_mul_of_nonneg_left h3 (by omega)
      simp only [Int.mul_add] at h5 h2
      have ei : 4 * M * (((i + 1 : Nat)) : Int) = 4 * M * (i : Int) + 4 * M := by push_cast; rw [Int.mul_add, Int.mul_one]
      rw [ei]
      simp only [Ob.Z]
      omega
theorem Hol.bd {o : Ob} {M : Int} (h : Hol o M) : ∀ d, d ≤ o.s.length → ∀ t, t < 8 → gi (o.bd d) t ≤ 4 * M * (d : Int) - (o.Z o.s.length - o.Z (o.s.length - d)) - 2 * (M * psi t)
  | 0, _, t, ht => by
    have h4 := h.m
    have hp := phi_bd t ht
    show gi none0 t ≤ _
    rw [gi_none0 t ht, Nat.sub_zero]
    split
    · rename_i e; subst e; simp [psi]
    · have : M * psi t ≤ M * 4 := Int.mul_le_mul_of_nonneg_left hp.2.2.2 (by omega)
      rw [UU_eq]; omega
  | d + 1, hd, t, ht => by
    have h4 := h.m
    have hp := phi_bd t ht
    have hn := h.nb
    obtain ⟨i, hi⟩ : ∃ i, i + (d + 1) = o.s.length := ⟨o.s.length - (d + 1), by omega⟩
    have hz := h.zd (d + 1) i (by omega)
    rw [hi] at hz
    have m4 : M * psi t ≤ M * 4 := Int.mul_le_mul_of_nonneg_left hp.2.2.2 (by omega)
    have mi : 0 ≤ M * ((d : Int) + 1) := Int.mul_nonneg (by omega) (by omega)
    have ec : 4 * M * ((d : Int) + 1) = 4 * (M * ((d : Int) + 1)) := Int.mul_assoc ..
    have e1 : o.s.length - 1 - d = i := by omega
    have e2 : o.s.length - (d + 1) = i := by omega
    have e3 : o.s.length - d = i + 1 := by omega
    show gi (o.bwd (o.s.length - 1 - d) (o.bd d)) t ≤ _
    rw [e1, e2]
    refine (bwd_le o i (o.bd d) t ht _).2 ⟨?_, fun b hb e _ _ => ?_⟩
    · rw [UU_eq]; push_cast at hz ⊢; rw [ec]; omega
    · have h1 := h.bd d (by omega) b.tt (br_bd b hb).2.2.2
      rw [e3] at h1
      have h2 := term_hol h i (by omega) b hb
      have h3 := (phi_step b hb).2.1
      rw [e] at h3
      have h5 : M * psi t ≤ M * (psi b.tt + b.bt + b.pr) := Int.mul_le_mul_of_nonneg_left h3 (by omega)
      simp only [Int.mul_add] at h5 h2
      simp only [Ob.Z] at h1
      have ei : 4 * M * (((d + 1 : Nat)) : Int) = 4 * M * (d : Int) + 4 * M := by push_cast; rw [Int.mul_add, Int.mul_one]
      rw [ei]
      omega
theorem b0_mem : (⟨0, 0, 0, 0⟩ : Br) ∈ brT := by decide
theorem allow0 (o : Ob) (i : Nat) : o.allow i ⟨0, 0, 0, 0⟩ = true := by unfold Ob.allow; simp [tailBit]
theorem term0 (o : Ob) (i : Nat) : o.term i ⟨0, 0, 0, 0⟩ = o.x i + gi o.p i := by unfold Ob.term; simp
theorem Hol.f0 {o : Ob} {M : Int} (h : Hol o M) : ∀ i, i ≤ o.s.length → o.Z i ≤ gi (o.f i) 0
  | 0, _ => by show (0 : Int) ≤ gi none0 0; rw [gi_none0 0 (by decide)]; simp
  | i + 1, hi => by
    have h1 := h.f0 i (by omega)
    have hz := h.zb i (by omega)
    have hn := h.nb
    have h2 := ((fwd_le o i (o.f i) 0 (by decide) (gi (o.f (i + 1)) 0)).1 (Int.le_refl _)).2 _ b0_mem rfl (allow0 o i) (by show UU < gi (o.f i) 0; rw [UU_eq]; omega)
    rw [term0] at h2
    simp only [Ob.Z]
    dsimp only at h2
    omega
theorem Hol.bd0 {o : Ob} {M : Int} (h : Hol o M) : ∀ d, d ≤ o.s.length → o.Z o.s.length - o.Z (o.s.length - d) ≤ gi (o.bd d) 0
  | 0, _ => by show _ ≤ gi none0 0; rw [gi_none0 0 (by decide), Nat.sub_zero]; simp
  | d + 1, hd => by
    have h1 := h.bd0 d (by omega)
    obtain ⟨i, hi⟩ : ∃ i, i + (d + 1) = o.s.length := ⟨o.s.length - (d + 1), by omega⟩
    have e1 : o.s.length - 1 - d = i := by omega
    have e2 : o.s.length - (d + 1) = i := by omega
    have e3 : o.s.length - d = i + 1 := by omega
    have hz := h.zd d (i + 1) (by omega)
    have e4 : i + 1 + d = o.s.length := by omega
    rw [e3] at h1
    rw [e4] at hz
    have hn := h.nb
    have h2 := ((bwd_le o i (o.bd d) 0 (by decide) (gi (o.bwd i (o.bd d)) 0)).1 (Int.le_refl _)).2 _ b0_mem rfl (allow0 o i) (by show UU < gi (o.bd d) 0; rw [UU_eq]; omega)
    rw [term0] at h2
    show _ ≤ gi (o.bwd (o.s.length - 1 - d) (o.bd d)) 0
    rw [e1, e2]
    simp only [Ob.Z] at h1
    dsimp only at h2
    omega
theorem Hol.tot {o : Ob} {M : Int} (h : Hol o M) (i : Nat) (hi : i < o.s.length) : 0 < o.tot i := by
  obtain ⟨d, hd⟩ : ∃ d, i + 1 + d = o.s.length := ⟨o.s.length - (i + 1), by omega⟩
  have e1 : o.s.length - (i + 1) = d := by omega
  have e2 : o.s.length - d = i + 1 := by omega
  have h4 := h.m
  have hn := h.nb
  have z1 := h.zb i (by omega)
  have z2 := h.zd d (i + 1) (by omega)
  have z3 := h.zb o.s.length (Nat.le_refl _)
  rw [hd] at z2
  have f0 := h.f0 i (by omega)
  have b0 := h.bd0 d (by omega)
  rw [e2] at b0
  have hx := h.x i hi
  have hp := h.p i hi
  have hz := h.z
  have lo : o.Z o.s.length ≤ o.val i 0 (o.f i) (o.b (i + 1)) := by
    have := ((val_le o i 0 (o.f i) (o.b (i + 1)) _).1 (Int.le_refl _)).2 _ b0_mem rfl
    unfold Ob.b at this ⊢
    rw [e1] at this ⊢
    have := this (by show UU < gi (o.f i) 0; rw [UU_eq]; omega) (by show UU < gi (o.bd d) 0; rw [UU_eq]; omega)
    rw [term0] at this
    simp only [Ob.Z] at b0
    dsimp only at this
    omega
  have hi' : o.val i 1 (o.f i) (o.b (i + 1)) ≤ 4 * M * (o.s.length : Int) - o.Z o.s.length - 12 * M := by
    have ei : 4 * M * (o.s.length : Int) = 4 * M * (i : Int) + 4 * M + 4 * M * (d : Int) := by
      rw [← hd]; push_cast; rw [Int.mul_add, Int.mul_add, Int.mul_one]
    have ez : 4 * M * (o.s.length : Int) = 2 * (2 * M * (o.s.length : Int)) := by rw [← Int.mul_assoc, ← Int.mul_assoc]; rfl
    refine (val_le o i 1 _ _ _).2 ⟨?_, fun b hb eb _ _ => ?_⟩
    · have : 0 ≤ M * (o.s.length : Int) := Int.mul_nonneg (by omega) (by omega)
      have e : 4 * M * (o.s.length : Int) = 4 * (M * (o.s.length : Int)) := Int.mul_assoc ..
      rw [UU_eq, e]; omega
    · unfold Ob.b
      rw [e1]
      have b4 := br_bd b hb
      have h1 := h.f i (by omega) b.fr b4.1
      have h2 := h.bd d (by omega) b.tt b4.2.2.2
      have h3 := term_hol h i hi b hb
      have h5 := (phi_step b hb).2.2 eb
      have h6 : M * 6 ≤ M * (phi b.fr + 1 + b.pr + psi b.tt) := Int.mul_le_mul_of_nonneg_left h5 (by omega)
      rw [e2] at h2
      rw [eb] at h3
      simp only [Int.mul_add, Int.mul_one] at h6 h3
      have : M * ((1 : Nat) : Int) = M := by simp
      simp only [this] at h3
      simp only [Ob.Z] at h2
      rw [ei]
      omega
  have ez : 4 * M * (o.s.length : Int) = 2 * (2 * M * (o.s.length : Int)) := by rw [← Int.mul_assoc, ← Int.mul_assoc]; rfl
  rw [ez] at hi'
  unfold Ob.tot
  have key : 2 ≤ o.val i 0 (o.f i) (o.b (i + 1)) - o.val i 1 (o.f i) (o.b (i + 1)) := by omega
  rw [Int.tdiv_eq_ediv_of_nonneg (by omega)]
  omega
end Go.Proofs.YtpdalbckmfadbaaGreat

namespace Go.Proofs.YtpdalbckmfadbaaGreat
open Go.RowKit
set_option linter.unusedVariables false
/-- an observation of the zero word with right signs -/
structure Cle (o : Ob) : Prop where
  ok : o.ok
  s : ∀ i, i < o.s.length → 1 ≤ gi o.s i
  p : ∀ i, i < o.s.length → 0 ≤ gi o.p i
  a : ∀ i, i < o.a.length → 0 ≤ gi o.a i
theorem Cle.x {o : Ob} (h : Cle o) (i : Nat) (hi : i < o.s.length) : 1 ≤ o.x i := by
  have h1 := h.s i hi
  unfold Ob.x
  split
  · rename_i hk
    have h2 := h.a i hk
    omega
  · exact h1
theorem Cle.nb {o : Ob} (h : Cle o) : o.s.length ≤ 6147 := by have := h.ok.2.1; have := h.ok.2.2.1; omega
theorem Cle.zd {o : Ob} (h : Cle o) : ∀ d i, i + d ≤ o.s.length → 0 ≤ o.Z (i + d) - o.Z i ∧ o.Z (i + d) - o.Z i ≤ 381 * (d : Int)
  | 0, i, _ => by simp
  | d + 1, i, hi => by
    have h1 := h.zd d i (by omega)
    have h2 := h.x (i + d) (by omega)
    have h3 := h.p (i + d) (by omega)
    have h4 := o.x_bd h.ok (i + d) (by omega)
    have h5 := o.p_bd h.ok (i + d) (by omega)
    rw [show i + (d + 1) = (i + d) + 1 from rfl]
    simp only [Ob.Z]
    omega
theorem Cle.zb {o : Ob} (h : Cle o) (i : Nat) (hi : i ≤ o.s.length) : 0 ≤ o.Z i ∧ o.Z i ≤ 381 * (i : Int) := by
  have := h.zd i 0 (by omega)
  rw [Nat.zero_add, show o.Z 0 = 0 from rfl] at this
  omega
theorem Cle.term {o : Ob} (h : Cle o) (i : Nat) (hi : i < o.s.length) (b : Br) (hb : b ∈ brT) : o.term i b ≤ o.x i + gi o.p i ∧ (b.bt = 1 → o.term i b ≤ gi o.p i - o.x i) := by
  obtain ⟨-, h1, h2, -⟩ := br_bd b hb
  have h3 := h.x i hi
  have h4 := h.p i hi
  unfold Ob.term
  rcases (by omega : b.bt = 0 ∨ b.bt = 1) with e | e <;> rcases (by omega : b.pr = 0 ∨ b.pr = 1) with e' | e' <;> rw [e, e'] <;> simp <;> omega
theorem Cle.f {o : Ob} (h : Cle o) : ∀ i, i ≤ o.s.length → ∀ t, t < 8 → gi (o.f i) t ≤ o.Z i
  | 0, _, t, ht => by
    show gi none0 t ≤ 0
    rw [gi_none0 t ht]
    split
    · exact Int.le_refl _
    · rw [UU_eq]; omega
  | i + 1, hi, t, ht => by
    have hz := h.zb (i + 1) hi
    refine (fwd_le o i (o.f i) t ht _).2 ⟨by rw [UU_eq]; omega, fun b hb e _ _ => ?_⟩
    have h1 := h.f i (by omega) b.fr (br_bd b hb).1
    have h2 := (h.term i (by omega) b hb).1
    simp only [Ob.Z]
    omega
theorem Cle.bd {o : Ob} (h : Cle o) : ∀ d, d ≤ o.s.length → ∀ t, t < 8 → gi (o.bd d) t ≤ o.Z o.s.length - o.Z (o.s.length - d)
  | 0, _, t, ht => by
    show gi none0 t ≤ _
    rw [gi_none0 t ht, Nat.sub_zero]
    split
    · omega
    · rw [UU_eq]; omega
  | d + 1, hd, t, ht => by
    obtain ⟨i, hi⟩ : ∃ i, i + (d + 1) = o.s.length := ⟨o.s.length - (d + 1), by omega⟩
    have hz := h.zd (d + 1) i (by omega)
    rw [hi] at hz
    have e1 : o.s.length - 1 - d = i := by omega
    have e2 : o.s.length - (d + 1) = i := by omega
    have e3 : o.s.length - d = i + 1 := by omega
    show gi (o.bwd (o.s.length - 1 - d) (o.bd d)) t ≤ _
    rw [e1, e2]
    refine (bwd_le o i (o.bd d) t ht _).2 ⟨by rw [UU_eq]; omega, fun b hb e _ _ => ?_⟩
    have h1 := h.bd d (by omega) b.tt (br_bd b hb).2.2.2
    rw [e3] at h1
    have h2 := (h.term i (by omega) b hb).1
    simp only [Ob.Z] at h1
    omega
theorem Cle.f0 {o : Ob} (h : Cle o) : ∀ i, i ≤ o.s.length → o.Z i ≤ gi (o.f i) 0
  | 0, _ => by show (0 : Int) ≤ gi none0 0; rw [gi_none0 0 (by decide)]; simp
  | i + 1, hi => by
    have h1 := h.f0 i (by omega)
    have hz := h.zb i (by omega)
    have h2 := ((fwd_le o i (o.f i) 0 (by decide) (gi (o.f (i + 1)) 0)).1 (Int.le_refl _)).2 _ b0_mem rfl (allow0 o i) (by show UU < gi (o.f i) 0; rw [UU_eq]; omega)
    rw [term0] at h2
    simp only [Ob.Z]
    dsimp only at h2
    omega
theorem Cle.bd0 {o : Ob} (h : Cle o) : ∀ d, d ≤ o.s.length → o.Z o.s.length - o.Z (o.s.length - d) ≤ gi (o.bd d) 0
  | 0, _ => by show _ ≤ gi none0 0; rw [gi_none0 0 (by decide), Nat.sub_zero]; simp
  | d + 1, hd => by
    have h1 := h.bd0 d (by omega)
    obtain ⟨i, hi⟩ : ∃ i, i + (d + 1) = o.s.length := ⟨o.s.length - (d + 1), by omega⟩
    have e1 : o.s.length - 1 - d = i := by omega
    have e2 : o.s.length - (d + 1) = i := by omega
    have e3 : o.s.length - d = i + 1 := by omega
    have hz := h.zd d (i + 1) (by omega)
    have e4 : i + 1 + d = o.s.length := by omega
    rw [e3] at h1
    rw [e4] at hz
    have h2 := ((bwd_le o i (o.bd d) 0 (by decide) (gi (o.bwd i (o.bd d)) 0)).1 (Int.le_refl _)).2 _ b0_mem rfl (allow0 o i) (by show UU < gi (o.bd d) 0; rw [UU_eq]; omega)
    rw [term0] at h2
    show _ ≤ gi (o.bwd (o.s.length - 1 - d) (o.bd d)) 0
    rw [e1, e2]
    simp only [Ob.Z] at h1
    dsimp only at h2
    omega
/-- the total is at least what the channel and the a priori value say -/
theorem Cle.tot {o : Ob} (h : Cle o) (i : Nat) (hi : i < o.s.length) : o.x i ≤ o.tot i := by
  obtain ⟨d, hd⟩ : ∃ d, i + 1 + d = o.s.length := ⟨o.s.length - (i + 1), by omega⟩
  have e1 : o.s.length - (i + 1) = d := by omega
  have e2 : o.s.length - d = i + 1 := by omega
  have hn := h.nb
  have z1 := h.zb i (by omega)
  have z2 := h.zd d (i + 1) (by omega)
  have z3 := h.zb o.s.length (Nat.le_refl _)
  rw [hd] at z2
  have f0 := h.f0 i (by omega)
  have b0 := h.bd0 d (by omega)
  rw [e2] at b0
  have hx := h.x i hi
  have hp := h.p i hi
  have hxb := o.x_bd h.ok i hi
  have lo : o.Z o.s.length ≤ o.val i 0 (o.f i) (o.b (i + 1)) := by
    have := ((val_le o i 0 (o.f i) (o.b (i + 1)) _).1 (Int.le_refl _)).2 _ b0_mem rfl
    unfold Ob.b at this ⊢
    rw [e1] at this ⊢
    have := this (by show UU < gi (o.f i) 0; rw [UU_eq]; omega) (by show UU < gi (o.bd d) 0; rw [UU_eq]; omega)
    rw [term0] at this
    simp only [Ob.Z] at b0
    dsimp only at this
    omega
  have up : o.val i 1 (o.f i) (o.b (i + 1)) ≤ o.Z o.s.length - 2 * o.x i := by
    refine (val_le o i 1 _ _ _).2 ⟨by rw [UU_eq]; omega, fun b hb eb _ _ => ?_⟩
    unfold Ob.b
    rw [e1]
    have b4 := br_bd b hb
    have h1 := h.f i (by omega) b.fr b4.1
    have h2 := h.bd d (by omega) b.tt b4.2.2.2
    have h3 := (h.term i hi b hb).2 eb
    rw [e2] at h2
    simp only [Ob.Z] at h2
    omega
  unfold Ob.tot
  rw [Int.tdiv_eq_ediv_of_nonneg (by omega)]
  omega
theorem ext_nonneg {v : Int} (h : 0 ≤ v) : 0 ≤ ext v := by
  unfold ext
  rw [Int.tdiv_eq_ediv_of_nonneg (by omega)]
  omega
end Go.Proofs.YtpdalbckmfadbaaGreat

namespace Go.Proofs.YtpdalbckmfadbaaGreat
open Go.RowKit
set_option linter.unusedVariables false
end Go.Proofs.YtpdalbckmfadbaaGreat

namespace Go.Proofs.YtpdalbckmfadbaaGreat
open Go.RowKit
set_option linter.unusedVariables false
/-- the cells of two decisions that the last region loads -/
def TrS (b16 b9 : Nat) (d1 d2 : Dc) (W : World) : Prop :=
  W.cell? ⟨b16, 0, none⟩ = some (.slice d2.A1 d2.n1 d2.c1) ∧ W.cell? ⟨b16, 1, none⟩ = some (.slice d2.A2 d2.n2 d2.c2) ∧ W.cell? ⟨b9, 0, none⟩ = some (.slice d1.A1 d1.n1 d1.c1) ∧ W.cell? ⟨b9, 1, none⟩ = some (.slice d1.A2 d1.n2 d1.c2)
def Dc.cs (d : Dc) : List Value := [.slice d.A1 d.n1 d.c1, .slice d.A2 d.n2 d.c2, .slice d.A3 d.n3 d.c3]
theorem TrS.of {b16 b9 : Nat} {d1 d2 : Dc} {W : World} (h1 : Blk W b16 104 d2.cs) (h2 : Blk W b9 104 d1.cs) : TrS b16 b9 d1 d2 W := ⟨h1.cell rfl, h1.cell rfl, h2.cell rfl, h2.cell rfl⟩
end Go.Proofs.YtpdalbckmfadbaaGreat

namespace Go.Proofs.YtpdalbckmfadbaaGreat
open Go.RowKit
set_option linter.unusedVariables false
theorem gi_zero (k j : Nat) : gi (List.replicate k (0 : Int)) j = 0 := by
  unfold gi
  rw [List.getD_eq_getElem?_getD, List.getElem?_replicate]
  split <;> rfl
end Go.Proofs.YtpdalbckmfadbaaGreat

namespace Go.Proofs.YtpdalbckmfadbaaGreat
open Go.RowKit
set_option linter.unusedVariables false
theorem sq_sg (b : Bool) : (1 - 2 * (bq b : Int)) * (1 - 2 * (bq b : Int)) = 1 := by cases b <;> rfl
theorem mul_sg (m : Int) (b : Bool) : m * (1 - 2 * (bq b : Int)) * (1 - 2 * (bq b : Int)) = m := by rw [Int.mul_assoc, sq_sg, Int.mul_one]
theorem sg_bd {m : Int} (b : Bool) (h : -127 ≤ m ∧ m ≤ 127) : -127 ≤ m * (1 - 2 * (bq b : Int)) ∧ m * (1 - 2 * (bq b : Int)) ≤ 127 := by
  cases b
  · simp [bq]; omega
  · show -127 ≤ m * (1 - 2 * 1) ∧ m * (1 - 2 * 1) ≤ 127
    omega
/-- right signs -/
structure Rgt (o : Ob) (k : Nat) (bs : List Bool) (m1 m2 : Nat → Int) : Prop where
  b : bs.length = k
  k1 : 1 ≤ k
  k2 : k ≤ 6144
  ls : o.s.length = k + 3
  lp : o.p.length = k + 3
  la : o.a.length = k
  s : ∀ j, j < k + 3 → gi o.s j = m1 j * (1 - 2 * (bq ((inW bs).getD j false) : Int)) ∧ 1 ≤ m1 j ∧ m1 j ≤ 127
  p : ∀ j, j < k + 3 → gi o.p j = m2 j * (1 - 2 * (bq ((outW bs).getD j false) : Int)) ∧ 1 ≤ m2 j ∧ m2 j ≤ 127
  a : ∀ j, j < k → 0 ≤ gi o.a j * (1 - 2 * (bq (bs.getD j false) : Int)) ∧ -127 ≤ gi o.a j ∧ gi o.a j ≤ 127
theorem mem_gi {l : List Int} {v : Int} (h : v ∈ l) : ∃ j, j < l.length ∧ gi l j = v := by
  obtain ⟨j, hj, rfl⟩ := List.getElem_of_mem h
  exact ⟨j, hj, gi_eq _ _ hj⟩
theorem Rgt.ok {o : Ob} {k : Nat} {bs : List Bool} {m1 m2 : Nat → Int} (h : Rgt o k bs m1 m2) : o.ok := by
  refine ⟨by rw [h.la]; exact h.k1, by rw [h.la]; exact h.k2, by rw [h.ls, h.la], by rw [h.lp, h.la], fun v hv => ?_, fun v hv => ?_, fun v hv => ?_⟩
  · obtain ⟨j, hj, rfl⟩ := mem_gi hv
    obtain ⟨e, h1, h2⟩ := h.s j (by rw [← h.ls]; exact hj)
    rw [e]; exact sg_bd _ (by omega)
  · obtain ⟨j, hj, rfl⟩ := mem_gi hv
    obtain ⟨e, h1, h2⟩ := h.p j (by rw [← h.lp]; exact hj)
    rw [e]; exact sg_bd _ (by omega)
  · obtain ⟨j, hj, rfl⟩ := mem_gi hv
    exact (h.a j (by rw [← h.la]; exact hj)).2
theorem Rgt.cle {o : Ob} {k : Nat} {bs : List Bool} {m1 m2 : Nat → Int} (h : Rgt o k bs m1 m2) : Cle (o.turn bs) := by
  refine ⟨turn_ok h.ok bs, fun i hi => ?_, fun i hi => ?_, fun i hi => ?_⟩
  · have hi : i < k + 3 := by simpa [Ob.turn, flp_len, h.ls] using hi
    obtain ⟨e, h1, -⟩ := h.s i hi
    show 1 ≤ gi (flp o.s (inW bs)) i
    rw [gi_flp, e, mul_sg]; exact h1
  · have hi : i < k + 3 := by simpa [Ob.turn, flp_len, h.ls] using hi
    obtain ⟨e, h1, -⟩ := h.p i hi
    show 0 ≤ gi (flp o.p (outW bs)) i
    rw [gi_flp, e, mul_sg]; omega
  · have hi : i < k := by simpa [Ob.turn, flp_len, h.la] using hi
    show 0 ≤ gi (flp o.a bs) i
    rw [gi_flp]; exact (h.a i hi).1
theorem ext_bd (v : Int) : -127 ≤ ext v ∧ ext v ≤ 127 := by unfold ext; omega
theorem clean_plain {o : Ob} {k : Nat} {bs : List Bool} {m1 m2 : Nat → Int} (h : Rgt o k bs m1 m2) :
    o.dB = bs.map ib ∧ o.dE.length = k ∧ ∀ j, j < k → 0 ≤ gi o.dE j * (1 - 2 * (bq (bs.getD j false) : Int)) ∧ -127 ≤ gi o.dE j ∧ gi o.dE j ≤ 127 := by
  have hok := h.ok
  have hc := h.cle
  have hbl : bs.length = o.a.length := by rw [h.b, h.la]
  have ht := turn_tn hok hbl
  have hE := turn_dE hok hbl
  have hel : o.dE.length = k := by unfold Ob.dE; rw [if_pos hok]; simp [h.la]
  have tl : (o.turn bs).s.length = k + 3 := by show (flp _ _).length = _; rw [flp_len, h.ls]
  have tal : (o.turn bs).a.length = k := by show (flp _ _).length = _; rw [flp_len, h.la]
  have tt : ∀ j, j < k → (o.turn bs).x j ≤ (o.turn bs).tot j := fun j hj => hc.tot j (by rw [tl]; omega)
  refine ⟨?_, hel, fun j hj => ⟨?_, ?_⟩⟩
  · unfold Ob.dB
    rw [if_pos hok, h.la]
    refine ext_gi (by simp [h.b]) fun j hj => ?_
    have hj : j < k := by simpa using hj
    rw [gi_range _ hj, gi_ib bs j (by rw [h.b]; exact hj)]
    unfold Ob.bT
    have h1 := tt j hj
    have h2 := hc.x j (by rw [tl]; omega)
    rw [ht.tot j (by rw [h.ls]; omega)] at h1
    have hbt : (cW bs j).bt = bq (bs[j]'(by rw [h.b]; exact hj)) := by
      show bq ((inW bs).getD j false) = _
      rw [inW_lo bs j (by rw [h.b]; exact hj)]
      simp [List.getD, show j < bs.length from by rw [h.b]; exact hj]
    rw [hbt] at h1
    generalize bs[j]'_ = b at *
    cases b
    · simp [bq] at h1; simp [ib]; omega
    · have h1 : (o.turn bs).x j ≤ o.tot j * (1 - 2 * 1) := h1
      show (if o.tot j < 0 then (1 : Int) else 0) = 1
      rw [if_pos (by omega)]
  · have e : gi (o.turn bs).dE j = gi (flp o.dE bs) j := by rw [hE]
    rw [gi_flp] at e
    rw [← e]
    unfold Ob.dE
    rw [if_pos (turn_ok hok bs), tal, gi_range _ hj]
    unfold Ob.eT
    refine ext_nonneg ?_
    have h1 := tt j hj
    unfold Ob.x at h1
    rw [if_pos (by show j < (o.turn bs).a.length; rw [tal]; exact hj)] at h1
    omega
  · unfold Ob.dE
    rw [if_pos hok, h.la, gi_range _ hj]
    exact ext_bd _
end Go.Proofs.YtpdalbckmfadbaaGreat

namespace Go.Proofs.YtpdalbckmfadbaaGreat.Tu
open Go.RowKit
set_option linter.unusedVariables false
def validK (k : Int) : Bool := decide (40 ≤ k ∧ k ≤ 512 ∧ k % 8 = 0 ∨ 528 ≤ k ∧ k ≤ 1024 ∧ k % 16 = 0 ∨ 1056 ≤ k ∧ k ≤ 2048 ∧ k % 32 = 0 ∨ 2112 ≤ k ∧ k ≤ 6144 ∧ k % 64 = 0)
def spansV : Value := .agg #[.int .i64 40, .int .i64 512, .int .i64 8, .int .i64 528, .int .i64 1024, .int .i64 16, .int .i64 1056, .int .i64 2048, .int .i64 32, .int .i64 2112, .int .i64 6144, .int .i64 64]
theorem spans_any (w : World) : Calls Tryz.prog 68 #[] w fun e w' => e = .returned spansV ∧ Below w.heap.size w w' := by
  go_enter Tryz.func68, Tryz.ntmps68
  go_wp2
  refine bodyPost_ret (v := spansV) (by simp [results, Tryz.results68, go_sem]; rfl) rfl ?_
  exact ⟨rfl, (Below.refl _ w).alloc (Nat.le_refl _) _⟩
theorem span0 (W : World) : (Instr.index 122 spansV (.int .i64 0)).run Tryz.prog W = .ok (.agg #[.int .i64 40, .int .i64 512, .int .i64 8]) W := by kernel_rfl
theorem span1 (W : World) : (Instr.index 122 spansV (.int .i64 1)).run Tryz.prog W = .ok (.agg #[.int .i64 528, .int .i64 1024, .int .i64 16]) W := by kernel_rfl
theorem span2 (W : World) : (Instr.index 122 spansV (.int .i64 2)).run Tryz.prog W = .ok (.agg #[.int .i64 1056, .int .i64 2048, .int .i64 32]) W := by kernel_rfl
theorem span3 (W : World) : (Instr.index 122 spansV (.int .i64 3)).run Tryz.prog W = .ok (.agg #[.int .i64 2112, .int .i64 6144, .int .i64 64]) W := by kernel_rfl
def SpanInv (k : Int) (w : World) (i : Value) (wr : World) : Prop := ∃ j : Nat, j ≤ 4 ∧ i = .int .i64 j ∧ (0 < j → ¬ (40 ≤ k ∧ k ≤ 512)) ∧ (1 < j → ¬ (528 ≤ k ∧ k ≤ 1024)) ∧ (2 < j → ¬ (1056 ≤ k ∧ k ≤ 2048)) ∧ (3 < j → ¬ (2112 ≤ k ∧ k ≤ 6144)) ∧ Below w.heap.size w wr
theorem valid_any (k : Int) (w : World) : Calls Tryz.prog 27 #[.int .i64 k] w fun e w' => e = .returned (.bool (validK k)) ∧ Below w.heap.size w w' := by
  have hV : Hid (∀ b : Bool, (b = true ↔ (40 ≤ k ∧ k ≤ 512 ∧ k % 8 = 0 ∨ 528 ≤ k ∧ k ≤ 1024 ∧ k % 16 = 0 ∨ 1056 ≤ k ∧ k ≤ 2048 ∧ k % 32 = 0 ∨ 2112 ≤ k ∧ k ≤ 6144 ∧ k % 64 = 0)) → b = validK k) := Lib.hid (by
    intro b hb; unfold validK; rw [Bool.eq_iff_iff, hb, decide_eq_true_iff])
  generalize validK k = V at *
  go_enter Tryz.func27, Tryz.ntmps27
  go_wp2_with fail
  refine (spans_any _).mono ?_
  rintro e w1 ⟨rfl, hB1⟩
  have e0 := span0; have e1 := span1; have e2 := span2; have e3 := span3
  generalize spansV = SV at *
  go_wp2_with fail
  go_loopw [6] (fun i wr => SpanInv k w i wr) (fun i _ => 4 - (intOf i).toNat)
  case atStart => exact ⟨0, by omega, rfl, by omega, by omega, by omega, by omega, hB1⟩
  case round =>
    obtain ⟨j, hj, rfl, h1, h2, h3, h4, hB⟩ := hrel
    have H1 := Lib.hid h1; have H2 := Lib.hid h2; have H3 := Lib.hid h3; have H4 := Lib.hid h4
    clear h1 h2 h3 h4
    rcases (by omega : j = 0 ∨ j = 1 ∨ j = 2 ∨ j = 3 ∨ j = 4) with rfl | rfl | rfl | rfl | rfl
    all_goals try simp only [Int.ofNat_zero, Int.ofNat_one, Int.cast_ofNat_Int]
    all_goals go_wp2
    all_goals (have h1 := H1.out; have h2 := H2.out; have h3 := H3.out; have h4 := H4.out)
    all_goals first
      | exact ⟨⟨_, by omega, rfl, by omega, by omega, by omega, by omega, hB.alloc hB.size _⟩, by simp [intOf]⟩
      | exact ⟨⟨1, by omega, rfl, by omega, by omega, by omega, by omega, hB.alloc hB.size _⟩, by simp [intOf]⟩
      | exact ⟨⟨2, by omega, rfl, by omega, by omega, by omega, by omega, hB.alloc hB.size _⟩, by simp [intOf]⟩
      | exact ⟨⟨3, by omega, rfl, by omega, by omega, by omega, by omega, hB.alloc hB.size _⟩, by simp [intOf]⟩
      | exact ⟨⟨4, by omega, rfl, by omega, by omega, by omega, by omega, hB.alloc hB.size _⟩, by simp [intOf]⟩
      | (go_ret
         refine ⟨ret_bool (hV.out _ ?_), by first | exact hB.alloc hB.size _ | exact hB⟩
         first
          | (rw [beq_iff_eq]; omega)
          | (refine iff_of_false (by decide) ?_; omega))
end Go.Proofs.YtpdalbckmfadbaaGreat.Tu

namespace Go.Proofs.YtpdalbckmfadbaaGreat.Tu
open Go.RowKit
set_option linter.unusedVariables false
def strip : Nat → Nat → Nat → Option Nat
  | 0, _, _ => none
  | f + 1, p, k => if k % p = 0 then strip f p (k / p) else some k
def dvs : Nat → Nat → Nat → List Nat → Option (List Nat)
  | 0, _, _, _ => none
  | f + 1, p, k, acc => if k ≤ 1 then some acc else match strip 14 p k with
    | none => none
    | some k2 => dvs f (p + 1) k2 (if k % p = 0 then acc ++ [p] else acc)
def cop (f : Nat) (D : List Nat) : Bool := D.all fun p => decide (f % p ≠ 0)
def fnd : Nat → Nat → List Nat → Option Nat
  | 0, _, _ => none
  | n + 1, f, D => if cop f D = true then some f else fnd n (f + 2) D
def fndG : Nat → Nat → Nat → Option Nat
  | 0, _, _ => none
  | n + 1, f, k => if 1 < Nat.gcd f k then fndG n (f + 2) k else some f
def prodL (D : List Nat) : Nat := D.foldl (· * ·) 1
def validN (k : Nat) : Bool := validK (k : Int)
def chk (k : Nat) : Bool := match dvs 100 2 k [] with
  | none => false
  | some D => match fnd 50 3 D with
    | none => false
    | some F => decide (D.length ≤ 12 ∧ fndG 50 3 k = some F ∧ F ≤ 1000 ∧ prodL D ≤ 6144) && D.all (fun p => decide (1 ≤ p))
theorem chk_all : ((List.range 6145).all fun k => !validN k || chk k) = true := by decide +kernel
def dvL (k : Nat) : List Nat := (dvs 100 2 k []).getD []
def f1N (k : Nat) : Nat := (fnd 50 3 (dvL k)).getD 0
def f2N (k : Nat) : Nat := prodL (dvL k)
structure Prm (k : Nat) : Prop where
  k0 : 40 ≤ k
  k1 : k ≤ 6144
  d : dvs 100 2 k [] = some (dvL k)
  f : fnd 50 3 (dvL k) = some (f1N k)
  g : fndG 50 3 k = some (f1N k)
  l : (dvL k).length ≤ 12
  b1 : f1N k ≤ 1000
  b2 : f2N k ≤ 6144
  p : ∀ q ∈ dvL k, 1 ≤ q
theorem valid_bd {k : Int} (h : validK k = true) : 40 ≤ k ∧ k ≤ 6144 := by
  unfold validK at h
  rw [decide_eq_true_iff] at h
  omega
theorem prm {k : Nat} (h : validK (k : Int) = true) : Prm k := by
  obtain ⟨h0, h1⟩ := valid_bd h
  have hc := List.all_eq_true.1 chk_all k (List.mem_range.2 (by omega))
  have hv : validN k = true := h
  rw [hv] at hc
  have hc : chk k = true := by simpa using hc
  unfold chk at hc
  have e1 : dvs 100 2 k [] = some (dvL k) := by
    unfold dvL
    cases hd : dvs 100 2 k [] with
    | none => rw [hd] at hc; cases hc
    | some D => rfl
  rw [e1] at hc
  simp only at hc
  have e2 : fnd 50 3 (dvL k) = some (f1N k) := by
    unfold f1N
    cases hd : fnd 50 3 (dvL k) with
    | none => rw [hd] at hc; cases hc
    | some D => rfl
  rw [e2] at hc
  simp only [Bool.and_eq_true, decide_eq_true_iff] at hc
  obtain ⟨⟨c1, c2, c3, c4⟩, c5⟩ := hc
  exact ⟨by omega, by omega, e1, e2, c2, c1, c3, c4, fun q hq => by have := List.all_eq_true.1 c5 q hq; simpa using this⟩
theorem dvs_len : ∀ (f p k : Nat) (acc D : List Nat), dvs f p k acc = some D → acc.length ≤ D.length
  | 0, _, _, _, _, h => by cases h
  | f + 1, p, k, acc, D, h => by
    unfold dvs at h
    split at h
    · cases h; exact Nat.le_refl _
    · split at h
      · cases h
      · have := dvs_len f (p + 1) _ _ D h
        split at this
        · rw [List.length_append] at this; simp at this; omega
        · exact this
/-- One step of the search for divisors. -/
theorem dvs_step {f p k : Nat} {acc D : List Nat} (h : dvs f p k acc = some D) (hk : 1 < k) : ∃ f' k2, f = f' + 1 ∧ strip 14 p k = some k2 ∧ dvs f' (p + 1) k2 (if k % p = 0 then acc ++ [p] else acc) = some D := by
  cases f with
  | zero => cases h
  | succ f =>
    unfold dvs at h
    rw [if_neg (by omega)] at h
    cases hs : strip 14 p k with
    | none => rw [hs] at h; cases h
    | some k2 => rw [hs] at h; exact ⟨f, k2, rfl, rfl, h⟩
theorem dvs_end {f p k : Nat} {acc D : List Nat} (h : dvs f p k acc = some D) (hk : k ≤ 1) : acc = D := by
  cases f with
  | zero => cases h
  | succ f => unfold dvs at h; rw [if_pos hk] at h; exact Option.some.inj h
theorem strip_step {f p k K : Nat} (h : strip f p k = some K) (hk : k % p = 0) : ∃ f', f = f' + 1 ∧ strip f' p (k / p) = some K := by
  cases f with
  | zero => cases h
  | succ f => unfold strip at h; rw [if_pos hk] at h; exact ⟨f, rfl, h⟩
theorem strip_end {f p k K : Nat} (h : strip f p k = some K) (hk : k % p ≠ 0) : k = K := by
  cases f with
  | zero => cases h
  | succ f => unfold strip at h; rw [if_neg hk] at h; exact Option.some.inj h
theorem fnd_le : ∀ (n f : Nat) (D : List Nat) (F : Nat), fnd n f D = some F → f ≤ F
  | 0, _, _, _, h => by cases h
  | n + 1, f, D, F, h => by
    unfold fnd at h
    split at h
    · cases h; exact Nat.le_refl _
    · have := fnd_le n (f + 2) D F h; omega
theorem fnd_step {n f : Nat} {D : List Nat} {F : Nat} (h : fnd n f D = some F) (hc : cop f D = false) : f + 2 ≤ F ∧ ∃ n', fnd n' (f + 2) D = some F := by
  cases n with
  | zero => cases h
  | succ n => unfold fnd at h; rw [if_neg (by rw [hc]; decide)] at h; exact ⟨fnd_le _ _ _ _ h, n, h⟩
theorem fnd_end {n f : Nat} {D : List Nat} {F : Nat} (h : fnd n f D = some F) (hc : cop f D = true) : f = F := by
  cases n with
  | zero => cases h
  | succ n => unfold fnd at h; rw [if_pos hc] at h; exact Option.some.inj h
theorem foldl_mul (D : List Nat) : ∀ a, D.foldl (· * ·) a = a * prodL D := by
  induction D with
  | nil => intro a; simp [prodL]
  | cons d D ih => intro a; simp only [prodL, List.foldl_cons]; rw [ih, ih (1 * d)]; rw [Nat.one_mul, Nat.mul_assoc]
theorem prodL_app (a b : List Nat) : prodL (a ++ b) = prodL a * prodL b := by
  unfold prodL; rw [List.foldl_append, foldl_mul]; rfl
theorem prodL_pos {D : List Nat} (h : ∀ q ∈ D, 1 ≤ q) : 1 ≤ prodL D := by
  induction D with
  | nil => simp [prodL]
  | cons d D ih =>
    rw [show d :: D = [d] ++ D from rfl, prodL_app]
    have h1 := h d (by simp)
    have h2 := ih fun q hq => h q (by simp [hq])
    have : prodL [d] = d := by simp [prodL]
    rw [this]
    exact Nat.mul_pos h1 h2
theorem prodL_le {a t : List Nat} (h : ∀ q ∈ a ++ t, 1 ≤ q) : prodL a ≤ prodL (a ++ t) := by
  rw [prodL_app]
  exact Nat.le_mul_of_pos_right _ (prodL_pos fun q hq => h q (List.mem_append_right _ hq))
/-- The permutation. -/
def piN (k i : Nat) : Nat := (f1N k * i + f2N k * i % k * i) % k
def ordL (k : Nat) : List Int := (List.range k).map fun i => (piN k i : Int)
end Go.Proofs.YtpdalbckmfadbaaGreat.Tu

namespace Go.Proofs.YtpdalbckmfadbaaGreat.Tu
open Go.RowKit
set_option linter.unusedVariables false
theorem el33 : El Tryz.prog 34 3 (.int .i64 0) 8 := ⟨by kernel_rfl, by kernel_rfl, fun _ => by kernel_rfl, rfl⟩
end Go.Proofs.YtpdalbckmfadbaaGreat.Tu

