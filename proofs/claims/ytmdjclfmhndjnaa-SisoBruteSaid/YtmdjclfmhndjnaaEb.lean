/-
  The path of a codeword, an observation turned by it, and the theorem of the stage in plain Lean. Condition: none.
-/
import Derived.Test.YtmdjclfmhndjnaaEa
namespace Go.Proofs.Ytmdjclfmhndjnaa
open Go.RowKit
set_option linter.unusedVariables false
/-- a list with inverted signs where bits are one -/
def flp (xs : List Int) (bs : List Bool) : List Int := (List.range xs.length).map (fun i => if bs.getD i false = true then -gi xs i else gi xs i)
theorem flp_len (xs : List Int) (bs : List Bool) : (flp xs bs).length = xs.length := by simp [flp]
theorem gi_range {n i : Nat} (f : Nat → Int) (h : i < n) : gi ((List.range n).map f) i = f i := by simp [gi, List.getD, h]
theorem gi_over {xs : List Int} {i : Nat} (h : xs.length ≤ i) : gi xs i = 0 := by simp [gi, List.getD, h]
theorem gi_flp (xs : List Int) (bs : List Bool) (i : Nat) : gi (flp xs bs) i = gi xs i * (1 - 2 * (bq (bs.getD i false) : Int)) := by
  rcases Nat.lt_or_ge i xs.length with h | h
  · unfold flp
    rw [gi_range _ h]
    cases bs.getD i false <;> simp [bq]
  · rw [gi_over h, gi_over (by rw [flp_len]; exact h), Int.zero_mul]
def sn (s : St3) : Nat := 4 * bq s.1 + 2 * bq s.2.1 + bq s.2.2
def stW (bs : List Bool) (i : Nat) : St3 := ((inW bs).take i).foldl stp s0
def cW (bs : List Bool) (i : Nat) : Br := ⟨sn (stW bs i), bq ((inW bs).getD i false), bq ((outW bs).getD i false), sn (stW bs (i + 1))⟩
theorem br_stp : ∀ (s : St3) (x : Bool), (⟨sn s, bq x, bq (par s x), sn (stp s x)⟩ : Br) ∈ brT := by
  rintro ⟨a, b, c⟩ x; cases a <;> cases b <;> cases c <;> cases x <;> decide
theorem parL_app (l m : List Bool) : ∀ s, parL s (l ++ m) = parL s l ++ parL (l.foldl stp s) m := by
  induction l with
  | nil => intro s; rfl
  | cons x l ih => intro s; simp [parL, ih]
theorem parL_get (l : List Bool) : ∀ (s : St3) (i : Nat), i < l.length → (parL s l).getD i false = par ((l.take i).foldl stp s) (l.getD i false) := by
  induction l with
  | nil => intro s i h; simp at h
  | cons x l ih =>
    intro s i h
    cases i with
    | zero => simp [parL]
    | succ i =>
      have := ih (stp s x) i (by simpa using h)
      simpa [parL] using this
theorem tail_all : ∀ s : St3, parL s [tu s 0, tu s 1, tu s 2] = [tz s 0, tz s 1, tz s 2] ∧ [tu s 0, tu s 1, tu s 2].foldl stp s = s0 ∧
    bq (tu s 0) = tailBit (sn s) ∧ bq (tu s 1) = tailBit (sn ([tu s 0].foldl stp s)) ∧ bq (tu s 2) = tailBit (sn ([tu s 0, tu s 1].foldl stp s)) := by
  rintro ⟨a, b, c⟩; cases a <;> cases b <;> cases c <;> decide
theorem outW_eq (bs : List Bool) : outW bs = parL s0 (inW bs) := by
  unfold outW inW
  rw [parL_app]
  congr 1
  exact (tail_all (fin bs)).1.symm
theorem stW_succ (bs : List Bool) (i : Nat) (hi : i < bs.length + 3) : stW bs (i + 1) = stp (stW bs i) ((inW bs).getD i false) := by
  have hl : i < (inW bs).length := by rw [inW_len]; exact hi
  unfold stW
  rw [List.take_succ_eq_append_getElem hl, List.foldl_append]
  simp [List.getD, hl]
theorem cW_mem (bs : List Bool) (i : Nat) (hi : i < bs.length + 3) : cW bs i ∈ brT := by
  unfold cW
  rw [stW_succ bs i hi, outW_eq, parL_get _ _ _ (by rw [inW_len]; exact hi)]
  exact br_stp _ _
theorem cW_end (bs : List Bool) : (cW bs (bs.length + 3)).fr = 0 := by
  show sn (stW bs (bs.length + 3)) = 0
  unfold stW
  rw [List.take_of_length_le (by rw [inW_len]; omega)]
  unfold inW
  rw [List.foldl_append]
  have := (tail_all (fin bs)).2.1
  unfold fin at this ⊢
  rw [this]
  rfl
theorem inW_lo (bs : List Bool) (i : Nat) (h : i < bs.length) : (inW bs).getD i false = bs.getD i false := by
  unfold inW
  simp [List.getD, List.getElem?_append_left h]
theorem cW_tail (bs : List Bool) (i : Nat) (hi : i < bs.length + 3) (hk : bs.length ≤ i) : (cW bs i).bt = tailBit (cW bs i).fr := by
  obtain ⟨j, rfl⟩ : ∃ j, i = bs.length + j := ⟨i - bs.length, by omega⟩
  show bq ((inW bs).getD (bs.length + j) false) = tailBit (sn (stW bs (bs.length + j)))
  have e1 : (inW bs).getD (bs.length + j) false = [tu (fin bs) 0, tu (fin bs) 1, tu (fin bs) 2].getD j false := by
    unfold inW
    rw [List.getD_eq_getElem?_getD, List.getD_eq_getElem?_getD, List.getElem?_append_right (by omega), Nat.add_sub_cancel_left]
  have e2 : stW bs (bs.length + j) = ([tu (fin bs) 0, tu (fin bs) 1, tu (fin bs) 2].take j).foldl stp (fin bs) := by
    unfold stW inW
    rw [List.take_append, List.foldl_append, List.take_of_length_le (by omega)]
    unfold fin
    congr 2
    omega
  obtain ⟨-, -, t0, t1, t2⟩ := tail_all (fin bs)
  rw [e1, e2]
  rcases (by omega : j = 0 ∨ j = 1 ∨ j = 2) with rfl | rfl | rfl
  · exact t0
  · exact t1
  · exact t2
/-- an observation turned by the codeword of bits -/
def Ob.turn (o : Ob) (bs : List Bool) : Ob := ⟨flp o.s (inW bs), flp o.p (outW bs), flp o.a bs⟩
theorem turn_tn {o : Ob} (h : o.ok) {bs : List Bool} (hb : bs.length = o.a.length) : Tn o (o.turn bs) (cW bs) := by
  have hn := h.2.2.1
  refine ⟨flp_len _ _, flp_len _ _, fun i hi => cW_mem bs i (by omega), fun i hi => rfl, rfl, ?_, fun i hi hk => cW_tail bs i (by omega) (by rw [hb]; exact hk), fun i hi => ?_, fun i hi => gi_flp _ _ i⟩
  · rw [hn, ← hb]; exact cW_end bs
  · unfold Ob.x Ob.turn Ob.k
    dsimp only
    rw [flp_len, gi_flp, gi_flp]
    show _ = _ * (1 - 2 * (bq ((inW bs).getD i false) : Int))
    by_cases hk : i < o.a.length
    · rw [if_pos hk, if_pos hk, inW_lo bs i (by omega), Int.add_mul]
    · rw [if_neg hk, if_neg hk]
theorem flp_bd {xs : List Int} (h : ∀ v ∈ xs, -127 ≤ v ∧ v ≤ 127) (bs : List Bool) : ∀ v ∈ flp xs bs, -127 ≤ v ∧ v ≤ 127 := by
  intro v hv
  obtain ⟨i, hi, rfl⟩ := List.mem_map.1 hv
  have hi : i < xs.length := by simpa using hi
  have := h (gi xs i) (by simp [gi, List.getD, hi])
  split <;> omega
theorem turn_ok {o : Ob} (h : o.ok) (bs : List Bool) : (o.turn bs).ok := by
  obtain ⟨h1, h2, h3, h4, h5, h6, h7⟩ := h
  refine ⟨?_, ?_, ?_, ?_, flp_bd h5 _, flp_bd h6 _, flp_bd h7 _⟩ <;> simp only [Ob.turn, flp_len] <;> assumption
theorem ext_neg (v : Int) : ext (-v) = -ext v := by
  unfold ext
  rw [Int.mul_neg, Int.neg_tdiv]
  generalize (3 * v).tdiv 4 = u
  omega
theorem turn_dT {o : Ob} (h : o.ok) {bs : List Bool} (hb : bs.length = o.a.length) : (o.turn bs).dT = flp o.dT bs := by
  have hn := h.2.2.1
  have ht := turn_tn h hb
  unfold Ob.dT
  rw [if_pos h, if_pos (turn_ok h bs)]
  refine ext_gi (by simp [flp_len, Ob.turn]) fun j hj => ?_
  have hj : j < o.a.length := by simpa [flp_len, Ob.turn] using hj
  rw [gi_flp, gi_range _ hj, gi_range _ (by simpa [flp_len, Ob.turn] using hj), ht.tot j (by omega)]
  show _ * (1 - 2 * (bq ((inW bs).getD j false) : Int)) = _
  rw [inW_lo bs j (by omega)]
theorem turn_dE {o : Ob} (h : o.ok) {bs : List Bool} (hb : bs.length = o.a.length) : (o.turn bs).dE = flp o.dE bs := by
  have hn := h.2.2.1
  have ht := turn_tn h hb
  unfold Ob.dE
  rw [if_pos h, if_pos (turn_ok h bs)]
  refine ext_gi (by simp [flp_len, Ob.turn]) fun j hj => ?_
  have hj : j < o.a.length := by simpa [flp_len, Ob.turn] using hj
  rw [gi_flp, gi_range _ hj, gi_range _ (by simpa [flp_len, Ob.turn] using hj)]
  unfold Ob.eT
  rw [ht.tot j (by omega)]
  show ext (_ * (1 - 2 * (bq ((inW bs).getD j false) : Int)) - gi (flp o.s (inW bs)) j - gi (flp o.a bs) j) = _
  rw [gi_flp, gi_flp, inW_lo bs j (by omega)]
  cases bs.getD j false
  · simp [bq]
  · show ext (_ * (1 - 2 * 1) - _ * (1 - 2 * 1) - _ * (1 - 2 * 1)) = _ * (1 - 2 * 1)
    rw [show (1 - 2 * 1 : Int) = -1 from rfl]
    simp only [Int.mul_neg_one]
    rw [← ext_neg]
    congr 1
    omega
/-! ### the theorem of the stage -/
def phi (t : Nat) : Int := [0, 4, 3, 3, 2, 4, 3, 3].getD t 0
def psi (t : Nat) : Int := [0, 2, 3, 3, 4, 4, 3, 3].getD t 0
theorem phi_step : ∀ b ∈ brT, phi b.tt ≤ phi b.fr + b.bt + b.pr ∧ psi b.fr ≤ psi b.tt + b.bt + b.pr ∧ (b.bt = 1 → 6 ≤ phi b.fr + 1 + b.pr + psi b.tt) := by decide
theorem phi_bd : ∀ t, t < 8 → 0 ≤ phi t ∧ phi t ≤ 4 ∧ 0 ≤ psi t ∧ psi t ≤ 4 := by decide
/-- the metric of the zero word -/
def Ob.Z (o : Ob) : Nat → Int
  | 0 => 0
  | i + 1 => o.Z i + o.x i + gi o.p i
structure Hol (o : Ob) (M : Int) : Prop where
  ok : o.ok
  m : 1 ≤ M ∧ M ≤ 127
  x : ∀ i, i < o.s.length → -M ≤ o.x i ∧ o.x i ≤ M
  p : ∀ i, i < o.s.length → -M ≤ gi o.p i ∧ gi o.p i ≤ M
  z : 2 * M * (o.s.length : Int) - 4 * M ≤ o.Z o.s.length
theorem Hol.zb {o : Ob} {M : Int} (h : Hol o M) : ∀ i, i ≤ o.s.length → -(254 * (i : Int)) ≤ o.Z i ∧ o.Z i ≤ 254 * (i : Int)
  | 0, _ => by simp [Ob.Z]
  | i + 1, hi => by
    have h1 := h.zb i (by omega)
    have h2 := h.x i (by omega)
    have h3 := h.p i (by omega)
    have h4 := h.m
    simp only [Ob.Z]
    omega
theorem Hol.zd {o : Ob} {M : Int} (h : Hol o M) : ∀ d i, i + d ≤ o.s.length → -(254 * (d : Int)) ≤ o.Z (i + d) - o.Z i ∧ o.Z (i + d) - o.Z i ≤ 254 * (d : Int)
  | 0, i, _ => by simp
  | d + 1, i, hi => by
    have h1 := h.zd d i (by omega)
    have h2 := h.x (i + d) (by omega)
    have h3 := h.p (i + d) (by omega)
    have h4 := h.m
    rw [show i + (d + 1) = (i + d) + 1 from rfl]
    simp only [Ob.Z]
    omega
theorem Hol.nb {o : Ob} {M : Int} (h : Hol o M) : o.s.length ≤ 6147 := by have := h.ok.2.1; have := h.ok.2.2.1; omega
theorem term_hol {o : Ob} {M : Int} (h : Hol o M) (i : Nat) (hi : i < o.s.length) (b : Br) (hb : b ∈ brT) : o.term i b ≤ 4 * M - o.x i - gi o.p i - 2 * (M * ((b.bt : Int) + b.pr)) := by
  obtain ⟨-, h1, h2, -⟩ := br_bd b hb
  have h3 := h.x i hi
  have h4 := h.p i hi
  unfold Ob.term
  rcases (by omega : b.bt = 0 ∨ b.bt = 1) with e | e <;> rcases (by omega : b.pr = 0 ∨ b.pr = 1) with e' | e' <;> rw [e, e'] <;> simp <;> omega
theorem Hol.f {o : Ob} {M : Int} (h : Hol o M) : ∀ i, i ≤ o.s.length → ∀ t, t < 8 → gi (o.f i) t ≤ 4 * M * (i : Int) - o.Z i - 2 * (M * phi t)
  | 0, _, t, ht => by
    have h4 := h.m
    have hp := phi_bd t ht
    show gi none0 t ≤ _
    rw [gi_none0 t ht]
    simp only [Ob.Z]
    split
    · rename_i e; subst e; simp [phi]
    · have : M * phi t ≤ M * 4 := Int.mul_le_mul_of_nonneg_left hp.2.1 (by omega)
      rw [UU_eq]; omega
  | i + 1, hi, t, ht => by
    have h4 := h.m
    have hp := phi_bd t ht
    have hz := h.zb (i + 1) hi
    have hn := h.nb
    have m4 : M * phi t ≤ M * 4 := Int.mul_le_mul_of_nonneg_left hp.2.1 (by omega)
    have mi : 0 ≤ M * ((i : Int) + 1) := Int.mul_nonneg (by omega) (by omega)
    have ec : 4 * M * ((i : Int) + 1) = 4 * (M * ((i : Int) + 1)) := Int.mul_assoc ..
    refine (fwd_le o i (o.f i) t ht _).2 ⟨?_, fun b hb e _ _ => ?_⟩
    · rw [UU_eq]; push_cast; rw [ec]; omega
    · have h1 := h.f i (by omega) b.fr (br_bd b hb).1
      have h2 := term_hol h i (by omega) b hb
      have h3 := (phi_step b hb).1
      rw [e] at h3
      have h5 : M * phi t ≤ M * (phi b.fr + b.bt + b.pr) := Int.mul_le_mul_of_nonneg_left h3 (by omega)
      simp only [Int.mul_add] at h5 h2
      have ei : 4 * M * (((i + 1 : Nat)) : Int) = 4 * M * (i : Int) + 4 * M := by push_cast; rw [Int.mul_add, Int.mul_one]
      rw [ei]
      simp only [Ob.Z]
      omega
theorem Hol.bd {o : Ob} {M : Int} (h : Hol o M) : ∀ d, d ≤ o.s.length → ∀ t, t < 8 → gi (o.bd d) t ≤ 4 * M * (d : Int) - (o.Z o.s.length - o.Z (o.s.length - d)) - 2 * (M * psi t)
  | 0, _, t, ht => by
    have h4 := h.m
    have hp := phi_bd t ht
    show gi none0 t ≤ _
    rw [gi_none0 t ht, Nat.sub_zero]
    split
    · rename_i e; subst e; simp [psi]
    · have : M * psi t ≤ M * 4 := Int.mul_le_mul_of_nonneg_left hp.2.2.2 (by omega)
      rw [UU_eq]; omega
  | d + 1, hd, t, ht => by
    have h4 := h.m
    have hp := phi_bd t ht
    have hn := h.nb
    obtain ⟨i, hi⟩ : ∃ i, i + (d + 1) = o.s.length := ⟨o.s.length - (d + 1), by omega⟩
    have hz := h.zd (d + 1) i (by omega)
    rw [hi] at hz
    have m4 : M * psi t ≤ M * 4 := Int.mul_le_mul_of_nonneg_left hp.2.2.2 (by omega)
    have mi : 0 ≤ M * ((d : Int) + 1) := Int.mul_nonneg (by omega) (by omega)
    have ec : 4 * M * ((d : Int) + 1) = 4 * (M * ((d : Int) + 1)) := Int.mul_assoc ..
    have e1 : o.s.length - 1 - d = i := by omega
    have e2 : o.s.length - (d + 1) = i := by omega
    have e3 : o.s.length - d = i + 1 := by omega
    show gi (o.bwd (o.s.length - 1 - d) (o.bd d)) t ≤ _
    rw [e1, e2]
    refine (bwd_le o i (o.bd d) t ht _).2 ⟨?_, fun b hb e _ _ => ?_⟩
    · rw [UU_eq]; push_cast at hz ⊢; rw [ec]; omega
    · have h1 := h.bd d (by omega) b.tt (br_bd b hb).2.2.2
      rw [e3] at h1
      have h2 := term_hol h i (by omega) b hb
      have h3 := (phi_step b hb).2.1
      rw [e] at h3
      have h5 : M * psi t ≤ M * (psi b.tt + b.bt + b.pr) := Int.mul_le_mul_of_nonneg_left h3 (by omega)
      simp only [Int.mul_add] at h5 h2
      simp only [Ob.Z] at h1
      have ei : 4 * M * (((d + 1 : Nat)) : Int) = 4 * M * (d : Int) + 4 * M := by push_cast; rw [Int.mul_add, Int.mul_one]
      rw [ei]
      omega
theorem b0_mem : (⟨0, 0, 0, 0⟩ : Br) ∈ brT := by decide
theorem allow0 (o : Ob) (i : Nat) : o.allow i ⟨0, 0, 0, 0⟩ = true := by unfold Ob.allow; simp [tailBit]
theorem term0 (o : Ob) (i : Nat) : o.term i ⟨0, 0, 0, 0⟩ = o.x i + gi o.p i := by unfold Ob.term; simp
theorem Hol.f0 {o : Ob} {M : Int} (h : Hol o M) : ∀ i, i ≤ o.s.length → o.Z i ≤ gi (o.f i) 0
  | 0, _ => by show (0 : Int) ≤ gi none0 0; rw [gi_none0 0 (by decide)]; simp
  | i + 1, hi => by
    have h1 := h.f0 i (by omega)
    have hz := h.zb i (by omega)
    have hn := h.nb
    have h2 := ((fwd_le o i (o.f i) 0 (by decide) (gi (o.f (i + 1)) 0)).1 (Int.le_refl _)).2 _ b0_mem rfl (allow0 o i) (by show UU < gi (o.f i) 0; rw [UU_eq]; omega)
    rw [term0] at h2
    simp only [Ob.Z]
    dsimp only at h2
    omega
theorem Hol.bd0 {o : Ob} {M : Int} (h : Hol o M) : ∀ d, d ≤ o.s.length → o.Z o.s.length - o.Z (o.s.length - d) ≤ gi (o.bd d) 0
  | 0, _ => by show _ ≤ gi none0 0; rw [gi_none0 0 (by decide), Nat.sub_zero]; simp
  | d + 1, hd => by
    have h1 := h.bd0 d (by omega)
    obtain ⟨i, hi⟩ : ∃ i, i + (d + 1) = o.s.length := ⟨o.s.length - (d + 1), by omega⟩
    have e1 : o.s.length - 1 - d = i := by omega
    have e2 : o.s.length - (d + 1) = i := by omega
    have e3 : o.s.length - d = i + 1 := by omega
    have hz := h.zd d (i + 1) (by omega)
    have e4 : i + 1 + d = o.s.length := by omega
    rw [e3] at h1
    rw [e4] at hz
    have hn := h.nb
    have h2 := ((bwd_le o i (o.bd d) 0 (by decide) (gi (o.bwd i (o.bd d)) 0)).1 (Int.le_refl _)).2 _ b0_mem rfl (allow0 o i) (by show UU < gi (o.bd d) 0; rw [UU_eq]; omega)
    rw [term0] at h2
    show _ ≤ gi (o.bwd (o.s.length - 1 - d) (o.bd d)) 0
    rw [e1, e2]
    simp only [Ob.Z] at h1
    dsimp only at h2
    omega
theorem Hol.tot {o : Ob} {M : Int} (h : Hol o M) (i : Nat) (hi : i < o.s.length) : 0 < o.tot i := by
  obtain ⟨d, hd⟩ : ∃ d, i + 1 + d = o.s.length := ⟨o.s.length - (i + 1), by omega⟩
  have e1 : o.s.length - (i + 1) = d := by omega
  have e2 : o.s.length - d = i + 1 := by omega
  have h4 := h.m
  have hn := h.nb
  have z1 := h.zb i (by omega)
  have z2 := h.zd d (i + 1) (by omega)
  have z3 := h.zb o.s.length (Nat.le_refl _)
  rw [hd] at z2
  have f0 := h.f0 i (by omega)
  have b0 := h.bd0 d (by omega)
  rw [e2] at b0
  have hx := h.x i hi
  have hp := h.p i hi
  have hz := h.z
  have lo : o.Z o.s.length ≤ o.val i 0 (o.f i) (o.b (i + 1)) := by
    have := ((val_le o i 0 (o.f i) (o.b (i + 1)) _).1 (Int.le_refl _)).2 _ b0_mem rfl
    unfold Ob.b at this ⊢
    rw [e1] at this ⊢
    have := this (by show UU < gi (o.f i) 0; rw [UU_eq]; omega) (by show UU < gi (o.bd d) 0; rw [UU_eq]; omega)
    rw [term0] at this
    simp only [Ob.Z] at b0
    dsimp only at this
    omega
  have hi' : o.val i 1 (o.f i) (o.b (i + 1)) ≤ 4 * M * (o.s.length : Int) - o.Z o.s.length - 12 * M := by
    have ei : 4 * M * (o.s.length : Int) = 4 * M * (i : Int) + 4 * M + 4 * M * (d : Int) := by
      rw [← hd]; push_cast; rw [Int.mul_add, Int.mul_add, Int.mul_one]
    have ez : 4 * M * (o.s.length : Int) = 2 * (2 * M * (o.s.length : Int)) := by rw [← Int.mul_assoc, ← Int.mul_assoc]; rfl
    refine (val_le o i 1 _ _ _).2 ⟨?_, fun b hb eb _ _ => ?_⟩
    · have : 0 ≤ M * (o.s.length : Int) := Int.mul_nonneg (by omega) (by omega)
      have e : 4 * M * (o.s.length : Int) = 4 * (M * (o.s.length : Int)) := Int.mul_assoc ..
      rw [UU_eq, e]; omega
    · unfold Ob.b
      rw [e1]
      have b4 := br_bd b hb
      have h1 := h.f i (by omega) b.fr b4.1
      have h2 := h.bd d (by omega) b.tt b4.2.2.2
      have h3 := term_hol h i hi b hb
      have h5 := (phi_step b hb).2.2 eb
      have h6 : M * 6 ≤ M * (phi b.fr + 1 + b.pr + psi b.tt) := Int.mul_le_mul_of_nonneg_left h5 (by omega)
      rw [e2] at h2
      rw [eb] at h3
      simp only [Int.mul_add, Int.mul_one] at h6 h3
      have : M * ((1 : Nat) : Int) = M := by simp
      simp only [this] at h3
      simp only [Ob.Z] at h2
      rw [ei]
      omega
  have ez : 4 * M * (o.s.length : Int) = 2 * (2 * M * (o.s.length : Int)) := by rw [← Int.mul_assoc, ← Int.mul_assoc]; rfl
  rw [ez] at hi'
  unfold Ob.tot
  have key : 2 ≤ o.val i 0 (o.f i) (o.b (i + 1)) - o.val i 1 (o.f i) (o.b (i + 1)) := by omega
  rw [Int.tdiv_eq_ediv_of_nonneg (by omega)]
  omega
end Go.Proofs.Ytmdjclfmhndjnaa
