/-
  Pieces of the laws on turned observations: bits out of bytes, bounds on totals, a guarded call in a region whose order is open. Condition: none.
-/
import Derived.Test.YtmdjclfmhndjnaaEc
import Derived.Test.YtmdjclfmhndjnaaCo
namespace Go.Proofs.Ytmdjclfmhndjnaa
open Go.RowKit
set_option linter.unusedVariables false
/-- as P_oneS, of a guarded operation that is wanted -/
theorem P_oneSG {P : Program} {ops : Array Oper} {Q : Exit → Act → World → Prop} {md : Region.Mode} {S : World → Prop} {p : Nat} (i : Nat) (l' : Array Bool) {oi : Oper} {fuel : Nat} {listed : Array Bool} {a : Act} {w : World} (hi : ops[i]? = some oi) (hl : listed.setIfInBounds i true = l') (hr : Region.ready md ops listed = [i]) (hg : Region.wanted oi (yielded ops a.tmps) = true)
    (h : ∀ K : Act → World → Prop, (∀ a' w', S w' → wpAnyP P md ops Q S p fuel l' a' w' → K a' w') → oi.wp P a w K Q) : wpAnyP P md ops Q S p (fuel + 1) listed a w := by
  subst hl
  refine ⟨fun h0 => ?_, fun j hj => ?_⟩
  · rw [hr] at h0
    cases h0
  · rw [hr] at hj
    have hj' : j = i := by simpa using hj
    subst hj'
    unfold wpOp
    simp only [hi]
    rw [if_pos hg]
    exact .inl (h _ fun _ _ h1 h2 => ⟨fun _ => h1, h2⟩)
/-- the lowest bits of bytes -/
def bsF (ys : List Int) : List Bool := ys.map (fun v => decide (v % 2 = 1))
theorem bsF_len (ys : List Int) : (bsF ys).length = ys.length := by simp [bsF]
theorem bsF_succ (ys : List Int) (j : Nat) (h : j < ys.length) : (bsF ys).take (j + 1) = (bsF ys).take j ++ [decide (gi ys j % 2 = 1)] := by
  have hl : j < (bsF ys).length := by rw [bsF_len]; exact h
  rw [List.take_succ_eq_append_getElem hl]
  congr 2
  simp [bsF, gi, List.getD, h]
theorem low_bit (v : Int) (h0 : 0 ≤ v) : v.tmod 2 = ib (decide (v % 2 = 1)) ∧ IntKind.u8.wrap (v.tmod 2) = ib (decide (v % 2 = 1)) := by
  have e : v.tmod 2 = ib (decide (v % 2 = 1)) := by
    rw [Int.tmod_eq_emod_of_nonneg h0]
    rcases (by omega : v % 2 = 0 ∨ v % 2 = 1) with h | h <;> rw [h] <;> rfl
  rw [e]
  refine ⟨rfl, ?_⟩
  cases decide (v % 2 = 1) <;> rfl
def BitI (w0 : World) (bs : List Bool) (n : Nat) (b i : Value) (wr : World) : Prop :=
  ∃ (j : Nat) (A : Option Addr) (c : Nat), j ≤ n ∧ i = .int .i64 j ∧ b = .slice A j c ∧ Own .u8 5 wr w0.heap.size A j c ((bs.take j).map ib) ∧ Below w0.heap.size w0 wr
theorem val_bd {o : Ob} (h : o.ok) (i : Nat) (hi : i < o.s.length) (bit : Nat) : UU ≤ o.val i bit (o.f i) (o.b (i + 1)) ∧ o.val i bit (o.f i) (o.b (i + 1)) ≤ 50000000 := by
  have hl := h.2.1
  have hl2 := h.2.2.1
  refine ⟨((val_le o i bit _ _ _).1 (Int.le_refl _)).1, (val_le o i bit _ _ _).2 ⟨by rw [UU_eq]; omega, fun b hb _ h1 h2 => ?_⟩⟩
  have b4 := br_bd b hb
  have hf := (f_met h i (by omega)).bd b.fr b4.1
  have hg := (bd_met h (o.s.length - (i + 1)) (by omega)).bd b.tt b4.2.2.2
  have ht := o.term_bd h i hi b hb
  unfold Ob.b at h2 ⊢
  omega
theorem tdiv2_bd (x B : Int) (h : -B ≤ x ∧ x ≤ B) : -B ≤ x.tdiv 2 ∧ x.tdiv 2 ≤ B := by
  rcases Int.le_total 0 x with h0 | h0
  · rw [Int.tdiv_eq_ediv_of_nonneg h0]; omega
  · have e : x = -(-x) := by omega
    rw [e, Int.neg_tdiv, Int.tdiv_eq_ediv_of_nonneg (by omega)]; omega
theorem tot_bd {o : Ob} (h : o.ok) (i : Nat) (hi : i < o.s.length) : -2251799813685248 ≤ o.tot i ∧ o.tot i ≤ 2251799813685248 := by
  have h0 := val_bd h i hi 0
  have h1 := val_bd h i hi 1
  unfold Ob.tot
  rw [UU_eq] at h0 h1
  exact tdiv2_bd _ _ (by omega)
theorem dT_bd {o : Ob} (h : o.ok) (j : Nat) (hj : j < o.a.length) : -4611686018427387904 ≤ gi o.dT j ∧ gi o.dT j ≤ 4611686018427387904 := by
  have := h.2.2.1
  unfold Ob.dT
  rw [if_pos h, gi_range _ hj]
  have := tot_bd h j (by omega)
  omega
theorem dE_bd {o : Ob} (h : o.ok) (j : Nat) (hj : j < o.a.length) : -4611686018427387904 ≤ gi o.dE j ∧ gi o.dE j ≤ 4611686018427387904 := by
  unfold Ob.dE
  rw [if_pos h, gi_range _ hj]
  unfold Ob.eT ext
  omega
theorem dT_len {o : Ob} (h : o.ok) : o.dT.length = o.a.length := by unfold Ob.dT; rw [if_pos h]; simp
theorem dE_len {o : Ob} (h : o.ok) : o.dE.length = o.a.length := by unfold Ob.dE; rw [if_pos h]; simp
theorem dB_len {o : Ob} (h : o.ok) : o.dB.length = o.a.length := by unfold Ob.dB; rw [if_pos h]; simp
theorem row_bd {xs : List Int} (h : ∀ v ∈ xs, -127 ≤ v ∧ v ≤ 127) (j : Nat) (hj : j < xs.length) : -4611686018427387904 ≤ gi xs j ∧ gi xs j ≤ 4611686018427387904 := by
  have := h (gi xs j) (by simp [gi, List.getD, hj])
  omega
theorem decode_turn {o : Ob} {bs : List Bool} (S P A : Option Addr) (cs cp ca : Nat) (w : World) (hs : Rd .i64 w S o.s.length cs (flp o.s (inW bs))) (hp : Rd .i64 w P o.p.length cp (flp o.p (outW bs))) (ha : Rd .i64 w A o.a.length ca (flp o.a bs)) :
    Calls Try.prog 12 #[.slice S o.s.length cs, .slice P o.p.length cp, .slice A o.a.length ca] w (DecP (o.turn bs) w) := by
  have e1 : (o.turn bs).s.length = o.s.length := flp_len _ _
  have e2 : (o.turn bs).p.length = o.p.length := flp_len _ _
  have e3 : (o.turn bs).a.length = o.a.length := flp_len _ _
  have := decode_all S P A cs cp ca (o.turn bs) w ⟨by rw [e1]; exact hs, by rw [e2]; exact hp, by rw [e3]; exact ha⟩
  rwa [e1, e2, e3] at this
/-- the cells of two decisions that the last region loads -/
def TrS (b16 b9 : Nat) (d1 d2 : Dc) (W : World) : Prop :=
  W.cell? ⟨b16, 0, none⟩ = some (.slice d2.A1 d2.n1 d2.c1) ∧ W.cell? ⟨b16, 1, none⟩ = some (.slice d2.A2 d2.n2 d2.c2) ∧ W.cell? ⟨b9, 0, none⟩ = some (.slice d1.A1 d1.n1 d1.c1) ∧ W.cell? ⟨b9, 1, none⟩ = some (.slice d1.A2 d1.n2 d1.c2)
def Dc.cs (d : Dc) : List Value := [.slice d.A1 d.n1 d.c1, .slice d.A2 d.n2 d.c2, .slice d.A3 d.n3 d.c3]
theorem TrS.of {b16 b9 : Nat} {d1 d2 : Dc} {W : World} (h1 : Blk W b16 28 d2.cs) (h2 : Blk W b9 28 d1.cs) : TrS b16 b9 d1 d2 W := ⟨h1.cell rfl, h1.cell rfl, h2.cell rfl, h2.cell rfl⟩
end Go.Proofs.Ytmdjclfmhndjnaa
