/-
  Numbers and rows of the law of the stage's theorem. Condition: none.
-/
import Derived.Test.YtmdjclfmhndjnaaEe
namespace Go.Proofs.Ytmdjclfmhndjnaa
open Go.RowKit
set_option linter.unusedVariables false
theorem hold_nums (a1 : Int) (h : 0 ≤ a1 ∧ a1 ≤ 255) : ∃ M : Int, (1 ≤ M ∧ M ≤ 127) ∧ wrap64 (1 + a1.tmod 127) = M := by
  have e : a1.tmod 127 = a1 % 127 := Int.tmod_eq_emod_of_nonneg h.1
  have h1 := Int.emod_nonneg a1 (show (127 : Int) ≠ 0 by omega)
  have h2 := Int.emod_lt_of_pos a1 (show 0 < (127 : Int) by omega)
  refine ⟨1 + a1 % 127, by omega, ?_⟩
  rw [e, IntWalk.wrap64_in _ (by omega)]
theorem decode_rows (S P A : Option Addr) (n m q cs cp ca : Nat) (o : Ob) (w : World) (hs : Rd .i64 w S n cs o.s) (hp : Rd .i64 w P m cp o.p) (ha : Rd .i64 w A q ca o.a) :
    Calls Try.prog 12 #[.slice S n cs, .slice P m cp, .slice A q ca] w (DecP o w) := by
  have e1 := hs.len
  have e2 := hp.len
  have e3 := ha.len
  subst e1
  subst e2
  subst e3
  exact decode_all S P A cs cp ca o w ⟨hs, hp, ha⟩
/-- the row of the law behind j rounds -/
def RowH (M : Int) (N : Nat) (bs : List Bool) (vs : List Int) (j : Nat) : Prop := ∀ q, q < j → gi vs q = M * (1 - 2 * ib ((inW bs).getD q false)) ∧ gi vs (N + q) = M * (1 - 2 * ib ((outW bs).getD q false))
theorem RowH.succ {M : Int} {N : Nat} {bs : List Bool} {vs : List Int} {j : Nat} (h : RowH M N bs vs j) (hj : j < N) (hl : vs.length = 2 * N) (a b : Int) (ha : a = M * (1 - 2 * ib ((inW bs).getD j false))) (hb : b = M * (1 - 2 * ib ((outW bs).getD j false))) : RowH M N bs ((vs.set j a).set (N + j) b) (j + 1) := by
  intro q hq
  have l1 : (vs.set j a).length = 2 * N := by simpa using hl
  by_cases e : q = j
  · subst e
    rw [gi_set' _ _ _ _ (by omega), if_neg (by omega), gi_set' _ _ _ _ (by omega), if_pos rfl, gi_set' _ _ _ _ (by omega), if_pos rfl]
    exact ⟨ha, hb⟩
  · rw [gi_set' _ _ _ _ (by omega), if_neg (by omega), gi_set' _ _ _ _ (by omega), if_neg (by omega), gi_set' _ _ _ _ (by omega), if_neg (by omega), gi_set' _ _ _ _ (by omega), if_neg (by omega)]
    exact h q (by omega)
theorem RowH.bd {M : Int} {N : Nat} {bs : List Bool} {vs : List Int} (h : RowH M N bs vs N) (hM : 1 ≤ M ∧ M ≤ 127) (q : Nat) (hq : q < 2 * N) : -127 ≤ gi vs q ∧ gi vs q ≤ 127 := by
  have key : ∀ b : Bool, -127 ≤ M * (1 - 2 * ib b) ∧ M * (1 - 2 * ib b) ≤ 127 := fun b => by
    cases b
    · show -127 ≤ M * (1 - 2 * 0) ∧ M * (1 - 2 * 0) ≤ 127
      omega
    · show -127 ≤ M * (1 - 2 * 1) ∧ M * (1 - 2 * 1) ≤ 127
      omega
  by_cases hN : q < N
  · rw [(h q hN).1]; exact key _
  · obtain ⟨j, rfl⟩ : ∃ j, q = N + j := ⟨q - N, by omega⟩
    rw [(h j (by omega)).2]; exact key _
/-- two places of the row with the sign turned -/
def flip1 (vs : List Int) (x : Nat) : List Int := vs.set x (-gi vs x)
def flip2 (vs : List Int) (x y : Nat) : List Int := if y = x then flip1 vs x else flip1 (flip1 vs x) y
theorem flip2_gi (vs : List Int) (x y q : Nat) (hq : q < vs.length) : gi (flip2 vs x y) q = if q = x ∨ q = y then -gi vs q else gi vs q := by
  unfold flip2 flip1
  by_cases e : y = x
  · subst e
    rw [if_pos rfl, gi_set' _ _ _ _ hq]
    by_cases e2 : y = q
    · subst e2; simp
    · rw [if_neg e2, if_neg (by omega)]
  · rw [if_neg e, gi_set' _ _ _ _ (by simpa using hq)]
    by_cases e2 : y = q
    · subst e2
      rw [if_pos rfl, if_pos (by omega), gi_set' _ _ _ _ hq, if_neg (by omega)]
    · rw [if_neg e2, gi_set' _ _ _ _ hq]
      by_cases e3 : x = q
      · subst e3; simp
      · rw [if_neg e3, if_neg (by omega)]
theorem flip2_len (vs : List Int) (x y : Nat) : (flip2 vs x y).length = vs.length := by unfold flip2 flip1; split <;> simp
def oH (vs : List Int) (N k : Nat) : Ob := ⟨vs.take N, vs.drop N, List.replicate k 0⟩
theorem hold_end {M : Int} (hM : 1 ≤ M ∧ M ≤ 127) {k N : Nat} (hk : 1 ≤ k ∧ k ≤ 200) (hN : N = k + 3) {bs : List Bool} (hb : bs.length = k) {vs : List Int} (hl : vs.length = 2 * N) (h : RowH M N bs vs N) (x y : Nat) :
    (oH (flip2 vs x y) N k).ok ∧ (oH (flip2 vs x y) N k).dB = bs.map ib := by
  subst hN
  have hl2 := flip2_len vs x y
  have key : ∀ q (b : Bool), q < 2 * (k + 3) → gi vs q = M * (1 - 2 * ib b) → gi (flip2 vs x y) q = sgM M x y q * (1 - 2 * (bq b : Int)) := fun q b hq e => by
    rw [flip2_gi vs x y q (by omega), e, bq_ib]
    unfold sgM
    split
    · rw [Int.neg_mul]
    · rfl
  refine holds_plain hM hk x y hb _ (by simp only [oH, List.length_take]; omega) (by simp only [oH, List.length_drop]; omega) rfl (fun j hj => ?_) (fun j hj => ?_)
  · rw [← key j _ (by omega) (h j hj).1]
    simp [oH, gi, List.getD, List.getElem?_take, hj]
  · rw [← key (k + 3 + j) _ (by omega) (h j hj).2]
    simp [oH, gi, List.getD, List.getElem?_drop]
def HldI (w0 : World) (G : Option Addr) (M : Int) (N NN : Nat) (bs : List Bool) (i : Value) (wr : World) : Prop :=
  ∃ (j : Nat) (vs : List Int), j ≤ N ∧ i = .int .i64 j ∧ Own .i64 3 wr w0.heap.size G NN NN vs ∧ RowH M N bs vs j ∧ Below w0.heap.size w0 wr
theorem hold_rem (a : Int) (NN : Nat) (h : 0 ≤ a ∧ a ≤ 65535) (h1 : 8 ≤ NN ∧ NN ≤ 406) : ∃ x : Nat, x < NN ∧ a.tmod (NN : Int) = (x : Int) := by
  have e : a.tmod (NN : Int) = a % (NN : Int) := Int.tmod_eq_emod_of_nonneg h.1
  have h3 := Int.emod_nonneg a (show (NN : Int) ≠ 0 by omega)
  have h4 := Int.emod_lt_of_pos a (show 0 < (NN : Int) by omega)
  rw [e]
  generalize a % (NN : Int) = r at *
  exact ⟨r.toNat, by omega, by omega⟩
def CellS (A4 A5 : Option Addr) (j : Nat) (ix iy : Int) (W : World) : Prop := W.cell? (adr A4 j) = some (.int .u8 ix) ∧ W.cell? (adr A5 j) = some (.int .u8 iy)
theorem Ownv.gebF {e : TypeId} {w : World} {base : Nat} {A : Option Addr} {n c : Nat} {vs : List Value} (h : Ownv e w base A n c vs) : ∀ a, A = some a → base ≤ a.block ∧ a.block < w.heap.size := by
  intro a ha
  rcases (Ownv.cases h).2 with ⟨h1, -, -⟩ | ⟨g, cur, h1, h2, h3, -⟩
  · rw [ha] at h1; cases h1
  · rw [ha] at h1; cases h1; exact ⟨h2, heap_lt h3⟩
def Dc.has (d : Dc) (a : Addr) : Prop := d.A1 = some a ∨ d.A2 = some a ∨ d.A3 = some a
theorem decode_fresh (S P A : Option Addr) (n m q cs cp ca : Nat) (o : Ob) (w : World) (hs : Rd .i64 w S n cs o.s) (hp : Rd .i64 w P m cp o.p) (ha : Rd .i64 w A q ca o.a) (ho : o.ok) :
    Calls Try.prog 12 #[.slice S n cs, .slice P m cp, .slice A q ca] w fun e w' => ∃ d : Dc, e = .returned (.tuple #[d.val, .int .i64 0]) ∧ DcAt w' d ∧ d.b = o.dB ∧ (∀ a, d.has a → w.heap.size ≤ a.block ∧ a.block < w'.heap.size) ∧ Below w.heap.size w w' := by
  have e1 := hs.len
  have e2 := hp.len
  have e3 := ha.len
  subst e1
  subst e2
  subst e3
  refine (decode_ok S P A cs cp ca o w ⟨hs, hp, ha⟩ ho).mono ?_
  rintro e w' ⟨A1, A2, A3, rfl, h1, h2, h3, -, -, -, hB⟩
  obtain ⟨e1, e2, e3⟩ := rows_same ho
  rw [e1] at h1; rw [e2] at h2; rw [e3] at h3
  refine ⟨⟨A1, _, _, _, A2, _, _, _, A3, _, _, _⟩, rfl, ⟨Own.rd h1, Own.rd h2, Own.rd h3, bT_u8 o⟩, by unfold Ob.dB; rw [if_pos ho], ?_, hB⟩
  rintro a (h | h | h)
  · exact Ownv.gebF h1 a h
  · exact Ownv.gebF h2 a h
  · exact Ownv.gebF h3 a h
theorem Dc.hne {b : Nat} {A : Option Addr} (h : ∀ a, A = some a → a.block ≠ b) : A ≠ none → some (blk A) ≠ some b := by
  intro hA
  cases A with
  | none => exact absurd rfl hA
  | some a => intro e; exact h a rfl (by simpa [blk] using e)
theorem DcAt.put {W W' : World} {d : Dc} {b : Nat} (h : DcAt W d) (hg : W.grownBy W' (some b)) (hne : ∀ a, d.has a → a.block ≠ b) : DcAt W' d :=
  ⟨Rdv.grown h.t hg (Dc.hne fun a ha => hne a (.inl ha)), Rdv.grown h.e hg (Dc.hne fun a ha => hne a (.inr (.inl ha))), Rdv.grown h.b hg (Dc.hne fun a ha => hne a (.inr (.inr ha))), h.u⟩
def HoldC (wz : World) (bs : List Bool) (d e : Value) (wx : World) : Prop :=
  ∃ (b : Nat) (dd : Dc), d = .pointer (some ⟨b, 0, none⟩) ∧ e = .int .i64 0 ∧ Blk wx b 28 dd.cs ∧ DcAt wx dd ∧ dd.b = bs.map ib ∧ Below wz.heap.size wz wx
theorem cutN {w : World} {A : Option Addr} {NN N : Nat} {xs : List Int} (h : Rd .i64 w A NN NN xs) (hN : NN = 2 * N) : Rd .i64 w (cut A NN N) N N (xs.drop N) := by
  have := rd_fin h (l := N) (by omega)
  rwa [show NN - N = N from by omega] at this
end Go.Proofs.Ytmdjclfmhndjnaa
