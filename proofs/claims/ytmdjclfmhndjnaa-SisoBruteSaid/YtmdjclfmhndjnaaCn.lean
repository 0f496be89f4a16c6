/-
  Decode in one form, of both texts; the chapter's examples. Condition: lists that lie in memory.
-/
import Derived.Test.YtmdjclfmhndjnaaCm
namespace Go.Proofs.Ytmdjclfmhndjnaa
open Go.RowKit
set_option linter.unusedVariables false
open Classical in
noncomputable def Ob.dT (o : Ob) : List Int := if o.ok then (List.range o.a.length).map o.tot else []
open Classical in
noncomputable def Ob.dE (o : Ob) : List Int := if o.ok then (List.range o.a.length).map o.eT else []
open Classical in
noncomputable def Ob.dB (o : Ob) : List Int := if o.ok then (List.range o.a.length).map o.bT else []
theorem bT_u8 (o : Ob) : ∀ x ∈ (List.range o.a.length).map o.bT, 0 ≤ x ∧ x < 256 := by
  intro x hx
  obtain ⟨i, -, rfl⟩ := List.mem_map.1 hx
  unfold Ob.bT
  split <;> omega
def DecP (o : Ob) (w : World) (e : Ending) (w' : World) : Prop := ∃ d : Dc, e = .returned (.tuple #[d.val, .int .i64 o.err]) ∧ DcAt w' d ∧ d.t = o.dT ∧ d.e = o.dE ∧ d.b = o.dB ∧ Below w.heap.size w w'
theorem decP_bad {o : Ob} {w w' : World} {e : Ending} (ho : ¬ o.ok) (he : e = .returned (.tuple #[.agg zero28.toArray, .int .i64 o.err])) (hB : Below w.heap.size w w') : DecP o w e w' :=
  ⟨⟨none, 0, 0, [], none, 0, 0, [], none, 0, 0, []⟩, he, ⟨Rd.nilv _ _, Rd.nilv _ _, Rd.nilv _ _, by simp⟩, by unfold Ob.dT; rw [if_neg ho], by unfold Ob.dE; rw [if_neg ho], by unfold Ob.dB; rw [if_neg ho], hB⟩
theorem decode_all (S P A : Option Addr) (cs cp ca : Nat) (o : Ob) (w : World) (h : In3 w o S P A cs cp ca) :
    Calls Try.prog 12 #[.slice S o.s.length cs, .slice P o.p.length cp, .slice A o.a.length ca] w (DecP o w) := by
  by_cases ho : o.ok
  · refine (decode_ok S P A cs cp ca o w h ho).mono ?_
    rintro e w' ⟨A1, A2, A3, rfl, h1, h2, h3, -, -, -, hB⟩
    obtain ⟨e1, e2, e3⟩ := rows_same ho
    rw [e1] at h1; rw [e2] at h2; rw [e3] at h3
    exact ⟨⟨A1, _, _, _, A2, _, _, _, A3, _, _, _⟩, by rw [Ob.err_ok ho]; rfl, ⟨Own.rd h1, Own.rd h2, Own.rd h3, bT_u8 o⟩, by unfold Ob.dT; rw [if_pos ho], by unfold Ob.dE; rw [if_pos ho], by unfold Ob.dB; rw [if_pos ho], hB⟩
  · refine (decode_bad S P A cs cp ca o w h ho).mono ?_
    rintro e w' ⟨he, hB⟩
    exact decP_bad ho he hB
theorem rdecode_all (S P A : Option Addr) (cs cp ca : Nat) (o : Ob) (w : World) (h : In3 w o S P A cs cp ca) :
    Calls Try.prog 13 #[.slice S o.s.length cs, .slice P o.p.length cp, .slice A o.a.length ca] w (DecP o w) := by
  by_cases ho : o.ok
  · refine (rdecode_ok S P A cs cp ca o w h ho).mono ?_
    rintro e w' ⟨A1, A2, A3, c1, c2, c3, rfl, h1, h2, h3, hB⟩
    exact ⟨⟨A1, _, _, _, A2, _, _, _, A3, _, _, _⟩, by rw [Ob.err_ok ho]; rfl, ⟨Own.rd h1, Own.rd h2, Own.rd h3, bT_u8 o⟩, by unfold Ob.dT; rw [if_pos ho], by unfold Ob.dE; rw [if_pos ho], by unfold Ob.dB; rw [if_pos ho], hB⟩
  · refine (rdecode_bad S P A cs cp ca o w h ho).mono ?_
    rintro e w' ⟨he, hB⟩
    exact decP_bad ho he hB
/-! ### the examples -/
def oA : Ob := ⟨[3, 0, 0, 0], [1, 0, 0, 0], [2]⟩
def oB : Ob := ⟨[-8, 0, 0, 0], [-8, 0, 0, 0], [0]⟩
def oC : Ob := ⟨[1, 0, 0], [1, 0, 0], []⟩
theorem oA_ok : oA.ok := by unfold Ob.ok oA; simp
theorem oB_ok : oB.ok := by unfold Ob.ok oB; simp
theorem oC_err : oC.err = 2 := by unfold Ob.err; rw [if_neg (by unfold Ob.lens oC; simp)]
theorem oA_mt0 : oA.mt [false] 4 = 6 := by decide
theorem oA_mt1 : oA.mt [true] 4 = -6 := by decide
theorem oA_dec : oA.dT = [6] ∧ oA.dE = [0] ∧ oA.dB = [0] := by
  unfold Ob.dT Ob.dE Ob.dB
  rw [if_pos oA_ok, if_pos oA_ok, if_pos oA_ok]
  exact ⟨by decide, by decide, by decide⟩
theorem oB_dec : oB.dT = [-16] ∧ oB.dE = [-6] ∧ oB.dB = [1] := by
  unfold Ob.dT Ob.dE Ob.dB
  rw [if_pos oB_ok, if_pos oB_ok, if_pos oB_ok]
  exact ⟨by decide, by decide, by decide⟩
theorem lit_rd {k : IntKind} {e : TypeId} (W : World) (xs : List Int) (hm : xs.length ≤ maxLen) {N : Nat} (hN : N = W.heap.size) : Rd k (W.alloc (.cells (xs.map (Value.int k)).toArray e)) (some ⟨N, 0, none⟩) xs.length xs.length xs := by
  subst hN
  have h := (Ownv.lit W (xs.map (Value.int k)).toArray e rfl (Nat.zero_le _) (by simpa using hm)).rd
  unfold Rd
  simpa using h
end Go.Proofs.Ytmdjclfmhndjnaa
