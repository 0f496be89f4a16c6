/-
  Proves Rows.TransportSplitsSaid: called with any arguments the Go function userplanelaw15.TransportSplits returns true and leaves its arguments as they were. Conditions: none.
-/
import Derived.Test.YtcbbkflnenkpgaaRows
import Derived.Test.YtcbbkflnenkpgaaUz
import Derived.WalkKit
import Derived.ProofKit
import Derived.OpenShut
import Derived.ShutString
import Derived.ChangeOld
import Derived.Below
import Derived.Lib.SmallJoins
namespace Go.Proofs.Ytcbbkflnenkpgaa.transportSplits
open Go.ChangeShapes Go.WideShapes Go.ChangeAt Go.RowKit Go.Joins
set_option linter.unusedVariables false

theorem own : ownKnob Try.prog.godebug = none := by kernel_rfl
theorem laidOut : laidOutB Try.prog = true := by kernel_rfl
theorem cells33 : Try.prog.cellsOf 33 = 5 := by kernel_rfl

def IsRow (k : IntKind) (w : World) (a : Option Addr) (len cap : Nat) (zs : List Int) : Prop :=
  (a = none ∧ len = 0 ∧ cap = 0 ∧ zs = []) ∨
  ∃ x, a = some x ∧ len ≤ cap ∧ cap ≤ maxLen ∧ zs.length = cap ∧ (∀ i, i < zs.length → w.cell? (x.add i) = some (.int k (zs.getD i 0))) ∧ ∀ n ∈ zs, (Lit.int k n).wf = true

set_option maxRecDepth 100000 in
set_option maxHeartbeats 1600000 in
theorem walk (s0_0 s0_1 s0_2 s0_3 s0_4 : Int) (a1 : Option Addr) (n1 c1 : Nat) (z1 : List Int) (w : World) (ws0_0 : (Lit.int .i64 s0_0).wf = true) (ws0_1 : (Lit.int .i64 s0_1).wf = true) (ws0_2 : (Lit.int .i64 s0_2).wf = true) (ws0_3 : (Lit.int .i64 s0_3).wf = true) (ws0_4 : (Lit.int .i64 s0_4).wf = true) (w1 : IsRow .i64 w a1 n1 c1 z1) :
    Calls Try.prog 5 #[.agg #[.int .i64 s0_0, .int .i64 s0_1, .int .i64 s0_2, .int .i64 s0_3, .int .i64 s0_4], .slice a1 n1 c1] w fun e w' => e = .returned (.bool true) ∧ Below w.heap.size w w' := by
  obtain ⟨hx, hwf⟩ := rd_of_row w1
  exact splits_law s0_0 s0_1 s0_2 s0_3 s0_4 a1 n1 c1 _ w hx

set_option maxRecDepth 100000 in
theorem lifted (os : Os) (started : os.Started) (H : Type) (enc : TypeId × Value → H) :
    ReturnsInHanded {} Try.checked os 5 .any (Rows.transportSplitsSpec.pre6 enc Try.prog Try.f5 Rows.transportSplitsRow.domain false) (Rows.transportSplitsSpec.post enc Try.prog Try.f5 false true false false) := by
  refine returnsInHanded_of_change (C := Try.checked) own started (by kernel_rfl) Try.func5
    (ChangeSpec.witness6 (enc := enc) (C := Try.checked) false ⟨#[], #[.agg #[.int .i64 0, .int .i64 0, .int .i64 0, .int .i64 0, .int .i64 0], .slice none 0 0], []⟩ 8 (by kernel_rfl) (by kernel_rfl) (by kernel_rfl) (by kernel_rfl)) ?_
  intro W base args ds gs before hval0 hW hcnd _
  have hval : ∀ (j : Nat) t v, Try.f5.params[j]? = some t → args[j]? = some v → Value.okWide Try.prog W .any base t v := hval0
  have hW' := hW
  obtain ⟨p, q, hA0, hV, rfl, hfz, hnd⟩ := hW
  have hA : DataW.TrodAll enc Try.prog W 0 (fun _ => true) true Try.f5.params.toList args.toList ds p := hA0
  rw [Try.params5] at hA hval
  obtain ⟨v0, vs0, d0, ds0, p0, q0, hargs, rfl, rfl, h0, r0⟩ := trodAll_cons hA
  obtain ⟨v1, vs1, d1, ds1, p1, q1, rfl, rfl, rfl, h1, r1⟩ := trodAll_cons r0
  obtain ⟨rfl, rfl, rfl⟩ := trodAll_nil r1
  obtain rfl : args = #[v0, v1] := by cases args; simp_all
  obtain ⟨rfl, rfl⟩ := trodVars_none hV
  obtain ⟨c0_0, c0_1, c0_2, c0_3, c0_4, y0_0, y0_1, y0_2, y0_3, y0_4, m0, rfl, rfl, rfl, hy0_0, hy0_1, hy0_2, hy0_3, hy0_4⟩ := open_agg5 Try.underlying33 (by kernel_rfl) cells33 (hval 0 33 v0 rfl rfl) h0
  obtain ⟨s0_0, e0_0, rfl, ws0_0⟩ := DataW.trod_int Try.underlying3 hy0_0
  obtain ⟨s0_1, e0_1, rfl, ws0_1⟩ := DataW.trod_int Try.underlying3 hy0_1
  obtain ⟨s0_2, e0_2, rfl, ws0_2⟩ := DataW.trod_int Try.underlying31 hy0_2
  obtain ⟨s0_3, e0_3, rfl, ws0_3⟩ := DataW.trod_int Try.underlying3 hy0_3
  obtain ⟨s0_4, e0_4, rfl, ws0_4⟩ := DataW.trod_int Try.underlying3 hy0_4
  simp at e0_0 e0_1 e0_2 e0_3 e0_4
  subst e0_0 e0_1 e0_2 e0_3 e0_4
  obtain ⟨a1, len1, cap1, rfl⟩ := okWide_slice Try.underlying34 (hval 1 34 v1 rfl rfl)
  have k1 := h1
  have lt1 : ∀ x ∈ p1, x.block < W.heap.size := by obtain ⟨m, hm⟩ := k1; exact DataW.trod_lt m _ _ _ hm
  obtain ⟨z1, w1⟩ : ∃ zs, IsRow .i64 W a1 len1 cap1 zs := by
    obtain ⟨fuel, hf⟩ := h1
    rcases open_ints Try.underlying34 Try.underlying3 (by kernel_rfl) hf with ⟨hcs, _⟩ | ⟨x, l, c, zs, hcs, _, hl, hm, hz, _, hcell, hwz⟩
    · simp [Value.cells] at hcs
      obtain ⟨rfl, rfl, rfl⟩ := hcs
      exact ⟨[], .inl ⟨rfl, rfl, rfl, rfl⟩⟩
    · simp [Value.cells] at hcs
      obtain ⟨rfl, rfl, rfl⟩ := hcs
      exact ⟨zs, .inr ⟨_, rfl, hl, hm, by simpa using hz, hcell, hwz⟩⟩
  clear hA0 hval0
  simp only [List.append_nil, List.nil_append] at hW'
  have structReads0 : ∀ (W' : World) (sp : Nat → Bool), DataW.Trod enc Try.prog W' 0 sp true 33 (.agg #[.int .i64 s0_0, .int .i64 s0_1, .int .i64 s0_2, .int .i64 s0_3, .int .i64 s0_4]) (.agg [.lit (.int .i64 s0_0), .lit (.int .i64 s0_1), .lit (.int .i64 s0_2), .lit (.int .i64 s0_3), .lit (.int .i64 s0_4)]) [] := fun W' sp =>
    shut_agg5 (y0 := (.lit (.int .i64 s0_0), [])) (y1 := (.lit (.int .i64 s0_1), [])) (y2 := (.lit (.int .i64 s0_2), [])) (y3 := (.lit (.int .i64 s0_3), [])) (y4 := (.lit (.int .i64 s0_4), [])) Try.underlying33 (by kernel_rfl) cells33 ⟨1, by simp [DataW.trod, Try.underlying3, ws0_0]⟩ ⟨1, by simp [DataW.trod, Try.underlying3, ws0_1]⟩ ⟨1, by simp [DataW.trod, Try.underlying31, ws0_2]⟩ ⟨1, by simp [DataW.trod, Try.underlying3, ws0_3]⟩ ⟨1, by simp [DataW.trod, Try.underlying3, ws0_4]⟩
  refine (walk s0_0 s0_1 s0_2 s0_3 s0_4 a1 len1 cap1 z1 W ws0_0 ws0_1 ws0_2 ws0_3 ws0_4 w1).mono fun e W' ⟨he, bel⟩ => ?_
  subst he
  exact ⟨_, rfl, _, _, _, [], _, [], hW', trodAll_mk1 (shut_bool Try.underlying4 _), (trodAll_cons_mk (structReads0 _ _) (trodAll_cons_mk (Below.trod laidOut (by kernel_rfl) (of_decide_eq_true (by kernel_rfl)) k1 bel lt1) trodAll_mk0)), rfl, bel.frame _, fun h => by cases h⟩

theorem over : Rows.transportSplitsRow.holds Try.pinned (OpenSpec.ofChange Rows.transportSplitsSpec) :=
  OpenClaim.holds_of_wide 5 Try.f5 rfl rfl rfl rfl rfl rfl rfl ⟨rfl, rfl, rfl, rfl, rfl⟩ rfl rfl rfl rfl rfl (by kernel_rfl) Try.func5 (by kernel_rfl)
    (of_decide_eq_true (by kernel_rfl)) (by unfold Func.isWrapper; first | (rw [if_pos (by decide +kernel)]; kernel_rfl) | (rw [if_neg (by decide +kernel)]; exact ⟨rfl, rfl⟩))
    (fun os started H enc _ => lifted os started H enc)

theorem proved : Rows.TransportSplitsSaid :=
  over
#print axioms proved
end Go.Proofs.Ytcbbkflnenkpgaa.transportSplits
