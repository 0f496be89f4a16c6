/-
  Proves Rows.TransportEmptySaid: called with any arguments the Go function userplanelaw15.TransportEmpty returns true and leaves its arguments as they were. Conditions: none.
-/
import Derived.Test.YtcbbkflnenkpgaaGreatRows
import Derived.Test.YtcbbkflnenkpgaaGreatWu
import Derived.WalkKit
import Derived.ProofKit
import Derived.OpenShut
import Derived.ShutString
import Derived.ChangeOld
import Derived.Below
import Derived.Lib.SmallJoins
namespace Go.Proofs.YtcbbkflnenkpgaaGreat.transportEmpty
open Go.ChangeShapes Go.WideShapes Go.ChangeAt Go.RowKit Go.Joins
set_option linter.unusedVariables false

theorem own : ownKnob Tryz.prog.godebug = none := by kernel_rfl
theorem laidOut : laidOutB Tryz.prog = true := by kernel_rfl
theorem cells24 : Tryz.prog.cellsOf 24 = 4 := by kernel_rfl
theorem cells40 : Tryz.prog.cellsOf 40 = 5 := by kernel_rfl

set_option maxRecDepth 100000 in
set_option maxHeartbeats 1600000 in
theorem walk (s0_0 s0_1 s0_2 s0_3 s0_4 : Int) (s1_0 s1_1 s1_2 s1_3 : Int) (b2 : Int) (w : World) (ws0_0 : (Lit.int .i64 s0_0).wf = true) (ws0_1 : (Lit.int .i64 s0_1).wf = true) (ws0_2 : (Lit.int .i64 s0_2).wf = true) (ws0_3 : (Lit.int .i64 s0_3).wf = true) (ws0_4 : (Lit.int .i64 s0_4).wf = true) (ws1_0 : (Lit.int .i64 s1_0).wf = true) (ws1_1 : (Lit.int .u32 s1_1).wf = true) (ws1_2 : (Lit.int .i64 s1_2).wf = true) (ws1_3 : (Lit.int .u8 s1_3).wf = true) (w2 : (Lit.int .i64 b2).wf = true) :
    Calls Tryz.prog 5 #[.agg #[.int .i64 s0_0, .int .i64 s0_1, .int .i64 s0_2, .int .i64 s0_3, .int .i64 s0_4], .agg #[.int .i64 s1_0, .int .u32 s1_1, .int .i64 s1_2, .int .u8 s1_3], .int .i64 b2] w fun e w' => e = .returned (.bool true) ∧ Below w.heap.size w w' := by
  have hy := bounds_u8 ws1_3
  have hv2 := bounds_i64 w2
  exact empty_law s0_0 s0_1 s0_2 s0_3 s0_4 s1_0 s1_1 s1_2 s1_3 b2 w (by omega) (by omega)

set_option maxRecDepth 100000 in
theorem lifted (os : Os) (started : os.Started) (H : Type) (enc : TypeId × Value → H) :
    ReturnsInHanded {} Tryz.checked os 5 .any (Rows.transportEmptySpec.pre6 enc Tryz.prog Tryz.f5 Rows.transportEmptyRow.domain false) (Rows.transportEmptySpec.post enc Tryz.prog Tryz.f5 false true false false) := by
  refine returnsInHanded_of_change (C := Tryz.checked) own started (by kernel_rfl) Tryz.func5
    (ChangeSpec.witness6 (enc := enc) (C := Tryz.checked) false ⟨#[], #[.agg #[.int .i64 0, .int .i64 0, .int .i64 0, .int .i64 0, .int .i64 0], .agg #[.int .i64 0, .int .u32 0, .int .i64 0, .int .u8 0], .int .i64 0], []⟩ 8 (by kernel_rfl) (by kernel_rfl) (by kernel_rfl) (by kernel_rfl)) ?_
  intro W base args ds gs before hval0 hW hcnd _
  have hval : ∀ (j : Nat) t v, Tryz.f5.params[j]? = some t → args[j]? = some v → Value.okWide Tryz.prog W .any base t v := hval0
  have hW' := hW
  obtain ⟨p, q, hA0, hV, rfl, hfz, hnd⟩ := hW
  have hA : DataW.TrodAll enc Tryz.prog W 0 (fun _ => true) true Tryz.f5.params.toList args.toList ds p := hA0
  rw [Tryz.params5] at hA hval
  obtain ⟨v0, vs0, d0, ds0, p0, q0, hargs, rfl, rfl, h0, r0⟩ := trodAll_cons hA
  obtain ⟨v1, vs1, d1, ds1, p1, q1, rfl, rfl, rfl, h1, r1⟩ := trodAll_cons r0
  obtain ⟨v2, vs2, d2, ds2, p2, q2, rfl, rfl, rfl, h2, r2⟩ := trodAll_cons r1
  obtain ⟨rfl, rfl, rfl⟩ := trodAll_nil r2
  obtain rfl : args = #[v0, v1, v2] := by cases args; simp_all
  obtain ⟨rfl, rfl⟩ := trodVars_none hV
  obtain ⟨c0_0, c0_1, c0_2, c0_3, c0_4, y0_0, y0_1, y0_2, y0_3, y0_4, m0, rfl, rfl, rfl, hy0_0, hy0_1, hy0_2, hy0_3, hy0_4⟩ := open_agg5 Tryz.underlying40 (by kernel_rfl) cells40 (hval 0 40 v0 rfl rfl) h0
  obtain ⟨s0_0, e0_0, rfl, ws0_0⟩ := DataW.trod_int Tryz.underlying3 hy0_0
  obtain ⟨s0_1, e0_1, rfl, ws0_1⟩ := DataW.trod_int Tryz.underlying3 hy0_1
  obtain ⟨s0_2, e0_2, rfl, ws0_2⟩ := DataW.trod_int Tryz.underlying38 hy0_2
  obtain ⟨s0_3, e0_3, rfl, ws0_3⟩ := DataW.trod_int Tryz.underlying3 hy0_3
  obtain ⟨s0_4, e0_4, rfl, ws0_4⟩ := DataW.trod_int Tryz.underlying3 hy0_4
  simp at e0_0 e0_1 e0_2 e0_3 e0_4
  subst e0_0 e0_1 e0_2 e0_3 e0_4
  obtain ⟨c1_0, c1_1, c1_2, c1_3, y1_0, y1_1, y1_2, y1_3, m1, rfl, rfl, rfl, hy1_0, hy1_1, hy1_2, hy1_3⟩ := open_agg4 Tryz.underlying24 (by kernel_rfl) cells24 (hval 1 24 v1 rfl rfl) h1
  obtain ⟨s1_0, e1_0, rfl, ws1_0⟩ := DataW.trod_int Tryz.underlying3 hy1_0
  obtain ⟨s1_1, e1_1, rfl, ws1_1⟩ := DataW.trod_int Tryz.underlying22 hy1_1
  obtain ⟨s1_2, e1_2, rfl, ws1_2⟩ := DataW.trod_int Tryz.underlying3 hy1_2
  obtain ⟨s1_3, e1_3, rfl, ws1_3⟩ := DataW.trod_int Tryz.underlying5 hy1_3
  simp at e1_0 e1_1 e1_2 e1_3
  subst e1_0 e1_1 e1_2 e1_3
  obtain ⟨b2, rfl, rfl, rfl, w2⟩ := open_int Tryz.underlying3 (hval 2 3 v2 rfl rfl) h2
  clear hA0 hval0
  simp only [List.append_nil, List.nil_append] at hW'
  have structReads0 : ∀ (W' : World) (sp : Nat → Bool), DataW.Trod enc Tryz.prog W' 0 sp true 40 (.agg #[.int .i64 s0_0, .int .i64 s0_1, .int .i64 s0_2, .int .i64 s0_3, .int .i64 s0_4]) (.agg [.lit (.int .i64 s0_0), .lit (.int .i64 s0_1), .lit (.int .i64 s0_2), .lit (.int .i64 s0_3), .lit (.int .i64 s0_4)]) [] := fun W' sp =>
    shut_agg5 (y0 := (.lit (.int .i64 s0_0), [])) (y1 := (.lit (.int .i64 s0_1), [])) (y2 := (.lit (.int .i64 s0_2), [])) (y3 := (.lit (.int .i64 s0_3), [])) (y4 := (.lit (.int .i64 s0_4), [])) Tryz.underlying40 (by kernel_rfl) cells40 ⟨1, by simp [DataW.trod, Tryz.underlying3, ws0_0]⟩ ⟨1, by simp [DataW.trod, Tryz.underlying3, ws0_1]⟩ ⟨1, by simp [DataW.trod, Tryz.underlying38, ws0_2]⟩ ⟨1, by simp [DataW.trod, Tryz.underlying3, ws0_3]⟩ ⟨1, by simp [DataW.trod, Tryz.underlying3, ws0_4]⟩
  have structReads1 : ∀ (W' : World) (sp : Nat → Bool), DataW.Trod enc Tryz.prog W' 0 sp true 24 (.agg #[.int .i64 s1_0, .int .u32 s1_1, .int .i64 s1_2, .int .u8 s1_3]) (.agg [.lit (.int .i64 s1_0), .lit (.int .u32 s1_1), .lit (.int .i64 s1_2), .lit (.int .u8 s1_3)]) [] := fun W' sp =>
    shut_agg4 (y0 := (.lit (.int .i64 s1_0), [])) (y1 := (.lit (.int .u32 s1_1), [])) (y2 := (.lit (.int .i64 s1_2), [])) (y3 := (.lit (.int .u8 s1_3), [])) Tryz.underlying24 (by kernel_rfl) cells24 ⟨1, by simp [DataW.trod, Tryz.underlying3, ws1_0]⟩ ⟨1, by simp [DataW.trod, Tryz.underlying22, ws1_1]⟩ ⟨1, by simp [DataW.trod, Tryz.underlying3, ws1_2]⟩ ⟨1, by simp [DataW.trod, Tryz.underlying5, ws1_3]⟩
  refine (walk s0_0 s0_1 s0_2 s0_3 s0_4 s1_0 s1_1 s1_2 s1_3 b2 W ws0_0 ws0_1 ws0_2 ws0_3 ws0_4 ws1_0 ws1_1 ws1_2 ws1_3 w2).mono fun e W' ⟨he, bel⟩ => ?_
  subst he
  exact ⟨_, rfl, _, _, _, [], _, [], hW', trodAll_mk1 (shut_bool Tryz.underlying4 _), (trodAll_cons_mk (structReads0 _ _) (trodAll_cons_mk (structReads1 _ _) (trodAll_cons_mk (shut_int Tryz.underlying3 w2) trodAll_mk0))), rfl, bel.frame _, fun h => by cases h⟩

theorem over : Rows.transportEmptyRow.holds Tryz.pinned (OpenSpec.ofChange Rows.transportEmptySpec) :=
  OpenClaim.holds_of_wide 5 Tryz.f5 rfl rfl rfl rfl rfl rfl rfl ⟨rfl, rfl, rfl, rfl, rfl⟩ rfl rfl rfl rfl rfl (by kernel_rfl) Tryz.func5 (by kernel_rfl)
    (of_decide_eq_true (by kernel_rfl)) (by unfold Func.isWrapper; first | (rw [if_pos (by decide +kernel)]; kernel_rfl) | (rw [if_neg (by decide +kernel)]; exact ⟨rfl, rfl⟩))
    (fun os started H enc _ => lifted os started H enc)

theorem proved : Rows.TransportEmptySaid :=
  over
#print axioms proved
end Go.Proofs.YtcbbkflnenkpgaaGreat.transportEmpty
