/-
  Proves Rows.TransportJoinsSaid: called with any arguments the Go function userplanelaw15.TransportJoins returns true and leaves its arguments as they were. Conditions: none.
-/
import Derived.Test.YtcbbkflnenkpgaaRows
import Derived.Test.YtcbbkflnenkpgaaVm
import Derived.WalkKit
import Derived.ProofKit
import Derived.OpenShut
import Derived.ShutString
import Derived.ChangeOld
import Derived.Below
import Derived.Lib.SmallJoins
namespace Go.Proofs.Ytcbbkflnenkpgaa.transportJoins
open Go.ChangeShapes Go.WideShapes Go.ChangeAt Go.RowKit Go.Joins
set_option linter.unusedVariables false

theorem own : ownKnob Try.prog.godebug = none := by kernel_rfl
theorem laidOut : laidOutB Try.prog = true := by kernel_rfl
theorem cells76 : Try.prog.cellsOf 76 = 4 := by kernel_rfl

def IsRow (k : IntKind) (w : World) (a : Option Addr) (len cap : Nat) (zs : List Int) : Prop :=
  (a = none ∧ len = 0 ∧ cap = 0 ∧ zs = []) ∨
  ∃ x, a = some x ∧ len ≤ cap ∧ cap ≤ maxLen ∧ zs.length = cap ∧ (∀ i, i < zs.length → w.cell? (x.add i) = some (.int k (zs.getD i 0))) ∧ ∀ n ∈ zs, (Lit.int k n).wf = true

set_option maxRecDepth 100000 in
set_option maxHeartbeats 1600000 in
theorem walk (s0_0 s0_1 s0_2 s0_3 : Int) (b1 : Int) (b2 : Int) (a3 : Option Addr) (n3 c3 : Nat) (z3 : List Int) (b4 : Bool) (w : World) (ws0_0 : (Lit.int .i64 s0_0).wf = true) (ws0_1 : (Lit.int .u32 s0_1).wf = true) (ws0_2 : (Lit.int .i64 s0_2).wf = true) (ws0_3 : (Lit.int .u8 s0_3).wf = true) (w1 : (Lit.int .i64 b1).wf = true) (w2 : (Lit.int .i64 b2).wf = true) (w3 : IsRow .u8 w a3 n3 c3 z3) :
    Calls Try.prog 13 #[.agg #[.int .i64 s0_0, .int .u32 s0_1, .int .i64 s0_2, .int .u8 s0_3], .int .i64 b1, .int .i64 b2, .slice a3 n3 c3, .bool b4] w fun e w' => e = .returned (.bool true) ∧ Below w.heap.size w w' := by
  obtain ⟨hx, hwf⟩ := rd_of_row w3
  have hv2 := bounds_i64 w2
  have hy := bounds_u8 ws0_3
  exact joins_law s0_0 s0_1 s0_2 s0_3 b1 b2 a3 n3 c3 _ b4 w (by omega) (by omega) hx (fun x hx => by have := bounds_u8 (hwf x hx); omega)

set_option maxRecDepth 100000 in
theorem lifted (os : Os) (started : os.Started) (H : Type) (enc : TypeId × Value → H) :
    ReturnsInHanded {} Try.checked os 13 .any (Rows.transportJoinsSpec.pre6 enc Try.prog Try.f13 Rows.transportJoinsRow.domain false) (Rows.transportJoinsSpec.post enc Try.prog Try.f13 false true false false) := by
  refine returnsInHanded_of_change (C := Try.checked) own started (by kernel_rfl) Try.func13
    (ChangeSpec.witness6 (enc := enc) (C := Try.checked) false ⟨#[], #[.agg #[.int .i64 0, .int .u32 0, .int .i64 0, .int .u8 0], .int .i64 0, .int .i64 0, .slice none 0 0, .bool false], []⟩ 8 (by kernel_rfl) (by kernel_rfl) (by kernel_rfl) (by kernel_rfl)) ?_
  intro W base args ds gs before hval0 hW hcnd _
  have hval : ∀ (j : Nat) t v, Try.f13.params[j]? = some t → args[j]? = some v → Value.okWide Try.prog W .any base t v := hval0
  have hW' := hW
  obtain ⟨p, q, hA0, hV, rfl, hfz, hnd⟩ := hW
  have hA : DataW.TrodAll enc Try.prog W 0 (fun _ => true) true Try.f13.params.toList args.toList ds p := hA0
  rw [Try.params13] at hA hval
  obtain ⟨v0, vs0, d0, ds0, p0, q0, hargs, rfl, rfl, h0, r0⟩ := trodAll_cons hA
  obtain ⟨v1, vs1, d1, ds1, p1, q1, rfl, rfl, rfl, h1, r1⟩ := trodAll_cons r0
  obtain ⟨v2, vs2, d2, ds2, p2, q2, rfl, rfl, rfl, h2, r2⟩ := trodAll_cons r1
  obtain ⟨v3, vs3, d3, ds3, p3, q3, rfl, rfl, rfl, h3, r3⟩ := trodAll_cons r2
  obtain ⟨v4, vs4, d4, ds4, p4, q4, rfl, rfl, rfl, h4, r4⟩ := trodAll_cons r3
  obtain ⟨rfl, rfl, rfl⟩ := trodAll_nil r4
  obtain rfl : args = #[v0, v1, v2, v3, v4] := by cases args; simp_all
  obtain ⟨rfl, rfl⟩ := trodVars_none hV
  obtain ⟨c0_0, c0_1, c0_2, c0_3, y0_0, y0_1, y0_2, y0_3, m0, rfl, rfl, rfl, hy0_0, hy0_1, hy0_2, hy0_3⟩ := open_agg4 Try.underlying76 (by kernel_rfl) cells76 (hval 0 76 v0 rfl rfl) h0
  obtain ⟨s0_0, e0_0, rfl, ws0_0⟩ := DataW.trod_int Try.underlying3 hy0_0
  obtain ⟨s0_1, e0_1, rfl, ws0_1⟩ := DataW.trod_int Try.underlying74 hy0_1
  obtain ⟨s0_2, e0_2, rfl, ws0_2⟩ := DataW.trod_int Try.underlying3 hy0_2
  obtain ⟨s0_3, e0_3, rfl, ws0_3⟩ := DataW.trod_int Try.underlying5 hy0_3
  simp at e0_0 e0_1 e0_2 e0_3
  subst e0_0 e0_1 e0_2 e0_3
  obtain ⟨b1, rfl, rfl, rfl, w1⟩ := open_int Try.underlying3 (hval 1 3 v1 rfl rfl) h1
  obtain ⟨b2, rfl, rfl, rfl, w2⟩ := open_int Try.underlying3 (hval 2 3 v2 rfl rfl) h2
  obtain ⟨a3, len3, cap3, rfl⟩ := okWide_slice Try.underlying53 (hval 3 53 v3 rfl rfl)
  have k3 := h3
  have lt3 : ∀ x ∈ p3, x.block < W.heap.size := by obtain ⟨m, hm⟩ := k3; exact DataW.trod_lt m _ _ _ hm
  obtain ⟨z3, w3⟩ : ∃ zs, IsRow .u8 W a3 len3 cap3 zs := by
    obtain ⟨fuel, hf⟩ := h3
    rcases open_ints Try.underlying53 Try.underlying5 (by kernel_rfl) hf with ⟨hcs, _⟩ | ⟨x, l, c, zs, hcs, _, hl, hm, hz, _, hcell, hwz⟩
    · simp [Value.cells] at hcs
      obtain ⟨rfl, rfl, rfl⟩ := hcs
      exact ⟨[], .inl ⟨rfl, rfl, rfl, rfl⟩⟩
    · simp [Value.cells] at hcs
      obtain ⟨rfl, rfl, rfl⟩ := hcs
      exact ⟨zs, .inr ⟨_, rfl, hl, hm, by simpa using hz, hcell, hwz⟩⟩
  obtain ⟨b4, rfl, rfl, rfl⟩ := open_bool Try.underlying4 (hval 4 4 v4 rfl rfl) h4
  clear hA0 hval0
  simp only [List.append_nil, List.nil_append] at hW'
  have structReads0 : ∀ (W' : World) (sp : Nat → Bool), DataW.Trod enc Try.prog W' 0 sp true 76 (.agg #[.int .i64 s0_0, .int .u32 s0_1, .int .i64 s0_2, .int .u8 s0_3]) (.agg [.lit (.int .i64 s0_0), .lit (.int .u32 s0_1), .lit (.int .i64 s0_2), .lit (.int .u8 s0_3)]) [] := fun W' sp =>
    shut_agg4 (y0 := (.lit (.int .i64 s0_0), [])) (y1 := (.lit (.int .u32 s0_1), [])) (y2 := (.lit (.int .i64 s0_2), [])) (y3 := (.lit (.int .u8 s0_3), [])) Try.underlying76 (by kernel_rfl) cells76 ⟨1, by simp [DataW.trod, Try.underlying3, ws0_0]⟩ ⟨1, by simp [DataW.trod, Try.underlying74, ws0_1]⟩ ⟨1, by simp [DataW.trod, Try.underlying3, ws0_2]⟩ ⟨1, by simp [DataW.trod, Try.underlying5, ws0_3]⟩
  refine (walk s0_0 s0_1 s0_2 s0_3 b1 b2 a3 len3 cap3 z3 b4 W ws0_0 ws0_1 ws0_2 ws0_3 w1 w2 w3).mono fun e W' ⟨he, bel⟩ => ?_
  subst he
  exact ⟨_, rfl, _, _, _, [], _, [], hW', trodAll_mk1 (shut_bool Try.underlying4 _), (trodAll_cons_mk (structReads0 _ _) (trodAll_cons_mk (shut_int Try.underlying3 w1) (trodAll_cons_mk (shut_int Try.underlying3 w2) (trodAll_cons_mk (Below.trod laidOut (by kernel_rfl) (of_decide_eq_true (by kernel_rfl)) k3 bel lt3) (trodAll_cons_mk (shut_bool Try.underlying4 _) trodAll_mk0))))), rfl, bel.frame _, fun h => by cases h⟩

theorem over : Rows.transportJoinsRow.holds Try.pinned (OpenSpec.ofChange Rows.transportJoinsSpec) :=
  OpenClaim.holds_of_wide 13 Try.f13 rfl rfl rfl rfl rfl rfl rfl ⟨rfl, rfl, rfl, rfl, rfl⟩ rfl rfl rfl rfl rfl (by kernel_rfl) Try.func13 (by kernel_rfl)
    (of_decide_eq_true (by kernel_rfl)) (by unfold Func.isWrapper; first | (rw [if_pos (by decide +kernel)]; kernel_rfl) | (rw [if_neg (by decide +kernel)]; exact ⟨rfl, rfl⟩))
    (fun os started H enc _ => lifted os started H enc)

theorem proved : Rows.TransportJoinsSaid :=
  over
#print axioms proved
end Go.Proofs.Ytcbbkflnenkpgaa.transportJoins
