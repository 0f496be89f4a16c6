/-
  Proves Rows.SegmentSizesSaid: called with any arguments the Go function userplanelaw05.SegmentSizes returns true and leaves its arguments as they were. Conditions: none.
-/
import Derived.Test.YtcbbkflnenkpgaaRows
import Derived.Test.YtcbbkflnenkpgaaSw
import Derived.WalkKit
import Derived.ProofKit
import Derived.OpenShut
import Derived.ShutString
namespace Go.Proofs.Ytcbbkflnenkpgaa.segmentSizes
open Go.ChangeShapes Go.WideShapes Go.ChangeAt Go.RowKit
open Go.ChangeMaps (open_string shut_string)
set_option linter.unusedVariables false      -- a walk need not use every 'w<i>' (that an integer argument fits its kind)

theorem own : ownKnob Try.prog.godebug = none := by kernel_rfl

set_option maxRecDepth 100000 in
set_option maxHeartbeats 1600000 in
theorem walk (a0 : Int) (w0 : (Lit.int .i64 a0).wf = true) (w : World) :
    Calls Try.prog 6 #[.int .i64 a0] w fun e w' => e = .returned (.bool true) ∧ Below w.heap.size w w' := by
  have hv0 := bounds_i64 w0
  clear w0
  by_cases h : 0 ≤ a0 ∧ a0 ≤ 6144
  · obtain ⟨n, rfl⟩ : ∃ n : Nat, a0 = n := ⟨a0.toNat, by omega⟩
    have hn : n ≤ 6144 := by omega
    clear h hv0
    have H1 := Lib.hid (fun W => next_ok n W hn)
    have H2 := Lib.hid (fun W => rnext_ok n W hn)
    clear hn
    generalize nx n = N at *
    have H3 := Lib.hid (fun W => valid_seg (n : Int) W)
    have H4 := Lib.hid (fun W => rvalid_any (n : Int) W)
    generalize decide (VK (n : Int)) = v at *
    go_enter Try.func6, Try.ntmps6
    go_wp2_with fail
    refine (H1.out _).mono ?_
    rintro e w1 ⟨rfl, hB1⟩
    go_wp2_with fail
    refine (H2.out _).mono ?_
    rintro e w' ⟨rfl, rfl⟩
    go_wp2_with fail
    refine (sizes_any _).mono ?_
    rintro e w2 ⟨A, c, rfl, hO2, hB2⟩
    go_wp2_with fail
    refine (rsizes_any _).mono ?_
    rintro e w3 ⟨B, d, rfl, hO3, hB3⟩
    go_wp2_with fail
    refine (same5_any A B 188 c 188 d _ _ _ (Rdv.below (Own.rd hO2) hB3) (Own.rd hO3)).mono ?_
    rintro e w4 ⟨rfl, q, rfl⟩
    rw [decide_eq_true rfl]
    have HB := Lib.hid (((hB1.trans (hB2.mono hB1.size)).trans (hB3.mono (hB1.trans (hB2.mono hB1.size)).size)).trans ((Qt.below ⟨q, rfl⟩ _).mono ((hB1.trans (hB2.mono hB1.size)).trans (hB3.mono (hB1.trans (hB2.mono hB1.size)).size)).size))
    clear hO2 hO3 hB1 hB2 hB3
    go_wp2_with fail
    refine (H3.out _).mono ?_
    rintro e w5 ⟨rfl, hB5⟩
    have HB := Lib.hid (HB.out.trans (hB5.mono HB.out.size))
    clear hB5
    go_wp2_with fail
    refine (H4.out _).mono ?_
    rintro e w' ⟨rfl, rfl⟩
    have hvv : (v == v) = true := by cases v <;> rfl
    go_wp2_with fail
    refine (num_any _ _).mono ?_
    rintro e w' ⟨rfl, rfl⟩
    go_wp2_with fail
    refine (works_any _).mono ?_
    rintro e w6 ⟨rfl, hB6⟩
    have HB := Lib.hid (HB.out.trans (hB6.mono HB.out.size))
    clear hB6
    go_wp2
    go_ret
    exact ⟨rfl, HB.out⟩
  · have hb : a0 < 0 ∨ 6144 < a0 := by omega
    clear h hv0
    have H1 := Lib.hid (fun W => next_bad a0 W hb)
    have H2 := Lib.hid (fun W => rnext_bad a0 W hb)
    clear hb
    have H3 := Lib.hid (fun W => valid_seg a0 W)
    have H4 := Lib.hid (fun W => rvalid_any a0 W)
    generalize decide (VK a0) = v at *
    go_enter Try.func6, Try.ntmps6
    go_wp2_with fail
    refine (H1.out _).mono ?_
    rintro e w' ⟨rfl, rfl⟩
    go_wp2_with fail
    refine (H2.out _).mono ?_
    rintro e w' ⟨rfl, rfl⟩
    go_wp2_with fail
    refine (sizes_any _).mono ?_
    rintro e w2 ⟨A, c, rfl, hO2, hB2⟩
    go_wp2_with fail
    refine (rsizes_any _).mono ?_
    rintro e w3 ⟨B, d, rfl, hO3, hB3⟩
    go_wp2_with fail
    refine (same5_any A B 188 c 188 d _ _ _ (Rdv.below (Own.rd hO2) hB3) (Own.rd hO3)).mono ?_
    rintro e w4 ⟨rfl, q, rfl⟩
    rw [decide_eq_true rfl]
    have HB := Lib.hid ((hB2.trans (hB3.mono hB2.size)).trans ((Qt.below ⟨q, rfl⟩ _).mono (hB2.trans (hB3.mono hB2.size)).size))
    clear hO2 hO3 hB2 hB3
    go_wp2_with fail
    refine (H3.out _).mono ?_
    rintro e w5 ⟨rfl, hB5⟩
    have HB := Lib.hid (HB.out.trans (hB5.mono HB.out.size))
    clear hB5
    go_wp2_with fail
    refine (H4.out _).mono ?_
    rintro e w' ⟨rfl, rfl⟩
    have hvv : (v == v) = true := by cases v <;> rfl
    go_wp2_with fail
    refine (num_any _ _).mono ?_
    rintro e w' ⟨rfl, rfl⟩
    go_wp2_with fail
    refine (works_any _).mono ?_
    rintro e w6 ⟨rfl, hB6⟩
    have HB := Lib.hid (HB.out.trans (hB6.mono HB.out.size))
    clear hB6
    go_wp2
    go_ret
    exact ⟨rfl, HB.out⟩

set_option maxRecDepth 100000 in
theorem lifted (os : Os) (started : os.Started) (H : Type) (enc : TypeId × Value → H) :
    ReturnsInHanded {} Try.checked os 6 .any (Rows.segmentSizesSpec.pre6 enc Try.prog Try.f6 Rows.segmentSizesRow.domain false) (Rows.segmentSizesSpec.post enc Try.prog Try.f6 false true false false) := by
  refine returnsInHanded_of_change (C := Try.checked) own started (by kernel_rfl) Try.func6
    (ChangeSpec.witness6 (enc := enc) (C := Try.checked) false ⟨#[], #[.int .i64 0], []⟩ 8 (by kernel_rfl) (by kernel_rfl) (by kernel_rfl) (by kernel_rfl)) ?_
  intro W base args ds gs before hval0 hW hcnd _
  have hval : ∀ (j : Nat) t v, Try.f6.params[j]? = some t → args[j]? = some v → Value.okWide Try.prog W .any base t v := hval0
  have hW' := hW
  obtain ⟨p, q, hA0, hV, rfl, hfz, hnd⟩ := hW
  have hA : DataW.TrodAll enc Try.prog W 0 (fun _ => true) true Try.f6.params.toList args.toList ds p := hA0
  rw [Try.params6] at hA hval
  obtain ⟨v0, vs0, d0, ds0, p0, q0, hargs, rfl, rfl, h0, r0⟩ := trodAll_cons hA
  obtain ⟨rfl, rfl, rfl⟩ := trodAll_nil r0
  obtain rfl : args = #[v0] := by cases args; simp_all
  obtain ⟨rfl, rfl⟩ := trodVars_none hV
  obtain ⟨a0, rfl, rfl, rfl, w0⟩ := open_int Try.underlying3 (hval 0 3 v0 rfl rfl) h0
  clear hA0 hval0
  simp only [List.append_nil] at hW'
  refine (walk a0 w0 W).mono fun e W' ⟨he, bel⟩ => ?_
  subst he
  exact ⟨_, rfl, _, _, _, [], _, [], hW', trodAll_mk1 (shut_bool Try.underlying4 _), (trodAll_cons_mk (shut_int Try.underlying3 w0) trodAll_mk0), rfl, bel.frame _, fun h => by cases h⟩

theorem over : Rows.segmentSizesRow.holds Try.pinned (OpenSpec.ofChange Rows.segmentSizesSpec) :=
  OpenClaim.holds_of_wide 6 Try.f6 rfl rfl rfl rfl rfl rfl rfl ⟨rfl, rfl, rfl, rfl, rfl⟩ rfl rfl rfl rfl rfl (by kernel_rfl) Try.func6 (by kernel_rfl)
    (of_decide_eq_true (by kernel_rfl)) (by unfold Func.isWrapper; first | (rw [if_pos (by decide +kernel)]; kernel_rfl) | (rw [if_neg (by decide +kernel)]; exact ⟨rfl, rfl⟩))
    (fun os started H enc _ => lifted os started H enc)

theorem proved : Rows.SegmentSizesSaid :=
  over
#print axioms proved
end Go.Proofs.Ytcbbkflnenkpgaa.segmentSizes
