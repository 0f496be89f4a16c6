/-
  Proves Rows.SegmentBoundsSaid: called with any arguments the Go function userplanelaw05.SegmentBounds returns true and leaves its arguments as they were. Conditions: none.
-/
import Derived.Test.YtcbbkflnenkpgaaRows
import Derived.Test.YtcbbkflnenkpgaaSw
import Derived.WalkKit
import Derived.ProofKit
import Derived.OpenShut
import Derived.ShutString
namespace Go.Proofs.Ytcbbkflnenkpgaa.segmentBounds
open Go.ChangeShapes Go.WideShapes Go.ChangeAt Go.RowKit
open Go.ChangeMaps (open_string shut_string)
set_option linter.unusedVariables false      -- a walk need not use every 'w<i>' (that an integer argument fits its kind)

theorem own : ownKnob Try.prog.godebug = none := by kernel_rfl

set_option maxRecDepth 100000 in
set_option maxHeartbeats 1600000 in
theorem walk (a0 : Int) (a1 : Bool) (w0 : (Lit.int .i64 a0).wf = true) (w : World) :
    Calls Try.prog 10 #[.int .i64 a0, .bool a1] w fun e w' => e = .returned (.bool true) ∧ Below w.heap.size w w' := by
  have hv0 := bounds_i64 w0
  clear w0
  by_cases h : a0 = 0 ∨ a0 = 1
  · clear hv0
    rcases h with rfl | rfl <;> cases a1
    · have H1 : ∀ W, Calls Try.prog 31 #[.int .i64 1] W fun en w' => en = .returned (.tuple #[.agg #[.int .i64 1, .int .i64 1, .int .i64 40, .int .i64 0, .int .i64 1, .int .i64 0, .int .i64 39], .int .i64 0]) ∧ Below W.heap.size W w' := fun W => by
        have h9 := plan_top 1 W (by decide) (by decide)
        rw [show LY 1 = [1, 1, 40, 0, 1, 0, 39] by decide] at h9
        exact h9
      go_enter Try.func10, Try.ntmps10
      go_wp2_with fail
      refine (H1 _).mono ?_
      rintro en w1 ⟨rfl, hB1⟩
      have hK1 := Blk.new w1 (ints8 [1, 1, 40, 0, 1, 0, 39]) 23 rfl
      have hB1' := bal hB1 (.cells (ints8 [1, 1, 40, 0, 1, 0, 39]).toArray 23)
      simp only [ints8, List.map_cons, List.map_nil] at hK1 hB1'
      go_wp2_with (at_make; refine list_of rfl fun K hK => wp_mk (n := 1) _ _ 53 rfl el53 rfl rfl (by decide) (by decide) ?_; intro A w2 hO hB2 hA; have HO := Lib.hid hO; have HB2 := Lib.hid (hB1'.trans (hB2.mono hB1'.size)); have HK2 := Lib.hid (hK1.below hB2); clear hO hB2 hK1 hB1'; refine hK _ _ ?_; clear hK K)
      refine (split_ok A 1 1 (List.replicate 1 0) _ (Own.rd (Own.of_eq (k := .u8) (xs := List.replicate 1 0) HO.out rfl (by rw [List.map_replicate]))) (by decide) (by decide) (bit_valid (bit_zeros _))).mono ?_
      rintro en w3 ⟨A', c', L, rfl, -, -, hB3⟩
      have HB3 := Lib.hid (HB2.out.trans (hB3.mono HB2.out.size))
      have hK3 := HK2.out.below hB3
      obtain ⟨⟨c0, c1, c2, c3, c4, c5, c6⟩, -⟩ := Blk.seven hK3
      clear hB3 hK3
      go_wp2_with (first
        | (go_at_call 29; refine (num_any _ _).mono ?_; rintro en w' ⟨rfl, rfl⟩)
        | (go_at_call 30; refine (works_any _).mono ?_; rintro en w4 ⟨rfl, hB4⟩; have HB4 := Lib.hid (HB3.out.trans (hB4.mono HB3.out.size)); clear hB4))
      go_ret
      exact ⟨rfl, HB4.out⟩
    · have H1 : ∀ W, Calls Try.prog 31 #[.int .i64 0] W fun en w' => en = .returned (.tuple #[.agg #[.int .i64 0, .int .i64 0, .int .i64 0, .int .i64 0, .int .i64 0, .int .i64 0, .int .i64 0], .int .i64 2]) ∧ Below W.heap.size W w' := fun W => plan_top_bad 0 W (by decide)
      go_enter Try.func10, Try.ntmps10
      go_wp2_with fail
      refine (H1 _).mono ?_
      rintro en w1 ⟨rfl, hB1⟩
      have hK1 := Blk.new w1 (ints8 [0, 0, 0, 0, 0, 0, 0]) 23 rfl
      have hB1' := bal hB1 (.cells (ints8 [0, 0, 0, 0, 0, 0, 0]).toArray 23)
      simp only [ints8, List.map_cons, List.map_nil] at hK1 hB1'
      go_wp2_with (at_make; refine list_of rfl fun K hK => wp_mk (n := 0) _ _ 53 rfl el53 rfl rfl (by decide) (by decide) ?_; intro A w2 hO hB2 hA; have HO := Lib.hid hO; have HB2 := Lib.hid (hB1'.trans (hB2.mono hB1'.size)); have HK2 := Lib.hid (hK1.below hB2); clear hO hB2 hK1 hB1'; refine hK _ _ ?_; clear hK K)
      refine (split_bad A 0 0 _ (by decide)).mono ?_
      rintro en w3 ⟨rfl, hB3⟩
      have HB3 := Lib.hid (HB2.out.trans (hB3.mono HB2.out.size))
      have hK3 := HK2.out.below hB3
      obtain ⟨⟨c0, c1, c2, c3, c4, c5, c6⟩, -⟩ := Blk.seven hK3
      clear hB3 hK3
      go_wp2_with (first
        | (go_at_call 29; refine (num_any _ _).mono ?_; rintro en w' ⟨rfl, rfl⟩)
        | (go_at_call 30; refine (works_any _).mono ?_; rintro en w4 ⟨rfl, hB4⟩; have HB4 := Lib.hid (HB3.out.trans (hB4.mono HB3.out.size)); clear hB4))
      go_ret
      exact ⟨rfl, HB4.out⟩
    · have H1 : ∀ W, Calls Try.prog 31 #[.int .i64 79560] W fun en w' => en = .returned (.tuple #[.agg #[.int .i64 79560, .int .i64 13, .int .i64 6144, .int .i64 6080, .int .i64 13, .int .i64 0, .int .i64 0], .int .i64 0]) ∧ Below W.heap.size W w' := fun W => by
        have h9 := plan_top 79560 W (by decide) (by decide)
        rw [show LY 79560 = [79560, 13, 6144, 6080, 13, 0, 0] by decide] at h9
        exact h9
      go_enter Try.func10, Try.ntmps10
      go_wp2_with fail
      refine (H1 _).mono ?_
      rintro en w1 ⟨rfl, hB1⟩
      have hK1 := Blk.new w1 (ints8 [79560, 13, 6144, 6080, 13, 0, 0]) 23 rfl
      have hB1' := bal hB1 (.cells (ints8 [79560, 13, 6144, 6080, 13, 0, 0]).toArray 23)
      simp only [ints8, List.map_cons, List.map_nil] at hK1 hB1'
      go_wp2_with (at_make; refine list_of rfl fun K hK => wp_mk (n := 79560) _ _ 53 rfl el53 rfl rfl (by decide) (by decide) ?_; intro A w2 hO hB2 hA; have HO := Lib.hid hO; have HB2 := Lib.hid (hB1'.trans (hB2.mono hB1'.size)); have HK2 := Lib.hid (hK1.below hB2); clear hO hB2 hK1 hB1'; refine hK _ _ ?_; clear hK K)
      refine (split_ok A 79560 79560 (List.replicate 79560 0) _ (Own.rd (Own.of_eq (k := .u8) (xs := List.replicate 79560 0) HO.out rfl (by rw [List.map_replicate]))) (by decide) (by decide) (bit_valid (bit_zeros _))).mono ?_
      rintro en w3 ⟨A', c', L, rfl, -, -, hB3⟩
      have HB3 := Lib.hid (HB2.out.trans (hB3.mono HB2.out.size))
      have hK3 := HK2.out.below hB3
      obtain ⟨⟨c0, c1, c2, c3, c4, c5, c6⟩, -⟩ := Blk.seven hK3
      clear hB3 hK3
      go_wp2_with (first
        | (go_at_call 29; refine (num_any _ _).mono ?_; rintro en w' ⟨rfl, rfl⟩)
        | (go_at_call 30; refine (works_any _).mono ?_; rintro en w4 ⟨rfl, hB4⟩; have HB4 := Lib.hid (HB3.out.trans (hB4.mono HB3.out.size)); clear hB4))
      go_ret
      exact ⟨rfl, HB4.out⟩
    · have H1 : ∀ W, Calls Try.prog 31 #[.int .i64 79561] W fun en w' => en = .returned (.tuple #[.agg #[.int .i64 0, .int .i64 0, .int .i64 0, .int .i64 0, .int .i64 0, .int .i64 0, .int .i64 0], .int .i64 2]) ∧ Below W.heap.size W w' := fun W => plan_top_bad 79561 W (by decide)
      go_enter Try.func10, Try.ntmps10
      go_wp2_with fail
      refine (H1 _).mono ?_
      rintro en w1 ⟨rfl, hB1⟩
      have hK1 := Blk.new w1 (ints8 [0, 0, 0, 0, 0, 0, 0]) 23 rfl
      have hB1' := bal hB1 (.cells (ints8 [0, 0, 0, 0, 0, 0, 0]).toArray 23)
      simp only [ints8, List.map_cons, List.map_nil] at hK1 hB1'
      go_wp2_with (at_make; refine list_of rfl fun K hK => wp_mk (n := 79561) _ _ 53 rfl el53 rfl rfl (by decide) (by decide) ?_; intro A w2 hO hB2 hA; have HO := Lib.hid hO; have HB2 := Lib.hid (hB1'.trans (hB2.mono hB1'.size)); have HK2 := Lib.hid (hK1.below hB2); clear hO hB2 hK1 hB1'; refine hK _ _ ?_; clear hK K)
      refine (split_bad A 79561 79561 _ (by decide)).mono ?_
      rintro en w3 ⟨rfl, hB3⟩
      have HB3 := Lib.hid (HB2.out.trans (hB3.mono HB2.out.size))
      have hK3 := HK2.out.below hB3
      obtain ⟨⟨c0, c1, c2, c3, c4, c5, c6⟩, -⟩ := Blk.seven hK3
      clear hB3 hK3
      go_wp2_with (first
        | (go_at_call 29; refine (num_any _ _).mono ?_; rintro en w' ⟨rfl, rfl⟩)
        | (go_at_call 30; refine (works_any _).mono ?_; rintro en w4 ⟨rfl, hB4⟩; have HB4 := Lib.hid (HB3.out.trans (hB4.mono HB3.out.size)); clear hB4))
      go_ret
      exact ⟨rfl, HB4.out⟩
  · have hb : a0 < 0 ∨ 1 < a0 := by omega
    have h0 : a0 ≠ 0 := by omega
    have h0' : (a0 == 0) = false := beq_f h0
    clear h h0
    cases a1 <;> rcases hb with hb | hb
    all_goals
      go_enter Try.func10, Try.ntmps10
      go_wp2_with (go_at_call 30; refine (works_any _).mono ?_; rintro en w4 ⟨rfl, hB4⟩)
      go_ret
      exact ⟨rfl, hB4⟩

set_option maxRecDepth 100000 in
theorem lifted (os : Os) (started : os.Started) (H : Type) (enc : TypeId × Value → H) :
    ReturnsInHanded {} Try.checked os 10 .any (Rows.segmentBoundsSpec.pre6 enc Try.prog Try.f10 Rows.segmentBoundsRow.domain false) (Rows.segmentBoundsSpec.post enc Try.prog Try.f10 false true false false) := by
  refine returnsInHanded_of_change (C := Try.checked) own started (by kernel_rfl) Try.func10
    (ChangeSpec.witness6 (enc := enc) (C := Try.checked) false ⟨#[], #[.int .i64 0, .bool false], []⟩ 8 (by kernel_rfl) (by kernel_rfl) (by kernel_rfl) (by kernel_rfl)) ?_
  intro W base args ds gs before hval0 hW hcnd _
  have hval : ∀ (j : Nat) t v, Try.f10.params[j]? = some t → args[j]? = some v → Value.okWide Try.prog W .any base t v := hval0
  have hW' := hW
  obtain ⟨p, q, hA0, hV, rfl, hfz, hnd⟩ := hW
  have hA : DataW.TrodAll enc Try.prog W 0 (fun _ => true) true Try.f10.params.toList args.toList ds p := hA0
  rw [Try.params10] at hA hval
  obtain ⟨v0, vs0, d0, ds0, p0, q0, hargs, rfl, rfl, h0, r0⟩ := trodAll_cons hA
  obtain ⟨v1, vs1, d1, ds1, p1, q1, rfl, rfl, rfl, h1, r1⟩ := trodAll_cons r0
  obtain ⟨rfl, rfl, rfl⟩ := trodAll_nil r1
  obtain rfl : args = #[v0, v1] := by cases args; simp_all
  obtain ⟨rfl, rfl⟩ := trodVars_none hV
  obtain ⟨a0, rfl, rfl, rfl, w0⟩ := open_int Try.underlying3 (hval 0 3 v0 rfl rfl) h0
  obtain ⟨a1, rfl, rfl, rfl⟩ := open_bool Try.underlying4 (hval 1 4 v1 rfl rfl) h1
  clear hA0 hval0
  simp only [List.append_nil] at hW'
  refine (walk a0 a1 w0 W).mono fun e W' ⟨he, bel⟩ => ?_
  subst he
  exact ⟨_, rfl, _, _, _, [], _, [], hW', trodAll_mk1 (shut_bool Try.underlying4 _), (trodAll_cons_mk (shut_int Try.underlying3 w0) (trodAll_cons_mk (shut_bool Try.underlying4 _) trodAll_mk0)), rfl, bel.frame _, fun h => by cases h⟩

theorem over : Rows.segmentBoundsRow.holds Try.pinned (OpenSpec.ofChange Rows.segmentBoundsSpec) :=
  OpenClaim.holds_of_wide 10 Try.f10 rfl rfl rfl rfl rfl rfl rfl ⟨rfl, rfl, rfl, rfl, rfl⟩ rfl rfl rfl rfl rfl (by kernel_rfl) Try.func10 (by kernel_rfl)
    (of_decide_eq_true (by kernel_rfl)) (by unfold Func.isWrapper; first | (rw [if_pos (by decide +kernel)]; kernel_rfl) | (rw [if_neg (by decide +kernel)]; exact ⟨rfl, rfl⟩))
    (fun os started H enc _ => lifted os started H enc)

theorem proved : Rows.SegmentBoundsSaid :=
  over
#print axioms proved
end Go.Proofs.Ytcbbkflnenkpgaa.segmentBounds
