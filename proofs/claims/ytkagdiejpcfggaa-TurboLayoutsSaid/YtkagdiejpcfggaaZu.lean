/-
  The walk of the statement on the layouts and on the iteration over steps. Condition: none.
-/
import Derived.Test.YtkagdiejpcfggaaZs
import Derived.Test.YtkagdiejpcfggaaZt
import Derived.OpenShut
import Derived.LoopNIn
namespace Go.Proofs.Ytkagdiejpcfggaa
open Go.RowKit Go.Shelf
set_option linter.unusedVariables false
attribute [local go_sem] Oper.semAt_some
set_option maxRecDepth 100000 in
set_option maxHeartbeats 8000000 in
theorem layouts_walk (a0 a1 a2 : Int) (w : World) (w0 : (Lit.int .i64 a0).wf = true) (w1 : (Lit.int .i64 a1).wf = true) (w2 : (Lit.int .i64 a2).wf = true) :
    Calls Try.prog 4 #[.int .i64 a0, .int .i64 a1, .int .i64 a2] w fun e w' => e = .returned (.bool true) ∧ Below w.heap.size w w' := by
  have hv0 := bounds_i64 w0
  by_cases hA : 1100 < a0 ∧ validK a0 = true
  · obtain ⟨h1, hv⟩ := hA
    have h6 : a0 ≤ 6144 := by
      unfold validK at hv
      simp only [decide_eq_true_eq] at hv
      omega
    have HV := Lib.hid hv
    have hx6 : ∀ W : World, Below ((w.alloc (.cells #[.int .i64 a2] 3)).alloc (.cells #[.bool false] 4)).heap.size ((w.alloc (.cells #[.int .i64 a2] 3)).alloc (.cells #[.bool false] 4)) W → Boxed W (w.heap.size + 1) 4 (.bool false) ∧ Below w.heap.size w W := fun W hB =>
      ⟨(hB.block _ (by simp)).trans (by have := Boxed.new (w.alloc (.cells #[.int .i64 a2] 3)) 4 (.bool false); rw [World.size_alloc] at this; exact this), (((Below.refl _ w).alloc (Nat.le_refl _) _).alloc (by simp) _).trans (hB.mono (by simp; omega))⟩
    have HX6 := Lib.hid hx6
    clear hv hx6
    go_enter Try.func4, Try.ntmps4
    go_wp2_with fail
    refine (rsize_any a0 _).mono ?_
    rintro e w1 ⟨rfl, hB1⟩
    rw [if_pos HV.out]
    have HB1 := Lib.hid hB1
    clear hB1
    go_wp2_with fail
    refine (works_any _).mono ?_
    rintro e w2 ⟨rfl, hB2⟩
    obtain ⟨x6, hbl⟩ := HX6.out w2 (HB1.out.trans (hB2.mono HB1.out.size))
    have hc := x6.cell
    have hf := x6.frozen
    have X6 := Lib.hid x6
    have HBL := Lib.hid hbl
    clear hB2 x6 hbl
    go_wp2
    have l1 := load_bool (X6.out.set (.bool true))
    refine bodyPost_ret (v := .bool true) ?_ rfl ⟨rfl, HBL.out.setCell (Nat.le_succ _) _⟩
    rw [results_c rfl]
    simp [asAddr, l1, Sem.run_pure]
  have hB' : 1100 < a0 → validK a0 = false := fun h => by
    by_cases hv : validK a0 = true
    · exact absurd ⟨h, hv⟩ hA
    · simpa using hv
  clear hA
  by_cases hk : 1100 < a0
  · exact layouts_hi a0 a1 a2 w w0 w1 w2 hk (hB' hk)
  · exact layouts_lo a0 a1 a2 w w0 w1 w2 hk
end Go.Proofs.Ytkagdiejpcfggaa
