/-
  Proves Rows.TurboChecksSaid: called with any arguments the Go function userplanelaw08.TurboChecks returns true and leaves its arguments as they were. Conditions: none.
-/
import Derived.Test.YtkagdiejpcfggaaRows
import Derived.Test.YtkagdiejpcfggaaZi
import Derived.WalkKit
import Derived.ProofKit
import Derived.OpenShut
import Derived.ShutString
import Derived.ChangeOld
import Derived.Below
namespace Go.Proofs.Ytkagdiejpcfggaa.turboChecks
open Go.ChangeShapes Go.WideShapes Go.ChangeAt Go.RowKit
open Go.ChangeMaps (open_string shut_string)
set_option linter.unusedVariables false

theorem own : ownKnob Try.prog.godebug = none := by kernel_rfl
theorem laidOut : laidOutB Try.prog = true := by kernel_rfl

def IsRow (k : IntKind) (w : World) (a : Option Addr) (len cap : Nat) (zs : List Int) : Prop :=
  (a = none ∧ len = 0 ∧ cap = 0 ∧ zs = []) ∨
  ∃ x, a = some x ∧ len ≤ cap ∧ cap ≤ maxLen ∧ zs.length = cap ∧ (∀ i, i < zs.length → w.cell? (x.add i) = some (.int k (zs.getD i 0))) ∧ ∀ n ∈ zs, (Lit.int k n).wf = true

set_option maxHeartbeats 800000 in
theorem walk (a0 : Option Addr) (len0 cap0 : Nat) (z0 : List Int) (w : World) (w0 : IsRow .u8 w a0 len0 cap0 z0) :
    Calls Try.prog 7 #[.slice a0 len0 cap0] w fun e w' => e = .returned (.bool true) ∧ Below w.heap.size w w' := by
  obtain ⟨hx, hwf⟩ := rd_of_row w0
  generalize z0.take len0 = xs at *
  clear w0
  have hbd := hx.bd.1
  by_cases h2 : 1600 < len0
  · go_enter Try.func7, Try.ntmps7
    go_wp2_with (go_at_call 10; refine (works_any _).mono ?_; rintro e w' ⟨rfl, hB⟩)
    go_ret
    exact ⟨rfl, hB⟩
  · have h0 := wf_u8 hwf
    have h1 := Rdv.alloc hx (.cells #[] 5)
    have hO0 : Ownv 5 (w.alloc (.cells #[] 5)) w.heap.size (some ⟨w.heap.size, 0, none⟩) 0 0 [] := Ownv.lit w #[] 5 rfl (Nat.le_refl _) (Nat.zero_le _)
    have hbm : ∀ W W' : World, (W.alloc (.cells #[] 5)).grownBy W' (some W.heap.size) → Below W.heap.size W W' := fun W W' hg => (Below.refl _ W).grown (grownBy_of_alloc hg) (Nat.le_refl _) (by simp)
    have hbx : ∀ W' : World, (w.alloc (.cells #[] 5)).grownBy W' (some w.heap.size) → Below w.heap.size w W' := fun W' => hbm w W'
    have HX := Lib.hid hx
    have H0 := Lib.hid h0
    have HL := Lib.hid hwf
    clear hx h0 hwf hbm
    go_enter Try.func7, Try.ntmps7
    go_wp2_with (at_builtin; refine list_of rfl fun K hK => wp_app _ _ 22 rfl el22 rfl rfl hO0 h1 (oneCell_ints .u8 xs) (by omega) (by unfold maxLen; omega) (by simp) ?_; intro A' c' w' hO hg; refine hK _ _ ?_; clear hK K; have HO := Lib.hid (Own.of_eq (k := .u8) (xs := xs) hO (Nat.zero_add len0) (List.nil_append _)); have HB := Lib.hid (hbx _ hg); clear hO hg hO0 h1 hbx; rw [Nat.zero_add])
    have HZ := Lib.hid (bitW_wf xs H0.out)
    refine (bits_all A' len0 c' xs _ (Own.rd HO.out)).mono ?_
    rintro e w1 ⟨A1, n1, c1, rfl, hO1, hB1⟩
    have HO1 := Lib.hid hO1
    have HB1 := Lib.hid hB1
    clear hO1 hB1
    go_wp2_with fail
    refine (rbits_all a0 len0 cap0 xs _ (Rdv.below (Rdv.below HX.out HB.out) HB1.out)).mono ?_
    rintro e w2 ⟨A2, n2, c2, rfl, hO2, hB2⟩
    have HX2 := Lib.hid (Rdv.below (Rdv.below (Rdv.below HX.out HB.out) HB1.out) hB2)
    have HO2 := Lib.hid (Own.rd hO2)
    have HOw := Lib.hid (Own.rd (Ownv.below (Ownv.below HO.out HB1.out) hB2))
    have HO12 := Lib.hid (Rdv.below (Own.rd HO1.out) hB2)
    have HB2 := Lib.hid (bnext2 (HB.out.trans (HB1.out.mono HB.out.size)) hB2)
    clear hO2 hB2 HO HO1 HX HB HB1
    go_wp2_with fail
    refine (check_all A' len0 c' xs _ HOw.out (fun x hx => (H0.out x hx).1)).mono ?_
    rintro e w3 ⟨rfl, hB3⟩
    have HX3 := Lib.hid (Rdv.below HX2.out hB3)
    have HO23 := Lib.hid (Rdv.below HO2.out hB3)
    have HOw3 := Lib.hid (Rdv.below HOw.out hB3)
    have HO13 := Lib.hid (Rdv.below HO12.out hB3)
    have HB3 := Lib.hid (bnext2 HB2.out hB3)
    clear hB3 HX2 HO2 HOw HO12 HB2
    generalize bitE xs = E at *
    go_wp2_with fail
    refine (same_any A1 A2 n1 c1 n2 c2 _ _ _ HO13.out HO23.out HZ.out HZ.out).mono ?_
    rintro e w' ⟨rfl, rfl⟩
    rw [show decide (bitW xs = bitW xs) = true from by simp]
    go_wp2_with fail
    refine (num_any E _).mono ?_
    rintro e w' ⟨rfl, rfl⟩
    have HRC := Lib.hid (rcheck_all a0 len0 cap0 xs _ HX3.out (fun x hx => (H0.out x hx).1))
    generalize chkA xs = F at *
    go_wp2_with fail
    refine (num_any F _).mono ?_
    rintro e w' ⟨rfl, rfl⟩
    go_wp2_with fail
    refine HRC.out.mono ?_
    rintro e w4 ⟨rfl, hB4⟩
    have HX4 := Lib.hid (Rdv.below HX3.out hB4)
    have HOw4 := Lib.hid (Rdv.below HOw3.out hB4)
    have HB4 := Lib.hid (bnext2 HB3.out hB4)
    clear hB4
    go_wp2_with fail
    refine (same_any A' a0 len0 c' len0 cap0 _ _ _ HOw4.out HX4.out H0.out H0.out).mono ?_
    rintro e w' ⟨rfl, rfl⟩
    rw [show decide (xs = xs) = true from by simp]
    go_wp2_with fail
    refine (works_any _).mono ?_
    rintro e w5 ⟨rfl, hB5⟩
    have HB5 := Lib.hid (bnext2 HB4.out hB5)
    clear hB5
    go_wp2
    go_ret
    exact ⟨rfl, HB5.out⟩

set_option maxRecDepth 100000 in
theorem lifted (os : Os) (started : os.Started) (H : Type) (enc : TypeId × Value → H) :
    ReturnsInHanded {} Try.checked os 7 .any (Rows.turboChecksSpec.pre6 enc Try.prog Try.f7 Rows.turboChecksRow.domain false) (Rows.turboChecksSpec.post enc Try.prog Try.f7 false true false false) := by
  refine returnsInHanded_of_change (C := Try.checked) own started (by kernel_rfl) Try.func7
    (ChangeSpec.witness6 (enc := enc) (C := Try.checked) false ⟨#[], #[.slice none 0 0], []⟩ 8 (by kernel_rfl) (by kernel_rfl) (by kernel_rfl) (by kernel_rfl)) ?_
  intro W base args ds gs before hval0 hW hcnd _
  have hval : ∀ (j : Nat) t v, Try.f7.params[j]? = some t → args[j]? = some v → Value.okWide Try.prog W .any base t v := hval0
  have hW' := hW
  obtain ⟨p, q, hA0, hV, rfl, hfz, hnd⟩ := hW
  have hA : DataW.TrodAll enc Try.prog W 0 (fun _ => true) true Try.f7.params.toList args.toList ds p := hA0
  rw [Try.params7] at hA hval
  obtain ⟨v0, vs0, d0, ds0, p0, q0, hargs, rfl, rfl, h0, r0⟩ := trodAll_cons hA
  obtain ⟨rfl, rfl, rfl⟩ := trodAll_nil r0
  obtain rfl : args = #[v0] := by cases args; simp_all
  obtain ⟨rfl, rfl⟩ := trodVars_none hV
  obtain ⟨a0, len0, cap0, rfl⟩ := okWide_slice Try.underlying22 (hval 0 22 v0 rfl rfl)
  have k0 := h0
  have lt0 : ∀ x ∈ p0, x.block < W.heap.size := by obtain ⟨m, hm⟩ := k0; exact DataW.trod_lt m _ _ _ hm
  obtain ⟨z0, w0⟩ : ∃ zs, IsRow .u8 W a0 len0 cap0 zs := by
    obtain ⟨fuel, hf⟩ := h0
    rcases open_ints Try.underlying22 Try.underlying5 (by kernel_rfl) hf with ⟨hcs, _⟩ | ⟨x, l, c, zs, hcs, _, hl, hm, hz, _, hcell, hwz⟩
    · simp [Value.cells] at hcs
      obtain ⟨rfl, rfl, rfl⟩ := hcs
      exact ⟨[], .inl ⟨rfl, rfl, rfl, rfl⟩⟩
    · simp [Value.cells] at hcs
      obtain ⟨rfl, rfl, rfl⟩ := hcs
      exact ⟨zs, .inr ⟨_, rfl, hl, hm, by simpa using hz, hcell, hwz⟩⟩
  clear hA0 hval0
  refine (walk a0 len0 cap0 z0 W w0).mono fun e W' ⟨he, bel⟩ => ?_
  subst he
  exact ⟨_, rfl, _, _, _, [], _, [], hW', trodAll_mk1 (shut_bool Try.underlying4 _), (trodAll_cons_mk (Below.trod laidOut (by kernel_rfl) (of_decide_eq_true (by kernel_rfl)) k0 bel lt0) trodAll_mk0), rfl, bel.frame _, fun h => by cases h⟩

theorem over : Rows.turboChecksRow.holds Try.pinned (OpenSpec.ofChange Rows.turboChecksSpec) :=
  OpenClaim.holds_of_wide 7 Try.f7 rfl rfl rfl rfl rfl rfl rfl ⟨rfl, rfl, rfl, rfl, rfl⟩ rfl rfl rfl rfl rfl (by kernel_rfl) Try.func7 (by kernel_rfl)
    (of_decide_eq_true (by kernel_rfl)) (by unfold Func.isWrapper; first | (rw [if_pos (by decide +kernel)]; kernel_rfl) | (rw [if_neg (by decide +kernel)]; exact ⟨rfl, rfl⟩))
    (fun os started H enc _ => lifted os started H enc)

theorem proved : Rows.TurboChecksSaid := over
#print axioms proved
end Go.Proofs.Ytkagdiejpcfggaa.turboChecks
