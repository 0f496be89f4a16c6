/-
  Proves Rows.SegmentSplitsSaid: called with any arguments the Go function userplanelaw05.SegmentSplits returns true and leaves its arguments as they were. Conditions: none.
-/
import Derived.Test.YtcbbkflnenkpgaaRows
import Derived.Test.YtcbbkflnenkpgaaSz
import Derived.WalkKit
import Derived.ProofKit
import Derived.OpenShut
import Derived.ShutString
import Derived.ChangeOld
import Derived.Below
import Derived.Lib.SmallJoins
namespace Go.Proofs.Ytcbbkflnenkpgaa.segmentSplits
open Go.ChangeShapes Go.WideShapes Go.ChangeAt Go.RowKit Go.Joins CM
set_option linter.unusedVariables false

theorem own : ownKnob Try.prog.godebug = none := by kernel_rfl
theorem cellsP : Try.prog.cellsOf 52 = 4 := by kernel_rfl

set_option maxRecDepth 100000 in
set_option maxHeartbeats 1600000 in
theorem walk (l s a y : Int) (w : World) (wl : (Lit.int .i64 l).wf = true) (ws : (Lit.int .i64 s).wf = true) (wa : (Lit.int .i64 a).wf = true) (wy : (Lit.int .u8 y).wf = true) :
    Calls Try.prog 8 #[.agg #[.int .i64 l, .int .i64 s, .int .i64 a, .int .u8 y]] w fun e w' => e = .returned (.bool true) ∧ Below w.heap.size w w' := by
  have hy := bounds_u8 wy
  clear wy
  have hyy : 0 ≤ y ∧ y < 256 := by omega
  have HP := Lib.hid (fun W => bits_any l s a y W hyy)
  have hK0 := Blk.new w [.int .i64 l, .int .i64 s, .int .i64 a, .int .u8 y] 52 rfl
  have HB0 := Lib.hid (show Below w.heap.size w (w.alloc (.cells [.int .i64 l, .int .i64 s, .int .i64 a, .int .u8 y].toArray 52)) from (Below.refl _ _).alloc (Nat.le_refl _) _)
  have k0 := hK0.cell (j := 0) rfl
  have k1 := hK0.cell (j := 1) rfl
  have k2 := hK0.cell (j := 2) rfl
  have k3 := hK0.cell (j := 3) rfl
  clear hy hyy hK0
  go_enter Try.func8, Try.ntmps8
  go_wp2_with fail
  refine (HP.out _).mono ?_
  rintro e w1 ⟨n, A, xs, hn, rfl, hO1, hby, hB1⟩
  have HB1 := Lib.hid (HB0.out.trans (hB1.mono HB0.out.size))
  have HO1 := Lib.hid hO1
  have HBY := Lib.hid hby
  have HO0 := Lib.hid (show Ownv 5 (w1.alloc (.cells #[] 5)) w1.heap.size (some ⟨w1.heap.size, 0, none⟩) 0 0 [] from Ownv.lit w1 #[] 5 rfl (Nat.le_refl _) (Nat.zero_le _))
  have HX := Lib.hid (Own.rd hO1)
  clear hO1 hby hB1 k0 k1 k2 k3 HP
  go_wp2_with (at_builtin; refine list_of rfl fun K hK => wp_app (base := w1.heap.size) (.tmp 11) (.tmp 12) 53 rfl el53 rfl rfl HO0.out (Rdv.alloc HX.out _) (oneCell_ints .u8 xs) (by omega) (by unfold maxLen; omega) (by simp) ?_; intro A2 c2 w2 hO2 hg2; have HB2 := Lib.hid (HB1.out.trans (((Below.refl _ w1).grown (grownBy_of_alloc hg2) (Nat.le_refl _) (by simp [Value.ownBlock])).mono HB1.out.size)); have HX2 := Lib.hid (Rdv.below HX.out ((Below.refl _ w1).grown (grownBy_of_alloc hg2) (Nat.le_refl _) (by simp [Value.ownBlock]))); have HO2 := Lib.hid (Own.rd (Own.of_eq (k := .u8) (xs := xs) hO2 (Nat.zero_add n) (List.nil_append _))); clear hO2 hg2; refine hK _ _ ?_; clear hK K)
  refine (split_all A2 n c2 xs w2 HO2.out HBY.out).mono ?_
  rintro e w3 ⟨A3, n3, c3, L3, rfl, h3⟩
  have H3 := Lib.hid h3
  clear h3
  go_wp2_with fail
  refine (rsplit_all A n n xs w3 (Rdv.below HX2.out H3.out.k) HBY.out (by omega)).mono ?_
  rintro e w4 ⟨A4, n4, c4, L4, rfl, h4⟩
  have H4 := Lib.hid h4
  clear h4
  have HL3 := Lib.hid (show RL w4 A3 n3 c3 L3 from by have := (H3.out.b.below H4.out.k).rl; rwa [← H3.out.n] at this)
  have HL4 := Lib.hid (show RL w4 A4 n4 c4 L4 from by have := H4.out.b.rl; rwa [← H4.out.n] at this)
  have HB4 := Lib.hid (HB2.out.trans ((H3.out.k.trans (H4.out.k.mono H3.out.k.size)).mono HB2.out.size))
  have hq := lists_any A3 A4 n3 c3 n4 c4 L3 L4 w4 HL3.out HL4.out (fun s hs => byt_bit (H3.out.y s hs)) (fun s hs => byt_bit (H4.out.y s hs))
  rw [H3.out.l, H4.out.l, decide_eq_true rfl] at hq
  have HQ := Lib.hid hq
  have hs1 := Rdv.below (Rdv.below HO2.out H3.out.k) H4.out.k
  have hs2 := Rdv.below (Rdv.below HX2.out H3.out.k) H4.out.k
  have hc1 := fun q => conv_rd (Rdv.drewN hs1 q)
  have hc2 := fun q => conv_rd (Rdv.drewN hs2 q)
  have hse : ((strOfNums xs).toList == (strOfNums xs).toList) = true := by simp
  generalize sE xs = E at *
  generalize strOfNums xs = S1 at *
  clear hq hs1 hs2 HL3 HL4 H3 H4
  go_wp2_with fail
  refine HQ.out.mono ?_
  rintro e w5 ⟨rfl, q, rfl⟩
  go_wp2_with fail
  refine (num_any _ _).mono ?_
  rintro e w' ⟨rfl, rfl⟩
  go_wp2_with fail
  refine (works_any _).mono ?_
  rintro e w6 ⟨rfl, hB6⟩
  have HB6 := Lib.hid ((HB4.out.trans ((Qt.below ⟨q, rfl⟩ _).mono HB4.out.size)).trans (hB6.mono (HB4.out.trans ((Qt.below ⟨q, rfl⟩ _).mono HB4.out.size)).size))
  clear hB6
  go_wp2
  go_ret
  exact ⟨rfl, HB6.out⟩

set_option maxRecDepth 100000 in
theorem lifted (os : Os) (started : os.Started) (H : Type) (enc : TypeId × Value → H) :
    ReturnsInHanded {} Try.checked os 8 .any (Rows.segmentSplitsSpec.pre6 enc Try.prog Try.f8 Rows.segmentSplitsRow.domain false) (Rows.segmentSplitsSpec.post enc Try.prog Try.f8 false true false false) := by
  refine returnsInHanded_of_change (C := Try.checked) own started (by kernel_rfl) Try.func8
    (ChangeSpec.witness6 (enc := enc) (C := Try.checked) false ⟨#[], #[.agg #[.int .i64 0, .int .i64 0, .int .i64 0, .int .u8 0]], []⟩ 8 (by kernel_rfl) (by kernel_rfl) (by kernel_rfl) (by kernel_rfl)) ?_
  intro W base args ds gs before hval0 hW hcnd _
  have hval : ∀ (j : Nat) t v, Try.f8.params[j]? = some t → args[j]? = some v → Value.okWide Try.prog W .any base t v := hval0
  have hW' := hW
  obtain ⟨p, q, hA0, hV, rfl, hfz, hnd⟩ := hW
  have hA : DataW.TrodAll enc Try.prog W 0 (fun _ => true) true Try.f8.params.toList args.toList ds p := hA0
  rw [Try.params8] at hA hval
  obtain ⟨v0, vs0, d0, ds0, p0, q0, hargs, rfl, rfl, h0, r0⟩ := trodAll_cons hA
  obtain ⟨rfl, rfl, rfl⟩ := trodAll_nil r0
  obtain rfl : args = #[v0] := by cases args; simp_all
  obtain ⟨rfl, rfl⟩ := trodVars_none hV
  obtain ⟨c0, c1, c2, c3, y0, y1, y2, y3, m, rfl, rfl, rfl, hy0, hy1, hy2, hy3⟩ := open_agg4 Try.underlying52 (by kernel_rfl) cellsP (hval 0 52 v0 rfl rfl) h0
  obtain ⟨l, e0, rfl, wl⟩ := DataW.trod_int Try.underlying3 hy0
  obtain ⟨s, e1, rfl, ws⟩ := DataW.trod_int Try.underlying3 hy1
  obtain ⟨a, e2, rfl, wa⟩ := DataW.trod_int Try.underlying3 hy2
  obtain ⟨y, e3, rfl, wy⟩ := DataW.trod_int Try.underlying5 hy3
  simp at e0 e1 e2 e3
  subst e0 e1 e2 e3
  clear hA0 hval0
  simp only [List.append_nil] at hW'
  have structReads : ∀ (W' : World) (sp : Nat → Bool), DataW.Trod enc Try.prog W' 0 sp true 52 (.agg #[.int .i64 l, .int .i64 s, .int .i64 a, .int .u8 y]) (.agg [.lit (.int .i64 l), .lit (.int .i64 s), .lit (.int .i64 a), .lit (.int .u8 y)]) [] := fun W' sp =>
    shut_agg4 (y0 := (.lit (.int .i64 l), [])) (y1 := (.lit (.int .i64 s), [])) (y2 := (.lit (.int .i64 a), [])) (y3 := (.lit (.int .u8 y), [])) Try.underlying52 (by kernel_rfl) cellsP ⟨1, by simp [DataW.trod, Try.underlying3, wl]⟩ ⟨1, by simp [DataW.trod, Try.underlying3, ws]⟩ ⟨1, by simp [DataW.trod, Try.underlying3, wa]⟩ ⟨1, by simp [DataW.trod, Try.underlying5, wy]⟩
  refine (walk l s a y W wl ws wa wy).mono fun e W' ⟨he, bel⟩ => ?_
  subst he
  exact ⟨_, rfl, _, _, _, [], _, [], hW', trodAll_mk1 (shut_bool Try.underlying4 _), (trodAll_cons_mk (structReads _ _) trodAll_mk0), rfl, bel.frame _, fun h => by cases h⟩

theorem over : Rows.segmentSplitsRow.holds Try.pinned (OpenSpec.ofChange Rows.segmentSplitsSpec) :=
  OpenClaim.holds_of_wide 8 Try.f8 rfl rfl rfl rfl rfl rfl rfl ⟨rfl, rfl, rfl, rfl, rfl⟩ rfl rfl rfl rfl rfl (by kernel_rfl) Try.func8 (by kernel_rfl)
    (of_decide_eq_true (by kernel_rfl)) (by unfold Func.isWrapper; first | (rw [if_pos (by decide +kernel)]; kernel_rfl) | (rw [if_neg (by decide +kernel)]; exact ⟨rfl, rfl⟩))
    (fun os started H enc _ => lifted os started H enc)

theorem proved : Rows.SegmentSplitsSaid :=
  over
#print axioms proved
end Go.Proofs.Ytcbbkflnenkpgaa.segmentSplits
