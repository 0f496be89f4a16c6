/-
  Proves Rows.CrcLinearSaid: called with any arguments the Go function userplanelaw03.CrcLinear returns true and leaves its arguments as they were. Conditions: none.
-/
import Derived.Test.YthajakigiffleaaRows
import Derived.Test.YthajakigiffleaaP
import Derived.WalkKit
import Derived.ProofKit
import Derived.OpenShut
import Derived.ShutString
import Derived.ChangeOld
import Derived.Below
namespace Go.Proofs.Ythajakigiffleaa.crcLinear
open Go.ChangeShapes Go.WideShapes Go.ChangeAt Go.RowKit
open Go.ChangeMaps (open_string shut_string)
set_option linter.unusedVariables false

theorem own : ownKnob Try.prog.godebug = none := by kernel_rfl
theorem laidOut : laidOutB Try.prog = true := by kernel_rfl

def IsRow (k : IntKind) (w : World) (a : Option Addr) (len cap : Nat) (zs : List Int) : Prop :=
  (a = none ∧ len = 0 ∧ cap = 0 ∧ zs = []) ∨
  ∃ x, a = some x ∧ len ≤ cap ∧ cap ≤ maxLen ∧ zs.length = cap ∧ (∀ i, i < zs.length → w.cell? (x.add i) = some (.int k (zs.getD i 0))) ∧ ∀ n ∈ zs, (Lit.int k n).wf = true

theorem walk (a0 : Int) (a1 : Option Addr) (len1 cap1 : Nat) (z1 : List Int) (a2 : Option Addr) (len2 cap2 : Nat) (z2 : List Int) (w : World) (w0 : (Lit.int .i64 a0).wf = true) (w1 : IsRow .u8 w a1 len1 cap1 z1) (w2 : IsRow .u8 w a2 len2 cap2 z2) :
    Calls Try.prog 5 #[.int .i64 a0, .slice a1 len1 cap1, .slice a2 len2 cap2] w fun e w' => e = .returned (.bool true) ∧ Below w.heap.size w w' := by
  obtain ⟨hx, hwx⟩ := rd_of_row w1
  generalize z1.take len1 = xs at *
  clear w1
  obtain ⟨hy, hwy⟩ := rd_of_row w2
  generalize z2.take len2 = ys at *
  clear w2
  have hbd := hx.bd.1
  have hbe := hy.bd.1
  have hcx : len1 ≤ cap1 := Rdv.le hx
  have hcy : len2 ≤ cap2 := Rdv.le hy
  have h0x : ∀ x ∈ xs, 0 ≤ x := fun x hxm => (bounds_u8 (hwx x hxm)).1
  have h0y : ∀ x ∈ ys, 0 ≤ x := fun x hxm => (bounds_u8 (hwy x hxm)).1
  clear hwx hwy
  go_enter Try.func5, Try.ntmps5
  go_wp2_with fail
  · refine (known_any _).mono ?_
    rintro e w6 ⟨rfl, hB6⟩
    go_wp2
    go_ret
    exact ⟨rfl, hB6⟩
  · refine (known_any _).mono ?_
    rintro e w6 ⟨rfl, hB6⟩
    go_wp2
    go_ret
    exact ⟨rfl, hB6⟩
  · have hX := Rd.upto hx (m := len2) (by omega)
    have hY := Rd.upto hy (m := len2) (by omega)
    have hbx : ValidB (xs.take len2) = true → Bit (xs.take len2) := fun hv => bit_of (fun x hm => h0x x (List.mem_of_mem_take hm)) hv
    have hby : ValidB (ys.take len2) = true → Bit (ys.take len2) := fun hv => bit_of (fun x hm => h0y x (List.mem_of_mem_take hm)) hv
    have hlx : (xs.take len2).length = len2 := Rd.len hX
    have hly : (ys.take len2).length = len2 := Rd.len hY
    have hsx := fun W => Rdv.slh hx el23 .i64 (show len2 ≤ cap1 by have := Rdv.le hX; omega) W
    have hsy := fun W => Rdv.slh hy el23 .i64 (show len2 ≤ cap2 by have := Rdv.le hY; omega) W
    generalize xs.take len2 = X at *
    generalize ys.take len2 = Y at *
    clear h0x h0y
    refine (compute_any a0 a1 len2 cap1 X _ hX).mono ?_
    rintro e w1 ⟨A1, n1, c1, rfl, hO1, hB1⟩
    go_wp2_with fail
    refine (compute_any a0 a2 len2 cap2 Y _ (Rdv.below hY hB1)).mono ?_
    rintro e w2 ⟨A2, n2, c2, rfl, hO2, hB2⟩
    by_cases hE1 : cErr a0 X = 0
    · by_cases hE2 : cErr a0 Y = 0
      · obtain ⟨hk, hv1⟩ := cErr_zero hE1
        obtain ⟨-, hv2⟩ := cErr_zero hE2
        have b1 := hbx hv1
        have b2 := hby hv2
        have hlxy : X.length = Y.length := hlx.trans hly.symm
        have hE3 : cErr a0 (addL X Y) = 0 := cErr_of hk (bit_valid (bit_add b1 b2 hlxy))
        have hR3 : cRes a0 (addL X Y) = addL (crcSum a0 X) (crcSum a0 Y) := by rw [cRes_of hk (bit_valid (bit_add b1 b2 hlxy)), sum_add hk b1 b2 hlxy]
        rw [cRes_of hk hv1] at hO1
        rw [cRes_of hk hv2] at hO2
        have hn1 : n1 = sLen a0 := by have := (Own.rd hO1).len; rw [crcSum_len] at this; exact this.symm
        have hn2 : n2 = sLen a0 := by have := (Own.rd hO2).len; rw [crcSum_len] at this; exact this.symm
        have hL := sLen_cases a0
        have cz := fun A n c W (hW : Rd .u8 W A n c (addL X Y)) => Lib.hid (compute_any a0 A n c _ W hW)
        rw [hE3, hR3] at cz
        rw [hE1, hE2]
        subst hn1
        subst hn2
        clear hE1 hE2 hE3 hR3 hbx hby b1 b2 hv1 hv2 hk
        have HLX := Lib.hid hlx; have HLY := Lib.hid hly; have HLXY := Lib.hid hlxy
        clear hlx hly hlxy
        generalize crcSum a0 X = S1 at *
        generalize crcSum a0 Y = S2 at *
        generalize sLen a0 = L at *
        have hX2 := Rdv.below (Rdv.below hX hB1) hB2
        have hY2 := Rdv.below (Rdv.below hY hB1) hB2
        go_wp2_with fail
        go_region_held3 (fun _ => True) (exact trivial)
          (first
            | (go_at_call 19;  refine (add_any a1 a2 len2 cap1 cap2 X Y _ (Rdv.drew hX2) (Rdv.drew hY2) (by omega)).mono ?_; rintro e w3 ⟨A3, c3, rfl, hO3, hB3⟩)
            | (go_at_call 12; refine (cz _ _ _ _ (Own.rd hO3)).out.mono ?_; rintro e w4 ⟨A4, n4, c4, rfl, hO4, hB4⟩))
        have q1 := Rdv.below (Rdv.below (Rdv.drew (Rdv.below (Own.rd hO1) hB2)) hB3) hB4
        have q2 := Rdv.below (Rdv.below (Rdv.drew (Own.rd hO2)) hB3) hB4
        go_wp2_with fail
        refine (add_any _ _ _ _ _ _ _ _ q1 q2 (by omega)).mono ?_
        rintro e w5 ⟨A5, c5, rfl, hO5, hB5⟩
        go_wp2_with fail
        have hn4 := (Own.rd hO4).len
        have hn5 := (Own.rd hO5).len
        rw [hn4] at hn5
        subst hn5
        refine (same_true _ _ _ _ _ _ _ _ (Rdv.below (Own.rd hO4) hB5) (Own.rd hO5)).mono ?_
        rintro e w6 ⟨rfl, hB6⟩
        go_wp2_with fail
        refine (known_any _).mono ?_
        rintro e w7 ⟨rfl, hB7⟩
        go_wp2
        go_ret
        exact ⟨rfl, bnext (bnext (bnext (bnext (bnext (bnext hB1 hB2) ((Below.refl _ w2).drew.trans hB3)) hB4) hB5) hB6) hB7⟩
      · have hne := bne_t hE2
        rw [hE1]
        generalize cErr a0 Y = E2 at *
        go_wp2_with fail
        refine (known_any _).mono ?_
        rintro e w6 ⟨rfl, hB6⟩
        go_wp2
        go_ret
        exact ⟨rfl, bnext (bnext hB1 hB2) hB6⟩
    · have hne := bne_t hE1
      generalize cErr a0 X = E1 at *
      go_wp2_with fail
      refine (known_any _).mono ?_
      rintro e w6 ⟨rfl, hB6⟩
      go_wp2
      go_ret
      exact ⟨rfl, bnext (bnext hB1 hB2) hB6⟩
  · have hX := Rd.upto hx (m := len1) (by omega)
    have hY := Rd.upto hy (m := len1) (by omega)
    have hbx : ValidB (xs.take len1) = true → Bit (xs.take len1) := fun hv => bit_of (fun x hm => h0x x (List.mem_of_mem_take hm)) hv
    have hby : ValidB (ys.take len1) = true → Bit (ys.take len1) := fun hv => bit_of (fun x hm => h0y x (List.mem_of_mem_take hm)) hv
    have hlx : (xs.take len1).length = len1 := Rd.len hX
    have hly : (ys.take len1).length = len1 := Rd.len hY
    have hsx := fun W => Rdv.slh hx el23 .i64 (show len1 ≤ cap1 by have := Rdv.le hX; omega) W
    have hsy := fun W => Rdv.slh hy el23 .i64 (show len1 ≤ cap2 by have := Rdv.le hY; omega) W
    generalize xs.take len1 = X at *
    generalize ys.take len1 = Y at *
    clear h0x h0y
    refine (compute_any a0 a1 len1 cap1 X _ hX).mono ?_
    rintro e w1 ⟨A1, n1, c1, rfl, hO1, hB1⟩
    go_wp2_with fail
    refine (compute_any a0 a2 len1 cap2 Y _ (Rdv.below hY hB1)).mono ?_
    rintro e w2 ⟨A2, n2, c2, rfl, hO2, hB2⟩
    by_cases hE1 : cErr a0 X = 0
    · by_cases hE2 : cErr a0 Y = 0
      · obtain ⟨hk, hv1⟩ := cErr_zero hE1
        obtain ⟨-, hv2⟩ := cErr_zero hE2
        have b1 := hbx hv1
        have b2 := hby hv2
        have hlxy : X.length = Y.length := hlx.trans hly.symm
        have hE3 : cErr a0 (addL X Y) = 0 := cErr_of hk (bit_valid (bit_add b1 b2 hlxy))
        have hR3 : cRes a0 (addL X Y) = addL (crcSum a0 X) (crcSum a0 Y) := by rw [cRes_of hk (bit_valid (bit_add b1 b2 hlxy)), sum_add hk b1 b2 hlxy]
        rw [cRes_of hk hv1] at hO1
        rw [cRes_of hk hv2] at hO2
        have hn1 : n1 = sLen a0 := by have := (Own.rd hO1).len; rw [crcSum_len] at this; exact this.symm
        have hn2 : n2 = sLen a0 := by have := (Own.rd hO2).len; rw [crcSum_len] at this; exact this.symm
        have hL := sLen_cases a0
        have cz := fun A n c W (hW : Rd .u8 W A n c (addL X Y)) => Lib.hid (compute_any a0 A n c _ W hW)
        rw [hE3, hR3] at cz
        rw [hE1, hE2]
        subst hn1
        subst hn2
        clear hE1 hE2 hE3 hR3 hbx hby b1 b2 hv1 hv2 hk
        have HLX := Lib.hid hlx; have HLY := Lib.hid hly; have HLXY := Lib.hid hlxy
        clear hlx hly hlxy
        generalize crcSum a0 X = S1 at *
        generalize crcSum a0 Y = S2 at *
        generalize sLen a0 = L at *
        have hX2 := Rdv.below (Rdv.below hX hB1) hB2
        have hY2 := Rdv.below (Rdv.below hY hB1) hB2
        go_wp2_with fail
        go_region_held3 (fun _ => True) (exact trivial)
          (first
            | (go_at_call 19;  refine (add_any a1 a2 len1 cap1 cap2 X Y _ (Rdv.drew hX2) (Rdv.drew hY2) (by omega)).mono ?_; rintro e w3 ⟨A3, c3, rfl, hO3, hB3⟩)
            | (go_at_call 12; refine (cz _ _ _ _ (Own.rd hO3)).out.mono ?_; rintro e w4 ⟨A4, n4, c4, rfl, hO4, hB4⟩))
        have q1 := Rdv.below (Rdv.below (Rdv.drew (Rdv.below (Own.rd hO1) hB2)) hB3) hB4
        have q2 := Rdv.below (Rdv.below (Rdv.drew (Own.rd hO2)) hB3) hB4
        go_wp2_with fail
        refine (add_any _ _ _ _ _ _ _ _ q1 q2 (by omega)).mono ?_
        rintro e w5 ⟨A5, c5, rfl, hO5, hB5⟩
        go_wp2_with fail
        have hn4 := (Own.rd hO4).len
        have hn5 := (Own.rd hO5).len
        rw [hn4] at hn5
        subst hn5
        refine (same_true _ _ _ _ _ _ _ _ (Rdv.below (Own.rd hO4) hB5) (Own.rd hO5)).mono ?_
        rintro e w6 ⟨rfl, hB6⟩
        go_wp2_with fail
        refine (known_any _).mono ?_
        rintro e w7 ⟨rfl, hB7⟩
        go_wp2
        go_ret
        exact ⟨rfl, bnext (bnext (bnext (bnext (bnext (bnext hB1 hB2) ((Below.refl _ w2).drew.trans hB3)) hB4) hB5) hB6) hB7⟩
      · have hne := bne_t hE2
        rw [hE1]
        generalize cErr a0 Y = E2 at *
        go_wp2_with fail
        refine (known_any _).mono ?_
        rintro e w6 ⟨rfl, hB6⟩
        go_wp2
        go_ret
        exact ⟨rfl, bnext (bnext hB1 hB2) hB6⟩
    · have hne := bne_t hE1
      generalize cErr a0 X = E1 at *
      go_wp2_with fail
      refine (known_any _).mono ?_
      rintro e w6 ⟨rfl, hB6⟩
      go_wp2
      go_ret
      exact ⟨rfl, bnext (bnext hB1 hB2) hB6⟩

set_option maxRecDepth 100000 in
theorem lifted (os : Os) (started : os.Started) (H : Type) (enc : TypeId × Value → H) :
    ReturnsInHanded {} Try.checked os 5 .any (Rows.crcLinearSpec.pre6 enc Try.prog Try.f5 Rows.crcLinearRow.domain false) (Rows.crcLinearSpec.post enc Try.prog Try.f5 false true false false) := by
  refine returnsInHanded_of_change (C := Try.checked) own started (by kernel_rfl) Try.func5
    (ChangeSpec.witness6 (enc := enc) (C := Try.checked) false ⟨#[], #[.int .i64 0, .slice none 0 0, .slice none 0 0], []⟩ 8 (by kernel_rfl) (by kernel_rfl) (by kernel_rfl) (by kernel_rfl)) ?_
  intro W base args ds gs before hval0 hW hcnd _
  have hval : ∀ (j : Nat) t v, Try.f5.params[j]? = some t → args[j]? = some v → Value.okWide Try.prog W .any base t v := hval0
  have hW' := hW
  obtain ⟨p, q, hA0, hV, rfl, hfz, hnd⟩ := hW
  have hA : DataW.TrodAll enc Try.prog W 0 (fun _ => true) true Try.f5.params.toList args.toList ds p := hA0
  rw [Try.params5] at hA hval
  obtain ⟨v0, vs0, d0, ds0, p0, q0, hargs, rfl, rfl, h0, r0⟩ := trodAll_cons hA
  obtain ⟨v1, vs1, d1, ds1, p1, q1, rfl, rfl, rfl, h1, r1⟩ := trodAll_cons r0
  obtain ⟨v2, vs2, d2, ds2, p2, q2, rfl, rfl, rfl, h2, r2⟩ := trodAll_cons r1
  obtain ⟨rfl, rfl, rfl⟩ := trodAll_nil r2
  obtain rfl : args = #[v0, v1, v2] := by cases args; simp_all
  obtain ⟨rfl, rfl⟩ := trodVars_none hV
  obtain ⟨a0, rfl, rfl, rfl, w0⟩ := open_int Try.underlying22 (hval 0 22 v0 rfl rfl) h0
  obtain ⟨a1, len1, cap1, rfl⟩ := okWide_slice Try.underlying23 (hval 1 23 v1 rfl rfl)
  have k1 := h1
  have lt1 : ∀ x ∈ p1, x.block < W.heap.size := by obtain ⟨m, hm⟩ := k1; exact DataW.trod_lt m _ _ _ hm
  obtain ⟨z1, w1⟩ : ∃ zs, IsRow .u8 W a1 len1 cap1 zs := by
    obtain ⟨fuel, hf⟩ := h1
    rcases open_ints Try.underlying23 Try.underlying5 (by kernel_rfl) hf with ⟨hcs, _⟩ | ⟨x, l, c, zs, hcs, _, hl, hm, hz, _, hcell, hwz⟩
    · simp [Value.cells] at hcs
      obtain ⟨rfl, rfl, rfl⟩ := hcs
      exact ⟨[], .inl ⟨rfl, rfl, rfl, rfl⟩⟩
    · simp [Value.cells] at hcs
      obtain ⟨rfl, rfl, rfl⟩ := hcs
      exact ⟨zs, .inr ⟨_, rfl, hl, hm, by simpa using hz, hcell, hwz⟩⟩
  obtain ⟨a2, len2, cap2, rfl⟩ := okWide_slice Try.underlying23 (hval 2 23 v2 rfl rfl)
  have k2 := h2
  have lt2 : ∀ x ∈ p2, x.block < W.heap.size := by obtain ⟨m, hm⟩ := k2; exact DataW.trod_lt m _ _ _ hm
  obtain ⟨z2, w2⟩ : ∃ zs, IsRow .u8 W a2 len2 cap2 zs := by
    obtain ⟨fuel, hf⟩ := h2
    rcases open_ints Try.underlying23 Try.underlying5 (by kernel_rfl) hf with ⟨hcs, _⟩ | ⟨x, l, c, zs, hcs, _, hl, hm, hz, _, hcell, hwz⟩
    · simp [Value.cells] at hcs
      obtain ⟨rfl, rfl, rfl⟩ := hcs
      exact ⟨[], .inl ⟨rfl, rfl, rfl, rfl⟩⟩
    · simp [Value.cells] at hcs
      obtain ⟨rfl, rfl, rfl⟩ := hcs
      exact ⟨zs, .inr ⟨_, rfl, hl, hm, by simpa using hz, hcell, hwz⟩⟩
  clear hA0 hval0
  refine (walk a0 a1 len1 cap1 z1 a2 len2 cap2 z2 W w0 w1 w2).mono fun e W' ⟨he, bel⟩ => ?_
  subst he
  exact ⟨_, rfl, _, _, _, [], _, [], hW', trodAll_mk1 (shut_bool Try.underlying4 _), (trodAll_cons_mk (shut_int Try.underlying22 w0) (trodAll_cons_mk (Below.trod laidOut (by kernel_rfl) (of_decide_eq_true (by kernel_rfl)) k1 bel lt1) (trodAll_cons_mk (Below.trod laidOut (by kernel_rfl) (of_decide_eq_true (by kernel_rfl)) k2 bel lt2) trodAll_mk0))), rfl, bel.frame _, fun h => by cases h⟩

theorem over : Rows.crcLinearRow.holds Try.pinned (OpenSpec.ofChange Rows.crcLinearSpec) :=
  OpenClaim.holds_of_wide 5 Try.f5 rfl rfl rfl rfl rfl rfl rfl ⟨rfl, rfl, rfl, rfl, rfl⟩ rfl rfl rfl rfl rfl (by kernel_rfl) Try.func5 (by kernel_rfl)
    (of_decide_eq_true (by kernel_rfl)) (by unfold Func.isWrapper; first | (rw [if_pos (by decide +kernel)]; kernel_rfl) | (rw [if_neg (by decide +kernel)]; exact ⟨rfl, rfl⟩))
    (fun os started H enc _ => lifted os started H enc)

theorem proved : Rows.CrcLinearSaid := over
#print axioms proved
end Go.Proofs.Ythajakigiffleaa.crcLinear
