/-
  Proves Rows.SisoDecodesSaid: called with any arguments the Go function userplanelaw13.SisoDecodes returns true and leaves its arguments as they were. Conditions: none.
-/
import Derived.Test.YtmdjclfmhndjnaaRows
import Derived.Test.YtmdjclfmhndjnaaCo
import Derived.WalkKit
import Derived.ProofKit
import Derived.OpenShut
import Derived.ShutString
import Derived.ChangeOld
import Derived.Below
namespace Go.Proofs.Ytmdjclfmhndjnaa.sisoDecodes
open Go.ChangeShapes Go.WideShapes Go.ChangeAt Go.RowKit
open Go.ChangeMaps (open_string shut_string)
set_option linter.unusedVariables false

theorem own : ownKnob Try.prog.godebug = none := by kernel_rfl
theorem laidOut : laidOutB Try.prog = true := by kernel_rfl

def IsRow (k : IntKind) (w : World) (a : Option Addr) (len cap : Nat) (zs : List Int) : Prop :=
  (a = none ∧ len = 0 ∧ cap = 0 ∧ zs = []) ∨
  ∃ x, a = some x ∧ len ≤ cap ∧ cap ≤ maxLen ∧ zs.length = cap ∧ (∀ i, i < zs.length → w.cell? (x.add i) = some (.int k (zs.getD i 0))) ∧ ∀ n ∈ zs, (Lit.int k n).wf = true

set_option maxRecDepth 100000 in
set_option maxHeartbeats 1600000 in
theorem walk (a0 : Option Addr) (len0 cap0 : Nat) (z0 : List Int) (a1 : Option Addr) (len1 cap1 : Nat) (z1 : List Int) (a2 : Option Addr) (len2 cap2 : Nat) (z2 : List Int) (w : World) (w0 : IsRow .i64 w a0 len0 cap0 z0) (w1 : IsRow .i64 w a1 len1 cap1 z1) (w2 : IsRow .i64 w a2 len2 cap2 z2) :
    Calls Try.prog 3 #[.slice a0 len0 cap0, .slice a1 len1 cap1, .slice a2 len2 cap2] w fun e w' => e = .returned (.bool true) ∧ Below w.heap.size w w' := by
  obtain ⟨hx0, -⟩ := rd_of_row w0
  obtain ⟨hx1, -⟩ := rd_of_row w1
  obtain ⟨hx2, -⟩ := rd_of_row w2
  generalize z0.take len0 = xs at *
  generalize z1.take len1 = ys at *
  generalize z2.take len2 = zs at *
  clear w0 w1 w2
  have b0 := hx0.bd.1
  have b1 := hx1.bd.1
  have b2 := hx2.bd.1
  by_cases hf : (len0 : Int) ≤ 200 ∧ (len1 : Int) ≤ 200 ∧ (len2 : Int) ≤ 200
  · have HF := Lib.hid (fun W => few_any 200 a0 a1 a2 len0 cap0 len1 cap1 len2 cap2 W b0 b1 b2)
    have HFT := Lib.hid (decide_eq_true hf)
    have e0 := hx0.len
    have e1 := hx1.len
    have e2 := hx2.len
    subst e0
    subst e1
    subst e2
    obtain ⟨l0, l1, l2⟩ := hf
    have HI := Lib.hid (show In3 w (⟨xs, ys, zs⟩ : Ob) a0 a1 a2 cap0 cap1 cap2 from ⟨hx0, hx1, hx2⟩)
    have HO0 := Lib.hid (fun W h => own_any a0 xs.length cap0 xs W h (by omega))
    have HO1 := Lib.hid (fun W h => own_any a1 ys.length cap1 ys W h (by omega))
    have HO2 := Lib.hid (fun W h => own_any a2 zs.length cap2 zs W h (by omega))
    clear hx0 hx1 hx2
    go_enter Try.func3, Try.ntmps3
    go_wp2_with fail
    refine (HF.out _).mono ?_
    rintro e w' ⟨rfl, rfl⟩
    rw [HFT.out]
    go_wp2_with fail
    refine (HO0.out _ HI.out.s).mono ?_
    rintro e w1 ⟨A1, c1, rfl, hO1, hB1⟩
    have HI1 := Lib.hid (HI.out.below hB1)
    have R1 := Lib.hid (Own.rd hO1)
    have HB1 := Lib.hid hB1
    clear hO1 hB1
    go_wp2_with fail
    refine (HO1.out _ HI1.out.p).mono ?_
    rintro e w2 ⟨A2, c2, rfl, hO2, hB2⟩
    have HI2 := Lib.hid (HI1.out.below hB2)
    have R1 := Lib.hid (Rdv.below R1.out hB2)
    have R2 := Lib.hid (Own.rd hO2)
    have HB2 := Lib.hid (HB1.out.trans (hB2.mono HB1.out.size))
    clear hO2 hB2
    go_wp2_with fail
    refine (HO2.out _ HI2.out.a).mono ?_
    rintro e w3 ⟨A3, c3, rfl, hO3, hB3⟩
    have HI3 := Lib.hid (HI2.out.below hB3)
    have HJ3 := Lib.hid (show In3 w3 (⟨xs, ys, zs⟩ : Ob) A1 A2 A3 c1 c2 c3 from ⟨Rdv.below R1.out hB3, Rdv.below R2.out hB3, Own.rd hO3⟩)
    have HB3 := Lib.hid (HB2.out.trans (hB3.mono HB2.out.size))
    clear hO3 hB3
    go_wp2_with fail
    refine (decode_all A1 A2 A3 c1 c2 c3 ⟨xs, ys, zs⟩ _ HJ3.out).mono ?_
    rintro e w4 ⟨d1, rfl, hd1, t1, u1, v1, hB4⟩
    have HI4 := Lib.hid (HI3.out.below hB4)
    have HJ4 := Lib.hid (HJ3.out.below hB4)
    have HB4 := Lib.hid (HB3.out.trans (hB4.mono HB3.out.size))
    have HD1 := Lib.hid hd1
    have HT1 := Lib.hid (And.intro t1 (And.intro u1 v1))
    have h28 : Blk (w4.alloc (.cells #[.slice none 0 0, .slice none 0 0, .slice none 0 0] 28)) w4.heap.size 28 zero28 := Blk.new w4 zero28 28 rfl
    clear hB4 hd1 t1 u1 v1
    have HR := Lib.hid (fun W (h : In3 W (⟨xs, ys, zs⟩ : Ob) a0 a1 a2 cap0 cap1 cap2) => rdecode_all a0 a1 a2 cap0 cap1 cap2 ⟨xs, ys, zs⟩ W h)
    go_wp2_with (refine strow (cs := [.slice d1.A1 d1.n1 d1.c1, .slice d1.A2 d1.n2 d1.c2, .slice d1.A3 d1.n3 d1.c3]) rfl 28 (.tmp 10) (.tmp 31) rfl rfl rfl h28 rfl (by rw [info28]; rfl) (by simp [Value.oneCell']) ?_; intro W5 h1 h2; have H51 := Lib.hid h1; have H52 := Lib.hid h2; clear h1 h2 h28)
    have hq5 : Below w4.heap.size w4 W5 := ((Below.refl _ w4).alloc (Nat.le_refl _) _).grown H52.out (by simp) (fun k hk => by cases hk; exact Nat.le_refl _)
    have HI5 := Lib.hid (HI4.out.below hq5)
    have HJ5 := Lib.hid (HJ4.out.below hq5)
    have HD5 := Lib.hid (HD1.out.below hq5)
    have HB5 := Lib.hid (HB4.out.trans (hq5.mono HB4.out.size))
    clear hq5 H52
    generalize w4.heap.size = b10 at *
    refine (HR.out _ HI5.out).mono ?_
    rintro e w6 ⟨d2, rfl, hd2, t2, u2, v2, hB6⟩
    have HI6 := Lib.hid (HI5.out.below hB6)
    have HJ6 := Lib.hid (HJ5.out.below hB6)
    have HD6 := Lib.hid (HD5.out.below hB6)
    have H61 := Lib.hid (H51.out.below hB6)
    have HB6 := Lib.hid (HB5.out.trans (hB6.mono HB5.out.size))
    have HE6 := Lib.hid hd2
    have HT2 := Lib.hid (And.intro t2 (And.intro u2 v2))
    have h28 : Blk (w6.alloc (.cells #[.slice none 0 0, .slice none 0 0, .slice none 0 0] 28)) w6.heap.size 28 zero28 := Blk.new w6 zero28 28 rfl
    clear hB6 hd2 t2 u2 v2
    go_wp2_with (first
      | (refine strow (cs := [.slice d2.A1 d2.n1 d2.c1, .slice d2.A2 d2.n2 d2.c2, .slice d2.A3 d2.n3 d2.c3]) rfl 28 (.tmp 12) (.tmp 38) rfl rfl rfl h28 rfl (by rw [info28]; rfl) (by simp [Value.oneCell']) ?_; intro W7 h1 h2; have hb10 := H61.out.below (((Below.refl _ w6).alloc (Nat.le_refl _) _).grown h2 (by simp) (fun k hk => by cases hk; exact Nat.le_refl _)); have hb12 := h1; have H72 := Lib.hid h2; clear h1 h2 h28)
      | (refine ldrow (cs := [.slice d1.A1 d1.n1 d1.c1, .slice d1.A2 d1.n2 d1.c2, .slice d1.A3 d1.n3 d1.c3]) rfl 28 (.tmp 10) rfl rfl hb10 _ Try.underlying28 rfl (by rw [info28]; rfl) ?_)
      | (refine ldrow (cs := [.slice d2.A1 d2.n1 d2.c1, .slice d2.A2 d2.n2 d2.c2, .slice d2.A3 d2.n3 d2.c3]) rfl 28 (.tmp 12) rfl rfl hb12 _ Try.underlying28 rfl (by rw [info28]; rfl) ?_))
    clear hb10 hb12
    have hq7 : Below w6.heap.size w6 W7 := ((Below.refl _ w6).alloc (Nat.le_refl _) _).grown H72.out (by simp) (fun k hk => by cases hk; exact Nat.le_refl _)
    have HI7 := Lib.hid (HI6.out.below hq7)
    have HJ7 := Lib.hid (HJ6.out.below hq7)
    have HD7 := Lib.hid (HD6.out.below hq7)
    have HE7 := Lib.hid (HE6.out.below hq7)
    have HB7 := Lib.hid (HB6.out.trans (hq7.mono HB6.out.size))
    clear hq7 H72
    have hq : Calls Try.prog 14 #[d1.val, d2.val] W7 (EqP true W7) := by
      have := equal_any d1 d2 W7 HD7.out HE7.out
      rw [HT1.out.1, HT1.out.2.1, HT1.out.2.2, HT2.out.1, HT2.out.2.1, HT2.out.2.2, decide_eq_true rfl, decide_eq_true rfl, decide_eq_true rfl] at this
      exact this
    refine hq.mono ?_
    rintro e w8 ⟨rfl, hB8⟩
    have HI8 := Lib.hid (HI7.out.below hB8)
    have HJ8 := Lib.hid (HJ7.out.below hB8)
    have HB8 := Lib.hid (HB7.out.trans (hB8.mono HB7.out.size))
    clear hB8 hq
    go_wp2_with (go_at_call 15; refine (num_any _ _).mono ?_; rintro e w9 ⟨rfl, rfl⟩)
    refine (ints_any _ _ _ _ _ _ _ _ _ HI8.out.s HJ8.out.s).mono ?_
    rintro e w9 ⟨rfl, q1, rfl⟩
    rw [decide_eq_true rfl]
    go_wp2_with fail
    refine (ints_any _ _ _ _ _ _ _ _ _ (Rdv.drewN HI8.out.p _) (Rdv.drewN HJ8.out.p _)).mono ?_
    rintro e w9 ⟨rfl, q2, rfl⟩
    rw [decide_eq_true rfl]
    go_wp2_with fail
    refine (ints_any _ _ _ _ _ _ _ _ _ (Rdv.drewN HI8.out.a _) (Rdv.drewN HJ8.out.a _)).mono ?_
    rintro e w9 ⟨rfl, q3, rfl⟩
    rw [decide_eq_true rfl]
    go_wp2_with fail
    refine (works_any _).mono ?_
    rintro e w10 ⟨rfl, hB10⟩
    have HB10 := Lib.hid (HB8.out.trans (((Qt.below ⟨_, rfl⟩ _).trans hB10).mono HB8.out.size))
    clear hB10
    go_wp2
    go_ret
    exact ⟨rfl, HB10.out⟩
  · have HF := Lib.hid (fun W => few_any 200 a0 a1 a2 len0 cap0 len1 cap1 len2 cap2 W b0 b1 b2)
    have HFF := Lib.hid (decide_eq_false hf)
    clear hf hx0 hx1 hx2
    go_enter Try.func3, Try.ntmps3
    go_wp2_with fail
    refine (HF.out _).mono ?_
    rintro e w' ⟨rfl, rfl⟩
    rw [HFF.out]
    go_wp2_with fail
    refine (works_any _).mono ?_
    rintro e w1 ⟨rfl, hB⟩
    go_wp2
    go_ret
    exact ⟨rfl, hB⟩

set_option maxRecDepth 100000 in
theorem lifted (os : Os) (started : os.Started) (H : Type) (enc : TypeId × Value → H) :
    ReturnsInHanded {} Try.checked os 3 .any (Rows.sisoDecodesSpec.pre6 enc Try.prog Try.f3 Rows.sisoDecodesRow.domain false) (Rows.sisoDecodesSpec.post enc Try.prog Try.f3 false true false false) := by
  refine returnsInHanded_of_change (C := Try.checked) own started (by kernel_rfl) Try.func3
    (ChangeSpec.witness6 (enc := enc) (C := Try.checked) false ⟨#[], #[.slice none 0 0, .slice none 0 0, .slice none 0 0], []⟩ 8 (by kernel_rfl) (by kernel_rfl) (by kernel_rfl) (by kernel_rfl)) ?_
  intro W base args ds gs before hval0 hW hcnd _
  have hval : ∀ (j : Nat) t v, Try.f3.params[j]? = some t → args[j]? = some v → Value.okWide Try.prog W .any base t v := hval0
  have hW' := hW
  obtain ⟨p, q, hA0, hV, rfl, hfz, hnd⟩ := hW
  have hA : DataW.TrodAll enc Try.prog W 0 (fun _ => true) true Try.f3.params.toList args.toList ds p := hA0
  rw [Try.params3] at hA hval
  obtain ⟨v0, vs0, d0, ds0, p0, q0, hargs, rfl, rfl, h0, r0⟩ := trodAll_cons hA
  obtain ⟨v1, vs1, d1, ds1, p1, q1, rfl, rfl, rfl, h1, r1⟩ := trodAll_cons r0
  obtain ⟨v2, vs2, d2, ds2, p2, q2, rfl, rfl, rfl, h2, r2⟩ := trodAll_cons r1
  obtain ⟨rfl, rfl, rfl⟩ := trodAll_nil r2
  obtain rfl : args = #[v0, v1, v2] := by cases args; simp_all
  obtain ⟨rfl, rfl⟩ := trodVars_none hV
  obtain ⟨a0, len0, cap0, rfl⟩ := okWide_slice Try.underlying22 (hval 0 22 v0 rfl rfl)
  have k0 := h0
  have lt0 : ∀ x ∈ p0, x.block < W.heap.size := by obtain ⟨m, hm⟩ := k0; exact DataW.trod_lt m _ _ _ hm
  obtain ⟨z0, w0⟩ : ∃ zs, IsRow .i64 W a0 len0 cap0 zs := by
    obtain ⟨fuel, hf⟩ := h0
    rcases open_ints Try.underlying22 Try.underlying3 (by kernel_rfl) hf with ⟨hcs, _⟩ | ⟨x, l, c, zs, hcs, _, hl, hm, hz, _, hcell, hwz⟩
    · simp [Value.cells] at hcs
      obtain ⟨rfl, rfl, rfl⟩ := hcs
      exact ⟨[], .inl ⟨rfl, rfl, rfl, rfl⟩⟩
    · simp [Value.cells] at hcs
      obtain ⟨rfl, rfl, rfl⟩ := hcs
      exact ⟨zs, .inr ⟨_, rfl, hl, hm, by simpa using hz, hcell, hwz⟩⟩
  obtain ⟨a1, len1, cap1, rfl⟩ := okWide_slice Try.underlying22 (hval 1 22 v1 rfl rfl)
  have k1 := h1
  have lt1 : ∀ x ∈ p1, x.block < W.heap.size := by obtain ⟨m, hm⟩ := k1; exact DataW.trod_lt m _ _ _ hm
  obtain ⟨z1, w1⟩ : ∃ zs, IsRow .i64 W a1 len1 cap1 zs := by
    obtain ⟨fuel, hf⟩ := h1
    rcases open_ints Try.underlying22 Try.underlying3 (by kernel_rfl) hf with ⟨hcs, _⟩ | ⟨x, l, c, zs, hcs, _, hl, hm, hz, _, hcell, hwz⟩
    · simp [Value.cells] at hcs
      obtain ⟨rfl, rfl, rfl⟩ := hcs
      exact ⟨[], .inl ⟨rfl, rfl, rfl, rfl⟩⟩
    · simp [Value.cells] at hcs
      obtain ⟨rfl, rfl, rfl⟩ := hcs
      exact ⟨zs, .inr ⟨_, rfl, hl, hm, by simpa using hz, hcell, hwz⟩⟩
  obtain ⟨a2, len2, cap2, rfl⟩ := okWide_slice Try.underlying22 (hval 2 22 v2 rfl rfl)
  have k2 := h2
  have lt2 : ∀ x ∈ p2, x.block < W.heap.size := by obtain ⟨m, hm⟩ := k2; exact DataW.trod_lt m _ _ _ hm
  obtain ⟨z2, w2⟩ : ∃ zs, IsRow .i64 W a2 len2 cap2 zs := by
    obtain ⟨fuel, hf⟩ := h2
    rcases open_ints Try.underlying22 Try.underlying3 (by kernel_rfl) hf with ⟨hcs, _⟩ | ⟨x, l, c, zs, hcs, _, hl, hm, hz, _, hcell, hwz⟩
    · simp [Value.cells] at hcs
      obtain ⟨rfl, rfl, rfl⟩ := hcs
      exact ⟨[], .inl ⟨rfl, rfl, rfl, rfl⟩⟩
    · simp [Value.cells] at hcs
      obtain ⟨rfl, rfl, rfl⟩ := hcs
      exact ⟨zs, .inr ⟨_, rfl, hl, hm, by simpa using hz, hcell, hwz⟩⟩
  clear hA0 hval0
  refine (walk a0 len0 cap0 z0 a1 len1 cap1 z1 a2 len2 cap2 z2 W w0 w1 w2).mono fun e W' ⟨he, bel⟩ => ?_
  subst he
  exact ⟨_, rfl, _, _, _, [], _, [], hW', trodAll_mk1 (shut_bool Try.underlying4 _), (trodAll_cons_mk (Below.trod laidOut (by kernel_rfl) (of_decide_eq_true (by kernel_rfl)) k0 bel lt0) (trodAll_cons_mk (Below.trod laidOut (by kernel_rfl) (of_decide_eq_true (by kernel_rfl)) k1 bel lt1) (trodAll_cons_mk (Below.trod laidOut (by kernel_rfl) (of_decide_eq_true (by kernel_rfl)) k2 bel lt2) trodAll_mk0))), rfl, bel.frame _, fun h => by cases h⟩

theorem over : Rows.sisoDecodesRow.holds Try.pinned (OpenSpec.ofChange Rows.sisoDecodesSpec) :=
  OpenClaim.holds_of_wide 3 Try.f3 rfl rfl rfl rfl rfl rfl rfl ⟨rfl, rfl, rfl, rfl, rfl⟩ rfl rfl rfl rfl rfl (by kernel_rfl) Try.func3 (by kernel_rfl)
    (of_decide_eq_true (by kernel_rfl)) (by unfold Func.isWrapper; first | (rw [if_pos (by decide +kernel)]; kernel_rfl) | (rw [if_neg (by decide +kernel)]; exact ⟨rfl, rfl⟩))
    (fun os started H enc _ => lifted os started H enc)

theorem proved : Rows.SisoDecodesSaid := over
#print axioms proved
end Go.Proofs.Ytmdjclfmhndjnaa.sisoDecodes
