/-
  Proves Rows.SisoMetricsSaid: called with any arguments the Go function userplanelaw13.SisoMetrics returns true and leaves its arguments as they were. Conditions: none.
-/
import Derived.Test.YtmdjclfmhndjnaaRows
import Derived.Test.YtmdjclfmhndjnaaDm
import Derived.WalkKit
import Derived.ProofKit
import Derived.OpenShut
import Derived.ShutString
import Derived.ChangeOld
import Derived.Below
namespace Go.Proofs.Ytmdjclfmhndjnaa.sisoMetrics
open Go.ChangeShapes Go.WideShapes Go.ChangeAt Go.RowKit
open Go.ChangeMaps (open_string shut_string)
set_option linter.unusedVariables false

theorem own : ownKnob Try.prog.godebug = none := by kernel_rfl
theorem laidOut : laidOutB Try.prog = true := by kernel_rfl

def IsRow (k : IntKind) (w : World) (a : Option Addr) (len cap : Nat) (zs : List Int) : Prop :=
  (a = none ∧ len = 0 ∧ cap = 0 ∧ zs = []) ∨
  ∃ x, a = some x ∧ len ≤ cap ∧ cap ≤ maxLen ∧ zs.length = cap ∧ (∀ i, i < zs.length → w.cell? (x.add i) = some (.int k (zs.getD i 0))) ∧ ∀ n ∈ zs, (Lit.int k n).wf = true

set_option maxRecDepth 100000 in
set_option maxHeartbeats 1600000 in
theorem walk (a0 : Option Addr) (len0 cap0 : Nat) (z0 : List Int) (a1 : Option Addr) (len1 cap1 : Nat) (z1 : List Int) (a2 : Option Addr) (len2 cap2 : Nat) (z2 : List Int) (a3 : Option Addr) (len3 cap3 : Nat) (z3 : List Int) (w : World) (w0 : IsRow .i64 w a0 len0 cap0 z0) (w1 : IsRow .i64 w a1 len1 cap1 z1) (w2 : IsRow .i64 w a2 len2 cap2 z2) (w3 : IsRow .u8 w a3 len3 cap3 z3) :
    Calls Try.prog 7 #[.slice a0 len0 cap0, .slice a1 len1 cap1, .slice a2 len2 cap2, .slice a3 len3 cap3] w fun e w' => e = .returned (.bool true) ∧ Below w.heap.size w w' := by
  obtain ⟨hx0, -⟩ := rd_of_row w0
  obtain ⟨hx1, -⟩ := rd_of_row w1
  obtain ⟨hx2, -⟩ := rd_of_row w2
  obtain ⟨hx3, hu3⟩ := rd_of_row w3
  generalize z0.take len0 = xs at *
  generalize z1.take len1 = ys at *
  generalize z2.take len2 = zs at *
  generalize z3.take len3 = us at *
  clear w0 w1 w2 w3
  have b0 := hx0.bd.1
  have b1 := hx1.bd.1
  have b2 := hx2.bd.1
  have b3 := hx3.bd.1
  by_cases hf : (len0 : Int) ≤ 200 ∧ (len1 : Int) ≤ 200 ∧ (len2 : Int) ≤ 200
  · have HF := Lib.hid (fun W => few_any 200 a0 a1 a2 len0 cap0 len1 cap1 len2 cap2 W b0 b1 b2)
    have HFT := Lib.hid (decide_eq_true hf)
    have e0 := hx0.len
    have e1 := hx1.len
    have e2 := hx2.len
    subst e0
    subst e1
    subst e2
    obtain ⟨l0, l1, l2⟩ := hf
    by_cases hlb : 200 < len3
    · clear hx0 hx1 hx2 hx3 hu3
      go_enter Try.func7, Try.ntmps7
      go_wp2_with fail
      refine (HF.out _).mono ?_
      rintro e w' ⟨rfl, rfl⟩
      rw [HFT.out]
      go_wp2_with fail
      refine (works_any _).mono ?_
      rintro e w9 ⟨rfl, hB9⟩
      go_wp2
      go_ret
      exact ⟨rfl, hB9⟩
    have HI := Lib.hid (show In3 w (⟨xs, ys, zs⟩ : Ob) a0 a1 a2 cap0 cap1 cap2 from ⟨hx0, hx1, hx2⟩)
    have HU := Lib.hid hx3
    obtain ⟨o, ho⟩ : ∃ o : Ob, o = ⟨xs, ys, zs⟩ := ⟨_, rfl⟩
    rw [← ho] at HI
    have s1 : o.s = xs := by rw [ho]
    have s2 : o.p = ys := by rw [ho]
    have s3 : o.a = zs := by rw [ho]
    subst s1
    subst s2
    subst s3
    obtain ⟨v, E, hm1, hm2, hm3⟩ := metric_both o len3 us hx3.len (fun x hx => (bounds_u8 (hu3 x hx)).1)
    have HM1 := Lib.hid hm1
    have HM2 := Lib.hid hm2
    have HM3 := Lib.hid hm3
    clear ho hx0 hx1 hx2 hx3 hu3 hm1 hm2 hm3
    have q1 : (v != v) = false := bne_f rfl
    have q2 : (E != E) = false := bne_f rfl
    go_enter Try.func7, Try.ntmps7
    go_wp2_with fail
    refine (HF.out _).mono ?_
    rintro e w' ⟨rfl, rfl⟩
    rw [HFT.out]
    go_wp2_with fail
    refine (HM1.out a0 a1 a2 a3 cap0 cap1 cap2 cap3 _ HI.out HU.out).mono ?_
    rintro e w1 ⟨rfl, hB1⟩
    have HB1 := Lib.hid hB1
    have HI1 := Lib.hid (HI.out.below hB1)
    have HU1 := Lib.hid (Rdv.below HU.out hB1)
    clear hB1 HI HU
    go_wp2_with fail
    refine (HM2.out a0 a1 a2 a3 cap0 cap1 cap2 cap3 _ HI1.out HU1.out).mono ?_
    rintro e w2 ⟨rfl, hB2⟩
    have HB2 := Lib.hid (HB1.out.trans (hB2.mono HB1.out.size))
    have HI2 := Lib.hid (HI1.out.below hB2)
    clear hB2 HI1 HU1 HB1
    go_wp2_with fail
    refine (num_any _ _).mono ?_
    rintro e w3 ⟨rfl, rfl⟩
    rcases Classical.em (¬ o.ok) with hok | hok
    · have HG := Lib.hid (greatest_bad a0 a1 a2 cap0 cap1 cap2 o _ HI2.out hok)
      have HW := Lib.hid (fun W h => wrong_any a0 a1 a2 cap0 cap1 cap2 o W h)
      have hE := Ob.err_cases hok
      generalize o.err = X at *
      have n1 : (X != 0) = true := bne_t (by omega)
      have n2 : (X == X) = true := beq_t rfl
      clear hE hok
      go_wp2_with fail
      refine HG.out.mono ?_
      rintro e w3 ⟨rfl, hB3⟩
      have HB3 := Lib.hid (HB2.out.trans (hB3.mono HB2.out.size))
      have HI3 := Lib.hid (HI2.out.below hB3)
      clear hB3 HG HB2 HI2
      go_wp2_with fail
      refine (HW.out _ HI3.out).mono ?_
      rintro e w4 ⟨rfl, hB4⟩
      have HB4 := Lib.hid (HB3.out.trans (hB4.mono HB3.out.size))
      clear hB4 HB3 HI3
      go_wp2_with fail
      refine (num_any _ _).mono ?_
      rintro e w5 ⟨rfl, rfl⟩
      go_wp2_with fail
      refine (works_any _).mono ?_
      rintro e w9 ⟨rfl, hB9⟩
      have HB9 := Lib.hid (HB4.out.trans (hB9.mono HB4.out.size))
      clear hB9
      go_wp2
      go_ret
      exact ⟨rfl, HB9.out⟩
    · replace hok := Classical.not_not.1 hok
      have HG := Lib.hid (greatest_ok a0 a1 a2 cap0 cap1 cap2 o _ HI2.out hok)
      have HW := Lib.hid (fun W h => wrong_any a0 a1 a2 cap0 cap1 cap2 o W h)
      have HR := Lib.hid (fun W h => rgreat_any a0 a1 a2 cap0 cap1 cap2 o W h hok)
      rw [Ob.err_ok hok] at HW
      rw [topL_end hok] at HG
      have HLE : Hid (E = 0 → v ≤ gi (o.f o.s.length) 0) := Lib.hid (fun h => by
        obtain ⟨-, bs, hb, -, hv⟩ := HM3.out h
        rw [hv]
        exact mt_top hok hb)
      clear hok HM3
      generalize gi (o.f o.s.length) 0 = g at *
      have n2 : (g == g) = true := beq_t rfl
      go_wp2_with fail
      refine HG.out.mono ?_
      rintro e w3 ⟨rfl, hB3⟩
      have HB3 := Lib.hid (HB2.out.trans (hB3.mono HB2.out.size))
      have HI3 := Lib.hid (HI2.out.below hB3)
      clear hB3 HG HB2 HI2
      go_wp2_with fail
      refine (HW.out _ HI3.out).mono ?_
      rintro e w4 ⟨rfl, hB4⟩
      have HB4 := Lib.hid (HB3.out.trans (hB4.mono HB3.out.size))
      have HI4 := Lib.hid (HI3.out.below hB4)
      clear hB4 HB3 HI3
      go_wp2_with fail
      refine (num_any _ _).mono ?_
      rintro e w5 ⟨rfl, rfl⟩
      go_wp2_with fail
      refine (HR.out _ HI4.out).mono ?_
      rintro e w5 ⟨rfl, hB5⟩
      have HB5 := Lib.hid (HB4.out.trans (hB5.mono HB4.out.size))
      clear hB5 HB4 HI4
      by_cases hE0 : E = 0
      · have hle := HLE.out hE0
        have z1 : (E != 0) = false := bne_f hE0
        clear hE0
        go_wp2_with fail
        refine (works_any _).mono ?_
        rintro e w9 ⟨rfl, hB9⟩
        have HB9 := Lib.hid (HB5.out.trans (hB9.mono HB5.out.size))
        clear hB9
        go_wp2
        go_ret
        exact ⟨rfl, HB9.out⟩
      · have z1 : (E != 0) = true := bne_t hE0
        clear hE0
        go_wp2_with fail
        refine (works_any _).mono ?_
        rintro e w9 ⟨rfl, hB9⟩
        have HB9 := Lib.hid (HB5.out.trans (hB9.mono HB5.out.size))
        clear hB9
        go_wp2
        go_ret
        exact ⟨rfl, HB9.out⟩
  · have HF := Lib.hid (fun W => few_any 200 a0 a1 a2 len0 cap0 len1 cap1 len2 cap2 W b0 b1 b2)
    have HFF := Lib.hid (decide_eq_false hf)
    clear hf hx0 hx1 hx2 hx3 hu3
    go_enter Try.func7, Try.ntmps7
    go_wp2_with fail
    refine (HF.out _).mono ?_
    rintro e w' ⟨rfl, rfl⟩
    rw [HFF.out]
    go_wp2_with fail
    refine (works_any _).mono ?_
    rintro e w9 ⟨rfl, hB9⟩
    go_wp2
    go_ret
    exact ⟨rfl, hB9⟩

set_option maxRecDepth 100000 in
theorem lifted (os : Os) (started : os.Started) (H : Type) (enc : TypeId × Value → H) :
    ReturnsInHanded {} Try.checked os 7 .any (Rows.sisoMetricsSpec.pre6 enc Try.prog Try.f7 Rows.sisoMetricsRow.domain false) (Rows.sisoMetricsSpec.post enc Try.prog Try.f7 false true false false) := by
  refine returnsInHanded_of_change (C := Try.checked) own started (by kernel_rfl) Try.func7
    (ChangeSpec.witness6 (enc := enc) (C := Try.checked) false ⟨#[], #[.slice none 0 0, .slice none 0 0, .slice none 0 0, .slice none 0 0], []⟩ 8 (by kernel_rfl) (by kernel_rfl) (by kernel_rfl) (by kernel_rfl)) ?_
  intro W base args ds gs before hval0 hW hcnd _
  have hval : ∀ (j : Nat) t v, Try.f7.params[j]? = some t → args[j]? = some v → Value.okWide Try.prog W .any base t v := hval0
  have hW' := hW
  obtain ⟨p, q, hA0, hV, rfl, hfz, hnd⟩ := hW
  have hA : DataW.TrodAll enc Try.prog W 0 (fun _ => true) true Try.f7.params.toList args.toList ds p := hA0
  rw [Try.params7] at hA hval
  obtain ⟨v0, vs0, d0, ds0, p0, q0, hargs, rfl, rfl, h0, r0⟩ := trodAll_cons hA
  obtain ⟨v1, vs1, d1, ds1, p1, q1, rfl, rfl, rfl, h1, r1⟩ := trodAll_cons r0
  obtain ⟨v2, vs2, d2, ds2, p2, q2, rfl, rfl, rfl, h2, r2⟩ := trodAll_cons r1
  obtain ⟨v3, vs3, d3, ds3, p3, q3, rfl, rfl, rfl, h3, r3⟩ := trodAll_cons r2
  obtain ⟨rfl, rfl, rfl⟩ := trodAll_nil r3
  obtain rfl : args = #[v0, v1, v2, v3] := by cases args; simp_all
  obtain ⟨rfl, rfl⟩ := trodVars_none hV
  obtain ⟨a0, len0, cap0, rfl⟩ := okWide_slice Try.underlying22 (hval 0 22 v0 rfl rfl)
  have k0 := h0
  have lt0 : ∀ x ∈ p0, x.block < W.heap.size := by obtain ⟨m, hm⟩ := k0; exact DataW.trod_lt m _ _ _ hm
  obtain ⟨z0, w0⟩ : ∃ zs, IsRow .i64 W a0 len0 cap0 zs := by
    obtain ⟨fuel, hf⟩ := h0
    rcases open_ints Try.underlying22 Try.underlying3 (by kernel_rfl) hf with ⟨hcs, _⟩ | ⟨x, l, c, zs, hcs, _, hl, hm, hz, _, hcell, hwz⟩
    · simp [Value.cells] at hcs
      obtain ⟨rfl, rfl, rfl⟩ := hcs
      exact ⟨[], .inl ⟨rfl, rfl, rfl, rfl⟩⟩
    · simp [Value.cells] at hcs
      obtain ⟨rfl, rfl, rfl⟩ := hcs
      exact ⟨zs, .inr ⟨_, rfl, hl, hm, by simpa using hz, hcell, hwz⟩⟩
  obtain ⟨a1, len1, cap1, rfl⟩ := okWide_slice Try.underlying22 (hval 1 22 v1 rfl rfl)
  have k1 := h1
  have lt1 : ∀ x ∈ p1, x.block < W.heap.size := by obtain ⟨m, hm⟩ := k1; exact DataW.trod_lt m _ _ _ hm
  obtain ⟨z1, w1⟩ : ∃ zs, IsRow .i64 W a1 len1 cap1 zs := by
    obtain ⟨fuel, hf⟩ := h1
    rcases open_ints Try.underlying22 Try.underlying3 (by kernel_rfl) hf with ⟨hcs, _⟩ | ⟨x, l, c, zs, hcs, _, hl, hm, hz, _, hcell, hwz⟩
    · simp [Value.cells] at hcs
      obtain ⟨rfl, rfl, rfl⟩ := hcs
      exact ⟨[], .inl ⟨rfl, rfl, rfl, rfl⟩⟩
    · simp [Value.cells] at hcs
      obtain ⟨rfl, rfl, rfl⟩ := hcs
      exact ⟨zs, .inr ⟨_, rfl, hl, hm, by simpa using hz, hcell, hwz⟩⟩
  obtain ⟨a2, len2, cap2, rfl⟩ := okWide_slice Try.underlying22 (hval 2 22 v2 rfl rfl)
  have k2 := h2
  have lt2 : ∀ x ∈ p2, x.block < W.heap.size := by obtain ⟨m, hm⟩ := k2; exact DataW.trod_lt m _ _ _ hm
  obtain ⟨z2, w2⟩ : ∃ zs, IsRow .i64 W a2 len2 cap2 zs := by
    obtain ⟨fuel, hf⟩ := h2
    rcases open_ints Try.underlying22 Try.underlying3 (by kernel_rfl) hf with ⟨hcs, _⟩ | ⟨x, l, c, zs, hcs, _, hl, hm, hz, _, hcell, hwz⟩
    · simp [Value.cells] at hcs
      obtain ⟨rfl, rfl, rfl⟩ := hcs
      exact ⟨[], .inl ⟨rfl, rfl, rfl, rfl⟩⟩
    · simp [Value.cells] at hcs
      obtain ⟨rfl, rfl, rfl⟩ := hcs
      exact ⟨zs, .inr ⟨_, rfl, hl, hm, by simpa using hz, hcell, hwz⟩⟩
  obtain ⟨a3, len3, cap3, rfl⟩ := okWide_slice Try.underlying26 (hval 3 26 v3 rfl rfl)
  have k3 := h3
  have lt3 : ∀ x ∈ p3, x.block < W.heap.size := by obtain ⟨m, hm⟩ := k3; exact DataW.trod_lt m _ _ _ hm
  obtain ⟨z3, w3⟩ : ∃ zs, IsRow .u8 W a3 len3 cap3 zs := by
    obtain ⟨fuel, hf⟩ := h3
    rcases open_ints Try.underlying26 Try.underlying5 (by kernel_rfl) hf with ⟨hcs, _⟩ | ⟨x, l, c, zs, hcs, _, hl, hm, hz, _, hcell, hwz⟩
    · simp [Value.cells] at hcs
      obtain ⟨rfl, rfl, rfl⟩ := hcs
      exact ⟨[], .inl ⟨rfl, rfl, rfl, rfl⟩⟩
    · simp [Value.cells] at hcs
      obtain ⟨rfl, rfl, rfl⟩ := hcs
      exact ⟨zs, .inr ⟨_, rfl, hl, hm, by simpa using hz, hcell, hwz⟩⟩
  clear hA0 hval0
  refine (walk a0 len0 cap0 z0 a1 len1 cap1 z1 a2 len2 cap2 z2 a3 len3 cap3 z3 W w0 w1 w2 w3).mono fun e W' ⟨he, bel⟩ => ?_
  subst he
  exact ⟨_, rfl, _, _, _, [], _, [], hW', trodAll_mk1 (shut_bool Try.underlying4 _), (trodAll_cons_mk (Below.trod laidOut (by kernel_rfl) (of_decide_eq_true (by kernel_rfl)) k0 bel lt0) (trodAll_cons_mk (Below.trod laidOut (by kernel_rfl) (of_decide_eq_true (by kernel_rfl)) k1 bel lt1) (trodAll_cons_mk (Below.trod laidOut (by kernel_rfl) (of_decide_eq_true (by kernel_rfl)) k2 bel lt2) (trodAll_cons_mk (Below.trod laidOut (by kernel_rfl) (of_decide_eq_true (by kernel_rfl)) k3 bel lt3) trodAll_mk0)))), rfl, bel.frame _, fun h => by cases h⟩

theorem over : Rows.sisoMetricsRow.holds Try.pinned (OpenSpec.ofChange Rows.sisoMetricsSpec) :=
  OpenClaim.holds_of_wide 7 Try.f7 rfl rfl rfl rfl rfl rfl rfl ⟨rfl, rfl, rfl, rfl, rfl⟩ rfl rfl rfl rfl rfl (by kernel_rfl) Try.func7 (by kernel_rfl)
    (of_decide_eq_true (by kernel_rfl)) (by unfold Func.isWrapper; first | (rw [if_pos (by decide +kernel)]; kernel_rfl) | (rw [if_neg (by decide +kernel)]; exact ⟨rfl, rfl⟩))
    (fun os started H enc _ => lifted os started H enc)

theorem proved : Rows.SisoMetricsSaid := over
#print axioms proved
end Go.Proofs.Ytmdjclfmhndjnaa.sisoMetrics
