/-
  Proves Rows.TurboLinearSaid: called with any arguments the Go function userplanelaw08.TurboLinear returns true and leaves its arguments as they were. Conditions: none.
-/
import Derived.Test.YtkagdiejpcfggaaRows
import Derived.Test.YtkagdiejpcfggaaZj
import Derived.WalkKit
import Derived.ProofKit
import Derived.OpenShut
import Derived.ShutString
import Derived.ChangeOld
import Derived.Below
namespace Go.Proofs.Ytkagdiejpcfggaa.turboLinear
open Go.ChangeShapes Go.WideShapes Go.ChangeAt Go.RowKit
open Go.ChangeMaps (open_string shut_string)
set_option linter.unusedVariables false

theorem own : ownKnob Try.prog.godebug = none := by kernel_rfl
theorem laidOut : laidOutB Try.prog = true := by kernel_rfl

def IsRow (k : IntKind) (w : World) (a : Option Addr) (len cap : Nat) (zs : List Int) : Prop :=
  (a = none ∧ len = 0 ∧ cap = 0 ∧ zs = []) ∨
  ∃ x, a = some x ∧ len ≤ cap ∧ cap ≤ maxLen ∧ zs.length = cap ∧ (∀ i, i < zs.length → w.cell? (x.add i) = some (.int k (zs.getD i 0))) ∧ ∀ n ∈ zs, (Lit.int k n).wf = true

set_option maxRecDepth 100000 in
set_option maxHeartbeats 1600000 in
theorem walk (a0 : Option Addr) (len0 cap0 : Nat) (z0 : List Int) (a1 : Option Addr) (len1 cap1 : Nat) (z1 : List Int) (a2 : Int) (w : World) (w0 : IsRow .u8 w a0 len0 cap0 z0) (w1 : IsRow .u8 w a1 len1 cap1 z1) (w2 : (Lit.int .u8 a2).wf = true) :
    Calls Try.prog 5 #[.slice a0 len0 cap0, .slice a1 len1 cap1, .int .u8 a2] w fun e w' => e = .returned (.bool true) ∧ Below w.heap.size w w' := by
  obtain ⟨hx, hwf⟩ := rd_of_row w0
  obtain ⟨hy, hwf2⟩ := rd_of_row w1
  generalize z0.take len0 = xs at *
  generalize z1.take len1 = ys at *
  clear w0 w1
  have hbd := hx.bd.1
  have hbd2 := hy.bd.1
  by_cases h2 : 600 < len0
  · go_enter Try.func5, Try.ntmps5
    go_wp2_with (go_at_call 10; refine (works_any _).mono ?_; rintro e w' ⟨rfl, hB⟩)
    go_ret
    exact ⟨rfl, hB⟩
  by_cases h3 : 600 < len1
  · go_enter Try.func5, Try.ntmps5
    go_wp2_with (go_at_call 10; refine (works_any _).mono ?_; rintro e w' ⟨rfl, hB⟩)
    go_ret
    exact ⟨rfl, hB⟩
  obtain ⟨u, rfl, hu⟩ : ∃ u : Nat, a2 = (u : Int) ∧ u < 256 := by
    have := bounds_u8 w2
    exact ⟨a2.toNat, by omega, by omega⟩
  have HX := Lib.hid hx
  have HY := Lib.hid hy
  have H0 := Lib.hid (wf_u8 hwf)
  have H1 := Lib.hid (wf_u8 hwf2)
  clear hx hy hwf hwf2 w2
  go_enter Try.func5, Try.ntmps5
  go_wp2_with fail
  refine (sized_any a0 len0 cap0 u xs _ HX.out H0.out hu).mono ?_
  rintro e w1 ⟨M1, rfl, hM1, hB1⟩
  have HM1 := Lib.hid hM1
  have HB1 := Lib.hid hB1
  clear hM1 hB1
  go_wp2_with fail
  refine (sized_any a1 len1 cap1 u ys _ (Rdv.below HY.out HB1.out) H1.out hu).mono ?_
  rintro e w2 ⟨M2, rfl, hM2, hB2⟩
  have HR1 := Lib.hid (Own.rd (Ownv.below HM1.out hB2))
  have HR2 := Lib.hid (Own.rd hM2)
  have HB2 := Lib.hid (bnext2 HB1.out hB2)
  clear hM2 hB2 HM1 HB1
  have HV := Lib.hid (szK_valid u)
  have hk := szK_bd u
  have HP := Lib.hid (szB_len xs u)
  have HQ := Lib.hid (szB_len ys u)
  generalize szB xs u = X at *
  generalize szB ys u = Y at *
  generalize szK u = k at *
  go_wp2_with (at_make; refine list_of rfl fun K hK => wp_mk (n := k) _ _ 22 rfl el22 rfl rfl (by omega) (by unfold maxLen; omega) ?_; intro M wm hOm hBm hM; refine hK _ _ ?_; clear hK K)
  have hst : XorInv w2 (xorL X Y) k M (.int .i64 0) wm := ⟨0, List.replicate k 0, by omega, rfl, Own.of_eq hOm rfl (by simp), by intro q hq; omega, hBm⟩
  clear hOm hBm
  go_loopw [10] (fun i wr => XorInv w2 (xorL X Y) k M i wr) (fun i _ => k - (intOf i).toNat)
  case atStart => exact hst
  case round =>
    obtain ⟨j, vs, hj, rfl, hO, hq, hB⟩ := hrel
    clear hst
    by_cases hlt : j < k
    · have hx1 := Rdv.below HR1.out hB
      have hx2 := Rdv.below HR2.out hB
      have hix1 := fun W => Rdv.ix hx1 el22 hlt .i64 W
      have hix2 := fun W => Rdv.ix hx2 el22 hlt .i64 W
      have hix3 := fun W => Rdv.ix (Own.rd hO) el22 hlt .i64 W
      have hc1 := Rd.cell hx1 hlt
      have hc2 := Rd.cell hx2 hlt
      have hc3 := Rd.cell (Own.rd hO) hlt
      obtain ⟨p1, e1, f1⟩ := gi_bits X j (by rw [HP.out]; exact hlt)
      obtain ⟨p2, e2, f2⟩ := gi_bits Y j (by rw [HQ.out]; exact hlt)
      rw [f1] at hc1
      rw [f2] at hc2
      have HG : Hid (gi ((xorL X Y).map ib) j = ib (p1 ^^ p2)) := Lib.hid (by
        rw [gi_ib _ _ (by rw [xorL_len _ _ (by rw [HP.out, HQ.out]), HP.out]; exact hlt), xorL_get _ _ (by rw [HP.out, HQ.out]) _ (by rw [HP.out]; exact hlt), e1, e2])
      have hxo := xor_ib8
      have hfz := Ownv.frozen hO (by omega) j
      have HSET := Lib.hid (Own.set_ hO hlt (ib (p1 ^^ p2)))
      have HLV := Lib.hid (Own.rd hO).len
      have HGE := Lib.hid (Ownv.blk_ge hO (by omega)).1
      have HQ1 := Lib.hid hq
      have HBB := Lib.hid hB
      clear hx1 hx2 e1 e2 f1 f2 hO hq hB
      go_wp2_with fail
      go_region
      go_wp2
      go_roundw
      case rel =>
        refine ⟨j + 1, _, by omega, by go_num, Ownv.drew HSET.out.1, fun q hq => ?_, (HBB.out.grown HSET.out.2 HBB.out.size (fun k hk => by have := Option.some.inj hk; have := HGE.out; omega)).drew⟩
        rw [gi_set _ _ _ _ (by rw [HLV.out]; exact hlt)]
        by_cases e : j = q
        · subst e; rw [if_pos rfl]; exact HG.out.symm
        · rw [if_neg e]; exact HQ1.out q (by omega)
      case measure => simp [intOf]; omega
    · obtain rfl : j = k := by omega
      obtain rfl : vs = (xorL X Y).map ib := ext_gi (by rw [(Own.rd hO).len, List.length_map, xorL_len _ _ (by rw [HP.out, HQ.out]), HP.out]) fun q hq' => hq q (by have := (Own.rd hO).len; omega)
      have HO := Lib.hid hO
      have HR1 := Lib.hid (Rdv.below HR1.out hB)
      have HR2 := Lib.hid (Rdv.below HR2.out hB)
      have HB3 := Lib.hid (HB2.out.trans (hB.mono HB2.out.size))
      have HXY := Lib.hid (wordI_xor X Y (by rw [HP.out, HQ.out]))
      have HWL := Lib.hid (wordB_len X _ (mixB_len X))
      have HVL := Lib.hid (wordB_len Y _ (mixB_len Y))
      clear hO hq hB hlt hj
      go_wp2_with fail
      refine (enc_any M1 j j X _ HR1.out HV.out).mono ?_
      rintro e w3 ⟨A3, c3, rfl, hA3, hB4⟩
      have HR2 := Lib.hid (Rdv.below HR2.out hB4)
      have HO := Lib.hid (Own.rd (Ownv.below HO.out hB4))
      have HB4 := Lib.hid (bnext2 HB3.out hB4)
      have HA3 := Lib.hid (Own.rd hA3)
      clear hA3 hB4 HR1 HB3
      go_wp2_with fail
      refine (enc_any M2 j j Y _ HR2.out HV.out).mono ?_
      rintro e w4 ⟨A4, c4, rfl, hA4, hB5⟩
      have HO := Lib.hid (Rdv.below HO.out hB5)
      have HA3 := Lib.hid (Rdv.below HA3.out hB5)
      have HB5 := Lib.hid (bnext2 HB4.out hB5)
      have HA4 := Lib.hid (Own.rd hA4)
      clear hA4 hB5 HR2 HB4
      go_wp2_with fail
      refine (enc_any M j j (xorL X Y) _ HO.out HV.out).mono ?_
      rintro e w5 ⟨A5, c5, rfl, hA5, hB6⟩
      have HA3 := Lib.hid (Rdv.below HA3.out hB6)
      have HA4 := Lib.hid (Rdv.below HA4.out hB6)
      have HB6 := Lib.hid (bnext2 HB5.out hB6)
      rw [HXY.out] at hA5
      have HA5 := Lib.hid (Own.rd hA5)
      clear hA5 hB6 HB5
      have HWL := Lib.hid (HWL.out.trans (show 3 * (X.length + 4) = 3 * (j + 4) by rw [HP.out]))
      have HVL := Lib.hid (HVL.out.trans (show 3 * (Y.length + 4) = 3 * (j + 4) by rw [HQ.out]))
      generalize hL : 3 * (j + 4) = L at *
      have hl0 : L ≤ 2000 := by omega
      have hle := HXY.out
      unfold wordI at HA3 HA4
      generalize wordB X (mixB X) = P at *
      generalize wordB Y (mixB Y) = Q at *
      clear hle
      go_wp2_with (go_at_call 14; refine (num_any _ _).mono ?_; rintro e w8 ⟨rfl, rfl⟩)
      go_loopw [17] (fun i wr => ∃ q : Nat, q ≤ L ∧ i = .int .i64 q ∧ Below w.heap.size w wr ∧ Rd .u8 wr A3 L c3 (P.map ib) ∧ Rd .u8 wr A4 L c4 (Q.map ib) ∧ Rd .u8 wr A5 L c5 ((xorL P Q).map ib)) (fun i _ => L - (intOf i).toNat)
      case atStart => exact ⟨0, by omega, rfl, HB6.out, HA3.out, HA4.out, HA5.out⟩
      case round =>
        obtain ⟨q, hq, rfl, hB, x3, x4, x5⟩ := hrel
        clear HB6 HA3 HA4 HA5
        by_cases hlt : q < L
        · have hix3 := fun W => Rdv.ix x3 el22 hlt .i64 W
          have hix4 := fun W => Rdv.ix x4 el22 hlt .i64 W
          have hix5 := fun W => Rdv.ix x5 el22 hlt .i64 W
          have hc3 := Rd.cell x3 hlt
          have hc4 := Rd.cell x4 hlt
          have hc5 := Rd.cell x5 hlt
          obtain ⟨p1, e1, f1⟩ := gi_bits P q (by rw [HWL.out]; exact hlt)
          obtain ⟨p2, e2, f2⟩ := gi_bits Q q (by rw [HVL.out]; exact hlt)
          rw [f1] at hc3
          rw [f2] at hc4
          rw [gi_ib _ _ (by rw [xorL_len _ _ (by rw [HWL.out, HVL.out]), HWL.out]; exact hlt), xorL_get _ _ (by rw [HWL.out, HVL.out]) _ (by rw [HWL.out]; exact hlt), e1, e2] at hc5
          have hxo := xor_ib8
          have HBB := Lib.hid hB
          have X3 := Lib.hid x3
          have X4 := Lib.hid x4
          have X5 := Lib.hid x5
          clear x3 x4 x5 hB e1 e2 f1 f2
          go_wp2_with fail
          go_region
          go_wp2
          go_roundw
          case rel => exact ⟨q + 1, by omega, by go_num, HBB.out.drew, Rdv.drew X3.out, Rdv.drew X4.out, Rdv.drew X5.out⟩
          case measure => simp [intOf]; omega
        · obtain rfl : q = L := by omega
          have HBB := Lib.hid hB
          clear hB x3 x4 x5
          go_wp2_with fail
          refine (works_any _).mono ?_
          rintro e w9 ⟨rfl, hB9⟩
          have HB9 := Lib.hid (bnext2 HBB.out hB9)
          clear hB9
          go_wp2
          go_ret
          exact ⟨rfl, HB9.out⟩

set_option maxRecDepth 100000 in
theorem lifted (os : Os) (started : os.Started) (H : Type) (enc : TypeId × Value → H) :
    ReturnsInHanded {} Try.checked os 5 .any (Rows.turboLinearSpec.pre6 enc Try.prog Try.f5 Rows.turboLinearRow.domain false) (Rows.turboLinearSpec.post enc Try.prog Try.f5 false true false false) := by
  refine returnsInHanded_of_change (C := Try.checked) own started (by kernel_rfl) Try.func5
    (ChangeSpec.witness6 (enc := enc) (C := Try.checked) false ⟨#[], #[.slice none 0 0, .slice none 0 0, .int .u8 0], []⟩ 8 (by kernel_rfl) (by kernel_rfl) (by kernel_rfl) (by kernel_rfl)) ?_
  intro W base args ds gs before hval0 hW hcnd _
  have hval : ∀ (j : Nat) t v, Try.f5.params[j]? = some t → args[j]? = some v → Value.okWide Try.prog W .any base t v := hval0
  have hW' := hW
  obtain ⟨p, q, hA0, hV, rfl, hfz, hnd⟩ := hW
  have hA : DataW.TrodAll enc Try.prog W 0 (fun _ => true) true Try.f5.params.toList args.toList ds p := hA0
  rw [Try.params5] at hA hval
  obtain ⟨v0, vs0, d0, ds0, p0, q0, hargs, rfl, rfl, h0, r0⟩ := trodAll_cons hA
  obtain ⟨v1, vs1, d1, ds1, p1, q1, rfl, rfl, rfl, h1, r1⟩ := trodAll_cons r0
  obtain ⟨v2, vs2, d2, ds2, p2, q2, rfl, rfl, rfl, h2, r2⟩ := trodAll_cons r1
  obtain ⟨rfl, rfl, rfl⟩ := trodAll_nil r2
  obtain rfl : args = #[v0, v1, v2] := by cases args; simp_all
  obtain ⟨rfl, rfl⟩ := trodVars_none hV
  obtain ⟨a0, len0, cap0, rfl⟩ := okWide_slice Try.underlying22 (hval 0 22 v0 rfl rfl)
  have k0 := h0
  have lt0 : ∀ x ∈ p0, x.block < W.heap.size := by obtain ⟨m, hm⟩ := k0; exact DataW.trod_lt m _ _ _ hm
  obtain ⟨z0, w0⟩ : ∃ zs, IsRow .u8 W a0 len0 cap0 zs := by
    obtain ⟨fuel, hf⟩ := h0
    rcases open_ints Try.underlying22 Try.underlying5 (by kernel_rfl) hf with ⟨hcs, _⟩ | ⟨x, l, c, zs, hcs, _, hl, hm, hz, _, hcell, hwz⟩
    · simp [Value.cells] at hcs
      obtain ⟨rfl, rfl, rfl⟩ := hcs
      exact ⟨[], .inl ⟨rfl, rfl, rfl, rfl⟩⟩
    · simp [Value.cells] at hcs
      obtain ⟨rfl, rfl, rfl⟩ := hcs
      exact ⟨zs, .inr ⟨_, rfl, hl, hm, by simpa using hz, hcell, hwz⟩⟩
  obtain ⟨a1, len1, cap1, rfl⟩ := okWide_slice Try.underlying22 (hval 1 22 v1 rfl rfl)
  have k1 := h1
  have lt1 : ∀ x ∈ p1, x.block < W.heap.size := by obtain ⟨m, hm⟩ := k1; exact DataW.trod_lt m _ _ _ hm
  obtain ⟨z1, w1⟩ : ∃ zs, IsRow .u8 W a1 len1 cap1 zs := by
    obtain ⟨fuel, hf⟩ := h1
    rcases open_ints Try.underlying22 Try.underlying5 (by kernel_rfl) hf with ⟨hcs, _⟩ | ⟨x, l, c, zs, hcs, _, hl, hm, hz, _, hcell, hwz⟩
    · simp [Value.cells] at hcs
      obtain ⟨rfl, rfl, rfl⟩ := hcs
      exact ⟨[], .inl ⟨rfl, rfl, rfl, rfl⟩⟩
    · simp [Value.cells] at hcs
      obtain ⟨rfl, rfl, rfl⟩ := hcs
      exact ⟨zs, .inr ⟨_, rfl, hl, hm, by simpa using hz, hcell, hwz⟩⟩
  obtain ⟨a2, rfl, rfl, rfl, w2⟩ := open_int Try.underlying5 (hval 2 5 v2 rfl rfl) h2
  clear hA0 hval0
  refine (walk a0 len0 cap0 z0 a1 len1 cap1 z1 a2 W w0 w1 w2).mono fun e W' ⟨he, bel⟩ => ?_
  subst he
  exact ⟨_, rfl, _, _, _, [], _, [], hW', trodAll_mk1 (shut_bool Try.underlying4 _), (trodAll_cons_mk (Below.trod laidOut (by kernel_rfl) (of_decide_eq_true (by kernel_rfl)) k0 bel lt0) (trodAll_cons_mk (Below.trod laidOut (by kernel_rfl) (of_decide_eq_true (by kernel_rfl)) k1 bel lt1) (trodAll_cons_mk (shut_int Try.underlying5 w2) trodAll_mk0))), rfl, bel.frame _, fun h => by cases h⟩

theorem over : Rows.turboLinearRow.holds Try.pinned (OpenSpec.ofChange Rows.turboLinearSpec) :=
  OpenClaim.holds_of_wide 5 Try.f5 rfl rfl rfl rfl rfl rfl rfl ⟨rfl, rfl, rfl, rfl, rfl⟩ rfl rfl rfl rfl rfl (by kernel_rfl) Try.func5 (by kernel_rfl)
    (of_decide_eq_true (by kernel_rfl)) (by unfold Func.isWrapper; first | (rw [if_pos (by decide +kernel)]; kernel_rfl) | (rw [if_neg (by decide +kernel)]; exact ⟨rfl, rfl⟩))
    (fun os started H enc _ => lifted os started H enc)

theorem proved : Rows.TurboLinearSaid := over
#print axioms proved
end Go.Proofs.Ytkagdiejpcfggaa.turboLinear
