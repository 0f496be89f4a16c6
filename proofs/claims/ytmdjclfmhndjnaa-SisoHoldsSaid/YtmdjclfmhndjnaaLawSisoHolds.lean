/-
  Proves Rows.SisoHoldsSaid: called with any arguments the Go function userplanelaw13.SisoHolds returns true and leaves its arguments as they were. Conditions: none.
-/
import Derived.Test.YtmdjclfmhndjnaaRows
import Derived.Test.YtmdjclfmhndjnaaEf
import Derived.WalkKit
import Derived.ProofKit
import Derived.OpenShut
import Derived.ShutString
import Derived.ChangeOld
import Derived.Below
namespace Go.Proofs.Ytmdjclfmhndjnaa.sisoHolds
open Go.ChangeShapes Go.WideShapes Go.ChangeAt Go.RowKit
open Go.ChangeMaps (open_string shut_string)
set_option linter.unusedVariables false

theorem own : ownKnob Try.prog.godebug = none := by kernel_rfl
theorem laidOut : laidOutB Try.prog = true := by kernel_rfl

def IsRow (k : IntKind) (w : World) (a : Option Addr) (len cap : Nat) (zs : List Int) : Prop :=
  (a = none ∧ len = 0 ∧ cap = 0 ∧ zs = []) ∨
  ∃ x, a = some x ∧ len ≤ cap ∧ cap ≤ maxLen ∧ zs.length = cap ∧ (∀ i, i < zs.length → w.cell? (x.add i) = some (.int k (zs.getD i 0))) ∧ ∀ n ∈ zs, (Lit.int k n).wf = true

set_option maxRecDepth 100000 in
set_option maxHeartbeats 1600000 in
theorem walk (a0 : Option Addr) (len0 cap0 : Nat) (z0 : List Int) (a1 : Int) (a2 : Int) (a3 : Int) (w : World) (w0 : IsRow .u8 w a0 len0 cap0 z0) (w1 : (Lit.int .u8 a1).wf = true) (w2 : (Lit.int .u16 a2).wf = true) (w3 : (Lit.int .u16 a3).wf = true) :
    Calls Try.prog 5 #[.slice a0 len0 cap0, .int .u8 a1, .int .u16 a2, .int .u16 a3] w fun e w' => e = .returned (.bool true) ∧ Below w.heap.size w w' := by
  obtain ⟨hx0, hu0⟩ := rd_of_row w0
  generalize z0.take len0 = us at *
  clear w0
  have b0 := hx0.bd.1
  have e0 := hx0.len
  subst e0
  have ha1 := bounds_u8 w1
  have ha2 := bounds_u16 w2
  have ha3 := bounds_u16 w3
  clear w1 w2 w3
  rcases (by omega : us.length < 1 ∨ 200 < us.length ∨ (1 ≤ us.length ∧ us.length ≤ 200)) with hl | hl | hl
  case' inl =>
    clear hx0 hu0 ha1 ha2 ha3
    go_enter Try.func5, Try.ntmps5
    go_wp2_with fail
    refine (works_any _).mono ?_
    rintro e w9 ⟨rfl, hB9⟩
    go_wp2
    go_ret
    exact ⟨rfl, hB9⟩
  case' inr.inl =>
    clear hx0 hu0 ha1 ha2 ha3
    go_enter Try.func5, Try.ntmps5
    go_wp2_with fail
    refine (works_any _).mono ?_
    rintro e w9 ⟨rfl, hB9⟩
    go_wp2
    go_ret
    exact ⟨rfl, hB9⟩
  obtain ⟨hl1, hl2⟩ := hl
  have HU := Lib.hid hx0
  have HV := Lib.hid hu0
  clear hx0 hu0
  obtain ⟨bs, hbs⟩ : ∃ bs, bs = bsF us := ⟨_, rfl⟩
  have HBS := Lib.hid hbs
  clear hbs
  have HA := Lib.hid (And.intro ha1 (And.intro ha2 ha3))
  clear ha1 ha2 ha3
  go_enter Try.func5, Try.ntmps5
  go_wp2_with fail
  go_loopw [9, 10] (fun b i wr => BitI w bs us.length b i wr) (fun _ i _ => us.length - (intOf i).toNat)
  case atStart => exact ⟨0, none, 0, by omega, rfl, rfl, Own.nilv _ _ _ _, Below.refl _ _⟩
  case round =>
    obtain ⟨j, A3, c3, hj, rfl, rfl, hO3, hB3⟩ := hrel
    by_cases hlt : j < us.length
    · have hu := Rdv.below HU.out hB3
      have hc := Rd.cell hu hlt
      have hix := fun W => Rdv.ix HU.out el26 hlt .i64 W
      have hv0 := (bounds_u8 (HV.out (gi us j) (by simp [gi, List.getD, hlt]))).1
      obtain ⟨t1, t2⟩ := low_bit (gi us j) hv0
      have HSU := Lib.hid (bsF_succ us j hlt)
      have HO3 := Lib.hid hO3
      have HB3 := Lib.hid hB3
      clear hu hO3 hB3 hv0
      generalize gi us j = v at *
      generalize decide (v % 2 = 1) = x at *
      go_wp2_with (at_builtin
                   refine list_of rfl fun K hK => wp_app1 (base := w.heap.size) _ _ 26 rfl el26 rfl (.int .u8 (ib x)) rfl rfl HO3.out (by omega) (by omega) HB3.out.size ?_
                   intro A4 c4 w4 h1 h2
                   refine hK _ _ ?_
                   clear hK K
                   have H41 := Lib.hid h1
                   have H42 := Lib.hid h2
                   clear h1 h2)
      go_roundw
      case rel =>
        refine ⟨j + 1, A4, c4, by omega, by go_num, rfl, ?_, HB3.out.grown H42.out HB3.out.size (fun k hk => Ownv.ob' HO3.out hk)⟩
        rw [HBS.out, HSU.out, List.map_append, ← HBS.out]
        exact Own.of_eq H41.out rfl (by simp)
      case measure => simp [intOf]; omega
    · obtain rfl : j = us.length := by omega
      have hbl : bs.length = us.length := by rw [HBS.out, bsF_len]
      rw [List.take_of_length_le (by omega)] at hO3
      have HR3 := Lib.hid (Own.rd hO3)
      have HL3 := Lib.hid hbl
      have HB3 := Lib.hid hB3
      clear hO3 hB3 HU HV HBS hbl
      generalize us.length = k at *
      obtain ⟨N, hN⟩ : ∃ N, N = k + 3 := ⟨_, rfl⟩
      have hw17 := word17_any A3 k c3 bs _ HR3.out (by omega)
      rw [← hN] at hw17
      have HN := Lib.hid hN
      have HW17 := Lib.hid hw17
      have hN2 : N ≤ 203 := by omega
      have hN1 : 4 ≤ N := by omega
      clear hN hw17
      go_wp2_with fail
      refine HW17.out.mono ?_
      rintro e w4 ⟨A4, c4, A5, c5, rfl, hO4, hR5, hB4⟩
      have HR4 := Lib.hid (Own.rd hO4)
      have HR5 := Lib.hid hR5
      have HR3 := Lib.hid (Rdv.below HR3.out hB4)
      have HB4 := Lib.hid (HB3.out.trans (hB4.mono HB3.out.size))
      clear hO4 hR5 hB4 HB3 HW17
      obtain ⟨M, hM, hMe⟩ := hold_nums a1 HA.out.1
      obtain ⟨NN, hNN⟩ : ∃ NN, NN = 2 * N := ⟨_, rfl⟩
      have f3 : IntKind.i64.wrap a1 = a1 := IntWalk.i64_in _ (by have := HA.out.1; omega)
      have HM := Lib.hid hM
      have HNN := Lib.hid hNN
      have hNI : 2 * (N : Int) = (NN : Int) := by omega
      clear hM hNN
      go_wp2_with (at_make; refine list_of rfl fun K hK => wp_mk (n := NN) (.tmp 60) (.tmp 60) 22 rfl el22 rfl rfl (by have := HNN.out; omega) (by have := HNN.out; unfold maxLen; omega) ?_
                   intro G w5 hO5 hB5 hG
                   refine hK _ _ ?_
                   clear hK K
                   have HO5 := Lib.hid (Own.of_eq (k := .i64) (xs := List.replicate NN 0) hO5 rfl (by simp))
                   have HB5 := Lib.hid hB5
                   clear hO5 hB5)
      clear f3 hMe hG
      have hcA := (Rdv.le HR4.out)
      go_loopw [17] (fun i wr => HldI w4 G M N NN bs i wr) (fun i _ => N - (intOf i).toNat)
      case atStart => exact ⟨0, _, by omega, rfl, HO5.out, fun q hq => by omega, HB5.out⟩
      case round =>
        obtain ⟨j, vs, hj, rfl, hO6, hRow, hB6⟩ := hrel
        by_cases hlt : j < N
        · have hrA := Rdv.below HR4.out hB6
          have hrB := Rdv.below HR5.out hB6
          have hc1 := Rd.cell hrA hlt
          have hc2 := Rd.cell hrB hlt
          have hil : (inW bs).length = N := by rw [inW_len, HL3.out, ← HN.out]
          have hol : (outW bs).length = N := by rw [outW_len, HL3.out, ← HN.out]
          rw [gi_ib _ _ (by omega)] at hc1 hc2
          have g1 : (inW bs).getD j false = (inW bs)[j]'(by omega) := by simp [List.getD, show j < (inW bs).length from by omega]
          have g2 : (outW bs).getD j false = (outW bs)[j]'(by omega) := by simp [List.getD, show j < (outW bs).length from by omega]
          have hi4 := fun W => Rdv.ix HR4.out el26 hlt .i64 W
          have hi5 := fun W => Rdv.ix HR5.out el26 hlt .i64 W
          have hvl := (Own.rd hO6).len
          have hiG := fun W => Rdv.ix (Own.rd hO6) el22 (j := j) (by have := HNN.out; omega) .i64 W
          have hiH := fun W => Rdv.ixI (Own.rd hO6) el22 (j := N + j) (by have := HNN.out; omega) .i64 ((N : Int) + (j : Int)) (by push_cast; rfl) W
          have HG12 := Lib.hid (And.intro g1 g2)
          have HRow := Lib.hid hRow
          have HO6 := Lib.hid hO6
          have HB6 := Lib.hid hB6
          have HVL := Lib.hid hvl
          clear hrA hrB g1 g2 hRow hO6 hB6 hvl
          generalize (inW bs)[j]'_ = b1 at *
          generalize (outW bs)[j]'_ = b2 at *
          clear hil hol
          have q1 : 0 ≤ ib b1 ∧ ib b1 ≤ 1 := by cases b1 <;> decide
          have q2 : 0 ≤ ib b2 ∧ ib b2 ≤ 1 := by cases b2 <;> decide
          have k1 : M * (1 - 2 * ib b1) = M ∨ M * (1 - 2 * ib b1) = -M := by
            cases b1
            · left; show M * (1 - 2 * 0) = M; omega
            · right; show M * (1 - 2 * 1) = -M; omega
          have k2 : M * (1 - 2 * ib b2) = M ∨ M * (1 - 2 * ib b2) = -M := by
            cases b2
            · left; show M * (1 - 2 * 0) = M; omega
            · right; show M * (1 - 2 * 1) = -M; omega
          have wM1 : IntKind.i64.wrap (M * (1 - 2 * ib b1)) = M * (1 - 2 * ib b1) := IntWalk.i64_in _ (by have := HM.out; omega)
          have wM2 : IntKind.i64.wrap (M * (1 - 2 * ib b2)) = M * (1 - 2 * ib b2) := IntWalk.i64_in _ (by have := HM.out; omega)
          clear k1 k2
          generalize hi1 : ib b1 = i1 at *
          generalize hi2 : ib b2 = i2 at *
          have HI12 := Lib.hid (And.intro hi1 hi2)
          clear hi1 hi2
          have wc1 : IntKind.i64.wrap i1 = i1 := IntWalk.i64_in _ (by omega)
          have wc2 : IntKind.i64.wrap i2 = i2 := IntWalk.i64_in _ (by omega)
          have hjN : j ≤ 203 := by omega
          have wq0 : IntKind.i64.wrap ((N : Int) + (j : Int)) = (N : Int) + (j : Int) := IntWalk.i64_in _ (by omega)
          have wq1 : IntKind.i64.wrap (2 * i1) = 2 * i1 := IntWalk.i64_in _ (by omega)
          have wq2 : IntKind.i64.wrap (1 - 2 * i1) = 1 - 2 * i1 := IntWalk.i64_in _ (by omega)
          have wq3 : IntKind.i64.wrap (2 * i2) = 2 * i2 := IntWalk.i64_in _ (by omega)
          have wq4 : IntKind.i64.wrap (1 - 2 * i2) = 1 - 2 * i2 := IntWalk.i64_in _ (by omega)
          go_wp2_with fail
          have HS0 : Hid (CellS A4 A5 j i1 i2 wr.drew) := Lib.hid ⟨hc1, hc2⟩
          have hs1 := Own.set_ HO6.out (j := j) (by have := HNN.out; omega) (M * (1 - 2 * i1))
          have fz1 := Ownv.frozen HO6.out (by have := HNN.out; omega) j
          have cz1 := Rd.cell (Own.rd HO6.out) (j := j) (by have := HNN.out; omega)
          have hs2 := Own.set_ hs1.1 (j := N + j) (by have := HNN.out; omega) (M * (1 - 2 * i2))
          have fz2 := Ownv.frozen HO6.out (by have := HNN.out; omega) (N + j)
          have cz2 := Rd.cell (Own.rd hs1.1) (j := N + j) (by have := HNN.out; omega)
          have hg4 : w4.heap.size ≤ blk G := (Ownv.blk_ge HO6.out (by have := HNN.out; omega)).1
          have HBW := Lib.hid ((HB6.out.grown hs1.2 HB6.out.size (fun k hk => by cases hk; exact hg4)).grown hs2.2 (Nat.le_trans HB6.out.size hs1.2.size) (fun k hk => by cases hk; exact hg4))
          have HS1 := Lib.hid hs1
          have HS2 := Lib.hid hs2
          clear hs1 hs2 hc1 hc2 hg4
          refine P_start (CellS A4 A5 j i1 i2) 25 28 #[false, false, false, false, false, false, false, false, false, false, false, false, false, false, false, false, false, false, false, false, false, false, false, false, false, false, false, false] (by kernel_rfl) (by kernel_rfl) (by kernel_rfl) ?_
          refine P_takeW 0 67 (.slice G NN NN) #[true, false, false, false, false, false, false, false, false, false, false, false, false, false, false, false, false, false, false, false, false, false, false, false, false, false, false, false] rfl rfl (by kernel_rfl) (by kernel_rfl) (by kernel_rfl) (by kernel_rfl) (by decide) (fun _ _ _ h => h) (Or.inl ⟨by rfl, fun W hS => by go_simp⟩) HS0.out ?_
          simp only [List.setIfInBounds_toArray, List.set_cons_zero, List.set_cons_succ]
          refine P_takeW 1 68 (.int .i64 (j : Int)) #[true, true, false, false, false, false, false, false, false, false, false, false, false, false, false, false, false, false, false, false, false, false, false, false, false, false, false, false] rfl rfl (by kernel_rfl) (by kernel_rfl) (by kernel_rfl) (by kernel_rfl) (by decide) (fun _ _ _ h => h) (Or.inl ⟨by rfl, fun W hS => by go_simp⟩) HS0.out ?_
          simp only [List.setIfInBounds_toArray, List.set_cons_zero, List.set_cons_succ]
          refine P_takeW 2 69 (.slice G NN NN) #[true, true, true, false, false, false, false, false, false, false, false, false, false, false, false, false, false, false, false, false, false, false, false, false, false, false, false, false] rfl rfl (by kernel_rfl) (by kernel_rfl) (by kernel_rfl) (by kernel_rfl) (by decide) (fun _ _ _ h => h) (Or.inl ⟨by rfl, fun W hS => by go_simp⟩) HS0.out ?_
          simp only [List.setIfInBounds_toArray, List.set_cons_zero, List.set_cons_succ]
          refine P_takeW 3 70 (.int .i64 (N : Int)) #[true, true, true, true, false, false, false, false, false, false, false, false, false, false, false, false, false, false, false, false, false, false, false, false, false, false, false, false] rfl rfl (by kernel_rfl) (by kernel_rfl) (by kernel_rfl) (by kernel_rfl) (by decide) (fun _ _ _ h => h) (Or.inl ⟨by rfl, fun W hS => by go_simp⟩) HS0.out ?_
          simp only [List.setIfInBounds_toArray, List.set_cons_zero, List.set_cons_succ]
          refine P_takeW 4 71 (.int .i64 (j : Int)) #[true, true, true, true, true, false, false, false, false, false, false, false, false, false, false, false, false, false, false, false, false, false, false, false, false, false, false, false] rfl rfl (by kernel_rfl) (by kernel_rfl) (by kernel_rfl) (by kernel_rfl) (by decide) (fun _ _ _ h => h) (Or.inl ⟨by rfl, fun W hS => by go_simp⟩) HS0.out ?_
          simp only [List.setIfInBounds_toArray, List.set_cons_zero, List.set_cons_succ]
          refine P_takeW 5 72 (.int .i64 ((N : Int) + (j : Int))) #[true, true, true, true, true, true, false, false, false, false, false, false, false, false, false, false, false, false, false, false, false, false, false, false, false, false, false, false] rfl rfl (by kernel_rfl) (by kernel_rfl) (by kernel_rfl) (by kernel_rfl) (by decide) (fun _ _ _ h => h) (Or.inl ⟨by rfl, fun W hS => by go_simp⟩) HS0.out ?_
          simp only [List.setIfInBounds_toArray, List.set_cons_zero, List.set_cons_succ]
          refine P_takeW 6 73 (.int .i64 M) #[true, true, true, true, true, true, true, false, false, false, false, false, false, false, false, false, false, false, false, false, false, false, false, false, false, false, false, false] rfl rfl (by kernel_rfl) (by kernel_rfl) (by kernel_rfl) (by kernel_rfl) (by decide) (fun _ _ _ h => h) (Or.inl ⟨by rfl, fun W hS => by go_simp⟩) HS0.out ?_
          simp only [List.setIfInBounds_toArray, List.set_cons_zero, List.set_cons_succ]
          refine P_takeW 7 74 (.slice A4 N c4) #[true, true, true, true, true, true, true, true, false, false, false, false, false, false, false, false, false, false, false, false, false, false, false, false, false, false, false, false] rfl rfl (by kernel_rfl) (by kernel_rfl) (by kernel_rfl) (by kernel_rfl) (by decide) (fun _ _ _ h => h) (Or.inl ⟨by rfl, fun W hS => by go_simp⟩) HS0.out ?_
          simp only [List.setIfInBounds_toArray, List.set_cons_zero, List.set_cons_succ]
          refine P_takeW 8 75 (.int .i64 (j : Int)) #[true, true, true, true, true, true, true, true, true, false, false, false, false, false, false, false, false, false, false, false, false, false, false, false, false, false, false, false] rfl rfl (by kernel_rfl) (by kernel_rfl) (by kernel_rfl) (by kernel_rfl) (by decide) (fun _ _ _ h => h) (Or.inl ⟨by rfl, fun W hS => by go_simp⟩) HS0.out ?_
          simp only [List.setIfInBounds_toArray, List.set_cons_zero, List.set_cons_succ]
          refine P_takeW 9 76 (.pointer (some (adr A4 j))) #[true, true, true, true, true, true, true, true, true, true, false, false, false, false, false, false, false, false, false, false, false, false, false, false, false, false, false, false] rfl rfl (by kernel_rfl) (by kernel_rfl) (by kernel_rfl) (by kernel_rfl) (by decide) (fun _ _ _ h => h) (Or.inl ⟨by rfl, fun W hS => by go_simp⟩) HS0.out ?_
          simp only [List.setIfInBounds_toArray, List.set_cons_zero, List.set_cons_succ]
          refine P_take 10 77 (.int .u8 i1) #[true, true, true, true, true, true, true, true, true, true, true, false, false, false, false, false, false, false, false, false, false, false, false, false, false, false, false, false] rfl rfl (by kernel_rfl) (by kernel_rfl) (by kernel_rfl) (by kernel_rfl) (by kernel_rfl) (by kernel_rfl) (by decide) (fun _ _ _ h => h) (Or.inl ⟨by rfl, fun W hS => by obtain ⟨s0, s1⟩ := hS; go_simp⟩) HS0.out ?_
          simp only [List.setIfInBounds_toArray, List.set_cons_zero, List.set_cons_succ]
          refine P_takeW 11 78 (.int .i64 i1) #[true, true, true, true, true, true, true, true, true, true, true, true, false, false, false, false, false, false, false, false, false, false, false, false, false, false, false, false] rfl rfl (by kernel_rfl) (by kernel_rfl) (by kernel_rfl) (by kernel_rfl) (by decide) (fun _ _ _ h => h) (Or.inl ⟨by rfl, fun W hS => by go_simp⟩) HS0.out ?_
          simp only [List.setIfInBounds_toArray, List.set_cons_zero, List.set_cons_succ]
          refine P_takeW 12 79 (.int .i64 (2 * i1)) #[true, true, true, true, true, true, true, true, true, true, true, true, true, false, false, false, false, false, false, false, false, false, false, false, false, false, false, false] rfl rfl (by kernel_rfl) (by kernel_rfl) (by kernel_rfl) (by kernel_rfl) (by decide) (fun _ _ _ h => h) (Or.inl ⟨by rfl, fun W hS => by go_simp⟩) HS0.out ?_
          simp only [List.setIfInBounds_toArray, List.set_cons_zero, List.set_cons_succ]
          refine P_takeW 13 80 (.int .i64 (1 - 2 * i1)) #[true, true, true, true, true, true, true, true, true, true, true, true, true, true, false, false, false, false, false, false, false, false, false, false, false, false, false, false] rfl rfl (by kernel_rfl) (by kernel_rfl) (by kernel_rfl) (by kernel_rfl) (by decide) (fun _ _ _ h => h) (Or.inl ⟨by rfl, fun W hS => by go_simp⟩) HS0.out ?_
          simp only [List.setIfInBounds_toArray, List.set_cons_zero, List.set_cons_succ]
          refine P_takeW 14 81 (.int .i64 (M * (1 - 2 * i1))) #[true, true, true, true, true, true, true, true, true, true, true, true, true, true, true, false, false, false, false, false, false, false, false, false, false, false, false, false] rfl rfl (by kernel_rfl) (by kernel_rfl) (by kernel_rfl) (by kernel_rfl) (by decide) (fun _ _ _ h => h) (Or.inl ⟨by rfl, fun W hS => by go_simp⟩) HS0.out ?_
          simp only [List.setIfInBounds_toArray, List.set_cons_zero, List.set_cons_succ]
          refine P_takeW 15 82 (.int .i64 M) #[true, true, true, true, true, true, true, true, true, true, true, true, true, true, true, true, false, false, false, false, false, false, false, false, false, false, false, false] rfl rfl (by kernel_rfl) (by kernel_rfl) (by kernel_rfl) (by kernel_rfl) (by decide) (fun _ _ _ h => h) (Or.inl ⟨by rfl, fun W hS => by go_simp⟩) HS0.out ?_
          simp only [List.setIfInBounds_toArray, List.set_cons_zero, List.set_cons_succ]
          refine P_takeW 16 83 (.slice A5 N c5) #[true, true, true, true, true, true, true, true, true, true, true, true, true, true, true, true, true, false, false, false, false, false, false, false, false, false, false, false] rfl rfl (by kernel_rfl) (by kernel_rfl) (by kernel_rfl) (by kernel_rfl) (by decide) (fun _ _ _ h => h) (Or.inl ⟨by rfl, fun W hS => by go_simp⟩) HS0.out ?_
          simp only [List.setIfInBounds_toArray, List.set_cons_zero, List.set_cons_succ]
          refine P_takeW 17 84 (.int .i64 (j : Int)) #[true, true, true, true, true, true, true, true, true, true, true, true, true, true, true, true, true, true, false, false, false, false, false, false, false, false, false, false] rfl rfl (by kernel_rfl) (by kernel_rfl) (by kernel_rfl) (by kernel_rfl) (by decide) (fun _ _ _ h => h) (Or.inl ⟨by rfl, fun W hS => by go_simp⟩) HS0.out ?_
          simp only [List.setIfInBounds_toArray, List.set_cons_zero, List.set_cons_succ]
          refine P_takeW 18 85 (.pointer (some (adr A5 j))) #[true, true, true, true, true, true, true, true, true, true, true, true, true, true, true, true, true, true, true, false, false, false, false, false, false, false, false, false] rfl rfl (by kernel_rfl) (by kernel_rfl) (by kernel_rfl) (by kernel_rfl) (by decide) (fun _ _ _ h => h) (Or.inl ⟨by rfl, fun W hS => by go_simp⟩) HS0.out ?_
          simp only [List.setIfInBounds_toArray, List.set_cons_zero, List.set_cons_succ]
          refine P_take 19 86 (.int .u8 i2) #[true, true, true, true, true, true, true, true, true, true, true, true, true, true, true, true, true, true, true, true, false, false, false, false, false, false, false, false] rfl rfl (by kernel_rfl) (by kernel_rfl) (by kernel_rfl) (by kernel_rfl) (by kernel_rfl) (by kernel_rfl) (by decide) (fun _ _ _ h => h) (Or.inl ⟨by rfl, fun W hS => by obtain ⟨s0, s1⟩ := hS; go_simp⟩) HS0.out ?_
          simp only [List.setIfInBounds_toArray, List.set_cons_zero, List.set_cons_succ]
          refine P_takeW 20 87 (.int .i64 i2) #[true, true, true, true, true, true, true, true, true, true, true, true, true, true, true, true, true, true, true, true, true, false, false, false, false, false, false, false] rfl rfl (by kernel_rfl) (by kernel_rfl) (by kernel_rfl) (by kernel_rfl) (by decide) (fun _ _ _ h => h) (Or.inl ⟨by rfl, fun W hS => by go_simp⟩) HS0.out ?_
          simp only [List.setIfInBounds_toArray, List.set_cons_zero, List.set_cons_succ]
          refine P_takeW 21 88 (.int .i64 (2 * i2)) #[true, true, true, true, true, true, true, true, true, true, true, true, true, true, true, true, true, true, true, true, true, true, false, false, false, false, false, false] rfl rfl (by kernel_rfl) (by kernel_rfl) (by kernel_rfl) (by kernel_rfl) (by decide) (fun _ _ _ h => h) (Or.inl ⟨by rfl, fun W hS => by go_simp⟩) HS0.out ?_
          simp only [List.setIfInBounds_toArray, List.set_cons_zero, List.set_cons_succ]
          refine P_takeW 22 89 (.int .i64 (1 - 2 * i2)) #[true, true, true, true, true, true, true, true, true, true, true, true, true, true, true, true, true, true, true, true, true, true, true, false, false, false, false, false] rfl rfl (by kernel_rfl) (by kernel_rfl) (by kernel_rfl) (by kernel_rfl) (by decide) (fun _ _ _ h => h) (Or.inl ⟨by rfl, fun W hS => by go_simp⟩) HS0.out ?_
          simp only [List.setIfInBounds_toArray, List.set_cons_zero, List.set_cons_succ]
          refine P_takeW 23 90 (.int .i64 (M * (1 - 2 * i2))) #[true, true, true, true, true, true, true, true, true, true, true, true, true, true, true, true, true, true, true, true, true, true, true, true, false, false, false, false] rfl rfl (by kernel_rfl) (by kernel_rfl) (by kernel_rfl) (by kernel_rfl) (by decide) (fun _ _ _ h => h) (Or.inl ⟨by rfl, fun W hS => by go_simp⟩) HS0.out ?_
          simp only [List.setIfInBounds_toArray, List.set_cons_zero, List.set_cons_succ]
          refine P_takeW 24 91 (.pointer (some (adr G j))) #[true, true, true, true, true, true, true, true, true, true, true, true, true, true, true, true, true, true, true, true, true, true, true, true, true, false, false, false] rfl rfl (by kernel_rfl) (by kernel_rfl) (by kernel_rfl) (by kernel_rfl) (by decide) (fun _ _ _ h => h) (Or.inl ⟨by rfl, fun W hS => by go_simp⟩) HS0.out ?_
          simp only [List.setIfInBounds_toArray, List.set_cons_zero, List.set_cons_succ]
          refine P_one 25 #[true, true, true, true, true, true, true, true, true, true, true, true, true, true, true, true, true, true, true, true, true, true, true, true, true, true, false, false] rfl (by kernel_rfl) (by kernel_rfl) rfl (by kernel_rfl) (fun K hK => ?_)
          go_simp
          refine hK _ _ ?_
          clear hK K
          refine P_takeX 26 92 (.pointer (some (adr G (N + j)))) #[true, true, true, true, true, true, true, true, true, true, true, true, true, true, true, true, true, true, true, true, true, true, true, true, true, true, true, false] rfl rfl (by kernel_rfl) (by kernel_rfl) (by kernel_rfl) (by kernel_rfl) (by decide) (fun _ _ _ h => h) (Or.inl ⟨by rfl, fun W hS => by go_simp⟩) rfl ?_
          simp only [List.setIfInBounds_toArray, List.set_cons_zero, List.set_cons_succ]
          refine P_one 27 #[true, true, true, true, true, true, true, true, true, true, true, true, true, true, true, true, true, true, true, true, true, true, true, true, true, true, true, true] rfl (by kernel_rfl) (by kernel_rfl) rfl (by kernel_rfl) (fun K hK => ?_)
          go_simp
          refine hK _ _ ?_
          clear hK K
          refine P_done (by kernel_rfl) ?_ _
          clear fz1 cz1 fz2 cz2
          go_wp2
          go_roundw
          case rel =>
            refine ⟨j + 1, _, by omega, by go_num, (by first | exact HS2.out.1 | exact Ownv.drew HS2.out.1), ?_, (by first | exact HBW.out | exact HBW.out.drew)⟩
            exact HRow.out.succ hlt (by rw [HVL.out, HNN.out]) _ _ (by rw [HG12.out.1, HI12.out.1]) (by rw [HG12.out.2, HI12.out.2])
          case measure => simp [intOf]; omega
        · obtain rfl : j = N := by omega
          have hNN1 : 8 ≤ NN ∧ NN ≤ 406 := by have := HNN.out; omega
          obtain ⟨x, hx1, hx2⟩ := hold_rem a2 NN HA.out.2.1 hNN1
          obtain ⟨y, hy1, hy2⟩ := hold_rem a3 NN HA.out.2.2 hNN1
          have fa2 : IntKind.i64.wrap a2 = a2 := IntWalk.i64_in _ (by have := HA.out.2.1; omega)
          have fa3 : IntKind.i64.wrap a3 = a3 := IntWalk.i64_in _ (by have := HA.out.2.2; omega)
          have hv127 := RowH.bd hRow HM.out x (by have := HNN.out; omega)
          have hw127 := RowH.bd hRow HM.out y (by have := HNN.out; omega)
          have HRow := Lib.hid hRow
          have HO6 := Lib.hid hO6
          have HB6 := Lib.hid hB6
          clear hO6 hRow hB6 hcA
          go_wp2_with fail
          go_quiet (fail)
          have hO7 := Ownv.drewN HO6.out nq
          have hB7 := HB6.out.trans (Qt.below ⟨nq, rfl⟩ _)
          clear HO6 HB6 fa2 fa3 hx2 hy2
          generalize wr.drewN nq = wq at *
          have hiG := fun W => Rdv.ix (Own.rd hO7) el22 hx1 .i64 W
          have hiH := fun W => Rdv.ix (Own.rd hO7) el22 hy1 .i64 W
          have cz1 := Rd.cell (Own.rd hO7) hx1
          have fz1 := Ownv.frozen hO7 (by omega) x
          have fz2 := Ownv.frozen hO7 (by omega) y
          have hg4 : w4.heap.size ≤ blk G := (Ownv.blk_ge hO7 (by omega)).1
          have hvl := (Own.rd hO7).len
          have hs1 := Own.set_ hO7 hx1 (-gi vs x)
          have hb1 := hB7.grown hs1.2 hB7.size (fun k hk => by cases hk; exact hg4)
          by_cases hxy : y = x
          · subst hxy
            have hbe : ((y : Int) != (y : Int)) = false := bne_f rfl
            have HROW : Hid (Own .i64 3 (wq.setCell (adr G y) (.int .i64 (-gi vs y))) w4.heap.size G NN NN (flip2 vs y y)) := Lib.hid (by
              unfold flip2 flip1
              rw [if_pos rfl]
              exact hs1.1)
            have HBW := Lib.hid hb1
            clear hs1 hO7 hB7 hb1 hg4
            go_wp2_with fail
            clear cz1 fz1 fz2 hbe hiG hiH
            generalize wq.setCell (adr G y) (.int .i64 (-gi vs y)) = wz at *
            have sl1 := fun W => Rdv.slh (Own.rd HROW.out) el22 .i64 (m := j) (by have := HNN.out; omega) W
            have sl2 : ∀ W, (Instr.sliceAt 22 (.slice G NN NN) (some (.int .i64 (j : Int))) none none).run Try.prog W = .ok (.slice (cut G NN j) j j) W := fun W => by
              have h := Rdv.sll (Own.rd HROW.out) el22 .i64 (l := j) (by have := HNN.out; omega) W
              rw [show NN - j = j from by have := HNN.out; omega] at h
              exact h
            have HEND := Lib.hid (hold_end HM.out (k := k) (N := j) (by omega) HN.out HL3.out (by have h := (Own.rd HROW.out).len; rw [flip2_len] at h; have := HNN.out; omega) HRow.out y y)
            have HR1 : Hid (Rd .i64 wz G j NN ((flip2 vs y y).take j)) := Lib.hid (Rd.upto (Own.rd HROW.out) (by have := HNN.out; omega))
            have HR2 : Hid (Rd .i64 wz (cut G NN j) j j ((flip2 vs y y).drop j)) := Lib.hid (cutN (Own.rd HROW.out) HNN.out)
            have HZ0 := Lib.hid ((Below.refl wz.heap.size wz).drew)
            generalize hoo : oH (flip2 vs y y) j k = oo at *
            have HOO := Lib.hid hoo
            clear hoo
            go_cut [20, 21] from 122 to 134 (fun d e wx => HoldC wz bs d e wx)
            case first =>
              refine P_start (fun _ => True) 8 16 #[false, false, false, false, false, false, false, false, false, false, false, false, false, false, false, false] (by kernel_rfl) (by kernel_rfl) (by kernel_rfl) ?_
              refine P_takeW 0 123 (.slice G NN NN) #[true, false, false, false, false, false, false, false, false, false, false, false, false, false, false, false] rfl rfl (by kernel_rfl) (by kernel_rfl) (by kernel_rfl) (by kernel_rfl) (by decide) (fun _ _ _ h => h) (Or.inl ⟨by rfl, fun W hS => by go_simp⟩) trivial ?_
              simp only [List.setIfInBounds_toArray, List.set_cons_zero, List.set_cons_succ]
              refine P_takeW 1 124 (.int .i64 (j : Int)) #[true, true, false, false, false, false, false, false, false, false, false, false, false, false, false, false] rfl rfl (by kernel_rfl) (by kernel_rfl) (by kernel_rfl) (by kernel_rfl) (by decide) (fun _ _ _ h => h) (Or.inl ⟨by rfl, fun W hS => by go_simp⟩) trivial ?_
              simp only [List.setIfInBounds_toArray, List.set_cons_zero, List.set_cons_succ]
              refine P_takeW 2 125 (.slice G j NN) #[true, true, true, false, false, false, false, false, false, false, false, false, false, false, false, false] rfl rfl (by kernel_rfl) (by kernel_rfl) (by kernel_rfl) (by kernel_rfl) (by decide) (fun _ _ _ h => h) (Or.inl ⟨by rfl, fun W hS => by go_simp⟩) trivial ?_
              simp only [List.setIfInBounds_toArray, List.set_cons_zero, List.set_cons_succ]
              refine P_takeW 3 126 (.slice G NN NN) #[true, true, true, true, false, false, false, false, false, false, false, false, false, false, false, false] rfl rfl (by kernel_rfl) (by kernel_rfl) (by kernel_rfl) (by kernel_rfl) (by decide) (fun _ _ _ h => h) (Or.inl ⟨by rfl, fun W hS => by go_simp⟩) trivial ?_
              simp only [List.setIfInBounds_toArray, List.set_cons_zero, List.set_cons_succ]
              refine P_takeW 4 127 (.int .i64 (j : Int)) #[true, true, true, true, true, false, false, false, false, false, false, false, false, false, false, false] rfl rfl (by kernel_rfl) (by kernel_rfl) (by kernel_rfl) (by kernel_rfl) (by decide) (fun _ _ _ h => h) (Or.inl ⟨by rfl, fun W hS => by go_simp⟩) trivial ?_
              simp only [List.setIfInBounds_toArray, List.set_cons_zero, List.set_cons_succ]
              refine P_takeW 5 128 (.slice (cut G NN j) j j) #[true, true, true, true, true, true, false, false, false, false, false, false, false, false, false, false] rfl rfl (by kernel_rfl) (by kernel_rfl) (by kernel_rfl) (by kernel_rfl) (by decide) (fun _ _ _ h => h) (Or.inl ⟨by rfl, fun W hS => by go_simp⟩) trivial ?_
              simp only [List.setIfInBounds_toArray, List.set_cons_zero, List.set_cons_succ]
              refine P_takeW 6 129 (.slice a0 k cap0) #[true, true, true, true, true, true, true, false, false, false, false, false, false, false, false, false] rfl rfl (by kernel_rfl) (by kernel_rfl) (by kernel_rfl) (by kernel_rfl) (by decide) (fun _ _ _ h => h) (Or.inl ⟨by rfl, fun W hS => by go_simp⟩) trivial ?_
              simp only [List.setIfInBounds_toArray, List.set_cons_zero, List.set_cons_succ]
              refine P_takeW 7 130 (.int .i64 (k : Int)) #[true, true, true, true, true, true, true, true, false, false, false, false, false, false, false, false] rfl rfl (by kernel_rfl) (by kernel_rfl) (by kernel_rfl) (by kernel_rfl) (by decide) (fun _ _ _ h => h) (Or.inl ⟨by rfl, fun W hS => by go_simp⟩) trivial ?_
              simp only [List.setIfInBounds_toArray, List.set_cons_zero, List.set_cons_succ]
              clear sl1 sl2
              refine P_two 8 13 #[true, true, true, true, true, true, true, true, true, false, false, false, false, false, false, false] #[true, true, true, true, true, true, true, true, false, false, false, false, false, true, false, false] rfl rfl rfl rfl (by kernel_rfl) rfl rfl (fun _ => trivial) (fun K hK => ?_) (fun K hK => ?_)
              · refine wp_mkd (n := k) 131 (.tmp 130) (.tmp 130) 22 rfl rfl el22 rfl rfl (by omega) (by unfold maxLen; omega) ?_
                intro GK wK hOK hBK _
                have HRK := Lib.hid (Own.rd (Own.of_eq (k := .i64) (xs := List.replicate k 0) hOK rfl (by simp)))
                have HZK := Lib.hid (HZ0.out.trans (hBK.mono HZ0.out.size))
                clear hOK hBK
                refine hK _ _ ?_
                clear hK K
                simp only [List.setIfInBounds_toArray, List.set_cons_zero, List.set_cons_succ]
                refine P_two 9 13 #[true, true, true, true, true, true, true, true, true, true, false, false, false, false, false, false] #[true, true, true, true, true, true, true, true, true, false, false, false, false, true, false, false] rfl rfl rfl rfl (by kernel_rfl) rfl rfl (fun _ => trivial) (fun K hK => ?_) (fun K hK => ?_)
                · go_simp
                  skip
                  refine (decode_fresh G (cut G NN j) GK j j k NN j k oo _ (by rw [← HOO.out]; exact Rdv.below HR1.out HZK.out) (by rw [← HOO.out]; exact Rdv.below HR2.out HZK.out) (by rw [← HOO.out]; exact HRK.out) HEND.out.1).mono ?_
                  rintro e wD ⟨dd, rfl, hdd, hbb, hfr, hBD⟩
                  have HFR := Lib.hid hfr
                  have HDD := Lib.hid hdd
                  have HBB := Lib.hid (hbb.trans HEND.out.2)
                  have HZD := Lib.hid (HZK.out.trans (hBD.mono HZK.out.size))
                  clear hdd hbb hBD hfr
                  refine hK _ _ ?_
                  clear hK K
                  refine P_takeW 10 122 (.tuple #[dd.val, .int .i64 0]) #[true, true, true, true, true, true, true, true, true, true, true, false, false, false, false, false] rfl rfl (by kernel_rfl) (by kernel_rfl) (by kernel_rfl) (by kernel_rfl) (by decide) (fun _ _ _ h => h) (Or.inl ⟨by rfl, fun W hS => by go_simp⟩) trivial ?_
                  simp only [List.setIfInBounds_toArray, List.set_cons_zero, List.set_cons_succ]
                  refine P_takeW 11 133 (dd.val) #[true, true, true, true, true, true, true, true, true, true, true, true, false, false, false, false] rfl rfl (by kernel_rfl) (by kernel_rfl) (by kernel_rfl) (by kernel_rfl) (by decide) (fun _ _ _ h => h) (Or.inl ⟨by rfl, fun W hS => by go_simp⟩) trivial ?_
                  simp only [List.setIfInBounds_toArray, List.set_cons_zero, List.set_cons_succ]
                  refine P_takeW 12 134 (.int .i64 0) #[true, true, true, true, true, true, true, true, true, true, true, true, true, false, false, false] rfl rfl (by kernel_rfl) (by kernel_rfl) (by kernel_rfl) (by kernel_rfl) (by decide) (fun _ _ _ h => h) (Or.inl ⟨by rfl, fun W hS => by go_simp⟩) trivial ?_
                  simp only [List.setIfInBounds_toArray, List.set_cons_zero, List.set_cons_succ]
                  refine P_one 13 #[true, true, true, true, true, true, true, true, true, true, true, true, true, true, false, false] rfl (by kernel_rfl) (by kernel_rfl) rfl (by kernel_rfl) (fun K hK => ?_)
                  go_simp
                  have h28 : Blk (wD.alloc (.cells #[.slice none 0 0, .slice none 0 0, .slice none 0 0] 28)) wD.heap.size 28 zero28 := Blk.new wD zero28 28 rfl
                  have HLE := Lib.hid HZD.out.size
                  have HZA := Lib.hid (HZD.out.alloc HZD.out.size (.cells #[.slice none 0 0, .slice none 0 0, .slice none 0 0] 28))
                  have hba : Below wD.heap.size wD (wD.alloc (.cells #[.slice none 0 0, .slice none 0 0, .slice none 0 0] 28)) := (Below.refl _ _).alloc (Nat.le_refl _) _
                  have HDD := Lib.hid (HDD.out.below hba)
                  clear hba
                  refine hK _ _ ?_
                  clear hK K
                  refine P_one 14 #[true, true, true, true, true, true, true, true, true, true, true, true, true, true, true, false] rfl (by kernel_rfl) (by kernel_rfl) rfl (by kernel_rfl) (fun K hK => ?_)
                  refine wp_strow (cs := dd.cs) 28 (.tmp 20) (.tmp 133) rfl rfl rfl h28 rfl (by rw [info28]; rfl) (by simp [Dc.cs, Value.oneCell']) ?_
                  intro W9 h1 h2
                  have HBL := Lib.hid h1
                  have HZ9 := Lib.hid (HZA.out.grown h2 HZA.out.size (fun k hk => by cases hk; exact HLE.out))
                  have HD9 := Lib.hid (HDD.out.put h2 (fun a ha => by have := HFR.out a ha; omega))
                  clear h1 h2 h28
                  refine hK _ _ ?_
                  clear hK K
                  refine P_one 15 #[true, true, true, true, true, true, true, true, true, true, true, true, true, true, true, true] rfl (by kernel_rfl) (by kernel_rfl) rfl (by kernel_rfl) (fun K hK => ?_)
                  go_simp
                  refine hK _ _ ?_
                  clear hK K
                  refine P_done (by kernel_rfl) ?_ _
                  go_wp2_with fail
                  go_meet
                  case rel => exact ⟨_, dd, rfl, rfl, HBL.out, HD9.out, HBB.out, HZ9.out⟩
                · go_simp
                  have h28 : Blk (wK.alloc (.cells #[.slice none 0 0, .slice none 0 0, .slice none 0 0] 28)) wK.heap.size 28 zero28 := Blk.new wK zero28 28 rfl
                  have HLE := Lib.hid HZK.out.size
                  have HZA := Lib.hid (HZK.out.alloc HZK.out.size (.cells #[.slice none 0 0, .slice none 0 0, .slice none 0 0] 28))
                  have hba : Below wK.heap.size wK (wK.alloc (.cells #[.slice none 0 0, .slice none 0 0, .slice none 0 0] 28)) := (Below.refl _ _).alloc (Nat.le_refl _) _
                  have HRK := Lib.hid (Rdv.below HRK.out hba)
                  clear hba
                  refine hK _ _ ?_
                  clear hK K
                  refine P_one 9 #[true, true, true, true, true, true, true, true, true, true, false, false, false, true, false, false] rfl (by kernel_rfl) (by kernel_rfl) rfl (by kernel_rfl) (fun K hK => ?_)
                  go_simp
                  have hblt := h28.lt
                  refine (decode_fresh G (cut G NN j) GK j j k NN j k oo _ (by rw [← HOO.out]; exact Rdv.below HR1.out HZA.out) (by rw [← HOO.out]; exact Rdv.below HR2.out HZA.out) (by rw [← HOO.out]; exact HRK.out) HEND.out.1).mono ?_
                  rintro e wD ⟨dd, rfl, hdd, hbb, hfr, hBD⟩
                  have HFR := Lib.hid hfr
                  have HDD := Lib.hid hdd
                  have HBB := Lib.hid (hbb.trans HEND.out.2)
                  have HZD := Lib.hid (HZA.out.trans (hBD.mono HZA.out.size))
                  have h28 := h28.below hBD
                  clear hdd hbb hBD hfr
                  refine hK _ _ ?_
                  clear hK K
                  refine P_takeW 10 122 (.tuple #[dd.val, .int .i64 0]) #[true, true, true, true, true, true, true, true, true, true, true, false, false, true, false, false] rfl rfl (by kernel_rfl) (by kernel_rfl) (by kernel_rfl) (by kernel_rfl) (by decide) (fun _ _ _ h => h) (Or.inl ⟨by rfl, fun W hS => by go_simp⟩) trivial ?_
                  simp only [List.setIfInBounds_toArray, List.set_cons_zero, List.set_cons_succ]
                  refine P_takeW 11 133 (dd.val) #[true, true, true, true, true, true, true, true, true, true, true, true, false, true, false, false] rfl rfl (by kernel_rfl) (by kernel_rfl) (by kernel_rfl) (by kernel_rfl) (by decide) (fun _ _ _ h => h) (Or.inl ⟨by rfl, fun W hS => by go_simp⟩) trivial ?_
                  simp only [List.setIfInBounds_toArray, List.set_cons_zero, List.set_cons_succ]
                  refine P_takeW 12 134 (.int .i64 0) #[true, true, true, true, true, true, true, true, true, true, true, true, true, true, false, false] rfl rfl (by kernel_rfl) (by kernel_rfl) (by kernel_rfl) (by kernel_rfl) (by decide) (fun _ _ _ h => h) (Or.inl ⟨by rfl, fun W hS => by go_simp⟩) trivial ?_
                  simp only [List.setIfInBounds_toArray, List.set_cons_zero, List.set_cons_succ]
                  refine P_one 14 #[true, true, true, true, true, true, true, true, true, true, true, true, true, true, true, false] rfl (by kernel_rfl) (by kernel_rfl) rfl (by kernel_rfl) (fun K hK => ?_)
                  refine wp_strow (cs := dd.cs) 28 (.tmp 20) (.tmp 133) rfl rfl rfl h28 rfl (by rw [info28]; rfl) (by simp [Dc.cs, Value.oneCell']) ?_
                  intro W9 h1 h2
                  have HBL := Lib.hid h1
                  have HZ9 := Lib.hid (HZD.out.grown h2 HZD.out.size (fun k hk => by cases hk; exact HLE.out))
                  have HD9 := Lib.hid (HDD.out.put h2 (fun a ha => by have := HFR.out a ha; omega))
                  clear h1 h2 h28
                  refine hK _ _ ?_
                  clear hK K
                  refine P_one 15 #[true, true, true, true, true, true, true, true, true, true, true, true, true, true, true, true] rfl (by kernel_rfl) (by kernel_rfl) rfl (by kernel_rfl) (fun K hK => ?_)
                  go_simp
                  refine hK _ _ ?_
                  clear hK K
                  refine P_done (by kernel_rfl) ?_ _
                  go_wp2_with fail
                  go_meet
                  case rel => exact ⟨_, dd, rfl, rfl, HBL.out, HD9.out, HBB.out, HZ9.out⟩
              · go_simp
                have h28 : Blk (wz.drew.alloc (.cells #[.slice none 0 0, .slice none 0 0, .slice none 0 0] 28)) wz.heap.size 28 zero28 := Blk.new wz.drew zero28 28 rfl
                have HLE := Lib.hid HZ0.out.size
                have HZA := Lib.hid (HZ0.out.alloc HZ0.out.size (.cells #[.slice none 0 0, .slice none 0 0, .slice none 0 0] 28))
                have hba : Below wz.drew.heap.size wz.drew (wz.drew.alloc (.cells #[.slice none 0 0, .slice none 0 0, .slice none 0 0] 28)) := (Below.refl _ _).alloc (Nat.le_refl _) _
                clear hba
                refine hK _ _ ?_
                clear hK K
                refine P_one 8 #[true, true, true, true, true, true, true, true, true, false, false, false, false, true, false, false] rfl (by kernel_rfl) (by kernel_rfl) rfl (by kernel_rfl) (fun K hK => ?_)
                refine wp_mkd (n := k) 131 (.tmp 130) (.tmp 130) 22 rfl rfl el22 rfl rfl (by omega) (by unfold maxLen; omega) ?_
                intro GK wK hOK hBK _
                have HRK := Lib.hid (Own.rd (Own.of_eq (k := .i64) (xs := List.replicate k 0) hOK rfl (by simp)))
                have HZK := Lib.hid (HZA.out.trans (hBK.mono HZA.out.size))
                have h28 := h28.below hBK
                clear hOK hBK
                refine hK _ _ ?_
                clear hK K
                simp only [List.setIfInBounds_toArray, List.set_cons_zero, List.set_cons_succ]
                refine P_one 9 #[true, true, true, true, true, true, true, true, true, true, false, false, false, true, false, false] rfl (by kernel_rfl) (by kernel_rfl) rfl (by kernel_rfl) (fun K hK => ?_)
                go_simp
                have hblt := h28.lt
                refine (decode_fresh G (cut G NN j) GK j j k NN j k oo _ (by rw [← HOO.out]; exact Rdv.below HR1.out HZK.out) (by rw [← HOO.out]; exact Rdv.below HR2.out HZK.out) (by rw [← HOO.out]; exact HRK.out) HEND.out.1).mono ?_
                rintro e wD ⟨dd, rfl, hdd, hbb, hfr, hBD⟩
                have HFR := Lib.hid hfr
                have HDD := Lib.hid hdd
                have HBB := Lib.hid (hbb.trans HEND.out.2)
                have HZD := Lib.hid (HZK.out.trans (hBD.mono HZK.out.size))
                have h28 := h28.below hBD
                clear hdd hbb hBD hfr
                refine hK _ _ ?_
                clear hK K
                refine P_takeW 10 122 (.tuple #[dd.val, .int .i64 0]) #[true, true, true, true, true, true, true, true, true, true, true, false, false, true, false, false] rfl rfl (by kernel_rfl) (by kernel_rfl) (by kernel_rfl) (by kernel_rfl) (by decide) (fun _ _ _ h => h) (Or.inl ⟨by rfl, fun W hS => by go_simp⟩) trivial ?_
                simp only [List.setIfInBounds_toArray, List.set_cons_zero, List.set_cons_succ]
                refine P_takeW 11 133 (dd.val) #[true, true, true, true, true, true, true, true, true, true, true, true, false, true, false, false] rfl rfl (by kernel_rfl) (by kernel_rfl) (by kernel_rfl) (by kernel_rfl) (by decide) (fun _ _ _ h => h) (Or.inl ⟨by rfl, fun W hS => by go_simp⟩) trivial ?_
                simp only [List.setIfInBounds_toArray, List.set_cons_zero, List.set_cons_succ]
                refine P_takeW 12 134 (.int .i64 0) #[true, true, true, true, true, true, true, true, true, true, true, true, true, true, false, false] rfl rfl (by kernel_rfl) (by kernel_rfl) (by kernel_rfl) (by kernel_rfl) (by decide) (fun _ _ _ h => h) (Or.inl ⟨by rfl, fun W hS => by go_simp⟩) trivial ?_
                simp only [List.setIfInBounds_toArray, List.set_cons_zero, List.set_cons_succ]
                refine P_one 14 #[true, true, true, true, true, true, true, true, true, true, true, true, true, true, true, false] rfl (by kernel_rfl) (by kernel_rfl) rfl (by kernel_rfl) (fun K hK => ?_)
                refine wp_strow (cs := dd.cs) 28 (.tmp 20) (.tmp 133) rfl rfl rfl h28 rfl (by rw [info28]; rfl) (by simp [Dc.cs, Value.oneCell']) ?_
                intro W9 h1 h2
                have HBL := Lib.hid h1
                have HZ9 := Lib.hid (HZD.out.grown h2 HZD.out.size (fun k hk => by cases hk; exact HLE.out))
                have HD9 := Lib.hid (HDD.out.put h2 (fun a ha => by have := HFR.out a ha; omega))
                clear h1 h2 h28
                refine hK _ _ ?_
                clear hK K
                refine P_one 15 #[true, true, true, true, true, true, true, true, true, true, true, true, true, true, true, true] rfl (by kernel_rfl) (by kernel_rfl) rfl (by kernel_rfl) (fun K hK => ?_)
                go_simp
                refine hK _ _ ?_
                clear hK K
                refine P_done (by kernel_rfl) ?_ _
                go_wp2_with fail
                go_meet
                case rel => exact ⟨_, dd, rfl, rfl, HBL.out, HD9.out, HBB.out, HZ9.out⟩
            case rest =>
              obtain ⟨b20, dd, rfl, rfl, hbl, hdd, hbb, hz⟩ := hcut
              have hcb := hbl.cell (j := 2) (v := .slice dd.A3 dd.n3 dd.c3) rfl
              have hu : ∀ v ∈ dd.b, 0 ≤ v ∧ v < 256 := hdd.u
              have HSM := Lib.hid (fun W h h' => same_any dd.A3 A3 dd.n3 dd.c3 k c3 dd.b (bs.map ib) W h h' hu (ib_wf bs))
              have HDD := Lib.hid hdd
              have HRB := Lib.hid (Rdv.below (Rdv.below HR3.out HBW.out) hz)
              have HBB := Lib.hid hbb
              have HZZ := Lib.hid (HB4.out.trans ((HBW.out.trans (hz.mono HBW.out.size)).mono HB4.out.size))
              clear hbl hdd hbb hz hu
              go_wp2_with fail
              refine (num_any _ _).mono ?_
              rintro e w9 ⟨rfl, rfl⟩
              go_wp2_with fail
              refine (HSM.out _ HDD.out.b HRB.out).mono ?_
              rintro e w9 ⟨rfl, rfl⟩
              rw [show decide (dd.b = bs.map ib) = true from decide_eq_true HBB.out]
              go_wp2_with fail
              refine (works_any _).mono ?_
              rintro e w10 ⟨rfl, hB10⟩
              go_wp2
              go_ret
              exact ⟨rfl, HZZ.out.trans (hB10.mono HZZ.out.size)⟩
          · have hbe : ((y : Int) != (x : Int)) = true := bne_t (by omega)
            have hyv : gi (vs.set x (-gi vs x)) y = gi vs y := by rw [gi_set' _ _ _ _ (by omega), if_neg (fun e => hxy e.symm)]
            have cz2 := Rd.cell (Own.rd hs1.1) hy1
            rw [hyv] at cz2
            have hs2 := Own.set_ hs1.1 hy1 (-gi vs y)
            have HROW : Hid (Own .i64 3 ((wq.setCell (adr G x) (.int .i64 (-gi vs x))).setCell (adr G y) (.int .i64 (-gi vs y))) w4.heap.size G NN NN (flip2 vs x y)) := Lib.hid (by
              unfold flip2 flip1
              rw [if_neg hxy, hyv]
              exact hs2.1)
            have HBW := Lib.hid (hb1.grown hs2.2 hb1.size (fun k hk => by cases hk; exact hg4))
            clear hs1 hs2 hO7 hB7 hb1 hg4 hyv
            go_wp2_with fail
            clear cz1 cz2 fz1 fz2 hbe hiG hiH
            generalize (wq.setCell (adr G x) (.int .i64 (-gi vs x))).setCell (adr G y) (.int .i64 (-gi vs y)) = wz at *
            have sl1 := fun W => Rdv.slh (Own.rd HROW.out) el22 .i64 (m := j) (by have := HNN.out; omega) W
            have sl2 : ∀ W, (Instr.sliceAt 22 (.slice G NN NN) (some (.int .i64 (j : Int))) none none).run Try.prog W = .ok (.slice (cut G NN j) j j) W := fun W => by
              have h := Rdv.sll (Own.rd HROW.out) el22 .i64 (l := j) (by have := HNN.out; omega) W
              rw [show NN - j = j from by have := HNN.out; omega] at h
              exact h
            have HEND := Lib.hid (hold_end HM.out (k := k) (N := j) (by omega) HN.out HL3.out (by have h := (Own.rd HROW.out).len; rw [flip2_len] at h; have := HNN.out; omega) HRow.out x y)
            have HR1 : Hid (Rd .i64 wz G j NN ((flip2 vs x y).take j)) := Lib.hid (Rd.upto (Own.rd HROW.out) (by have := HNN.out; omega))
            have HR2 : Hid (Rd .i64 wz (cut G NN j) j j ((flip2 vs x y).drop j)) := Lib.hid (cutN (Own.rd HROW.out) HNN.out)
            have HZ0 := Lib.hid ((Below.refl wz.heap.size wz).drew)
            generalize hoo : oH (flip2 vs x y) j k = oo at *
            have HOO := Lib.hid hoo
            clear hoo
            go_cut [20, 21] from 122 to 134 (fun d e wx => HoldC wz bs d e wx)
            case first =>
              refine P_start (fun _ => True) 8 16 #[false, false, false, false, false, false, false, false, false, false, false, false, false, false, false, false] (by kernel_rfl) (by kernel_rfl) (by kernel_rfl) ?_
              refine P_takeW 0 123 (.slice G NN NN) #[true, false, false, false, false, false, false, false, false, false, false, false, false, false, false, false] rfl rfl (by kernel_rfl) (by kernel_rfl) (by kernel_rfl) (by kernel_rfl) (by decide) (fun _ _ _ h => h) (Or.inl ⟨by rfl, fun W hS => by go_simp⟩) trivial ?_
              simp only [List.setIfInBounds_toArray, List.set_cons_zero, List.set_cons_succ]
              refine P_takeW 1 124 (.int .i64 (j : Int)) #[true, true, false, false, false, false, false, false, false, false, false, false, false, false, false, false] rfl rfl (by kernel_rfl) (by kernel_rfl) (by kernel_rfl) (by kernel_rfl) (by decide) (fun _ _ _ h => h) (Or.inl ⟨by rfl, fun W hS => by go_simp⟩) trivial ?_
              simp only [List.setIfInBounds_toArray, List.set_cons_zero, List.set_cons_succ]
              refine P_takeW 2 125 (.slice G j NN) #[true, true, true, false, false, false, false, false, false, false, false, false, false, false, false, false] rfl rfl (by kernel_rfl) (by kernel_rfl) (by kernel_rfl) (by kernel_rfl) (by decide) (fun _ _ _ h => h) (Or.inl ⟨by rfl, fun W hS => by go_simp⟩) trivial ?_
              simp only [List.setIfInBounds_toArray, List.set_cons_zero, List.set_cons_succ]
              refine P_takeW 3 126 (.slice G NN NN) #[true, true, true, true, false, false, false, false, false, false, false, false, false, false, false, false] rfl rfl (by kernel_rfl) (by kernel_rfl) (by kernel_rfl) (by kernel_rfl) (by decide) (fun _ _ _ h => h) (Or.inl ⟨by rfl, fun W hS => by go_simp⟩) trivial ?_
              simp only [List.setIfInBounds_toArray, List.set_cons_zero, List.set_cons_succ]
              refine P_takeW 4 127 (.int .i64 (j : Int)) #[true, true, true, true, true, false, false, false, false, false, false, false, false, false, false, false] rfl rfl (by kernel_rfl) (by kernel_rfl) (by kernel_rfl) (by kernel_rfl) (by decide) (fun _ _ _ h => h) (Or.inl ⟨by rfl, fun W hS => by go_simp⟩) trivial ?_
              simp only [List.setIfInBounds_toArray, List.set_cons_zero, List.set_cons_succ]
              refine P_takeW 5 128 (.slice (cut G NN j) j j) #[true, true, true, true, true, true, false, false, false, false, false, false, false, false, false, false] rfl rfl (by kernel_rfl) (by kernel_rfl) (by kernel_rfl) (by kernel_rfl) (by decide) (fun _ _ _ h => h) (Or.inl ⟨by rfl, fun W hS => by go_simp⟩) trivial ?_
              simp only [List.setIfInBounds_toArray, List.set_cons_zero, List.set_cons_succ]
              refine P_takeW 6 129 (.slice a0 k cap0) #[true, true, true, true, true, true, true, false, false, false, false, false, false, false, false, false] rfl rfl (by kernel_rfl) (by kernel_rfl) (by kernel_rfl) (by kernel_rfl) (by decide) (fun _ _ _ h => h) (Or.inl ⟨by rfl, fun W hS => by go_simp⟩) trivial ?_
              simp only [List.setIfInBounds_toArray, List.set_cons_zero, List.set_cons_succ]
              refine P_takeW 7 130 (.int .i64 (k : Int)) #[true, true, true, true, true, true, true, true, false, false, false, false, false, false, false, false] rfl rfl (by kernel_rfl) (by kernel_rfl) (by kernel_rfl) (by kernel_rfl) (by decide) (fun _ _ _ h => h) (Or.inl ⟨by rfl, fun W hS => by go_simp⟩) trivial ?_
              simp only [List.setIfInBounds_toArray, List.set_cons_zero, List.set_cons_succ]
              clear sl1 sl2
              refine P_two 8 13 #[true, true, true, true, true, true, true, true, true, false, false, false, false, false, false, false] #[true, true, true, true, true, true, true, true, false, false, false, false, false, true, false, false] rfl rfl rfl rfl (by kernel_rfl) rfl rfl (fun _ => trivial) (fun K hK => ?_) (fun K hK => ?_)
              · refine wp_mkd (n := k) 131 (.tmp 130) (.tmp 130) 22 rfl rfl el22 rfl rfl (by omega) (by unfold maxLen; omega) ?_
                intro GK wK hOK hBK _
                have HRK := Lib.hid (Own.rd (Own.of_eq (k := .i64) (xs := List.replicate k 0) hOK rfl (by simp)))
                have HZK := Lib.hid (HZ0.out.trans (hBK.mono HZ0.out.size))
                clear hOK hBK
                refine hK _ _ ?_
                clear hK K
                simp only [List.setIfInBounds_toArray, List.set_cons_zero, List.set_cons_succ]
                refine P_two 9 13 #[true, true, true, true, true, true, true, true, true, true, false, false, false, false, false, false] #[true, true, true, true, true, true, true, true, true, false, false, false, false, true, false, false] rfl rfl rfl rfl (by kernel_rfl) rfl rfl (fun _ => trivial) (fun K hK => ?_) (fun K hK => ?_)
                · go_simp
                  skip
                  refine (decode_fresh G (cut G NN j) GK j j k NN j k oo _ (by rw [← HOO.out]; exact Rdv.below HR1.out HZK.out) (by rw [← HOO.out]; exact Rdv.below HR2.out HZK.out) (by rw [← HOO.out]; exact HRK.out) HEND.out.1).mono ?_
                  rintro e wD ⟨dd, rfl, hdd, hbb, hfr, hBD⟩
                  have HFR := Lib.hid hfr
                  have HDD := Lib.hid hdd
                  have HBB := Lib.hid (hbb.trans HEND.out.2)
                  have HZD := Lib.hid (HZK.out.trans (hBD.mono HZK.out.size))
                  clear hdd hbb hBD hfr
                  refine hK _ _ ?_
                  clear hK K
                  refine P_takeW 10 122 (.tuple #[dd.val, .int .i64 0]) #[true, true, true, true, true, true, true, true, true, true, true, false, false, false, false, false] rfl rfl (by kernel_rfl) (by kernel_rfl) (by kernel_rfl) (by kernel_rfl) (by decide) (fun _ _ _ h => h) (Or.inl ⟨by rfl, fun W hS => by go_simp⟩) trivial ?_
                  simp only [List.setIfInBounds_toArray, List.set_cons_zero, List.set_cons_succ]
                  refine P_takeW 11 133 (dd.val) #[true, true, true, true, true, true, true, true, true, true, true, true, false, false, false, false] rfl rfl (by kernel_rfl) (by kernel_rfl) (by kernel_rfl) (by kernel_rfl) (by decide) (fun _ _ _ h => h) (Or.inl ⟨by rfl, fun W hS => by go_simp⟩) trivial ?_
                  simp only [List.setIfInBounds_toArray, List.set_cons_zero, List.set_cons_succ]
                  refine P_takeW 12 134 (.int .i64 0) #[true, true, true, true, true, true, true, true, true, true, true, true, true, false, false, false] rfl rfl (by kernel_rfl) (by kernel_rfl) (by kernel_rfl) (by kernel_rfl) (by decide) (fun _ _ _ h => h) (Or.inl ⟨by rfl, fun W hS => by go_simp⟩) trivial ?_
                  simp only [List.setIfInBounds_toArray, List.set_cons_zero, List.set_cons_succ]
                  refine P_one 13 #[true, true, true, true, true, true, true, true, true, true, true, true, true, true, false, false] rfl (by kernel_rfl) (by kernel_rfl) rfl (by kernel_rfl) (fun K hK => ?_)
                  go_simp
                  have h28 : Blk (wD.alloc (.cells #[.slice none 0 0, .slice none 0 0, .slice none 0 0] 28)) wD.heap.size 28 zero28 := Blk.new wD zero28 28 rfl
                  have HLE := Lib.hid HZD.out.size
                  have HZA := Lib.hid (HZD.out.alloc HZD.out.size (.cells #[.slice none 0 0, .slice none 0 0, .slice none 0 0] 28))
                  have hba : Below wD.heap.size wD (wD.alloc (.cells #[.slice none 0 0, .slice none 0 0, .slice none 0 0] 28)) := (Below.refl _ _).alloc (Nat.le_refl _) _
                  have HDD := Lib.hid (HDD.out.below hba)
                  clear hba
                  refine hK _ _ ?_
                  clear hK K
                  refine P_one 14 #[true, true, true, true, true, true, true, true, true, true, true, true, true, true, true, false] rfl (by kernel_rfl) (by kernel_rfl) rfl (by kernel_rfl) (fun K hK => ?_)
                  refine wp_strow (cs := dd.cs) 28 (.tmp 20) (.tmp 133) rfl rfl rfl h28 rfl (by rw [info28]; rfl) (by simp [Dc.cs, Value.oneCell']) ?_
                  intro W9 h1 h2
                  have HBL := Lib.hid h1
                  have HZ9 := Lib.hid (HZA.out.grown h2 HZA.out.size (fun k hk => by cases hk; exact HLE.out))
                  have HD9 := Lib.hid (HDD.out.put h2 (fun a ha => by have := HFR.out a ha; omega))
                  clear h1 h2 h28
                  refine hK _ _ ?_
                  clear hK K
                  refine P_one 15 #[true, true, true, true, true, true, true, true, true, true, true, true, true, true, true, true] rfl (by kernel_rfl) (by kernel_rfl) rfl (by kernel_rfl) (fun K hK => ?_)
                  go_simp
                  refine hK _ _ ?_
                  clear hK K
                  refine P_done (by kernel_rfl) ?_ _
                  go_wp2_with fail
                  go_meet
                  case rel => exact ⟨_, dd, rfl, rfl, HBL.out, HD9.out, HBB.out, HZ9.out⟩
                · go_simp
                  have h28 : Blk (wK.alloc (.cells #[.slice none 0 0, .slice none 0 0, .slice none 0 0] 28)) wK.heap.size 28 zero28 := Blk.new wK zero28 28 rfl
                  have HLE := Lib.hid HZK.out.size
                  have HZA := Lib.hid (HZK.out.alloc HZK.out.size (.cells #[.slice none 0 0, .slice none 0 0, .slice none 0 0] 28))
                  have hba : Below wK.heap.size wK (wK.alloc (.cells #[.slice none 0 0, .slice none 0 0, .slice none 0 0] 28)) := (Below.refl _ _).alloc (Nat.le_refl _) _
                  have HRK := Lib.hid (Rdv.below HRK.out hba)
                  clear hba
                  refine hK _ _ ?_
                  clear hK K
                  refine P_one 9 #[true, true, true, true, true, true, true, true, true, true, false, false, false, true, false, false] rfl (by kernel_rfl) (by kernel_rfl) rfl (by kernel_rfl) (fun K hK => ?_)
                  go_simp
                  have hblt := h28.lt
                  refine (decode_fresh G (cut G NN j) GK j j k NN j k oo _ (by rw [← HOO.out]; exact Rdv.below HR1.out HZA.out) (by rw [← HOO.out]; exact Rdv.below HR2.out HZA.out) (by rw [← HOO.out]; exact HRK.out) HEND.out.1).mono ?_
                  rintro e wD ⟨dd, rfl, hdd, hbb, hfr, hBD⟩
                  have HFR := Lib.hid hfr
                  have HDD := Lib.hid hdd
                  have HBB := Lib.hid (hbb.trans HEND.out.2)
                  have HZD := Lib.hid (HZA.out.trans (hBD.mono HZA.out.size))
                  have h28 := h28.below hBD
                  clear hdd hbb hBD hfr
                  refine hK _ _ ?_
                  clear hK K
                  refine P_takeW 10 122 (.tuple #[dd.val, .int .i64 0]) #[true, true, true, true, true, true, true, true, true, true, true, false, false, true, false, false] rfl rfl (by kernel_rfl) (by kernel_rfl) (by kernel_rfl) (by kernel_rfl) (by decide) (fun _ _ _ h => h) (Or.inl ⟨by rfl, fun W hS => by go_simp⟩) trivial ?_
                  simp only [List.setIfInBounds_toArray, List.set_cons_zero, List.set_cons_succ]
                  refine P_takeW 11 133 (dd.val) #[true, true, true, true, true, true, true, true, true, true, true, true, false, true, false, false] rfl rfl (by kernel_rfl) (by kernel_rfl) (by kernel_rfl) (by kernel_rfl) (by decide) (fun _ _ _ h => h) (Or.inl ⟨by rfl, fun W hS => by go_simp⟩) trivial ?_
                  simp only [List.setIfInBounds_toArray, List.set_cons_zero, List.set_cons_succ]
                  refine P_takeW 12 134 (.int .i64 0) #[true, true, true, true, true, true, true, true, true, true, true, true, true, true, false, false] rfl rfl (by kernel_rfl) (by kernel_rfl) (by kernel_rfl) (by kernel_rfl) (by decide) (fun _ _ _ h => h) (Or.inl ⟨by rfl, fun W hS => by go_simp⟩) trivial ?_
                  simp only [List.setIfInBounds_toArray, List.set_cons_zero, List.set_cons_succ]
                  refine P_one 14 #[true, true, true, true, true, true, true, true, true, true, true, true, true, true, true, false] rfl (by kernel_rfl) (by kernel_rfl) rfl (by kernel_rfl) (fun K hK => ?_)
                  refine wp_strow (cs := dd.cs) 28 (.tmp 20) (.tmp 133) rfl rfl rfl h28 rfl (by rw [info28]; rfl) (by simp [Dc.cs, Value.oneCell']) ?_
                  intro W9 h1 h2
                  have HBL := Lib.hid h1
                  have HZ9 := Lib.hid (HZD.out.grown h2 HZD.out.size (fun k hk => by cases hk; exact HLE.out))
                  have HD9 := Lib.hid (HDD.out.put h2 (fun a ha => by have := HFR.out a ha; omega))
                  clear h1 h2 h28
                  refine hK _ _ ?_
                  clear hK K
                  refine P_one 15 #[true, true, true, true, true, true, true, true, true, true, true, true, true, true, true, true] rfl (by kernel_rfl) (by kernel_rfl) rfl (by kernel_rfl) (fun K hK => ?_)
                  go_simp
                  refine hK _ _ ?_
                  clear hK K
                  refine P_done (by kernel_rfl) ?_ _
                  go_wp2_with fail
                  go_meet
                  case rel => exact ⟨_, dd, rfl, rfl, HBL.out, HD9.out, HBB.out, HZ9.out⟩
              · go_simp
                have h28 : Blk (wz.drew.alloc (.cells #[.slice none 0 0, .slice none 0 0, .slice none 0 0] 28)) wz.heap.size 28 zero28 := Blk.new wz.drew zero28 28 rfl
                have HLE := Lib.hid HZ0.out.size
                have HZA := Lib.hid (HZ0.out.alloc HZ0.out.size (.cells #[.slice none 0 0, .slice none 0 0, .slice none 0 0] 28))
                have hba : Below wz.drew.heap.size wz.drew (wz.drew.alloc (.cells #[.slice none 0 0, .slice none 0 0, .slice none 0 0] 28)) := (Below.refl _ _).alloc (Nat.le_refl _) _
                clear hba
                refine hK _ _ ?_
                clear hK K
                refine P_one 8 #[true, true, true, true, true, true, true, true, true, false, false, false, false, true, false, false] rfl (by kernel_rfl) (by kernel_rfl) rfl (by kernel_rfl) (fun K hK => ?_)
                refine wp_mkd (n := k) 131 (.tmp 130) (.tmp 130) 22 rfl rfl el22 rfl rfl (by omega) (by unfold maxLen; omega) ?_
                intro GK wK hOK hBK _
                have HRK := Lib.hid (Own.rd (Own.of_eq (k := .i64) (xs := List.replicate k 0) hOK rfl (by simp)))
                have HZK := Lib.hid (HZA.out.trans (hBK.mono HZA.out.size))
                have h28 := h28.below hBK
                clear hOK hBK
                refine hK _ _ ?_
                clear hK K
                simp only [List.setIfInBounds_toArray, List.set_cons_zero, List.set_cons_succ]
                refine P_one 9 #[true, true, true, true, true, true, true, true, true, true, false, false, false, true, false, false] rfl (by kernel_rfl) (by kernel_rfl) rfl (by kernel_rfl) (fun K hK => ?_)
                go_simp
                have hblt := h28.lt
                refine (decode_fresh G (cut G NN j) GK j j k NN j k oo _ (by rw [← HOO.out]; exact Rdv.below HR1.out HZK.out) (by rw [← HOO.out]; exact Rdv.below HR2.out HZK.out) (by rw [← HOO.out]; exact HRK.out) HEND.out.1).mono ?_
                rintro e wD ⟨dd, rfl, hdd, hbb, hfr, hBD⟩
                have HFR := Lib.hid hfr
                have HDD := Lib.hid hdd
                have HBB := Lib.hid (hbb.trans HEND.out.2)
                have HZD := Lib.hid (HZK.out.trans (hBD.mono HZK.out.size))
                have h28 := h28.below hBD
                clear hdd hbb hBD hfr
                refine hK _ _ ?_
                clear hK K
                refine P_takeW 10 122 (.tuple #[dd.val, .int .i64 0]) #[true, true, true, true, true, true, true, true, true, true, true, false, false, true, false, false] rfl rfl (by kernel_rfl) (by kernel_rfl) (by kernel_rfl) (by kernel_rfl) (by decide) (fun _ _ _ h => h) (Or.inl ⟨by rfl, fun W hS => by go_simp⟩) trivial ?_
                simp only [List.setIfInBounds_toArray, List.set_cons_zero, List.set_cons_succ]
                refine P_takeW 11 133 (dd.val) #[true, true, true, true, true, true, true, true, true, true, true, true, false, true, false, false] rfl rfl (by kernel_rfl) (by kernel_rfl) (by kernel_rfl) (by kernel_rfl) (by decide) (fun _ _ _ h => h) (Or.inl ⟨by rfl, fun W hS => by go_simp⟩) trivial ?_
                simp only [List.setIfInBounds_toArray, List.set_cons_zero, List.set_cons_succ]
                refine P_takeW 12 134 (.int .i64 0) #[true, true, true, true, true, true, true, true, true, true, true, true, true, true, false, false] rfl rfl (by kernel_rfl) (by kernel_rfl) (by kernel_rfl) (by kernel_rfl) (by decide) (fun _ _ _ h => h) (Or.inl ⟨by rfl, fun W hS => by go_simp⟩) trivial ?_
                simp only [List.setIfInBounds_toArray, List.set_cons_zero, List.set_cons_succ]
                refine P_one 14 #[true, true, true, true, true, true, true, true, true, true, true, true, true, true, true, false] rfl (by kernel_rfl) (by kernel_rfl) rfl (by kernel_rfl) (fun K hK => ?_)
                refine wp_strow (cs := dd.cs) 28 (.tmp 20) (.tmp 133) rfl rfl rfl h28 rfl (by rw [info28]; rfl) (by simp [Dc.cs, Value.oneCell']) ?_
                intro W9 h1 h2
                have HBL := Lib.hid h1
                have HZ9 := Lib.hid (HZD.out.grown h2 HZD.out.size (fun k hk => by cases hk; exact HLE.out))
                have HD9 := Lib.hid (HDD.out.put h2 (fun a ha => by have := HFR.out a ha; omega))
                clear h1 h2 h28
                refine hK _ _ ?_
                clear hK K
                refine P_one 15 #[true, true, true, true, true, true, true, true, true, true, true, true, true, true, true, true] rfl (by kernel_rfl) (by kernel_rfl) rfl (by kernel_rfl) (fun K hK => ?_)
                go_simp
                refine hK _ _ ?_
                clear hK K
                refine P_done (by kernel_rfl) ?_ _
                go_wp2_with fail
                go_meet
                case rel => exact ⟨_, dd, rfl, rfl, HBL.out, HD9.out, HBB.out, HZ9.out⟩
            case rest =>
              obtain ⟨b20, dd, rfl, rfl, hbl, hdd, hbb, hz⟩ := hcut
              have hcb := hbl.cell (j := 2) (v := .slice dd.A3 dd.n3 dd.c3) rfl
              have hu : ∀ v ∈ dd.b, 0 ≤ v ∧ v < 256 := hdd.u
              have HSM := Lib.hid (fun W h h' => same_any dd.A3 A3 dd.n3 dd.c3 k c3 dd.b (bs.map ib) W h h' hu (ib_wf bs))
              have HDD := Lib.hid hdd
              have HRB := Lib.hid (Rdv.below (Rdv.below HR3.out HBW.out) hz)
              have HBB := Lib.hid hbb
              have HZZ := Lib.hid (HB4.out.trans ((HBW.out.trans (hz.mono HBW.out.size)).mono HB4.out.size))
              clear hbl hdd hbb hz hu
              go_wp2_with fail
              refine (num_any _ _).mono ?_
              rintro e w9 ⟨rfl, rfl⟩
              go_wp2_with fail
              refine (HSM.out _ HDD.out.b HRB.out).mono ?_
              rintro e w9 ⟨rfl, rfl⟩
              rw [show decide (dd.b = bs.map ib) = true from decide_eq_true HBB.out]
              go_wp2_with fail
              refine (works_any _).mono ?_
              rintro e w10 ⟨rfl, hB10⟩
              go_wp2
              go_ret
              exact ⟨rfl, HZZ.out.trans (hB10.mono HZZ.out.size)⟩

set_option maxRecDepth 100000 in
theorem lifted (os : Os) (started : os.Started) (H : Type) (enc : TypeId × Value → H) :
    ReturnsInHanded {} Try.checked os 5 .any (Rows.sisoHoldsSpec.pre6 enc Try.prog Try.f5 Rows.sisoHoldsRow.domain false) (Rows.sisoHoldsSpec.post enc Try.prog Try.f5 false true false false) := by
  refine returnsInHanded_of_change (C := Try.checked) own started (by kernel_rfl) Try.func5
    (ChangeSpec.witness6 (enc := enc) (C := Try.checked) false ⟨#[], #[.slice none 0 0, .int .u8 0, .int .u16 0, .int .u16 0], []⟩ 8 (by kernel_rfl) (by kernel_rfl) (by kernel_rfl) (by kernel_rfl)) ?_
  intro W base args ds gs before hval0 hW hcnd _
  have hval : ∀ (j : Nat) t v, Try.f5.params[j]? = some t → args[j]? = some v → Value.okWide Try.prog W .any base t v := hval0
  have hW' := hW
  obtain ⟨p, q, hA0, hV, rfl, hfz, hnd⟩ := hW
  have hA : DataW.TrodAll enc Try.prog W 0 (fun _ => true) true Try.f5.params.toList args.toList ds p := hA0
  rw [Try.params5] at hA hval
  obtain ⟨v0, vs0, d0, ds0, p0, q0, hargs, rfl, rfl, h0, r0⟩ := trodAll_cons hA
  obtain ⟨v1, vs1, d1, ds1, p1, q1, rfl, rfl, rfl, h1, r1⟩ := trodAll_cons r0
  obtain ⟨v2, vs2, d2, ds2, p2, q2, rfl, rfl, rfl, h2, r2⟩ := trodAll_cons r1
  obtain ⟨v3, vs3, d3, ds3, p3, q3, rfl, rfl, rfl, h3, r3⟩ := trodAll_cons r2
  obtain ⟨rfl, rfl, rfl⟩ := trodAll_nil r3
  obtain rfl : args = #[v0, v1, v2, v3] := by cases args; simp_all
  obtain ⟨rfl, rfl⟩ := trodVars_none hV
  obtain ⟨a0, len0, cap0, rfl⟩ := okWide_slice Try.underlying26 (hval 0 26 v0 rfl rfl)
  have k0 := h0
  have lt0 : ∀ x ∈ p0, x.block < W.heap.size := by obtain ⟨m, hm⟩ := k0; exact DataW.trod_lt m _ _ _ hm
  obtain ⟨z0, w0⟩ : ∃ zs, IsRow .u8 W a0 len0 cap0 zs := by
    obtain ⟨fuel, hf⟩ := h0
    rcases open_ints Try.underlying26 Try.underlying5 (by kernel_rfl) hf with ⟨hcs, _⟩ | ⟨x, l, c, zs, hcs, _, hl, hm, hz, _, hcell, hwz⟩
    · simp [Value.cells] at hcs
      obtain ⟨rfl, rfl, rfl⟩ := hcs
      exact ⟨[], .inl ⟨rfl, rfl, rfl, rfl⟩⟩
    · simp [Value.cells] at hcs
      obtain ⟨rfl, rfl, rfl⟩ := hcs
      exact ⟨zs, .inr ⟨_, rfl, hl, hm, by simpa using hz, hcell, hwz⟩⟩
  obtain ⟨a1, rfl, rfl, rfl, w1⟩ := open_int Try.underlying5 (hval 1 5 v1 rfl rfl) h1
  obtain ⟨a2, rfl, rfl, rfl, w2⟩ := open_int Try.underlying42 (hval 2 42 v2 rfl rfl) h2
  obtain ⟨a3, rfl, rfl, rfl, w3⟩ := open_int Try.underlying42 (hval 3 42 v3 rfl rfl) h3
  clear hA0 hval0
  refine (walk a0 len0 cap0 z0 a1 a2 a3 W w0 w1 w2 w3).mono fun e W' ⟨he, bel⟩ => ?_
  subst he
  exact ⟨_, rfl, _, _, _, [], _, [], hW', trodAll_mk1 (shut_bool Try.underlying4 _), (trodAll_cons_mk (Below.trod laidOut (by kernel_rfl) (of_decide_eq_true (by kernel_rfl)) k0 bel lt0) (trodAll_cons_mk (shut_int Try.underlying5 w1) (trodAll_cons_mk (shut_int Try.underlying42 w2) (trodAll_cons_mk (shut_int Try.underlying42 w3) trodAll_mk0)))), rfl, bel.frame _, fun h => by cases h⟩

theorem over : Rows.sisoHoldsRow.holds Try.pinned (OpenSpec.ofChange Rows.sisoHoldsSpec) :=
  OpenClaim.holds_of_wide 5 Try.f5 rfl rfl rfl rfl rfl rfl rfl ⟨rfl, rfl, rfl, rfl, rfl⟩ rfl rfl rfl rfl rfl (by kernel_rfl) Try.func5 (by kernel_rfl)
    (of_decide_eq_true (by kernel_rfl)) (by unfold Func.isWrapper; first | (rw [if_pos (by decide +kernel)]; kernel_rfl) | (rw [if_neg (by decide +kernel)]; exact ⟨rfl, rfl⟩))
    (fun os started H enc _ => lifted os started H enc)

theorem proved : Rows.SisoHoldsSaid := over
#print axioms proved
end Go.Proofs.Ytmdjclfmhndjnaa.sisoHolds
