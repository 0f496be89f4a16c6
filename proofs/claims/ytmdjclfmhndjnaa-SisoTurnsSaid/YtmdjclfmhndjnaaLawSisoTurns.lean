/-
  Proves Rows.SisoTurnsSaid: called with any arguments the Go function userplanelaw13.SisoTurns returns true and leaves its arguments as they were. Conditions: none.
-/
import Derived.Test.YtmdjclfmhndjnaaRows
import Derived.Test.YtmdjclfmhndjnaaEd
import Derived.WalkKit
import Derived.ProofKit
import Derived.OpenShut
import Derived.ShutString
import Derived.ChangeOld
import Derived.Below
namespace Go.Proofs.Ytmdjclfmhndjnaa.sisoTurns
open Go.ChangeShapes Go.WideShapes Go.ChangeAt Go.RowKit
open Go.ChangeMaps (open_string shut_string)
set_option linter.unusedVariables false

theorem own : ownKnob Try.prog.godebug = none := by kernel_rfl
theorem laidOut : laidOutB Try.prog = true := by kernel_rfl

def IsRow (k : IntKind) (w : World) (a : Option Addr) (len cap : Nat) (zs : List Int) : Prop :=
  (a = none ∧ len = 0 ∧ cap = 0 ∧ zs = []) ∨
  ∃ x, a = some x ∧ len ≤ cap ∧ cap ≤ maxLen ∧ zs.length = cap ∧ (∀ i, i < zs.length → w.cell? (x.add i) = some (.int k (zs.getD i 0))) ∧ ∀ n ∈ zs, (Lit.int k n).wf = true

set_option maxRecDepth 100000 in
set_option maxHeartbeats 1600000 in
theorem walk (a0 : Option Addr) (len0 cap0 : Nat) (z0 : List Int) (a1 : Option Addr) (len1 cap1 : Nat) (z1 : List Int) (a2 : Option Addr) (len2 cap2 : Nat) (z2 : List Int) (a3 : Option Addr) (len3 cap3 : Nat) (z3 : List Int) (w : World) (w0 : IsRow .i64 w a0 len0 cap0 z0) (w1 : IsRow .i64 w a1 len1 cap1 z1) (w2 : IsRow .i64 w a2 len2 cap2 z2) (w3 : IsRow .u8 w a3 len3 cap3 z3) :
    Calls Try.prog 4 #[.slice a0 len0 cap0, .slice a1 len1 cap1, .slice a2 len2 cap2, .slice a3 len3 cap3] w fun e w' => e = .returned (.bool true) ∧ Below w.heap.size w w' := by
  obtain ⟨hx0, -⟩ := rd_of_row w0
  obtain ⟨hx1, -⟩ := rd_of_row w1
  obtain ⟨hx2, -⟩ := rd_of_row w2
  obtain ⟨hx3, hu3⟩ := rd_of_row w3
  generalize z0.take len0 = xs at *
  generalize z1.take len1 = ys at *
  generalize z2.take len2 = zs at *
  generalize z3.take len3 = us at *
  clear w0 w1 w2 w3
  have b0 := hx0.bd.1
  have b1 := hx1.bd.1
  have b2 := hx2.bd.1
  have b3 := hx3.bd.1
  by_cases hf : (len0 : Int) ≤ 103 ∧ (len1 : Int) ≤ 103 ∧ (len2 : Int) ≤ 103
  · have HF := Lib.hid (fun W => few_any 103 a0 a1 a2 len0 cap0 len1 cap1 len2 cap2 W b0 b1 b2)
    have HFT := Lib.hid (decide_eq_true hf)
    have e0 := hx0.len
    have e1 := hx1.len
    have e2 := hx2.len
    have e3 := hx3.len
    subst e0
    subst e1
    subst e2
    subst e3
    obtain ⟨l0, l1, l2⟩ := hf
    by_cases hlb : us.length < zs.length
    · clear hx0 hx1 hx2 hx3 hu3
      go_enter Try.func4, Try.ntmps4
      go_wp2_with fail
      refine (HF.out _).mono ?_
      rintro e w' ⟨rfl, rfl⟩
      rw [HFT.out]
      go_wp2_with fail
      refine (works_any _).mono ?_
      rintro e w9 ⟨rfl, hB9⟩
      go_wp2
      go_ret
      exact ⟨rfl, hB9⟩
    have HI := Lib.hid (show In3 w (⟨xs, ys, zs⟩ : Ob) a0 a1 a2 cap0 cap1 cap2 from ⟨hx0, hx1, hx2⟩)
    have HU := Lib.hid hx3
    have HV := Lib.hid hu3
    have HDEC := Lib.hid (decode_all a0 a1 a2 cap0 cap1 cap2 ⟨xs, ys, zs⟩ w HI.out)
    clear hx0 hx1 hx2 hx3 hu3
    obtain ⟨o, ho⟩ : ∃ o : Ob, o = ⟨xs, ys, zs⟩ := ⟨_, rfl⟩
    rw [← ho] at HI HDEC
    have s1 : o.s = xs := by rw [ho]
    have s2 : o.p = ys := by rw [ho]
    have s3 : o.a = zs := by rw [ho]
    subst s1
    subst s2
    subst s3
    clear ho
    go_enter Try.func4, Try.ntmps4
    go_wp2_with fail
    refine (HF.out _).mono ?_
    rintro e w' ⟨rfl, rfl⟩
    rw [HFT.out]
    go_wp2_with fail
    refine HDEC.out.mono ?_
    rintro e w1 ⟨d1, rfl, hd1, t1, u1, v1, hB1⟩
    have HD1 := Lib.hid hd1
    have HB1 := Lib.hid hB1
    have HT1 := Lib.hid (And.intro t1 u1)
    have h28 : Blk (w1.alloc (.cells #[.slice none 0 0, .slice none 0 0, .slice none 0 0] 28)) w1.heap.size 28 zero28 := Blk.new w1 zero28 28 rfl
    clear hB1 hd1 t1 u1 v1 HF HFT HDEC
    rcases Classical.em (¬ o.ok) with hok | hok
    · have hE := Ob.err_cases hok
      generalize o.err = E at *
      have hne : (E != 0) = true := by simp; omega
      clear hE
      go_wp2_with (first
        | (refine strow (cs := d1.cs) rfl 28 (.tmp 9) (.tmp 36) rfl rfl rfl h28 rfl (by rw [info28]; rfl) (by simp [Dc.cs, Value.oneCell']) ?_; intro W2 h1 h2; have H2 := Lib.hid h2; clear h1 h2 h28)
        | (go_at_call 15; refine (num_any _ _).mono ?_; rintro e w9 ⟨rfl, rfl⟩))
      refine (works_any _).mono ?_
      rintro e w9 ⟨rfl, hB9⟩
      have hq2 : Below w1.heap.size w1 W2 := ((Below.refl _ w1).alloc (Nat.le_refl _) _).grown H2.out (by simp) (fun k hk => by cases hk; exact Nat.le_refl _)
      have hb := HB1.out.trans ((hq2.trans (hB9.mono hq2.size)).mono HB1.out.size)
      go_wp2
      go_ret
      exact ⟨rfl, hb⟩
    replace hok := Classical.not_not.1 hok
    rw [Ob.err_ok hok]
    have HOK := Lib.hid hok
    have HLS := Lib.hid hok.2.2.1
    have HLP := Lib.hid hok.2.2.2.1
    clear hok
    go_wp2_with (refine strow (cs := d1.cs) rfl 28 (.tmp 9) (.tmp 36) rfl rfl rfl h28 rfl (by rw [info28]; rfl) (by simp [Dc.cs, Value.oneCell']) ?_; intro W2 h1 h2; have H29 := Lib.hid h1; have H2 := Lib.hid h2; clear h1 h2 h28)
    have hq2 : Below w1.heap.size w1 W2 := ((Below.refl _ w1).alloc (Nat.le_refl _) _).grown H2.out (by simp) (fun k hk => by cases hk; exact Nat.le_refl _)
    have HD2 := Lib.hid (HD1.out.below hq2)
    have HB2 := Lib.hid (HB1.out.trans (hq2.mono HB1.out.size))
    clear hq2 H2 HD1 HB1
    generalize w1.heap.size = b9 at *
    refine (num_any _ _).mono ?_
    rintro e w9 ⟨rfl, rfl⟩
    go_wp2_with fail
    obtain ⟨bs, hbs⟩ : ∃ bs, bs = bsF us := ⟨_, rfl⟩
    have HBS := Lib.hid hbs
    clear hbs
    go_loopw [11, 12] (fun b i wr => BitI W2 bs o.a.length b i wr) (fun _ i _ => o.a.length - (intOf i).toNat)
    case atStart => exact ⟨0, none, 0, by omega, rfl, rfl, Own.nilv _ _ _ _, Below.refl _ _⟩
    case round =>
      obtain ⟨j, A3, c3, hj, rfl, rfl, hO3, hB3⟩ := hrel
      by_cases hlt : j < o.a.length
      · have hju : j < us.length := by omega
        have hu := Rdv.below HU.out (HB2.out.trans (hB3.mono HB2.out.size))
        have hc := Rd.cell hu hju
        have hix := fun W => Rdv.ix HU.out el26 hju .i64 W
        have hv0 := (bounds_u8 (HV.out (gi us j) (by simp [gi, List.getD, hju]))).1
        obtain ⟨t1, t2⟩ := low_bit (gi us j) hv0
        have HSU := Lib.hid (bsF_succ us j hju)
        have HO3 := Lib.hid hO3
        have HB3 := Lib.hid hB3
        clear hu hO3 hB3 hv0
        generalize gi us j = v at *
        generalize decide (v % 2 = 1) = x at *
        go_wp2_with (at_builtin
                     refine list_of rfl fun K hK => wp_app1 (base := W2.heap.size) _ _ 26 rfl el26 rfl (.int .u8 (ib x)) rfl rfl HO3.out (by omega) (by omega) HB3.out.size ?_
                     intro A4 c4 w4 h1 h2
                     refine hK _ _ ?_
                     clear hK K
                     have H41 := Lib.hid h1
                     have H42 := Lib.hid h2
                     clear h1 h2)
        go_roundw
        case rel =>
          refine ⟨j + 1, A4, c4, by omega, by go_num, rfl, ?_, HB3.out.grown H42.out HB3.out.size (fun k hk => Ownv.ob' HO3.out hk)⟩
          rw [HBS.out, HSU.out, List.map_append, ← HBS.out]
          exact Own.of_eq H41.out rfl (by simp)
        case measure => simp [intOf]; omega
      · obtain rfl : j = o.a.length := by omega
        have HR3 := Lib.hid (Own.rd hO3)
        have HL3 : Hid ((bs.take o.a.length).length = o.a.length) := Lib.hid (by have := (Own.rd hO3).len; simpa using this)
        have HB3 := Lib.hid (HB2.out.trans (hB3.mono HB2.out.size))
        have HD3 := Lib.hid (HD2.out.below hB3)
        have H39 := Lib.hid (H29.out.below hB3)
        have HI3 := Lib.hid (HI.out.below HB3.out)
        clear hO3 hB3 HB2 HD2 H29 HI HU HV HBS hlb
        generalize bs.take o.a.length = bt at *
        go_wp2_with fail
        refine (word17_any A3 o.a.length c3 bt _ HR3.out (by omega)).mono ?_
        rintro e w4 ⟨A4, c4, A5, c5, rfl, hO4, hR5, hB4⟩
        have HR4 := Lib.hid (Own.rd hO4)
        have HR5 := Lib.hid hR5
        have HR3 := Lib.hid (Rdv.below HR3.out hB4)
        have HB4 := Lib.hid (HB3.out.trans (hB4.mono HB3.out.size))
        have HD4 := Lib.hid (HD3.out.below hB4)
        have H49 := Lib.hid (H39.out.below hB4)
        have HI4 := Lib.hid (HI3.out.below hB4)
        clear hO4 hR5 hB4 HB3 HD3 H39 HI3
        go_wp2_with fail
        refine (flipped_any a0 A4 o.s.length cap0 (o.a.length + 3) c4 o.s (inW bt) _ HI4.out.s HR4.out (by omega) (by rw [HLS.out]; omega) (row_bd HOK.out.2.2.2.2.1)).mono ?_
        rintro e w5 ⟨A6, c6, rfl, hO6, hB5⟩
        have HR6 := Lib.hid (Own.rd hO6)
        have HR5 := Lib.hid (Rdv.below HR5.out hB5)
        have HR3 := Lib.hid (Rdv.below HR3.out hB5)
        have HB5 := Lib.hid (HB4.out.trans (hB5.mono HB4.out.size))
        have HD5 := Lib.hid (HD4.out.below hB5)
        have H59 := Lib.hid (H49.out.below hB5)
        have HI5 := Lib.hid (HI4.out.below hB5)
        clear hO6 hB5 HB4 HD4 H49 HI4 HR4
        go_wp2_with fail
        refine (flipped_any a1 A5 o.p.length cap1 (o.a.length + 3) c5 o.p (outW bt) _ HI5.out.p HR5.out (by omega) (by rw [HLP.out]; omega) (row_bd HOK.out.2.2.2.2.2.1)).mono ?_
        rintro e w6 ⟨A7, c7, rfl, hO7, hB6⟩
        have HR7 := Lib.hid (Own.rd hO7)
        have HR6 := Lib.hid (Rdv.below HR6.out hB6)
        have HR3 := Lib.hid (Rdv.below HR3.out hB6)
        have HB6 := Lib.hid (HB5.out.trans (hB6.mono HB5.out.size))
        have HD6 := Lib.hid (HD5.out.below hB6)
        have H69 := Lib.hid (H59.out.below hB6)
        have HI6 := Lib.hid (HI5.out.below hB6)
        clear hO7 hB6 HB5 HD5 H59 HI5 HR5
        go_wp2_with fail
        refine (flipped_any a2 A3 o.a.length cap2 o.a.length c3 o.a bt _ HI6.out.a HR3.out (by omega) (by omega) (row_bd HOK.out.2.2.2.2.2.2)).mono ?_
        rintro e w7 ⟨A8, c8, rfl, hO8, hB7⟩
        have HR8 := Lib.hid (Own.rd hO8)
        have HR7 := Lib.hid (Rdv.below HR7.out hB7)
        have HR6 := Lib.hid (Rdv.below HR6.out hB7)
        have HR3 := Lib.hid (Rdv.below HR3.out hB7)
        have HB7 := Lib.hid (HB6.out.trans (hB7.mono HB6.out.size))
        have HD7 := Lib.hid (HD6.out.below hB7)
        have H79 := Lib.hid (H69.out.below hB7)
        clear hO8 hB7 HB6 HD6 H69 HI6
        go_wp2_with fail
        refine (decode_turn A6 A7 A8 c6 c7 c8 _ HR6.out HR7.out HR8.out).mono ?_
        rintro e w8 ⟨d2, rfl, hd2, t2, u2, v2, hB8⟩
        rw [Ob.err_ok (turn_ok HOK.out bt)]
        have HT2 := Lib.hid (And.intro (t2.trans (turn_dT HOK.out HL3.out)) (u2.trans (turn_dE HOK.out HL3.out)))
        have HE8 := Lib.hid hd2
        have HR3 := Lib.hid (Rdv.below HR3.out hB8)
        have HB8 := Lib.hid (HB7.out.trans (hB8.mono HB7.out.size))
        have HD8 := Lib.hid (HD7.out.below hB8)
        have H89 := Lib.hid (H79.out.below hB8)
        have h28 : Blk (w8.alloc (.cells #[.slice none 0 0, .slice none 0 0, .slice none 0 0] 28)) w8.heap.size 28 zero28 := Blk.new w8 zero28 28 rfl
        clear hd2 t2 u2 v2 hB8 HB7 HD7 H79 HR6 HR7 HR8
        go_wp2_with (refine strow (cs := d2.cs) rfl 28 (.tmp 16) (.tmp 75) rfl rfl rfl h28 rfl (by rw [info28]; rfl) (by simp [Dc.cs, Value.oneCell']) ?_; intro W9 h1 h2; have H16 := Lib.hid h1; have H2 := Lib.hid h2; clear h1 h2 h28)
        have hq9 : Below w8.heap.size w8 W9 := ((Below.refl _ w8).alloc (Nat.le_refl _) _).grown H2.out (by simp) (fun k hk => by cases hk; exact Nat.le_refl _)
        have HR3 := Lib.hid (Rdv.below HR3.out hq9)
        have HB9 := Lib.hid (HB8.out.trans (hq9.mono HB8.out.size))
        have HD9 := Lib.hid (HD8.out.below hq9)
        have HE9 := Lib.hid (HE8.out.below hq9)
        have H99 := Lib.hid (H89.out.below hq9)
        clear hq9 H2 HB8 HD8 HE8 H89
        generalize w8.heap.size = b16 at *
        have n1 : d1.n1 = o.a.length := by rw [← (HD9.out).t.len, HT1.out.1]; exact dT_len HOK.out
        have n2 : d1.n2 = o.a.length := by rw [← (HD9.out).e.len, HT1.out.2]; exact dE_len HOK.out
        have HN := Lib.hid (And.intro n1 n2)
        clear n1 n2
        have hdr : Below W9.heap.size W9 W9.drew := (Below.refl _ W9).drew
        have HR3 := Lib.hid (Rdv.below HR3.out hdr)
        have HBA := Lib.hid (HB9.out.trans (hdr.mono HB9.out.size))
        have HDA := Lib.hid (HD9.out.below hdr)
        have HEA := Lib.hid (HE9.out.below hdr)
        have HA9 := Lib.hid (H99.out.below hdr)
        have H16 := Lib.hid (H16.out.below hdr)
        have HSA := Lib.hid (TrS.of H16.out HA9.out)
        clear HB9 HD9 HE9 H99
        have HS0 := HSA
        clear hdr
        refine P_start (TrS b16 b9 d1 d2) 19 25 #[false, false, false, false, false, false, false, false, false, false, false, false, false, false, false, false, false, false, false, false, false, false, false, false, false] (by kernel_rfl) (by kernel_rfl) (by kernel_rfl) ?_
        refine P_takeW 0 77 (.int .i64 0) #[true, false, false, false, false, false, false, false, false, false, false, false, false, false, false, false, false, false, false, false, false, false, false, false, false] rfl rfl (by kernel_rfl) (by kernel_rfl) (by kernel_rfl) (by kernel_rfl) (by decide) (fun _ _ _ h => h) (Or.inl ⟨by rfl, fun W hS => by go_simp⟩) HS0.out ?_
        simp only [List.setIfInBounds_toArray, List.set_cons_zero, List.set_cons_succ]
        refine P_oneS 1 #[true, true, false, false, false, false, false, false, false, false, false, false, false, false, false, false, false, false, false, false, false, false, false, false, false] rfl (by kernel_rfl) (by kernel_rfl) rfl (fun K hK => ?_)
        go_simp
        refine (num_any _ _).mono ?_
        rintro e w9 ⟨rfl, rfl⟩
        refine hK _ _ HSA.out ?_
        clear hK K
        refine P_takeW 2 79 (.bool true) #[true, true, true, false, false, false, false, false, false, false, false, false, false, false, false, false, false, false, false, false, false, false, false, false, false] rfl rfl (by kernel_rfl) (by kernel_rfl) (by kernel_rfl) (by kernel_rfl) (by decide) (fun _ _ _ h => h) (Or.inl ⟨by rfl, fun W hS => by go_simp⟩) HS0.out ?_
        simp only [List.setIfInBounds_toArray, List.set_cons_zero, List.set_cons_succ]
        refine P_takeW 3 80 (.bool true) #[true, true, true, true, false, false, false, false, false, false, false, false, false, false, false, false, false, false, false, false, false, false, false, false, false] rfl rfl (by kernel_rfl) (by kernel_rfl) (by kernel_rfl) (by kernel_rfl) (by decide) (fun _ _ _ h => h) (Or.inl ⟨by rfl, fun W hS => by go_simp⟩) HS0.out ?_
        simp only [List.setIfInBounds_toArray, List.set_cons_zero, List.set_cons_succ]
        refine P_takeW 4 81 (.pointer (some ⟨b16, 0, none⟩)) #[true, true, true, true, true, false, false, false, false, false, false, false, false, false, false, false, false, false, false, false, false, false, false, false, false] rfl rfl (by kernel_rfl) (by kernel_rfl) (by kernel_rfl) (by kernel_rfl) (by decide) (fun _ _ _ h => h) (Or.inl ⟨by rfl, fun W hS => by go_simp⟩) HS0.out ?_
        simp only [List.setIfInBounds_toArray, List.set_cons_zero, List.set_cons_succ]
        refine P_takeT 5 82 (.slice d2.A1 d2.n1 d2.c1) #[true, true, true, true, true, true, false, false, false, false, false, false, false, false, false, false, false, false, false, false, false, false, false, false, false] [12, 10] rfl rfl (by kernel_rfl) (by kernel_rfl) (by kernel_rfl) (by kernel_rfl) (by kernel_rfl) (by kernel_rfl) (by kernel_rfl) (by decide) (fun _ _ _ h => h) (Or.inl ⟨by rfl, fun W hS => by obtain ⟨s0, s1, s2, s3⟩ := hS; go_simp⟩) HS0.out ?_
        simp only [List.setIfInBounds_toArray, List.set_cons_zero, List.set_cons_succ]
        refine P_takeW 6 83 (.pointer (some ⟨b9, 0, none⟩)) #[true, true, true, true, true, true, true, false, false, false, false, false, false, false, false, false, false, false, false, false, false, false, false, false, false] rfl rfl (by kernel_rfl) (by kernel_rfl) (by kernel_rfl) (by kernel_rfl) (by decide) (fun _ _ _ h => h) (Or.inl ⟨by rfl, fun W hS => by go_simp⟩) HS0.out ?_
        simp only [List.setIfInBounds_toArray, List.set_cons_zero, List.set_cons_succ]
        refine P_takeT 7 84 (.slice d1.A1 d1.n1 d1.c1) #[true, true, true, true, true, true, true, true, false, false, false, false, false, false, false, false, false, false, false, false, false, false, false, false, false] [12, 10, 9] rfl rfl (by kernel_rfl) (by kernel_rfl) (by kernel_rfl) (by kernel_rfl) (by kernel_rfl) (by kernel_rfl) (by kernel_rfl) (by decide) (fun _ _ _ h => h) (Or.inl ⟨by rfl, fun W hS => by obtain ⟨s0, s1, s2, s3⟩ := hS; go_simp⟩) HS0.out ?_
        simp only [List.setIfInBounds_toArray, List.set_cons_zero, List.set_cons_succ]
        refine P_takeW 8 85 (.slice A3 o.a.length c3) #[true, true, true, true, true, true, true, true, true, false, false, false, false, false, false, false, false, false, false, false, false, false, false, false, false] rfl rfl (by kernel_rfl) (by kernel_rfl) (by kernel_rfl) (by kernel_rfl) (by decide) (fun _ _ _ h => h) (Or.inl ⟨by rfl, fun W hS => by go_simp⟩) HS0.out ?_
        simp only [List.setIfInBounds_toArray, List.set_cons_zero, List.set_cons_succ]
        refine P_oneSG 9 #[true, true, true, true, true, true, true, true, true, true, false, false, false, false, false, false, false, false, false, false, false, false, false, false, false] rfl (by kernel_rfl) (by kernel_rfl) (by rfl) (fun K hK => ?_)
        go_simp
        rw [HN.out.1]
        refine (flipped_any d1.A1 A3 o.a.length d1.c1 o.a.length c3 d1.t bt _ (by rw [← HN.out.1]; exact HDA.out.t) HR3.out (by omega) (by omega) (by rw [HT1.out.1]; exact fun j hj => dT_bd HOK.out j hj)).mono ?_
        rintro e wA ⟨A10, c10, rfl, hO10, hBA⟩
        have HRX := Lib.hid (Own.rd hO10)
        have HR3 := Lib.hid (Rdv.below HR3.out hBA)
        have HBB := Lib.hid (HBA.out.trans (hBA.mono HBA.out.size))
        have HDB := Lib.hid (HDA.out.below hBA)
        have HEB := Lib.hid (HEA.out.below hBA)
        have HB9 := Lib.hid (HA9.out.below hBA)
        have H16 := Lib.hid (H16.out.below hBA)
        have HSB := Lib.hid (TrS.of H16.out HB9.out)
        clear HBA HDA HEA HA9
        clear hO10 hBA
        refine hK _ _ HSB.out ?_
        clear hK K
        refine P_oneSG 10 #[true, true, true, true, true, true, true, true, true, true, true, false, false, false, false, false, false, false, false, false, false, false, false, false, false] rfl (by kernel_rfl) (by kernel_rfl) (by rfl) (fun K hK => ?_)
        go_simp
        refine (ints_any _ _ _ _ _ _ _ _ _ HEB.out.t HRX.out).mono ?_
        rintro e wB ⟨rfl, hQB⟩
        rw [show decide (d2.t = flp d1.t bt) = true from decide_eq_true (by rw [HT2.out.1, HT1.out.1])]
        have hBB := Qt.below hQB wA.heap.size
        have HR3 := Lib.hid (Rdv.below HR3.out hBB)
        have HBC := Lib.hid (HBB.out.trans (hBB.mono HBB.out.size))
        have HDC := Lib.hid (HDB.out.below hBB)
        have HEC := Lib.hid (HEB.out.below hBB)
        have HC9 := Lib.hid (HB9.out.below hBB)
        have H16 := Lib.hid (H16.out.below hBB)
        have HSC := Lib.hid (TrS.of H16.out HC9.out)
        clear HBB HDB HEB HB9
        clear hQB hBB HRX
        refine hK _ _ HSC.out ?_
        clear hK K
        refine P_takeW 11 88 (.bool true) #[true, true, true, true, true, true, true, true, true, true, true, true, false, false, false, false, false, false, false, false, false, false, false, false, false] rfl rfl (by kernel_rfl) (by kernel_rfl) (by kernel_rfl) (by kernel_rfl) (by decide) (fun _ _ _ h => h) (Or.inl ⟨by rfl, fun W hS => by go_simp⟩) HSC.out ?_
        simp only [List.setIfInBounds_toArray, List.set_cons_zero, List.set_cons_succ]
        refine P_takeW 12 89 (.bool true) #[true, true, true, true, true, true, true, true, true, true, true, true, true, false, false, false, false, false, false, false, false, false, false, false, false] rfl rfl (by kernel_rfl) (by kernel_rfl) (by kernel_rfl) (by kernel_rfl) (by decide) (fun _ _ _ h => h) (Or.inl ⟨by rfl, fun W hS => by go_simp⟩) HSC.out ?_
        simp only [List.setIfInBounds_toArray, List.set_cons_zero, List.set_cons_succ]
        refine P_takeW 13 90 (.pointer (some ⟨b16, 1, none⟩)) #[true, true, true, true, true, true, true, true, true, true, true, true, true, true, false, false, false, false, false, false, false, false, false, false, false] rfl rfl (by kernel_rfl) (by kernel_rfl) (by kernel_rfl) (by kernel_rfl) (by decide) (fun _ _ _ h => h) (Or.inl ⟨by rfl, fun W hS => by go_simp⟩) HSC.out ?_
        simp only [List.setIfInBounds_toArray, List.set_cons_zero, List.set_cons_succ]
        refine P_take 14 91 (.slice d2.A2 d2.n2 d2.c2) #[true, true, true, true, true, true, true, true, true, true, true, true, true, true, true, false, false, false, false, false, false, false, false, false, false] rfl rfl (by kernel_rfl) (by kernel_rfl) (by kernel_rfl) (by kernel_rfl) (by kernel_rfl) (by kernel_rfl) (by decide) (fun _ _ _ h => h) (Or.inl ⟨by rfl, fun W hS => by obtain ⟨s0, s1, s2, s3⟩ := hS; go_simp⟩) HSC.out ?_
        simp only [List.setIfInBounds_toArray, List.set_cons_zero, List.set_cons_succ]
        refine P_takeW 15 92 (.pointer (some ⟨b9, 1, none⟩)) #[true, true, true, true, true, true, true, true, true, true, true, true, true, true, true, true, false, false, false, false, false, false, false, false, false] rfl rfl (by kernel_rfl) (by kernel_rfl) (by kernel_rfl) (by kernel_rfl) (by decide) (fun _ _ _ h => h) (Or.inl ⟨by rfl, fun W hS => by go_simp⟩) HSC.out ?_
        simp only [List.setIfInBounds_toArray, List.set_cons_zero, List.set_cons_succ]
        refine P_takeT 16 93 (.slice d1.A2 d1.n2 d1.c2) #[true, true, true, true, true, true, true, true, true, true, true, true, true, true, true, true, true, false, false, false, false, false, false, false, false] [18] rfl rfl (by kernel_rfl) (by kernel_rfl) (by kernel_rfl) (by kernel_rfl) (by kernel_rfl) (by kernel_rfl) (by kernel_rfl) (by decide) (fun _ _ _ h => h) (Or.inl ⟨by rfl, fun W hS => by obtain ⟨s0, s1, s2, s3⟩ := hS; go_simp⟩) HSC.out ?_
        simp only [List.setIfInBounds_toArray, List.set_cons_zero, List.set_cons_succ]
        refine P_takeW 17 94 (.slice A3 o.a.length c3) #[true, true, true, true, true, true, true, true, true, true, true, true, true, true, true, true, true, true, false, false, false, false, false, false, false] rfl rfl (by kernel_rfl) (by kernel_rfl) (by kernel_rfl) (by kernel_rfl) (by decide) (fun _ _ _ h => h) (Or.inl ⟨by rfl, fun W hS => by go_simp⟩) HSC.out ?_
        simp only [List.setIfInBounds_toArray, List.set_cons_zero, List.set_cons_succ]
        refine P_oneSG 18 #[true, true, true, true, true, true, true, true, true, true, true, true, true, true, true, true, true, true, true, false, false, false, false, false, false] rfl (by kernel_rfl) (by kernel_rfl) (by rfl) (fun K hK => ?_)
        go_simp
        rw [HN.out.2]
        refine (flipped_any d1.A2 A3 o.a.length d1.c2 o.a.length c3 d1.e bt _ (by rw [← HN.out.2]; exact HDC.out.e) HR3.out (by omega) (by omega) (by rw [HT1.out.2]; exact fun j hj => dE_bd HOK.out j hj)).mono ?_
        rintro e wC ⟨A11, c11, rfl, hO11, hBC⟩
        have HRX := Lib.hid (Own.rd hO11)
        have HR3 := Lib.hid (Rdv.below HR3.out hBC)
        have HBD := Lib.hid (HBC.out.trans (hBC.mono HBC.out.size))
        have HDD := Lib.hid (HDC.out.below hBC)
        have HED := Lib.hid (HEC.out.below hBC)
        have HD9 := Lib.hid (HC9.out.below hBC)
        have H16 := Lib.hid (H16.out.below hBC)
        have HSD := Lib.hid (TrS.of H16.out HD9.out)
        clear HBC HDC HEC HC9
        clear hO11 hBC
        refine hK _ _ HSD.out ?_
        clear hK K
        refine P_oneG 19 #[true, true, true, true, true, true, true, true, true, true, true, true, true, true, true, true, true, true, true, true, false, false, false, false, false] rfl (by kernel_rfl) (by kernel_rfl) (by rfl) (by kernel_rfl) (fun K hK => ?_)
        go_simp
        refine (ints_any _ _ _ _ _ _ _ _ _ HED.out.e HRX.out).mono ?_
        rintro e wD ⟨rfl, hQD⟩
        rw [show decide (d2.e = flp d1.e bt) = true from decide_eq_true (by rw [HT2.out.2, HT1.out.2])]
        have HBE := Lib.hid (HBD.out.trans ((Qt.below hQD wC.heap.size).mono HBD.out.size))
        clear hQD HRX
        refine hK _ _ ?_
        clear hK K
        refine P_takeX 20 97 (.bool true) #[true, true, true, true, true, true, true, true, true, true, true, true, true, true, true, true, true, true, true, true, true, false, false, false, false] rfl rfl (by kernel_rfl) (by kernel_rfl) (by kernel_rfl) (by kernel_rfl) (by decide) (fun _ _ _ h => h) (Or.inl ⟨by rfl, fun W hS => by go_simp⟩) rfl ?_
        simp only [List.setIfInBounds_toArray, List.set_cons_zero, List.set_cons_succ]
        refine P_takeX 21 98 (.bool true) #[true, true, true, true, true, true, true, true, true, true, true, true, true, true, true, true, true, true, true, true, true, true, false, false, false] rfl rfl (by kernel_rfl) (by kernel_rfl) (by kernel_rfl) (by kernel_rfl) (by decide) (fun _ _ _ h => h) (Or.inl ⟨by rfl, fun W hS => by go_simp⟩) rfl ?_
        simp only [List.setIfInBounds_toArray, List.set_cons_zero, List.set_cons_succ]
        refine P_oneG 22 #[true, true, true, true, true, true, true, true, true, true, true, true, true, true, true, true, true, true, true, true, true, true, true, false, false] rfl (by kernel_rfl) (by kernel_rfl) (by rfl) (by kernel_rfl) (fun K hK => ?_)
        go_simp
        refine (works_any _).mono ?_
        rintro e wE ⟨rfl, hBE⟩
        have HBF := Lib.hid (HBE.out.trans (hBE.mono HBE.out.size))
        clear hBE
        refine hK _ _ ?_
        clear hK K
        refine P_one 23 #[true, true, true, true, true, true, true, true, true, true, true, true, true, true, true, true, true, true, true, true, true, true, true, true, false] rfl (by kernel_rfl) (by kernel_rfl) rfl (by kernel_rfl) (fun K hK => ?_)
        go_simp
        refine hK _ _ ?_
        clear hK K
        refine P_one 24 #[true, true, true, true, true, true, true, true, true, true, true, true, true, true, true, true, true, true, true, true, true, true, true, true, true] rfl (by kernel_rfl) (by kernel_rfl) rfl (by kernel_rfl) (fun K hK => ?_)
        go_simp
        refine hK _ _ ?_
        clear hK K
        refine P_done (by kernel_rfl) ?_ _
        go_wp2
        go_ret
        exact ⟨rfl, HBF.out⟩
  · have HF := Lib.hid (fun W => few_any 103 a0 a1 a2 len0 cap0 len1 cap1 len2 cap2 W b0 b1 b2)
    have HFF := Lib.hid (decide_eq_false hf)
    clear hf hx0 hx1 hx2 hx3 hu3
    go_enter Try.func4, Try.ntmps4
    go_wp2_with fail
    refine (HF.out _).mono ?_
    rintro e w' ⟨rfl, rfl⟩
    rw [HFF.out]
    go_wp2_with fail
    refine (works_any _).mono ?_
    rintro e w9 ⟨rfl, hB9⟩
    go_wp2
    go_ret
    exact ⟨rfl, hB9⟩

set_option maxRecDepth 100000 in
theorem lifted (os : Os) (started : os.Started) (H : Type) (enc : TypeId × Value → H) :
    ReturnsInHanded {} Try.checked os 4 .any (Rows.sisoTurnsSpec.pre6 enc Try.prog Try.f4 Rows.sisoTurnsRow.domain false) (Rows.sisoTurnsSpec.post enc Try.prog Try.f4 false true false false) := by
  refine returnsInHanded_of_change (C := Try.checked) own started (by kernel_rfl) Try.func4
    (ChangeSpec.witness6 (enc := enc) (C := Try.checked) false ⟨#[], #[.slice none 0 0, .slice none 0 0, .slice none 0 0, .slice none 0 0], []⟩ 8 (by kernel_rfl) (by kernel_rfl) (by kernel_rfl) (by kernel_rfl)) ?_
  intro W base args ds gs before hval0 hW hcnd _
  have hval : ∀ (j : Nat) t v, Try.f4.params[j]? = some t → args[j]? = some v → Value.okWide Try.prog W .any base t v := hval0
  have hW' := hW
  obtain ⟨p, q, hA0, hV, rfl, hfz, hnd⟩ := hW
  have hA : DataW.TrodAll enc Try.prog W 0 (fun _ => true) true Try.f4.params.toList args.toList ds p := hA0
  rw [Try.params4] at hA hval
  obtain ⟨v0, vs0, d0, ds0, p0, q0, hargs, rfl, rfl, h0, r0⟩ := trodAll_cons hA
  obtain ⟨v1, vs1, d1, ds1, p1, q1, rfl, rfl, rfl, h1, r1⟩ := trodAll_cons r0
  obtain ⟨v2, vs2, d2, ds2, p2, q2, rfl, rfl, rfl, h2, r2⟩ := trodAll_cons r1
  obtain ⟨v3, vs3, d3, ds3, p3, q3, rfl, rfl, rfl, h3, r3⟩ := trodAll_cons r2
  obtain ⟨rfl, rfl, rfl⟩ := trodAll_nil r3
  obtain rfl : args = #[v0, v1, v2, v3] := by cases args; simp_all
  obtain ⟨rfl, rfl⟩ := trodVars_none hV
  obtain ⟨a0, len0, cap0, rfl⟩ := okWide_slice Try.underlying22 (hval 0 22 v0 rfl rfl)
  have k0 := h0
  have lt0 : ∀ x ∈ p0, x.block < W.heap.size := by obtain ⟨m, hm⟩ := k0; exact DataW.trod_lt m _ _ _ hm
  obtain ⟨z0, w0⟩ : ∃ zs, IsRow .i64 W a0 len0 cap0 zs := by
    obtain ⟨fuel, hf⟩ := h0
    rcases open_ints Try.underlying22 Try.underlying3 (by kernel_rfl) hf with ⟨hcs, _⟩ | ⟨x, l, c, zs, hcs, _, hl, hm, hz, _, hcell, hwz⟩
    · simp [Value.cells] at hcs
      obtain ⟨rfl, rfl, rfl⟩ := hcs
      exact ⟨[], .inl ⟨rfl, rfl, rfl, rfl⟩⟩
    · simp [Value.cells] at hcs
      obtain ⟨rfl, rfl, rfl⟩ := hcs
      exact ⟨zs, .inr ⟨_, rfl, hl, hm, by simpa using hz, hcell, hwz⟩⟩
  obtain ⟨a1, len1, cap1, rfl⟩ := okWide_slice Try.underlying22 (hval 1 22 v1 rfl rfl)
  have k1 := h1
  have lt1 : ∀ x ∈ p1, x.block < W.heap.size := by obtain ⟨m, hm⟩ := k1; exact DataW.trod_lt m _ _ _ hm
  obtain ⟨z1, w1⟩ : ∃ zs, IsRow .i64 W a1 len1 cap1 zs := by
    obtain ⟨fuel, hf⟩ := h1
    rcases open_ints Try.underlying22 Try.underlying3 (by kernel_rfl) hf with ⟨hcs, _⟩ | ⟨x, l, c, zs, hcs, _, hl, hm, hz, _, hcell, hwz⟩
    · simp [Value.cells] at hcs
      obtain ⟨rfl, rfl, rfl⟩ := hcs
      exact ⟨[], .inl ⟨rfl, rfl, rfl, rfl⟩⟩
    · simp [Value.cells] at hcs
      obtain ⟨rfl, rfl, rfl⟩ := hcs
      exact ⟨zs, .inr ⟨_, rfl, hl, hm, by simpa using hz, hcell, hwz⟩⟩
  obtain ⟨a2, len2, cap2, rfl⟩ := okWide_slice Try.underlying22 (hval 2 22 v2 rfl rfl)
  have k2 := h2
  have lt2 : ∀ x ∈ p2, x.block < W.heap.size := by obtain ⟨m, hm⟩ := k2; exact DataW.trod_lt m _ _ _ hm
  obtain ⟨z2, w2⟩ : ∃ zs, IsRow .i64 W a2 len2 cap2 zs := by
    obtain ⟨fuel, hf⟩ := h2
    rcases open_ints Try.underlying22 Try.underlying3 (by kernel_rfl) hf with ⟨hcs, _⟩ | ⟨x, l, c, zs, hcs, _, hl, hm, hz, _, hcell, hwz⟩
    · simp [Value.cells] at hcs
      obtain ⟨rfl, rfl, rfl⟩ := hcs
      exact ⟨[], .inl ⟨rfl, rfl, rfl, rfl⟩⟩
    · simp [Value.cells] at hcs
      obtain ⟨rfl, rfl, rfl⟩ := hcs
      exact ⟨zs, .inr ⟨_, rfl, hl, hm, by simpa using hz, hcell, hwz⟩⟩
  obtain ⟨a3, len3, cap3, rfl⟩ := okWide_slice Try.underlying26 (hval 3 26 v3 rfl rfl)
  have k3 := h3
  have lt3 : ∀ x ∈ p3, x.block < W.heap.size := by obtain ⟨m, hm⟩ := k3; exact DataW.trod_lt m _ _ _ hm
  obtain ⟨z3, w3⟩ : ∃ zs, IsRow .u8 W a3 len3 cap3 zs := by
    obtain ⟨fuel, hf⟩ := h3
    rcases open_ints Try.underlying26 Try.underlying5 (by kernel_rfl) hf with ⟨hcs, _⟩ | ⟨x, l, c, zs, hcs, _, hl, hm, hz, _, hcell, hwz⟩
    · simp [Value.cells] at hcs
      obtain ⟨rfl, rfl, rfl⟩ := hcs
      exact ⟨[], .inl ⟨rfl, rfl, rfl, rfl⟩⟩
    · simp [Value.cells] at hcs
      obtain ⟨rfl, rfl, rfl⟩ := hcs
      exact ⟨zs, .inr ⟨_, rfl, hl, hm, by simpa using hz, hcell, hwz⟩⟩
  clear hA0 hval0
  refine (walk a0 len0 cap0 z0 a1 len1 cap1 z1 a2 len2 cap2 z2 a3 len3 cap3 z3 W w0 w1 w2 w3).mono fun e W' ⟨he, bel⟩ => ?_
  subst he
  exact ⟨_, rfl, _, _, _, [], _, [], hW', trodAll_mk1 (shut_bool Try.underlying4 _), (trodAll_cons_mk (Below.trod laidOut (by kernel_rfl) (of_decide_eq_true (by kernel_rfl)) k0 bel lt0) (trodAll_cons_mk (Below.trod laidOut (by kernel_rfl) (of_decide_eq_true (by kernel_rfl)) k1 bel lt1) (trodAll_cons_mk (Below.trod laidOut (by kernel_rfl) (of_decide_eq_true (by kernel_rfl)) k2 bel lt2) (trodAll_cons_mk (Below.trod laidOut (by kernel_rfl) (of_decide_eq_true (by kernel_rfl)) k3 bel lt3) trodAll_mk0)))), rfl, bel.frame _, fun h => by cases h⟩

theorem over : Rows.sisoTurnsRow.holds Try.pinned (OpenSpec.ofChange Rows.sisoTurnsSpec) :=
  OpenClaim.holds_of_wide 4 Try.f4 rfl rfl rfl rfl rfl rfl rfl ⟨rfl, rfl, rfl, rfl, rfl⟩ rfl rfl rfl rfl rfl (by kernel_rfl) Try.func4 (by kernel_rfl)
    (of_decide_eq_true (by kernel_rfl)) (by unfold Func.isWrapper; first | (rw [if_pos (by decide +kernel)]; kernel_rfl) | (rw [if_neg (by decide +kernel)]; exact ⟨rfl, rfl⟩))
    (fun os started H enc _ => lifted os started H enc)

theorem proved : Rows.SisoTurnsSaid := over
#print axioms proved
end Go.Proofs.Ytmdjclfmhndjnaa.sisoTurns
