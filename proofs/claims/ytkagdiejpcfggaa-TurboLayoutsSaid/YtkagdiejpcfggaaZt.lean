/-
  The walk of the statement on the layouts and on the iteration over steps, arguments up to the bound. Condition: the first argument is at most 1100.
-/
import Derived.Test.YtkagdiejpcfggaaZr
import Derived.OpenShut
import Derived.LoopNIn
namespace Go.Proofs.Ytkagdiejpcfggaa
open Go.RowKit Go.Shelf
set_option linter.unusedVariables false
attribute [local go_sem] Oper.semAt_some
set_option maxRecDepth 100000 in
set_option maxHeartbeats 8000000 in
theorem layouts_lo (a0 a1 a2 : Int) (w : World) (w0 : (Lit.int .i64 a0).wf = true) (w1 : (Lit.int .i64 a1).wf = true) (w2 : (Lit.int .i64 a2).wf = true) (hk : ¬ 1100 < a0) :
    Calls Try.prog 4 #[.int .i64 a0, .int .i64 a1, .int .i64 a2] w fun e w' => e = .returned (.bool true) ∧ Below w.heap.size w w' := by
  have hv0 := bounds_i64 w0
  refine (callsIn_wide (n := 3)).1 ?_
  refine callsIn_of_wp_marks Try.func4 rfl trivial ?_
  simp only [Try.ntmps4, List.size_toArray, List.length_cons, List.length_nil, Nat.reduceAdd, Nat.reduceSub, Array.replicate_succ, Array.replicate_zero, List.push_toArray, List.append_toArray, List.nil_append, List.cons_append]
  obtain ⟨W0, hW0⟩ : ∃ W0, W0 = (w.alloc (.cells #[.int .i64 a2] 3)).alloc (.cells #[.bool false] 4) := ⟨_, rfl⟩
  have hs0 : W0.heap.size = w.heap.size + 2 := by rw [hW0]; simp
  have x5 : Boxed W0 w.heap.size 3 (.int .i64 a2) := by rw [hW0]; exact (Boxed.new w 3 (.int .i64 a2)).alloc _
  have x6 : Boxed W0 (w.heap.size + 1) 4 (.bool false) := by rw [hW0]; have := Boxed.new (w.alloc (.cells #[.int .i64 a2] 3)) 4 (.bool false); rw [World.size_alloc] at this; exact this
  have hb0 : Below w.heap.size w W0 := by rw [hW0]; exact ((Below.refl _ w).alloc (Nat.le_refl _) _).alloc (by simp) _
  have X5 := Lib.hid x5
  have X6 := Lib.hid x6
  have HB0 := Lib.hid hb0
  have HW0 := Lib.hid hW0
  have HS0 := Lib.hid hs0
  clear x5 x6 hb0 hW0 hs0
  have HL := fun W1 : World => Lib.hid (lay_all a0 a1 W1)
  have HR := fun W1 : World => Lib.hid (rlay_all a0 a1 W1)
  have HT := fun W1 : World => Lib.hid (steps_all a0 a1 W1)
  generalize psI a0 a1 = ps at *
  generalize eI a0 a1 = er at *
  have hk' : decide (1100 < a0) = false := by simpa using hk
  have HB1 := Lib.hid HB0.out
  have HS1 : Hid (w.heap.size + 2 ≤ W0.heap.size) := Lib.hid (by have := HS0.out; omega)
  gi_wp2_with fail
  rw [← HW0.out]
  clear HB0 HW0 HS0 hk hk'
  refine ⟨trivial, ?_⟩
  gi_wp2_with fail
  refine ⟨trivial, ?_⟩
  refine CallsIn.mono (callsIn_wide.2 (HL _).out) ?_
  rintro e w2 ⟨A, c, B, d, rfl, hA, hB, hB2⟩
  have HA := Lib.hid (Own.rd hA)
  have HB := Lib.hid (Own.rd hB)
  have X5 : Hid (Boxed w2 w.heap.size 3 (.int .i64 a2)) := Lib.hid ((hB2.block _ (by have := HS1.out; omega)).trans X5.out)
  have X6 : Hid (Boxed w2 (w.heap.size + 1) 4 (.bool false)) := Lib.hid ((hB2.block _ (by have := HS1.out; omega)).trans X6.out)
  have HS2 : Hid (w.heap.size + 2 ≤ w2.heap.size) := Lib.hid (Nat.le_trans HS1.out hB2.size)
  have HB2 := Lib.hid (bnext2 HB1.out hB2)
  clear hA hB hB2 HS1 HB1
  gi_wp2_with fail
  refine ⟨trivial, ?_⟩
  refine CallsIn.mono (callsIn_wide.2 (HR _).out) ?_
  rintro e w3 ⟨T, ct, Q, dq, rfl, hT, hQ, hB3⟩
  have HA := Lib.hid (Rdv.below HA.out hB3)
  have HB := Lib.hid (Rdv.below HB.out hB3)
  have HTR := Lib.hid (Own.rd hT)
  have HQR := Lib.hid (Own.rd hQ)
  have HTL := Lib.hid (fun h => own_lt hT h)
  have HQL := Lib.hid (fun h => own_lt hQ h)
  have X5 : Hid (Boxed w3 w.heap.size 3 (.int .i64 a2)) := Lib.hid ((hB3.block _ (by have := HS2.out; omega)).trans X5.out)
  have X6 : Hid (Boxed w3 (w.heap.size + 1) 4 (.bool false)) := Lib.hid ((hB3.block _ (by have := HS2.out; omega)).trans X6.out)
  have HS3 : Hid (w.heap.size + 2 ≤ w3.heap.size) := Lib.hid (Nat.le_trans HS2.out hB3.size)
  have HB3 := Lib.hid (bnext2 HB2.out hB3)
  clear hT hQ hB3 HS2 HB2 HL HR
  gi_wp2_with fail
  obtain ⟨w4, hw4⟩ : ∃ w4, w4 = (w3.alloc (.cells #[.slice T ps.length ct] 33)).alloc (.cells #[.slice Q ps.length dq] 33) := ⟨_, rfl⟩
  have hs4 : w4.heap.size = w3.heap.size + 2 := by rw [hw4]; simp
  have x10 : Boxed w4 w3.heap.size 33 (.slice T ps.length ct) := by rw [hw4]; exact (Boxed.new w3 33 _).alloc _
  have x11 : Boxed w4 (w3.heap.size + 1) 33 (.slice Q ps.length dq) := by rw [hw4]; have := Boxed.new (w3.alloc (.cells #[.slice T ps.length ct] 33)) 33 (.slice Q ps.length dq); rw [World.size_alloc] at this; exact this
  have hb4 : Below w3.heap.size w3 w4 := by rw [hw4]; exact ((Below.refl _ w3).alloc (Nat.le_refl _) _).alloc (by simp) _
  rw [← hw4]
  have BX : Hid (∀ W : World, Below w4.heap.size w4 W → Boxed W w.heap.size 3 (.int .i64 a2) ∧ Boxed W (w.heap.size + 1) 4 (.bool false) ∧ Boxed W w3.heap.size 33 (.slice T ps.length ct) ∧ Boxed W (w3.heap.size + 1) 33 (.slice Q ps.length dq) ∧ Rd .i64 W A ps.length c (ps.map Prod.fst) ∧ Rd .i64 W B ps.length d (ps.map Prod.snd) ∧ Rd .i64 W T ps.length ct (ps.map Prod.fst) ∧ Rd .i64 W Q ps.length dq (ps.map Prod.snd) ∧ Below w.heap.size w W) := Lib.hid fun W hB =>
    have hs := HS3.out
    have k := fun (b : Nat) (h : b < w3.heap.size) => (hB.block b (by omega)).trans (hb4.block b h)
    ⟨(k _ (by omega)).trans X5.out, (k _ (by omega)).trans X6.out, (hB.block _ (by omega)).trans x10, (hB.block _ (by omega)).trans x11, Rdv.below (Rdv.below HA.out hb4) hB, Rdv.below (Rdv.below HB.out hb4) hB, Rdv.below (Rdv.below HTR.out hb4) hB, Rdv.below (Rdv.below HQR.out hb4) hB, HB3.out.trans ((hb4.trans (hB.mono hb4.size)).mono HB3.out.size)⟩
  have HS4 := Lib.hid hs4
  clear X5 X6 HA HB HTR HQR HB3 hw4 x10 x11 hb4 hs4
  refine ⟨trivial, ?_⟩
  obtain ⟨-, -, -, -, r1, -, r2, -, -⟩ := BX.out w4 (Below.refl _ _)
  refine CallsIn.mono (callsIn_wide.2 (ints_any A T ps.length c ps.length ct _ _ _ r1 r2)) ?_
  rintro e w5 ⟨rfl, hQ5⟩
  rw [show decide (ps.map Prod.fst = ps.map Prod.fst) = true from by simp]
  have HB5 := Lib.hid (hQ5.below w4.heap.size)
  clear hQ5 r1 r2
  have c11 := (BX.out w5 HB5.out).2.2.2.1.cell
  gi_wp2_with fail
  obtain ⟨-, -, -, -, -, r1, -, r2, -⟩ := BX.out w5 HB5.out
  refine ⟨trivial, ?_⟩
  refine CallsIn.mono (callsIn_wide.2 (ints_any B Q ps.length d ps.length dq _ _ _ r1 r2)) ?_
  rintro e w6 ⟨rfl, hQ6⟩
  rw [show decide (ps.map Prod.snd = ps.map Prod.snd) = true from by simp]
  have HB6 := Lib.hid (HB5.out.trans (hQ6.below w4.heap.size))
  clear hQ6 r1 r2 c11 HB5
  gi_wp2_with fail
  refine ⟨trivial, ?_⟩
  refine CallsIn.mono (callsIn_wide.2 (num_any _ _)) ?_
  rintro e w' ⟨rfl, rfl⟩
  gi_wp2_with fail
  refine ⟨trivial, ?_⟩
  refine CallsIn.mono (callsIn_wide.2 (HT _).out) ?_
  rintro e w7 ⟨v, rfl, ⟨gf, lb, og, rfl, hog, hen, hseq⟩, hB7⟩
  have HB7 := Lib.hid (HB6.out.trans (hB7.mono HB6.out.size))
  have HSEQ := Lib.hid hseq
  have HOG := Lib.hid hog
  have HEN := Lib.hid hen
  clear hB7 HB6 hseq hog hen HT
  have hfn := fun W => run_eql_func_nil (P := Try.prog) W Try.underlying40 (.func gf) #[] lb
  gi_wp2_with fail
  refine wpIn_loop_rounds 3 ?_
  rw [roundsIn_succ]
  gi_wp2_with fail
  obtain ⟨W8, hW8⟩ : ∃ W8, W8 = (w7.alloc (.cells #[.int .i64 0] 3)).alloc (.cells #[.int .i64 0] 3) := ⟨_, rfl⟩
  have hs8 : W8.heap.size = w7.heap.size + 2 := by rw [hW8]; simp
  have hI8 : TLI w7 w7.heap.size (w7.heap.size + 1) 0 none 0 W8 := by
    rw [hW8]
    exact ⟨((Below.refl _ w7).alloc (Nat.le_refl _) _).alloc (by simp) _, (Boxed.new w7 3 (.int .i64 0)).alloc _, by have := Boxed.new (w7.alloc (.cells #[.int .i64 0] 3)) 3 (.int .i64 0); rw [World.size_alloc] at this; exact this, fun D e => by cases e⟩
  rw [← hW8]
  clear hW8
  have hTW : TLW w7 og none w7.heap.size (w7.heap.size + 1) W8.heap.size := ⟨Nat.le_refl _, by omega, by omega, HOG.out, fun D e => by cases e⟩
  have HTW := Lib.hid hTW
  clear hs8 hTW
  refine' wpIn_rangeFunc_ownF rfl (by omega) (gf := gf) (lb := lb) rfl trivial HEN.out (HSEQ.out W8 hI8.bl) (fun h k => KeepO.trans h k) (keepO_b HOG.out hI8.bl.size) (Below.refl _ _) (fun _ => rfl)
    (LI0 ps w7 w7.heap.size (w7.heap.size + 1) 0 none (fun n => n = 0 ∨ (n : Int) < a2)) (LIx ps w7 w7.heap.size (w7.heap.size + 1) 0 none (fun n => 1 ≤ n ∧ a2 ≤ (n : Int) ∧ (n = 1 ∨ (n : Int) - 1 < a2)) 2) (LI0.own HTW.out) (fun c => LIx.own HTW.out c) ⟨rfl, .inl rfl, hI8⟩ _ ?assign ?body ?done ?stop
  case assign =>
    intro l x W K hK
    simp only [encP]
    gi_wp2
    exact hK
  case body =>
    rintro l pre ⟨x1, x2⟩ W ⟨hp, hC, hI⟩ hpl
    dsimp only
    obtain ⟨n, hn⟩ : ∃ n, pre.length = n := ⟨_, rfl⟩
    rw [hn] at hC hI hpl
    obtain ⟨y5, y6, y10, y11, -, -, yT, yQ, -⟩ := BX.out W (HB7.out.trans (hI.bl.mono HB7.out.size))
    have k5 := y5.cell
    have k6 := y6.frozen
    have k6c := y6.cell
    have k10 := y10.cell
    have k11 := y11.cell
    have k14 := hI.x14.cell
    have k15 := hI.x15.cell
    have q15 := hI.x15.frozen
    have hbT := (Rdv.bd yT).1
    have hixT := fun W => Rdv.ix yT el33 hpl .i64 W
    have hixQ := fun W => Rdv.ix yQ el33 hpl .i64 W
    have hcT := Rd.cell yT hpl
    have hcQ := Rd.cell yQ hpl
    obtain ⟨f1, f2⟩ := first_map ps n hpl
    rw [f1] at hcT
    rw [f2] at hcQ
    clear f1 f2 y5 y6 y10 y11 yT yQ
    have HP := Lib.hid hp
    have HN := Lib.hid hn
    have HI := Lib.hid hI
    have HNX := Lib.hid (fun h : (x1, x2) = ps[n] => pre_next hp hn hpl h)
    have HNO := Lib.hid (fun h : (x1, x2) ≠ ps[n] => pre_not (pre := pre) (x := (x1, x2)) hn hpl h)
    generalize hv : ps[n] = v at *
    obtain ⟨v1, v2⟩ := v
    clear hv hp hn hI
    by_cases h1 : x1 = v1
    · subst h1
      by_cases h2 : x2 = v2
      · subst h2
        obtain ⟨p1, p2⟩ := HNX.out rfl
        have HP1 := Lib.hid p1
        have HP2 := Lib.hid p2
        clear p1 p2 HNX HNO
        have e1 : (x1 != x1) = false := bne_f rfl
        have e2 : (x2 != x2) = false := bne_f rfl
        have HX := Lib.hid (HI.out.next HTW.out (v := .int .i64 ((n : Int) + 1)) (by simp))
        obtain ⟨ko, kp, hi⟩ := HX.out
        have k14' := hi.x14.cell
        have k15' := hi.x15.cell
        obtain ⟨y5, -, -, -, -, -, -, -, -⟩ := BX.out _ (HB7.out.trans (hi.bl.mono HB7.out.size))
        have k5' := y5.cell
        clear y5 ko kp hi
        by_cases hm : a2 ≤ (n : Int) + 1
        · gi_wp2
          refine ⟨HX.out.1, .inr ⟨rfl, ?_, ?_⟩⟩
          · rw [HP2.out]
            exact ⟨by omega, by omega, by rcases hC with hC | hC <;> omega⟩
          · rw [HP2.out]; exact HX.out.2.2
        · gi_wp2
          refine ⟨HX.out.1, HX.out.2.1, by rw [HP2.out]; exact HP1.out, ?_, ?_⟩
          · rw [HP2.out]; exact .inr (by omega)
          · rw [HP2.out]; exact HX.out.2.2
      · have e1 : (x1 != x1) = false := bne_f rfl
        have e2 : (x2 != v2) = true := bne_t h2
        have HF := Lib.hid (HNO.out (fun h => h2 (by injection h)))
        clear HNX HNO h2
        gi_wp2
        exact ⟨KeepsOthers.setCell _ _ _, .inl HF.out⟩
    · have e1 : (x1 != v1) = true := bne_t h1
      have HF := Lib.hid (HNO.out (fun h => h1 (by injection h)))
      clear HNX HNO h1
      gi_wp2
      exact ⟨KeepsOthers.setCell _ _ _, .inl HF.out⟩
  case done =>
    rintro D xs W hD hxs ⟨-, hC, hI⟩ hK
    rw [hxs] at hC hI
    clear hxs
    obtain ⟨y5, y6, y10, y11, -, -, yT, yQ, -⟩ := BX.out W (HB7.out.trans (hI.bl.mono HB7.out.size))
    have k5 := y5.cell
    have k10 := y10.cell
    have k14 := hI.x14.cell
    have k15 := hI.x15.cell
    clear y5 y6 y10 y11 yT yQ
    have HI := Lib.hid hI
    have HK := Lib.hid hK
    clear hI hK
    dsimp only
    by_cases hm : a2 ≤ 1
    · have hN : (ps.length : Int) < 1 := by omega
      have HCC := Lib.hid hC
      clear hC
      gi_wp2_with fail
      rw [roundsIn_succ]
      gi_wp2_with fail
      obtain ⟨W9, hW9⟩ : ∃ W9, W9 = (W.alloc (.cells #[.int .i64 1] 3)).alloc (.cells #[.int .i64 0] 3) := ⟨_, rfl⟩
      have hs9 : W9.heap.size = W.heap.size + 2 := by rw [hW9]; simp
      have hlt9 := heap_lt HK.out
      have hI9 : TLI w7 W.heap.size (W.heap.size + 1) 1 (some D) 0 W9 := by
        rw [hW9]
        exact ⟨(HI.out.bl.alloc HI.out.bl.size _).alloc (by have := HI.out.bl.size; simp; omega) _, (Boxed.new W 3 (.int .i64 1)).alloc _, by have := Boxed.new (W.alloc (.cells #[.int .i64 1] 3)) 3 (.int .i64 0); rw [World.size_alloc] at this; exact this, fun D' e => by cases e; exact heap_old' (heap_old' HK.out)⟩
      rw [← hW9]
      have hTW2 : TLW w7 og (some D) W.heap.size (W.heap.size + 1) W9.heap.size := ⟨HI.out.bl.size, by omega, by omega, HOG.out, fun D' e => by cases e; omega⟩
      have HTW2 := Lib.hid hTW2
      have HD9 : Hid (D < W9.heap.size) := Lib.hid (by omega)
      have HD8 := Lib.hid hD
      clear hW9 hs9 hlt9 hTW2 hD k5 k10 k14 k15 hm hI8
      try clear hN
      try clear hm'
      try clear he
      try clear hl
      refine' wpIn_rangeFunc_ownF rfl (by omega) (gf := gf) (lb := lb) rfl trivial HEN.out (HSEQ.out W9 hI9.bl) (fun h k => KeepO.trans h k) (keepO_b HOG.out hI9.bl.size) (Below.refl _ _) (fun _ => rfl)
        (LI0 ps w7 W.heap.size (W.heap.size + 1) 1 (some D) (fun _ => True)) (LIx ps w7 W.heap.size (W.heap.size + 1) 1 (some D) (fun _ => False) 2) (LI0.own HTW2.out) (fun c => LIx.own HTW2.out c) ⟨rfl, trivial, hI9⟩ _ ?assign1 ?body1 ?done1 ?stop1
      case assign1 =>
        intro l x W K hK
        simp only [encP]
        gi_wp2
        exact hK
      case body1 =>
        rintro l pre ⟨x1, x2⟩ W ⟨hp, hC, hI⟩ hpl
        dsimp only
        obtain ⟨n, hn⟩ : ∃ n, pre.length = n := ⟨_, rfl⟩
        rw [hn] at hI hpl
        obtain ⟨y5, y6, y10, y11, -, -, yT, yQ, -⟩ := BX.out W (HB7.out.trans (hI.bl.mono HB7.out.size))
        have k5 := y5.cell
        have k6 := y6.frozen
        have k6c := y6.cell
        have k10 := y10.cell
        have k11 := y11.cell
        have k14 := hI.x14.cell
        have k15 := hI.x15.cell
        have q15 := hI.x15.frozen
        have hbT := (Rdv.bd yT).1
        have hixT := fun W => Rdv.ix yT el33 hpl .i64 W
        have hixQ := fun W => Rdv.ix yQ el33 hpl .i64 W
        have hcT := Rd.cell yT hpl
        have hcQ := Rd.cell yQ hpl
        obtain ⟨f1, f2⟩ := first_map ps n hpl
        rw [f1] at hcT
        rw [f2] at hcQ
        clear f1 f2 y5 y6 y10 y11 yT yQ
        have HP := Lib.hid hp
        have HN := Lib.hid hn
        have HI := Lib.hid hI
        have HNX := Lib.hid (fun h : (x1, x2) = ps[n] => pre_next hp hn hpl h)
        have HNO := Lib.hid (fun h : (x1, x2) ≠ ps[n] => pre_not (pre := pre) (x := (x1, x2)) hn hpl h)
        generalize hv : ps[n] = v at *
        obtain ⟨v1, v2⟩ := v
        clear hv hp hn hI
        by_cases h1 : x1 = v1
        · subst h1
          by_cases h2 : x2 = v2
          · subst h2
            obtain ⟨p1, p2⟩ := HNX.out rfl
            have HP1 := Lib.hid p1
            have HP2 := Lib.hid p2
            clear p1 p2 HNX HNO
            have e1 : (x1 != x1) = false := bne_f rfl
            have e2 : (x2 != x2) = false := bne_f rfl
            have HX := Lib.hid (HI.out.next HTW2.out (v := .int .i64 ((n : Int) + 1)) (by simp))
            obtain ⟨ko, kp, hi⟩ := HX.out
            have k14' := hi.x14.cell
            have k15' := hi.x15.cell
            clear ko kp hi
            gi_wp2
            refine ⟨HX.out.1, HX.out.2.1, by rw [HP2.out]; exact HP1.out, trivial, ?_⟩
            rw [HP2.out]; exact HX.out.2.2
          · have e1 : (x1 != x1) = false := bne_f rfl
            have e2 : (x2 != v2) = true := bne_t h2
            have HF := Lib.hid (HNO.out (fun h => h2 (by injection h)))
            clear HNX HNO h2
            gi_wp2
            exact ⟨KeepsOthers.setCell _ _ _, .inl HF.out⟩
        · have e1 : (x1 != v1) = true := bne_t h1
          have HF := Lib.hid (HNO.out (fun h => h1 (by injection h)))
          clear HNX HNO h1
          gi_wp2
          exact ⟨KeepsOthers.setCell _ _ _, .inl HF.out⟩
      case done1 =>
        rintro D2 xs W' hD2 hxs ⟨-, -, hI⟩ hK2
        rw [hxs] at hI
        clear hxs hI9
        obtain ⟨y5, y6, y10, y11, -, -, yT, yQ, yB⟩ := BX.out W' (HB7.out.trans (hI.bl.mono HB7.out.size))
        have k5 := y5.cell
        have k10 := y10.cell
        have k14 := hI.x14.cell
        have k15 := hI.x15.cell
        have Y6 := Lib.hid y6
        have YB := Lib.hid yB
        clear y5 y6 y10 y11 yT yQ yB
        have HI2 := Lib.hid hI
        have HK2 := Lib.hid hK2
        clear hI hK2
        dsimp only
        gi_wp2_with fail
        rw [roundsIn_succ]
        gi_wp2_with fail
        refine ⟨trivial, ?_⟩
        refine CallsIn.mono (callsIn_wide.2 (works_any _)) ?_
        rintro e w20 ⟨rfl, hB20⟩
        have z6 : Boxed w20 (w.heap.size + 1) 4 (.bool false) := (hB20.block _ (by have := Y6.out.lt; simp; omega)).trans (Y6.out.alloc _)
        have zk := z6.cell
        have zf := z6.frozen
        have Z6 := Lib.hid z6
        have HB20 := Lib.hid hB20
        clear z6 hB20
        gi_wp2
        have hq : w.heap.size + 1 < D ∧ D < D2 := by have := HS3.out; have := HS4.out; have := HB7.out.size; have := HTW.out.n15; have := HD8.out; have := HD9.out; omega
        have d2 : (w20.setCell ⟨w.heap.size + 1, 0, none⟩ (.bool true)).heap[D2]? = some (.deferred (some [])) := (KeepsOthers.setCell w20 _ _).same D2 _ ((HB20.out.block D2 (by have := heap_lt HK2.out; simp; omega)).trans (heap_old' HK2.out)) rfl
        have d1 : (w20.setCell ⟨w.heap.size + 1, 0, none⟩ (.bool true)).heap[D]? = some (.deferred (some [])) := (KeepsOthers.setCell w20 _ _).same D _ ((HB20.out.block D (by have := heap_lt (HI2.out.dd D rfl); simp; omega)).trans (heap_old' (HI2.out.dd D rfl))) rfl
        have b6 := ((Z6.out.set (.bool true)).kept (grownBy_putObj' _ D2 (.deferred none)) (fun e => by cases e; omega)).kept (grownBy_putObj' _ D (.deferred none)) (fun e => by cases e; omega)
        have l1 := load_bool b6
        have hbl : Below w.heap.size w (w20.setCell ⟨w.heap.size + 1, 0, none⟩ (.bool true)) := ((YB.out.alloc YB.out.size (.cells #[.int .i64 2] 3)).trans (HB20.out.mono (by have := YB.out.size; simp; omega))).setCell (Nat.le_succ _) _
        have hbl2 := hbl.grown (grownBy_putObj' _ D2 (.deferred none)) hbl.size (fun r e => by cases e; omega)
        have hbl3 := hbl2.grown (grownBy_putObj' _ D (.deferred none)) hbl2.size (fun r e => by cases e; omega)
        refine ⟨by simp, .inl ⟨_, _, rfl, run_takeDeferred d2, by simp, .inl ⟨_, _, rfl, run_takeDeferred ((World.putObj_heap_other (by omega)).trans d1), ?_⟩⟩⟩
        refine ⟨.bool true, ?_, rfl, hbl3⟩
        rw [results_c rfl]
        simp [asAddr, l1, Sem.run_pure]
      case stop1 =>
        rintro D2 c0 pre W' hD2 ⟨k, hk, hpk⟩ hx hK2
        rcases hx with hx | ⟨_, hC, _⟩
        · exact absurd hpk (hx k)
        · exact hC.elim
    · have hm' : 1 < a2 := by omega
      have hN : (ps.length : Int) < a2 := by omega
      have HCC := Lib.hid hC
      clear hC
      gi_wp2_with fail
      rw [roundsIn_succ]
      gi_wp2_with fail
      obtain ⟨W9, hW9⟩ : ∃ W9, W9 = (W.alloc (.cells #[.int .i64 1] 3)).alloc (.cells #[.int .i64 0] 3) := ⟨_, rfl⟩
      have hs9 : W9.heap.size = W.heap.size + 2 := by rw [hW9]; simp
      have hlt9 := heap_lt HK.out
      have hI9 : TLI w7 W.heap.size (W.heap.size + 1) 1 (some D) 0 W9 := by
        rw [hW9]
        exact ⟨(HI.out.bl.alloc HI.out.bl.size _).alloc (by have := HI.out.bl.size; simp; omega) _, (Boxed.new W 3 (.int .i64 1)).alloc _, by have := Boxed.new (W.alloc (.cells #[.int .i64 1] 3)) 3 (.int .i64 0); rw [World.size_alloc] at this; exact this, fun D' e => by cases e; exact heap_old' (heap_old' HK.out)⟩
      rw [← hW9]
      have hTW2 : TLW w7 og (some D) W.heap.size (W.heap.size + 1) W9.heap.size := ⟨HI.out.bl.size, by omega, by omega, HOG.out, fun D' e => by cases e; omega⟩
      have HTW2 := Lib.hid hTW2
      have HD9 : Hid (D < W9.heap.size) := Lib.hid (by omega)
      have HD8 := Lib.hid hD
      clear hW9 hs9 hlt9 hTW2 hD k5 k10 k14 k15 hm hI8
      try clear hN
      try clear hm'
      try clear he
      try clear hl
      refine' wpIn_rangeFunc_ownF rfl (by omega) (gf := gf) (lb := lb) rfl trivial HEN.out (HSEQ.out W9 hI9.bl) (fun h k => KeepO.trans h k) (keepO_b HOG.out hI9.bl.size) (Below.refl _ _) (fun _ => rfl)
        (LI0 ps w7 W.heap.size (W.heap.size + 1) 1 (some D) (fun _ => True)) (LIx ps w7 W.heap.size (W.heap.size + 1) 1 (some D) (fun _ => False) 2) (LI0.own HTW2.out) (fun c => LIx.own HTW2.out c) ⟨rfl, trivial, hI9⟩ _ ?assign2 ?body2 ?done2 ?stop2
      case assign2 =>
        intro l x W K hK
        simp only [encP]
        gi_wp2
        exact hK
      case body2 =>
        rintro l pre ⟨x1, x2⟩ W ⟨hp, hC, hI⟩ hpl
        dsimp only
        obtain ⟨n, hn⟩ : ∃ n, pre.length = n := ⟨_, rfl⟩
        rw [hn] at hI hpl
        obtain ⟨y5, y6, y10, y11, -, -, yT, yQ, -⟩ := BX.out W (HB7.out.trans (hI.bl.mono HB7.out.size))
        have k5 := y5.cell
        have k6 := y6.frozen
        have k6c := y6.cell
        have k10 := y10.cell
        have k11 := y11.cell
        have k14 := hI.x14.cell
        have k15 := hI.x15.cell
        have q15 := hI.x15.frozen
        have hbT := (Rdv.bd yT).1
        have hixT := fun W => Rdv.ix yT el33 hpl .i64 W
        have hixQ := fun W => Rdv.ix yQ el33 hpl .i64 W
        have hcT := Rd.cell yT hpl
        have hcQ := Rd.cell yQ hpl
        obtain ⟨f1, f2⟩ := first_map ps n hpl
        rw [f1] at hcT
        rw [f2] at hcQ
        clear f1 f2 y5 y6 y10 y11 yT yQ
        have HP := Lib.hid hp
        have HN := Lib.hid hn
        have HI := Lib.hid hI
        have HNX := Lib.hid (fun h : (x1, x2) = ps[n] => pre_next hp hn hpl h)
        have HNO := Lib.hid (fun h : (x1, x2) ≠ ps[n] => pre_not (pre := pre) (x := (x1, x2)) hn hpl h)
        generalize hv : ps[n] = v at *
        obtain ⟨v1, v2⟩ := v
        clear hv hp hn hI
        by_cases h1 : x1 = v1
        · subst h1
          by_cases h2 : x2 = v2
          · subst h2
            obtain ⟨p1, p2⟩ := HNX.out rfl
            have HP1 := Lib.hid p1
            have HP2 := Lib.hid p2
            clear p1 p2 HNX HNO
            have e1 : (x1 != x1) = false := bne_f rfl
            have e2 : (x2 != x2) = false := bne_f rfl
            have HX := Lib.hid (HI.out.next HTW2.out (v := .int .i64 ((n : Int) + 1)) (by simp))
            obtain ⟨ko, kp, hi⟩ := HX.out
            have k14' := hi.x14.cell
            have k15' := hi.x15.cell
            clear ko kp hi
            gi_wp2
            refine ⟨HX.out.1, HX.out.2.1, by rw [HP2.out]; exact HP1.out, trivial, ?_⟩
            rw [HP2.out]; exact HX.out.2.2
          · have e1 : (x1 != x1) = false := bne_f rfl
            have e2 : (x2 != v2) = true := bne_t h2
            have HF := Lib.hid (HNO.out (fun h => h2 (by injection h)))
            clear HNX HNO h2
            gi_wp2
            exact ⟨KeepsOthers.setCell _ _ _, .inl HF.out⟩
        · have e1 : (x1 != v1) = true := bne_t h1
          have HF := Lib.hid (HNO.out (fun h => h1 (by injection h)))
          clear HNX HNO h1
          gi_wp2
          exact ⟨KeepsOthers.setCell _ _ _, .inl HF.out⟩
      case done2 =>
        rintro D2 xs W' hD2 hxs ⟨-, -, hI⟩ hK2
        rw [hxs] at hI
        clear hxs hI9
        obtain ⟨y5, y6, y10, y11, -, -, yT, yQ, yB⟩ := BX.out W' (HB7.out.trans (hI.bl.mono HB7.out.size))
        have k5 := y5.cell
        have k10 := y10.cell
        have k14 := hI.x14.cell
        have k15 := hI.x15.cell
        have Y6 := Lib.hid y6
        have YB := Lib.hid yB
        clear y5 y6 y10 y11 yT yQ yB
        have HI2 := Lib.hid hI
        have HK2 := Lib.hid hK2
        clear hI hK2
        dsimp only
        gi_wp2_with fail
        rw [roundsIn_succ]
        gi_wp2_with fail
        refine ⟨trivial, ?_⟩
        refine CallsIn.mono (callsIn_wide.2 (works_any _)) ?_
        rintro e w20 ⟨rfl, hB20⟩
        have z6 : Boxed w20 (w.heap.size + 1) 4 (.bool false) := (hB20.block _ (by have := Y6.out.lt; simp; omega)).trans (Y6.out.alloc _)
        have zk := z6.cell
        have zf := z6.frozen
        have Z6 := Lib.hid z6
        have HB20 := Lib.hid hB20
        clear z6 hB20
        gi_wp2
        have hq : w.heap.size + 1 < D ∧ D < D2 := by have := HS3.out; have := HS4.out; have := HB7.out.size; have := HTW.out.n15; have := HD8.out; have := HD9.out; omega
        have d2 : (w20.setCell ⟨w.heap.size + 1, 0, none⟩ (.bool true)).heap[D2]? = some (.deferred (some [])) := (KeepsOthers.setCell w20 _ _).same D2 _ ((HB20.out.block D2 (by have := heap_lt HK2.out; simp; omega)).trans (heap_old' HK2.out)) rfl
        have d1 : (w20.setCell ⟨w.heap.size + 1, 0, none⟩ (.bool true)).heap[D]? = some (.deferred (some [])) := (KeepsOthers.setCell w20 _ _).same D _ ((HB20.out.block D (by have := heap_lt (HI2.out.dd D rfl); simp; omega)).trans (heap_old' (HI2.out.dd D rfl))) rfl
        have b6 := ((Z6.out.set (.bool true)).kept (grownBy_putObj' _ D2 (.deferred none)) (fun e => by cases e; omega)).kept (grownBy_putObj' _ D (.deferred none)) (fun e => by cases e; omega)
        have l1 := load_bool b6
        have hbl : Below w.heap.size w (w20.setCell ⟨w.heap.size + 1, 0, none⟩ (.bool true)) := ((YB.out.alloc YB.out.size (.cells #[.int .i64 2] 3)).trans (HB20.out.mono (by have := YB.out.size; simp; omega))).setCell (Nat.le_succ _) _
        have hbl2 := hbl.grown (grownBy_putObj' _ D2 (.deferred none)) hbl.size (fun r e => by cases e; omega)
        have hbl3 := hbl2.grown (grownBy_putObj' _ D (.deferred none)) hbl2.size (fun r e => by cases e; omega)
        refine ⟨by simp, .inl ⟨_, _, rfl, run_takeDeferred d2, by simp, .inl ⟨_, _, rfl, run_takeDeferred ((World.putObj_heap_other (by omega)).trans d1), ?_⟩⟩⟩
        refine ⟨.bool true, ?_, rfl, hbl3⟩
        rw [results_c rfl]
        simp [asAddr, l1, Sem.run_pure]
      case stop2 =>
        rintro D2 c0 pre W' hD2 ⟨k, hk, hpk⟩ hx hK2
        rcases hx with hx | ⟨_, hC, _⟩
        · exact absurd hpk (hx k)
        · exact hC.elim
  case stop =>
    rintro D c0 pre W hD ⟨k, hk, hpk⟩ hx hK
    rcases hx with hx | ⟨rfl, hC, hI⟩
    · exact absurd hpk (hx k)
    have hnl : pre.length ≤ ps.length := by rw [hpk, List.length_take]; omega
    clear hpk hk
    obtain ⟨y5, y6, y10, y11, -, -, yT, yQ, -⟩ := BX.out W (HB7.out.trans (hI.bl.mono HB7.out.size))
    have k5 := y5.cell
    have k10 := y10.cell
    have k14 := hI.x14.cell
    have k15 := hI.x15.cell
    clear y5 y6 y10 y11 yT yQ
    have HI := Lib.hid hI
    have HK := Lib.hid hK
    clear hI hK
    dsimp only
    generalize pre.length = n at *
    obtain ⟨c1, c2, c3⟩ := hC
    by_cases hm : a2 ≤ 1
    · obtain rfl : n = 1 := by omega
      clear c1 c2 c3
      by_cases hl : 1 < ps.length
      · clear hnl
        gi_wp2_with fail
        rw [roundsIn_succ]
        gi_wp2_with fail
        obtain ⟨W9, hW9⟩ : ∃ W9, W9 = (W.alloc (.cells #[.int .i64 1] 3)).alloc (.cells #[.int .i64 0] 3) := ⟨_, rfl⟩
        have hs9 : W9.heap.size = W.heap.size + 2 := by rw [hW9]; simp
        have hlt9 := heap_lt HK.out
        have hI9 : TLI w7 W.heap.size (W.heap.size + 1) 1 (some D) 0 W9 := by
          rw [hW9]
          exact ⟨(HI.out.bl.alloc HI.out.bl.size _).alloc (by have := HI.out.bl.size; simp; omega) _, (Boxed.new W 3 (.int .i64 1)).alloc _, by have := Boxed.new (W.alloc (.cells #[.int .i64 1] 3)) 3 (.int .i64 0); rw [World.size_alloc] at this; exact this, fun D' e => by cases e; exact heap_old' (heap_old' HK.out)⟩
        rw [← hW9]
        have hTW2 : TLW w7 og (some D) W.heap.size (W.heap.size + 1) W9.heap.size := ⟨HI.out.bl.size, by omega, by omega, HOG.out, fun D' e => by cases e; omega⟩
        have HTW2 := Lib.hid hTW2
        have HD9 : Hid (D < W9.heap.size) := Lib.hid (by omega)
        have HD8 := Lib.hid hD
        clear hW9 hs9 hlt9 hTW2 hD k5 k10 k14 k15 hm hI8
        try clear hN
        try clear hm'
        try clear he
        try clear hl
        refine' wpIn_rangeFunc_ownF rfl (by omega) (gf := gf) (lb := lb) rfl trivial HEN.out (HSEQ.out W9 hI9.bl) (fun h k => KeepO.trans h k) (keepO_b HOG.out hI9.bl.size) (Below.refl _ _) (fun _ => rfl)
          (LI0 ps w7 W.heap.size (W.heap.size + 1) 1 (some D) (fun _ => True)) (LIx ps w7 W.heap.size (W.heap.size + 1) 1 (some D) (fun _ => False) 2) (LI0.own HTW2.out) (fun c => LIx.own HTW2.out c) ⟨rfl, trivial, hI9⟩ _ ?assign3 ?body3 ?done3 ?stop3
        case assign3 =>
          intro l x W K hK
          simp only [encP]
          gi_wp2
          exact hK
        case body3 =>
          rintro l pre ⟨x1, x2⟩ W ⟨hp, hC, hI⟩ hpl
          dsimp only
          obtain ⟨n, hn⟩ : ∃ n, pre.length = n := ⟨_, rfl⟩
          rw [hn] at hI hpl
          obtain ⟨y5, y6, y10, y11, -, -, yT, yQ, -⟩ := BX.out W (HB7.out.trans (hI.bl.mono HB7.out.size))
          have k5 := y5.cell
          have k6 := y6.frozen
          have k6c := y6.cell
          have k10 := y10.cell
          have k11 := y11.cell
          have k14 := hI.x14.cell
          have k15 := hI.x15.cell
          have q15 := hI.x15.frozen
          have hbT := (Rdv.bd yT).1
          have hixT := fun W => Rdv.ix yT el33 hpl .i64 W
          have hixQ := fun W => Rdv.ix yQ el33 hpl .i64 W
          have hcT := Rd.cell yT hpl
          have hcQ := Rd.cell yQ hpl
          obtain ⟨f1, f2⟩ := first_map ps n hpl
          rw [f1] at hcT
          rw [f2] at hcQ
          clear f1 f2 y5 y6 y10 y11 yT yQ
          have HP := Lib.hid hp
          have HN := Lib.hid hn
          have HI := Lib.hid hI
          have HNX := Lib.hid (fun h : (x1, x2) = ps[n] => pre_next hp hn hpl h)
          have HNO := Lib.hid (fun h : (x1, x2) ≠ ps[n] => pre_not (pre := pre) (x := (x1, x2)) hn hpl h)
          generalize hv : ps[n] = v at *
          obtain ⟨v1, v2⟩ := v
          clear hv hp hn hI
          by_cases h1 : x1 = v1
          · subst h1
            by_cases h2 : x2 = v2
            · subst h2
              obtain ⟨p1, p2⟩ := HNX.out rfl
              have HP1 := Lib.hid p1
              have HP2 := Lib.hid p2
              clear p1 p2 HNX HNO
              have e1 : (x1 != x1) = false := bne_f rfl
              have e2 : (x2 != x2) = false := bne_f rfl
              have HX := Lib.hid (HI.out.next HTW2.out (v := .int .i64 ((n : Int) + 1)) (by simp))
              obtain ⟨ko, kp, hi⟩ := HX.out
              have k14' := hi.x14.cell
              have k15' := hi.x15.cell
              clear ko kp hi
              gi_wp2
              refine ⟨HX.out.1, HX.out.2.1, by rw [HP2.out]; exact HP1.out, trivial, ?_⟩
              rw [HP2.out]; exact HX.out.2.2
            · have e1 : (x1 != x1) = false := bne_f rfl
              have e2 : (x2 != v2) = true := bne_t h2
              have HF := Lib.hid (HNO.out (fun h => h2 (by injection h)))
              clear HNX HNO h2
              gi_wp2
              exact ⟨KeepsOthers.setCell _ _ _, .inl HF.out⟩
          · have e1 : (x1 != v1) = true := bne_t h1
            have HF := Lib.hid (HNO.out (fun h => h1 (by injection h)))
            clear HNX HNO h1
            gi_wp2
            exact ⟨KeepsOthers.setCell _ _ _, .inl HF.out⟩
        case done3 =>
          rintro D2 xs W' hD2 hxs ⟨-, -, hI⟩ hK2
          rw [hxs] at hI
          clear hxs hI9
          obtain ⟨y5, y6, y10, y11, -, -, yT, yQ, yB⟩ := BX.out W' (HB7.out.trans (hI.bl.mono HB7.out.size))
          have k5 := y5.cell
          have k10 := y10.cell
          have k14 := hI.x14.cell
          have k15 := hI.x15.cell
          have Y6 := Lib.hid y6
          have YB := Lib.hid yB
          clear y5 y6 y10 y11 yT yQ yB
          have HI2 := Lib.hid hI
          have HK2 := Lib.hid hK2
          clear hI hK2
          dsimp only
          gi_wp2_with fail
          rw [roundsIn_succ]
          gi_wp2_with fail
          refine ⟨trivial, ?_⟩
          refine CallsIn.mono (callsIn_wide.2 (works_any _)) ?_
          rintro e w20 ⟨rfl, hB20⟩
          have z6 : Boxed w20 (w.heap.size + 1) 4 (.bool false) := (hB20.block _ (by have := Y6.out.lt; simp; omega)).trans (Y6.out.alloc _)
          have zk := z6.cell
          have zf := z6.frozen
          have Z6 := Lib.hid z6
          have HB20 := Lib.hid hB20
          clear z6 hB20
          gi_wp2
          have hq : w.heap.size + 1 < D ∧ D < D2 := by have := HS3.out; have := HS4.out; have := HB7.out.size; have := HTW.out.n15; have := HD8.out; have := HD9.out; omega
          have d2 : (w20.setCell ⟨w.heap.size + 1, 0, none⟩ (.bool true)).heap[D2]? = some (.deferred (some [])) := (KeepsOthers.setCell w20 _ _).same D2 _ ((HB20.out.block D2 (by have := heap_lt HK2.out; simp; omega)).trans (heap_old' HK2.out)) rfl
          have d1 : (w20.setCell ⟨w.heap.size + 1, 0, none⟩ (.bool true)).heap[D]? = some (.deferred (some [])) := (KeepsOthers.setCell w20 _ _).same D _ ((HB20.out.block D (by have := heap_lt (HI2.out.dd D rfl); simp; omega)).trans (heap_old' (HI2.out.dd D rfl))) rfl
          have b6 := ((Z6.out.set (.bool true)).kept (grownBy_putObj' _ D2 (.deferred none)) (fun e => by cases e; omega)).kept (grownBy_putObj' _ D (.deferred none)) (fun e => by cases e; omega)
          have l1 := load_bool b6
          have hbl : Below w.heap.size w (w20.setCell ⟨w.heap.size + 1, 0, none⟩ (.bool true)) := ((YB.out.alloc YB.out.size (.cells #[.int .i64 2] 3)).trans (HB20.out.mono (by have := YB.out.size; simp; omega))).setCell (Nat.le_succ _) _
          have hbl2 := hbl.grown (grownBy_putObj' _ D2 (.deferred none)) hbl.size (fun r e => by cases e; omega)
          have hbl3 := hbl2.grown (grownBy_putObj' _ D (.deferred none)) hbl2.size (fun r e => by cases e; omega)
          refine ⟨by simp, .inl ⟨_, _, rfl, run_takeDeferred d2, by simp, .inl ⟨_, _, rfl, run_takeDeferred ((World.putObj_heap_other (by omega)).trans d1), ?_⟩⟩⟩
          refine ⟨.bool true, ?_, rfl, hbl3⟩
          rw [results_c rfl]
          simp [asAddr, l1, Sem.run_pure]
        case stop3 =>
          rintro D2 c0 pre W' hD2 ⟨k, hk, hpk⟩ hx hK2
          rcases hx with hx | ⟨_, hC, _⟩
          · exact absurd hpk (hx k)
          · exact hC.elim
      · have he : ((1 : Int) != (ps.length : Int)) = false := bne_f (by omega)
        gi_wp2_with fail
        rw [roundsIn_succ]
        gi_wp2_with fail
        obtain ⟨W9, hW9⟩ : ∃ W9, W9 = (W.alloc (.cells #[.int .i64 1] 3)).alloc (.cells #[.int .i64 0] 3) := ⟨_, rfl⟩
        have hs9 : W9.heap.size = W.heap.size + 2 := by rw [hW9]; simp
        have hlt9 := heap_lt HK.out
        have hI9 : TLI w7 W.heap.size (W.heap.size + 1) 1 (some D) 0 W9 := by
          rw [hW9]
          exact ⟨(HI.out.bl.alloc HI.out.bl.size _).alloc (by have := HI.out.bl.size; simp; omega) _, (Boxed.new W 3 (.int .i64 1)).alloc _, by have := Boxed.new (W.alloc (.cells #[.int .i64 1] 3)) 3 (.int .i64 0); rw [World.size_alloc] at this; exact this, fun D' e => by cases e; exact heap_old' (heap_old' HK.out)⟩
        rw [← hW9]
        have hTW2 : TLW w7 og (some D) W.heap.size (W.heap.size + 1) W9.heap.size := ⟨HI.out.bl.size, by omega, by omega, HOG.out, fun D' e => by cases e; omega⟩
        have HTW2 := Lib.hid hTW2
        have HD9 : Hid (D < W9.heap.size) := Lib.hid (by omega)
        have HD8 := Lib.hid hD
        clear hW9 hs9 hlt9 hTW2 hD k5 k10 k14 k15 hm hI8
        try clear hN
        try clear hm'
        try clear he
        try clear hl
        refine' wpIn_rangeFunc_ownF rfl (by omega) (gf := gf) (lb := lb) rfl trivial HEN.out (HSEQ.out W9 hI9.bl) (fun h k => KeepO.trans h k) (keepO_b HOG.out hI9.bl.size) (Below.refl _ _) (fun _ => rfl)
          (LI0 ps w7 W.heap.size (W.heap.size + 1) 1 (some D) (fun _ => True)) (LIx ps w7 W.heap.size (W.heap.size + 1) 1 (some D) (fun _ => False) 2) (LI0.own HTW2.out) (fun c => LIx.own HTW2.out c) ⟨rfl, trivial, hI9⟩ _ ?assign4 ?body4 ?done4 ?stop4
        case assign4 =>
          intro l x W K hK
          simp only [encP]
          gi_wp2
          exact hK
        case body4 =>
          rintro l pre ⟨x1, x2⟩ W ⟨hp, hC, hI⟩ hpl
          dsimp only
          obtain ⟨n, hn⟩ : ∃ n, pre.length = n := ⟨_, rfl⟩
          rw [hn] at hI hpl
          obtain ⟨y5, y6, y10, y11, -, -, yT, yQ, -⟩ := BX.out W (HB7.out.trans (hI.bl.mono HB7.out.size))
          have k5 := y5.cell
          have k6 := y6.frozen
          have k6c := y6.cell
          have k10 := y10.cell
          have k11 := y11.cell
          have k14 := hI.x14.cell
          have k15 := hI.x15.cell
          have q15 := hI.x15.frozen
          have hbT := (Rdv.bd yT).1
          have hixT := fun W => Rdv.ix yT el33 hpl .i64 W
          have hixQ := fun W => Rdv.ix yQ el33 hpl .i64 W
          have hcT := Rd.cell yT hpl
          have hcQ := Rd.cell yQ hpl
          obtain ⟨f1, f2⟩ := first_map ps n hpl
          rw [f1] at hcT
          rw [f2] at hcQ
          clear f1 f2 y5 y6 y10 y11 yT yQ
          have HP := Lib.hid hp
          have HN := Lib.hid hn
          have HI := Lib.hid hI
          have HNX := Lib.hid (fun h : (x1, x2) = ps[n] => pre_next hp hn hpl h)
          have HNO := Lib.hid (fun h : (x1, x2) ≠ ps[n] => pre_not (pre := pre) (x := (x1, x2)) hn hpl h)
          generalize hv : ps[n] = v at *
          obtain ⟨v1, v2⟩ := v
          clear hv hp hn hI
          by_cases h1 : x1 = v1
          · subst h1
            by_cases h2 : x2 = v2
            · subst h2
              obtain ⟨p1, p2⟩ := HNX.out rfl
              have HP1 := Lib.hid p1
              have HP2 := Lib.hid p2
              clear p1 p2 HNX HNO
              have e1 : (x1 != x1) = false := bne_f rfl
              have e2 : (x2 != x2) = false := bne_f rfl
              have HX := Lib.hid (HI.out.next HTW2.out (v := .int .i64 ((n : Int) + 1)) (by simp))
              obtain ⟨ko, kp, hi⟩ := HX.out
              have k14' := hi.x14.cell
              have k15' := hi.x15.cell
              clear ko kp hi
              gi_wp2
              refine ⟨HX.out.1, HX.out.2.1, by rw [HP2.out]; exact HP1.out, trivial, ?_⟩
              rw [HP2.out]; exact HX.out.2.2
            · have e1 : (x1 != x1) = false := bne_f rfl
              have e2 : (x2 != v2) = true := bne_t h2
              have HF := Lib.hid (HNO.out (fun h => h2 (by injection h)))
              clear HNX HNO h2
              gi_wp2
              exact ⟨KeepsOthers.setCell _ _ _, .inl HF.out⟩
          · have e1 : (x1 != v1) = true := bne_t h1
            have HF := Lib.hid (HNO.out (fun h => h1 (by injection h)))
            clear HNX HNO h1
            gi_wp2
            exact ⟨KeepsOthers.setCell _ _ _, .inl HF.out⟩
        case done4 =>
          rintro D2 xs W' hD2 hxs ⟨-, -, hI⟩ hK2
          rw [hxs] at hI
          clear hxs hI9
          obtain ⟨y5, y6, y10, y11, -, -, yT, yQ, yB⟩ := BX.out W' (HB7.out.trans (hI.bl.mono HB7.out.size))
          have k5 := y5.cell
          have k10 := y10.cell
          have k14 := hI.x14.cell
          have k15 := hI.x15.cell
          have Y6 := Lib.hid y6
          have YB := Lib.hid yB
          clear y5 y6 y10 y11 yT yQ yB
          have HI2 := Lib.hid hI
          have HK2 := Lib.hid hK2
          clear hI hK2
          dsimp only
          gi_wp2_with fail
          rw [roundsIn_succ]
          gi_wp2_with fail
          refine ⟨trivial, ?_⟩
          refine CallsIn.mono (callsIn_wide.2 (works_any _)) ?_
          rintro e w20 ⟨rfl, hB20⟩
          have z6 : Boxed w20 (w.heap.size + 1) 4 (.bool false) := (hB20.block _ (by have := Y6.out.lt; simp; omega)).trans (Y6.out.alloc _)
          have zk := z6.cell
          have zf := z6.frozen
          have Z6 := Lib.hid z6
          have HB20 := Lib.hid hB20
          clear z6 hB20
          gi_wp2
          have hq : w.heap.size + 1 < D ∧ D < D2 := by have := HS3.out; have := HS4.out; have := HB7.out.size; have := HTW.out.n15; have := HD8.out; have := HD9.out; omega
          have d2 : (w20.setCell ⟨w.heap.size + 1, 0, none⟩ (.bool true)).heap[D2]? = some (.deferred (some [])) := (KeepsOthers.setCell w20 _ _).same D2 _ ((HB20.out.block D2 (by have := heap_lt HK2.out; simp; omega)).trans (heap_old' HK2.out)) rfl
          have d1 : (w20.setCell ⟨w.heap.size + 1, 0, none⟩ (.bool true)).heap[D]? = some (.deferred (some [])) := (KeepsOthers.setCell w20 _ _).same D _ ((HB20.out.block D (by have := heap_lt (HI2.out.dd D rfl); simp; omega)).trans (heap_old' (HI2.out.dd D rfl))) rfl
          have b6 := ((Z6.out.set (.bool true)).kept (grownBy_putObj' _ D2 (.deferred none)) (fun e => by cases e; omega)).kept (grownBy_putObj' _ D (.deferred none)) (fun e => by cases e; omega)
          have l1 := load_bool b6
          have hbl : Below w.heap.size w (w20.setCell ⟨w.heap.size + 1, 0, none⟩ (.bool true)) := ((YB.out.alloc YB.out.size (.cells #[.int .i64 2] 3)).trans (HB20.out.mono (by have := YB.out.size; simp; omega))).setCell (Nat.le_succ _) _
          have hbl2 := hbl.grown (grownBy_putObj' _ D2 (.deferred none)) hbl.size (fun r e => by cases e; omega)
          have hbl3 := hbl2.grown (grownBy_putObj' _ D (.deferred none)) hbl2.size (fun r e => by cases e; omega)
          refine ⟨by simp, .inl ⟨_, _, rfl, run_takeDeferred d2, by simp, .inl ⟨_, _, rfl, run_takeDeferred ((World.putObj_heap_other (by omega)).trans d1), ?_⟩⟩⟩
          refine ⟨.bool true, ?_, rfl, hbl3⟩
          rw [results_c rfl]
          simp [asAddr, l1, Sem.run_pure]
        case stop4 =>
          rintro D2 c0 pre W' hD2 ⟨k, hk, hpk⟩ hx hK2
          rcases hx with hx | ⟨_, hC, _⟩
          · exact absurd hpk (hx k)
          · exact hC.elim
    · obtain rfl : a2 = (n : Int) := by omega
      clear c1 c2 c3
      have hm' : 1 < (n : Int) := by omega
      by_cases hl : n < ps.length
      · clear hnl
        gi_wp2_with fail
        rw [roundsIn_succ]
        gi_wp2_with fail
        obtain ⟨W9, hW9⟩ : ∃ W9, W9 = (W.alloc (.cells #[.int .i64 1] 3)).alloc (.cells #[.int .i64 0] 3) := ⟨_, rfl⟩
        have hs9 : W9.heap.size = W.heap.size + 2 := by rw [hW9]; simp
        have hlt9 := heap_lt HK.out
        have hI9 : TLI w7 W.heap.size (W.heap.size + 1) 1 (some D) 0 W9 := by
          rw [hW9]
          exact ⟨(HI.out.bl.alloc HI.out.bl.size _).alloc (by have := HI.out.bl.size; simp; omega) _, (Boxed.new W 3 (.int .i64 1)).alloc _, by have := Boxed.new (W.alloc (.cells #[.int .i64 1] 3)) 3 (.int .i64 0); rw [World.size_alloc] at this; exact this, fun D' e => by cases e; exact heap_old' (heap_old' HK.out)⟩
        rw [← hW9]
        have hTW2 : TLW w7 og (some D) W.heap.size (W.heap.size + 1) W9.heap.size := ⟨HI.out.bl.size, by omega, by omega, HOG.out, fun D' e => by cases e; omega⟩
        have HTW2 := Lib.hid hTW2
        have HD9 : Hid (D < W9.heap.size) := Lib.hid (by omega)
        have HD8 := Lib.hid hD
        clear hW9 hs9 hlt9 hTW2 hD k5 k10 k14 k15 hm hI8
        try clear hN
        try clear hm'
        try clear he
        try clear hl
        refine' wpIn_rangeFunc_ownF rfl (by omega) (gf := gf) (lb := lb) rfl trivial HEN.out (HSEQ.out W9 hI9.bl) (fun h k => KeepO.trans h k) (keepO_b HOG.out hI9.bl.size) (Below.refl _ _) (fun _ => rfl)
          (LI0 ps w7 W.heap.size (W.heap.size + 1) 1 (some D) (fun _ => True)) (LIx ps w7 W.heap.size (W.heap.size + 1) 1 (some D) (fun _ => False) 2) (LI0.own HTW2.out) (fun c => LIx.own HTW2.out c) ⟨rfl, trivial, hI9⟩ _ ?assign5 ?body5 ?done5 ?stop5
        case assign5 =>
          intro l x W K hK
          simp only [encP]
          gi_wp2
          exact hK
        case body5 =>
          rintro l pre ⟨x1, x2⟩ W ⟨hp, hC, hI⟩ hpl
          dsimp only
          obtain ⟨n, hn⟩ : ∃ n, pre.length = n := ⟨_, rfl⟩
          rw [hn] at hI hpl
          obtain ⟨y5, y6, y10, y11, -, -, yT, yQ, -⟩ := BX.out W (HB7.out.trans (hI.bl.mono HB7.out.size))
          have k5 := y5.cell
          have k6 := y6.frozen
          have k6c := y6.cell
          have k10 := y10.cell
          have k11 := y11.cell
          have k14 := hI.x14.cell
          have k15 := hI.x15.cell
          have q15 := hI.x15.frozen
          have hbT := (Rdv.bd yT).1
          have hixT := fun W => Rdv.ix yT el33 hpl .i64 W
          have hixQ := fun W => Rdv.ix yQ el33 hpl .i64 W
          have hcT := Rd.cell yT hpl
          have hcQ := Rd.cell yQ hpl
          obtain ⟨f1, f2⟩ := first_map ps n hpl
          rw [f1] at hcT
          rw [f2] at hcQ
          clear f1 f2 y5 y6 y10 y11 yT yQ
          have HP := Lib.hid hp
          have HN := Lib.hid hn
          have HI := Lib.hid hI
          have HNX := Lib.hid (fun h : (x1, x2) = ps[n] => pre_next hp hn hpl h)
          have HNO := Lib.hid (fun h : (x1, x2) ≠ ps[n] => pre_not (pre := pre) (x := (x1, x2)) hn hpl h)
          generalize hv : ps[n] = v at *
          obtain ⟨v1, v2⟩ := v
          clear hv hp hn hI
          by_cases h1 : x1 = v1
          · subst h1
            by_cases h2 : x2 = v2
            · subst h2
              obtain ⟨p1, p2⟩ := HNX.out rfl
              have HP1 := Lib.hid p1
              have HP2 := Lib.hid p2
              clear p1 p2 HNX HNO
              have e1 : (x1 != x1) = false := bne_f rfl
              have e2 : (x2 != x2) = false := bne_f rfl
              have HX := Lib.hid (HI.out.next HTW2.out (v := .int .i64 ((n : Int) + 1)) (by simp))
              obtain ⟨ko, kp, hi⟩ := HX.out
              have k14' := hi.x14.cell
              have k15' := hi.x15.cell
              clear ko kp hi
              gi_wp2
              refine ⟨HX.out.1, HX.out.2.1, by rw [HP2.out]; exact HP1.out, trivial, ?_⟩
              rw [HP2.out]; exact HX.out.2.2
            · have e1 : (x1 != x1) = false := bne_f rfl
              have e2 : (x2 != v2) = true := bne_t h2
              have HF := Lib.hid (HNO.out (fun h => h2 (by injection h)))
              clear HNX HNO h2
              gi_wp2
              exact ⟨KeepsOthers.setCell _ _ _, .inl HF.out⟩
          · have e1 : (x1 != v1) = true := bne_t h1
            have HF := Lib.hid (HNO.out (fun h => h1 (by injection h)))
            clear HNX HNO h1
            gi_wp2
            exact ⟨KeepsOthers.setCell _ _ _, .inl HF.out⟩
        case done5 =>
          rintro D2 xs W' hD2 hxs ⟨-, -, hI⟩ hK2
          rw [hxs] at hI
          clear hxs hI9
          obtain ⟨y5, y6, y10, y11, -, -, yT, yQ, yB⟩ := BX.out W' (HB7.out.trans (hI.bl.mono HB7.out.size))
          have k5 := y5.cell
          have k10 := y10.cell
          have k14 := hI.x14.cell
          have k15 := hI.x15.cell
          have Y6 := Lib.hid y6
          have YB := Lib.hid yB
          clear y5 y6 y10 y11 yT yQ yB
          have HI2 := Lib.hid hI
          have HK2 := Lib.hid hK2
          clear hI hK2
          dsimp only
          gi_wp2_with fail
          rw [roundsIn_succ]
          gi_wp2_with fail
          refine ⟨trivial, ?_⟩
          refine CallsIn.mono (callsIn_wide.2 (works_any _)) ?_
          rintro e w20 ⟨rfl, hB20⟩
          have z6 : Boxed w20 (w.heap.size + 1) 4 (.bool false) := (hB20.block _ (by have := Y6.out.lt; simp; omega)).trans (Y6.out.alloc _)
          have zk := z6.cell
          have zf := z6.frozen
          have Z6 := Lib.hid z6
          have HB20 := Lib.hid hB20
          clear z6 hB20
          gi_wp2
          have hq : w.heap.size + 1 < D ∧ D < D2 := by have := HS3.out; have := HS4.out; have := HB7.out.size; have := HTW.out.n15; have := HD8.out; have := HD9.out; omega
          have d2 : (w20.setCell ⟨w.heap.size + 1, 0, none⟩ (.bool true)).heap[D2]? = some (.deferred (some [])) := (KeepsOthers.setCell w20 _ _).same D2 _ ((HB20.out.block D2 (by have := heap_lt HK2.out; simp; omega)).trans (heap_old' HK2.out)) rfl
          have d1 : (w20.setCell ⟨w.heap.size + 1, 0, none⟩ (.bool true)).heap[D]? = some (.deferred (some [])) := (KeepsOthers.setCell w20 _ _).same D _ ((HB20.out.block D (by have := heap_lt (HI2.out.dd D rfl); simp; omega)).trans (heap_old' (HI2.out.dd D rfl))) rfl
          have b6 := ((Z6.out.set (.bool true)).kept (grownBy_putObj' _ D2 (.deferred none)) (fun e => by cases e; omega)).kept (grownBy_putObj' _ D (.deferred none)) (fun e => by cases e; omega)
          have l1 := load_bool b6
          have hbl : Below w.heap.size w (w20.setCell ⟨w.heap.size + 1, 0, none⟩ (.bool true)) := ((YB.out.alloc YB.out.size (.cells #[.int .i64 2] 3)).trans (HB20.out.mono (by have := YB.out.size; simp; omega))).setCell (Nat.le_succ _) _
          have hbl2 := hbl.grown (grownBy_putObj' _ D2 (.deferred none)) hbl.size (fun r e => by cases e; omega)
          have hbl3 := hbl2.grown (grownBy_putObj' _ D (.deferred none)) hbl2.size (fun r e => by cases e; omega)
          refine ⟨by simp, .inl ⟨_, _, rfl, run_takeDeferred d2, by simp, .inl ⟨_, _, rfl, run_takeDeferred ((World.putObj_heap_other (by omega)).trans d1), ?_⟩⟩⟩
          refine ⟨.bool true, ?_, rfl, hbl3⟩
          rw [results_c rfl]
          simp [asAddr, l1, Sem.run_pure]
        case stop5 =>
          rintro D2 c0 pre W' hD2 ⟨k, hk, hpk⟩ hx hK2
          rcases hx with hx | ⟨_, hC, _⟩
          · exact absurd hpk (hx k)
          · exact hC.elim
      · have he : ((n : Int) != (ps.length : Int)) = false := bne_f (by omega)
        gi_wp2_with fail
        rw [roundsIn_succ]
        gi_wp2_with fail
        obtain ⟨W9, hW9⟩ : ∃ W9, W9 = (W.alloc (.cells #[.int .i64 1] 3)).alloc (.cells #[.int .i64 0] 3) := ⟨_, rfl⟩
        have hs9 : W9.heap.size = W.heap.size + 2 := by rw [hW9]; simp
        have hlt9 := heap_lt HK.out
        have hI9 : TLI w7 W.heap.size (W.heap.size + 1) 1 (some D) 0 W9 := by
          rw [hW9]
          exact ⟨(HI.out.bl.alloc HI.out.bl.size _).alloc (by have := HI.out.bl.size; simp; omega) _, (Boxed.new W 3 (.int .i64 1)).alloc _, by have := Boxed.new (W.alloc (.cells #[.int .i64 1] 3)) 3 (.int .i64 0); rw [World.size_alloc] at this; exact this, fun D' e => by cases e; exact heap_old' (heap_old' HK.out)⟩
        rw [← hW9]
        have hTW2 : TLW w7 og (some D) W.heap.size (W.heap.size + 1) W9.heap.size := ⟨HI.out.bl.size, by omega, by omega, HOG.out, fun D' e => by cases e; omega⟩
        have HTW2 := Lib.hid hTW2
        have HD9 : Hid (D < W9.heap.size) := Lib.hid (by omega)
        have HD8 := Lib.hid hD
        clear hW9 hs9 hlt9 hTW2 hD k5 k10 k14 k15 hm hI8
        try clear hN
        try clear hm'
        try clear he
        try clear hl
        refine' wpIn_rangeFunc_ownF rfl (by omega) (gf := gf) (lb := lb) rfl trivial HEN.out (HSEQ.out W9 hI9.bl) (fun h k => KeepO.trans h k) (keepO_b HOG.out hI9.bl.size) (Below.refl _ _) (fun _ => rfl)
          (LI0 ps w7 W.heap.size (W.heap.size + 1) 1 (some D) (fun _ => True)) (LIx ps w7 W.heap.size (W.heap.size + 1) 1 (some D) (fun _ => False) 2) (LI0.own HTW2.out) (fun c => LIx.own HTW2.out c) ⟨rfl, trivial, hI9⟩ _ ?assign6 ?body6 ?done6 ?stop6
        case assign6 =>
          intro l x W K hK
          simp only [encP]
          gi_wp2
          exact hK
        case body6 =>
          rintro l pre ⟨x1, x2⟩ W ⟨hp, hC, hI⟩ hpl
          dsimp only
          obtain ⟨n, hn⟩ : ∃ n, pre.length = n := ⟨_, rfl⟩
          rw [hn] at hI hpl
          obtain ⟨y5, y6, y10, y11, -, -, yT, yQ, -⟩ := BX.out W (HB7.out.trans (hI.bl.mono HB7.out.size))
          have k5 := y5.cell
          have k6 := y6.frozen
          have k6c := y6.cell
          have k10 := y10.cell
          have k11 := y11.cell
          have k14 := hI.x14.cell
          have k15 := hI.x15.cell
          have q15 := hI.x15.frozen
          have hbT := (Rdv.bd yT).1
          have hixT := fun W => Rdv.ix yT el33 hpl .i64 W
          have hixQ := fun W => Rdv.ix yQ el33 hpl .i64 W
          have hcT := Rd.cell yT hpl
          have hcQ := Rd.cell yQ hpl
          obtain ⟨f1, f2⟩ := first_map ps n hpl
          rw [f1] at hcT
          rw [f2] at hcQ
          clear f1 f2 y5 y6 y10 y11 yT yQ
          have HP := Lib.hid hp
          have HN := Lib.hid hn
          have HI := Lib.hid hI
          have HNX := Lib.hid (fun h : (x1, x2) = ps[n] => pre_next hp hn hpl h)
          have HNO := Lib.hid (fun h : (x1, x2) ≠ ps[n] => pre_not (pre := pre) (x := (x1, x2)) hn hpl h)
          generalize hv : ps[n] = v at *
          obtain ⟨v1, v2⟩ := v
          clear hv hp hn hI
          by_cases h1 : x1 = v1
          · subst h1
            by_cases h2 : x2 = v2
            · subst h2
              obtain ⟨p1, p2⟩ := HNX.out rfl
              have HP1 := Lib.hid p1
              have HP2 := Lib.hid p2
              clear p1 p2 HNX HNO
              have e1 : (x1 != x1) = false := bne_f rfl
              have e2 : (x2 != x2) = false := bne_f rfl
              have HX := Lib.hid (HI.out.next HTW2.out (v := .int .i64 ((n : Int) + 1)) (by simp))
              obtain ⟨ko, kp, hi⟩ := HX.out
              have k14' := hi.x14.cell
              have k15' := hi.x15.cell
              clear ko kp hi
              gi_wp2
              refine ⟨HX.out.1, HX.out.2.1, by rw [HP2.out]; exact HP1.out, trivial, ?_⟩
              rw [HP2.out]; exact HX.out.2.2
            · have e1 : (x1 != x1) = false := bne_f rfl
              have e2 : (x2 != v2) = true := bne_t h2
              have HF := Lib.hid (HNO.out (fun h => h2 (by injection h)))
              clear HNX HNO h2
              gi_wp2
              exact ⟨KeepsOthers.setCell _ _ _, .inl HF.out⟩
          · have e1 : (x1 != v1) = true := bne_t h1
            have HF := Lib.hid (HNO.out (fun h => h1 (by injection h)))
            clear HNX HNO h1
            gi_wp2
            exact ⟨KeepsOthers.setCell _ _ _, .inl HF.out⟩
        case done6 =>
          rintro D2 xs W' hD2 hxs ⟨-, -, hI⟩ hK2
          rw [hxs] at hI
          clear hxs hI9
          obtain ⟨y5, y6, y10, y11, -, -, yT, yQ, yB⟩ := BX.out W' (HB7.out.trans (hI.bl.mono HB7.out.size))
          have k5 := y5.cell
          have k10 := y10.cell
          have k14 := hI.x14.cell
          have k15 := hI.x15.cell
          have Y6 := Lib.hid y6
          have YB := Lib.hid yB
          clear y5 y6 y10 y11 yT yQ yB
          have HI2 := Lib.hid hI
          have HK2 := Lib.hid hK2
          clear hI hK2
          dsimp only
          gi_wp2_with fail
          rw [roundsIn_succ]
          gi_wp2_with fail
          refine ⟨trivial, ?_⟩
          refine CallsIn.mono (callsIn_wide.2 (works_any _)) ?_
          rintro e w20 ⟨rfl, hB20⟩
          have z6 : Boxed w20 (w.heap.size + 1) 4 (.bool false) := (hB20.block _ (by have := Y6.out.lt; simp; omega)).trans (Y6.out.alloc _)
          have zk := z6.cell
          have zf := z6.frozen
          have Z6 := Lib.hid z6
          have HB20 := Lib.hid hB20
          clear z6 hB20
          gi_wp2
          have hq : w.heap.size + 1 < D ∧ D < D2 := by have := HS3.out; have := HS4.out; have := HB7.out.size; have := HTW.out.n15; have := HD8.out; have := HD9.out; omega
          have d2 : (w20.setCell ⟨w.heap.size + 1, 0, none⟩ (.bool true)).heap[D2]? = some (.deferred (some [])) := (KeepsOthers.setCell w20 _ _).same D2 _ ((HB20.out.block D2 (by have := heap_lt HK2.out; simp; omega)).trans (heap_old' HK2.out)) rfl
          have d1 : (w20.setCell ⟨w.heap.size + 1, 0, none⟩ (.bool true)).heap[D]? = some (.deferred (some [])) := (KeepsOthers.setCell w20 _ _).same D _ ((HB20.out.block D (by have := heap_lt (HI2.out.dd D rfl); simp; omega)).trans (heap_old' (HI2.out.dd D rfl))) rfl
          have b6 := ((Z6.out.set (.bool true)).kept (grownBy_putObj' _ D2 (.deferred none)) (fun e => by cases e; omega)).kept (grownBy_putObj' _ D (.deferred none)) (fun e => by cases e; omega)
          have l1 := load_bool b6
          have hbl : Below w.heap.size w (w20.setCell ⟨w.heap.size + 1, 0, none⟩ (.bool true)) := ((YB.out.alloc YB.out.size (.cells #[.int .i64 2] 3)).trans (HB20.out.mono (by have := YB.out.size; simp; omega))).setCell (Nat.le_succ _) _
          have hbl2 := hbl.grown (grownBy_putObj' _ D2 (.deferred none)) hbl.size (fun r e => by cases e; omega)
          have hbl3 := hbl2.grown (grownBy_putObj' _ D (.deferred none)) hbl2.size (fun r e => by cases e; omega)
          refine ⟨by simp, .inl ⟨_, _, rfl, run_takeDeferred d2, by simp, .inl ⟨_, _, rfl, run_takeDeferred ((World.putObj_heap_other (by omega)).trans d1), ?_⟩⟩⟩
          refine ⟨.bool true, ?_, rfl, hbl3⟩
          rw [results_c rfl]
          simp [asAddr, l1, Sem.run_pure]
        case stop6 =>
          rintro D2 c0 pre W' hD2 ⟨k, hk, hpk⟩ hx hK2
          rcases hx with hx | ⟨_, hC, _⟩
          · exact absurd hpk (hx k)
          · exact hC.elim
end Go.Proofs.Ytkagdiejpcfggaa
