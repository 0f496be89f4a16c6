/-
  Contract of plan, several blocks. Condition: none.
-/
import Derived.Test.YtcbbkflnenkpgaaGreatSe
namespace Go.Proofs.YtcbbkflnenkpgaaGreat
open Go.RowKit
set_option linter.unusedVariables false
theorem cell_set_ne (w : World) {p q : Addr} (h : p.block ≠ q.block) (v : Value) : (w.setCell q v).cell? p = w.cell? p := by
  refine World.cell?_of_block ?_
  show (w.heap.modify q.block _)[p.block]? = _
  rw [Array.getElem?_modify, if_neg (fun e => h e.symm)]
theorem w64 {x : Int} (h : 0 ≤ x ∧ x ≤ 1000000000) : wrap64 x = x := by unfold wrap64; omega
theorem nsub {a b : Nat} (h : b ≤ a) : ((a : Int) - (b : Int)) = ((a - b : Nat) : Int) := by omega
theorem w64n {a : Nat} (h : a ≤ 200000) : wrap64 (a : Int) = (a : Int) := w64 ⟨by omega, by omega⟩
theorem plan_e1 {P N T S Q : Nat} (hP : P ≤ 80000) (htl1 : T ≤ P) (hSN : S < N) (hq : Q = (P - T) / (N - S)) (hQ : Q ≤ 13) :
    wrap64 ((wrap64 (wrap64 (P : Int) - T)).tdiv ((N : Int) - S)) = (Q : Int) := by
  rw [w64n (a := P) (Nat.le_trans hP (by decide)), nsub htl1, w64n (a := P - T) (Nat.le_trans (Nat.sub_le _ _) (Nat.le_trans hP (by decide))), nsub (Nat.le_of_lt hSN), Int.tdiv_eq_ediv_of_nonneg (Int.natCast_nonneg _), ← Int.natCast_ediv, ← hq]
  exact w64n (Nat.le_trans hQ (by decide))
theorem plan_e3 {P1 P2 T F : Nat} (h1 : P1 ≤ 80000) (h2 : P2 ≤ 80000) (hfi : T + F = P1 + P2) :
    wrap64 (wrap64 (wrap64 (P1 : Int) + wrap64 (P2 : Int)) - T) = (F : Int) := by
  rw [w64n (a := P1) (Nat.le_trans h1 (by decide)), w64n (a := P2) (Nat.le_trans h2 (by decide)), ← Int.natCast_add, w64n (a := P1 + P2) (by omega), nsub (by omega), show P1 + P2 - T = F by omega]
  exact w64n (by omega)
theorem plan_eqs {C N T S Q R F : Nat} (hC13 : C ≤ 13) (hN2 : N ≤ 6144) (htl1 : T ≤ C * N) (hsl : Q < C) (hSN : S < N) (hq : Q = (C * N - T) / (N - S)) (hl : R = C - Q) (hfi : T + F = R * N + Q * S) :
    wrap64 ((wrap64 (wrap64 ((C : Int) * N) - T)).tdiv ((N : Int) - S)) = (Q : Int) ∧ wrap64 ((C : Int) - Q) = (R : Int) ∧ wrap64 (wrap64 (wrap64 ((R : Int) * N) + wrap64 ((Q : Int) * S)) - T) = (F : Int) := by
  have hQ13 : Q ≤ 13 := Nat.le_trans (Nat.le_of_lt hsl) hC13
  have hCN : C * N ≤ 80000 := Nat.le_trans (Nat.mul_le_mul hC13 hN2) (by decide)
  have hQS : Q * S ≤ 80000 := Nat.le_trans (Nat.mul_le_mul hQ13 (Nat.le_trans (Nat.le_of_lt hSN) hN2)) (by decide)
  have hR13 : R ≤ 13 := by rw [hl]; exact Nat.le_trans (Nat.sub_le _ _) hC13
  have hRN : R * N ≤ 80000 := Nat.le_trans (Nat.mul_le_mul hR13 hN2) (by decide)
  rw [← Int.natCast_mul, ← Int.natCast_mul, ← Int.natCast_mul]
  refine ⟨plan_e1 hCN htl1 hSN hq hQ13, ?_, plan_e3 hRN hQS hfi⟩
  rw [nsub (Nat.le_of_lt hsl), ← hl]
  exact w64n (Nat.le_trans hR13 (by decide))
set_option maxRecDepth 100000 in
set_option maxHeartbeats 1000000 in
theorem plan_many (b : Nat) (w : World) (h1 : ¬ b ≤ 6144) (h2 : b ≤ 79560) : Calls Tryz.prog 43 #[.int .i64 b] w (PlPost b w) := by
  have h6 : 6144 < b := by omega
  have hC2 := bC_two h1
  have hC13 := bC_le h2
  have hCe : ((b : Int) + 6144 - 25) / 6120 = (bC b : Int) := by unfold bC; rw [if_neg h1]; omega
  have hTe : tl b = b + bC b * 24 := by unfold tl ck; rw [if_neg h1]
  have hav := @av_le b
  have havd : av b = (tl b + bC b - 1) / bC b := rfl
  have havb := av_big h1
  have hN1 := @lo_ge b
  have hN2 := @lo_le b
  have hSb := sh_lt h1
  have eN : SZ (ix (av b)) = lo b := rfl
  have eS : SZ (ix (av b) - 1) = sh b := by unfold sh; rw [if_neg h1]; rfl
  have hlt := ix_lt hav
  have hpos := ix_pos (show 40 < av b by omega)
  have HLY := Lib.hid (show LY b = [(b : Int), (bC b : Int), (lo b : Int), (sh b : Int), (los b : Int), (shs b : Int), (fi b : Int)] from rfl)
  have htl1 := @tl_le b
  have hq := Lib.hid (show shs b = (bC b * lo b - tl b) / (lo b - sh b) by unfold shs; rw [if_neg h1])
  have hsl := shs_lt (show 1 ≤ b by omega)
  have hlos : los b = bC b - shs b := rfl
  have hfi := fi_eq (show 1 ≤ b by omega)
  have hfl := fi_lt (show 1 ≤ b by omega) h2
  generalize bC b = C at *
  generalize tl b = T at *
  generalize av b = V at *
  generalize lo b = N at *
  generalize sh b = S at *
  generalize shs b = Q at *
  generalize los b = R at *
  generalize fi b = F at *
  have HEN := Lib.hid eN
  have HES := Lib.hid eS
  have HTE := Lib.hid hTe
  have HLOS := Lib.hid hlos
  have HFI := Lib.hid hfi
  have hVe : ((T : Int) + C - 1).tdiv C = V := by
    rw [Int.tdiv_eq_ediv_of_nonneg (by omega), havd]; push_cast; rw [show ((T + C - 1 : Nat) : Int) = (T : Int) + C - 1 by omega]
  have hVe' : ((T : Int) + C - 1) / C = V := by rw [← hVe, Int.tdiv_eq_ediv_of_nonneg (by omega)]
  have hTl : T ≤ 80000 := by omega
  clear eN eS hTe hlos hfi havd
  have hd : decide ((b : Int) ≤ 79560) = true := by simp; omega
  go_enter Tryz.func43, Tryz.ntmps43
  go_wp2_with (first
    | (go_at_call 44; refine (must_ok _ _).mono ?_; rintro e w' ⟨rfl, rfl⟩))
  have hR0 : Blk ((w.alloc (.cells (ints8 [0, 0, 0, 0, 0, 0, 0]).toArray 79)).alloc (.cells (ints8 [(b : Int), (C : Int), 0, 0, 0, 0, 0]).toArray 79)) w.heap.size 79 (ints8 [0, 0, 0, 0, 0, 0, 0]) := (Blk.new w _ 79 rfl).alloc _
  have hL0 : Blk ((w.alloc (.cells (ints8 [0, 0, 0, 0, 0, 0, 0]).toArray 79)).alloc (.cells (ints8 [(b : Int), (C : Int), 0, 0, 0, 0, 0]).toArray 79)) (w.heap.size + 1) 79 (ints8 [(b : Int), (C : Int), 0, 0, 0, 0, 0]) := Blk.new _ _ 79 (by simp)
  have hB0 : Below w.heap.size w ((w.alloc (.cells (ints8 [0, 0, 0, 0, 0, 0, 0]).toArray 79)).alloc (.cells (ints8 [(b : Int), (C : Int), 0, 0, 0, 0, 0]).toArray 79)) := ((Below.refl _ _).alloc (Nat.le_refl _) _).alloc (by simp) _
  simp only [ints8, List.map_cons, List.map_nil] at hR0 hL0 hB0
  generalize hW : (w.alloc (.cells #[.int .i64 0, .int .i64 0, .int .i64 0, .int .i64 0, .int .i64 0, .int .i64 0, .int .i64 0] 79)).alloc (.cells #[.int .i64 b, .int .i64 C, .int .i64 0, .int .i64 0, .int .i64 0, .int .i64 0, .int .i64 0] 79) = W at *
  obtain ⟨RB, hRB⟩ : ∃ RB, RB = w.heap.size := ⟨_, rfl⟩
  obtain ⟨LB, hLB⟩ : ∃ LB, LB = w.heap.size + 1 := ⟨_, rfl⟩
  rw [← hLB] at hL0 ⊢
  rw [← hRB] at hR0 ⊢
  have HRB := Lib.hid hRB
  have HLB := Lib.hid hLB
  have HW := Lib.hid hW
  clear hRB hLB hW
  obtain ⟨⟨c0, c1, c2, c3, c4, c5, c6⟩, -⟩ := Blk.seven hL0
  go_region_held3 (fun W => W.cell? ⟨LB, 0, none⟩ = some (.int .i64 b) ∧ W.cell? ⟨LB, 1, none⟩ = some (.int .i64 C) ∧ W.cell? ⟨LB, 2, none⟩ = some (.int .i64 0) ∧ W.cell? ⟨LB, 3, none⟩ = some (.int .i64 0) ∧ W.cell? ⟨LB, 4, none⟩ = some (.int .i64 0) ∧ W.cell? ⟨LB, 5, none⟩ = some (.int .i64 0) ∧ W.cell? ⟨LB, 6, none⟩ = some (.int .i64 0))
    (first | exact ⟨c0, c1, c2, c3, c4, c5, c6⟩ | exact (Blk.seven hL1).1)
    (first | (go_at_call 49; refine (check_lay _ _ _ _ _ _ _ _).mono ?_; rintro e w1 ⟨he, hB1⟩; rw [if_pos (show (1 : Int) < (C : Int) by omega)] at he; subst he; have hL1 := (Blk.drew hL0).below hB1))
  clear c0 c1 c2 c3 c4 c5 c6
  have hR1 := Blk.below (Blk.drew hR0) hB1
  have HB1 := Lib.hid (hB0.trans (((Below.refl _ W).drew.trans hB1).mono hB0.size))
  clear hB0 hB1 hL0 hR0
  have hw1 : IntKind.i64.wrap ((C : Int) * 24) = C * 24 := by rw [IntKind.wrap_i64]; omega
  have hw0 : IntKind.i64.wrap ((b : Int) + C * 24) = T := by rw [IntKind.wrap_i64, HTE.out]; omega
  rw [hw1, hw0]
  clear hw0 hw1
  have hne : LB ≠ RB := by rw [HLB.out, HRB.out]; omega
  have hne' : RB ≠ LB := hne.symm
  have hl1 : ix V - 1 < 188 := by omega
  have hi1 : ((ix V : Int) - 1) = ((ix V - 1 : Nat) : Int) := by omega
  have HI1 := Lib.hid hi1
  clear hi1
  go_wp2_with (first
    | (go_at_call 89; refine (sizes_any _).mono ?_; rintro e w2 ⟨A, c, rfl, hO, hB2⟩; have hRd := Own.rd hO; have hc := Rd.cell hRd hlt; rw [gi_szL _ _ hlt, HEN.out] at hc; have hc1 := Rd.cell hRd hl1; rw [gi_szL _ _ hl1, HES.out] at hc1; have hix := fun W => Rdv.ix hRd el34 hlt .i64 W; have hix1 := fun W => Rdv.ixI hRd el34 hl1 .i64 ((ix V : Int) - 1) HI1.out W; have hcs : ∀ v, (w2.setCell ⟨LB, 2, none⟩ v).cell? (adr A (ix V - 1)) = some (.int .i64 S) := (fun v => (cell_set_ne w2 (p := adr A (ix V - 1)) (q := ⟨LB, 2, none⟩) (show blk A ≠ LB by have h10 := Rdv.le hRd; have h8 := (Ownv.blk_ge hO (by omega)).1; have h9 := hL1.lt; omega) v).trans hc1); have hL2 := hL1.below hB2; have hR2 := hR1.below hB2; obtain ⟨⟨c0, c1, c2, c3, c4, c5, c6⟩, f0, f1, f2, f3, f4, f5, f6⟩ := Blk.seven hL2; obtain ⟨⟨d0, d1, d2, d3, d4, d5, d6⟩, g0, g1, g2, g3, g4, g5, g6⟩ := Blk.seven hR2; have HB2 := Lib.hid (HB1.out.trans (hB2.mono HB1.out.size)); clear hB2)
    | (go_at_call 90; refine (bsearch_any A c V _ hav hRd).mono ?_; rintro e w3 ⟨⟨fnd, rfl⟩, rfl⟩))
  obtain ⟨E1, E2, E3⟩ := plan_eqs hC13 hN2 htl1 hsl (by omega) hq.out HLOS.out HFI.out
  rw [E1, E2, E3]
  clear E1 E2 E3
  have hF : Blk ((((((((((((w2.setCell ⟨LB, 2, none⟩ (.int .i64 (N : Int))).setCell ⟨LB, 3, none⟩ (.int .i64 (S : Int))).setCell ⟨LB, 5, none⟩ (.int .i64 (Q : Int))).setCell ⟨LB, 4, none⟩ (.int .i64 (R : Int))).setCell ⟨LB, 6, none⟩ (.int .i64 (F : Int))).setCell ⟨RB, 0, none⟩ (.int .i64 (b : Int))).setCell ⟨RB, 1, none⟩ (.int .i64 (C : Int))).setCell ⟨RB, 2, none⟩ (.int .i64 (N : Int))).setCell ⟨RB, 3, none⟩ (.int .i64 (S : Int))).setCell ⟨RB, 4, none⟩ (.int .i64 (R : Int))).setCell ⟨RB, 5, none⟩ (.int .i64 (Q : Int))).setCell ⟨RB, 6, none⟩ (.int .i64 (F : Int))) RB 79 (ints8 [(b : Int), C, N, S, R, Q, F]) := ((((((((((((hR2.other hne _ _).other hne _ _).other hne _ _).other hne _ _).other hne _ _).set 0 _).set 1 _).set 2 _).set 3 _).set 4 _).set 5 _).set 6 _)
  have hl1' : w.heap.size ≤ LB := by rw [HLB.out]; omega
  have hr1 : w.heap.size ≤ RB := by rw [HRB.out]; omega
  have hBe := ((((((((((((HB2.out.setCell (p := ⟨LB, 2, none⟩) hl1' (.int .i64 (N : Int))).setCell (p := ⟨LB, 3, none⟩) hl1' (.int .i64 (S : Int))).setCell (p := ⟨LB, 5, none⟩) hl1' (.int .i64 (Q : Int))).setCell (p := ⟨LB, 4, none⟩) hl1' (.int .i64 (R : Int))).setCell (p := ⟨LB, 6, none⟩) hl1' (.int .i64 (F : Int))).setCell (p := ⟨RB, 0, none⟩) hr1 (.int .i64 (b : Int))).setCell (p := ⟨RB, 1, none⟩) hr1 (.int .i64 (C : Int))).setCell (p := ⟨RB, 2, none⟩) hr1 (.int .i64 (N : Int))).setCell (p := ⟨RB, 3, none⟩) hr1 (.int .i64 (S : Int))).setCell (p := ⟨RB, 4, none⟩) hr1 (.int .i64 (R : Int))).setCell (p := ⟨RB, 5, none⟩) hr1 (.int .i64 (Q : Int))).setCell (p := ⟨RB, 6, none⟩) hr1 (.int .i64 (F : Int)))
  have HF := Lib.hid hF
  have HBE := Lib.hid hBe
  clear hF hBe
  generalize ((((((((((((w2.setCell ⟨LB, 2, none⟩ (.int .i64 (N : Int))).setCell ⟨LB, 3, none⟩ (.int .i64 (S : Int))).setCell ⟨LB, 5, none⟩ (.int .i64 (Q : Int))).setCell ⟨LB, 4, none⟩ (.int .i64 (R : Int))).setCell ⟨LB, 6, none⟩ (.int .i64 (F : Int))).setCell ⟨RB, 0, none⟩ (.int .i64 (b : Int))).setCell ⟨RB, 1, none⟩ (.int .i64 (C : Int))).setCell ⟨RB, 2, none⟩ (.int .i64 (N : Int))).setCell ⟨RB, 3, none⟩ (.int .i64 (S : Int))).setCell ⟨RB, 4, none⟩ (.int .i64 (R : Int))).setCell ⟨RB, 5, none⟩ (.int .i64 (Q : Int))).setCell ⟨RB, 6, none⟩ (.int .i64 (F : Int))) = Wf at *
  refine bodyPost_ret (v := .agg (ints8 [(b : Int), C, N, S, R, Q, F]).toArray) ?_ rfl ⟨by rw [HLY.out], HBE.out⟩
  rw [results_c rfl]
  have l1 := res99 HF.out rfl
  simp [asAddr, l1, Sem.run_pure]
end Go.Proofs.YtcbbkflnenkpgaaGreat
