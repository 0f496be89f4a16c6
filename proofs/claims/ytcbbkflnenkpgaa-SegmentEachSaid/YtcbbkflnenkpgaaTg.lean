/-
  The walk of the statement on the iterator over the sizes of blocks. Condition: none.
-/
import Derived.Test.YtcbbkflnenkpgaaTf
import Derived.Test.YtcbbkflnenkpgaaSw
import Derived.OpenShut
namespace Go.Proofs.Ytcbbkflnenkpgaa
open Go.RowKit Go.Shelf
set_option linter.unusedVariables false
attribute [local go_sem] Oper.semAt_some
set_option maxRecDepth 100000 in
set_option maxHeartbeats 8000000 in
theorem each_law (a0 a1 : Int) (w : World) (hv1 : -9223372036854775808 ≤ a1 ∧ a1 ≤ 9223372036854775807) :
    Calls Try.prog 12 #[.int .i64 a0, .int .i64 a1] w fun e w' => e = .returned (.bool true) ∧ Below w.heap.size w w' := by
  refine (callsIn_wide (n := 3)).1 ?_
  refine callsIn_of_wp_marks Try.func12 rfl trivial ?_
  simp only [Try.ntmps12, List.size_toArray, List.length_cons, List.length_nil, Nat.reduceAdd, Nat.reduceSub, Array.replicate_succ, Array.replicate_zero, List.push_toArray, List.append_toArray, List.nil_append, List.cons_append]
  refine wpIn_wide.2 ?_
  obtain ⟨W0, hW0⟩ : ∃ W0, W0 = (w.alloc (.cells #[.int .i64 a1] 3)).alloc (.cells #[.bool false] 4) := ⟨_, rfl⟩
  have x7 : Blk W0 w.heap.size 3 [.int .i64 a1] := by rw [hW0]; exact (Blk.new w [.int .i64 a1] 3 rfl).alloc _
  have x8 : Blk W0 (w.heap.size + 1) 4 [.bool false] := by rw [hW0]; exact Blk.new (w.alloc _) [.bool false] 4 (by simp)
  have hb0 : Below w.heap.size w W0 := by rw [hW0]; exact ((Below.refl _ w).alloc (Nat.le_refl _) _).alloc (by simp) _
  have X7 := Lib.hid x7
  have X8 := Lib.hid x8
  have HX8LT : Hid (w.heap.size + 1 < W0.heap.size) := Lib.hid x8.lt
  have HB0 := Lib.hid hb0
  have HW0 := Lib.hid hW0
  clear x7 x8 hb0 hW0
  go_wp2_with fail
  rw [← HW0.out]
  refine (reach_all a0 W0).mono ?_
  rintro e w3 ⟨Aw, cw, rfl, hO3, hB3⟩
  obtain ⟨N, hN⟩ : ∃ N, N = nE a0 := ⟨_, rfl⟩
  have HN := Lib.hid hN
  have HLL := Lib.hid (show N ≤ 13 by rw [hN]; exact nE_le a0)
  rw [← hN] at hO3 ⊢
  clear hN
  have hN13 := HLL.out
  go_wp2_with fail
  obtain ⟨w5, hw5⟩ : ∃ W, W = w3.alloc (.cells #[.slice Aw N cw] 34) := ⟨_, rfl⟩
  have hq : Below w3.heap.size w3 w5 := by rw [hw5]; exact (Below.refl _ w3).alloc (Nat.le_refl _) _
  have hb5 := hB3.trans (hq.mono hB3.size)
  have X7 := Lib.hid (X7.out.below hb5)
  have X8 := Lib.hid (X8.out.below hb5)
  have HX9 : Hid (Blk w5 w3.heap.size 34 [.slice Aw N cw]) := Lib.hid (by rw [hw5]; exact Blk.new w3 [.slice Aw N cw] 34 rfl)
  have HRW0 := Lib.hid (Rdv.below (Own.rd hO3) hq)
  have HAW : Hid (∀ a, Aw = some a → w3.heap.size ≠ a.block ∧ w.heap.size + 1 < a.block ∧ a.block < w5.heap.size) := Lib.hid (fun a ha => by
    have h1 := HX8LT.out
    have h2 := hq.size
    rcases (Ownv.cases hO3).2 with ⟨h8, -, -⟩ | ⟨g, cur, h8, h9, h10, -⟩
    · rw [h8] at ha; cases ha
    · rw [h8] at ha
      cases ha
      have h11 := heap_lt' h10
      show w3.heap.size ≠ g ∧ _ < g ∧ g < _
      omega)
  have HB5 := Lib.hid (HB0.out.trans (hb5.mono HB0.out.size))
  have hlt9 : w.heap.size + 1 < w3.heap.size := by have := HX8LT.out; have := hB3.size; omega
  have HRW : Hid (Rd .i64 w5 Aw N cw (szs a0.toNat (nE a0))) := Lib.hid (by rw [← HN.out]; exact HRW0.out)
  rw [← hw5]
  clear hq hb5 hO3 hB3 hw5 HRW0 HB0 HW0 HX8LT
  generalize w3.heap.size = b9 at *
  obtain ⟨PS, hPS⟩ : ∃ PS, PS = psE a0 := ⟨_, rfl⟩
  obtain ⟨WL, hWL⟩ : ∃ WL, WL = szs a0.toNat (nE a0) := ⟨_, rfl⟩
  have HPG : Hid (∀ n (h : n < PS.length), PS[n].1 = (n : Int) ∧ PS[n].2 = gi WL n) := Lib.hid (by rw [hPS, hWL]; exact psE_get a0)
  have HPL : Hid (PS.length = N) := Lib.hid (by rw [hPS, psE_len, HN.out])
  rw [← hWL] at HRW
  have KF : Hid (KpF w.heap.size (w.heap.size + 1) b9 a1 Aw N cw WL (fun _ => True) w w5) := Lib.hid ⟨X7.out, X8.out, HX9.out, HRW.out, trivial, HB5.out⟩
  have HX9LT := Lib.hid HX9.out.lt
  have HWZ := Lib.hid HB5.out.size
  clear hWL HRW X7 X8 HX9 HB5
  go_wp2_with fail
  refine (each_all a0 w5).mono ?_
  rintro e w9 ⟨lb, Ok, Fw, rfl, hIt, hFw, hfr, hB9⟩
  rw [← hPS] at hIt
  have HIT := Lib.hid hIt
  have HFR := Lib.hid hfr
  have KF := Lib.hid ((KF.out.belowT hB9).to hFw)
  have HZ9 := Lib.hid hB9.size
  have hfn := fun W => run_eql_func_nil (P := Try.prog) W Try.underlying71 (.func 79) #[] lb
  clear hIt hFw hfr hB9 hPS HN
  go_wp2_with fail
  have hx9 := HX9LT.out
  have hwz := HWZ.out
  have hz9 := HZ9.out
  obtain ⟨wr, hwr⟩ : ∃ W : World, W = w9 := ⟨_, rfl⟩
  have hzr : w9.heap.size ≤ wr.heap.size := by rw [hwr]; exact Nat.le_refl _
  rw [← hwr] at KF
  rw [← hwr]
  clear hwr
  obtain ⟨Wt, hWt⟩ : ∃ Wt, Wt = wr.alloc (.cells #[.int .i64 0] 3) := ⟨_, rfl⟩
  have x15 : Blk Wt wr.heap.size 3 [.int .i64 0] := by rw [hWt]; exact Blk.new wr [.int .i64 0] 3 rfl
  have kt : KpF w.heap.size (w.heap.size + 1) b9 a1 Aw N cw WL Fw w Wt := by rw [hWt]; exact KF.out.below HIT.out ((Below.refl _ wr).alloc (Nat.le_refl _) _)
  have hst : Wt.heap.size = wr.heap.size + 1 := by rw [hWt]; simp
  rw [← hWt]
  clear KF hWt
  have h15 : w9.heap.size ≤ wr.heap.size := hzr
  clear hzr
  generalize wr.heap.size = b15 at *
  refine wp_loop_rounds 3 ?_
  rw [rounds_succ]
  have c15 := x15.cell (j := 0) (v := .int .i64 0) rfl
  go_wp2_with fail
  obtain ⟨Wr, hWr⟩ : ∃ Wr, Wr = Wt.alloc (.cells #[.int .i64 0] 3) := ⟨_, rfl⟩
  have hbW : Below Wt.heap.size Wt Wr := by rw [hWr]; exact (Below.refl _ Wt).alloc (Nat.le_refl _) _
  have x16 : Blk Wr (b15 + 1) 3 [.int .i64 ((0 : Nat) : Int)] := by rw [hWr]; exact Blk.new Wt [.int .i64 0] 3 hst.symm
  have X15 := Lib.hid (x15.below hbW)
  have KR := Lib.hid (kt.below HIT.out hbW)
  have hsr : Wr.heap.size = Wt.heap.size + 1 := by rw [hWr]; simp
  rw [← hWr]
  clear hWr hbW x15 kt c15
  have hsr : Wr.heap.size = b15 + 1 + 1 := by rw [hsr, hst]
  clear hst
  generalize hb16 : b15 + 1 = b16 at *
  have h16 : b15 < b16 := by omega
  clear hb16
  have HKO : Hid (KpO w.heap.size (w.heap.size + 1) b9 Aw Ok b16) := Lib.hid ⟨by omega, by omega, by omega, fun a ha => by have := HAW.out a ha; omega, HFR.out _ (by omega)⟩
  have HW16 : Hid (w.heap.size ≤ b16 ∧ b15 ≠ b16) := Lib.hid ⟨by omega, by omega⟩
  have HSR : Hid (Wr.heap.size = b16 + 1) := Lib.hid (by omega)
  refine (wpIn_wide (n := 3)).1 ?_
  refine' rangeC (w0 := Wr) (gf := 79) (lb := lb) rfl (enters_of Try.func79 (by kernel_rfl) rfl) (HIT.out.seq b16 Wr HKO.out.ok KR.out.fw (by omega)) KpB.trans (fun W l o o' hl h1 h2 => KpB.put o' h1 h2) (Below.refl _ _) (fun _ => rfl)
    (Lp0 PS w Wr b16 none (fun n => n = 0 ∨ (n : Int) < a1)) (Lpx PS w Wr b16 none (fun n => 1 ≤ n ∧ a1 ≤ (n : Int) ∧ (n = 1 ∨ (n : Int) - 1 < a1) ∧ n ≤ N) 2) (Lp0.cl (by omega) (by omega) (fun D e => by cases e)) (fun c => Lpx.cl (by omega) (by omega) (fun D e => by cases e) c) ⟨rfl, .inl rfl, ⟨x16, KpB.refl _ _, KR.out.bl, fun D e => by cases e⟩⟩ _ ?assign ?body ?done ?stop
  case assign =>
    intro l x W K hK
    unfold encP
    gi_wp2
    exact hK
  case body =>
    rintro l pre ⟨x1, x2⟩ W ⟨hp, hC, hI⟩ hpl
    dsimp only
    obtain ⟨n, hn⟩ : ∃ n, pre.length = n := ⟨_, rfl⟩
    rw [hn] at hC hI hpl
    have KW := KR.out.kp HIT.out HKO.out hI.k hI.bl
    have hnN : n < N := by rw [← HPL.out]; exact hpl
    have h15k := X15.out.kp hI.k (by simpa using HW16.out.2)
    have c15 := h15k.cell (j := 0) (v := .int .i64 0) rfl
    have c16 := hI.x.cell (j := 0) (v := .int .i64 (n : Int)) rfl
    have f16 := hI.x.frozen 0
    have c7 := KW.x7.cell (j := 0) (v := .int .i64 a1) rfl
    have c8 := KW.x8.cell (j := 0) (v := .bool false) rfl
    have f8 := KW.x8.frozen 0
    have c9 := KW.x9.cell (j := 0) (v := .slice Aw N cw) rfl
    have hcw := Rd.cell KW.r (j := n) hnN
    have hixw := fun W => Rdv.ix KW.r el34 hnN .i64 W
    have hps : PS[n] = ((n : Int), gi WL n) := Prod.ext (HPG.out n hpl).1 (HPG.out n hpl).2
    have hnx := fun h : (x1, x2) = PS[n] => pre_next hp hn hpl h
    have hno := fun h : (x1, x2) ≠ PS[n] => pre_not hn hpl h
    rw [hps] at hnx hno
    have HNX := Lib.hid hnx
    have HNO := Lib.hid hno
    have HI := Lib.hid hI
    have HC := Lib.hid hC
    have n15 := HW16.out.2
    have n7 := HKO.out.h7
    have hnb : (n : Int) + 1 ≤ 1000001 := by have := HLL.out; omega
    clear hps hnx hno hI hC hp KW h15k hpl
    generalize gi WL n = v at *
    by_cases h1 : x1 = (n : Int)
    · subst h1
      by_cases h2 : x2 = v
      · subst h2
        have e1 : ((n : Int) != (n : Int)) = false := bne_f rfl
        have e2 : (x2 != x2) = false := bne_f rfl
        obtain ⟨p1, p2⟩ := HNX.out rfl
        have HP1 := Lib.hid p1
        have HP2 := Lib.hid p2
        have HX := Lib.hid (HI.out.next HW16.out.1 (.int .i64 ((n : Int) + 1)) (by push_cast; rfl))
        have d15 := ((X15.out.kp HX.out.2.2.k (by simpa using HW16.out.2))).cell (j := 0) (v := .int .i64 0) rfl
        have d16 := HX.out.2.2.x.cell (j := 0) (v := .int .i64 ((n + 1 : Nat) : Int)) rfl
        have d7 := ((KR.out.kp HIT.out HKO.out HX.out.2.2.k HX.out.2.2.bl)).x7.cell (j := 0) (v := .int .i64 a1) rfl
        have wn : IntKind.i64.wrap ((n : Int) + 1) = (n : Int) + 1 := IntWalk.i64_in _ (by omega)
        push_cast at d16
        clear p1 p2 HNX HNO e1 hnb wn
        by_cases hm : a1 ≤ (n : Int) + 1
        · gi_wp2
          exact ⟨HX.out.1, .inr ⟨rfl, by rw [HP2.out]; have := HC.out; omega, by rw [HP2.out]; exact HX.out.2.2⟩⟩
        · gi_wp2
          exact ⟨HX.out.1, HX.out.2.1, by rw [HP2.out]; exact HP1.out, by rw [HP2.out]; right; push_cast; omega, by rw [HP2.out]; exact HX.out.2.2⟩
      · have e1 : ((n : Int) != (n : Int)) = false := bne_f rfl
        have e2 : (x2 != v) = true := bne_t h2
        have HFX := Lib.hid (HNO.out (fun h => h2 (by injection h)))
        clear HNX HNO h2
        gi_wp2
        exact ⟨KeepsOthers.setCell _ _ _, .inl HFX.out⟩
    · have e1 : (x1 != (n : Int)) = true := bne_t h1
      have HFX := Lib.hid (HNO.out (fun h => h1 (by injection h)))
      clear HNX HNO h1
      gi_wp2
      exact ⟨KeepsOthers.setCell _ _ _, .inl HFX.out⟩
  case done =>
    rintro D ys W hD hys ⟨-, hC, hI⟩ hK
    rw [hys, HPL.out] at hC hI
    clear hys
    have KWH := Lib.hid (KR.out.kp HIT.out HKO.out hI.k hI.bl)
    have c15 := (X15.out.kp hI.k (by simpa using HW16.out.2)).cell (j := 0) (v := .int .i64 0) rfl
    have c16 := hI.x.cell (j := 0) (v := .int .i64 ((N : Nat) : Int)) rfl
    have c7 := KWH.out.x7.cell (j := 0) (v := .int .i64 a1) rfl
    have c9 := KWH.out.x9.cell (j := 0) (v := .slice Aw N cw) rfl
    have HKI := Lib.hid hI.k
    have HKD := Lib.hid hK
    clear hI hK
    rcases hC with h0 | h0
    · have hn0 := h0
      by_cases hm : a1 ≤ 1
      · dsimp only
        go_wp2_with fail
        obtain ⟨Wu, hWu⟩ : ∃ Wu, Wu = W.alloc (.cells #[.int .i64 1] 3) := ⟨_, rfl⟩
        have x15 : Blk Wu W.heap.size 3 [.int .i64 1] := by rw [hWu]; exact Blk.new W [.int .i64 1] 3 rfl
        have kt : KpF w.heap.size (w.heap.size + 1) b9 a1 Aw N cw WL Fw w Wu := by rw [hWu]; exact KWH.out.below HIT.out ((Below.refl _ W).alloc (Nat.le_refl _) _)
        have HDt : Hid (Wu.heap[D]? = some (.deferred (some []))) := Lib.hid (by rw [hWu]; exact heap_old' HKD.out)
        have hst : Wu.heap.size = W.heap.size + 1 := by rw [hWu]; simp
        have hwsz := HKI.out.1
        have hsr0 := HSR.out
        have h15 : w9.heap.size ≤ W.heap.size := by omega
        have HDlo : Hid (w9.heap.size ≤ D) := Lib.hid (by omega)
        rw [← hWu]
        clear hWu c15 c16 c7 c9 hD
        try clear hn0
        try clear hm
        try clear hl
        try clear h0
        generalize W.heap.size = b17 at *
        rw [rounds_succ]
        have c15 := x15.cell (j := 0) (v := .int .i64 1) rfl
        go_wp2_with fail
        obtain ⟨Wv, hWr⟩ : ∃ Wv, Wv = Wu.alloc (.cells #[.int .i64 0] 3) := ⟨_, rfl⟩
        have hbW : Below Wu.heap.size Wu Wv := by rw [hWr]; exact (Below.refl _ Wu).alloc (Nat.le_refl _) _
        have x16 : Blk Wv (b17 + 1) 3 [.int .i64 ((0 : Nat) : Int)] := by rw [hWr]; exact Blk.new Wu [.int .i64 0] 3 hst.symm
        have X152 := Lib.hid (x15.below hbW)
        have KR2 := Lib.hid (kt.below HIT.out hbW)
        have hsr : Wv.heap.size = Wu.heap.size + 1 := by rw [hWr]; simp
        have HDW : Hid (Wv.heap[D]? = some (.deferred (some []))) := Lib.hid ((hbW.block D (heap_lt' HDt.out)).trans HDt.out)
        have hdv := heap_lt' HDW.out
        rw [← hWr]
        clear hWr hbW x15 kt c15
        have hsr : Wv.heap.size = b17 + 1 + 1 := by rw [hsr, hst]
        clear hst
        generalize hb16 : b17 + 1 = b18 at *
        have h16 : b17 < b18 := by omega
        clear hb16
        have HKO2 : Hid (KpO w.heap.size (w.heap.size + 1) b9 Aw Ok b18) := Lib.hid ⟨by omega, by omega, by omega, fun a ha => by have := HAW.out a ha; omega, HFR.out _ (by omega)⟩
        have HW162 : Hid (w.heap.size ≤ b18 ∧ b17 ≠ b18) := Lib.hid ⟨by omega, by omega⟩
        have HSR2 : Hid (Wv.heap.size = b18 + 1) := Lib.hid (by omega)
        refine (wpIn_wide (n := 3)).1 ?_
        refine' rangeC (w0 := Wv) (gf := 79) (lb := lb) rfl (enters_of Try.func79 (by kernel_rfl) rfl) (HIT.out.seq b18 Wv HKO2.out.ok KR2.out.fw (by omega)) KpB.trans (fun W l o o' hl h1 h2 => KpB.put o' h1 h2) (Below.refl _ _) (fun _ => rfl)
          (Lp0 PS w Wv b18 (some D) (fun _ => True)) (Lpx PS w Wv b18 (some D) (fun _ => False) 2) (Lp0.cl (by omega) (by omega) (fun D e => by cases e; omega)) (fun c => Lpx.cl (by omega) (by omega) (fun D e => by cases e; omega) c) ⟨rfl, trivial, ⟨x16, KpB.refl _ _, KR2.out.bl, fun D e => by cases e; exact HDW.out⟩⟩ _ ?assign2 ?body2 ?done2 ?stop2
        case assign2 =>
          intro l x W K hK
          unfold encP
          gi_wp2
          exact hK
        case body2 =>
          rintro l pre ⟨x1, x2⟩ W ⟨hp, hC, hI⟩ hpl
          dsimp only
          obtain ⟨n, hn⟩ : ∃ n, pre.length = n := ⟨_, rfl⟩
          rw [hn] at hI hpl
          have KW := KR2.out.kp HIT.out HKO2.out hI.k hI.bl
          have hnN : n < N := by rw [← HPL.out]; exact hpl
          have h15k := X152.out.kp hI.k (by simpa using HW162.out.2)
          have c15 := h15k.cell (j := 0) (v := .int .i64 1) rfl
          have c16 := hI.x.cell (j := 0) (v := .int .i64 (n : Int)) rfl
          have f16 := hI.x.frozen 0
          have c7 := KW.x7.cell (j := 0) (v := .int .i64 a1) rfl
          have c8 := KW.x8.cell (j := 0) (v := .bool false) rfl
          have f8 := KW.x8.frozen 0
          have c9 := KW.x9.cell (j := 0) (v := .slice Aw N cw) rfl
          have hcw := Rd.cell KW.r (j := n) hnN
          have hixw := fun W => Rdv.ix KW.r el34 hnN .i64 W
          have hps : PS[n] = ((n : Int), gi WL n) := Prod.ext (HPG.out n hpl).1 (HPG.out n hpl).2
          have hnx := fun h : (x1, x2) = PS[n] => pre_next hp hn hpl h
          have hno := fun h : (x1, x2) ≠ PS[n] => pre_not hn hpl h
          rw [hps] at hnx hno
          have HNX := Lib.hid hnx
          have HNO := Lib.hid hno
          have HI := Lib.hid hI
          have HC := Lib.hid hC
          have n15 := HW162.out.2
          have n7 := HKO2.out.h7
          have hnb : (n : Int) + 1 ≤ 1000001 := by have := HLL.out; omega
          clear hps hnx hno hI hC hp KW h15k hpl
          generalize gi WL n = v at *
          by_cases h1 : x1 = (n : Int)
          · subst h1
            by_cases h2 : x2 = v
            · subst h2
              have e1 : ((n : Int) != (n : Int)) = false := bne_f rfl
              have e2 : (x2 != x2) = false := bne_f rfl
              obtain ⟨p1, p2⟩ := HNX.out rfl
              have HP1 := Lib.hid p1
              have HP2 := Lib.hid p2
              have HX := Lib.hid (HI.out.next HW162.out.1 (.int .i64 ((n : Int) + 1)) (by push_cast; rfl))
              have d15 := ((X152.out.kp HX.out.2.2.k (by simpa using HW162.out.2))).cell (j := 0) (v := .int .i64 1) rfl
              have d16 := HX.out.2.2.x.cell (j := 0) (v := .int .i64 ((n + 1 : Nat) : Int)) rfl
              have d7 := ((KR2.out.kp HIT.out HKO2.out HX.out.2.2.k HX.out.2.2.bl)).x7.cell (j := 0) (v := .int .i64 a1) rfl
              have wn : IntKind.i64.wrap ((n : Int) + 1) = (n : Int) + 1 := IntWalk.i64_in _ (by omega)
              push_cast at d16
              clear p1 p2 HNX HNO e1 hnb wn
              gi_wp2
              exact ⟨HX.out.1, HX.out.2.1, by rw [HP2.out]; exact HP1.out, trivial, by rw [HP2.out]; exact HX.out.2.2⟩
            · have e1 : ((n : Int) != (n : Int)) = false := bne_f rfl
              have e2 : (x2 != v) = true := bne_t h2
              have HFX := Lib.hid (HNO.out (fun h => h2 (by injection h)))
              clear HNX HNO h2
              gi_wp2
              exact ⟨KeepsOthers.setCell _ _ _, .inl HFX.out⟩
          · have e1 : (x1 != (n : Int)) = true := bne_t h1
            have HFX := Lib.hid (HNO.out (fun h => h1 (by injection h)))
            clear HNX HNO h1
            gi_wp2
            exact ⟨KeepsOthers.setCell _ _ _, .inl HFX.out⟩
        case done2 =>
          rintro D2 ys W hD hys ⟨-, hC, hI⟩ hK
          rw [hys, HPL.out] at hI
          clear hys
          have hnn : (((N : Nat) : Int) != ((N : Nat) : Int)) = false := bne_f rfl
          have KWH2 := Lib.hid (KR2.out.kp HIT.out HKO2.out hI.k hI.bl)
          have c15 := (X152.out.kp hI.k (by simpa using HW162.out.2)).cell (j := 0) (v := .int .i64 1) rfl
          have c16 := hI.x.cell (j := 0) (v := .int .i64 ((N : Nat) : Int)) rfl
          have c7 := KWH2.out.x7.cell (j := 0) (v := .int .i64 a1) rfl
          have c9 := KWH2.out.x9.cell (j := 0) (v := .slice Aw N cw) rfl
          have HKI2 := Lib.hid hI.k
          have HKD2 := Lib.hid hK
          have HD2D : Hid (W.heap[D]? = some (.deferred (some []))) := Lib.hid (hI.d D rfl)
          have HBLW := Lib.hid hI.bl
          have hsk := HSR2.out
          have hwk := HW162.out.1
          have hw7 := HKO2.out.h7
          have hdv := heap_lt' HDW.out
          have hlo := HDlo.out
          have hx9 := HX9LT.out
          have hz9 := HZ9.out
          have hs1 : w.heap.size + 1 < D2 := by omega
          have hs2 : w.heap.size + 1 < D := by omega
          have hs3 : D < D2 := by omega
          clear hI hK hC hsk hwk hw7 hdv hlo hx9 hz9
          dsimp only
          go_wp2_with fail
          rw [rounds_succ]
          go_wp2_with fail
          refine (works_any _).mono ?_
          rintro e w20 ⟨rfl, hB20⟩
          have hb20 : Below W.heap.size W w20 := ((Below.refl _ W).alloc (Nat.le_refl _) _).trans (hB20.mono (by simp))
          have z8 := KWH2.out.x8.below hb20
          have c8 := z8.cell (j := 0) (v := .bool false) rfl
          have f8 := z8.frozen 0
          have Z8 := Lib.hid (z8.set 0 (.bool true))
          have d2 : (w20.setCell ⟨w.heap.size + 1, 0, none⟩ (.bool true)).heap[D2]? = some (.deferred (some [])) := (KeepsOthers.setCell w20 _ _).same D2 _ ((hb20.block D2 (heap_lt' HKD2.out)).trans HKD2.out) rfl
          have d1 : (w20.setCell ⟨w.heap.size + 1, 0, none⟩ (.bool true)).heap[D]? = some (.deferred (some [])) := (KeepsOthers.setCell w20 _ _).same D _ ((hb20.block D (heap_lt' HD2D.out)).trans HD2D.out) rfl
          have hbl := (HBLW.out.trans (hb20.mono HBLW.out.size)).setCell (p := ⟨w.heap.size + 1, 0, none⟩) (Nat.le_succ _) (.bool true)
          have hbl2 := hbl.grown (grownBy_putObj' _ D2 (.deferred none)) hbl.size (fun r e => by cases e; omega)
          have hbl3 := hbl2.grown (grownBy_putObj' _ D (.deferred none)) hbl2.size (fun r e => by cases e; omega)
          have HD1 := Lib.hid d1
          have HD2 := Lib.hid d2
          have HBL3 := Lib.hid hbl3
          have hdd : D ≠ D2 := by omega
          have hd8 : w.heap.size + 1 ≠ D2 ∧ w.heap.size + 1 ≠ D := by omega
          clear hb20 z8 hB20 d1 d2 hbl hbl2 hbl3
          go_wp2
          have b6 := ((Z8.out.grown (grownBy_putObj' _ D2 (.deferred none)) (by simpa using hd8.1)).grown (grownBy_putObj' _ D (.deferred none)) (by simpa using hd8.2))
          have l1 := load_bool b6
          refine ⟨by simp, .inl ⟨_, _, rfl, run_takeDeferred HD2.out, by simp, .inl ⟨_, _, rfl, run_takeDeferred ((World.putObj_heap_other (by omega)).trans HD1.out), ?_⟩⟩⟩
          refine ⟨.bool true, ?_, rfl, HBL3.out⟩
          rw [results_c rfl]
          simp [asAddr, l1, Sem.run_pure]
        case stop2 =>
          rintro D2 c pre W hD ⟨k, hk, hpk⟩ hx hK
          rcases hx with hx | ⟨rfl, hC, hI⟩
          · exact absurd hpk (hx k)
          · exact hC.elim
      · dsimp only
        go_wp2_with fail
        obtain ⟨Wu, hWu⟩ : ∃ Wu, Wu = W.alloc (.cells #[.int .i64 1] 3) := ⟨_, rfl⟩
        have x15 : Blk Wu W.heap.size 3 [.int .i64 1] := by rw [hWu]; exact Blk.new W [.int .i64 1] 3 rfl
        have kt : KpF w.heap.size (w.heap.size + 1) b9 a1 Aw N cw WL Fw w Wu := by rw [hWu]; exact KWH.out.below HIT.out ((Below.refl _ W).alloc (Nat.le_refl _) _)
        have HDt : Hid (Wu.heap[D]? = some (.deferred (some []))) := Lib.hid (by rw [hWu]; exact heap_old' HKD.out)
        have hst : Wu.heap.size = W.heap.size + 1 := by rw [hWu]; simp
        have hwsz := HKI.out.1
        have hsr0 := HSR.out
        have h15 : w9.heap.size ≤ W.heap.size := by omega
        have HDlo : Hid (w9.heap.size ≤ D) := Lib.hid (by omega)
        rw [← hWu]
        clear hWu c15 c16 c7 c9 hD
        try clear hn0
        try clear hm
        try clear hl
        try clear h0
        generalize W.heap.size = b17 at *
        rw [rounds_succ]
        have c15 := x15.cell (j := 0) (v := .int .i64 1) rfl
        go_wp2_with fail
        obtain ⟨Wv, hWr⟩ : ∃ Wv, Wv = Wu.alloc (.cells #[.int .i64 0] 3) := ⟨_, rfl⟩
        have hbW : Below Wu.heap.size Wu Wv := by rw [hWr]; exact (Below.refl _ Wu).alloc (Nat.le_refl _) _
        have x16 : Blk Wv (b17 + 1) 3 [.int .i64 ((0 : Nat) : Int)] := by rw [hWr]; exact Blk.new Wu [.int .i64 0] 3 hst.symm
        have X153 := Lib.hid (x15.below hbW)
        have KR3 := Lib.hid (kt.below HIT.out hbW)
        have hsr : Wv.heap.size = Wu.heap.size + 1 := by rw [hWr]; simp
        have HDW : Hid (Wv.heap[D]? = some (.deferred (some []))) := Lib.hid ((hbW.block D (heap_lt' HDt.out)).trans HDt.out)
        have hdv := heap_lt' HDW.out
        rw [← hWr]
        clear hWr hbW x15 kt c15
        have hsr : Wv.heap.size = b17 + 1 + 1 := by rw [hsr, hst]
        clear hst
        generalize hb16 : b17 + 1 = b18 at *
        have h16 : b17 < b18 := by omega
        clear hb16
        have HKO3 : Hid (KpO w.heap.size (w.heap.size + 1) b9 Aw Ok b18) := Lib.hid ⟨by omega, by omega, by omega, fun a ha => by have := HAW.out a ha; omega, HFR.out _ (by omega)⟩
        have HW163 : Hid (w.heap.size ≤ b18 ∧ b17 ≠ b18) := Lib.hid ⟨by omega, by omega⟩
        have HSR3 : Hid (Wv.heap.size = b18 + 1) := Lib.hid (by omega)
        refine (wpIn_wide (n := 3)).1 ?_
        refine' rangeC (w0 := Wv) (gf := 79) (lb := lb) rfl (enters_of Try.func79 (by kernel_rfl) rfl) (HIT.out.seq b18 Wv HKO3.out.ok KR3.out.fw (by omega)) KpB.trans (fun W l o o' hl h1 h2 => KpB.put o' h1 h2) (Below.refl _ _) (fun _ => rfl)
          (Lp0 PS w Wv b18 (some D) (fun _ => True)) (Lpx PS w Wv b18 (some D) (fun _ => False) 2) (Lp0.cl (by omega) (by omega) (fun D e => by cases e; omega)) (fun c => Lpx.cl (by omega) (by omega) (fun D e => by cases e; omega) c) ⟨rfl, trivial, ⟨x16, KpB.refl _ _, KR3.out.bl, fun D e => by cases e; exact HDW.out⟩⟩ _ ?assign3 ?body3 ?done3 ?stop3
        case assign3 =>
          intro l x W K hK
          unfold encP
          gi_wp2
          exact hK
        case body3 =>
          rintro l pre ⟨x1, x2⟩ W ⟨hp, hC, hI⟩ hpl
          dsimp only
          obtain ⟨n, hn⟩ : ∃ n, pre.length = n := ⟨_, rfl⟩
          rw [hn] at hI hpl
          have KW := KR3.out.kp HIT.out HKO3.out hI.k hI.bl
          have hnN : n < N := by rw [← HPL.out]; exact hpl
          have h15k := X153.out.kp hI.k (by simpa using HW163.out.2)
          have c15 := h15k.cell (j := 0) (v := .int .i64 1) rfl
          have c16 := hI.x.cell (j := 0) (v := .int .i64 (n : Int)) rfl
          have f16 := hI.x.frozen 0
          have c7 := KW.x7.cell (j := 0) (v := .int .i64 a1) rfl
          have c8 := KW.x8.cell (j := 0) (v := .bool false) rfl
          have f8 := KW.x8.frozen 0
          have c9 := KW.x9.cell (j := 0) (v := .slice Aw N cw) rfl
          have hcw := Rd.cell KW.r (j := n) hnN
          have hixw := fun W => Rdv.ix KW.r el34 hnN .i64 W
          have hps : PS[n] = ((n : Int), gi WL n) := Prod.ext (HPG.out n hpl).1 (HPG.out n hpl).2
          have hnx := fun h : (x1, x2) = PS[n] => pre_next hp hn hpl h
          have hno := fun h : (x1, x2) ≠ PS[n] => pre_not hn hpl h
          rw [hps] at hnx hno
          have HNX := Lib.hid hnx
          have HNO := Lib.hid hno
          have HI := Lib.hid hI
          have HC := Lib.hid hC
          have n15 := HW163.out.2
          have n7 := HKO3.out.h7
          have hnb : (n : Int) + 1 ≤ 1000001 := by have := HLL.out; omega
          clear hps hnx hno hI hC hp KW h15k hpl
          generalize gi WL n = v at *
          by_cases h1 : x1 = (n : Int)
          · subst h1
            by_cases h2 : x2 = v
            · subst h2
              have e1 : ((n : Int) != (n : Int)) = false := bne_f rfl
              have e2 : (x2 != x2) = false := bne_f rfl
              obtain ⟨p1, p2⟩ := HNX.out rfl
              have HP1 := Lib.hid p1
              have HP2 := Lib.hid p2
              have HX := Lib.hid (HI.out.next HW163.out.1 (.int .i64 ((n : Int) + 1)) (by push_cast; rfl))
              have d15 := ((X153.out.kp HX.out.2.2.k (by simpa using HW163.out.2))).cell (j := 0) (v := .int .i64 1) rfl
              have d16 := HX.out.2.2.x.cell (j := 0) (v := .int .i64 ((n + 1 : Nat) : Int)) rfl
              have d7 := ((KR3.out.kp HIT.out HKO3.out HX.out.2.2.k HX.out.2.2.bl)).x7.cell (j := 0) (v := .int .i64 a1) rfl
              have wn : IntKind.i64.wrap ((n : Int) + 1) = (n : Int) + 1 := IntWalk.i64_in _ (by omega)
              push_cast at d16
              clear p1 p2 HNX HNO e1 hnb wn
              gi_wp2
              exact ⟨HX.out.1, HX.out.2.1, by rw [HP2.out]; exact HP1.out, trivial, by rw [HP2.out]; exact HX.out.2.2⟩
            · have e1 : ((n : Int) != (n : Int)) = false := bne_f rfl
              have e2 : (x2 != v) = true := bne_t h2
              have HFX := Lib.hid (HNO.out (fun h => h2 (by injection h)))
              clear HNX HNO h2
              gi_wp2
              exact ⟨KeepsOthers.setCell _ _ _, .inl HFX.out⟩
          · have e1 : (x1 != (n : Int)) = true := bne_t h1
            have HFX := Lib.hid (HNO.out (fun h => h1 (by injection h)))
            clear HNX HNO h1
            gi_wp2
            exact ⟨KeepsOthers.setCell _ _ _, .inl HFX.out⟩
        case done3 =>
          rintro D2 ys W hD hys ⟨-, hC, hI⟩ hK
          rw [hys, HPL.out] at hI
          clear hys
          have hnn : (((N : Nat) : Int) != ((N : Nat) : Int)) = false := bne_f rfl
          have KWH3 := Lib.hid (KR3.out.kp HIT.out HKO3.out hI.k hI.bl)
          have c15 := (X153.out.kp hI.k (by simpa using HW163.out.2)).cell (j := 0) (v := .int .i64 1) rfl
          have c16 := hI.x.cell (j := 0) (v := .int .i64 ((N : Nat) : Int)) rfl
          have c7 := KWH3.out.x7.cell (j := 0) (v := .int .i64 a1) rfl
          have c9 := KWH3.out.x9.cell (j := 0) (v := .slice Aw N cw) rfl
          have HKI3 := Lib.hid hI.k
          have HKD3 := Lib.hid hK
          have HD2D : Hid (W.heap[D]? = some (.deferred (some []))) := Lib.hid (hI.d D rfl)
          have HBLW := Lib.hid hI.bl
          have hsk := HSR3.out
          have hwk := HW163.out.1
          have hw7 := HKO3.out.h7
          have hdv := heap_lt' HDW.out
          have hlo := HDlo.out
          have hx9 := HX9LT.out
          have hz9 := HZ9.out
          have hs1 : w.heap.size + 1 < D2 := by omega
          have hs2 : w.heap.size + 1 < D := by omega
          have hs3 : D < D2 := by omega
          clear hI hK hC hsk hwk hw7 hdv hlo hx9 hz9
          dsimp only
          go_wp2_with fail
          rw [rounds_succ]
          go_wp2_with fail
          refine (works_any _).mono ?_
          rintro e w20 ⟨rfl, hB20⟩
          have hb20 : Below W.heap.size W w20 := ((Below.refl _ W).alloc (Nat.le_refl _) _).trans (hB20.mono (by simp))
          have z8 := KWH3.out.x8.below hb20
          have c8 := z8.cell (j := 0) (v := .bool false) rfl
          have f8 := z8.frozen 0
          have Z8 := Lib.hid (z8.set 0 (.bool true))
          have d2 : (w20.setCell ⟨w.heap.size + 1, 0, none⟩ (.bool true)).heap[D2]? = some (.deferred (some [])) := (KeepsOthers.setCell w20 _ _).same D2 _ ((hb20.block D2 (heap_lt' HKD3.out)).trans HKD3.out) rfl
          have d1 : (w20.setCell ⟨w.heap.size + 1, 0, none⟩ (.bool true)).heap[D]? = some (.deferred (some [])) := (KeepsOthers.setCell w20 _ _).same D _ ((hb20.block D (heap_lt' HD2D.out)).trans HD2D.out) rfl
          have hbl := (HBLW.out.trans (hb20.mono HBLW.out.size)).setCell (p := ⟨w.heap.size + 1, 0, none⟩) (Nat.le_succ _) (.bool true)
          have hbl2 := hbl.grown (grownBy_putObj' _ D2 (.deferred none)) hbl.size (fun r e => by cases e; omega)
          have hbl3 := hbl2.grown (grownBy_putObj' _ D (.deferred none)) hbl2.size (fun r e => by cases e; omega)
          have HD1 := Lib.hid d1
          have HD2 := Lib.hid d2
          have HBL3 := Lib.hid hbl3
          have hdd : D ≠ D2 := by omega
          have hd8 : w.heap.size + 1 ≠ D2 ∧ w.heap.size + 1 ≠ D := by omega
          clear hb20 z8 hB20 d1 d2 hbl hbl2 hbl3
          go_wp2
          have b6 := ((Z8.out.grown (grownBy_putObj' _ D2 (.deferred none)) (by simpa using hd8.1)).grown (grownBy_putObj' _ D (.deferred none)) (by simpa using hd8.2))
          have l1 := load_bool b6
          refine ⟨by simp, .inl ⟨_, _, rfl, run_takeDeferred HD2.out, by simp, .inl ⟨_, _, rfl, run_takeDeferred ((World.putObj_heap_other (by omega)).trans HD1.out), ?_⟩⟩⟩
          refine ⟨.bool true, ?_, rfl, HBL3.out⟩
          rw [results_c rfl]
          simp [asAddr, l1, Sem.run_pure]
        case stop3 =>
          rintro D2 c pre W hD ⟨k, hk, hpk⟩ hx hK
          rcases hx with hx | ⟨rfl, hC, hI⟩
          · exact absurd hpk (hx k)
          · exact hC.elim
    · by_cases hm : a1 ≤ 1
      · dsimp only
        go_wp2_with fail
        obtain ⟨Wu, hWu⟩ : ∃ Wu, Wu = W.alloc (.cells #[.int .i64 1] 3) := ⟨_, rfl⟩
        have x15 : Blk Wu W.heap.size 3 [.int .i64 1] := by rw [hWu]; exact Blk.new W [.int .i64 1] 3 rfl
        have kt : KpF w.heap.size (w.heap.size + 1) b9 a1 Aw N cw WL Fw w Wu := by rw [hWu]; exact KWH.out.below HIT.out ((Below.refl _ W).alloc (Nat.le_refl _) _)
        have HDt : Hid (Wu.heap[D]? = some (.deferred (some []))) := Lib.hid (by rw [hWu]; exact heap_old' HKD.out)
        have hst : Wu.heap.size = W.heap.size + 1 := by rw [hWu]; simp
        have hwsz := HKI.out.1
        have hsr0 := HSR.out
        have h15 : w9.heap.size ≤ W.heap.size := by omega
        have HDlo : Hid (w9.heap.size ≤ D) := Lib.hid (by omega)
        rw [← hWu]
        clear hWu c15 c16 c7 c9 hD
        try clear hn0
        try clear hm
        try clear hl
        try clear h0
        generalize W.heap.size = b17 at *
        rw [rounds_succ]
        have c15 := x15.cell (j := 0) (v := .int .i64 1) rfl
        go_wp2_with fail
        obtain ⟨Wv, hWr⟩ : ∃ Wv, Wv = Wu.alloc (.cells #[.int .i64 0] 3) := ⟨_, rfl⟩
        have hbW : Below Wu.heap.size Wu Wv := by rw [hWr]; exact (Below.refl _ Wu).alloc (Nat.le_refl _) _
        have x16 : Blk Wv (b17 + 1) 3 [.int .i64 ((0 : Nat) : Int)] := by rw [hWr]; exact Blk.new Wu [.int .i64 0] 3 hst.symm
        have X154 := Lib.hid (x15.below hbW)
        have KR4 := Lib.hid (kt.below HIT.out hbW)
        have hsr : Wv.heap.size = Wu.heap.size + 1 := by rw [hWr]; simp
        have HDW : Hid (Wv.heap[D]? = some (.deferred (some []))) := Lib.hid ((hbW.block D (heap_lt' HDt.out)).trans HDt.out)
        have hdv := heap_lt' HDW.out
        rw [← hWr]
        clear hWr hbW x15 kt c15
        have hsr : Wv.heap.size = b17 + 1 + 1 := by rw [hsr, hst]
        clear hst
        generalize hb16 : b17 + 1 = b18 at *
        have h16 : b17 < b18 := by omega
        clear hb16
        have HKO4 : Hid (KpO w.heap.size (w.heap.size + 1) b9 Aw Ok b18) := Lib.hid ⟨by omega, by omega, by omega, fun a ha => by have := HAW.out a ha; omega, HFR.out _ (by omega)⟩
        have HW164 : Hid (w.heap.size ≤ b18 ∧ b17 ≠ b18) := Lib.hid ⟨by omega, by omega⟩
        have HSR4 : Hid (Wv.heap.size = b18 + 1) := Lib.hid (by omega)
        refine (wpIn_wide (n := 3)).1 ?_
        refine' rangeC (w0 := Wv) (gf := 79) (lb := lb) rfl (enters_of Try.func79 (by kernel_rfl) rfl) (HIT.out.seq b18 Wv HKO4.out.ok KR4.out.fw (by omega)) KpB.trans (fun W l o o' hl h1 h2 => KpB.put o' h1 h2) (Below.refl _ _) (fun _ => rfl)
          (Lp0 PS w Wv b18 (some D) (fun _ => True)) (Lpx PS w Wv b18 (some D) (fun _ => False) 2) (Lp0.cl (by omega) (by omega) (fun D e => by cases e; omega)) (fun c => Lpx.cl (by omega) (by omega) (fun D e => by cases e; omega) c) ⟨rfl, trivial, ⟨x16, KpB.refl _ _, KR4.out.bl, fun D e => by cases e; exact HDW.out⟩⟩ _ ?assign4 ?body4 ?done4 ?stop4
        case assign4 =>
          intro l x W K hK
          unfold encP
          gi_wp2
          exact hK
        case body4 =>
          rintro l pre ⟨x1, x2⟩ W ⟨hp, hC, hI⟩ hpl
          dsimp only
          obtain ⟨n, hn⟩ : ∃ n, pre.length = n := ⟨_, rfl⟩
          rw [hn] at hI hpl
          have KW := KR4.out.kp HIT.out HKO4.out hI.k hI.bl
          have hnN : n < N := by rw [← HPL.out]; exact hpl
          have h15k := X154.out.kp hI.k (by simpa using HW164.out.2)
          have c15 := h15k.cell (j := 0) (v := .int .i64 1) rfl
          have c16 := hI.x.cell (j := 0) (v := .int .i64 (n : Int)) rfl
          have f16 := hI.x.frozen 0
          have c7 := KW.x7.cell (j := 0) (v := .int .i64 a1) rfl
          have c8 := KW.x8.cell (j := 0) (v := .bool false) rfl
          have f8 := KW.x8.frozen 0
          have c9 := KW.x9.cell (j := 0) (v := .slice Aw N cw) rfl
          have hcw := Rd.cell KW.r (j := n) hnN
          have hixw := fun W => Rdv.ix KW.r el34 hnN .i64 W
          have hps : PS[n] = ((n : Int), gi WL n) := Prod.ext (HPG.out n hpl).1 (HPG.out n hpl).2
          have hnx := fun h : (x1, x2) = PS[n] => pre_next hp hn hpl h
          have hno := fun h : (x1, x2) ≠ PS[n] => pre_not hn hpl h
          rw [hps] at hnx hno
          have HNX := Lib.hid hnx
          have HNO := Lib.hid hno
          have HI := Lib.hid hI
          have HC := Lib.hid hC
          have n15 := HW164.out.2
          have n7 := HKO4.out.h7
          have hnb : (n : Int) + 1 ≤ 1000001 := by have := HLL.out; omega
          clear hps hnx hno hI hC hp KW h15k hpl
          generalize gi WL n = v at *
          by_cases h1 : x1 = (n : Int)
          · subst h1
            by_cases h2 : x2 = v
            · subst h2
              have e1 : ((n : Int) != (n : Int)) = false := bne_f rfl
              have e2 : (x2 != x2) = false := bne_f rfl
              obtain ⟨p1, p2⟩ := HNX.out rfl
              have HP1 := Lib.hid p1
              have HP2 := Lib.hid p2
              have HX := Lib.hid (HI.out.next HW164.out.1 (.int .i64 ((n : Int) + 1)) (by push_cast; rfl))
              have d15 := ((X154.out.kp HX.out.2.2.k (by simpa using HW164.out.2))).cell (j := 0) (v := .int .i64 1) rfl
              have d16 := HX.out.2.2.x.cell (j := 0) (v := .int .i64 ((n + 1 : Nat) : Int)) rfl
              have d7 := ((KR4.out.kp HIT.out HKO4.out HX.out.2.2.k HX.out.2.2.bl)).x7.cell (j := 0) (v := .int .i64 a1) rfl
              have wn : IntKind.i64.wrap ((n : Int) + 1) = (n : Int) + 1 := IntWalk.i64_in _ (by omega)
              push_cast at d16
              clear p1 p2 HNX HNO e1 hnb wn
              gi_wp2
              exact ⟨HX.out.1, HX.out.2.1, by rw [HP2.out]; exact HP1.out, trivial, by rw [HP2.out]; exact HX.out.2.2⟩
            · have e1 : ((n : Int) != (n : Int)) = false := bne_f rfl
              have e2 : (x2 != v) = true := bne_t h2
              have HFX := Lib.hid (HNO.out (fun h => h2 (by injection h)))
              clear HNX HNO h2
              gi_wp2
              exact ⟨KeepsOthers.setCell _ _ _, .inl HFX.out⟩
          · have e1 : (x1 != (n : Int)) = true := bne_t h1
            have HFX := Lib.hid (HNO.out (fun h => h1 (by injection h)))
            clear HNX HNO h1
            gi_wp2
            exact ⟨KeepsOthers.setCell _ _ _, .inl HFX.out⟩
        case done4 =>
          rintro D2 ys W hD hys ⟨-, hC, hI⟩ hK
          rw [hys, HPL.out] at hI
          clear hys
          have hnn : (((N : Nat) : Int) != ((N : Nat) : Int)) = false := bne_f rfl
          have KWH4 := Lib.hid (KR4.out.kp HIT.out HKO4.out hI.k hI.bl)
          have c15 := (X154.out.kp hI.k (by simpa using HW164.out.2)).cell (j := 0) (v := .int .i64 1) rfl
          have c16 := hI.x.cell (j := 0) (v := .int .i64 ((N : Nat) : Int)) rfl
          have c7 := KWH4.out.x7.cell (j := 0) (v := .int .i64 a1) rfl
          have c9 := KWH4.out.x9.cell (j := 0) (v := .slice Aw N cw) rfl
          have HKI4 := Lib.hid hI.k
          have HKD4 := Lib.hid hK
          have HD2D : Hid (W.heap[D]? = some (.deferred (some []))) := Lib.hid (hI.d D rfl)
          have HBLW := Lib.hid hI.bl
          have hsk := HSR4.out
          have hwk := HW164.out.1
          have hw7 := HKO4.out.h7
          have hdv := heap_lt' HDW.out
          have hlo := HDlo.out
          have hx9 := HX9LT.out
          have hz9 := HZ9.out
          have hs1 : w.heap.size + 1 < D2 := by omega
          have hs2 : w.heap.size + 1 < D := by omega
          have hs3 : D < D2 := by omega
          clear hI hK hC hsk hwk hw7 hdv hlo hx9 hz9
          dsimp only
          go_wp2_with fail
          rw [rounds_succ]
          go_wp2_with fail
          refine (works_any _).mono ?_
          rintro e w20 ⟨rfl, hB20⟩
          have hb20 : Below W.heap.size W w20 := ((Below.refl _ W).alloc (Nat.le_refl _) _).trans (hB20.mono (by simp))
          have z8 := KWH4.out.x8.below hb20
          have c8 := z8.cell (j := 0) (v := .bool false) rfl
          have f8 := z8.frozen 0
          have Z8 := Lib.hid (z8.set 0 (.bool true))
          have d2 : (w20.setCell ⟨w.heap.size + 1, 0, none⟩ (.bool true)).heap[D2]? = some (.deferred (some [])) := (KeepsOthers.setCell w20 _ _).same D2 _ ((hb20.block D2 (heap_lt' HKD4.out)).trans HKD4.out) rfl
          have d1 : (w20.setCell ⟨w.heap.size + 1, 0, none⟩ (.bool true)).heap[D]? = some (.deferred (some [])) := (KeepsOthers.setCell w20 _ _).same D _ ((hb20.block D (heap_lt' HD2D.out)).trans HD2D.out) rfl
          have hbl := (HBLW.out.trans (hb20.mono HBLW.out.size)).setCell (p := ⟨w.heap.size + 1, 0, none⟩) (Nat.le_succ _) (.bool true)
          have hbl2 := hbl.grown (grownBy_putObj' _ D2 (.deferred none)) hbl.size (fun r e => by cases e; omega)
          have hbl3 := hbl2.grown (grownBy_putObj' _ D (.deferred none)) hbl2.size (fun r e => by cases e; omega)
          have HD1 := Lib.hid d1
          have HD2 := Lib.hid d2
          have HBL3 := Lib.hid hbl3
          have hdd : D ≠ D2 := by omega
          have hd8 : w.heap.size + 1 ≠ D2 ∧ w.heap.size + 1 ≠ D := by omega
          clear hb20 z8 hB20 d1 d2 hbl hbl2 hbl3
          go_wp2
          have b6 := ((Z8.out.grown (grownBy_putObj' _ D2 (.deferred none)) (by simpa using hd8.1)).grown (grownBy_putObj' _ D (.deferred none)) (by simpa using hd8.2))
          have l1 := load_bool b6
          refine ⟨by simp, .inl ⟨_, _, rfl, run_takeDeferred HD2.out, by simp, .inl ⟨_, _, rfl, run_takeDeferred ((World.putObj_heap_other (by omega)).trans HD1.out), ?_⟩⟩⟩
          refine ⟨.bool true, ?_, rfl, HBL3.out⟩
          rw [results_c rfl]
          simp [asAddr, l1, Sem.run_pure]
        case stop4 =>
          rintro D2 c pre W hD ⟨k, hk, hpk⟩ hx hK
          rcases hx with hx | ⟨rfl, hC, hI⟩
          · exact absurd hpk (hx k)
          · exact hC.elim
      · dsimp only
        go_wp2_with fail
        obtain ⟨Wu, hWu⟩ : ∃ Wu, Wu = W.alloc (.cells #[.int .i64 1] 3) := ⟨_, rfl⟩
        have x15 : Blk Wu W.heap.size 3 [.int .i64 1] := by rw [hWu]; exact Blk.new W [.int .i64 1] 3 rfl
        have kt : KpF w.heap.size (w.heap.size + 1) b9 a1 Aw N cw WL Fw w Wu := by rw [hWu]; exact KWH.out.below HIT.out ((Below.refl _ W).alloc (Nat.le_refl _) _)
        have HDt : Hid (Wu.heap[D]? = some (.deferred (some []))) := Lib.hid (by rw [hWu]; exact heap_old' HKD.out)
        have hst : Wu.heap.size = W.heap.size + 1 := by rw [hWu]; simp
        have hwsz := HKI.out.1
        have hsr0 := HSR.out
        have h15 : w9.heap.size ≤ W.heap.size := by omega
        have HDlo : Hid (w9.heap.size ≤ D) := Lib.hid (by omega)
        rw [← hWu]
        clear hWu c15 c16 c7 c9 hD
        try clear hn0
        try clear hm
        try clear hl
        try clear h0
        generalize W.heap.size = b17 at *
        rw [rounds_succ]
        have c15 := x15.cell (j := 0) (v := .int .i64 1) rfl
        go_wp2_with fail
        obtain ⟨Wv, hWr⟩ : ∃ Wv, Wv = Wu.alloc (.cells #[.int .i64 0] 3) := ⟨_, rfl⟩
        have hbW : Below Wu.heap.size Wu Wv := by rw [hWr]; exact (Below.refl _ Wu).alloc (Nat.le_refl _) _
        have x16 : Blk Wv (b17 + 1) 3 [.int .i64 ((0 : Nat) : Int)] := by rw [hWr]; exact Blk.new Wu [.int .i64 0] 3 hst.symm
        have X155 := Lib.hid (x15.below hbW)
        have KR5 := Lib.hid (kt.below HIT.out hbW)
        have hsr : Wv.heap.size = Wu.heap.size + 1 := by rw [hWr]; simp
        have HDW : Hid (Wv.heap[D]? = some (.deferred (some []))) := Lib.hid ((hbW.block D (heap_lt' HDt.out)).trans HDt.out)
        have hdv := heap_lt' HDW.out
        rw [← hWr]
        clear hWr hbW x15 kt c15
        have hsr : Wv.heap.size = b17 + 1 + 1 := by rw [hsr, hst]
        clear hst
        generalize hb16 : b17 + 1 = b18 at *
        have h16 : b17 < b18 := by omega
        clear hb16
        have HKO5 : Hid (KpO w.heap.size (w.heap.size + 1) b9 Aw Ok b18) := Lib.hid ⟨by omega, by omega, by omega, fun a ha => by have := HAW.out a ha; omega, HFR.out _ (by omega)⟩
        have HW165 : Hid (w.heap.size ≤ b18 ∧ b17 ≠ b18) := Lib.hid ⟨by omega, by omega⟩
        have HSR5 : Hid (Wv.heap.size = b18 + 1) := Lib.hid (by omega)
        refine (wpIn_wide (n := 3)).1 ?_
        refine' rangeC (w0 := Wv) (gf := 79) (lb := lb) rfl (enters_of Try.func79 (by kernel_rfl) rfl) (HIT.out.seq b18 Wv HKO5.out.ok KR5.out.fw (by omega)) KpB.trans (fun W l o o' hl h1 h2 => KpB.put o' h1 h2) (Below.refl _ _) (fun _ => rfl)
          (Lp0 PS w Wv b18 (some D) (fun _ => True)) (Lpx PS w Wv b18 (some D) (fun _ => False) 2) (Lp0.cl (by omega) (by omega) (fun D e => by cases e; omega)) (fun c => Lpx.cl (by omega) (by omega) (fun D e => by cases e; omega) c) ⟨rfl, trivial, ⟨x16, KpB.refl _ _, KR5.out.bl, fun D e => by cases e; exact HDW.out⟩⟩ _ ?assign5 ?body5 ?done5 ?stop5
        case assign5 =>
          intro l x W K hK
          unfold encP
          gi_wp2
          exact hK
        case body5 =>
          rintro l pre ⟨x1, x2⟩ W ⟨hp, hC, hI⟩ hpl
          dsimp only
          obtain ⟨n, hn⟩ : ∃ n, pre.length = n := ⟨_, rfl⟩
          rw [hn] at hI hpl
          have KW := KR5.out.kp HIT.out HKO5.out hI.k hI.bl
          have hnN : n < N := by rw [← HPL.out]; exact hpl
          have h15k := X155.out.kp hI.k (by simpa using HW165.out.2)
          have c15 := h15k.cell (j := 0) (v := .int .i64 1) rfl
          have c16 := hI.x.cell (j := 0) (v := .int .i64 (n : Int)) rfl
          have f16 := hI.x.frozen 0
          have c7 := KW.x7.cell (j := 0) (v := .int .i64 a1) rfl
          have c8 := KW.x8.cell (j := 0) (v := .bool false) rfl
          have f8 := KW.x8.frozen 0
          have c9 := KW.x9.cell (j := 0) (v := .slice Aw N cw) rfl
          have hcw := Rd.cell KW.r (j := n) hnN
          have hixw := fun W => Rdv.ix KW.r el34 hnN .i64 W
          have hps : PS[n] = ((n : Int), gi WL n) := Prod.ext (HPG.out n hpl).1 (HPG.out n hpl).2
          have hnx := fun h : (x1, x2) = PS[n] => pre_next hp hn hpl h
          have hno := fun h : (x1, x2) ≠ PS[n] => pre_not hn hpl h
          rw [hps] at hnx hno
          have HNX := Lib.hid hnx
          have HNO := Lib.hid hno
          have HI := Lib.hid hI
          have HC := Lib.hid hC
          have n15 := HW165.out.2
          have n7 := HKO5.out.h7
          have hnb : (n : Int) + 1 ≤ 1000001 := by have := HLL.out; omega
          clear hps hnx hno hI hC hp KW h15k hpl
          generalize gi WL n = v at *
          by_cases h1 : x1 = (n : Int)
          · subst h1
            by_cases h2 : x2 = v
            · subst h2
              have e1 : ((n : Int) != (n : Int)) = false := bne_f rfl
              have e2 : (x2 != x2) = false := bne_f rfl
              obtain ⟨p1, p2⟩ := HNX.out rfl
              have HP1 := Lib.hid p1
              have HP2 := Lib.hid p2
              have HX := Lib.hid (HI.out.next HW165.out.1 (.int .i64 ((n : Int) + 1)) (by push_cast; rfl))
              have d15 := ((X155.out.kp HX.out.2.2.k (by simpa using HW165.out.2))).cell (j := 0) (v := .int .i64 1) rfl
              have d16 := HX.out.2.2.x.cell (j := 0) (v := .int .i64 ((n + 1 : Nat) : Int)) rfl
              have d7 := ((KR5.out.kp HIT.out HKO5.out HX.out.2.2.k HX.out.2.2.bl)).x7.cell (j := 0) (v := .int .i64 a1) rfl
              have wn : IntKind.i64.wrap ((n : Int) + 1) = (n : Int) + 1 := IntWalk.i64_in _ (by omega)
              push_cast at d16
              clear p1 p2 HNX HNO e1 hnb wn
              gi_wp2
              exact ⟨HX.out.1, HX.out.2.1, by rw [HP2.out]; exact HP1.out, trivial, by rw [HP2.out]; exact HX.out.2.2⟩
            · have e1 : ((n : Int) != (n : Int)) = false := bne_f rfl
              have e2 : (x2 != v) = true := bne_t h2
              have HFX := Lib.hid (HNO.out (fun h => h2 (by injection h)))
              clear HNX HNO h2
              gi_wp2
              exact ⟨KeepsOthers.setCell _ _ _, .inl HFX.out⟩
          · have e1 : (x1 != (n : Int)) = true := bne_t h1
            have HFX := Lib.hid (HNO.out (fun h => h1 (by injection h)))
            clear HNX HNO h1
            gi_wp2
            exact ⟨KeepsOthers.setCell _ _ _, .inl HFX.out⟩
        case done5 =>
          rintro D2 ys W hD hys ⟨-, hC, hI⟩ hK
          rw [hys, HPL.out] at hI
          clear hys
          have hnn : (((N : Nat) : Int) != ((N : Nat) : Int)) = false := bne_f rfl
          have KWH5 := Lib.hid (KR5.out.kp HIT.out HKO5.out hI.k hI.bl)
          have c15 := (X155.out.kp hI.k (by simpa using HW165.out.2)).cell (j := 0) (v := .int .i64 1) rfl
          have c16 := hI.x.cell (j := 0) (v := .int .i64 ((N : Nat) : Int)) rfl
          have c7 := KWH5.out.x7.cell (j := 0) (v := .int .i64 a1) rfl
          have c9 := KWH5.out.x9.cell (j := 0) (v := .slice Aw N cw) rfl
          have HKI5 := Lib.hid hI.k
          have HKD5 := Lib.hid hK
          have HD2D : Hid (W.heap[D]? = some (.deferred (some []))) := Lib.hid (hI.d D rfl)
          have HBLW := Lib.hid hI.bl
          have hsk := HSR5.out
          have hwk := HW165.out.1
          have hw7 := HKO5.out.h7
          have hdv := heap_lt' HDW.out
          have hlo := HDlo.out
          have hx9 := HX9LT.out
          have hz9 := HZ9.out
          have hs1 : w.heap.size + 1 < D2 := by omega
          have hs2 : w.heap.size + 1 < D := by omega
          have hs3 : D < D2 := by omega
          clear hI hK hC hsk hwk hw7 hdv hlo hx9 hz9
          dsimp only
          go_wp2_with fail
          rw [rounds_succ]
          go_wp2_with fail
          refine (works_any _).mono ?_
          rintro e w20 ⟨rfl, hB20⟩
          have hb20 : Below W.heap.size W w20 := ((Below.refl _ W).alloc (Nat.le_refl _) _).trans (hB20.mono (by simp))
          have z8 := KWH5.out.x8.below hb20
          have c8 := z8.cell (j := 0) (v := .bool false) rfl
          have f8 := z8.frozen 0
          have Z8 := Lib.hid (z8.set 0 (.bool true))
          have d2 : (w20.setCell ⟨w.heap.size + 1, 0, none⟩ (.bool true)).heap[D2]? = some (.deferred (some [])) := (KeepsOthers.setCell w20 _ _).same D2 _ ((hb20.block D2 (heap_lt' HKD5.out)).trans HKD5.out) rfl
          have d1 : (w20.setCell ⟨w.heap.size + 1, 0, none⟩ (.bool true)).heap[D]? = some (.deferred (some [])) := (KeepsOthers.setCell w20 _ _).same D _ ((hb20.block D (heap_lt' HD2D.out)).trans HD2D.out) rfl
          have hbl := (HBLW.out.trans (hb20.mono HBLW.out.size)).setCell (p := ⟨w.heap.size + 1, 0, none⟩) (Nat.le_succ _) (.bool true)
          have hbl2 := hbl.grown (grownBy_putObj' _ D2 (.deferred none)) hbl.size (fun r e => by cases e; omega)
          have hbl3 := hbl2.grown (grownBy_putObj' _ D (.deferred none)) hbl2.size (fun r e => by cases e; omega)
          have HD1 := Lib.hid d1
          have HD2 := Lib.hid d2
          have HBL3 := Lib.hid hbl3
          have hdd : D ≠ D2 := by omega
          have hd8 : w.heap.size + 1 ≠ D2 ∧ w.heap.size + 1 ≠ D := by omega
          clear hb20 z8 hB20 d1 d2 hbl hbl2 hbl3
          go_wp2
          have b6 := ((Z8.out.grown (grownBy_putObj' _ D2 (.deferred none)) (by simpa using hd8.1)).grown (grownBy_putObj' _ D (.deferred none)) (by simpa using hd8.2))
          have l1 := load_bool b6
          refine ⟨by simp, .inl ⟨_, _, rfl, run_takeDeferred HD2.out, by simp, .inl ⟨_, _, rfl, run_takeDeferred ((World.putObj_heap_other (by omega)).trans HD1.out), ?_⟩⟩⟩
          refine ⟨.bool true, ?_, rfl, HBL3.out⟩
          rw [results_c rfl]
          simp [asAddr, l1, Sem.run_pure]
        case stop5 =>
          rintro D2 c pre W hD ⟨k, hk, hpk⟩ hx hK
          rcases hx with hx | ⟨rfl, hC, hI⟩
          · exact absurd hpk (hx k)
          · exact hC.elim
  case stop =>
    rintro D c pre W hD ⟨k, hk, hpk⟩ hx hK
    rcases hx with hx | ⟨rfl, hC, hI⟩
    · exact absurd hpk (hx k)
    · refine wpIn_wide.2 ?_
      obtain ⟨nx, hn⟩ : ∃ nx, pre.length = nx := ⟨_, rfl⟩
      rw [hn] at hC hI
      clear hn hpk
      have KWH := Lib.hid (KR.out.kp HIT.out HKO.out hI.k hI.bl)
      have c15 := (X15.out.kp hI.k (by simpa using HW16.out.2)).cell (j := 0) (v := .int .i64 0) rfl
      have c16 := hI.x.cell (j := 0) (v := .int .i64 ((nx : Nat) : Int)) rfl
      have c7 := KWH.out.x7.cell (j := 0) (v := .int .i64 a1) rfl
      have c9 := KWH.out.x9.cell (j := 0) (v := .slice Aw N cw) rfl
      have HKI := Lib.hid hI.k
      have HKD := Lib.hid hK
      clear hI hK hk
      obtain ⟨q1, q2, q3, q4⟩ := hC
      by_cases hm : a1 ≤ 1
      · obtain rfl : nx = 1 := by omega
        by_cases hl : N = 1
        · dsimp only
          go_wp2_with fail
          obtain ⟨Wu, hWu⟩ : ∃ Wu, Wu = W.alloc (.cells #[.int .i64 1] 3) := ⟨_, rfl⟩
          have x15 : Blk Wu W.heap.size 3 [.int .i64 1] := by rw [hWu]; exact Blk.new W [.int .i64 1] 3 rfl
          have kt : KpF w.heap.size (w.heap.size + 1) b9 a1 Aw N cw WL Fw w Wu := by rw [hWu]; exact KWH.out.below HIT.out ((Below.refl _ W).alloc (Nat.le_refl _) _)
          have HDt : Hid (Wu.heap[D]? = some (.deferred (some []))) := Lib.hid (by rw [hWu]; exact heap_old' HKD.out)
          have hst : Wu.heap.size = W.heap.size + 1 := by rw [hWu]; simp
          have hwsz := HKI.out.1
          have hsr0 := HSR.out
          have h15 : w9.heap.size ≤ W.heap.size := by omega
          have HDlo : Hid (w9.heap.size ≤ D) := Lib.hid (by omega)
          rw [← hWu]
          clear hWu c15 c16 c7 c9 hD
          try clear hn0
          try clear hm
          try clear hl
          try clear h0
          generalize W.heap.size = b17 at *
          rw [rounds_succ]
          have c15 := x15.cell (j := 0) (v := .int .i64 1) rfl
          go_wp2_with fail
          obtain ⟨Wv, hWr⟩ : ∃ Wv, Wv = Wu.alloc (.cells #[.int .i64 0] 3) := ⟨_, rfl⟩
          have hbW : Below Wu.heap.size Wu Wv := by rw [hWr]; exact (Below.refl _ Wu).alloc (Nat.le_refl _) _
          have x16 : Blk Wv (b17 + 1) 3 [.int .i64 ((0 : Nat) : Int)] := by rw [hWr]; exact Blk.new Wu [.int .i64 0] 3 hst.symm
          have X156 := Lib.hid (x15.below hbW)
          have KR6 := Lib.hid (kt.below HIT.out hbW)
          have hsr : Wv.heap.size = Wu.heap.size + 1 := by rw [hWr]; simp
          have HDW : Hid (Wv.heap[D]? = some (.deferred (some []))) := Lib.hid ((hbW.block D (heap_lt' HDt.out)).trans HDt.out)
          have hdv := heap_lt' HDW.out
          rw [← hWr]
          clear hWr hbW x15 kt c15
          have hsr : Wv.heap.size = b17 + 1 + 1 := by rw [hsr, hst]
          clear hst
          generalize hb16 : b17 + 1 = b18 at *
          have h16 : b17 < b18 := by omega
          clear hb16
          have HKO6 : Hid (KpO w.heap.size (w.heap.size + 1) b9 Aw Ok b18) := Lib.hid ⟨by omega, by omega, by omega, fun a ha => by have := HAW.out a ha; omega, HFR.out _ (by omega)⟩
          have HW166 : Hid (w.heap.size ≤ b18 ∧ b17 ≠ b18) := Lib.hid ⟨by omega, by omega⟩
          have HSR6 : Hid (Wv.heap.size = b18 + 1) := Lib.hid (by omega)
          refine (wpIn_wide (n := 3)).1 ?_
          refine' rangeC (w0 := Wv) (gf := 79) (lb := lb) rfl (enters_of Try.func79 (by kernel_rfl) rfl) (HIT.out.seq b18 Wv HKO6.out.ok KR6.out.fw (by omega)) KpB.trans (fun W l o o' hl h1 h2 => KpB.put o' h1 h2) (Below.refl _ _) (fun _ => rfl)
            (Lp0 PS w Wv b18 (some D) (fun _ => True)) (Lpx PS w Wv b18 (some D) (fun _ => False) 2) (Lp0.cl (by omega) (by omega) (fun D e => by cases e; omega)) (fun c => Lpx.cl (by omega) (by omega) (fun D e => by cases e; omega) c) ⟨rfl, trivial, ⟨x16, KpB.refl _ _, KR6.out.bl, fun D e => by cases e; exact HDW.out⟩⟩ _ ?assign6 ?body6 ?done6 ?stop6
          case assign6 =>
            intro l x W K hK
            unfold encP
            gi_wp2
            exact hK
          case body6 =>
            rintro l pre ⟨x1, x2⟩ W ⟨hp, hC, hI⟩ hpl
            dsimp only
            obtain ⟨n, hn⟩ : ∃ n, pre.length = n := ⟨_, rfl⟩
            rw [hn] at hI hpl
            have KW := KR6.out.kp HIT.out HKO6.out hI.k hI.bl
            have hnN : n < N := by rw [← HPL.out]; exact hpl
            have h15k := X156.out.kp hI.k (by simpa using HW166.out.2)
            have c15 := h15k.cell (j := 0) (v := .int .i64 1) rfl
            have c16 := hI.x.cell (j := 0) (v := .int .i64 (n : Int)) rfl
            have f16 := hI.x.frozen 0
            have c7 := KW.x7.cell (j := 0) (v := .int .i64 a1) rfl
            have c8 := KW.x8.cell (j := 0) (v := .bool false) rfl
            have f8 := KW.x8.frozen 0
            have c9 := KW.x9.cell (j := 0) (v := .slice Aw N cw) rfl
            have hcw := Rd.cell KW.r (j := n) hnN
            have hixw := fun W => Rdv.ix KW.r el34 hnN .i64 W
            have hps : PS[n] = ((n : Int), gi WL n) := Prod.ext (HPG.out n hpl).1 (HPG.out n hpl).2
            have hnx := fun h : (x1, x2) = PS[n] => pre_next hp hn hpl h
            have hno := fun h : (x1, x2) ≠ PS[n] => pre_not hn hpl h
            rw [hps] at hnx hno
            have HNX := Lib.hid hnx
            have HNO := Lib.hid hno
            have HI := Lib.hid hI
            have HC := Lib.hid hC
            have n15 := HW166.out.2
            have n7 := HKO6.out.h7
            have hnb : (n : Int) + 1 ≤ 1000001 := by have := HLL.out; omega
            clear hps hnx hno hI hC hp KW h15k hpl
            generalize gi WL n = v at *
            by_cases h1 : x1 = (n : Int)
            · subst h1
              by_cases h2 : x2 = v
              · subst h2
                have e1 : ((n : Int) != (n : Int)) = false := bne_f rfl
                have e2 : (x2 != x2) = false := bne_f rfl
                obtain ⟨p1, p2⟩ := HNX.out rfl
                have HP1 := Lib.hid p1
                have HP2 := Lib.hid p2
                have HX := Lib.hid (HI.out.next HW166.out.1 (.int .i64 ((n : Int) + 1)) (by push_cast; rfl))
                have d15 := ((X156.out.kp HX.out.2.2.k (by simpa using HW166.out.2))).cell (j := 0) (v := .int .i64 1) rfl
                have d16 := HX.out.2.2.x.cell (j := 0) (v := .int .i64 ((n + 1 : Nat) : Int)) rfl
                have d7 := ((KR6.out.kp HIT.out HKO6.out HX.out.2.2.k HX.out.2.2.bl)).x7.cell (j := 0) (v := .int .i64 a1) rfl
                have wn : IntKind.i64.wrap ((n : Int) + 1) = (n : Int) + 1 := IntWalk.i64_in _ (by omega)
                push_cast at d16
                clear p1 p2 HNX HNO e1 hnb wn
                gi_wp2
                exact ⟨HX.out.1, HX.out.2.1, by rw [HP2.out]; exact HP1.out, trivial, by rw [HP2.out]; exact HX.out.2.2⟩
              · have e1 : ((n : Int) != (n : Int)) = false := bne_f rfl
                have e2 : (x2 != v) = true := bne_t h2
                have HFX := Lib.hid (HNO.out (fun h => h2 (by injection h)))
                clear HNX HNO h2
                gi_wp2
                exact ⟨KeepsOthers.setCell _ _ _, .inl HFX.out⟩
            · have e1 : (x1 != (n : Int)) = true := bne_t h1
              have HFX := Lib.hid (HNO.out (fun h => h1 (by injection h)))
              clear HNX HNO h1
              gi_wp2
              exact ⟨KeepsOthers.setCell _ _ _, .inl HFX.out⟩
          case done6 =>
            rintro D2 ys W hD hys ⟨-, hC, hI⟩ hK
            rw [hys, HPL.out] at hI
            clear hys
            have hnn : (((N : Nat) : Int) != ((N : Nat) : Int)) = false := bne_f rfl
            have KWH6 := Lib.hid (KR6.out.kp HIT.out HKO6.out hI.k hI.bl)
            have c15 := (X156.out.kp hI.k (by simpa using HW166.out.2)).cell (j := 0) (v := .int .i64 1) rfl
            have c16 := hI.x.cell (j := 0) (v := .int .i64 ((N : Nat) : Int)) rfl
            have c7 := KWH6.out.x7.cell (j := 0) (v := .int .i64 a1) rfl
            have c9 := KWH6.out.x9.cell (j := 0) (v := .slice Aw N cw) rfl
            have HKI6 := Lib.hid hI.k
            have HKD6 := Lib.hid hK
            have HD2D : Hid (W.heap[D]? = some (.deferred (some []))) := Lib.hid (hI.d D rfl)
            have HBLW := Lib.hid hI.bl
            have hsk := HSR6.out
            have hwk := HW166.out.1
            have hw7 := HKO6.out.h7
            have hdv := heap_lt' HDW.out
            have hlo := HDlo.out
            have hx9 := HX9LT.out
            have hz9 := HZ9.out
            have hs1 : w.heap.size + 1 < D2 := by omega
            have hs2 : w.heap.size + 1 < D := by omega
            have hs3 : D < D2 := by omega
            clear hI hK hC hsk hwk hw7 hdv hlo hx9 hz9
            dsimp only
            go_wp2_with fail
            rw [rounds_succ]
            go_wp2_with fail
            refine (works_any _).mono ?_
            rintro e w20 ⟨rfl, hB20⟩
            have hb20 : Below W.heap.size W w20 := ((Below.refl _ W).alloc (Nat.le_refl _) _).trans (hB20.mono (by simp))
            have z8 := KWH6.out.x8.below hb20
            have c8 := z8.cell (j := 0) (v := .bool false) rfl
            have f8 := z8.frozen 0
            have Z8 := Lib.hid (z8.set 0 (.bool true))
            have d2 : (w20.setCell ⟨w.heap.size + 1, 0, none⟩ (.bool true)).heap[D2]? = some (.deferred (some [])) := (KeepsOthers.setCell w20 _ _).same D2 _ ((hb20.block D2 (heap_lt' HKD6.out)).trans HKD6.out) rfl
            have d1 : (w20.setCell ⟨w.heap.size + 1, 0, none⟩ (.bool true)).heap[D]? = some (.deferred (some [])) := (KeepsOthers.setCell w20 _ _).same D _ ((hb20.block D (heap_lt' HD2D.out)).trans HD2D.out) rfl
            have hbl := (HBLW.out.trans (hb20.mono HBLW.out.size)).setCell (p := ⟨w.heap.size + 1, 0, none⟩) (Nat.le_succ _) (.bool true)
            have hbl2 := hbl.grown (grownBy_putObj' _ D2 (.deferred none)) hbl.size (fun r e => by cases e; omega)
            have hbl3 := hbl2.grown (grownBy_putObj' _ D (.deferred none)) hbl2.size (fun r e => by cases e; omega)
            have HD1 := Lib.hid d1
            have HD2 := Lib.hid d2
            have HBL3 := Lib.hid hbl3
            have hdd : D ≠ D2 := by omega
            have hd8 : w.heap.size + 1 ≠ D2 ∧ w.heap.size + 1 ≠ D := by omega
            clear hb20 z8 hB20 d1 d2 hbl hbl2 hbl3
            go_wp2
            have b6 := ((Z8.out.grown (grownBy_putObj' _ D2 (.deferred none)) (by simpa using hd8.1)).grown (grownBy_putObj' _ D (.deferred none)) (by simpa using hd8.2))
            have l1 := load_bool b6
            refine ⟨by simp, .inl ⟨_, _, rfl, run_takeDeferred HD2.out, by simp, .inl ⟨_, _, rfl, run_takeDeferred ((World.putObj_heap_other (by omega)).trans HD1.out), ?_⟩⟩⟩
            refine ⟨.bool true, ?_, rfl, HBL3.out⟩
            rw [results_c rfl]
            simp [asAddr, l1, Sem.run_pure]
          case stop6 =>
            rintro D2 c pre W hD ⟨k, hk, hpk⟩ hx hK
            rcases hx with hx | ⟨rfl, hC, hI⟩
            · exact absurd hpk (hx k)
            · exact hC.elim
        · dsimp only
          go_wp2_with fail
          obtain ⟨Wu, hWu⟩ : ∃ Wu, Wu = W.alloc (.cells #[.int .i64 1] 3) := ⟨_, rfl⟩
          have x15 : Blk Wu W.heap.size 3 [.int .i64 1] := by rw [hWu]; exact Blk.new W [.int .i64 1] 3 rfl
          have kt : KpF w.heap.size (w.heap.size + 1) b9 a1 Aw N cw WL Fw w Wu := by rw [hWu]; exact KWH.out.below HIT.out ((Below.refl _ W).alloc (Nat.le_refl _) _)
          have HDt : Hid (Wu.heap[D]? = some (.deferred (some []))) := Lib.hid (by rw [hWu]; exact heap_old' HKD.out)
          have hst : Wu.heap.size = W.heap.size + 1 := by rw [hWu]; simp
          have hwsz := HKI.out.1
          have hsr0 := HSR.out
          have h15 : w9.heap.size ≤ W.heap.size := by omega
          have HDlo : Hid (w9.heap.size ≤ D) := Lib.hid (by omega)
          rw [← hWu]
          clear hWu c15 c16 c7 c9 hD
          try clear hn0
          try clear hm
          try clear hl
          try clear h0
          generalize W.heap.size = b17 at *
          rw [rounds_succ]
          have c15 := x15.cell (j := 0) (v := .int .i64 1) rfl
          go_wp2_with fail
          obtain ⟨Wv, hWr⟩ : ∃ Wv, Wv = Wu.alloc (.cells #[.int .i64 0] 3) := ⟨_, rfl⟩
          have hbW : Below Wu.heap.size Wu Wv := by rw [hWr]; exact (Below.refl _ Wu).alloc (Nat.le_refl _) _
          have x16 : Blk Wv (b17 + 1) 3 [.int .i64 ((0 : Nat) : Int)] := by rw [hWr]; exact Blk.new Wu [.int .i64 0] 3 hst.symm
          have X157 := Lib.hid (x15.below hbW)
          have KR7 := Lib.hid (kt.below HIT.out hbW)
          have hsr : Wv.heap.size = Wu.heap.size + 1 := by rw [hWr]; simp
          have HDW : Hid (Wv.heap[D]? = some (.deferred (some []))) := Lib.hid ((hbW.block D (heap_lt' HDt.out)).trans HDt.out)
          have hdv := heap_lt' HDW.out
          rw [← hWr]
          clear hWr hbW x15 kt c15
          have hsr : Wv.heap.size = b17 + 1 + 1 := by rw [hsr, hst]
          clear hst
          generalize hb16 : b17 + 1 = b18 at *
          have h16 : b17 < b18 := by omega
          clear hb16
          have HKO7 : Hid (KpO w.heap.size (w.heap.size + 1) b9 Aw Ok b18) := Lib.hid ⟨by omega, by omega, by omega, fun a ha => by have := HAW.out a ha; omega, HFR.out _ (by omega)⟩
          have HW167 : Hid (w.heap.size ≤ b18 ∧ b17 ≠ b18) := Lib.hid ⟨by omega, by omega⟩
          have HSR7 : Hid (Wv.heap.size = b18 + 1) := Lib.hid (by omega)
          refine (wpIn_wide (n := 3)).1 ?_
          refine' rangeC (w0 := Wv) (gf := 79) (lb := lb) rfl (enters_of Try.func79 (by kernel_rfl) rfl) (HIT.out.seq b18 Wv HKO7.out.ok KR7.out.fw (by omega)) KpB.trans (fun W l o o' hl h1 h2 => KpB.put o' h1 h2) (Below.refl _ _) (fun _ => rfl)
            (Lp0 PS w Wv b18 (some D) (fun _ => True)) (Lpx PS w Wv b18 (some D) (fun _ => False) 2) (Lp0.cl (by omega) (by omega) (fun D e => by cases e; omega)) (fun c => Lpx.cl (by omega) (by omega) (fun D e => by cases e; omega) c) ⟨rfl, trivial, ⟨x16, KpB.refl _ _, KR7.out.bl, fun D e => by cases e; exact HDW.out⟩⟩ _ ?assign7 ?body7 ?done7 ?stop7
          case assign7 =>
            intro l x W K hK
            unfold encP
            gi_wp2
            exact hK
          case body7 =>
            rintro l pre ⟨x1, x2⟩ W ⟨hp, hC, hI⟩ hpl
            dsimp only
            obtain ⟨n, hn⟩ : ∃ n, pre.length = n := ⟨_, rfl⟩
            rw [hn] at hI hpl
            have KW := KR7.out.kp HIT.out HKO7.out hI.k hI.bl
            have hnN : n < N := by rw [← HPL.out]; exact hpl
            have h15k := X157.out.kp hI.k (by simpa using HW167.out.2)
            have c15 := h15k.cell (j := 0) (v := .int .i64 1) rfl
            have c16 := hI.x.cell (j := 0) (v := .int .i64 (n : Int)) rfl
            have f16 := hI.x.frozen 0
            have c7 := KW.x7.cell (j := 0) (v := .int .i64 a1) rfl
            have c8 := KW.x8.cell (j := 0) (v := .bool false) rfl
            have f8 := KW.x8.frozen 0
            have c9 := KW.x9.cell (j := 0) (v := .slice Aw N cw) rfl
            have hcw := Rd.cell KW.r (j := n) hnN
            have hixw := fun W => Rdv.ix KW.r el34 hnN .i64 W
            have hps : PS[n] = ((n : Int), gi WL n) := Prod.ext (HPG.out n hpl).1 (HPG.out n hpl).2
            have hnx := fun h : (x1, x2) = PS[n] => pre_next hp hn hpl h
            have hno := fun h : (x1, x2) ≠ PS[n] => pre_not hn hpl h
            rw [hps] at hnx hno
            have HNX := Lib.hid hnx
            have HNO := Lib.hid hno
            have HI := Lib.hid hI
            have HC := Lib.hid hC
            have n15 := HW167.out.2
            have n7 := HKO7.out.h7
            have hnb : (n : Int) + 1 ≤ 1000001 := by have := HLL.out; omega
            clear hps hnx hno hI hC hp KW h15k hpl
            generalize gi WL n = v at *
            by_cases h1 : x1 = (n : Int)
            · subst h1
              by_cases h2 : x2 = v
              · subst h2
                have e1 : ((n : Int) != (n : Int)) = false := bne_f rfl
                have e2 : (x2 != x2) = false := bne_f rfl
                obtain ⟨p1, p2⟩ := HNX.out rfl
                have HP1 := Lib.hid p1
                have HP2 := Lib.hid p2
                have HX := Lib.hid (HI.out.next HW167.out.1 (.int .i64 ((n : Int) + 1)) (by push_cast; rfl))
                have d15 := ((X157.out.kp HX.out.2.2.k (by simpa using HW167.out.2))).cell (j := 0) (v := .int .i64 1) rfl
                have d16 := HX.out.2.2.x.cell (j := 0) (v := .int .i64 ((n + 1 : Nat) : Int)) rfl
                have d7 := ((KR7.out.kp HIT.out HKO7.out HX.out.2.2.k HX.out.2.2.bl)).x7.cell (j := 0) (v := .int .i64 a1) rfl
                have wn : IntKind.i64.wrap ((n : Int) + 1) = (n : Int) + 1 := IntWalk.i64_in _ (by omega)
                push_cast at d16
                clear p1 p2 HNX HNO e1 hnb wn
                gi_wp2
                exact ⟨HX.out.1, HX.out.2.1, by rw [HP2.out]; exact HP1.out, trivial, by rw [HP2.out]; exact HX.out.2.2⟩
              · have e1 : ((n : Int) != (n : Int)) = false := bne_f rfl
                have e2 : (x2 != v) = true := bne_t h2
                have HFX := Lib.hid (HNO.out (fun h => h2 (by injection h)))
                clear HNX HNO h2
                gi_wp2
                exact ⟨KeepsOthers.setCell _ _ _, .inl HFX.out⟩
            · have e1 : (x1 != (n : Int)) = true := bne_t h1
              have HFX := Lib.hid (HNO.out (fun h => h1 (by injection h)))
              clear HNX HNO h1
              gi_wp2
              exact ⟨KeepsOthers.setCell _ _ _, .inl HFX.out⟩
          case done7 =>
            rintro D2 ys W hD hys ⟨-, hC, hI⟩ hK
            rw [hys, HPL.out] at hI
            clear hys
            have hnn : (((N : Nat) : Int) != ((N : Nat) : Int)) = false := bne_f rfl
            have KWH7 := Lib.hid (KR7.out.kp HIT.out HKO7.out hI.k hI.bl)
            have c15 := (X157.out.kp hI.k (by simpa using HW167.out.2)).cell (j := 0) (v := .int .i64 1) rfl
            have c16 := hI.x.cell (j := 0) (v := .int .i64 ((N : Nat) : Int)) rfl
            have c7 := KWH7.out.x7.cell (j := 0) (v := .int .i64 a1) rfl
            have c9 := KWH7.out.x9.cell (j := 0) (v := .slice Aw N cw) rfl
            have HKI7 := Lib.hid hI.k
            have HKD7 := Lib.hid hK
            have HD2D : Hid (W.heap[D]? = some (.deferred (some []))) := Lib.hid (hI.d D rfl)
            have HBLW := Lib.hid hI.bl
            have hsk := HSR7.out
            have hwk := HW167.out.1
            have hw7 := HKO7.out.h7
            have hdv := heap_lt' HDW.out
            have hlo := HDlo.out
            have hx9 := HX9LT.out
            have hz9 := HZ9.out
            have hs1 : w.heap.size + 1 < D2 := by omega
            have hs2 : w.heap.size + 1 < D := by omega
            have hs3 : D < D2 := by omega
            clear hI hK hC hsk hwk hw7 hdv hlo hx9 hz9
            dsimp only
            go_wp2_with fail
            rw [rounds_succ]
            go_wp2_with fail
            refine (works_any _).mono ?_
            rintro e w20 ⟨rfl, hB20⟩
            have hb20 : Below W.heap.size W w20 := ((Below.refl _ W).alloc (Nat.le_refl _) _).trans (hB20.mono (by simp))
            have z8 := KWH7.out.x8.below hb20
            have c8 := z8.cell (j := 0) (v := .bool false) rfl
            have f8 := z8.frozen 0
            have Z8 := Lib.hid (z8.set 0 (.bool true))
            have d2 : (w20.setCell ⟨w.heap.size + 1, 0, none⟩ (.bool true)).heap[D2]? = some (.deferred (some [])) := (KeepsOthers.setCell w20 _ _).same D2 _ ((hb20.block D2 (heap_lt' HKD7.out)).trans HKD7.out) rfl
            have d1 : (w20.setCell ⟨w.heap.size + 1, 0, none⟩ (.bool true)).heap[D]? = some (.deferred (some [])) := (KeepsOthers.setCell w20 _ _).same D _ ((hb20.block D (heap_lt' HD2D.out)).trans HD2D.out) rfl
            have hbl := (HBLW.out.trans (hb20.mono HBLW.out.size)).setCell (p := ⟨w.heap.size + 1, 0, none⟩) (Nat.le_succ _) (.bool true)
            have hbl2 := hbl.grown (grownBy_putObj' _ D2 (.deferred none)) hbl.size (fun r e => by cases e; omega)
            have hbl3 := hbl2.grown (grownBy_putObj' _ D (.deferred none)) hbl2.size (fun r e => by cases e; omega)
            have HD1 := Lib.hid d1
            have HD2 := Lib.hid d2
            have HBL3 := Lib.hid hbl3
            have hdd : D ≠ D2 := by omega
            have hd8 : w.heap.size + 1 ≠ D2 ∧ w.heap.size + 1 ≠ D := by omega
            clear hb20 z8 hB20 d1 d2 hbl hbl2 hbl3
            go_wp2
            have b6 := ((Z8.out.grown (grownBy_putObj' _ D2 (.deferred none)) (by simpa using hd8.1)).grown (grownBy_putObj' _ D (.deferred none)) (by simpa using hd8.2))
            have l1 := load_bool b6
            refine ⟨by simp, .inl ⟨_, _, rfl, run_takeDeferred HD2.out, by simp, .inl ⟨_, _, rfl, run_takeDeferred ((World.putObj_heap_other (by omega)).trans HD1.out), ?_⟩⟩⟩
            refine ⟨.bool true, ?_, rfl, HBL3.out⟩
            rw [results_c rfl]
            simp [asAddr, l1, Sem.run_pure]
          case stop7 =>
            rintro D2 c pre W hD ⟨k, hk, hpk⟩ hx hK
            rcases hx with hx | ⟨rfl, hC, hI⟩
            · exact absurd hpk (hx k)
            · exact hC.elim
      · obtain rfl : a1 = (nx : Int) := by omega
        by_cases hl : N = nx
        · dsimp only
          go_wp2_with fail
          obtain ⟨Wu, hWu⟩ : ∃ Wu, Wu = W.alloc (.cells #[.int .i64 1] 3) := ⟨_, rfl⟩
          have x15 : Blk Wu W.heap.size 3 [.int .i64 1] := by rw [hWu]; exact Blk.new W [.int .i64 1] 3 rfl
          have kt : KpF w.heap.size (w.heap.size + 1) b9 (nx : Int) Aw N cw WL Fw w Wu := by rw [hWu]; exact KWH.out.below HIT.out ((Below.refl _ W).alloc (Nat.le_refl _) _)
          have HDt : Hid (Wu.heap[D]? = some (.deferred (some []))) := Lib.hid (by rw [hWu]; exact heap_old' HKD.out)
          have hst : Wu.heap.size = W.heap.size + 1 := by rw [hWu]; simp
          have hwsz := HKI.out.1
          have hsr0 := HSR.out
          have h15 : w9.heap.size ≤ W.heap.size := by omega
          have HDlo : Hid (w9.heap.size ≤ D) := Lib.hid (by omega)
          rw [← hWu]
          clear hWu c15 c16 c7 c9 hD
          try clear hn0
          try clear hm
          try clear hl
          try clear h0
          generalize W.heap.size = b17 at *
          rw [rounds_succ]
          have c15 := x15.cell (j := 0) (v := .int .i64 1) rfl
          go_wp2_with fail
          obtain ⟨Wv, hWr⟩ : ∃ Wv, Wv = Wu.alloc (.cells #[.int .i64 0] 3) := ⟨_, rfl⟩
          have hbW : Below Wu.heap.size Wu Wv := by rw [hWr]; exact (Below.refl _ Wu).alloc (Nat.le_refl _) _
          have x16 : Blk Wv (b17 + 1) 3 [.int .i64 ((0 : Nat) : Int)] := by rw [hWr]; exact Blk.new Wu [.int .i64 0] 3 hst.symm
          have X158 := Lib.hid (x15.below hbW)
          have KR8 := Lib.hid (kt.below HIT.out hbW)
          have hsr : Wv.heap.size = Wu.heap.size + 1 := by rw [hWr]; simp
          have HDW : Hid (Wv.heap[D]? = some (.deferred (some []))) := Lib.hid ((hbW.block D (heap_lt' HDt.out)).trans HDt.out)
          have hdv := heap_lt' HDW.out
          rw [← hWr]
          clear hWr hbW x15 kt c15
          have hsr : Wv.heap.size = b17 + 1 + 1 := by rw [hsr, hst]
          clear hst
          generalize hb16 : b17 + 1 = b18 at *
          have h16 : b17 < b18 := by omega
          clear hb16
          have HKO8 : Hid (KpO w.heap.size (w.heap.size + 1) b9 Aw Ok b18) := Lib.hid ⟨by omega, by omega, by omega, fun a ha => by have := HAW.out a ha; omega, HFR.out _ (by omega)⟩
          have HW168 : Hid (w.heap.size ≤ b18 ∧ b17 ≠ b18) := Lib.hid ⟨by omega, by omega⟩
          have HSR8 : Hid (Wv.heap.size = b18 + 1) := Lib.hid (by omega)
          refine (wpIn_wide (n := 3)).1 ?_
          refine' rangeC (w0 := Wv) (gf := 79) (lb := lb) rfl (enters_of Try.func79 (by kernel_rfl) rfl) (HIT.out.seq b18 Wv HKO8.out.ok KR8.out.fw (by omega)) KpB.trans (fun W l o o' hl h1 h2 => KpB.put o' h1 h2) (Below.refl _ _) (fun _ => rfl)
            (Lp0 PS w Wv b18 (some D) (fun _ => True)) (Lpx PS w Wv b18 (some D) (fun _ => False) 2) (Lp0.cl (by omega) (by omega) (fun D e => by cases e; omega)) (fun c => Lpx.cl (by omega) (by omega) (fun D e => by cases e; omega) c) ⟨rfl, trivial, ⟨x16, KpB.refl _ _, KR8.out.bl, fun D e => by cases e; exact HDW.out⟩⟩ _ ?assign8 ?body8 ?done8 ?stop8
          case assign8 =>
            intro l x W K hK
            unfold encP
            gi_wp2
            exact hK
          case body8 =>
            rintro l pre ⟨x1, x2⟩ W ⟨hp, hC, hI⟩ hpl
            dsimp only
            obtain ⟨n, hn⟩ : ∃ n, pre.length = n := ⟨_, rfl⟩
            rw [hn] at hI hpl
            have KW := KR8.out.kp HIT.out HKO8.out hI.k hI.bl
            have hnN : n < N := by rw [← HPL.out]; exact hpl
            have h15k := X158.out.kp hI.k (by simpa using HW168.out.2)
            have c15 := h15k.cell (j := 0) (v := .int .i64 1) rfl
            have c16 := hI.x.cell (j := 0) (v := .int .i64 (n : Int)) rfl
            have f16 := hI.x.frozen 0
            have c7 := KW.x7.cell (j := 0) (v := .int .i64 (nx : Int)) rfl
            have c8 := KW.x8.cell (j := 0) (v := .bool false) rfl
            have f8 := KW.x8.frozen 0
            have c9 := KW.x9.cell (j := 0) (v := .slice Aw N cw) rfl
            have hcw := Rd.cell KW.r (j := n) hnN
            have hixw := fun W => Rdv.ix KW.r el34 hnN .i64 W
            have hps : PS[n] = ((n : Int), gi WL n) := Prod.ext (HPG.out n hpl).1 (HPG.out n hpl).2
            have hnx := fun h : (x1, x2) = PS[n] => pre_next hp hn hpl h
            have hno := fun h : (x1, x2) ≠ PS[n] => pre_not hn hpl h
            rw [hps] at hnx hno
            have HNX := Lib.hid hnx
            have HNO := Lib.hid hno
            have HI := Lib.hid hI
            have HC := Lib.hid hC
            have n15 := HW168.out.2
            have n7 := HKO8.out.h7
            have hnb : (n : Int) + 1 ≤ 1000001 := by have := HLL.out; omega
            clear hps hnx hno hI hC hp KW h15k hpl
            generalize gi WL n = v at *
            by_cases h1 : x1 = (n : Int)
            · subst h1
              by_cases h2 : x2 = v
              · subst h2
                have e1 : ((n : Int) != (n : Int)) = false := bne_f rfl
                have e2 : (x2 != x2) = false := bne_f rfl
                obtain ⟨p1, p2⟩ := HNX.out rfl
                have HP1 := Lib.hid p1
                have HP2 := Lib.hid p2
                have HX := Lib.hid (HI.out.next HW168.out.1 (.int .i64 ((n : Int) + 1)) (by push_cast; rfl))
                have d15 := ((X158.out.kp HX.out.2.2.k (by simpa using HW168.out.2))).cell (j := 0) (v := .int .i64 1) rfl
                have d16 := HX.out.2.2.x.cell (j := 0) (v := .int .i64 ((n + 1 : Nat) : Int)) rfl
                have d7 := ((KR8.out.kp HIT.out HKO8.out HX.out.2.2.k HX.out.2.2.bl)).x7.cell (j := 0) (v := .int .i64 (nx : Int)) rfl
                have wn : IntKind.i64.wrap ((n : Int) + 1) = (n : Int) + 1 := IntWalk.i64_in _ (by omega)
                push_cast at d16
                clear p1 p2 HNX HNO e1 hnb wn
                gi_wp2
                exact ⟨HX.out.1, HX.out.2.1, by rw [HP2.out]; exact HP1.out, trivial, by rw [HP2.out]; exact HX.out.2.2⟩
              · have e1 : ((n : Int) != (n : Int)) = false := bne_f rfl
                have e2 : (x2 != v) = true := bne_t h2
                have HFX := Lib.hid (HNO.out (fun h => h2 (by injection h)))
                clear HNX HNO h2
                gi_wp2
                exact ⟨KeepsOthers.setCell _ _ _, .inl HFX.out⟩
            · have e1 : (x1 != (n : Int)) = true := bne_t h1
              have HFX := Lib.hid (HNO.out (fun h => h1 (by injection h)))
              clear HNX HNO h1
              gi_wp2
              exact ⟨KeepsOthers.setCell _ _ _, .inl HFX.out⟩
          case done8 =>
            rintro D2 ys W hD hys ⟨-, hC, hI⟩ hK
            rw [hys, HPL.out] at hI
            clear hys
            have hnn : (((N : Nat) : Int) != ((N : Nat) : Int)) = false := bne_f rfl
            have KWH8 := Lib.hid (KR8.out.kp HIT.out HKO8.out hI.k hI.bl)
            have c15 := (X158.out.kp hI.k (by simpa using HW168.out.2)).cell (j := 0) (v := .int .i64 1) rfl
            have c16 := hI.x.cell (j := 0) (v := .int .i64 ((N : Nat) : Int)) rfl
            have c7 := KWH8.out.x7.cell (j := 0) (v := .int .i64 (nx : Int)) rfl
            have c9 := KWH8.out.x9.cell (j := 0) (v := .slice Aw N cw) rfl
            have HKI8 := Lib.hid hI.k
            have HKD8 := Lib.hid hK
            have HD2D : Hid (W.heap[D]? = some (.deferred (some []))) := Lib.hid (hI.d D rfl)
            have HBLW := Lib.hid hI.bl
            have hsk := HSR8.out
            have hwk := HW168.out.1
            have hw7 := HKO8.out.h7
            have hdv := heap_lt' HDW.out
            have hlo := HDlo.out
            have hx9 := HX9LT.out
            have hz9 := HZ9.out
            have hs1 : w.heap.size + 1 < D2 := by omega
            have hs2 : w.heap.size + 1 < D := by omega
            have hs3 : D < D2 := by omega
            clear hI hK hC hsk hwk hw7 hdv hlo hx9 hz9
            dsimp only
            go_wp2_with fail
            rw [rounds_succ]
            go_wp2_with fail
            refine (works_any _).mono ?_
            rintro e w20 ⟨rfl, hB20⟩
            have hb20 : Below W.heap.size W w20 := ((Below.refl _ W).alloc (Nat.le_refl _) _).trans (hB20.mono (by simp))
            have z8 := KWH8.out.x8.below hb20
            have c8 := z8.cell (j := 0) (v := .bool false) rfl
            have f8 := z8.frozen 0
            have Z8 := Lib.hid (z8.set 0 (.bool true))
            have d2 : (w20.setCell ⟨w.heap.size + 1, 0, none⟩ (.bool true)).heap[D2]? = some (.deferred (some [])) := (KeepsOthers.setCell w20 _ _).same D2 _ ((hb20.block D2 (heap_lt' HKD8.out)).trans HKD8.out) rfl
            have d1 : (w20.setCell ⟨w.heap.size + 1, 0, none⟩ (.bool true)).heap[D]? = some (.deferred (some [])) := (KeepsOthers.setCell w20 _ _).same D _ ((hb20.block D (heap_lt' HD2D.out)).trans HD2D.out) rfl
            have hbl := (HBLW.out.trans (hb20.mono HBLW.out.size)).setCell (p := ⟨w.heap.size + 1, 0, none⟩) (Nat.le_succ _) (.bool true)
            have hbl2 := hbl.grown (grownBy_putObj' _ D2 (.deferred none)) hbl.size (fun r e => by cases e; omega)
            have hbl3 := hbl2.grown (grownBy_putObj' _ D (.deferred none)) hbl2.size (fun r e => by cases e; omega)
            have HD1 := Lib.hid d1
            have HD2 := Lib.hid d2
            have HBL3 := Lib.hid hbl3
            have hdd : D ≠ D2 := by omega
            have hd8 : w.heap.size + 1 ≠ D2 ∧ w.heap.size + 1 ≠ D := by omega
            clear hb20 z8 hB20 d1 d2 hbl hbl2 hbl3
            go_wp2
            have b6 := ((Z8.out.grown (grownBy_putObj' _ D2 (.deferred none)) (by simpa using hd8.1)).grown (grownBy_putObj' _ D (.deferred none)) (by simpa using hd8.2))
            have l1 := load_bool b6
            refine ⟨by simp, .inl ⟨_, _, rfl, run_takeDeferred HD2.out, by simp, .inl ⟨_, _, rfl, run_takeDeferred ((World.putObj_heap_other (by omega)).trans HD1.out), ?_⟩⟩⟩
            refine ⟨.bool true, ?_, rfl, HBL3.out⟩
            rw [results_c rfl]
            simp [asAddr, l1, Sem.run_pure]
          case stop8 =>
            rintro D2 c pre W hD ⟨k, hk, hpk⟩ hx hK
            rcases hx with hx | ⟨rfl, hC, hI⟩
            · exact absurd hpk (hx k)
            · exact hC.elim
        · dsimp only
          go_wp2_with fail
          obtain ⟨Wu, hWu⟩ : ∃ Wu, Wu = W.alloc (.cells #[.int .i64 1] 3) := ⟨_, rfl⟩
          have x15 : Blk Wu W.heap.size 3 [.int .i64 1] := by rw [hWu]; exact Blk.new W [.int .i64 1] 3 rfl
          have kt : KpF w.heap.size (w.heap.size + 1) b9 (nx : Int) Aw N cw WL Fw w Wu := by rw [hWu]; exact KWH.out.below HIT.out ((Below.refl _ W).alloc (Nat.le_refl _) _)
          have HDt : Hid (Wu.heap[D]? = some (.deferred (some []))) := Lib.hid (by rw [hWu]; exact heap_old' HKD.out)
          have hst : Wu.heap.size = W.heap.size + 1 := by rw [hWu]; simp
          have hwsz := HKI.out.1
          have hsr0 := HSR.out
          have h15 : w9.heap.size ≤ W.heap.size := by omega
          have HDlo : Hid (w9.heap.size ≤ D) := Lib.hid (by omega)
          rw [← hWu]
          clear hWu c15 c16 c7 c9 hD
          try clear hn0
          try clear hm
          try clear hl
          try clear h0
          generalize W.heap.size = b17 at *
          rw [rounds_succ]
          have c15 := x15.cell (j := 0) (v := .int .i64 1) rfl
          go_wp2_with fail
          obtain ⟨Wv, hWr⟩ : ∃ Wv, Wv = Wu.alloc (.cells #[.int .i64 0] 3) := ⟨_, rfl⟩
          have hbW : Below Wu.heap.size Wu Wv := by rw [hWr]; exact (Below.refl _ Wu).alloc (Nat.le_refl _) _
          have x16 : Blk Wv (b17 + 1) 3 [.int .i64 ((0 : Nat) : Int)] := by rw [hWr]; exact Blk.new Wu [.int .i64 0] 3 hst.symm
          have X159 := Lib.hid (x15.below hbW)
          have KR9 := Lib.hid (kt.below HIT.out hbW)
          have hsr : Wv.heap.size = Wu.heap.size + 1 := by rw [hWr]; simp
          have HDW : Hid (Wv.heap[D]? = some (.deferred (some []))) := Lib.hid ((hbW.block D (heap_lt' HDt.out)).trans HDt.out)
          have hdv := heap_lt' HDW.out
          rw [← hWr]
          clear hWr hbW x15 kt c15
          have hsr : Wv.heap.size = b17 + 1 + 1 := by rw [hsr, hst]
          clear hst
          generalize hb16 : b17 + 1 = b18 at *
          have h16 : b17 < b18 := by omega
          clear hb16
          have HKO9 : Hid (KpO w.heap.size (w.heap.size + 1) b9 Aw Ok b18) := Lib.hid ⟨by omega, by omega, by omega, fun a ha => by have := HAW.out a ha; omega, HFR.out _ (by omega)⟩
          have HW169 : Hid (w.heap.size ≤ b18 ∧ b17 ≠ b18) := Lib.hid ⟨by omega, by omega⟩
          have HSR9 : Hid (Wv.heap.size = b18 + 1) := Lib.hid (by omega)
          refine (wpIn_wide (n := 3)).1 ?_
          refine' rangeC (w0 := Wv) (gf := 79) (lb := lb) rfl (enters_of Try.func79 (by kernel_rfl) rfl) (HIT.out.seq b18 Wv HKO9.out.ok KR9.out.fw (by omega)) KpB.trans (fun W l o o' hl h1 h2 => KpB.put o' h1 h2) (Below.refl _ _) (fun _ => rfl)
            (Lp0 PS w Wv b18 (some D) (fun _ => True)) (Lpx PS w Wv b18 (some D) (fun _ => False) 2) (Lp0.cl (by omega) (by omega) (fun D e => by cases e; omega)) (fun c => Lpx.cl (by omega) (by omega) (fun D e => by cases e; omega) c) ⟨rfl, trivial, ⟨x16, KpB.refl _ _, KR9.out.bl, fun D e => by cases e; exact HDW.out⟩⟩ _ ?assign9 ?body9 ?done9 ?stop9
          case assign9 =>
            intro l x W K hK
            unfold encP
            gi_wp2
            exact hK
          case body9 =>
            rintro l pre ⟨x1, x2⟩ W ⟨hp, hC, hI⟩ hpl
            dsimp only
            obtain ⟨n, hn⟩ : ∃ n, pre.length = n := ⟨_, rfl⟩
            rw [hn] at hI hpl
            have KW := KR9.out.kp HIT.out HKO9.out hI.k hI.bl
            have hnN : n < N := by rw [← HPL.out]; exact hpl
            have h15k := X159.out.kp hI.k (by simpa using HW169.out.2)
            have c15 := h15k.cell (j := 0) (v := .int .i64 1) rfl
            have c16 := hI.x.cell (j := 0) (v := .int .i64 (n : Int)) rfl
            have f16 := hI.x.frozen 0
            have c7 := KW.x7.cell (j := 0) (v := .int .i64 (nx : Int)) rfl
            have c8 := KW.x8.cell (j := 0) (v := .bool false) rfl
            have f8 := KW.x8.frozen 0
            have c9 := KW.x9.cell (j := 0) (v := .slice Aw N cw) rfl
            have hcw := Rd.cell KW.r (j := n) hnN
            have hixw := fun W => Rdv.ix KW.r el34 hnN .i64 W
            have hps : PS[n] = ((n : Int), gi WL n) := Prod.ext (HPG.out n hpl).1 (HPG.out n hpl).2
            have hnx := fun h : (x1, x2) = PS[n] => pre_next hp hn hpl h
            have hno := fun h : (x1, x2) ≠ PS[n] => pre_not hn hpl h
            rw [hps] at hnx hno
            have HNX := Lib.hid hnx
            have HNO := Lib.hid hno
            have HI := Lib.hid hI
            have HC := Lib.hid hC
            have n15 := HW169.out.2
            have n7 := HKO9.out.h7
            have hnb : (n : Int) + 1 ≤ 1000001 := by have := HLL.out; omega
            clear hps hnx hno hI hC hp KW h15k hpl
            generalize gi WL n = v at *
            by_cases h1 : x1 = (n : Int)
            · subst h1
              by_cases h2 : x2 = v
              · subst h2
                have e1 : ((n : Int) != (n : Int)) = false := bne_f rfl
                have e2 : (x2 != x2) = false := bne_f rfl
                obtain ⟨p1, p2⟩ := HNX.out rfl
                have HP1 := Lib.hid p1
                have HP2 := Lib.hid p2
                have HX := Lib.hid (HI.out.next HW169.out.1 (.int .i64 ((n : Int) + 1)) (by push_cast; rfl))
                have d15 := ((X159.out.kp HX.out.2.2.k (by simpa using HW169.out.2))).cell (j := 0) (v := .int .i64 1) rfl
                have d16 := HX.out.2.2.x.cell (j := 0) (v := .int .i64 ((n + 1 : Nat) : Int)) rfl
                have d7 := ((KR9.out.kp HIT.out HKO9.out HX.out.2.2.k HX.out.2.2.bl)).x7.cell (j := 0) (v := .int .i64 (nx : Int)) rfl
                have wn : IntKind.i64.wrap ((n : Int) + 1) = (n : Int) + 1 := IntWalk.i64_in _ (by omega)
                push_cast at d16
                clear p1 p2 HNX HNO e1 hnb wn
                gi_wp2
                exact ⟨HX.out.1, HX.out.2.1, by rw [HP2.out]; exact HP1.out, trivial, by rw [HP2.out]; exact HX.out.2.2⟩
              · have e1 : ((n : Int) != (n : Int)) = false := bne_f rfl
                have e2 : (x2 != v) = true := bne_t h2
                have HFX := Lib.hid (HNO.out (fun h => h2 (by injection h)))
                clear HNX HNO h2
                gi_wp2
                exact ⟨KeepsOthers.setCell _ _ _, .inl HFX.out⟩
            · have e1 : (x1 != (n : Int)) = true := bne_t h1
              have HFX := Lib.hid (HNO.out (fun h => h1 (by injection h)))
              clear HNX HNO h1
              gi_wp2
              exact ⟨KeepsOthers.setCell _ _ _, .inl HFX.out⟩
          case done9 =>
            rintro D2 ys W hD hys ⟨-, hC, hI⟩ hK
            rw [hys, HPL.out] at hI
            clear hys
            have hnn : (((N : Nat) : Int) != ((N : Nat) : Int)) = false := bne_f rfl
            have KWH9 := Lib.hid (KR9.out.kp HIT.out HKO9.out hI.k hI.bl)
            have c15 := (X159.out.kp hI.k (by simpa using HW169.out.2)).cell (j := 0) (v := .int .i64 1) rfl
            have c16 := hI.x.cell (j := 0) (v := .int .i64 ((N : Nat) : Int)) rfl
            have c7 := KWH9.out.x7.cell (j := 0) (v := .int .i64 (nx : Int)) rfl
            have c9 := KWH9.out.x9.cell (j := 0) (v := .slice Aw N cw) rfl
            have HKI9 := Lib.hid hI.k
            have HKD9 := Lib.hid hK
            have HD2D : Hid (W.heap[D]? = some (.deferred (some []))) := Lib.hid (hI.d D rfl)
            have HBLW := Lib.hid hI.bl
            have hsk := HSR9.out
            have hwk := HW169.out.1
            have hw7 := HKO9.out.h7
            have hdv := heap_lt' HDW.out
            have hlo := HDlo.out
            have hx9 := HX9LT.out
            have hz9 := HZ9.out
            have hs1 : w.heap.size + 1 < D2 := by omega
            have hs2 : w.heap.size + 1 < D := by omega
            have hs3 : D < D2 := by omega
            clear hI hK hC hsk hwk hw7 hdv hlo hx9 hz9
            dsimp only
            go_wp2_with fail
            rw [rounds_succ]
            go_wp2_with fail
            refine (works_any _).mono ?_
            rintro e w20 ⟨rfl, hB20⟩
            have hb20 : Below W.heap.size W w20 := ((Below.refl _ W).alloc (Nat.le_refl _) _).trans (hB20.mono (by simp))
            have z8 := KWH9.out.x8.below hb20
            have c8 := z8.cell (j := 0) (v := .bool false) rfl
            have f8 := z8.frozen 0
            have Z8 := Lib.hid (z8.set 0 (.bool true))
            have d2 : (w20.setCell ⟨w.heap.size + 1, 0, none⟩ (.bool true)).heap[D2]? = some (.deferred (some [])) := (KeepsOthers.setCell w20 _ _).same D2 _ ((hb20.block D2 (heap_lt' HKD9.out)).trans HKD9.out) rfl
            have d1 : (w20.setCell ⟨w.heap.size + 1, 0, none⟩ (.bool true)).heap[D]? = some (.deferred (some [])) := (KeepsOthers.setCell w20 _ _).same D _ ((hb20.block D (heap_lt' HD2D.out)).trans HD2D.out) rfl
            have hbl := (HBLW.out.trans (hb20.mono HBLW.out.size)).setCell (p := ⟨w.heap.size + 1, 0, none⟩) (Nat.le_succ _) (.bool true)
            have hbl2 := hbl.grown (grownBy_putObj' _ D2 (.deferred none)) hbl.size (fun r e => by cases e; omega)
            have hbl3 := hbl2.grown (grownBy_putObj' _ D (.deferred none)) hbl2.size (fun r e => by cases e; omega)
            have HD1 := Lib.hid d1
            have HD2 := Lib.hid d2
            have HBL3 := Lib.hid hbl3
            have hdd : D ≠ D2 := by omega
            have hd8 : w.heap.size + 1 ≠ D2 ∧ w.heap.size + 1 ≠ D := by omega
            clear hb20 z8 hB20 d1 d2 hbl hbl2 hbl3
            go_wp2
            have b6 := ((Z8.out.grown (grownBy_putObj' _ D2 (.deferred none)) (by simpa using hd8.1)).grown (grownBy_putObj' _ D (.deferred none)) (by simpa using hd8.2))
            have l1 := load_bool b6
            refine ⟨by simp, .inl ⟨_, _, rfl, run_takeDeferred HD2.out, by simp, .inl ⟨_, _, rfl, run_takeDeferred ((World.putObj_heap_other (by omega)).trans HD1.out), ?_⟩⟩⟩
            refine ⟨.bool true, ?_, rfl, HBL3.out⟩
            rw [results_c rfl]
            simp [asAddr, l1, Sem.run_pure]
          case stop9 =>
            rintro D2 c pre W hD ⟨k, hk, hpk⟩ hx hK
            rcases hx with hx | ⟨rfl, hC, hI⟩
            · exact absurd hpk (hx k)
            · exact hC.elim
end Go.Proofs.Ytcbbkflnenkpgaa
