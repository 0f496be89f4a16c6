/-
  Bundle of the texts Sh Si. Conditions: none.
-/
import Derived.Test.YtpdalbckmfadbaaGreatBuhbc
import Derived.Test.YtpdalbckmfadbaaGreatBuhbd
import Derived.Test.YtpdalbckmfadbaaGreatBuhbe
namespace Go.Proofs.YtpdalbckmfadbaaGreat
open Go.RowKit Go.Shelf
set_option linter.unusedVariables false
attribute [local go_sem] Oper.semAt_some
set_option maxRecDepth 100000 in
set_option maxHeartbeats 8000000 in
theorem hlaw_big (S : Option Addr) (n cs : Nat) (vs : List Int) (kind most a3 : Int) (w : World) (hx : Rd .i64 w S n cs vs) (hv3 : -9223372036854775808 ≤ a3 ∧ a3 ≤ 9223372036854775807) (hn : n ≤ 600) (hg : 8 < most) (hg2 : 64 < most) (hE : ¬ wrE vs kind most = 0) :
    Calls Tryz.prog 5 #[.slice S n cs, .int .i64 kind, .int .i64 most, .int .i64 a3] w fun e w' => e = .returned (.bool true) ∧ Below w.heap.size w w' := by
  have HV3 := Lib.hid hv3
  clear hv3
  have hl := Rd.len hx
  have HNA : Hid (nHA vs kind most = 0) := Lib.hid (by unfold nHA; rw [if_neg hE])
  obtain ⟨k, hkk⟩ : ∃ k, k = kOf vs := ⟨_, rfl⟩
  have HKO0 : Hid (kOf vs = k) := Lib.hid hkk.symm
  have HX := Lib.hid hx
  obtain ⟨EV, hEV⟩ : ∃ E, E = wrE vs kind most := ⟨_, rfl⟩
  have HEV := Lib.hid hEV
  have hne : (EV == 0) = false := beq_f (by rw [hEV]; exact hE)
  have HM64 : Hid (0 ≤ 64) := Lib.hid (by omega)
  clear hE hx hkk hl hEV
  refine (callsIn_wide (n := 3)).1 ?_
  refine callsIn_of_wp_marks Tryz.func5 rfl trivial ?_
  simp only [Tryz.ntmps5, List.size_toArray, List.length_cons, List.length_nil, Nat.reduceAdd, Nat.reduceSub, Array.replicate_succ, Array.replicate_zero, List.push_toArray, List.append_toArray, List.nil_append, List.cons_append]
  refine wpIn_wide.2 ?_
  obtain ⟨W0, hW0⟩ : ∃ W0, W0 = (w.alloc (.cells #[.int .i64 a3] 3)).alloc (.cells #[.bool false] 4) := ⟨_, rfl⟩
  have x7 : Blk W0 w.heap.size 3 [.int .i64 a3] := by rw [hW0]; exact (Blk.new w [.int .i64 a3] 3 rfl).alloc _
  have x8 : Blk W0 (w.heap.size + 1) 4 [.bool false] := by rw [hW0]; exact Blk.new (w.alloc _) [.bool false] 4 (by simp)
  have hb0 : Below w.heap.size w W0 := by rw [hW0]; exact ((Below.refl _ w).alloc (Nat.le_refl _) _).alloc (by simp) _
  have X7 := Lib.hid x7
  have X8 := Lib.hid x8
  have HX8LT : Hid (w.heap.size + 1 < W0.heap.size) := Lib.hid x8.lt
  have HB0 := Lib.hid hb0
  have HW0 := Lib.hid hW0
  have HZ0 : Hid (W0.heap.size = w.heap.size + 1 + 1) := Lib.hid (by rw [hW0]; simp)
  clear x7 x8 hb0 hW0
  go_wp2_with fail
  rw [← HW0.out]
  obtain ⟨W1, hW1⟩ : ∃ W1, W1 = W0.alloc (.cells #[.slice none 0 0] 49) := ⟨_, rfl⟩
  have hq : Below W0.heap.size W0 W1 := by rw [hW1]; exact (Below.refl _ W0).alloc (Nat.le_refl _) _
  have x9 : Blk W1 W0.heap.size 49 [.slice none 0 0] := by rw [hW1]; exact Blk.new W0 [.slice none 0 0] 49 rfl
  have X7 := Lib.hid (X7.out.below hq)
  have X8 := Lib.hid (X8.out.below hq)
  have X9 := Lib.hid x9
  have hlt9 : w.heap.size + 1 < W0.heap.size := HX8LT.out
  have HB1 := Lib.hid (HB0.out.trans (hq.mono HB0.out.size))
  rw [← hW1]
  clear hW1 hq x9 HB0 HW0
  have hz0 := HZ0.out
  generalize hb9 : w.heap.size + 1 + 1 = b9 at *
  subst hz0
  clear hb9 HZ0
  generalize W0.heap.size = b9 at *
  refine (rwrong_any S n cs vs kind _ _ (Rdv.below HX.out HB1.out) (by omega)).mono ?_
  rintro e w2 ⟨rfl, hB2⟩
  have X7 := Lib.hid (X7.out.below hB2)
  have X8 := Lib.hid (X8.out.below hB2)
  have X9 := Lib.hid (X9.out.below hB2)
  have HB2 := Lib.hid (HB1.out.trans (hB2.mono HB1.out.size))
  clear hB2 HB1
  rw [← HEV.out]
  obtain ⟨Aw, hAw⟩ : ∃ A : Option Addr, A = none := ⟨_, rfl⟩
  obtain ⟨cw, hcw⟩ : ∃ c : Nat, c = 0 := ⟨_, rfl⟩
  obtain ⟨L, hL⟩ : ∃ L : List Sv, L = [] := ⟨_, rfl⟩
  obtain ⟨w5, hw5⟩ : ∃ W, W = w2 := ⟨_, rfl⟩
  rw [← hw5] at X7 X8 X9 HB2
  have KF : Hid (KpF w.heap.size (w.heap.size + 1) b9 a3 Aw 0 cw L (fun _ => True) w w5) := Lib.hid ⟨X7.out, X8.out, by rw [hAw, hcw]; exact X9.out, by rw [hAw, hcw, hL]; exact Rd.nilv .i64 _, fun s hs => by rw [hL] at hs; simp at hs, trivial, HB2.out⟩
  have HAW : Hid (∀ a, Aw = some a → b9 ≠ a.block ∧ w.heap.size + 1 < a.block ∧ a.block < w5.heap.size) := Lib.hid (fun a ha => by rw [hAw] at ha; cases ha)
  have HAR : Hid (∀ s ∈ L, ∀ a, s.A = some a → b9 ≠ a.block ∧ w.heap.size + 1 < a.block ∧ a.block < w5.heap.size) := Lib.hid (fun s hs a ha => by rw [hL] at hs; simp at hs)
  have HX9LT := Lib.hid X9.out.lt
  have HWZ := Lib.hid HB2.out.size
  have HX4 := Lib.hid (Rdv.below HX.out HB2.out)
  rw [← hw5]
  clear hAw hcw hL hw5 X7 X8 X9 HB2
  go_wp2_with (
    at_builtin
    try rw [← HW5.out]
    refine list_of rfl fun K hK => wp_appB (w0 := w5) (vs := []) (.tmp 42) (.tmp 43) 34 rfl el22 rfl rfl (bal (Below.refl _ w5) _) ?_ (Rdv.below HX4.out (bal (Below.refl _ w5) _)) (oneCell_ints .i64 _) (by omega) (by unfold maxLen; omega) ?_
    · first | exact Ownv.of_heap (cs := #[]) (heap_new' rfl) (Nat.le_refl _) (by show 0 ≤ maxLen; omega) | exact Ownv.of_heap (cs := #[]) (heap_new' HZ35.out) (Nat.le_of_eq HZ35.out.symm) (by show 0 ≤ maxLen; omega)
    intro A1 c1 w6 h1 h2 _
    rw [Nat.zero_add] at h1 ⊢
    refine hK _ _ ?_
    clear hK K
    have HO6 : Hid (Own .i64 3 w6 w5.heap.size A1 n c1 vs) := Lib.hid (by simpa [Own] using h1)
    have HB6 := Lib.hid h2
    clear h1 h2)
  have HZ6 := Lib.hid HB6.out.size
  have KF := Lib.hid (KF.out.belowT HB6.out)
  refine (halves_all A1 n c1 vs kind _ w6 (Own.rd HO6.out) (by omega)).mono ?_
  rintro e w9 ⟨lb, Ok, Fw, rfl, hIt, hFw, hfr, hB9⟩
  have HO9 := Lib.hid (Ownv.below HO6.out hB9)
  have HOL : Hid (∀ q, q < w6.heap.size → Ok q) := Lib.hid hIt.low
  rw [HNA.out, HKO0.out] at hIt
  have HIT := Lib.hid hIt
  have HFR := Lib.hid hfr
  have KF := Lib.hid ((KF.out.belowT hB9).to hFw)
  have HZ9 := Lib.hid (Nat.le_trans HZ6.out hB9.size)
  have hfn := fun W => run_eql_func_nil (P := Tryz.prog) W Tryz.underlying54 (.func 59) #[] lb
  have HKO1 : Hid (0 < n → KpO w.heap.size (w.heap.size + 1) b9 Aw L Ok (blk A1)) := Lib.hid (fun h0 => by
    have hA : A1 ≠ none := own_some3 HO6.out h0
    have h1 := Ownv.blk_of HO6.out hA
    have hx9 := HX9LT.out
    exact ⟨by omega, by omega, by omega, fun a ha => by have := HAW.out a ha; omega, fun s hs a ha => by have := HAR.out s hs a ha; omega, HOL.out _ h1.2⟩)
  clear hIt hFw hfr hB9 HO6 HB6
  go_wp2_with fail
  go_loopw [12] (fun i wr => OwI vs w.heap.size (w.heap.size + 1) b9 a3 Aw 0 cw L Fw w w5.heap.size w9.heap.size A1 n c1 i wr) (fun i _ => n - (intOf i).toNat)
  case atStart => exact ⟨0, vs, Nat.zero_le _, rfl, HO9.out, KF.out, Nat.le_refl _⟩
  case round =>
    obtain ⟨j, cur, hj, rfl, hO, hK, hZ⟩ := hrel
    by_cases hlt : j < n
    · have hc := Rd.cell (Own.rd hO) hlt
      have hf := Ownv.frozen hO (by have := (Own.rd hO).le; omega) j
      have hix := fun W => Rdv.ix (Own.rd hO) el22 hlt .i64 W
      have HS := Lib.hid (Own.set_ hO hlt 1)
      have HK2 := Lib.hid (hK.kp HIT.out (HKO1.out (by omega)) (KpB.set (Own.set_ hO hlt 1).2 (by simp)) (hK.bl.grown (Own.set_ hO hlt 1).2 hK.bl.size (fun k hk => by cases hk; have h1 := (Ownv.blk_ge hO (by have := (Own.rd hO).le; omega)).1; have := HWZ.out; omega)))
      have HZr := Lib.hid hZ
      clear hO hK hZ
      go_wp2
      go_roundw
      case rel => exact ⟨j + 1, _, by omega, by go_num, HS.out.1, HK2.out, Nat.le_trans HZr.out HS.out.2.size⟩
      case measure => simp [intOf]; omega
    · have HK2 := Lib.hid hK
      have HZr := Lib.hid hZ
      clear hO hK hZ
      go_wp2_with fail
      have hx9 := HX9LT.out
      have hwz := HWZ.out
      have hz9 := HZ9.out
      have hzr := HZr.out
      obtain ⟨Wt, hWt⟩ : ∃ Wt, Wt = wr.alloc (.cells #[.int .i64 0] 3) := ⟨_, rfl⟩
      have x15 : Blk Wt wr.heap.size 3 [.int .i64 0] := by rw [hWt]; exact Blk.new wr [.int .i64 0] 3 rfl
      have kt : KpF w.heap.size (w.heap.size + 1) b9 a3 Aw 0 cw L Fw w Wt := by rw [hWt]; exact HK2.out.below HIT.out ((Below.refl _ wr).alloc (Nat.le_refl _) _)
      have hst : Wt.heap.size = wr.heap.size + 1 := by rw [hWt]; simp
      rw [← hWt]
      clear HK2 hWt HZr HKO1 HO9
      have h15 : w9.heap.size ≤ wr.heap.size := hzr
      generalize wr.heap.size = b15 at *
      refine wp_loop_rounds 3 ?_
      rw [rounds_succ]
      have c15 := x15.cell (j := 0) (v := .int .i64 0) rfl
      go_wp2_with fail
      obtain ⟨Wr, hWr⟩ : ∃ Wr, Wr = Wt.alloc (.cells #[.int .i64 0] 3) := ⟨_, rfl⟩
      have hbW : Below Wt.heap.size Wt Wr := by rw [hWr]; exact (Below.refl _ Wt).alloc (Nat.le_refl _) _
      have x16 : Blk Wr (b15 + 1) 3 [.int .i64 ((0 : Nat) : Int)] := by rw [hWr]; exact Blk.new Wt [.int .i64 0] 3 hst.symm
      have X15 := Lib.hid (x15.below hbW)
      have KR := Lib.hid (kt.below HIT.out hbW)
      have hsr : Wr.heap.size = Wt.heap.size + 1 := by rw [hWr]; simp
      rw [← hWr]
      clear hWr hbW x15 kt c15
      have hsr : Wr.heap.size = b15 + 1 + 1 := by rw [hsr, hst]
      clear hst
      generalize hb16 : b15 + 1 = b16 at *
      have h16 : b15 < b16 := by omega
      clear hb16
      have HKO : Hid (KpO w.heap.size (w.heap.size + 1) b9 Aw L Ok b16) := Lib.hid ⟨by omega, by omega, by omega, fun a ha => by have := HAW.out a ha; omega, fun s hs a ha => by have := HAR.out s hs a ha; omega, HFR.out _ (by omega)⟩
      have HW16 : Hid (w.heap.size ≤ b16 ∧ b15 ≠ b16) := Lib.hid ⟨by omega, by omega⟩
      have HSR : Hid (Wr.heap.size = b16 + 1) := Lib.hid (by omega)
      have HX16 := Lib.hid x16
      have HDD : Hid (∀ X, none = some X → X < Wr.heap.size) := Lib.hid (fun D e => by cases e)
      refine (wpIn_wide (n := 3)).1 ?_
      refine' rangeG (w0 := Wr) (gf := 59) (lb := lb) rfl (enters_of Tryz.func59 (by kernel_rfl) rfl) (HIT.out.seq b16 _ Wr HKO.out.ok HX16.out KR.out.fw) (fun B pre x W l o o' hk h1 h2 => hk.put o' h1 h2) KpQ.trans (fun x W l o o' hl h1 h2 => KpQ.put o' h1 h2) (Below.refl _ _) (fun _ => rfl)
        (Lp0 w Wr b16 none (fun n => n = 0 ∨ (n : Int) < a3)) (Lpx w Wr b16 none (fun n => 1 ≤ n ∧ a3 ≤ (n : Int) ∧ (n = 1 ∨ (n : Int) - 1 < a3) ∧ n ≤ 0) 4) (Lp0.cl (by omega) (by omega) (fun D e => by cases e)) (fun c => Lpx.cl (by omega) (by omega) (fun D e => by cases e) c) ⟨.inl rfl, ⟨x16, KpB.refl _ _, KR.out.bl, fun D e => by cases e⟩⟩ _ ?assign ?body ?done ?stop
      case assign =>
        intro l x W K hK
        unfold encH
        gi_wp2
        exact hK
      case body =>
        rintro l pre ⟨x1, R, c⟩ W ⟨hC, hI⟩ ⟨hpl, hx1, hO⟩
        exact absurd hpl (Nat.not_lt_zero _)
      case done =>
        rintro D ys W hD hys ⟨hC, hI⟩ hK
        rw [hys] at hC hI
        clear hys
        have KWH := Lib.hid (KR.out.kp HIT.out HKO.out hI.k hI.bl)
        have c15 := (X15.out.kp hI.k (by simpa using HW16.out.2)).cell (j := 0) (v := .int .i64 0) rfl
        have c16 := hI.x.cell (j := 0) (v := .int .i64 ((0 : Nat) : Int)) rfl
        have c7 := KWH.out.x7.cell (j := 0) (v := .int .i64 a3) rfl
        have c9 := KWH.out.x9.cell (j := 0) (v := .slice Aw 0 cw) rfl
        have HKI := Lib.hid hI.k
        have HKD := Lib.hid hK
        clear hI hK
        by_cases hm : a3 ≤ 1
        · dsimp only
          go_wp2_with fail
          obtain ⟨Wu, hWu⟩ : ∃ Wu, Wu = W.alloc (.cells #[.int .i64 1] 3) := ⟨_, rfl⟩
          have x15 : Blk Wu W.heap.size 3 [.int .i64 1] := by rw [hWu]; exact Blk.new W [.int .i64 1] 3 rfl
          have kt : KpF w.heap.size (w.heap.size + 1) b9 a3 Aw 0 cw L Fw w Wu := by rw [hWu]; exact KWH.out.below HIT.out ((Below.refl _ W).alloc (Nat.le_refl _) _)
          have HDt : Hid (Wu.heap[D]? = some (.deferred (some []))) := Lib.hid (by rw [hWu]; exact heap_old' HKD.out)
          have hst : Wu.heap.size = W.heap.size + 1 := by rw [hWu]; simp
          have hwsz := HKI.out.1
          have hsr0 := HSR.out
          have h15 : w9.heap.size ≤ W.heap.size := by omega
          have HDlo : Hid (w9.heap.size ≤ D) := Lib.hid (by omega)
          rw [← hWu]
          clear hWu c15 c16 c7 c9 hD
          try clear hn0
          try clear hm
          try clear hl
          try clear h0
          generalize W.heap.size = b17 at *
          rw [rounds_succ]
          have c15 := x15.cell (j := 0) (v := .int .i64 1) rfl
          go_wp2_with fail
          obtain ⟨Wv, hWr⟩ : ∃ Wv, Wv = Wu.alloc (.cells #[.int .i64 0] 3) := ⟨_, rfl⟩
          have hbW : Below Wu.heap.size Wu Wv := by rw [hWr]; exact (Below.refl _ Wu).alloc (Nat.le_refl _) _
          have x16 : Blk Wv (b17 + 1) 3 [.int .i64 ((0 : Nat) : Int)] := by rw [hWr]; exact Blk.new Wu [.int .i64 0] 3 hst.symm
          have X152 := Lib.hid (x15.below hbW)
          have KR2 := Lib.hid (kt.below HIT.out hbW)
          have hsr : Wv.heap.size = Wu.heap.size + 1 := by rw [hWr]; simp
          have HDW : Hid (Wv.heap[D]? = some (.deferred (some []))) := Lib.hid ((hbW.block D (heap_lt' HDt.out)).trans HDt.out)
          have hdv := heap_lt' HDW.out
          rw [← hWr]
          clear hWr hbW x15 kt c15
          have hsr : Wv.heap.size = b17 + 1 + 1 := by rw [hsr, hst]
          clear hst
          generalize hb16 : b17 + 1 = b18 at *
          have h16 : b17 < b18 := by omega
          clear hb16
          have HKO2 : Hid (KpO w.heap.size (w.heap.size + 1) b9 Aw L Ok b18) := Lib.hid ⟨by omega, by omega, by omega, fun a ha => by have := HAW.out a ha; omega, fun s hs a ha => by have := HAR.out s hs a ha; omega, HFR.out _ (by omega)⟩
          have HW162 : Hid (w.heap.size ≤ b18 ∧ b17 ≠ b18) := Lib.hid ⟨by omega, by omega⟩
          have HSR2 : Hid (Wv.heap.size = b18 + 1) := Lib.hid (by omega)
          have HX162 := Lib.hid x16
          have HDD2 : Hid (∀ X, (some D) = some X → X < Wv.heap.size) := Lib.hid (fun D e => by cases e; omega)
          refine (wpIn_wide (n := 3)).1 ?_
          refine' rangeG (w0 := Wv) (gf := 59) (lb := lb) rfl (enters_of Tryz.func59 (by kernel_rfl) rfl) (HIT.out.seq b18 _ Wv HKO2.out.ok HX162.out KR2.out.fw) (fun B pre x W l o o' hk h1 h2 => hk.put o' h1 h2) KpQ.trans (fun x W l o o' hl h1 h2 => KpQ.put o' h1 h2) (Below.refl _ _) (fun _ => rfl)
            (Lp0 w Wv b18 (some D) (fun _ => True)) (Lpx w Wv b18 (some D) (fun _ => False) 4) (Lp0.cl (by omega) (by omega) (fun D e => by cases e; omega)) (fun c => Lpx.cl (by omega) (by omega) (fun D e => by cases e; omega) c) ⟨trivial, ⟨x16, KpB.refl _ _, KR2.out.bl, fun D e => by cases e; exact HDW.out⟩⟩ _ ?assign2 ?body2 ?done2 ?stop2
          case assign2 =>
            intro l x W K hK
            unfold encH
            gi_wp2
            exact hK
          case body2 =>
            rintro l pre ⟨x1, R, c⟩ W ⟨hC, hI⟩ ⟨hpl, hx1, hO⟩
            exact absurd hpl (Nat.not_lt_zero _)
          case done2 =>
            rintro D2 ys W hD hys ⟨hC, hI⟩ hK
            rw [hys] at hI
            clear hys
            have hnn : (((0 : Nat) : Int) != ((0 : Nat) : Int)) = false := bne_f rfl
            have KWH2 := Lib.hid (KR2.out.kp HIT.out HKO2.out hI.k hI.bl)
            have c15 := (X152.out.kp hI.k (by simpa using HW162.out.2)).cell (j := 0) (v := .int .i64 1) rfl
            have c16 := hI.x.cell (j := 0) (v := .int .i64 ((0 : Nat) : Int)) rfl
            have c7 := KWH2.out.x7.cell (j := 0) (v := .int .i64 a3) rfl
            have c9 := KWH2.out.x9.cell (j := 0) (v := .slice Aw 0 cw) rfl
            have HKI2 := Lib.hid hI.k
            have HKD2 := Lib.hid hK
            have HD2D : Hid (W.heap[D]? = some (.deferred (some []))) := Lib.hid (hI.d D rfl)
            have HBLW := Lib.hid hI.bl
            have hsk := HSR2.out
            have hwk := HW162.out.1
            have hw7 := HKO2.out.h7
            have hdv := heap_lt' HDW.out
            have hlo := HDlo.out
            have hx9 := HX9LT.out
            have hz9 := HZ9.out
            have hs1 : w.heap.size + 1 < D2 := by omega
            have hs2 : w.heap.size + 1 < D := by omega
            have hs3 : D < D2 := by omega
            clear hI hK hC hsk hwk hw7 hdv hlo hx9 hz9
            dsimp only
            go_wp2_with fail
            rw [rounds_succ]
            go_wp2_with fail
            refine (works_any _).mono ?_
            rintro e w20 ⟨rfl, hB20⟩
            have hb20 : Below W.heap.size W w20 := ((Below.refl _ W).alloc (Nat.le_refl _) _).trans (hB20.mono (by simp))
            have z8 := KWH2.out.x8.below hb20
            have c8 := z8.cell (j := 0) (v := .bool false) rfl
            have f8 := z8.frozen 0
            have Z8 := Lib.hid (z8.set 0 (.bool true))
            have d2 : (w20.setCell ⟨w.heap.size + 1, 0, none⟩ (.bool true)).heap[D2]? = some (.deferred (some [])) := (KeepsOthers.setCell w20 _ _).same D2 _ ((hb20.block D2 (heap_lt' HKD2.out)).trans HKD2.out) rfl
            have d1 : (w20.setCell ⟨w.heap.size + 1, 0, none⟩ (.bool true)).heap[D]? = some (.deferred (some [])) := (KeepsOthers.setCell w20 _ _).same D _ ((hb20.block D (heap_lt' HD2D.out)).trans HD2D.out) rfl
            have hbl := (HBLW.out.trans (hb20.mono HBLW.out.size)).setCell (p := ⟨w.heap.size + 1, 0, none⟩) (Nat.le_succ _) (.bool true)
            have hbl2 := hbl.grown (grownBy_putObj' _ D2 (.deferred none)) hbl.size (fun r e => by cases e; omega)
            have hbl3 := hbl2.grown (grownBy_putObj' _ D (.deferred none)) hbl2.size (fun r e => by cases e; omega)
            have HD1 := Lib.hid d1
            have HD2 := Lib.hid d2
            have HBL3 := Lib.hid hbl3
            have hdd : D ≠ D2 := by omega
            have hd8 : w.heap.size + 1 ≠ D2 ∧ w.heap.size + 1 ≠ D := by omega
            clear hb20 z8 hB20 d1 d2 hbl hbl2 hbl3
            go_wp2
            have b6 := ((Z8.out.grown (grownBy_putObj' _ D2 (.deferred none)) (by simpa using hd8.1)).grown (grownBy_putObj' _ D (.deferred none)) (by simpa using hd8.2))
            have l1 := load_bool b6
            refine ⟨by simp, .inl ⟨_, _, rfl, run_takeDeferred HD2.out, by simp, .inl ⟨_, _, rfl, run_takeDeferred ((World.putObj_heap_other (by omega)).trans HD1.out), ?_⟩⟩⟩
            refine ⟨.bool true, ?_, rfl, HBL3.out⟩
            rw [results_c rfl]
            simp [asAddr, l1, Sem.run_pure]
          case stop2 =>
            rintro D2 c pre W hD hpk ⟨rfl, hC, hI⟩ hK
            exact hC.elim
        · dsimp only
          go_wp2_with fail
          obtain ⟨Wu, hWu⟩ : ∃ Wu, Wu = W.alloc (.cells #[.int .i64 1] 3) := ⟨_, rfl⟩
          have x15 : Blk Wu W.heap.size 3 [.int .i64 1] := by rw [hWu]; exact Blk.new W [.int .i64 1] 3 rfl
          have kt : KpF w.heap.size (w.heap.size + 1) b9 a3 Aw 0 cw L Fw w Wu := by rw [hWu]; exact KWH.out.below HIT.out ((Below.refl _ W).alloc (Nat.le_refl _) _)
          have HDt : Hid (Wu.heap[D]? = some (.deferred (some []))) := Lib.hid (by rw [hWu]; exact heap_old' HKD.out)
          have hst : Wu.heap.size = W.heap.size + 1 := by rw [hWu]; simp
          have hwsz := HKI.out.1
          have hsr0 := HSR.out
          have h15 : w9.heap.size ≤ W.heap.size := by omega
          have HDlo : Hid (w9.heap.size ≤ D) := Lib.hid (by omega)
          rw [← hWu]
          clear hWu c15 c16 c7 c9 hD
          try clear hn0
          try clear hm
          try clear hl
          try clear h0
          generalize W.heap.size = b17 at *
          rw [rounds_succ]
          have c15 := x15.cell (j := 0) (v := .int .i64 1) rfl
          go_wp2_with fail
          obtain ⟨Wv, hWr⟩ : ∃ Wv, Wv = Wu.alloc (.cells #[.int .i64 0] 3) := ⟨_, rfl⟩
          have hbW : Below Wu.heap.size Wu Wv := by rw [hWr]; exact (Below.refl _ Wu).alloc (Nat.le_refl _) _
          have x16 : Blk Wv (b17 + 1) 3 [.int .i64 ((0 : Nat) : Int)] := by rw [hWr]; exact Blk.new Wu [.int .i64 0] 3 hst.symm
          have X153 := Lib.hid (x15.below hbW)
          have KR3 := Lib.hid (kt.below HIT.out hbW)
          have hsr : Wv.heap.size = Wu.heap.size + 1 := by rw [hWr]; simp
          have HDW : Hid (Wv.heap[D]? = some (.deferred (some []))) := Lib.hid ((hbW.block D (heap_lt' HDt.out)).trans HDt.out)
          have hdv := heap_lt' HDW.out
          rw [← hWr]
          clear hWr hbW x15 kt c15
          have hsr : Wv.heap.size = b17 + 1 + 1 := by rw [hsr, hst]
          clear hst
          generalize hb16 : b17 + 1 = b18 at *
          have h16 : b17 < b18 := by omega
          clear hb16
          have HKO3 : Hid (KpO w.heap.size (w.heap.size + 1) b9 Aw L Ok b18) := Lib.hid ⟨by omega, by omega, by omega, fun a ha => by have := HAW.out a ha; omega, fun s hs a ha => by have := HAR.out s hs a ha; omega, HFR.out _ (by omega)⟩
          have HW163 : Hid (w.heap.size ≤ b18 ∧ b17 ≠ b18) := Lib.hid ⟨by omega, by omega⟩
          have HSR3 : Hid (Wv.heap.size = b18 + 1) := Lib.hid (by omega)
          have HX163 := Lib.hid x16
          have HDD3 : Hid (∀ X, (some D) = some X → X < Wv.heap.size) := Lib.hid (fun D e => by cases e; omega)
          refine (wpIn_wide (n := 3)).1 ?_
          refine' rangeG (w0 := Wv) (gf := 59) (lb := lb) rfl (enters_of Tryz.func59 (by kernel_rfl) rfl) (HIT.out.seq b18 _ Wv HKO3.out.ok HX163.out KR3.out.fw) (fun B pre x W l o o' hk h1 h2 => hk.put o' h1 h2) KpQ.trans (fun x W l o o' hl h1 h2 => KpQ.put o' h1 h2) (Below.refl _ _) (fun _ => rfl)
            (Lp0 w Wv b18 (some D) (fun _ => True)) (Lpx w Wv b18 (some D) (fun _ => False) 4) (Lp0.cl (by omega) (by omega) (fun D e => by cases e; omega)) (fun c => Lpx.cl (by omega) (by omega) (fun D e => by cases e; omega) c) ⟨trivial, ⟨x16, KpB.refl _ _, KR3.out.bl, fun D e => by cases e; exact HDW.out⟩⟩ _ ?assign3 ?body3 ?done3 ?stop3
          case assign3 =>
            intro l x W K hK
            unfold encH
            gi_wp2
            exact hK
          case body3 =>
            rintro l pre ⟨x1, R, c⟩ W ⟨hC, hI⟩ ⟨hpl, hx1, hO⟩
            exact absurd hpl (Nat.not_lt_zero _)
          case done3 =>
            rintro D2 ys W hD hys ⟨hC, hI⟩ hK
            rw [hys] at hI
            clear hys
            have hnn : (((0 : Nat) : Int) != ((0 : Nat) : Int)) = false := bne_f rfl
            have KWH3 := Lib.hid (KR3.out.kp HIT.out HKO3.out hI.k hI.bl)
            have c15 := (X153.out.kp hI.k (by simpa using HW163.out.2)).cell (j := 0) (v := .int .i64 1) rfl
            have c16 := hI.x.cell (j := 0) (v := .int .i64 ((0 : Nat) : Int)) rfl
            have c7 := KWH3.out.x7.cell (j := 0) (v := .int .i64 a3) rfl
            have c9 := KWH3.out.x9.cell (j := 0) (v := .slice Aw 0 cw) rfl
            have HKI3 := Lib.hid hI.k
            have HKD3 := Lib.hid hK
            have HD2D : Hid (W.heap[D]? = some (.deferred (some []))) := Lib.hid (hI.d D rfl)
            have HBLW := Lib.hid hI.bl
            have hsk := HSR3.out
            have hwk := HW163.out.1
            have hw7 := HKO3.out.h7
            have hdv := heap_lt' HDW.out
            have hlo := HDlo.out
            have hx9 := HX9LT.out
            have hz9 := HZ9.out
            have hs1 : w.heap.size + 1 < D2 := by omega
            have hs2 : w.heap.size + 1 < D := by omega
            have hs3 : D < D2 := by omega
            clear hI hK hC hsk hwk hw7 hdv hlo hx9 hz9
            dsimp only
            go_wp2_with fail
            rw [rounds_succ]
            go_wp2_with fail
            refine (works_any _).mono ?_
            rintro e w20 ⟨rfl, hB20⟩
            have hb20 : Below W.heap.size W w20 := ((Below.refl _ W).alloc (Nat.le_refl _) _).trans (hB20.mono (by simp))
            have z8 := KWH3.out.x8.below hb20
            have c8 := z8.cell (j := 0) (v := .bool false) rfl
            have f8 := z8.frozen 0
            have Z8 := Lib.hid (z8.set 0 (.bool true))
            have d2 : (w20.setCell ⟨w.heap.size + 1, 0, none⟩ (.bool true)).heap[D2]? = some (.deferred (some [])) := (KeepsOthers.setCell w20 _ _).same D2 _ ((hb20.block D2 (heap_lt' HKD3.out)).trans HKD3.out) rfl
            have d1 : (w20.setCell ⟨w.heap.size + 1, 0, none⟩ (.bool true)).heap[D]? = some (.deferred (some [])) := (KeepsOthers.setCell w20 _ _).same D _ ((hb20.block D (heap_lt' HD2D.out)).trans HD2D.out) rfl
            have hbl := (HBLW.out.trans (hb20.mono HBLW.out.size)).setCell (p := ⟨w.heap.size + 1, 0, none⟩) (Nat.le_succ _) (.bool true)
            have hbl2 := hbl.grown (grownBy_putObj' _ D2 (.deferred none)) hbl.size (fun r e => by cases e; omega)
            have hbl3 := hbl2.grown (grownBy_putObj' _ D (.deferred none)) hbl2.size (fun r e => by cases e; omega)
            have HD1 := Lib.hid d1
            have HD2 := Lib.hid d2
            have HBL3 := Lib.hid hbl3
            have hdd : D ≠ D2 := by omega
            have hd8 : w.heap.size + 1 ≠ D2 ∧ w.heap.size + 1 ≠ D := by omega
            clear hb20 z8 hB20 d1 d2 hbl hbl2 hbl3
            go_wp2
            have b6 := ((Z8.out.grown (grownBy_putObj' _ D2 (.deferred none)) (by simpa using hd8.1)).grown (grownBy_putObj' _ D (.deferred none)) (by simpa using hd8.2))
            have l1 := load_bool b6
            refine ⟨by simp, .inl ⟨_, _, rfl, run_takeDeferred HD2.out, by simp, .inl ⟨_, _, rfl, run_takeDeferred ((World.putObj_heap_other (by omega)).trans HD1.out), ?_⟩⟩⟩
            refine ⟨.bool true, ?_, rfl, HBL3.out⟩
            rw [results_c rfl]
            simp [asAddr, l1, Sem.run_pure]
          case stop3 =>
            rintro D2 c pre W hD hpk ⟨rfl, hC, hI⟩ hK
            exact hC.elim
      case stop =>
        rintro D c pre W hD hpk ⟨rfl, hC, hI⟩ hK
        exact absurd hC.1 (by have h9 := hC.2.2.2; omega)
end Go.Proofs.YtpdalbckmfadbaaGreat

namespace Go.Proofs.YtpdalbckmfadbaaGreat
open Go.RowKit Go.Shelf
set_option linter.unusedVariables false
attribute [local go_sem] Oper.semAt_some
set_option maxRecDepth 100000 in
set_option maxHeartbeats 1000000 in
theorem hlaw_out (S : Option Addr) (n cs : Nat) (kind most a3 : Int) (w : World) (h : 600 < n ∨ (¬ 600 < n ∧ 8 < most ∧ most ≤ 64)) :
    Calls Tryz.prog 5 #[.slice S n cs, .int .i64 kind, .int .i64 most, .int .i64 a3] w fun e w' => e = .returned (.bool true) ∧ Below w.heap.size w w' := by
  have hx8 : Blk ((w.alloc (.cells #[.int .i64 a3] 3)).alloc (.cells #[.bool false] 4)) (w.heap.size + 1) 4 [.bool false] := Blk.new (w.alloc _) [.bool false] 4 (by simp)
  have HX8 := Lib.hid hx8
  have HBL : Hid (Below w.heap.size w ((w.alloc (.cells #[.int .i64 a3] 3)).alloc (.cells #[.bool false] 4))) := Lib.hid (((Below.refl _ w).alloc (Nat.le_refl _) _).alloc (by simp) _)
  clear hx8
  rcases h with h1 | ⟨h1, h2, h3⟩
  all_goals
    go_enter Tryz.func5, Tryz.ntmps5
    go_wp2_with fail
    refine (works_any _).mono ?_
    rintro e w2 ⟨rfl, hB2⟩
    have z8 := HX8.out.below hB2
    have c8 := z8.cell (j := 0) (v := .bool false) rfl
    have f8 := z8.frozen 0
    have HB2 := Lib.hid (HBL.out.trans (hB2.mono HBL.out.size))
    have Z8 := Lib.hid (z8.set 0 (.bool true))
    clear hB2 z8
    go_wp2
    have l1 := load_bool Z8.out
    refine bodyPost_ret (v := .bool true) ?_ rfl ⟨rfl, HB2.out.setCell (Nat.le_succ _) _⟩
    rw [results_c rfl]
    simp [asAddr, l1, Sem.run_pure]
theorem ihalves_any (S : Option Addr) (n cs : Nat) (vs : List Int) (kind most a3 : Int) (w : World) (hx : Rd .i64 w S n cs vs) (hv3 : -9223372036854775808 ≤ a3 ∧ a3 ≤ 9223372036854775807) :
    Calls Tryz.prog 5 #[.slice S n cs, .int .i64 kind, .int .i64 most, .int .i64 a3] w fun e w' => e = .returned (.bool true) ∧ Below w.heap.size w w' := by

  by_cases h1 : 600 < n
  · exact hlaw_out S n cs kind most a3 w (.inl h1)
  by_cases h2 : 8 < most ∧ most ≤ 64
  · exact hlaw_out S n cs kind most a3 w (.inr ⟨h1, h2⟩)
  by_cases h3 : most ≤ 8
  · by_cases hE : wrE vs kind most = 0
    · exact hlaw_ok S n cs vs kind most a3 w hx hv3 (by omega) h3 hE
    · exact hlaw_bad S n cs vs kind most a3 w hx hv3 (by omega) h3 hE
  · have h4 : 64 < most := by
      rcases Classical.em (64 < most) with h | h
      · exact h
      · exact absurd ⟨by omega, by omega⟩ h2
    exact hlaw_big S n cs vs kind most a3 w hx hv3 (by omega) (by omega) h4 (fun h => by have := (wrE_zero h).2.2.2.1.2; omega)
end Go.Proofs.YtpdalbckmfadbaaGreat

