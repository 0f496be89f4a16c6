/-
  The walk of the law on the iteration over partial metrics, values that are refused. Condition: lists that lie in memory.
-/
import Derived.Test.YtmdjclfmhndjnaaDp
namespace Go.Proofs.Ytmdjclfmhndjnaa
open Go.RowKit Go.Shelf
set_option linter.unusedVariables false
attribute [local go_sem] Oper.semAt_some
set_option maxRecDepth 100000 in
set_option maxHeartbeats 8000000 in
theorem fwd_law_bad (a0 : Option Addr) (len0 cap0 : Nat) (xs : List Int) (a1 : Option Addr) (len1 cap1 : Nat) (ys : List Int) (a2 : Option Addr) (len2 cap2 : Nat) (zs : List Int) (a3 : Int) (w : World) (hx0 : Rd .i64 w a0 len0 cap0 xs) (hx1 : Rd .i64 w a1 len1 cap1 ys) (hx2 : Rd .i64 w a2 len2 cap2 zs) (hv3 : -9223372036854775808 ≤ a3 ∧ a3 ≤ 9223372036854775807) (hf : (len0 : Int) ≤ 100 ∧ (len1 : Int) ≤ 100 ∧ (len2 : Int) ≤ 100) (hok : ¬ (⟨xs, ys, zs⟩ : Ob).ok) :
    Calls Try.prog 6 #[.slice a0 len0 cap0, .slice a1 len1 cap1, .slice a2 len2 cap2, .int .i64 a3] w fun e w' => e = .returned (.bool true) ∧ Below w.heap.size w w' := by
  have b0 := hx0.bd.1
  have b1 := hx1.bd.1
  have b2 := hx2.bd.1
  have HF := Lib.hid (fun W => few_any 100 a0 a1 a2 len0 cap0 len1 cap1 len2 cap2 W b0 b1 b2)
  have HFT := Lib.hid (decide_eq_true hf)
  have e0 := hx0.len
  have e1 := hx1.len
  have e2 := hx2.len
  subst e0
  subst e1
  subst e2
  obtain ⟨l0, l1, l2⟩ := hf
  have HI := Lib.hid (show In3 w (⟨xs, ys, zs⟩ : Ob) a0 a1 a2 cap0 cap1 cap2 from ⟨hx0, hx1, hx2⟩)
  obtain ⟨o, ho⟩ : ∃ o : Ob, o = ⟨xs, ys, zs⟩ := ⟨_, rfl⟩
  rw [← ho] at HI hok
  have s1 : o.s = xs := by rw [ho]
  have s2 : o.p = ys := by rw [ho]
  have s3 : o.a = zs := by rw [ho]
  subst s1
  subst s2
  subst s3
  have HIL := Lib.hid (show (∀ a, 0 < cap0 → a0 = some a → a.block < w.heap.size) ∧ (∀ a, 0 < cap1 → a1 = some a → a.block < w.heap.size) ∧ (∀ a, 0 < cap2 → a2 = some a → a.block < w.heap.size) from ⟨fun a h => hx0.lt h a, fun a h => hx1.lt h a, fun a h => hx2.lt h a⟩)
  clear ho hx0 hx1 hx2
  have HLL := Lib.hid (show o.s.length ≤ 1000000 ∧ o.p.length ≤ 1000000 ∧ o.a.length ≤ 1000000 from ⟨by omega, by omega, by omega⟩)
  refine (callsIn_wide (n := 3)).1 ?_
  refine callsIn_of_wp_marks Try.func6 rfl trivial ?_
  simp only [Try.ntmps6, List.size_toArray, List.length_cons, List.length_nil, Nat.reduceAdd, Nat.reduceSub, Array.replicate_succ, Array.replicate_zero, List.push_toArray, List.append_toArray, List.nil_append, List.cons_append]
  refine wpIn_wide.2 ?_
  obtain ⟨W0, hW0⟩ : ∃ W0, W0 = (w.alloc (.cells #[.int .i64 a3] 3)).alloc (.cells #[.bool false] 4) := ⟨_, rfl⟩
  have x7 : Blk W0 w.heap.size 3 [.int .i64 a3] := by rw [hW0]; exact (Blk.new w [.int .i64 a3] 3 rfl).alloc _
  have x8 : Blk W0 (w.heap.size + 1) 4 [.bool false] := by rw [hW0]; exact Blk.new (w.alloc _) [.bool false] 4 (by simp)
  have hb0 : Below w.heap.size w W0 := by rw [hW0]; exact ((Below.refl _ w).alloc (Nat.le_refl _) _).alloc (by simp) _
  have X7 := Lib.hid x7
  have X8 := Lib.hid x8
  have HX8LT : Hid (w.heap.size + 1 < W0.heap.size) := Lib.hid x8.lt
  have HB0 := Lib.hid hb0
  have HW0 := Lib.hid hW0
  clear x7 x8 hb0 hW0
  go_wp2_with fail
  rw [← HW0.out]
  refine (HF.out _).mono ?_
  rintro e w' ⟨rfl, rfl⟩
  rw [HFT.out]
  clear HF HFT HW0
  go_wp2_with fail
  obtain ⟨W1, hW1⟩ : ∃ W1, W1 = W0.alloc (.cells #[.slice none 0 0] 22) := ⟨_, rfl⟩
  have hq : Below W0.heap.size W0 W1 := by rw [hW1]; exact (Below.refl _ W0).alloc (Nat.le_refl _) _
  have x9 : Blk W1 W0.heap.size 22 [.slice none 0 0] := by rw [hW1]; exact Blk.new W0 [.slice none 0 0] 22 rfl
  have X7 := Lib.hid (X7.out.below hq)
  have X8 := Lib.hid (X8.out.below hq)
  have X9 := Lib.hid x9
  have hlt9 : w.heap.size + 1 < W0.heap.size := by have := HB0.out.size; have h8 := X8.out.lt; have := HX8LT.out; omega
  have HB1 := Lib.hid (HB0.out.trans (hq.mono HB0.out.size))
  rw [← hW1]
  clear hW1 hq x9 HB0
  generalize W0.heap.size = b9 at *
  refine (wrong_any a0 a1 a2 cap0 cap1 cap2 o _ (HI.out.below HB1.out)).mono ?_
  rintro e w2 ⟨rfl, hB2⟩
  have X7 := Lib.hid (X7.out.below hB2)
  have X8 := Lib.hid (X8.out.below hB2)
  have X9 := Lib.hid (X9.out.below hB2)
  have HI2 := Lib.hid ((HI.out.below HB1.out).below hB2)
  have HB2 := Lib.hid (HB1.out.trans (hB2.mono HB1.out.size))
  clear hB2 HB1 HI
  have HPW : Hid ((psO o).map (·.2) = [] ∧ (psO o).length = 0) := Lib.hid (by unfold psO; rw [if_neg hok]; exact ⟨rfl, rfl⟩)
  have hE := Ob.err_cases hok
  generalize o.err = X at *
  have hne : (X == 0) = false := beq_f (by omega)
  clear hE hok
  obtain ⟨Aw, hAw⟩ : ∃ A : Option Addr, A = none := ⟨_, rfl⟩
  obtain ⟨cw, hcw⟩ : ∃ c : Nat, c = 0 := ⟨_, rfl⟩
  obtain ⟨WL, hWL⟩ : ∃ WL : List Int, WL = [] := ⟨_, rfl⟩
  obtain ⟨w5, hw5⟩ : ∃ W, W = w2 := ⟨_, rfl⟩
  rw [← hWL] at HPW
  rw [← hw5] at X7 X8 X9 HI2 HB2
  have KF : Hid (KpF w.heap.size (w.heap.size + 1) b9 a3 Aw 0 cw WL (fun _ => True) w w5) := Lib.hid ⟨X7.out, X8.out, by rw [hAw, hcw]; exact X9.out, by rw [hAw, hcw, hWL]; exact Rd.nilv _ _, trivial, HB2.out⟩
  have HAW : Hid (∀ a, Aw = some a → b9 ≠ a.block ∧ w.heap.size + 1 < a.block ∧ a.block < w5.heap.size) := Lib.hid (fun a ha => by rw [hAw] at ha; cases ha)
  have HIS := Lib.hid HI2.out
  have HX9LT := Lib.hid X9.out.lt
  have HWZ := Lib.hid HB2.out.size
  rw [← hw5]
  clear hAw hcw hWL hw5 X7 X8 X9 HI2 HB2
  go_wp2_with fail
  obtain ⟨PS, hPS⟩ : ∃ PS, PS = psO o := ⟨_, rfl⟩
  have HPG : Hid (∀ n (h : n < PS.length), PS[n].1 = (n : Int) ∧ PS[n].2 = gi WL n) := Lib.hid (by rw [hPS, ← HPW.out.1]; exact psO_get o)
  have HPL : Hid (PS.length = 0) := Lib.hid (by rw [hPS]; exact HPW.out.2)
  clear HPW
  refine (own_any a0 _ cap0 o.s w5 HIS.out.s HLL.out.1).mono ?_
  rintro e w6 ⟨A1, c1, rfl, hO6, hB6⟩
  have HO6 := Lib.hid hO6
  have HIS := Lib.hid (HIS.out.below hB6)
  have KF := Lib.hid (KF.out.belowT hB6)
  have HZ6 := Lib.hid hB6.size
  clear hO6 hB6
  go_wp2_with fail
  refine (own_any a1 _ cap1 o.p w6 HIS.out.p HLL.out.2.1).mono ?_
  rintro e w7 ⟨A2, c2, rfl, hO7, hB7⟩
  have HO6 := Lib.hid (Ownv.below HO6.out hB7)
  have HR7 := Lib.hid (Own.rd hO7)
  have HIS := Lib.hid (HIS.out.below hB7)
  have KF := Lib.hid (KF.out.belowT hB7)
  have HZ7 := Lib.hid (Nat.le_trans HZ6.out hB7.size)
  clear hO7 hB7 HZ6
  go_wp2_with fail
  refine (own_any a2 _ cap2 o.a w7 HIS.out.a HLL.out.2.2).mono ?_
  rintro e w8 ⟨A3, c3, rfl, hO8, hB8⟩
  have HO6 := Lib.hid (Ownv.below HO6.out hB8)
  have HR7 := Lib.hid (Rdv.below HR7.out hB8)
  have HR8 := Lib.hid (Own.rd hO8)
  have KF := Lib.hid (KF.out.belowT hB8)
  have HZ8 := Lib.hid (Nat.le_trans HZ7.out hB8.size)
  clear hO8 hB8 HZ7 HIS
  go_wp2_with fail
  refine (fwd_all A1 A2 A3 c1 c2 c3 o w8 ⟨Own.rd (Own.of HO6.out), HR7.out, HR8.out⟩ HLL.out).mono ?_
  rintro e w9 ⟨lb, Ok, Fw, rfl, hIt, hFw, hfr, hold, hB9⟩
  rw [← hPS] at hIt
  have HIT := Lib.hid hIt
  have HFR := Lib.hid hfr
  have HOLD := Lib.hid hold
  have HO8 := Lib.hid (Own.of HO6.out)
  have HO9 := Lib.hid (Own.of (Ownv.below HO6.out hB9))
  have KF := Lib.hid ((KF.out.belowT hB9).to hFw)
  have HZ9 := Lib.hid (Nat.le_trans HZ8.out hB9.size)
  have hfn := fun W => run_eql_func_nil (P := Try.prog) W Try.underlying48 (.func 40) #[] lb
  clear hIt hFw hfr hold hB9 HO6 HR7 HR8 hPS
  have HKO : Hid (0 < o.s.length → KpO w.heap.size (w.heap.size + 1) b9 Aw Ok (blk A1)) := Lib.hid (fun h0 => by
    have hc : 0 < c1 := by have := (Own.rd HO8.out).le; omega
    have h1 := (Ownv.blk_ge HO8.out hc).1
    obtain ⟨cs, hcs⟩ := Own.blk3 HO8.out hc
    have hx9 := HX9LT.out
    exact ⟨by omega, by omega, by omega, fun a ha => by have := HAW.out a ha; omega, HOLD.out _ _ hcs⟩)
  clear HOLD HO8
  go_wp2_with fail
  go_loopw [14] (fun i wr => LtI w.heap.size (w.heap.size + 1) b9 a3 Aw 0 cw WL Fw w w5.heap.size w9.heap.size A1 o.s.length c1 i wr) (fun i _ => o.s.length - (intOf i).toNat)
  case atStart => exact ⟨0, o.s, Nat.zero_le _, rfl, HO9.out, KF.out, Nat.le_refl _⟩
  case round =>
    obtain ⟨j, vs, hj, rfl, hO, hK, hZ⟩ := hrel
    by_cases hlt : j < o.s.length
    · have hc := Rd.cell (Own.rd hO) hlt
      have hf := Ownv.frozen hO (by have := (Own.rd hO).le; omega) j
      have hix := fun W => Rdv.ix (Own.rd hO) el22 hlt .i64 W
      obtain ⟨nv, hnv⟩ : ∃ nv, IntKind.i64.wrap (gi vs j + 1) = nv := ⟨_, rfl⟩
      have hnv2 : wrap64 (gi vs j + 1) = nv := by rw [← IntWalk.i64_left]; exact hnv
      have HS := Lib.hid (Own.set_ hO hlt nv)
      have HK2 := Lib.hid (hK.kp HIT.out (HKO.out (by omega)) (KpB.set (Own.set_ hO hlt nv).2 (by simp)) (hK.bl.grown (Own.set_ hO hlt nv).2 hK.bl.size (fun k hk => by cases hk; have h1 := (Ownv.blk_ge hO (by have := (Own.rd hO).le; omega)).1; have := HWZ.out; omega)))
      have HZr := Lib.hid hZ
      clear hO hK hZ
      go_wp2
      go_roundw
      case rel => exact ⟨j + 1, _, by omega, by go_num, HS.out.1, HK2.out, Nat.le_trans HZr.out HS.out.2.size⟩
      case measure => simp [intOf]; omega
    · have HK2 := Lib.hid hK
      have HZr := Lib.hid hZ
      clear hO hK hZ
      go_wp2_with fail
      have hx9 := HX9LT.out
      have hwz := HWZ.out
      have hz9 := HZ9.out
      have hzr := HZr.out
      obtain ⟨Wt, hWt⟩ : ∃ Wt, Wt = wr.alloc (.cells #[.int .i64 0] 3) := ⟨_, rfl⟩
      have x15 : Blk Wt wr.heap.size 3 [.int .i64 0] := by rw [hWt]; exact Blk.new wr [.int .i64 0] 3 rfl
      have kt : KpF w.heap.size (w.heap.size + 1) b9 a3 Aw 0 cw WL Fw w Wt := by rw [hWt]; exact HK2.out.below HIT.out ((Below.refl _ wr).alloc (Nat.le_refl _) _)
      have hst : Wt.heap.size = wr.heap.size + 1 := by rw [hWt]; simp
      rw [← hWt]
      clear HK2 hWt HZr HKO HO9
      have h15 : w9.heap.size ≤ wr.heap.size := hzr
      generalize wr.heap.size = b15 at *
      refine wp_loop_rounds 3 ?_
      rw [rounds_succ]
      have c15 := x15.cell (j := 0) (v := .int .i64 0) rfl
      go_wp2_with fail
      obtain ⟨Wr, hWr⟩ : ∃ Wr, Wr = Wt.alloc (.cells #[.int .i64 0] 3) := ⟨_, rfl⟩
      have hbW : Below Wt.heap.size Wt Wr := by rw [hWr]; exact (Below.refl _ Wt).alloc (Nat.le_refl _) _
      have x16 : Blk Wr (b15 + 1) 3 [.int .i64 ((0 : Nat) : Int)] := by rw [hWr]; exact Blk.new Wt [.int .i64 0] 3 hst.symm
      have X15 := Lib.hid (x15.below hbW)
      have KR := Lib.hid (kt.below HIT.out hbW)
      have hsr : Wr.heap.size = Wt.heap.size + 1 := by rw [hWr]; simp
      rw [← hWr]
      clear hWr hbW x15 kt c15
      have hsr : Wr.heap.size = b15 + 1 + 1 := by rw [hsr, hst]
      clear hst
      generalize hb16 : b15 + 1 = b16 at *
      have h16 : b15 < b16 := by omega
      clear hb16
      have HKO : Hid (KpO w.heap.size (w.heap.size + 1) b9 Aw Ok b16) := Lib.hid ⟨by omega, by omega, by omega, fun a ha => by have := HAW.out a ha; omega, HFR.out _ (by omega)⟩
      have HW16 : Hid (w.heap.size ≤ b16 ∧ b15 ≠ b16) := Lib.hid ⟨by omega, by omega⟩
      have HSR : Hid (Wr.heap.size = b16 + 1) := Lib.hid (by omega)
      refine (wpIn_wide (n := 3)).1 ?_
      refine' rangeC (w0 := Wr) (gf := 40) (lb := lb) rfl (enters_of Try.func40 (by kernel_rfl) rfl) (HIT.out.seq b16 Wr HKO.out.ok KR.out.fw (by omega)) KpB.trans (fun W l o o' hl h1 h2 => KpB.put o' h1 h2) (Below.refl _ _) (fun _ => rfl)
        (Lp0 PS w Wr b16 none (fun n => n = 0 ∨ (n : Int) < a3)) (Lpx PS w Wr b16 none (fun n => 1 ≤ n ∧ a3 ≤ (n : Int) ∧ (n = 1 ∨ (n : Int) - 1 < a3) ∧ n ≤ 0) 4) (Lp0.cl (by omega) (by omega) (fun D e => by cases e)) (fun c => Lpx.cl (by omega) (by omega) (fun D e => by cases e) c) ⟨rfl, .inl rfl, ⟨x16, KpB.refl _ _, KR.out.bl, fun D e => by cases e⟩⟩ _ ?assign ?body ?done ?stop
      case assign =>
        intro l x W K hK
        unfold encP
        gi_wp2
        exact hK
      case body =>
        rintro l pre ⟨x1, x2⟩ W ⟨hp, hC, hI⟩ hpl
        rw [HPL.out] at hpl
        exact absurd hpl (Nat.not_lt_zero _)
      case done =>
        rintro D ys W hD hys ⟨-, hC, hI⟩ hK
        rw [hys, HPL.out] at hC hI
        clear hys
        have KWH := Lib.hid (KR.out.kp HIT.out HKO.out hI.k hI.bl)
        have c15 := (X15.out.kp hI.k (by simpa using HW16.out.2)).cell (j := 0) (v := .int .i64 0) rfl
        have c16 := hI.x.cell (j := 0) (v := .int .i64 ((0 : Nat) : Int)) rfl
        have c7 := KWH.out.x7.cell (j := 0) (v := .int .i64 a3) rfl
        have c9 := KWH.out.x9.cell (j := 0) (v := .slice Aw 0 cw) rfl
        have HKI := Lib.hid hI.k
        have HKD := Lib.hid hK
        clear hI hK
        by_cases hm : a3 ≤ 1
        · dsimp only
          go_wp2_with fail
          obtain ⟨Wu, hWu⟩ : ∃ Wu, Wu = W.alloc (.cells #[.int .i64 1] 3) := ⟨_, rfl⟩
          have x15 : Blk Wu W.heap.size 3 [.int .i64 1] := by rw [hWu]; exact Blk.new W [.int .i64 1] 3 rfl
          have kt : KpF w.heap.size (w.heap.size + 1) b9 a3 Aw 0 cw WL Fw w Wu := by rw [hWu]; exact KWH.out.below HIT.out ((Below.refl _ W).alloc (Nat.le_refl _) _)
          have HDt : Hid (Wu.heap[D]? = some (.deferred (some []))) := Lib.hid (by rw [hWu]; exact heap_old' HKD.out)
          have hst : Wu.heap.size = W.heap.size + 1 := by rw [hWu]; simp
          have hwsz := HKI.out.1
          have hsr0 := HSR.out
          have h15 : w9.heap.size ≤ W.heap.size := by omega
          have HDlo : Hid (w9.heap.size ≤ D) := Lib.hid (by omega)
          rw [← hWu]
          clear hWu c15 c16 c7 c9 hD
          try clear hn0
          try clear hm
          try clear hl
          try clear h0
          generalize W.heap.size = b17 at *
          rw [rounds_succ]
          have c15 := x15.cell (j := 0) (v := .int .i64 1) rfl
          go_wp2_with fail
          obtain ⟨Wv, hWr⟩ : ∃ Wv, Wv = Wu.alloc (.cells #[.int .i64 0] 3) := ⟨_, rfl⟩
          have hbW : Below Wu.heap.size Wu Wv := by rw [hWr]; exact (Below.refl _ Wu).alloc (Nat.le_refl _) _
          have x16 : Blk Wv (b17 + 1) 3 [.int .i64 ((0 : Nat) : Int)] := by rw [hWr]; exact Blk.new Wu [.int .i64 0] 3 hst.symm
          have X1510 := Lib.hid (x15.below hbW)
          have KR10 := Lib.hid (kt.below HIT.out hbW)
          have hsr : Wv.heap.size = Wu.heap.size + 1 := by rw [hWr]; simp
          have HDW : Hid (Wv.heap[D]? = some (.deferred (some []))) := Lib.hid ((hbW.block D (heap_lt' HDt.out)).trans HDt.out)
          have hdv := heap_lt' HDW.out
          rw [← hWr]
          clear hWr hbW x15 kt c15
          have hsr : Wv.heap.size = b17 + 1 + 1 := by rw [hsr, hst]
          clear hst
          generalize hb16 : b17 + 1 = b18 at *
          have h16 : b17 < b18 := by omega
          clear hb16
          have HKO10 : Hid (KpO w.heap.size (w.heap.size + 1) b9 Aw Ok b18) := Lib.hid ⟨by omega, by omega, by omega, fun a ha => by have := HAW.out a ha; omega, HFR.out _ (by omega)⟩
          have HW1610 : Hid (w.heap.size ≤ b18 ∧ b17 ≠ b18) := Lib.hid ⟨by omega, by omega⟩
          have HSR10 : Hid (Wv.heap.size = b18 + 1) := Lib.hid (by omega)
          refine (wpIn_wide (n := 3)).1 ?_
          refine' rangeC (w0 := Wv) (gf := 40) (lb := lb) rfl (enters_of Try.func40 (by kernel_rfl) rfl) (HIT.out.seq b18 Wv HKO10.out.ok KR10.out.fw (by omega)) KpB.trans (fun W l o o' hl h1 h2 => KpB.put o' h1 h2) (Below.refl _ _) (fun _ => rfl)
            (Lp0 PS w Wv b18 (some D) (fun _ => True)) (Lpx PS w Wv b18 (some D) (fun _ => False) 4) (Lp0.cl (by omega) (by omega) (fun D e => by cases e; omega)) (fun c => Lpx.cl (by omega) (by omega) (fun D e => by cases e; omega) c) ⟨rfl, trivial, ⟨x16, KpB.refl _ _, KR10.out.bl, fun D e => by cases e; exact HDW.out⟩⟩ _ ?assign10 ?body10 ?done10 ?stop10
          case assign10 =>
            intro l x W K hK
            unfold encP
            gi_wp2
            exact hK
          case body10 =>
            rintro l pre ⟨x1, x2⟩ W ⟨hp, hC, hI⟩ hpl
            rw [HPL.out] at hpl
            exact absurd hpl (Nat.not_lt_zero _)
          case done10 =>
            rintro D2 ys W hD hys ⟨-, hC, hI⟩ hK
            rw [hys, HPL.out] at hI
            clear hys
            have hnn : (((0 : Nat) : Int) != ((0 : Nat) : Int)) = false := bne_f rfl
            have KWH10 := Lib.hid (KR10.out.kp HIT.out HKO10.out hI.k hI.bl)
            have c15 := (X1510.out.kp hI.k (by simpa using HW1610.out.2)).cell (j := 0) (v := .int .i64 1) rfl
            have c16 := hI.x.cell (j := 0) (v := .int .i64 ((0 : Nat) : Int)) rfl
            have c7 := KWH10.out.x7.cell (j := 0) (v := .int .i64 a3) rfl
            have c9 := KWH10.out.x9.cell (j := 0) (v := .slice Aw 0 cw) rfl
            have HKI10 := Lib.hid hI.k
            have HKD10 := Lib.hid hK
            have HD2D : Hid (W.heap[D]? = some (.deferred (some []))) := Lib.hid (hI.d D rfl)
            have HBLW := Lib.hid hI.bl
            have hsk := HSR10.out
            have hwk := HW1610.out.1
            have hw7 := HKO10.out.h7
            have hdv := heap_lt' HDW.out
            have hlo := HDlo.out
            have hx9 := HX9LT.out
            have hz9 := HZ9.out
            have hs1 : w.heap.size + 1 < D2 := by omega
            have hs2 : w.heap.size + 1 < D := by omega
            have hs3 : D < D2 := by omega
            clear hI hK hC hsk hwk hw7 hdv hlo hx9 hz9
            dsimp only
            go_wp2_with fail
            rw [rounds_succ]
            go_wp2_with fail
            refine (works_any _).mono ?_
            rintro e w20 ⟨rfl, hB20⟩
            have hb20 : Below W.heap.size W w20 := ((Below.refl _ W).alloc (Nat.le_refl _) _).trans (hB20.mono (by simp))
            have z8 := KWH10.out.x8.below hb20
            have c8 := z8.cell (j := 0) (v := .bool false) rfl
            have f8 := z8.frozen 0
            have Z8 := Lib.hid (z8.set 0 (.bool true))
            have d2 : (w20.setCell ⟨w.heap.size + 1, 0, none⟩ (.bool true)).heap[D2]? = some (.deferred (some [])) := (KeepsOthers.setCell w20 _ _).same D2 _ ((hb20.block D2 (heap_lt' HKD10.out)).trans HKD10.out) rfl
            have d1 : (w20.setCell ⟨w.heap.size + 1, 0, none⟩ (.bool true)).heap[D]? = some (.deferred (some [])) := (KeepsOthers.setCell w20 _ _).same D _ ((hb20.block D (heap_lt' HD2D.out)).trans HD2D.out) rfl
            have hbl := (HBLW.out.trans (hb20.mono HBLW.out.size)).setCell (p := ⟨w.heap.size + 1, 0, none⟩) (Nat.le_succ _) (.bool true)
            have hbl2 := hbl.grown (grownBy_putObj' _ D2 (.deferred none)) hbl.size (fun r e => by cases e; omega)
            have hbl3 := hbl2.grown (grownBy_putObj' _ D (.deferred none)) hbl2.size (fun r e => by cases e; omega)
            have HD1 := Lib.hid d1
            have HD2 := Lib.hid d2
            have HBL3 := Lib.hid hbl3
            have hdd : D ≠ D2 := by omega
            have hd8 : w.heap.size + 1 ≠ D2 ∧ w.heap.size + 1 ≠ D := by omega
            clear hb20 z8 hB20 d1 d2 hbl hbl2 hbl3
            go_wp2
            have b6 := ((Z8.out.grown (grownBy_putObj' _ D2 (.deferred none)) hd8.1).grown (grownBy_putObj' _ D (.deferred none)) hd8.2)
            have l1 := load_bool b6
            refine ⟨by simp, .inl ⟨_, _, rfl, run_takeDeferred HD2.out, by simp, .inl ⟨_, _, rfl, run_takeDeferred ((World.putObj_heap_other (by omega)).trans HD1.out), ?_⟩⟩⟩
            refine ⟨.bool true, ?_, rfl, HBL3.out⟩
            rw [results_c rfl]
            simp [asAddr, l1, Sem.run_pure]
          case stop10 =>
            rintro D2 c pre W hD ⟨k, hk, hpk⟩ hx hK
            rcases hx with hx | ⟨rfl, hC, hI⟩
            · exact absurd hpk (hx k)
            · exact hC.elim
        · dsimp only
          go_wp2_with fail
          obtain ⟨Wu, hWu⟩ : ∃ Wu, Wu = W.alloc (.cells #[.int .i64 1] 3) := ⟨_, rfl⟩
          have x15 : Blk Wu W.heap.size 3 [.int .i64 1] := by rw [hWu]; exact Blk.new W [.int .i64 1] 3 rfl
          have kt : KpF w.heap.size (w.heap.size + 1) b9 a3 Aw 0 cw WL Fw w Wu := by rw [hWu]; exact KWH.out.below HIT.out ((Below.refl _ W).alloc (Nat.le_refl _) _)
          have HDt : Hid (Wu.heap[D]? = some (.deferred (some []))) := Lib.hid (by rw [hWu]; exact heap_old' HKD.out)
          have hst : Wu.heap.size = W.heap.size + 1 := by rw [hWu]; simp
          have hwsz := HKI.out.1
          have hsr0 := HSR.out
          have h15 : w9.heap.size ≤ W.heap.size := by omega
          have HDlo : Hid (w9.heap.size ≤ D) := Lib.hid (by omega)
          rw [← hWu]
          clear hWu c15 c16 c7 c9 hD
          try clear hn0
          try clear hm
          try clear hl
          try clear h0
          generalize W.heap.size = b17 at *
          rw [rounds_succ]
          have c15 := x15.cell (j := 0) (v := .int .i64 1) rfl
          go_wp2_with fail
          obtain ⟨Wv, hWr⟩ : ∃ Wv, Wv = Wu.alloc (.cells #[.int .i64 0] 3) := ⟨_, rfl⟩
          have hbW : Below Wu.heap.size Wu Wv := by rw [hWr]; exact (Below.refl _ Wu).alloc (Nat.le_refl _) _
          have x16 : Blk Wv (b17 + 1) 3 [.int .i64 ((0 : Nat) : Int)] := by rw [hWr]; exact Blk.new Wu [.int .i64 0] 3 hst.symm
          have X1511 := Lib.hid (x15.below hbW)
          have KR11 := Lib.hid (kt.below HIT.out hbW)
          have hsr : Wv.heap.size = Wu.heap.size + 1 := by rw [hWr]; simp
          have HDW : Hid (Wv.heap[D]? = some (.deferred (some []))) := Lib.hid ((hbW.block D (heap_lt' HDt.out)).trans HDt.out)
          have hdv := heap_lt' HDW.out
          rw [← hWr]
          clear hWr hbW x15 kt c15
          have hsr : Wv.heap.size = b17 + 1 + 1 := by rw [hsr, hst]
          clear hst
          generalize hb16 : b17 + 1 = b18 at *
          have h16 : b17 < b18 := by omega
          clear hb16
          have HKO11 : Hid (KpO w.heap.size (w.heap.size + 1) b9 Aw Ok b18) := Lib.hid ⟨by omega, by omega, by omega, fun a ha => by have := HAW.out a ha; omega, HFR.out _ (by omega)⟩
          have HW1611 : Hid (w.heap.size ≤ b18 ∧ b17 ≠ b18) := Lib.hid ⟨by omega, by omega⟩
          have HSR11 : Hid (Wv.heap.size = b18 + 1) := Lib.hid (by omega)
          refine (wpIn_wide (n := 3)).1 ?_
          refine' rangeC (w0 := Wv) (gf := 40) (lb := lb) rfl (enters_of Try.func40 (by kernel_rfl) rfl) (HIT.out.seq b18 Wv HKO11.out.ok KR11.out.fw (by omega)) KpB.trans (fun W l o o' hl h1 h2 => KpB.put o' h1 h2) (Below.refl _ _) (fun _ => rfl)
            (Lp0 PS w Wv b18 (some D) (fun _ => True)) (Lpx PS w Wv b18 (some D) (fun _ => False) 4) (Lp0.cl (by omega) (by omega) (fun D e => by cases e; omega)) (fun c => Lpx.cl (by omega) (by omega) (fun D e => by cases e; omega) c) ⟨rfl, trivial, ⟨x16, KpB.refl _ _, KR11.out.bl, fun D e => by cases e; exact HDW.out⟩⟩ _ ?assign11 ?body11 ?done11 ?stop11
          case assign11 =>
            intro l x W K hK
            unfold encP
            gi_wp2
            exact hK
          case body11 =>
            rintro l pre ⟨x1, x2⟩ W ⟨hp, hC, hI⟩ hpl
            rw [HPL.out] at hpl
            exact absurd hpl (Nat.not_lt_zero _)
          case done11 =>
            rintro D2 ys W hD hys ⟨-, hC, hI⟩ hK
            rw [hys, HPL.out] at hI
            clear hys
            have hnn : (((0 : Nat) : Int) != ((0 : Nat) : Int)) = false := bne_f rfl
            have KWH11 := Lib.hid (KR11.out.kp HIT.out HKO11.out hI.k hI.bl)
            have c15 := (X1511.out.kp hI.k (by simpa using HW1611.out.2)).cell (j := 0) (v := .int .i64 1) rfl
            have c16 := hI.x.cell (j := 0) (v := .int .i64 ((0 : Nat) : Int)) rfl
            have c7 := KWH11.out.x7.cell (j := 0) (v := .int .i64 a3) rfl
            have c9 := KWH11.out.x9.cell (j := 0) (v := .slice Aw 0 cw) rfl
            have HKI11 := Lib.hid hI.k
            have HKD11 := Lib.hid hK
            have HD2D : Hid (W.heap[D]? = some (.deferred (some []))) := Lib.hid (hI.d D rfl)
            have HBLW := Lib.hid hI.bl
            have hsk := HSR11.out
            have hwk := HW1611.out.1
            have hw7 := HKO11.out.h7
            have hdv := heap_lt' HDW.out
            have hlo := HDlo.out
            have hx9 := HX9LT.out
            have hz9 := HZ9.out
            have hs1 : w.heap.size + 1 < D2 := by omega
            have hs2 : w.heap.size + 1 < D := by omega
            have hs3 : D < D2 := by omega
            clear hI hK hC hsk hwk hw7 hdv hlo hx9 hz9
            dsimp only
            go_wp2_with fail
            rw [rounds_succ]
            go_wp2_with fail
            refine (works_any _).mono ?_
            rintro e w20 ⟨rfl, hB20⟩
            have hb20 : Below W.heap.size W w20 := ((Below.refl _ W).alloc (Nat.le_refl _) _).trans (hB20.mono (by simp))
            have z8 := KWH11.out.x8.below hb20
            have c8 := z8.cell (j := 0) (v := .bool false) rfl
            have f8 := z8.frozen 0
            have Z8 := Lib.hid (z8.set 0 (.bool true))
            have d2 : (w20.setCell ⟨w.heap.size + 1, 0, none⟩ (.bool true)).heap[D2]? = some (.deferred (some [])) := (KeepsOthers.setCell w20 _ _).same D2 _ ((hb20.block D2 (heap_lt' HKD11.out)).trans HKD11.out) rfl
            have d1 : (w20.setCell ⟨w.heap.size + 1, 0, none⟩ (.bool true)).heap[D]? = some (.deferred (some [])) := (KeepsOthers.setCell w20 _ _).same D _ ((hb20.block D (heap_lt' HD2D.out)).trans HD2D.out) rfl
            have hbl := (HBLW.out.trans (hb20.mono HBLW.out.size)).setCell (p := ⟨w.heap.size + 1, 0, none⟩) (Nat.le_succ _) (.bool true)
            have hbl2 := hbl.grown (grownBy_putObj' _ D2 (.deferred none)) hbl.size (fun r e => by cases e; omega)
            have hbl3 := hbl2.grown (grownBy_putObj' _ D (.deferred none)) hbl2.size (fun r e => by cases e; omega)
            have HD1 := Lib.hid d1
            have HD2 := Lib.hid d2
            have HBL3 := Lib.hid hbl3
            have hdd : D ≠ D2 := by omega
            have hd8 : w.heap.size + 1 ≠ D2 ∧ w.heap.size + 1 ≠ D := by omega
            clear hb20 z8 hB20 d1 d2 hbl hbl2 hbl3
            go_wp2
            have b6 := ((Z8.out.grown (grownBy_putObj' _ D2 (.deferred none)) hd8.1).grown (grownBy_putObj' _ D (.deferred none)) hd8.2)
            have l1 := load_bool b6
            refine ⟨by simp, .inl ⟨_, _, rfl, run_takeDeferred HD2.out, by simp, .inl ⟨_, _, rfl, run_takeDeferred ((World.putObj_heap_other (by omega)).trans HD1.out), ?_⟩⟩⟩
            refine ⟨.bool true, ?_, rfl, HBL3.out⟩
            rw [results_c rfl]
            simp [asAddr, l1, Sem.run_pure]
          case stop11 =>
            rintro D2 c pre W hD ⟨k, hk, hpk⟩ hx hK
            rcases hx with hx | ⟨rfl, hC, hI⟩
            · exact absurd hpk (hx k)
            · exact hC.elim
      case stop =>
        rintro D c pre W hD ⟨k, hk, hpk⟩ hx hK
        rcases hx with hx | ⟨rfl, hC, hI⟩
        · exact absurd hpk (hx k)
        · exact absurd hC (by omega)
end Go.Proofs.Ytmdjclfmhndjnaa
