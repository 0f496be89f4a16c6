/-
  The walk of the law on the iteration over partial metrics, valid values. Condition: lists that lie in memory.
-/
import Derived.Test.YtmdjclfmhndjnaaDn
namespace Go.Proofs.Ytmdjclfmhndjnaa
open Go.RowKit Go.Shelf
set_option linter.unusedVariables false
attribute [local go_sem] Oper.semAt_some
set_option maxRecDepth 100000 in
set_option maxHeartbeats 8000000 in
theorem fwd_law_ok (a0 : Option Addr) (len0 cap0 : Nat) (xs : List Int) (a1 : Option Addr) (len1 cap1 : Nat) (ys : List Int) (a2 : Option Addr) (len2 cap2 : Nat) (zs : List Int) (a3 : Int) (w : World) (hx0 : Rd .i64 w a0 len0 cap0 xs) (hx1 : Rd .i64 w a1 len1 cap1 ys) (hx2 : Rd .i64 w a2 len2 cap2 zs) (hv3 : -9223372036854775808 ≤ a3 ∧ a3 ≤ 9223372036854775807) (hf : (len0 : Int) ≤ 100 ∧ (len1 : Int) ≤ 100 ∧ (len2 : Int) ≤ 100) (hok : (⟨xs, ys, zs⟩ : Ob).ok) :
    Calls Try.prog 6 #[.slice a0 len0 cap0, .slice a1 len1 cap1, .slice a2 len2 cap2, .int .i64 a3] w fun e w' => e = .returned (.bool true) ∧ Below w.heap.size w w' := by
  have b0 := hx0.bd.1
  have b1 := hx1.bd.1
  have b2 := hx2.bd.1
  have HF := Lib.hid (fun W => few_any 100 a0 a1 a2 len0 cap0 len1 cap1 len2 cap2 W b0 b1 b2)
  have HFT := Lib.hid (decide_eq_true hf)
  have e0 := hx0.len
  have e1 := hx1.len
  have e2 := hx2.len
  subst e0
  subst e1
  subst e2
  obtain ⟨l0, l1, l2⟩ := hf
  have HI := Lib.hid (show In3 w (⟨xs, ys, zs⟩ : Ob) a0 a1 a2 cap0 cap1 cap2 from ⟨hx0, hx1, hx2⟩)
  obtain ⟨o, ho⟩ : ∃ o : Ob, o = ⟨xs, ys, zs⟩ := ⟨_, rfl⟩
  rw [← ho] at HI hok
  have s1 : o.s = xs := by rw [ho]
  have s2 : o.p = ys := by rw [ho]
  have s3 : o.a = zs := by rw [ho]
  subst s1
  subst s2
  subst s3
  have HIL := Lib.hid (show (∀ a, 0 < cap0 → a0 = some a → a.block < w.heap.size) ∧ (∀ a, 0 < cap1 → a1 = some a → a.block < w.heap.size) ∧ (∀ a, 0 < cap2 → a2 = some a → a.block < w.heap.size) from ⟨fun a h => hx0.lt h a, fun a h => hx1.lt h a, fun a h => hx2.lt h a⟩)
  clear ho hx0 hx1 hx2
  have HLL := Lib.hid (show o.s.length ≤ 1000000 ∧ o.p.length ≤ 1000000 ∧ o.a.length ≤ 1000000 from ⟨by omega, by omega, by omega⟩)
  refine (callsIn_wide (n := 3)).1 ?_
  refine callsIn_of_wp_marks Try.func6 rfl trivial ?_
  simp only [Try.ntmps6, List.size_toArray, List.length_cons, List.length_nil, Nat.reduceAdd, Nat.reduceSub, Array.replicate_succ, Array.replicate_zero, List.push_toArray, List.append_toArray, List.nil_append, List.cons_append]
  refine wpIn_wide.2 ?_
  obtain ⟨W0, hW0⟩ : ∃ W0, W0 = (w.alloc (.cells #[.int .i64 a3] 3)).alloc (.cells #[.bool false] 4) := ⟨_, rfl⟩
  have x7 : Blk W0 w.heap.size 3 [.int .i64 a3] := by rw [hW0]; exact (Blk.new w [.int .i64 a3] 3 rfl).alloc _
  have x8 : Blk W0 (w.heap.size + 1) 4 [.bool false] := by rw [hW0]; exact Blk.new (w.alloc _) [.bool false] 4 (by simp)
  have hb0 : Below w.heap.size w W0 := by rw [hW0]; exact ((Below.refl _ w).alloc (Nat.le_refl _) _).alloc (by simp) _
  have X7 := Lib.hid x7
  have X8 := Lib.hid x8
  have HX8LT : Hid (w.heap.size + 1 < W0.heap.size) := Lib.hid x8.lt
  have HB0 := Lib.hid hb0
  have HW0 := Lib.hid hW0
  clear x7 x8 hb0 hW0
  go_wp2_with fail
  rw [← HW0.out]
  refine (HF.out _).mono ?_
  rintro e w' ⟨rfl, rfl⟩
  rw [HFT.out]
  clear HF HFT HW0
  go_wp2_with fail
  obtain ⟨W1, hW1⟩ : ∃ W1, W1 = W0.alloc (.cells #[.slice none 0 0] 22) := ⟨_, rfl⟩
  have hq : Below W0.heap.size W0 W1 := by rw [hW1]; exact (Below.refl _ W0).alloc (Nat.le_refl _) _
  have x9 : Blk W1 W0.heap.size 22 [.slice none 0 0] := by rw [hW1]; exact Blk.new W0 [.slice none 0 0] 22 rfl
  have X7 := Lib.hid (X7.out.below hq)
  have X8 := Lib.hid (X8.out.below hq)
  have X9 := Lib.hid x9
  have hlt9 : w.heap.size + 1 < W0.heap.size := by have := HB0.out.size; have h8 := X8.out.lt; have := HX8LT.out; omega
  have HB1 := Lib.hid (HB0.out.trans (hq.mono HB0.out.size))
  rw [← hW1]
  clear hW1 hq x9 HB0
  generalize W0.heap.size = b9 at *
  refine (wrong_any a0 a1 a2 cap0 cap1 cap2 o _ (HI.out.below HB1.out)).mono ?_
  rintro e w2 ⟨rfl, hB2⟩
  have X7 := Lib.hid (X7.out.below hB2)
  have X8 := Lib.hid (X8.out.below hB2)
  have X9 := Lib.hid (X9.out.below hB2)
  have HI2 := Lib.hid ((HI.out.below HB1.out).below hB2)
  have HB2 := Lib.hid (HB1.out.trans (hB2.mono HB1.out.size))
  clear hB2 HB1 HI
  rw [Ob.err_ok hok]
  have HRF := Lib.hid (fun W h => rforward_any a0 a1 a2 cap0 cap1 cap2 o W h hok)
  have HRG := Lib.hid (fun W h => rgreat_any a0 a1 a2 cap0 cap1 cap2 o W h hok)
  have HN := Lib.hid (show 1 ≤ o.s.length by have := hok.1; have := hok.2.2.1; omega)
  have HEND : Hid (gi (fwT o o.s.length) (o.s.length - 1) = gi (o.f o.s.length) 0) := Lib.hid (by
    obtain ⟨n, hn⟩ : ∃ n, o.s.length = n + 1 := ⟨o.s.length - 1, by have := HN.out; omega⟩
    rw [← topL_end hok, hn]
    unfold fwT
    rw [gi_range _ (by omega)]
    rfl)
  have HPS : Hid ((psO o).map (·.2) = fwT o o.s.length ∧ (psO o).length = o.s.length) := Lib.hid (by
    unfold psO
    rw [if_pos hok, fwP_len, fwT_fwP]
    exact ⟨rfl, rfl⟩)
  clear hok
  go_wp2_with fail
  refine (HRF.out _ HI2.out).mono ?_
  rintro e w3 ⟨Aw, cw, rfl, hO3, hB3⟩
  have HRW := Lib.hid (Own.rd hO3)
  have HAW : Hid (AtB w2.heap.size Aw w3) := Lib.hid (Ownv.geb hO3)
  have X7 := Lib.hid (X7.out.below hB3)
  have X8 := Lib.hid (X8.out.below hB3)
  have x9 := X9.out.below hB3
  have X9O := Lib.hid X9.out
  have HI3 := Lib.hid (HI2.out.below hB3)
  have HB3 := Lib.hid (HB2.out.trans (hB3.mono HB2.out.size))
  have HW9 : Hid (b9 < w2.heap.size) := Lib.hid X9.out.lt
  clear hO3 hB3 HI2 HB2 HRF X9
  have c9 := x9.cell (j := 0) (v := .slice none 0 0) rfl
  have f9 := x9.frozen 0
  have HX9 : Hid (Blk (w3.setCell ⟨b9, 0, none⟩ (.slice Aw o.s.length cw)) b9 22 [.slice Aw o.s.length cw]) := Lib.hid (x9.set 0 (.slice Aw o.s.length cw))
  have hg9 := grownBy_set w3 b9 0 (.slice Aw o.s.length cw)
  have X7 := Lib.hid (X7.out.other (by omega) 0 (.slice Aw o.s.length cw) (g := b9))
  have X8 := Lib.hid (X8.out.other (by omega) 0 (.slice Aw o.s.length cw) (g := b9))
  have HRW := Lib.hid (Rdv.grown HRW.out hg9 (fun hA => by
    cases Aw with
    | none => exact absurd rfl hA
    | some a => intro e; have := (HAW.out a rfl).1; have := HW9.out; have e2 : a.block = b9 := by simpa [blk] using e
                omega))
  have HIS := Lib.hid (show In3 (w3.setCell ⟨b9, 0, none⟩ (.slice Aw o.s.length cw)) o a0 a1 a2 cap0 cap1 cap2 from by
    have k := HI3.out
    have q : ∀ {X : Option Addr} {n c : Nat} {vs : List Value}, (∀ a, 0 < c → X = some a → a.block < w.heap.size) → Rdv w3 X n c vs → Rdv (w3.setCell ⟨b9, 0, none⟩ (.slice Aw o.s.length cw)) X n c vs := fun hX h => Rdv.set9 h hX (by omega)
    exact ⟨q HIL.out.1 k.s, q HIL.out.2.1 k.p, q HIL.out.2.2 k.a⟩)
  have HB4 := Lib.hid (HB3.out.setCell (p := ⟨b9, 0, none⟩) (by show w.heap.size ≤ b9; omega) (.slice Aw o.s.length cw))
  have HAW := Lib.hid (show ∀ a, Aw = some a → b9 ≠ a.block ∧ w.heap.size + 1 < a.block ∧ a.block < (w3.setCell ⟨b9, 0, none⟩ (.slice Aw o.s.length cw)).heap.size from fun a ha => by have := HAW.out a ha; have := HW9.out; simp; omega)
  clear x9 hg9 HI3 HB3 X9O HW9
  go_wp2_with fail
  generalize w3.setCell ⟨b9, 0, none⟩ (.slice Aw o.s.length cw) = w4 at *
  have hn1 := HN.out
  have HS0 : Hid (W6S b9 Aw (o.s.length - 1) (.slice Aw o.s.length cw) (.int .i64 (gi (o.f o.s.length) 0)) w4.drew) := Lib.hid ⟨HX9.out.cell (j := 0) rfl, by have := Rd.cell HRW.out (j := o.s.length - 1) (by omega); rw [HEND.out] at this; exact this⟩
  have hixw := fun W => Rdv.ixI HRW.out el22 (j := o.s.length - 1) (by omega) .i64 ((o.s.length : Int) - 1) (by omega) W
  have vw : IntKind.i64.wrap ((o.s.length : Int) - 1) = (o.s.length : Int) - 1 := IntWalk.i64_in _ (by omega)
  have HRGD := Lib.hid (HRG.out w4.drew ⟨Rdv.drew HIS.out.s, Rdv.drew HIS.out.p, Rdv.drew HIS.out.a⟩)
  clear HRG
  refine wp_nopanic ?_
  refine P_start (W6S b9 Aw (o.s.length - 1) (.slice Aw o.s.length cw) (.int .i64 (gi (o.f o.s.length) 0))) 10 11 #[false, false, false, false, false, false, false, false, false, false, false] (by kernel_rfl) (by kernel_rfl) (by kernel_rfl) ?_
  refine P_takeT 0 34 (.slice Aw o.s.length cw) #[true, false, false, false, false, false, false, false, false, false, false] [5, 4] rfl rfl (by kernel_rfl) (by kernel_rfl) (by kernel_rfl) (by kernel_rfl) (by kernel_rfl) (by kernel_rfl) (by kernel_rfl) (by decide) (fun _ _ _ h => h) (Or.inl ⟨by rfl, fun W hS => by obtain ⟨s0, s1⟩ := hS; go_simp⟩) HS0.out ?_
  simp only [List.setIfInBounds_toArray, List.set_cons_zero, List.set_cons_succ]
  refine P_takeT 1 35 (.slice Aw o.s.length cw) #[true, true, false, false, false, false, false, false, false, false, false] [5, 4, 3, 2] rfl rfl (by kernel_rfl) (by kernel_rfl) (by kernel_rfl) (by kernel_rfl) (by kernel_rfl) (by kernel_rfl) (by kernel_rfl) (by decide) (fun _ _ _ h => h) (Or.inl ⟨by rfl, fun W hS => by obtain ⟨s0, s1⟩ := hS; go_simp⟩) HS0.out ?_
  simp only [List.setIfInBounds_toArray, List.set_cons_zero, List.set_cons_succ]
  refine P_takeW 2 36 (.int .i64 (o.s.length : Int)) #[true, true, true, false, false, false, false, false, false, false, false] rfl rfl (by kernel_rfl) (by kernel_rfl) (by kernel_rfl) (by kernel_rfl) (by decide) (fun _ _ _ h => h) (Or.inl ⟨by rfl, fun W hS => by go_simp⟩) HS0.out ?_
  simp only [List.setIfInBounds_toArray, List.set_cons_zero, List.set_cons_succ]
  refine P_takeW 3 37 (.int .i64 ((o.s.length : Int) - 1)) #[true, true, true, true, false, false, false, false, false, false, false] rfl rfl (by kernel_rfl) (by kernel_rfl) (by kernel_rfl) (by kernel_rfl) (by decide) (fun _ _ _ h => h) (Or.inl ⟨by rfl, fun W hS => by go_simp⟩) HS0.out ?_
  simp only [List.setIfInBounds_toArray, List.set_cons_zero, List.set_cons_succ]
  refine P_takeW 4 38 (.pointer (some (adr Aw ((o.s.length - 1))))) #[true, true, true, true, true, false, false, false, false, false, false] rfl rfl (by kernel_rfl) (by kernel_rfl) (by kernel_rfl) (by kernel_rfl) (by decide) (fun _ _ _ h => h) (Or.inl ⟨by rfl, fun W hS => by go_simp⟩) HS0.out ?_
  simp only [List.setIfInBounds_toArray, List.set_cons_zero, List.set_cons_succ]
  refine P_take 5 39 (.int .i64 (gi (o.f o.s.length) 0)) #[true, true, true, true, true, true, false, false, false, false, false] rfl rfl (by kernel_rfl) (by kernel_rfl) (by kernel_rfl) (by kernel_rfl) (by kernel_rfl) (by kernel_rfl) (by decide) (fun _ _ _ h => h) (Or.inl ⟨by rfl, fun W hS => by obtain ⟨s0, s1⟩ := hS; go_simp⟩) HS0.out ?_
  simp only [List.setIfInBounds_toArray, List.set_cons_zero, List.set_cons_succ]
  refine P_takeW 6 40 (.slice a0 o.s.length cap0) #[true, true, true, true, true, true, true, false, false, false, false] rfl rfl (by kernel_rfl) (by kernel_rfl) (by kernel_rfl) (by kernel_rfl) (by decide) (fun _ _ _ h => h) (Or.inl ⟨by rfl, fun W hS => by go_simp⟩) HS0.out ?_
  simp only [List.setIfInBounds_toArray, List.set_cons_zero, List.set_cons_succ]
  refine P_takeW 7 41 (.slice a1 o.p.length cap1) #[true, true, true, true, true, true, true, true, false, false, false] rfl rfl (by kernel_rfl) (by kernel_rfl) (by kernel_rfl) (by kernel_rfl) (by decide) (fun _ _ _ h => h) (Or.inl ⟨by rfl, fun W hS => by go_simp⟩) HS0.out ?_
  simp only [List.setIfInBounds_toArray, List.set_cons_zero, List.set_cons_succ]
  refine P_takeW 8 42 (.slice a2 o.a.length cap2) #[true, true, true, true, true, true, true, true, true, false, false] rfl rfl (by kernel_rfl) (by kernel_rfl) (by kernel_rfl) (by kernel_rfl) (by decide) (fun _ _ _ h => h) (Or.inl ⟨by rfl, fun W hS => by go_simp⟩) HS0.out ?_
  simp only [List.setIfInBounds_toArray, List.set_cons_zero, List.set_cons_succ]
  refine P_oneS 9 #[true, true, true, true, true, true, true, true, true, true, false] rfl (by kernel_rfl) (by kernel_rfl) rfl (fun K hK => ?_)
  go_simp
  refine HRGD.out.mono ?_
  rintro e w5 ⟨rfl, hB5⟩
  have hb45 : Below w4.heap.size w4 w5 := (Below.refl _ w4).drew.trans hB5
  have X7 := Lib.hid (X7.out.below hb45)
  have X8 := Lib.hid (X8.out.below hb45)
  have x9 := HX9.out.below hb45
  have HRW := Lib.hid (Rdv.below HRW.out hb45)
  have HIS := Lib.hid (HIS.out.below hb45)
  have HB5 := Lib.hid (HB4.out.trans (hb45.mono HB4.out.size))
  have HAW := Lib.hid (show ∀ a, Aw = some a → b9 ≠ a.block ∧ w.heap.size + 1 < a.block ∧ a.block < w5.heap.size from fun a ha => by have := HAW.out a ha; have := hb45.size; omega)
  have HX9 := Lib.hid x9
  have HS5 : Hid (W6S b9 Aw (o.s.length - 1) (.slice Aw o.s.length cw) (.int .i64 (gi (o.f o.s.length) 0)) w5) := Lib.hid ⟨x9.cell (j := 0) rfl, by have := Rd.cell HRW.out (j := o.s.length - 1) (by omega); rw [HEND.out] at this; exact this⟩
  clear hb45 hB5 x9 HB4
  refine hK _ _ HS5.out ?_
  clear hK K
  refine P_one 10 #[true, true, true, true, true, true, true, true, true, true, true] rfl (by kernel_rfl) (by kernel_rfl) rfl (by kernel_rfl) (fun K hK => ?_)
  go_simp
  refine hK _ _ ?_
  clear hK K
  refine P_done (by kernel_rfl) ?_ _
  refine noPanic_normal ?_
  have hff : (gi (o.f o.s.length) 0 != gi (o.f o.s.length) 0) = false := bne_f rfl
  go_wp2_with fail
  obtain ⟨WL, hWL⟩ : ∃ WL, WL = fwT o o.s.length := ⟨_, rfl⟩
  have HPW : Hid ((psO o).map (·.2) = WL ∧ (psO o).length = o.s.length) := Lib.hid (by rw [hWL]; exact HPS.out)
  rw [← hWL] at HRW
  have KF : Hid (KpF w.heap.size (w.heap.size + 1) b9 a3 Aw o.s.length cw WL (fun _ => True) w w5) := Lib.hid ⟨X7.out, X8.out, HX9.out, HRW.out, trivial, HB5.out⟩
  have HX9LT := Lib.hid HX9.out.lt
  have HWZ := Lib.hid HB5.out.size
  clear hWL HPS HEND hixw vw hff HRGD HS0 HS5 HN hn1 HRW X7 X8 HX9 HB5
  obtain ⟨PS, hPS⟩ : ∃ PS, PS = psO o := ⟨_, rfl⟩
  have HPG : Hid (∀ n (h : n < PS.length), PS[n].1 = (n : Int) ∧ PS[n].2 = gi WL n) := Lib.hid (by rw [hPS, ← HPW.out.1]; exact psO_get o)
  have HPL : Hid (PS.length = o.s.length) := Lib.hid (by rw [hPS]; exact HPW.out.2)
  clear HPW
  refine (own_any a0 _ cap0 o.s w5 HIS.out.s HLL.out.1).mono ?_
  rintro e w6 ⟨A1, c1, rfl, hO6, hB6⟩
  have HO6 := Lib.hid hO6
  have HIS := Lib.hid (HIS.out.below hB6)
  have KF := Lib.hid (KF.out.belowT hB6)
  have HZ6 := Lib.hid hB6.size
  clear hO6 hB6
  go_wp2_with fail
  refine (own_any a1 _ cap1 o.p w6 HIS.out.p HLL.out.2.1).mono ?_
  rintro e w7 ⟨A2, c2, rfl, hO7, hB7⟩
  have HO6 := Lib.hid (Ownv.below HO6.out hB7)
  have HR7 := Lib.hid (Own.rd hO7)
  have HIS := Lib.hid (HIS.out.below hB7)
  have KF := Lib.hid (KF.out.belowT hB7)
  have HZ7 := Lib.hid (Nat.le_trans HZ6.out hB7.size)
  clear hO7 hB7 HZ6
  go_wp2_with fail
  refine (own_any a2 _ cap2 o.a w7 HIS.out.a HLL.out.2.2).mono ?_
  rintro e w8 ⟨A3, c3, rfl, hO8, hB8⟩
  have HO6 := Lib.hid (Ownv.below HO6.out hB8)
  have HR7 := Lib.hid (Rdv.below HR7.out hB8)
  have HR8 := Lib.hid (Own.rd hO8)
  have KF := Lib.hid (KF.out.belowT hB8)
  have HZ8 := Lib.hid (Nat.le_trans HZ7.out hB8.size)
  clear hO8 hB8 HZ7 HIS
  go_wp2_with fail
  refine (fwd_all A1 A2 A3 c1 c2 c3 o w8 ⟨Own.rd (Own.of HO6.out), HR7.out, HR8.out⟩ HLL.out).mono ?_
  rintro e w9 ⟨lb, Ok, Fw, rfl, hIt, hFw, hfr, hold, hB9⟩
  rw [← hPS] at hIt
  have HIT := Lib.hid hIt
  have HFR := Lib.hid hfr
  have HOLD := Lib.hid hold
  have HO8 := Lib.hid (Own.of HO6.out)
  have HO9 := Lib.hid (Own.of (Ownv.below HO6.out hB9))
  have KF := Lib.hid ((KF.out.belowT hB9).to hFw)
  have HZ9 := Lib.hid (Nat.le_trans HZ8.out hB9.size)
  have hfn := fun W => run_eql_func_nil (P := Try.prog) W Try.underlying48 (.func 40) #[] lb
  clear hIt hFw hfr hold hB9 HO6 HR7 HR8 hPS
  have HKO : Hid (0 < o.s.length → KpO w.heap.size (w.heap.size + 1) b9 Aw Ok (blk A1)) := Lib.hid (fun h0 => by
    have hc : 0 < c1 := by have := (Own.rd HO8.out).le; omega
    have h1 := (Ownv.blk_ge HO8.out hc).1
    obtain ⟨cs, hcs⟩ := Own.blk3 HO8.out hc
    have hx9 := HX9LT.out
    exact ⟨by omega, by omega, by omega, fun a ha => by have := HAW.out a ha; omega, HOLD.out _ _ hcs⟩)
  clear HOLD HO8
  go_wp2_with fail
  go_loopw [14] (fun i wr => LtI w.heap.size (w.heap.size + 1) b9 a3 Aw o.s.length cw WL Fw w w5.heap.size w9.heap.size A1 o.s.length c1 i wr) (fun i _ => o.s.length - (intOf i).toNat)
  case atStart => exact ⟨0, o.s, Nat.zero_le _, rfl, HO9.out, KF.out, Nat.le_refl _⟩
  case round =>
    obtain ⟨j, vs, hj, rfl, hO, hK, hZ⟩ := hrel
    by_cases hlt : j < o.s.length
    · have hc := Rd.cell (Own.rd hO) hlt
      have hf := Ownv.frozen hO (by have := (Own.rd hO).le; omega) j
      have hix := fun W => Rdv.ix (Own.rd hO) el22 hlt .i64 W
      obtain ⟨nv, hnv⟩ : ∃ nv, IntKind.i64.wrap (gi vs j + 1) = nv := ⟨_, rfl⟩
      have hnv2 : wrap64 (gi vs j + 1) = nv := by rw [← IntWalk.i64_left]; exact hnv
      have HS := Lib.hid (Own.set_ hO hlt nv)
      have HK2 := Lib.hid (hK.kp HIT.out (HKO.out (by omega)) (KpB.set (Own.set_ hO hlt nv).2 (by simp)) (hK.bl.grown (Own.set_ hO hlt nv).2 hK.bl.size (fun k hk => by cases hk; have h1 := (Ownv.blk_ge hO (by have := (Own.rd hO).le; omega)).1; have := HWZ.out; omega)))
      have HZr := Lib.hid hZ
      clear hO hK hZ
      go_wp2
      go_roundw
      case rel => exact ⟨j + 1, _, by omega, by go_num, HS.out.1, HK2.out, Nat.le_trans HZr.out HS.out.2.size⟩
      case measure => simp [intOf]; omega
    · have HK2 := Lib.hid hK
      have HZr := Lib.hid hZ
      clear hO hK hZ
      go_wp2_with fail
      have hx9 := HX9LT.out
      have hwz := HWZ.out
      have hz9 := HZ9.out
      have hzr := HZr.out
      obtain ⟨Wt, hWt⟩ : ∃ Wt, Wt = wr.alloc (.cells #[.int .i64 0] 3) := ⟨_, rfl⟩
      have x15 : Blk Wt wr.heap.size 3 [.int .i64 0] := by rw [hWt]; exact Blk.new wr [.int .i64 0] 3 rfl
      have kt : KpF w.heap.size (w.heap.size + 1) b9 a3 Aw o.s.length cw WL Fw w Wt := by rw [hWt]; exact HK2.out.below HIT.out ((Below.refl _ wr).alloc (Nat.le_refl _) _)
      have hst : Wt.heap.size = wr.heap.size + 1 := by rw [hWt]; simp
      rw [← hWt]
      clear HK2 hWt HZr HKO HO9
      have h15 : w9.heap.size ≤ wr.heap.size := hzr
      generalize wr.heap.size = b15 at *
      refine wp_loop_rounds 3 ?_
      rw [rounds_succ]
      have c15 := x15.cell (j := 0) (v := .int .i64 0) rfl
      go_wp2_with fail
      obtain ⟨Wr, hWr⟩ : ∃ Wr, Wr = Wt.alloc (.cells #[.int .i64 0] 3) := ⟨_, rfl⟩
      have hbW : Below Wt.heap.size Wt Wr := by rw [hWr]; exact (Below.refl _ Wt).alloc (Nat.le_refl _) _
      have x16 : Blk Wr (b15 + 1) 3 [.int .i64 ((0 : Nat) : Int)] := by rw [hWr]; exact Blk.new Wt [.int .i64 0] 3 hst.symm
      have X15 := Lib.hid (x15.below hbW)
      have KR := Lib.hid (kt.below HIT.out hbW)
      have hsr : Wr.heap.size = Wt.heap.size + 1 := by rw [hWr]; simp
      rw [← hWr]
      clear hWr hbW x15 kt c15
      have hsr : Wr.heap.size = b15 + 1 + 1 := by rw [hsr, hst]
      clear hst
      generalize hb16 : b15 + 1 = b16 at *
      have h16 : b15 < b16 := by omega
      clear hb16
      have HKO : Hid (KpO w.heap.size (w.heap.size + 1) b9 Aw Ok b16) := Lib.hid ⟨by omega, by omega, by omega, fun a ha => by have := HAW.out a ha; omega, HFR.out _ (by omega)⟩
      have HW16 : Hid (w.heap.size ≤ b16 ∧ b15 ≠ b16) := Lib.hid ⟨by omega, by omega⟩
      have HSR : Hid (Wr.heap.size = b16 + 1) := Lib.hid (by omega)
      refine (wpIn_wide (n := 3)).1 ?_
      refine' rangeC (w0 := Wr) (gf := 40) (lb := lb) rfl (enters_of Try.func40 (by kernel_rfl) rfl) (HIT.out.seq b16 Wr HKO.out.ok KR.out.fw (by omega)) KpB.trans (fun W l o o' hl h1 h2 => KpB.put o' h1 h2) (Below.refl _ _) (fun _ => rfl)
        (Lp0 PS w Wr b16 none (fun n => n = 0 ∨ (n : Int) < a3)) (Lpx PS w Wr b16 none (fun n => 1 ≤ n ∧ a3 ≤ (n : Int) ∧ (n = 1 ∨ (n : Int) - 1 < a3) ∧ n ≤ o.s.length) 4) (Lp0.cl (by omega) (by omega) (fun D e => by cases e)) (fun c => Lpx.cl (by omega) (by omega) (fun D e => by cases e) c) ⟨rfl, .inl rfl, ⟨x16, KpB.refl _ _, KR.out.bl, fun D e => by cases e⟩⟩ _ ?assign ?body ?done ?stop
      case assign =>
        intro l x W K hK
        unfold encP
        gi_wp2
        exact hK
      case body =>
        rintro l pre ⟨x1, x2⟩ W ⟨hp, hC, hI⟩ hpl
        dsimp only
        obtain ⟨n, hn⟩ : ∃ n, pre.length = n := ⟨_, rfl⟩
        rw [hn] at hC hI hpl
        have KW := KR.out.kp HIT.out HKO.out hI.k hI.bl
        have hnN : n < o.s.length := by rw [← HPL.out]; exact hpl
        have h15k := X15.out.kp hI.k (by simpa using HW16.out.2)
        have c15 := h15k.cell (j := 0) (v := .int .i64 0) rfl
        have c16 := hI.x.cell (j := 0) (v := .int .i64 (n : Int)) rfl
        have f16 := hI.x.frozen 0
        have c7 := KW.x7.cell (j := 0) (v := .int .i64 a3) rfl
        have c8 := KW.x8.cell (j := 0) (v := .bool false) rfl
        have f8 := KW.x8.frozen 0
        have c9 := KW.x9.cell (j := 0) (v := .slice Aw o.s.length cw) rfl
        have hcw := Rd.cell KW.r (j := n) hnN
        have hixw := fun W => Rdv.ix KW.r el22 hnN .i64 W
        have hps : PS[n] = ((n : Int), gi WL n) := Prod.ext (HPG.out n hpl).1 (HPG.out n hpl).2
        have hnx := fun h : (x1, x2) = PS[n] => pre_next hp hn hpl h
        have hno := fun h : (x1, x2) ≠ PS[n] => pre_not hn hpl h
        rw [hps] at hnx hno
        have HNX := Lib.hid hnx
        have HNO := Lib.hid hno
        have HI := Lib.hid hI
        have HC := Lib.hid hC
        have n15 := HW16.out.2
        have n7 := HKO.out.h7
        have hnb : (n : Int) + 1 ≤ 1000001 := by have := HLL.out.1; omega
        clear hps hnx hno hI hC hp KW h15k hpl
        generalize gi WL n = v at *
        by_cases h1 : x1 = (n : Int)
        · subst h1
          by_cases h2 : x2 = v
          · subst h2
            have e1 : ((n : Int) != (n : Int)) = false := bne_f rfl
            have e2 : (x2 != x2) = false := bne_f rfl
            obtain ⟨p1, p2⟩ := HNX.out rfl
            have HP1 := Lib.hid p1
            have HP2 := Lib.hid p2
            have HX := Lib.hid (HI.out.next HW16.out.1 (.int .i64 ((n : Int) + 1)) (by push_cast; rfl))
            have d15 := ((X15.out.kp HX.out.2.2.k (by simpa using HW16.out.2))).cell (j := 0) (v := .int .i64 0) rfl
            have d16 := HX.out.2.2.x.cell (j := 0) (v := .int .i64 ((n + 1 : Nat) : Int)) rfl
            have d7 := ((KR.out.kp HIT.out HKO.out HX.out.2.2.k HX.out.2.2.bl)).x7.cell (j := 0) (v := .int .i64 a3) rfl
            have wn : IntKind.i64.wrap ((n : Int) + 1) = (n : Int) + 1 := IntWalk.i64_in _ (by omega)
            push_cast at d16
            clear p1 p2 HNX HNO e1 hnb wn
            by_cases hm : a3 ≤ (n : Int) + 1
            · gi_wp2
              exact ⟨HX.out.1, .inr ⟨rfl, by rw [HP2.out]; have := HC.out; omega, by rw [HP2.out]; exact HX.out.2.2⟩⟩
            · gi_wp2
              exact ⟨HX.out.1, HX.out.2.1, by rw [HP2.out]; exact HP1.out, by rw [HP2.out]; right; push_cast; omega, by rw [HP2.out]; exact HX.out.2.2⟩
          · have e1 : ((n : Int) != (n : Int)) = false := bne_f rfl
            have e2 : (x2 != v) = true := bne_t h2
            have HFX := Lib.hid (HNO.out (fun h => h2 (by injection h)))
            clear HNX HNO h2
            gi_wp2
            exact ⟨KeepsOthers.setCell _ _ _, .inl HFX.out⟩
        · have e1 : (x1 != (n : Int)) = true := bne_t h1
          have HFX := Lib.hid (HNO.out (fun h => h1 (by injection h)))
          clear HNX HNO h1
          gi_wp2
          exact ⟨KeepsOthers.setCell _ _ _, .inl HFX.out⟩
      case done =>
        rintro D ys W hD hys ⟨-, hC, hI⟩ hK
        rw [hys, HPL.out] at hC hI
        clear hys
        have KWH := Lib.hid (KR.out.kp HIT.out HKO.out hI.k hI.bl)
        have c15 := (X15.out.kp hI.k (by simpa using HW16.out.2)).cell (j := 0) (v := .int .i64 0) rfl
        have c16 := hI.x.cell (j := 0) (v := .int .i64 ((o.s.length : Nat) : Int)) rfl
        have c7 := KWH.out.x7.cell (j := 0) (v := .int .i64 a3) rfl
        have c9 := KWH.out.x9.cell (j := 0) (v := .slice Aw o.s.length cw) rfl
        have HKI := Lib.hid hI.k
        have HKD := Lib.hid hK
        clear hI hK
        rcases hC with h0 | h0
        · have hn0 := h0
          by_cases hm : a3 ≤ 1
          · dsimp only
            go_wp2_with fail
            obtain ⟨Wu, hWu⟩ : ∃ Wu, Wu = W.alloc (.cells #[.int .i64 1] 3) := ⟨_, rfl⟩
            have x15 : Blk Wu W.heap.size 3 [.int .i64 1] := by rw [hWu]; exact Blk.new W [.int .i64 1] 3 rfl
            have kt : KpF w.heap.size (w.heap.size + 1) b9 a3 Aw o.s.length cw WL Fw w Wu := by rw [hWu]; exact KWH.out.below HIT.out ((Below.refl _ W).alloc (Nat.le_refl _) _)
            have HDt : Hid (Wu.heap[D]? = some (.deferred (some []))) := Lib.hid (by rw [hWu]; exact heap_old' HKD.out)
            have hst : Wu.heap.size = W.heap.size + 1 := by rw [hWu]; simp
            have hwsz := HKI.out.1
            have hsr0 := HSR.out
            have h15 : w9.heap.size ≤ W.heap.size := by omega
            have HDlo : Hid (w9.heap.size ≤ D) := Lib.hid (by omega)
            rw [← hWu]
            clear hWu c15 c16 c7 c9 hD
            try clear hn0
            try clear hm
            try clear hl
            try clear h0
            generalize W.heap.size = b17 at *
            rw [rounds_succ]
            have c15 := x15.cell (j := 0) (v := .int .i64 1) rfl
            go_wp2_with fail
            obtain ⟨Wv, hWr⟩ : ∃ Wv, Wv = Wu.alloc (.cells #[.int .i64 0] 3) := ⟨_, rfl⟩
            have hbW : Below Wu.heap.size Wu Wv := by rw [hWr]; exact (Below.refl _ Wu).alloc (Nat.le_refl _) _
            have x16 : Blk Wv (b17 + 1) 3 [.int .i64 ((0 : Nat) : Int)] := by rw [hWr]; exact Blk.new Wu [.int .i64 0] 3 hst.symm
            have X152 := Lib.hid (x15.below hbW)
            have KR2 := Lib.hid (kt.below HIT.out hbW)
            have hsr : Wv.heap.size = Wu.heap.size + 1 := by rw [hWr]; simp
            have HDW : Hid (Wv.heap[D]? = some (.deferred (some []))) := Lib.hid ((hbW.block D (heap_lt' HDt.out)).trans HDt.out)
            have hdv := heap_lt' HDW.out
            rw [← hWr]
            clear hWr hbW x15 kt c15
            have hsr : Wv.heap.size = b17 + 1 + 1 := by rw [hsr, hst]
            clear hst
            generalize hb16 : b17 + 1 = b18 at *
            have h16 : b17 < b18 := by omega
            clear hb16
            have HKO2 : Hid (KpO w.heap.size (w.heap.size + 1) b9 Aw Ok b18) := Lib.hid ⟨by omega, by omega, by omega, fun a ha => by have := HAW.out a ha; omega, HFR.out _ (by omega)⟩
            have HW162 : Hid (w.heap.size ≤ b18 ∧ b17 ≠ b18) := Lib.hid ⟨by omega, by omega⟩
            have HSR2 : Hid (Wv.heap.size = b18 + 1) := Lib.hid (by omega)
            refine (wpIn_wide (n := 3)).1 ?_
            refine' rangeC (w0 := Wv) (gf := 40) (lb := lb) rfl (enters_of Try.func40 (by kernel_rfl) rfl) (HIT.out.seq b18 Wv HKO2.out.ok KR2.out.fw (by omega)) KpB.trans (fun W l o o' hl h1 h2 => KpB.put o' h1 h2) (Below.refl _ _) (fun _ => rfl)
              (Lp0 PS w Wv b18 (some D) (fun _ => True)) (Lpx PS w Wv b18 (some D) (fun _ => False) 4) (Lp0.cl (by omega) (by omega) (fun D e => by cases e; omega)) (fun c => Lpx.cl (by omega) (by omega) (fun D e => by cases e; omega) c) ⟨rfl, trivial, ⟨x16, KpB.refl _ _, KR2.out.bl, fun D e => by cases e; exact HDW.out⟩⟩ _ ?assign2 ?body2 ?done2 ?stop2
            case assign2 =>
              intro l x W K hK
              unfold encP
              gi_wp2
              exact hK
            case body2 =>
              rintro l pre ⟨x1, x2⟩ W ⟨hp, hC, hI⟩ hpl
              dsimp only
              obtain ⟨n, hn⟩ : ∃ n, pre.length = n := ⟨_, rfl⟩
              rw [hn] at hI hpl
              have KW := KR2.out.kp HIT.out HKO2.out hI.k hI.bl
              have hnN : n < o.s.length := by rw [← HPL.out]; exact hpl
              have h15k := X152.out.kp hI.k (by simpa using HW162.out.2)
              have c15 := h15k.cell (j := 0) (v := .int .i64 1) rfl
              have c16 := hI.x.cell (j := 0) (v := .int .i64 (n : Int)) rfl
              have f16 := hI.x.frozen 0
              have c7 := KW.x7.cell (j := 0) (v := .int .i64 a3) rfl
              have c8 := KW.x8.cell (j := 0) (v := .bool false) rfl
              have f8 := KW.x8.frozen 0
              have c9 := KW.x9.cell (j := 0) (v := .slice Aw o.s.length cw) rfl
              have hcw := Rd.cell KW.r (j := n) hnN
              have hixw := fun W => Rdv.ix KW.r el22 hnN .i64 W
              have hps : PS[n] = ((n : Int), gi WL n) := Prod.ext (HPG.out n hpl).1 (HPG.out n hpl).2
              have hnx := fun h : (x1, x2) = PS[n] => pre_next hp hn hpl h
              have hno := fun h : (x1, x2) ≠ PS[n] => pre_not hn hpl h
              rw [hps] at hnx hno
              have HNX := Lib.hid hnx
              have HNO := Lib.hid hno
              have HI := Lib.hid hI
              have HC := Lib.hid hC
              have n15 := HW162.out.2
              have n7 := HKO2.out.h7
              have hnb : (n : Int) + 1 ≤ 1000001 := by have := HLL.out.1; omega
              clear hps hnx hno hI hC hp KW h15k hpl
              generalize gi WL n = v at *
              by_cases h1 : x1 = (n : Int)
              · subst h1
                by_cases h2 : x2 = v
                · subst h2
                  have e1 : ((n : Int) != (n : Int)) = false := bne_f rfl
                  have e2 : (x2 != x2) = false := bne_f rfl
                  obtain ⟨p1, p2⟩ := HNX.out rfl
                  have HP1 := Lib.hid p1
                  have HP2 := Lib.hid p2
                  have HX := Lib.hid (HI.out.next HW162.out.1 (.int .i64 ((n : Int) + 1)) (by push_cast; rfl))
                  have d15 := ((X152.out.kp HX.out.2.2.k (by simpa using HW162.out.2))).cell (j := 0) (v := .int .i64 1) rfl
                  have d16 := HX.out.2.2.x.cell (j := 0) (v := .int .i64 ((n + 1 : Nat) : Int)) rfl
                  have d7 := ((KR2.out.kp HIT.out HKO2.out HX.out.2.2.k HX.out.2.2.bl)).x7.cell (j := 0) (v := .int .i64 a3) rfl
                  have wn : IntKind.i64.wrap ((n : Int) + 1) = (n : Int) + 1 := IntWalk.i64_in _ (by omega)
                  push_cast at d16
                  clear p1 p2 HNX HNO e1 hnb wn
                  gi_wp2
                  exact ⟨HX.out.1, HX.out.2.1, by rw [HP2.out]; exact HP1.out, trivial, by rw [HP2.out]; exact HX.out.2.2⟩
                · have e1 : ((n : Int) != (n : Int)) = false := bne_f rfl
                  have e2 : (x2 != v) = true := bne_t h2
                  have HFX := Lib.hid (HNO.out (fun h => h2 (by injection h)))
                  clear HNX HNO h2
                  gi_wp2
                  exact ⟨KeepsOthers.setCell _ _ _, .inl HFX.out⟩
              · have e1 : (x1 != (n : Int)) = true := bne_t h1
                have HFX := Lib.hid (HNO.out (fun h => h1 (by injection h)))
                clear HNX HNO h1
                gi_wp2
                exact ⟨KeepsOthers.setCell _ _ _, .inl HFX.out⟩
            case done2 =>
              rintro D2 ys W hD hys ⟨-, hC, hI⟩ hK
              rw [hys, HPL.out] at hI
              clear hys
              have hnn : (((o.s.length : Nat) : Int) != ((o.s.length : Nat) : Int)) = false := bne_f rfl
              have KWH2 := Lib.hid (KR2.out.kp HIT.out HKO2.out hI.k hI.bl)
              have c15 := (X152.out.kp hI.k (by simpa using HW162.out.2)).cell (j := 0) (v := .int .i64 1) rfl
              have c16 := hI.x.cell (j := 0) (v := .int .i64 ((o.s.length : Nat) : Int)) rfl
              have c7 := KWH2.out.x7.cell (j := 0) (v := .int .i64 a3) rfl
              have c9 := KWH2.out.x9.cell (j := 0) (v := .slice Aw o.s.length cw) rfl
              have HKI2 := Lib.hid hI.k
              have HKD2 := Lib.hid hK
              have HD2D : Hid (W.heap[D]? = some (.deferred (some []))) := Lib.hid (hI.d D rfl)
              have HBLW := Lib.hid hI.bl
              have hsk := HSR2.out
              have hwk := HW162.out.1
              have hw7 := HKO2.out.h7
              have hdv := heap_lt' HDW.out
              have hlo := HDlo.out
              have hx9 := HX9LT.out
              have hz9 := HZ9.out
              have hs1 : w.heap.size + 1 < D2 := by omega
              have hs2 : w.heap.size + 1 < D := by omega
              have hs3 : D < D2 := by omega
              clear hI hK hC hsk hwk hw7 hdv hlo hx9 hz9
              dsimp only
              go_wp2_with fail
              rw [rounds_succ]
              go_wp2_with fail
              refine (works_any _).mono ?_
              rintro e w20 ⟨rfl, hB20⟩
              have hb20 : Below W.heap.size W w20 := ((Below.refl _ W).alloc (Nat.le_refl _) _).trans (hB20.mono (by simp))
              have z8 := KWH2.out.x8.below hb20
              have c8 := z8.cell (j := 0) (v := .bool false) rfl
              have f8 := z8.frozen 0
              have Z8 := Lib.hid (z8.set 0 (.bool true))
              have d2 : (w20.setCell ⟨w.heap.size + 1, 0, none⟩ (.bool true)).heap[D2]? = some (.deferred (some [])) := (KeepsOthers.setCell w20 _ _).same D2 _ ((hb20.block D2 (heap_lt' HKD2.out)).trans HKD2.out) rfl
              have d1 : (w20.setCell ⟨w.heap.size + 1, 0, none⟩ (.bool true)).heap[D]? = some (.deferred (some [])) := (KeepsOthers.setCell w20 _ _).same D _ ((hb20.block D (heap_lt' HD2D.out)).trans HD2D.out) rfl
              have hbl := (HBLW.out.trans (hb20.mono HBLW.out.size)).setCell (p := ⟨w.heap.size + 1, 0, none⟩) (Nat.le_succ _) (.bool true)
              have hbl2 := hbl.grown (grownBy_putObj' _ D2 (.deferred none)) hbl.size (fun r e => by cases e; omega)
              have hbl3 := hbl2.grown (grownBy_putObj' _ D (.deferred none)) hbl2.size (fun r e => by cases e; omega)
              have HD1 := Lib.hid d1
              have HD2 := Lib.hid d2
              have HBL3 := Lib.hid hbl3
              have hdd : D ≠ D2 := by omega
              have hd8 : w.heap.size + 1 ≠ D2 ∧ w.heap.size + 1 ≠ D := by omega
              clear hb20 z8 hB20 d1 d2 hbl hbl2 hbl3
              go_wp2
              have b6 := ((Z8.out.grown (grownBy_putObj' _ D2 (.deferred none)) hd8.1).grown (grownBy_putObj' _ D (.deferred none)) hd8.2)
              have l1 := load_bool b6
              refine ⟨by simp, .inl ⟨_, _, rfl, run_takeDeferred HD2.out, by simp, .inl ⟨_, _, rfl, run_takeDeferred ((World.putObj_heap_other (by omega)).trans HD1.out), ?_⟩⟩⟩
              refine ⟨.bool true, ?_, rfl, HBL3.out⟩
              rw [results_c rfl]
              simp [asAddr, l1, Sem.run_pure]
            case stop2 =>
              rintro D2 c pre W hD ⟨k, hk, hpk⟩ hx hK
              rcases hx with hx | ⟨rfl, hC, hI⟩
              · exact absurd hpk (hx k)
              · exact hC.elim
          · dsimp only
            go_wp2_with fail
            obtain ⟨Wu, hWu⟩ : ∃ Wu, Wu = W.alloc (.cells #[.int .i64 1] 3) := ⟨_, rfl⟩
            have x15 : Blk Wu W.heap.size 3 [.int .i64 1] := by rw [hWu]; exact Blk.new W [.int .i64 1] 3 rfl
            have kt : KpF w.heap.size (w.heap.size + 1) b9 a3 Aw o.s.length cw WL Fw w Wu := by rw [hWu]; exact KWH.out.below HIT.out ((Below.refl _ W).alloc (Nat.le_refl _) _)
            have HDt : Hid (Wu.heap[D]? = some (.deferred (some []))) := Lib.hid (by rw [hWu]; exact heap_old' HKD.out)
            have hst : Wu.heap.size = W.heap.size + 1 := by rw [hWu]; simp
            have hwsz := HKI.out.1
            have hsr0 := HSR.out
            have h15 : w9.heap.size ≤ W.heap.size := by omega
            have HDlo : Hid (w9.heap.size ≤ D) := Lib.hid (by omega)
            rw [← hWu]
            clear hWu c15 c16 c7 c9 hD
            try clear hn0
            try clear hm
            try clear hl
            try clear h0
            generalize W.heap.size = b17 at *
            rw [rounds_succ]
            have c15 := x15.cell (j := 0) (v := .int .i64 1) rfl
            go_wp2_with fail
            obtain ⟨Wv, hWr⟩ : ∃ Wv, Wv = Wu.alloc (.cells #[.int .i64 0] 3) := ⟨_, rfl⟩
            have hbW : Below Wu.heap.size Wu Wv := by rw [hWr]; exact (Below.refl _ Wu).alloc (Nat.le_refl _) _
            have x16 : Blk Wv (b17 + 1) 3 [.int .i64 ((0 : Nat) : Int)] := by rw [hWr]; exact Blk.new Wu [.int .i64 0] 3 hst.symm
            have X153 := Lib.hid (x15.below hbW)
            have KR3 := Lib.hid (kt.below HIT.out hbW)
            have hsr : Wv.heap.size = Wu.heap.size + 1 := by rw [hWr]; simp
            have HDW : Hid (Wv.heap[D]? = some (.deferred (some []))) := Lib.hid ((hbW.block D (heap_lt' HDt.out)).trans HDt.out)
            have hdv := heap_lt' HDW.out
            rw [← hWr]
            clear hWr hbW x15 kt c15
            have hsr : Wv.heap.size = b17 + 1 + 1 := by rw [hsr, hst]
            clear hst
            generalize hb16 : b17 + 1 = b18 at *
            have h16 : b17 < b18 := by omega
            clear hb16
            have HKO3 : Hid (KpO w.heap.size (w.heap.size + 1) b9 Aw Ok b18) := Lib.hid ⟨by omega, by omega, by omega, fun a ha => by have := HAW.out a ha; omega, HFR.out _ (by omega)⟩
            have HW163 : Hid (w.heap.size ≤ b18 ∧ b17 ≠ b18) := Lib.hid ⟨by omega, by omega⟩
            have HSR3 : Hid (Wv.heap.size = b18 + 1) := Lib.hid (by omega)
            refine (wpIn_wide (n := 3)).1 ?_
            refine' rangeC (w0 := Wv) (gf := 40) (lb := lb) rfl (enters_of Try.func40 (by kernel_rfl) rfl) (HIT.out.seq b18 Wv HKO3.out.ok KR3.out.fw (by omega)) KpB.trans (fun W l o o' hl h1 h2 => KpB.put o' h1 h2) (Below.refl _ _) (fun _ => rfl)
              (Lp0 PS w Wv b18 (some D) (fun _ => True)) (Lpx PS w Wv b18 (some D) (fun _ => False) 4) (Lp0.cl (by omega) (by omega) (fun D e => by cases e; omega)) (fun c => Lpx.cl (by omega) (by omega) (fun D e => by cases e; omega) c) ⟨rfl, trivial, ⟨x16, KpB.refl _ _, KR3.out.bl, fun D e => by cases e; exact HDW.out⟩⟩ _ ?assign3 ?body3 ?done3 ?stop3
            case assign3 =>
              intro l x W K hK
              unfold encP
              gi_wp2
              exact hK
            case body3 =>
              rintro l pre ⟨x1, x2⟩ W ⟨hp, hC, hI⟩ hpl
              dsimp only
              obtain ⟨n, hn⟩ : ∃ n, pre.length = n := ⟨_, rfl⟩
              rw [hn] at hI hpl
              have KW := KR3.out.kp HIT.out HKO3.out hI.k hI.bl
              have hnN : n < o.s.length := by rw [← HPL.out]; exact hpl
              have h15k := X153.out.kp hI.k (by simpa using HW163.out.2)
              have c15 := h15k.cell (j := 0) (v := .int .i64 1) rfl
              have c16 := hI.x.cell (j := 0) (v := .int .i64 (n : Int)) rfl
              have f16 := hI.x.frozen 0
              have c7 := KW.x7.cell (j := 0) (v := .int .i64 a3) rfl
              have c8 := KW.x8.cell (j := 0) (v := .bool false) rfl
              have f8 := KW.x8.frozen 0
              have c9 := KW.x9.cell (j := 0) (v := .slice Aw o.s.length cw) rfl
              have hcw := Rd.cell KW.r (j := n) hnN
              have hixw := fun W => Rdv.ix KW.r el22 hnN .i64 W
              have hps : PS[n] = ((n : Int), gi WL n) := Prod.ext (HPG.out n hpl).1 (HPG.out n hpl).2
              have hnx := fun h : (x1, x2) = PS[n] => pre_next hp hn hpl h
              have hno := fun h : (x1, x2) ≠ PS[n] => pre_not hn hpl h
              rw [hps] at hnx hno
              have HNX := Lib.hid hnx
              have HNO := Lib.hid hno
              have HI := Lib.hid hI
              have HC := Lib.hid hC
              have n15 := HW163.out.2
              have n7 := HKO3.out.h7
              have hnb : (n : Int) + 1 ≤ 1000001 := by have := HLL.out.1; omega
              clear hps hnx hno hI hC hp KW h15k hpl
              generalize gi WL n = v at *
              by_cases h1 : x1 = (n : Int)
              · subst h1
                by_cases h2 : x2 = v
                · subst h2
                  have e1 : ((n : Int) != (n : Int)) = false := bne_f rfl
                  have e2 : (x2 != x2) = false := bne_f rfl
                  obtain ⟨p1, p2⟩ := HNX.out rfl
                  have HP1 := Lib.hid p1
                  have HP2 := Lib.hid p2
                  have HX := Lib.hid (HI.out.next HW163.out.1 (.int .i64 ((n : Int) + 1)) (by push_cast; rfl))
                  have d15 := ((X153.out.kp HX.out.2.2.k (by simpa using HW163.out.2))).cell (j := 0) (v := .int .i64 1) rfl
                  have d16 := HX.out.2.2.x.cell (j := 0) (v := .int .i64 ((n + 1 : Nat) : Int)) rfl
                  have d7 := ((KR3.out.kp HIT.out HKO3.out HX.out.2.2.k HX.out.2.2.bl)).x7.cell (j := 0) (v := .int .i64 a3) rfl
                  have wn : IntKind.i64.wrap ((n : Int) + 1) = (n : Int) + 1 := IntWalk.i64_in _ (by omega)
                  push_cast at d16
                  clear p1 p2 HNX HNO e1 hnb wn
                  gi_wp2
                  exact ⟨HX.out.1, HX.out.2.1, by rw [HP2.out]; exact HP1.out, trivial, by rw [HP2.out]; exact HX.out.2.2⟩
                · have e1 : ((n : Int) != (n : Int)) = false := bne_f rfl
                  have e2 : (x2 != v) = true := bne_t h2
                  have HFX := Lib.hid (HNO.out (fun h => h2 (by injection h)))
                  clear HNX HNO h2
                  gi_wp2
                  exact ⟨KeepsOthers.setCell _ _ _, .inl HFX.out⟩
              · have e1 : (x1 != (n : Int)) = true := bne_t h1
                have HFX := Lib.hid (HNO.out (fun h => h1 (by injection h)))
                clear HNX HNO h1
                gi_wp2
                exact ⟨KeepsOthers.setCell _ _ _, .inl HFX.out⟩
            case done3 =>
              rintro D2 ys W hD hys ⟨-, hC, hI⟩ hK
              rw [hys, HPL.out] at hI
              clear hys
              have hnn : (((o.s.length : Nat) : Int) != ((o.s.length : Nat) : Int)) = false := bne_f rfl
              have KWH3 := Lib.hid (KR3.out.kp HIT.out HKO3.out hI.k hI.bl)
              have c15 := (X153.out.kp hI.k (by simpa using HW163.out.2)).cell (j := 0) (v := .int .i64 1) rfl
              have c16 := hI.x.cell (j := 0) (v := .int .i64 ((o.s.length : Nat) : Int)) rfl
              have c7 := KWH3.out.x7.cell (j := 0) (v := .int .i64 a3) rfl
              have c9 := KWH3.out.x9.cell (j := 0) (v := .slice Aw o.s.length cw) rfl
              have HKI3 := Lib.hid hI.k
              have HKD3 := Lib.hid hK
              have HD2D : Hid (W.heap[D]? = some (.deferred (some []))) := Lib.hid (hI.d D rfl)
              have HBLW := Lib.hid hI.bl
              have hsk := HSR3.out
              have hwk := HW163.out.1
              have hw7 := HKO3.out.h7
              have hdv := heap_lt' HDW.out
              have hlo := HDlo.out
              have hx9 := HX9LT.out
              have hz9 := HZ9.out
              have hs1 : w.heap.size + 1 < D2 := by omega
              have hs2 : w.heap.size + 1 < D := by omega
              have hs3 : D < D2 := by omega
              clear hI hK hC hsk hwk hw7 hdv hlo hx9 hz9
              dsimp only
              go_wp2_with fail
              rw [rounds_succ]
              go_wp2_with fail
              refine (works_any _).mono ?_
              rintro e w20 ⟨rfl, hB20⟩
              have hb20 : Below W.heap.size W w20 := ((Below.refl _ W).alloc (Nat.le_refl _) _).trans (hB20.mono (by simp))
              have z8 := KWH3.out.x8.below hb20
              have c8 := z8.cell (j := 0) (v := .bool false) rfl
              have f8 := z8.frozen 0
              have Z8 := Lib.hid (z8.set 0 (.bool true))
              have d2 : (w20.setCell ⟨w.heap.size + 1, 0, none⟩ (.bool true)).heap[D2]? = some (.deferred (some [])) := (KeepsOthers.setCell w20 _ _).same D2 _ ((hb20.block D2 (heap_lt' HKD3.out)).trans HKD3.out) rfl
              have d1 : (w20.setCell ⟨w.heap.size + 1, 0, none⟩ (.bool true)).heap[D]? = some (.deferred (some [])) := (KeepsOthers.setCell w20 _ _).same D _ ((hb20.block D (heap_lt' HD2D.out)).trans HD2D.out) rfl
              have hbl := (HBLW.out.trans (hb20.mono HBLW.out.size)).setCell (p := ⟨w.heap.size + 1, 0, none⟩) (Nat.le_succ _) (.bool true)
              have hbl2 := hbl.grown (grownBy_putObj' _ D2 (.deferred none)) hbl.size (fun r e => by cases e; omega)
              have hbl3 := hbl2.grown (grownBy_putObj' _ D (.deferred none)) hbl2.size (fun r e => by cases e; omega)
              have HD1 := Lib.hid d1
              have HD2 := Lib.hid d2
              have HBL3 := Lib.hid hbl3
              have hdd : D ≠ D2 := by omega
              have hd8 : w.heap.size + 1 ≠ D2 ∧ w.heap.size + 1 ≠ D := by omega
              clear hb20 z8 hB20 d1 d2 hbl hbl2 hbl3
              go_wp2
              have b6 := ((Z8.out.grown (grownBy_putObj' _ D2 (.deferred none)) hd8.1).grown (grownBy_putObj' _ D (.deferred none)) hd8.2)
              have l1 := load_bool b6
              refine ⟨by simp, .inl ⟨_, _, rfl, run_takeDeferred HD2.out, by simp, .inl ⟨_, _, rfl, run_takeDeferred ((World.putObj_heap_other (by omega)).trans HD1.out), ?_⟩⟩⟩
              refine ⟨.bool true, ?_, rfl, HBL3.out⟩
              rw [results_c rfl]
              simp [asAddr, l1, Sem.run_pure]
            case stop3 =>
              rintro D2 c pre W hD ⟨k, hk, hpk⟩ hx hK
              rcases hx with hx | ⟨rfl, hC, hI⟩
              · exact absurd hpk (hx k)
              · exact hC.elim
        · by_cases hm : a3 ≤ 1
          · dsimp only
            go_wp2_with fail
            obtain ⟨Wu, hWu⟩ : ∃ Wu, Wu = W.alloc (.cells #[.int .i64 1] 3) := ⟨_, rfl⟩
            have x15 : Blk Wu W.heap.size 3 [.int .i64 1] := by rw [hWu]; exact Blk.new W [.int .i64 1] 3 rfl
            have kt : KpF w.heap.size (w.heap.size + 1) b9 a3 Aw o.s.length cw WL Fw w Wu := by rw [hWu]; exact KWH.out.below HIT.out ((Below.refl _ W).alloc (Nat.le_refl _) _)
            have HDt : Hid (Wu.heap[D]? = some (.deferred (some []))) := Lib.hid (by rw [hWu]; exact heap_old' HKD.out)
            have hst : Wu.heap.size = W.heap.size + 1 := by rw [hWu]; simp
            have hwsz := HKI.out.1
            have hsr0 := HSR.out
            have h15 : w9.heap.size ≤ W.heap.size := by omega
            have HDlo : Hid (w9.heap.size ≤ D) := Lib.hid (by omega)
            rw [← hWu]
            clear hWu c15 c16 c7 c9 hD
            try clear hn0
            try clear hm
            try clear hl
            try clear h0
            generalize W.heap.size = b17 at *
            rw [rounds_succ]
            have c15 := x15.cell (j := 0) (v := .int .i64 1) rfl
            go_wp2_with fail
            obtain ⟨Wv, hWr⟩ : ∃ Wv, Wv = Wu.alloc (.cells #[.int .i64 0] 3) := ⟨_, rfl⟩
            have hbW : Below Wu.heap.size Wu Wv := by rw [hWr]; exact (Below.refl _ Wu).alloc (Nat.le_refl _) _
            have x16 : Blk Wv (b17 + 1) 3 [.int .i64 ((0 : Nat) : Int)] := by rw [hWr]; exact Blk.new Wu [.int .i64 0] 3 hst.symm
            have X154 := Lib.hid (x15.below hbW)
            have KR4 := Lib.hid (kt.below HIT.out hbW)
            have hsr : Wv.heap.size = Wu.heap.size + 1 := by rw [hWr]; simp
            have HDW : Hid (Wv.heap[D]? = some (.deferred (some []))) := Lib.hid ((hbW.block D (heap_lt' HDt.out)).trans HDt.out)
            have hdv := heap_lt' HDW.out
            rw [← hWr]
            clear hWr hbW x15 kt c15
            have hsr : Wv.heap.size = b17 + 1 + 1 := by rw [hsr, hst]
            clear hst
            generalize hb16 : b17 + 1 = b18 at *
            have h16 : b17 < b18 := by omega
            clear hb16
            have HKO4 : Hid (KpO w.heap.size (w.heap.size + 1) b9 Aw Ok b18) := Lib.hid ⟨by omega, by omega, by omega, fun a ha => by have := HAW.out a ha; omega, HFR.out _ (by omega)⟩
            have HW164 : Hid (w.heap.size ≤ b18 ∧ b17 ≠ b18) := Lib.hid ⟨by omega, by omega⟩
            have HSR4 : Hid (Wv.heap.size = b18 + 1) := Lib.hid (by omega)
            refine (wpIn_wide (n := 3)).1 ?_
            refine' rangeC (w0 := Wv) (gf := 40) (lb := lb) rfl (enters_of Try.func40 (by kernel_rfl) rfl) (HIT.out.seq b18 Wv HKO4.out.ok KR4.out.fw (by omega)) KpB.trans (fun W l o o' hl h1 h2 => KpB.put o' h1 h2) (Below.refl _ _) (fun _ => rfl)
              (Lp0 PS w Wv b18 (some D) (fun _ => True)) (Lpx PS w Wv b18 (some D) (fun _ => False) 4) (Lp0.cl (by omega) (by omega) (fun D e => by cases e; omega)) (fun c => Lpx.cl (by omega) (by omega) (fun D e => by cases e; omega) c) ⟨rfl, trivial, ⟨x16, KpB.refl _ _, KR4.out.bl, fun D e => by cases e; exact HDW.out⟩⟩ _ ?assign4 ?body4 ?done4 ?stop4
            case assign4 =>
              intro l x W K hK
              unfold encP
              gi_wp2
              exact hK
            case body4 =>
              rintro l pre ⟨x1, x2⟩ W ⟨hp, hC, hI⟩ hpl
              dsimp only
              obtain ⟨n, hn⟩ : ∃ n, pre.length = n := ⟨_, rfl⟩
              rw [hn] at hI hpl
              have KW := KR4.out.kp HIT.out HKO4.out hI.k hI.bl
              have hnN : n < o.s.length := by rw [← HPL.out]; exact hpl
              have h15k := X154.out.kp hI.k (by simpa using HW164.out.2)
              have c15 := h15k.cell (j := 0) (v := .int .i64 1) rfl
              have c16 := hI.x.cell (j := 0) (v := .int .i64 (n : Int)) rfl
              have f16 := hI.x.frozen 0
              have c7 := KW.x7.cell (j := 0) (v := .int .i64 a3) rfl
              have c8 := KW.x8.cell (j := 0) (v := .bool false) rfl
              have f8 := KW.x8.frozen 0
              have c9 := KW.x9.cell (j := 0) (v := .slice Aw o.s.length cw) rfl
              have hcw := Rd.cell KW.r (j := n) hnN
              have hixw := fun W => Rdv.ix KW.r el22 hnN .i64 W
              have hps : PS[n] = ((n : Int), gi WL n) := Prod.ext (HPG.out n hpl).1 (HPG.out n hpl).2
              have hnx := fun h : (x1, x2) = PS[n] => pre_next hp hn hpl h
              have hno := fun h : (x1, x2) ≠ PS[n] => pre_not hn hpl h
              rw [hps] at hnx hno
              have HNX := Lib.hid hnx
              have HNO := Lib.hid hno
              have HI := Lib.hid hI
              have HC := Lib.hid hC
              have n15 := HW164.out.2
              have n7 := HKO4.out.h7
              have hnb : (n : Int) + 1 ≤ 1000001 := by have := HLL.out.1; omega
              clear hps hnx hno hI hC hp KW h15k hpl
              generalize gi WL n = v at *
              by_cases h1 : x1 = (n : Int)
              · subst h1
                by_cases h2 : x2 = v
                · subst h2
                  have e1 : ((n : Int) != (n : Int)) = false := bne_f rfl
                  have e2 : (x2 != x2) = false := bne_f rfl
                  obtain ⟨p1, p2⟩ := HNX.out rfl
                  have HP1 := Lib.hid p1
                  have HP2 := Lib.hid p2
                  have HX := Lib.hid (HI.out.next HW164.out.1 (.int .i64 ((n : Int) + 1)) (by push_cast; rfl))
                  have d15 := ((X154.out.kp HX.out.2.2.k (by simpa using HW164.out.2))).cell (j := 0) (v := .int .i64 1) rfl
                  have d16 := HX.out.2.2.x.cell (j := 0) (v := .int .i64 ((n + 1 : Nat) : Int)) rfl
                  have d7 := ((KR4.out.kp HIT.out HKO4.out HX.out.2.2.k HX.out.2.2.bl)).x7.cell (j := 0) (v := .int .i64 a3) rfl
                  have wn : IntKind.i64.wrap ((n : Int) + 1) = (n : Int) + 1 := IntWalk.i64_in _ (by omega)
                  push_cast at d16
                  clear p1 p2 HNX HNO e1 hnb wn
                  gi_wp2
                  exact ⟨HX.out.1, HX.out.2.1, by rw [HP2.out]; exact HP1.out, trivial, by rw [HP2.out]; exact HX.out.2.2⟩
                · have e1 : ((n : Int) != (n : Int)) = false := bne_f rfl
                  have e2 : (x2 != v) = true := bne_t h2
                  have HFX := Lib.hid (HNO.out (fun h => h2 (by injection h)))
                  clear HNX HNO h2
                  gi_wp2
                  exact ⟨KeepsOthers.setCell _ _ _, .inl HFX.out⟩
              · have e1 : (x1 != (n : Int)) = true := bne_t h1
                have HFX := Lib.hid (HNO.out (fun h => h1 (by injection h)))
                clear HNX HNO h1
                gi_wp2
                exact ⟨KeepsOthers.setCell _ _ _, .inl HFX.out⟩
            case done4 =>
              rintro D2 ys W hD hys ⟨-, hC, hI⟩ hK
              rw [hys, HPL.out] at hI
              clear hys
              have hnn : (((o.s.length : Nat) : Int) != ((o.s.length : Nat) : Int)) = false := bne_f rfl
              have KWH4 := Lib.hid (KR4.out.kp HIT.out HKO4.out hI.k hI.bl)
              have c15 := (X154.out.kp hI.k (by simpa using HW164.out.2)).cell (j := 0) (v := .int .i64 1) rfl
              have c16 := hI.x.cell (j := 0) (v := .int .i64 ((o.s.length : Nat) : Int)) rfl
              have c7 := KWH4.out.x7.cell (j := 0) (v := .int .i64 a3) rfl
              have c9 := KWH4.out.x9.cell (j := 0) (v := .slice Aw o.s.length cw) rfl
              have HKI4 := Lib.hid hI.k
              have HKD4 := Lib.hid hK
              have HD2D : Hid (W.heap[D]? = some (.deferred (some []))) := Lib.hid (hI.d D rfl)
              have HBLW := Lib.hid hI.bl
              have hsk := HSR4.out
              have hwk := HW164.out.1
              have hw7 := HKO4.out.h7
              have hdv := heap_lt' HDW.out
              have hlo := HDlo.out
              have hx9 := HX9LT.out
              have hz9 := HZ9.out
              have hs1 : w.heap.size + 1 < D2 := by omega
              have hs2 : w.heap.size + 1 < D := by omega
              have hs3 : D < D2 := by omega
              clear hI hK hC hsk hwk hw7 hdv hlo hx9 hz9
              dsimp only
              go_wp2_with fail
              rw [rounds_succ]
              go_wp2_with fail
              refine (works_any _).mono ?_
              rintro e w20 ⟨rfl, hB20⟩
              have hb20 : Below W.heap.size W w20 := ((Below.refl _ W).alloc (Nat.le_refl _) _).trans (hB20.mono (by simp))
              have z8 := KWH4.out.x8.below hb20
              have c8 := z8.cell (j := 0) (v := .bool false) rfl
              have f8 := z8.frozen 0
              have Z8 := Lib.hid (z8.set 0 (.bool true))
              have d2 : (w20.setCell ⟨w.heap.size + 1, 0, none⟩ (.bool true)).heap[D2]? = some (.deferred (some [])) := (KeepsOthers.setCell w20 _ _).same D2 _ ((hb20.block D2 (heap_lt' HKD4.out)).trans HKD4.out) rfl
              have d1 : (w20.setCell ⟨w.heap.size + 1, 0, none⟩ (.bool true)).heap[D]? = some (.deferred (some [])) := (KeepsOthers.setCell w20 _ _).same D _ ((hb20.block D (heap_lt' HD2D.out)).trans HD2D.out) rfl
              have hbl := (HBLW.out.trans (hb20.mono HBLW.out.size)).setCell (p := ⟨w.heap.size + 1, 0, none⟩) (Nat.le_succ _) (.bool true)
              have hbl2 := hbl.grown (grownBy_putObj' _ D2 (.deferred none)) hbl.size (fun r e => by cases e; omega)
              have hbl3 := hbl2.grown (grownBy_putObj' _ D (.deferred none)) hbl2.size (fun r e => by cases e; omega)
              have HD1 := Lib.hid d1
              have HD2 := Lib.hid d2
              have HBL3 := Lib.hid hbl3
              have hdd : D ≠ D2 := by omega
              have hd8 : w.heap.size + 1 ≠ D2 ∧ w.heap.size + 1 ≠ D := by omega
              clear hb20 z8 hB20 d1 d2 hbl hbl2 hbl3
              go_wp2
              have b6 := ((Z8.out.grown (grownBy_putObj' _ D2 (.deferred none)) hd8.1).grown (grownBy_putObj' _ D (.deferred none)) hd8.2)
              have l1 := load_bool b6
              refine ⟨by simp, .inl ⟨_, _, rfl, run_takeDeferred HD2.out, by simp, .inl ⟨_, _, rfl, run_takeDeferred ((World.putObj_heap_other (by omega)).trans HD1.out), ?_⟩⟩⟩
              refine ⟨.bool true, ?_, rfl, HBL3.out⟩
              rw [results_c rfl]
              simp [asAddr, l1, Sem.run_pure]
            case stop4 =>
              rintro D2 c pre W hD ⟨k, hk, hpk⟩ hx hK
              rcases hx with hx | ⟨rfl, hC, hI⟩
              · exact absurd hpk (hx k)
              · exact hC.elim
          · dsimp only
            go_wp2_with fail
            obtain ⟨Wu, hWu⟩ : ∃ Wu, Wu = W.alloc (.cells #[.int .i64 1] 3) := ⟨_, rfl⟩
            have x15 : Blk Wu W.heap.size 3 [.int .i64 1] := by rw [hWu]; exact Blk.new W [.int .i64 1] 3 rfl
            have kt : KpF w.heap.size (w.heap.size + 1) b9 a3 Aw o.s.length cw WL Fw w Wu := by rw [hWu]; exact KWH.out.below HIT.out ((Below.refl _ W).alloc (Nat.le_refl _) _)
            have HDt : Hid (Wu.heap[D]? = some (.deferred (some []))) := Lib.hid (by rw [hWu]; exact heap_old' HKD.out)
            have hst : Wu.heap.size = W.heap.size + 1 := by rw [hWu]; simp
            have hwsz := HKI.out.1
            have hsr0 := HSR.out
            have h15 : w9.heap.size ≤ W.heap.size := by omega
            have HDlo : Hid (w9.heap.size ≤ D) := Lib.hid (by omega)
            rw [← hWu]
            clear hWu c15 c16 c7 c9 hD
            try clear hn0
            try clear hm
            try clear hl
            try clear h0
            generalize W.heap.size = b17 at *
            rw [rounds_succ]
            have c15 := x15.cell (j := 0) (v := .int .i64 1) rfl
            go_wp2_with fail
            obtain ⟨Wv, hWr⟩ : ∃ Wv, Wv = Wu.alloc (.cells #[.int .i64 0] 3) := ⟨_, rfl⟩
            have hbW : Below Wu.heap.size Wu Wv := by rw [hWr]; exact (Below.refl _ Wu).alloc (Nat.le_refl _) _
            have x16 : Blk Wv (b17 + 1) 3 [.int .i64 ((0 : Nat) : Int)] := by rw [hWr]; exact Blk.new Wu [.int .i64 0] 3 hst.symm
            have X155 := Lib.hid (x15.below hbW)
            have KR5 := Lib.hid (kt.below HIT.out hbW)
            have hsr : Wv.heap.size = Wu.heap.size + 1 := by rw [hWr]; simp
            have HDW : Hid (Wv.heap[D]? = some (.deferred (some []))) := Lib.hid ((hbW.block D (heap_lt' HDt.out)).trans HDt.out)
            have hdv := heap_lt' HDW.out
            rw [← hWr]
            clear hWr hbW x15 kt c15
            have hsr : Wv.heap.size = b17 + 1 + 1 := by rw [hsr, hst]
            clear hst
            generalize hb16 : b17 + 1 = b18 at *
            have h16 : b17 < b18 := by omega
            clear hb16
            have HKO5 : Hid (KpO w.heap.size (w.heap.size + 1) b9 Aw Ok b18) := Lib.hid ⟨by omega, by omega, by omega, fun a ha => by have := HAW.out a ha; omega, HFR.out _ (by omega)⟩
            have HW165 : Hid (w.heap.size ≤ b18 ∧ b17 ≠ b18) := Lib.hid ⟨by omega, by omega⟩
            have HSR5 : Hid (Wv.heap.size = b18 + 1) := Lib.hid (by omega)
            refine (wpIn_wide (n := 3)).1 ?_
            refine' rangeC (w0 := Wv) (gf := 40) (lb := lb) rfl (enters_of Try.func40 (by kernel_rfl) rfl) (HIT.out.seq b18 Wv HKO5.out.ok KR5.out.fw (by omega)) KpB.trans (fun W l o o' hl h1 h2 => KpB.put o' h1 h2) (Below.refl _ _) (fun _ => rfl)
              (Lp0 PS w Wv b18 (some D) (fun _ => True)) (Lpx PS w Wv b18 (some D) (fun _ => False) 4) (Lp0.cl (by omega) (by omega) (fun D e => by cases e; omega)) (fun c => Lpx.cl (by omega) (by omega) (fun D e => by cases e; omega) c) ⟨rfl, trivial, ⟨x16, KpB.refl _ _, KR5.out.bl, fun D e => by cases e; exact HDW.out⟩⟩ _ ?assign5 ?body5 ?done5 ?stop5
            case assign5 =>
              intro l x W K hK
              unfold encP
              gi_wp2
              exact hK
            case body5 =>
              rintro l pre ⟨x1, x2⟩ W ⟨hp, hC, hI⟩ hpl
              dsimp only
              obtain ⟨n, hn⟩ : ∃ n, pre.length = n := ⟨_, rfl⟩
              rw [hn] at hI hpl
              have KW := KR5.out.kp HIT.out HKO5.out hI.k hI.bl
              have hnN : n < o.s.length := by rw [← HPL.out]; exact hpl
              have h15k := X155.out.kp hI.k (by simpa using HW165.out.2)
              have c15 := h15k.cell (j := 0) (v := .int .i64 1) rfl
              have c16 := hI.x.cell (j := 0) (v := .int .i64 (n : Int)) rfl
              have f16 := hI.x.frozen 0
              have c7 := KW.x7.cell (j := 0) (v := .int .i64 a3) rfl
              have c8 := KW.x8.cell (j := 0) (v := .bool false) rfl
              have f8 := KW.x8.frozen 0
              have c9 := KW.x9.cell (j := 0) (v := .slice Aw o.s.length cw) rfl
              have hcw := Rd.cell KW.r (j := n) hnN
              have hixw := fun W => Rdv.ix KW.r el22 hnN .i64 W
              have hps : PS[n] = ((n : Int), gi WL n) := Prod.ext (HPG.out n hpl).1 (HPG.out n hpl).2
              have hnx := fun h : (x1, x2) = PS[n] => pre_next hp hn hpl h
              have hno := fun h : (x1, x2) ≠ PS[n] => pre_not hn hpl h
              rw [hps] at hnx hno
              have HNX := Lib.hid hnx
              have HNO := Lib.hid hno
              have HI := Lib.hid hI
              have HC := Lib.hid hC
              have n15 := HW165.out.2
              have n7 := HKO5.out.h7
              have hnb : (n : Int) + 1 ≤ 1000001 := by have := HLL.out.1; omega
              clear hps hnx hno hI hC hp KW h15k hpl
              generalize gi WL n = v at *
              by_cases h1 : x1 = (n : Int)
              · subst h1
                by_cases h2 : x2 = v
                · subst h2
                  have e1 : ((n : Int) != (n : Int)) = false := bne_f rfl
                  have e2 : (x2 != x2) = false := bne_f rfl
                  obtain ⟨p1, p2⟩ := HNX.out rfl
                  have HP1 := Lib.hid p1
                  have HP2 := Lib.hid p2
                  have HX := Lib.hid (HI.out.next HW165.out.1 (.int .i64 ((n : Int) + 1)) (by push_cast; rfl))
                  have d15 := ((X155.out.kp HX.out.2.2.k (by simpa using HW165.out.2))).cell (j := 0) (v := .int .i64 1) rfl
                  have d16 := HX.out.2.2.x.cell (j := 0) (v := .int .i64 ((n + 1 : Nat) : Int)) rfl
                  have d7 := ((KR5.out.kp HIT.out HKO5.out HX.out.2.2.k HX.out.2.2.bl)).x7.cell (j := 0) (v := .int .i64 a3) rfl
                  have wn : IntKind.i64.wrap ((n : Int) + 1) = (n : Int) + 1 := IntWalk.i64_in _ (by omega)
                  push_cast at d16
                  clear p1 p2 HNX HNO e1 hnb wn
                  gi_wp2
                  exact ⟨HX.out.1, HX.out.2.1, by rw [HP2.out]; exact HP1.out, trivial, by rw [HP2.out]; exact HX.out.2.2⟩
                · have e1 : ((n : Int) != (n : Int)) = false := bne_f rfl
                  have e2 : (x2 != v) = true := bne_t h2
                  have HFX := Lib.hid (HNO.out (fun h => h2 (by injection h)))
                  clear HNX HNO h2
                  gi_wp2
                  exact ⟨KeepsOthers.setCell _ _ _, .inl HFX.out⟩
              · have e1 : (x1 != (n : Int)) = true := bne_t h1
                have HFX := Lib.hid (HNO.out (fun h => h1 (by injection h)))
                clear HNX HNO h1
                gi_wp2
                exact ⟨KeepsOthers.setCell _ _ _, .inl HFX.out⟩
            case done5 =>
              rintro D2 ys W hD hys ⟨-, hC, hI⟩ hK
              rw [hys, HPL.out] at hI
              clear hys
              have hnn : (((o.s.length : Nat) : Int) != ((o.s.length : Nat) : Int)) = false := bne_f rfl
              have KWH5 := Lib.hid (KR5.out.kp HIT.out HKO5.out hI.k hI.bl)
              have c15 := (X155.out.kp hI.k (by simpa using HW165.out.2)).cell (j := 0) (v := .int .i64 1) rfl
              have c16 := hI.x.cell (j := 0) (v := .int .i64 ((o.s.length : Nat) : Int)) rfl
              have c7 := KWH5.out.x7.cell (j := 0) (v := .int .i64 a3) rfl
              have c9 := KWH5.out.x9.cell (j := 0) (v := .slice Aw o.s.length cw) rfl
              have HKI5 := Lib.hid hI.k
              have HKD5 := Lib.hid hK
              have HD2D : Hid (W.heap[D]? = some (.deferred (some []))) := Lib.hid (hI.d D rfl)
              have HBLW := Lib.hid hI.bl
              have hsk := HSR5.out
              have hwk := HW165.out.1
              have hw7 := HKO5.out.h7
              have hdv := heap_lt' HDW.out
              have hlo := HDlo.out
              have hx9 := HX9LT.out
              have hz9 := HZ9.out
              have hs1 : w.heap.size + 1 < D2 := by omega
              have hs2 : w.heap.size + 1 < D := by omega
              have hs3 : D < D2 := by omega
              clear hI hK hC hsk hwk hw7 hdv hlo hx9 hz9
              dsimp only
              go_wp2_with fail
              rw [rounds_succ]
              go_wp2_with fail
              refine (works_any _).mono ?_
              rintro e w20 ⟨rfl, hB20⟩
              have hb20 : Below W.heap.size W w20 := ((Below.refl _ W).alloc (Nat.le_refl _) _).trans (hB20.mono (by simp))
              have z8 := KWH5.out.x8.below hb20
              have c8 := z8.cell (j := 0) (v := .bool false) rfl
              have f8 := z8.frozen 0
              have Z8 := Lib.hid (z8.set 0 (.bool true))
              have d2 : (w20.setCell ⟨w.heap.size + 1, 0, none⟩ (.bool true)).heap[D2]? = some (.deferred (some [])) := (KeepsOthers.setCell w20 _ _).same D2 _ ((hb20.block D2 (heap_lt' HKD5.out)).trans HKD5.out) rfl
              have d1 : (w20.setCell ⟨w.heap.size + 1, 0, none⟩ (.bool true)).heap[D]? = some (.deferred (some [])) := (KeepsOthers.setCell w20 _ _).same D _ ((hb20.block D (heap_lt' HD2D.out)).trans HD2D.out) rfl
              have hbl := (HBLW.out.trans (hb20.mono HBLW.out.size)).setCell (p := ⟨w.heap.size + 1, 0, none⟩) (Nat.le_succ _) (.bool true)
              have hbl2 := hbl.grown (grownBy_putObj' _ D2 (.deferred none)) hbl.size (fun r e => by cases e; omega)
              have hbl3 := hbl2.grown (grownBy_putObj' _ D (.deferred none)) hbl2.size (fun r e => by cases e; omega)
              have HD1 := Lib.hid d1
              have HD2 := Lib.hid d2
              have HBL3 := Lib.hid hbl3
              have hdd : D ≠ D2 := by omega
              have hd8 : w.heap.size + 1 ≠ D2 ∧ w.heap.size + 1 ≠ D := by omega
              clear hb20 z8 hB20 d1 d2 hbl hbl2 hbl3
              go_wp2
              have b6 := ((Z8.out.grown (grownBy_putObj' _ D2 (.deferred none)) hd8.1).grown (grownBy_putObj' _ D (.deferred none)) hd8.2)
              have l1 := load_bool b6
              refine ⟨by simp, .inl ⟨_, _, rfl, run_takeDeferred HD2.out, by simp, .inl ⟨_, _, rfl, run_takeDeferred ((World.putObj_heap_other (by omega)).trans HD1.out), ?_⟩⟩⟩
              refine ⟨.bool true, ?_, rfl, HBL3.out⟩
              rw [results_c rfl]
              simp [asAddr, l1, Sem.run_pure]
            case stop5 =>
              rintro D2 c pre W hD ⟨k, hk, hpk⟩ hx hK
              rcases hx with hx | ⟨rfl, hC, hI⟩
              · exact absurd hpk (hx k)
              · exact hC.elim
      case stop =>
        rintro D c pre W hD ⟨k, hk, hpk⟩ hx hK
        rcases hx with hx | ⟨rfl, hC, hI⟩
        · exact absurd hpk (hx k)
        · refine wpIn_wide.2 ?_
          obtain ⟨nx, hn⟩ : ∃ nx, pre.length = nx := ⟨_, rfl⟩
          rw [hn] at hC hI
          clear hn hpk
          have KWH := Lib.hid (KR.out.kp HIT.out HKO.out hI.k hI.bl)
          have c15 := (X15.out.kp hI.k (by simpa using HW16.out.2)).cell (j := 0) (v := .int .i64 0) rfl
          have c16 := hI.x.cell (j := 0) (v := .int .i64 ((nx : Nat) : Int)) rfl
          have c7 := KWH.out.x7.cell (j := 0) (v := .int .i64 a3) rfl
          have c9 := KWH.out.x9.cell (j := 0) (v := .slice Aw o.s.length cw) rfl
          have HKI := Lib.hid hI.k
          have HKD := Lib.hid hK
          clear hI hK hk
          obtain ⟨q1, q2, q3, q4⟩ := hC
          by_cases hm : a3 ≤ 1
          · obtain rfl : nx = 1 := by omega
            by_cases hl : o.s.length = 1
            · dsimp only
              go_wp2_with fail
              obtain ⟨Wu, hWu⟩ : ∃ Wu, Wu = W.alloc (.cells #[.int .i64 1] 3) := ⟨_, rfl⟩
              have x15 : Blk Wu W.heap.size 3 [.int .i64 1] := by rw [hWu]; exact Blk.new W [.int .i64 1] 3 rfl
              have kt : KpF w.heap.size (w.heap.size + 1) b9 a3 Aw o.s.length cw WL Fw w Wu := by rw [hWu]; exact KWH.out.below HIT.out ((Below.refl _ W).alloc (Nat.le_refl _) _)
              have HDt : Hid (Wu.heap[D]? = some (.deferred (some []))) := Lib.hid (by rw [hWu]; exact heap_old' HKD.out)
              have hst : Wu.heap.size = W.heap.size + 1 := by rw [hWu]; simp
              have hwsz := HKI.out.1
              have hsr0 := HSR.out
              have h15 : w9.heap.size ≤ W.heap.size := by omega
              have HDlo : Hid (w9.heap.size ≤ D) := Lib.hid (by omega)
              rw [← hWu]
              clear hWu c15 c16 c7 c9 hD
              try clear hn0
              try clear hm
              try clear hl
              try clear h0
              generalize W.heap.size = b17 at *
              rw [rounds_succ]
              have c15 := x15.cell (j := 0) (v := .int .i64 1) rfl
              go_wp2_with fail
              obtain ⟨Wv, hWr⟩ : ∃ Wv, Wv = Wu.alloc (.cells #[.int .i64 0] 3) := ⟨_, rfl⟩
              have hbW : Below Wu.heap.size Wu Wv := by rw [hWr]; exact (Below.refl _ Wu).alloc (Nat.le_refl _) _
              have x16 : Blk Wv (b17 + 1) 3 [.int .i64 ((0 : Nat) : Int)] := by rw [hWr]; exact Blk.new Wu [.int .i64 0] 3 hst.symm
              have X156 := Lib.hid (x15.below hbW)
              have KR6 := Lib.hid (kt.below HIT.out hbW)
              have hsr : Wv.heap.size = Wu.heap.size + 1 := by rw [hWr]; simp
              have HDW : Hid (Wv.heap[D]? = some (.deferred (some []))) := Lib.hid ((hbW.block D (heap_lt' HDt.out)).trans HDt.out)
              have hdv := heap_lt' HDW.out
              rw [← hWr]
              clear hWr hbW x15 kt c15
              have hsr : Wv.heap.size = b17 + 1 + 1 := by rw [hsr, hst]
              clear hst
              generalize hb16 : b17 + 1 = b18 at *
              have h16 : b17 < b18 := by omega
              clear hb16
              have HKO6 : Hid (KpO w.heap.size (w.heap.size + 1) b9 Aw Ok b18) := Lib.hid ⟨by omega, by omega, by omega, fun a ha => by have := HAW.out a ha; omega, HFR.out _ (by omega)⟩
              have HW166 : Hid (w.heap.size ≤ b18 ∧ b17 ≠ b18) := Lib.hid ⟨by omega, by omega⟩
              have HSR6 : Hid (Wv.heap.size = b18 + 1) := Lib.hid (by omega)
              refine (wpIn_wide (n := 3)).1 ?_
              refine' rangeC (w0 := Wv) (gf := 40) (lb := lb) rfl (enters_of Try.func40 (by kernel_rfl) rfl) (HIT.out.seq b18 Wv HKO6.out.ok KR6.out.fw (by omega)) KpB.trans (fun W l o o' hl h1 h2 => KpB.put o' h1 h2) (Below.refl _ _) (fun _ => rfl)
                (Lp0 PS w Wv b18 (some D) (fun _ => True)) (Lpx PS w Wv b18 (some D) (fun _ => False) 4) (Lp0.cl (by omega) (by omega) (fun D e => by cases e; omega)) (fun c => Lpx.cl (by omega) (by omega) (fun D e => by cases e; omega) c) ⟨rfl, trivial, ⟨x16, KpB.refl _ _, KR6.out.bl, fun D e => by cases e; exact HDW.out⟩⟩ _ ?assign6 ?body6 ?done6 ?stop6
              case assign6 =>
                intro l x W K hK
                unfold encP
                gi_wp2
                exact hK
              case body6 =>
                rintro l pre ⟨x1, x2⟩ W ⟨hp, hC, hI⟩ hpl
                dsimp only
                obtain ⟨n, hn⟩ : ∃ n, pre.length = n := ⟨_, rfl⟩
                rw [hn] at hI hpl
                have KW := KR6.out.kp HIT.out HKO6.out hI.k hI.bl
                have hnN : n < o.s.length := by rw [← HPL.out]; exact hpl
                have h15k := X156.out.kp hI.k (by simpa using HW166.out.2)
                have c15 := h15k.cell (j := 0) (v := .int .i64 1) rfl
                have c16 := hI.x.cell (j := 0) (v := .int .i64 (n : Int)) rfl
                have f16 := hI.x.frozen 0
                have c7 := KW.x7.cell (j := 0) (v := .int .i64 a3) rfl
                have c8 := KW.x8.cell (j := 0) (v := .bool false) rfl
                have f8 := KW.x8.frozen 0
                have c9 := KW.x9.cell (j := 0) (v := .slice Aw o.s.length cw) rfl
                have hcw := Rd.cell KW.r (j := n) hnN
                have hixw := fun W => Rdv.ix KW.r el22 hnN .i64 W
                have hps : PS[n] = ((n : Int), gi WL n) := Prod.ext (HPG.out n hpl).1 (HPG.out n hpl).2
                have hnx := fun h : (x1, x2) = PS[n] => pre_next hp hn hpl h
                have hno := fun h : (x1, x2) ≠ PS[n] => pre_not hn hpl h
                rw [hps] at hnx hno
                have HNX := Lib.hid hnx
                have HNO := Lib.hid hno
                have HI := Lib.hid hI
                have HC := Lib.hid hC
                have n15 := HW166.out.2
                have n7 := HKO6.out.h7
                have hnb : (n : Int) + 1 ≤ 1000001 := by have := HLL.out.1; omega
                clear hps hnx hno hI hC hp KW h15k hpl
                generalize gi WL n = v at *
                by_cases h1 : x1 = (n : Int)
                · subst h1
                  by_cases h2 : x2 = v
                  · subst h2
                    have e1 : ((n : Int) != (n : Int)) = false := bne_f rfl
                    have e2 : (x2 != x2) = false := bne_f rfl
                    obtain ⟨p1, p2⟩ := HNX.out rfl
                    have HP1 := Lib.hid p1
                    have HP2 := Lib.hid p2
                    have HX := Lib.hid (HI.out.next HW166.out.1 (.int .i64 ((n : Int) + 1)) (by push_cast; rfl))
                    have d15 := ((X156.out.kp HX.out.2.2.k (by simpa using HW166.out.2))).cell (j := 0) (v := .int .i64 1) rfl
                    have d16 := HX.out.2.2.x.cell (j := 0) (v := .int .i64 ((n + 1 : Nat) : Int)) rfl
                    have d7 := ((KR6.out.kp HIT.out HKO6.out HX.out.2.2.k HX.out.2.2.bl)).x7.cell (j := 0) (v := .int .i64 a3) rfl
                    have wn : IntKind.i64.wrap ((n : Int) + 1) = (n : Int) + 1 := IntWalk.i64_in _ (by omega)
                    push_cast at d16
                    clear p1 p2 HNX HNO e1 hnb wn
                    gi_wp2
                    exact ⟨HX.out.1, HX.out.2.1, by rw [HP2.out]; exact HP1.out, trivial, by rw [HP2.out]; exact HX.out.2.2⟩
                  · have e1 : ((n : Int) != (n : Int)) = false := bne_f rfl
                    have e2 : (x2 != v) = true := bne_t h2
                    have HFX := Lib.hid (HNO.out (fun h => h2 (by injection h)))
                    clear HNX HNO h2
                    gi_wp2
                    exact ⟨KeepsOthers.setCell _ _ _, .inl HFX.out⟩
                · have e1 : (x1 != (n : Int)) = true := bne_t h1
                  have HFX := Lib.hid (HNO.out (fun h => h1 (by injection h)))
                  clear HNX HNO h1
                  gi_wp2
                  exact ⟨KeepsOthers.setCell _ _ _, .inl HFX.out⟩
              case done6 =>
                rintro D2 ys W hD hys ⟨-, hC, hI⟩ hK
                rw [hys, HPL.out] at hI
                clear hys
                have hnn : (((o.s.length : Nat) : Int) != ((o.s.length : Nat) : Int)) = false := bne_f rfl
                have KWH6 := Lib.hid (KR6.out.kp HIT.out HKO6.out hI.k hI.bl)
                have c15 := (X156.out.kp hI.k (by simpa using HW166.out.2)).cell (j := 0) (v := .int .i64 1) rfl
                have c16 := hI.x.cell (j := 0) (v := .int .i64 ((o.s.length : Nat) : Int)) rfl
                have c7 := KWH6.out.x7.cell (j := 0) (v := .int .i64 a3) rfl
                have c9 := KWH6.out.x9.cell (j := 0) (v := .slice Aw o.s.length cw) rfl
                have HKI6 := Lib.hid hI.k
                have HKD6 := Lib.hid hK
                have HD2D : Hid (W.heap[D]? = some (.deferred (some []))) := Lib.hid (hI.d D rfl)
                have HBLW := Lib.hid hI.bl
                have hsk := HSR6.out
                have hwk := HW166.out.1
                have hw7 := HKO6.out.h7
                have hdv := heap_lt' HDW.out
                have hlo := HDlo.out
                have hx9 := HX9LT.out
                have hz9 := HZ9.out
                have hs1 : w.heap.size + 1 < D2 := by omega
                have hs2 : w.heap.size + 1 < D := by omega
                have hs3 : D < D2 := by omega
                clear hI hK hC hsk hwk hw7 hdv hlo hx9 hz9
                dsimp only
                go_wp2_with fail
                rw [rounds_succ]
                go_wp2_with fail
                refine (works_any _).mono ?_
                rintro e w20 ⟨rfl, hB20⟩
                have hb20 : Below W.heap.size W w20 := ((Below.refl _ W).alloc (Nat.le_refl _) _).trans (hB20.mono (by simp))
                have z8 := KWH6.out.x8.below hb20
                have c8 := z8.cell (j := 0) (v := .bool false) rfl
                have f8 := z8.frozen 0
                have Z8 := Lib.hid (z8.set 0 (.bool true))
                have d2 : (w20.setCell ⟨w.heap.size + 1, 0, none⟩ (.bool true)).heap[D2]? = some (.deferred (some [])) := (KeepsOthers.setCell w20 _ _).same D2 _ ((hb20.block D2 (heap_lt' HKD6.out)).trans HKD6.out) rfl
                have d1 : (w20.setCell ⟨w.heap.size + 1, 0, none⟩ (.bool true)).heap[D]? = some (.deferred (some [])) := (KeepsOthers.setCell w20 _ _).same D _ ((hb20.block D (heap_lt' HD2D.out)).trans HD2D.out) rfl
                have hbl := (HBLW.out.trans (hb20.mono HBLW.out.size)).setCell (p := ⟨w.heap.size + 1, 0, none⟩) (Nat.le_succ _) (.bool true)
                have hbl2 := hbl.grown (grownBy_putObj' _ D2 (.deferred none)) hbl.size (fun r e => by cases e; omega)
                have hbl3 := hbl2.grown (grownBy_putObj' _ D (.deferred none)) hbl2.size (fun r e => by cases e; omega)
                have HD1 := Lib.hid d1
                have HD2 := Lib.hid d2
                have HBL3 := Lib.hid hbl3
                have hdd : D ≠ D2 := by omega
                have hd8 : w.heap.size + 1 ≠ D2 ∧ w.heap.size + 1 ≠ D := by omega
                clear hb20 z8 hB20 d1 d2 hbl hbl2 hbl3
                go_wp2
                have b6 := ((Z8.out.grown (grownBy_putObj' _ D2 (.deferred none)) hd8.1).grown (grownBy_putObj' _ D (.deferred none)) hd8.2)
                have l1 := load_bool b6
                refine ⟨by simp, .inl ⟨_, _, rfl, run_takeDeferred HD2.out, by simp, .inl ⟨_, _, rfl, run_takeDeferred ((World.putObj_heap_other (by omega)).trans HD1.out), ?_⟩⟩⟩
                refine ⟨.bool true, ?_, rfl, HBL3.out⟩
                rw [results_c rfl]
                simp [asAddr, l1, Sem.run_pure]
              case stop6 =>
                rintro D2 c pre W hD ⟨k, hk, hpk⟩ hx hK
                rcases hx with hx | ⟨rfl, hC, hI⟩
                · exact absurd hpk (hx k)
                · exact hC.elim
            · dsimp only
              go_wp2_with fail
              obtain ⟨Wu, hWu⟩ : ∃ Wu, Wu = W.alloc (.cells #[.int .i64 1] 3) := ⟨_, rfl⟩
              have x15 : Blk Wu W.heap.size 3 [.int .i64 1] := by rw [hWu]; exact Blk.new W [.int .i64 1] 3 rfl
              have kt : KpF w.heap.size (w.heap.size + 1) b9 a3 Aw o.s.length cw WL Fw w Wu := by rw [hWu]; exact KWH.out.below HIT.out ((Below.refl _ W).alloc (Nat.le_refl _) _)
              have HDt : Hid (Wu.heap[D]? = some (.deferred (some []))) := Lib.hid (by rw [hWu]; exact heap_old' HKD.out)
              have hst : Wu.heap.size = W.heap.size + 1 := by rw [hWu]; simp
              have hwsz := HKI.out.1
              have hsr0 := HSR.out
              have h15 : w9.heap.size ≤ W.heap.size := by omega
              have HDlo : Hid (w9.heap.size ≤ D) := Lib.hid (by omega)
              rw [← hWu]
              clear hWu c15 c16 c7 c9 hD
              try clear hn0
              try clear hm
              try clear hl
              try clear h0
              generalize W.heap.size = b17 at *
              rw [rounds_succ]
              have c15 := x15.cell (j := 0) (v := .int .i64 1) rfl
              go_wp2_with fail
              obtain ⟨Wv, hWr⟩ : ∃ Wv, Wv = Wu.alloc (.cells #[.int .i64 0] 3) := ⟨_, rfl⟩
              have hbW : Below Wu.heap.size Wu Wv := by rw [hWr]; exact (Below.refl _ Wu).alloc (Nat.le_refl _) _
              have x16 : Blk Wv (b17 + 1) 3 [.int .i64 ((0 : Nat) : Int)] := by rw [hWr]; exact Blk.new Wu [.int .i64 0] 3 hst.symm
              have X157 := Lib.hid (x15.below hbW)
              have KR7 := Lib.hid (kt.below HIT.out hbW)
              have hsr : Wv.heap.size = Wu.heap.size + 1 := by rw [hWr]; simp
              have HDW : Hid (Wv.heap[D]? = some (.deferred (some []))) := Lib.hid ((hbW.block D (heap_lt' HDt.out)).trans HDt.out)
              have hdv := heap_lt' HDW.out
              rw [← hWr]
              clear hWr hbW x15 kt c15
              have hsr : Wv.heap.size = b17 + 1 + 1 := by rw [hsr, hst]
              clear hst
              generalize hb16 : b17 + 1 = b18 at *
              have h16 : b17 < b18 := by omega
              clear hb16
              have HKO7 : Hid (KpO w.heap.size (w.heap.size + 1) b9 Aw Ok b18) := Lib.hid ⟨by omega, by omega, by omega, fun a ha => by have := HAW.out a ha; omega, HFR.out _ (by omega)⟩
              have HW167 : Hid (w.heap.size ≤ b18 ∧ b17 ≠ b18) := Lib.hid ⟨by omega, by omega⟩
              have HSR7 : Hid (Wv.heap.size = b18 + 1) := Lib.hid (by omega)
              refine (wpIn_wide (n := 3)).1 ?_
              refine' rangeC (w0 := Wv) (gf := 40) (lb := lb) rfl (enters_of Try.func40 (by kernel_rfl) rfl) (HIT.out.seq b18 Wv HKO7.out.ok KR7.out.fw (by omega)) KpB.trans (fun W l o o' hl h1 h2 => KpB.put o' h1 h2) (Below.refl _ _) (fun _ => rfl)
                (Lp0 PS w Wv b18 (some D) (fun _ => True)) (Lpx PS w Wv b18 (some D) (fun _ => False) 4) (Lp0.cl (by omega) (by omega) (fun D e => by cases e; omega)) (fun c => Lpx.cl (by omega) (by omega) (fun D e => by cases e; omega) c) ⟨rfl, trivial, ⟨x16, KpB.refl _ _, KR7.out.bl, fun D e => by cases e; exact HDW.out⟩⟩ _ ?assign7 ?body7 ?done7 ?stop7
              case assign7 =>
                intro l x W K hK
                unfold encP
                gi_wp2
                exact hK
              case body7 =>
                rintro l pre ⟨x1, x2⟩ W ⟨hp, hC, hI⟩ hpl
                dsimp only
                obtain ⟨n, hn⟩ : ∃ n, pre.length = n := ⟨_, rfl⟩
                rw [hn] at hI hpl
                have KW := KR7.out.kp HIT.out HKO7.out hI.k hI.bl
                have hnN : n < o.s.length := by rw [← HPL.out]; exact hpl
                have h15k := X157.out.kp hI.k (by simpa using HW167.out.2)
                have c15 := h15k.cell (j := 0) (v := .int .i64 1) rfl
                have c16 := hI.x.cell (j := 0) (v := .int .i64 (n : Int)) rfl
                have f16 := hI.x.frozen 0
                have c7 := KW.x7.cell (j := 0) (v := .int .i64 a3) rfl
                have c8 := KW.x8.cell (j := 0) (v := .bool false) rfl
                have f8 := KW.x8.frozen 0
                have c9 := KW.x9.cell (j := 0) (v := .slice Aw o.s.length cw) rfl
                have hcw := Rd.cell KW.r (j := n) hnN
                have hixw := fun W => Rdv.ix KW.r el22 hnN .i64 W
                have hps : PS[n] = ((n : Int), gi WL n) := Prod.ext (HPG.out n hpl).1 (HPG.out n hpl).2
                have hnx := fun h : (x1, x2) = PS[n] => pre_next hp hn hpl h
                have hno := fun h : (x1, x2) ≠ PS[n] => pre_not hn hpl h
                rw [hps] at hnx hno
                have HNX := Lib.hid hnx
                have HNO := Lib.hid hno
                have HI := Lib.hid hI
                have HC := Lib.hid hC
                have n15 := HW167.out.2
                have n7 := HKO7.out.h7
                have hnb : (n : Int) + 1 ≤ 1000001 := by have := HLL.out.1; omega
                clear hps hnx hno hI hC hp KW h15k hpl
                generalize gi WL n = v at *
                by_cases h1 : x1 = (n : Int)
                · subst h1
                  by_cases h2 : x2 = v
                  · subst h2
                    have e1 : ((n : Int) != (n : Int)) = false := bne_f rfl
                    have e2 : (x2 != x2) = false := bne_f rfl
                    obtain ⟨p1, p2⟩ := HNX.out rfl
                    have HP1 := Lib.hid p1
                    have HP2 := Lib.hid p2
                    have HX := Lib.hid (HI.out.next HW167.out.1 (.int .i64 ((n : Int) + 1)) (by push_cast; rfl))
                    have d15 := ((X157.out.kp HX.out.2.2.k (by simpa using HW167.out.2))).cell (j := 0) (v := .int .i64 1) rfl
                    have d16 := HX.out.2.2.x.cell (j := 0) (v := .int .i64 ((n + 1 : Nat) : Int)) rfl
                    have d7 := ((KR7.out.kp HIT.out HKO7.out HX.out.2.2.k HX.out.2.2.bl)).x7.cell (j := 0) (v := .int .i64 a3) rfl
                    have wn : IntKind.i64.wrap ((n : Int) + 1) = (n : Int) + 1 := IntWalk.i64_in _ (by omega)
                    push_cast at d16
                    clear p1 p2 HNX HNO e1 hnb wn
                    gi_wp2
                    exact ⟨HX.out.1, HX.out.2.1, by rw [HP2.out]; exact HP1.out, trivial, by rw [HP2.out]; exact HX.out.2.2⟩
                  · have e1 : ((n : Int) != (n : Int)) = false := bne_f rfl
                    have e2 : (x2 != v) = true := bne_t h2
                    have HFX := Lib.hid (HNO.out (fun h => h2 (by injection h)))
                    clear HNX HNO h2
                    gi_wp2
                    exact ⟨KeepsOthers.setCell _ _ _, .inl HFX.out⟩
                · have e1 : (x1 != (n : Int)) = true := bne_t h1
                  have HFX := Lib.hid (HNO.out (fun h => h1 (by injection h)))
                  clear HNX HNO h1
                  gi_wp2
                  exact ⟨KeepsOthers.setCell _ _ _, .inl HFX.out⟩
              case done7 =>
                rintro D2 ys W hD hys ⟨-, hC, hI⟩ hK
                rw [hys, HPL.out] at hI
                clear hys
                have hnn : (((o.s.length : Nat) : Int) != ((o.s.length : Nat) : Int)) = false := bne_f rfl
                have KWH7 := Lib.hid (KR7.out.kp HIT.out HKO7.out hI.k hI.bl)
                have c15 := (X157.out.kp hI.k (by simpa using HW167.out.2)).cell (j := 0) (v := .int .i64 1) rfl
                have c16 := hI.x.cell (j := 0) (v := .int .i64 ((o.s.length : Nat) : Int)) rfl
                have c7 := KWH7.out.x7.cell (j := 0) (v := .int .i64 a3) rfl
                have c9 := KWH7.out.x9.cell (j := 0) (v := .slice Aw o.s.length cw) rfl
                have HKI7 := Lib.hid hI.k
                have HKD7 := Lib.hid hK
                have HD2D : Hid (W.heap[D]? = some (.deferred (some []))) := Lib.hid (hI.d D rfl)
                have HBLW := Lib.hid hI.bl
                have hsk := HSR7.out
                have hwk := HW167.out.1
                have hw7 := HKO7.out.h7
                have hdv := heap_lt' HDW.out
                have hlo := HDlo.out
                have hx9 := HX9LT.out
                have hz9 := HZ9.out
                have hs1 : w.heap.size + 1 < D2 := by omega
                have hs2 : w.heap.size + 1 < D := by omega
                have hs3 : D < D2 := by omega
                clear hI hK hC hsk hwk hw7 hdv hlo hx9 hz9
                dsimp only
                go_wp2_with fail
                rw [rounds_succ]
                go_wp2_with fail
                refine (works_any _).mono ?_
                rintro e w20 ⟨rfl, hB20⟩
                have hb20 : Below W.heap.size W w20 := ((Below.refl _ W).alloc (Nat.le_refl _) _).trans (hB20.mono (by simp))
                have z8 := KWH7.out.x8.below hb20
                have c8 := z8.cell (j := 0) (v := .bool false) rfl
                have f8 := z8.frozen 0
                have Z8 := Lib.hid (z8.set 0 (.bool true))
                have d2 : (w20.setCell ⟨w.heap.size + 1, 0, none⟩ (.bool true)).heap[D2]? = some (.deferred (some [])) := (KeepsOthers.setCell w20 _ _).same D2 _ ((hb20.block D2 (heap_lt' HKD7.out)).trans HKD7.out) rfl
                have d1 : (w20.setCell ⟨w.heap.size + 1, 0, none⟩ (.bool true)).heap[D]? = some (.deferred (some [])) := (KeepsOthers.setCell w20 _ _).same D _ ((hb20.block D (heap_lt' HD2D.out)).trans HD2D.out) rfl
                have hbl := (HBLW.out.trans (hb20.mono HBLW.out.size)).setCell (p := ⟨w.heap.size + 1, 0, none⟩) (Nat.le_succ _) (.bool true)
                have hbl2 := hbl.grown (grownBy_putObj' _ D2 (.deferred none)) hbl.size (fun r e => by cases e; omega)
                have hbl3 := hbl2.grown (grownBy_putObj' _ D (.deferred none)) hbl2.size (fun r e => by cases e; omega)
                have HD1 := Lib.hid d1
                have HD2 := Lib.hid d2
                have HBL3 := Lib.hid hbl3
                have hdd : D ≠ D2 := by omega
                have hd8 : w.heap.size + 1 ≠ D2 ∧ w.heap.size + 1 ≠ D := by omega
                clear hb20 z8 hB20 d1 d2 hbl hbl2 hbl3
                go_wp2
                have b6 := ((Z8.out.grown (grownBy_putObj' _ D2 (.deferred none)) hd8.1).grown (grownBy_putObj' _ D (.deferred none)) hd8.2)
                have l1 := load_bool b6
                refine ⟨by simp, .inl ⟨_, _, rfl, run_takeDeferred HD2.out, by simp, .inl ⟨_, _, rfl, run_takeDeferred ((World.putObj_heap_other (by omega)).trans HD1.out), ?_⟩⟩⟩
                refine ⟨.bool true, ?_, rfl, HBL3.out⟩
                rw [results_c rfl]
                simp [asAddr, l1, Sem.run_pure]
              case stop7 =>
                rintro D2 c pre W hD ⟨k, hk, hpk⟩ hx hK
                rcases hx with hx | ⟨rfl, hC, hI⟩
                · exact absurd hpk (hx k)
                · exact hC.elim
          · obtain rfl : a3 = (nx : Int) := by omega
            by_cases hl : o.s.length = nx
            · dsimp only
              go_wp2_with fail
              obtain ⟨Wu, hWu⟩ : ∃ Wu, Wu = W.alloc (.cells #[.int .i64 1] 3) := ⟨_, rfl⟩
              have x15 : Blk Wu W.heap.size 3 [.int .i64 1] := by rw [hWu]; exact Blk.new W [.int .i64 1] 3 rfl
              have kt : KpF w.heap.size (w.heap.size + 1) b9 (nx : Int) Aw o.s.length cw WL Fw w Wu := by rw [hWu]; exact KWH.out.below HIT.out ((Below.refl _ W).alloc (Nat.le_refl _) _)
              have HDt : Hid (Wu.heap[D]? = some (.deferred (some []))) := Lib.hid (by rw [hWu]; exact heap_old' HKD.out)
              have hst : Wu.heap.size = W.heap.size + 1 := by rw [hWu]; simp
              have hwsz := HKI.out.1
              have hsr0 := HSR.out
              have h15 : w9.heap.size ≤ W.heap.size := by omega
              have HDlo : Hid (w9.heap.size ≤ D) := Lib.hid (by omega)
              rw [← hWu]
              clear hWu c15 c16 c7 c9 hD
              try clear hn0
              try clear hm
              try clear hl
              try clear h0
              generalize W.heap.size = b17 at *
              rw [rounds_succ]
              have c15 := x15.cell (j := 0) (v := .int .i64 1) rfl
              go_wp2_with fail
              obtain ⟨Wv, hWr⟩ : ∃ Wv, Wv = Wu.alloc (.cells #[.int .i64 0] 3) := ⟨_, rfl⟩
              have hbW : Below Wu.heap.size Wu Wv := by rw [hWr]; exact (Below.refl _ Wu).alloc (Nat.le_refl _) _
              have x16 : Blk Wv (b17 + 1) 3 [.int .i64 ((0 : Nat) : Int)] := by rw [hWr]; exact Blk.new Wu [.int .i64 0] 3 hst.symm
              have X158 := Lib.hid (x15.below hbW)
              have KR8 := Lib.hid (kt.below HIT.out hbW)
              have hsr : Wv.heap.size = Wu.heap.size + 1 := by rw [hWr]; simp
              have HDW : Hid (Wv.heap[D]? = some (.deferred (some []))) := Lib.hid ((hbW.block D (heap_lt' HDt.out)).trans HDt.out)
              have hdv := heap_lt' HDW.out
              rw [← hWr]
              clear hWr hbW x15 kt c15
              have hsr : Wv.heap.size = b17 + 1 + 1 := by rw [hsr, hst]
              clear hst
              generalize hb16 : b17 + 1 = b18 at *
              have h16 : b17 < b18 := by omega
              clear hb16
              have HKO8 : Hid (KpO w.heap.size (w.heap.size + 1) b9 Aw Ok b18) := Lib.hid ⟨by omega, by omega, by omega, fun a ha => by have := HAW.out a ha; omega, HFR.out _ (by omega)⟩
              have HW168 : Hid (w.heap.size ≤ b18 ∧ b17 ≠ b18) := Lib.hid ⟨by omega, by omega⟩
              have HSR8 : Hid (Wv.heap.size = b18 + 1) := Lib.hid (by omega)
              refine (wpIn_wide (n := 3)).1 ?_
              refine' rangeC (w0 := Wv) (gf := 40) (lb := lb) rfl (enters_of Try.func40 (by kernel_rfl) rfl) (HIT.out.seq b18 Wv HKO8.out.ok KR8.out.fw (by omega)) KpB.trans (fun W l o o' hl h1 h2 => KpB.put o' h1 h2) (Below.refl _ _) (fun _ => rfl)
                (Lp0 PS w Wv b18 (some D) (fun _ => True)) (Lpx PS w Wv b18 (some D) (fun _ => False) 4) (Lp0.cl (by omega) (by omega) (fun D e => by cases e; omega)) (fun c => Lpx.cl (by omega) (by omega) (fun D e => by cases e; omega) c) ⟨rfl, trivial, ⟨x16, KpB.refl _ _, KR8.out.bl, fun D e => by cases e; exact HDW.out⟩⟩ _ ?assign8 ?body8 ?done8 ?stop8
              case assign8 =>
                intro l x W K hK
                unfold encP
                gi_wp2
                exact hK
              case body8 =>
                rintro l pre ⟨x1, x2⟩ W ⟨hp, hC, hI⟩ hpl
                dsimp only
                obtain ⟨n, hn⟩ : ∃ n, pre.length = n := ⟨_, rfl⟩
                rw [hn] at hI hpl
                have KW := KR8.out.kp HIT.out HKO8.out hI.k hI.bl
                have hnN : n < o.s.length := by rw [← HPL.out]; exact hpl
                have h15k := X158.out.kp hI.k (by simpa using HW168.out.2)
                have c15 := h15k.cell (j := 0) (v := .int .i64 1) rfl
                have c16 := hI.x.cell (j := 0) (v := .int .i64 (n : Int)) rfl
                have f16 := hI.x.frozen 0
                have c7 := KW.x7.cell (j := 0) (v := .int .i64 (nx : Int)) rfl
                have c8 := KW.x8.cell (j := 0) (v := .bool false) rfl
                have f8 := KW.x8.frozen 0
                have c9 := KW.x9.cell (j := 0) (v := .slice Aw o.s.length cw) rfl
                have hcw := Rd.cell KW.r (j := n) hnN
                have hixw := fun W => Rdv.ix KW.r el22 hnN .i64 W
                have hps : PS[n] = ((n : Int), gi WL n) := Prod.ext (HPG.out n hpl).1 (HPG.out n hpl).2
                have hnx := fun h : (x1, x2) = PS[n] => pre_next hp hn hpl h
                have hno := fun h : (x1, x2) ≠ PS[n] => pre_not hn hpl h
                rw [hps] at hnx hno
                have HNX := Lib.hid hnx
                have HNO := Lib.hid hno
                have HI := Lib.hid hI
                have HC := Lib.hid hC
                have n15 := HW168.out.2
                have n7 := HKO8.out.h7
                have hnb : (n : Int) + 1 ≤ 1000001 := by have := HLL.out.1; omega
                clear hps hnx hno hI hC hp KW h15k hpl
                generalize gi WL n = v at *
                by_cases h1 : x1 = (n : Int)
                · subst h1
                  by_cases h2 : x2 = v
                  · subst h2
                    have e1 : ((n : Int) != (n : Int)) = false := bne_f rfl
                    have e2 : (x2 != x2) = false := bne_f rfl
                    obtain ⟨p1, p2⟩ := HNX.out rfl
                    have HP1 := Lib.hid p1
                    have HP2 := Lib.hid p2
                    have HX := Lib.hid (HI.out.next HW168.out.1 (.int .i64 ((n : Int) + 1)) (by push_cast; rfl))
                    have d15 := ((X158.out.kp HX.out.2.2.k (by simpa using HW168.out.2))).cell (j := 0) (v := .int .i64 1) rfl
                    have d16 := HX.out.2.2.x.cell (j := 0) (v := .int .i64 ((n + 1 : Nat) : Int)) rfl
                    have d7 := ((KR8.out.kp HIT.out HKO8.out HX.out.2.2.k HX.out.2.2.bl)).x7.cell (j := 0) (v := .int .i64 (nx : Int)) rfl
                    have wn : IntKind.i64.wrap ((n : Int) + 1) = (n : Int) + 1 := IntWalk.i64_in _ (by omega)
                    push_cast at d16
                    clear p1 p2 HNX HNO e1 hnb wn
                    gi_wp2
                    exact ⟨HX.out.1, HX.out.2.1, by rw [HP2.out]; exact HP1.out, trivial, by rw [HP2.out]; exact HX.out.2.2⟩
                  · have e1 : ((n : Int) != (n : Int)) = false := bne_f rfl
                    have e2 : (x2 != v) = true := bne_t h2
                    have HFX := Lib.hid (HNO.out (fun h => h2 (by injection h)))
                    clear HNX HNO h2
                    gi_wp2
                    exact ⟨KeepsOthers.setCell _ _ _, .inl HFX.out⟩
                · have e1 : (x1 != (n : Int)) = true := bne_t h1
                  have HFX := Lib.hid (HNO.out (fun h => h1 (by injection h)))
                  clear HNX HNO h1
                  gi_wp2
                  exact ⟨KeepsOthers.setCell _ _ _, .inl HFX.out⟩
              case done8 =>
                rintro D2 ys W hD hys ⟨-, hC, hI⟩ hK
                rw [hys, HPL.out] at hI
                clear hys
                have hnn : (((o.s.length : Nat) : Int) != ((o.s.length : Nat) : Int)) = false := bne_f rfl
                have KWH8 := Lib.hid (KR8.out.kp HIT.out HKO8.out hI.k hI.bl)
                have c15 := (X158.out.kp hI.k (by simpa using HW168.out.2)).cell (j := 0) (v := .int .i64 1) rfl
                have c16 := hI.x.cell (j := 0) (v := .int .i64 ((o.s.length : Nat) : Int)) rfl
                have c7 := KWH8.out.x7.cell (j := 0) (v := .int .i64 (nx : Int)) rfl
                have c9 := KWH8.out.x9.cell (j := 0) (v := .slice Aw o.s.length cw) rfl
                have HKI8 := Lib.hid hI.k
                have HKD8 := Lib.hid hK
                have HD2D : Hid (W.heap[D]? = some (.deferred (some []))) := Lib.hid (hI.d D rfl)
                have HBLW := Lib.hid hI.bl
                have hsk := HSR8.out
                have hwk := HW168.out.1
                have hw7 := HKO8.out.h7
                have hdv := heap_lt' HDW.out
                have hlo := HDlo.out
                have hx9 := HX9LT.out
                have hz9 := HZ9.out
                have hs1 : w.heap.size + 1 < D2 := by omega
                have hs2 : w.heap.size + 1 < D := by omega
                have hs3 : D < D2 := by omega
                clear hI hK hC hsk hwk hw7 hdv hlo hx9 hz9
                dsimp only
                go_wp2_with fail
                rw [rounds_succ]
                go_wp2_with fail
                refine (works_any _).mono ?_
                rintro e w20 ⟨rfl, hB20⟩
                have hb20 : Below W.heap.size W w20 := ((Below.refl _ W).alloc (Nat.le_refl _) _).trans (hB20.mono (by simp))
                have z8 := KWH8.out.x8.below hb20
                have c8 := z8.cell (j := 0) (v := .bool false) rfl
                have f8 := z8.frozen 0
                have Z8 := Lib.hid (z8.set 0 (.bool true))
                have d2 : (w20.setCell ⟨w.heap.size + 1, 0, none⟩ (.bool true)).heap[D2]? = some (.deferred (some [])) := (KeepsOthers.setCell w20 _ _).same D2 _ ((hb20.block D2 (heap_lt' HKD8.out)).trans HKD8.out) rfl
                have d1 : (w20.setCell ⟨w.heap.size + 1, 0, none⟩ (.bool true)).heap[D]? = some (.deferred (some [])) := (KeepsOthers.setCell w20 _ _).same D _ ((hb20.block D (heap_lt' HD2D.out)).trans HD2D.out) rfl
                have hbl := (HBLW.out.trans (hb20.mono HBLW.out.size)).setCell (p := ⟨w.heap.size + 1, 0, none⟩) (Nat.le_succ _) (.bool true)
                have hbl2 := hbl.grown (grownBy_putObj' _ D2 (.deferred none)) hbl.size (fun r e => by cases e; omega)
                have hbl3 := hbl2.grown (grownBy_putObj' _ D (.deferred none)) hbl2.size (fun r e => by cases e; omega)
                have HD1 := Lib.hid d1
                have HD2 := Lib.hid d2
                have HBL3 := Lib.hid hbl3
                have hdd : D ≠ D2 := by omega
                have hd8 : w.heap.size + 1 ≠ D2 ∧ w.heap.size + 1 ≠ D := by omega
                clear hb20 z8 hB20 d1 d2 hbl hbl2 hbl3
                go_wp2
                have b6 := ((Z8.out.grown (grownBy_putObj' _ D2 (.deferred none)) hd8.1).grown (grownBy_putObj' _ D (.deferred none)) hd8.2)
                have l1 := load_bool b6
                refine ⟨by simp, .inl ⟨_, _, rfl, run_takeDeferred HD2.out, by simp, .inl ⟨_, _, rfl, run_takeDeferred ((World.putObj_heap_other (by omega)).trans HD1.out), ?_⟩⟩⟩
                refine ⟨.bool true, ?_, rfl, HBL3.out⟩
                rw [results_c rfl]
                simp [asAddr, l1, Sem.run_pure]
              case stop8 =>
                rintro D2 c pre W hD ⟨k, hk, hpk⟩ hx hK
                rcases hx with hx | ⟨rfl, hC, hI⟩
                · exact absurd hpk (hx k)
                · exact hC.elim
            · dsimp only
              go_wp2_with fail
              obtain ⟨Wu, hWu⟩ : ∃ Wu, Wu = W.alloc (.cells #[.int .i64 1] 3) := ⟨_, rfl⟩
              have x15 : Blk Wu W.heap.size 3 [.int .i64 1] := by rw [hWu]; exact Blk.new W [.int .i64 1] 3 rfl
              have kt : KpF w.heap.size (w.heap.size + 1) b9 (nx : Int) Aw o.s.length cw WL Fw w Wu := by rw [hWu]; exact KWH.out.below HIT.out ((Below.refl _ W).alloc (Nat.le_refl _) _)
              have HDt : Hid (Wu.heap[D]? = some (.deferred (some []))) := Lib.hid (by rw [hWu]; exact heap_old' HKD.out)
              have hst : Wu.heap.size = W.heap.size + 1 := by rw [hWu]; simp
              have hwsz := HKI.out.1
              have hsr0 := HSR.out
              have h15 : w9.heap.size ≤ W.heap.size := by omega
              have HDlo : Hid (w9.heap.size ≤ D) := Lib.hid (by omega)
              rw [← hWu]
              clear hWu c15 c16 c7 c9 hD
              try clear hn0
              try clear hm
              try clear hl
              try clear h0
              generalize W.heap.size = b17 at *
              rw [rounds_succ]
              have c15 := x15.cell (j := 0) (v := .int .i64 1) rfl
              go_wp2_with fail
              obtain ⟨Wv, hWr⟩ : ∃ Wv, Wv = Wu.alloc (.cells #[.int .i64 0] 3) := ⟨_, rfl⟩
              have hbW : Below Wu.heap.size Wu Wv := by rw [hWr]; exact (Below.refl _ Wu).alloc (Nat.le_refl _) _
              have x16 : Blk Wv (b17 + 1) 3 [.int .i64 ((0 : Nat) : Int)] := by rw [hWr]; exact Blk.new Wu [.int .i64 0] 3 hst.symm
              have X159 := Lib.hid (x15.below hbW)
              have KR9 := Lib.hid (kt.below HIT.out hbW)
              have hsr : Wv.heap.size = Wu.heap.size + 1 := by rw [hWr]; simp
              have HDW : Hid (Wv.heap[D]? = some (.deferred (some []))) := Lib.hid ((hbW.block D (heap_lt' HDt.out)).trans HDt.out)
              have hdv := heap_lt' HDW.out
              rw [← hWr]
              clear hWr hbW x15 kt c15
              have hsr : Wv.heap.size = b17 + 1 + 1 := by rw [hsr, hst]
              clear hst
              generalize hb16 : b17 + 1 = b18 at *
              have h16 : b17 < b18 := by omega
              clear hb16
              have HKO9 : Hid (KpO w.heap.size (w.heap.size + 1) b9 Aw Ok b18) := Lib.hid ⟨by omega, by omega, by omega, fun a ha => by have := HAW.out a ha; omega, HFR.out _ (by omega)⟩
              have HW169 : Hid (w.heap.size ≤ b18 ∧ b17 ≠ b18) := Lib.hid ⟨by omega, by omega⟩
              have HSR9 : Hid (Wv.heap.size = b18 + 1) := Lib.hid (by omega)
              refine (wpIn_wide (n := 3)).1 ?_
              refine' rangeC (w0 := Wv) (gf := 40) (lb := lb) rfl (enters_of Try.func40 (by kernel_rfl) rfl) (HIT.out.seq b18 Wv HKO9.out.ok KR9.out.fw (by omega)) KpB.trans (fun W l o o' hl h1 h2 => KpB.put o' h1 h2) (Below.refl _ _) (fun _ => rfl)
                (Lp0 PS w Wv b18 (some D) (fun _ => True)) (Lpx PS w Wv b18 (some D) (fun _ => False) 4) (Lp0.cl (by omega) (by omega) (fun D e => by cases e; omega)) (fun c => Lpx.cl (by omega) (by omega) (fun D e => by cases e; omega) c) ⟨rfl, trivial, ⟨x16, KpB.refl _ _, KR9.out.bl, fun D e => by cases e; exact HDW.out⟩⟩ _ ?assign9 ?body9 ?done9 ?stop9
              case assign9 =>
                intro l x W K hK
                unfold encP
                gi_wp2
                exact hK
              case body9 =>
                rintro l pre ⟨x1, x2⟩ W ⟨hp, hC, hI⟩ hpl
                dsimp only
                obtain ⟨n, hn⟩ : ∃ n, pre.length = n := ⟨_, rfl⟩
                rw [hn] at hI hpl
                have KW := KR9.out.kp HIT.out HKO9.out hI.k hI.bl
                have hnN : n < o.s.length := by rw [← HPL.out]; exact hpl
                have h15k := X159.out.kp hI.k (by simpa using HW169.out.2)
                have c15 := h15k.cell (j := 0) (v := .int .i64 1) rfl
                have c16 := hI.x.cell (j := 0) (v := .int .i64 (n : Int)) rfl
                have f16 := hI.x.frozen 0
                have c7 := KW.x7.cell (j := 0) (v := .int .i64 (nx : Int)) rfl
                have c8 := KW.x8.cell (j := 0) (v := .bool false) rfl
                have f8 := KW.x8.frozen 0
                have c9 := KW.x9.cell (j := 0) (v := .slice Aw o.s.length cw) rfl
                have hcw := Rd.cell KW.r (j := n) hnN
                have hixw := fun W => Rdv.ix KW.r el22 hnN .i64 W
                have hps : PS[n] = ((n : Int), gi WL n) := Prod.ext (HPG.out n hpl).1 (HPG.out n hpl).2
                have hnx := fun h : (x1, x2) = PS[n] => pre_next hp hn hpl h
                have hno := fun h : (x1, x2) ≠ PS[n] => pre_not hn hpl h
                rw [hps] at hnx hno
                have HNX := Lib.hid hnx
                have HNO := Lib.hid hno
                have HI := Lib.hid hI
                have HC := Lib.hid hC
                have n15 := HW169.out.2
                have n7 := HKO9.out.h7
                have hnb : (n : Int) + 1 ≤ 1000001 := by have := HLL.out.1; omega
                clear hps hnx hno hI hC hp KW h15k hpl
                generalize gi WL n = v at *
                by_cases h1 : x1 = (n : Int)
                · subst h1
                  by_cases h2 : x2 = v
                  · subst h2
                    have e1 : ((n : Int) != (n : Int)) = false := bne_f rfl
                    have e2 : (x2 != x2) = false := bne_f rfl
                    obtain ⟨p1, p2⟩ := HNX.out rfl
                    have HP1 := Lib.hid p1
                    have HP2 := Lib.hid p2
                    have HX := Lib.hid (HI.out.next HW169.out.1 (.int .i64 ((n : Int) + 1)) (by push_cast; rfl))
                    have d15 := ((X159.out.kp HX.out.2.2.k (by simpa using HW169.out.2))).cell (j := 0) (v := .int .i64 1) rfl
                    have d16 := HX.out.2.2.x.cell (j := 0) (v := .int .i64 ((n + 1 : Nat) : Int)) rfl
                    have d7 := ((KR9.out.kp HIT.out HKO9.out HX.out.2.2.k HX.out.2.2.bl)).x7.cell (j := 0) (v := .int .i64 (nx : Int)) rfl
                    have wn : IntKind.i64.wrap ((n : Int) + 1) = (n : Int) + 1 := IntWalk.i64_in _ (by omega)
                    push_cast at d16
                    clear p1 p2 HNX HNO e1 hnb wn
                    gi_wp2
                    exact ⟨HX.out.1, HX.out.2.1, by rw [HP2.out]; exact HP1.out, trivial, by rw [HP2.out]; exact HX.out.2.2⟩
                  · have e1 : ((n : Int) != (n : Int)) = false := bne_f rfl
                    have e2 : (x2 != v) = true := bne_t h2
                    have HFX := Lib.hid (HNO.out (fun h => h2 (by injection h)))
                    clear HNX HNO h2
                    gi_wp2
                    exact ⟨KeepsOthers.setCell _ _ _, .inl HFX.out⟩
                · have e1 : (x1 != (n : Int)) = true := bne_t h1
                  have HFX := Lib.hid (HNO.out (fun h => h1 (by injection h)))
                  clear HNX HNO h1
                  gi_wp2
                  exact ⟨KeepsOthers.setCell _ _ _, .inl HFX.out⟩
              case done9 =>
                rintro D2 ys W hD hys ⟨-, hC, hI⟩ hK
                rw [hys, HPL.out] at hI
                clear hys
                have hnn : (((o.s.length : Nat) : Int) != ((o.s.length : Nat) : Int)) = false := bne_f rfl
                have KWH9 := Lib.hid (KR9.out.kp HIT.out HKO9.out hI.k hI.bl)
                have c15 := (X159.out.kp hI.k (by simpa using HW169.out.2)).cell (j := 0) (v := .int .i64 1) rfl
                have c16 := hI.x.cell (j := 0) (v := .int .i64 ((o.s.length : Nat) : Int)) rfl
                have c7 := KWH9.out.x7.cell (j := 0) (v := .int .i64 (nx : Int)) rfl
                have c9 := KWH9.out.x9.cell (j := 0) (v := .slice Aw o.s.length cw) rfl
                have HKI9 := Lib.hid hI.k
                have HKD9 := Lib.hid hK
                have HD2D : Hid (W.heap[D]? = some (.deferred (some []))) := Lib.hid (hI.d D rfl)
                have HBLW := Lib.hid hI.bl
                have hsk := HSR9.out
                have hwk := HW169.out.1
                have hw7 := HKO9.out.h7
                have hdv := heap_lt' HDW.out
                have hlo := HDlo.out
                have hx9 := HX9LT.out
                have hz9 := HZ9.out
                have hs1 : w.heap.size + 1 < D2 := by omega
                have hs2 : w.heap.size + 1 < D := by omega
                have hs3 : D < D2 := by omega
                clear hI hK hC hsk hwk hw7 hdv hlo hx9 hz9
                dsimp only
                go_wp2_with fail
                rw [rounds_succ]
                go_wp2_with fail
                refine (works_any _).mono ?_
                rintro e w20 ⟨rfl, hB20⟩
                have hb20 : Below W.heap.size W w20 := ((Below.refl _ W).alloc (Nat.le_refl _) _).trans (hB20.mono (by simp))
                have z8 := KWH9.out.x8.below hb20
                have c8 := z8.cell (j := 0) (v := .bool false) rfl
                have f8 := z8.frozen 0
                have Z8 := Lib.hid (z8.set 0 (.bool true))
                have d2 : (w20.setCell ⟨w.heap.size + 1, 0, none⟩ (.bool true)).heap[D2]? = some (.deferred (some [])) := (KeepsOthers.setCell w20 _ _).same D2 _ ((hb20.block D2 (heap_lt' HKD9.out)).trans HKD9.out) rfl
                have d1 : (w20.setCell ⟨w.heap.size + 1, 0, none⟩ (.bool true)).heap[D]? = some (.deferred (some [])) := (KeepsOthers.setCell w20 _ _).same D _ ((hb20.block D (heap_lt' HD2D.out)).trans HD2D.out) rfl
                have hbl := (HBLW.out.trans (hb20.mono HBLW.out.size)).setCell (p := ⟨w.heap.size + 1, 0, none⟩) (Nat.le_succ _) (.bool true)
                have hbl2 := hbl.grown (grownBy_putObj' _ D2 (.deferred none)) hbl.size (fun r e => by cases e; omega)
                have hbl3 := hbl2.grown (grownBy_putObj' _ D (.deferred none)) hbl2.size (fun r e => by cases e; omega)
                have HD1 := Lib.hid d1
                have HD2 := Lib.hid d2
                have HBL3 := Lib.hid hbl3
                have hdd : D ≠ D2 := by omega
                have hd8 : w.heap.size + 1 ≠ D2 ∧ w.heap.size + 1 ≠ D := by omega
                clear hb20 z8 hB20 d1 d2 hbl hbl2 hbl3
                go_wp2
                have b6 := ((Z8.out.grown (grownBy_putObj' _ D2 (.deferred none)) hd8.1).grown (grownBy_putObj' _ D (.deferred none)) hd8.2)
                have l1 := load_bool b6
                refine ⟨by simp, .inl ⟨_, _, rfl, run_takeDeferred HD2.out, by simp, .inl ⟨_, _, rfl, run_takeDeferred ((World.putObj_heap_other (by omega)).trans HD1.out), ?_⟩⟩⟩
                refine ⟨.bool true, ?_, rfl, HBL3.out⟩
                rw [results_c rfl]
                simp [asAddr, l1, Sem.run_pure]
              case stop9 =>
                rintro D2 c pre W hD ⟨k, hk, hpk⟩ hx hK
                rcases hx with hx | ⟨rfl, hC, hI⟩
                · exact absurd hpk (hx k)
                · exact hC.elim
end Go.Proofs.Ytmdjclfmhndjnaa
