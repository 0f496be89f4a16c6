/- Bundle. Conditions: none. -/
import Derived.Test.YtkdfefpnhaebfaaGreatBuobu
set_option linter.unusedVariables false
set_option linter.unusedSimpArgs false
namespace Go.Proofs.YtkdfefpnhaebfaaGreat
open Go.RowKit
attribute [local go_sem] Oper.semAt_some
set_option maxRecDepth 100000
set_option maxHeartbeats 8000000
theorem recv_begin {w : World} {base P : Nat} {half st sz lm : Int} {A0 : Option Addr} {n0 c0 : Nat} (h : PrP w base P half st sz lm A0 n0 c0) (h0 : half ≠ 0) (hb : base ≤ w.heap.size) (sn rn : Nat) (bt md l : Int) (fresh : Bool) (A : Option Addr) (n c : Nat) (ys : List Int) (hy : Rd .i64 w A n c ys) (hs : sn ≤ 472) (hE : rcE st sz lm (sn : Int) bt md l (rn : Int) fresh ys n = 0) (hbeg : fresh = true ∨ st = 0) :
 Calls Tryz.prog 15 #[.pointer (some ⟨P, 0, none⟩), .agg #[.int .i64 (sn : Int), .int .i64 bt, .int .i64 md, .int .i64 l, .int .i64 (rn : Int)], .bool fresh, .slice A n c] w (RcQ w base P half (zI (sn : Int) l) rn n ys [] 0) := by
 obtain ⟨hsp, hsb, -⟩ := rcE_zero hE
 obtain ⟨hvc, hnb, hus⟩ := spE_zero hsp
 obtain ⟨v1, v2, v3, v4, v5, v6⟩ := vc_inv hvc
 have HN0 := Lib.hid (pnone_any (h.below (bal (Below.refl w.heap.size w) (.cells #[.int .i64 (sn : Int), .int .i64 bt, .int .i64 md, .int .i64 l, .int .i64 (rn : Int)] 36))) h0)
 have HB1 := Lib.hid (bal (Below.refl w.heap.size w) (.cells #[.int .i64 (sn : Int), .int .i64 bt, .int .i64 md, .int .i64 l, .int .i64 (rn : Int)] 36))
 have HP1 := Lib.hid (h.below HB1.out)
 have hC1 := Blk.new w [.int .i64 (sn : Int), .int .i64 bt, .int .i64 md, .int .i64 l, .int .i64 (rn : Int)] 36 rfl
 have HC1 := Lib.hid hC1
 have HY1 := Lib.hid (Rdv.below hy HB1.out)
 have HSP := Lib.hid (split1 (sn : Int) bt md l (rn : Int) A n c ys (w.alloc (.cells #[.int .i64 (sn : Int), .int .i64 bt, .int .i64 md, .int .i64 l, .int .i64 (rn : Int)] 36)) HY1.out (by omega))
 have HPW := Lib.hid h.p.lt
 have HBS := Lib.hid hb
 have HKB := Lib.hid (kS_bd (s := (sn : Int)) (by omega) (by omega))
 have HSS : Hid (1 ≤ (sn : Int) ∧ (sn : Int) ≤ 472) := Lib.hid ⟨by omega, by omega⟩
 have HL1 := Lib.hid v5
 have HRN : Hid (rn ≤ 3) := Lib.hid (by omega)
 have HNN : Hid (n ≤ 131072) := Lib.hid (by omega)
 have HUS := Lib.hid hus
 have HSB := Lib.hid hsb
 have HCN : Hid (0 ≤ (0 : Int) ∧ (0 : Int) ≤ 900000000) := Lib.hid (by omega)
 have HCC : Hid (0 ≤ (0 : Int) ∧ (0 : Int) ≤ ((0 : Nat) : Int)) := Lib.hid (by omega)
 have HBL : Hid (∀ x : List Int, none = some x → x.length ≤ 1000) := Lib.hid (fun x hx => by cases hx)
 have HST := Lib.hid (fun W (hW : PrP W base P half st sz lm A0 n0 c0) (hbW : base ≤ W.heap.size) => start_any hW hbW sn bt md l (rn : Int) (by omega) (by omega) v5)
 unfold SpQ at HSP
 rw [hsp] at HSP
 have HV := Lib.hid (fun W hW => svalid_any A n c ys W hW)
 rw [hsb] at HV
 clear h h0 hy hs hE hsp hsb hvc hnb hus v1 v2 v3 v4 v5 v6 hb
 cases fresh with
 | true =>
   clear hbeg
   go_enter Tryz.func15, Tryz.ntmps15
   go_wp2_with fail
   refine HN0.out.mono ?_
   rintro e wx ⟨rfl, hwx⟩
   rw [← hwx]
   clear hwx
   generalize w.alloc (.cells #[.int .i64 (sn : Int), .int .i64 bt, .int .i64 md, .int .i64 l, .int .i64 (rn : Int)] 36) = w1 at *
   go_wp2_with (refine ldrow (cs := [.int .i64 (sn : Int), .int .i64 bt, .int .i64 md, .int .i64 l, .int .i64 (rn : Int)]) rfl 36 (.tmp 5) rfl rfl hC1 _ Tryz.underlying36 rfl (by rw [infoCf]; rfl) ?_)
   refine HSP.out.mono ?_
   rintro e w2 ⟨hB2, PA, nP, cP, rfl, hok⟩
   have HP2 := Lib.hid (HP1.out.below hB2)
   have HC2 := Lib.hid (HC1.out.below hB2)
   have HB2 := Lib.hid (HB1.out.trans (hB2.mono HB1.out.size))
   have HY2 := Lib.hid (Rdv.below HY1.out hB2)
   have cst := HP2.out.p.cell (j := 1) (v := .int .i64 st) rfl
   have csz := HP2.out.p.cell (j := 2) (v := .int .i64 sz) rfl
   have clm := HP2.out.p.cell (j := 3) (v := .int .i64 lm) rfl
   have cs := HC2.out.cell (j := 0) (v := .int .i64 (sn : Int)) rfl
   have cl := HC2.out.cell (j := 3) (v := .int .i64 l) rfl
   obtain ⟨rfl, hPAf, Q, qc, hpa, hqr, hqf⟩ := hok trivial
   go_wp2_with fail
   refine (HV.out w2 HY2.out).mono ?_
   rintro e w3 ⟨rfl, hB3⟩
   have hB23 := hB3
   go_wp2_with fail
   go_quiet (fail)
   have HB4 : Hid (Below w.heap.size w (w3.drewN nq)) := Lib.hid ((HB2.out.trans (hB3.mono HB2.out.size)).trans (Qt.below ⟨nq, rfl⟩ _))
   have HP4 : Hid (PrP (w3.drewN nq) base P half st sz lm A0 n0 c0) := Lib.hid ⟨(HP2.out.below hB3).p.drewN nq, HP2.out.d⟩
   have hC4 := (HC2.out.below hB3).drewN nq
   have HPA4 := Lib.hid (Rdv.drewN (Rdv.below hpa hB3) nq)
   have HQR4 := Lib.hid (Rdv.drewN (Rdv.below hqr hB3) nq)
   have HZ4 : Hid (w2.heap.size ≤ (w3.drewN nq).heap.size) := Lib.hid hB3.size
   have HPF : Hid (w.heap.size ≤ blk PA ∧ (Q ≠ none → w.heap.size ≤ blk Q ∧ blk Q < w2.heap.size)) := Lib.hid ⟨Nat.le_trans HB1.out.size hPAf, fun hA => ⟨Nat.le_trans HB1.out.size (hqf hA).1, (hqf hA).2⟩⟩
   generalize w3.drewN nq = w4 at *
   have HC4 := Lib.hid hC4
   clear hB3 hB23 hpa hqr hqf hPAf cst csz clm cs cl hB2
   go_wp2_with (refine ldrow (cs := [.int .i64 (sn : Int), .int .i64 bt, .int .i64 md, .int .i64 l, .int .i64 (rn : Int)]) rfl 36 (.tmp 5) rfl rfl hC4 _ Tryz.underlying36 rfl (by rw [infoCf]; rfl) ?_)
   refine (HST.out w4 HP4.out (Nat.le_trans HBS.out HB4.out.size)).mono ?_
   rintro e w5 ⟨⟨v, rfl⟩, hB5, hK5, G, cap, D, V, rest, hfr, hPB, hDm⟩
   obtain ⟨vc, hvc⟩ : ∃ vc, vc = 3 * (kS (sn : Int) + 4) := ⟨_, rfl⟩
   have HQ5 : Hid (HqP w5 base P half 1 (sn : Int) l G cap D (kS (sn : Int)) (fS (sn : Int)) V vc (frL (kS (sn : Int)) (fS (sn : Int))) 0 none 0 0 rest none) := Lib.hid ⟨hPB, by rw [hvc]; exact hDm, ⟨rfl, rfl, rfl⟩, fun h => absurd rfl h⟩
   have hPw := HPW.out
   have hs45 : w4.heap.size ≤ w5.heap.size := hB5.size
   have hw4 : w.heap.size ≤ w4.heap.size := HB4.out.size
   have HB5 : Hid (Below base w w5) := Lib.hid ((HB4.out.mono HBS.out).trans hB5)
   have HC5 : Hid (Blk w5 w.heap.size 36 [.int .i64 (sn : Int), .int .i64 bt, .int .i64 md, .int .i64 l, .int .i64 (rn : Int)]) := Lib.hid ((hK5 _ hC4.lt (by omega)).trans hC4)
   have HPA5 := Lib.hid (rdv_heq HPA4.out hs45 (fun hA hlt => hK5 _ hlt (by have := HPF.out.1; omega)))
   have HQR5 : Hid (Rd .i64 w5 Q n qc ys) := Lib.hid (rdv_heq HQR4.out hs45 (fun hA hlt => hK5 _ hlt (by have := (HPF.out.2 hA).1; omega)))
   have HK5 : Hid (∀ q, q < w.heap.size → q ≠ P → w5.heap[q]? = w.heap[q]?) := Lib.hid (fun q hq hP => (hK5 q (by omega) hP).trans (HB4.out.block q hq))
   have HQV : Hid (Q ≠ none → blk Q ≠ blk V) := Lib.hid (fun hA => by have h1 := HPF.out.2 hA; have h2 := HZ4.out; have h3 := hfr.2.2; omega)
   have HNF : Hid (∀ q, q < w.heap.size → q ∉ ([] : List Nat) → q ≠ G ∧ q ≠ D ∧ q ≠ blk V) := Lib.hid (fun q hq _ => by obtain ⟨g1, g2, g3⟩ := hfr; exact ⟨by omega, by omega, by omega⟩)
   have HFR : Hid (∀ x, x ∈ [G, D, blk V] → x ∈ ([] : List Nat) ∨ w.heap.size ≤ x) := Lib.hid (fun x hx => by obtain ⟨g1, g2, g3⟩ := hfr; simp at hx; right; omega)
   clear hC4 hB5 hK5 hfr hPB hDm hvc hPw hs45 hw4 hok
   have cst5 := HQ5.out.a.p.p.cell (j := 1) (v := .int .i64 1) rfl
   have crv := HC5.out.cell (j := 4) (v := .int .i64 (rn : Int)) rfl
   have HW5 : Hid (base ≤ w5.heap.size) := Lib.hid (Nat.le_trans HBS.out HB5.out.size)
   go_wp2_with fail
   refine (combine_any HQ5.out HW5.out ⟨HKB.out.1, HKB.out.2.1⟩ HKB.out.2.2 HL1.out rn n HRN.out HNN.out HCN.out HUS.out PA cP Q qc ys HPA5.out HQR5.out HSB.out HQV.out).mono ?_
   rintro e w6 ⟨⟨v6, rfl⟩, hB6, hK6, T, R6, r6, rc6, hT, hQ6⟩
   have hpick : Cr.selL (b1 (sn : Int) l) (Cr.stS (kS (sn : Int)) (Cr.szB (kS (sn : Int)) l) rn) (Cr.szB (kS (sn : Int)) l) T = slP (sn : Int) l rn n := Cr.pick_of (b1_len HL1.out) HUS.out hT
   have hQ6 : HqP w6 base P half 1 (sn : Int) l G cap D (kS (sn : Int)) (fS (sn : Int)) V vc (cmbL (Cr.selL (b1 (sn : Int) l) (Cr.stS (kS (sn : Int)) (Cr.szB (kS (sn : Int)) l) rn) (Cr.szB (kS (sn : Int)) l) T) ys (frL (kS (sn : Int)) (fS (sn : Int))) n) (0 + n) R6 r6 rc6 rest (dcB (cmbL (Cr.selL (b1 (sn : Int) l) (Cr.stS (kS (sn : Int)) (Cr.szB (kS (sn : Int)) l) rn) (Cr.szB (kS (sn : Int)) l) T) ys (frL (kS (sn : Int)) (fS (sn : Int))) n) (kS (sn : Int)) (fS (sn : Int)) half none) := hQ6
   rw [hpick] at hQ6
   have hlen := Rd.len (Own.rd hQ6.d.v)
   have hdl := dcB_len (k := kS (sn : Int)) (f := fS (sn : Int)) (half := half) (b := none) (by rw [hlen]; have := HKB.out; omega : (cmbL (slP (sn : Int) l rn n) ys (frL (kS (sn : Int)) (fS (sn : Int))) n).length ≤ 1500) HBL.out
   have HDL := Lib.hid hdl
   have HQ6 := Lib.hid hQ6
   have HB6 := Lib.hid (HB5.out.trans hB6)
   have HK6 := Lib.hid hK6
   have HS6 : Hid (w5.heap.size ≤ w6.heap.size) := Lib.hid hB6.size
   have HF := Lib.hid (finish_any hQ6 (Nat.le_trans HBS.out HB6.out.size) (btp_len hQ6.t hdl))
   clear hT hQ6 hpick hlen hdl hB6 hK6 cst5 crv
   go_wp2_with fail
   refine HF.out.mono ?_
   rintro e w7 ⟨A7, n7, c7, R7, r7, rc7, rfl, hR7, hB7, hK7, hQ7⟩
   have HR7 := Lib.hid hR7
   have HB7 := Lib.hid (HB6.out.trans hB7)
   have HK7 := Lib.hid hK7
   have HQ7 := Lib.hid hQ7
   clear hR7 hB7 hK7 hQ7
   go_wp2
   go_ret3
   refine ⟨A7, n7, c7, [G, D, blk V], rfl, HR7.out, HB7.out, ⟨⟨G, cap, D, V, _, R7, r7, rc7, rest, rfl, HQ7.out⟩, HSS.out, HL1.out, ?_, fnS_cases _ _, fnB_len HDL.out⟩, fun q hq hP hF => ?_, HFR.out⟩
   · have := HCC.out
     show 0 ≤ 0 + (n : Int) ∧ 0 + (n : Int) ≤ ((0 + n : Nat) : Int)
     omega
   · have h5 : q < w5.heap.size := Nat.lt_of_lt_of_le hq HB5.out.size
     obtain ⟨hG, hD, hV⟩ := HNF.out q hq hF
     exact ((HK7.out q (Nat.lt_of_lt_of_le h5 HS6.out) hP hG).trans (HK6.out q h5 hG hD hV)).trans (HK5.out q hq hP)
 | false =>
   have q3 : (st == 0) = true := by simp [hbeg.resolve_left (by decide)]
   clear hbeg
   go_enter Tryz.func15, Tryz.ntmps15
   go_wp2_with fail
   refine HN0.out.mono ?_
   rintro e wx ⟨rfl, hwx⟩
   rw [← hwx]
   clear hwx
   generalize w.alloc (.cells #[.int .i64 (sn : Int), .int .i64 bt, .int .i64 md, .int .i64 l, .int .i64 (rn : Int)] 36) = w1 at *
   go_wp2_with (refine ldrow (cs := [.int .i64 (sn : Int), .int .i64 bt, .int .i64 md, .int .i64 l, .int .i64 (rn : Int)]) rfl 36 (.tmp 5) rfl rfl hC1 _ Tryz.underlying36 rfl (by rw [infoCf]; rfl) ?_)
   refine HSP.out.mono ?_
   rintro e w2 ⟨hB2, PA, nP, cP, rfl, hok⟩
   have HP2 := Lib.hid (HP1.out.below hB2)
   have HC2 := Lib.hid (HC1.out.below hB2)
   have HB2 := Lib.hid (HB1.out.trans (hB2.mono HB1.out.size))
   have HY2 := Lib.hid (Rdv.below HY1.out hB2)
   have cst := HP2.out.p.cell (j := 1) (v := .int .i64 st) rfl
   have csz := HP2.out.p.cell (j := 2) (v := .int .i64 sz) rfl
   have clm := HP2.out.p.cell (j := 3) (v := .int .i64 lm) rfl
   have cs := HC2.out.cell (j := 0) (v := .int .i64 (sn : Int)) rfl
   have cl := HC2.out.cell (j := 3) (v := .int .i64 l) rfl
   obtain ⟨rfl, hPAf, Q, qc, hpa, hqr, hqf⟩ := hok trivial
   go_wp2_with fail
   refine (HV.out w2 HY2.out).mono ?_
   rintro e w3 ⟨rfl, hB3⟩
   have hB23 := hB3
   go_wp2_with fail
   go_quiet (fail)
   have HB4 : Hid (Below w.heap.size w (w3.drewN nq)) := Lib.hid ((HB2.out.trans (hB3.mono HB2.out.size)).trans (Qt.below ⟨nq, rfl⟩ _))
   have HP4 : Hid (PrP (w3.drewN nq) base P half st sz lm A0 n0 c0) := Lib.hid ⟨(HP2.out.below hB3).p.drewN nq, HP2.out.d⟩
   have hC4 := (HC2.out.below hB3).drewN nq
   have HPA4 := Lib.hid (Rdv.drewN (Rdv.below hpa hB3) nq)
   have HQR4 := Lib.hid (Rdv.drewN (Rdv.below hqr hB3) nq)
   have HZ4 : Hid (w2.heap.size ≤ (w3.drewN nq).heap.size) := Lib.hid hB3.size
   have HPF : Hid (w.heap.size ≤ blk PA ∧ (Q ≠ none → w.heap.size ≤ blk Q ∧ blk Q < w2.heap.size)) := Lib.hid ⟨Nat.le_trans HB1.out.size hPAf, fun hA => ⟨Nat.le_trans HB1.out.size (hqf hA).1, (hqf hA).2⟩⟩
   generalize w3.drewN nq = w4 at *
   have HC4 := Lib.hid hC4
   clear hB3 hB23 hpa hqr hqf hPAf cst csz clm cs cl hB2
   go_wp2_with (refine ldrow (cs := [.int .i64 (sn : Int), .int .i64 bt, .int .i64 md, .int .i64 l, .int .i64 (rn : Int)]) rfl 36 (.tmp 5) rfl rfl hC4 _ Tryz.underlying36 rfl (by rw [infoCf]; rfl) ?_)
   refine (HST.out w4 HP4.out (Nat.le_trans HBS.out HB4.out.size)).mono ?_
   rintro e w5 ⟨⟨v, rfl⟩, hB5, hK5, G, cap, D, V, rest, hfr, hPB, hDm⟩
   obtain ⟨vc, hvc⟩ : ∃ vc, vc = 3 * (kS (sn : Int) + 4) := ⟨_, rfl⟩
   have HQ5 : Hid (HqP w5 base P half 1 (sn : Int) l G cap D (kS (sn : Int)) (fS (sn : Int)) V vc (frL (kS (sn : Int)) (fS (sn : Int))) 0 none 0 0 rest none) := Lib.hid ⟨hPB, by rw [hvc]; exact hDm, ⟨rfl, rfl, rfl⟩, fun h => absurd rfl h⟩
   have hPw := HPW.out
   have hs45 : w4.heap.size ≤ w5.heap.size := hB5.size
   have hw4 : w.heap.size ≤ w4.heap.size := HB4.out.size
   have HB5 : Hid (Below base w w5) := Lib.hid ((HB4.out.mono HBS.out).trans hB5)
   have HC5 : Hid (Blk w5 w.heap.size 36 [.int .i64 (sn : Int), .int .i64 bt, .int .i64 md, .int .i64 l, .int .i64 (rn : Int)]) := Lib.hid ((hK5 _ hC4.lt (by omega)).trans hC4)
   have HPA5 := Lib.hid (rdv_heq HPA4.out hs45 (fun hA hlt => hK5 _ hlt (by have := HPF.out.1; omega)))
   have HQR5 : Hid (Rd .i64 w5 Q n qc ys) := Lib.hid (rdv_heq HQR4.out hs45 (fun hA hlt => hK5 _ hlt (by have := (HPF.out.2 hA).1; omega)))
   have HK5 : Hid (∀ q, q < w.heap.size → q ≠ P → w5.heap[q]? = w.heap[q]?) := Lib.hid (fun q hq hP => (hK5 q (by omega) hP).trans (HB4.out.block q hq))
   have HQV : Hid (Q ≠ none → blk Q ≠ blk V) := Lib.hid (fun hA => by have h1 := HPF.out.2 hA; have h2 := HZ4.out; have h3 := hfr.2.2; omega)
   have HNF : Hid (∀ q, q < w.heap.size → q ∉ ([] : List Nat) → q ≠ G ∧ q ≠ D ∧ q ≠ blk V) := Lib.hid (fun q hq _ => by obtain ⟨g1, g2, g3⟩ := hfr; exact ⟨by omega, by omega, by omega⟩)
   have HFR : Hid (∀ x, x ∈ [G, D, blk V] → x ∈ ([] : List Nat) ∨ w.heap.size ≤ x) := Lib.hid (fun x hx => by obtain ⟨g1, g2, g3⟩ := hfr; simp at hx; right; omega)
   clear hC4 hB5 hK5 hfr hPB hDm hvc hPw hs45 hw4 hok
   have cst5 := HQ5.out.a.p.p.cell (j := 1) (v := .int .i64 1) rfl
   have crv := HC5.out.cell (j := 4) (v := .int .i64 (rn : Int)) rfl
   have HW5 : Hid (base ≤ w5.heap.size) := Lib.hid (Nat.le_trans HBS.out HB5.out.size)
   go_wp2_with fail
   refine (combine_any HQ5.out HW5.out ⟨HKB.out.1, HKB.out.2.1⟩ HKB.out.2.2 HL1.out rn n HRN.out HNN.out HCN.out HUS.out PA cP Q qc ys HPA5.out HQR5.out HSB.out HQV.out).mono ?_
   rintro e w6 ⟨⟨v6, rfl⟩, hB6, hK6, T, R6, r6, rc6, hT, hQ6⟩
   have hpick : Cr.selL (b1 (sn : Int) l) (Cr.stS (kS (sn : Int)) (Cr.szB (kS (sn : Int)) l) rn) (Cr.szB (kS (sn : Int)) l) T = slP (sn : Int) l rn n := Cr.pick_of (b1_len HL1.out) HUS.out hT
   have hQ6 : HqP w6 base P half 1 (sn : Int) l G cap D (kS (sn : Int)) (fS (sn : Int)) V vc (cmbL (Cr.selL (b1 (sn : Int) l) (Cr.stS (kS (sn : Int)) (Cr.szB (kS (sn : Int)) l) rn) (Cr.szB (kS (sn : Int)) l) T) ys (frL (kS (sn : Int)) (fS (sn : Int))) n) (0 + n) R6 r6 rc6 rest (dcB (cmbL (Cr.selL (b1 (sn : Int) l) (Cr.stS (kS (sn : Int)) (Cr.szB (kS (sn : Int)) l) rn) (Cr.szB (kS (sn : Int)) l) T) ys (frL (kS (sn : Int)) (fS (sn : Int))) n) (kS (sn : Int)) (fS (sn : Int)) half none) := hQ6
   rw [hpick] at hQ6
   have hlen := Rd.len (Own.rd hQ6.d.v)
   have hdl := dcB_len (k := kS (sn : Int)) (f := fS (sn : Int)) (half := half) (b := none) (by rw [hlen]; have := HKB.out; omega : (cmbL (slP (sn : Int) l rn n) ys (frL (kS (sn : Int)) (fS (sn : Int))) n).length ≤ 1500) HBL.out
   have HDL := Lib.hid hdl
   have HQ6 := Lib.hid hQ6
   have HB6 := Lib.hid (HB5.out.trans hB6)
   have HK6 := Lib.hid hK6
   have HS6 : Hid (w5.heap.size ≤ w6.heap.size) := Lib.hid hB6.size
   have HF := Lib.hid (finish_any hQ6 (Nat.le_trans HBS.out HB6.out.size) (btp_len hQ6.t hdl))
   clear hT hQ6 hpick hlen hdl hB6 hK6 cst5 crv
   go_wp2_with fail
   refine HF.out.mono ?_
   rintro e w7 ⟨A7, n7, c7, R7, r7, rc7, rfl, hR7, hB7, hK7, hQ7⟩
   have HR7 := Lib.hid hR7
   have HB7 := Lib.hid (HB6.out.trans hB7)
   have HK7 := Lib.hid hK7
   have HQ7 := Lib.hid hQ7
   clear hR7 hB7 hK7 hQ7
   go_wp2
   go_ret3
   refine ⟨A7, n7, c7, [G, D, blk V], rfl, HR7.out, HB7.out, ⟨⟨G, cap, D, V, _, R7, r7, rc7, rest, rfl, HQ7.out⟩, HSS.out, HL1.out, ?_, fnS_cases _ _, fnB_len HDL.out⟩, fun q hq hP hF => ?_, HFR.out⟩
   · have := HCC.out
     show 0 ≤ 0 + (n : Int) ∧ 0 + (n : Int) ≤ ((0 + n : Nat) : Int)
     omega
   · have h5 : q < w5.heap.size := Nat.lt_of_lt_of_le hq HB5.out.size
     obtain ⟨hG, hD, hV⟩ := HNF.out q hq hF
     exact ((HK7.out q (Nat.lt_of_lt_of_le h5 HS6.out) hP hG).trans (HK6.out q h5 hG hD hV)).trans (HK5.out q hq hP)
end Go.Proofs.YtkdfefpnhaebfaaGreat
namespace Go.Proofs.YtkdfefpnhaebfaaGreat.Cr
open Go.RowKit Go.Shelf
attribute [local go_sem] Oper.semAt_some
set_option maxRecDepth 100000
set_option maxHeartbeats 2000000
theorem cl28_row {xs : List Int} {L : List Sv} (hE : bE xs = 0) (hy : Byt xs) (hL : L.map (·.xs) = (bD xs).map Tu.encW) (C g m : Nat) (hC : C = bC (xs.length + 24)) (hgm : m * g ≤ 131072) (lim : Int) (hl : 1 ≤ lim) (rv : Nat) (hrv : rv ≤ 3) (LB CB EB : Nat) (Ae : Option Addr) (ce : Nat) {j : Nat} {s : Sv} (hj : L[j]? = some s) (W : World)
 (hb : Blk W LB 31 (ints8 (LY (xs.length + 24)))) (h3 : W.cell? ⟨CB, 3, none⟩ = some (.int .i64 lim)) (h4 : W.cell? ⟨CB, 4, none⟩ = some (.int .i64 (rv : Int))) (h0 : W.cell? ⟨EB, 0, none⟩ = some (.slice Ae C ce)) (he : Rd .i64 W Ae C ce (shT C g m C)) (hx : Rd .u8 W s.A s.n s.c s.xs) :
 Calls Tryz.prog 31 #[.int .i64 (j : Int), .slice s.A s.n s.c, .pointer (some ⟨LB, 0, none⟩), .pointer (some ⟨CB, 0, none⟩), .pointer (some ⟨EB, 0, none⟩)] W (CePost (bad49 (xs.length + 24) lim C g m j) (rowX (xs.length + 24) lim C g m rv xs j) W) := by
 obtain ⟨e1, e2, e3, e4⟩ := word_at hE hy hL hj
 have hn : s.n = 3 * (sz (xs.length + 24) j + 4) := by rw [← hx.len, ← e2]
 have hb1 := bE_inv hE
 have hz := sz_ge (b := xs.length + 24) (i := j) (by omega)
 have hC1 : 1 ≤ C := by rw [hC]; exact bC_pos
 have hsh := shN_le C g m j hC1 (by omega)
 have hM : ∀ w, Rd .u8 w s.A s.n s.c s.xs → Calls Tryz.prog 32 #[.slice s.A s.n s.c, .int .i64 (fl (xs.length + 24) j : Int), .int .i64 lim, .int .i64 rv, .int .i64 (shN C g m j : Nat)] w (MtPost s.xs (bfE (xs.length + 24) lim j) (stS (sz (xs.length + 24) j) (szB (sz (xs.length + 24) j) lim) rv) (szB (sz (xs.length + 24) j) lim) (shN C g m j) w) := fun w hw => by
  rw [hn] at hw ⊢
  exact match_ok s.A s.c s.xs (sz (xs.length + 24) j) (fl (xs.length + 24) j) rv (shN C g m j) lim w hw e3 (sz_40 _ _) hz.2 (fl_lt (by omega)) hl hrv (by omega)
 have h := cl28_any LB CB EB (xs.length + 24) j (shN C g m j) rv 0 lim s.A Ae s.n s.c C ce s.xs (bfE (xs.length + 24) lim j) (stS (sz (xs.length + 24) j) (szB (sz (xs.length + 24) j) lim) rv) (szB (sz (xs.length + 24) j) lim) W ⟨hb, h3, h4, h0, ⟨_, he, by rw [shT_gi _ _ _ _ _ (by omega), shr_cast]⟩, hx, by omega⟩ hM
 refine h.mono fun en w' hp => ?_
 have hc := cepost_of (bfE_len hl) hp
 rw [e1] at hc
 exact hc
def ExPost (b : Nat) (lim : Int) (C g m rv : Nat) (xs : List Int) (w : World) (en : Ending) (w' : World) : Prop :=
 ∃ A n c, en = .returned (.tuple #[.slice A n c, .int .i64 (exE b lim C g m xs)]) ∧ Own .u8 5 w' w.heap.size A n c (exD b lim C g m rv xs) ∧ Below w.heap.size w w'
theorem enc_ok (s C g m rv : Nat) (lm : Int) (A : Option Addr) (n c : Nat) (xs : List Int) (w : World) (hs1 : 1 ≤ s) (hs2 : s ≤ 79536) (hCe : C = bC (s + 24)) (hmm : m = 2 ∨ m = 4 ∨ m = 6) (hgm : m * g ≤ 131072) (hlm : 1 ≤ lm) (hrv : rv ≤ 3)
 (hn : n = s) (hx : Rd .u8 w A n c xs) (hy : Byt xs) :
 Calls Tryz.prog 13 #[.agg #[.int .i64 s, .int .i64 ((m * g : Nat) : Int), .int .i64 m, .int .i64 lm, .int .i64 (rv : Int)], .slice A n c] w (ExPost (s + 24) lm C g m rv xs w) := by
 subst hn
 have hxl : xs.length = n := hx.len
 have HS := Lib.hid (fun W => shares_ok n C g m lm rv W hs1 hs2 hCe hmm hgm hlm (by omega))
 have HW := Lib.hid (fun W h => words_any A n c xs W h hy hs2)
 unfold WdAll at HW
 have HLY := Lib.hid (fun W => lay_any n W)
 have hly : ly15 n = (LY (n + 24), 0) := by unfold ly15; rw [if_neg (by omega)]; rfl
 rw [hly] at HLY
 clear hly
 have hC1 : 1 ≤ C := by rw [hCe]; exact bC_pos
 have hC2 : C ≤ 13 := by rw [hCe]; exact bC_le (by omega)
 have HCL := Lib.hid (fun (hE : bE xs = 0) (L : List Sv) (hL : L.map (·.xs) = (bD xs).map Tu.encW) => @cl28_row xs L hE hy hL C g m (by rw [hxl]; exact hCe) hgm lm hlm rv hrv)
 rw [hxl] at HCL
 have HGM := Lib.hid hgm
 obtain ⟨bt, hbt⟩ : ∃ bt, bt = ((m * g : Nat) : Int) := ⟨_, rfl⟩
 rw [← hbt] at HS ⊢
 have q : ((n : Int) != (n : Int)) = false := bne_f rfl
 have HC0 := Lib.hid (Blk.new w [.int .i64 n, .int .i64 bt, .int .i64 m, .int .i64 lm, .int .i64 (rv : Int)] 36 rfl)
 have HB0 := Lib.hid (bal (Below.refl _ w) (.cells [Value.int .i64 n, .int .i64 bt, .int .i64 m, .int .i64 lm, .int .i64 (rv : Int)].toArray 36))
 have HX0 := Lib.hid (hx.alloc (.cells [Value.int .i64 n, .int .i64 bt, .int .i64 m, .int .i64 lm, .int .i64 (rv : Int)].toArray 36))
 have hc0 := HC0.out
 by_cases hE : bE xs = 0
 · rw [hE] at HW
   have HE := Lib.hid hE
   have HDL := Lib.hid (show (bD xs).length = C by rw [bD_len hE hy, hxl, ← hCe])
   clear hbt hCe hmm hgm hE hy hx
   go_enter Tryz.func13, Tryz.ntmps13
   go_wp2_with (first
    | (refine ldrow (cs := [.int .i64 n, .int .i64 bt, .int .i64 m, .int .i64 lm, .int .i64 (rv : Int)]) rfl 36 (.tmp 2) rfl rfl hc0 _ Tryz.underlying36 rfl (by kernel_rfl) ?_)
    | (go_at_call 28; refine (HS.out _).mono ?_; rintro e w1 ⟨A1, c1, rfl, hO1, hB1⟩
       have HC1 := Lib.hid ((HC0.out.below hB1).alloc (.cells #[.slice A1 C c1] 39))
       have k0 := HC1.out.cell (j := 0) (v := .int .i64 n) rfl
       have HE1 : Hid (Blk (w1.alloc (.cells #[.slice A1 C c1] 39)) w1.heap.size 39 [.slice A1 C c1]) := Lib.hid (Blk.new w1 _ 39 rfl)
       have HN1 := Lib.hid ((Own.rd hO1).alloc (.cells #[.slice A1 C c1] 39))
       have HX1 := Lib.hid ((Rdv.below HX0.out hB1).alloc (.cells #[.slice A1 C c1] 39))
       have HB1 := Lib.hid (bal (HB0.out.trans (hB1.mono HB0.out.size)) (.cells #[.slice A1 C c1] 39))
       clear hO1 hB1)
    | (go_at_call 29; refine (HW.out _ HX1.out).mono ?_; rintro e w2 ⟨A2, n2, c2, L2, rfl, hn2, hBL2, hxs2, hB2⟩
       have HL2 := Lib.hid (show RL w2 A2 n2 c2 L2 by rw [hn2]; exact hBL2.rl)
       have HX2 := Lib.hid hxs2
       have HC2 := Lib.hid (HC1.out.below hB2)
       have k1 := HC2.out.cell (j := 0) (v := .int .i64 n) rfl
       have HE2 := Lib.hid (HE1.out.below hB2)
       have HN2 := Lib.hid (Rdv.below HN1.out hB2)
       have HB2 := Lib.hid (HB1.out.trans (hB2.mono HB1.out.size))
       clear hn2 hBL2 hxs2 hB2 k0 HC1 HE1 HN1 HX1 HB1)
    | (go_at_call 12; refine (HLY.out _).mono ?_; rintro e w3 ⟨rfl, hB3⟩; have hL0 : Blk (w3.alloc (.cells (ints8 zero7).toArray 31)) w3.heap.size 31 (ints8 zero7) := Blk.new w3 _ 31 rfl; have HBw3 := Lib.hid hB3; clear hB3; simp only [ints8, zero7, List.map_cons, List.map_nil] at hL0)
    | (refine strow (cs := ints8 (LY (n + 24))) rfl 31 (.tmp 9) (.tmp 38) rfl rfl rfl hL0 (by simp [ints8, LY]) (by rw [info23]; simp [ints8, LY]) (ints8_one _) ?_
       intro W4 g1 g2
       have hq := (Below.refl w3.heap.size w3).alloc (Nat.le_refl _) (.cells #[.int .i64 0, .int .i64 0, .int .i64 0, .int .i64 0, .int .i64 0, .int .i64 0, .int .i64 0] 31)
       have HB3 := Lib.hid (HBw3.out.trans ((hq.grown g2 hq.size (fun k hk => by cases hk; exact Nat.le_refl _)).mono HBw3.out.size))
       have HLB := Lib.hid g1
       clear g1 g2 hq hL0))
   have HC4 := Lib.hid (HC2.out.below HB3.out)
   have HE4 := Lib.hid (HE2.out.below HB3.out)
   have HN4 := Lib.hid (Rdv.below HN2.out HB3.out)
   have HL4 := Lib.hid (HL2.out.below HB3.out)
   have HB4 := Lib.hid (HB2.out.trans (HB3.out.mono HB2.out.size))
   have hl2 : L2.length = n2 := HL4.out.len
   have hl3 : L2.length = C := by
    have := congrArg List.length HX2.out
    rw [List.length_map, List.length_map, HDL.out] at this
    exact this
   obtain rfl : n2 = C := by omega
   refine (each20e_any A2 n2 c2 L2 (.pointer (some ⟨w3.heap.size, 0, none⟩)) (.pointer (some ⟨w.heap.size, 0, none⟩)) (.pointer (some ⟨w1.heap.size, 0, none⟩)) (bad49 (n + 24) lm n2 g m) (rowX (n + 24) lm n2 g m rv xs) W4 HL4.out (by omega) (fun j s wr hj hB => HCL.out HE.out L2 HX2.out w3.heap.size w.heap.size w1.heap.size A1 c1 hj wr (HLB.out.below hB) ((HC4.out.below hB).cell (j := 3) rfl) ((HC4.out.below hB).cell (j := 4) rfl) ((HE4.out.below hB).cell (j := 0) rfl) (Rdv.below HN4.out hB) ((HL4.out.below hB).r s (List.mem_of_getElem? hj)))).mono ?_
   clear hl2 hl3
   rintro e w5 ⟨hB5, ⟨hbad, rfl⟩ | ⟨hok, A5, c5, L5, rfl, hBL5, hxs5⟩⟩
   · have HB5 := Lib.hid (HB4.out.trans (hB5.mono HB4.out.size))
     have HEX := Lib.hid (ex_bad (b := n + 24) (lim := lm) (g := g) (m := m) (rv := rv) HE.out hbad)
     clear hbad hB5
     go_wp2_with fail
     refine (concat_any none 0 0 [] w5 (BL.nil w5 0).rd (by simp) (by simp [tot])).mono ?_
     rintro e w6 ⟨A6, c6, rfl, hO6, hB6⟩
     have HO6 := Lib.hid (Ownv.mono hO6 (show w.heap.size ≤ w5.heap.size from HB5.out.size))
     have HB6 := Lib.hid (HB5.out.trans (hB6.mono HB5.out.size))
     clear hO6 hB6
     go_wp2
     go_ret2
     exact ⟨A6, tot [] 0, c6, by rw [HEX.out.1]; rfl, by rw [HEX.out.2]; exact HO6.out, HB6.out⟩
   · have HB5 := Lib.hid (HB4.out.trans (hB5.mono HB4.out.size))
     have HEX := Lib.hid (ex_ok (b := n + 24) (lim := lm) (g := g) (m := m) (rv := rv) HE.out hok)
     have htt := tot_all hlm hC1 hok hxs5 (fun s hs => Rd.len (Own.rd (hBL5.r s hs).1))
     have HTT := Lib.hid htt
     have HBL5 := Lib.hid hBL5
     have htl : tot L5 L5.length ≤ 1000000 := by rw [htt.1]; have := HGM.out; omega
     clear hok hB5 hxs5 hBL5 htt
     go_wp2_with fail
     refine (concat_any A5 L5.length c5 L5 w5 HBL5.out.rd (fun s hs => Own.rd (HBL5.out.r s hs).1) htl).mono ?_
     rintro e w6 ⟨A6, c6, rfl, hO6, hB6⟩
     have HO6 := Lib.hid (Ownv.mono hO6 (show w.heap.size ≤ w5.heap.size from HB5.out.size))
     have HB6 := Lib.hid (HB5.out.trans (hB6.mono HB5.out.size))
     clear hO6 hB6
     generalize tot L5 L5.length = T at *
     go_wp2
     go_ret2
     exact ⟨A6, T, c6, by rw [HEX.out.1]; rfl, by rw [HEX.out.2, ← HTT.out.2]; exact HO6.out, HB6.out⟩
 · have HE := Lib.hid (ex_err (b := n + 24) (lim := lm) (C := C) (g := g) (m := m) (rv := rv) hE)
   have hq := bne_t hE
   generalize bE xs = E at *
   clear hE hbt hCe hmm hgm hy hx HCL HLY hC1 hC2 hlm hrv hs1 HGM
   go_enter Tryz.func13, Tryz.ntmps13
   go_wp2_with (first
    | (refine ldrow (cs := [.int .i64 n, .int .i64 bt, .int .i64 m, .int .i64 lm, .int .i64 (rv : Int)]) rfl 36 (.tmp 2) rfl rfl hc0 _ Tryz.underlying36 rfl (by kernel_rfl) ?_)
    | (go_at_call 28; refine (HS.out _).mono ?_; rintro e w1 ⟨A1, c1, rfl, hO1, hB1⟩
       have k0 := ((HC0.out.below hB1).alloc (.cells #[.slice A1 C c1] 39)).cell (j := 0) (v := .int .i64 n) rfl
       have HX1 := Lib.hid ((Rdv.below HX0.out hB1).alloc (.cells #[.slice A1 C c1] 39))
       have HB1 := Lib.hid (bal (HB0.out.trans (hB1.mono HB0.out.size)) (.cells #[.slice A1 C c1] 39))
       clear hO1 hB1)
    | (go_at_call 29; refine (HW.out _ HX1.out).mono ?_; rintro e w2 ⟨A2, n2, c2, L2, rfl, hn2, hBL2, hxs2, hB2⟩
       have HB2 := Lib.hid (HB1.out.trans (hB2.mono HB1.out.size))
       clear hn2 hBL2 hxs2 hB2 k0 HX1 HB1))
   go_ret2
   exact ⟨none, 0, 0, by rw [HE.out.1]; rfl, by rw [HE.out.2]; exact Own.nilv _ _ _ _, HB2.out⟩
end Go.Proofs.YtkdfefpnhaebfaaGreat.Cr
