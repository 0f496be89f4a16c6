/- Bundle. Conditions: none. -/
import Derived.Test.YtkdfefpnhaebfaaGreatBuobp
import Derived.Test.YtkdfefpnhaebfaaGreatBub1
set_option linter.unusedVariables false
set_option linter.unusedSimpArgs false
namespace Go.Proofs.YtkdfefpnhaebfaaGreat
open Go.RowKit
attribute [local go_sem] Oper.semAt_some
set_option maxRecDepth 100000
set_option maxHeartbeats 8000000
theorem cmb_zero {ps l vs : List Int} (hv : ∀ q, q < vs.length → gi vs q = 0) (hl : ∀ i, gi l i = 0) : ∀ j q, q < vs.length → gi (cmbL ps l vs j) q = 0
 | 0, q, hq => hv q hq
 | j + 1, q, hq => by
   have ih := cmb_zero hv hl (ps := ps) j
   show gi (List.set _ _ _) q = 0
   rw [gi_set' _ _ _ _ (by rw [cmbL_len]; exact hq)]
   split
   · rename_i e
     rw [e, ih q hq, hl]
     decide
   · exact ih q hq
theorem bZ_zero (half : Int) (n : Nat) : bZ half (zI 16 1000) 0 n (List.replicate n 0) = none := by
 unfold bZ vsZ zI dcB
 dsimp only
 rw [k16.1, k16.2.1]
 have hlen : (frL 40 0).length = 3 * (40 + 4) := by simp [frL]
 rw [knC_none (3 * (40 + 4)) (fun q hq => cmb_zero (fun q hq => by
  rw [hlen] at hq
  unfold frL
  rw [gi_range _ hq]
  unfold frI
  rw [if_neg (by omega)]) (fun i => gi_zero _ _) n q (by rw [hlen]; exact hq)), if_pos (by omega)]
theorem rc16 {st sz lm : Int} {fresh : Bool} {ys : List Int} (hs : SoftB ys = true) (hb : (fresh = true ∨ st = 0) ∨ (sz = 16 ∧ lm = 1000)) : rcE st sz lm 16 132 2 1000 0 fresh ys 132 = 0 := by
 unfold rcE
 rw [sp16, if_neg (by rw [hs]; rintro (h | h) <;> cases h), if_neg]
 rintro ⟨⟨h1, h2⟩, h3⟩
 rcases hb with (h | h) | ⟨h, h'⟩
 · rw [h1] at h; cases h
 · exact h2 h
 · rw [h, h'] at h3
   rcases h3 with h3 | h3 <;> exact h3 rfl
theorem nx16 (half : Nat) (mg : Int) (hh : 1 ≤ half ∧ half ≤ 64) (hm : 1 ≤ mg ∧ mg ≤ 127) : fnK 16 (bZ (half : Int) (zI 16 1000) 0 132 (idL mg (Cr.exD 40 1000 1 66 2 0 xs16))) = 1 ∧ fnO 16 (bZ (half : Int) (zI 16 1000) 0 132 (idL mg (Cr.exD 40 1000 1 66 2 0 xs16))) = xs16 ∧
 (nxZ (half : Int) (zI 16 1000) 0 132 (idL mg (Cr.exD 40 1000 1 66 2 0 xs16))).st = 2 ∧ (nxZ (half : Int) (zI 16 1000) 0 132 (idL mg (Cr.exD 40 1000 1 66 2 0 xs16))).b = some x40 := by
 have h := bZ16 half mg hh hm
 unfold nxZ zI at *
 dsimp only at *
 rw [h]
 unfold fnK fnO fnS fnB
 dsimp only
 rw [if_pos te16.1, if_pos te16.1, if_pos te16.1, if_pos te16.1]
 exact ⟨rfl, te16.2, rfl, rfl⟩
theorem nz16 : (nxZ 8 (zI 16 1000) 0 132 (List.replicate 132 0)).st = 1 := by
 have h := bZ_zero 8 132
 unfold nxZ zI at *
 dsimp only at *
 rw [h]
 rfl
theorem z132_soft : SoftB (List.replicate 132 0) = true := by decide +kernel
-- the first reception of a clean transmission
theorem recv16 {w : World} {base P : Nat} {st sz lm : Int} {A0 : Option Addr} {n0 c0 : Nat} (h : PrP w base P 8 st sz lm A0 n0 c0) (hb : base ≤ w.heap.size) (mg : Int) (hm : 1 ≤ mg ∧ mg ≤ 127) (fresh : Bool) (hbeg : fresh = true ∨ st = 0) (A : Option Addr) (c : Nat) (hy : Rd .i64 w A 132 c (idL mg (Cr.exD 40 1000 1 66 2 0 xs16))) :
 Calls Tryz.prog 15 #[.pointer (some ⟨P, 0, none⟩), .agg #[.int .i64 16, .int .i64 132, .int .i64 2, .int .i64 1000, .int .i64 0], .bool fresh, .slice A 132 c] w fun e w' => ∃ A' c' F' z, e = .returned (.tuple #[.slice A' 16 c', .int .i64 1, .int .i64 0]) ∧ Rd .u8 w' A' 16 c' xs16 ∧ Below base w w' ∧ HzP w' base P 8 z 132 F' ∧ (z.st = 2 ∧ z.sz = 16 ∧ z.lm = 1000 ∧ z.b = some x40) ∧ (∀ q, q < w.heap.size → q ≠ P → w'.heap[q]? = w.heap[q]?) ∧ (∀ x, x ∈ F' → w.heap.size ≤ x) := by
 refine (recv_begin h (by decide) hb 16 0 132 2 1000 fresh A 132 c _ hy (by omega) (rc16 (idL_soft hm exD16_bit) (.inl hbeg)) hbeg).mono ?_
 rintro e w' ⟨A', n', c', F', rfl, hR, hB, hZ, hK, hF⟩
 obtain ⟨e1, e2, e3, e4⟩ := nx16 8 mg (by omega) hm
 have hR : Rd .u8 w' A' n' c' xs16 := by rw [← e2]; exact hR
 obtain rfl : n' = 16 := (Rd.len hR).symm
 exact ⟨A', c', F', _, congrArg (fun k => Ending.returned (.tuple #[.slice A' 16 c', .int .i64 k, .int .i64 0])) e1, hR, hB, hZ, ⟨e3, rfl, rfl, e4⟩, fun q hq hp => hK q hq hp (by simp), fun x hx => (hF x hx).resolve_left (by simp)⟩
theorem recvz {w : World} {base P : Nat} {st sz lm : Int} {A0 : Option Addr} {n0 c0 : Nat} (h : PrP w base P 8 st sz lm A0 n0 c0) (hb : base ≤ w.heap.size) (A : Option Addr) (c : Nat) (hy : Rd .i64 w A 132 c (List.replicate 132 0)) :
 Calls Tryz.prog 15 #[.pointer (some ⟨P, 0, none⟩), .agg #[.int .i64 16, .int .i64 132, .int .i64 2, .int .i64 1000, .int .i64 0], .bool true, .slice A 132 c] w fun e w' => ∃ A' c' F' z, e = .returned (.tuple #[.slice A' 0 c', .int .i64 2, .int .i64 0]) ∧ Below base w w' ∧ HzP w' base P 8 z 132 F' ∧ z.st = 1 := by
 refine (recv_begin h (by decide) hb 16 0 132 2 1000 true A 132 c _ hy (by omega) (rc16 z132_soft (.inl (.inl rfl))) (.inl rfl)).mono ?_
 rintro e w' ⟨A', n', c', F', rfl, hR, hB, hZ, hK, hF⟩
 have h0 := bZ_zero 8 132
 have hR : Rd .u8 w' A' n' c' [] := by
  have e2 : fnO 16 (bZ 8 (zI 16 1000) 0 132 (List.replicate 132 0)) = [] := by rw [h0]; rfl
  rw [← e2]; exact hR
 obtain rfl : n' = 0 := (Rd.len hR).symm
 have e1 : fnK 16 (bZ 8 (zI 16 1000) 0 132 (List.replicate 132 0)) = 2 := by rw [h0]; rfl
 exact ⟨A', c', F', _, congrArg (fun k => Ending.returned (.tuple #[.slice A' 0 c', .int .i64 k, .int .i64 0])) e1, hB, hZ, nz16⟩
theorem known_ok (w : World) : Calls Tryz.prog 11 #[] w fun e w' => e = .returned (.bool true) ∧ Below w.heap.size w w' := by
 have HC0 := Lib.hid (Blk.new w [.int .i64 16, .int .i64 132, .int .i64 2, .int .i64 1000, .int .i64 0] 36 rfl)
 have HBA := Lib.hid (bal (Below.refl w.heap.size w) (.cells #[.int .i64 16, .int .i64 132, .int .i64 2, .int .i64 1000, .int .i64 0] 36))
 go_enter Tryz.func11, Tryz.ntmps11
 go_wp2_with fail
 generalize w.alloc (.cells #[.int .i64 16, .int .i64 132, .int .i64 2, .int .i64 1000, .int .i64 0] 36) = w1 at *
 obtain ⟨CB, hCB⟩ : ∃ CB, CB = w.heap.size := ⟨_, rfl⟩
 rw [← hCB] at HC0 ⊢
 clear hCB
 refine (hnew_ok 8 w1 (by omega)).mono ?_
 rintro e w2 ⟨P, rfl, hP, hB2⟩
 have HP2 := Lib.hid hP
 have HC2 := Lib.hid (HC0.out.below hB2)
 have HB2 := Lib.hid (HBA.out.trans (hB2.mono HBA.out.size))
 have HW12 : Hid (w1.heap.size ≤ w2.heap.size) := Lib.hid hB2.size
 have HCB : Hid (CB < w1.heap.size) := Lib.hid HC0.out.lt
 clear hP hB2
 go_wp2_with fail
 have HS := Lib.hid HC2.out.drew
 refine Q_start (fun W9 => Blk W9 CB 36 [.int .i64 16, .int .i64 132, .int .i64 2, .int .i64 1000, .int .i64 0]) 2 8 ?_
 refine Q_T 0 23 1 (.agg #[.int .i64 16, .int .i64 132, .int .i64 2, .int .i64 1000, .int .i64 0]) [] rfl HS.out (yieldsIf_load_mid rfl 36 (.tmp 1) rfl CB (0) rfl [.int .i64 16, .int .i64 132, .int .i64 2, .int .i64 1000, .int .i64 0] _ (fun W hS => fun q v hv => by rw [Nat.zero_add]; exact Blk.cell hS hv) Tryz.underlying36 rfl (by rw [infoCf]; rfl)) ?_
 simp only [z0, z1, z2]
 refine Q_1S 1 3 rfl (fun K hK => ?_)
 go_simp
 refine (sixteen_any _).mono ?_
 rintro e w3 ⟨A3, rfl, hR3, -, hB⟩
 have HB3 := Lib.hid ((Below.refl _ w2).drew.trans hB)
 have HR3 := Lib.hid hR3
 have HS3 := Lib.hid (HS.out.below hB)
 clear hR3 hB
 refine hK _ _ HS3.out ?_
 clear hK K
 refine Q_1 2 7 rfl (fun K hK => ?_)
 go_simp
 refine (encode16 A3 16 w3 HR3.out).mono ?_
 rintro e w4 ⟨A4, c4, rfl, hR4, hB⟩
 have HB4 := Lib.hid (HB3.out.trans (hB.mono HB3.out.size))
 have HR4 := Lib.hid hR4
 have HC4 := Lib.hid (HS3.out.below hB)
 clear hR4 hB
 refine hK _ _ ?_
 clear hK K
 refine Q_X 3 22 15 (.tuple #[.slice A4 132 c4, .int .i64 0]) rfl ?_
 simp only [z0, z1, z2]
 refine Q_X 4 26 31 (.slice A4 132 c4) rfl ?_
 simp only [z0, z1, z2]
 refine Q_X 5 27 63 (.int .i64 0) rfl ?_
 simp only [z0, z1, z2]
 refine Q_1 6 127 rfl (fun K hK => ?_)
 go_simp
 refine hK _ _ ?_
 clear hK K
 refine Q_1 7 255 rfl (fun K hK => ?_)
 go_simp
 refine hK _ _ ?_
 clear hK K
 refine Q_end ?_
 have HP4 := Lib.hid (HP2.out.below HB4.out)
 have HID := Lib.hid (ideal_ok A4 132 c4 _ 20 w4 HR4.out (by
  unfold Cr.ValidB
  rw [List.all_eq_true]
  intro y hy
  rcases exD16_bit y hy with h | h <;> rw [h] <;> rfl) (fun y hy => by rcases exD16_bit y hy with h | h <;> omega) (by omega) (by omega))
 go_wp2_with fail
 refine HID.out.mono ?_
 rintro e w5 ⟨R5, rfl, hR5, hF5, hB5⟩
 have HR5 := Lib.hid hR5
 have HF5 := Lib.hid hF5
 have HP5 := Lib.hid (HP4.out.below hB5)
 have hC5 := HC4.out.below hB5
 have HC5 := Lib.hid hC5
 have HB5 := Lib.hid (HB2.out.trans ((HB4.out.trans (hB5.mono HB4.out.size)).mono HB2.out.size))
 have HW25 : Hid (w2.heap.size ≤ w5.heap.size ∧ w2.heap.size ≤ w4.heap.size) := Lib.hid ⟨Nat.le_trans HB4.out.size hB5.size, HB4.out.size⟩
 have HPL : Hid (P < w2.heap.size) := Lib.hid HP2.out.p.lt
 clear hR5 hF5 hB5
 have HBS5 : Hid (w1.heap.size ≤ w5.heap.size) := Lib.hid (Nat.le_trans HW12.out HW25.out.1)
 have HBW : Hid (w.heap.size ≤ w1.heap.size) := Lib.hid HBA.out.size
 go_wp2_with (refine ldrow (cs := [.int .i64 16, .int .i64 132, .int .i64 2, .int .i64 1000, .int .i64 0]) rfl 36 (.tmp 1) rfl rfl hC5 _ Tryz.underlying36 rfl (by rw [infoCf]; rfl) ?_)
 refine (recv16 HP5.out HBS5.out 20 (by omega) true (.inl rfl) R5 132 HR5.out).mono ?_
 rintro e w6 ⟨A6, c6, F6, z6, rfl, hR6, hB6, hZ6, ⟨hz1, hz2, hz3, hz4⟩, hK6, -⟩
 obtain ⟨G, cap, D, V, vc, R, r, rc, rest, hF, hq⟩ := hZ6.h
 rw [hz1, hz2, hz3, hz4] at hq
 have HQ6 := Lib.hid hq
 have HR6 := Lib.hid hR6
 have hs56 : w5.heap.size ≤ w6.heap.size := hB6.size
 have HL6 : Hid (Rd .i64 w6 R5 132 132 (idL 20 (Cr.exD 40 1000 1 66 2 0 xs16))) := Lib.hid (rdv_heq HR5.out hs56 (fun hA hlt => hK6 _ hlt (by have h1 := HF5.out hA; have h2 := HPL.out; have h3 := HW25.out.2; omega)))
 have hC6 : Blk w6 CB 36 [.int .i64 16, .int .i64 132, .int .i64 2, .int .i64 1000, .int .i64 0] := (hB6.block CB HCB.out).trans HC5.out
 have HC6 := Lib.hid hC6
 have HB6 := Lib.hid (HB5.out.trans (hB6.mono HBW.out))
 have HS56 := Lib.hid hs56
 clear hq hR6 hs56 hB6 hK6 hC5 hz1 hz2 hz3 hz4 hZ6 hF
 go_wp2_with (refine ldrow (cs := [.int .i64 16, .int .i64 132, .int .i64 2, .int .i64 1000, .int .i64 0]) rfl 36 (.tmp 1) rfl rfl hC6 _ Tryz.underlying36 rfl (by rw [infoCf]; rfl) ?_)
 refine (recv_done HQ6.out.a.p (by decide) 132 2 0 R5 132 132 _ HL6.out (by omega) (rc16 (idL_soft (by omega) exD16_bit) (.inr ⟨rfl, rfl⟩))).mono ?_
 rintro e w7 ⟨rfl, hB7⟩
 have HQ7 := Lib.hid (HQ6.out.below hB7)
 have HR7 := Lib.hid (Rdv.below HR6.out hB7)
 have HC7 := Lib.hid (HC6.out.below hB7)
 have HB7 := Lib.hid (HB6.out.trans (hB7.mono HB6.out.size))
 have HS57 : Hid (w5.heap.size ≤ w7.heap.size) := Lib.hid (Nat.le_trans HS56.out hB7.size)
 clear hB7 hC6
 go_wp2_with fail
 refine (sixteen_any w7).mono ?_
 rintro e w8 ⟨A8, rfl, hR8, -, hB8⟩
 have HQ8 := Lib.hid (HQ7.out.below hB8)
 have HC8 := Lib.hid (HC7.out.below hB8)
 have HB8 := Lib.hid (HB7.out.trans (hB8.mono HB7.out.size))
 have HSM := Lib.hid (Cr.same_any A6 A8 16 c6 16 16 xs16 xs16 w8 (Rdv.below HR7.out hB8) hR8)
 rw [decide_eq_true rfl] at HSM
 have HS58 : Hid (w5.heap.size ≤ w8.heap.size) := Lib.hid (Nat.le_trans HS57.out hB8.size)
 clear hB8 hR8
 go_wp2_with fail
 refine HSM.out.mono ?_
 rintro e wq ⟨rfl, hqt⟩
 have hBq := hqt.below w8.heap.size
 have HQq := Lib.hid (HQ8.out.below hBq)
 have HCq := Lib.hid (HC8.out.below hBq)
 have HBq := Lib.hid (HB8.out.trans (hBq.mono HB8.out.size))
 have HSq : Hid (w5.heap.size ≤ wq.heap.size) := Lib.hid (Nat.le_trans HS58.out hBq.size)
 have HDE := Lib.hid (pdecoded_any HQq.out.a (by decide))
 rw [HQq.out.t.some_iff] at HDE
 clear hqt hBq
 go_wp2_with fail
 refine HDE.out.mono ?_
 rintro e wa ⟨rfl, hBa⟩
 have HQa := Lib.hid (HQq.out.below hBa)
 have HCa := Lib.hid (HCq.out.below hBa)
 have HBa := Lib.hid (HBq.out.trans (hBa.mono HBq.out.size))
 have HSa : Hid (w5.heap.size ≤ wa.heap.size) := Lib.hid (Nat.le_trans HSq.out hBa.size)
 have HSTa := Lib.hid (pstate_any HQa.out.a.p (by decide))
 clear hBa
 go_wp2_with fail
 refine HSTa.out.mono ?_
 rintro e wx ⟨rfl, hwx⟩
 rw [← hwx]
 clear hwx
 have HPa := Lib.hid HQa.out.a.p
 have HBSa : Hid (w1.heap.size ≤ wa.heap.size) := Lib.hid (Nat.le_trans HBS5.out HSa.out)
 have HSb := Lib.hid HCa.out.drew
 go_wp2_with fail
 refine Q_start (fun W9 => Blk W9 CB 36 [.int .i64 16, .int .i64 132, .int .i64 2, .int .i64 1000, .int .i64 0]) 3 11 ?_
 refine Q_W 0 95 1 (.pointer (some ⟨P, 0, none⟩)) rfl HSb.out ?_
 simp only [z0, z1, z2]
 refine Q_T 1 96 3 (.agg #[.int .i64 16, .int .i64 132, .int .i64 2, .int .i64 1000, .int .i64 0]) [] rfl HSb.out (yieldsIf_load_mid rfl 36 (.tmp 1) rfl CB (0) rfl [.int .i64 16, .int .i64 132, .int .i64 2, .int .i64 1000, .int .i64 0] _ (fun W hS => fun q v hv => by rw [Nat.zero_add]; exact Blk.cell hS hv) Tryz.underlying36 rfl (by rw [infoCf]; rfl)) ?_
 simp only [z0, z1, z2]
 refine Q_1S 2 7 rfl (fun K hK => ?_)
 refine wp_mk (n := 132) _ _ 39 rfl el22 rfl rfl (by omega) (by unfold maxLen; omega) ?_
 intro Am wb hO hB hA
 have HRb : Hid (Rd .i64 wb Am 132 132 (List.replicate 132 0)) := Lib.hid (by have := hO.rd; unfold Rd; simpa using this)
 have HBb := Lib.hid ((Below.refl _ wa).drew.trans hB)
 have HSc := Lib.hid (HSb.out.below hB)
 clear hO hB hA
 refine hK _ _ HSc.out ?_
 clear hK K
 refine Q_1 3 15 rfl (fun K hK => ?_)
 go_simp
 refine (recvz (HPa.out.below HBb.out) (Nat.le_trans HBSa.out HBb.out.size) Am 132 HRb.out).mono ?_
 rintro e wc ⟨Ac, cc, Fc, zc, rfl, hBc, hZc, hzt⟩
 have HZc := Lib.hid hZc
 have HZT := Lib.hid hzt
 have HBc := Lib.hid (HBa.out.trans (((HBb.out.mono HBSa.out).trans hBc).mono HBW.out))
 clear hBc hZc hzt
 refine hK _ _ ?_
 clear hK K
 refine Q_X 4 94 31 (.tuple #[.slice Ac 0 cc, .int .i64 2, .int .i64 0]) rfl ?_
 simp only [z0, z1, z2]
 refine Q_X 5 99 63 (.slice Ac 0 cc) rfl ?_
 simp only [z0, z1, z2]
 refine Q_X 6 100 127 (.int .i64 2) rfl ?_
 simp only [z0, z1, z2]
 refine Q_X 7 101 255 (.int .i64 0) rfl ?_
 simp only [z0, z1, z2]
 refine Q_1 8 511 rfl (fun K hK => ?_)
 go_simp
 refine hK _ _ ?_
 clear hK K
 refine Q_1 9 1023 rfl (fun K hK => ?_)
 go_simp
 refine hK _ _ ?_
 clear hK K
 refine Q_1 10 2047 rfl (fun K hK => ?_)
 go_simp
 refine hK _ _ ?_
 clear hK K
 refine Q_end ?_
 obtain ⟨G2, cap2, D2, V2, vc2, R2, r2, rc2, rest2, -, hq2⟩ := HZc.out.h
 rw [HZT.out] at hq2
 have HSTc := Lib.hid (pstate_any hq2.a.p (by decide))
 clear hq2
 go_wp2_with fail
 refine HSTc.out.mono ?_
 rintro e wx ⟨rfl, hwx⟩
 rw [← hwx]
 clear hwx
 go_wp2
 go_ret
 exact ⟨rfl, HBc.out⟩
theorem sp2 (m : Nat) (rv : Int) (hm : m ≤ 131072) (h2 : m % 2 = 0) (hv : 0 ≤ rv ∧ rv ≤ 3) : spE 16 (m : Int) 2 1000 rv m = 0 := by
 have hV : Cr.VC 16 (m : Int) 2 1000 rv = true := by
  unfold Cr.VC
  rw [decide_eq_true_iff]
  omega
 unfold spE
 rw [if_neg (by rw [hV]; simp), if_neg (fun h => us16 h.1)]
theorem rc2 (m : Nat) (rv : Int) (hm : m ≤ 131072) (h2 : m % 2 = 0) (hv : 0 ≤ rv ∧ rv ≤ 3) {ys : List Int} (hs : SoftB ys = true) : rcE 2 16 1000 16 (m : Int) 2 1000 rv false ys m = 0 := by
 unfold rcE
 rw [sp2 m rv hm h2 hv, if_neg (by rw [hs]; rintro (h | h) <;> cases h), if_neg]
 rintro ⟨-, h3⟩
 rcases h3 with h3 | h3 <;> exact h3 rfl
theorem soft_take {xs : List Int} (m : Nat) (h : SoftB xs = true) : SoftB (xs.take m) = true := by
 unfold SoftB at *
 rw [List.all_eq_true] at *
 exact fun x hx => h x (List.take_subset _ _ hx)
theorem once_any (rv : Int) (A : Option Addr) (n c : Nat) (xs : List Int) (rs : Bool) (w : World) (h : Rd .i64 w A n c xs) :
 Calls Tryz.prog 6 #[.int .i64 rv, .slice A n c, .bool rs] w fun e w' => e = .returned (.bool true) ∧ Below w.heap.size w w' := by
 have HV := Lib.hid (svalid_any A n c xs w h)
 by_cases hb : rv < 0 ∨ 3 < rv
 · clear HV h
   rcases (by omega : rv < 0 ∨ (¬ rv < 0 ∧ 3 < rv)) with h1 | ⟨h1, h2⟩ <;> (
    clear hb
    go_enter Tryz.func6, Tryz.ntmps6
    go_wp2_with fail
    refine (known_ok _).mono ?_
    rintro e w1 ⟨rfl, hB⟩
    go_wp2
    go_ret
    exact ⟨rfl, hB⟩)
 have hr0 : ¬ rv < 0 := by omega
 have hr3 : ¬ 3 < rv := by omega
 have HRV : Hid (0 ≤ rv ∧ rv ≤ 3) := Lib.hid (by omega)
 clear hb
 have HX := Lib.hid h
 cases hs : SoftB xs with
 | false =>
   rw [hs] at HV
   clear h hs
   go_enter Tryz.func6, Tryz.ntmps6
   go_wp2_with fail
   refine HV.out.mono ?_
   rintro e w0 ⟨rfl, hB0⟩
   go_wp2_with fail
   refine (known_ok _).mono ?_
   rintro e w1 ⟨rfl, hB⟩
   go_wp2
   go_ret
   exact ⟨rfl, hB0.trans (hB.mono hB0.size)⟩
 | true =>
 rw [hs] at HV
 have HSF := Lib.hid hs
 clear hs h
 go_enter Tryz.func6, Tryz.ntmps6
 go_wp2_with fail
 refine HV.out.mono ?_
 rintro e w0 ⟨rfl, hB0⟩
 have HB0 := Lib.hid hB0
 have HX0 := Lib.hid (Rdv.below HX.out hB0)
 clear hB0 HV hr0 hr3
 have HC0 := Lib.hid (Blk.new w0 [.int .i64 16, .int .i64 132, .int .i64 2, .int .i64 1000, .int .i64 0] 36 rfl)
 have HBA := Lib.hid (bal (Below.refl w0.heap.size w0) (.cells #[.int .i64 16, .int .i64 132, .int .i64 2, .int .i64 1000, .int .i64 0] 36))
 go_wp2_with fail
 generalize w0.alloc (.cells #[.int .i64 16, .int .i64 132, .int .i64 2, .int .i64 1000, .int .i64 0] 36) = w1 at *
 obtain ⟨CB, hCB⟩ : ∃ CB, CB = w0.heap.size := ⟨_, rfl⟩
 rw [← hCB] at HC0 ⊢
 clear hCB
 refine (hnew_ok 8 w1 (by omega)).mono ?_
 rintro e w2 ⟨P, rfl, hP, hB2⟩
 have HP2 := Lib.hid hP
 have HC2 := Lib.hid (HC0.out.below hB2)
 have HB2 := Lib.hid (HBA.out.trans (hB2.mono HBA.out.size))
 have HW12 : Hid (w1.heap.size ≤ w2.heap.size) := Lib.hid hB2.size
 have HCB : Hid (CB < w1.heap.size) := Lib.hid HC0.out.lt
 clear hP hB2
 go_wp2_with fail
 have HS := Lib.hid HC2.out.drew
 refine Q_start (fun W9 => Blk W9 CB 36 [.int .i64 16, .int .i64 132, .int .i64 2, .int .i64 1000, .int .i64 0]) 2 8 ?_
 refine Q_T 0 42 1 (.agg #[.int .i64 16, .int .i64 132, .int .i64 2, .int .i64 1000, .int .i64 0]) [] rfl HS.out (yieldsIf_load_mid rfl 36 (.tmp 7) rfl CB (0) rfl [.int .i64 16, .int .i64 132, .int .i64 2, .int .i64 1000, .int .i64 0] _ (fun W hS => fun q v hv => by rw [Nat.zero_add]; exact Blk.cell hS hv) Tryz.underlying36 rfl (by rw [infoCf]; rfl)) ?_
 simp only [z0, z1, z2]
 refine Q_1S 1 3 rfl (fun K hK => ?_)
 go_simp
 refine (sixteen_any _).mono ?_
 rintro e w3 ⟨A3, rfl, hR3, -, hB⟩
 have HB3 := Lib.hid ((Below.refl _ w2).drew.trans hB)
 have HR3 := Lib.hid hR3
 have HS3 := Lib.hid (HS.out.below hB)
 clear hR3 hB
 refine hK _ _ HS3.out ?_
 clear hK K
 refine Q_1 2 7 rfl (fun K hK => ?_)
 go_simp
 refine (encode16 A3 16 w3 HR3.out).mono ?_
 rintro e w4 ⟨A4, c4, rfl, hR4, hB⟩
 have HB4 := Lib.hid (HB3.out.trans (hB.mono HB3.out.size))
 have HR4 := Lib.hid hR4
 have HC4 := Lib.hid (HS3.out.below hB)
 clear hR4 hB
 refine hK _ _ ?_
 clear hK K
 refine Q_X 3 41 15 (.tuple #[.slice A4 132 c4, .int .i64 0]) rfl ?_
 simp only [z0, z1, z2]
 refine Q_X 4 45 31 (.slice A4 132 c4) rfl ?_
 simp only [z0, z1, z2]
 refine Q_X 5 46 63 (.int .i64 0) rfl ?_
 simp only [z0, z1, z2]
 refine Q_1 6 127 rfl (fun K hK => ?_)
 go_simp
 refine hK _ _ ?_
 clear hK K
 refine Q_1 7 255 rfl (fun K hK => ?_)
 go_simp
 refine hK _ _ ?_
 clear hK K
 refine Q_end ?_
 have HP4 := Lib.hid (HP2.out.below HB4.out)
 have HID := Lib.hid (ideal_ok A4 132 c4 _ 9 w4 HR4.out (by
  unfold Cr.ValidB
  rw [List.all_eq_true]
  intro y hy
  rcases exD16_bit y hy with h | h <;> rw [h] <;> rfl) (fun y hy => by rcases exD16_bit y hy with h | h <;> omega) (by omega) (by omega))
 go_wp2_with fail
 refine HID.out.mono ?_
 rintro e w5 ⟨R5, rfl, hR5, hF5, hB5⟩
 have HR5 := Lib.hid hR5
 have HF5 := Lib.hid hF5
 have HP5 := Lib.hid (HP4.out.below hB5)
 have hC5 := HC4.out.below hB5
 have HC5 := Lib.hid hC5
 have HB5 := Lib.hid (HB2.out.trans ((HB4.out.trans (hB5.mono HB4.out.size)).mono HB2.out.size))
 have HW25 : Hid (w2.heap.size ≤ w5.heap.size ∧ w2.heap.size ≤ w4.heap.size) := Lib.hid ⟨Nat.le_trans HB4.out.size hB5.size, HB4.out.size⟩
 have HPL : Hid (P < w2.heap.size) := Lib.hid HP2.out.p.lt
 clear hR5 hF5 hB5
 have HBS5 : Hid (w1.heap.size ≤ w5.heap.size) := Lib.hid (Nat.le_trans HW12.out HW25.out.1)
 have HBW : Hid (w0.heap.size ≤ w1.heap.size) := Lib.hid HBA.out.size
 go_wp2_with (refine ldrow (cs := [.int .i64 16, .int .i64 132, .int .i64 2, .int .i64 1000, .int .i64 0]) rfl 36 (.tmp 7) rfl rfl hC5 _ Tryz.underlying36 rfl (by rw [infoCf]; rfl) ?_)
 refine (recv16 HP5.out HBS5.out 9 (by omega) true (.inl rfl) R5 132 HR5.out).mono ?_
 rintro e w6 ⟨A6, c6, F6, z6, rfl, hR6, hB6, hZ6, ⟨hz1, hz2, hz3, hz4⟩, hK6, -⟩
 obtain ⟨G, cap, D, V, vc, R, r, rc, rest, hF, hq⟩ := hZ6.h
 rw [hz1, hz2, hz3, hz4] at hq
 have HQ6 := Lib.hid hq
 have HR6 := Lib.hid hR6
 have hs56 : w5.heap.size ≤ w6.heap.size := hB6.size
 have HL6 : Hid (Rd .i64 w6 R5 132 132 (idL 9 (Cr.exD 40 1000 1 66 2 0 xs16))) := Lib.hid (rdv_heq HR5.out hs56 (fun hA hlt => hK6 _ hlt (by have h1 := HF5.out hA; have h2 := HPL.out; have h3 := HW25.out.2; omega)))
 have hC6 : Blk w6 CB 36 [.int .i64 16, .int .i64 132, .int .i64 2, .int .i64 1000, .int .i64 0] := (hB6.block CB HCB.out).trans HC5.out
 have HC6 := Lib.hid hC6
 have HB6 := Lib.hid (HB5.out.trans (hB6.mono HBW.out))
 have HX6 := Lib.hid (Rdv.below HX0.out HB6.out)
 have HS56 := Lib.hid hs56
 clear hq hR6 hs56 hB6 hK6 hC5 hz1 hz2 hz3 hz4 hZ6 hF
 obtain ⟨g, hg⟩ : ∃ g : Nat, g = n / 2 := ⟨_, rfl⟩
 obtain ⟨m, hm⟩ : ∃ m : Nat, m = g * 2 := ⟨_, rfl⟩
 have hbd := HX0.out.bd.1
 have HM : Hid (m ≤ n ∧ m % 2 = 0) := Lib.hid (by omega)
 have hqn : (n : Int).tdiv 2 = (g : Int) := by rw [Int.tdiv_eq_ediv_of_nonneg (by omega)]; omega
 have hmn : (g : Int) * 2 = (m : Int) := by omega
 have hw2 : wrap64 (m : Int) = (m : Int) := by unfold wrap64; omega
 have hw1 : wrap64 (g : Int) = (g : Int) := by unfold wrap64; omega
 clear hg hm
 have HD5 := Lib.hid (Blk.new w6 [.int .i64 16, .int .i64 (m : Int), .int .i64 2, .int .i64 1000, .int .i64 rv] 36 rfl)
 have HBd := Lib.hid (bal (Below.refl w6.heap.size w6) (.cells #[.int .i64 16, .int .i64 (m : Int), .int .i64 2, .int .i64 1000, .int .i64 rv] 36))
 by_cases hmx : (131072 : Int) < (m : Int)
 · go_wp2_with (refine ldrow (cs := [.int .i64 16, .int .i64 132, .int .i64 2, .int .i64 1000, .int .i64 0]) rfl 36 (.tmp 7) rfl rfl hC6 _ Tryz.underlying36 rfl (by rw [infoCf]; rfl) ?_)
   refine (known_ok _).mono ?_
   rintro e w7 ⟨rfl, hB7⟩
   go_wp2
   go_ret
   exact ⟨rfl, HB0.out.trans ((HB6.out.trans ((HBd.out.trans (hB7.mono HBd.out.size)).mono HB6.out.size)).mono HB0.out.size)⟩
 go_wp2_with (refine ldrow (cs := [.int .i64 16, .int .i64 132, .int .i64 2, .int .i64 1000, .int .i64 0]) rfl 36 (.tmp 7) rfl rfl hC6 _ Tryz.underlying36 rfl (by rw [infoCf]; rfl) ?_)
 generalize w6.alloc (.cells #[.int .i64 16, .int .i64 (m : Int), .int .i64 2, .int .i64 1000, .int .i64 rv] 36) = w7 at *
 obtain ⟨DB, hDB⟩ : ∃ DB, DB = w6.heap.size := ⟨_, rfl⟩
 rw [← hDB] at HD5 ⊢
 clear hDB hqn hw1 hmn hw2
 have HMX : Hid (m ≤ 131072) := Lib.hid (by omega)
 clear hmx hbd
 have HB7 := Lib.hid (HB6.out.trans (HBd.out.mono HB6.out.size))
 have HQ7 := Lib.hid (HQ6.out.below (HBd.out.drew))
 have HSd := Lib.hid HD5.out.drew
 have HXm := Lib.hid (Rdv.below (Rd.upto HX6.out HM.out.1) HBd.out.drew)
 have HXr := Lib.hid (Rdv.below HX6.out HBd.out)
 have HRC := Lib.hid (rc2 m rv HMX.out HM.out.2 HRV.out (soft_take m HSF.out))
 have hsl := fun W => Rdv.slh HX6.out el22 .i64 (m := m) (by have := HM.out.1; have := Rdv.le HX6.out; omega) W
 refine Q_start (fun W9 => Blk W9 DB 36 [.int .i64 16, .int .i64 (m : Int), .int .i64 2, .int .i64 1000, .int .i64 rv]) 6 14 ?_
 refine Q_W 0 83 1 (.pointer (some ⟨P, 0, none⟩)) rfl HSd.out ?_
 simp only [z0, z1, z2]
 refine Q_T 1 84 3 (.agg #[.int .i64 16, .int .i64 (m : Int), .int .i64 2, .int .i64 1000, .int .i64 rv]) [] rfl HSd.out (yieldsIf_load_mid rfl 36 (.tmp 17) rfl DB (0) rfl [.int .i64 16, .int .i64 (m : Int), .int .i64 2, .int .i64 1000, .int .i64 rv] _ (fun W hS => fun q v hv => by rw [Nat.zero_add]; exact Blk.cell hS hv) Tryz.underlying36 rfl (by rw [infoCf]; rfl)) ?_
 simp only [z0, z1, z2]
 refine Q_W 2 85 7 (.slice A n c) rfl HSd.out ?_
 simp only [z0, z1, z2]
 refine Q_W 3 86 15 (.pointer (some ⟨DB, 1, none⟩)) rfl HSd.out ?_
 simp only [z0, z1, z2]
 refine Q_T 4 87 31 (.int .i64 (m : Int)) [5] rfl HSd.out (.inl ⟨by rfl, fun W hS => by have s0 := Blk.cell hS (j := 1) (v := .int .i64 (m : Int)) rfl; go_simp⟩) ?_
 simp only [z0, z1, z2]
 refine Q_T 5 88 63 (.slice A m c) [] rfl HSd.out (.inl ⟨by rfl, fun W hS => by have e := hsl W; go_simp⟩) ?_
 simp only [z0, z1, z2]
 refine Q_1 6 127 rfl (fun K hK => ?_)
 go_simp
 refine (recv_done HQ7.out.a.p (by decide) (m : Int) 2 rv A m c (xs.take m) HXm.out (by omega) HRC.out).mono ?_
 rintro e w8 ⟨rfl, hB⟩
 have HB8 := Lib.hid hB
 clear hB
 refine hK _ _ ?_
 clear hK K
 refine Q_X 7 82 255 (.tuple #[.slice none 0 0, .int .i64 1, .int .i64 0]) rfl ?_
 simp only [z0, z1, z2]
 refine Q_X 8 90 511 (.slice none 0 0) rfl ?_
 simp only [z0, z1, z2]
 refine Q_X 9 91 1023 (.int .i64 1) rfl ?_
 simp only [z0, z1, z2]
 refine Q_X 10 92 2047 (.int .i64 0) rfl ?_
 simp only [z0, z1, z2]
 refine Q_1 11 4095 rfl (fun K hK => ?_)
 go_simp
 refine hK _ _ ?_
 clear hK K
 refine Q_1 12 8191 rfl (fun K hK => ?_)
 go_simp
 refine hK _ _ ?_
 clear hK K
 refine Q_1 13 16383 rfl (fun K hK => ?_)
 go_simp
 refine hK _ _ ?_
 clear hK K
 refine Q_end ?_
 have HT8 := Lib.hid (HBd.out.drew.trans (HB8.out.mono HBd.out.size))
 have HBx : Hid (w1.heap.size ≤ w8.heap.size) := Lib.hid (Nat.le_trans HBS5.out (Nat.le_trans HS56.out HT8.out.size))
 have HB8a := Lib.hid (HB6.out.trans (HT8.out.mono HB6.out.size))
 clear hsl
 go_wp2_with fail
 refine (sixteen_any w8).mono ?_
 rintro e w9 ⟨A9, rfl, hR9, -, hB9⟩
 have HT9 := Lib.hid (HT8.out.trans (hB9.mono HT8.out.size))
 have HSM := Lib.hid (Cr.same_any A6 A9 16 c6 16 16 xs16 xs16 w9 (Rdv.below HR6.out HT9.out) hR9)
 rw [decide_eq_true rfl] at HSM
 clear hB9 hR9
 go_wp2_with fail
 refine HSM.out.mono ?_
 rintro e wt ⟨rfl, hqt⟩
 have HTt := Lib.hid (HT9.out.trans ((hqt.below w9.heap.size).mono HT9.out.size))
 clear hqt
 have HQt := Lib.hid (HQ6.out.below HTt.out)
 have HST := Lib.hid (pstate_any HQt.out.a.p (by decide))
 go_wp2_with fail
 refine HST.out.mono ?_
 rintro e wx ⟨rfl, hwx⟩
 rw [← hwx]
 clear hwx
 have hCt := HC6.out.below HTt.out
 have HLt := Lib.hid (Rdv.below HL6.out HTt.out)
 have HPt := Lib.hid HQt.out.a.p
 have HBSt : Hid (w1.heap.size ≤ wt.heap.size) := Lib.hid (Nat.le_trans HBS5.out (Nat.le_trans HS56.out HTt.out.size))
 have HBt := Lib.hid (HB0.out.trans ((HB6.out.trans (HTt.out.mono HB6.out.size)).mono HB0.out.size))
 have HBW' : Hid (w.heap.size ≤ w1.heap.size) := Lib.hid (Nat.le_trans HB0.out.size HBW.out)
 clear HBW
 have HBW := HBW'
 cases rs with
 | false =>
   go_wp2_with (refine ldrow (cs := [.int .i64 16, .int .i64 132, .int .i64 2, .int .i64 1000, .int .i64 0]) rfl 36 (.tmp 7) rfl rfl hCt _ Tryz.underlying36 rfl (by rw [infoCf]; rfl) ?_)
   refine (recv16 HPt.out HBSt.out 9 (by omega) true (.inl rfl) R5 132 HLt.out).mono ?_
   rintro e w12 ⟨A12, c12, F12, z12, rfl, hR12, hB12, -, -, -, -⟩
   have HR12 := Lib.hid hR12
   have HBt12 := Lib.hid (HBt.out.trans (hB12.mono HBW.out))
   clear hR12 hB12 hCt
   go_wp2_with fail
   refine (sixteen_any w12).mono ?_
   rintro e w13 ⟨A13, rfl, hR13, -, hB13⟩
   have HBt13 := Lib.hid (HBt12.out.trans (hB13.mono HBt12.out.size))
   have HSN := Lib.hid (Cr.same_any A12 A13 16 c12 16 16 xs16 xs16 w13 (Rdv.below HR12.out hB13) hR13)
   rw [decide_eq_true rfl] at HSN
   clear hB13 hR13
   go_wp2_with fail
   refine HSN.out.mono ?_
   rintro e w14 ⟨rfl, hqt⟩
   have HBt14 := Lib.hid (HBt13.out.trans ((hqt.below w13.heap.size).mono HBt13.out.size))
   clear hqt
   go_wp2_with fail
   refine (known_ok w14).mono ?_
   rintro e w15 ⟨rfl, hB15⟩
   have HBt15 := Lib.hid (HBt14.out.trans (hB15.mono HBt14.out.size))
   clear hB15
   go_wp2
   go_ret
   exact ⟨rfl, HBt15.out⟩
 | true =>
   have HRS := Lib.hid (hreset_any HPt.out (by decide) HBSt.out)
   go_wp2_with fail
   refine HRS.out.mono ?_
   rintro e wu ⟨rfl, hPu, hBu, hKu⟩
   have hsu : wt.heap.size ≤ wu.heap.size := hBu.size
   have hCu : Blk wu CB 36 [.int .i64 16, .int .i64 132, .int .i64 2, .int .i64 1000, .int .i64 0] := (hBu.block CB HCB.out).trans hCt
   have HLu : Hid (Rd .i64 wu R5 132 132 (idL 9 (Cr.exD 40 1000 1 66 2 0 xs16))) := Lib.hid (rdv_heq HLt.out hsu (fun hA hlt => hKu _ hlt (by have h1 := HF5.out hA; have h2 := HPL.out; have h3 := HW25.out.2; omega)))
   have HPu := Lib.hid hPu
   have HBSu : Hid (w1.heap.size ≤ wu.heap.size) := Lib.hid (Nat.le_trans HBSt.out hsu)
   have HBu := Lib.hid (HBt.out.trans (hBu.mono HBW.out))
   clear hPu hBu hKu hsu hCt HPt HLt HBSt HBt
   have hCt := hCu
   have HPt := HPu
   have HLt := HLu
   have HBSt := HBSu
   have HBt := HBu
   clear hCu HPu HLu HBSu HBu
   go_wp2_with (refine ldrow (cs := [.int .i64 16, .int .i64 132, .int .i64 2, .int .i64 1000, .int .i64 0]) rfl 36 (.tmp 7) rfl rfl hCt _ Tryz.underlying36 rfl (by rw [infoCf]; rfl) ?_)
   refine (recv16 HPt.out HBSt.out 9 (by omega) false (.inr rfl) R5 132 HLt.out).mono ?_
   rintro e w12 ⟨A12, c12, F12, z12, rfl, hR12, hB12, -, -, -, -⟩
   have HR12 := Lib.hid hR12
   have HBt12 := Lib.hid (HBt.out.trans (hB12.mono HBW.out))
   clear hR12 hB12 hCt
   go_wp2_with fail
   refine (sixteen_any w12).mono ?_
   rintro e w13 ⟨A13, rfl, hR13, -, hB13⟩
   have HBt13 := Lib.hid (HBt12.out.trans (hB13.mono HBt12.out.size))
   have HSN := Lib.hid (Cr.same_any A12 A13 16 c12 16 16 xs16 xs16 w13 (Rdv.below HR12.out hB13) hR13)
   rw [decide_eq_true rfl] at HSN
   clear hB13 hR13
   go_wp2_with fail
   refine HSN.out.mono ?_
   rintro e w14 ⟨rfl, hqt⟩
   have HBt14 := Lib.hid (HBt13.out.trans ((hqt.below w13.heap.size).mono HBt13.out.size))
   clear hqt
   go_wp2_with fail
   refine (known_ok w14).mono ?_
   rintro e w15 ⟨rfl, hB15⟩
   have HBt15 := Lib.hid (HBt14.out.trans (hB15.mono HBt14.out.size))
   clear hB15
   go_wp2
   go_ret
   exact ⟨rfl, HBt15.out⟩
end Go.Proofs.YtkdfefpnhaebfaaGreat
