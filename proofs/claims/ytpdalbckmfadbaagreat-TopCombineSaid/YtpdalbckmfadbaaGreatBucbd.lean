/-
  Bundle of the texts Xo. Conditions: none.
-/
import Derived.Test.YtpdalbckmfadbaaGreatBucbc
namespace Go.Proofs.YtpdalbckmfadbaaGreat
open Go.RowKit
set_option linter.unusedVariables false
attribute [local go_sem] Oper.semAt_some
theorem gi01 {W : List Int} (hw : ∀ x ∈ W, x = 0 ∨ x = 1) (q : Nat) : gi W q = 0 ∨ gi W q = 1 := by
  by_cases h : q < W.length
  · rw [gi_eq W q h]; exact hw _ (List.getElem_mem _)
  · left; unfold gi; rw [List.getD_eq_getElem?_getD, List.getElem?_eq_none (by omega)]; rfl
theorem sent01 {W ps : List Int} (hw : ∀ x ∈ W, x = 0 ∨ x = 1) : ∀ x ∈ ps.map (fun p => gi W p.toNat), x = 0 ∨ x = 1 := fun x hx => by
  obtain ⟨p, -, rfl⟩ := List.mem_map.1 hx
  exact gi01 hw _
theorem vb01 {W : List Int} (hw : ∀ x ∈ W, x = 0 ∨ x = 1) : Cr.ValidB W = true := by
  unfold Cr.ValidB
  rw [List.all_eq_true]
  intro x hx
  rcases hw x hx with h | h <;> rw [h] <;> rfl
theorem ibs01 (l : List Bool) : ∀ x ∈ l.map ib, x = 0 ∨ x = 1 := fun x hx => by
  obtain ⟨b, -, rfl⟩ := List.mem_map.1 hx
  cases b
  · exact .inl rfl
  · exact .inr rfl
/-- the loop: a buffer with right signs -/
def TcI (w : World) (k D E m : Nat) (lim : Int) (W : List Int) (i : Value) (wr : World) : Prop :=
  ∃ (j : Nat) (V : Option Addr) (vc : Nat) (vs : List Int), j ≤ m ∧ i = .int .i64 (j : Int) ∧ DmS wr w.heap.size D k 0 lim V vc vs ((j * E : Nat) : Int) ∧ RtS vs W (3 * (k + 4)) ∧ Below w.heap.size w wr
set_option maxRecDepth 100000 in
set_option maxHeartbeats 4000000 in
theorem combine_any (A : Option Addr) (n c : Nat) (bs : List Int) (u kd : Int) (B : Option Addr) (m d : Nat) (rs : List Int) (e lim mg : Int) (w : World) (hx : Rd .u8 w A n c bs) (hbs : ∀ x ∈ bs, 0 ≤ x ∧ x < 256) (hu : 0 ≤ u ∧ u < 256) (hd : 0 ≤ kd ∧ kd < 256) (hy : Rd .u8 w B m d rs) (hrs : ∀ x ∈ rs, 0 ≤ x ∧ x < 256) (hmg : 0 ≤ mg ∧ mg < 256) :
    Calls Tryz.prog 3 #[.slice A n c, .int .u8 u, .int .u8 kd, .slice B m d, .int .i64 e, .int .i64 lim, .int .u8 mg] w fun e w' => e = .returned (.bool true) ∧ Below w.heap.size w w' := by
  have hbd1 := hx.bd.1
  have hbd2 := hy.bd.1
  by_cases hall : n ≤ 500 ∧ m ≤ 8 ∧ 1 ≤ e ∧ e ≤ 400 ∧ 1 ≤ lim ∧ lim ≤ 1048576 ∧ 1 ≤ mg ∧ mg ≤ 127
  case neg =>
    clear hx hy hbs hrs hu hd
    rcases (by omega : 500 < n ∨ (n ≤ 500 ∧ 8 < m) ∨ (n ≤ 500 ∧ m ≤ 8 ∧ e < 1) ∨ (n ≤ 500 ∧ m ≤ 8 ∧ 400 < e) ∨ (n ≤ 500 ∧ m ≤ 8 ∧ 1 ≤ e ∧ e ≤ 400 ∧ lim < 1) ∨ (n ≤ 500 ∧ m ≤ 8 ∧ 1 ≤ e ∧ e ≤ 400 ∧ 1048576 < lim) ∨ (n ≤ 500 ∧ m ≤ 8 ∧ 1 ≤ e ∧ e ≤ 400 ∧ 1 ≤ lim ∧ lim ≤ 1048576 ∧ mg < 1) ∨ (n ≤ 500 ∧ m ≤ 8 ∧ 1 ≤ e ∧ e ≤ 400 ∧ 1 ≤ lim ∧ lim ≤ 1048576 ∧ 127 < mg)) with h1 | ⟨h1, h2⟩ | ⟨h1, h2, h3⟩ | ⟨h1, h2, h3⟩ | ⟨h1, h2, h3, h4, h5⟩ | ⟨h1, h2, h3, h4, h5⟩ | ⟨h1, h2, h3, h4, h5, h6, h7⟩ | ⟨h1, h2, h3, h4, h5, h6, h7⟩
    all_goals
      clear hall
      go_enter Tryz.func3, Tryz.ntmps3
      go_wp2_with (go_at_call 6; refine (alive_any _).mono ?_; rintro e w9 ⟨rfl, hB9⟩)
      go_ret
      exact ⟨rfl, hB9⟩
  obtain ⟨g1, g2, g3, g4, g5, g6, g7, g8⟩ := hall
  obtain ⟨E, rfl⟩ := Int.eq_ofNat_of_zero_le (show 0 ≤ e by omega)
  obtain ⟨K, hK⟩ : ∃ K, K = 1 + kd % 4 := ⟨_, rfl⟩
  obtain ⟨r, hr⟩ : ∃ r : Nat, u % 12 = (r : Int) := ⟨(u % 12).toNat, by omega⟩
  obtain ⟨k, hk⟩ : ∃ k, k = 40 + 8 * r := ⟨_, rfl⟩
  have hr12 : r < 12 := by omega
  have HK : Hid (k = Tu.szK r) := Lib.hid (by unfold Tu.szK; omega)
  have hKb : 1 ≤ K ∧ K ≤ 4 := by omega
  have HKB := Lib.hid hKb
  have HKK := Lib.hid (show 40 ≤ k ∧ k ≤ 128 by omega)
  have HBK := Lib.hid (block_any A n c bs u K w hx hbs (by omega) hu hKb r hr k hk)
  have HY := Lib.hid hy
  have HRS := Lib.hid (fun j (hj : j < m) => hrs (gi rs j) (by rw [gi_eq rs j (by rw [Rd.len hy]; exact hj)]; exact List.getElem_mem _))
  have a1 : kd.tmod 4 = K - 1 := by rw [Int.tmod_eq_emod_of_nonneg (by omega), hK]; omega
  have a2 : IntKind.i64.wrap kd = kd := IntWalk.i64_in _ (by omega)
  have a3 : IntKind.i64.wrap K = K := IntWalk.i64_in _ (by omega)
  have a4 : IntKind.i64.wrap (K - 1) = K - 1 := IntWalk.i64_in _ (by omega)
  have a5 : 1 + (K - 1) = K := by omega
  have a6 : IntKind.i64.wrap mg = mg := IntWalk.i64_in _ (by omega)
  have HG := Lib.hid (And.intro g3 (And.intro g4 (And.intro g5 (And.intro g7 g8))))
  have HM8 := Lib.hid g2
  obtain ⟨N, hN⟩ : ∃ N, N = 3 * (k + 4) := ⟨_, rfl⟩
  have b1 : 3 * ((k : Int) + 4) = (N : Int) := by omega
  have b2 : IntKind.i64.wrap ((k : Int) + 4) = (k : Int) + 4 := IntWalk.i64_in _ (by omega)
  have b3 : IntKind.i64.wrap (N : Int) = (N : Int) := IntWalk.i64_in _ (by omega)
  have HN := Lib.hid hN
  have HNE := Lib.hid (fun W (f : Int) => new_ok k 0 lim W (by have := HKK.out; omega) (by have := HKK.out; omega) (by have := HKK.out; omega) g5)
  clear hx hy hbs hrs hr hk hK hu hd hKb hN
  go_enter Tryz.func3, Tryz.ntmps3
  go_wp2_with fail
  refine HBK.out.mono ?_
  rintro e w1 ⟨x, R, rc, rfl, hxl, hR, hck, hB⟩
  have HXL := Lib.hid hxl
  have HX1 := Lib.hid hR
  have HCK := Lib.hid hck
  have HB1 := Lib.hid hB
  have hbt : Cr.Bit (x.map ib) := ibs01 x
  have HEN := Lib.hid (Tu.enc_all R k rc (x.map ib) w1 hR (bit_nn hbt))
  rw [(word_enc HK.out hbt (by simpa using hxl)).1, (word_enc HK.out hbt (by simpa using hxl)).2] at HEN
  clear hxl hR hck hB hbt
  go_wp2_with fail
  refine HEN.out.mono ?_
  rintro e w2 ⟨Q, n2, qc, rfl, hO, hB⟩
  rw [toB_of] at hO
  obtain rfl : n2 = N := by rw [← Rd.len (Own.rd hO), Tu.wordI_len, HXL.out, HN.out]
  have hO : Own .u8 5 w2 w1.heap.size Q n2 qc ((Tu.wrd x).map ib) := hO
  have HQ2 := Lib.hid (Own.rd hO)
  have HX2 := Lib.hid (Rdv.below HX1.out hB)
  have HB2 := Lib.hid (HB1.out.trans (hB.mono HB1.out.size))
  clear hO hB
  go_wp2_with fail
  refine (HNE.out w2 0).mono ?_
  rintro e w3 ⟨D, V0, rfl, hD, hB⟩
  have HD3 := Lib.hid hD
  have HB3 := Lib.hid hB
  have HW01 := Lib.hid (ibs01 (Tu.wrd x))
  have HWL : Hid (((Tu.wrd x).map ib).length = 3 * (k + 4)) := Lib.hid (by rw [List.length_map, Tu.wrd_len, HXL.out])
  have HVB := Lib.hid (vb01 HW01.out)
  have HY2 := Lib.hid (Rdv.below HY.out HB2.out)
  have HR0 := Lib.hid (rts_fresh HW01.out HWL.out)
  have HRT := Lib.hid (fun (vs : List Int) (h1 : RtS vs ((Tu.wrd x).map ib) (3 * (k + 4))) (h2 : vs.length = 3 * (k + 4)) (h3 : unC vs (3 * (k + 4)) = 0) => comb_it HK.out HXL.out h2 h1 h3 HKB.out HCK.out)
  obtain ⟨W, hW⟩ : ∃ W, W = (Tu.wrd x).map ib := ⟨_, rfl⟩
  rw [← hW] at HQ2 HW01 HVB HR0 HRT
  clear hD hB hW HWL HNE
  go_wp2_with fail
  go_loopw [22] (fun i wr => TcI w2 k D E m lim W i wr) (fun i _ => m - (intOf i).toNat)
  case atStart => exact ⟨0, V0, _, _, Nat.zero_le _, rfl, by rw [Nat.zero_mul]; exact HD3.out, HR0.out, HB3.out⟩
  case round =>
    obtain ⟨j, V, vc, vs, hj, rfl, hD, hRt, hB⟩ := hrel
    have HD := Lib.hid hD
    have HT := Lib.hid hRt
    have HB := Lib.hid hB
    by_cases hlt : j < m
    · have hyr := Rdv.below HY2.out hB
      have cy := Rd.cell hyr hlt
      have iy := fun W => Rdv.ix hyr el26 hlt .i64 W
      have hyb := HRS.out j hlt
      obtain ⟨y, hye⟩ : ∃ y, y = gi rs j := ⟨_, rfl⟩
      rw [← hye] at cy hyb
      obtain ⟨rv, hrv⟩ : ∃ rv : Nat, y % 4 = (rv : Int) := ⟨(y % 4).toNat, by omega⟩
      have hrv3 : rv ≤ 3 := by omega
      have q1 : IntKind.i64.wrap y = y := IntWalk.i64_in _ (by omega)
      have q2 : y.tmod 4 = (rv : Int) := by rw [Int.tmod_eq_emod_of_nonneg (by omega), hrv]
      have q3 : IntKind.i64.wrap (rv : Int) = (rv : Int) := IntWalk.i64_in _ (by omega)
      have HGE := HG.out
      have HKE := HKK.out
      have HM : Hid (Calls Tryz.prog 10 #[.slice Q n2 qc, .int .i64 0, .int .i64 lim, .int .i64 (rv : Int), .int .i64 (E : Int)] wr (Cr.MtPost W ((Cr.bufL k 0).take (Cr.szB k lim)) (Cr.stS k (Cr.szB k lim) rv) (Cr.szB k lim) E wr)) := Lib.hid (by
        have h1 : Rd .u8 wr Q (3 * (k + 4)) qc W := by rw [← HN.out]; exact Rdv.below HQ2.out hB
        have h2 := Cr.match_ok Q qc W k 0 rv E lim wr h1 HVB.out (by omega) (by omega) (by omega) (by omega) hrv3 (by omega)
        rw [← HN.out] at h2
        exact h2)
      clear hD hRt hB hyr hye hyb hrv HGE HKE
      go_wp2_with fail
      refine HM.out.mono ?_
      rintro e w4 ⟨hB4, ⟨h1, h2, rfl⟩ | ⟨h1, A4, c4, T, hlen, rfl, -, hO⟩⟩
      · have HB4 := Lib.hid (HB.out.trans (hB4.mono HB.out.size))
        clear hB4
        go_wp2_with (go_at_call 6; refine (alive_any _).mono ?_; rintro e w9 ⟨rfl, hB9⟩)
        go_ret
        have h9 := HB4.out.trans (hB9.mono HB4.out.size)
        exact ⟨rfl, HB2.out.trans (h9.mono HB2.out.size)⟩
      · have HB4 := Lib.hid hB4
        have HUS := Lib.hid h1
        have HLE := Lib.hid hlen
        have HS1 := Lib.hid (sent01 (ps := Cr.selL ((Cr.bufL k 0).take (Cr.szB k lim)) (Cr.stS k (Cr.szB k lim) rv) (Cr.szB k lim) T) HW01.out)
        obtain ⟨S, hS⟩ : ∃ S, S = (Cr.selL ((Cr.bufL k 0).take (Cr.szB k lim)) (Cr.stS k (Cr.szB k lim) rv) (Cr.szB k lim) T).map fun p => gi W p.toNat := ⟨_, rfl⟩
        rw [← hS] at hO HS1
        have HO4 := Lib.hid hO
        have HSE := Lib.hid hS
        have HI := Lib.hid (ideal_ok A4 E c4 S mg w4 (Own.rd hO) (vb01 HS1.out) (fun x hx => by rcases HS1.out x hx with h | h <;> omega) ⟨by have := HG.out; omega, by have := HG.out; omega⟩ (by have := HG.out; omega))
        clear h1 hlen hS hO hB4
        go_wp2_with fail
        refine HI.out.mono ?_
        rintro e w5 ⟨R5, rfl, hR5, hF5, hB5⟩
        have HD5 := Lib.hid ((HD.out.below HB4.out).below hB5)
        have HB5 := Lib.hid (HB.out.trans ((HB4.out.trans (hB5.mono HB4.out.size)).mono HB.out.size))
        have HA := Lib.hid (add_any rv R5 E E (idL mg S) w5 HD5.out hR5 (idL_soft ⟨by have := HG.out; omega, by have := HG.out; omega⟩ HS1.out) (fun hA => by
            have h1 := hF5 hA
            have h2 := rd_lt (Own.rd HD.out.v) (by omega)
            have h3 := HB4.out.size
            omega) HB5.out.size (by have := HKK.out; omega) (by have := HKK.out; omega) (by have := HKK.out; omega) (by have := HG.out; omega) hrv3 (by have := HG.out; omega) (by
            have h1 : j * E ≤ 8 * 400 := Nat.mul_le_mul (by have := HM8.out; omega) (by have := HG.out; omega)
            omega))
        clear hR5 hF5 hB5
        go_wp2_with fail
        refine HA.out.mono ?_
        rintro e w6 ⟨hB6, hX⟩
        have hX2 : ∃ vs6, e = .returned (.int .i64 0) ∧ DmS w6 w2.heap.size D k 0 lim V vc vs6 (((j * E : Nat) : Int) + (E : Int)) ∧ RtS vs6 W (3 * (k + 4)) := by
          rcases hX with ⟨h1, h2, -⟩ | ⟨-, T2, hl2, he, hD6⟩
          · have h3 := HUS.out
            omega
          · have hu := Cr.selL_uniq (hl2.trans HLE.out.symm)
            rw [hu] at hD6
            refine ⟨_, he, hD6, ?_⟩
            rw [HSE.out]
            exact send_rt (Rd.len (Own.rd HD.out.v)) HT.out ⟨by have := HG.out; omega, by have := HG.out; omega⟩ (fun q hq => sel_pos k 0 lim _ (by have := HG.out; omega) T q (by have := HLE.out; omega)) HLE.out
        obtain ⟨vs6, rfl, hD6, hT6⟩ := hX2
        have hl6 := Rd.len (Own.rd hD6.v)
        have HD6 := Lib.hid hD6
        have HT6 := Lib.hid hT6
        have HL6 := Lib.hid hl6
        have HB6 := Lib.hid (HB5.out.trans hB6)
        have HVA := Lib.hid (values_any hD6 (by have := HKK.out; omega))
        clear hX hB6 hD6 hT6 hl6 HA HI HM
        rw [← HN.out] at HVA HL6 HT6 HRT
        go_wp2_with fail
        refine HVA.out.mono ?_
        rintro e w7 ⟨A7, c7, rfl, hO7, hB7⟩
        have HD7 := Lib.hid (HD6.out.below hB7)
        have HB7 := Lib.hid (HB6.out.trans (hB7.mono HB6.out.size))
        have HC := Lib.hid (compare_ok A7 n2 c7 vs6 Q qc W w7 (Own.rd hO7) (Rdv.below HQ2.out HB7.out) (rts_soft HT6.out HL6.out) HVB.out (by have := HN.out; have := HKK.out; omega))
        rw [wrC_zero HT6.out n2 (Nat.le_refl _)] at HC
        clear hO7 hB7 HVA
        go_wp2_with fail
        refine HC.out.mono ?_
        rintro e w8 ⟨rfl, hB8⟩
        have HD8 := Lib.hid (HD7.out.below hB8)
        have HB8 := Lib.hid (HB7.out.trans (hB8.mono HB7.out.size))
        clear hB8 HC
        have HCN : Hid (((j * E : Nat) : Int) + (E : Int) = (((j + 1) * E : Nat) : Int)) := Lib.hid (by rw [Nat.succ_mul]; omega)
        rw [HCN.out] at HD8
        obtain ⟨U, hU⟩ : ∃ U, U = unC vs6 n2 := ⟨_, rfl⟩
        rw [← hU]
        have HU := Lib.hid hU
        clear hU
        by_cases hu0 : U = 0
        · have HIT := Lib.hid (HRT.out vs6 HT6.out HL6.out (by rw [← HU.out]; exact hu0))
          have HVA := Lib.hid (values_any HD8.out (by have := HKK.out; omega))
          rw [← HN.out] at HVA
          subst hu0
          go_wp2_with fail
          refine HVA.out.mono ?_
          rintro e w9 ⟨A9, c9, rfl, hO9, hB9⟩
          have HD9 := Lib.hid (HD8.out.below hB9)
          have HB9 := Lib.hid (HB8.out.trans (hB9.mono HB8.out.size))
          have hDC := dec_any A9 n2 c9 vs6 K 4 w9 (Own.rd hO9) (by have := HN.out; have := HKK.out; omega)
          unfold DcA at hDC
          rw [HIT.out.1, HIT.out.2] at hDC
          have HDC := Lib.hid hDC
          clear hO9 hB9 hDC HVA
          go_wp2_with fail
          refine HDC.out.mono ?_
          rintro e w10 ⟨Rf, nf, cf, rfl, hRf, -, hB10⟩
          have HD10 := Lib.hid (HD9.out.below hB10)
          have HB10 := Lib.hid (HB9.out.trans (hB10.mono HB9.out.size))
          have s1 := conv_rd hRf
          have s2 := conv_rd (Rdv.below HX2.out HB10.out)
          generalize strOfNums (x.map ib) = str at *
          have s3 : decide (str = str) = true := decide_eq_true rfl
          clear hRf hB10 HDC
          generalize itH vs6 K 4 = hh at *
          go_wp2
          go_roundw
          case rel => exact ⟨j + 1, V, vc, vs6, by omega, by go_num, HD10.out, by rw [← HN.out]; exact HT6.out, HB10.out⟩
          case measure => simp [intOf]; omega
        · have q9 : decide ((U : Int) > 0) = true := by rw [decide_eq_true_iff]; omega
          have q8 : 0 < U := by omega
          clear hu0
          go_wp2
          go_roundw
          case rel => exact ⟨j + 1, V, vc, vs6, by omega, by go_num, HD8.out, by rw [← HN.out]; exact HT6.out, HB8.out⟩
          case measure => simp [intOf]; omega
    · obtain rfl : j = m := by omega
      clear hD hRt hB
      go_wp2_with (go_at_call 6; refine (alive_any _).mono ?_; rintro e w9 ⟨rfl, hB9⟩)
      go_ret
      have h9 := HB.out.trans (hB9.mono HB.out.size)
      exact ⟨rfl, HB2.out.trans (h9.mono HB2.out.size)⟩
end Go.Proofs.YtpdalbckmfadbaaGreat

