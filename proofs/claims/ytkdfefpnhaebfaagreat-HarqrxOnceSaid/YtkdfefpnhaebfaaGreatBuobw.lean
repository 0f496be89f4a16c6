/- Bundle. Conditions: none. -/
import Derived.Test.YtkdfefpnhaebfaaGreatBuobv
set_option linter.unusedVariables false
set_option linter.unusedSimpArgs false
namespace Go.Proofs.YtkdfefpnhaebfaaGreat
open Go.RowKit
theorem gi_ibs (l : List Bool) (q : Nat) (h : q < l.length) : gi (l.map ib) q = (bq (Tu.gB l q) : Int) := by
 unfold gi Tu.gB
 rw [List.getD_eq_getElem?_getD, List.getD_eq_getElem?_getD, List.getElem?_map, List.getElem?_eq_getElem h]
 show ib l[q] = (bq l[q] : Int)
 cases l[q] <;> rfl
theorem wr_ok {ys : List Int} {K most : Int} {k r : Nat} (hk : k = Tu.szK r) (hl : ys.length = 3 * (k + 4)) (hs : ∀ q, q < 3 * (k + 4) → -127 ≤ gi ys q ∧ gi ys q ≤ 127) (hK : 0 ≤ K ∧ K ≤ 4) (hm : 1 ≤ most ∧ most ≤ 64) : wrE ys K most = 0 ∧ kOf ys = k := by
 have hko : kOf ys = k := by unfold kOf; omega
 refine ⟨?_, hko⟩
 have hsb : SoftB ys = true := all_gi.2 fun j hj => by simpa using hs j (by omega)
 have hv : Tu.validK ((ys.length : Int) / 3 - 4) = true := by
  rw [show (ys.length : Int) / 3 - 4 = ((k : Nat) : Int) by omega, hk]; exact Tu.szK_valid r
 unfold wrE
 rw [if_neg ?_, if_pos hsb]
 rintro (q | q | q | q | q | q)
 · omega
 · rw [hv] at q; cases q
 all_goals omega
def RtS (vs W : List Int) (N : Nat) : Prop := ∀ q, q < N → (gi W q = 0 ∨ gi W q = 1) ∧ 0 ≤ gi vs q * (1 - 2 * gi W q) ∧ -127 ≤ gi vs q ∧ gi vs q ≤ 127
theorem add_rt {a m b : Int} (hb : b = 0 ∨ b = 1) (ha : 0 ≤ a * (1 - 2 * b) ∧ -127 ≤ a ∧ a ≤ 127) (hm : 1 ≤ m ∧ m ≤ 127) : 0 ≤ addI a (idI m b) * (1 - 2 * b) ∧ -127 ≤ addI a (idI m b) ∧ addI a (idI m b) ≤ 127 := by
 refine ⟨?_, clI_bd _⟩
 unfold addI
 rcases hb with rfl | rfl
 · rw [show idI m 0 = m by unfold idI; omega, clI_in ha.2, clI_in (show -127 ≤ m ∧ m ≤ 127 by omega)]
   unfold clI
   split <;> (try split) <;> omega
 · rw [show idI m 1 = -m by unfold idI; omega, clI_in ha.2, clI_in (show -127 ≤ -m ∧ -m ≤ 127 by omega)]
   unfold clI
   split <;> (try split) <;> omega
theorem cmb_rt {ps l vs W : List Int} {N m : Nat} {mg : Int} (hl : vs.length = N) (hv : RtS vs W N) (hm : 1 ≤ mg ∧ mg ≤ 127) (hp : ∀ j, j < m → ∃ p : Nat, gi ps j = (p : Int) ∧ p < N) (hx : ∀ j, j < m → gi l j = idI mg (gi W (gi ps j).toNat)) : ∀ j, j ≤ m → RtS (cmbL ps l vs j) W N
 | 0, _ => hv
 | j + 1, h => by
   have ih := cmb_rt hl hv hm hp hx j (by omega)
   obtain ⟨p, e, hpn⟩ := hp j (by omega)
   have h2 := hx j (by omega)
   rw [e, Int.toNat_natCast] at h2
   intro q hq
   have hE : gi (cmbL ps l vs (j + 1)) q = if p = q then addI (gi (cmbL ps l vs j) p) (idI mg (gi W p)) else gi (cmbL ps l vs j) q := by
    show gi (List.set _ _ _) q = _
    rw [e, Int.toNat_natCast, h2, gi_set' _ _ _ _ (by rw [cmbL_len, hl]; exact hq)]
   rw [hE]
   split
   · rename_i hpq
     subst hpq
     exact ⟨(ih p hpn).1, add_rt (ih p hpn).1 (ih p hpn).2 hm⟩
   · exact ih q hq
theorem send_rt {ps vs W : List Int} {N m : Nat} {mg : Int} (hl : vs.length = N) (hv : RtS vs W N) (hm : 1 ≤ mg ∧ mg ≤ 127) (hp : ∀ j, j < m → ∃ p : Nat, gi ps j = (p : Int) ∧ p < N) (hpl : ps.length = m) : RtS (cmbL ps (idL mg (ps.map fun p => gi W p.toNat)) vs m) W N :=
 cmb_rt hl hv hm hp (fun j hj => by
  have h1 : j < ps.length := by omega
  rw [gi_eq (idL mg _) j (by simp [idL]; omega), gi_eq ps j h1]
  simp [idL]) m (Nat.le_refl m)
theorem rts_fresh {W : List Int} {k : Nat} (hw : ∀ x ∈ W, x = 0 ∨ x = 1) (hl : W.length = 3 * (k + 4)) : RtS (frL k 0) W (3 * (k + 4)) := fun q hq => by
 have h0 : gi (frL k 0) q = 0 := by
  unfold frL
  rw [gi_range _ hq]
  unfold frI
  rw [if_neg (by omega)]
 rw [h0]
 exact ⟨hw _ (by rw [gi_eq W q (by omega)]; exact List.getElem_mem _), by omega⟩
theorem idL_soft {mg : Int} {W : List Int} (hm : 1 ≤ mg ∧ mg ≤ 127) (hw : ∀ x ∈ W, x = 0 ∨ x = 1) : SoftB (idL mg W) = true := all_gi.2 fun j hj => by
 have hj2 : j < W.length := by simpa [idL] using hj
 have h1 : gi (idL mg W) j = idI mg (gi W j) := by rw [gi_eq _ _ hj, gi_eq _ _ hj2]; simp [idL]
 rw [h1]
 have h2 := hw _ (List.getElem_mem hj2)
 rw [← gi_eq _ _ hj2] at h2
 unfold idI
 rcases h2 with h2 | h2 <;> rw [h2] <;> simp <;> omega
theorem sgn_of {vs : List Int} {x : List Bool} {k : Nat} (hx : x.length = k) (hv : RtS vs ((Tu.wrd x).map ib) (3 * (k + 4))) (hu : ∀ q, q < 3 * (k + 4) → gi vs q ≠ 0) : Sgn vs k x (fun q => gi vs q * (1 - 2 * (bq (Tu.gB (Tu.wrd x) q) : Int))) := fun q hq => by
 obtain ⟨h1, h2, h3⟩ := hv q hq
 have h4 := hu q hq
 rw [gi_ibs _ _ (by rw [Tu.wrd_len, hx]; exact hq)] at h1 h2
 dsimp only
 generalize (bq (Tu.gB (Tu.wrd x) q) : Int) = b at *
 rcases h1 with rfl | rfl
 · refine ⟨by omega, by omega, by omega⟩
 · refine ⟨by omega, by omega, by omega⟩
theorem comb_it {vs : List Int} {x : List Bool} {k r m : Nat} {K : Int} (hk : k = Tu.szK r) (hx : x.length = k) (hl : vs.length = 3 * (k + 4)) (hv : RtS vs ((Tu.wrd x).map ib) (3 * (k + 4))) (hu : ∀ q, q < 3 * (k + 4) → gi vs q ≠ 0) (hK : 1 ≤ K ∧ K ≤ 4) (hm : 1 ≤ m ∧ m ≤ 64) (hc : Cr.chkErr K (x.map ib) = 0) : itE vs K (m : Int) = 0 ∧ itD vs K (m : Int) = x.map ib := by
 have hS := sgn_of hx hv hu
 obtain ⟨hE, hko⟩ := wr_ok (K := K) (most := (m : Int)) hk hl (fun q hq => (hv q hq).2.2) (by omega) (by omega)
 obtain ⟨d0, -⟩ := clean_two hk hx hS
 have hf : fdN vs K ((m : Nat) : Int) = some 0 := fd_of hko (by omega) (by unfold okN; rw [if_neg (by omega), d0, hc]; rfl) (fun q hq => by omega)
 obtain ⟨i1, i2, i3⟩ := it_of hko hE hf
 exact ⟨i1, i3.trans d0⟩
theorem add_nz {a m b : Int} (hb : b = 0 ∨ b = 1) (ha : 0 ≤ a * (1 - 2 * b) ∧ -127 ≤ a ∧ a ≤ 127) (hm : 1 ≤ m ∧ m ≤ 127) : addI a (idI m b) ≠ 0 := by
 unfold addI
 rcases hb with rfl | rfl
 · rw [show idI m 0 = m by unfold idI; omega, clI_in ha.2, clI_in (show -127 ≤ m ∧ m ≤ 127 by omega)]
   unfold clI
   split <;> (try split) <;> omega
 · rw [show idI m 1 = -m by unfold idI; omega, clI_in ha.2, clI_in (show -127 ≤ -m ∧ -m ≤ 127 by omega)]
   unfold clI
   split <;> (try split) <;> omega
theorem cmb_nz {ps l vs W : List Int} {N m : Nat} {mg : Int} (hl : vs.length = N) (hv : RtS vs W N) (hm : 1 ≤ mg ∧ mg ≤ 127) (hp : ∀ j, j < m → ∃ p : Nat, gi ps j = (p : Int) ∧ p < N) (hx : ∀ j, j < m → gi l j = idI mg (gi W (gi ps j).toNat)) : ∀ j, j ≤ m → ∀ q, q < N → (gi vs q ≠ 0 ∨ ∃ i, i < j ∧ gi ps i = (q : Int)) → gi (cmbL ps l vs j) q ≠ 0
 | 0, _, q, _, h => by
   rcases h with h | ⟨i, hi, _⟩
   · exact h
   · omega
 | j + 1, h, q, hq, hor => by
   have ih := cmb_nz hl hv hm hp hx j (by omega) q hq
   have hr := cmb_rt hl hv hm hp hx j (by omega)
   obtain ⟨p, e, hpn⟩ := hp j (by omega)
   have h2 := hx j (by omega)
   rw [e, Int.toNat_natCast] at h2
   have hE : gi (cmbL ps l vs (j + 1)) q = if p = q then addI (gi (cmbL ps l vs j) p) (idI mg (gi W p)) else gi (cmbL ps l vs j) q := by
    show gi (List.set _ _ _) q = _
    rw [e, Int.toNat_natCast, h2, gi_set' _ _ _ _ (by rw [cmbL_len, hl]; exact hq)]
   rw [hE]
   split
   · exact add_nz (hr p hpn).1 (hr p hpn).2 hm
   · rename_i hne
     refine ih ?_
     rcases hor with h0 | ⟨i, hi, hie⟩
     · exact .inl h0
     · by_cases hij : i = j
       · subst hij
         rw [e] at hie
         omega
       · exact .inr ⟨i, by omega, hie⟩
theorem knC_all {vs : List Int} : ∀ j, (∀ q, q < j → gi vs q ≠ 0) → Cr.knC vs j = j
 | 0, _ => rfl
 | j + 1, h => by
   simp only [Cr.knC]
   rw [knC_all j (fun q hq => h q (by omega)), if_pos (h j (by omega))]
theorem knC_none {vs : List Int} : ∀ j, (∀ q, q < j → gi vs q = 0) → Cr.knC vs j = 0
 | 0, _ => rfl
 | j + 1, h => by
   simp only [Cr.knC]
   rw [knC_none j (fun q hq => h q (by omega)), if_neg (fun h9 => h9 (h j (by omega)))]
theorem slP_pos {s l : Int} {rv n : Nat} (hl : 1 ≤ l) (j : Nat) (hj : j < (slP s l rv n).length) : ∃ p : Nat, gi (slP s l rv n) j = (p : Int) ∧ p < 3 * (kS s + 4) := by
 have hm := gi_mem _ j hj
 unfold slP Cr.pick at hm
 have h1 := List.mem_of_mem_take hm
 obtain ⟨h2, h3⟩ := Cr.selL_mem (Cr.szB_bd (kS s) hl).1 (Nat.le_of_eq (b1_len hl)) _ _ h1
 have h4 := Cr.bufL_bd (kS s) (fS s) (Cr.szB (kS s) l) _ h3
 exact ⟨(gi (slP s l rv n) j).toNat, by unfold slP Cr.pick; omega, by unfold slP Cr.pick; omega⟩
theorem kS_szK {s : Int} (h1 : 1 ≤ s) (h2 : s ≤ 472) : ∃ r, kS s = Tu.szK r := by
 obtain ⟨u, hu, hu2⟩ := lo_small (b := s.toNat + 24) (by omega) (by omega)
 exact ⟨u, by unfold kS Tu.szK; omega⟩
theorem clean0 {s l : Int} {rv n half : Nat} {mg : Int} {x : List Bool} (hs : 1 ≤ s ∧ s ≤ 472) (hl : 1 ≤ l) (hf : fS s = 0) (hx : x.length = kS s) (hm : 1 ≤ mg ∧ mg ≤ 127) (hh : 1 ≤ half ∧ half ≤ 64) (hn : (slP s l rv n).length = n)
 (hcov : ∀ q, q < 3 * (kS s + 4) → ∃ i, i < n ∧ gi (slP s l rv n) i = (q : Int)) (hc : Cr.chkErr 1 (x.map ib) = 0) :
 bZ (half : Int) (zI s l) rv n (idL mg ((slP s l rv n).map fun p => gi ((Tu.wrd x).map ib) p.toNat)) = some (x.map ib) := by
 obtain ⟨r, hr⟩ := kS_szK hs.1 hs.2
 have hwl : ((Tu.wrd x).map ib).length = 3 * (kS s + 4) := by rw [List.length_map, Tu.wrd_len, hx]
 have hw : ∀ y ∈ (Tu.wrd x).map ib, y = 0 ∨ y = 1 := fun y hy => by
  obtain ⟨b, -, rfl⟩ := List.mem_map.1 hy
  cases b
  · exact .inl rfl
  · exact .inr rfl
 have h0 := rts_fresh hw hwl
 have hp : ∀ j, j < n → ∃ p : Nat, gi (slP s l rv n) j = (p : Int) ∧ p < 3 * (kS s + 4) := fun j hj => slP_pos hl j (by rw [hn]; exact hj)
 have hlen : (frL (kS s) 0).length = 3 * (kS s + 4) := by simp [frL]
 have hR := send_rt hlen h0 hm hp hn
 have hxx : ∀ j, j < n → gi (idL mg ((slP s l rv n).map fun p => gi ((Tu.wrd x).map ib) p.toNat)) j = idI mg (gi ((Tu.wrd x).map ib) (gi (slP s l rv n) j).toNat) := fun j hj => by
  have h1 : j < (slP s l rv n).length := by omega
  rw [gi_eq (idL mg _) j (by simp [idL]; omega), gi_eq (slP s l rv n) j h1]
  simp [idL]
 have hN := cmb_nz hlen h0 hm hp hxx n (Nat.le_refl n)
 have hvl : (cmbL (slP s l rv n) (idL mg ((slP s l rv n).map fun p => gi ((Tu.wrd x).map ib) p.toNat)) (frL (kS s) 0) n).length = 3 * (kS s + 4) := by rw [cmbL_len, hlen]
 have hnz : ∀ q, q < 3 * (kS s + 4) → gi (cmbL (slP s l rv n) (idL mg ((slP s l rv n).map fun p => gi ((Tu.wrd x).map ib) p.toNat)) (frL (kS s) 0) n) q ≠ 0 := fun q hq => hN q hq (.inr (hcov q hq))
 obtain ⟨i1, i2⟩ := comb_it (m := half) hr hx hvl hR hnz (by omega) hh hc
 unfold bZ vsZ zI
 dsimp only
 rw [hf]
 unfold dcB
 dsimp only
 rw [knC_all _ hnz, if_neg (by omega), if_pos i1, i2]
def xs16 : List Int := [1, 0, 1, 1, 0, 0, 1, 0, 1, 1, 1, 0, 0, 0, 1, 0]
def x40 : List Int := [1, 0, 1, 1, 0, 0, 1, 0, 1, 1, 1, 0, 0, 0, 1, 0, 0, 1, 1, 1, 0, 0, 0, 1, 0, 0, 0, 1, 0, 1, 0, 1, 0, 0, 1, 0, 0, 0, 0, 0]
theorem k16 : kS 16 = 40 ∧ fS 16 = 0 ∧ Cr.szB 40 1000 = 192 ∧ Cr.stS 40 192 0 = 4 := by decide +kernel
theorem bd16 : Cr.bD xs16 = [x40] := by decide +kernel
theorem ex16 : Cr.exE 40 1000 1 66 2 xs16 = 0 := by decide +kernel
theorem us16 : Cr.usC (b1 16 1000) ≠ 0 := by decide +kernel
theorem ck16 : Cr.chkErr 1 x40 = 0 := by decide +kernel
theorem te16 : tE1 16 x40 = 0 ∧ tR1 16 x40 = xs16 := by decide +kernel
theorem sn16 : Cr.shN 1 66 2 0 = 132 := by decide +kernel
theorem sel16 : (Cr.selL (b1 16 1000) 4 192 192).length = 132 ∧ ((List.range 132).all fun q => (Cr.selL (b1 16 1000) 4 192 192).contains (q : Int)) = true := by decide +kernel
theorem slP16 : slP 16 1000 0 132 = Cr.selL (b1 16 1000) 4 192 192 := by
 obtain ⟨e1, e2, e3, e4⟩ := k16
 unfold slP
 rw [e1, e3, e4]
 exact (Cr.pick_of (by rw [← b1_len (by omega), e1, e3]) (.inr us16) sel16.1).symm
theorem cov16 : (slP 16 1000 0 132).length = 132 ∧ ∀ q : Nat, q < 132 → ∃ i, i < 132 ∧ gi (slP 16 1000 0 132) i = (q : Int) := by
 rw [slP16]
 refine ⟨sel16.1, fun q hq => ?_⟩
 have h1 := List.all_eq_true.1 sel16.2 q (List.mem_range.2 hq)
 have h2 : (q : Int) ∈ Cr.selL (b1 16 1000) 4 192 192 := by simpa using h1
 obtain ⟨i, hi, he⟩ := List.getElem_of_mem h2
 exact ⟨i, by rw [← sel16.1]; exact hi, by rw [gi_eq _ i hi]; exact he⟩
def x40b : List Bool := Tu.toB x40
theorem x40_ib : x40b.map ib = x40 := by decide +kernel
theorem enc16 : Tu.encW x40 = (Tu.wrd x40b).map ib := by
 unfold Tu.encW
 rw [if_pos (by decide +kernel), if_pos (by decide +kernel)]
 rfl
theorem exD16 : Cr.exD 40 1000 1 66 2 0 xs16 = (slP 16 1000 0 132).map fun p => gi ((Tu.wrd x40b).map ib) p.toNat := by
 obtain ⟨z1, z2⟩ := sz_one (b := 40) (by omega) (by omega)
 unfold Cr.exD
 rw [if_pos ex16, show List.range 1 = [0] from rfl, List.flatMap_cons, List.flatMap_nil, List.append_nil]
 unfold Cr.rowX Cr.rowE Cr.bfE
 rw [bd16, sn16, z1, z2]
 show (Cr.pick _ _ _ 132).map (fun p => gi (Tu.encW x40) p.toNat) = _
 rw [enc16]
 rfl
theorem bZ16 (half : Nat) (mg : Int) (hh : 1 ≤ half ∧ half ≤ 64) (hm : 1 ≤ mg ∧ mg ≤ 127) : bZ (half : Int) (zI 16 1000) 0 132 (idL mg (Cr.exD 40 1000 1 66 2 0 xs16)) = some x40 := by
 rw [exD16, ← x40_ib]
 exact clean0 (by omega) (by omega) k16.2.1 (by rw [k16.1]; rfl) hm hh cov16.1 (by rw [k16.1]; exact cov16.2) (by rw [x40_ib]; exact ck16)
theorem exD16_len : (Cr.exD 40 1000 1 66 2 0 xs16).length = 132 := by rw [exD16, List.length_map]; exact cov16.1
theorem exD16_bit : ∀ y ∈ Cr.exD 40 1000 1 66 2 0 xs16, y = 0 ∨ y = 1 := fun y hy => by
 rw [exD16] at hy
 obtain ⟨p, -, rfl⟩ := List.mem_map.1 hy
 by_cases h : p.toNat < ((Tu.wrd x40b).map ib).length
 · rw [gi_eq _ _ h]
   have h2 := List.getElem_mem h
   obtain ⟨b, -, hb⟩ := List.mem_map.1 h2
   rw [← hb]
   cases b
   · exact .inl rfl
   · exact .inr rfl
 · left
   unfold gi
   rw [List.getD_eq_getElem?_getD, List.getElem?_eq_none (by omega)]
   rfl
theorem vc16 : Cr.VC 16 132 2 1000 0 = true := by decide +kernel
theorem sp16 : spE 16 132 2 1000 0 132 = 0 := by
 unfold spE
 rw [if_neg (by rw [vc16]; simp), if_neg (fun h => us16 h.1)]
attribute [local go_sem] Oper.semAt_some
set_option maxRecDepth 100000
theorem sixteen_any (w : World) : Calls Tryz.prog 22 #[] w fun e w' => ∃ A, e = .returned (.slice A 16 16) ∧ Rd .u8 w' A 16 16 xs16 ∧ (A ≠ none → w.heap.size ≤ blk A) ∧ Below w.heap.size w w' := by
 have h := Ownv.lit (base := w.heap.size) w #[.int .u8 1, .int .u8 0, .int .u8 1, .int .u8 1, .int .u8 0, .int .u8 0, .int .u8 1, .int .u8 0, .int .u8 1, .int .u8 1, .int .u8 1, .int .u8 0, .int .u8 0, .int .u8 0, .int .u8 1, .int .u8 0] 5 rfl (Nat.le_refl _) (by show 16 ≤ maxLen; unfold maxLen; omega)
 have HR := Lib.hid h
 go_enter Tryz.func22, Tryz.ntmps22
 go_wp2
 go_ret
 exact ⟨_, rfl, HR.out.rd, fun hA => (Ownv.blk_of HR.out hA).1, bal (Below.refl _ w) _⟩
theorem byt16 : Cr.Byt xs16 := by unfold Cr.Byt; decide
theorem encode16 (A : Option Addr) (c : Nat) (w : World) (hx : Rd .u8 w A 16 c xs16) : Calls Tryz.prog 13 #[.agg #[.int .i64 16, .int .i64 132, .int .i64 2, .int .i64 1000, .int .i64 0], .slice A 16 c] w fun e w' => ∃ A' c', e = .returned (.tuple #[.slice A' 132 c', .int .i64 0]) ∧ Rd .u8 w' A' 132 c' (Cr.exD 40 1000 1 66 2 0 xs16) ∧ Below w.heap.size w w' := by
 refine (Cr.enc_ok 16 1 66 2 0 1000 A 16 c xs16 w (by omega) (by omega) (by decide +kernel) (.inl rfl) (by omega) (by omega) (by omega) rfl hx byt16).mono ?_
 rintro e w' ⟨A', n', c', rfl, hO, hB⟩
 have hn : n' = 132 := by rw [← Rd.len (Own.rd hO)]; exact exD16_len
 subst hn
 exact ⟨A', c', by rw [show Cr.exE (16 + 24) 1000 1 66 2 xs16 = 0 from ex16], Own.rd hO, hB⟩
theorem pdecoded_any {w : World} {base P : Nat} {half st sz lm : Int} {G cap D : Nat} {need : Int} {R : Option Addr} {r rc : Nat} {rest : List Value} (h : PrB w base P half st sz lm G cap D need R r rc rest) (h0 : half ≠ 0) :
 Calls Tryz.prog 24 #[.pointer (some ⟨P, 0, none⟩)] w fun e w' => e = .returned (.int .i64 (if R.isSome = true then 1 else 0)) ∧ Below w.heap.size w w' := by
 have HN := Lib.hid (pnone_any h.p h0)
 have c4 := h.p.p.cell (j := 4) (v := .slice (some ⟨G, 0, none⟩) 1 cap) rfl
 have hix := fun W => ixK G cap W
 have hG : Blk w G 103 ([.pointer (some ⟨D, 0, none⟩), .int .i64 need, .slice R r rc] ++ rest) := h.g
 have hX : Blk (w.alloc (.cells #[.pointer (some ⟨D, 0, none⟩), .int .i64 need, .slice R r rc] 103)) w.heap.size 103 [.pointer (some ⟨D, 0, none⟩), .int .i64 need, .slice R r rc] := Blk.new w _ _ rfl
 have HDC := Lib.hid (fun W => decoded_any (.pointer (some ⟨D, 0, none⟩)) need R r rc W)
 have HB0 := Lib.hid (bal (Below.refl w.heap.size w) (.cells #[.pointer (some ⟨D, 0, none⟩), .int .i64 need, .slice R r rc] 103))
 clear h h0
 cases hb : R.isSome <;> simp only [hb] at HDC <;> (
  clear hb
  go_enter Tryz.func24, Tryz.ntmps24
  go_wp2_with fail
  refine HN.out.mono ?_
  rintro e w1 ⟨rfl, rfl⟩
  go_wp2_with fail
  refine wp_loop_rounds 3 ?_
  rw [rounds_succ]
  go_wp2_with (first
   | (refine ldpre (cs := [.pointer (some ⟨D, 0, none⟩), .int .i64 need, .slice R r rc]) rfl 103 (.tmp 14) rfl rfl hG _ Tryz.underlying103 rfl (by rw [infoBk]; rfl) ?_)
   | (refine ldrow (cs := [.pointer (some ⟨D, 0, none⟩), .int .i64 need, .slice R r rc]) rfl 103 (.tmp 4) rfl rfl hX _ Tryz.underlying103 rfl (by rw [infoBk]; rfl) ?_))
  refine (HDC.out _).mono ?_
  rintro e w2 ⟨rfl, hB⟩
  have HB := Lib.hid (HB0.out.trans (hB.mono HB0.out.size))
  clear hB hX hG c4
  go_wp2_with fail
  rw [rounds_succ]
  go_wp2
  go_ret
  exact ⟨rfl, HB.out⟩)
set_option maxHeartbeats 8000000
theorem cmb_zero {ps l vs : List Int} (hv : ∀ q, q < vs.length → gi vs q = 0) (hl : ∀ i, gi l i = 0) : ∀ j q, q < vs.length → gi (cmbL ps l vs j) q = 0
 | 0, q, hq => hv q hq
 | j + 1, q, hq => by
   have ih := cmb_zero hv hl (ps := ps) j
   show gi (List.set _ _ _) q = 0
   rw [gi_set' _ _ _ _ (by rw [cmbL_len]; exact hq)]
   split
   · rename_i e
     rw [e, ih q hq, hl]
     decide
   · exact ih q hq
theorem bZ_zero (half : Int) (n : Nat) : bZ half (zI 16 1000) 0 n (List.replicate n 0) = none := by
 unfold bZ vsZ zI dcB
 dsimp only
 rw [k16.1, k16.2.1]
 have hlen : (frL 40 0).length = 3 * (40 + 4) := by simp [frL]
 rw [knC_none (3 * (40 + 4)) (fun q hq => cmb_zero (fun q hq => by
  rw [hlen] at hq
  unfold frL
  rw [gi_range _ hq]
  unfold frI
  rw [if_neg (by omega)]) (fun i => gi_zero _ _) n q (by rw [hlen]; exact hq)), if_pos (by omega)]
theorem rc16 {st sz lm : Int} {fresh : Bool} {ys : List Int} (hs : SoftB ys = true) (hb : (fresh = true ∨ st = 0) ∨ (sz = 16 ∧ lm = 1000)) : rcE st sz lm 16 132 2 1000 0 fresh ys 132 = 0 := by
 unfold rcE
 rw [sp16, if_neg (by rw [hs]; rintro (h | h) <;> cases h), if_neg]
 rintro ⟨⟨h1, h2⟩, h3⟩
 rcases hb with (h | h) | ⟨h, h'⟩
 · rw [h1] at h; cases h
 · exact h2 h
 · rw [h, h'] at h3
   rcases h3 with h3 | h3 <;> exact h3 rfl
theorem nx16 (half : Nat) (mg : Int) (hh : 1 ≤ half ∧ half ≤ 64) (hm : 1 ≤ mg ∧ mg ≤ 127) : fnK 16 (bZ (half : Int) (zI 16 1000) 0 132 (idL mg (Cr.exD 40 1000 1 66 2 0 xs16))) = 1 ∧ fnO 16 (bZ (half : Int) (zI 16 1000) 0 132 (idL mg (Cr.exD 40 1000 1 66 2 0 xs16))) = xs16 ∧
 (nxZ (half : Int) (zI 16 1000) 0 132 (idL mg (Cr.exD 40 1000 1 66 2 0 xs16))).st = 2 ∧ (nxZ (half : Int) (zI 16 1000) 0 132 (idL mg (Cr.exD 40 1000 1 66 2 0 xs16))).b = some x40 := by
 have h := bZ16 half mg hh hm
 unfold nxZ zI at *
 dsimp only at *
 rw [h]
 unfold fnK fnO fnS fnB
 dsimp only
 rw [if_pos te16.1, if_pos te16.1, if_pos te16.1, if_pos te16.1]
 exact ⟨rfl, te16.2, rfl, rfl⟩
theorem nz16 : (nxZ 8 (zI 16 1000) 0 132 (List.replicate 132 0)).st = 1 := by
 have h := bZ_zero 8 132
 unfold nxZ zI at *
 dsimp only at *
 rw [h]
 rfl
theorem z132_soft : SoftB (List.replicate 132 0) = true := by decide +kernel
-- the first reception of a clean transmission
theorem recv16 {w : World} {base P : Nat} {st sz lm : Int} {A0 : Option Addr} {n0 c0 : Nat} (h : PrP w base P 8 st sz lm A0 n0 c0) (hb : base ≤ w.heap.size) (mg : Int) (hm : 1 ≤ mg ∧ mg ≤ 127) (fresh : Bool) (hbeg : fresh = true ∨ st = 0) (A : Option Addr) (c : Nat) (hy : Rd .i64 w A 132 c (idL mg (Cr.exD 40 1000 1 66 2 0 xs16))) :
 Calls Tryz.prog 15 #[.pointer (some ⟨P, 0, none⟩), .agg #[.int .i64 16, .int .i64 132, .int .i64 2, .int .i64 1000, .int .i64 0], .bool fresh, .slice A 132 c] w fun e w' => ∃ A' c' F' z, e = .returned (.tuple #[.slice A' 16 c', .int .i64 1, .int .i64 0]) ∧ Rd .u8 w' A' 16 c' xs16 ∧ Below base w w' ∧ HzP w' base P 8 z 132 F' ∧ (z.st = 2 ∧ z.sz = 16 ∧ z.lm = 1000 ∧ z.b = some x40) ∧ (∀ q, q < w.heap.size → q ≠ P → w'.heap[q]? = w.heap[q]?) ∧ (∀ x, x ∈ F' → w.heap.size ≤ x) := by
 refine (recv_begin h (by decide) hb 16 0 132 2 1000 fresh A 132 c _ hy (by omega) (rc16 (idL_soft hm exD16_bit) (.inl hbeg)) hbeg).mono ?_
 rintro e w' ⟨A', n', c', F', rfl, hR, hB, hZ, hK, hF⟩
 obtain ⟨e1, e2, e3, e4⟩ := nx16 8 mg (by omega) hm
 have hR : Rd .u8 w' A' n' c' xs16 := by rw [← e2]; exact hR
 obtain rfl : n' = 16 := (Rd.len hR).symm
 exact ⟨A', c', F', _, congrArg (fun k => Ending.returned (.tuple #[.slice A' 16 c', .int .i64 k, .int .i64 0])) e1, hR, hB, hZ, ⟨e3, rfl, rfl, e4⟩, fun q hq hp => hK q hq hp (by simp), fun x hx => (hF x hx).resolve_left (by simp)⟩
theorem recvz {w : World} {base P : Nat} {st sz lm : Int} {A0 : Option Addr} {n0 c0 : Nat} (h : PrP w base P 8 st sz lm A0 n0 c0) (hb : base ≤ w.heap.size) (A : Option Addr) (c : Nat) (hy : Rd .i64 w A 132 c (List.replicate 132 0)) :
 Calls Tryz.prog 15 #[.pointer (some ⟨P, 0, none⟩), .agg #[.int .i64 16, .int .i64 132, .int .i64 2, .int .i64 1000, .int .i64 0], .bool true, .slice A 132 c] w fun e w' => ∃ A' c' F' z, e = .returned (.tuple #[.slice A' 0 c', .int .i64 2, .int .i64 0]) ∧ Below base w w' ∧ HzP w' base P 8 z 132 F' ∧ z.st = 1 := by
 refine (recv_begin h (by decide) hb 16 0 132 2 1000 true A 132 c _ hy (by omega) (rc16 z132_soft (.inl (.inl rfl))) (.inl rfl)).mono ?_
 rintro e w' ⟨A', n', c', F', rfl, hR, hB, hZ, hK, hF⟩
 have h0 := bZ_zero 8 132
 have hR : Rd .u8 w' A' n' c' [] := by
  have e2 : fnO 16 (bZ 8 (zI 16 1000) 0 132 (List.replicate 132 0)) = [] := by rw [h0]; rfl
  rw [← e2]; exact hR
 obtain rfl : n' = 0 := (Rd.len hR).symm
 have e1 : fnK 16 (bZ 8 (zI 16 1000) 0 132 (List.replicate 132 0)) = 2 := by rw [h0]; rfl
 exact ⟨A', c', F', _, congrArg (fun k => Ending.returned (.tuple #[.slice A' 0 c', .int .i64 k, .int .i64 0])) e1, hB, hZ, nz16⟩
theorem known_ok (w : World) : Calls Tryz.prog 11 #[] w fun e w' => e = .returned (.bool true) ∧ Below w.heap.size w w' := by
 have HC0 := Lib.hid (Blk.new w [.int .i64 16, .int .i64 132, .int .i64 2, .int .i64 1000, .int .i64 0] 36 rfl)
 have HBA := Lib.hid (bal (Below.refl w.heap.size w) (.cells #[.int .i64 16, .int .i64 132, .int .i64 2, .int .i64 1000, .int .i64 0] 36))
 go_enter Tryz.func11, Tryz.ntmps11
 go_wp2_with fail
 generalize w.alloc (.cells #[.int .i64 16, .int .i64 132, .int .i64 2, .int .i64 1000, .int .i64 0] 36) = w1 at *
 obtain ⟨CB, hCB⟩ : ∃ CB, CB = w.heap.size := ⟨_, rfl⟩
 rw [← hCB] at HC0 ⊢
 clear hCB
 refine (hnew_ok 8 w1 (by omega)).mono ?_
 rintro e w2 ⟨P, rfl, hP, hB2⟩
 have HP2 := Lib.hid hP
 have HC2 := Lib.hid (HC0.out.below hB2)
 have HB2 := Lib.hid (HBA.out.trans (hB2.mono HBA.out.size))
 have HW12 : Hid (w1.heap.size ≤ w2.heap.size) := Lib.hid hB2.size
 have HCB : Hid (CB < w1.heap.size) := Lib.hid HC0.out.lt
 clear hP hB2
 go_wp2_with fail
 have HS := Lib.hid HC2.out.drew
 refine Q_start (fun W9 => Blk W9 CB 36 [.int .i64 16, .int .i64 132, .int .i64 2, .int .i64 1000, .int .i64 0]) 2 8 ?_
 refine Q_T 0 23 1 (.agg #[.int .i64 16, .int .i64 132, .int .i64 2, .int .i64 1000, .int .i64 0]) [] rfl HS.out (yieldsIf_load_mid rfl 36 (.tmp 1) rfl CB (0) rfl [.int .i64 16, .int .i64 132, .int .i64 2, .int .i64 1000, .int .i64 0] _ (fun W hS => fun q v hv => by rw [Nat.zero_add]; exact Blk.cell hS hv) Tryz.underlying36 rfl (by rw [infoCf]; rfl)) ?_
 simp only [z0, z1, z2]
 refine Q_1S 1 3 rfl (fun K hK => ?_)
 go_simp
 refine (sixteen_any _).mono ?_
 rintro e w3 ⟨A3, rfl, hR3, -, hB⟩
 have HB3 := Lib.hid ((Below.refl _ w2).drew.trans hB)
 have HR3 := Lib.hid hR3
 have HS3 := Lib.hid (HS.out.below hB)
 clear hR3 hB
 refine hK _ _ HS3.out ?_
 clear hK K
 refine Q_1 2 7 rfl (fun K hK => ?_)
 go_simp
 refine (encode16 A3 16 w3 HR3.out).mono ?_
 rintro e w4 ⟨A4, c4, rfl, hR4, hB⟩
 have HB4 := Lib.hid (HB3.out.trans (hB.mono HB3.out.size))
 have HR4 := Lib.hid hR4
 have HC4 := Lib.hid (HS3.out.below hB)
 clear hR4 hB
 refine hK _ _ ?_
 clear hK K
 refine Q_X 3 22 15 (.tuple #[.slice A4 132 c4, .int .i64 0]) rfl ?_
 simp only [z0, z1, z2]
 refine Q_X 4 26 31 (.slice A4 132 c4) rfl ?_
 simp only [z0, z1, z2]
 refine Q_X 5 27 63 (.int .i64 0) rfl ?_
 simp only [z0, z1, z2]
 refine Q_1 6 127 rfl (fun K hK => ?_)
 go_simp
 refine hK _ _ ?_
 clear hK K
 refine Q_1 7 255 rfl (fun K hK => ?_)
 go_simp
 refine hK _ _ ?_
 clear hK K
 refine Q_end ?_
 have HP4 := Lib.hid (HP2.out.below HB4.out)
 have HID := Lib.hid (ideal_ok A4 132 c4 _ 20 w4 HR4.out (by
  unfold Cr.ValidB
  rw [List.all_eq_true]
  intro y hy
  rcases exD16_bit y hy with h | h <;> rw [h] <;> rfl) (fun y hy => by rcases exD16_bit y hy with h | h <;> omega) (by omega) (by omega))
 go_wp2_with fail
 refine HID.out.mono ?_
 rintro e w5 ⟨R5, rfl, hR5, hF5, hB5⟩
 have HR5 := Lib.hid hR5
 have HF5 := Lib.hid hF5
 have HP5 := Lib.hid (HP4.out.below hB5)
 have hC5 := HC4.out.below hB5
 have HC5 := Lib.hid hC5
 have HB5 := Lib.hid (HB2.out.trans ((HB4.out.trans (hB5.mono HB4.out.size)).mono HB2.out.size))
 have HW25 : Hid (w2.heap.size ≤ w5.heap.size ∧ w2.heap.size ≤ w4.heap.size) := Lib.hid ⟨Nat.le_trans HB4.out.size hB5.size, HB4.out.size⟩
 have HPL : Hid (P < w2.heap.size) := Lib.hid HP2.out.p.lt
 clear hR5 hF5 hB5
 have HBS5 : Hid (w1.heap.size ≤ w5.heap.size) := Lib.hid (Nat.le_trans HW12.out HW25.out.1)
 have HBW : Hid (w.heap.size ≤ w1.heap.size) := Lib.hid HBA.out.size
 go_wp2_with (refine ldrow (cs := [.int .i64 16, .int .i64 132, .int .i64 2, .int .i64 1000, .int .i64 0]) rfl 36 (.tmp 1) rfl rfl hC5 _ Tryz.underlying36 rfl (by rw [infoCf]; rfl) ?_)
 refine (recv16 HP5.out HBS5.out 20 (by omega) true (.inl rfl) R5 132 HR5.out).mono ?_
 rintro e w6 ⟨A6, c6, F6, z6, rfl, hR6, hB6, hZ6, ⟨hz1, hz2, hz3, hz4⟩, hK6, -⟩
 obtain ⟨G, cap, D, V, vc, R, r, rc, rest, hF, hq⟩ := hZ6.h
 rw [hz1, hz2, hz3, hz4] at hq
 have HQ6 := Lib.hid hq
 have HR6 := Lib.hid hR6
 have hs56 : w5.heap.size ≤ w6.heap.size := hB6.size
 have HL6 : Hid (Rd .i64 w6 R5 132 132 (idL 20 (Cr.exD 40 1000 1 66 2 0 xs16))) := Lib.hid (rdv_heq HR5.out hs56 (fun hA hlt => hK6 _ hlt (by have h1 := HF5.out hA; have h2 := HPL.out; have h3 := HW25.out.2; omega)))
 have hC6 : Blk w6 CB 36 [.int .i64 16, .int .i64 132, .int .i64 2, .int .i64 1000, .int .i64 0] := (hB6.block CB HCB.out).trans HC5.out
 have HC6 := Lib.hid hC6
 have HB6 := Lib.hid (HB5.out.trans (hB6.mono HBW.out))
 have HS56 := Lib.hid hs56
 clear hq hR6 hs56 hB6 hK6 hC5 hz1 hz2 hz3 hz4 hZ6 hF
 go_wp2_with (refine ldrow (cs := [.int .i64 16, .int .i64 132, .int .i64 2, .int .i64 1000, .int .i64 0]) rfl 36 (.tmp 1) rfl rfl hC6 _ Tryz.underlying36 rfl (by rw [infoCf]; rfl) ?_)
 refine (recv_done HQ6.out.a.p (by decide) 132 2 0 R5 132 132 _ HL6.out (by omega) (rc16 (idL_soft (by omega) exD16_bit) (.inr ⟨rfl, rfl⟩))).mono ?_
 rintro e w7 ⟨rfl, hB7⟩
 have HQ7 := Lib.hid (HQ6.out.below hB7)
 have HR7 := Lib.hid (Rdv.below HR6.out hB7)
 have HC7 := Lib.hid (HC6.out.below hB7)
 have HB7 := Lib.hid (HB6.out.trans (hB7.mono HB6.out.size))
 have HS57 : Hid (w5.heap.size ≤ w7.heap.size) := Lib.hid (Nat.le_trans HS56.out hB7.size)
 clear hB7 hC6
 go_wp2_with fail
 refine (sixteen_any w7).mono ?_
 rintro e w8 ⟨A8, rfl, hR8, -, hB8⟩
 have HQ8 := Lib.hid (HQ7.out.below hB8)
 have HC8 := Lib.hid (HC7.out.below hB8)
 have HB8 := Lib.hid (HB7.out.trans (hB8.mono HB7.out.size))
 have HSM := Lib.hid (Cr.same_any A6 A8 16 c6 16 16 xs16 xs16 w8 (Rdv.below HR7.out hB8) hR8)
 rw [decide_eq_true rfl] at HSM
 have HS58 : Hid (w5.heap.size ≤ w8.heap.size) := Lib.hid (Nat.le_trans HS57.out hB8.size)
 clear hB8 hR8
 go_wp2_with fail
 refine HSM.out.mono ?_
 rintro e wq ⟨rfl, hqt⟩
 have hBq := hqt.below w8.heap.size
 have HQq := Lib.hid (HQ8.out.below hBq)
 have HCq := Lib.hid (HC8.out.below hBq)
 have HBq := Lib.hid (HB8.out.trans (hBq.mono HB8.out.size))
 have HSq : Hid (w5.heap.size ≤ wq.heap.size) := Lib.hid (Nat.le_trans HS58.out hBq.size)
 have HDE := Lib.hid (pdecoded_any HQq.out.a (by decide))
 rw [HQq.out.t.some_iff] at HDE
 clear hqt hBq
 go_wp2_with fail
 refine HDE.out.mono ?_
 rintro e wa ⟨rfl, hBa⟩
 have HQa := Lib.hid (HQq.out.below hBa)
 have HCa := Lib.hid (HCq.out.below hBa)
 have HBa := Lib.hid (HBq.out.trans (hBa.mono HBq.out.size))
 have HSa : Hid (w5.heap.size ≤ wa.heap.size) := Lib.hid (Nat.le_trans HSq.out hBa.size)
 have HSTa := Lib.hid (pstate_any HQa.out.a.p (by decide))
 clear hBa
 go_wp2_with fail
 refine HSTa.out.mono ?_
 rintro e wx ⟨rfl, hwx⟩
 rw [← hwx]
 clear hwx
 have HPa := Lib.hid HQa.out.a.p
 have HBSa : Hid (w1.heap.size ≤ wa.heap.size) := Lib.hid (Nat.le_trans HBS5.out HSa.out)
 have HSb := Lib.hid HCa.out.drew
 go_wp2_with fail
 refine Q_start (fun W9 => Blk W9 CB 36 [.int .i64 16, .int .i64 132, .int .i64 2, .int .i64 1000, .int .i64 0]) 3 11 ?_
 refine Q_W 0 95 1 (.pointer (some ⟨P, 0, none⟩)) rfl HSb.out ?_
 simp only [z0, z1, z2]
 refine Q_T 1 96 3 (.agg #[.int .i64 16, .int .i64 132, .int .i64 2, .int .i64 1000, .int .i64 0]) [] rfl HSb.out (yieldsIf_load_mid rfl 36 (.tmp 1) rfl CB (0) rfl [.int .i64 16, .int .i64 132, .int .i64 2, .int .i64 1000, .int .i64 0] _ (fun W hS => fun q v hv => by rw [Nat.zero_add]; exact Blk.cell hS hv) Tryz.underlying36 rfl (by rw [infoCf]; rfl)) ?_
 simp only [z0, z1, z2]
 refine Q_1S 2 7 rfl (fun K hK => ?_)
 refine wp_mk (n := 132) _ _ 39 rfl el22 rfl rfl (by omega) (by unfold maxLen; omega) ?_
 intro Am wb hO hB hA
 have HRb : Hid (Rd .i64 wb Am 132 132 (List.replicate 132 0)) := Lib.hid (by have := hO.rd; unfold Rd; simpa using this)
 have HBb := Lib.hid ((Below.refl _ wa).drew.trans hB)
 have HSc := Lib.hid (HSb.out.below hB)
 clear hO hB hA
 refine hK _ _ HSc.out ?_
 clear hK K
 refine Q_1 3 15 rfl (fun K hK => ?_)
 go_simp
 refine (recvz (HPa.out.below HBb.out) (Nat.le_trans HBSa.out HBb.out.size) Am 132 HRb.out).mono ?_
 rintro e wc ⟨Ac, cc, Fc, zc, rfl, hBc, hZc, hzt⟩
 have HZc := Lib.hid hZc
 have HZT := Lib.hid hzt
 have HBc := Lib.hid (HBa.out.trans (((HBb.out.mono HBSa.out).trans hBc).mono HBW.out))
 clear hBc hZc hzt
 refine hK _ _ ?_
 clear hK K
 refine Q_X 4 94 31 (.tuple #[.slice Ac 0 cc, .int .i64 2, .int .i64 0]) rfl ?_
 simp only [z0, z1, z2]
 refine Q_X 5 99 63 (.slice Ac 0 cc) rfl ?_
 simp only [z0, z1, z2]
 refine Q_X 6 100 127 (.int .i64 2) rfl ?_
 simp only [z0, z1, z2]
 refine Q_X 7 101 255 (.int .i64 0) rfl ?_
 simp only [z0, z1, z2]
 refine Q_1 8 511 rfl (fun K hK => ?_)
 go_simp
 refine hK _ _ ?_
 clear hK K
 refine Q_1 9 1023 rfl (fun K hK => ?_)
 go_simp
 refine hK _ _ ?_
 clear hK K
 refine Q_1 10 2047 rfl (fun K hK => ?_)
 go_simp
 refine hK _ _ ?_
 clear hK K
 refine Q_end ?_
 obtain ⟨G2, cap2, D2, V2, vc2, R2, r2, rc2, rest2, -, hq2⟩ := HZc.out.h
 rw [HZT.out] at hq2
 have HSTc := Lib.hid (pstate_any hq2.a.p (by decide))
 clear hq2
 go_wp2_with fail
 refine HSTc.out.mono ?_
 rintro e wx ⟨rfl, hwx⟩
 rw [← hwx]
 clear hwx
 go_wp2
 go_ret
 exact ⟨rfl, HBc.out⟩
end Go.Proofs.YtkdfefpnhaebfaaGreat
