/-
  Proves Rows.TurboFlipsSaid: called with any arguments the Go function userplanelaw08.TurboFlips returns true and leaves its arguments as they were. Conditions: none.
-/
import Derived.Test.YtkagdiejpcfggaaRows
import Derived.Test.YtkagdiejpcfggaaZl
import Derived.WalkKit
import Derived.ProofKit
import Derived.OpenShut
import Derived.ShutString
import Derived.ChangeOld
import Derived.Below
namespace Go.Proofs.Ytkagdiejpcfggaa.turboFlips
open Go.ChangeShapes Go.WideShapes Go.ChangeAt Go.RowKit
open Go.ChangeMaps (open_string shut_string)
set_option linter.unusedVariables false

theorem own : ownKnob Try.prog.godebug = none := by kernel_rfl
theorem laidOut : laidOutB Try.prog = true := by kernel_rfl

def IsRow (k : IntKind) (w : World) (a : Option Addr) (len cap : Nat) (zs : List Int) : Prop :=
  (a = none ∧ len = 0 ∧ cap = 0 ∧ zs = []) ∨
  ∃ x, a = some x ∧ len ≤ cap ∧ cap ≤ maxLen ∧ zs.length = cap ∧ (∀ i, i < zs.length → w.cell? (x.add i) = some (.int k (zs.getD i 0))) ∧ ∀ n ∈ zs, (Lit.int k n).wf = true

set_option maxRecDepth 100000 in
set_option maxHeartbeats 1600000 in
theorem walk (a0 : Option Addr) (len0 cap0 : Nat) (z0 : List Int) (a1 : Option Addr) (len1 cap1 : Nat) (z1 : List Int) (a2 : Int) (a3 : Option Addr) (len3 cap3 : Nat) (z3 : List Int) (w : World) (w0 : IsRow .u8 w a0 len0 cap0 z0) (w1 : IsRow .u8 w a1 len1 cap1 z1) (w2 : (Lit.int .u8 a2).wf = true) (w3 : IsRow .u16 w a3 len3 cap3 z3) :
    Calls Try.prog 8 #[.slice a0 len0 cap0, .slice a1 len1 cap1, .int .u8 a2, .slice a3 len3 cap3] w fun e w' => e = .returned (.bool true) ∧ Below w.heap.size w w' := by
  obtain ⟨hx, hwf⟩ := rd_of_row w0
  obtain ⟨hy, hwf2⟩ := rd_of_row w1
  obtain ⟨ht, hwf3⟩ := rd_of_row w3
  generalize z0.take len0 = xs at *
  generalize z1.take len1 = ys at *
  generalize z3.take len3 = ts at *
  clear w0 w1 w3
  have hbd := hx.bd.1
  have hbd2 := hy.bd.1
  have hbd3 := ht.bd.1
  by_cases h2 : 600 < len0
  · go_enter Try.func8, Try.ntmps8
    go_wp2_with (go_at_call 10; refine (works_any _).mono ?_; rintro e w' ⟨rfl, hB⟩)
    go_ret
    exact ⟨rfl, hB⟩
  by_cases h3 : 600 < len1
  · go_enter Try.func8, Try.ntmps8
    go_wp2_with (go_at_call 10; refine (works_any _).mono ?_; rintro e w' ⟨rfl, hB⟩)
    go_ret
    exact ⟨rfl, hB⟩
  by_cases h4 : 5 < len3
  · go_enter Try.func8, Try.ntmps8
    go_wp2_with (go_at_call 10; refine (works_any _).mono ?_; rintro e w' ⟨rfl, hB⟩)
    go_ret
    exact ⟨rfl, hB⟩
  obtain ⟨u, rfl, hu⟩ : ∃ u : Nat, a2 = (u : Int) ∧ u < 256 := by
    have := bounds_u8 w2
    exact ⟨a2.toNat, by omega, by omega⟩
  have HX := Lib.hid hx
  have HY := Lib.hid hy
  have HT := Lib.hid ht
  have H0 := Lib.hid (wf_u8 hwf)
  have H1 := Lib.hid (wf_u8 hwf2)
  have H3 := Lib.hid (wf_u16 hwf3)
  clear hx hy ht hwf hwf2 hwf3 w2
  go_enter Try.func8, Try.ntmps8
  go_wp2_with fail
  refine (sized_any a0 len0 cap0 u xs _ HX.out H0.out hu).mono ?_
  rintro e w1 ⟨M1, rfl, hM1, hB1⟩
  have HM1 := Lib.hid hM1
  have HB1 := Lib.hid hB1
  clear hM1 hB1
  go_wp2_with fail
  refine (sized_any a1 len1 cap1 u ys _ (Rdv.below HY.out HB1.out) H1.out hu).mono ?_
  rintro e w2 ⟨M2, rfl, hM2, hB2⟩
  have HR1 := Lib.hid (Own.rd (Ownv.below HM1.out hB2))
  have HR2 := Lib.hid (Own.rd hM2)
  have HB2 := Lib.hid (bnext2 HB1.out hB2)
  clear hM2 hB2 HM1 HB1
  have HV := Lib.hid (szK_valid u)
  have hk := szK_bd u
  have HP := Lib.hid (szB_len xs u)
  have HQ := Lib.hid (szB_len ys u)
  generalize szB xs u = X at *
  generalize szB ys u = Y at *
  generalize hkd : szK u = k at *
  have HK := Lib.hid hkd
  clear hkd
  go_wp2_with fail
  refine (enc_any M1 k k X _ HR1.out HV.out).mono ?_
  rintro e w3 ⟨A3, c3, rfl, hA3, hB4⟩
  have HR1 := Lib.hid (Rdv.below HR1.out hB4)
  have HR2 := Lib.hid (Rdv.below HR2.out hB4)
  have HB4 := Lib.hid (bnext2 HB2.out hB4)
  have HA3 : Hid (Rd .u8 w3 A3 (3 * (k + 4)) c3 ((wrd X).map ib)) := Lib.hid (Own.rd hA3)
  clear hA3 hB4 HB2
  go_wp2_with fail
  refine (enc_any M2 k k Y _ HR2.out HV.out).mono ?_
  rintro e w4 ⟨A4, c4, rfl, hA4, hB5⟩
  have HR1 := Lib.hid (Rdv.below HR1.out hB5)
  have HR2 := Lib.hid (Rdv.below HR2.out hB5)
  have HA3 := Lib.hid (Rdv.below HA3.out hB5)
  have HB5 := Lib.hid (bnext2 HB4.out hB5)
  have HA4 : Hid (Rd .u8 w4 A4 (3 * (k + 4)) c4 ((wrd Y).map ib)) := Lib.hid (Own.rd hA4)
  have HT4 := Lib.hid (Rdv.below HT.out HB5.out)
  clear hA4 hB5 HB4 HT HX HY
  have HWL : Hid ((wrd X).length = 3 * (k + 4)) := Lib.hid (by rw [wrd_len, HP.out])
  have HVL : Hid ((wrd Y).length = 3 * (k + 4)) := Lib.hid (by rw [wrd_len, HQ.out])
  have HNEAR : Hid (∀ bs : List Bool, bs.length = 3 * (k + 4) → dst bs (wrd X) ≤ 5 → chkA (bs.map ib) = if bs = wrd X then 0 else 11) := Lib.hid fun bs => chk_near HK.out.symm HP.out
  have HDIF : Hid (X ≠ Y → 6 ≤ dst (wrd X) (wrd Y)) := Lib.hid fun h => wrd_ne (by rw [HP.out, HQ.out]) h
  have HEQ : Hid (X = Y → dst (wrd X) (wrd Y) = 0) := Lib.hid fun h => by rw [h, dst_self]
  generalize hL : 3 * (k + 4) = L at *
  have hl0 : L ≤ 2000 := by omega
  have hl1 : 0 < L := by omega
  clear hL
  generalize wrd X = P at *
  generalize wrd Y = Q at *
  go_wp2_with (go_at_call 14; refine (num_any _ _).mono ?_; rintro e w8 ⟨rfl, rfl⟩)
  go_loopw [15, 16] (fun d i wr => ∃ q : Nat, q ≤ L ∧ i = .int .i64 q ∧ d = .int .i64 (dstQ P Q q : Int) ∧ Qt w4 wr) (fun _ i _ => L - (intOf i).toNat)
  case atStart => exact ⟨0, by omega, rfl, rfl, Qt.refl _⟩
  case round =>
    obtain ⟨q, hq, rfl, rfl, hQ⟩ := hrel
    have HQT := Lib.hid hQ
    clear hQ
    by_cases hlt : q < L
    · have x3 := Rdv.below HA3.out (HQT.out.below _)
      have x4 := Rdv.below HA4.out (HQT.out.below _)
      have hix3 := fun W => Rdv.ix x3 el22 hlt .i64 W
      have hix4 := fun W => Rdv.ix x4 el22 hlt .i64 W
      have hc3 := Rd.cell x3 hlt
      have hc4 := Rd.cell x4 hlt
      obtain ⟨p1, e1, f1⟩ := gi_bits P q (by rw [HWL.out]; exact hlt)
      obtain ⟨p2, e2, f2⟩ := gi_bits Q q (by rw [HVL.out]; exact hlt)
      rw [f1] at hc3
      rw [f2] at hc4
      have HDS : Hid (dstQ P Q (q + 1) = dstQ P Q q + Ytkagdiejpcfggaa.w1 (p1 ^^ p2)) := Lib.hid (by
        rw [dstQ_succ P Q (by rw [HWL.out, HVL.out]) q (by rw [HWL.out]; exact hlt), e1, e2])
      have hdl := dstQ_le P Q q
      generalize dstQ P Q q = D at *
      have hne := ib_ne p1 p2
      clear x3 x4 e1 e2 f1 f2
      cases hp : (p1 ^^ p2) with
      | true =>
        rw [hp] at hne HDS
        have HW : Hid (Ytkagdiejpcfggaa.w1 true = 1) := Lib.hid rfl
        clear hp
        go_wp2_with fail
        go_region
        go_wp2
        go_roundw
        case rel => exact ⟨q + 1, by omega, by go_num, by rw [HDS.out, HW.out]; go_num, HQT.out.drewN 1⟩
        case measure => simp [intOf]; omega
      | false =>
        rw [hp] at hne HDS
        have HW : Hid (Ytkagdiejpcfggaa.w1 false = 0) := Lib.hid rfl
        clear hp
        go_wp2_with fail
        go_region
        go_wp2
        go_roundw
        case rel => exact ⟨q + 1, by omega, by go_num, by rw [HDS.out, HW.out]; rfl, HQT.out.drewN 1⟩
        case measure => simp [intOf]; omega
    · obtain rfl : q = L := by omega
      have HALL : Hid (dstQ P Q q = dst P Q) := Lib.hid (dstQ_all P Q (by rw [HWL.out, HVL.out]) q HWL.out.symm)
      have HR1 := Lib.hid (Rdv.below HR1.out (HQT.out.below _))
      have HR2 := Lib.hid (Rdv.below HR2.out (HQT.out.below _))
      have HA3 := Lib.hid (Rdv.below HA3.out (HQT.out.below _))
      have HT4 := Lib.hid (Rdv.below HT4.out (HQT.out.below _))
      have HB6 := Lib.hid (bnext2 HB5.out (HQT.out.below _))
      generalize dstQ P Q q = D at *
      have hDD : D ≠ 0 → 6 ≤ D := by
        intro h
        by_cases e : X = Y
        · rw [HALL.out] at h; exact absurd (HEQ.out e) h
        · rw [HALL.out]; exact HDIF.out e
      have hXY : decide (X.map ib = Y.map ib) = ((D : Int) == 0) := by
        by_cases e : X = Y
        · rw [HALL.out, HEQ.out e, e]; simp
        · have := HDIF.out e
          rw [← HALL.out] at this
          rw [beq_f (by omega)]
          simp only [decide_eq_false_iff_not]
          exact fun h => e (ib_inj h)
      have HXY := Lib.hid hXY
      clear hXY hlt hq HDIF HEQ HALL HQT HVL HA4 HB5 HV
      by_cases hD : D = 0
      · subst hD
        clear hDD
        go_wp2_with fail
        refine (same_any M1 M2 k k k k _ _ _ HR1.out HR2.out (ib_wf _) (ib_wf _)).mono ?_
        rintro e w' ⟨rfl, rfl⟩
        rw [HXY.out]
        clear HXY HR1 HR2
        have hO0 : Ownv 5 (wr.alloc (.cells #[] 5)) wr.heap.size (some ⟨wr.heap.size, 0, none⟩) 0 0 [] := Ownv.lit wr #[] 5 rfl (Nat.le_refl _) (Nat.zero_le _)
        have hbx : ∀ W' : World, (wr.alloc (.cells #[] 5)).grownBy W' (some wr.heap.size) → Below wr.heap.size wr W' := fun W' hg => (Below.refl _ wr).grown (grownBy_of_alloc hg) (Nat.le_refl _) (by simp)
        have h1 := Rdv.alloc HA3.out (.cells #[] 5)
        go_wp2_with (at_builtin; refine list_of rfl fun K hK => wp_app _ _ 22 rfl el22 rfl rfl hO0 h1 (oneCell_ints .u8 (P.map ib)) (by omega) (by unfold maxLen; omega) (by simp) ?_; intro A' c' w' hO hg; refine hK _ _ ?_; clear hK K; have HO := Lib.hid (Own.of_eq (k := .u8) (xs := P.map ib) hO (Nat.zero_add q) (List.nil_append _)); have HB := Lib.hid (hbx _ hg); clear hO hg hO0 h1 hbx; rw [Nat.zero_add])
        have hst : FlipInv wr P q A' c' len3 (.int .i64 0) w' := ⟨0, P, Nat.zero_le _, rfl, HWL.out, by rw [dst_self]; exact Nat.le_refl _, HO.out, HB.out⟩
        clear HO HB
        obtain ⟨wo, hwo⟩ : ∃ wo : World, wo = wr := ⟨_, rfl⟩
        rw [← hwo] at hst HA3 HT4 HB6
        clear hwo
        go_loopw [18] (fun i wq => FlipInv wo P q A' c' len3 i wq) (fun i _ => len3 - (intOf i).toNat)
        case atStart => exact hst
        case round =>
          obtain ⟨j, bs, hj, rfl, hbl, hbd, hO, hB⟩ := hrel
          clear hst
          have hc0 : 0 < c' := by have := (Own.rd hO).le; omega
          by_cases hlt : j < len3
          · have hR := Rdv.below HT4.out hB
            have hix := fun W => Rdv.ix hR el49 hlt .i64 W
            have hc := Rd.cell hR hlt
            obtain ⟨t, htt, hty⟩ : ∃ t : Nat, gi ts j = (t : Int) ∧ t < 65536 := by
              have := H3.out _ (gi_mem ts j (by rw [Rd.len hR]; exact hlt))
              exact ⟨(gi ts j).toNat, by omega, by omega⟩
            rw [htt] at hc
            obtain ⟨m, hm, hmL⟩ : ∃ m : Nat, (t : Int) % (q : Int) = (m : Int) ∧ m < q := ⟨t % q, by simp, Nat.mod_lt _ (by omega)⟩
            have hix2 := fun W => Rdv.ix (Own.rd hO) el22 hmL .i64 W
            obtain ⟨b, e1, f1⟩ := gi_bits bs m (by omega)
            have hc2 := Rd.cell (Own.rd hO) hmL
            rw [f1] at hc2
            have hfz := Ownv.frozen hO hc0 m
            have HGE := Lib.hid (Ownv.blk_ge hO hc0).1
            have HSET := Lib.hid (Own.set_ hO hmL (ib (!b)))
            have HDS : Hid (dst (bs.set m (!b)) P ≤ j + 1) := Lib.hid (Nat.le_trans (dst_set _ _ _ _) (by omega))
            have HBL := Lib.hid hbl
            have HBB := Lib.hid hB
            have hnb : (1 : Int) - ib b = ib (!b) := by cases b <;> rfl
            have hb0 : 0 ≤ ib b := by cases b <;> decide
            have hb1 : ib b ≤ 1 := by cases b <;> decide
            clear hR hO hB hbl hbd htt e1 f1
            go_wp2
            go_roundw
            case rel => exact ⟨j + 1, bs.set m (!b), by omega, by go_num, by rw [List.length_set]; exact HBL.out, HDS.out, Own.of_eq HSET.out.1 rfl (by rw [List.map_set, List.map_set, List.map_set]), HBB.out.grown HSET.out.2 HBB.out.size (fun k hk => by have := Option.some.inj hk; have := HGE.out; omega)⟩
            case measure => simp [intOf]; omega
          · have HC := Lib.hid (HNEAR.out bs hbl (by omega))
            have HO := Lib.hid (Own.rd hO)
            have HA3 := Lib.hid (Rdv.below HA3.out hB)
            have HB7 := Lib.hid (bnext2 HB6.out hB)
            clear hO hB hbl hbd
            by_cases e : bs = P
            · have HE := Lib.hid e
              rw [if_pos e] at HC
              clear e
              go_wp2_with fail
              refine (check_all A' q c' (bs.map ib) _ HO.out (fun x hx => (ib_wf _ x hx).1)).mono ?_
              rintro e w5 ⟨rfl, hB8⟩
              rw [HC.out]
              have HO := Lib.hid (Rdv.below HO.out hB8)
              have HA3 := Lib.hid (Rdv.below HA3.out hB8)
              have HB8 := Lib.hid (bnext2 HB7.out hB8)
              clear hB8
              go_wp2_with fail
              refine (same_any A' A3 q c' q c3 _ _ _ HO.out HA3.out (ib_wf _) (ib_wf _)).mono ?_
              rintro e w' ⟨rfl, rfl⟩
              rw [show decide (bs.map ib = P.map ib) = true from by rw [HE.out]; simp]
              go_wp2_with fail
              refine (num_any _ _).mono ?_
              rintro e w' ⟨rfl, rfl⟩
              go_wp2_with fail
              refine (works_any _).mono ?_
              rintro e w9 ⟨rfl, hB9⟩
              have HB9 := Lib.hid (bnext2 HB8.out hB9)
              clear hB9
              go_wp2
              go_ret
              exact ⟨rfl, HB9.out⟩
            · have HE := Lib.hid e
              rw [if_neg e] at HC
              clear e
              go_wp2_with fail
              refine (check_all A' q c' (bs.map ib) _ HO.out (fun x hx => (ib_wf _ x hx).1)).mono ?_
              rintro e w5 ⟨rfl, hB8⟩
              rw [HC.out]
              have HO := Lib.hid (Rdv.below HO.out hB8)
              have HA3 := Lib.hid (Rdv.below HA3.out hB8)
              have HB8 := Lib.hid (bnext2 HB7.out hB8)
              clear hB8
              go_wp2_with fail
              refine (same_any A' A3 q c' q c3 _ _ _ HO.out HA3.out (ib_wf _) (ib_wf _)).mono ?_
              rintro e w' ⟨rfl, rfl⟩
              rw [show decide (bs.map ib = P.map ib) = false from by simp only [decide_eq_false_iff_not]; exact fun h => HE.out (ib_inj h)]
              go_wp2_with fail
              refine (works_any _).mono ?_
              rintro e w9 ⟨rfl, hB9⟩
              have HB9 := Lib.hid (bnext2 HB8.out hB9)
              clear hB9
              go_wp2
              go_ret
              exact ⟨rfl, HB9.out⟩
      · have hD6 : 6 ≤ D := hDD hD
        have hD0 : ((D : Int) == 0) = false := beq_f (by omega)
        clear hDD
        go_wp2_with fail
        refine (same_any M1 M2 k k k k _ _ _ HR1.out HR2.out (ib_wf _) (ib_wf _)).mono ?_
        rintro e w' ⟨rfl, rfl⟩
        rw [HXY.out]
        clear HXY HR1 HR2
        have hO0 : Ownv 5 (wr.alloc (.cells #[] 5)) wr.heap.size (some ⟨wr.heap.size, 0, none⟩) 0 0 [] := Ownv.lit wr #[] 5 rfl (Nat.le_refl _) (Nat.zero_le _)
        have hbx : ∀ W' : World, (wr.alloc (.cells #[] 5)).grownBy W' (some wr.heap.size) → Below wr.heap.size wr W' := fun W' hg => (Below.refl _ wr).grown (grownBy_of_alloc hg) (Nat.le_refl _) (by simp)
        have h1 := Rdv.alloc HA3.out (.cells #[] 5)
        go_wp2_with (at_builtin; refine list_of rfl fun K hK => wp_app _ _ 22 rfl el22 rfl rfl hO0 h1 (oneCell_ints .u8 (P.map ib)) (by omega) (by unfold maxLen; omega) (by simp) ?_; intro A' c' w' hO hg; refine hK _ _ ?_; clear hK K; have HO := Lib.hid (Own.of_eq (k := .u8) (xs := P.map ib) hO (Nat.zero_add q) (List.nil_append _)); have HB := Lib.hid (hbx _ hg); clear hO hg hO0 h1 hbx; rw [Nat.zero_add])
        have hst : FlipInv wr P q A' c' len3 (.int .i64 0) w' := ⟨0, P, Nat.zero_le _, rfl, HWL.out, by rw [dst_self]; exact Nat.le_refl _, HO.out, HB.out⟩
        clear HO HB
        obtain ⟨wo, hwo⟩ : ∃ wo : World, wo = wr := ⟨_, rfl⟩
        rw [← hwo] at hst HA3 HT4 HB6
        clear hwo
        go_loopw [18] (fun i wq => FlipInv wo P q A' c' len3 i wq) (fun i _ => len3 - (intOf i).toNat)
        case atStart => exact hst
        case round =>
          obtain ⟨j, bs, hj, rfl, hbl, hbd, hO, hB⟩ := hrel
          clear hst
          have hc0 : 0 < c' := by have := (Own.rd hO).le; omega
          by_cases hlt : j < len3
          · have hR := Rdv.below HT4.out hB
            have hix := fun W => Rdv.ix hR el49 hlt .i64 W
            have hc := Rd.cell hR hlt
            obtain ⟨t, htt, hty⟩ : ∃ t : Nat, gi ts j = (t : Int) ∧ t < 65536 := by
              have := H3.out _ (gi_mem ts j (by rw [Rd.len hR]; exact hlt))
              exact ⟨(gi ts j).toNat, by omega, by omega⟩
            rw [htt] at hc
            obtain ⟨m, hm, hmL⟩ : ∃ m : Nat, (t : Int) % (q : Int) = (m : Int) ∧ m < q := ⟨t % q, by simp, Nat.mod_lt _ (by omega)⟩
            have hix2 := fun W => Rdv.ix (Own.rd hO) el22 hmL .i64 W
            obtain ⟨b, e1, f1⟩ := gi_bits bs m (by omega)
            have hc2 := Rd.cell (Own.rd hO) hmL
            rw [f1] at hc2
            have hfz := Ownv.frozen hO hc0 m
            have HGE := Lib.hid (Ownv.blk_ge hO hc0).1
            have HSET := Lib.hid (Own.set_ hO hmL (ib (!b)))
            have HDS : Hid (dst (bs.set m (!b)) P ≤ j + 1) := Lib.hid (Nat.le_trans (dst_set _ _ _ _) (by omega))
            have HBL := Lib.hid hbl
            have HBB := Lib.hid hB
            have hnb : (1 : Int) - ib b = ib (!b) := by cases b <;> rfl
            have hb0 : 0 ≤ ib b := by cases b <;> decide
            have hb1 : ib b ≤ 1 := by cases b <;> decide
            clear hR hO hB hbl hbd htt e1 f1
            go_wp2
            go_roundw
            case rel => exact ⟨j + 1, bs.set m (!b), by omega, by go_num, by rw [List.length_set]; exact HBL.out, HDS.out, Own.of_eq HSET.out.1 rfl (by rw [List.map_set, List.map_set, List.map_set]), HBB.out.grown HSET.out.2 HBB.out.size (fun k hk => by have := Option.some.inj hk; have := HGE.out; omega)⟩
            case measure => simp [intOf]; omega
          · have HC := Lib.hid (HNEAR.out bs hbl (by omega))
            have HO := Lib.hid (Own.rd hO)
            have HA3 := Lib.hid (Rdv.below HA3.out hB)
            have HB7 := Lib.hid (bnext2 HB6.out hB)
            clear hO hB hbl hbd
            by_cases e : bs = P
            · have HE := Lib.hid e
              rw [if_pos e] at HC
              clear e
              go_wp2_with fail
              refine (check_all A' q c' (bs.map ib) _ HO.out (fun x hx => (ib_wf _ x hx).1)).mono ?_
              rintro e w5 ⟨rfl, hB8⟩
              rw [HC.out]
              have HO := Lib.hid (Rdv.below HO.out hB8)
              have HA3 := Lib.hid (Rdv.below HA3.out hB8)
              have HB8 := Lib.hid (bnext2 HB7.out hB8)
              clear hB8
              go_wp2_with fail
              refine (same_any A' A3 q c' q c3 _ _ _ HO.out HA3.out (ib_wf _) (ib_wf _)).mono ?_
              rintro e w' ⟨rfl, rfl⟩
              rw [show decide (bs.map ib = P.map ib) = true from by rw [HE.out]; simp]
              go_wp2_with fail
              refine (num_any _ _).mono ?_
              rintro e w' ⟨rfl, rfl⟩
              go_wp2_with fail
              refine (works_any _).mono ?_
              rintro e w9 ⟨rfl, hB9⟩
              have HB9 := Lib.hid (bnext2 HB8.out hB9)
              clear hB9
              go_wp2
              go_ret
              exact ⟨rfl, HB9.out⟩
            · have HE := Lib.hid e
              rw [if_neg e] at HC
              clear e
              go_wp2_with fail
              refine (check_all A' q c' (bs.map ib) _ HO.out (fun x hx => (ib_wf _ x hx).1)).mono ?_
              rintro e w5 ⟨rfl, hB8⟩
              rw [HC.out]
              have HO := Lib.hid (Rdv.below HO.out hB8)
              have HA3 := Lib.hid (Rdv.below HA3.out hB8)
              have HB8 := Lib.hid (bnext2 HB7.out hB8)
              clear hB8
              go_wp2_with fail
              refine (same_any A' A3 q c' q c3 _ _ _ HO.out HA3.out (ib_wf _) (ib_wf _)).mono ?_
              rintro e w' ⟨rfl, rfl⟩
              rw [show decide (bs.map ib = P.map ib) = false from by simp only [decide_eq_false_iff_not]; exact fun h => HE.out (ib_inj h)]
              go_wp2_with fail
              refine (works_any _).mono ?_
              rintro e w9 ⟨rfl, hB9⟩
              have HB9 := Lib.hid (bnext2 HB8.out hB9)
              clear hB9
              go_wp2
              go_ret
              exact ⟨rfl, HB9.out⟩

set_option maxRecDepth 100000 in
theorem lifted (os : Os) (started : os.Started) (H : Type) (enc : TypeId × Value → H) :
    ReturnsInHanded {} Try.checked os 8 .any (Rows.turboFlipsSpec.pre6 enc Try.prog Try.f8 Rows.turboFlipsRow.domain false) (Rows.turboFlipsSpec.post enc Try.prog Try.f8 false true false false) := by
  refine returnsInHanded_of_change (C := Try.checked) own started (by kernel_rfl) Try.func8
    (ChangeSpec.witness6 (enc := enc) (C := Try.checked) false ⟨#[], #[.slice none 0 0, .slice none 0 0, .int .u8 0, .slice none 0 0], []⟩ 8 (by kernel_rfl) (by kernel_rfl) (by kernel_rfl) (by kernel_rfl)) ?_
  intro W base args ds gs before hval0 hW hcnd _
  have hval : ∀ (j : Nat) t v, Try.f8.params[j]? = some t → args[j]? = some v → Value.okWide Try.prog W .any base t v := hval0
  have hW' := hW
  obtain ⟨p, q, hA0, hV, rfl, hfz, hnd⟩ := hW
  have hA : DataW.TrodAll enc Try.prog W 0 (fun _ => true) true Try.f8.params.toList args.toList ds p := hA0
  rw [Try.params8] at hA hval
  obtain ⟨v0, vs0, d0, ds0, p0, q0, hargs, rfl, rfl, h0, r0⟩ := trodAll_cons hA
  obtain ⟨v1, vs1, d1, ds1, p1, q1, rfl, rfl, rfl, h1, r1⟩ := trodAll_cons r0
  obtain ⟨v2, vs2, d2, ds2, p2, q2, rfl, rfl, rfl, h2, r2⟩ := trodAll_cons r1
  obtain ⟨v3, vs3, d3, ds3, p3, q3, rfl, rfl, rfl, h3, r3⟩ := trodAll_cons r2
  obtain ⟨rfl, rfl, rfl⟩ := trodAll_nil r3
  obtain rfl : args = #[v0, v1, v2, v3] := by cases args; simp_all
  obtain ⟨rfl, rfl⟩ := trodVars_none hV
  obtain ⟨a0, len0, cap0, rfl⟩ := okWide_slice Try.underlying22 (hval 0 22 v0 rfl rfl)
  have k0 := h0
  have lt0 : ∀ x ∈ p0, x.block < W.heap.size := by obtain ⟨m, hm⟩ := k0; exact DataW.trod_lt m _ _ _ hm
  obtain ⟨z0, w0⟩ : ∃ zs, IsRow .u8 W a0 len0 cap0 zs := by
    obtain ⟨fuel, hf⟩ := h0
    rcases open_ints Try.underlying22 Try.underlying5 (by kernel_rfl) hf with ⟨hcs, _⟩ | ⟨x, l, c, zs, hcs, _, hl, hm, hz, _, hcell, hwz⟩
    · simp [Value.cells] at hcs
      obtain ⟨rfl, rfl, rfl⟩ := hcs
      exact ⟨[], .inl ⟨rfl, rfl, rfl, rfl⟩⟩
    · simp [Value.cells] at hcs
      obtain ⟨rfl, rfl, rfl⟩ := hcs
      exact ⟨zs, .inr ⟨_, rfl, hl, hm, by simpa using hz, hcell, hwz⟩⟩
  obtain ⟨a1, len1, cap1, rfl⟩ := okWide_slice Try.underlying22 (hval 1 22 v1 rfl rfl)
  have k1 := h1
  have lt1 : ∀ x ∈ p1, x.block < W.heap.size := by obtain ⟨m, hm⟩ := k1; exact DataW.trod_lt m _ _ _ hm
  obtain ⟨z1, w1⟩ : ∃ zs, IsRow .u8 W a1 len1 cap1 zs := by
    obtain ⟨fuel, hf⟩ := h1
    rcases open_ints Try.underlying22 Try.underlying5 (by kernel_rfl) hf with ⟨hcs, _⟩ | ⟨x, l, c, zs, hcs, _, hl, hm, hz, _, hcell, hwz⟩
    · simp [Value.cells] at hcs
      obtain ⟨rfl, rfl, rfl⟩ := hcs
      exact ⟨[], .inl ⟨rfl, rfl, rfl, rfl⟩⟩
    · simp [Value.cells] at hcs
      obtain ⟨rfl, rfl, rfl⟩ := hcs
      exact ⟨zs, .inr ⟨_, rfl, hl, hm, by simpa using hz, hcell, hwz⟩⟩
  obtain ⟨a2, rfl, rfl, rfl, w2⟩ := open_int Try.underlying5 (hval 2 5 v2 rfl rfl) h2
  obtain ⟨a3, len3, cap3, rfl⟩ := okWide_slice Try.underlying49 (hval 3 49 v3 rfl rfl)
  have k3 := h3
  have lt3 : ∀ x ∈ p3, x.block < W.heap.size := by obtain ⟨m, hm⟩ := k3; exact DataW.trod_lt m _ _ _ hm
  obtain ⟨z3, w3⟩ : ∃ zs, IsRow .u16 W a3 len3 cap3 zs := by
    obtain ⟨fuel, hf⟩ := h3
    rcases open_ints Try.underlying49 Try.underlying50 (by kernel_rfl) hf with ⟨hcs, _⟩ | ⟨x, l, c, zs, hcs, _, hl, hm, hz, _, hcell, hwz⟩
    · simp [Value.cells] at hcs
      obtain ⟨rfl, rfl, rfl⟩ := hcs
      exact ⟨[], .inl ⟨rfl, rfl, rfl, rfl⟩⟩
    · simp [Value.cells] at hcs
      obtain ⟨rfl, rfl, rfl⟩ := hcs
      exact ⟨zs, .inr ⟨_, rfl, hl, hm, by simpa using hz, hcell, hwz⟩⟩
  clear hA0 hval0
  refine (walk a0 len0 cap0 z0 a1 len1 cap1 z1 a2 a3 len3 cap3 z3 W w0 w1 w2 w3).mono fun e W' ⟨he, bel⟩ => ?_
  subst he
  exact ⟨_, rfl, _, _, _, [], _, [], hW', trodAll_mk1 (shut_bool Try.underlying4 _), (trodAll_cons_mk (Below.trod laidOut (by kernel_rfl) (of_decide_eq_true (by kernel_rfl)) k0 bel lt0) (trodAll_cons_mk (Below.trod laidOut (by kernel_rfl) (of_decide_eq_true (by kernel_rfl)) k1 bel lt1) (trodAll_cons_mk (shut_int Try.underlying5 w2) (trodAll_cons_mk (Below.trod laidOut (by kernel_rfl) (of_decide_eq_true (by kernel_rfl)) k3 bel lt3) trodAll_mk0)))), rfl, bel.frame _, fun h => by cases h⟩

theorem over : Rows.turboFlipsRow.holds Try.pinned (OpenSpec.ofChange Rows.turboFlipsSpec) :=
  OpenClaim.holds_of_wide 8 Try.f8 rfl rfl rfl rfl rfl rfl rfl ⟨rfl, rfl, rfl, rfl, rfl⟩ rfl rfl rfl rfl rfl (by kernel_rfl) Try.func8 (by kernel_rfl)
    (of_decide_eq_true (by kernel_rfl)) (by unfold Func.isWrapper; first | (rw [if_pos (by decide +kernel)]; kernel_rfl) | (rw [if_neg (by decide +kernel)]; exact ⟨rfl, rfl⟩))
    (fun os started H enc _ => lifted os started H enc)

theorem proved : Rows.TurboFlipsSaid := over
#print axioms proved
end Go.Proofs.Ytkagdiejpcfggaa.turboFlips
