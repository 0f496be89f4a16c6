/-
  Proves Rows.TurboHoldsSaid: called with any arguments the Go function userplanelaw08.TurboHolds returns true and leaves its arguments as they were. Conditions: none.
-/
import Derived.Test.YtkagdiejpcfggaaRows
import Derived.Test.YtkagdiejpcfggaaZn
import Derived.WalkKit
import Derived.ProofKit
import Derived.OpenShut
import Derived.ShutString
import Derived.ChangeOld
import Derived.Below
namespace Go.Proofs.Ytkagdiejpcfggaa.turboHolds
open Go.ChangeShapes Go.WideShapes Go.ChangeAt Go.RowKit
open Go.ChangeMaps (open_string shut_string)
set_option linter.unusedVariables false

theorem own : ownKnob Try.prog.godebug = none := by kernel_rfl
theorem laidOut : laidOutB Try.prog = true := by kernel_rfl

def IsRow (k : IntKind) (w : World) (a : Option Addr) (len cap : Nat) (zs : List Int) : Prop :=
  (a = none ∧ len = 0 ∧ cap = 0 ∧ zs = []) ∨
  ∃ x, a = some x ∧ len ≤ cap ∧ cap ≤ maxLen ∧ zs.length = cap ∧ (∀ i, i < zs.length → w.cell? (x.add i) = some (.int k (zs.getD i 0))) ∧ ∀ n ∈ zs, (Lit.int k n).wf = true

set_option maxRecDepth 100000 in
set_option maxHeartbeats 1600000 in
theorem walk (a0 : Option Addr) (len0 cap0 : Nat) (z0 : List Int) (a1 : Int) (w : World) (w0 : IsRow .u8 w a0 len0 cap0 z0) (w1 : (Lit.int .u8 a1).wf = true) :
    Calls Try.prog 9 #[.slice a0 len0 cap0, .int .u8 a1] w fun e w' => e = .returned (.bool true) ∧ Below w.heap.size w w' := by
  obtain ⟨hx, hwf⟩ := rd_of_row w0
  generalize z0.take len0 = xs at *
  clear w0
  have hbd := hx.bd.1
  by_cases h2 : 600 < len0
  · go_enter Try.func9, Try.ntmps9
    go_wp2_with (go_at_call 10; refine (works_any _).mono ?_; rintro e w' ⟨rfl, hB⟩)
    go_ret
    exact ⟨rfl, hB⟩
  obtain ⟨u, rfl, hu⟩ : ∃ u : Nat, a1 = (u : Int) ∧ u < 256 := by
    have := bounds_u8 w1
    exact ⟨a1.toNat, by omega, by omega⟩
  have HX := Lib.hid hx
  have H0 := Lib.hid (wf_u8 hwf)
  clear hx hwf w1
  go_enter Try.func9, Try.ntmps9
  go_wp2_with fail
  refine (sized_any a0 len0 cap0 u xs _ HX.out H0.out hu).mono ?_
  rintro e w1 ⟨M1, rfl, hM1, hB1⟩
  have HR1 := Lib.hid (Own.rd hM1)
  have HB1 := Lib.hid hB1
  clear hM1 hB1
  have HV := Lib.hid (szK_valid u)
  have hk := szK_bd u
  have HP := Lib.hid (szB_len xs u)
  generalize szB xs u = X at *
  generalize hkd : szK u = k at *
  have HK := Lib.hid hkd
  clear hkd
  go_wp2_with fail
  refine (enc_any M1 k k X _ HR1.out HV.out).mono ?_
  rintro e w3 ⟨A3, c3, rfl, hA3, hB4⟩
  have HR1 := Lib.hid (Rdv.below HR1.out hB4)
  have HB4 := Lib.hid (bnext2 HB1.out hB4)
  have HA3 : Hid (Rd .u8 w3 A3 (3 * (k + 4)) c3 ((wrd X).map ib)) := Lib.hid (Own.rd hA3)
  clear hA3 hB4 HB1
  have HBC := Lib.hid (bit_wrd HK.out.symm HP.out)
  have HGW : Hid (∀ (code : Nat) (S P : List Bool), code = 1 ∨ code = 2 → S = selB (wrd X) (sysL k code) → P = selB (wrd X) (parI k code) → S.take k = inC X code ∧ S.take k ++ P.take k ++ (S.drop k ++ P.drop k) = wordC (inC X code)) := Lib.hid fun code S P hc hS hP => got_word HP.out HK.out.symm hc hS hP
  have HWL : Hid ((wrd X).length = 3 * (k + 4)) := Lib.hid (by rw [wrd_len, HP.out])
  go_wp2_with fail
  have hbits := bits_all A3 (3 * (k + 4)) c3 ((wrd X).map ib) w3 HA3.out
  rw [HBC.out.1, HBC.out.2.1] at hbits
  have HBITS := Lib.hid hbits
  clear hbits
  refine HBITS.out.mono ?_
  rintro e w4 ⟨A4, n4, c4, rfl, hA4, hB5⟩
  clear HBITS
  have HR1 := Lib.hid (Rdv.below HR1.out hB5)
  have HA3 := Lib.hid (Rdv.below HA3.out hB5)
  have HB5 := Lib.hid (bnext2 HB4.out hB5)
  have HA4 := Lib.hid (Own.rd hA4)
  clear hA4 hB5 HB4
  go_wp2_with fail
  refine (num_any _ _).mono ?_
  rintro e w' ⟨rfl, rfl⟩
  go_wp2_with fail
  refine (num_any _ _).mono ?_
  rintro e w' ⟨rfl, rfl⟩
  go_wp2_with fail
  refine (size_any k _).mono ?_
  rintro e w5 ⟨rfl, hB6⟩
  rw [if_pos HV.out]
  have HR1 := Lib.hid (Rdv.below HR1.out hB6)
  have HA3 := Lib.hid (Rdv.below HA3.out hB6)
  have HA4 := Lib.hid (Rdv.below HA4.out hB6)
  have HB6 := Lib.hid (bnext2 HB5.out hB6)
  clear hB6 HB5
  go_wp2_with fail
  refine (same_any A4 M1 n4 c4 k k _ _ _ HA4.out HR1.out (ib_wf _) (ib_wf _)).mono ?_
  rintro e w' ⟨rfl, rfl⟩
  rw [show decide (X.map ib = X.map ib) = true from by simp]
  go_wp2_with fail
  refine (check_all A3 (3 * (k + 4)) c3 ((wrd X).map ib) _ HA3.out (fun x hx => (ib_wf _ x hx).1)).mono ?_
  rintro e w6 ⟨rfl, hB7⟩
  rw [HBC.out.2.2]
  have HA3 := Lib.hid (Rdv.below HA3.out hB7)
  have HB7 := Lib.hid (bnext2 HB6.out hB7)
  clear hB7 HB6 HR1 HA4 HBC
  go_wp2_with fail
  refine (num_any _ _).mono ?_
  rintro e w' ⟨rfl, rfl⟩
  go_wp2_with fail
  go_loopw [11, 4] (fun i r wr => r = .bool false ∧ ∃ code : Nat, 1 ≤ code ∧ code ≤ 3 ∧ i = .int .i64 code ∧ Below w6.heap.size w6 wr) (fun i _ _ => 3 - (intOf i).toNat)
  case atStart => exact ⟨rfl, 1, by omega, by omega, rfl, Below.refl _ _⟩
  case round =>
    obtain ⟨rfl, code, hc1, hc3, rfl, hB⟩ := hrel
    have HBR := Lib.hid hB
    clear hB
    by_cases hlt : code ≤ 2
    · have h12 : code = 1 ∨ code = 2 := by omega
      go_wp2_with fail
      refine (lay_any k code _ HV.out h12).mono ?_
      rintro e w7 ⟨A, c, B, d, rfl, hA, hBo, hB8⟩
      have HA := Lib.hid (Own.rd hA)
      have HBo := Lib.hid (Own.rd hBo)
      have HW := Lib.hid (Rdv.below (Rdv.below HA3.out HBR.out) hB8)
      have HB8 := Lib.hid (bnext2 (HB7.out.trans (HBR.out.mono HB7.out.size)) hB8)
      have HBQ := Lib.hid (HBR.out.trans (hB8.mono HBR.out.size))
      clear hA hBo hB8 HBR
      go_wp2_with (go_at_call 14; refine (num_any _ _).mono ?_; rintro e w8 ⟨rfl, rfl⟩)
      go_loopw [17, 15, 16] (fun i a b wq => HoldI w7 (wrd X) k code i a b wq) (fun i _ _ _ => k + 3 - (intOf i).toNat)
      case atStart => exact ⟨0, none, none, 0, 0, by omega, rfl, rfl, rfl, TR.nil _⟩
      case round =>
        obtain ⟨j, A1, B1, c1, d1, hj, rfl, rfl, rfl, hT⟩ := hrel
        obtain ⟨wo, rfl⟩ : ∃ wo : World, wo = wr := ⟨_, rfl⟩
        by_cases hlj : j < k + 3
        · obtain ⟨s0, s1, s2⟩ := sys_bd k code u j HK.out.symm h12 hlj
          obtain ⟨q0, q1⟩ := par_bd k code j h12 hlj
          obtain ⟨p, hp⟩ : ∃ p : Nat, gi (sysL k code) j = (p : Int) := ⟨(gi (sysL k code) j).toNat, by omega⟩
          obtain ⟨q, hq⟩ : ∃ q : Nat, gi (parI k code) j = (q : Int) := ⟨(gi (parI k code) j).toNat, by omega⟩
          have hpN : p < 3 * (k + 4) := by omega
          have hqN : q < 3 * (k + 4) := by omega
          have HXS := Lib.hid (sel_take (wrd X) (sysL k code) j p (by rw [sysL_len]; exact hlj) hp (by rw [HWL.out]; exact hpN))
          have HYS := Lib.hid (sel_take (wrd X) (parI k code) j q (by rw [parI_len]; exact hlj) hq (by rw [HWL.out]; exact hqN))
          have HC : Hid (∀ W : World, Below w7.heap.size w7 W → W.cell? (adr A j) = some (.int .i64 (p : Int)) ∧ W.cell? (adr B j) = some (.int .i64 (q : Int)) ∧ W.cell? (adr A3 p) = some (.int .u8 (gi ((wrd X).map ib) p)) ∧ W.cell? (adr A3 q) = some (.int .u8 (gi ((wrd X).map ib) q))) := Lib.hid fun W hB => ⟨by rw [← hp]; exact Rd.cell (Rdv.below HA.out hB) hlj, by rw [← hq]; exact Rd.cell (Rdv.below HBo.out hB) hlj, Rd.cell (Rdv.below HW.out hB) hpN, Rd.cell (Rdv.below HW.out hB) hqN⟩
          have hix1 := fun W => Rdv.ix HA.out el33 hlj .i64 W
          have hix2 := fun W => Rdv.ix HBo.out el33 hlj .i64 W
          have hix3 := fun W => Rdv.ix HW.out el22 hpN .i64 W
          have hix4 := fun W => Rdv.ix HW.out el22 hqN .i64 W
          have hbT := hT.bl
          have hAlt : A1 ≠ none → blk A1 < wo.heap.size := fun h => own_lt hT.a h
          have hBlt : B1 ≠ none → blk B1 < wo.heap.size := fun h => own_lt hT.b h
          generalize (selB (wrd X) ((sysL k code).take j)).map ib = xs1 at *
          generalize (selB (wrd X) ((parI k code).take j)).map ib = ys1 at *
          generalize gi ((wrd X).map ib) p = v1 at *
          generalize gi ((wrd X).map ib) q = v2 at *
          clear hp hq s0 s1 s2 q0 q1
          go_wp2_with fail
          go_region_held3 (fun W => W.cell? (adr A j) = some (.int .i64 (p : Int)) ∧ W.cell? (adr B j) = some (.int .i64 (q : Int)) ∧ W.cell? (adr A3 p) = some (.int .u8 v1) ∧ W.cell? (adr A3 q) = some (.int .u8 v2)) ((refine HC.out _ ?_; repeat (first | with_reducible assumption | with_reducible refine bal ?_ _ | with_reducible refine Below.drew ?_)))
            (first
              | (refine step_of rfl ?_
                 refine TR.app (us := [v1]) (.tmp 99) (.tmp 107) rfl rfl rfl (by first | ((repeat (first | with_reducible assumption | with_reducible apply TR.alloc | with_reducible apply TR.drew)); done) | (apply TR.swap; (repeat (first | with_reducible assumption | with_reducible apply TR.alloc | with_reducible apply TR.drew)); done)) ?_ ?_ ?_ ?_
                 · refine rd_lit1 ?_
                   repeat (first | ((with_reducible refine heap_new' ?_); focus (simp; done)) | (with_reducible refine heap_drew' ?_) | (with_reducible refine heap_old' ?_) | (with_reducible refine hkB _ _ ?_ ?_))
                   all_goals (intro h9; have h8 := hBlt h9; simp at *; omega)
                 · decide
                 · omega
                 intro gA cA WA hTA hkA
                 have hbA := hTA.bl)
              | (refine step_of rfl ?_
                 refine TR.app (us := [v2]) (.tmp 109) (.tmp 117) rfl rfl rfl (by first | ((repeat (first | with_reducible assumption | with_reducible apply TR.alloc | with_reducible apply TR.drew)); done) | (apply TR.swap; (repeat (first | with_reducible assumption | with_reducible apply TR.alloc | with_reducible apply TR.drew)); done)) ?_ ?_ ?_ ?_
                 · refine rd_lit1 ?_
                   repeat (first | ((with_reducible refine heap_new' ?_); focus (simp; done)) | (with_reducible refine heap_drew' ?_) | (with_reducible refine heap_old' ?_) | (with_reducible refine hkA _ _ ?_ ?_))
                   all_goals (intro h9; have h8 := hAlt h9; simp at *; omega)
                 · decide
                 · omega
                 intro gB cB WB hTB hkB
                 have hbB := hTB.bl))
          all_goals
            have HT2 : Hid (HoldC w7 (j + 1) (xs1 ++ [v1]) (ys1 ++ [v2]) (.slice (some ⟨gA, 0, none⟩) (j + 1) cA) (.slice (some ⟨gB, 0, none⟩) (j + 1) cB) _) := Lib.hid ⟨_, _, _, _, rfl, rfl, by first | exact hTA | exact hTB | exact hTA.swap | exact hTB.swap⟩
            clear hT hTA hTB hix1 hix2 hix3 hix4 hAlt hBlt hbT hkA hkB hbA hbB
            go_wp2
            go_roundw
            case rel =>
              obtain ⟨A2, B2, c2, d2, e1, e2, hT2⟩ := HT2.out
              cases e1
              cases e2
              exact ⟨j + 1, _, _, _, _, by omega, by go_num, rfl, rfl, by rw [← HXS.out, ← HYS.out]; exact hT2⟩
            case measure => simp [intOf]; omega
        · obtain rfl : j = k + 3 := by omega
          have HW2 := Lib.hid (Rdv.below HW.out hT.bl)
          have HB9 := Lib.hid (bnext2 HB8.out hT.bl)
          have HBQ := Lib.hid (HBQ.out.trans (hT.bl.mono HBQ.out.size))
          obtain ⟨S, hS⟩ : ∃ S, S = selB (wrd X) (sysL k code) := ⟨_, rfl⟩
          obtain ⟨P, hPP⟩ : ∃ P, P = selB (wrd X) (parI k code) := ⟨_, rfl⟩
          rw [List.take_of_length_le (by rw [sysL_len]; exact Nat.le_refl _), List.take_of_length_le (by rw [parI_len]; exact Nat.le_refl _), ← hS, ← hPP] at hT
          have HGOT := Lib.hid (HGW.out code S P h12 hS hPP)
          have HIL : Hid ((inC X code).length = k) := Lib.hid (by rw [inC_len, HP.out])
          have hrA := Own.rd hT.a
          have hrB := Own.rd hT.b
          clear hS hPP hT hlj hj
          have hcA := Rdv.le hrA
          have hcB := Rdv.le hrB
          have hslA := fun W => Rdv.slh hrA el22 .i64 (m := k) (by omega) W
          have hslB := fun W => Rdv.slh hrB el22 .i64 (m := k) (by omega) W
          have htlA : ∀ W, (Instr.sliceAt 22 (.slice A1 (k + 3) c1) (some (.int .i64 (k : Int))) none none).run Try.prog W = .ok (.slice (cut A1 c1 k) 3 (c1 - k)) W := fun W => by
            have := Rdv.sll hrA el22 .i64 (l := k) (by omega) W
            rwa [Nat.add_sub_cancel_left] at this
          have htlB : ∀ W, (Instr.sliceAt 22 (.slice B1 (k + 3) d1) (some (.int .i64 (k : Int))) none none).run Try.prog W = .ok (.slice (cut B1 d1 k) 3 (d1 - k)) W := fun W => by
            have := Rdv.sll hrB el22 .i64 (l := k) (by omega) W
            rwa [Nat.add_sub_cancel_left] at this
          have HSA : Hid (∀ W : World, Below wo.heap.size wo W → Rd .u8 W A1 k c1 ((S.map ib).take k)) := Lib.hid fun W hB => Rd.upto (Rdv.below hrA hB) (by omega)
          have HSB : Hid (∀ W : World, Below wo.heap.size wo W → Rd .u8 W B1 k d1 ((P.map ib).take k)) := Lib.hid fun W hB => Rd.upto (Rdv.below hrB hB) (by omega)
          have HTA : Hid (∀ W : World, Below wo.heap.size wo W → Rd .u8 W (cut A1 c1 k) 3 (c1 - k) ((S.map ib).drop k)) := Lib.hid fun W hB => by
            have := rd_from (Rdv.below hrA hB) (l := k) (by omega)
            rwa [Nat.add_sub_cancel_left] at this
          have HTB : Hid (∀ W : World, Below wo.heap.size wo W → Rd .u8 W (cut B1 d1 k) 3 (d1 - k) ((P.map ib).drop k)) := Lib.hid fun W hB => by
            have := rd_from (Rdv.below hrB hB) (l := k) (by omega)
            rwa [Nat.add_sub_cancel_left] at this
          have HGL : Hid (((S.map ib).take k ++ (P.map ib).take k) ++ ((S.map ib).drop k ++ (P.map ib).drop k) = (wordC (inC X code)).map ib ∧ (S.map ib).take k = (inC X code).map ib) := Lib.hid (by
            have h9 := HGOT.out
            rw [← h9.2, ← h9.1]
            simp only [List.map_append, List.map_take, List.map_drop, and_self])
          clear hrA hrB HGOT
          generalize (S.map ib).take k = sa at *
          generalize (P.map ib).take k = sb at *
          generalize (S.map ib).drop k = ta at *
          generalize (P.map ib).drop k = tb at *
          have hbT := Below.refl wo.heap.size wo
          have hT0 := TR.nil wo
          go_wp2_with fail
          go_cut [18] (fun v wx => GotP wo (k + k + (3 + 3)) ((sa ++ sb) ++ (ta ++ tb)) v wx)
          case first =>
            go_region_held3 (fun _ => True) (exact trivial)
              (first
                | (refine step_of rfl ?_
                   refine TR.app0 (us := sa) (.tmp 119) (.tmp 122) rfl rfl rfl (by first | ((repeat (first | with_reducible assumption | with_reducible apply TR.alloc | with_reducible apply TR.drew)); done) | (apply TR.swap; ((repeat (first | with_reducible assumption | with_reducible apply TR.alloc | with_reducible apply TR.drew)); done))) ?_ ?_ ?_ ?_
                   · refine HSA.out _ ?_
                     repeat (first | with_reducible assumption | with_reducible refine bal ?_ _ | with_reducible refine Below.drew ?_)
                   · omega
                   · omega
                   intro g1 k1 W1 hT1
                   have hb1 := hT1.bl)
                | (refine step_of rfl ?_
                   refine TR.app0 (us := ta) (.tmp 128) (.tmp 131) rfl rfl rfl (by first | ((repeat (first | with_reducible assumption | with_reducible apply TR.alloc | with_reducible apply TR.drew)); done) | (apply TR.swap; ((repeat (first | with_reducible assumption | with_reducible apply TR.alloc | with_reducible apply TR.drew)); done))) ?_ ?_ ?_ ?_
                   · refine HTA.out _ ?_
                     repeat (first | with_reducible assumption | with_reducible refine bal ?_ _ | with_reducible refine Below.drew ?_)
                   · omega
                   · omega
                   intro g3 k3 W3 hT3
                   have hb3 := hT3.bl)
                | (refine step_of rfl ?_
                   refine TR.app (us := sb) (.tmp 123) (.tmp 126) rfl rfl rfl (by first | ((repeat (first | with_reducible assumption | with_reducible apply TR.alloc | with_reducible apply TR.drew)); done) | (apply TR.swap; ((repeat (first | with_reducible assumption | with_reducible apply TR.alloc | with_reducible apply TR.drew)); done))) ?_ ?_ ?_ ?_
                   · refine HSB.out _ ?_
                     repeat (first | with_reducible assumption | with_reducible refine bal ?_ _ | with_reducible refine Below.drew ?_)
                   · omega
                   · omega
                   intro g2 k2 W2 hT2 hk2
                   have hb2 := hT2.bl)
                | (refine step_of rfl ?_
                   refine TR.app (us := tb) (.tmp 132) (.tmp 135) rfl rfl rfl (by first | ((repeat (first | with_reducible assumption | with_reducible apply TR.alloc | with_reducible apply TR.drew)); done) | (apply TR.swap; ((repeat (first | with_reducible assumption | with_reducible apply TR.alloc | with_reducible apply TR.drew)); done))) ?_ ?_ ?_ ?_
                   · refine HTB.out _ ?_
                     repeat (first | with_reducible assumption | with_reducible refine bal ?_ _ | with_reducible refine Below.drew ?_)
                   · omega
                   · omega
                   intro g4 k4 W4 hT4 hk4
                   have hb4 := hT4.bl)
                | (refine step_of rfl ?_
                   refine TR.app (us := ta ++ tb) (.tmp 127) (.tmp 136) rfl rfl rfl (by first | ((repeat (first | with_reducible assumption | with_reducible apply TR.alloc | with_reducible apply TR.drew)); done) | (apply TR.swap; ((repeat (first | with_reducible assumption | with_reducible apply TR.alloc | with_reducible apply TR.drew)); done))) ?_ ?_ ?_ ?_
                   · first | exact Own.rd hT2.b | exact Own.rd hT4.b | exact Own.rd hT2.a | exact Own.rd hT4.a
                   · omega
                   · omega
                   intro g5 k5 W5 hT5 hk5))
            all_goals (go_wp2_with fail; go_meet; exact ⟨_, _, rfl, hT5.a, hT5.bl⟩)
          case rest =>
            obtain ⟨AG, cG, rfl, hOG, hBG⟩ := hcut
            have HOG := Lib.hid (Own.rd hOG)
            have HBG := Lib.hid hBG
            clear hOG hBG hbT hT0
            have hslA := fun W => hslA W
            go_wp2_with fail
            have HW5 := Lib.hid (HSA.out _ HBG.out)
            rw [HGL.out.2] at HW5
            refine (rword_any A1 k c1 (inC X code) _ HW5.out (by omega) (by omega)).mono ?_
            rintro e w10 ⟨BW, dW, rfl, hBW, hB10⟩
            have HOG := Lib.hid (Rdv.below HOG.out hB10)
            rw [HGL.out.1] at HOG
            have HBW := Lib.hid (Own.rd hBW)
            have HBE := Lib.hid (HBQ.out.trans ((HBG.out.trans (hB10.mono HBG.out.size)).mono HBQ.out.size))
            clear hBW hB10
            go_wp2_with fail
            refine (same_any AG BW _ cG _ dW _ _ _ HOG.out HBW.out (ib_wf _) (ib_wf _)).mono ?_
            rintro e w' ⟨rfl, rfl⟩
            rw [show decide ((wordC (inC X code)).map ib = (wordC (inC X code)).map ib) = true from by simp]
            clear hslA hslB htlA htlB
            go_wp2
            go_roundw
            case rel => exact ⟨rfl, code + 1, by omega, by omega, by go_num, HBE.out⟩
            case measure => simp [intOf]; omega
    · obtain rfl : code = 3 := by omega
      go_wp2_with fail
      refine (works_any _).mono ?_
      rintro e w9 ⟨rfl, hB9⟩
      have HB9 := Lib.hid (bnext2 (HB7.out.trans (HBR.out.mono HB7.out.size)) hB9)
      clear hB9
      go_wp2
      go_ret
      exact ⟨rfl, HB9.out⟩

set_option maxRecDepth 100000 in
theorem lifted (os : Os) (started : os.Started) (H : Type) (enc : TypeId × Value → H) :
    ReturnsInHanded {} Try.checked os 9 .any (Rows.turboHoldsSpec.pre6 enc Try.prog Try.f9 Rows.turboHoldsRow.domain false) (Rows.turboHoldsSpec.post enc Try.prog Try.f9 false true false false) := by
  refine returnsInHanded_of_change (C := Try.checked) own started (by kernel_rfl) Try.func9
    (ChangeSpec.witness6 (enc := enc) (C := Try.checked) false ⟨#[], #[.slice none 0 0, .int .u8 0], []⟩ 8 (by kernel_rfl) (by kernel_rfl) (by kernel_rfl) (by kernel_rfl)) ?_
  intro W base args ds gs before hval0 hW hcnd _
  have hval : ∀ (j : Nat) t v, Try.f9.params[j]? = some t → args[j]? = some v → Value.okWide Try.prog W .any base t v := hval0
  have hW' := hW
  obtain ⟨p, q, hA0, hV, rfl, hfz, hnd⟩ := hW
  have hA : DataW.TrodAll enc Try.prog W 0 (fun _ => true) true Try.f9.params.toList args.toList ds p := hA0
  rw [Try.params9] at hA hval
  obtain ⟨v0, vs0, d0, ds0, p0, q0, hargs, rfl, rfl, h0, r0⟩ := trodAll_cons hA
  obtain ⟨v1, vs1, d1, ds1, p1, q1, rfl, rfl, rfl, h1, r1⟩ := trodAll_cons r0
  obtain ⟨rfl, rfl, rfl⟩ := trodAll_nil r1
  obtain rfl : args = #[v0, v1] := by cases args; simp_all
  obtain ⟨rfl, rfl⟩ := trodVars_none hV
  obtain ⟨a0, len0, cap0, rfl⟩ := okWide_slice Try.underlying22 (hval 0 22 v0 rfl rfl)
  have k0 := h0
  have lt0 : ∀ x ∈ p0, x.block < W.heap.size := by obtain ⟨m, hm⟩ := k0; exact DataW.trod_lt m _ _ _ hm
  obtain ⟨z0, w0⟩ : ∃ zs, IsRow .u8 W a0 len0 cap0 zs := by
    obtain ⟨fuel, hf⟩ := h0
    rcases open_ints Try.underlying22 Try.underlying5 (by kernel_rfl) hf with ⟨hcs, _⟩ | ⟨x, l, c, zs, hcs, _, hl, hm, hz, _, hcell, hwz⟩
    · simp [Value.cells] at hcs
      obtain ⟨rfl, rfl, rfl⟩ := hcs
      exact ⟨[], .inl ⟨rfl, rfl, rfl, rfl⟩⟩
    · simp [Value.cells] at hcs
      obtain ⟨rfl, rfl, rfl⟩ := hcs
      exact ⟨zs, .inr ⟨_, rfl, hl, hm, by simpa using hz, hcell, hwz⟩⟩
  obtain ⟨a1, rfl, rfl, rfl, w1⟩ := open_int Try.underlying5 (hval 1 5 v1 rfl rfl) h1
  clear hA0 hval0
  refine (walk a0 len0 cap0 z0 a1 W w0 w1).mono fun e W' ⟨he, bel⟩ => ?_
  subst he
  exact ⟨_, rfl, _, _, _, [], _, [], hW', trodAll_mk1 (shut_bool Try.underlying4 _), (trodAll_cons_mk (Below.trod laidOut (by kernel_rfl) (of_decide_eq_true (by kernel_rfl)) k0 bel lt0) (trodAll_cons_mk (shut_int Try.underlying5 w1) trodAll_mk0)), rfl, bel.frame _, fun h => by cases h⟩

theorem over : Rows.turboHoldsRow.holds Try.pinned (OpenSpec.ofChange Rows.turboHoldsSpec) :=
  OpenClaim.holds_of_wide 9 Try.f9 rfl rfl rfl rfl rfl rfl rfl ⟨rfl, rfl, rfl, rfl, rfl⟩ rfl rfl rfl rfl rfl (by kernel_rfl) Try.func9 (by kernel_rfl)
    (of_decide_eq_true (by kernel_rfl)) (by unfold Func.isWrapper; first | (rw [if_pos (by decide +kernel)]; kernel_rfl) | (rw [if_neg (by decide +kernel)]; exact ⟨rfl, rfl⟩))
    (fun os started H enc _ => lifted os started H enc)

theorem proved : Rows.TurboHoldsSaid := over
#print axioms proved
end Go.Proofs.Ytkagdiejpcfggaa.turboHolds
