/-
  Bundle of the texts Ce. Conditions: none.
-/
import Derived.Test.YtpdalbckmfadbaaGreatBuhaf
import Derived.Test.YtpdalbckmfadbaaGreatBuhah
namespace Go.Proofs.YtpdalbckmfadbaaGreat
open Go.RowKit
set_option linter.unusedVariables false
def SweepsPost (o : Ob) (w : World) (e : Ending) (w' : World) : Prop := ∃ bf bg, e = .returned (.tuple #[.slice (some ⟨bf, 0, none⟩) (o.s.length + 1) (o.s.length + 1), .slice (some ⟨bg, 0, none⟩) (o.s.length + 1) (o.s.length + 1)]) ∧ Mt w' bf (o.s.length + 1) o.f ∧ Mt w' bg (o.s.length + 1) o.b ∧ w.heap.size ≤ bf ∧ w.heap.size ≤ bg ∧ Below w.heap.size w w'
theorem ix72 (b N : Nat) {j : Nat} (hj : j < N) (J : Int) (hJ : J = (j : Int)) (W : World) : (Instr.indexAt 155 (.slice (some ⟨b, 0, none⟩) N N) (.int .i64 J)).run Tryz.prog W = .ok (.pointer (some ⟨b, 8 * j, none⟩)) W := by
  subst hJ; exact ixR er65 b N N hj .i64 W
def bH (o : Ob) (j q : Nat) : List Int := if j = 0 then o.b q else bI o (j - 1) 0 q
theorem brR_get (k : Nat) (hk : k < 16) : (brR 16)[k]? = some (brV (brN k)) := by
  rcases (by omega : k = 0 ∨ k = 1 ∨ k = 2 ∨ k = 3 ∨ k = 4 ∨ k = 5 ∨ k = 6 ∨ k = 7 ∨ k = 8 ∨ k = 9 ∨ k = 10 ∨ k = 11 ∨ k = 12 ∨ k = 13 ∨ k = 14 ∨ k = 15) with rfl | rfl | rfl | rfl | rfl | rfl | rfl | rfl | rfl | rfl | rfl | rfl | rfl | rfl | rfl | rfl <;> rfl
set_option maxRecDepth 100000 in
set_option maxHeartbeats 4000000 in
theorem sweeps_any (S P A : Option Addr) (cs cp ca : Nat) (o : Ob) (w : World) (h : In3 w o S P A cs cp ca) (ho : o.ok) :
    Calls Tryz.prog 102 #[.slice S o.s.length cs, .slice P o.p.length cp, .slice A o.a.length ca] w (SweepsPost o w) := by
  have HO := Lib.hid ho
  have HIN := Lib.hid h
  have HL := Lib.hid (show o.s.length = o.a.length + 3 ∧ o.a.length ≤ 6144 ∧ o.p.length = o.s.length from ⟨ho.2.2.1, ho.2.1, by rw [ho.2.2.1]; exact ho.2.2.2.1⟩)
  have hn : o.s.length ≤ 6147 := by have := HL.out; omega
  have hn2 : o.a.length ≤ 6144 := HL.out.2.1
  have hn3 : 3 < o.s.length := by have := HL.out; have := HO.out.1; omega
  clear h ho
  go_enter Tryz.func102, Tryz.ntmps102
  go_wp2_with fail
  refine (rbranches_any _).mono ?_
  rintro e w1 ⟨A0, cap, rfl, hR, hB1⟩
  obtain ⟨bA, rfl⟩ : ∃ b, A0 = some ⟨b, 0, none⟩ := ⟨_, hR.ptr (by rw [brR_len 16 (by omega)]; omega)⟩
  have HR := Lib.hid hR
  have HB1 := Lib.hid hB1
  clear hR hB1
  go_upto_region 3 with fail
  go_cut [10, 11] from 23 to 28 (fun v10 v11 wx => ∃ bf bg, v10 = .slice (some ⟨bf, 0, none⟩) (o.s.length + 1) (o.s.length + 1) ∧ v11 = .slice (some ⟨bg, 0, none⟩) (o.s.length + 1) (o.s.length + 1) ∧ SwS w bf bg bA ∧ Sw w bf bg (o.s.length + 1) bA cap wx (initF 0 0) (initF 0 0))
  case first =>
    refine P_start (fun _ => True) 2 8 #[false, false, false, false, false, false, false, false] (by kernel_rfl) (by kernel_rfl) (by kernel_rfl) ?_
    have v1 : IntKind.i64.wrap ((o.s.length : Int) + 1) = (o.s.length : Int) + 1 := IntWalk.i64_in _ (by omega)
    refine P_w 0 23 (.int .i64 (o.s.length : Int)) #[true, false, false, false, false, false, false, false] rfl trivial ?_
    simp only [y0, y1, y2]
    refine P_w 1 24 (.int .i64 ((o.s.length : Int) + 1)) #[true, true, false, false, false, false, false, false] rfl trivial ?_
    simp only [y0, y1, y2]
    refine P_w 3 26 (.int .i64 (o.s.length : Int)) #[true, true, false, true, false, false, false, false] rfl trivial ?_
    simp only [y0, y1, y2]
    refine P_w 4 27 (.int .i64 ((o.s.length : Int) + 1)) #[true, true, false, true, true, false, false, false] rfl trivial ?_
    simp only [y0, y1, y2]
    refine P_two 2 5 #[true, true, true, true, true, false, false, false] #[true, true, false, true, true, true, false, false] rfl rfl (by kernel_rfl) (by kernel_rfl) (by kernel_rfl) rfl rfl (fun _ => trivial) (fun K hK => ?_) (fun K hK => ?_)
    · refine wp_mkR (n := o.s.length + 1) 25 (.tmp 24) (.tmp 24) 155 rfl rfl er65 rfl rfl rfl (by omega) (by unfold maxLen; omega) ?_
      intro x1 _ m1 z1 b1
      have Z1 := Lib.hid z1
      clear z1
      refine hK _ _ ?_
      clear hK K
      simp only [y0, y1, y2]
      refine P_w 6 10 (.slice (some ⟨w1.drew.heap.size, 0, none⟩) (o.s.length + 1) (o.s.length + 1)) #[true, true, true, true, true, false, true, false] rfl trivial ?_
      simp only [y0, y1, y2]
      refine P_one 5 #[true, true, true, true, true, true, true, false] rfl (by kernel_rfl) (by kernel_rfl) rfl (by kernel_rfl) (fun K hK => ?_)
      refine wp_mkR (n := o.s.length + 1) 28 (.tmp 27) (.tmp 27) 155 rfl rfl er65 rfl rfl rfl (by omega) (by unfold maxLen; omega) ?_
      intro x2 _ m2 z2 b2
      have Z2 := Lib.hid z2
      clear z2
      refine hK _ _ ?_
      clear hK K
      simp only [y0, y1, y2]
      refine P_w 7 11 (.slice (some ⟨x1.heap.size, 0, none⟩) (o.s.length + 1) (o.s.length + 1)) #[true, true, true, true, true, true, true, true] rfl trivial ?_
      simp only [y0, y1, y2]
      refine P_done (by kernel_rfl) ?_ _
      go_wp2
      have hbl : Below w.heap.size w x2 := HB1.out.trans (((Below.refl _ w1).drew.trans (b1.trans (b2.mono b1.size))).mono HB1.out.size)
      have hge : w.heap.size ≤ w1.drew.heap.size := HB1.out.size
      have hlA : bA < w1.drew.heap.size := (HR.out.ge (by simp)).2
      have hrx : Rw 161 4 x2 w.heap.size (some ⟨bA, 0, none⟩) cap (brR 16) := HR.out.below ((Below.refl _ w1).drew.trans (b1.trans (b2.mono b1.size)))
      go_meet
      case rel =>
        have zz : x1.heap.size = w1.drew.heap.size + 1 := Z1.out
        exact ⟨w1.drew.heap.size, x1.heap.size, rfl, rfl, ⟨by omega, by omega, by omega, by omega, by omega⟩, by rw [initF_zero]; exact ⟨Mt.new (m1.below b2), Mt.new m2, hrx, hbl⟩⟩
    · refine wp_mkR (n := o.s.length + 1) 28 (.tmp 27) (.tmp 27) 155 rfl rfl er65 rfl rfl rfl (by omega) (by unfold maxLen; omega) ?_
      intro x1 _ m1 z1 b1
      have Z1 := Lib.hid z1
      clear z1
      refine hK _ _ ?_
      clear hK K
      simp only [y0, y1, y2]
      refine P_one 2 #[true, true, true, true, true, true, false, false] rfl (by kernel_rfl) (by kernel_rfl) rfl (by kernel_rfl) (fun K hK => ?_)
      refine wp_mkR (n := o.s.length + 1) 25 (.tmp 24) (.tmp 24) 155 rfl rfl er65 rfl rfl rfl (by omega) (by unfold maxLen; omega) ?_
      intro x2 _ m2 z2 b2
      have Z2 := Lib.hid z2
      clear z2
      refine hK _ _ ?_
      clear hK K
      simp only [y0, y1, y2]
      refine P_w 6 10 (.slice (some ⟨x1.heap.size, 0, none⟩) (o.s.length + 1) (o.s.length + 1)) #[true, true, true, true, true, true, true, false] rfl trivial ?_
      simp only [y0, y1, y2]
      refine P_w 7 11 (.slice (some ⟨w1.drew.heap.size, 0, none⟩) (o.s.length + 1) (o.s.length + 1)) #[true, true, true, true, true, true, true, true] rfl trivial ?_
      simp only [y0, y1, y2]
      refine P_done (by kernel_rfl) ?_ _
      go_wp2
      have hbl : Below w.heap.size w x2 := HB1.out.trans (((Below.refl _ w1).drew.trans (b1.trans (b2.mono b1.size))).mono HB1.out.size)
      have hge : w.heap.size ≤ w1.drew.heap.size := HB1.out.size
      have hlA : bA < w1.drew.heap.size := (HR.out.ge (by simp)).2
      have hrx : Rw 161 4 x2 w.heap.size (some ⟨bA, 0, none⟩) cap (brR 16) := HR.out.below ((Below.refl _ w1).drew.trans (b1.trans (b2.mono b1.size)))
      go_meet
      case rel =>
        have zz : x1.heap.size = w1.drew.heap.size + 1 := Z1.out
        exact ⟨x1.heap.size, w1.drew.heap.size, rfl, rfl, ⟨by omega, by omega, by omega, by omega, by omega⟩, by rw [initF_zero]; exact ⟨Mt.new m2, Mt.new (m1.below b2), hrx, hbl⟩⟩
  case rest =>
    obtain ⟨bf, bg, rfl, rfl, hs, hsw⟩ := hcut
    have HSS := Lib.hid hs
    have HSW := Lib.hid hsw
    have HBL := Lib.hid (brR_len 16 (by omega))
    clear hs hsw
    go_wp2_with fail
    go_loopw [12] (fun v wr => ∃ i : Nat, i ≤ o.s.length + 1 ∧ v = .int .i64 i ∧ Sw w bf bg (o.s.length + 1) bA cap wr (initF i 0) (initF i 0)) (fun v _ => o.s.length + 1 - (intOf v).toNat)
    case atStart => exact ⟨0, by omega, rfl, HSW.out⟩
    case round =>
      obtain ⟨i, hi, rfl, hw⟩ := hrel
      by_cases hlt : i ≤ o.s.length
      · obtain ⟨wo, rfl⟩ : ∃ wo : World, wo = wr := ⟨_, rfl⟩
        have hd : decide ((i : Int) ≤ (o.s.length : Int)) = true := by simp; omega
        have HW := Lib.hid hw
        clear hw
        go_wp2_with fail
        go_loopw [13] (fun v wr => ∃ k : Nat, k ≤ 8 ∧ v = .int .i64 k ∧ Sw w bf bg (o.s.length + 1) bA cap wr (initF i k) (initF i k)) (fun v _ => 8 - (intOf v).toNat)
        case atStart => exact ⟨0, by omega, rfl, HW.out⟩
        case round =>
          obtain ⟨k, hk, rfl, hw⟩ := hrel
          by_cases hk8 : k < 8
          · have hix1 := fun W => ix72 bf (o.s.length + 1) (j := i) (by omega) i rfl W
            have hix2 := fun W => ix72 bg (o.s.length + 1) (j := i) (by omega) i rfl W
            have HIS := Lib.hid (initF_set i k hk8)
            have HW2 := Lib.hid hw
            clear hw
            go_wp2_with fail
            refine P_start (fun _ => True) 8 12 #[false, false, false, false, false, false, false, false, false, false, false, false] (by kernel_rfl) (by kernel_rfl) (by kernel_rfl) ?_
            have HD := Lib.hid (HW2.out.call (Below.refl _ wr).drew)
            clear HW2
            generalize wr.drew = wd at HD ⊢
            have hc1 := HD.out.f.cell (i := i) (k := k) (by omega) hk8
            have hf1 := HD.out.f.blk.frozen (8 * i + k)
            refine P_w 0 38 (.slice (some ⟨bf, 0, none⟩) (o.s.length + 1) (o.s.length + 1)) #[true, false, false, false, false, false, false, false, false, false, false, false] rfl trivial ?_
            simp only [y0, y1, y2]
            refine P_w 1 39 (.int .i64 (i : Int)) #[true, true, false, false, false, false, false, false, false, false, false, false] rfl trivial ?_
            simp only [y0, y1, y2]
            refine P_w 2 40 (.int .i64 (k : Int)) #[true, true, true, false, false, false, false, false, false, false, false, false] rfl trivial ?_
            simp only [y0, y1, y2]
            refine P_w 3 41 (.slice (some ⟨bg, 0, none⟩) (o.s.length + 1) (o.s.length + 1)) #[true, true, true, true, false, false, false, false, false, false, false, false] rfl trivial ?_
            simp only [y0, y1, y2]
            refine P_w 4 42 (.int .i64 (i : Int)) #[true, true, true, true, true, false, false, false, false, false, false, false] rfl trivial ?_
            simp only [y0, y1, y2]
            refine P_w 5 43 (.int .i64 (k : Int)) #[true, true, true, true, true, true, false, false, false, false, false, false] rfl trivial ?_
            simp only [y0, y1, y2]
            refine P_w 6 44 (.pointer (some ⟨bf, 8 * i, none⟩)) #[true, true, true, true, true, true, true, false, false, false, false, false] rfl trivial ?_
            simp only [y0, y1, y2]
            refine P_takeW 7 45 (.pointer (some ⟨bf, 8 * i + k, none⟩)) #[true, true, true, true, true, true, true, true, false, false, false, false] rfl rfl (by kernel_rfl) (by kernel_rfl) (by kernel_rfl) (by kernel_rfl) (by decide) (fun _ _ _ h => h) (Or.inl ⟨by rfl, fun W hS => by go_simp <;> (intro h9; omega)⟩) trivial ?_
            simp only [y0, y1, y2]
            refine P_w 9 46 (.pointer (some ⟨bg, 8 * i, none⟩)) #[true, true, true, true, true, true, true, true, false, true, false, false] rfl trivial ?_
            simp only [y0, y1, y2]
            refine P_one 8 #[true, true, true, true, true, true, true, true, true, true, false, false] rfl (by kernel_rfl) (by kernel_rfl) rfl (by kernel_rfl) (fun K hK => ?_)
            go_simp
            have HF := Lib.hid (HD.out.setF HSS.out (i := i) (k := k) (by omega) hk8 UU)
            rw [show (-1125899906842624 : Int) = UU from rfl]
            generalize wd.setCell ⟨bf, 8 * i + k, none⟩ (.int .i64 UU) = wx at HF ⊢
            clear hc1 hf1
            have hc2 := HF.out.g.cell (i := i) (k := k) (by omega) hk8
            have hf2 := HF.out.g.blk.frozen (8 * i + k)
            have HG := Lib.hid (HF.out.setG HSS.out (i := i) (k := k) (by omega) hk8 UU)
            refine hK _ _ ?_
            clear hK K
            refine P_takeW 10 47 (.pointer (some ⟨bg, 8 * i + k, none⟩)) #[true, true, true, true, true, true, true, true, true, true, true, false] rfl rfl (by kernel_rfl) (by kernel_rfl) (by kernel_rfl) (by kernel_rfl) (by decide) (fun _ _ _ h => h) (Or.inl ⟨by rfl, fun W hS => by go_simp <;> (intro h9; omega)⟩) trivial ?_
            simp only [y0, y1, y2]
            refine P_one 11 #[true, true, true, true, true, true, true, true, true, true, true, true] rfl (by kernel_rfl) (by kernel_rfl) rfl (by kernel_rfl) (fun K hK => ?_)
            go_simp
            refine hK _ _ ?_
            clear hK K
            refine P_done (by kernel_rfl) ?_ _
            go_wp2
            go_roundw
            case rel => exact ⟨k + 1, by omega, by go_num, by rw [← HIS.out]; exact HG.out⟩
            case measure => simp [intOf]; omega
          · obtain rfl : k = 8 := by omega
            have HW2 := Lib.hid hw
            have HIN2 := Lib.hid (initF_next i)
            clear hw
            go_wp2
            go_roundw
            case rel => exact ⟨i + 1, by omega, by go_num, by rw [← HIN2.out]; exact HW2.out⟩
            case measure => simp [intOf]; omega
      · obtain rfl : i = o.s.length + 1 := by omega
        have HW := Lib.hid hw
        clear hw
        have hd0 : decide ((o.s.length : Int) + 1 ≤ (o.s.length : Int)) = false := by simp; omega
        go_wp2_with fail
        clear hd0
        have HW0 : Hid (Sw w bf bg (o.s.length + 1) bA cap wr (fun _ => noneL) (fun _ => noneL)) := Lib.hid (HW.out.congr (fun q hq => by unfold initF; rw [if_pos hq]) (fun q hq => by unfold initF; rw [if_pos hq]))
        have hix1 : ∀ W, (Instr.indexAt 155 (.slice (some ⟨bf, 0, none⟩) (o.s.length + 1) (o.s.length + 1)) (.int .i64 0)).run Tryz.prog W = .ok (.pointer (some ⟨bf, 0, none⟩)) W := fun W => ix72 bf (o.s.length + 1) (j := 0) (by omega) 0 rfl W
        have hix2 := fun W => ix72 bg (o.s.length + 1) (j := o.s.length) (by omega) _ rfl W
        clear HW
        refine P_start (fun _ => True) 5 9 #[false, false, false, false, false, false, false, false, false] (by kernel_rfl) (by kernel_rfl) (by kernel_rfl) ?_
        have HD := Lib.hid (HW0.out.call (Below.refl _ wr).drew)
        clear HW0
        generalize wr.drew = wd at HD ⊢
        have hc1 : wd.cell? ⟨bf, 0, none⟩ = some (.int .i64 (gi noneL 0)) := HD.out.f.cell (i := 0) (k := 0) (by omega) (by omega)
        have hf1 : wd.frozen? ⟨bf, 0, none⟩ = false := HD.out.f.blk.frozen 0
        refine P_w 0 48 (.slice (some ⟨bf, 0, none⟩) (o.s.length + 1) (o.s.length + 1)) #[true, false, false, false, false, false, false, false, false] rfl trivial ?_
        simp only [y0, y1, y2]
        refine P_w 1 49 (.slice (some ⟨bg, 0, none⟩) (o.s.length + 1) (o.s.length + 1)) #[true, true, false, false, false, false, false, false, false] rfl trivial ?_
        simp only [y0, y1, y2]
        refine P_w 2 50 (.int .i64 (o.s.length : Int)) #[true, true, true, false, false, false, false, false, false] rfl trivial ?_
        simp only [y0, y1, y2]
        refine P_w 3 51 (.pointer (some ⟨bf, 0, none⟩)) #[true, true, true, true, false, false, false, false, false] rfl trivial ?_
        simp only [y0, y1, y2]
        refine P_w 4 52 (.pointer (some ⟨bf, 0, none⟩)) #[true, true, true, true, true, false, false, false, false] rfl trivial ?_
        simp only [y0, y1, y2]
        refine P_w 6 53 (.pointer (some ⟨bg, 8 * o.s.length, none⟩)) #[true, true, true, true, true, false, true, false, false] rfl trivial ?_
        simp only [y0, y1, y2]
        refine P_one 5 #[true, true, true, true, true, true, true, false, false] rfl (by kernel_rfl) (by kernel_rfl) rfl (by kernel_rfl) (fun K hK => ?_)
        go_simp
        have HF := Lib.hid (show Sw w bf bg (o.s.length + 1) bA cap (wd.setCell ⟨bf, 0, none⟩ (.int .i64 0)) (updM (fun _ => noneL) 0 0 0) (fun _ => noneL) from HD.out.setF HSS.out (i := 0) (k := 0) (by omega) (by omega) 0)
        generalize wd.setCell ⟨bf, 0, none⟩ (.int .i64 0) = wx at HF ⊢
        clear hc1 hf1
        have hc2 : wx.cell? ⟨bg, 8 * o.s.length, none⟩ = some (.int .i64 (gi noneL 0)) := HF.out.g.cell (i := o.s.length) (k := 0) (by omega) (by omega)
        have hf2 := HF.out.g.blk.frozen (8 * o.s.length)
        have HG := Lib.hid (show Sw w bf bg (o.s.length + 1) bA cap (wx.setCell ⟨bg, 8 * o.s.length, none⟩ (.int .i64 0)) (updM (fun _ => noneL) 0 0 0) (updM (fun _ => noneL) o.s.length 0 0) from HF.out.setG HSS.out (i := o.s.length) (k := 0) (by omega) (by omega) 0)
        refine hK _ _ ?_
        clear hK K
        refine P_w 7 54 (.pointer (some ⟨bg, 8 * o.s.length, none⟩)) #[true, true, true, true, true, true, true, true, false] rfl trivial ?_
        simp only [y0, y1, y2]
        refine P_one 8 #[true, true, true, true, true, true, true, true, true] rfl (by kernel_rfl) (by kernel_rfl) rfl (by kernel_rfl) (fun K hK => ?_)
        go_simp
        refine hK _ _ ?_
        clear hK K
        refine P_done (by kernel_rfl) ?_ _
        obtain ⟨G0, hG0⟩ : ∃ G0, G0 = bI o (o.s.length - 1) 0 := ⟨_, rfl⟩
        have HG0 := Lib.hid hG0
        have HG2 : Hid (Sw w bf bg (o.s.length + 1) bA cap (wx.setCell ⟨bg, 8 * o.s.length, none⟩ (.int .i64 0)) (fI o 0 0) G0) := Lib.hid (HG.out.congr (fun q _ => fI_start o q) (fun q hq => by rw [hG0]; exact bI_start o (o.s.length - 1) (by omega) q hq))
        clear hG0 HG HF
        have HF := Lib.hid (f_met HO.out)
        generalize wx.setCell ⟨bg, 8 * o.s.length, none⟩ (.int .i64 0) = wz at *
        clear hc2 hf2 hix1 hix2
        go_wp2_with fail
        go_loopw [14] (fun v wr => ∃ i : Nat, i ≤ o.s.length ∧ v = .int .i64 i ∧ Sw w bf bg (o.s.length + 1) bA cap wr (fI o i 0) G0) (fun v _ => o.s.length - (intOf v).toNat)
        case atStart => exact ⟨0, by omega, rfl, HG2.out⟩
        case round =>
          obtain ⟨i, hi, rfl, hw⟩ := hrel
          by_cases hlt : i < o.s.length
          · obtain ⟨wo, rfl⟩ : ∃ wo : World, wo = wr := ⟨_, rfl⟩
            have hd : decide ((i : Int) < (o.s.length : Int)) = true := by simp; omega
            have HW := Lib.hid hw
            clear hw
            go_wp2_with fail
            go_loopw [15] (fun v wr => ∃ k : Nat, k ≤ 16 ∧ v = .int .i64 k ∧ Sw w bf bg (o.s.length + 1) bA cap wr (fI o i k) G0) (fun v _ => 16 - (intOf v).toNat)
            case atStart => exact ⟨0, by omega, rfl, HW.out⟩
            case round =>
              obtain ⟨k, hk, rfl, hw⟩ := hrel
              by_cases hk16 : k < 16
              · skip
                have hix := fun W => ixR er77 bA 16 cap hk16 .i64 W
                have hcl : wr.rangeAt bA (4 * k) (brV (brN k)) := hw.r.row (j := k) (brR_get k hk16)
                have hmem := brN_mem k hk16
                have hrow : (fI o i k i) = o.f i ∧ (fI o i k (i + 1)) = fN o i (o.f i) k := by
                  unfold fI; exact ⟨by rw [if_pos (Nat.le_refl _)], by rw [if_neg (by omega), if_pos rfl]⟩
                have HROW := Lib.hid hrow
                have HSET := Lib.hid (fI_set o i k hk16)
                have HSAME := Lib.hid (fI_same o i k hk16)
                have HMM := Lib.hid (HF.out i (by omega))
                have hb9 : Blk (wr.alloc (.cells (zer 4).toArray 161)) wr.heap.size 161 (zer 4) := Blk.new wr _ 161 rfl
                generalize brN k = b at *
                generalize fN o i (o.f i) k = nx at *
                generalize o.f i = mx at *
                have HW2 := Lib.hid hw
                clear hw hrow
                go_wp2_with (first
                  | (refine wpList_load_mid rfl 161 (.tmp 68) rfl bA (4 * k) rfl (brV b) _ hcl Tryz.underlying161 rfl (by rw [info77]; rfl) ?_)
                  | (refine strow rfl 161 (.tmp 16) (.tmp 69) rfl rfl rfl hb9 rfl (by rw [info77]; rfl) (ints8_one _) ?_; intro W2 h1 h2; have H1 := Lib.hid h1; have H2 := Lib.hid h2; clear h1 h2 hb9 hcl))
                clear hix
                have hB2 : Below wr.heap.size wr W2 := ((Below.refl _ wr).alloc (Nat.le_refl _) _).grown H2.out (by simp) (fun k hk => by cases hk; exact Nat.le_refl _)
                have HW3 := Lib.hid (HW2.out.call hB2)
                clear hB2 HW2 H2
                generalize wr.heap.size = bx at *
                obtain ⟨b1, b2, b3, b4⟩ := br_bd b hmem
                have HAL2 : Hid ((!decide (o.a.length ≤ i) || decide (b.bt = tailBit b.fr)) = o.allow i b) := Lib.hid (by
                  unfold Ob.allow Ob.k
                  congr 1
                  by_cases e : i < o.a.length
                  · rw [decide_eq_true e, decide_eq_false (show ¬ o.a.length ≤ i by omega)]; rfl
                  · rw [decide_eq_false e, decide_eq_true (show o.a.length ≤ i by omega)]; rfl)
                have HOA := Lib.hid (fun W => allowed_any b (decide (o.a.length ≤ i)) W hmem)
                have hS0 : (fun W => Blk W bx 161 (brV b)) W2.drew := H1.out.drew
                cases hal : o.allow i b with
                | false =>
                  have HNO := Lib.hid (HSAME.out (by rw [hal]; simp))
                  rw [hal] at HAL2
                  go_wp2_with fail
                  refine P_start (fun W => Blk W bx 161 (brV b)) 5 16 #[false, false, false, false, false, false, false, false, false, false, false, false, false, false, false, false] (by kernel_rfl) (by kernel_rfl) (by kernel_rfl) ?_
                  refine P_k 0 70 (brA b) #[true, false, false, false, false, false, false, false, false, false, false, false, false, false, false, false] rfl (yieldsIf_load_mid rfl 161 (.tmp 16) rfl bx (0) rfl (brV b) _ (fun W hS => fun q v hv => Blk.cell hS (by rw [Nat.zero_add]; exact hv)) Tryz.underlying161 rfl (by rw [info77]; rfl)) hS0 ?_
                  simp only [y0, y1, y2]
                  refine P_w 1 71 (.int .i64 (i : Int)) #[true, true, false, false, false, false, false, false, false, false, false, false, false, false, false, false] rfl hS0 ?_
                  simp only [y0, y1, y2]
                  refine P_w 2 72 (.slice A o.a.length ca) #[true, true, true, false, false, false, false, false, false, false, false, false, false, false, false, false] rfl hS0 ?_
                  simp only [y0, y1, y2]
                  refine P_w 3 73 (.int .i64 (o.a.length : Int)) #[true, true, true, true, false, false, false, false, false, false, false, false, false, false, false, false] rfl hS0 ?_
                  simp only [y0, y1, y2]
                  refine P_w 4 74 (.bool (decide (o.a.length ≤ i))) #[true, true, true, true, true, false, false, false, false, false, false, false, false, false, false, false] rfl hS0 ?_
                  simp only [y0, y1, y2]
                  refine P_one 5 #[true, true, true, true, true, true, false, false, false, false, false, false, false, false, false, false] rfl (by kernel_rfl) (by kernel_rfl) rfl (by kernel_rfl) (fun K hK => ?_)
                  go_simp
                  refine (HOA.out _).mono ?_
                  rintro e w3 ⟨rfl, hB3⟩
                  rw [HAL2.out]
                  have hB23 : Below W2.heap.size W2 w3 := (Below.refl _ W2).drew.trans hB3
                  have HW4 := Lib.hid (HW3.out.call hB23)
                  have HB9 := Lib.hid (H1.out.below hB23)
                  clear hB3 hB23 hS0
                  refine hK _ _ ?_
                  clear hK K
                  refine P_takeX 6 76 (.bool false) #[true, true, true, true, true, true, true, false, false, false, false, false, false, false, false, false] rfl rfl (by kernel_rfl) (by kernel_rfl) (by kernel_rfl) (by kernel_rfl) (by decide) (fun _ _ _ h => h) (Or.inl ⟨by rfl, fun W hS => by go_simp⟩) rfl ?_
                  simp only [y0, y1, y2]
                  refine P_takeX 7 77 (undef) #[true, true, true, true, true, true, true, true, false, false, false, false, false, false, false, false] rfl rfl (by kernel_rfl) (by kernel_rfl) (by kernel_rfl) (by kernel_rfl) (by decide) (fun _ _ _ h => h) (Or.inr ⟨by rfl, rfl⟩) rfl ?_
                  simp only [y0, y1, y2]
                  refine P_takeX 8 78 (undef) #[true, true, true, true, true, true, true, true, true, false, false, false, false, false, false, false] rfl rfl (by kernel_rfl) (by kernel_rfl) (by kernel_rfl) (by kernel_rfl) (by decide) (fun _ _ _ h => h) (Or.inr ⟨by rfl, rfl⟩) rfl ?_
                  simp only [y0, y1, y2]
                  refine P_takeX 9 79 (undef) #[true, true, true, true, true, true, true, true, true, true, false, false, false, false, false, false] rfl rfl (by kernel_rfl) (by kernel_rfl) (by kernel_rfl) (by kernel_rfl) (by decide) (fun _ _ _ h => h) (Or.inr ⟨by rfl, rfl⟩) rfl ?_
                  simp only [y0, y1, y2]
                  refine P_takeX 10 80 (undef) #[true, true, true, true, true, true, true, true, true, true, true, false, false, false, false, false] rfl rfl (by kernel_rfl) (by kernel_rfl) (by kernel_rfl) (by kernel_rfl) (by decide) (fun _ _ _ h => h) (Or.inr ⟨by rfl, rfl⟩) rfl ?_
                  simp only [y0, y1, y2]
                  refine P_takeX 11 81 (undef) #[true, true, true, true, true, true, true, true, true, true, true, true, false, false, false, false] rfl rfl (by kernel_rfl) (by kernel_rfl) (by kernel_rfl) (by kernel_rfl) (by decide) (fun _ _ _ h => h) (Or.inr ⟨by rfl, rfl⟩) rfl ?_
                  simp only [y0, y1, y2]
                  refine P_takeX 12 82 (undef) #[true, true, true, true, true, true, true, true, true, true, true, true, true, false, false, false] rfl rfl (by kernel_rfl) (by kernel_rfl) (by kernel_rfl) (by kernel_rfl) (by decide) (fun _ _ _ h => h) (Or.inr ⟨by rfl, rfl⟩) rfl ?_
                  simp only [y0, y1, y2]
                  refine P_takeX 13 83 (undef) #[true, true, true, true, true, true, true, true, true, true, true, true, true, true, false, false] rfl rfl (by kernel_rfl) (by kernel_rfl) (by kernel_rfl) (by kernel_rfl) (by decide) (fun _ _ _ h => h) (Or.inr ⟨by rfl, rfl⟩) rfl ?_
                  simp only [y0, y1, y2]
                  refine P_takeX 14 84 (undef) #[true, true, true, true, true, true, true, true, true, true, true, true, true, true, true, false] rfl rfl (by kernel_rfl) (by kernel_rfl) (by kernel_rfl) (by kernel_rfl) (by decide) (fun _ _ _ h => h) (Or.inr ⟨by rfl, rfl⟩) rfl ?_
                  simp only [y0, y1, y2]
                  refine P_takeX 15 85 (.bool false) #[true, true, true, true, true, true, true, true, true, true, true, true, true, true, true, true] rfl rfl (by kernel_rfl) (by kernel_rfl) (by kernel_rfl) (by kernel_rfl) (by decide) (fun _ _ _ h => h) (Or.inl ⟨by rfl, fun W hS => by go_simp⟩) rfl ?_
                  simp only [y0, y1, y2]
                  refine P_done (by kernel_rfl) ?_ _
                  go_wp2
                  go_roundw
                  case rel => exact ⟨k + 1, by omega, by go_num, by rw [HNO.out]; exact HW4.out⟩
                  case measure => simp [intOf]; omega
                | true =>
                  rw [hal] at HAL2
                  by_cases hu : -1125899906842624 < gi mx b.fr
                  · have HYES := Lib.hid (HSET.out ⟨hal, by rw [UU_eq]; exact hu⟩)
                    go_wp2_with fail
                    refine P_start (fun W => Blk W bx 161 (brV b)) 5 16 #[false, false, false, false, false, false, false, false, false, false, false, false, false, false, false, false] (by kernel_rfl) (by kernel_rfl) (by kernel_rfl) ?_
                    refine P_k 0 70 (brA b) #[true, false, false, false, false, false, false, false, false, false, false, false, false, false, false, false] rfl (yieldsIf_load_mid rfl 161 (.tmp 16) rfl bx (0) rfl (brV b) _ (fun W hS => fun q v hv => Blk.cell hS (by rw [Nat.zero_add]; exact hv)) Tryz.underlying161 rfl (by rw [info77]; rfl)) hS0 ?_
                    simp only [y0, y1, y2]
                    refine P_w 1 71 (.int .i64 (i : Int)) #[true, true, false, false, false, false, false, false, false, false, false, false, false, false, false, false] rfl hS0 ?_
                    simp only [y0, y1, y2]
                    refine P_w 2 72 (.slice A o.a.length ca) #[true, true, true, false, false, false, false, false, false, false, false, false, false, false, false, false] rfl hS0 ?_
                    simp only [y0, y1, y2]
                    refine P_w 3 73 (.int .i64 (o.a.length : Int)) #[true, true, true, true, false, false, false, false, false, false, false, false, false, false, false, false] rfl hS0 ?_
                    simp only [y0, y1, y2]
                    refine P_w 4 74 (.bool (decide (o.a.length ≤ i))) #[true, true, true, true, true, false, false, false, false, false, false, false, false, false, false, false] rfl hS0 ?_
                    simp only [y0, y1, y2]
                    refine P_one 5 #[true, true, true, true, true, true, false, false, false, false, false, false, false, false, false, false] rfl (by kernel_rfl) (by kernel_rfl) rfl (by kernel_rfl) (fun K hK => ?_)
                    go_simp
                    refine (HOA.out _).mono ?_
                    rintro e w3 ⟨rfl, hB3⟩
                    rw [HAL2.out]
                    have hB23 : Below W2.heap.size W2 w3 := (Below.refl _ W2).drew.trans hB3
                    have HW4 := Lib.hid (HW3.out.call hB23)
                    have HB9 := Lib.hid (H1.out.below hB23)
                    clear hB3 hB23 hS0
                    refine hK _ _ ?_
                    clear hK K
                    have s0 := HB9.out.cell (j := 0) (v := .int .i64 (b.fr : Int)) rfl
                    have s3 := HB9.out.cell (j := 3) (v := .int .i64 (b.tt : Int)) rfl
                    have s4 := HW4.out.f.cell (i := i) (k := b.fr) (by omega) b1
                    rw [HROW.out.1] at s4
                    have hix3 := fun W => ix72 bf (o.s.length + 1) (j := i) (by omega) i rfl W
                    refine P_takeX 6 76 (.bool true) #[true, true, true, true, true, true, true, false, false, false, false, false, false, false, false, false] rfl rfl (by kernel_rfl) (by kernel_rfl) (by kernel_rfl) (by kernel_rfl) (by decide) (fun _ _ _ h => h) (Or.inl ⟨by rfl, fun W hS => by go_simp⟩) rfl ?_
                    simp only [y0, y1, y2]
                    refine P_takeX 7 77 (.slice (some ⟨bf, 0, none⟩) (o.s.length + 1) (o.s.length + 1)) #[true, true, true, true, true, true, true, true, false, false, false, false, false, false, false, false] rfl rfl (by kernel_rfl) (by kernel_rfl) (by kernel_rfl) (by kernel_rfl) (by decide) (fun _ _ _ h => h) (Or.inl ⟨by rfl, fun W hS => by go_simp⟩) rfl ?_
                    simp only [y0, y1, y2]
                    refine P_takeX 8 78 (.int .i64 (i : Int)) #[true, true, true, true, true, true, true, true, true, false, false, false, false, false, false, false] rfl rfl (by kernel_rfl) (by kernel_rfl) (by kernel_rfl) (by kernel_rfl) (by decide) (fun _ _ _ h => h) (Or.inl ⟨by rfl, fun W hS => by go_simp⟩) rfl ?_
                    simp only [y0, y1, y2]
                    refine P_takeX 9 79 (.pointer (some ⟨bx, 0, none⟩)) #[true, true, true, true, true, true, true, true, true, true, false, false, false, false, false, false] rfl rfl (by kernel_rfl) (by kernel_rfl) (by kernel_rfl) (by kernel_rfl) (by decide) (fun _ _ _ h => h) (Or.inl ⟨by rfl, fun W hS => by go_simp⟩) rfl ?_
                    simp only [y0, y1, y2]
                    refine P_takeX 11 81 (.pointer (some ⟨bf, 8 * i, none⟩)) #[true, true, true, true, true, true, true, true, true, true, false, true, false, false, false, false] rfl rfl (by kernel_rfl) (by kernel_rfl) (by kernel_rfl) (by kernel_rfl) (by decide) (fun _ _ _ h => h) (Or.inl ⟨by rfl, fun W hS => by go_simp⟩) rfl ?_
                    simp only [y0, y1, y2]
                    refine P_oneG 10 #[true, true, true, true, true, true, true, true, true, true, true, true, false, false, false, false] rfl (by kernel_rfl) (by kernel_rfl) (by rfl) (by kernel_rfl) (fun K hK => ?_)
                    go_simp
                    refine hK _ _ ?_
                    clear hK K
                    refine P_takeX 12 82 (.pointer (some ⟨bf, 8 * i + b.fr, none⟩)) #[true, true, true, true, true, true, true, true, true, true, true, true, true, false, false, false] rfl rfl (by kernel_rfl) (by kernel_rfl) (by kernel_rfl) (by kernel_rfl) (by decide) (fun _ _ _ h => h) (Or.inl ⟨by rfl, fun W hS => by go_simp <;> (intro h9; omega)⟩) rfl ?_
                    simp only [y0, y1, y2]
                    refine P_oneG 13 #[true, true, true, true, true, true, true, true, true, true, true, true, true, true, false, false] rfl (by kernel_rfl) (by kernel_rfl) (by rfl) (by kernel_rfl) (fun K hK => ?_)
                    go_simp
                    refine hK _ _ ?_
                    clear hK K
                    refine P_takeX 14 84 (.bool true) #[true, true, true, true, true, true, true, true, true, true, true, true, true, true, true, false] rfl rfl (by kernel_rfl) (by kernel_rfl) (by kernel_rfl) (by kernel_rfl) (by decide) (fun _ _ _ h => h) (Or.inl ⟨by rfl, fun W hS => by go_simp⟩) rfl ?_
                    simp only [y0, y1, y2]
                    refine P_takeX 15 85 (.bool true) #[true, true, true, true, true, true, true, true, true, true, true, true, true, true, true, true] rfl rfl (by kernel_rfl) (by kernel_rfl) (by kernel_rfl) (by kernel_rfl) (by decide) (fun _ _ _ h => h) (Or.inl ⟨by rfl, fun W hS => by go_simp⟩) rfl ?_
                    simp only [y0, y1, y2]
                    refine P_done (by kernel_rfl) ?_ _
                    go_wp2_with fail
                    clear s0 s3 s4 hix3
                    have hpl : i < o.p.length := by have := HL.out.2.2; omega
                    have hin := HIN.out.below HW4.out.bl
                    have HWD := Lib.hid (HW4.out.call (Below.refl _ w3).drew)
                    have HID := Lib.hid (hin.below (Below.refl _ w3).drew)
                    have hxb := o.x_bd HO.out i (by omega)
                    have hpb := o.p_bd HO.out i (by omega)
                    have hixP := fun W => Rdv.ix hin.p el22 hpl .i64 W
                    have hix4 := fun W => ix72 bf (o.s.length + 1) (j := i) (by omega) i rfl W
                    have hix5 := fun W => ix72 bf (o.s.length + 1) (j := i + 1) (by omega) ((i : Int) + 1) (by omega) W
                    have v0 : IntKind.i64.wrap ((i : Int) + 1) = (i : Int) + 1 := IntWalk.i64_in _ (by omega)
                    have hS1 : (fun W => W.cell? ⟨bx, 0, none⟩ = some (.int .i64 (b.fr : Int)) ∧ W.cell? ⟨bx, 1, none⟩ = some (.int .i64 (b.bt : Int)) ∧ W.cell? ⟨bx, 2, none⟩ = some (.int .i64 (b.pr : Int)) ∧ W.cell? ⟨bx, 3, none⟩ = some (.int .i64 (b.tt : Int)) ∧ W.cell? ⟨bf, 8 * i + b.fr, none⟩ = some (.int .i64 (gi mx b.fr)) ∧ W.cell? ⟨bf, 8 * (i + 1) + b.tt, none⟩ = some (.int .i64 (gi nx b.tt)) ∧ W.cell? (adr P i) = some (.int .i64 (gi o.p i))) w3.drew := ⟨HB9.out.cell rfl, HB9.out.cell rfl, HB9.out.cell rfl, HB9.out.cell rfl, by have h := HWD.out.f.cell (i := i) (k := b.fr) (by omega) b1; rw [HROW.out.1] at h; exact h, by have h := HWD.out.f.cell (i := (i + 1)) (k := b.tt) (by omega) b4; rw [HROW.out.2] at h; exact h, Rd.cell HID.out.p hpl⟩
                    have hm1 := HMM.out.bd b.fr b1
                    have hm1 : -(381 * 6150) ≤ gi mx b.fr ∧ gi mx b.fr ≤ 381 * 6150 := by
                      have := hm1.resolve_left (by rw [UU_eq]; omega)
                      omega
                    have HINP := Lib.hid (fun W (h : In3 W o S P A cs cp ca) => input_any S A cs ca o i W h.s h.a HO.out (by omega))
                    have q1 := sgn_bd (o.x i) 254 b.bt b2 hxb
                    have q2 := sgn_bd (gi o.p i) 127 b.pr b3 hpb
                    have HTM : Hid (∀ m, m + o.x i * (1 - 2 * (b.bt : Int)) + gi o.p i * (1 - 2 * (b.pr : Int)) = m + o.term i b) := Lib.hid (fun m => by unfold Ob.term; rw [Int.add_assoc])
                    generalize gi o.p i = pv at *
                    generalize o.x i = xv at *
                    have v1 : IntKind.i64.wrap (xv * (1 - 2 * (b.bt : Int))) = xv * (1 - 2 * (b.bt : Int)) := IntWalk.i64_in _ (by omega)
                    have v2 : IntKind.i64.wrap (gi mx b.fr + xv * (1 - 2 * (b.bt : Int))) = gi mx b.fr + xv * (1 - 2 * (b.bt : Int)) := IntWalk.i64_in _ (by omega)
                    have v3 : IntKind.i64.wrap (pv * (1 - 2 * (b.pr : Int))) = pv * (1 - 2 * (b.pr : Int)) := IntWalk.i64_in _ (by omega)
                    have v4 : IntKind.i64.wrap (gi mx b.fr + xv * (1 - 2 * (b.bt : Int)) + pv * (1 - 2 * (b.pr : Int))) = gi mx b.fr + xv * (1 - 2 * (b.bt : Int)) + pv * (1 - 2 * (b.pr : Int)) := IntWalk.i64_in _ (by omega)
                    clear hin
                    refine P_start (fun W => W.cell? ⟨bx, 0, none⟩ = some (.int .i64 (b.fr : Int)) ∧ W.cell? ⟨bx, 1, none⟩ = some (.int .i64 (b.bt : Int)) ∧ W.cell? ⟨bx, 2, none⟩ = some (.int .i64 (b.pr : Int)) ∧ W.cell? ⟨bx, 3, none⟩ = some (.int .i64 (b.tt : Int)) ∧ W.cell? ⟨bf, 8 * i + b.fr, none⟩ = some (.int .i64 (gi mx b.fr)) ∧ W.cell? ⟨bf, 8 * (i + 1) + b.tt, none⟩ = some (.int .i64 (gi nx b.tt)) ∧ W.cell? (adr P i) = some (.int .i64 pv)) 41 42 #[false, false, false, false, false, false, false, false, false, false, false, false, false, false, false, false, false, false, false, false, false, false, false, false, false, false, false, false, false, false, false, false, false, false, false, false, false, false, false, false, false, false] (by kernel_rfl) (by kernel_rfl) (by kernel_rfl) ?_
                    generalize w3.drew = wd at *
                    refine P_w 0 86 (.slice (some ⟨bf, 0, none⟩) (o.s.length + 1) (o.s.length + 1)) #[true, false, false, false, false, false, false, false, false, false, false, false, false, false, false, false, false, false, false, false, false, false, false, false, false, false, false, false, false, false, false, false, false, false, false, false, false, false, false, false, false, false] rfl hS1 ?_
                    simp only [y0, y1, y2]
                    refine P_w 1 87 (.int .i64 (i : Int)) #[true, true, false, false, false, false, false, false, false, false, false, false, false, false, false, false, false, false, false, false, false, false, false, false, false, false, false, false, false, false, false, false, false, false, false, false, false, false, false, false, false, false] rfl hS1 ?_
                    simp only [y0, y1, y2]
                    refine P_w 2 88 (.int .i64 ((i : Int) + 1)) #[true, true, true, false, false, false, false, false, false, false, false, false, false, false, false, false, false, false, false, false, false, false, false, false, false, false, false, false, false, false, false, false, false, false, false, false, false, false, false, false, false, false] rfl hS1 ?_
                    simp only [y0, y1, y2]
                    refine P_w 3 89 (.pointer (some ⟨bx, 3, none⟩)) #[true, true, true, true, false, false, false, false, false, false, false, false, false, false, false, false, false, false, false, false, false, false, false, false, false, false, false, false, false, false, false, false, false, false, false, false, false, false, false, false, false, false] rfl hS1 ?_
                    simp only [y0, y1, y2]
                    refine P_k 4 90 (.int .i64 (b.tt : Int)) #[true, true, true, true, true, false, false, false, false, false, false, false, false, false, false, false, false, false, false, false, false, false, false, false, false, false, false, false, false, false, false, false, false, false, false, false, false, false, false, false, false, false] rfl (Or.inl ⟨by rfl, fun W hS => by obtain ⟨s0, s1, s2, s3, s4, s5, s6⟩ := hS; go_simp⟩) hS1 ?_
                    simp only [y0, y1, y2]
                    refine P_w 5 91 (.slice (some ⟨bf, 0, none⟩) (o.s.length + 1) (o.s.length + 1)) #[true, true, true, true, true, true, false, false, false, false, false, false, false, false, false, false, false, false, false, false, false, false, false, false, false, false, false, false, false, false, false, false, false, false, false, false, false, false, false, false, false, false] rfl hS1 ?_
                    simp only [y0, y1, y2]
                    refine P_w 6 92 (.int .i64 (i : Int)) #[true, true, true, true, true, true, true, false, false, false, false, false, false, false, false, false, false, false, false, false, false, false, false, false, false, false, false, false, false, false, false, false, false, false, false, false, false, false, false, false, false, false] rfl hS1 ?_
                    simp only [y0, y1, y2]
                    refine P_w 7 93 (.int .i64 ((i : Int) + 1)) #[true, true, true, true, true, true, true, true, false, false, false, false, false, false, false, false, false, false, false, false, false, false, false, false, false, false, false, false, false, false, false, false, false, false, false, false, false, false, false, false, false, false] rfl hS1 ?_
                    simp only [y0, y1, y2]
                    refine P_w 8 94 (.pointer (some ⟨bx, 3, none⟩)) #[true, true, true, true, true, true, true, true, true, false, false, false, false, false, false, false, false, false, false, false, false, false, false, false, false, false, false, false, false, false, false, false, false, false, false, false, false, false, false, false, false, false] rfl hS1 ?_
                    simp only [y0, y1, y2]
                    refine P_k 9 95 (.int .i64 (b.tt : Int)) #[true, true, true, true, true, true, true, true, true, true, false, false, false, false, false, false, false, false, false, false, false, false, false, false, false, false, false, false, false, false, false, false, false, false, false, false, false, false, false, false, false, false] rfl (Or.inl ⟨by rfl, fun W hS => by obtain ⟨s0, s1, s2, s3, s4, s5, s6⟩ := hS; go_simp⟩) hS1 ?_
                    simp only [y0, y1, y2]
                    refine P_w 10 96 (.pointer (some ⟨bf, 8 * (i + 1), none⟩)) #[true, true, true, true, true, true, true, true, true, true, true, false, false, false, false, false, false, false, false, false, false, false, false, false, false, false, false, false, false, false, false, false, false, false, false, false, false, false, false, false, false, false] rfl hS1 ?_
                    simp only [y0, y1, y2]
                    refine P_takeW 11 97 (.pointer (some ⟨bf, 8 * (i + 1) + b.tt, none⟩)) #[true, true, true, true, true, true, true, true, true, true, true, true, false, false, false, false, false, false, false, false, false, false, false, false, false, false, false, false, false, false, false, false, false, false, false, false, false, false, false, false, false, false] rfl rfl (by kernel_rfl) (by kernel_rfl) (by kernel_rfl) (by kernel_rfl) (by decide) (fun _ _ _ h => h) (Or.inl ⟨by rfl, fun W hS => by go_simp <;> (intro h9; omega)⟩) hS1 ?_
                    simp only [y0, y1, y2]
                    refine P_k 12 98 (.int .i64 (gi nx b.tt)) #[true, true, true, true, true, true, true, true, true, true, true, true, true, false, false, false, false, false, false, false, false, false, false, false, false, false, false, false, false, false, false, false, false, false, false, false, false, false, false, false, false, false] rfl (Or.inl ⟨by rfl, fun W hS => by obtain ⟨s0, s1, s2, s3, s4, s5, s6⟩ := hS; go_simp⟩) hS1 ?_
                    simp only [y0, y1, y2]
                    refine P_w 13 99 (.slice (some ⟨bf, 0, none⟩) (o.s.length + 1) (o.s.length + 1)) #[true, true, true, true, true, true, true, true, true, true, true, true, true, true, false, false, false, false, false, false, false, false, false, false, false, false, false, false, false, false, false, false, false, false, false, false, false, false, false, false, false, false] rfl hS1 ?_
                    simp only [y0, y1, y2]
                    refine P_w 14 100 (.int .i64 (i : Int)) #[true, true, true, true, true, true, true, true, true, true, true, true, true, true, true, false, false, false, false, false, false, false, false, false, false, false, false, false, false, false, false, false, false, false, false, false, false, false, false, false, false, false] rfl hS1 ?_
                    simp only [y0, y1, y2]
                    refine P_w 15 101 (.pointer (some ⟨bx, 0, none⟩)) #[true, true, true, true, true, true, true, true, true, true, true, true, true, true, true, true, false, false, false, false, false, false, false, false, false, false, false, false, false, false, false, false, false, false, false, false, false, false, false, false, false, false] rfl hS1 ?_
                    simp only [y0, y1, y2]
                    refine P_k 16 102 (.int .i64 (b.fr : Int)) #[true, true, true, true, true, true, true, true, true, true, true, true, true, true, true, true, true, false, false, false, false, false, false, false, false, false, false, false, false, false, false, false, false, false, false, false, false, false, false, false, false, false] rfl (Or.inl ⟨by rfl, fun W hS => by obtain ⟨s0, s1, s2, s3, s4, s5, s6⟩ := hS; go_simp⟩) hS1 ?_
                    simp only [y0, y1, y2]
                    refine P_w 17 103 (.pointer (some ⟨bf, 8 * i, none⟩)) #[true, true, true, true, true, true, true, true, true, true, true, true, true, true, true, true, true, true, false, false, false, false, false, false, false, false, false, false, false, false, false, false, false, false, false, false, false, false, false, false, false, false] rfl hS1 ?_
                    simp only [y0, y1, y2]
                    refine P_takeW 18 104 (.pointer (some ⟨bf, 8 * i + b.fr, none⟩)) #[true, true, true, true, true, true, true, true, true, true, true, true, true, true, true, true, true, true, true, false, false, false, false, false, false, false, false, false, false, false, false, false, false, false, false, false, false, false, false, false, false, false] rfl rfl (by kernel_rfl) (by kernel_rfl) (by kernel_rfl) (by kernel_rfl) (by decide) (fun _ _ _ h => h) (Or.inl ⟨by rfl, fun W hS => by go_simp <;> (intro h9; omega)⟩) hS1 ?_
                    simp only [y0, y1, y2]
                    refine P_k 19 105 (.int .i64 (gi mx b.fr)) #[true, true, true, true, true, true, true, true, true, true, true, true, true, true, true, true, true, true, true, true, false, false, false, false, false, false, false, false, false, false, false, false, false, false, false, false, false, false, false, false, false, false] rfl (Or.inl ⟨by rfl, fun W hS => by obtain ⟨s0, s1, s2, s3, s4, s5, s6⟩ := hS; go_simp⟩) hS1 ?_
                    simp only [y0, y1, y2]
                    refine P_w 20 106 (.slice S o.s.length cs) #[true, true, true, true, true, true, true, true, true, true, true, true, true, true, true, true, true, true, true, true, true, false, false, false, false, false, false, false, false, false, false, false, false, false, false, false, false, false, false, false, false, false] rfl hS1 ?_
                    simp only [y0, y1, y2]
                    refine P_w 21 107 (.slice A o.a.length ca) #[true, true, true, true, true, true, true, true, true, true, true, true, true, true, true, true, true, true, true, true, true, true, false, false, false, false, false, false, false, false, false, false, false, false, false, false, false, false, false, false, false, false] rfl hS1 ?_
                    simp only [y0, y1, y2]
                    refine P_w 22 108 (.int .i64 (i : Int)) #[true, true, true, true, true, true, true, true, true, true, true, true, true, true, true, true, true, true, true, true, true, true, true, false, false, false, false, false, false, false, false, false, false, false, false, false, false, false, false, false, false, false] rfl hS1 ?_
                    simp only [y0, y1, y2]
                    refine P_w 24 110 (.pointer (some ⟨bx, 1, none⟩)) #[true, true, true, true, true, true, true, true, true, true, true, true, true, true, true, true, true, true, true, true, true, true, true, false, true, false, false, false, false, false, false, false, false, false, false, false, false, false, false, false, false, false] rfl hS1 ?_
                    simp only [y0, y1, y2]
                    refine P_k 25 111 (.int .i64 (b.bt : Int)) #[true, true, true, true, true, true, true, true, true, true, true, true, true, true, true, true, true, true, true, true, true, true, true, false, true, true, false, false, false, false, false, false, false, false, false, false, false, false, false, false, false, false] rfl (Or.inl ⟨by rfl, fun W hS => by obtain ⟨s0, s1, s2, s3, s4, s5, s6⟩ := hS; go_simp⟩) hS1 ?_
                    simp only [y0, y1, y2]
                    refine P_w 29 115 (.slice P o.p.length cp) #[true, true, true, true, true, true, true, true, true, true, true, true, true, true, true, true, true, true, true, true, true, true, true, false, true, true, false, false, false, true, false, false, false, false, false, false, false, false, false, false, false, false] rfl hS1 ?_
                    simp only [y0, y1, y2]
                    refine P_w 30 116 (.int .i64 (i : Int)) #[true, true, true, true, true, true, true, true, true, true, true, true, true, true, true, true, true, true, true, true, true, true, true, false, true, true, false, false, false, true, true, false, false, false, false, false, false, false, false, false, false, false] rfl hS1 ?_
                    simp only [y0, y1, y2]
                    refine P_w 31 117 (.pointer (some (adr P i))) #[true, true, true, true, true, true, true, true, true, true, true, true, true, true, true, true, true, true, true, true, true, true, true, false, true, true, false, false, false, true, true, true, false, false, false, false, false, false, false, false, false, false] rfl hS1 ?_
                    simp only [y0, y1, y2]
                    refine P_k 32 118 (.int .i64 pv) #[true, true, true, true, true, true, true, true, true, true, true, true, true, true, true, true, true, true, true, true, true, true, true, false, true, true, false, false, false, true, true, true, true, false, false, false, false, false, false, false, false, false] rfl (Or.inl ⟨by rfl, fun W hS => by obtain ⟨s0, s1, s2, s3, s4, s5, s6⟩ := hS; go_simp⟩) hS1 ?_
                    simp only [y0, y1, y2]
                    refine P_w 33 119 (.pointer (some ⟨bx, 2, none⟩)) #[true, true, true, true, true, true, true, true, true, true, true, true, true, true, true, true, true, true, true, true, true, true, true, false, true, true, false, false, false, true, true, true, true, true, false, false, false, false, false, false, false, false] rfl hS1 ?_
                    simp only [y0, y1, y2]
                    refine P_k 34 120 (.int .i64 (b.pr : Int)) #[true, true, true, true, true, true, true, true, true, true, true, true, true, true, true, true, true, true, true, true, true, true, true, false, true, true, false, false, false, true, true, true, true, true, true, false, false, false, false, false, false, false] rfl (Or.inl ⟨by rfl, fun W hS => by obtain ⟨s0, s1, s2, s3, s4, s5, s6⟩ := hS; go_simp⟩) hS1 ?_
                    simp only [y0, y1, y2]
                    refine P_w 39 125 (.pointer (some ⟨bf, 8 * (i + 1), none⟩)) #[true, true, true, true, true, true, true, true, true, true, true, true, true, true, true, true, true, true, true, true, true, true, true, false, true, true, false, false, false, true, true, true, true, true, true, false, false, false, false, true, false, false] rfl hS1 ?_
                    simp only [y0, y1, y2]
                    refine P_oneS 23 #[true, true, true, true, true, true, true, true, true, true, true, true, true, true, true, true, true, true, true, true, true, true, true, true, true, true, false, false, false, true, true, true, true, true, true, false, false, false, false, true, false, false] rfl (by kernel_rfl) (by kernel_rfl) rfl (fun K hK => ?_)
                    go_simp
                    refine (HINP.out _ HID.out).mono ?_
                    rintro e wq ⟨rfl, qn, rfl⟩
                    have HWE := Lib.hid (HWD.out.call (Qt.below ⟨qn, rfl⟩ _))
                    replace hS1 := (show (fun W => W.cell? ⟨bx, 0, none⟩ = some (.int .i64 (b.fr : Int)) ∧ W.cell? ⟨bx, 1, none⟩ = some (.int .i64 (b.bt : Int)) ∧ W.cell? ⟨bx, 2, none⟩ = some (.int .i64 (b.pr : Int)) ∧ W.cell? ⟨bx, 3, none⟩ = some (.int .i64 (b.tt : Int)) ∧ W.cell? ⟨bf, 8 * i + b.fr, none⟩ = some (.int .i64 (gi mx b.fr)) ∧ W.cell? ⟨bf, 8 * (i + 1) + b.tt, none⟩ = some (.int .i64 (gi nx b.tt)) ∧ W.cell? (adr P i) = some (.int .i64 pv)) (wd.drewN qn) from hS1)
                    generalize wd.drewN qn = we at *
                    clear HWD HID HINP
                    refine hK _ _ hS1 ?_
                    clear hK K
                    refine P_oneS 26 #[true, true, true, true, true, true, true, true, true, true, true, true, true, true, true, true, true, true, true, true, true, true, true, true, true, true, true, false, false, true, true, true, true, true, true, false, false, false, false, true, false, false] rfl (by kernel_rfl) (by kernel_rfl) rfl (fun K hK => ?_)
                    go_simp
                    refine (sign_any b.bt b2 _).mono ?_
                    rintro e w' ⟨rfl, rfl⟩
                    refine hK _ _ hS1 ?_
                    clear hK K
                    refine P_w 27 113 (.int .i64 (xv * (1 - 2 * (b.bt : Int)))) #[true, true, true, true, true, true, true, true, true, true, true, true, true, true, true, true, true, true, true, true, true, true, true, true, true, true, true, true, false, true, true, true, true, true, true, false, false, false, false, true, false, false] rfl hS1 ?_
                    simp only [y0, y1, y2]
                    refine P_w 28 114 (.int .i64 (gi mx b.fr + xv * (1 - 2 * (b.bt : Int)))) #[true, true, true, true, true, true, true, true, true, true, true, true, true, true, true, true, true, true, true, true, true, true, true, true, true, true, true, true, true, true, true, true, true, true, true, false, false, false, false, true, false, false] rfl hS1 ?_
                    simp only [y0, y1, y2]
                    refine P_oneS 35 #[true, true, true, true, true, true, true, true, true, true, true, true, true, true, true, true, true, true, true, true, true, true, true, true, true, true, true, true, true, true, true, true, true, true, true, true, false, false, false, true, false, false] rfl (by kernel_rfl) (by kernel_rfl) rfl (fun K hK => ?_)
                    go_simp
                    refine (sign_any b.pr b3 _).mono ?_
                    rintro e w' ⟨rfl, rfl⟩
                    refine hK _ _ hS1 ?_
                    clear hK K
                    refine P_w 36 122 (.int .i64 (pv * (1 - 2 * (b.pr : Int)))) #[true, true, true, true, true, true, true, true, true, true, true, true, true, true, true, true, true, true, true, true, true, true, true, true, true, true, true, true, true, true, true, true, true, true, true, true, true, false, false, true, false, false] rfl hS1 ?_
                    simp only [y0, y1, y2]
                    refine P_w 37 123 (.int .i64 (gi mx b.fr + xv * (1 - 2 * (b.bt : Int)) + pv * (1 - 2 * (b.pr : Int)))) #[true, true, true, true, true, true, true, true, true, true, true, true, true, true, true, true, true, true, true, true, true, true, true, true, true, true, true, true, true, true, true, true, true, true, true, true, true, true, false, true, false, false] rfl hS1 ?_
                    simp only [y0, y1, y2]
                    refine P_oneS 38 #[true, true, true, true, true, true, true, true, true, true, true, true, true, true, true, true, true, true, true, true, true, true, true, true, true, true, true, true, true, true, true, true, true, true, true, true, true, true, true, true, false, false] rfl (by kernel_rfl) (by kernel_rfl) rfl (fun K hK => ?_)
                    go_simp
                    rw [max_if]
                    refine hK _ _ hS1 ?_
                    clear hK K
                    refine P_takeW 40 126 (.pointer (some ⟨bf, 8 * (i + 1) + b.tt, none⟩)) #[true, true, true, true, true, true, true, true, true, true, true, true, true, true, true, true, true, true, true, true, true, true, true, true, true, true, true, true, true, true, true, true, true, true, true, true, true, true, true, true, true, false] rfl rfl (by kernel_rfl) (by kernel_rfl) (by kernel_rfl) (by kernel_rfl) (by decide) (fun _ _ _ h => h) (Or.inl ⟨by rfl, fun W hS => by go_simp <;> (intro h9; omega)⟩) hS1 ?_
                    simp only [y0, y1, y2]
                    have hc8 := hS1.2.2.2.2.2.1
                    have hf8 := HWE.out.f.blk.frozen (8 * (i + 1) + b.tt)
                    clear v0 v1 v2 v3 v4 hixP hix4 hix5
                    refine P_one 41 #[true, true, true, true, true, true, true, true, true, true, true, true, true, true, true, true, true, true, true, true, true, true, true, true, true, true, true, true, true, true, true, true, true, true, true, true, true, true, true, true, true, true] rfl (by kernel_rfl) (by kernel_rfl) rfl (by kernel_rfl) (fun K hK => ?_)
                    go_simp
                    rw [HTM.out]
                    refine hK _ _ ?_
                    clear hK K
                    refine P_done (by kernel_rfl) ?_ _
                    have HWF := Lib.hid (HWE.out.setF HSS.out (i := (i + 1)) (k := b.tt) (by omega) b4 (max (gi nx b.tt) (gi mx b.fr + o.term i b)))
                    clear hc8 hf8 hS1
                    generalize we.setCell ⟨bf, 8 * (i + 1) + b.tt, none⟩ (.int .i64 (max (gi nx b.tt) (gi mx b.fr + o.term i b))) = wg at *
                    go_wp2
                    go_roundw
                    case rel => exact ⟨k + 1, by omega, by go_num, by rw [← HYES.out]; exact HWF.out⟩
                    case measure => simp [intOf]; omega
                  · have HNO := Lib.hid (HSAME.out (by rw [UU_eq]; intro h; exact hu h.2))
                    go_wp2_with fail
                    refine P_start (fun W => Blk W bx 161 (brV b)) 5 16 #[false, false, false, false, false, false, false, false, false, false, false, false, false, false, false, false] (by kernel_rfl) (by kernel_rfl) (by kernel_rfl) ?_
                    refine P_k 0 70 (brA b) #[true, false, false, false, false, false, false, false, false, false, false, false, false, false, false, false] rfl (yieldsIf_load_mid rfl 161 (.tmp 16) rfl bx (0) rfl (brV b) _ (fun W hS => fun q v hv => Blk.cell hS (by rw [Nat.zero_add]; exact hv)) Tryz.underlying161 rfl (by rw [info77]; rfl)) hS0 ?_
                    simp only [y0, y1, y2]
                    refine P_w 1 71 (.int .i64 (i : Int)) #[true, true, false, false, false, false, false, false, false, false, false, false, false, false, false, false] rfl hS0 ?_
                    simp only [y0, y1, y2]
                    refine P_w 2 72 (.slice A o.a.length ca) #[true, true, true, false, false, false, false, false, false, false, false, false, false, false, false, false] rfl hS0 ?_
                    simp only [y0, y1, y2]
                    refine P_w 3 73 (.int .i64 (o.a.length : Int)) #[true, true, true, true, false, false, false, false, false, false, false, false, false, false, false, false] rfl hS0 ?_
                    simp only [y0, y1, y2]
                    refine P_w 4 74 (.bool (decide (o.a.length ≤ i))) #[true, true, true, true, true, false, false, false, false, false, false, false, false, false, false, false] rfl hS0 ?_
                    simp only [y0, y1, y2]
                    refine P_one 5 #[true, true, true, true, true, true, false, false, false, false, false, false, false, false, false, false] rfl (by kernel_rfl) (by kernel_rfl) rfl (by kernel_rfl) (fun K hK => ?_)
                    go_simp
                    refine (HOA.out _).mono ?_
                    rintro e w3 ⟨rfl, hB3⟩
                    rw [HAL2.out]
                    have hB23 : Below W2.heap.size W2 w3 := (Below.refl _ W2).drew.trans hB3
                    have HW4 := Lib.hid (HW3.out.call hB23)
                    have HB9 := Lib.hid (H1.out.below hB23)
                    clear hB3 hB23 hS0
                    refine hK _ _ ?_
                    clear hK K
                    have s0 := HB9.out.cell (j := 0) (v := .int .i64 (b.fr : Int)) rfl
                    have s3 := HB9.out.cell (j := 3) (v := .int .i64 (b.tt : Int)) rfl
                    have s4 := HW4.out.f.cell (i := i) (k := b.fr) (by omega) b1
                    rw [HROW.out.1] at s4
                    have hix3 := fun W => ix72 bf (o.s.length + 1) (j := i) (by omega) i rfl W
                    refine P_takeX 6 76 (.bool true) #[true, true, true, true, true, true, true, false, false, false, false, false, false, false, false, false] rfl rfl (by kernel_rfl) (by kernel_rfl) (by kernel_rfl) (by kernel_rfl) (by decide) (fun _ _ _ h => h) (Or.inl ⟨by rfl, fun W hS => by go_simp⟩) rfl ?_
                    simp only [y0, y1, y2]
                    refine P_takeX 7 77 (.slice (some ⟨bf, 0, none⟩) (o.s.length + 1) (o.s.length + 1)) #[true, true, true, true, true, true, true, true, false, false, false, false, false, false, false, false] rfl rfl (by kernel_rfl) (by kernel_rfl) (by kernel_rfl) (by kernel_rfl) (by decide) (fun _ _ _ h => h) (Or.inl ⟨by rfl, fun W hS => by go_simp⟩) rfl ?_
                    simp only [y0, y1, y2]
                    refine P_takeX 8 78 (.int .i64 (i : Int)) #[true, true, true, true, true, true, true, true, true, false, false, false, false, false, false, false] rfl rfl (by kernel_rfl) (by kernel_rfl) (by kernel_rfl) (by kernel_rfl) (by decide) (fun _ _ _ h => h) (Or.inl ⟨by rfl, fun W hS => by go_simp⟩) rfl ?_
                    simp only [y0, y1, y2]
                    refine P_takeX 9 79 (.pointer (some ⟨bx, 0, none⟩)) #[true, true, true, true, true, true, true, true, true, true, false, false, false, false, false, false] rfl rfl (by kernel_rfl) (by kernel_rfl) (by kernel_rfl) (by kernel_rfl) (by decide) (fun _ _ _ h => h) (Or.inl ⟨by rfl, fun W hS => by go_simp⟩) rfl ?_
                    simp only [y0, y1, y2]
                    refine P_takeX 11 81 (.pointer (some ⟨bf, 8 * i, none⟩)) #[true, true, true, true, true, true, true, true, true, true, false, true, false, false, false, false] rfl rfl (by kernel_rfl) (by kernel_rfl) (by kernel_rfl) (by kernel_rfl) (by decide) (fun _ _ _ h => h) (Or.inl ⟨by rfl, fun W hS => by go_simp⟩) rfl ?_
                    simp only [y0, y1, y2]
                    refine P_oneG 10 #[true, true, true, true, true, true, true, true, true, true, true, true, false, false, false, false] rfl (by kernel_rfl) (by kernel_rfl) (by rfl) (by kernel_rfl) (fun K hK => ?_)
                    go_simp
                    refine hK _ _ ?_
                    clear hK K
                    refine P_takeX 12 82 (.pointer (some ⟨bf, 8 * i + b.fr, none⟩)) #[true, true, true, true, true, true, true, true, true, true, true, true, true, false, false, false] rfl rfl (by kernel_rfl) (by kernel_rfl) (by kernel_rfl) (by kernel_rfl) (by decide) (fun _ _ _ h => h) (Or.inl ⟨by rfl, fun W hS => by go_simp <;> (intro h9; omega)⟩) rfl ?_
                    simp only [y0, y1, y2]
                    refine P_oneG 13 #[true, true, true, true, true, true, true, true, true, true, true, true, true, true, false, false] rfl (by kernel_rfl) (by kernel_rfl) (by rfl) (by kernel_rfl) (fun K hK => ?_)
                    go_simp
                    refine hK _ _ ?_
                    clear hK K
                    refine P_takeX 14 84 (.bool false) #[true, true, true, true, true, true, true, true, true, true, true, true, true, true, true, false] rfl rfl (by kernel_rfl) (by kernel_rfl) (by kernel_rfl) (by kernel_rfl) (by decide) (fun _ _ _ h => h) (Or.inl ⟨by rfl, fun W hS => by go_simp⟩) rfl ?_
                    simp only [y0, y1, y2]
                    refine P_takeX 15 85 (.bool false) #[true, true, true, true, true, true, true, true, true, true, true, true, true, true, true, true] rfl rfl (by kernel_rfl) (by kernel_rfl) (by kernel_rfl) (by kernel_rfl) (by decide) (fun _ _ _ h => h) (Or.inl ⟨by rfl, fun W hS => by go_simp⟩) rfl ?_
                    simp only [y0, y1, y2]
                    refine P_done (by kernel_rfl) ?_ _
                    go_wp2
                    go_roundw
                    case rel => exact ⟨k + 1, by omega, by go_num, by rw [HNO.out]; exact HW4.out⟩
                    case measure => simp [intOf]; omega
              · obtain rfl : k = 16 := by omega
                have HW2 := Lib.hid hw
                have HIN2 := Lib.hid (fI_next o i)
                clear hw
                go_wp2
                go_roundw
                case rel => exact ⟨i + 1, by omega, by go_num, by rw [← HIN2.out]; exact HW2.out⟩
                case measure => simp [intOf]; omega
          · obtain rfl : i = o.s.length := by omega
            have HFI : Hid (∀ q, q < o.s.length + 1 → fI o o.s.length 0 q = o.f q) := Lib.hid (fun q hq => by unfold fI; rw [if_pos (by omega)])
            have HW := Lib.hid (hw.congr (F' := o.f) HFI.out (fun _ _ => rfl))
            clear hw HFI
            go_wp2_with fail
            have HG3 : Hid (Sw w bf bg (o.s.length + 1) bA cap wr o.f (bH o o.s.length)) := Lib.hid (HW.out.congr (fun _ _ => rfl) (fun q _ => by rw [HG0.out]; unfold bH; rw [if_neg (by omega)]))
            have HBB : Hid (∀ i, i < o.s.length → Met (381 * (o.s.length : Int)) (o.b (i + 1))) := Lib.hid (fun i hi => (bd_met HO.out (o.s.length - (i + 1)) (by omega)).mono (by omega))
            clear HW HG0 HG2
            go_loopw [17] (fun v wr => ∃ j : Nat, j ≤ o.s.length ∧ v = .int .i64 ((j : Int) - 1) ∧ Sw w bf bg (o.s.length + 1) bA cap wr o.f (bH o j)) (fun v _ => (intOf v + 1).toNat)
            case atStart => exact ⟨o.s.length, Nat.le_refl _, rfl, HG3.out⟩
            case round =>
              obtain ⟨j, hj, rfl, hw⟩ := hrel
              rcases Nat.eq_zero_or_pos j with rfl | hpos
              · have HW := Lib.hid hw
                clear hw
                rw [show (((0 : Nat) : Int) - 1) = -1 from rfl]
                go_wp2
                go_ret2
                exact ⟨bf, bg, rfl, HW.out.f, HW.out.g.congr (fun q _ => by unfold bH; rw [if_pos rfl]), HSS.out.hf, HSS.out.hg, HW.out.bl⟩
              · obtain ⟨i, rfl⟩ : ∃ i, j = i + 1 := ⟨j - 1, by omega⟩
                rw [show (((i + 1 : Nat) : Int) - 1) = (i : Int) from by omega]
                obtain ⟨wo, rfl⟩ : ∃ wo : World, wo = wr := ⟨_, rfl⟩
                have HW : Hid (Sw w bf bg (o.s.length + 1) bA cap wo o.f (bI o i 0)) := Lib.hid (hw.congr (fun _ _ => rfl) (fun q _ => by unfold bH; rw [if_neg (by omega)]; rfl))
                clear hw
                go_wp2_with fail
                go_loopw [18] (fun v wr => ∃ k : Nat, k ≤ 16 ∧ v = .int .i64 k ∧ Sw w bf bg (o.s.length + 1) bA cap wr o.f (bI o i k)) (fun v _ => 16 - (intOf v).toNat)
                case atStart => exact ⟨0, by omega, rfl, HW.out⟩
                case round =>
                  obtain ⟨k, hk, rfl, hw⟩ := hrel
                  by_cases hk16 : k < 16
                  · skip
                    have hix := fun W => ixR er77 bA 16 cap hk16 .i64 W
                    have hcl : wr.rangeAt bA (4 * k) (brV (brN k)) := hw.r.row (j := k) (brR_get k hk16)
                    have hmem := brN_mem k hk16
                    have hrow : (bI o i k (i + 1)) = o.b (i + 1) ∧ (bI o i k i) = bN' o i (o.b (i + 1)) k := by
                      unfold bI; exact ⟨by rw [if_pos (by omega)], by rw [if_neg (by omega), if_pos rfl]⟩
                    have HROW := Lib.hid hrow
                    have HSET := Lib.hid (bI_set o i k hk16)
                    have HSAME := Lib.hid (bI_same o i k hk16)
                    have HMM := Lib.hid (HBB.out i (by omega))
                    have hb9 : Blk (wr.alloc (.cells (zer 4).toArray 161)) wr.heap.size 161 (zer 4) := Blk.new wr _ 161 rfl
                    generalize brN k = b at *
                    generalize bN' o i (o.b (i + 1)) k = nx at *
                    generalize o.b (i + 1) = mx at *
                    have HW2 := Lib.hid hw
                    clear hw hrow
                    go_wp2_with (first
                      | (refine wpList_load_mid rfl 161 (.tmp 141) rfl bA (4 * k) rfl (brV b) _ hcl Tryz.underlying161 rfl (by rw [info77]; rfl) ?_)
                      | (refine strow rfl 161 (.tmp 19) (.tmp 142) rfl rfl rfl hb9 rfl (by rw [info77]; rfl) (ints8_one _) ?_; intro W2 h1 h2; have H1 := Lib.hid h1; have H2 := Lib.hid h2; clear h1 h2 hb9 hcl))
                    clear hix
                    have hB2 : Below wr.heap.size wr W2 := ((Below.refl _ wr).alloc (Nat.le_refl _) _).grown H2.out (by simp) (fun k hk => by cases hk; exact Nat.le_refl _)
                    have HW3 := Lib.hid (HW2.out.call hB2)
                    clear hB2 HW2 H2
                    generalize wr.heap.size = bx at *
                    obtain ⟨b1, b2, b3, b4⟩ := br_bd b hmem
                    have HAL2 : Hid ((!decide (o.a.length ≤ i) || decide (b.bt = tailBit b.fr)) = o.allow i b) := Lib.hid (by
                      unfold Ob.allow Ob.k
                      congr 1
                      by_cases e : i < o.a.length
                      · rw [decide_eq_true e, decide_eq_false (show ¬ o.a.length ≤ i by omega)]; rfl
                      · rw [decide_eq_false e, decide_eq_true (show o.a.length ≤ i by omega)]; rfl)
                    have HOA := Lib.hid (fun W => allowed_any b (decide (o.a.length ≤ i)) W hmem)
                    have hS0 : (fun W => Blk W bx 161 (brV b)) W2.drew := H1.out.drew
                    cases hal : o.allow i b with
                    | false =>
                      have HNO := Lib.hid (HSAME.out (by rw [hal]; simp))
                      rw [hal] at HAL2
                      go_wp2_with fail
                      refine P_start (fun W => Blk W bx 161 (brV b)) 5 17 #[false, false, false, false, false, false, false, false, false, false, false, false, false, false, false, false, false] (by kernel_rfl) (by kernel_rfl) (by kernel_rfl) ?_
                      refine P_k 0 143 (brA b) #[true, false, false, false, false, false, false, false, false, false, false, false, false, false, false, false, false] rfl (yieldsIf_load_mid rfl 161 (.tmp 19) rfl bx (0) rfl (brV b) _ (fun W hS => fun q v hv => Blk.cell hS (by rw [Nat.zero_add]; exact hv)) Tryz.underlying161 rfl (by rw [info77]; rfl)) hS0 ?_
                      simp only [y0, y1, y2]
                      refine P_w 1 144 (.int .i64 (i : Int)) #[true, true, false, false, false, false, false, false, false, false, false, false, false, false, false, false, false] rfl hS0 ?_
                      simp only [y0, y1, y2]
                      refine P_w 2 145 (.slice A o.a.length ca) #[true, true, true, false, false, false, false, false, false, false, false, false, false, false, false, false, false] rfl hS0 ?_
                      simp only [y0, y1, y2]
                      refine P_w 3 146 (.int .i64 (o.a.length : Int)) #[true, true, true, true, false, false, false, false, false, false, false, false, false, false, false, false, false] rfl hS0 ?_
                      simp only [y0, y1, y2]
                      refine P_w 4 147 (.bool (decide (o.a.length ≤ i))) #[true, true, true, true, true, false, false, false, false, false, false, false, false, false, false, false, false] rfl hS0 ?_
                      simp only [y0, y1, y2]
                      refine P_one 5 #[true, true, true, true, true, true, false, false, false, false, false, false, false, false, false, false, false] rfl (by kernel_rfl) (by kernel_rfl) rfl (by kernel_rfl) (fun K hK => ?_)
                      go_simp
                      refine (HOA.out _).mono ?_
                      rintro e w3 ⟨rfl, hB3⟩
                      rw [HAL2.out]
                      have hB23 : Below W2.heap.size W2 w3 := (Below.refl _ W2).drew.trans hB3
                      have HW4 := Lib.hid (HW3.out.call hB23)
                      have HB9 := Lib.hid (H1.out.below hB23)
                      clear hB3 hB23 hS0
                      refine hK _ _ ?_
                      clear hK K
                      refine P_takeX 6 149 (.bool false) #[true, true, true, true, true, true, true, false, false, false, false, false, false, false, false, false, false] rfl rfl (by kernel_rfl) (by kernel_rfl) (by kernel_rfl) (by kernel_rfl) (by decide) (fun _ _ _ h => h) (Or.inl ⟨by rfl, fun W hS => by go_simp⟩) rfl ?_
                      simp only [y0, y1, y2]
                      refine P_takeX 7 150 (undef) #[true, true, true, true, true, true, true, true, false, false, false, false, false, false, false, false, false] rfl rfl (by kernel_rfl) (by kernel_rfl) (by kernel_rfl) (by kernel_rfl) (by decide) (fun _ _ _ h => h) (Or.inr ⟨by rfl, rfl⟩) rfl ?_
                      simp only [y0, y1, y2]
                      refine P_takeX 8 151 (undef) #[true, true, true, true, true, true, true, true, true, false, false, false, false, false, false, false, false] rfl rfl (by kernel_rfl) (by kernel_rfl) (by kernel_rfl) (by kernel_rfl) (by decide) (fun _ _ _ h => h) (Or.inr ⟨by rfl, rfl⟩) rfl ?_
                      simp only [y0, y1, y2]
                      refine P_takeX 9 152 (undef) #[true, true, true, true, true, true, true, true, true, true, false, false, false, false, false, false, false] rfl rfl (by kernel_rfl) (by kernel_rfl) (by kernel_rfl) (by kernel_rfl) (by decide) (fun _ _ _ h => h) (Or.inr ⟨by rfl, rfl⟩) rfl ?_
                      simp only [y0, y1, y2]
                      refine P_takeX 10 153 (undef) #[true, true, true, true, true, true, true, true, true, true, true, false, false, false, false, false, false] rfl rfl (by kernel_rfl) (by kernel_rfl) (by kernel_rfl) (by kernel_rfl) (by decide) (fun _ _ _ h => h) (Or.inr ⟨by rfl, rfl⟩) rfl ?_
                      simp only [y0, y1, y2]
                      refine P_takeX 11 154 (undef) #[true, true, true, true, true, true, true, true, true, true, true, true, false, false, false, false, false] rfl rfl (by kernel_rfl) (by kernel_rfl) (by kernel_rfl) (by kernel_rfl) (by decide) (fun _ _ _ h => h) (Or.inr ⟨by rfl, rfl⟩) rfl ?_
                      simp only [y0, y1, y2]
                      refine P_takeX 12 155 (undef) #[true, true, true, true, true, true, true, true, true, true, true, true, true, false, false, false, false] rfl rfl (by kernel_rfl) (by kernel_rfl) (by kernel_rfl) (by kernel_rfl) (by decide) (fun _ _ _ h => h) (Or.inr ⟨by rfl, rfl⟩) rfl ?_
                      simp only [y0, y1, y2]
                      refine P_takeX 13 156 (undef) #[true, true, true, true, true, true, true, true, true, true, true, true, true, true, false, false, false] rfl rfl (by kernel_rfl) (by kernel_rfl) (by kernel_rfl) (by kernel_rfl) (by decide) (fun _ _ _ h => h) (Or.inr ⟨by rfl, rfl⟩) rfl ?_
                      simp only [y0, y1, y2]
                      refine P_takeX 14 157 (undef) #[true, true, true, true, true, true, true, true, true, true, true, true, true, true, true, false, false] rfl rfl (by kernel_rfl) (by kernel_rfl) (by kernel_rfl) (by kernel_rfl) (by decide) (fun _ _ _ h => h) (Or.inr ⟨by rfl, rfl⟩) rfl ?_
                      simp only [y0, y1, y2]
                      refine P_takeX 15 158 (undef) #[true, true, true, true, true, true, true, true, true, true, true, true, true, true, true, true, false] rfl rfl (by kernel_rfl) (by kernel_rfl) (by kernel_rfl) (by kernel_rfl) (by decide) (fun _ _ _ h => h) (Or.inr ⟨by rfl, rfl⟩) rfl ?_
                      simp only [y0, y1, y2]
                      refine P_takeX 16 159 (.bool false) #[true, true, true, true, true, true, true, true, true, true, true, true, true, true, true, true, true] rfl rfl (by kernel_rfl) (by kernel_rfl) (by kernel_rfl) (by kernel_rfl) (by decide) (fun _ _ _ h => h) (Or.inl ⟨by rfl, fun W hS => by go_simp⟩) rfl ?_
                      simp only [y0, y1, y2]
                      refine P_done (by kernel_rfl) ?_ _
                      go_wp2
                      go_roundw
                      case rel => exact ⟨k + 1, by omega, by go_num, by rw [HNO.out]; exact HW4.out⟩
                      case measure => simp [intOf]; omega
                    | true =>
                      rw [hal] at HAL2
                      by_cases hu : -1125899906842624 < gi mx b.tt
                      · have HYES := Lib.hid (HSET.out ⟨hal, by rw [UU_eq]; exact hu⟩)
                        go_wp2_with fail
                        refine P_start (fun W => Blk W bx 161 (brV b)) 5 17 #[false, false, false, false, false, false, false, false, false, false, false, false, false, false, false, false, false] (by kernel_rfl) (by kernel_rfl) (by kernel_rfl) ?_
                        refine P_k 0 143 (brA b) #[true, false, false, false, false, false, false, false, false, false, false, false, false, false, false, false, false] rfl (yieldsIf_load_mid rfl 161 (.tmp 19) rfl bx (0) rfl (brV b) _ (fun W hS => fun q v hv => Blk.cell hS (by rw [Nat.zero_add]; exact hv)) Tryz.underlying161 rfl (by rw [info77]; rfl)) hS0 ?_
                        simp only [y0, y1, y2]
                        refine P_w 1 144 (.int .i64 (i : Int)) #[true, true, false, false, false, false, false, false, false, false, false, false, false, false, false, false, false] rfl hS0 ?_
                        simp only [y0, y1, y2]
                        refine P_w 2 145 (.slice A o.a.length ca) #[true, true, true, false, false, false, false, false, false, false, false, false, false, false, false, false, false] rfl hS0 ?_
                        simp only [y0, y1, y2]
                        refine P_w 3 146 (.int .i64 (o.a.length : Int)) #[true, true, true, true, false, false, false, false, false, false, false, false, false, false, false, false, false] rfl hS0 ?_
                        simp only [y0, y1, y2]
                        refine P_w 4 147 (.bool (decide (o.a.length ≤ i))) #[true, true, true, true, true, false, false, false, false, false, false, false, false, false, false, false, false] rfl hS0 ?_
                        simp only [y0, y1, y2]
                        refine P_one 5 #[true, true, true, true, true, true, false, false, false, false, false, false, false, false, false, false, false] rfl (by kernel_rfl) (by kernel_rfl) rfl (by kernel_rfl) (fun K hK => ?_)
                        go_simp
                        refine (HOA.out _).mono ?_
                        rintro e w3 ⟨rfl, hB3⟩
                        rw [HAL2.out]
                        have hB23 : Below W2.heap.size W2 w3 := (Below.refl _ W2).drew.trans hB3
                        have HW4 := Lib.hid (HW3.out.call hB23)
                        have HB9 := Lib.hid (H1.out.below hB23)
                        clear hB3 hB23 hS0
                        refine hK _ _ ?_
                        clear hK K
                        have s0 := HB9.out.cell (j := 0) (v := .int .i64 (b.fr : Int)) rfl
                        have s3 := HB9.out.cell (j := 3) (v := .int .i64 (b.tt : Int)) rfl
                        have s4 := HW4.out.g.cell (i := (i + 1)) (k := b.tt) (by omega) b4
                        rw [HROW.out.1] at s4
                        have hix3 := fun W => ix72 bg (o.s.length + 1) (j := (i + 1)) (by omega) ((i : Int) + 1) (by omega) W
                        have v9 : IntKind.i64.wrap ((i : Int) + 1) = (i : Int) + 1 := IntWalk.i64_in _ (by omega)
                        refine P_takeX 6 149 (.bool true) #[true, true, true, true, true, true, true, false, false, false, false, false, false, false, false, false, false] rfl rfl (by kernel_rfl) (by kernel_rfl) (by kernel_rfl) (by kernel_rfl) (by decide) (fun _ _ _ h => h) (Or.inl ⟨by rfl, fun W hS => by go_simp⟩) rfl ?_
                        simp only [y0, y1, y2]
                        refine P_takeX 7 150 (.slice (some ⟨bg, 0, none⟩) (o.s.length + 1) (o.s.length + 1)) #[true, true, true, true, true, true, true, true, false, false, false, false, false, false, false, false, false] rfl rfl (by kernel_rfl) (by kernel_rfl) (by kernel_rfl) (by kernel_rfl) (by decide) (fun _ _ _ h => h) (Or.inl ⟨by rfl, fun W hS => by go_simp⟩) rfl ?_
                        simp only [y0, y1, y2]
                        refine P_takeX 8 151 (.int .i64 (i : Int)) #[true, true, true, true, true, true, true, true, true, false, false, false, false, false, false, false, false] rfl rfl (by kernel_rfl) (by kernel_rfl) (by kernel_rfl) (by kernel_rfl) (by decide) (fun _ _ _ h => h) (Or.inl ⟨by rfl, fun W hS => by go_simp⟩) rfl ?_
                        simp only [y0, y1, y2]
                        refine P_takeX 9 152 (.int .i64 ((i : Int) + 1)) #[true, true, true, true, true, true, true, true, true, true, false, false, false, false, false, false, false] rfl rfl (by kernel_rfl) (by kernel_rfl) (by kernel_rfl) (by kernel_rfl) (by decide) (fun _ _ _ h => h) (Or.inl ⟨by rfl, fun W hS => by go_simp⟩) rfl ?_
                        simp only [y0, y1, y2]
                        refine P_takeX 10 153 (.pointer (some ⟨bx, 3, none⟩)) #[true, true, true, true, true, true, true, true, true, true, true, false, false, false, false, false, false] rfl rfl (by kernel_rfl) (by kernel_rfl) (by kernel_rfl) (by kernel_rfl) (by decide) (fun _ _ _ h => h) (Or.inl ⟨by rfl, fun W hS => by go_simp⟩) rfl ?_
                        simp only [y0, y1, y2]
                        refine P_takeX 12 155 (.pointer (some ⟨bg, 8 * (i + 1), none⟩)) #[true, true, true, true, true, true, true, true, true, true, true, false, true, false, false, false, false] rfl rfl (by kernel_rfl) (by kernel_rfl) (by kernel_rfl) (by kernel_rfl) (by decide) (fun _ _ _ h => h) (Or.inl ⟨by rfl, fun W hS => by go_simp⟩) rfl ?_
                        simp only [y0, y1, y2]
                        refine P_oneG 11 #[true, true, true, true, true, true, true, true, true, true, true, true, true, false, false, false, false] rfl (by kernel_rfl) (by kernel_rfl) (by rfl) (by kernel_rfl) (fun K hK => ?_)
                        go_simp
                        refine hK _ _ ?_
                        clear hK K
                        refine P_takeX 13 156 (.pointer (some ⟨bg, 8 * (i + 1) + b.tt, none⟩)) #[true, true, true, true, true, true, true, true, true, true, true, true, true, true, false, false, false] rfl rfl (by kernel_rfl) (by kernel_rfl) (by kernel_rfl) (by kernel_rfl) (by decide) (fun _ _ _ h => h) (Or.inl ⟨by rfl, fun W hS => by go_simp <;> (intro h9; omega)⟩) rfl ?_
                        simp only [y0, y1, y2]
                        refine P_oneG 14 #[true, true, true, true, true, true, true, true, true, true, true, true, true, true, true, false, false] rfl (by kernel_rfl) (by kernel_rfl) (by rfl) (by kernel_rfl) (fun K hK => ?_)
                        go_simp
                        refine hK _ _ ?_
                        clear hK K
                        refine P_takeX 15 158 (.bool true) #[true, true, true, true, true, true, true, true, true, true, true, true, true, true, true, true, false] rfl rfl (by kernel_rfl) (by kernel_rfl) (by kernel_rfl) (by kernel_rfl) (by decide) (fun _ _ _ h => h) (Or.inl ⟨by rfl, fun W hS => by go_simp⟩) rfl ?_
                        simp only [y0, y1, y2]
                        refine P_takeX 16 159 (.bool true) #[true, true, true, true, true, true, true, true, true, true, true, true, true, true, true, true, true] rfl rfl (by kernel_rfl) (by kernel_rfl) (by kernel_rfl) (by kernel_rfl) (by decide) (fun _ _ _ h => h) (Or.inl ⟨by rfl, fun W hS => by go_simp⟩) rfl ?_
                        simp only [y0, y1, y2]
                        refine P_done (by kernel_rfl) ?_ _
                        go_wp2_with fail
                        clear s0 s3 s4 hix3 v9
                        have hpl : i < o.p.length := by have := HL.out.2.2; omega
                        have hin := HIN.out.below HW4.out.bl
                        have HWD := Lib.hid (HW4.out.call (Below.refl _ w3).drew)
                        have HID := Lib.hid (hin.below (Below.refl _ w3).drew)
                        have hxb := o.x_bd HO.out i (by omega)
                        have hpb := o.p_bd HO.out i (by omega)
                        have hixP := fun W => Rdv.ix hin.p el22 hpl .i64 W
                        have hix4 := fun W => ix72 bg (o.s.length + 1) (j := i) (by omega) i rfl W
                        have hix5 := fun W => ix72 bg (o.s.length + 1) (j := i + 1) (by omega) ((i : Int) + 1) (by omega) W
                        have v0 : IntKind.i64.wrap ((i : Int) + 1) = (i : Int) + 1 := IntWalk.i64_in _ (by omega)
                        have hS1 : (fun W => W.cell? ⟨bx, 0, none⟩ = some (.int .i64 (b.fr : Int)) ∧ W.cell? ⟨bx, 1, none⟩ = some (.int .i64 (b.bt : Int)) ∧ W.cell? ⟨bx, 2, none⟩ = some (.int .i64 (b.pr : Int)) ∧ W.cell? ⟨bx, 3, none⟩ = some (.int .i64 (b.tt : Int)) ∧ W.cell? ⟨bg, 8 * (i + 1) + b.tt, none⟩ = some (.int .i64 (gi mx b.tt)) ∧ W.cell? ⟨bg, 8 * i + b.fr, none⟩ = some (.int .i64 (gi nx b.fr)) ∧ W.cell? (adr P i) = some (.int .i64 (gi o.p i))) w3.drew := ⟨HB9.out.cell rfl, HB9.out.cell rfl, HB9.out.cell rfl, HB9.out.cell rfl, by have h := HWD.out.g.cell (i := (i + 1)) (k := b.tt) (by omega) b4; rw [HROW.out.1] at h; exact h, by have h := HWD.out.g.cell (i := i) (k := b.fr) (by omega) b1; rw [HROW.out.2] at h; exact h, Rd.cell HID.out.p hpl⟩
                        have hm1 := HMM.out.bd b.tt b4
                        have hm1 : -(381 * 6150) ≤ gi mx b.tt ∧ gi mx b.tt ≤ 381 * 6150 := by
                          have := hm1.resolve_left (by rw [UU_eq]; omega)
                          omega
                        have HINP := Lib.hid (fun W (h : In3 W o S P A cs cp ca) => input_any S A cs ca o i W h.s h.a HO.out (by omega))
                        have q1 := sgn_bd (o.x i) 254 b.bt b2 hxb
                        have q2 := sgn_bd (gi o.p i) 127 b.pr b3 hpb
                        have HTM : Hid (∀ m, m + o.x i * (1 - 2 * (b.bt : Int)) + gi o.p i * (1 - 2 * (b.pr : Int)) = m + o.term i b) := Lib.hid (fun m => by unfold Ob.term; rw [Int.add_assoc])
                        generalize gi o.p i = pv at *
                        generalize o.x i = xv at *
                        have v1 : IntKind.i64.wrap (xv * (1 - 2 * (b.bt : Int))) = xv * (1 - 2 * (b.bt : Int)) := IntWalk.i64_in _ (by omega)
                        have v2 : IntKind.i64.wrap (gi mx b.tt + xv * (1 - 2 * (b.bt : Int))) = gi mx b.tt + xv * (1 - 2 * (b.bt : Int)) := IntWalk.i64_in _ (by omega)
                        have v3 : IntKind.i64.wrap (pv * (1 - 2 * (b.pr : Int))) = pv * (1 - 2 * (b.pr : Int)) := IntWalk.i64_in _ (by omega)
                        have v4 : IntKind.i64.wrap (gi mx b.tt + xv * (1 - 2 * (b.bt : Int)) + pv * (1 - 2 * (b.pr : Int))) = gi mx b.tt + xv * (1 - 2 * (b.bt : Int)) + pv * (1 - 2 * (b.pr : Int)) := IntWalk.i64_in _ (by omega)
                        clear hin
                        refine P_start (fun W => W.cell? ⟨bx, 0, none⟩ = some (.int .i64 (b.fr : Int)) ∧ W.cell? ⟨bx, 1, none⟩ = some (.int .i64 (b.bt : Int)) ∧ W.cell? ⟨bx, 2, none⟩ = some (.int .i64 (b.pr : Int)) ∧ W.cell? ⟨bx, 3, none⟩ = some (.int .i64 (b.tt : Int)) ∧ W.cell? ⟨bg, 8 * (i + 1) + b.tt, none⟩ = some (.int .i64 (gi mx b.tt)) ∧ W.cell? ⟨bg, 8 * i + b.fr, none⟩ = some (.int .i64 (gi nx b.fr)) ∧ W.cell? (adr P i) = some (.int .i64 pv)) 40 41 #[false, false, false, false, false, false, false, false, false, false, false, false, false, false, false, false, false, false, false, false, false, false, false, false, false, false, false, false, false, false, false, false, false, false, false, false, false, false, false, false, false] (by kernel_rfl) (by kernel_rfl) (by kernel_rfl) ?_
                        generalize w3.drew = wd at *
                        refine P_w 0 160 (.slice (some ⟨bg, 0, none⟩) (o.s.length + 1) (o.s.length + 1)) #[true, false, false, false, false, false, false, false, false, false, false, false, false, false, false, false, false, false, false, false, false, false, false, false, false, false, false, false, false, false, false, false, false, false, false, false, false, false, false, false, false] rfl hS1 ?_
                        simp only [y0, y1, y2]
                        refine P_w 1 161 (.int .i64 (i : Int)) #[true, true, false, false, false, false, false, false, false, false, false, false, false, false, false, false, false, false, false, false, false, false, false, false, false, false, false, false, false, false, false, false, false, false, false, false, false, false, false, false, false] rfl hS1 ?_
                        simp only [y0, y1, y2]
                        refine P_w 2 162 (.pointer (some ⟨bx, 0, none⟩)) #[true, true, true, false, false, false, false, false, false, false, false, false, false, false, false, false, false, false, false, false, false, false, false, false, false, false, false, false, false, false, false, false, false, false, false, false, false, false, false, false, false] rfl hS1 ?_
                        simp only [y0, y1, y2]
                        refine P_k 3 163 (.int .i64 (b.fr : Int)) #[true, true, true, true, false, false, false, false, false, false, false, false, false, false, false, false, false, false, false, false, false, false, false, false, false, false, false, false, false, false, false, false, false, false, false, false, false, false, false, false, false] rfl (Or.inl ⟨by rfl, fun W hS => by obtain ⟨s0, s1, s2, s3, s4, s5, s6⟩ := hS; go_simp⟩) hS1 ?_
                        simp only [y0, y1, y2]
                        refine P_w 4 164 (.slice (some ⟨bg, 0, none⟩) (o.s.length + 1) (o.s.length + 1)) #[true, true, true, true, true, false, false, false, false, false, false, false, false, false, false, false, false, false, false, false, false, false, false, false, false, false, false, false, false, false, false, false, false, false, false, false, false, false, false, false, false] rfl hS1 ?_
                        simp only [y0, y1, y2]
                        refine P_w 5 165 (.int .i64 (i : Int)) #[true, true, true, true, true, true, false, false, false, false, false, false, false, false, false, false, false, false, false, false, false, false, false, false, false, false, false, false, false, false, false, false, false, false, false, false, false, false, false, false, false] rfl hS1 ?_
                        simp only [y0, y1, y2]
                        refine P_w 6 166 (.pointer (some ⟨bx, 0, none⟩)) #[true, true, true, true, true, true, true, false, false, false, false, false, false, false, false, false, false, false, false, false, false, false, false, false, false, false, false, false, false, false, false, false, false, false, false, false, false, false, false, false, false] rfl hS1 ?_
                        simp only [y0, y1, y2]
                        refine P_k 7 167 (.int .i64 (b.fr : Int)) #[true, true, true, true, true, true, true, true, false, false, false, false, false, false, false, false, false, false, false, false, false, false, false, false, false, false, false, false, false, false, false, false, false, false, false, false, false, false, false, false, false] rfl (Or.inl ⟨by rfl, fun W hS => by obtain ⟨s0, s1, s2, s3, s4, s5, s6⟩ := hS; go_simp⟩) hS1 ?_
                        simp only [y0, y1, y2]
                        refine P_w 8 168 (.pointer (some ⟨bg, 8 * i, none⟩)) #[true, true, true, true, true, true, true, true, true, false, false, false, false, false, false, false, false, false, false, false, false, false, false, false, false, false, false, false, false, false, false, false, false, false, false, false, false, false, false, false, false] rfl hS1 ?_
                        simp only [y0, y1, y2]
                        refine P_takeW 9 169 (.pointer (some ⟨bg, 8 * i + b.fr, none⟩)) #[true, true, true, true, true, true, true, true, true, true, false, false, false, false, false, false, false, false, false, false, false, false, false, false, false, false, false, false, false, false, false, false, false, false, false, false, false, false, false, false, false] rfl rfl (by kernel_rfl) (by kernel_rfl) (by kernel_rfl) (by kernel_rfl) (by decide) (fun _ _ _ h => h) (Or.inl ⟨by rfl, fun W hS => by go_simp <;> (intro h9; omega)⟩) hS1 ?_
                        simp only [y0, y1, y2]
                        refine P_k 10 170 (.int .i64 (gi nx b.fr)) #[true, true, true, true, true, true, true, true, true, true, true, false, false, false, false, false, false, false, false, false, false, false, false, false, false, false, false, false, false, false, false, false, false, false, false, false, false, false, false, false, false] rfl (Or.inl ⟨by rfl, fun W hS => by obtain ⟨s0, s1, s2, s3, s4, s5, s6⟩ := hS; go_simp⟩) hS1 ?_
                        simp only [y0, y1, y2]
                        refine P_w 11 171 (.slice (some ⟨bg, 0, none⟩) (o.s.length + 1) (o.s.length + 1)) #[true, true, true, true, true, true, true, true, true, true, true, true, false, false, false, false, false, false, false, false, false, false, false, false, false, false, false, false, false, false, false, false, false, false, false, false, false, false, false, false, false] rfl hS1 ?_
                        simp only [y0, y1, y2]
                        refine P_w 12 172 (.int .i64 (i : Int)) #[true, true, true, true, true, true, true, true, true, true, true, true, true, false, false, false, false, false, false, false, false, false, false, false, false, false, false, false, false, false, false, false, false, false, false, false, false, false, false, false, false] rfl hS1 ?_
                        simp only [y0, y1, y2]
                        refine P_w 13 173 (.int .i64 ((i : Int) + 1)) #[true, true, true, true, true, true, true, true, true, true, true, true, true, true, false, false, false, false, false, false, false, false, false, false, false, false, false, false, false, false, false, false, false, false, false, false, false, false, false, false, false] rfl hS1 ?_
                        simp only [y0, y1, y2]
                        refine P_w 14 174 (.pointer (some ⟨bx, 3, none⟩)) #[true, true, true, true, true, true, true, true, true, true, true, true, true, true, true, false, false, false, false, false, false, false, false, false, false, false, false, false, false, false, false, false, false, false, false, false, false, false, false, false, false] rfl hS1 ?_
                        simp only [y0, y1, y2]
                        refine P_k 15 175 (.int .i64 (b.tt : Int)) #[true, true, true, true, true, true, true, true, true, true, true, true, true, true, true, true, false, false, false, false, false, false, false, false, false, false, false, false, false, false, false, false, false, false, false, false, false, false, false, false, false] rfl (Or.inl ⟨by rfl, fun W hS => by obtain ⟨s0, s1, s2, s3, s4, s5, s6⟩ := hS; go_simp⟩) hS1 ?_
                        simp only [y0, y1, y2]
                        refine P_w 16 176 (.pointer (some ⟨bg, 8 * (i + 1), none⟩)) #[true, true, true, true, true, true, true, true, true, true, true, true, true, true, true, true, true, false, false, false, false, false, false, false, false, false, false, false, false, false, false, false, false, false, false, false, false, false, false, false, false] rfl hS1 ?_
                        simp only [y0, y1, y2]
                        refine P_takeW 17 177 (.pointer (some ⟨bg, 8 * (i + 1) + b.tt, none⟩)) #[true, true, true, true, true, true, true, true, true, true, true, true, true, true, true, true, true, true, false, false, false, false, false, false, false, false, false, false, false, false, false, false, false, false, false, false, false, false, false, false, false] rfl rfl (by kernel_rfl) (by kernel_rfl) (by kernel_rfl) (by kernel_rfl) (by decide) (fun _ _ _ h => h) (Or.inl ⟨by rfl, fun W hS => by go_simp <;> (intro h9; omega)⟩) hS1 ?_
                        simp only [y0, y1, y2]
                        refine P_k 18 178 (.int .i64 (gi mx b.tt)) #[true, true, true, true, true, true, true, true, true, true, true, true, true, true, true, true, true, true, true, false, false, false, false, false, false, false, false, false, false, false, false, false, false, false, false, false, false, false, false, false, false] rfl (Or.inl ⟨by rfl, fun W hS => by obtain ⟨s0, s1, s2, s3, s4, s5, s6⟩ := hS; go_simp⟩) hS1 ?_
                        simp only [y0, y1, y2]
                        refine P_w 19 179 (.slice S o.s.length cs) #[true, true, true, true, true, true, true, true, true, true, true, true, true, true, true, true, true, true, true, true, false, false, false, false, false, false, false, false, false, false, false, false, false, false, false, false, false, false, false, false, false] rfl hS1 ?_
                        simp only [y0, y1, y2]
                        refine P_w 20 180 (.slice A o.a.length ca) #[true, true, true, true, true, true, true, true, true, true, true, true, true, true, true, true, true, true, true, true, true, false, false, false, false, false, false, false, false, false, false, false, false, false, false, false, false, false, false, false, false] rfl hS1 ?_
                        simp only [y0, y1, y2]
                        refine P_w 21 181 (.int .i64 (i : Int)) #[true, true, true, true, true, true, true, true, true, true, true, true, true, true, true, true, true, true, true, true, true, true, false, false, false, false, false, false, false, false, false, false, false, false, false, false, false, false, false, false, false] rfl hS1 ?_
                        simp only [y0, y1, y2]
                        refine P_w 23 183 (.pointer (some ⟨bx, 1, none⟩)) #[true, true, true, true, true, true, true, true, true, true, true, true, true, true, true, true, true, true, true, true, true, true, false, true, false, false, false, false, false, false, false, false, false, false, false, false, false, false, false, false, false] rfl hS1 ?_
                        simp only [y0, y1, y2]
                        refine P_k 24 184 (.int .i64 (b.bt : Int)) #[true, true, true, true, true, true, true, true, true, true, true, true, true, true, true, true, true, true, true, true, true, true, false, true, true, false, false, false, false, false, false, false, false, false, false, false, false, false, false, false, false] rfl (Or.inl ⟨by rfl, fun W hS => by obtain ⟨s0, s1, s2, s3, s4, s5, s6⟩ := hS; go_simp⟩) hS1 ?_
                        simp only [y0, y1, y2]
                        refine P_w 28 188 (.slice P o.p.length cp) #[true, true, true, true, true, true, true, true, true, true, true, true, true, true, true, true, true, true, true, true, true, true, false, true, true, false, false, false, true, false, false, false, false, false, false, false, false, false, false, false, false] rfl hS1 ?_
                        simp only [y0, y1, y2]
                        refine P_w 29 189 (.int .i64 (i : Int)) #[true, true, true, true, true, true, true, true, true, true, true, true, true, true, true, true, true, true, true, true, true, true, false, true, true, false, false, false, true, true, false, false, false, false, false, false, false, false, false, false, false] rfl hS1 ?_
                        simp only [y0, y1, y2]
                        refine P_w 30 190 (.pointer (some (adr P i))) #[true, true, true, true, true, true, true, true, true, true, true, true, true, true, true, true, true, true, true, true, true, true, false, true, true, false, false, false, true, true, true, false, false, false, false, false, false, false, false, false, false] rfl hS1 ?_
                        simp only [y0, y1, y2]
                        refine P_k 31 191 (.int .i64 pv) #[true, true, true, true, true, true, true, true, true, true, true, true, true, true, true, true, true, true, true, true, true, true, false, true, true, false, false, false, true, true, true, true, false, false, false, false, false, false, false, false, false] rfl (Or.inl ⟨by rfl, fun W hS => by obtain ⟨s0, s1, s2, s3, s4, s5, s6⟩ := hS; go_simp⟩) hS1 ?_
                        simp only [y0, y1, y2]
                        refine P_w 32 192 (.pointer (some ⟨bx, 2, none⟩)) #[true, true, true, true, true, true, true, true, true, true, true, true, true, true, true, true, true, true, true, true, true, true, false, true, true, false, false, false, true, true, true, true, true, false, false, false, false, false, false, false, false] rfl hS1 ?_
                        simp only [y0, y1, y2]
                        refine P_k 33 193 (.int .i64 (b.pr : Int)) #[true, true, true, true, true, true, true, true, true, true, true, true, true, true, true, true, true, true, true, true, true, true, false, true, true, false, false, false, true, true, true, true, true, true, false, false, false, false, false, false, false] rfl (Or.inl ⟨by rfl, fun W hS => by obtain ⟨s0, s1, s2, s3, s4, s5, s6⟩ := hS; go_simp⟩) hS1 ?_
                        simp only [y0, y1, y2]
                        refine P_w 38 198 (.pointer (some ⟨bg, 8 * i, none⟩)) #[true, true, true, true, true, true, true, true, true, true, true, true, true, true, true, true, true, true, true, true, true, true, false, true, true, false, false, false, true, true, true, true, true, true, false, false, false, false, true, false, false] rfl hS1 ?_
                        simp only [y0, y1, y2]
                        refine P_oneS 22 #[true, true, true, true, true, true, true, true, true, true, true, true, true, true, true, true, true, true, true, true, true, true, true, true, true, false, false, false, true, true, true, true, true, true, false, false, false, false, true, false, false] rfl (by kernel_rfl) (by kernel_rfl) rfl (fun K hK => ?_)
                        go_simp
                        refine (HINP.out _ HID.out).mono ?_
                        rintro e wq ⟨rfl, qn, rfl⟩
                        have HWE := Lib.hid (HWD.out.call (Qt.below ⟨qn, rfl⟩ _))
                        replace hS1 := (show (fun W => W.cell? ⟨bx, 0, none⟩ = some (.int .i64 (b.fr : Int)) ∧ W.cell? ⟨bx, 1, none⟩ = some (.int .i64 (b.bt : Int)) ∧ W.cell? ⟨bx, 2, none⟩ = some (.int .i64 (b.pr : Int)) ∧ W.cell? ⟨bx, 3, none⟩ = some (.int .i64 (b.tt : Int)) ∧ W.cell? ⟨bg, 8 * (i + 1) + b.tt, none⟩ = some (.int .i64 (gi mx b.tt)) ∧ W.cell? ⟨bg, 8 * i + b.fr, none⟩ = some (.int .i64 (gi nx b.fr)) ∧ W.cell? (adr P i) = some (.int .i64 pv)) (wd.drewN qn) from hS1)
                        generalize wd.drewN qn = we at *
                        clear HWD HID HINP
                        refine hK _ _ hS1 ?_
                        clear hK K
                        refine P_oneS 25 #[true, true, true, true, true, true, true, true, true, true, true, true, true, true, true, true, true, true, true, true, true, true, true, true, true, true, false, false, true, true, true, true, true, true, false, false, false, false, true, false, false] rfl (by kernel_rfl) (by kernel_rfl) rfl (fun K hK => ?_)
                        go_simp
                        refine (sign_any b.bt b2 _).mono ?_
                        rintro e w' ⟨rfl, rfl⟩
                        refine hK _ _ hS1 ?_
                        clear hK K
                        refine P_w 26 186 (.int .i64 (xv * (1 - 2 * (b.bt : Int)))) #[true, true, true, true, true, true, true, true, true, true, true, true, true, true, true, true, true, true, true, true, true, true, true, true, true, true, true, false, true, true, true, true, true, true, false, false, false, false, true, false, false] rfl hS1 ?_
                        simp only [y0, y1, y2]
                        refine P_w 27 187 (.int .i64 (gi mx b.tt + xv * (1 - 2 * (b.bt : Int)))) #[true, true, true, true, true, true, true, true, true, true, true, true, true, true, true, true, true, true, true, true, true, true, true, true, true, true, true, true, true, true, true, true, true, true, false, false, false, false, true, false, false] rfl hS1 ?_
                        simp only [y0, y1, y2]
                        refine P_oneS 34 #[true, true, true, true, true, true, true, true, true, true, true, true, true, true, true, true, true, true, true, true, true, true, true, true, true, true, true, true, true, true, true, true, true, true, true, false, false, false, true, false, false] rfl (by kernel_rfl) (by kernel_rfl) rfl (fun K hK => ?_)
                        go_simp
                        refine (sign_any b.pr b3 _).mono ?_
                        rintro e w' ⟨rfl, rfl⟩
                        refine hK _ _ hS1 ?_
                        clear hK K
                        refine P_w 35 195 (.int .i64 (pv * (1 - 2 * (b.pr : Int)))) #[true, true, true, true, true, true, true, true, true, true, true, true, true, true, true, true, true, true, true, true, true, true, true, true, true, true, true, true, true, true, true, true, true, true, true, true, false, false, true, false, false] rfl hS1 ?_
                        simp only [y0, y1, y2]
                        refine P_w 36 196 (.int .i64 (gi mx b.tt + xv * (1 - 2 * (b.bt : Int)) + pv * (1 - 2 * (b.pr : Int)))) #[true, true, true, true, true, true, true, true, true, true, true, true, true, true, true, true, true, true, true, true, true, true, true, true, true, true, true, true, true, true, true, true, true, true, true, true, true, false, true, false, false] rfl hS1 ?_
                        simp only [y0, y1, y2]
                        refine P_oneS 37 #[true, true, true, true, true, true, true, true, true, true, true, true, true, true, true, true, true, true, true, true, true, true, true, true, true, true, true, true, true, true, true, true, true, true, true, true, true, true, true, false, false] rfl (by kernel_rfl) (by kernel_rfl) rfl (fun K hK => ?_)
                        go_simp
                        rw [max_if]
                        refine hK _ _ hS1 ?_
                        clear hK K
                        refine P_takeW 39 199 (.pointer (some ⟨bg, 8 * i + b.fr, none⟩)) #[true, true, true, true, true, true, true, true, true, true, true, true, true, true, true, true, true, true, true, true, true, true, true, true, true, true, true, true, true, true, true, true, true, true, true, true, true, true, true, true, false] rfl rfl (by kernel_rfl) (by kernel_rfl) (by kernel_rfl) (by kernel_rfl) (by decide) (fun _ _ _ h => h) (Or.inl ⟨by rfl, fun W hS => by go_simp <;> (intro h9; omega)⟩) hS1 ?_
                        simp only [y0, y1, y2]
                        have hc8 := hS1.2.2.2.2.2.1
                        have hf8 := HWE.out.g.blk.frozen (8 * i + b.fr)
                        clear v0 v1 v2 v3 v4 hixP hix4 hix5
                        refine P_one 40 #[true, true, true, true, true, true, true, true, true, true, true, true, true, true, true, true, true, true, true, true, true, true, true, true, true, true, true, true, true, true, true, true, true, true, true, true, true, true, true, true, true] rfl (by kernel_rfl) (by kernel_rfl) rfl (by kernel_rfl) (fun K hK => ?_)
                        go_simp
                        rw [HTM.out]
                        refine hK _ _ ?_
                        clear hK K
                        refine P_done (by kernel_rfl) ?_ _
                        have HWF := Lib.hid (HWE.out.setG HSS.out (i := i) (k := b.fr) (by omega) b1 (max (gi nx b.fr) (gi mx b.tt + o.term i b)))
                        clear hc8 hf8 hS1
                        generalize we.setCell ⟨bg, 8 * i + b.fr, none⟩ (.int .i64 (max (gi nx b.fr) (gi mx b.tt + o.term i b))) = wg at *
                        go_wp2
                        go_roundw
                        case rel => exact ⟨k + 1, by omega, by go_num, by rw [← HYES.out]; exact HWF.out⟩
                        case measure => simp [intOf]; omega
                      · have HNO := Lib.hid (HSAME.out (by rw [UU_eq]; intro h; exact hu h.2))
                        go_wp2_with fail
                        refine P_start (fun W => Blk W bx 161 (brV b)) 5 17 #[false, false, false, false, false, false, false, false, false, false, false, false, false, false, false, false, false] (by kernel_rfl) (by kernel_rfl) (by kernel_rfl) ?_
                        refine P_k 0 143 (brA b) #[true, false, false, false, false, false, false, false, false, false, false, false, false, false, false, false, false] rfl (yieldsIf_load_mid rfl 161 (.tmp 19) rfl bx (0) rfl (brV b) _ (fun W hS => fun q v hv => Blk.cell hS (by rw [Nat.zero_add]; exact hv)) Tryz.underlying161 rfl (by rw [info77]; rfl)) hS0 ?_
                        simp only [y0, y1, y2]
                        refine P_w 1 144 (.int .i64 (i : Int)) #[true, true, false, false, false, false, false, false, false, false, false, false, false, false, false, false, false] rfl hS0 ?_
                        simp only [y0, y1, y2]
                        refine P_w 2 145 (.slice A o.a.length ca) #[true, true, true, false, false, false, false, false, false, false, false, false, false, false, false, false, false] rfl hS0 ?_
                        simp only [y0, y1, y2]
                        refine P_w 3 146 (.int .i64 (o.a.length : Int)) #[true, true, true, true, false, false, false, false, false, false, false, false, false, false, false, false, false] rfl hS0 ?_
                        simp only [y0, y1, y2]
                        refine P_w 4 147 (.bool (decide (o.a.length ≤ i))) #[true, true, true, true, true, false, false, false, false, false, false, false, false, false, false, false, false] rfl hS0 ?_
                        simp only [y0, y1, y2]
                        refine P_one 5 #[true, true, true, true, true, true, false, false, false, false, false, false, false, false, false, false, false] rfl (by kernel_rfl) (by kernel_rfl) rfl (by kernel_rfl) (fun K hK => ?_)
                        go_simp
                        refine (HOA.out _).mono ?_
                        rintro e w3 ⟨rfl, hB3⟩
                        rw [HAL2.out]
                        have hB23 : Below W2.heap.size W2 w3 := (Below.refl _ W2).drew.trans hB3
                        have HW4 := Lib.hid (HW3.out.call hB23)
                        have HB9 := Lib.hid (H1.out.below hB23)
                        clear hB3 hB23 hS0
                        refine hK _ _ ?_
                        clear hK K
                        have s0 := HB9.out.cell (j := 0) (v := .int .i64 (b.fr : Int)) rfl
                        have s3 := HB9.out.cell (j := 3) (v := .int .i64 (b.tt : Int)) rfl
                        have s4 := HW4.out.g.cell (i := (i + 1)) (k := b.tt) (by omega) b4
                        rw [HROW.out.1] at s4
                        have hix3 := fun W => ix72 bg (o.s.length + 1) (j := (i + 1)) (by omega) ((i : Int) + 1) (by omega) W
                        have v9 : IntKind.i64.wrap ((i : Int) + 1) = (i : Int) + 1 := IntWalk.i64_in _ (by omega)
                        refine P_takeX 6 149 (.bool true) #[true, true, true, true, true, true, true, false, false, false, false, false, false, false, false, false, false] rfl rfl (by kernel_rfl) (by kernel_rfl) (by kernel_rfl) (by kernel_rfl) (by decide) (fun _ _ _ h => h) (Or.inl ⟨by rfl, fun W hS => by go_simp⟩) rfl ?_
                        simp only [y0, y1, y2]
                        refine P_takeX 7 150 (.slice (some ⟨bg, 0, none⟩) (o.s.length + 1) (o.s.length + 1)) #[true, true, true, true, true, true, true, true, false, false, false, false, false, false, false, false, false] rfl rfl (by kernel_rfl) (by kernel_rfl) (by kernel_rfl) (by kernel_rfl) (by decide) (fun _ _ _ h => h) (Or.inl ⟨by rfl, fun W hS => by go_simp⟩) rfl ?_
                        simp only [y0, y1, y2]
                        refine P_takeX 8 151 (.int .i64 (i : Int)) #[true, true, true, true, true, true, true, true, true, false, false, false, false, false, false, false, false] rfl rfl (by kernel_rfl) (by kernel_rfl) (by kernel_rfl) (by kernel_rfl) (by decide) (fun _ _ _ h => h) (Or.inl ⟨by rfl, fun W hS => by go_simp⟩) rfl ?_
                        simp only [y0, y1, y2]
                        refine P_takeX 9 152 (.int .i64 ((i : Int) + 1)) #[true, true, true, true, true, true, true, true, true, true, false, false, false, false, false, false, false] rfl rfl (by kernel_rfl) (by kernel_rfl) (by kernel_rfl) (by kernel_rfl) (by decide) (fun _ _ _ h => h) (Or.inl ⟨by rfl, fun W hS => by go_simp⟩) rfl ?_
                        simp only [y0, y1, y2]
                        refine P_takeX 10 153 (.pointer (some ⟨bx, 3, none⟩)) #[true, true, true, true, true, true, true, true, true, true, true, false, false, false, false, false, false] rfl rfl (by kernel_rfl) (by kernel_rfl) (by kernel_rfl) (by kernel_rfl) (by decide) (fun _ _ _ h => h) (Or.inl ⟨by rfl, fun W hS => by go_simp⟩) rfl ?_
                        simp only [y0, y1, y2]
                        refine P_takeX 12 155 (.pointer (some ⟨bg, 8 * (i + 1), none⟩)) #[true, true, true, true, true, true, true, true, true, true, true, false, true, false, false, false, false] rfl rfl (by kernel_rfl) (by kernel_rfl) (by kernel_rfl) (by kernel_rfl) (by decide) (fun _ _ _ h => h) (Or.inl ⟨by rfl, fun W hS => by go_simp⟩) rfl ?_
                        simp only [y0, y1, y2]
                        refine P_oneG 11 #[true, true, true, true, true, true, true, true, true, true, true, true, true, false, false, false, false] rfl (by kernel_rfl) (by kernel_rfl) (by rfl) (by kernel_rfl) (fun K hK => ?_)
                        go_simp
                        refine hK _ _ ?_
                        clear hK K
                        refine P_takeX 13 156 (.pointer (some ⟨bg, 8 * (i + 1) + b.tt, none⟩)) #[true, true, true, true, true, true, true, true, true, true, true, true, true, true, false, false, false] rfl rfl (by kernel_rfl) (by kernel_rfl) (by kernel_rfl) (by kernel_rfl) (by decide) (fun _ _ _ h => h) (Or.inl ⟨by rfl, fun W hS => by go_simp <;> (intro h9; omega)⟩) rfl ?_
                        simp only [y0, y1, y2]
                        refine P_oneG 14 #[true, true, true, true, true, true, true, true, true, true, true, true, true, true, true, false, false] rfl (by kernel_rfl) (by kernel_rfl) (by rfl) (by kernel_rfl) (fun K hK => ?_)
                        go_simp
                        refine hK _ _ ?_
                        clear hK K
                        refine P_takeX 15 158 (.bool false) #[true, true, true, true, true, true, true, true, true, true, true, true, true, true, true, true, false] rfl rfl (by kernel_rfl) (by kernel_rfl) (by kernel_rfl) (by kernel_rfl) (by decide) (fun _ _ _ h => h) (Or.inl ⟨by rfl, fun W hS => by go_simp⟩) rfl ?_
                        simp only [y0, y1, y2]
                        refine P_takeX 16 159 (.bool false) #[true, true, true, true, true, true, true, true, true, true, true, true, true, true, true, true, true] rfl rfl (by kernel_rfl) (by kernel_rfl) (by kernel_rfl) (by kernel_rfl) (by decide) (fun _ _ _ h => h) (Or.inl ⟨by rfl, fun W hS => by go_simp⟩) rfl ?_
                        simp only [y0, y1, y2]
                        refine P_done (by kernel_rfl) ?_ _
                        go_wp2
                        go_roundw
                        case rel => exact ⟨k + 1, by omega, by go_num, by rw [HNO.out]; exact HW4.out⟩
                        case measure => simp [intOf]; omega
                  · obtain rfl : k = 16 := by omega
                    have HW2 : Hid (Sw w bf bg (o.s.length + 1) bA cap wr o.f (bH o i)) := Lib.hid (hw.congr (fun _ _ => rfl) (fun q _ => by
                      unfold bH
                      by_cases e : i = 0
                      · subst e; rw [if_pos rfl]; exact bI_end o (by omega) q
                      · rw [if_neg e]
                        obtain ⟨i', rfl⟩ : ∃ i', i = i' + 1 := ⟨i - 1, by omega⟩
                        rw [bI_next o i' (by omega)]; rfl))
                    clear hw
                    go_wp2
                    go_roundw
                    case rel => exact ⟨i, by omega, rfl, HW2.out⟩
                    case measure => simp [intOf]
end Go.Proofs.YtpdalbckmfadbaaGreat

