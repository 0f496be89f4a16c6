/-
  Proves Rows.SegmentJoinsSaid: called with any arguments the Go function userplanelaw05.SegmentJoins returns true and leaves its arguments as they were. Conditions: none.
-/
import Derived.Test.YtcbbkflnenkpgaaRows
import Derived.Test.YtcbbkflnenkpgaaTc
import Derived.WalkKit
import Derived.ProofKit
import Derived.OpenShut
import Derived.ShutString
import Derived.ChangeOld
import Derived.Below
import Derived.Lib.SmallJoins
namespace Go.Proofs.Ytcbbkflnenkpgaa.segmentJoins
open Go.ChangeShapes Go.WideShapes Go.ChangeAt Go.RowKit Go.Joins CM
set_option linter.unusedVariables false

theorem own : ownKnob Try.prog.godebug = none := by kernel_rfl
theorem cellsP : Try.prog.cellsOf 52 = 4 := by kernel_rfl

set_option maxRecDepth 100000 in
set_option maxHeartbeats 1600000 in
theorem walk (l s a y : Int) (b1 : Int) (b2 : Int) (b3 : Int) (b4 : Int) (b5 : Bool) (w : World) (wl : (Lit.int .i64 l).wf = true) (ws : (Lit.int .i64 s).wf = true) (wa : (Lit.int .i64 a).wf = true) (wy : (Lit.int .u8 y).wf = true) (w1 : (Lit.int .i64 b1).wf = true) (w2 : (Lit.int .i64 b2).wf = true) (w3 : (Lit.int .i64 b3).wf = true) (w4 : (Lit.int .i64 b4).wf = true) :
    Calls Try.prog 9 #[.agg #[.int .i64 l, .int .i64 s, .int .i64 a, .int .u8 y], .int .i64 b1, .int .i64 b2, .int .i64 b3, .int .i64 b4, .bool b5] w fun e w' => e = .returned (.bool true) ∧ Below w.heap.size w w' := by
  clear w1 w2 w3 w4 wl ws wa
  have hy := bounds_u8 wy
  clear wy
  have hyy : 0 ≤ y ∧ y < 256 := by omega
  have HP := Lib.hid (fun W => bits_any l s a y W hyy)
  have hK0 := Blk.new w [.int .i64 l, .int .i64 s, .int .i64 a, .int .u8 y] 52 rfl
  have HB0 := Lib.hid (show Below w.heap.size w (w.alloc (.cells [.int .i64 l, .int .i64 s, .int .i64 a, .int .u8 y].toArray 52)) from (Below.refl _ _).alloc (Nat.le_refl _) _)
  have k0 := hK0.cell (j := 0) rfl
  have k1 := hK0.cell (j := 1) rfl
  have k2 := hK0.cell (j := 2) rfl
  have k3 := hK0.cell (j := 3) rfl
  clear hy hyy hK0
  go_enter Try.func9, Try.ntmps9
  go_wp2_with fail
  refine (HP.out _).mono ?_
  rintro e w1 ⟨n, A, xs, hn, rfl, hO1, hby, hB1⟩
  have HB1 := Lib.hid (HB0.out.trans (hB1.mono HB0.out.size))
  have HX := Lib.hid (Own.rd hO1)
  have HBY := Lib.hid hby
  clear hO1 hby hB1 k0 k1 k2 k3 HP
  go_wp2_with fail
  refine (rsplit_all A n n xs w1 HX.out HBY.out (by omega)).mono ?_
  rintro e w3 ⟨A3, n3, c3, L, rfl, h3⟩
  have HB3 := Lib.hid (HB1.out.trans (h3.k.mono HB1.out.size))
  have HBL := Lib.hid h3.b
  have HLE := Lib.hid h3.le
  have hfew := h3.few
  have HN3 := Lib.hid h3.n
  have HBI := Lib.hid h3.y
  have HBS := Lib.hid HB1.out.size
  clear h3 HX HBY
  generalize w1.heap.size = base at *
  generalize sE xs = E0 at *
  have HRL := Lib.hid (show RL w3 A3 n3 c3 L from by have := HBL.out.rl; rwa [← HN3.out] at this)
  have HS0 := Lib.hid (show ∀ s ∈ L, s.n ≤ 100000 from fun s hs => by have := HLE.out s hs; omega)
  have HY0 := Lib.hid (show ∀ s ∈ L, Byt s.xs from fun s hs => byt_bit (HBI.out s hs))
  by_cases hk0 : 0 ≤ b2
  · have hd0 : decide ((0 : Int) ≤ b2) = true := by simp [hk0]
    by_cases hk1 : b2 < (n3 : Int)
    · have hd1 : decide (b2 < (n3 : Int)) = true := by simp [hk1]
      obtain ⟨k, rfl⟩ : ∃ k : Nat, b2 = (k : Int) := ⟨b2.toNat, by omega⟩
      have hlt : k < n3 := by omega
      obtain ⟨r, hgs, hc, hR⟩ := HRL.out.get hlt
      have hix := fun W => Rdv.ix HRL.out.o el55 hlt .i64 W
      have HGS := Lib.hid hgs
      have HMR := Lib.hid (List.mem_of_getElem? hgs)
      have hr6 := HLE.out r HMR.out
      clear hgs hk0 hk1
      cases b5
      · by_cases hq0 : 0 ≤ b3
        · have he0 : decide ((0 : Int) ≤ b3) = true := by simp [hq0]
          by_cases hq1 : b3 < (r.n : Int)
          · have he1 : decide (b3 < (r.n : Int)) = true := by simp [hq1]
            obtain ⟨q, rfl⟩ : ∃ q : Nat, b3 = (q : Int) := ⟨b3.toNat, by omega⟩
            have hq : q < r.n := by omega
            have hwb : 0 ≤ b4 % 256 ∧ b4 % 256 < 256 := by omega
            have hOr := (HBL.out.r r HMR.out).1
            have hcap := Rdv.le hR
            have hcz := Rd.cell hR hq
            have hfz := Ownv.frozen hOr (by omega) q
            have hiq := fun W => Rdv.ix hR el53 hq .i64 W
            have HPV := Lib.hid (BL.putv HBL.out HGS.out hq (b4 % 256))
            have HBW := Lib.hid (HB3.out.grown HPV.out.2 HB3.out.size (fun j hj => by cases hj; exact Nat.le_trans HBS.out (Ownv.blk_of hOr (HBL.out.r r HMR.out).2).1))
            have HRW := Lib.hid (show RL (w3.setCell (adr r.A q) (.int .u8 (b4 % 256))) A3 n3 c3 (L.set k ⟨r.A, r.n, r.c, r.xs.set q (b4 % 256)⟩) from by have := HPV.out.1; rwa [← HN3.out] at this)
            have HSW := Lib.hid (show ∀ s ∈ L.set k ⟨r.A, r.n, r.c, r.xs.set q (b4 % 256)⟩, s.n ≤ 100000 from fun s hs => by
              rcases List.mem_or_eq_of_mem_set hs with hs | rfl
              · exact HS0.out s hs
              · exact HS0.out r HMR.out)
            have HYW := Lib.hid (show ∀ s ∈ L.set k ⟨r.A, r.n, r.c, r.xs.set q (b4 % 256)⟩, Byt s.xs from fun s hs => by
              rcases List.mem_or_eq_of_mem_set hs with hs | rfl
              · exact HY0.out s hs
              · exact byt_set (HY0.out r HMR.out) hwb)
            clear hwb hOr hR hcap HPV
            go_wp2_with fail
            refine (join_all b1 _ _ _ (L.set k ⟨r.A, r.n, r.c, r.xs.set q (b4 % 256)⟩) _ HRW.out HSW.out).mono ?_
            rintro e w5 ⟨A5, n5, c5, rfl, hR5, hB5⟩
            have HR5 := Lib.hid hR5
            have HB5 := Lib.hid hB5
            clear hR5 hB5
            go_wp2_with fail
            refine (rjoin_all b1 _ _ _ (L.set k ⟨r.A, r.n, r.c, r.xs.set q (b4 % 256)⟩) w5 (RL.below HRW.out HB5.out) HSW.out HYW.out).mono ?_
            rintro e w6 ⟨A6, n6, c6, rfl, hR6, hB6⟩
            have hc1 := conv_rd (Rdv.below HR5.out hB6)
            have hc2 := conv_rd hR6
            have hse : ((strOfNums (jR b1 (L.set k ⟨r.A, r.n, r.c, r.xs.set q (b4 % 256)⟩))).toList == (strOfNums (jR b1 (L.set k ⟨r.A, r.n, r.c, r.xs.set q (b4 % 256)⟩))).toList) = true := by simp
            have HB6 := Lib.hid (HBW.out.trans ((HB5.out.trans (hB6.mono HB5.out.size)).mono HBW.out.size))
            clear hR6 hB6 HR5 HB5
            generalize jE b1 (L.set k ⟨r.A, r.n, r.c, r.xs.set q (b4 % 256)⟩) = E at *
            generalize strOfNums (jR b1 (L.set k ⟨r.A, r.n, r.c, r.xs.set q (b4 % 256)⟩)) = S1 at *
            go_wp2_with fail
            refine (num_any _ _).mono ?_
            rintro e w' ⟨rfl, rfl⟩
            go_wp2_with fail
            refine (works_any _).mono ?_
            rintro e w7 ⟨rfl, hB7⟩
            have HB7 := Lib.hid (HB6.out.trans (hB7.mono HB6.out.size))
            clear hB7
            go_wp2
            go_ret
            exact ⟨rfl, HB7.out⟩
          · have he1 : decide (b3 < (r.n : Int)) = false := by simp; omega
            have he2 : decide (b3 < (0 : Int)) = false := by simp; omega
            go_wp2_with fail
            refine (join_all b1 _ _ _ L _ HRL.out HS0.out).mono ?_
            rintro e w5 ⟨A5, n5, c5, rfl, hR5, hB5⟩
            have HR5 := Lib.hid hR5
            have HB5 := Lib.hid hB5
            clear hR5 hB5
            go_wp2_with fail
            refine (rjoin_all b1 _ _ _ L w5 (RL.below HRL.out HB5.out) HS0.out HY0.out).mono ?_
            rintro e w6 ⟨A6, n6, c6, rfl, hR6, hB6⟩
            have hc1 := conv_rd (Rdv.below HR5.out hB6)
            have hc2 := conv_rd hR6
            have hse : ((strOfNums (jR b1 L)).toList == (strOfNums (jR b1 L)).toList) = true := by simp
            have HB6 := Lib.hid (HB3.out.trans ((HB5.out.trans (hB6.mono HB5.out.size)).mono HB3.out.size))
            clear hR6 hB6 HR5 HB5
            generalize jE b1 L = E at *
            generalize strOfNums (jR b1 L) = S1 at *
            go_wp2_with fail
            refine (num_any _ _).mono ?_
            rintro e w' ⟨rfl, rfl⟩
            go_wp2_with fail
            refine (works_any _).mono ?_
            rintro e w7 ⟨rfl, hB7⟩
            have HB7 := Lib.hid (HB6.out.trans (hB7.mono HB6.out.size))
            clear hB7
            go_wp2
            go_ret
            exact ⟨rfl, HB7.out⟩
        · have he0 : decide ((0 : Int) ≤ b3) = false := by simp; omega
          have he2 : decide (b3 < (0 : Int)) = true := by simp; omega
          have hwb : 0 ≤ b4 % 256 ∧ b4 % 256 < 256 := by omega
          have HO0 := Lib.hid (show Ownv 5 (w3.alloc (.cells #[] 5)) w3.heap.size (some ⟨w3.heap.size, 0, none⟩) 0 0 [] from Ownv.lit w3 #[] 5 rfl (Nat.le_refl _) (Nat.zero_le _))
          have HR3 := Lib.hid hR
          have HWB := Lib.hid hwb
          have hbd := hR.bd.1
          have hcap := Rdv.le hR
          clear hR hwb
          obtain ⟨r', h', hcA, -⟩ := (HRL.out.below (bal (Below.refl _ w3) (.cells #[] 5))).get hlt
          rw [HGS.out] at h'
          cases h'
          go_wp2_with (first
            | (at_builtin; refine list_of rfl fun K hK => wp_app (base := w3.heap.size) (.tmp 70) (.tmp 74) 53 rfl el53 rfl rfl HO0.out (Rdv.alloc HR3.out _) (oneCell_ints .u8 r.xs) (by omega) (by unfold maxLen; omega) (by simp) ?_; intro A7 c7 w7 hO7 hg7; have HB7 := Lib.hid ((Below.refl w3.heap.size w3).grown (grownBy_of_alloc hg7) (Nat.le_refl _) (by simp [Value.ownBlock])); have HO7 := Lib.hid (Own.of_eq (k := .u8) (xs := r.xs) hO7 (n' := r.n) (by omega) (by simp)); clear hO7 hg7; refine hK _ _ ?_; clear hK K)
            | (at_builtin; refine list_of rfl fun K hK => wp_app1 (w := w7) (base := w3.heap.size) (.tmp 75) (.tmp 78) 53 rfl el53 rfl (.int .u8 (b4 % 256)) rfl rfl HO7.out (by omega) (by omega) HB7.out.size ?_; intro A8 c8 w8 hO8 hg8; have HB8 := Lib.hid (HB7.out.grown hg8 HB7.out.size (fun j hj => Ownv.ob' HO7.out hj)); have HO8 := Lib.hid (Own.of_eq (k := .u8) (xs := r.xs ++ [b4 % 256]) hO8 (n' := r.n + 1) rfl (by simp)); have HBL8 := Lib.hid (HBL.out.below HB8.out); have hix8 := fun W => Rdv.ix HBL8.out.o.rd el55 (show k < L.length by have := HN3.out; omega) .i64 W; have hf8 := Ownv.frozen HBL8.out.o (by have := Rdv.le HBL8.out.o.rd; have := HN3.out; omega) k; obtain ⟨r8, h8, hc8, -⟩ := (HRL.out.below HB8.out).get hlt; rw [HGS.out] at h8; cases h8; clear hO8 hg8; refine hK _ _ ?_; clear hK K))
          have HPR := Lib.hid (BL.putr HBL8.out (k := k) (r := ⟨A8, r.n + 1, c8, r.xs ++ [b4 % 256]⟩) (by have := HN3.out; omega) HO8.out)
          have HRW := Lib.hid (show RL (w8.setCell (adr A3 k) (.slice A8 (r.n + 1) c8)) A3 n3 c3 (L.set k ⟨A8, r.n + 1, c8, r.xs ++ [b4 % 256]⟩) from by have := HPR.out.1; rwa [← HN3.out] at this)
          have HBW := Lib.hid ((HB3.out.trans (HB8.out.mono HB3.out.size)).grown HPR.out.2 (Nat.le_trans HB3.out.size HB8.out.size) (fun j hj => by cases hj; exact Nat.le_trans HBS.out (Ownv.blk_of HBL.out.o (HBL.out.none_ne (k := k) (by have := HN3.out; omega))).1))
          have HSW := Lib.hid (show ∀ s ∈ L.set k ⟨A8, r.n + 1, c8, r.xs ++ [b4 % 256]⟩, s.n ≤ 100000 from fun s hs => by
            rcases List.mem_or_eq_of_mem_set hs with hs | rfl
            · exact HS0.out s hs
            · show r.n + 1 ≤ 100000; omega)
          have HYW := Lib.hid (show ∀ s ∈ L.set k ⟨A8, r.n + 1, c8, r.xs ++ [b4 % 256]⟩, Byt s.xs from fun s hs => by
            rcases List.mem_or_eq_of_mem_set hs with hs | rfl
            · exact HY0.out s hs
            · intro x hx
              rcases List.mem_append.1 hx with hx | hx
              · exact HY0.out r HMR.out x hx
              · simp at hx; subst hx; exact HWB.out)
          refine (join_all b1 _ _ _ (L.set k ⟨A8, r.n + 1, c8, r.xs ++ [b4 % 256]⟩) _ HRW.out HSW.out).mono ?_
          rintro e w5 ⟨A5, n5, c5, rfl, hR5, hB5⟩
          have HR5 := Lib.hid hR5
          have HB5 := Lib.hid hB5
          clear hR5 hB5
          go_wp2_with fail
          refine (rjoin_all b1 _ _ _ (L.set k ⟨A8, r.n + 1, c8, r.xs ++ [b4 % 256]⟩) w5 (RL.below HRW.out HB5.out) HSW.out HYW.out).mono ?_
          rintro e w6 ⟨A6, n6, c6, rfl, hR6, hB6⟩
          have hc1 := conv_rd (Rdv.below HR5.out hB6)
          have hc2 := conv_rd hR6
          have hse : ((strOfNums (jR b1 (L.set k ⟨A8, r.n + 1, c8, r.xs ++ [b4 % 256]⟩))).toList == (strOfNums (jR b1 (L.set k ⟨A8, r.n + 1, c8, r.xs ++ [b4 % 256]⟩))).toList) = true := by simp
          have HB6 := Lib.hid (HBW.out.trans ((HB5.out.trans (hB6.mono HB5.out.size)).mono HBW.out.size))
          clear hR6 hB6 HR5 HB5
          generalize jE b1 (L.set k ⟨A8, r.n + 1, c8, r.xs ++ [b4 % 256]⟩) = E at *
          generalize strOfNums (jR b1 (L.set k ⟨A8, r.n + 1, c8, r.xs ++ [b4 % 256]⟩)) = S1 at *
          go_wp2_with fail
          refine (num_any _ _).mono ?_
          rintro e w' ⟨rfl, rfl⟩
          go_wp2_with fail
          refine (works_any _).mono ?_
          rintro e w7 ⟨rfl, hB7⟩
          have HB7 := Lib.hid (HB6.out.trans (hB7.mono HB6.out.size))
          clear hB7
          go_wp2
          go_ret
          exact ⟨rfl, HB7.out⟩
      · have hcap := Rdv.le HRL.out.o
        have hslA : ∀ W, (Instr.sliceAt 55 (.slice A3 n3 c3) none (some (.int .i64 (k : Int))) none).run Try.prog W = .ok (.slice A3 k c3) W := fun W => Rdv.slh HRL.out.o el55 .i64 (by omega) W
        have hslB : ∀ W, (Instr.sliceAt 55 (.slice A3 n3 c3) (some (.int .i64 ((k : Int) + 1))) none none).run Try.prog W = .ok (.slice (cut A3 c3 (k + 1)) (n3 - (k + 1)) (c3 - (k + 1))) W := fun W => by
          have := Rdv.sll HRL.out.o el55 .i64 (l := k + 1) (by omega) W
          rwa [show ((k + 1 : Nat) : Int) = (k : Int) + 1 from rfl] at this
        have hkw : IntKind.i64.wrap ((k : Int) + 1) = (k : Int) + 1 := by rw [IntKind.wrap_i64]; omega
        have HRA := Lib.hid (Rdv.upto HRL.out.o (m := k) (by omega))
        have HRB := Lib.hid (Rdv.cut_ HRL.out.o (l := k + 1) (m := n3) (by omega) (Nat.le_refl _))
        have HO0 := Lib.hid (show Ownv 53 (w3.drew.alloc (.cells #[] 53)) w3.heap.size (some ⟨w3.heap.size, 0, none⟩) 0 0 [] from Ownv.lit w3.drew #[] 53 rfl (Nat.le_refl _) (Nat.zero_le _))
        have HV1 := Lib.hid (show ∀ u ∈ (L.map Sv.v).take k, u.oneCell' = true from fun u hu => by obtain ⟨t, -, rfl⟩ := List.mem_map.1 (List.mem_of_mem_take hu); rfl)
        have HV2 := Lib.hid (show ∀ u ∈ ((L.map Sv.v).take n3).drop (k + 1), u.oneCell' = true from fun u hu => by obtain ⟨t, -, rfl⟩ := List.mem_map.1 (List.mem_of_mem_take (List.mem_of_mem_drop hu)); rfl)
        have HLA := Lib.hid HRL.out.len
        clear hR hc hix
        go_wp2_with fail
        refine wp_nopanic ?_
        refine P_start (fun _ => True) 10 11 #[false, false, false, false, false, false, false, false, false, false, false] (by kernel_rfl) (by kernel_rfl) (by kernel_rfl) ?_
        refine P_takeW 1 36 (.slice A3 n3 c3) #[false, true, false, false, false, false, false, false, false, false, false] rfl rfl (by kernel_rfl) (by kernel_rfl) (by kernel_rfl) (by kernel_rfl) (by decide) (fun _ _ _ h => h) (Or.inl ⟨by rfl, fun W hS => by go_simp⟩) trivial ?_
        simp only [List.setIfInBounds_toArray, List.set_cons_zero, List.set_cons_succ]
        refine P_takeW 2 37 (.int .i64 (k : Int)) #[false, true, true, false, false, false, false, false, false, false, false] rfl rfl (by kernel_rfl) (by kernel_rfl) (by kernel_rfl) (by kernel_rfl) (by decide) (fun _ _ _ h => h) (Or.inl ⟨by rfl, fun W hS => by go_simp⟩) trivial ?_
        simp only [List.setIfInBounds_toArray, List.set_cons_zero, List.set_cons_succ]
        refine P_takeW 3 38 (.slice A3 k c3) #[false, true, true, true, false, false, false, false, false, false, false] rfl rfl (by kernel_rfl) (by kernel_rfl) (by kernel_rfl) (by kernel_rfl) (by decide) (fun _ _ _ h => h) (Or.inl ⟨by rfl, fun W hS => by go_simp⟩) trivial ?_
        simp only [List.setIfInBounds_toArray, List.set_cons_zero, List.set_cons_succ]
        refine P_takeW 5 40 (.slice A3 n3 c3) #[false, true, true, true, false, true, false, false, false, false, false] rfl rfl (by kernel_rfl) (by kernel_rfl) (by kernel_rfl) (by kernel_rfl) (by decide) (fun _ _ _ h => h) (Or.inl ⟨by rfl, fun W hS => by go_simp⟩) trivial ?_
        simp only [List.setIfInBounds_toArray, List.set_cons_zero, List.set_cons_succ]
        refine P_takeW 6 41 (.int .i64 (k : Int)) #[false, true, true, true, false, true, true, false, false, false, false] rfl rfl (by kernel_rfl) (by kernel_rfl) (by kernel_rfl) (by kernel_rfl) (by decide) (fun _ _ _ h => h) (Or.inl ⟨by rfl, fun W hS => by go_simp⟩) trivial ?_
        simp only [List.setIfInBounds_toArray, List.set_cons_zero, List.set_cons_succ]
        refine P_takeW 7 42 (.int .i64 ((k : Int) + 1)) #[false, true, true, true, false, true, true, true, false, false, false] rfl rfl (by kernel_rfl) (by kernel_rfl) (by kernel_rfl) (by kernel_rfl) (by decide) (fun _ _ _ h => h) (Or.inl ⟨by rfl, fun W hS => by go_simp⟩) trivial ?_
        simp only [List.setIfInBounds_toArray, List.set_cons_zero, List.set_cons_succ]
        refine P_takeW 8 43 (.slice (cut A3 c3 (k + 1)) (n3 - (k + 1)) (c3 - (k + 1))) #[false, true, true, true, false, true, true, true, true, false, false] rfl rfl (by kernel_rfl) (by kernel_rfl) (by kernel_rfl) (by kernel_rfl) (by decide) (fun _ _ _ h => h) (Or.inl ⟨by rfl, fun W hS => by go_simp⟩) trivial ?_
        simp only [List.setIfInBounds_toArray, List.set_cons_zero, List.set_cons_succ]
        refine P_oneS 0 #[true, true, true, true, false, true, true, true, true, false, false] rfl (by kernel_rfl) (by kernel_rfl) rfl (fun K hK => ?_)
        go_simp
        refine hK _ _ trivial ?_
        clear hK K
        refine P_oneS 4 #[true, true, true, true, true, true, true, true, true, false, false] rfl (by kernel_rfl) (by kernel_rfl) rfl (fun K hK => ?_)
        refine wp_app (base := w3.heap.size) (.tmp 35) (.tmp 38) 55 rfl el55 rfl rfl HO0.out (Rdv.alloc (Rdv.drewN HRA.out 1) _) HV1.out (by omega) (by unfold maxLen; omega) (by simp) ?_
        intro A9 c9 w9 hO9 hg9
        have HB9 := Lib.hid (((Below.refl w3.heap.size w3).drew).grown (grownBy_of_alloc hg9) (Nat.le_refl _) (by intro j hj; simp [Value.ownBlock] at hj; omega))
        rw [Nat.zero_add] at hO9 ⊢
        have HO9 := Lib.hid hO9
        refine hK _ _ trivial ?_
        clear hK K hO9 hg9
        refine P_oneS 9 #[true, true, true, true, true, true, true, true, true, true, false] rfl (by kernel_rfl) (by kernel_rfl) rfl (fun K hK => ?_)
        refine wp_app (base := w3.heap.size) (.tmp 39) (.tmp 43) 55 rfl el55 rfl rfl HO9.out (Rdv.below HRB.out HB9.out) HV2.out (by omega) (by unfold maxLen; omega) HB9.out.size ?_
        intro A10 c10 w10 hO10 hg10
        have HB10 := Lib.hid (HB9.out.grown hg10 HB9.out.size (fun j hj => Ownv.ob' HO9.out hj))
        have HO10 := Lib.hid hO10
        refine hK _ _ trivial ?_
        clear hK K hO10 hg10
        refine P_one 10 #[true, true, true, true, true, true, true, true, true, true, true] rfl (by kernel_rfl) (by kernel_rfl) rfl (by kernel_rfl) (fun K hK => ?_)
        go_simp
        refine hK _ _ ?_
        clear hK K
        refine P_done (by kernel_rfl) ?_ _
        refine noPanic_normal ?_
        have HLM := Lib.hid (show ∀ s ∈ L.take k ++ L.drop (k + 1), s ∈ L from fun s hs => by
          rcases List.mem_append.1 hs with hs | hs
          · exact List.mem_of_mem_take hs
          · exact List.mem_of_mem_drop hs)
        have HRW := Lib.hid (show RL w10 A10 (k + (n3 - (k + 1))) c10 (L.take k ++ L.drop (k + 1)) from ⟨by
          have := HO10.out.rd
          rwa [List.nil_append, show (List.map Sv.v L).take n3 = List.map Sv.v L from List.take_of_length_le (by rw [List.length_map, HLA.out]; exact Nat.le_refl _), ← List.map_take, ← List.map_drop, ← List.map_append] at this, fun s hs => Rdv.below (HRL.out.r s (HLM.out s hs)) HB10.out⟩)
        have HSW := Lib.hid (show ∀ s ∈ L.take k ++ L.drop (k + 1), s.n ≤ 100000 from fun s hs => HS0.out s (HLM.out s hs))
        have HYW := Lib.hid (show ∀ s ∈ L.take k ++ L.drop (k + 1), Byt s.xs from fun s hs => HY0.out s (HLM.out s hs))
        have HBW := Lib.hid (HB3.out.trans (HB10.out.mono HB3.out.size))
        clear hslA hslB hkw hcap
        go_wp2_with fail
        refine (join_all b1 _ _ _ (L.take k ++ L.drop (k + 1)) _ HRW.out HSW.out).mono ?_
        rintro e w5 ⟨A5, n5, c5, rfl, hR5, hB5⟩
        have HR5 := Lib.hid hR5
        have HB5 := Lib.hid hB5
        clear hR5 hB5
        go_wp2_with fail
        refine (rjoin_all b1 _ _ _ (L.take k ++ L.drop (k + 1)) w5 (RL.below HRW.out HB5.out) HSW.out HYW.out).mono ?_
        rintro e w6 ⟨A6, n6, c6, rfl, hR6, hB6⟩
        have hc1 := conv_rd (Rdv.below HR5.out hB6)
        have hc2 := conv_rd hR6
        have hse : ((strOfNums (jR b1 (L.take k ++ L.drop (k + 1)))).toList == (strOfNums (jR b1 (L.take k ++ L.drop (k + 1)))).toList) = true := by simp
        have HB6 := Lib.hid (HBW.out.trans ((HB5.out.trans (hB6.mono HB5.out.size)).mono HBW.out.size))
        clear hR6 hB6 HR5 HB5
        generalize jE b1 (L.take k ++ L.drop (k + 1)) = E at *
        generalize strOfNums (jR b1 (L.take k ++ L.drop (k + 1))) = S1 at *
        go_wp2_with fail
        refine (num_any _ _).mono ?_
        rintro e w' ⟨rfl, rfl⟩
        go_wp2_with fail
        refine (works_any _).mono ?_
        rintro e w7 ⟨rfl, hB7⟩
        have HB7 := Lib.hid (HB6.out.trans (hB7.mono HB6.out.size))
        clear hB7
        go_wp2
        go_ret
        exact ⟨rfl, HB7.out⟩
    · have hd1 : decide (b2 < (n3 : Int)) = false := by simp; omega
      go_wp2_with fail
      refine (join_all b1 _ _ _ L _ HRL.out HS0.out).mono ?_
      rintro e w5 ⟨A5, n5, c5, rfl, hR5, hB5⟩
      have HR5 := Lib.hid hR5
      have HB5 := Lib.hid hB5
      clear hR5 hB5
      go_wp2_with fail
      refine (rjoin_all b1 _ _ _ L w5 (RL.below HRL.out HB5.out) HS0.out HY0.out).mono ?_
      rintro e w6 ⟨A6, n6, c6, rfl, hR6, hB6⟩
      have hc1 := conv_rd (Rdv.below HR5.out hB6)
      have hc2 := conv_rd hR6
      have hse : ((strOfNums (jR b1 L)).toList == (strOfNums (jR b1 L)).toList) = true := by simp
      have HB6 := Lib.hid (HB3.out.trans ((HB5.out.trans (hB6.mono HB5.out.size)).mono HB3.out.size))
      clear hR6 hB6 HR5 HB5
      generalize jE b1 L = E at *
      generalize strOfNums (jR b1 L) = S1 at *
      go_wp2_with fail
      refine (num_any _ _).mono ?_
      rintro e w' ⟨rfl, rfl⟩
      go_wp2_with fail
      refine (works_any _).mono ?_
      rintro e w7 ⟨rfl, hB7⟩
      have HB7 := Lib.hid (HB6.out.trans (hB7.mono HB6.out.size))
      clear hB7
      go_wp2
      go_ret
      exact ⟨rfl, HB7.out⟩
  · have hd0 : decide ((0 : Int) ≤ b2) = false := by simp; omega
    go_wp2_with fail
    refine (join_all b1 _ _ _ L _ HRL.out HS0.out).mono ?_
    rintro e w5 ⟨A5, n5, c5, rfl, hR5, hB5⟩
    have HR5 := Lib.hid hR5
    have HB5 := Lib.hid hB5
    clear hR5 hB5
    go_wp2_with fail
    refine (rjoin_all b1 _ _ _ L w5 (RL.below HRL.out HB5.out) HS0.out HY0.out).mono ?_
    rintro e w6 ⟨A6, n6, c6, rfl, hR6, hB6⟩
    have hc1 := conv_rd (Rdv.below HR5.out hB6)
    have hc2 := conv_rd hR6
    have hse : ((strOfNums (jR b1 L)).toList == (strOfNums (jR b1 L)).toList) = true := by simp
    have HB6 := Lib.hid (HB3.out.trans ((HB5.out.trans (hB6.mono HB5.out.size)).mono HB3.out.size))
    clear hR6 hB6 HR5 HB5
    generalize jE b1 L = E at *
    generalize strOfNums (jR b1 L) = S1 at *
    go_wp2_with fail
    refine (num_any _ _).mono ?_
    rintro e w' ⟨rfl, rfl⟩
    go_wp2_with fail
    refine (works_any _).mono ?_
    rintro e w7 ⟨rfl, hB7⟩
    have HB7 := Lib.hid (HB6.out.trans (hB7.mono HB6.out.size))
    clear hB7
    go_wp2
    go_ret
    exact ⟨rfl, HB7.out⟩

set_option maxRecDepth 100000 in
theorem lifted (os : Os) (started : os.Started) (H : Type) (enc : TypeId × Value → H) :
    ReturnsInHanded {} Try.checked os 9 .any (Rows.segmentJoinsSpec.pre6 enc Try.prog Try.f9 Rows.segmentJoinsRow.domain false) (Rows.segmentJoinsSpec.post enc Try.prog Try.f9 false true false false) := by
  refine returnsInHanded_of_change (C := Try.checked) own started (by kernel_rfl) Try.func9
    (ChangeSpec.witness6 (enc := enc) (C := Try.checked) false ⟨#[], #[.agg #[.int .i64 0, .int .i64 0, .int .i64 0, .int .u8 0], .int .i64 0, .int .i64 0, .int .i64 0, .int .i64 0, .bool false], []⟩ 8 (by kernel_rfl) (by kernel_rfl) (by kernel_rfl) (by kernel_rfl)) ?_
  intro W base args ds gs before hval0 hW hcnd _
  have hval : ∀ (j : Nat) t v, Try.f9.params[j]? = some t → args[j]? = some v → Value.okWide Try.prog W .any base t v := hval0
  have hW' := hW
  obtain ⟨p, q, hA0, hV, rfl, hfz, hnd⟩ := hW
  have hA : DataW.TrodAll enc Try.prog W 0 (fun _ => true) true Try.f9.params.toList args.toList ds p := hA0
  rw [Try.params9] at hA hval
  obtain ⟨v0, vs0, d0, ds0, p0, q0, hargs, rfl, rfl, h0, r0⟩ := trodAll_cons hA
  obtain ⟨v1, vs1, d1, ds1, p1, q1, rfl, rfl, rfl, h1, r1⟩ := trodAll_cons r0
  obtain ⟨v2, vs2, d2, ds2, p2, q2, rfl, rfl, rfl, h2, r2⟩ := trodAll_cons r1
  obtain ⟨v3, vs3, d3, ds3, p3, q3, rfl, rfl, rfl, h3, r3⟩ := trodAll_cons r2
  obtain ⟨v4, vs4, d4, ds4, p4, q4, rfl, rfl, rfl, h4, r4⟩ := trodAll_cons r3
  obtain ⟨v5, vs5, d5, ds5, p5, q5, rfl, rfl, rfl, h5, r5⟩ := trodAll_cons r4
  obtain ⟨rfl, rfl, rfl⟩ := trodAll_nil r5
  obtain rfl : args = #[v0, v1, v2, v3, v4, v5] := by cases args; simp_all
  obtain ⟨rfl, rfl⟩ := trodVars_none hV
  obtain ⟨c0, c1, c2, c3, y0, y1, y2, y3, m, rfl, rfl, rfl, hy0, hy1, hy2, hy3⟩ := open_agg4 Try.underlying52 (by kernel_rfl) cellsP (hval 0 52 v0 rfl rfl) h0
  obtain ⟨l, e0, rfl, wl⟩ := DataW.trod_int Try.underlying3 hy0
  obtain ⟨s, e1, rfl, ws⟩ := DataW.trod_int Try.underlying3 hy1
  obtain ⟨a, e2, rfl, wa⟩ := DataW.trod_int Try.underlying3 hy2
  obtain ⟨y, e3, rfl, wy⟩ := DataW.trod_int Try.underlying5 hy3
  simp at e0 e1 e2 e3
  subst e0 e1 e2 e3
  obtain ⟨b1, rfl, rfl, rfl, w1⟩ := open_int Try.underlying3 (hval 1 3 v1 rfl rfl) h1
  obtain ⟨b2, rfl, rfl, rfl, w2⟩ := open_int Try.underlying3 (hval 2 3 v2 rfl rfl) h2
  obtain ⟨b3, rfl, rfl, rfl, w3⟩ := open_int Try.underlying3 (hval 3 3 v3 rfl rfl) h3
  obtain ⟨b4, rfl, rfl, rfl, w4⟩ := open_int Try.underlying3 (hval 4 3 v4 rfl rfl) h4
  obtain ⟨b5, rfl, rfl, rfl⟩ := open_bool Try.underlying4 (hval 5 4 v5 rfl rfl) h5
  clear hA0 hval0
  simp only [List.append_nil] at hW'
  have structReads : ∀ (W' : World) (sp : Nat → Bool), DataW.Trod enc Try.prog W' 0 sp true 52 (.agg #[.int .i64 l, .int .i64 s, .int .i64 a, .int .u8 y]) (.agg [.lit (.int .i64 l), .lit (.int .i64 s), .lit (.int .i64 a), .lit (.int .u8 y)]) [] := fun W' sp =>
    shut_agg4 (y0 := (.lit (.int .i64 l), [])) (y1 := (.lit (.int .i64 s), [])) (y2 := (.lit (.int .i64 a), [])) (y3 := (.lit (.int .u8 y), [])) Try.underlying52 (by kernel_rfl) cellsP ⟨1, by simp [DataW.trod, Try.underlying3, wl]⟩ ⟨1, by simp [DataW.trod, Try.underlying3, ws]⟩ ⟨1, by simp [DataW.trod, Try.underlying3, wa]⟩ ⟨1, by simp [DataW.trod, Try.underlying5, wy]⟩
  refine (walk l s a y b1 b2 b3 b4 b5 W wl ws wa wy w1 w2 w3 w4).mono fun e W' ⟨he, bel⟩ => ?_
  subst he
  exact ⟨_, rfl, _, _, _, [], _, [], hW', trodAll_mk1 (shut_bool Try.underlying4 _), (trodAll_cons_mk (structReads _ _) (trodAll_cons_mk (shut_int Try.underlying3 w1) (trodAll_cons_mk (shut_int Try.underlying3 w2) (trodAll_cons_mk (shut_int Try.underlying3 w3) (trodAll_cons_mk (shut_int Try.underlying3 w4) (trodAll_cons_mk (shut_bool Try.underlying4 _) trodAll_mk0)))))), rfl, bel.frame _, fun h => by cases h⟩

theorem over : Rows.segmentJoinsRow.holds Try.pinned (OpenSpec.ofChange Rows.segmentJoinsSpec) :=
  OpenClaim.holds_of_wide 9 Try.f9 rfl rfl rfl rfl rfl rfl rfl ⟨rfl, rfl, rfl, rfl, rfl⟩ rfl rfl rfl rfl rfl (by kernel_rfl) Try.func9 (by kernel_rfl)
    (of_decide_eq_true (by kernel_rfl)) (by unfold Func.isWrapper; first | (rw [if_pos (by decide +kernel)]; kernel_rfl) | (rw [if_neg (by decide +kernel)]; exact ⟨rfl, rfl⟩))
    (fun os started H enc _ => lifted os started H enc)

theorem proved : Rows.SegmentJoinsSaid :=
  over
#print axioms proved
end Go.Proofs.Ytcbbkflnenkpgaa.segmentJoins
