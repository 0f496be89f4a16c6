/-
  Proves Rows.SegmentHoldsSaid: called with any arguments the Go function userplanelaw05.SegmentHolds returns true and leaves its arguments as they were. Conditions: none.
-/
import Derived.Test.YtcbbkflnenkpgaaRows
import Derived.Test.YtcbbkflnenkpgaaTd
import Derived.WalkKit
import Derived.ProofKit
import Derived.OpenShut
import Derived.ShutString
import Derived.ChangeOld
import Derived.Below
import Derived.Lib.SmallJoins
namespace Go.Proofs.Ytcbbkflnenkpgaa.segmentHolds
open Go.ChangeShapes Go.WideShapes Go.ChangeAt Go.RowKit Go.Joins CM
set_option linter.unusedVariables false

theorem own : ownKnob Try.prog.godebug = none := by kernel_rfl
theorem cellsP : Try.prog.cellsOf 52 = 4 := by kernel_rfl

set_option maxRecDepth 100000 in
set_option maxHeartbeats 1600000 in
theorem walk (l s a y : Int) (b1 : Int) (b2 : Int) (w : World) (wl : (Lit.int .i64 l).wf = true) (ws : (Lit.int .i64 s).wf = true) (wa : (Lit.int .i64 a).wf = true) (wy : (Lit.int .u8 y).wf = true) (w1 : (Lit.int .i64 b1).wf = true) (w2 : (Lit.int .i64 b2).wf = true) :
    Calls Try.prog 11 #[.agg #[.int .i64 l, .int .i64 s, .int .i64 a, .int .u8 y], .int .i64 b1, .int .i64 b2] w fun e w' => e = .returned (.bool true) ∧ Below w.heap.size w w' := by
  clear w1 w2 wl ws wa
  have hy := bounds_u8 wy
  clear wy
  have hyy : 0 ≤ y ∧ y < 256 := by omega
  have HP := Lib.hid (fun W => bits_any l s a y W hyy)
  have hK0 := Blk.new w [.int .i64 l, .int .i64 s, .int .i64 a, .int .u8 y] 52 rfl
  have HB0 := Lib.hid (show Below w.heap.size w (w.alloc (.cells [.int .i64 l, .int .i64 s, .int .i64 a, .int .u8 y].toArray 52)) from (Below.refl _ _).alloc (Nat.le_refl _) _)
  have k0 := hK0.cell (j := 0) rfl
  have k1 := hK0.cell (j := 1) rfl
  have k2 := hK0.cell (j := 2) rfl
  have k3 := hK0.cell (j := 3) rfl
  clear hy hyy hK0
  go_enter Try.func11, Try.ntmps11
  go_wp2_with fail
  refine (HP.out _).mono ?_
  rintro e w1 ⟨n, A, xs, hn, rfl, hO1, hby, hB1⟩
  have HB1 := Lib.hid (HB0.out.trans (hB1.mono HB0.out.size))
  have HX := Lib.hid (Own.rd hO1)
  have HBY := Lib.hid hby
  have HBS := Lib.hid HB1.out.size
  clear hO1 hby hB1 k0 k1 k2 k3 HP
  go_wp2_with fail
  refine (split_all A n n xs w1 HX.out HBY.out).mono ?_
  rintro e w3 ⟨A3, n3, c3, L, rfl, h3⟩
  have HB3 := Lib.hid (HB1.out.trans (h3.k.mono HB1.out.size))
  have HX3 := Lib.hid (Rdv.below HX.out h3.k)
  have hln := Rd.len HX.out
  clear HX HB1
  by_cases hE : sE xs = 0
  · have hEZ := sE_zero hE
    have hsg := h3.sg hE HBY.out
    rw [hln] at hsg hEZ
    have HFR := Lib.hid (full_res (xs := xs))
    rw [hln] at HFR
    have HSG := Lib.hid hsg
    have hlen := hsg.len
    have HBL := Lib.hid h3.b
    have HLE := Lib.hid h3.le
    have HN3 := Lib.hid h3.n
    have HN3C := Lib.hid (show n3 = bC n by rw [HN3.out, hlen])
    have hC := bC_le hEZ.2.1
    rw [hE]
    have hn13 : n3 ≤ 13 := by rw [HN3C.out]; exact hC
    clear h3 hE hsg hlen
    generalize w1.heap.size = base at *
    have HRL := Lib.hid (show RL w3 A3 n3 c3 L from by have := HBL.out.rl; rwa [← HN3.out] at this)
    have HS0 := Lib.hid (show ∀ s ∈ L, s.n ≤ 100000 from fun s hs => by have := HLE.out s hs; omega)
    have HOK := Lib.hid (HSG.out.ok HFR.out.1)
    have HE0 := Lib.hid (show jE (n : Int) L = 0 ∧ jR (n : Int) L = xs from by
      have h1 : ¬ ((n : Int) < 1 ∨ (79560 : Int) < (n : Int)) := by omega
      refine ⟨by rw [jE, if_neg h1]; exact HOK.out.1, ?_⟩
      rw [jR, if_neg h1]
      exact HOK.out.2.trans HFR.out.2)
    have hfi := fi_lt hEZ.1 hEZ.2.1
    have hlo := lo_le (b := n)
    have hpl := fun W => plan_top n W hEZ.1 hEZ.2.1
    rw [show LY n = [(n : Int), (bC n : Int), (lo n : Int), (sh n : Int), (los n : Int), (shs n : Int), (fi n : Int)] from rfl] at hpl
    simp only [ints8, List.map_cons, List.map_nil] at hpl
    have HPL := Lib.hid hpl
    clear hpl HOK
    have hb1 : (bC n : Int) = 1 ↔ n ≤ 6144 := by
      constructor
      · intro h; exact Classical.byContradiction fun h2 => by have := bC_two h2; omega
      · intro h; rw [bC_one h]; rfl
    have HSZ := Lib.hid (show ∀ (j : Nat) (r : Sv), L[j]? = some r → VK (r.n : Int) ∧ (r.n = lo n ∨ r.n ≠ lo n ∧ r.n = sh n) from fun j r hr => by
      have h9 := (HSG.out.get hr).2.2
      have h8 := bC_two (b := n)
      have h7 := shs_lt hEZ.1
      have h6 := bC_one (b := n)
      rw [h9]
      unfold sz
      split
      · refine ⟨?_, by omega⟩
        by_cases h5 : n ≤ 6144
        · have := h6 h5; omega
        · unfold sh; rw [if_neg h5]; exact pv_vk av_le
      · exact ⟨nx_vk av_le, .inl rfl⟩)
    have HBIT := Lib.hid HSG.out.bit
    go_wp2_with fail
    refine (num_any _ _).mono ?_
    rintro e w' ⟨rfl, rfl⟩
    go_wp2_with fail
    refine (HPL.out _).mono ?_
    rintro e w4 ⟨rfl, hB4⟩
    have hL := Blk.new w4 (ints8 [(n : Int), (bC n : Int), (lo n : Int), (sh n : Int), (los n : Int), (shs n : Int), (fi n : Int)]) 23 rfl
    have hB5 := bal hB4 (.cells (ints8 [(n : Int), (bC n : Int), (lo n : Int), (sh n : Int), (los n : Int), (shs n : Int), (fi n : Int)]).toArray 23)
    simp only [ints8, List.map_cons, List.map_nil] at hL hB5
    have HB5 := Lib.hid (HB3.out.trans (hB5.mono HB3.out.size))
    have HX5 := Lib.hid (Rdv.below HX3.out hB5)
    have HRL5 := Lib.hid (HRL.out.below hB5)
    have HBL5 := Lib.hid (HBL.out.below hB5)
    have HLY := Lib.hid hL
    clear hB4 hB5 hL HB3 HX3 HRL HBL HPL
    go_wp2_with fail
    generalize w4.alloc (.cells #[.int .i64 (n : Int), .int .i64 (bC n : Int), .int .i64 (lo n : Int), .int .i64 (sh n : Int), .int .i64 (los n : Int), .int .i64 (shs n : Int), .int .i64 (fi n : Int)] 23) = w5 at *
    generalize w4.heap.size = PB at *
    refine (join_all (n : Int) _ _ _ L w5 HRL5.out HS0.out).mono ?_
    rintro e w6 ⟨A6, n6, c6, rfl, hR6, hB6⟩
    rw [HE0.out.1]
    rw [HE0.out.2] at hR6
    have HB6 := Lib.hid (HB5.out.trans (hB6.mono HB5.out.size))
    have HLY6 := Lib.hid (HLY.out.below hB6)
    have HX6 := Lib.hid (Rdv.below HX5.out hB6)
    have HRL6 := Lib.hid (HRL5.out.below hB6)
    have HBL6 := Lib.hid (HBL5.out.below hB6)
    have hc1 := conv_rd hR6
    have hc2 := conv_rd HX6.out
    have hse : ((strOfNums xs).toList == (strOfNums xs).toList) = true := by simp
    have c1 := HLY6.out.cell (j := 1) rfl
    have c6 := HLY6.out.cell (j := 6) rfl
    clear hB6 hR6 HB5 HLY HX5 HRL5 HBL5 HE0
    generalize strOfNums xs = S1 at *
    have hne : ((n3 : Int) != (bC n : Int)) = false := bne_f (by rw [HN3C.out])
    go_wp2_with (go_at_call 29; refine (num_any _ _).mono ?_; rintro e w' ⟨rfl, rfl⟩)
    clear hc1 hc2 hse hne c1 c6
    go_loopw [14] (fun i wr => HoInv w6 n3 i wr) (fun i _ => n3 - (intOf i).toNat)
    case atStart => exact ⟨0, by omega, rfl, Below.refl _ _⟩
    case round =>
      obtain ⟨j, hj, rfl, hB⟩ := hrel
      have HB := Lib.hid hB
      have HLY7 := Lib.hid (HLY6.out.below hB)
      have HRL7 := Lib.hid (HRL6.out.below hB)
      clear hB
      by_cases hlt : j < n3
      · obtain ⟨r, hgs, hc, hR⟩ := HRL7.out.get hlt
        have hix := fun W => Rdv.ix HRL7.out.o el55 hlt .i64 W
        obtain ⟨hvk, hsz⟩ := HSZ.out j r hgs
        have hdv : decide (VK (r.n : Int)) = true := decide_eq_true hvk
        have HDV := Lib.hid hdv
        have HW0 : Hid (W12 A3 j (.slice r.A r.n r.c) PB (lo n) (sh n) wr.drew) := Lib.hid ⟨hc, HLY7.out.cell (j := 2) rfl, HLY7.out.cell (j := 3) rfl⟩
        have HIL := Lib.hid (show wr.cell? (adr A3 j) = some (.slice r.A r.n r.c) from hc)
        have hrle := HLE.out r (List.mem_of_getElem? hgs)
        clear hc hR hvk hdv hgs
        generalize r.n = rn at *
        generalize r.A = rA at *
        generalize r.c = rc at *
        rcases hsz with hsz | ⟨hsz, hsz2⟩
        · have e1 : ((rn : Int) != (lo n : Int)) = false := bne_f (by rw [hsz])
          clear hsz
          go_wp2_with fail
          refine wp_nopanic ?_
          refine P_start (W12 A3 j (.slice rA rn rc) PB (lo n) (sh n)) 26 27 #[false, false, false, false, false, false, false, false, false, false, false, false, false, false, false, false, false, false, false, false, false, false, false, false, false, false, false] (by kernel_rfl) (by kernel_rfl) (by kernel_rfl) ?_
          refine P_takeW 0 82 (.slice A3 n3 c3) #[true, false, false, false, false, false, false, false, false, false, false, false, false, false, false, false, false, false, false, false, false, false, false, false, false, false, false] rfl rfl (by kernel_rfl) (by kernel_rfl) (by kernel_rfl) (by kernel_rfl) (by decide) (fun _ _ _ h => h) (Or.inl ⟨by rfl, fun W hS => by go_simp⟩) HW0.out ?_
          simp only [List.setIfInBounds_toArray, List.set_cons_zero, List.set_cons_succ]
          refine P_takeW 1 83 (.int .i64 (j : Int)) #[true, true, false, false, false, false, false, false, false, false, false, false, false, false, false, false, false, false, false, false, false, false, false, false, false, false, false] rfl rfl (by kernel_rfl) (by kernel_rfl) (by kernel_rfl) (by kernel_rfl) (by decide) (fun _ _ _ h => h) (Or.inl ⟨by rfl, fun W hS => by go_simp⟩) HW0.out ?_
          simp only [List.setIfInBounds_toArray, List.set_cons_zero, List.set_cons_succ]
          refine P_takeW 2 84 (.pointer (some (adr A3 j))) #[true, true, true, false, false, false, false, false, false, false, false, false, false, false, false, false, false, false, false, false, false, false, false, false, false, false, false] rfl rfl (by kernel_rfl) (by kernel_rfl) (by kernel_rfl) (by kernel_rfl) (by decide) (fun _ _ _ h => h) (Or.inl ⟨by rfl, fun W hS => by go_simp⟩) HW0.out ?_
          simp only [List.setIfInBounds_toArray, List.set_cons_zero, List.set_cons_succ]
          refine P_takeT 3 85 (.slice rA rn rc) #[true, true, true, true, false, false, false, false, false, false, false, false, false, false, false, false, false, false, false, false, false, false, false, false, false, false, false] [7, 5, 4] rfl rfl (by kernel_rfl) (by kernel_rfl) (by kernel_rfl) (by kernel_rfl) (by kernel_rfl) (by kernel_rfl) (by kernel_rfl) (by decide) (fun _ _ _ h => h) (Or.inl ⟨by rfl, fun W hS => by obtain ⟨s0, s1, s2⟩ := hS; go_simp⟩) HW0.out ?_
          simp only [List.setIfInBounds_toArray, List.set_cons_zero, List.set_cons_succ]
          refine P_takeW 4 86 (.int .i64 (rn : Int)) #[true, true, true, true, true, false, false, false, false, false, false, false, false, false, false, false, false, false, false, false, false, false, false, false, false, false, false] rfl rfl (by kernel_rfl) (by kernel_rfl) (by kernel_rfl) (by kernel_rfl) (by decide) (fun _ _ _ h => h) (Or.inl ⟨by rfl, fun W hS => by go_simp⟩) HW0.out ?_
          simp only [List.setIfInBounds_toArray, List.set_cons_zero, List.set_cons_succ]
          refine P_oneS 5 #[true, true, true, true, true, true, false, false, false, false, false, false, false, false, false, false, false, false, false, false, false, false, false, false, false, false, false] rfl (by kernel_rfl) (by kernel_rfl) rfl (fun K hK => ?_)
          go_simp
          refine (valid_seg _ _).mono ?_
          rintro e w7 ⟨rfl, hB7⟩
          rw [HDV.out]
          have HW1 : Hid (W12 A3 j (.slice rA rn rc) PB (lo n) (sh n) w7) := Lib.hid ⟨cell_below HIL.out (below_of_drew hB7), (HLY7.out.below (below_of_drew hB7)).cell (j := 2) rfl, (HLY7.out.below (below_of_drew hB7)).cell (j := 3) rfl⟩
          have HB7 := Lib.hid (below_of_drew hB7)
          clear hB7
          refine hK _ _ HW1.out ?_
          clear hK K
          refine P_takeW 6 88 (.bool false) #[true, true, true, true, true, true, true, false, false, false, false, false, false, false, false, false, false, false, false, false, false, false, false, false, false, false, false] rfl rfl (by kernel_rfl) (by kernel_rfl) (by kernel_rfl) (by kernel_rfl) (by decide) (fun _ _ _ h => h) (Or.inl ⟨by rfl, fun W hS => by go_simp⟩) HW1.out ?_
          simp only [List.setIfInBounds_toArray, List.set_cons_zero, List.set_cons_succ]
          refine P_takeW 7 89 (.bool false) #[true, true, true, true, true, true, true, true, false, false, false, false, false, false, false, false, false, false, false, false, false, false, false, false, false, false, false] rfl rfl (by kernel_rfl) (by kernel_rfl) (by kernel_rfl) (by kernel_rfl) (by decide) (fun _ _ _ h => h) (Or.inl ⟨by rfl, fun W hS => by go_simp⟩) HW1.out ?_
          simp only [List.setIfInBounds_toArray, List.set_cons_zero, List.set_cons_succ]
          refine P_takeW 8 90 (.slice A3 n3 c3) #[true, true, true, true, true, true, true, true, true, false, false, false, false, false, false, false, false, false, false, false, false, false, false, false, false, false, false] rfl rfl (by kernel_rfl) (by kernel_rfl) (by kernel_rfl) (by kernel_rfl) (by decide) (fun _ _ _ h => h) (Or.inl ⟨by rfl, fun W hS => by go_simp⟩) HW1.out ?_
          simp only [List.setIfInBounds_toArray, List.set_cons_zero, List.set_cons_succ]
          refine P_takeW 9 91 (.int .i64 (j : Int)) #[true, true, true, true, true, true, true, true, true, true, false, false, false, false, false, false, false, false, false, false, false, false, false, false, false, false, false] rfl rfl (by kernel_rfl) (by kernel_rfl) (by kernel_rfl) (by kernel_rfl) (by decide) (fun _ _ _ h => h) (Or.inl ⟨by rfl, fun W hS => by go_simp⟩) HW1.out ?_
          simp only [List.setIfInBounds_toArray, List.set_cons_zero, List.set_cons_succ]
          refine P_takeW 10 92 (.pointer (some (adr A3 j))) #[true, true, true, true, true, true, true, true, true, true, true, false, false, false, false, false, false, false, false, false, false, false, false, false, false, false, false] rfl rfl (by kernel_rfl) (by kernel_rfl) (by kernel_rfl) (by kernel_rfl) (by decide) (fun _ _ _ h => h) (Or.inl ⟨by rfl, fun W hS => by go_simp⟩) HW1.out ?_
          simp only [List.setIfInBounds_toArray, List.set_cons_zero, List.set_cons_succ]
          refine P_takeT 11 93 (.slice rA rn rc) #[true, true, true, true, true, true, true, true, true, true, true, true, false, false, false, false, false, false, false, false, false, false, false, false, false, false, false] [25, 16, 15, 12] rfl rfl (by kernel_rfl) (by kernel_rfl) (by kernel_rfl) (by kernel_rfl) (by kernel_rfl) (by kernel_rfl) (by kernel_rfl) (by decide) (fun _ _ _ h => h) (Or.inl ⟨by rfl, fun W hS => by obtain ⟨s0, s1, s2⟩ := hS; go_simp⟩) HW1.out ?_
          simp only [List.setIfInBounds_toArray, List.set_cons_zero, List.set_cons_succ]
          refine P_takeW 12 94 (.int .i64 (rn : Int)) #[true, true, true, true, true, true, true, true, true, true, true, true, true, false, false, false, false, false, false, false, false, false, false, false, false, false, false] rfl rfl (by kernel_rfl) (by kernel_rfl) (by kernel_rfl) (by kernel_rfl) (by decide) (fun _ _ _ h => h) (Or.inl ⟨by rfl, fun W hS => by go_simp⟩) HW1.out ?_
          simp only [List.setIfInBounds_toArray, List.set_cons_zero, List.set_cons_succ]
          refine P_takeW 13 95 (.pointer (some ⟨PB, 2, none⟩)) #[true, true, true, true, true, true, true, true, true, true, true, true, true, true, false, false, false, false, false, false, false, false, false, false, false, false, false] rfl rfl (by kernel_rfl) (by kernel_rfl) (by kernel_rfl) (by kernel_rfl) (by decide) (fun _ _ _ h => h) (Or.inl ⟨by rfl, fun W hS => by go_simp⟩) HW1.out ?_
          simp only [List.setIfInBounds_toArray, List.set_cons_zero, List.set_cons_succ]
          refine P_takeT 14 96 (.int .i64 (lo n : Int)) #[true, true, true, true, true, true, true, true, true, true, true, true, true, true, true, false, false, false, false, false, false, false, false, false, false, false, false] [25, 16, 15] rfl rfl (by kernel_rfl) (by kernel_rfl) (by kernel_rfl) (by kernel_rfl) (by kernel_rfl) (by kernel_rfl) (by kernel_rfl) (by decide) (fun _ _ _ h => h) (Or.inl ⟨by rfl, fun W hS => by obtain ⟨s0, s1, s2⟩ := hS; go_simp⟩) HW1.out ?_
          simp only [List.setIfInBounds_toArray, List.set_cons_zero, List.set_cons_succ]
          refine P_takeW 15 97 (.bool false) #[true, true, true, true, true, true, true, true, true, true, true, true, true, true, true, true, false, false, false, false, false, false, false, false, false, false, false] rfl rfl (by kernel_rfl) (by kernel_rfl) (by kernel_rfl) (by kernel_rfl) (by decide) (fun _ _ _ h => h) (Or.inl ⟨by rfl, fun W hS => by go_simp⟩) HW1.out ?_
          simp only [List.setIfInBounds_toArray, List.set_cons_zero, List.set_cons_succ]
          refine P_takeW 16 98 (.bool false) #[true, true, true, true, true, true, true, true, true, true, true, true, true, true, true, true, true, false, false, false, false, false, false, false, false, false, false] rfl rfl (by kernel_rfl) (by kernel_rfl) (by kernel_rfl) (by kernel_rfl) (by decide) (fun _ _ _ h => h) (Or.inl ⟨by rfl, fun W hS => by go_simp⟩) HW1.out ?_
          simp only [List.setIfInBounds_toArray, List.set_cons_zero, List.set_cons_succ]
          refine P_takeW 17 99 (undef) #[true, true, true, true, true, true, true, true, true, true, true, true, true, true, true, true, true, true, false, false, false, false, false, false, false, false, false] rfl rfl (by kernel_rfl) (by kernel_rfl) (by kernel_rfl) (by kernel_rfl) (by decide) (fun _ _ _ h => h) (Or.inr ⟨by rfl, rfl⟩) HW1.out ?_
          simp only [List.setIfInBounds_toArray, List.set_cons_zero, List.set_cons_succ]
          refine P_takeW 18 100 (undef) #[true, true, true, true, true, true, true, true, true, true, true, true, true, true, true, true, true, true, true, false, false, false, false, false, false, false, false] rfl rfl (by kernel_rfl) (by kernel_rfl) (by kernel_rfl) (by kernel_rfl) (by decide) (fun _ _ _ h => h) (Or.inr ⟨by rfl, rfl⟩) HW1.out ?_
          simp only [List.setIfInBounds_toArray, List.set_cons_zero, List.set_cons_succ]
          refine P_takeW 19 101 (undef) #[true, true, true, true, true, true, true, true, true, true, true, true, true, true, true, true, true, true, true, true, false, false, false, false, false, false, false] rfl rfl (by kernel_rfl) (by kernel_rfl) (by kernel_rfl) (by kernel_rfl) (by decide) (fun _ _ _ h => h) (Or.inr ⟨by rfl, rfl⟩) HW1.out ?_
          simp only [List.setIfInBounds_toArray, List.set_cons_zero, List.set_cons_succ]
          refine P_takeW 20 102 (undef) #[true, true, true, true, true, true, true, true, true, true, true, true, true, true, true, true, true, true, true, true, true, false, false, false, false, false, false] rfl rfl (by kernel_rfl) (by kernel_rfl) (by kernel_rfl) (by kernel_rfl) (by decide) (fun _ _ _ h => h) (Or.inr ⟨by rfl, rfl⟩) HW1.out ?_
          simp only [List.setIfInBounds_toArray, List.set_cons_zero, List.set_cons_succ]
          refine P_takeW 21 103 (undef) #[true, true, true, true, true, true, true, true, true, true, true, true, true, true, true, true, true, true, true, true, true, true, false, false, false, false, false] rfl rfl (by kernel_rfl) (by kernel_rfl) (by kernel_rfl) (by kernel_rfl) (by decide) (fun _ _ _ h => h) (Or.inr ⟨by rfl, rfl⟩) HW1.out ?_
          simp only [List.setIfInBounds_toArray, List.set_cons_zero, List.set_cons_succ]
          refine P_takeW 22 104 (undef) #[true, true, true, true, true, true, true, true, true, true, true, true, true, true, true, true, true, true, true, true, true, true, true, false, false, false, false] rfl rfl (by kernel_rfl) (by kernel_rfl) (by kernel_rfl) (by kernel_rfl) (by decide) (fun _ _ _ h => h) (Or.inr ⟨by rfl, rfl⟩) HW1.out ?_
          simp only [List.setIfInBounds_toArray, List.set_cons_zero, List.set_cons_succ]
          refine P_takeW 23 105 (undef) #[true, true, true, true, true, true, true, true, true, true, true, true, true, true, true, true, true, true, true, true, true, true, true, true, false, false, false] rfl rfl (by kernel_rfl) (by kernel_rfl) (by kernel_rfl) (by kernel_rfl) (by decide) (fun _ _ _ h => h) (Or.inr ⟨by rfl, rfl⟩) HW1.out ?_
          simp only [List.setIfInBounds_toArray, List.set_cons_zero, List.set_cons_succ]
          refine P_takeW 24 106 (undef) #[true, true, true, true, true, true, true, true, true, true, true, true, true, true, true, true, true, true, true, true, true, true, true, true, true, false, false] rfl rfl (by kernel_rfl) (by kernel_rfl) (by kernel_rfl) (by kernel_rfl) (by decide) (fun _ _ _ h => h) (Or.inr ⟨by rfl, rfl⟩) HW1.out ?_
          simp only [List.setIfInBounds_toArray, List.set_cons_zero, List.set_cons_succ]
          refine P_takeW 25 107 (.bool false) #[true, true, true, true, true, true, true, true, true, true, true, true, true, true, true, true, true, true, true, true, true, true, true, true, true, true, false] rfl rfl (by kernel_rfl) (by kernel_rfl) (by kernel_rfl) (by kernel_rfl) (by decide) (fun _ _ _ h => h) (Or.inl ⟨by rfl, fun W hS => by go_simp⟩) HW1.out ?_
          simp only [List.setIfInBounds_toArray, List.set_cons_zero, List.set_cons_succ]
          refine P_one 26 #[true, true, true, true, true, true, true, true, true, true, true, true, true, true, true, true, true, true, true, true, true, true, true, true, true, true, true] rfl (by kernel_rfl) (by kernel_rfl) rfl (by kernel_rfl) (fun K hK => ?_)
          go_simp
          refine hK _ _ ?_
          clear hK K
          refine P_done (by kernel_rfl) ?_ _
          refine noPanic_normal ?_
          go_wp2
          go_roundw
          case rel => exact ⟨j + 1, by omega, by go_num, HB.out.trans (HB7.out.mono HB.out.size)⟩
          case measure => simp [intOf]; omega
        · have e1 : ((rn : Int) != (lo n : Int)) = true := bne_t (by omega)
          have e2 : ((rn : Int) != (sh n : Int)) = false := bne_f (by rw [hsz2])
          clear hsz hsz2
          go_wp2_with fail
          refine wp_nopanic ?_
          refine P_start (W12 A3 j (.slice rA rn rc) PB (lo n) (sh n)) 26 27 #[false, false, false, false, false, false, false, false, false, false, false, false, false, false, false, false, false, false, false, false, false, false, false, false, false, false, false] (by kernel_rfl) (by kernel_rfl) (by kernel_rfl) ?_
          refine P_takeW 0 82 (.slice A3 n3 c3) #[true, false, false, false, false, false, false, false, false, false, false, false, false, false, false, false, false, false, false, false, false, false, false, false, false, false, false] rfl rfl (by kernel_rfl) (by kernel_rfl) (by kernel_rfl) (by kernel_rfl) (by decide) (fun _ _ _ h => h) (Or.inl ⟨by rfl, fun W hS => by go_simp⟩) HW0.out ?_
          simp only [List.setIfInBounds_toArray, List.set_cons_zero, List.set_cons_succ]
          refine P_takeW 1 83 (.int .i64 (j : Int)) #[true, true, false, false, false, false, false, false, false, false, false, false, false, false, false, false, false, false, false, false, false, false, false, false, false, false, false] rfl rfl (by kernel_rfl) (by kernel_rfl) (by kernel_rfl) (by kernel_rfl) (by decide) (fun _ _ _ h => h) (Or.inl ⟨by rfl, fun W hS => by go_simp⟩) HW0.out ?_
          simp only [List.setIfInBounds_toArray, List.set_cons_zero, List.set_cons_succ]
          refine P_takeW 2 84 (.pointer (some (adr A3 j))) #[true, true, true, false, false, false, false, false, false, false, false, false, false, false, false, false, false, false, false, false, false, false, false, false, false, false, false] rfl rfl (by kernel_rfl) (by kernel_rfl) (by kernel_rfl) (by kernel_rfl) (by decide) (fun _ _ _ h => h) (Or.inl ⟨by rfl, fun W hS => by go_simp⟩) HW0.out ?_
          simp only [List.setIfInBounds_toArray, List.set_cons_zero, List.set_cons_succ]
          refine P_takeT 3 85 (.slice rA rn rc) #[true, true, true, true, false, false, false, false, false, false, false, false, false, false, false, false, false, false, false, false, false, false, false, false, false, false, false] [7, 5, 4] rfl rfl (by kernel_rfl) (by kernel_rfl) (by kernel_rfl) (by kernel_rfl) (by kernel_rfl) (by kernel_rfl) (by kernel_rfl) (by decide) (fun _ _ _ h => h) (Or.inl ⟨by rfl, fun W hS => by obtain ⟨s0, s1, s2⟩ := hS; go_simp⟩) HW0.out ?_
          simp only [List.setIfInBounds_toArray, List.set_cons_zero, List.set_cons_succ]
          refine P_takeW 4 86 (.int .i64 (rn : Int)) #[true, true, true, true, true, false, false, false, false, false, false, false, false, false, false, false, false, false, false, false, false, false, false, false, false, false, false] rfl rfl (by kernel_rfl) (by kernel_rfl) (by kernel_rfl) (by kernel_rfl) (by decide) (fun _ _ _ h => h) (Or.inl ⟨by rfl, fun W hS => by go_simp⟩) HW0.out ?_
          simp only [List.setIfInBounds_toArray, List.set_cons_zero, List.set_cons_succ]
          refine P_oneS 5 #[true, true, true, true, true, true, false, false, false, false, false, false, false, false, false, false, false, false, false, false, false, false, false, false, false, false, false] rfl (by kernel_rfl) (by kernel_rfl) rfl (fun K hK => ?_)
          go_simp
          refine (valid_seg _ _).mono ?_
          rintro e w7 ⟨rfl, hB7⟩
          rw [HDV.out]
          have HW1 : Hid (W12 A3 j (.slice rA rn rc) PB (lo n) (sh n) w7) := Lib.hid ⟨cell_below HIL.out (below_of_drew hB7), (HLY7.out.below (below_of_drew hB7)).cell (j := 2) rfl, (HLY7.out.below (below_of_drew hB7)).cell (j := 3) rfl⟩
          have HB7 := Lib.hid (below_of_drew hB7)
          clear hB7
          refine hK _ _ HW1.out ?_
          clear hK K
          refine P_takeW 6 88 (.bool false) #[true, true, true, true, true, true, true, false, false, false, false, false, false, false, false, false, false, false, false, false, false, false, false, false, false, false, false] rfl rfl (by kernel_rfl) (by kernel_rfl) (by kernel_rfl) (by kernel_rfl) (by decide) (fun _ _ _ h => h) (Or.inl ⟨by rfl, fun W hS => by go_simp⟩) HW1.out ?_
          simp only [List.setIfInBounds_toArray, List.set_cons_zero, List.set_cons_succ]
          refine P_takeW 7 89 (.bool false) #[true, true, true, true, true, true, true, true, false, false, false, false, false, false, false, false, false, false, false, false, false, false, false, false, false, false, false] rfl rfl (by kernel_rfl) (by kernel_rfl) (by kernel_rfl) (by kernel_rfl) (by decide) (fun _ _ _ h => h) (Or.inl ⟨by rfl, fun W hS => by go_simp⟩) HW1.out ?_
          simp only [List.setIfInBounds_toArray, List.set_cons_zero, List.set_cons_succ]
          refine P_takeW 8 90 (.slice A3 n3 c3) #[true, true, true, true, true, true, true, true, true, false, false, false, false, false, false, false, false, false, false, false, false, false, false, false, false, false, false] rfl rfl (by kernel_rfl) (by kernel_rfl) (by kernel_rfl) (by kernel_rfl) (by decide) (fun _ _ _ h => h) (Or.inl ⟨by rfl, fun W hS => by go_simp⟩) HW1.out ?_
          simp only [List.setIfInBounds_toArray, List.set_cons_zero, List.set_cons_succ]
          refine P_takeW 9 91 (.int .i64 (j : Int)) #[true, true, true, true, true, true, true, true, true, true, false, false, false, false, false, false, false, false, false, false, false, false, false, false, false, false, false] rfl rfl (by kernel_rfl) (by kernel_rfl) (by kernel_rfl) (by kernel_rfl) (by decide) (fun _ _ _ h => h) (Or.inl ⟨by rfl, fun W hS => by go_simp⟩) HW1.out ?_
          simp only [List.setIfInBounds_toArray, List.set_cons_zero, List.set_cons_succ]
          refine P_takeW 10 92 (.pointer (some (adr A3 j))) #[true, true, true, true, true, true, true, true, true, true, true, false, false, false, false, false, false, false, false, false, false, false, false, false, false, false, false] rfl rfl (by kernel_rfl) (by kernel_rfl) (by kernel_rfl) (by kernel_rfl) (by decide) (fun _ _ _ h => h) (Or.inl ⟨by rfl, fun W hS => by go_simp⟩) HW1.out ?_
          simp only [List.setIfInBounds_toArray, List.set_cons_zero, List.set_cons_succ]
          refine P_takeT 11 93 (.slice rA rn rc) #[true, true, true, true, true, true, true, true, true, true, true, true, false, false, false, false, false, false, false, false, false, false, false, false, false, false, false] [25, 16, 15, 12] rfl rfl (by kernel_rfl) (by kernel_rfl) (by kernel_rfl) (by kernel_rfl) (by kernel_rfl) (by kernel_rfl) (by kernel_rfl) (by decide) (fun _ _ _ h => h) (Or.inl ⟨by rfl, fun W hS => by obtain ⟨s0, s1, s2⟩ := hS; go_simp⟩) HW1.out ?_
          simp only [List.setIfInBounds_toArray, List.set_cons_zero, List.set_cons_succ]
          refine P_takeW 12 94 (.int .i64 (rn : Int)) #[true, true, true, true, true, true, true, true, true, true, true, true, true, false, false, false, false, false, false, false, false, false, false, false, false, false, false] rfl rfl (by kernel_rfl) (by kernel_rfl) (by kernel_rfl) (by kernel_rfl) (by decide) (fun _ _ _ h => h) (Or.inl ⟨by rfl, fun W hS => by go_simp⟩) HW1.out ?_
          simp only [List.setIfInBounds_toArray, List.set_cons_zero, List.set_cons_succ]
          refine P_takeW 13 95 (.pointer (some ⟨PB, 2, none⟩)) #[true, true, true, true, true, true, true, true, true, true, true, true, true, true, false, false, false, false, false, false, false, false, false, false, false, false, false] rfl rfl (by kernel_rfl) (by kernel_rfl) (by kernel_rfl) (by kernel_rfl) (by decide) (fun _ _ _ h => h) (Or.inl ⟨by rfl, fun W hS => by go_simp⟩) HW1.out ?_
          simp only [List.setIfInBounds_toArray, List.set_cons_zero, List.set_cons_succ]
          refine P_takeT 14 96 (.int .i64 (lo n : Int)) #[true, true, true, true, true, true, true, true, true, true, true, true, true, true, true, false, false, false, false, false, false, false, false, false, false, false, false] [25, 16, 15] rfl rfl (by kernel_rfl) (by kernel_rfl) (by kernel_rfl) (by kernel_rfl) (by kernel_rfl) (by kernel_rfl) (by kernel_rfl) (by decide) (fun _ _ _ h => h) (Or.inl ⟨by rfl, fun W hS => by obtain ⟨s0, s1, s2⟩ := hS; go_simp⟩) HW1.out ?_
          simp only [List.setIfInBounds_toArray, List.set_cons_zero, List.set_cons_succ]
          refine P_takeW 15 97 (.bool true) #[true, true, true, true, true, true, true, true, true, true, true, true, true, true, true, true, false, false, false, false, false, false, false, false, false, false, false] rfl rfl (by kernel_rfl) (by kernel_rfl) (by kernel_rfl) (by kernel_rfl) (by decide) (fun _ _ _ h => h) (Or.inl ⟨by rfl, fun W hS => by go_simp⟩) HW1.out ?_
          simp only [List.setIfInBounds_toArray, List.set_cons_zero, List.set_cons_succ]
          refine P_takeW 16 98 (.bool true) #[true, true, true, true, true, true, true, true, true, true, true, true, true, true, true, true, true, false, false, false, false, false, false, false, false, false, false] rfl rfl (by kernel_rfl) (by kernel_rfl) (by kernel_rfl) (by kernel_rfl) (by decide) (fun _ _ _ h => h) (Or.inl ⟨by rfl, fun W hS => by go_simp⟩) HW1.out ?_
          simp only [List.setIfInBounds_toArray, List.set_cons_zero, List.set_cons_succ]
          refine P_takeW 17 99 (.slice A3 n3 c3) #[true, true, true, true, true, true, true, true, true, true, true, true, true, true, true, true, true, true, false, false, false, false, false, false, false, false, false] rfl rfl (by kernel_rfl) (by kernel_rfl) (by kernel_rfl) (by kernel_rfl) (by decide) (fun _ _ _ h => h) (Or.inl ⟨by rfl, fun W hS => by go_simp⟩) HW1.out ?_
          simp only [List.setIfInBounds_toArray, List.set_cons_zero, List.set_cons_succ]
          refine P_takeW 18 100 (.int .i64 (j : Int)) #[true, true, true, true, true, true, true, true, true, true, true, true, true, true, true, true, true, true, true, false, false, false, false, false, false, false, false] rfl rfl (by kernel_rfl) (by kernel_rfl) (by kernel_rfl) (by kernel_rfl) (by decide) (fun _ _ _ h => h) (Or.inl ⟨by rfl, fun W hS => by go_simp⟩) HW1.out ?_
          simp only [List.setIfInBounds_toArray, List.set_cons_zero, List.set_cons_succ]
          refine P_takeW 19 101 (.pointer (some (adr A3 j))) #[true, true, true, true, true, true, true, true, true, true, true, true, true, true, true, true, true, true, true, true, false, false, false, false, false, false, false] rfl rfl (by kernel_rfl) (by kernel_rfl) (by kernel_rfl) (by kernel_rfl) (by decide) (fun _ _ _ h => h) (Or.inl ⟨by rfl, fun W hS => by go_simp⟩) HW1.out ?_
          simp only [List.setIfInBounds_toArray, List.set_cons_zero, List.set_cons_succ]
          refine P_takeT 20 102 (.slice rA rn rc) #[true, true, true, true, true, true, true, true, true, true, true, true, true, true, true, true, true, true, true, true, true, false, false, false, false, false, false] [25, 24, 21] rfl rfl (by kernel_rfl) (by kernel_rfl) (by kernel_rfl) (by kernel_rfl) (by kernel_rfl) (by kernel_rfl) (by kernel_rfl) (by decide) (fun _ _ _ h => h) (Or.inl ⟨by rfl, fun W hS => by obtain ⟨s0, s1, s2⟩ := hS; go_simp⟩) HW1.out ?_
          simp only [List.setIfInBounds_toArray, List.set_cons_zero, List.set_cons_succ]
          refine P_takeW 21 103 (.int .i64 (rn : Int)) #[true, true, true, true, true, true, true, true, true, true, true, true, true, true, true, true, true, true, true, true, true, true, false, false, false, false, false] rfl rfl (by kernel_rfl) (by kernel_rfl) (by kernel_rfl) (by kernel_rfl) (by decide) (fun _ _ _ h => h) (Or.inl ⟨by rfl, fun W hS => by go_simp⟩) HW1.out ?_
          simp only [List.setIfInBounds_toArray, List.set_cons_zero, List.set_cons_succ]
          refine P_takeW 22 104 (.pointer (some ⟨PB, 3, none⟩)) #[true, true, true, true, true, true, true, true, true, true, true, true, true, true, true, true, true, true, true, true, true, true, true, false, false, false, false] rfl rfl (by kernel_rfl) (by kernel_rfl) (by kernel_rfl) (by kernel_rfl) (by decide) (fun _ _ _ h => h) (Or.inl ⟨by rfl, fun W hS => by go_simp⟩) HW1.out ?_
          simp only [List.setIfInBounds_toArray, List.set_cons_zero, List.set_cons_succ]
          refine P_takeT 23 105 (.int .i64 (sh n : Int)) #[true, true, true, true, true, true, true, true, true, true, true, true, true, true, true, true, true, true, true, true, true, true, true, true, false, false, false] [25, 24] rfl rfl (by kernel_rfl) (by kernel_rfl) (by kernel_rfl) (by kernel_rfl) (by kernel_rfl) (by kernel_rfl) (by kernel_rfl) (by decide) (fun _ _ _ h => h) (Or.inl ⟨by rfl, fun W hS => by obtain ⟨s0, s1, s2⟩ := hS; go_simp⟩) HW1.out ?_
          simp only [List.setIfInBounds_toArray, List.set_cons_zero, List.set_cons_succ]
          refine P_takeW 24 106 (.bool false) #[true, true, true, true, true, true, true, true, true, true, true, true, true, true, true, true, true, true, true, true, true, true, true, true, true, false, false] rfl rfl (by kernel_rfl) (by kernel_rfl) (by kernel_rfl) (by kernel_rfl) (by decide) (fun _ _ _ h => h) (Or.inl ⟨by rfl, fun W hS => by go_simp⟩) HW1.out ?_
          simp only [List.setIfInBounds_toArray, List.set_cons_zero, List.set_cons_succ]
          refine P_takeW 25 107 (.bool false) #[true, true, true, true, true, true, true, true, true, true, true, true, true, true, true, true, true, true, true, true, true, true, true, true, true, true, false] rfl rfl (by kernel_rfl) (by kernel_rfl) (by kernel_rfl) (by kernel_rfl) (by decide) (fun _ _ _ h => h) (Or.inl ⟨by rfl, fun W hS => by go_simp⟩) HW1.out ?_
          simp only [List.setIfInBounds_toArray, List.set_cons_zero, List.set_cons_succ]
          refine P_one 26 #[true, true, true, true, true, true, true, true, true, true, true, true, true, true, true, true, true, true, true, true, true, true, true, true, true, true, true] rfl (by kernel_rfl) (by kernel_rfl) rfl (by kernel_rfl) (fun K hK => ?_)
          go_simp
          refine hK _ _ ?_
          clear hK K
          refine P_done (by kernel_rfl) ?_ _
          refine noPanic_normal ?_
          go_wp2
          go_roundw
          case rel => exact ⟨j + 1, by omega, by go_num, HB.out.trans (HB7.out.mono HB.out.size)⟩
          case measure => simp [intOf]; omega
      · obtain rfl : j = n3 := by omega
        have c1 := HLY7.out.cell (j := 1) rfl
        have HB8 := Lib.hid (HB6.out.trans (HB.out.mono HB6.out.size))
        have HBL8 := Lib.hid (HBL6.out.below HB.out)
        have HX8 := Lib.hid (Rdv.below HX6.out HB.out)
        clear HB HLY6 HRL6 HBL6 HX6 HB6 HLY7
        by_cases h1 : n ≤ 6144
        · have e1 : ((bC n : Int) == 1) = true := by simp [hb1.2 h1]
          go_wp2_with fail
          refine (works_any _).mono ?_
          rintro e w9 ⟨rfl, hB9⟩
          have HB9 := Lib.hid (HB8.out.trans (hB9.mono HB8.out.size))
          clear hB9
          go_wp2
          go_ret
          exact ⟨rfl, HB9.out⟩
        · have e1 : ((bC n : Int) == 1) = false := beq_f (fun h => h1 (hb1.1 h))
          by_cases h2 : b1 < 0
          · have e2 : decide (b1 < (0 : Int)) = true := by simp [h2]
            go_wp2_with fail
            refine (works_any _).mono ?_
            rintro e w9 ⟨rfl, hB9⟩
            have HB9 := Lib.hid (HB8.out.trans (hB9.mono HB8.out.size))
            clear hB9
            go_wp2
            go_ret
            exact ⟨rfl, HB9.out⟩
          · have e2 : decide (b1 < (0 : Int)) = false := by simp; omega
            by_cases h3 : (j : Int) ≤ b1
            · have e3 : decide ((j : Int) ≤ b1) = true := by simp [h3]
              go_wp2_with fail
              refine (works_any _).mono ?_
              rintro e w9 ⟨rfl, hB9⟩
              have HB9 := Lib.hid (HB8.out.trans (hB9.mono HB8.out.size))
              clear hB9
              go_wp2
              go_ret
              exact ⟨rfl, HB9.out⟩
            · have e3 : decide ((j : Int) ≤ b1) = false := by simp; omega
              obtain ⟨k, rfl⟩ : ∃ k : Nat, b1 = (k : Int) := ⟨b1.toNat, by omega⟩
              have hlt : k < j := by omega
              by_cases h4 : b2 < 0
              · have e4 : decide (b2 < (0 : Int)) = true := by simp [h4]
                clear h2 h3
                go_wp2_with fail
                refine (works_any _).mono ?_
                rintro e w9 ⟨rfl, hB9⟩
                have HB9 := Lib.hid (HB8.out.trans (hB9.mono HB8.out.size))
                clear hB9
                go_wp2
                go_ret
                exact ⟨rfl, HB9.out⟩
              · have e4 : decide (b2 < (0 : Int)) = false := by simp; omega
                obtain ⟨r, hgs, hc, hR⟩ := HRL7.out.get hlt
                have hix := fun W => Rdv.ix HRL7.out.o el55 hlt .i64 W
                have HGS := Lib.hid hgs
                have HMR := Lib.hid (List.mem_of_getElem? hgs)
                have hr6 := HLE.out r HMR.out
                clear hgs h2 h3
                by_cases h5 : (r.n : Int) ≤ b2
                · have e5 : decide ((r.n : Int) ≤ b2) = true := by simp [h5]
                  clear hR
                  go_wp2_with fail
                  refine (works_any _).mono ?_
                  rintro e w9 ⟨rfl, hB9⟩
                  have HB9 := Lib.hid (HB8.out.trans (hB9.mono HB8.out.size))
                  clear hB9
                  go_wp2
                  go_ret
                  exact ⟨rfl, HB9.out⟩
                · have e5 : decide ((r.n : Int) ≤ b2) = false := by simp; omega
                  obtain ⟨q, rfl⟩ : ∃ q : Nat, b2 = (q : Int) := ⟨b2.toNat, by omega⟩
                  have hq : q < r.n := by omega
                  have hBLd := HBL8.out.below ((Below.refl wr.heap.size wr).drew)
                  have hOr := (hBLd.r r HMR.out).1
                  have hcap := Rdv.le hR
                  have hcz := Rd.cell (Own.rd hOr) hq
                  have hfz := Ownv.frozen hOr (by omega) q
                  have hiq := fun W => Rdv.ix hR el53 hq .i64 W
                  have hbt : 0 ≤ gi r.xs q ∧ gi r.xs q ≤ 1 := by rcases bit_gi (HBIT.out r HMR.out) q with h | h <;> rw [h] <;> decide
                  have hsub : IntKind.u8.wrap (1 - gi r.xs q) = 1 - gi r.xs q := by rw [IntKind.wrap_u8]; omega
                  have hsub2 : (1 - gi r.xs q) % 256 = 1 - gi r.xs q := by omega
                  have HPV := Lib.hid (BL.putv hBLd HGS.out hq (1 - gi r.xs q))
                  have HBd := Lib.hid (HB8.out.trans (((Below.refl wr.heap.size wr).drew).mono HB8.out.size))
                  have HBW := Lib.hid (HBd.out.grown HPV.out.2 HBd.out.size (fun j hj => by cases hj; exact Nat.le_trans HBS.out (Ownv.blk_of hOr (hBLd.r r HMR.out).2).1))
                  have HRW := Lib.hid (show RL (wr.drew.setCell (adr r.A q) (.int .u8 (1 - gi r.xs q))) A3 j c3 (L.set k ⟨r.A, r.n, r.c, r.xs.set q (1 - gi r.xs q)⟩) from by have := HPV.out.1; rwa [← HN3.out] at this)
                  have HSW := Lib.hid (show ∀ s ∈ L.set k ⟨r.A, r.n, r.c, r.xs.set q (1 - gi r.xs q)⟩, s.n ≤ 100000 from fun s hs => by
                    rcases List.mem_or_eq_of_mem_set hs with hs | rfl
                    · exact HS0.out s hs
                    · exact HS0.out r HMR.out)
                  have HTU := Lib.hid (HSG.out.turned h1 HGS.out hq (A := r.A) (c := r.c))
                  have HTE := Lib.hid (show jE (n : Int) (L.set k ⟨r.A, r.n, r.c, r.xs.set q (1 - gi r.xs q)⟩) ≠ 0 ∧ jR (n : Int) (L.set k ⟨r.A, r.n, r.c, r.xs.set q (1 - gi r.xs q)⟩) = [] from by
                    have h9 : ¬ ((n : Int) < 1 ∨ (79560 : Int) < (n : Int)) := by omega
                    rw [jE, if_neg h9, jR, if_neg h9]
                    exact HTU.out)
                  have HWD : Hid (W2S A3 k (.slice r.A r.n r.c) r.A q (.int .u8 (gi r.xs q)) wr.drew) := Lib.hid ⟨hc, hcz⟩
                  clear hOr hR hcap HPV hBLd HBL8 HTU hbt
                  generalize L.set k ⟨r.A, r.n, r.c, r.xs.set q (1 - gi r.xs q)⟩ = L2 at *
                  generalize gi r.xs q = bv at *
                  go_wp2_with fail
                  clear hc hcz
                  refine wp_nopanic ?_
                  refine P_start (W2S A3 k (.slice r.A r.n r.c) r.A q (.int .u8 bv)) 14 15 #[false, false, false, false, false, false, false, false, false, false, false, false, false, false, false] (by kernel_rfl) (by kernel_rfl) (by kernel_rfl) ?_
                  refine P_takeW 0 136 (.slice A3 j c3) #[true, false, false, false, false, false, false, false, false, false, false, false, false, false, false] rfl rfl (by kernel_rfl) (by kernel_rfl) (by kernel_rfl) (by kernel_rfl) (by decide) (fun _ _ _ h => h) (Or.inl ⟨by rfl, fun W hS => by go_simp⟩) HWD.out ?_
                  simp only [List.setIfInBounds_toArray, List.set_cons_zero, List.set_cons_succ]
                  refine P_takeW 1 137 (.int .i64 (k : Int)) #[true, true, false, false, false, false, false, false, false, false, false, false, false, false, false] rfl rfl (by kernel_rfl) (by kernel_rfl) (by kernel_rfl) (by kernel_rfl) (by decide) (fun _ _ _ h => h) (Or.inl ⟨by rfl, fun W hS => by go_simp⟩) HWD.out ?_
                  simp only [List.setIfInBounds_toArray, List.set_cons_zero, List.set_cons_succ]
                  refine P_takeW 2 138 (.pointer (some (adr A3 k))) #[true, true, true, false, false, false, false, false, false, false, false, false, false, false, false] rfl rfl (by kernel_rfl) (by kernel_rfl) (by kernel_rfl) (by kernel_rfl) (by decide) (fun _ _ _ h => h) (Or.inl ⟨by rfl, fun W hS => by go_simp⟩) HWD.out ?_
                  simp only [List.setIfInBounds_toArray, List.set_cons_zero, List.set_cons_succ]
                  refine P_take 3 139 (.slice r.A r.n r.c) #[true, true, true, true, false, false, false, false, false, false, false, false, false, false, false] rfl rfl (by kernel_rfl) (by kernel_rfl) (by kernel_rfl) (by kernel_rfl) (by kernel_rfl) (by kernel_rfl) (by decide) (fun _ _ _ h => h) (Or.inl ⟨by rfl, fun W hS => by obtain ⟨s0, s1⟩ := hS; go_simp⟩) HWD.out ?_
                  simp only [List.setIfInBounds_toArray, List.set_cons_zero, List.set_cons_succ]
                  refine P_takeW 4 140 (.int .i64 (q : Int)) #[true, true, true, true, true, false, false, false, false, false, false, false, false, false, false] rfl rfl (by kernel_rfl) (by kernel_rfl) (by kernel_rfl) (by kernel_rfl) (by decide) (fun _ _ _ h => h) (Or.inl ⟨by rfl, fun W hS => by go_simp⟩) HWD.out ?_
                  simp only [List.setIfInBounds_toArray, List.set_cons_zero, List.set_cons_succ]
                  refine P_takeW 5 141 (.slice A3 j c3) #[true, true, true, true, true, true, false, false, false, false, false, false, false, false, false] rfl rfl (by kernel_rfl) (by kernel_rfl) (by kernel_rfl) (by kernel_rfl) (by decide) (fun _ _ _ h => h) (Or.inl ⟨by rfl, fun W hS => by go_simp⟩) HWD.out ?_
                  simp only [List.setIfInBounds_toArray, List.set_cons_zero, List.set_cons_succ]
                  refine P_takeW 6 142 (.int .i64 (k : Int)) #[true, true, true, true, true, true, true, false, false, false, false, false, false, false, false] rfl rfl (by kernel_rfl) (by kernel_rfl) (by kernel_rfl) (by kernel_rfl) (by decide) (fun _ _ _ h => h) (Or.inl ⟨by rfl, fun W hS => by go_simp⟩) HWD.out ?_
                  simp only [List.setIfInBounds_toArray, List.set_cons_zero, List.set_cons_succ]
                  refine P_takeW 7 143 (.pointer (some (adr A3 k))) #[true, true, true, true, true, true, true, true, false, false, false, false, false, false, false] rfl rfl (by kernel_rfl) (by kernel_rfl) (by kernel_rfl) (by kernel_rfl) (by decide) (fun _ _ _ h => h) (Or.inl ⟨by rfl, fun W hS => by go_simp⟩) HWD.out ?_
                  simp only [List.setIfInBounds_toArray, List.set_cons_zero, List.set_cons_succ]
                  refine P_take 8 144 (.slice r.A r.n r.c) #[true, true, true, true, true, true, true, true, true, false, false, false, false, false, false] rfl rfl (by kernel_rfl) (by kernel_rfl) (by kernel_rfl) (by kernel_rfl) (by kernel_rfl) (by kernel_rfl) (by decide) (fun _ _ _ h => h) (Or.inl ⟨by rfl, fun W hS => by obtain ⟨s0, s1⟩ := hS; go_simp⟩) HWD.out ?_
                  simp only [List.setIfInBounds_toArray, List.set_cons_zero, List.set_cons_succ]
                  refine P_takeW 9 145 (.int .i64 (q : Int)) #[true, true, true, true, true, true, true, true, true, true, false, false, false, false, false] rfl rfl (by kernel_rfl) (by kernel_rfl) (by kernel_rfl) (by kernel_rfl) (by decide) (fun _ _ _ h => h) (Or.inl ⟨by rfl, fun W hS => by go_simp⟩) HWD.out ?_
                  simp only [List.setIfInBounds_toArray, List.set_cons_zero, List.set_cons_succ]
                  refine P_takeW 10 146 (.pointer (some (adr r.A q))) #[true, true, true, true, true, true, true, true, true, true, true, false, false, false, false] rfl rfl (by kernel_rfl) (by kernel_rfl) (by kernel_rfl) (by kernel_rfl) (by decide) (fun _ _ _ h => h) (Or.inl ⟨by rfl, fun W hS => by go_simp⟩) HWD.out ?_
                  simp only [List.setIfInBounds_toArray, List.set_cons_zero, List.set_cons_succ]
                  refine P_take 11 147 (.int .u8 bv) #[true, true, true, true, true, true, true, true, true, true, true, true, false, false, false] rfl rfl (by kernel_rfl) (by kernel_rfl) (by kernel_rfl) (by kernel_rfl) (by kernel_rfl) (by kernel_rfl) (by decide) (fun _ _ _ h => h) (Or.inl ⟨by rfl, fun W hS => by obtain ⟨s0, s1⟩ := hS; go_simp⟩) HWD.out ?_
                  simp only [List.setIfInBounds_toArray, List.set_cons_zero, List.set_cons_succ]
                  refine P_takeW 12 148 (.int .u8 (1 - bv)) #[true, true, true, true, true, true, true, true, true, true, true, true, true, false, false] rfl rfl (by kernel_rfl) (by kernel_rfl) (by kernel_rfl) (by kernel_rfl) (by decide) (fun _ _ _ h => h) (Or.inl ⟨by rfl, fun W hS => by go_simp⟩) HWD.out ?_
                  simp only [List.setIfInBounds_toArray, List.set_cons_zero, List.set_cons_succ]
                  refine P_takeW 13 149 (.pointer (some (adr r.A q))) #[true, true, true, true, true, true, true, true, true, true, true, true, true, true, false] rfl rfl (by kernel_rfl) (by kernel_rfl) (by kernel_rfl) (by kernel_rfl) (by decide) (fun _ _ _ h => h) (Or.inl ⟨by rfl, fun W hS => by go_simp⟩) HWD.out ?_
                  simp only [List.setIfInBounds_toArray, List.set_cons_zero, List.set_cons_succ]
                  refine P_one 14 #[true, true, true, true, true, true, true, true, true, true, true, true, true, true, true] rfl (by kernel_rfl) (by kernel_rfl) rfl (by kernel_rfl) (fun K hK => ?_)
                  obtain ⟨s0, s1⟩ := HWD.out
                  go_simp
                  refine hK _ _ ?_
                  clear hK K
                  refine P_done (by kernel_rfl) ?_ _
                  refine noPanic_normal ?_
                  go_wp2_with fail
                  refine (join_all (n : Int) _ _ _ L2 _ HRW.out HSW.out).mono ?_
                  rintro e w10 ⟨A10, n10, c10, rfl, hR10, hB10⟩
                  rw [HTE.out.2] at hR10
                  have hl0 := Rd.len hR10
                  have hne0 := HTE.out.1
                  have HB10 := Lib.hid (HBW.out.trans (hB10.mono HBW.out.size))
                  clear hB10 HTE hR10
                  obtain rfl : n10 = 0 := by simpa using hl0.symm
                  generalize jE (n : Int) L2 = E at *
                  have hne1 : (E != 0) = true := bne_t hne0
                  go_wp2_with fail
                  refine (num_any _ _).mono ?_
                  rintro e w' ⟨rfl, rfl⟩
                  go_wp2_with fail
                  refine (works_any _).mono ?_
                  rintro e w9 ⟨rfl, hB9⟩
                  have HB9 := Lib.hid (HB10.out.trans (hB9.mono HB10.out.size))
                  clear hB9
                  go_wp2
                  go_ret
                  exact ⟨rfl, HB9.out⟩
  · have hn0 := h3.none hE
    subst hn0
    have hne1 : (sE xs != 0) = true := bne_t hE
    clear h3
    go_wp2_with fail
    refine (num_any _ _).mono ?_
    rintro e w' ⟨rfl, rfl⟩
    go_wp2_with fail
    refine (works_any _).mono ?_
    rintro e w9 ⟨rfl, hB9⟩
    have HB9 := Lib.hid (HB3.out.trans (hB9.mono HB3.out.size))
    clear hB9
    go_wp2
    go_ret
    exact ⟨rfl, HB9.out⟩

set_option maxRecDepth 100000 in
theorem lifted (os : Os) (started : os.Started) (H : Type) (enc : TypeId × Value → H) :
    ReturnsInHanded {} Try.checked os 11 .any (Rows.segmentHoldsSpec.pre6 enc Try.prog Try.f11 Rows.segmentHoldsRow.domain false) (Rows.segmentHoldsSpec.post enc Try.prog Try.f11 false true false false) := by
  refine returnsInHanded_of_change (C := Try.checked) own started (by kernel_rfl) Try.func11
    (ChangeSpec.witness6 (enc := enc) (C := Try.checked) false ⟨#[], #[.agg #[.int .i64 0, .int .i64 0, .int .i64 0, .int .u8 0], .int .i64 0, .int .i64 0], []⟩ 8 (by kernel_rfl) (by kernel_rfl) (by kernel_rfl) (by kernel_rfl)) ?_
  intro W base args ds gs before hval0 hW hcnd _
  have hval : ∀ (j : Nat) t v, Try.f11.params[j]? = some t → args[j]? = some v → Value.okWide Try.prog W .any base t v := hval0
  have hW' := hW
  obtain ⟨p, q, hA0, hV, rfl, hfz, hnd⟩ := hW
  have hA : DataW.TrodAll enc Try.prog W 0 (fun _ => true) true Try.f11.params.toList args.toList ds p := hA0
  rw [Try.params11] at hA hval
  obtain ⟨v0, vs0, d0, ds0, p0, q0, hargs, rfl, rfl, h0, r0⟩ := trodAll_cons hA
  obtain ⟨v1, vs1, d1, ds1, p1, q1, rfl, rfl, rfl, h1, r1⟩ := trodAll_cons r0
  obtain ⟨v2, vs2, d2, ds2, p2, q2, rfl, rfl, rfl, h2, r2⟩ := trodAll_cons r1
  obtain ⟨rfl, rfl, rfl⟩ := trodAll_nil r2
  obtain rfl : args = #[v0, v1, v2] := by cases args; simp_all
  obtain ⟨rfl, rfl⟩ := trodVars_none hV
  obtain ⟨c0, c1, c2, c3, y0, y1, y2, y3, m, rfl, rfl, rfl, hy0, hy1, hy2, hy3⟩ := open_agg4 Try.underlying52 (by kernel_rfl) cellsP (hval 0 52 v0 rfl rfl) h0
  obtain ⟨l, e0, rfl, wl⟩ := DataW.trod_int Try.underlying3 hy0
  obtain ⟨s, e1, rfl, ws⟩ := DataW.trod_int Try.underlying3 hy1
  obtain ⟨a, e2, rfl, wa⟩ := DataW.trod_int Try.underlying3 hy2
  obtain ⟨y, e3, rfl, wy⟩ := DataW.trod_int Try.underlying5 hy3
  simp at e0 e1 e2 e3
  subst e0 e1 e2 e3
  obtain ⟨b1, rfl, rfl, rfl, w1⟩ := open_int Try.underlying3 (hval 1 3 v1 rfl rfl) h1
  obtain ⟨b2, rfl, rfl, rfl, w2⟩ := open_int Try.underlying3 (hval 2 3 v2 rfl rfl) h2
  clear hA0 hval0
  simp only [List.append_nil] at hW'
  have structReads : ∀ (W' : World) (sp : Nat → Bool), DataW.Trod enc Try.prog W' 0 sp true 52 (.agg #[.int .i64 l, .int .i64 s, .int .i64 a, .int .u8 y]) (.agg [.lit (.int .i64 l), .lit (.int .i64 s), .lit (.int .i64 a), .lit (.int .u8 y)]) [] := fun W' sp =>
    shut_agg4 (y0 := (.lit (.int .i64 l), [])) (y1 := (.lit (.int .i64 s), [])) (y2 := (.lit (.int .i64 a), [])) (y3 := (.lit (.int .u8 y), [])) Try.underlying52 (by kernel_rfl) cellsP ⟨1, by simp [DataW.trod, Try.underlying3, wl]⟩ ⟨1, by simp [DataW.trod, Try.underlying3, ws]⟩ ⟨1, by simp [DataW.trod, Try.underlying3, wa]⟩ ⟨1, by simp [DataW.trod, Try.underlying5, wy]⟩
  refine (walk l s a y b1 b2 W wl ws wa wy w1 w2).mono fun e W' ⟨he, bel⟩ => ?_
  subst he
  exact ⟨_, rfl, _, _, _, [], _, [], hW', trodAll_mk1 (shut_bool Try.underlying4 _), (trodAll_cons_mk (structReads _ _) (trodAll_cons_mk (shut_int Try.underlying3 w1) (trodAll_cons_mk (shut_int Try.underlying3 w2) trodAll_mk0))), rfl, bel.frame _, fun h => by cases h⟩

theorem over : Rows.segmentHoldsRow.holds Try.pinned (OpenSpec.ofChange Rows.segmentHoldsSpec) :=
  OpenClaim.holds_of_wide 11 Try.f11 rfl rfl rfl rfl rfl rfl rfl ⟨rfl, rfl, rfl, rfl, rfl⟩ rfl rfl rfl rfl rfl (by kernel_rfl) Try.func11 (by kernel_rfl)
    (of_decide_eq_true (by kernel_rfl)) (by unfold Func.isWrapper; first | (rw [if_pos (by decide +kernel)]; kernel_rfl) | (rw [if_neg (by decide +kernel)]; exact ⟨rfl, rfl⟩))
    (fun os started H enc _ => lifted os started H enc)

theorem proved : Rows.SegmentHoldsSaid :=
  over
#print axioms proved
end Go.Proofs.Ytcbbkflnenkpgaa.segmentHolds
