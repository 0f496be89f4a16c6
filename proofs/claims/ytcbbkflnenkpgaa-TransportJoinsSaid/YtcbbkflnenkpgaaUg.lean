/-
  Contract of the reference's Buffer. Condition: a block size from 40 to 6144, fewer filler bits, a limit of at least 1.
-/
import Derived.Test.YtcbbkflnenkpgaaUf
namespace Go.Proofs.Ytcbbkflnenkpgaa
open Go.RowKit
set_option linter.unusedVariables false
def W2S (A : Option Addr) (k : Nat) (v : Value) (B : Option Addr) (q : Nat) (u : Value) (W : World) : Prop := W.cell? (adr A k) = some v ∧ W.cell? (adr B q) = some u
theorem cell_below {w w' : World} {p : Addr} {v : Value} (hc : w.cell? p = some v) (h : Below w.heap.size w w') : w'.cell? p = some v := (h.cell (World.block_lt_of_cell? w _ hc)).trans hc
theorem ordL_gi (d s j : Nat) (h : j < 32 * rwS d) : gi (ordL d s) j = ordV d s j := by
  unfold ordL
  rw [gi_eq _ _ (by rw [ordT_len]; exact h)]; simp [ordT]
def B1I (k f N : Nat) (w : World) (o i : Value) (wr : World) : Prop := ∃ (j : Nat) (A : Option Addr) (c : Nat), j ≤ N ∧ i = .int .i64 j ∧ o = .slice A j c ∧ Own .i64 3 wr w.heap.size A j c (bufT k f j) ∧ Below w.heap.size w wr
def B2I (k f N : Nat) (w : World) (o i : Value) (wr : World) : Prop := ∃ (j : Nat) (A : Option Addr) (c : Nat), j ≤ N ∧ i = .int .i64 j ∧ o = .slice A (N + 2 * j) c ∧ Own .i64 3 wr w.heap.size A (N + 2 * j) c (bufT k f (N + 2 * j)) ∧ Below w.heap.size w wr
def szB (k : Nat) (lim : Int) : Nat := if lim ≤ ((3 * nB k : Nat) : Int) then lim.toNat else 3 * nB k
set_option maxRecDepth 100000 in
set_option maxHeartbeats 2000000 in
theorem rbuf_ok (k f : Nat) (lim : Int) (w : World) (h1 : 40 ≤ k) (h2 : k ≤ 6144) (hf : f < k) (hl : 1 ≤ lim) : Calls Try.prog 56 #[.int .i64 k, .int .i64 f, .int .i64 lim] w fun e w' => ∃ A c, e = .returned (.slice A (szB k lim) c) ∧ Rd .i64 w' A (szB k lim) c ((bufL k f).take (szB k lim)) ∧ Below w.heap.size w w' := by
  have HO := Lib.hid (fun (s : Nat) (hs : s ≤ 2) W => rorder_ok (k + 4) s W (by omega) (by omega) hs)
  have HG := Lib.hid (fun s j (h : j < nB k) => ordL_gi (k + 4) s j h)
  have HBD := Lib.hid (fun s j => ordV_bd (d := k + 4) (s := s) (k := j) (by omega))
  have HEL := Lib.hid (fun s i W hs h3 h4 => elem_any k f s i W h2 hs h3 h4)
  have HLO := Lib.hid (fun j h => vX_lo (k := k) (f := f) (j := j) h)
  have HHI := Lib.hid (fun j => vX_hi (k := k) (f := f) (j := j))
  have HBL := Lib.hid (show bufL k f = bufT k f (3 * nB k) from rfl)
  have HSZ := Lib.hid (show szB k lim = if lim ≤ ((3 * nB k : Nat) : Int) then lim.toNat else 3 * nB k from rfl)
  have hN := nB_le h2
  have hN1 := nB_pos (k := k)
  have HO0 := Lib.hid (fun W => HO.out 0 (by decide) W)
  have HO1 := Lib.hid (fun W => HO.out 1 (by decide) W)
  have HO2 := Lib.hid (fun W => HO.out 2 (by decide) W)
  simp only [show 32 * rwS (k + 4) = nB k from rfl] at HO0 HO1 HO2
  push_cast at HO0 HO1 HO2
  generalize szB k lim = Z at *
  generalize nB k = N at *
  clear HO
  go_enter Try.func56, Try.ntmps56
  go_wp2_with fail
  refine (HO0.out _).mono ?_
  rintro e w1 ⟨B0, c0, rfl, hO0, hB1⟩
  have HR0 := Lib.hid (Own.rd hO0)
  have HB1 := Lib.hid hB1
  clear hO0 hB1
  go_wp2_with fail
  refine (HO1.out _).mono ?_
  rintro e w2 ⟨B1, c1, rfl, hO1, hB2⟩
  have HR0 := Lib.hid (Rdv.below HR0.out hB2)
  have HR1 := Lib.hid (Own.rd hO1)
  have HB2 := Lib.hid (HB1.out.trans (hB2.mono HB1.out.size))
  clear hO1 hB2
  go_wp2_with fail
  refine (HO2.out _).mono ?_
  rintro e w3 ⟨B2, c2, rfl, hO2, hB3⟩
  have HR0 := Lib.hid (Rdv.below HR0.out hB3)
  have HR1 := Lib.hid (Rdv.below HR1.out hB3)
  have HR2 := Lib.hid (Own.rd hO2)
  have HB3 := Lib.hid (HB2.out.trans (hB3.mono HB2.out.size))
  clear hO2 hB3 HB1 HB2 HO0 HO1 HO2
  go_wp2
  go_loopw [13, 14] (fun o i wr => B1I k f N w3 o i wr) (fun _ i _ => N - (intOf i).toNat)
  case atStart => exact ⟨0, none, 0, Nat.zero_le _, rfl, rfl, Own.nilv _ _ _ _, Below.refl _ _⟩
  case round =>
    obtain ⟨j, A, c, hj, rfl, rfl, hO, hB⟩ := hrel
    have HO := Lib.hid hO
    have HB := Lib.hid hB
    clear hO hB
    by_cases hlt : j < N
    · have hr := Rdv.below HR0.out HB.out
      have hc := Rd.cell hr hlt
      have hix := fun W => Rdv.ix hr el34 hlt .i64 W
      rw [HG.out 0 j hlt] at hc
      have hbd := HBD.out 0 j
      have HS := Lib.hid (bufT_succ k f j)
      have HV := Lib.hid (HLO.out j hlt)
      generalize ordV (k + 4) 0 j = v at *
      have HE := Lib.hid (fun W => HEL.out 0 v W (by decide) (by omega) (by omega))
      push_cast at HE
      generalize elV k f 0 v = e1 at *
      clear hr
      go_wp2_with (first
        | (go_at_call 89; refine (HE.out _).mono ?_; rintro e w' ⟨rfl, rfl⟩)
        | (at_builtin; refine list_of rfl fun K hK => wp_app1 _ _ 34 rfl el34 rfl (.int .i64 e1) rfl rfl HO.out (by omega) (by omega) HB.out.size ?_; intro A' c' w' hO' hg; have HO' := Lib.hid hO'; have HGR := Lib.hid hg; clear hO' hg; refine hK _ _ ?_; clear hK K))
      go_roundw
      case rel => exact ⟨j + 1, A', c', by omega, by go_num, rfl, Own.of_eq HO'.out rfl (by rw [HS.out, List.map_append, HV.out]; rfl), HB.out.grown HGR.out HB.out.size (fun k hk => Ownv.ob' HO.out hk)⟩
      case measure => simp [intOf]; omega
    · obtain rfl : j = N := by omega
      go_wp2
      go_loopw [13, 15] (fun o i wr => B2I k f j w3 o i wr) (fun _ i _ => j - (intOf i).toNat)
      case atStart => exact ⟨0, A, c, Nat.zero_le _, rfl, rfl, HO.out, HB.out⟩
      case round =>
        clear HO HB
        generalize j = N at *
        obtain ⟨j, A, c, hj, rfl, rfl, hO, hB⟩ := hrel
        have HO := Lib.hid hO
        have HB := Lib.hid hB
        clear hO hB
        by_cases hlt : j < N
        · have hr1 := Rdv.below HR1.out HB.out
          have hr2 := Rdv.below HR2.out HB.out
          have hc1 := Rd.cell hr1 hlt
          have hc2 := Rd.cell hr2 hlt
          have hix1 := fun W => Rdv.ix hr1 el34 hlt .i64 W
          have hix2 := fun W => Rdv.ix hr2 el34 hlt .i64 W
          rw [HG.out 1 j hlt] at hc1
          rw [HG.out 2 j hlt] at hc2
          have hbd1 := HBD.out 1 j
          have hbd2 := HBD.out 2 j
          have HS1 := Lib.hid (bufT_succ k f (N + 2 * j))
          have HS2 := Lib.hid (bufT_succ k f (N + 2 * j + 1))
          have HV := Lib.hid (HHI.out j)
          generalize ordV (k + 4) 1 j = v1 at *
          generalize ordV (k + 4) 2 j = v2 at *
          have HE1 := Lib.hid (fun W => HEL.out 1 v1 W (by decide) (by omega) (by omega))
          have HE2 := Lib.hid (fun W => HEL.out 2 v2 W (by decide) (by omega) (by omega))
          push_cast at HE1 HE2
          generalize elV k f 1 v1 = e1 at *
          generalize elV k f 2 v2 = e2 at *
          have HW : Hid (W2S B1 j (.int .i64 v1) B2 j (.int .i64 v2) wr.drew) := Lib.hid ⟨hc1, hc2⟩
          clear hr1 hr2 hc1 hc2
          go_wp2_with fail
          refine wp_nopanic ?_
          refine P_start (W2S B1 j (.int .i64 v1) B2 j (.int .i64 v2)) 16 18 #[false, false, false, false, false, false, false, false, false, false, false, false, false, false, false, false, false, false] (by kernel_rfl) (by kernel_rfl) (by kernel_rfl) ?_
          refine P_takeW 0 56 (.slice A (N + 2 * j) c) #[true, false, false, false, false, false, false, false, false, false, false, false, false, false, false, false, false, false] rfl rfl (by kernel_rfl) (by kernel_rfl) (by kernel_rfl) (by kernel_rfl) (by decide) (fun _ _ _ h => h) (Or.inl ⟨by rfl, fun W hS => by go_simp⟩) HW.out ?_
          simp only [List.setIfInBounds_toArray, List.set_cons_zero, List.set_cons_succ]
          refine P_takeW 1 57 (.int .i64 (k : Int)) #[true, true, false, false, false, false, false, false, false, false, false, false, false, false, false, false, false, false] rfl rfl (by kernel_rfl) (by kernel_rfl) (by kernel_rfl) (by kernel_rfl) (by decide) (fun _ _ _ h => h) (Or.inl ⟨by rfl, fun W hS => by go_simp⟩) HW.out ?_
          simp only [List.setIfInBounds_toArray, List.set_cons_zero, List.set_cons_succ]
          refine P_takeW 2 58 (.int .i64 (f : Int)) #[true, true, true, false, false, false, false, false, false, false, false, false, false, false, false, false, false, false] rfl rfl (by kernel_rfl) (by kernel_rfl) (by kernel_rfl) (by kernel_rfl) (by decide) (fun _ _ _ h => h) (Or.inl ⟨by rfl, fun W hS => by go_simp⟩) HW.out ?_
          simp only [List.setIfInBounds_toArray, List.set_cons_zero, List.set_cons_succ]
          refine P_takeW 3 59 (.slice B1 N c1) #[true, true, true, true, false, false, false, false, false, false, false, false, false, false, false, false, false, false] rfl rfl (by kernel_rfl) (by kernel_rfl) (by kernel_rfl) (by kernel_rfl) (by decide) (fun _ _ _ h => h) (Or.inl ⟨by rfl, fun W hS => by go_simp⟩) HW.out ?_
          simp only [List.setIfInBounds_toArray, List.set_cons_zero, List.set_cons_succ]
          refine P_takeW 4 60 (.int .i64 (j : Int)) #[true, true, true, true, true, false, false, false, false, false, false, false, false, false, false, false, false, false] rfl rfl (by kernel_rfl) (by kernel_rfl) (by kernel_rfl) (by kernel_rfl) (by decide) (fun _ _ _ h => h) (Or.inl ⟨by rfl, fun W hS => by go_simp⟩) HW.out ?_
          simp only [List.setIfInBounds_toArray, List.set_cons_zero, List.set_cons_succ]
          refine P_takeW 5 61 (.pointer (some (adr B1 j))) #[true, true, true, true, true, true, false, false, false, false, false, false, false, false, false, false, false, false] rfl rfl (by kernel_rfl) (by kernel_rfl) (by kernel_rfl) (by kernel_rfl) (by decide) (fun _ _ _ h => h) (Or.inl ⟨by rfl, fun W hS => by go_simp⟩) HW.out ?_
          simp only [List.setIfInBounds_toArray, List.set_cons_zero, List.set_cons_succ]
          refine P_takeT 6 62 (.int .i64 v1) #[true, true, true, true, true, true, true, false, false, false, false, false, false, false, false, false, false, false] [15, 7] rfl rfl (by kernel_rfl) (by kernel_rfl) (by kernel_rfl) (by kernel_rfl) (by kernel_rfl) (by kernel_rfl) (by kernel_rfl) (by decide) (fun _ _ _ h => h) (Or.inl ⟨by rfl, fun W hS => by obtain ⟨s0, s1⟩ := hS; go_simp⟩) HW.out ?_
          simp only [List.setIfInBounds_toArray, List.set_cons_zero, List.set_cons_succ]
          refine P_takeW 8 64 (.int .i64 (k : Int)) #[true, true, true, true, true, true, true, false, true, false, false, false, false, false, false, false, false, false] rfl rfl (by kernel_rfl) (by kernel_rfl) (by kernel_rfl) (by kernel_rfl) (by decide) (fun _ _ _ h => h) (Or.inl ⟨by rfl, fun W hS => by go_simp⟩) HW.out ?_
          simp only [List.setIfInBounds_toArray, List.set_cons_zero, List.set_cons_succ]
          refine P_takeW 9 65 (.int .i64 (f : Int)) #[true, true, true, true, true, true, true, false, true, true, false, false, false, false, false, false, false, false] rfl rfl (by kernel_rfl) (by kernel_rfl) (by kernel_rfl) (by kernel_rfl) (by decide) (fun _ _ _ h => h) (Or.inl ⟨by rfl, fun W hS => by go_simp⟩) HW.out ?_
          simp only [List.setIfInBounds_toArray, List.set_cons_zero, List.set_cons_succ]
          refine P_takeW 10 66 (.slice B2 N c2) #[true, true, true, true, true, true, true, false, true, true, true, false, false, false, false, false, false, false] rfl rfl (by kernel_rfl) (by kernel_rfl) (by kernel_rfl) (by kernel_rfl) (by decide) (fun _ _ _ h => h) (Or.inl ⟨by rfl, fun W hS => by go_simp⟩) HW.out ?_
          simp only [List.setIfInBounds_toArray, List.set_cons_zero, List.set_cons_succ]
          refine P_takeW 11 67 (.int .i64 (j : Int)) #[true, true, true, true, true, true, true, false, true, true, true, true, false, false, false, false, false, false] rfl rfl (by kernel_rfl) (by kernel_rfl) (by kernel_rfl) (by kernel_rfl) (by decide) (fun _ _ _ h => h) (Or.inl ⟨by rfl, fun W hS => by go_simp⟩) HW.out ?_
          simp only [List.setIfInBounds_toArray, List.set_cons_zero, List.set_cons_succ]
          refine P_takeW 12 68 (.pointer (some (adr B2 j))) #[true, true, true, true, true, true, true, false, true, true, true, true, true, false, false, false, false, false] rfl rfl (by kernel_rfl) (by kernel_rfl) (by kernel_rfl) (by kernel_rfl) (by decide) (fun _ _ _ h => h) (Or.inl ⟨by rfl, fun W hS => by go_simp⟩) HW.out ?_
          simp only [List.setIfInBounds_toArray, List.set_cons_zero, List.set_cons_succ]
          refine P_takeT 13 69 (.int .i64 v2) #[true, true, true, true, true, true, true, false, true, true, true, true, true, true, false, false, false, false] [14] rfl rfl (by kernel_rfl) (by kernel_rfl) (by kernel_rfl) (by kernel_rfl) (by kernel_rfl) (by kernel_rfl) (by kernel_rfl) (by decide) (fun _ _ _ h => h) (Or.inl ⟨by rfl, fun W hS => by obtain ⟨s0, s1⟩ := hS; go_simp⟩) HW.out ?_
          simp only [List.setIfInBounds_toArray, List.set_cons_zero, List.set_cons_succ]
          refine P_oneS 7 #[true, true, true, true, true, true, true, true, true, true, true, true, true, true, false, false, false, false] rfl (by kernel_rfl) (by kernel_rfl) rfl (fun K hK => ?_)
          go_simp
          refine (HE1.out _).mono ?_
          rintro e w' ⟨rfl, rfl⟩
          refine hK _ _ HW.out ?_
          clear hK K
          refine P_oneS 14 #[true, true, true, true, true, true, true, true, true, true, true, true, true, true, true, false, false, false] rfl (by kernel_rfl) (by kernel_rfl) rfl (fun K hK => ?_)
          go_simp
          refine (HE2.out _).mono ?_
          rintro e w' ⟨rfl, rfl⟩
          refine hK _ _ HW.out ?_
          clear hK K
          refine P_oneS 15 #[true, true, true, true, true, true, true, true, true, true, true, true, true, true, true, true, false, false] rfl (by kernel_rfl) (by kernel_rfl) rfl (fun K hK => ?_)
          go_simp
          refine hK _ _ ⟨cell_below HW.out.1 ((Below.refl _ wr.drew).alloc (Nat.le_refl _) _), cell_below HW.out.2 ((Below.refl _ wr.drew).alloc (Nat.le_refl _) _)⟩ ?_
          clear hK K
          refine P_one 16 #[true, true, true, true, true, true, true, true, true, true, true, true, true, true, true, true, true, false] rfl (by kernel_rfl) (by kernel_rfl) rfl (by kernel_rfl) (fun K hK => ?_)
          refine wp_app (w := wr.drew.alloc (.cells #[.int .i64 e1, .int .i64 e2] 3)) (base := w3.heap.size) (.tmp 56) (.tmp 71) 34 rfl el34 rfl rfl (Ownv.alloc (Ownv.drew HO.out) _) (Ownv.rd (Ownv.lit (base := wr.heap.size) wr.drew #[.int .i64 e1, .int .i64 e2] 3 rfl (Nat.le_refl _) (by show 2 ≤ maxLen; unfold maxLen; omega))) (by intro u hu; simp at hu; rcases hu with rfl | rfl <;> rfl) (by omega) (by unfold maxLen; omega) (by have := HB.out.size; simp; omega) ?_
          intro A' c' w' hO' hg
          have HO' := Lib.hid hO'
          have HG := Lib.hid (grownBy_of_alloc hg)
          clear hO' hg
          refine hK _ _ ?_
          clear hK K
          refine P_one 17 #[true, true, true, true, true, true, true, true, true, true, true, true, true, true, true, true, true, true] rfl (by kernel_rfl) (by kernel_rfl) rfl (by kernel_rfl) (fun K hK => ?_)
          go_simp
          refine hK _ _ ?_
          clear hK K
          refine P_done (by kernel_rfl) ?_ _
          refine noPanic_normal ?_
          go_wp2
          go_roundw
          case rel => exact ⟨j + 1, A', c', by omega, by go_num, rfl, Own.of_eq HO'.out rfl (by rw [show N + 2 * (j + 1) = N + 2 * j + 1 + 1 by omega, HS2.out, HS1.out, HV.out.1, HV.out.2]; simp), (HB.out.trans ((Below.refl _ wr).drew.mono HB.out.size)).grown HG.out HB.out.size (fun k hk => Ownv.ob' HO.out hk)⟩
          case measure => simp [intOf]; omega
        · obtain rfl : j = N := by omega
          have hO := HO.out
          rw [show j + 2 * j = 3 * j by omega] at hO ⊢
          rw [← HBL.out] at hO
          have HRF := Lib.hid (Own.rd hO)
          have hcap := Rdv.le HRF.out
          have hsl := fun (m : Nat) (hm : m ≤ 3 * j) W => Rdv.slh HRF.out el34 .i64 (m := m) (by omega) W
          have HB9 := Lib.hid (HB3.out.trans (HB.out.mono HB3.out.size))
          clear hO HO HB
          have hsz := HSZ.out
          by_cases hlim : lim ≤ ((3 * j : Nat) : Int)
          · rw [if_pos hlim] at hsz
            obtain ⟨m, rfl⟩ : ∃ m : Nat, lim = (m : Int) := ⟨lim.toNat, by omega⟩
            rw [Int.toNat_natCast] at hsz
            have hZ := hsl m (by omega)
            clear hsl
            subst hsz
            have q1 : min (Z : Int) ((3 * j : Nat) : Int) = (Z : Int) := Int.min_eq_left hlim
            go_wp2
            go_ret
            exact ⟨A, c, rfl, Rd.upto HRF.out (by omega), HB9.out⟩
          · rw [if_neg hlim] at hsz
            have hZ := hsl (3 * j) (Nat.le_refl _)
            clear hsl
            subst hsz
            go_wp2
            go_ret
            exact ⟨A, c, rfl, Rd.upto HRF.out (Nat.le_refl _), HB9.out⟩
end Go.Proofs.Ytcbbkflnenkpgaa
