/-
  Contracts of the specification's Plan and Each. Condition: none.
-/
import Derived.Test.YtcbbkflnenkpgaaGreatSh
namespace Go.Proofs.YtcbbkflnenkpgaaGreat
open Go.RowKit
set_option linter.unusedVariables false
theorem results_ct {fn : Func} {p q : Tmp} {ty : TypeId} (h : fn.results = #[.cell p ty, .tmp q]) (tmps : Array Value) (P : Program) (w : World) :
    (results fn tmps).run P w = ((asAddr (tmps.getD p undef)).run P w).andThen fun a w₁ => ((loadVar ty a).run P w₁).andThen fun v w₂ => .ok (.tuple #[v, tmps.getD q undef]) w₂ := by
  simp only [results, h]
  simp [Sem.run_bind, Result.andThen]
def RpPost (b : Nat) (w : World) (e : Ending) (w' : World) : Prop := e = .returned (.tuple #[.agg (ints8 (LY b)).toArray, .int .i64 0]) ∧ Below w.heap.size w w'
set_option maxRecDepth 100000 in
theorem rplan_bad (b : Int) (w : World) (h : b < 1 ∨ 79560 < b) : Calls Tryz.prog 76 #[.int .i64 b] w fun e w' => e = .returned (.tuple #[.agg (ints8 zero7).toArray, .int .i64 2]) ∧ Below w.heap.size w w' := by
  have hR0 : Blk (w.alloc (.cells (ints8 zero7).toArray 51)) w.heap.size 51 (ints8 zero7) := Blk.new w _ 51 rfl
  have hB0 : Below w.heap.size w (w.alloc (.cells (ints8 zero7).toArray 51)) := (Below.refl _ _).alloc (Nat.le_refl _) _
  have l1 := res23 hR0 rfl
  simp only [ints8, zero7, List.map_cons, List.map_nil] at hB0 l1
  rcases h with h | h
  · go_enter Tryz.func76, Tryz.ntmps76
    go_wp2
    refine bodyPost_ret (v := .tuple #[.agg (ints8 zero7).toArray, .int .i64 2]) ?_ rfl ⟨rfl, hB0⟩
    rw [results_ct rfl]
    simp [asAddr, l1, Sem.run_pure, Result.andThen, ints8, zero7]
  · go_enter Tryz.func76, Tryz.ntmps76
    go_wp2
    refine bodyPost_ret (v := .tuple #[.agg (ints8 zero7).toArray, .int .i64 2]) ?_ rfl ⟨rfl, hB0⟩
    rw [results_ct rfl]
    simp [asAddr, l1, Sem.run_pure, Result.andThen, ints8, zero7]
set_option maxRecDepth 100000 in
theorem rplan_one (b : Nat) (w : World) (h1 : 1 ≤ b) (h2 : b ≤ 6144) : Calls Tryz.prog 76 #[.int .i64 b] w (RpPost b w) := by
  have hN1 := nx_ge h2
  have hN2 := nx_le h2
  have hB0 : Below w.heap.size w (w.alloc (.cells (ints8 [(b : Int), 1, (nx b : Int), 0, 1, 0, (nx b : Int) - b]).toArray 51)) := (Below.refl _ _).alloc (Nat.le_refl _) _
  have l1 := res23 (Blk.new w (ints8 [(b : Int), 1, (nx b : Int), 0, 1, 0, (nx b : Int) - b]) 51 rfl) rfl
  have HLY := Lib.hid (LY_one h2)
  have HX := Lib.hid (fun w => rnext_ok b w h2)
  generalize nx b = N at *
  simp only [ints8, List.map_cons, List.map_nil] at hB0 l1
  have hd : decide (79560 < (b : Int)) = false := by simp; omega
  go_enter Tryz.func76, Tryz.ntmps76
  go_wp2_with (go_at_call 118; refine (HX.out _).mono ?_; rintro e w' ⟨rfl, rfl⟩)
  refine bodyPost_ret (v := .tuple #[.agg (ints8 (LY b)).toArray, .int .i64 0]) ?_ rfl ⟨rfl, hB0⟩
  rw [results_ct rfl, HLY.out]
  simp [asAddr, l1, Sem.run_pure, Result.andThen, ints8]
theorem short_step {V N S q : Nat} (hV : V ≤ 6144) (hV40 : 40 < V) (eN : N = nx V) (eS : S = pv V) (h1 : S ≤ q) (h2 : q < N) : VK (q : Int) ↔ q = S := by
  subst eN; subst eS
  constructor
  · intro h
    by_cases h3 : q = pv V
    · exact h3
    · exact absurd h (pv_not hV hV40 (by omega) (by omega))
  · rintro rfl; exact pv_vk hV
set_option maxRecDepth 100000 in
set_option maxHeartbeats 1000000 in
theorem rplan_many (b : Nat) (w : World) (h1 : ¬ b ≤ 6144) (h2 : b ≤ 79560) : Calls Tryz.prog 76 #[.int .i64 b] w (RpPost b w) := by
  have h6 : 6144 < b := by omega
  have hC2 := bC_two h1
  have hC13 := bC_le h2
  have hCe : ((b : Int) + 6119) / 6120 = (bC b : Int) := by unfold bC; rw [if_neg h1]; omega
  have hTe : tl b = b + bC b * 24 := by unfold tl ck; rw [if_neg h1]
  have hav := @av_le b
  have havd : av b = (tl b + bC b - 1) / bC b := rfl
  have havb := av_big h1
  have hN1 := @lo_ge b
  have hN2 := @lo_le b
  have hSb := sh_lt h1
  have eN : SZ (ix (av b)) = lo b := rfl
  have eS : SZ (ix (av b) - 1) = sh b := by unfold sh; rw [if_neg h1]; rfl
  have hlt := ix_lt hav
  have hpos := ix_pos (show 40 < av b by omega)
  have HLY := Lib.hid (show LY b = [(b : Int), (bC b : Int), (lo b : Int), (sh b : Int), (los b : Int), (shs b : Int), (fi b : Int)] from rfl)
  have htl1 := @tl_le b
  have hq := Lib.hid (show shs b = (bC b * lo b - tl b) / (lo b - sh b) by unfold shs; rw [if_neg h1])
  have hsl := shs_lt (show 1 ≤ b by omega)
  have hlos : los b = bC b - shs b := rfl
  have hfi := fi_eq (show 1 ≤ b by omega)
  have hfl := fi_lt (show 1 ≤ b by omega) h2
  have HX := Lib.hid (fun w => rnext_ok (av b) w hav)
  have HSS := Lib.hid (fun q h3 h4 => short_step (q := q) hav (show 40 < av b by omega) (show lo b = nx (av b) from rfl) (show sh b = pv (av b) by unfold sh; rw [if_neg h1]) h3 h4)
  have enx : nx (av b) = lo b := rfl
  rw [enx] at HX
  clear enx
  generalize bC b = C at *
  generalize tl b = T at *
  generalize av b = V at *
  generalize lo b = N at *
  generalize sh b = S at *
  generalize shs b = Q at *
  generalize los b = R at *
  generalize fi b = F at *
  have HEN := Lib.hid eN
  have HES := Lib.hid eS
  have HTE := Lib.hid hTe
  have HLOS := Lib.hid hlos
  have HFI := Lib.hid hfi
  have hVe : ((T : Int) + C - 1).tdiv C = V := by
    rw [Int.tdiv_eq_ediv_of_nonneg (by omega), havd]; push_cast; rw [show ((T + C - 1 : Nat) : Int) = (T : Int) + C - 1 by omega]
  have hVe' : ((T : Int) + C - 1) / C = V := by rw [← hVe, Int.tdiv_eq_ediv_of_nonneg (by omega)]
  have hTl : T ≤ 80000 := by omega
  clear eN eS hTe hlos hfi havd
  have hB0 : Below w.heap.size w (w.alloc (.cells (ints8 [(b : Int), C, N, S, R, Q, F]).toArray 51)) := (Below.refl _ _).alloc (Nat.le_refl _) _
  have l1 := res23 (Blk.new w (ints8 [(b : Int), C, N, S, R, Q, F]) 51 rfl) rfl
  simp only [ints8, List.map_cons, List.map_nil] at hB0 l1
  have HB0 := Lib.hid hB0
  have HL1 := Lib.hid l1
  obtain ⟨E1, E2, E3⟩ := plan_eqs hC13 hN2 htl1 hsl (by omega) hq.out HLOS.out HFI.out
  have HE := Lib.hid (And.intro E1 (And.intro E2 E3))
  have hT2 : (b : Int) + 24 * C = T := by rw [HTE.out]; omega
  have hd : decide (79560 < (b : Int)) = false := by simp; omega
  clear hB0 l1 E1 E2 E3
  go_enter Tryz.func76, Tryz.ntmps76
  go_wp2_with (go_at_call 118; refine (HX.out _).mono ?_; rintro e w' ⟨rfl, rfl⟩)
  clear hT2 hCe hVe hVe'
  go_loop [10] (fun k => ∃ q : Nat, S ≤ q ∧ q < N ∧ k = .int .i64 q) (fun k => (intOf k).toNat)
  case atStart => exact ⟨N - 1, by omega, by omega, by rw [show ((N - 1 : Nat) : Int) = (N : Int) - 1 by omega]⟩
  case round =>
    obtain ⟨q, g1, g2, rfl⟩ := hrel
    have hv := HSS.out q g1 g2
    by_cases hqS : q = S
    · have hdv : decide (VK (q : Int)) = true := decide_eq_true (hv.2 hqS)
      clear hv
      subst hqS
      go_wp2_with (go_at_call 119; refine (rvalid_any _ _).mono ?_; rintro e w' ⟨rfl, rfl⟩; rw [hdv])
      rw [HE.out.1, HE.out.2.1, HE.out.2.2]
      refine bodyPost_ret (v := .tuple #[.agg (ints8 (LY b)).toArray, .int .i64 0]) ?_ rfl ⟨rfl, HB0.out⟩
      have l1 := HL1.out
      rw [results_ct rfl, HLY.out]
      simp [asAddr, l1, Sem.run_pure, Result.andThen, ints8]
    · have hdv : decide (VK (q : Int)) = false := decide_eq_false (fun h => hqS (hv.1 h))
      clear hv
      go_wp2_with (go_at_call 119; refine (rvalid_any _ _).mono ?_; rintro e w' ⟨rfl, rfl⟩; rw [hdv])
      go_round
      case rel => exact ⟨q - 1, by omega, by omega, by rw [show ((q - 1 : Nat) : Int) = (q : Int) - 1 by omega]⟩
      case measure => simp [intOf]; omega
theorem rplan_ok (b : Nat) (w : World) (h1 : 1 ≤ b) (h2 : b ≤ 79560) : Calls Tryz.prog 76 #[.int .i64 b] w (RpPost b w) := by
  by_cases h : b ≤ 6144
  · exact rplan_one b w h1 h
  · exact rplan_many b w h h2
/-- the sizes of the first n blocks -/
def szs (b n : Nat) : List Int := (List.range n).map fun i => (sz b i : Int)
theorem szs_len (b n : Nat) : (szs b n).length = n := by simp [szs]
theorem szs_succ (b n : Nat) : szs b (n + 1) = szs b n ++ [(sz b n : Int)] := by simp [szs, List.range_succ]
theorem gi_szs (b n j : Nat) (h : j < n) : gi (szs b n) j = (sz b j : Int) := by
  rw [gi_eq _ _ (by rw [szs_len]; exact h)]; simp [szs]
def EaInv (w : World) (LB b C : Nat) (lay : List Int) (out i : Value) (wr : World) : Prop := ∃ (j : Nat) (A : Option Addr) (c : Nat), j ≤ C ∧ i = .int .i64 j ∧ out = .slice A j c ∧ Own .i64 3 wr w.heap.size A j c (szs b j) ∧ Below w.heap.size w wr ∧ Blk wr LB 51 (ints8 lay)
theorem sz_if (b j : Nat) : (sz b j : Int) = if (j : Int) < (shs b : Int) then (sh b : Int) else (lo b : Int) := by
  unfold sz
  by_cases h : j < shs b
  · rw [if_pos h, if_pos (by omega)]
  · rw [if_neg h, if_neg (by omega)]
set_option maxRecDepth 100000 in
set_option maxHeartbeats 1000000 in
theorem reach_ok (b : Nat) (w : World) (h1 : 1 ≤ b) (h2 : b ≤ 79560) : Calls Tryz.prog 73 #[.int .i64 b] w fun e w' => ∃ A c, e = .returned (.slice A (bC b) c) ∧ Own .i64 3 w' w.heap.size A (bC b) c (szs b (bC b)) ∧ Below w.heap.size w w' := by
  have hC13 := bC_le h2
  have HP := Lib.hid (fun W => rplan_ok b W h1 h2)
  have HLY : LY b = [(b : Int), (bC b : Int), (lo b : Int), (sh b : Int), (los b : Int), (shs b : Int), (fi b : Int)] := rfl
  have hsz : ∀ j, (sz b j : Int) = if (j : Int) < (shs b : Int) then (sh b : Int) else (lo b : Int) := sz_if b
  generalize (lo b : Int) = N at *
  generalize (sh b : Int) = S at *
  generalize (los b : Int) = R at *
  generalize (shs b : Int) = Q at *
  generalize (fi b : Int) = F at *
  generalize bC b = C at *
  unfold RpPost at HP
  rw [HLY] at HP
  simp only [ints8, List.map_cons, List.map_nil] at HP
  have HSZ := Lib.hid hsz
  clear HLY hsz
  go_enter Tryz.func73, Tryz.ntmps73
  go_wp2_with (go_at_call 76; refine (HP.out _).mono ?_; rintro e w1 ⟨rfl, hB1⟩)
  have hL := Blk.new w1 (ints8 [(b : Int), C, N, S, R, Q, F]) 51 rfl
  have hB2 := bal hB1 (.cells (ints8 [(b : Int), C, N, S, R, Q, F]).toArray 51)
  simp only [ints8, List.map_cons, List.map_nil] at hL hB2
  generalize w1.alloc (.cells #[.int .i64 b, .int .i64 C, .int .i64 N, .int .i64 S, .int .i64 R, .int .i64 Q, .int .i64 F] 51) = w2 at *
  generalize w1.heap.size = LB at *
  clear hB1
  go_loopw [5, 6] (fun out i wr => EaInv w LB b C [(b : Int), C, N, S, R, Q, F] out i wr) (fun _ i _ => C - (intOf i).toNat)
  case atStart => exact ⟨0, none, 0, by omega, rfl, rfl, Ownv.nilv 3 _ _, hB2, hL⟩
  case round =>
    obtain ⟨j, A, c, hj, rfl, rfl, hO, hB, hK⟩ := hrel
    obtain ⟨⟨c0, c1, c2, c3, c4, c5, c6⟩, -⟩ := Blk.seven hK
    have HO := Lib.hid hO
    have HB := Lib.hid hB
    have HK := Lib.hid hK
    have hsz := HSZ.out j
    clear hO hB hK hL hB2
    by_cases hlt : j < C
    · by_cases hq : (j : Int) < Q
      · rw [if_pos hq] at hsz
        have HS := Lib.hid hsz
        clear hsz
        go_wp2_with (at_builtin; refine list_of rfl fun K hK => wp_app1 _ _ 60 rfl el34 rfl (.int .i64 _) rfl rfl HO.out (by omega) (by omega) HB.out.size ?_; intro A' c' w' hO' hg; have HO' := Lib.hid hO'; have HG := Lib.hid hg; clear hO' hg; refine hK _ _ ?_; clear hK K)
        go_roundw
        case rel => exact ⟨j + 1, A', c', by omega, by go_num, rfl, Own.of_eq HO'.out rfl (by rw [szs_succ, List.map_append, HS.out]; rfl), HB.out.grown HG.out HB.out.size (fun k hk => Ownv.ob' HO.out hk), HK.out.grown HG.out (blk_ne_row HK.out HO.out (by decide))⟩
        case measure => simp [intOf]; omega
      · rw [if_neg hq] at hsz
        have HS := Lib.hid hsz
        clear hsz
        go_wp2_with (at_builtin; refine list_of rfl fun K hK => wp_app1 _ _ 60 rfl el34 rfl (.int .i64 _) rfl rfl HO.out (by omega) (by omega) HB.out.size ?_; intro A' c' w' hO' hg; have HO' := Lib.hid hO'; have HG := Lib.hid hg; clear hO' hg; refine hK _ _ ?_; clear hK K)
        go_roundw
        case rel => exact ⟨j + 1, A', c', by omega, by go_num, rfl, Own.of_eq HO'.out rfl (by rw [szs_succ, List.map_append, HS.out]; rfl), HB.out.grown HG.out HB.out.size (fun k hk => Ownv.ob' HO.out hk), HK.out.grown HG.out (blk_ne_row HK.out HO.out (by decide))⟩
        case measure => simp [intOf]; omega
    · obtain rfl : j = C := by omega
      go_wp2
      go_ret
      exact ⟨A, c, rfl, HO.out, HB.out⟩
end Go.Proofs.YtcbbkflnenkpgaaGreat
