/-
  Contract of works: the examples of the chapter hold. Condition: none.
-/
import Derived.Test.YtcbbkflnenkpgaaSs
namespace Go.Proofs.Ytcbbkflnenkpgaa
open Go.RowKit CM
set_option linter.unusedVariables false
theorem n41 (W : World) : Calls Try.prog 22 #[.int .i64 41] W fun e w' => e = .returned (.tuple #[.int .i64 48, .int .i64 0]) ∧ Below W.heap.size W w' := next_ok 41 W (by decide)
theorem n6144 (W : World) : Calls Try.prog 22 #[.int .i64 6144] W fun e w' => e = .returned (.tuple #[.int .i64 6144, .int .i64 0]) ∧ Below W.heap.size W w' := next_ok 6144 W (by decide)
theorem n6145 (W : World) : Calls Try.prog 22 #[.int .i64 6145] W fun e w' => e = .returned (.tuple #[.int .i64 0, .int .i64 2]) ∧ W = w' := next_bad 6145 W (by decide)
theorem p0 (W : World) : Calls Try.prog 31 #[.int .i64 0] W fun e w' => e = .returned (.tuple #[.agg #[.int .i64 0, .int .i64 0, .int .i64 0, .int .i64 0, .int .i64 0, .int .i64 0, .int .i64 0], .int .i64 2]) ∧ Below W.heap.size W w' := plan_top_bad 0 W (by decide)
theorem v528 (W : World) : Calls Try.prog 27 #[.int .i64 528] W fun e w' => e = .returned (.bool true) ∧ Below W.heap.size W w' := valid_seg 528 W
theorem v520 (W : World) : Calls Try.prog 27 #[.int .i64 520] W fun e w' => e = .returned (.bool false) ∧ Below W.heap.size W w' := valid_seg 520 W
theorem pl1 (W : World) : Calls Try.prog 60 #[.int .i64 100, .agg #[.int .i64 100, .int .i64 1, .int .i64 104, .int .i64 0, .int .i64 1, .int .i64 0, .int .i64 4]] W fun e w' => e = .returned (.bool true) ∧ Below W.heap.size W w' :=
  plans_any 100 W (by decide) (by decide) 100 1 104 0 1 0 4 (by decide)
theorem pl2 (W : World) : Calls Try.prog 60 #[.int .i64 6144, .agg #[.int .i64 6144, .int .i64 1, .int .i64 6144, .int .i64 0, .int .i64 1, .int .i64 0, .int .i64 0]] W fun e w' => e = .returned (.bool true) ∧ Below W.heap.size W w' :=
  plans_any 6144 W (by decide) (by decide) 6144 1 6144 0 1 0 0 (by decide)
theorem pl3 (W : World) : Calls Try.prog 60 #[.int .i64 6145, .agg #[.int .i64 6145, .int .i64 2, .int .i64 3136, .int .i64 3072, .int .i64 1, .int .i64 1, .int .i64 15]] W fun e w' => e = .returned (.bool true) ∧ Below W.heap.size W w' :=
  plans_any 6145 W (by decide) (by decide) 6145 2 3136 3072 1 1 15 (by decide)
/-- the block of the example -/
def b40 : List Int := [0, 0] ++ List.replicate 38 1
theorem segs38 : segs 38 (List.replicate (fi 38) 0 ++ List.replicate 38 1) (bC 38) = [b40] := by decide
def SpW (w : World) (e : Ending) (w' : World) : Prop := ∃ A' c' s, e = .returned (.tuple #[.slice A' 1 c', .int .i64 0]) ∧ BL w' w.heap.size A' c' [s] ∧ s.xs = b40 ∧ Below w.heap.size w w'
theorem sp38 (A : Option Addr) (W : World) (h : Rd .u8 W A 38 38 (List.replicate 38 1)) : Calls Try.prog 34 #[.slice A 38 38] W (SpW W) := by
  refine (split_ok A 38 38 (List.replicate 38 1) W h (by decide) (by decide) (by decide)).mono ?_
  rintro e w' ⟨A', c', L, rfl, hBL, hxs, hB⟩
  rw [segs38] at hxs
  have hl := congrArg List.length hxs
  simp only [List.length_map, List.length_singleton] at hl
  obtain ⟨s, rfl⟩ := List.length_eq_one_iff.1 hl
  have hx : s.xs = b40 := by simpa using hxs
  exact ⟨A', c', s, rfl, hBL, hx, hB⟩
theorem jerr38 (s : Sv) (h : s.xs = b40) (hn : s.n = 40) : jErr 38 [s] = 0 ∧ jRes 38 [s] = List.replicate 38 1 := by
  have e : jErr 38 [s] = 0 := jErr_0 (by unfold jV; simp [h]; decide) (by show 1 = _; decide) (by unfold jS; simp [hn]; decide) (by unfold jF; simp [h]; decide) (fun h9 => absurd (by decide) h9)
  refine ⟨e, ?_⟩
  unfold jRes
  rw [if_pos e]
  simp [jD, hn, h]
  decide
theorem jerr37 (s : Sv) (h : s.xs = b40) (hn : s.n = 40) : jErr 37 [s] = 60 :=
  jErr_f (by unfold jV; simp [h]; decide) (by show 1 = _; decide) (by unfold jS; simp [hn]; decide) (by unfold jF; simp [h]; decide)
set_option maxRecDepth 100000 in
set_option maxHeartbeats 2000000 in
theorem works_any (w : World) : Calls Try.prog 30 #[] w fun e w' => e = .returned (.bool true) ∧ Below w.heap.size w w' := by
  go_enter Try.func30, Try.ntmps30
  go_wp2_with fail
  refine (n41 _).mono ?_
  rintro e w1 ⟨rfl, hB1⟩
  go_wp2_with fail
  refine (n6144 _).mono ?_
  rintro e w2 ⟨rfl, hB2⟩
  go_wp2_with fail
  refine (n6145 _).mono ?_
  rintro e w' ⟨rfl, rfl⟩
  go_wp2_with fail
  refine (p0 _).mono ?_
  rintro e w3 ⟨rfl, hB3⟩
  go_wp2_with fail
  refine (num_any _ _).mono ?_
  rintro e w' ⟨rfl, rfl⟩
  go_wp2_with fail
  refine (num_any _ _).mono ?_
  rintro e w' ⟨rfl, rfl⟩
  go_wp2_with fail
  refine (num_any _ _).mono ?_
  rintro e w' ⟨rfl, rfl⟩
  go_wp2_with fail
  refine (v528 _).mono ?_
  rintro e w4 ⟨rfl, hB4⟩
  go_wp2_with fail
  refine (v520 _).mono ?_
  rintro e w5 ⟨rfl, hB5⟩
  go_wp2_with fail
  refine (sizes_any _).mono ?_
  rintro e w6 ⟨Az, cz, rfl, hOz, hB6⟩
  go_wp2_with fail
  refine (num_any _ _).mono ?_
  rintro e w' ⟨rfl, rfl⟩
  go_wp2_with fail
  refine (pl1 _).mono ?_
  rintro e w7 ⟨rfl, hB7⟩
  go_wp2_with fail
  refine (pl2 _).mono ?_
  rintro e w8 ⟨rfl, hB8⟩
  go_wp2_with fail
  refine (pl3 _).mono ?_
  rintro e w9 ⟨rfl, hB9⟩
  go_wp2_with fail
  refine (ones_any 38 _ (by decide)).mono ?_
  rintro e w10 ⟨A10, rfl, hO10, hB10⟩
  go_wp2_with fail
  refine (sp38 _ _ (Own.rd hO10)).mono ?_
  rintro e w11 ⟨A', c', s, rfl, hBL, hxs, hB11⟩
  have hsr := (hBL.r s (by simp)).1
  have hsn : s.n = 40 := by have := Rd.len (Own.rd hsr); rw [hxs] at this; exact this.symm
  have hRL := hBL.rl
  obtain ⟨j1, j2⟩ := jerr38 s hxs hsn
  have j3 := jerr37 s hxs hsn
  have hj38 := Lib.hid (fun W h => join_any 38 A' 1 c' [s] W (by decide) (by decide) h (fun t ht => by simp at ht; subst ht; omega))
  have hj37 := Lib.hid (fun W h => join_any 37 A' 1 c' [s] W (by decide) (by decide) h (fun t ht => by simp at ht; subst ht; omega))
  unfold JPost at hj38 hj37
  have j4 : jRes 37 [s] = [] := by unfold jRes; rw [if_neg (by rw [j3]; decide)]
  rw [j1, j2] at hj38
  rw [j3, j4] at hj37
  have hc : w11.cell? (adr A' 0) = some (.slice s.A 40 s.c) := by have := hRL.o.at_ 0 s.v rfl; rw [this]; simp [Sv.v, hsn]
  have hix : ∀ W, (Instr.indexAt 55 (.slice A' 1 c') (.int .i64 0)).run Try.prog W = .ok (.pointer (some (adr A' 0))) W := fun W => Rdv.ix hRL.o el55 (j := 0) (show 0 < 1 by decide) .i64 W
  have hsr' : Rd .u8 w11 s.A 40 s.c b40 := by have := Own.rd hsr; rw [hsn, hxs] at this; exact this
  have hx0 : ∀ W, (Instr.indexAt 53 (.slice s.A 40 s.c) (.int .i64 0)).run Try.prog W = .ok (.pointer (some (adr s.A 0))) W := fun W => Rdv.ix hsr' el53 (j := 0) (by decide) .i64 W
  have hx1 : ∀ W, (Instr.indexAt 53 (.slice s.A 40 s.c) (.int .i64 1)).run Try.prog W = .ok (.pointer (some (adr s.A 1))) W := fun W => Rdv.ix hsr' el53 (j := 1) (by decide) .i64 W
  have hc0 : w11.cell? (adr s.A 0) = some (.int .u8 0) := Rd.cell hsr' (j := 0) (by decide)
  have hc1 : w11.cell? (adr s.A 1) = some (.int .u8 0) := Rd.cell hsr' (j := 1) (by decide)
  have HRL := Lib.hid hRL
  clear hRL hsr hsr' hxs hsn j1 j2 j3 j4 hBL
  go_wp2_with fail
  refine (num_any _ _).mono ?_
  rintro e w' ⟨rfl, rfl⟩
  go_wp2_with fail
  refine (hj38.out _ HRL.out).mono ?_
  rintro e w12 ⟨X, xn, xc, rfl, hX, hB12⟩
  go_wp2_with fail
  refine (hj37.out _ (HRL.out.below hB12)).mono ?_
  rintro e w13 ⟨Y, yn, yc, rfl, hY, hB13⟩
  have hxn : xn = 38 := by have := hX.len; simpa using this.symm
  subst hxn
  have hX13 := Rdv.below hX hB13
  go_wp2_with fail
  have hse : ((strOfNums (List.replicate 38 1)).toList == (strOfNums (List.replicate 38 1)).toList) = true := by simp
  have KX := Lib.hid (fun W (h : Below w13.heap.size w13 W) => conv_rd (Rdv.below hX13 h))
  have k0 := KX.out _ ((Below.refl _ w13).drew)
  obtain ⟨S1, hS1⟩ : ∃ S, S = strOfNums (List.replicate 38 1) := ⟨_, rfl⟩
  rw [← hS1] at hse k0 KX
  have HS1 := Lib.hid hS1
  clear hS1
  refine P_start (fun W' => (convert 53 9 (.slice X 38 xc)).run Try.prog W' = .ok (.string S1) W') 4 16 #[false, false, false, false, false, false, false, false, false, false, false, false, false, false, false, false] (by kernel_rfl) (by kernel_rfl) (by kernel_rfl) ?_
  refine P_takeW 0 126 (.slice X 38 xc) #[true, false, false, false, false, false, false, false, false, false, false, false, false, false, false, false] rfl rfl (by kernel_rfl) (by kernel_rfl) (by kernel_rfl) (by kernel_rfl) (by decide) (fun _ _ _ h => h) (Or.inl ⟨by rfl, fun W hS => by go_simp⟩) k0 ?_
  simp only [List.setIfInBounds_toArray, List.set_cons_zero, List.set_cons_succ]
  refine P_take 1 127 (.string S1) #[true, true, false, false, false, false, false, false, false, false, false, false, false, false, false, false] rfl rfl (by kernel_rfl) (by kernel_rfl) (by kernel_rfl) (by kernel_rfl) (by kernel_rfl) (by kernel_rfl) (by decide) (fun _ _ _ h => h) (Or.inl ⟨by rfl, fun W hS => by go_simp⟩) k0 ?_
  simp only [List.setIfInBounds_toArray, List.set_cons_zero, List.set_cons_succ]
  refine P_oneS 2 #[true, true, true, false, false, false, false, false, false, false, false, false, false, false, false, false] rfl (by kernel_rfl) (by kernel_rfl) rfl (fun K hK => ?_)
  go_simp
  refine (ones_any 38 _ (by decide)).mono ?_
  rintro e w14 ⟨A14, rfl, hO14, hB14⟩
  have k1 := KX.out _ (((Below.refl _ w13).drew).trans hB14)
  have k2 := conv_rd (Own.rd hO14)
  rw [← HS1.out] at k2
  refine hK _ _ k1 ?_
  clear hK K
  refine P_oneS 3 #[true, true, true, true, false, false, false, false, false, false, false, false, false, false, false, false] rfl (by kernel_rfl) (by kernel_rfl) rfl (fun K hK => ?_)
  go_simp
  refine hK _ _ k1 ?_
  clear hK K
  refine P_one 4 #[true, true, true, true, true, false, false, false, false, false, false, false, false, false, false, false] rfl (by kernel_rfl) (by kernel_rfl) rfl (by kernel_rfl) (fun K hK => ?_)
  go_simp
  refine hK _ _ ?_
  clear hK K
  refine P_one 5 #[true, true, true, true, true, true, false, false, false, false, false, false, false, false, false, false] rfl (by kernel_rfl) (by kernel_rfl) rfl (by kernel_rfl) (fun K hK => ?_)
  go_simp
  refine hK _ _ ?_
  clear hK K
  refine P_oneG 6 #[true, true, true, true, true, true, true, false, false, false, false, false, false, false, false, false] rfl (by kernel_rfl) (by kernel_rfl) (by rfl) (by kernel_rfl) (fun K hK => ?_)
  go_simp
  refine hK _ _ ?_
  clear hK K
  refine P_oneG 7 #[true, true, true, true, true, true, true, true, false, false, false, false, false, false, false, false] rfl (by kernel_rfl) (by kernel_rfl) (by rfl) (by kernel_rfl) (fun K hK => ?_)
  go_simp
  refine (num_any _ _).mono ?_
  rintro e w' ⟨rfl, rfl⟩
  refine hK _ _ ?_
  clear hK K
  refine P_oneG 8 #[true, true, true, true, true, true, true, true, true, false, false, false, false, false, false, false] rfl (by kernel_rfl) (by kernel_rfl) (by rfl) (by kernel_rfl) (fun K hK => ?_)
  go_simp
  refine hK _ _ ?_
  clear hK K
  refine P_one 9 #[true, true, true, true, true, true, true, true, true, true, false, false, false, false, false, false] rfl (by kernel_rfl) (by kernel_rfl) rfl (by kernel_rfl) (fun K hK => ?_)
  go_simp
  refine hK _ _ ?_
  clear hK K
  refine P_one 10 #[true, true, true, true, true, true, true, true, true, true, true, false, false, false, false, false] rfl (by kernel_rfl) (by kernel_rfl) rfl (by kernel_rfl) (fun K hK => ?_)
  go_simp
  refine hK _ _ ?_
  clear hK K
  refine P_oneG 11 #[true, true, true, true, true, true, true, true, true, true, true, true, false, false, false, false] rfl (by kernel_rfl) (by kernel_rfl) (by rfl) (by kernel_rfl) (fun K hK => ?_)
  go_simp
  refine hK _ _ ?_
  clear hK K
  refine P_oneG 12 #[true, true, true, true, true, true, true, true, true, true, true, true, true, false, false, false] rfl (by kernel_rfl) (by kernel_rfl) (by rfl) (by kernel_rfl) (fun K hK => ?_)
  go_simp
  refine (num_any _ _).mono ?_
  rintro e w' ⟨rfl, rfl⟩
  refine hK _ _ ?_
  clear hK K
  refine P_oneG 13 #[true, true, true, true, true, true, true, true, true, true, true, true, true, true, false, false] rfl (by kernel_rfl) (by kernel_rfl) (by rfl) (by kernel_rfl) (fun K hK => ?_)
  go_simp
  refine hK _ _ ?_
  clear hK K
  refine P_one 14 #[true, true, true, true, true, true, true, true, true, true, true, true, true, true, true, false] rfl (by kernel_rfl) (by kernel_rfl) rfl (by kernel_rfl) (fun K hK => ?_)
  go_simp
  refine hK _ _ ?_
  clear hK K
  refine P_one 15 #[true, true, true, true, true, true, true, true, true, true, true, true, true, true, true, true] rfl (by kernel_rfl) (by kernel_rfl) rfl (by kernel_rfl) (fun K hK => ?_)
  go_simp
  refine hK _ _ ?_
  clear hK K
  refine P_done (by kernel_rfl) ?_ _
  have d1 := hB1
  have d2 := d1.trans (hB2.mono d1.size)
  have d3 := d2.trans (hB3.mono d2.size)
  have d4 := (bal d3 _).trans (hB4.mono (bal d3 _).size)
  have d5 := d4.trans (hB5.mono d4.size)
  have d6 := d5.trans (hB6.mono d5.size)
  have d7 := d6.trans (hB7.mono d6.size)
  have d8 := d7.trans (hB8.mono d7.size)
  have d9 := d8.trans (hB9.mono d8.size)
  have d10 := d9.trans (hB10.mono d9.size)
  have d11 := d10.trans (hB11.mono d10.size)
  have d12 := d11.trans (hB12.mono d11.size)
  have d13 := d12.trans (hB13.mono d12.size)
  have d14 := d13.trans ((((Below.refl _ w13).drew).trans hB14).mono d13.size)
  have HD := Lib.hid d14
  clear d1 d2 d3 d4 d5 d6 d7 d8 d9 d10 d11 d12 d13 d14 hB1 hB2 hB3 hB4 hB5 hB6 hB7 hB8 hB9 hB10 hB11 hB12 hB13 hB14
  go_wp2
  go_ret
  exact ⟨rfl, HD.out⟩
end Go.Proofs.Ytcbbkflnenkpgaa
