/-
  The shares of the code blocks: the list in plain Lean, contract of the iterator over them. Condition: a number of blocks from 1 to 13, a valid modulation.
-/
import Derived.Test.YtcbbkflnenkpgaaGreatUo
import Derived.Test.YtcbbkflnenkpgaaGreatUm
namespace Go.Proofs.YtcbbkflnenkpgaaGreat
open Go.RowKit Go.Shelf
set_option linter.unusedVariables false
attribute [local go_sem] Oper.semAt_some
/-- the share of block i -/
def shr (C g m i : Nat) : Int := if i + g % C < C then ((g / C * m : Nat) : Int) else (((g / C + 1) * m : Nat) : Int)
def shT (C g m n : Nat) : List Int := (List.range n).map (shr C g m)
theorem shT_len (C g m n : Nat) : (shT C g m n).length = n := by simp [shT]
theorem shT_succ (C g m n : Nat) : shT C g m (n + 1) = shT C g m n ++ [shr C g m n] := by simp [shT, List.range_succ]
theorem shT_gi (C g m n i : Nat) (h : i < n) : gi (shT C g m n) i = shr C g m i := by
  rw [gi_eq _ _ (by rw [shT_len]; exact h)]; simp [shT]
def psS (C g m : Nat) : List (Int × Int) := (List.range C).map fun (i : Nat) => ((i : Int), shr C g m i)
theorem psS_len (C g m : Nat) : (psS C g m).length = C := by simp [psS]
theorem psS_get (C g m k : Nat) (h : k < (psS C g m).length) : (psS C g m)[k] = ((k : Int), shr C g m k) := by simp [psS]
def ScI (PS : List (Int × Int)) (C : Nat) (J : List (Int × Int) → World → Prop) (W0 : World) (CB KB : Nat) (cf : List Value) (i : Value) (wr : World) : Prop :=
  ∃ k : Nat, k ≤ C ∧ i = .int .i64 k ∧ J (PS.take k) wr ∧ (Blk wr CB 40 cf ∧ Blk wr KB 3 [.int .i64 C]) ∧ W0.heap.size ≤ wr.heap.size
set_option maxRecDepth 100000 in
set_option maxHeartbeats 4000000 in
theorem shs_in (l C g m CB KB : Nat) (sz lm rv : Int) (hC1 : 1 ≤ C) (hC : C ≤ 13) (hm1 : 1 ≤ m) (hm : m ≤ 6) (hg : g ≤ 65536) (Kp : World → World → Prop) (W : World)
    (hCB : Blk W CB 40 [.int .i64 sz, .int .i64 ((m * g : Nat) : Int), .int .i64 m, .int .i64 lm, .int .i64 rv]) (hKB : Blk W KB 3 [.int .i64 C])
    (hkp : ∀ A B, Kp A B → Blk A CB 40 [.int .i64 sz, .int .i64 ((m * g : Nat) : Int), .int .i64 m, .int .i64 lm, .int .i64 rv] → Blk A KB 3 [.int .i64 C] → Blk B CB 40 [.int .i64 sz, .int .i64 ((m * g : Nat) : Int), .int .i64 m, .int .i64 lm, .int .i64 rv] ∧ Blk B KB 3 [.int .i64 C])
    (hks : ∀ A B, Kp A B → A.heap.size ≤ B.heap.size)
    (J Jx : List (Int × Int) → World → Prop) (hJ : ClB J) (hJx : ClB Jx)
    (hY : ∀ pre x W1, J pre W1 → OkP (psS C g m) pre x → YieldAt Fence.wide 1 Tryz.prog l (encP x) W1 fun e W' =>
      (e = .returned (.bool true) ∧ J (pre ++ [x]) W' ∧ Kp W1 W') ∨ (e = .returned (.bool false) ∧ Jx (pre ++ [x]) W'))
    (h0 : J [] W) :
    CallsIn Fence.wide 2 Tryz.prog 105 #[.func (.yield l) #[] #[], .pointer (some ⟨CB, 0, none⟩), .pointer (some ⟨KB, 0, none⟩)] W (IdQ (psS C g m) J Jx) := by
  obtain ⟨PS, hPS⟩ : ∃ PS, PS = psS C g m := ⟨_, rfl⟩
  have HPL := Lib.hid (show PS.length = C by rw [hPS]; exact psS_len C g m)
  have HPG := Lib.hid (show ∀ k (h : k < PS.length), PS[k] = ((k : Int), shr C g m k) from fun k h => by subst hPS; exact psS_get C g m k h)
  have HSH0 := Lib.hid (fun i => show shr C g m i = if i + g % C < C then ((g / C * m : Nat) : Int) else (((g / C + 1) * m : Nat) : Int) from rfl)
  rw [← hPS] at hY ⊢
  obtain ⟨bt, hbt⟩ : ∃ bt, bt = ((m * g : Nat) : Int) := ⟨_, rfl⟩
  rw [← hbt] at hCB hkp
  have hgq : bt / (m : Int) = (g : Int) := by rw [hbt]; push_cast; exact Int.mul_ediv_cancel_left _ (by omega)
  have hgt : bt.tdiv (m : Int) = (g : Int) := by rw [Int.tdiv_eq_ediv_of_nonneg (by rw [hbt]; omega)]; exact hgq
  have hgw : IntKind.i64.wrap (g : Int) = (g : Int) := by rw [IntKind.wrap_i64]; omega
  have hmne : ¬ m = 0 := by omega
  have hCne : ¬ C = 0 := by omega
  obtain ⟨a, ha⟩ : ∃ a, a = g / C := ⟨_, rfl⟩
  obtain ⟨r, hr⟩ : ∃ r, r = g % C := ⟨_, rfl⟩
  have haq : (g : Int) / (C : Int) = (a : Int) := by rw [ha]; rfl
  have hrq : (g : Int) % (C : Int) = (r : Int) := by rw [hr]; rfl
  have hat : (g : Int).tdiv (C : Int) = (a : Int) := by rw [Int.tdiv_eq_ediv_of_nonneg (by omega)]; exact haq
  have hrt : (g : Int).tmod (C : Int) = (r : Int) := by rw [Int.tmod_eq_emod_of_nonneg (by omega)]; exact hrq
  have ha1 : a ≤ 65536 := by rw [ha]; exact Nat.le_trans (Nat.div_le_self _ _) hg
  have hrC : r < C := by rw [hr]; exact Nat.mod_lt _ (by omega)
  have haw : IntKind.i64.wrap (a : Int) = (a : Int) := by rw [IntKind.wrap_i64]; omega
  have hcw : IntKind.i64.wrap ((C : Int) - (r : Int)) = (C : Int) - (r : Int) := by rw [IntKind.wrap_i64]; omega
  have HSH : Hid (∀ i, shr C g m i = if i + r < C then ((a * m : Nat) : Int) else (((a + 1) * m : Nat) : Int)) := Lib.hid (fun i => by rw [ha, hr]; exact HSH0.out i)
  have HKP := Lib.hid hkp
  have HKS := Lib.hid hks
  clear hPS hbt ha hr HSH0 hkp hks
  have HQ0 := Lib.hid (And.intro hCB hKB)
  have c1 := hCB.cell (j := 1) (v := .int .i64 bt) rfl
  have c2 := hCB.cell (j := 2) (v := .int .i64 m) rfl
  have c3 := hKB.cell (j := 0) (v := .int .i64 C) rfl
  clear hCB hKB
  refine callsIn_of_wp Tryz.func105 rfl trivial ?_ rfl
  simp only [Tryz.ntmps105, List.size_toArray, List.length_cons, List.length_nil, Nat.reduceAdd, Nat.reduceSub, Array.replicate_succ, Array.replicate_zero, List.push_toArray, List.append_toArray, List.nil_append, List.cons_append]
  refine wpIn_scope_straight rfl ?_
  gi_wp2_with fail
  refine wpIn_label ?_
  rename_i K hK
  refine hK _ _ ?_
  clear hK K
  gi_wp2_with fail
  gi_loopw [13] (fun i wr => ScI PS C J W CB KB [.int .i64 sz, .int .i64 bt, .int .i64 m, .int .i64 lm, .int .i64 rv] i wr) (fun i _ => C - (intOf i).toNat)
  case atStart => exact ⟨0, Nat.zero_le _, rfl, h0, HQ0.out, Nat.le_refl _⟩
  case round =>
    obtain ⟨i, hi, rfl, hJs, hQ, hz⟩ := hrel
    clear c1 c2 c3
    have HJs := Lib.hid hJs
    have HQs := Lib.hid hQ
    have HZs := Lib.hid hz
    clear hJs hQ hz
    by_cases hlt : i < C
    · have hlk : i < PS.length := by rw [HPL.out]; exact hlt
      have hpk := HPG.out i hlk
      have HPT := Lib.hid (takeP_succ PS i hlk)
      have HOK := Lib.hid (show ∀ x, x = PS[i] → OkP PS (PS.take i) x from fun x hx => ⟨by rw [List.length_take]; omega, by rw [hx]; congr 1; rw [List.length_take]; omega⟩)
      have d3 := HQs.out.2.cell (j := 0) (v := .int .i64 C) rfl
      have HW : Hid (wr.drew.cell? ⟨KB, 0, none⟩ = some (.int .i64 C)) := Lib.hid d3
      have d2 := (HQs.out.1.drew).cell (j := 2) (v := .int .i64 m) rfl
      have hil : (i : Int) + 1 ≤ 14 := by omega
      by_cases hge : i + r < C
      · have HS := Lib.hid (show shr C g m i = ((a * m : Nat) : Int) from HSH.out i |>.trans (by rw [if_pos hge]))
        have hd : decide ((C : Int) - (r : Int) ≤ (i : Int)) = false := by simp; omega
        have hd2 : decide ((i : Int) ≥ (C : Int) - (r : Int)) = false := by simp; omega
        have hwm : IntKind.i64.wrap ((a : Int) * (m : Int)) = ((a * m : Nat) : Int) := by
          have hb : a * m ≤ 65537 * 6 := Nat.mul_le_mul (by omega) (by omega)
          rw [show (a : Int) * (m : Int) = ((a * m : Nat) : Int) by push_cast; rfl, IntKind.wrap_i64]
          generalize a * m = P at *
          omega
        gi_wp2_with fail
        refine wpIn_nopanic ?_
        refine PI_start (fun W => W.cell? ⟨KB, 0, none⟩ = some (.int .i64 C)) 6 7 #[false, false, false, false, false, false, false] (by kernel_rfl) (by kernel_rfl) (by kernel_rfl) ?_
        refine PI_takeW 0 19 (.int .i64 (i : Int)) #[true, false, false, false, false, false, false] rfl rfl rfl (by kernel_rfl) (by kernel_rfl) (by kernel_rfl) (by kernel_rfl) (by decide) (fun _ _ _ h => h) ⟨Or.inl ⟨by rfl, fun W hS => by go_simp⟩, fun _ => rfl⟩ HW.out ?_
        simp only [List.setIfInBounds_toArray, List.set_cons_zero, List.set_cons_succ]
        refine PI_takeW 2 21 (.int .i64 (g : Int)) #[true, false, true, false, false, false, false] rfl rfl rfl (by kernel_rfl) (by kernel_rfl) (by kernel_rfl) (by kernel_rfl) (by decide) (fun _ _ _ h => h) ⟨Or.inl ⟨by rfl, fun W hS => by go_simp⟩, fun _ => rfl⟩ HW.out ?_
        simp only [List.setIfInBounds_toArray, List.set_cons_zero, List.set_cons_succ]
        refine PI_takeT 1 20 (.int .i64 (C : Int)) #[true, true, true, false, false, false, false] [5] rfl rfl rfl (by kernel_rfl) (by kernel_rfl) (by kernel_rfl) (by kernel_rfl) (by kernel_rfl) (by kernel_rfl) (by kernel_rfl) (by decide) (fun _ _ _ h => h) ⟨Or.inl ⟨by rfl, fun W hS => by have s0 := hS; go_simp⟩, fun _ => rfl⟩ HW.out ?_
        simp only [List.setIfInBounds_toArray, List.set_cons_zero, List.set_cons_succ]
        refine PI_takeT 3 22 (.int .i64 (C : Int)) #[true, true, true, true, false, false, false] [5, 4] rfl rfl rfl (by kernel_rfl) (by kernel_rfl) (by kernel_rfl) (by kernel_rfl) (by kernel_rfl) (by kernel_rfl) (by kernel_rfl) (by decide) (fun _ _ _ h => h) ⟨Or.inl ⟨by rfl, fun W hS => by have s0 := hS; go_simp⟩, fun _ => rfl⟩ HW.out ?_
        simp only [List.setIfInBounds_toArray, List.set_cons_zero, List.set_cons_succ]
        refine PI_takeW 4 23 (.int .i64 (r : Int)) #[true, true, true, true, true, false, false] rfl rfl rfl (by kernel_rfl) (by kernel_rfl) (by kernel_rfl) (by kernel_rfl) (by decide) (fun _ _ _ h => h) ⟨Or.inl ⟨by rfl, fun W hS => by go_simp⟩, fun _ => rfl⟩ HW.out ?_
        simp only [List.setIfInBounds_toArray, List.set_cons_zero, List.set_cons_succ]
        refine PI_takeW 5 24 (.int .i64 ((C : Int) - (r : Int))) #[true, true, true, true, true, true, false] rfl rfl rfl (by kernel_rfl) (by kernel_rfl) (by kernel_rfl) (by kernel_rfl) (by decide) (fun _ _ _ h => h) ⟨Or.inl ⟨by rfl, fun W hS => by go_simp⟩, fun _ => rfl⟩ HW.out ?_
        simp only [List.setIfInBounds_toArray, List.set_cons_zero, List.set_cons_succ]
        refine PI_one 6 #[true, true, true, true, true, true, true] rfl (by kernel_rfl) (by kernel_rfl) rfl (by kernel_rfl) (fun K hK => ?_)
        refine operIn_w nofun ?_
        go_simp
        refine hK _ _ ?_
        clear hK K
        refine PI_done (by kernel_rfl) ?_ _
        refine noPanic_normal ?_
        obtain ⟨fn, tmps, assign, body, hy, hRD⟩ := hY _ ((i : Int), ((a * m : Nat) : Int)) wr.drew (hJ.call HJs.out ((Below.refl _ wr).drew)) (HOK.out _ (by rw [← HS.out]; exact hpk.symm))
        unfold encP at hy
        rw [show ((a * m : Nat) : Int) = (a : Int) * (m : Int) by push_cast; rfl] at hy
        have HRD := Lib.hid hRD
        have HPK := Lib.hid hpk
        clear hRD hpk hd hd2
        gi_wp2_with fail
        refine HRD.out.mono ?_
        rintro e W7 (⟨rfl, hJ7, hk7⟩ | ⟨rfl, hJx7⟩)
        · gi_wp2
          go_roundw
          case rel => exact ⟨i + 1, by omega, by go_num, by rw [HPT.out, HPK.out, HS.out]; exact hJ7, HKP.out _ _ hk7 (HQs.out.1.drew) (HQs.out.2.drew), Nat.le_trans HZs.out (HKS.out wr.drew _ hk7)⟩
          case measure => simp [intOf]; omega
        · gi_wp2
          go_end0
          exact ⟨⟨_, rfl⟩, .inr ⟨_, ⟨i + 1, by have := HPL.out; omega, by rw [HPT.out, HPK.out, HS.out]⟩, hJx7⟩⟩
      · have HS := Lib.hid (show shr C g m i = (((a + 1) * m : Nat) : Int) from HSH.out i |>.trans (by rw [if_neg hge]))
        have hd : decide ((C : Int) - (r : Int) ≤ (i : Int)) = true := by simp; omega
        have hd2 : decide ((i : Int) ≥ (C : Int) - (r : Int)) = true := by simp; omega
        have hwm : IntKind.i64.wrap (((a : Int) + 1) * (m : Int)) = (((a + 1) * m : Nat) : Int) := by
          have hb : (a + 1) * m ≤ 65537 * 6 := Nat.mul_le_mul (by omega) (by omega)
          rw [show ((a : Int) + 1) * (m : Int) = (((a + 1) * m : Nat) : Int) by push_cast; rfl, IntKind.wrap_i64]
          generalize (a + 1) * m = P at *
          omega
        gi_wp2_with fail
        refine wpIn_nopanic ?_
        refine PI_start (fun W => W.cell? ⟨KB, 0, none⟩ = some (.int .i64 C)) 6 7 #[false, false, false, false, false, false, false] (by kernel_rfl) (by kernel_rfl) (by kernel_rfl) ?_
        refine PI_takeW 0 19 (.int .i64 (i : Int)) #[true, false, false, false, false, false, false] rfl rfl rfl (by kernel_rfl) (by kernel_rfl) (by kernel_rfl) (by kernel_rfl) (by decide) (fun _ _ _ h => h) ⟨Or.inl ⟨by rfl, fun W hS => by go_simp⟩, fun _ => rfl⟩ HW.out ?_
        simp only [List.setIfInBounds_toArray, List.set_cons_zero, List.set_cons_succ]
        refine PI_takeW 2 21 (.int .i64 (g : Int)) #[true, false, true, false, false, false, false] rfl rfl rfl (by kernel_rfl) (by kernel_rfl) (by kernel_rfl) (by kernel_rfl) (by decide) (fun _ _ _ h => h) ⟨Or.inl ⟨by rfl, fun W hS => by go_simp⟩, fun _ => rfl⟩ HW.out ?_
        simp only [List.setIfInBounds_toArray, List.set_cons_zero, List.set_cons_succ]
        refine PI_takeT 1 20 (.int .i64 (C : Int)) #[true, true, true, false, false, false, false] [5] rfl rfl rfl (by kernel_rfl) (by kernel_rfl) (by kernel_rfl) (by kernel_rfl) (by kernel_rfl) (by kernel_rfl) (by kernel_rfl) (by decide) (fun _ _ _ h => h) ⟨Or.inl ⟨by rfl, fun W hS => by have s0 := hS; go_simp⟩, fun _ => rfl⟩ HW.out ?_
        simp only [List.setIfInBounds_toArray, List.set_cons_zero, List.set_cons_succ]
        refine PI_takeT 3 22 (.int .i64 (C : Int)) #[true, true, true, true, false, false, false] [5, 4] rfl rfl rfl (by kernel_rfl) (by kernel_rfl) (by kernel_rfl) (by kernel_rfl) (by kernel_rfl) (by kernel_rfl) (by kernel_rfl) (by decide) (fun _ _ _ h => h) ⟨Or.inl ⟨by rfl, fun W hS => by have s0 := hS; go_simp⟩, fun _ => rfl⟩ HW.out ?_
        simp only [List.setIfInBounds_toArray, List.set_cons_zero, List.set_cons_succ]
        refine PI_takeW 4 23 (.int .i64 (r : Int)) #[true, true, true, true, true, false, false] rfl rfl rfl (by kernel_rfl) (by kernel_rfl) (by kernel_rfl) (by kernel_rfl) (by decide) (fun _ _ _ h => h) ⟨Or.inl ⟨by rfl, fun W hS => by go_simp⟩, fun _ => rfl⟩ HW.out ?_
        simp only [List.setIfInBounds_toArray, List.set_cons_zero, List.set_cons_succ]
        refine PI_takeW 5 24 (.int .i64 ((C : Int) - (r : Int))) #[true, true, true, true, true, true, false] rfl rfl rfl (by kernel_rfl) (by kernel_rfl) (by kernel_rfl) (by kernel_rfl) (by decide) (fun _ _ _ h => h) ⟨Or.inl ⟨by rfl, fun W hS => by go_simp⟩, fun _ => rfl⟩ HW.out ?_
        simp only [List.setIfInBounds_toArray, List.set_cons_zero, List.set_cons_succ]
        refine PI_one 6 #[true, true, true, true, true, true, true] rfl (by kernel_rfl) (by kernel_rfl) rfl (by kernel_rfl) (fun K hK => ?_)
        refine operIn_w nofun ?_
        go_simp
        refine hK _ _ ?_
        clear hK K
        refine PI_done (by kernel_rfl) ?_ _
        refine noPanic_normal ?_
        obtain ⟨fn, tmps, assign, body, hy, hRD⟩ := hY _ ((i : Int), (((a + 1) * m : Nat) : Int)) wr.drew (hJ.call HJs.out ((Below.refl _ wr).drew)) (HOK.out _ (by rw [← HS.out]; exact hpk.symm))
        unfold encP at hy
        rw [show (((a + 1) * m : Nat) : Int) = ((a : Int) + 1) * (m : Int) by push_cast; rfl] at hy
        have HRD := Lib.hid hRD
        have HPK := Lib.hid hpk
        clear hRD hpk hd hd2
        gi_wp2_with fail
        refine HRD.out.mono ?_
        rintro e W7 (⟨rfl, hJ7, hk7⟩ | ⟨rfl, hJx7⟩)
        · gi_wp2
          go_roundw
          case rel => exact ⟨i + 1, by omega, by go_num, by rw [HPT.out, HPK.out, HS.out]; exact hJ7, HKP.out _ _ hk7 (HQs.out.1.drew) (HQs.out.2.drew), Nat.le_trans HZs.out (HKS.out wr.drew _ hk7)⟩
          case measure => simp [intOf]; omega
        · gi_wp2
          go_end0
          exact ⟨⟨_, rfl⟩, .inr ⟨_, ⟨i + 1, by have := HPL.out; omega, by rw [HPT.out, HPK.out, HS.out]⟩, hJx7⟩⟩
    · obtain rfl : i = C := by omega
      gi_wp2
      go_end0
      exact ⟨⟨_, rfl⟩, .inl ⟨_, List.take_of_length_le (Nat.le_of_eq HPL.out), HJs.out⟩⟩
end Go.Proofs.YtcbbkflnenkpgaaGreat
