/-
  Bundle of the texts CrUj CrUk CrUo CrSl CrUp CrUr CrWf CrWg. Conditions: none.
-/
import Derived.Test.YtpdalbckmfadbaaGreatBucay
import Derived.Lib.SliceRun
import Derived.Test.YtpdalbckmfadbaaGreatBucax
namespace Go.Proofs.YtpdalbckmfadbaaGreat.Cr
open Go.RowKit
set_option linter.unusedVariables false
theorem info122 : (Tryz.prog.info? 112).map (·.size) = some 4 := by kernel_rfl
theorem res122 {W : World} {b : Nat} {m : List Int} (h : Blk W b 112 (ints8 m)) (hl : m.length = 4) : (loadVar 112 ⟨b, 0, none⟩).run Tryz.prog W = .ok (.agg (ints8 m).toArray) W :=
  run_loadVar_row (P := Tryz.prog) W b 112 112 _ (0, 0) _ h Tryz.underlying112 rfl (by rw [info122]; simp [ints8, hl])
theorem szB_bd (k : Nat) {lim : Int} (h : 1 ≤ lim) : 1 ≤ szB k lim ∧ szB k lim ≤ 3 * nB k := by
  have := nB_pos (k := k)
  unfold szB
  split <;> omega
set_option maxRecDepth 100000 in
set_option maxHeartbeats 1000000 in
theorem rof_ok (k f : Nat) (lim : Int) (w : World) (h1 : 40 ≤ k) (h2 : k ≤ 6144) (hf : f < k) (hl : 1 ≤ lim) : Calls Tryz.prog 61 #[.int .i64 k, .int .i64 f, .int .i64 lim] w fun e w' => e = .returned (.tuple #[.agg #[.int .i64 k, .int .i64 f, .int .i64 (rwS (k + 4)), .int .i64 (szB k lim)], .int .i64 0]) ∧ Below w.heap.size w w' := by
  have HR := Lib.hid (fun W => crows_any (k + 4) W (by omega) (by omega))
  have hsz : szB k lim = if lim ≤ ((3 * nB k : Nat) : Int) then lim.toNat else 3 * nB k := rfl
  have hN := nB_le h2
  have hNR : nB k = 32 * rwS (k + 4) := rfl
  generalize szB k lim = Z at *
  generalize nB k = N at *
  generalize rwS (k + 4) = R at *
  push_cast at HR
  have q1 : decide ((k : Int) < 40) = false := by simp; omega
  have q2 : decide ((6144 : Int) < (k : Int)) = false := by simp; omega
  have q3 : decide ((f : Int) < 0) = false := by simp
  have q4 : decide ((k : Int) ≤ (f : Int)) = false := by simp; omega
  have q5 : decide (lim < 1) = false := by simp; omega
  have hmin : min lim (96 * (R : Int)) = (Z : Int) := by rw [hsz]; split <;> omega
  have hwm : IntKind.i64.wrap (96 * (R : Int)) = 96 * (R : Int) := by rw [IntKind.wrap_i64]; omega
  by_cases hlim : lim ≤ 96 * (R : Int)
  · have hz : lim = (Z : Int) := by rw [hsz]; split <;> omega
    clear hsz hNR hmin
    go_enter Tryz.func61, Tryz.ntmps61
    go_wp2_with (go_at_call 108; refine (HR.out _).mono ?_; rintro e w1 ⟨rfl, rfl⟩)
    refine bodyPost_ret (v := .tuple #[.agg #[.int .i64 k, .int .i64 f, .int .i64 R, .int .i64 Z], .int .i64 0]) ?_ rfl ⟨rfl, bal (Below.refl _ w) _⟩
    have l1 := res122 (m := [(k : Int), f, R, Z]) (Blk.new w (ints8 [(k : Int), f, R, Z]) 112 rfl) rfl
    simp only [ints8, List.map_cons, List.map_nil] at l1
    rw [results_ct rfl]
    simp [Act.put, asAddr, l1, Sem.run_pure, Result.andThen]
  · have hz : 96 * (R : Int) = (Z : Int) := by rw [hsz]; split <;> omega
    have hlz : (Z : Int) < lim := by omega
    have hZb : Z ≤ 20000 := by omega
    clear hlim
    clear hsz hNR hmin
    go_enter Tryz.func61, Tryz.ntmps61
    go_wp2_with (go_at_call 108; refine (HR.out _).mono ?_; rintro e w1 ⟨rfl, rfl⟩)
    refine bodyPost_ret (v := .tuple #[.agg #[.int .i64 k, .int .i64 f, .int .i64 R, .int .i64 Z], .int .i64 0]) ?_ rfl ⟨rfl, bal (Below.refl _ w) _⟩
    have l1 := res122 (m := [(k : Int), f, R, Z]) (Blk.new w (ints8 [(k : Int), f, R, Z]) 112 rfl) rfl
    simp only [ints8, List.map_cons, List.map_nil] at l1
    rw [results_ct rfl]
    simp [Act.put, asAddr, l1, Sem.run_pure, Result.andThen]
set_option maxRecDepth 100000 in
theorem buf0_ok (k f Z : Nat) (w : World) (h1 : 40 ≤ k) (h2 : k ≤ 6144) (hZ : Z ≤ 3 * nB k) : Calls Tryz.prog 79 #[.agg #[.int .i64 k, .int .i64 f, .int .i64 (rwS (k + 4)), .int .i64 Z]] w fun e w' => ∃ A, e = .returned (.slice A Z (3 * nB k)) ∧ Rd .i64 w' A Z (3 * nB k) ((bufL k f).take Z) ∧ Below w.heap.size w w' := by
  have HF := Lib.hid (fun W => full_any k f Z W h1 h2)
  have hN := nB_le h2
  generalize nB k = N at *
  generalize rwS (k + 4) = R at *
  obtain ⟨WB, hWB⟩ : ∃ B, B = w.heap.size := ⟨_, rfl⟩
  obtain ⟨W0, hW0⟩ : ∃ W, W = w.alloc (.cells #[.int .i64 k, .int .i64 f, .int .i64 R, .int .i64 Z] 112) := ⟨_, rfl⟩
  have hw0 : Blk W0 WB 112 [.int .i64 k, .int .i64 f, .int .i64 R, .int .i64 Z] := by rw [hW0, hWB]; exact Blk.new w [.int .i64 k, .int .i64 f, .int .i64 R, .int .i64 Z] 112 rfl
  have hb0 : Below w.heap.size w W0 := by rw [hW0]; exact bal (Below.refl _ w) _
  have HW := Lib.hid (hw0.drew)
  go_enter Tryz.func79, Tryz.ntmps79
  go_wp2_with fail
  rw [← hWB, ← hW0]
  clear hWB hW0 hw0
  refine wp_nopanic ?_
  refine P_start (fun W => Blk W WB 112 [.int .i64 k, .int .i64 f, .int .i64 R, .int .i64 Z]) 5 6 #[false, false, false, false, false, false] (by kernel_rfl) (by kernel_rfl) (by kernel_rfl) ?_
  refine P_take 0 3 (.agg #[.int .i64 k, .int .i64 f, .int .i64 R, .int .i64 Z]) #[true, false, false, false, false, false] rfl rfl (by kernel_rfl) (by kernel_rfl) (by kernel_rfl) (by kernel_rfl) (by kernel_rfl) (by kernel_rfl) (by decide) (fun _ _ _ h => h) (yieldsIf_load_mid rfl 112 (.tmp 1) rfl WB 0 rfl [.int .i64 k, .int .i64 f, .int .i64 R, .int .i64 Z] _ (fun W hS j v hj => by rw [Nat.zero_add]; exact Blk.cell hS hj) Tryz.underlying112 rfl info122) HW.out ?_
  simp only [List.setIfInBounds_toArray, List.set_cons_zero, List.set_cons_succ]
  refine P_takeW 2 5 (.pointer (some ⟨WB, 3, none⟩)) #[true, false, true, false, false, false] rfl rfl (by kernel_rfl) (by kernel_rfl) (by kernel_rfl) (by kernel_rfl) (by decide) (fun _ _ _ h => h) (Or.inl ⟨by rfl, fun W hS => by go_simp⟩) HW.out ?_
  simp only [List.setIfInBounds_toArray, List.set_cons_zero, List.set_cons_succ]
  refine P_take 3 6 (.int .i64 (Z : Int)) #[true, false, true, true, false, false] rfl rfl (by kernel_rfl) (by kernel_rfl) (by kernel_rfl) (by kernel_rfl) (by kernel_rfl) (by kernel_rfl) (by decide) (fun _ _ _ h => h) (Or.inl ⟨by rfl, fun W hS => by have s0 := Blk.cell hS (j := 3) (v := .int .i64 Z) rfl; go_simp⟩) HW.out ?_
  simp only [List.setIfInBounds_toArray, List.set_cons_zero, List.set_cons_succ]
  refine P_oneS 1 #[true, true, true, true, false, false] rfl (by kernel_rfl) (by kernel_rfl) rfl (fun K hK => ?_)
  go_simp
  refine (HF.out _).mono ?_
  rintro e w5 ⟨A, rfl, hO5, hB5⟩
  have hB5' := (Below.refl w.heap.size W0).drew.trans (hB5.mono (by have := hb0.size; exact this))
  have HW5 := Lib.hid (HW.out.below hB5)
  have HO5 := Lib.hid hO5
  have HB5 := Lib.hid (hb0.trans hB5')
  have hsl := fun W => Rdv.slh (Own.rd hO5) el34 .i64 (m := Z) (by omega) W
  clear hO5 hB5 hB5'
  refine hK _ _ HW5.out ?_
  clear hK K
  refine P_takeW 4 7 (.slice A Z (3 * N)) #[true, true, true, true, true, false] rfl rfl (by kernel_rfl) (by kernel_rfl) (by kernel_rfl) (by kernel_rfl) (by decide) (fun _ _ _ h => h) (Or.inl ⟨by rfl, fun W hS => by go_simp⟩) HW5.out ?_
  simp only [List.setIfInBounds_toArray, List.set_cons_zero, List.set_cons_succ]
  refine P_one 5 #[true, true, true, true, true, true] rfl (by kernel_rfl) (by kernel_rfl) rfl (by kernel_rfl) (fun K hK => ?_)
  go_simp
  refine hK _ _ ?_
  clear hK K
  refine P_done (by kernel_rfl) ?_ _
  refine noPanic_normal ?_
  go_wp2
  go_ret
  exact ⟨A, rfl, Rd.upto (Own.rd HO5.out) (by omega), HB5.out⟩
theorem cloneI_any (A : Option Addr) (n c : Nat) (xs : List Int) (w : World) (h : Rd .i64 w A n c xs) (hn : n ≤ 200000) :
    Calls Tryz.prog 48 #[.slice A n c] w fun e w' => ∃ A' c', e = .returned (.slice A' n c') ∧ Own .i64 3 w' w.heap.size A' n c' xs ∧ Below w.heap.size w w' := by
  have e1 := fun W => Lib.run_eql_slice_nil (P := Tryz.prog) W 34 3 A n c 0 0 el34.u
  cases A with
  | none =>
    have hc := h.nil rfl
    have hnc := h.le
    obtain rfl : n = 0 := by omega
    subst hc
    obtain rfl : xs = [] := List.eq_nil_of_length_eq_zero h.len
    go_enter Tryz.func48, Tryz.ntmps48
    go_wp2
    go_ret
    exact ⟨none, 0, rfl, Own.nilv .i64 3 w _, Below.refl _ _⟩
  | some ad =>
    have h1 := Rdv.alloc h (.cells #[] 3)
    have hO0 : Ownv 3 (w.alloc (.cells #[] 3)) w.heap.size (some ⟨w.heap.size, 0, none⟩) 0 0 [] := Ownv.lit w #[] 3 rfl (Nat.le_refl _) (Nat.zero_le _)
    go_enter Tryz.func48, Tryz.ntmps48
    go_wp2_with (at_builtin; go_loud (refine list_of rfl fun K hK => wp_app _ _ 34 rfl el34 rfl rfl hO0 h1 (oneCell_ints .i64 xs) (by omega) (by unfold maxLen; omega) (by simp) ?_); intro A' c' w' hO hg; refine hK _ _ ?_; clear hK K)
    go_ret
    exact ⟨A', c', ret_sl rfl rfl rfl, Own.of_eq hO (Nat.zero_add n) (List.nil_append _), (Below.refl _ _).grown (grownBy_of_alloc hg) (Nat.le_refl _) (by simp [Value.ownBlock])⟩
set_option maxRecDepth 100000 in
theorem buffer_ok (k f : Nat) (lim : Int) (w : World) (h1 : 40 ≤ k) (h2 : k ≤ 6144) (hf : f < k) (hl : 1 ≤ lim) : Calls Tryz.prog 74 #[.int .i64 k, .int .i64 f, .int .i64 lim] w fun e w' => ∃ A c, e = .returned (.tuple #[.slice A (szB k lim) c, .int .i64 0]) ∧ Own .i64 3 w' w.heap.size A (szB k lim) c ((bufL k f).take (szB k lim)) ∧ Below w.heap.size w w' := by
  have HOF := Lib.hid (fun W => rof_ok k f lim W h1 h2 hf hl)
  have hzb := szB_bd k hl
  have HBF := Lib.hid (fun W => buf0_ok k f (szB k lim) W h1 h2 hzb.2)
  have hN := nB_le h2
  generalize szB k lim = Z at *
  generalize nB k = N at *
  generalize rwS (k + 4) = R at *
  go_enter Tryz.func74, Tryz.ntmps74
  go_wp2_with fail
  refine (HOF.out _).mono ?_
  rintro e w1 ⟨rfl, hB1⟩
  have HL := Lib.hid (Blk.new w1 [.int .i64 k, .int .i64 f, .int .i64 R, .int .i64 Z] 112 rfl)
  have HB1 := Lib.hid (bal hB1 (.cells #[.int .i64 k, .int .i64 f, .int .i64 R, .int .i64 Z] 112))
  have hL := HL.out
  clear hB1
  go_wp2_with (refine ldrow (cs := [.int .i64 k, .int .i64 f, .int .i64 R, .int .i64 Z]) rfl 112 (.tmp 8) rfl rfl hL _ Tryz.underlying112 rfl info122 ?_)
  clear hL
  refine (HBF.out _).mono ?_
  rintro e w2 ⟨A, rfl, hR, hB2⟩
  have HR := Lib.hid hR
  have HB2 := Lib.hid (HB1.out.trans (hB2.mono HB1.out.size))
  clear hR hB2
  go_wp2_with fail
  refine (cloneI_any A Z _ _ w2 HR.out (by omega)).mono ?_
  rintro e w3 ⟨A', c', rfl, hO, hB3⟩
  have HO := Lib.hid hO
  have HB3 := Lib.hid (HB2.out.trans (hB3.mono HB2.out.size))
  have HS := Lib.hid HB2.out.size
  clear hO hB3
  go_wp2
  go_ret2
  exact ⟨A', c', rfl, Ownv.mono HO.out HS.out, HB3.out⟩
end Go.Proofs.YtpdalbckmfadbaaGreat.Cr

namespace Go.Proofs.YtpdalbckmfadbaaGreat.Cr
open Go.RowKit
set_option linter.unusedVariables false
theorem cl86_any (x : Int) (w : World) : Calls Tryz.prog 76 #[.int .i64 x] w fun e w' => e = .returned (.bool (decide (x < 0))) ∧ w = w' := by
  have H87 : ∀ W, Calls Tryz.prog 77 #[.int .i64 x] W fun e w' => e = .returned (.bool (decide (0 ≤ x))) ∧ W = w' := by
    intro W
    go_enter Tryz.func77, Tryz.ntmps77
    go_wp2
    go_ret
    exact ⟨rfl, by trivial⟩
  have hd : (!decide (0 ≤ x)) = decide (x < 0) := by
    by_cases h : 0 ≤ x
    · rw [decide_eq_true h, decide_eq_false (by omega)]; rfl
    · rw [decide_eq_false h, decide_eq_true (by omega)]; rfl
  have HD := Lib.hid hd
  clear hd
  go_enter Tryz.func76, Tryz.ntmps76
  go_wp2_with fail
  refine (H87 _).mono ?_
  rintro e w' ⟨rfl, rfl⟩
  by_cases h : 0 ≤ x
  · have q : decide (0 ≤ x) = true := decide_eq_true h
    rw [q]
    go_wp2
    go_ret
    exact ⟨ret_bool (decide_eq_false (by omega)).symm, by trivial⟩
  · have q : decide (0 ≤ x) = false := decide_eq_false h
    rw [q]
    go_wp2
    go_ret
    exact ⟨ret_bool (decide_eq_true (by omega)).symm, by trivial⟩
def IxP (n : Nat) (xs : List Int) (r : Int) : Prop := (r = -1 ∧ ∀ j, j < n → 0 ≤ gi xs j) ∨ (∃ i : Nat, r = (i : Int) ∧ i < n ∧ gi xs i < 0 ∧ ∀ j, j < i → 0 ≤ gi xs j)
def IxI (w : World) (n : Nat) (xs : List Int) (i : Value) (wr : World) : Prop := ∃ j : Nat, j ≤ n ∧ i = .int .i64 j ∧ (∀ q, q < j → 0 ≤ gi xs q) ∧ w = wr
set_option maxRecDepth 100000 in
theorem ixf_any (A : Option Addr) (n c : Nat) (xs : List Int) (w : World) (hx : Rd .i64 w A n c xs) (hn : n ≤ 100000) : Calls Tryz.prog 122 #[.slice A n c, .func (.func 76) #[] #[]] w fun e w' => ∃ r : Int, e = .returned (.int .i64 r) ∧ IxP n xs r ∧ w = w' := by
  go_enter Tryz.func122, Tryz.ntmps122
  go_wp2
  go_loopw [8] (fun i wr => IxI w n xs i wr) (fun i _ => n - (intOf i).toNat)
  case atStart => exact ⟨0, Nat.zero_le _, rfl, fun q hq => by omega, rfl⟩
  case round =>
    obtain ⟨j, hj, rfl, hall, rfl⟩ := hrel
    have HALL := Lib.hid hall
    clear hall
    by_cases hlt : j < n
    · have hc := Rd.cell hx hlt
      have hix := fun W => Rdv.ix hx el34 hlt .i64 W
      have HP := Lib.hid (fun r => show IxP n xs r ↔ _ from Iff.rfl)
      obtain ⟨x, hxe⟩ : ∃ x, x = gi xs j := ⟨_, rfl⟩
      have HXE := Lib.hid hxe
      rw [← hxe] at hc
      clear hxe
      by_cases h0 : x < 0
      · have HC := Lib.hid (cl86_any x w)
        rw [decide_eq_true h0] at HC
        go_wp2_with (go_at_call 76; refine HC.out.mono ?_; rintro e w' ⟨rfl, rfl⟩)
        go_ret
        exact ⟨_, rfl, .inr ⟨j, rfl, hlt, by rw [← HXE.out]; exact h0, HALL.out⟩, by trivial⟩
      · have HC := Lib.hid (cl86_any x w)
        rw [decide_eq_false h0] at HC
        go_wp2_with (go_at_call 76; refine HC.out.mono ?_; rintro e w' ⟨rfl, rfl⟩)
        go_roundw
        case rel => exact ⟨j + 1, by omega, by go_num, fun q hq => lt_succ_cases HALL.out (by rw [← HXE.out]; omega) q hq, by trivial⟩
        case measure => simp [intOf]; omega
    · obtain rfl : j = n := by omega
      go_wp2
      go_ret
      exact ⟨_, rfl, .inl ⟨rfl, HALL.out⟩, by trivial⟩
theorem usC_all {xs : List Int} : ∀ n, n ≤ xs.length → (∀ j, j < n → 0 ≤ gi xs j) → usC (xs.take n) = n
  | 0, _, _ => rfl
  | n + 1, h, ha => by
    rw [List.take_succ_eq_append_getElem (by omega), usC_snoc, usC_all n (by omega) (fun j hj => ha j (by omega)), if_pos (by have := ha n (by omega); rwa [gi_eq _ _ (by omega)] at this)]
theorem usC_lt {xs : List Int} {i : Nat} (hi : i < xs.length) (h : gi xs i < 0) : usC xs < xs.length := by
  unfold usC
  rw [List.length_filter_lt_length_iff_exists]
  refine ⟨xs[i], List.getElem_mem hi, ?_⟩
  rw [← gi_eq _ _ hi]
  simp; omega
theorem usC_step {xs : List Int} {j : Nat} (hj : j < xs.length) : usC (xs.take (j + 1)) = usC (xs.take j) + if 0 ≤ gi xs j then 1 else 0 := by
  rw [List.take_succ_eq_append_getElem hj, usC_snoc, gi_eq _ _ hj]
def DeI (w : World) (base n c : Nat) (A : Option Addr) (xs : List Int) (u i : Value) (wr : World) : Prop := ∃ (j : Nat) (cur : List Int), j ≤ n ∧ i = .int .i64 j ∧ u = .int .i64 (usC (xs.take j)) ∧ Own .i64 3 wr base A n c cur ∧ (∀ q, j ≤ q → q < n → gi cur q = gi xs q) ∧ Below base w wr
set_option maxRecDepth 100000 in
set_option maxHeartbeats 1000000 in
theorem delf_any (A : Option Addr) (n c base : Nat) (xs : List Int) (w : World) (hx : Own .i64 3 w base A n c xs) (hn : n ≤ 100000) (hb : base ≤ w.heap.size) : Calls Tryz.prog 75 #[.slice A n c, .func (.func 76) #[] #[]] w fun e w' => ∃ A' c', e = .returned (.slice A' (usC xs) c') ∧ Below base w w' := by
  have hl := (Own.rd hx).len
  have HIX := Lib.hid (ixf_any A n c xs w (Own.rd hx) hn)
  obtain ⟨uu, huu⟩ : ∃ u, u = usC xs := ⟨_, rfl⟩
  rw [← huu]
  have HUU := Lib.hid huu
  clear huu
  have HX := Lib.hid hx
  clear hx
  go_enter Tryz.func75, Tryz.ntmps75
  go_wp2_with fail
  refine HIX.out.mono ?_
  rintro e w' ⟨r, rfl, hr, rfl⟩
  clear HIX
  rcases hr with ⟨rfl, hall⟩ | ⟨i0, rfl, hi0, hneg, hall⟩
  · have hu : usC xs = n := by have := usC_all n (by omega) hall; rwa [List.take_of_length_le (by omega)] at this
    go_wp2
    go_ret
    exact ⟨A, c, by rw [HUU.out, hu]; rfl, Below.refl _ _⟩
  · have hq0 : ((i0 : Int) == -1) = false := beq_f (by omega)
    have hu0 : usC (xs.take (i0 + 1)) = i0 := by rw [usC_step (by omega), usC_all i0 (by omega) hall, if_neg (by omega), Nat.add_zero]
    have HLT := Lib.hid (usC_lt (by omega : i0 < xs.length) hneg)
    clear hneg hall
    go_wp2
    go_loopw [5, 6] (fun u i wr => DeI w base n c A xs u i wr) (fun _ i _ => n - (intOf i).toNat)
    case atStart => exact ⟨i0 + 1, xs, by omega, by go_num, by rw [hu0], HX.out, fun q _ _ => rfl, Below.refl _ _⟩
    case round =>
      obtain ⟨j, cur, hj, rfl, rfl, hO, hsame, hB⟩ := hrel
      clear HX hu0
      have hO' := hO
      have HB := Lib.hid hB
      by_cases hlt : j < n
      · have hc := Rd.cell (Own.rd hO) hlt
        have hix := fun W => Rdv.ix (Own.rd hO) el34 hlt .i64 W
        rw [hsame j (Nat.le_refl _) hlt] at hc
        have HST := Lib.hid (usC_step (xs := xs) (j := j) (by omega))
        have hul : usC (xs.take j) ≤ j := by have := usC_le (xs.take j); rw [List.length_take] at this; omega
        have HSM := Lib.hid hsame
        obtain ⟨x, hxe⟩ : ∃ x, x = gi xs j := ⟨_, rfl⟩
        rw [← hxe] at hc HST
        clear hsame hxe
        generalize usC (xs.take j) = u at *
        by_cases h0 : x < 0
        · have HC := Lib.hid (cl86_any x wr)
          rw [decide_eq_true h0] at HC
          have HO := Lib.hid hO
          clear hO hO' hB
          go_wp2_with (go_at_call 76; refine HC.out.mono ?_; rintro e w' ⟨rfl, rfl⟩)
          go_roundw
          case rel => exact ⟨j + 1, cur, by omega, by go_num, by rw [HST.out, if_neg (by omega)]; rfl, HO.out, fun q h1 h2 => HSM.out q (by omega) h2, HB.out⟩
          case measure => simp [intOf]; omega
        · have HC := Lib.hid (cl86_any x wr)
          rw [decide_eq_false h0] at HC
          have huj : u < n := by omega
          have hcu := Rd.cell (Own.rd hO) huj
          have hfu := Ownv.frozen hO (by have := (Own.rd hO).le; omega) u
          have hiu := fun W => Rdv.ix (Own.rd hO) el34 huj .i64 W
          have HS := Lib.hid (Own.set_ hO huj x)
          have hbA := (Ownv.blk_ge hO (by have := (Own.rd hO).le; omega)).1
          have HB2 := Lib.hid (hB.grown (Own.set_ hO huj x).2 (Nat.le_trans hb hB.size) (fun k e => by cases e; exact hbA))
          have hcl := (Own.rd hO).len
          clear hO hO' hB
          go_wp2_with (go_at_call 76; refine HC.out.mono ?_; rintro e w' ⟨rfl, rfl⟩)
          go_roundw
          case rel => exact ⟨j + 1, cur.set u x, by omega, by go_num, by rw [HST.out, if_pos (by omega)]; go_num, HS.out.1, fun q h1 h2 => by rw [gi_set _ _ _ _ (by omega), if_neg (by omega)]; exact HSM.out q (by omega) h2, HB2.out⟩
          case measure => simp [intOf]; omega
      · obtain rfl : j = n := by omega
        rw [List.take_of_length_le (by omega)]
        have hlt' := HLT.out
        rw [hl, ← HUU.out] at hlt'
        rw [← HUU.out]
        have hcap := (Own.rd hO).le
        obtain ⟨b, o, rfl, -⟩ := Rdv.ptr (Own.rd hO) (by omega)
        have hsl0 := fun W => Rdv.sll (Own.rd hO) el34 .i64 (l := uu) (by omega) W
        rw [show cut (some ⟨b, o, none⟩) c uu = some ⟨b, o + uu, none⟩ from by unfold cut; rw [if_neg (by omega)]; exact congrArg some (add_lit b o uu)] at hsl0
        have hcl : ∀ ty, (Builtin.clear_ #[34] ty #[.slice (some ⟨b, o + uu, none⟩) (j - uu) (c - uu)]).run Tryz.prog wr = .ok (.tuple #[]) (wr.setCells b (o + uu) (List.replicate (j - uu) (.int .i64 0))) := fun ty =>
          Lib.run_clear_slice wr 34 3 ty (.int .i64 0) el34.u (fun W => by kernel_rfl) rfl rfl b (o + uu) (j - uu) (c - uu) (by omega)
            (fun q hq => by have := Rd.cell (Own.rd hO) (j := uu + q) (by omega); rw [adr_some] at this; rw [Nat.add_assoc, this]; rfl)
            (fun q hq => by have := Ownv.frozen hO (by omega) (uu + q); rw [adr_some] at this; rw [Nat.add_assoc]; exact this)
        have hsl1 := fun W => Rdv.slh (Own.rd hO) el34 .i64 (m := uu) (by omega) W
        have hbA := (Ownv.blk_ge hO (by omega)).1
        have HB9 := Lib.hid (hB.grown (grownBy_setCells b (List.replicate (j - uu) (.int .i64 0)) (o + uu) wr) (Nat.le_trans hb hB.size) (fun k e => by cases e; exact hbA))
        clear hO hO' hB hsame
        go_wp2
        go_ret
        exact ⟨_, _, rfl, HB9.out⟩
set_option maxRecDepth 100000 in
theorem usable_ok (k f : Nat) (lim : Int) (w : World) (h1 : 40 ≤ k) (h2 : k ≤ 6144) (hf : f < k) (hl : 1 ≤ lim) : Calls Tryz.prog 32 #[.int .i64 k, .int .i64 f, .int .i64 lim] w fun e w' => e = .returned (.tuple #[.int .i64 (usC ((bufL k f).take (szB k lim))), .int .i64 0]) ∧ Below w.heap.size w w' := by
  have HBU := Lib.hid (fun W => buffer_ok k f lim W h1 h2 hf hl)
  have hzb := szB_bd k hl
  have hN := nB_le h2
  generalize szB k lim = Z at *
  generalize nB k = N at *
  obtain ⟨u, hu⟩ : ∃ u, u = usC (List.take Z (bufL k f)) := ⟨_, rfl⟩
  rw [← hu]
  go_enter Tryz.func32, Tryz.ntmps32
  go_wp2_with fail
  refine (HBU.out _).mono ?_
  rintro e w1 ⟨A, c, rfl, hO, hB1⟩
  have HO := Lib.hid hO
  have HB1 := Lib.hid hB1
  clear hO hB1
  go_wp2_with fail
  refine (delf_any A Z c w.heap.size _ w1 HO.out (by omega) HB1.out.size).mono ?_
  rintro e w2 ⟨A', c', rfl, hB2⟩
  have HB2 := Lib.hid (HB1.out.trans hB2)
  clear hB2
  rw [← hu]
  clear hu
  go_wp2
  go_ret2
  exact ⟨rfl, HB2.out⟩
end Go.Proofs.YtpdalbckmfadbaaGreat.Cr

namespace Go.Proofs.YtpdalbckmfadbaaGreat.Cr
open Go.RowKit Go.Shelf
set_option linter.unusedVariables false
attribute [local go_sem] Oper.semAt_some
/-- new memory alone does not break J -/
def ClB {β : Type} (J : β → World → Prop) : Prop := ∀ s W W', J s W → Below W.heap.size W W' → J s W'
theorem ClB.alloc {β : Type} {J : β → World → Prop} (h : ClB J) {s : β} {W : World} (o : Obj) (hs : J s W) : J s (W.alloc o) := h s W _ hs ((Below.refl _ W).alloc (Nat.le_refl _) o)
theorem ClB.call {β : Type} {J : β → World → Prop} (h : ClB J) {s : β} {W W' : World} (hs : J s W) (hb : Below W.heap.size W W') : J s W' := h s W W' hs hb
/-- nor does a turn of an object that is no row -/
def ClP {β : Type} (B : Nat) (J : β → World → Prop) : Prop := ∀ s W l o o', J s W → B ≤ l → W.heap[l]? = some o → o.isCells = false → J s (W.putObj l o')
end Go.Proofs.YtpdalbckmfadbaaGreat.Cr

namespace Go.Proofs.YtpdalbckmfadbaaGreat.Cr
open Go.RowKit
set_option linter.unusedVariables false
theorem own_ne_blk {w : World} {B : Nat} {t e : TypeId} {cs : List Value} {base : Nat} {A : Option Addr} {n c : Nat} {vs : List Value} (hB : Blk w B t cs) (hO : Ownv e w base A n c vs) (ht : t ≠ e) (hA : A ≠ none) : blk A ≠ B := by
  intro h
  obtain ⟨hl, h2⟩ := hO.cases
  rcases h2 with ⟨rfl, rfl, rfl⟩ | ⟨g, cur, rfl, hb, hh, _⟩
  · exact hA rfl
  · have e1 : g = B := h
    subst e1
    have h1 : w.heap[g]? = some (.cells cs.toArray t (0, 0)) := hB
    rw [h1] at hh
    injection hh with hh
    injection hh with _ h9
    exact ht h9
theorem own_set_blk {w : World} {B : Nat} {t e : TypeId} {cs : List Value} {base : Nat} {A : Option Addr} {n c : Nat} {vs : List Value} (hB : Blk w B t cs) (hO : Ownv e w base A n c vs) (ht : t ≠ e) (j : Nat) (v : Value) : Ownv e (w.setCell ⟨B, j, none⟩ v) base A n c vs :=
  hO.grown (grownBy_set w B j v) (fun hA he => own_ne_blk hB hO ht hA (Option.some.inj he))
end Go.Proofs.YtpdalbckmfadbaaGreat.Cr

namespace Go.Proofs.YtpdalbckmfadbaaGreat.Cr
open Go.RowKit Go.Shelf
set_option linter.unusedVariables false
attribute [local go_sem] Oper.semAt_some
/-- as listIn_of, inside a round -/
theorem listRn_of {P : Program} {Q : Exit → Act → World → Prop} {n l : Nat} {ops : Array Oper} {rest : List Oper} {o : Oper} {a : Act} {w : World} (hgd : o.guard = none) (hd : ∀ c, o.op ≠ .defer c) (hL : ¬ LetsOut Q) (h : ∀ K : Act → World → Prop, (∀ a w, wpListIn (Fence.wide.inRound l) n P ops Q rest a w → K a w) → o.wp P a w K Q) : wpListIn (Fence.wide.inRound l) n P ops Q (o :: rest) a w :=
  wpListIn_plain hgd fun K hK => operIn_of hd hL (h K hK)
/-- nothing below B turns but the block OB -/
def KpN (B OB : Nat) (W W' : World) : Prop := W.heap.size ≤ W'.heap.size ∧ ∀ k, k < B → k ≠ OB → W'.heap[k]? = W.heap[k]?
theorem KpN.trans {B OB : Nat} {X Y Z : World} (h : KpN B OB X Y) (k : KpN B OB Y Z) : KpN B OB X Z := ⟨Nat.le_trans h.1 k.1, fun i hi hn => (k.2 i hi hn).trans (h.2 i hi hn)⟩
theorem KpN.put {B OB : Nat} {W : World} {l : Nat} (o : Obj) (hl : B ≤ l) : KpN B OB W (W.putObj l o) := ⟨(grownBy_putObj' W l o).size, fun k hk _ => World.putObj_heap_other (by omega)⟩
theorem KpN.blk {B OB : Nat} {W W' : World} {b : Nat} {t : TypeId} {cs : List Value} (h : KpN B OB W W') (hb : b < B) (hn : b ≠ OB) (hB : Blk W b t cs) : Blk W' b t cs := (h.2 b hb hn).trans hB
theorem KpN.grown {B OB : Nat} {W W' : World} {row : Option Nat} (hg : W.grownBy W' row) (hr : ∀ r, row = some r → r = OB ∨ B ≤ r) (hB : B ≤ W.heap.size) : KpN B OB W W' :=
  ⟨hg.size, fun k hk hn => hg.block k (Nat.lt_of_lt_of_le hk hB) (fun e => by rcases hr k e.symm with h | h <;> omega)⟩
theorem Ownv.put {e : TypeId} {w : World} {base : Nat} {A : Option Addr} {n c : Nat} {vs : List Value} (h : Ownv e w base A n c vs) {l : Nat} {o : Obj} (o' : Obj) (hl : w.heap[l]? = some o) (ho : o.isCells = false) : Ownv e (w.putObj l o') base A n c vs := by
  refine h.grown (grownBy_putObj' w l o') (fun hA he => ?_)
  obtain ⟨-, h2⟩ := h.cases
  rcases h2 with ⟨rfl, -⟩ | ⟨g, cur, rfl, -, hh, -⟩
  · exact hA rfl
  · have e1 : g = l := Option.some.inj he
    subst e1
    rw [hh] at hl
    cases hl
    cases ho
theorem Blk.put {W : World} {b : Nat} {t : TypeId} {cs : List Value} (h : Blk W b t cs) {l : Nat} {o : Obj} (o' : Obj) (hl : W.heap[l]? = some o) (ho : o.isCells = false) : Blk (W.putObj l o') b t cs := by
  refine h.grown (grownBy_putObj' W l o') (fun he => ?_)
  have e1 : b = l := Option.some.inj he
  subst e1
  have h' : W.heap[b]? = some (.cells cs.toArray t (0, 0)) := h
  rw [h'] at hl
  cases hl
  cases ho
theorem row_cells {e : TypeId} {w : World} {base : Nat} {A : Option Addr} {n c : Nat} {vs : List Value} (h : Ownv e w base A n c vs) : ∀ (j : Nat) (o : Obj), (Value.slice A n c).ownBlock = some j → w.heap[j]? = some o → o.isCells = true := by
  intro j o hj ho
  obtain ⟨-, h2⟩ := h.cases
  rcases h2 with ⟨rfl, -⟩ | ⟨g, cur, rfl, -, hh, -⟩
  · cases hj
  · have e1 : g = j := by simpa [Value.ownBlock] using hj
    subst e1
    rw [hh] at ho
    cases ho
    rfl
end Go.Proofs.YtpdalbckmfadbaaGreat.Cr

namespace Go.Proofs.YtpdalbckmfadbaaGreat.Cr
open Go.RowKit Go.Shelf
set_option linter.unusedVariables false
theorem Rdv.grown0 {w w' : World} {A : Option Addr} {n c : Nat} {vs : List Value} (h : Rdv w A n c vs) {row : Option Nat} (hg : w.grownBy w' row) (hne : 0 < c → some (blk A) ≠ row) : Rdv w' A n c vs := by
  by_cases hc : 0 < c
  · exact h.grown hg (fun _ => hne hc)
  · have h1 := h.le
    have h2 := h.len
    obtain rfl : vs = [] := List.eq_nil_of_length_eq_zero (by omega)
    exact ⟨h.len, h.le, h.cm, h.nil, fun h9 => absurd h9 hc, fun h9 => absurd h9 hc, by simp⟩
end Go.Proofs.YtpdalbckmfadbaaGreat.Cr

namespace Go.Proofs.YtpdalbckmfadbaaGreat.Cr
open Go.RowKit Go.Shelf
set_option linter.unusedVariables false
/-- the element that step i comes to -/
def rgV (B : List Int) (st N i : Nat) : Int := gi B ((st + i) % N)
/-- what has been selected behind t steps -/
def selL (B : List Int) (st N : Nat) : Nat → List Int
  | 0 => []
  | t + 1 => selL B st N t ++ (if 0 ≤ rgV B st N t then [rgV B st N t] else [])
theorem selL_pre (B : List Int) (st N s : Nat) : ∀ t, s ≤ t → ∃ r, selL B st N t = selL B st N s ++ r
  | 0, h => by obtain rfl : s = 0 := by omega
               exact ⟨[], by simp⟩
  | t + 1, h => by
    by_cases hs : s = t + 1
    · subst hs; exact ⟨[], by simp⟩
    · obtain ⟨r, hr⟩ := selL_pre B st N s t (by omega)
      refine ⟨r ++ (if 0 ≤ rgV B st N t then [rgV B st N t] else []), ?_⟩
      simp only [selL]
      rw [hr, List.append_assoc]
theorem selL_mono {B : List Int} {st N s t : Nat} (h : s ≤ t) : (selL B st N s).length ≤ (selL B st N t).length := by
  obtain ⟨r, hr⟩ := selL_pre B st N s t h
  rw [hr, List.length_append]; omega
/-- a shorter selection is the beginning of a longer one -/
theorem selL_take {B : List Int} {st N s t : Nat} (h : (selL B st N s).length ≤ (selL B st N t).length) : selL B st N s = (selL B st N t).take (selL B st N s).length := by
  rcases Nat.le_total s t with h1 | h1
  · obtain ⟨r, hr⟩ := selL_pre B st N s t h1
    rw [hr, List.take_left]
  · obtain ⟨r, hr⟩ := selL_pre B st N t s h1
    have h2 : r = [] := by
      apply List.eq_nil_of_length_eq_zero
      rw [hr, List.length_append] at h; omega
    subst h2
    rw [List.append_nil] at hr
    rw [hr, List.take_length]
theorem selL_uniq {B : List Int} {st N s t : Nat} (h : (selL B st N s).length = (selL B st N t).length) : selL B st N s = selL B st N t := by
  have h1 := selL_take (B := B) (st := st) (N := N) (s := s) (t := t) (Nat.le_of_eq h)
  rw [h, List.take_length] at h1
  exact h1
theorem selL_step {B : List Int} {st N t : Nat} (h : 0 ≤ rgV B st N t) : selL B st N (t + 1) = selL B st N t ++ [rgV B st N t] := by
  simp only [selL]; rw [if_pos h]
theorem selL_skip {B : List Int} {st N t : Nat} (h : rgV B st N t < 0) : selL B st N (t + 1) = selL B st N t := by
  simp only [selL]; rw [if_neg (by omega), List.append_nil]
theorem selL_hit {B : List Int} {st N j : Nat} (hj : j < N) (hu : 0 ≤ gi B j) (t : Nat) : (selL B st N t).length + 1 ≤ (selL B st N (t + N)).length := by
  obtain ⟨d, hd⟩ : ∃ d, d = (st + t) % N := ⟨_, rfl⟩
  have hdN : d < N := by rw [hd]; exact Nat.mod_lt _ (by omega)
  obtain ⟨x, hx⟩ : ∃ x, x = if d ≤ j then j - d else j + N - d := ⟨_, rfl⟩
  have hxN : x < N := by rw [hx]; split <;> omega
  have hm : (st + (t + x)) % N = j := by
    rw [← Nat.add_assoc, Nat.add_mod, ← hd]
    rw [Nat.mod_eq_of_lt hxN, hx]
    split
    · rw [show d + (j - d) = j by omega, Nat.mod_eq_of_lt hj]
    · rw [show d + (j + N - d) = j + N by omega, Nat.add_mod_right, Nat.mod_eq_of_lt hj]
  have hr : 0 ≤ rgV B st N (t + x) := by unfold rgV; rw [hm]; exact hu
  have h1 := selL_mono (B := B) (st := st) (N := N) (show t ≤ t + x by omega)
  have h2 := selL_mono (B := B) (st := st) (N := N) (show t + x + 1 ≤ t + N by omega)
  rw [selL_step hr, List.length_append] at h2
  simp only [List.length_singleton] at h2
  omega
theorem selL_many {B : List Int} {st N j : Nat} (hj : j < N) (hu : 0 ≤ gi B j) : ∀ m, m ≤ (selL B st N (m * N)).length
  | 0 => Nat.zero_le _
  | m + 1 => by
    have h1 := selL_many (B := B) (st := st) hj hu m
    have h2 := selL_hit (B := B) (st := st) hj hu (m * N)
    rw [Nat.add_mul, Nat.one_mul]; omega
theorem selL_lt {B : List Int} {st N j : Nat} (hj : j < N) (hu : 0 ≤ gi B j) {t e : Nat} (h : (selL B st N t).length < e) : t < e * N := by
  apply Classical.byContradiction
  intro hn
  have h1 := selL_many (B := B) (st := st) hj hu e
  have h2 := selL_mono (B := B) (st := st) (N := N) (show e * N ≤ t by omega)
  omega
/-- the elements of a selection lie in the buffer -/
theorem selL_mem {B : List Int} {st N : Nat} (hN : 0 < N) (hl : N ≤ B.length) : ∀ t x, x ∈ selL B st N t → 0 ≤ x ∧ x ∈ B
  | 0, x, h => by simp [selL] at h
  | t + 1, x, h => by
    simp only [selL] at h
    rcases List.mem_append.1 h with h | h
    · exact selL_mem hN hl t x h
    · split at h
      · rename_i hu
        have hx : x = rgV B st N t := by simpa using h
        rw [hx]
        exact ⟨hu, gi_mem B _ (Nat.lt_of_lt_of_le (Nat.mod_lt _ hN) hl)⟩
      · simp at h
theorem usC_ne {xs : List Int} : usC xs ≠ 0 ↔ ∃ j, j < xs.length ∧ 0 ≤ gi xs j := by
  constructor
  · intro h
    apply Classical.byContradiction
    intro hn
    apply h
    unfold usC
    rw [List.length_eq_zero_iff, List.filter_eq_nil_iff]
    intro x hx
    obtain ⟨j, hj, rfl⟩ := List.getElem_of_mem hx
    have h2 : ¬ 0 ≤ gi xs j := fun h3 => hn ⟨j, hj, h3⟩
    rw [gi_eq _ _ hj] at h2
    simpa using h2
  · rintro ⟨j, hj, hu⟩ h
    unfold usC at h
    rw [List.length_eq_zero_iff, List.filter_eq_nil_iff] at h
    have := h (gi xs j) (gi_mem xs j hj)
    simp at this
    omega
/-- the start of a redundancy version -/
def stS (k Z rv : Nat) : Nat := rwS (k + 4) * (2 * ((Z + 8 * rwS (k + 4) - 1) / (8 * rwS (k + 4))) * rv + 2) % Z
end Go.Proofs.YtpdalbckmfadbaaGreat.Cr

namespace Go.Proofs.YtpdalbckmfadbaaGreat.Cr
open Go.RowKit Go.Shelf
set_option linter.unusedVariables false
attribute [local go_sem] Oper.semAt_some
structure StF (R Z rv P Q C D E F G S : Nat) : Prop where
  p : IntKind.i64.wrap (8 * (R : Int)) = (P : Int)
  zp : IntKind.i64.wrap ((Z : Int) + (P : Int)) = (Z : Int) + (P : Int)
  q : IntKind.i64.wrap ((Z : Int) + (P : Int) - 1) = (Q : Int)
  c : (Q : Int).tdiv (P : Int) = (C : Int)
  cw : IntKind.i64.wrap (C : Int) = (C : Int)
  d : IntKind.i64.wrap (2 * (C : Int)) = (D : Int)
  e : IntKind.i64.wrap ((D : Int) * (rv : Int)) = (E : Int)
  f : IntKind.i64.wrap ((E : Int) + 2) = (F : Int)
  g : IntKind.i64.wrap ((R : Int) * (F : Int)) = (G : Int)
  s : (G : Int).tmod (Z : Int) = (S : Int)
  sw : IntKind.i64.wrap (S : Int) = (S : Int)
  p0 : ¬ P = 0
  z0 : ¬ Z = 0
theorem stF (k Z rv : Nat) (h2 : k ≤ 6144) (hZ1 : 1 ≤ Z) (hZ : Z ≤ 20000) (hrv : rv ≤ 3) : ∃ P Q C D E F G, StF (rwS (k + 4)) Z rv P Q C D E F G (stS k Z rv) ∧ C = (Z + P - 1) / P ∧ P = 8 * rwS (k + 4) := by
  have hR := rwS_le (d := k + 4) (by omega)
  have hR1 := rwS_pos (d := k + 4) (by omega)
  obtain ⟨R, hRe⟩ : ∃ R, R = rwS (k + 4) := ⟨_, rfl⟩
  have hst : stS k Z rv = R * (2 * ((Z + 8 * R - 1) / (8 * R)) * rv + 2) % Z := by rw [hRe]; rfl
  rw [hst]
  rw [← hRe] at hR hR1 ⊢
  obtain ⟨C, hC⟩ : ∃ C, C = (Z + 8 * R - 1) / (8 * R) := ⟨_, rfl⟩
  have hC1 : C ≤ 30000 := by rw [hC]; exact Nat.le_trans (Nat.div_le_self _ _) (by omega)
  obtain ⟨E, hE⟩ : ∃ E, E = 2 * C * rv := ⟨_, rfl⟩
  have hE1 : E ≤ 180000 := by
    rw [hE]; exact Nat.le_trans (Nat.mul_le_mul_left (2 * C) hrv) (by omega)
  obtain ⟨G, hG⟩ : ∃ G, G = R * (E + 2) := ⟨_, rfl⟩
  have hG1 : G ≤ 193 * 180002 := by rw [hG]; exact Nat.mul_le_mul hR (by omega)
  have hS : G % Z < Z := Nat.mod_lt _ (by omega)
  rw [← hC, ← hE, ← hG]
  refine ⟨8 * R, Z + 8 * R - 1, C, 2 * C, E, E + 2, G, ⟨?_, ?_, ?_, ?_, ?_, ?_, ?_, ?_, ?_, ?_, ?_, by omega, by omega⟩, hC, rfl⟩
  · rw [IntKind.wrap_i64]; omega
  · rw [IntKind.wrap_i64]; omega
  · rw [IntKind.wrap_i64]; omega
  · rw [Int.tdiv_eq_ediv_of_nonneg (by omega), hC]; rfl
  · rw [IntKind.wrap_i64]; omega
  · rw [IntKind.wrap_i64]; omega
  · have e : ((2 * C : Nat) : Int) * (rv : Int) = (E : Int) := by rw [hE]; push_cast; rfl
    rw [e, IntKind.wrap_i64]; omega
  · rw [IntKind.wrap_i64]; omega
  · have e : (R : Int) * ((E + 2 : Nat) : Int) = (G : Int) := by rw [hG]; push_cast; rfl
    rw [e, IntKind.wrap_i64]; omega
  · rw [Int.tmod_eq_emod_of_nonneg (by omega)]; rfl
  · rw [IntKind.wrap_i64]; omega
set_option maxRecDepth 100000 in
theorem start_any (k f Z rv : Nat) (w : World) (h2 : k ≤ 6144) (hZ1 : 1 ≤ Z) (hZ : Z ≤ 20000) (hrv : rv ≤ 3) :
    Calls Tryz.prog 62 #[.agg #[.int .i64 k, .int .i64 f, .int .i64 (rwS (k + 4)), .int .i64 Z], .int .i64 rv] w fun e w' => e = .returned (.int .i64 (stS k Z rv)) ∧ Below w.heap.size w w' := by
  obtain ⟨P, Q, C, D, E, F, G, hF, -, -⟩ := stF k Z rv h2 hZ1 hZ hrv
  obtain ⟨f1, f2, f3, f4, f5, f6, f7, f8, f9, f10, f11, f12, f13⟩ := hF
  generalize stS k Z rv = S at *
  generalize rwS (k + 4) = R at *
  clear h2 hZ1 hZ hrv
  go_enter Tryz.func62, Tryz.ntmps62
  go_wp2_with fail
  go_quiet (fail)
  go_wp2
  go_ret
  exact ⟨rfl, ((Below.refl _ w).alloc (Nat.le_refl _) _).trans (Qt.below ⟨_, rfl⟩ _)⟩
theorem usable_any (x : Int) (w : World) : Calls Tryz.prog 77 #[.int .i64 x] w fun e w' => e = .returned (.bool (decide (0 ≤ x))) ∧ w = w' := by
  by_cases h : 0 ≤ x
  · rw [decide_eq_true h]
    go_enter Tryz.func77, Tryz.ntmps77
    go_wp2
    go_ret
    exact ⟨ret_bool (by first | (simp; done) | (simp; omega)), rfl⟩
  · rw [decide_eq_false h]
    go_enter Tryz.func77, Tryz.ntmps77
    go_wp2
    go_ret
    exact ⟨ret_bool (by first | (simp; done) | (simp; omega)), rfl⟩
def CfI (w : World) (n : Nat) (xs : List Int) (i : Value) (wr : World) : Prop := ∃ j : Nat, j ≤ n ∧ i = .int .i64 j ∧ (∀ q, q < j → gi xs q < 0) ∧ w = wr
set_option maxRecDepth 100000 in
theorem ixu_any (A : Option Addr) (n c : Nat) (xs : List Int) (w : World) (hx : Rd .i64 w A n c xs) (hn : n ≤ 100000) :
    Calls Tryz.prog 122 #[.slice A n c, .func (.func 77) #[] #[]] w fun e w' => ∃ r : Int, e = .returned (.int .i64 r) ∧ ((r = -1 ∧ ∀ q, q < n → gi xs q < 0) ∨ (0 ≤ r ∧ ∃ q, q < n ∧ 0 ≤ gi xs q)) ∧ w = w' := by
  go_enter Tryz.func122, Tryz.ntmps122
  go_wp2
  go_loopw [8] (fun i wr => CfI w n xs i wr) (fun i _ => n - (intOf i).toNat)
  case atStart => exact ⟨0, by omega, rfl, by intro q hq; omega, rfl⟩
  case round =>
    obtain ⟨j, hj, rfl, hv, rfl⟩ := hrel
    have HV := Lib.hid hv
    clear hv
    by_cases hlt : j < n
    · have hc := Rd.cell hx hlt
      have hix := fun W => Rdv.ix hx el34 hlt .i64 W
      by_cases h0 : 0 ≤ gi xs j
      · have HU := Lib.hid (usable_any (gi xs j) w)
        rw [decide_eq_true h0] at HU
        have H0 := Lib.hid h0
        clear h0
        generalize hgv : gi xs j = gv at *
        go_wp2_with (go_at_call 77; refine HU.out.mono ?_; rintro e w1 ⟨rfl, rfl⟩)
        go_ret
        exact ⟨_, rfl, .inr ⟨by omega, j, hlt, by rw [hgv]; exact H0.out⟩, rfl⟩
      · have HU := Lib.hid (usable_any (gi xs j) w)
        rw [decide_eq_false h0] at HU
        have H0 : Hid (gi xs j < 0) := Lib.hid (by omega)
        clear h0
        generalize hgv : gi xs j = gv at *
        go_wp2_with (go_at_call 77; refine HU.out.mono ?_; rintro e w1 ⟨rfl, rfl⟩)
        go_roundw
        case rel => exact ⟨j + 1, by omega, by go_num, lt_succ_cases HV.out (by rw [hgv]; exact H0.out), rfl⟩
        case measure => simp [intOf]; omega
    · have he : j = n := by omega
      subst he
      go_wp2
      go_ret
      exact ⟨-1, rfl, .inl ⟨rfl, HV.out⟩, rfl⟩
theorem cfu_any (A : Option Addr) (n c : Nat) (xs : List Int) (w : World) (hx : Rd .i64 w A n c xs) (hn : n ≤ 100000) :
    Calls Tryz.prog 80 #[.slice A n c, .func (.func 77) #[] #[]] w fun e w' => e = .returned (.bool (decide (usC xs ≠ 0))) ∧ w = w' := by
  have HI := Lib.hid (ixu_any A n c xs w hx hn)
  have hl := hx.len
  have HU := Lib.hid (usC_ne (xs := xs))
  go_enter Tryz.func80, Tryz.ntmps80
  go_wp2_with fail
  refine HI.out.mono ?_
  rintro e w1 ⟨r, rfl, h, rfl⟩
  rcases h with ⟨rfl, hv⟩ | ⟨h0, q, hq, hu⟩
  · have hd : decide (usC xs ≠ 0) = false := by
      rw [decide_eq_false_iff_not]
      intro h
      obtain ⟨j, hj, hg⟩ := HU.out.1 h
      have := hv j (by omega)
      omega
    have HD := Lib.hid hd
    clear hd hv
    go_wp2
    go_ret
    exact ⟨ret_bool (by first | (rw [HD.out]; done) | (rw [HD.out]; simp; done) | (rw [HD.out]; simp; omega)), rfl⟩
  · have hd : decide (usC xs ≠ 0) = true := by
      rw [decide_eq_true_iff]
      exact HU.out.2 ⟨q, by omega, hu⟩
    have HD := Lib.hid hd
    clear hd hu
    go_wp2
    go_ret
    exact ⟨ret_bool (by first | (rw [HD.out]; done) | (rw [HD.out]; simp; done) | (rw [HD.out]; simp; omega)), rfl⟩
end Go.Proofs.YtpdalbckmfadbaaGreat.Cr

