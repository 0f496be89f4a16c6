/-
  Bundle of the texts CrT5 CrT6 CrT7 CrT8a CrT8 CrT9 CrT10. Conditions: none.
-/
import Derived.Test.YtpdalbckmfadbaaGreatBuhau
import Derived.Test.YtpdalbckmfadbaaGreatBuhaa
import Derived.Deep.RegionHeld3
namespace Go.Proofs.YtpdalbckmfadbaaGreat.Cr
open Go.RowKit
set_option linter.unusedVariables false
def rChkErr (k : Int) (xs : List Int) : Int :=
  if polyN k = 0 then 2 else if ValidB xs = true then (if xs.length < polyN k - 1 then 5 else if refSum (polyL k) (xs.take (xs.length - (polyN k - 1))) = xs.drop (xs.length - (polyN k - 1)) then 0 else 11) else 3
def rChkRes (k : Int) (xs : List Int) : List Int := if rChkErr k xs = 0 then xs.take (xs.length - (polyN k - 1)) else []
theorem rLen_eq (k : Int) : rLen k = ((polyN k - 1 : Nat) : Int) := by
  unfold rLen; have := polyN_cases k; omega
theorem validB_take {xs : List Int} (m : Nat) (h : ValidB xs = true) : ValidB (xs.take m) = true := by
  unfold ValidB at *
  rw [List.all_eq_true] at *
  intro x hx; exact h x (List.mem_of_mem_take hx)
set_option maxHeartbeats 800000 in
theorem rcheck_any (k : Int) (A : Option Addr) (n c : Nat) (xs : List Int) (w : World) (hx : Rd .u8 w A n c xs) (hn : n ≤ 100000) :
    Calls Tryz.prog 107 #[.int .i64 k, .slice A n c] w fun e w' => ∃ A' n' c', e = .returned (.tuple #[.slice A' n' c', .int .i64 (rChkErr k xs)]) ∧ Rd .u8 w' A' n' c' (rChkRes k xs) ∧ Below w.heap.size w w' := by
  have hN := polyN_cases k
  have hxl := hx.len
  have HXL := Lib.hid hxl
  have hl := fun W => Lib.hid (rlen_any k W)
  rw [rLen_eq] at hl
  by_cases h0 : polyN k = 0
  · have e1 : rChkErr k xs = 2 := by rw [rChkErr, if_pos h0]
    have e2 : rChkRes k xs = [] := by rw [rChkRes, e1]; rfl
    rw [e1, e2]
    rw [h0] at hl
    clear e1 e2 h0 hN hxl
    go_enter Tryz.func107, Tryz.ntmps107
    go_wp2_with fail
    refine (hl _).out.mono ?_
    rintro e w1 ⟨rfl, hB1⟩
    go_wp2_with fail
    refine (hl _).out.mono ?_
    rintro e w2 ⟨rfl, hB2⟩
    go_wp2
    go_ret2
    exact ⟨none, 0, 0, rfl, Rd.nilv _ _, hB1.trans (hB2.mono hB1.size)⟩
  · have hg0 : 1 ≤ (polyL k).length := by rw [polyL_len]; omega
    by_cases hv : ValidB xs = true
    · by_cases hs : xs.length < polyN k - 1
      · have e1 : rChkErr k xs = 5 := by rw [rChkErr, if_neg h0, if_pos hv, if_pos hs]
        have e2 : rChkRes k xs = [] := by rw [rChkRes, e1]; rfl
        rw [e1, e2]
        rw [hxl] at hs
        clear e1 e2 hxl
        generalize polyN k = N at *
        have hb : (((N - 1 : Nat) : Int) == 0) = false := beq_f (by omega)
        have hL8 : 1 ≤ N - 1 ∧ N - 1 ≤ 24 := by omega
        generalize N - 1 = L at *
        go_enter Tryz.func107, Tryz.ntmps107
        go_wp2_with fail
        refine (hl _).out.mono ?_
        rintro e w1 ⟨rfl, hB1⟩
        go_wp2_with fail
        refine (hl _).out.mono ?_
        rintro e w2 ⟨rfl, hB2⟩
        have hx2 := Rdv.below (Rdv.below hx hB1) hB2
        go_wp2_with (go_at_call 144; refine (valid_any A n c xs _ hx2).mono ?_; rintro e w' ⟨rfl, rfl⟩)
        go_ret2
        exact ⟨none, 0, 0, rfl, Rd.nilv _ _, hB1.trans (hB2.mono hB1.size)⟩
      · have hc := fun W hW => Lib.hid (rcompute_any k A (xs.length - (polyN k - 1)) c (xs.take (xs.length - (polyN k - 1))) W hW (by omega))
        have hE : refErr k (xs.take (xs.length - (polyN k - 1))) = 0 := by rw [refErr, if_neg h0, if_pos (validB_take _ hv)]
        have hR : refRes k (xs.take (xs.length - (polyN k - 1))) = refSum (polyL k) (xs.take (xs.length - (polyN k - 1))) := by rw [refRes, if_neg h0, if_pos (validB_take _ hv)]
        rw [hE, hR] at hc
        by_cases hq : refSum (polyL k) (xs.take (xs.length - (polyN k - 1))) = xs.drop (xs.length - (polyN k - 1))
        · have e1 : rChkErr k xs = 0 := by rw [rChkErr, if_neg h0, if_pos hv, if_neg hs, if_pos hq]
          have e2 : rChkRes k xs = xs.take (xs.length - (polyN k - 1)) := by rw [rChkRes, e1]; rfl
          rw [e1, e2]
          rw [hxl] at *
          clear e1 e2 hE hR
          have HQ : decide (refSum (polyL k) (xs.take (n - (polyN k - 1))) = xs.drop (n - (polyN k - 1))) = true := by simpa using hq
          clear hq
          generalize refSum (polyL k) (xs.take (n - (polyN k - 1))) = S at *
          generalize polyN k = N at *
          have hb : (((N - 1 : Nat) : Int) == 0) = false := beq_f (by omega)
          have hL8 : 1 ≤ N - 1 ∧ N - 1 ≤ 24 := by omega
          generalize N - 1 = L at *
          have em0 : (n : Int) - (L : Int) = ((n - L : Nat) : Int) := by omega
          have hmn : n - L ≤ n := by omega
          generalize n - L = m at *
          go_enter Tryz.func107, Tryz.ntmps107
          go_wp2_with fail
          refine (hl _).out.mono ?_
          rintro e w1 ⟨rfl, hB1⟩
          go_wp2_with fail
          refine (hl _).out.mono ?_
          rintro e w2 ⟨rfl, hB2⟩
          have hx2 := Rdv.below (Rdv.below hx hB1) hB2
          have hsl := fun W => Rdv.slh hx2 el53 .i64 (show m ≤ c by have := Rdv.le hx; omega) W
          have hsl2 := fun W => Rdv.sll hx2 el53 .i64 (hmn) W
          go_wp2_with (go_at_call 144; refine (valid_any A n c xs _ hx2).mono ?_; rintro e w' ⟨rfl, rfl⟩)
          refine (hc _ (Rd.upto hx2 hmn)).out.mono ?_
          rintro e w3 ⟨A3, n3, c3, rfl, hR3, hB3⟩
          have hx3 := Rdv.below hx2 hB3
          have hd3 := Rd.cut_ hx3 (l := m) (m := n) hmn (Nat.le_refl _)
          rw [List.take_of_length_le (Nat.le_of_eq hx.len)] at hd3
          go_wp2_with (go_at_call 146; refine (same_any A3 (cut A c m) n3 c3 _ _ S (xs.drop m) _ hR3 hd3).mono ?_; rintro e w4 ⟨rfl, hQ4⟩)
          have hfin : Rd .u8 w4 A m c (xs.take m) := Rdv.below (Rd.upto hx3 (hmn)) (hQ4.below _)
          have hfb : Below w.heap.size w w4 := ((hB1.trans (hB2.mono hB1.size)).trans (hB3.mono (Nat.le_trans hB1.size hB2.size))).trans (hQ4.below _)
          go_ret2
          exact ⟨A, m, c, rfl, hfin, hfb⟩
        · have e1 : rChkErr k xs = 11 := by rw [rChkErr, if_neg h0, if_pos hv, if_neg hs, if_neg hq]
          have e2 : rChkRes k xs = [] := by rw [rChkRes, e1]; rfl
          rw [e1, e2]
          rw [hxl] at *
          clear e1 e2 hE hR
          have HQ : decide (refSum (polyL k) (xs.take (n - (polyN k - 1))) = xs.drop (n - (polyN k - 1))) = false := by simpa using hq
          clear hq
          generalize refSum (polyL k) (xs.take (n - (polyN k - 1))) = S at *
          generalize polyN k = N at *
          have hb : (((N - 1 : Nat) : Int) == 0) = false := beq_f (by omega)
          have hL8 : 1 ≤ N - 1 ∧ N - 1 ≤ 24 := by omega
          generalize N - 1 = L at *
          have em0 : (n : Int) - (L : Int) = ((n - L : Nat) : Int) := by omega
          have hmn : n - L ≤ n := by omega
          generalize n - L = m at *
          go_enter Tryz.func107, Tryz.ntmps107
          go_wp2_with fail
          refine (hl _).out.mono ?_
          rintro e w1 ⟨rfl, hB1⟩
          go_wp2_with fail
          refine (hl _).out.mono ?_
          rintro e w2 ⟨rfl, hB2⟩
          have hx2 := Rdv.below (Rdv.below hx hB1) hB2
          have hsl := fun W => Rdv.slh hx2 el53 .i64 (show m ≤ c by have := Rdv.le hx; omega) W
          have hsl2 := fun W => Rdv.sll hx2 el53 .i64 (hmn) W
          go_wp2_with (go_at_call 144; refine (valid_any A n c xs _ hx2).mono ?_; rintro e w' ⟨rfl, rfl⟩)
          refine (hc _ (Rd.upto hx2 hmn)).out.mono ?_
          rintro e w3 ⟨A3, n3, c3, rfl, hR3, hB3⟩
          have hx3 := Rdv.below hx2 hB3
          have hd3 := Rd.cut_ hx3 (l := m) (m := n) hmn (Nat.le_refl _)
          rw [List.take_of_length_le (Nat.le_of_eq hx.len)] at hd3
          go_wp2_with (go_at_call 146; refine (same_any A3 (cut A c m) n3 c3 _ _ S (xs.drop m) _ hR3 hd3).mono ?_; rintro e w4 ⟨rfl, hQ4⟩)
          have hfb : Below w.heap.size w w4 := ((hB1.trans (hB2.mono hB1.size)).trans (hB3.mono (Nat.le_trans hB1.size hB2.size))).trans (hQ4.below _)
          go_ret2
          exact ⟨none, 0, 0, rfl, Rd.nilv _ _, hfb⟩
    · have e1 : rChkErr k xs = 3 := by rw [rChkErr, if_neg h0, if_neg hv]
      have e2 : rChkRes k xs = [] := by rw [rChkRes, e1]; rfl
      have hv' : ValidB xs = false := by simpa using hv
      rw [e1, e2]
      clear e1 e2 hxl hv
      generalize polyN k = N at *
      have hb : (((N - 1 : Nat) : Int) == 0) = false := beq_f (by omega)
      generalize N - 1 = L at *
      go_enter Tryz.func107, Tryz.ntmps107
      go_wp2_with fail
      refine (hl _).out.mono ?_
      rintro e w1 ⟨rfl, hB1⟩
      go_wp2_with fail
      refine (hl _).out.mono ?_
      rintro e w2 ⟨rfl, hB2⟩
      have hx2 := Rdv.below (Rdv.below hx hB1) hB2
      go_wp2_with (go_at_call 144; refine (valid_any A n c xs _ hx2).mono ?_; rintro e w' ⟨rfl, rfl⟩)
      go_ret2
      exact ⟨none, 0, 0, rfl, Rd.nilv _ _, hB1.trans (hB2.mono hB1.size)⟩

end Go.Proofs.YtpdalbckmfadbaaGreat.Cr

namespace Go.Proofs.YtpdalbckmfadbaaGreat.Cr
open Go.RowKit
set_option linter.unusedVariables false
/-! ### slices.Equal -/
set_option maxHeartbeats 400000 in
set_option maxRecDepth 100000 in
theorem equal_any (A B : Option Addr) (n c m d : Nat) (xs ys : List Int) (w : World) (hx : Rd .u8 w A n c xs) (hy : Rd .u8 w B m d ys) :
    Calls Tryz.prog 65 #[.slice A n c, .slice B m d] w fun e w' => e = .returned (.bool (decide (xs = ys))) ∧ Qt w w' := by
  have b1 := hx.bd.1
  have b2 := hy.bd.1
  by_cases hnm : n = m
  · subst hnm
    have hne : ((n : Int) != (n : Int)) = false := bne_f rfl
    go_enter Tryz.func65, Tryz.ntmps65
    go_wp2
    go_loopw [13] (fun i wr => SameInv w n xs ys i wr) (fun i _ => n - (intOf i).toNat)
    case atStart => exact ⟨0, by omega, rfl, by intro q hq; omega, 0, rfl⟩
    case round =>
      obtain ⟨j, hj, rfl, hv, q0, rfl⟩ := hrel
      by_cases hlt : j < n
      · have hc := Rd.cell hx hlt
        have hd := Rd.cell hy hlt
        have hix := fun W => Rdv.ix hx el53 hlt .i64 W
        have hiy := fun W => Rdv.ix hy el53 hlt .i64 W
        have HV := Lib.hid hv; clear hv
        by_cases h1 : gi xs j = gi ys j
        · have h1' := bne_f h1
          have H1 := Lib.hid h1; clear h1
          go_wp2
          go_quiet (fail)
          go_wp2
          go_roundw
          case rel => exact ⟨j + 1, by omega, by go_num, fun q hq => lt_succ_cases HV.out H1.out q hq, by first | exact ⟨_, rfl⟩ | exact Qt.drewN ⟨_, rfl⟩ _⟩
          case measure => simp [intOf]; omega
        · have h1' := bne_t h1
          have hf : decide (xs = ys) = false := by simp; rintro rfl; exact h1 rfl
          go_wp2
          go_quiet (fail)
          go_wp2
          go_ret
          exact ⟨ret_bool hf.symm, by first | exact ⟨_, rfl⟩ | exact Qt.drewN ⟨_, rfl⟩ _⟩
      · have hf : decide (xs = ys) = true := by
          have hl1 := hx.len; have hl2 := hy.len
          simp only [decide_eq_true_eq]
          refine ext_gi (by rw [hl1, hl2]) fun q hq => hv q (by omega)
        go_wp2
        go_ret
        exact ⟨ret_bool hf.symm, by first | exact ⟨_, rfl⟩ | exact Qt.drewN ⟨_, rfl⟩ _⟩
  · have hne : ((n : Int) != (m : Int)) = true := bne_t (by omega)
    have hf : decide (xs = ys) = false := by
      simp; rintro rfl; have := hx.len; have := hy.len; omega
    go_enter Tryz.func65, Tryz.ntmps65
    go_wp2
    go_ret
    exact ⟨ret_bool hf.symm, 0, rfl⟩


set_option maxRecDepth 100000 in
theorem inv1_any (b : Int) (w : World) : Calls Tryz.prog 109 #[.int .u8 b] w fun e w' => e = .returned (.bool (decide (1 < b))) ∧ w = w' := by
  go_enter Tryz.func109, Tryz.ntmps109
  go_wp2
  go_ret
  exact ⟨rfl, rfl⟩
def IdxInv (n : Nat) (xs : List Int) (i : Value) : Prop := ∃ j : Nat, j ≤ n ∧ i = .int .i64 j ∧ ∀ q, q < j → gi xs q ≤ 1
def IdxPost (xs : List Int) (w : World) (e : Ending) (w' : World) : Prop := ∃ r : Int, e = .returned (.int .i64 r) ∧ (0 ≤ r ↔ ValidB xs = false) ∧ w = w'
set_option maxHeartbeats 400000 in
set_option maxRecDepth 100000 in
theorem idx_any (A : Option Addr) (n c : Nat) (xs : List Int) (w : World) (h : Rd .u8 w A n c xs) :
    Calls Tryz.prog 82 #[.slice A n c, .func (.func 109) #[] #[]] w (IdxPost xs w) := by
  have hbd := h.bd.1
  go_enter Tryz.func82, Tryz.ntmps82
  go_wp2
  go_loop [8] (fun i => IdxInv n xs i) (fun i => n - (intOf i).toNat)
  case atStart => exact ⟨0, by omega, rfl, by intro q hq; omega⟩
  case round =>
    obtain ⟨j, hj, rfl, hv⟩ := hrel
    by_cases hlt : j < n
    · have hc := Rd.cell h hlt
      have hix := fun W => Rdv.ix h el53 hlt .i64 W
      have HV := Lib.hid hv; clear hv
      by_cases h1 : gi xs j ≤ 1
      · have h1' : decide (1 < gi xs j) = false := by simp; omega
        go_wp2_with (go_at_call 109; refine (inv1_any _ _).mono ?_; rintro e w' ⟨rfl, rfl⟩)
        go_round
        case rel => exact ⟨j + 1, by omega, by go_num, fun q hq => lt_succ_cases HV.out h1 q hq⟩
        case measure => simp [intOf]; omega
      · have h1' : decide (1 < gi xs j) = true := by simp; omega
        have hf := Lib.hid (validB_f (by rw [h.len]; exact hlt) (by omega : 1 < gi xs j))
        go_wp2_with (go_at_call 109; refine (inv1_any _ _).mono ?_; rintro e w' ⟨rfl, rfl⟩)
        go_ret
        exact ⟨_, rfl, by rw [hf.out]; simp, rfl⟩
    · have hf := Lib.hid (validB_t (xs := xs) (by rw [h.len]; intro q hq; exact hv q (by omega)))
      go_wp2
      go_ret
      exact ⟨_, rfl, by rw [hf.out]; simp, rfl⟩
set_option maxRecDepth 100000 in
theorem contains_any (A : Option Addr) (n c : Nat) (xs : List Int) (w : World) (h : Rd .u8 w A n c xs) :
    Calls Tryz.prog 35 #[.slice A n c, .func (.func 109) #[] #[]] w fun e w' => e = .returned (.bool (!ValidB xs)) ∧ w = w' := by
  go_enter Tryz.func35, Tryz.ntmps35
  go_wp2_with (go_at_call 82; refine (idx_any A n c xs w h).mono ?_; rintro e w' ⟨r, rfl, hr, rfl⟩)
  go_ret
  refine ⟨ret_bool ?_, rfl⟩
  cases hv : ValidB xs <;> simp_all
set_option maxRecDepth 100000 in
theorem invalid_any (A : Option Addr) (n c : Nat) (xs : List Int) (w : World) (h : Rd .u8 w A n c xs) :
    Calls Tryz.prog 63 #[.slice A n c] w fun e w' => e = .returned (.bool (!ValidB xs)) ∧ w = w' := by
  go_enter Tryz.func63, Tryz.ntmps63
  go_wp2_with (go_at_call 35; refine (contains_any A n c xs w h).mono ?_; rintro e w' ⟨rfl, rfl⟩)
  go_ret
  exact ⟨rfl, rfl⟩
/-! ### slices.Clone -/
set_option maxRecDepth 100000 in
theorem clone_any (A : Option Addr) (n c : Nat) (xs : List Int) (w : World) (h : Rd .u8 w A n c xs) (hn : n ≤ 100000) :
    Calls Tryz.prog 60 #[.slice A n c] w fun e w' => ∃ A' c', e = .returned (.slice A' n c') ∧ Own .u8 5 w' w.heap.size A' n c' xs ∧ Below w.heap.size w w' := by
  have e1 := fun W => Lib.run_eql_slice_nil (P := Tryz.prog) W 22 5 A n c 0 0 el53.u
  cases A with
  | none =>
    have hc := h.nil rfl
    have hnc := h.le
    obtain rfl : n = 0 := by omega
    subst hc
    obtain rfl : xs = [] := List.eq_nil_of_length_eq_zero h.len
    go_enter Tryz.func60, Tryz.ntmps60
    go_wp2
    go_ret
    exact ⟨none, 0, rfl, Own.nilv .u8 5 w _, Below.refl _ _⟩
  | some ad =>
    have h1 := Rdv.alloc h (.cells #[] 5)
    have hO0 : Ownv 5 (w.alloc (.cells #[] 5)) w.heap.size (some ⟨w.heap.size, 0, none⟩) 0 0 [] := Ownv.lit w #[] 5 rfl (Nat.le_refl _) (Nat.zero_le _)
    go_enter Tryz.func60, Tryz.ntmps60
    go_wp2_with (at_builtin; go_loud (refine list_of rfl fun K hK => wp_app _ _ 22 rfl el53 rfl rfl hO0 h1 (oneCell_ints .u8 xs) (by omega) (by unfold maxLen; omega) (by simp) ?_); intro A' c' w' hO hg; refine hK _ _ ?_; clear hK K)
    go_ret
    exact ⟨A', c', ret_sl rfl rfl rfl, Own.of_eq hO (Nat.zero_add n) (List.nil_append _), (Below.refl _ _).grown (grownBy_of_alloc hg) (Nat.le_refl _) (by simp [Value.ownBlock])⟩

/-! ### slices.Grow(nil, n) -/
/-! ### split -/
def splitL (v : Int) (n : Nat) : List Int := (List.range n).map fun j => IntKind.u8.wrap (bits .and .u32 (v / 2 ^ (n - 1 - j)) 1)
theorem splitL_step (v : Int) (n j : Nat) (hj : j < n) : ((splitL v n).take j ++ List.replicate (n - j) 0).set j (IntKind.u8.wrap (bits .and .u32 (v / 2 ^ (n - 1 - j)) 1)) = (splitL v n).take (j + 1) ++ List.replicate (n - (j + 1)) 0 := by
  have hl : (splitL v n).length = n := by simp [splitL]
  rw [List.set_append_right _ _ (by rw [List.length_take]; omega), List.length_take, Nat.min_eq_left (by omega), Nat.sub_self, show n - j = (n - (j + 1)) + 1 by omega, List.replicate_succ, List.set_cons_zero,
    List.take_succ_eq_append_getElem (by omega), List.append_assoc]
  simp [splitL]
def SplitInv (w1 : World) (v : Int) (n : Nat) (A : Option Addr) (i : Value) (wr : World) : Prop := ∃ j : Nat, j ≤ n ∧ i = .int .i64 j ∧ 
  Own .u8 5 wr w1.heap.size A n n ((splitL v n).take j ++ List.replicate (n - j) 0) ∧ Below w1.heap.size w1 wr
set_option maxHeartbeats 400000 in
set_option maxRecDepth 100000 in
theorem split_any (v : Int) (n : Nat) (w : World) (hn : n ≤ 32) :
    Calls Tryz.prog 110 #[.int .u32 v, .int .i64 n] w fun e w' => ∃ A' c', e = .returned (.slice A' n c') ∧ Own .u8 5 w' w.heap.size A' n c' (splitL v n) ∧ Below w.heap.size w w' := by
  go_enter Tryz.func110, Tryz.ntmps110
  go_wp2_with (at_make; refine list_of rfl fun K hK => wp_mk _ _ 22 rfl el53 rfl rfl (by omega) (by unfold maxLen; omega) ?_; intro A w1 hO hB1 hA; refine hK _ _ ?_; clear hK K)
  go_loopw [11] (fun i wr => SplitInv w v n A i wr) (fun i _ => n - (intOf i).toNat)
  case atStart => exact ⟨0, by omega, rfl, Own.of_eq hO rfl (by simp), hB1⟩
  case round =>
    obtain ⟨j, hj, rfl, hOj, hBj⟩ := hrel
    by_cases hlt : j < n
    · have hix := fun W => Rdv.ix (Own.rd hOj) el53 hlt .i64 W
      have hcell := Rd.cell (Own.rd hOj) hlt
      have hfz := Ownv.frozen hOj (by omega) j
      have HSET := Lib.hid (Own.set_ hOj hlt (IntKind.u8.wrap (bits .and .u32 (v / 2 ^ (n - 1 - j)) 1)))
      go_wp2
      go_roundw
      case rel => exact ⟨j + 1, by omega, by go_num, Own.of_eq HSET.out.1 rfl (by rw [splitL_step v n j hlt]), hBj.grown HSET.out.2 hBj.size (fun k hk => by injection hk with hk; rw [← hk]; exact (Ownv.blk_ge hOj (by omega)).1)⟩
      case measure => simp [intOf]; omega
    · obtain rfl : j = n := by omega
      go_wp2
      go_ret
      exact ⟨_, _, rfl, Own.of_eq hOj rfl (by rw [Nat.sub_self, List.replicate_zero, List.append_nil, List.take_of_length_le (by simp [splitL])]), hBj⟩
end Go.Proofs.YtpdalbckmfadbaaGreat.Cr

namespace Go.Proofs.YtpdalbckmfadbaaGreat.Cr
open Go.RowKit Go.Shelf
set_option linter.unusedVariables false
attribute [local go_sem] Oper.semAt_some

set_option maxRecDepth 100000 in
theorem values_any (A : Option Addr) (n c : Nat) (w : World) :
    Calls Tryz.prog 112 #[.slice A n c] w fun e w' => e = .returned (.func (.func 147) #[] #[.pointer (some ⟨w.heap.size, 0, none⟩)]) ∧ w.alloc (.cells #[.slice A n c] 22) = w' := by
  go_enter Tryz.func112, Tryz.ntmps112
  go_wp2
  go_ret
  exact ⟨rfl, rfl⟩

def uptoL (xs : List Int) (k : Nat) : List Int := xs.take k
theorem uptoL_succ (xs : List Int) (k : Nat) (h : k < xs.length) : uptoL xs (k + 1) = uptoL xs k ++ [gi xs k] := by
  unfold uptoL; rw [List.take_succ_eq_append_getElem h, gi_eq xs k h]
def V1Inv (n : Nat) (xs : List Int) (n₀ : Nat) (W : World) (J : List Int → World → Prop) (i : Value) (wr : World) : Prop := ∃ k : Nat, k ≤ n ∧ i = .int .i64 k ∧ J (uptoL xs k) wr ∧ Below n₀ W wr
def V1Post (xs : List Int) (J Jx : List Int → World → Prop) (e : Ending) (W' : World) : Prop :=
  (∃ v, e = .returned v) ∧ ((∃ ys, ys = xs ∧ J ys W') ∨ (∃ pre, (∃ k, k ≤ xs.length ∧ pre = uptoL xs k) ∧ Jx pre W'))
set_option maxRecDepth 100000 in
set_option maxHeartbeats 1000000 in
theorem values1_in (F : Fence) (m : Nat) (hF : F.fn 147) (hro : F.round = none) (hm : 1 ≤ m) (l Bs n₀ : Nat) (A : Option Addr) (n c : Nat) (xs : List Int) (w0 : World) (hR : Rd .u8 w0 A n c xs) (h0n : w0.heap.size = n₀) (J Jx : List Int → World → Prop)
    (hY : ∀ pre x W, J pre W → pre.length < n → YieldAt F (m - 1) Tryz.prog l #[.int .u8 x] W fun e W' =>
      (e = .returned (.bool true) ∧ J (pre ++ [x]) W' ∧ Below n₀ W W') ∨ (e = .returned (.bool false) ∧ Jx (pre ++ [x]) W'))
    (W : World) (hW : Below n₀ w0 W) (hBs : W.cell? ⟨Bs, 0, none⟩ = some (.slice A n c)) (h0 : J [] W) :
    CallsIn F m Tryz.prog 147 #[.func (.yield l) #[] #[], .pointer (some ⟨Bs, 0, none⟩)] W (V1Post xs J Jx) := by
  have hxl := hR.len
  have hbd := hR.bd.1
  have HXL := Lib.hid hxl; clear hxl
  have HR := Lib.hid hR
  refine callsIn_of_wp Tryz.func147 rfl hF ?_ hro
  simp only [Tryz.ntmps147, List.size_toArray, List.length_cons, List.length_nil, Nat.reduceAdd, Nat.reduceSub, Array.replicate_succ, Array.replicate_zero, List.push_toArray, List.append_toArray, List.nil_append, List.cons_append]
  gi_wp2
  gi_loopw [7] (fun i wr => V1Inv n xs n₀ W J i wr) (fun i _ => n - (intOf i).toNat)
  case atStart => exact ⟨0, Nat.zero_le _, rfl, h0, Below.refl _ _⟩
  case round =>
    obtain ⟨k, hk, rfl, hJs, hnx⟩ := hrel
    by_cases hlt : k < n
    · have hRr : Rd .u8 wr A n c xs := Rdv.below HR.out (by rw [h0n]; exact hW.trans hnx)
      have hc := Rd.cell hRr hlt
      have hix := fun W => Rdv.ix hRr el53 hlt .i64 W
      obtain ⟨fn, tmps, assign, body, hy, hRd⟩ := hY _ (gi xs k) wr hJs (by unfold uptoL; rw [List.length_take, HXL.out]; omega)
      gi_wp2
      refine hRd.mono ?_
      rintro e W3 (⟨rfl, hJ3, hk3⟩ | ⟨rfl, hJx3⟩)
      · gi_wp2
        go_roundw
        case rel => exact ⟨k + 1, by omega, by simp, by rw [uptoL_succ _ _ (by rw [HXL.out]; exact hlt)]; exact hJ3, hnx.trans hk3⟩
        case measure => simp [intOf]; omega
      · gi_wp2
        refine bodyPost_ret (results_none rfl _ _ _) rfl ?_
        exact ⟨⟨_, rfl⟩, .inr ⟨_, ⟨k + 1, by rw [HXL.out]; omega, (uptoL_succ _ _ (by rw [HXL.out]; exact hlt)).symm⟩, hJx3⟩⟩
    · obtain rfl : k = n := by omega
      gi_wp2
      go_end0
      exact ⟨⟨_, rfl⟩, .inl ⟨_, by unfold uptoL; exact List.take_of_length_le (Nat.le_of_eq HXL.out), hJs⟩⟩
theorem values_stops (F : Fence) (m : Nat) (hF : F.fn 147) (hro : F.round = none) (hm : 1 ≤ m) (Bs n₀ : Nat) (A : Option Addr) (n c : Nat) (xs : List Int) (w0 w : World) (hR : Rd .u8 w0 A n c xs) (h0n : w0.heap.size = n₀) (hW0 : Below n₀ w0 w)
    (hBs : Bs < w.heap.size) (hc : w.cell? ⟨Bs, 0, none⟩ = some (.slice A n c)) :
    SeqStopsK F m Tryz.prog 147 #[.pointer (some ⟨Bs, 0, none⟩)] (fun x : Int => #[Value.int .u8 x]) (Below n₀) (fun ys => ys = xs) (fun pre => ∃ k, k ≤ xs.length ∧ pre = uptoL xs k) n w := fun l J Jx W hW _ _ hY h0 =>
  values1_in F m hF hro hm l Bs n₀ A n c xs w0 hR h0n J Jx hY W (hW0.trans (hW.mono (by have := hW0.size; omega))) ((hW.cell (p := ⟨Bs, 0, none⟩) hBs).trans hc) h0

/-! ### divide -/
def crcStep (L : Nat) (p : Int) (reg b : Int) : Int :=
  bits .xor .u32 (bits .and .u32 (reg * 2 % 4294967296) ((2 ^ L % 4294967296 - 1) % 4294967296)) (bits .xor .u32 (bits .and .u32 (reg / 2 ^ (L - 1)) 1) (b % 4294967296) * p % 4294967296)
def crcFold (L : Nat) (p : Int) (xs : List Int) : Int := xs.foldl (crcStep L p) 0
theorem crcFold_snoc (L : Nat) (p : Int) (xs : List Int) (x : Int) : crcFold L p (xs ++ [x]) = crcStep L p (crcFold L p xs) x := by simp [crcFold]
set_option maxRecDepth 100000 in
set_option maxHeartbeats 1000000 in
theorem divide_any (L : Nat) (p : Int) (Bs : Nat) (A : Option Addr) (n c : Nat) (xs : List Int) (w : World) (hR : Rd .u8 w A n c xs) (hBs : Bs < w.heap.size) (hc : w.cell? ⟨Bs, 0, none⟩ = some (.slice A n c)) (hL : 8 ≤ L) (hL2 : L ≤ 24) :
    Calls Tryz.prog 111 #[.agg #[.int .i64 (L : Int), .int .u32 p], .func (.func 147) #[] #[.pointer (some ⟨Bs, 0, none⟩)]] w fun e w' => e = .returned (.int .u32 (crcFold L p xs)) ∧ Below w.heap.size w w' := by
  refine (callsIn_wide (n := 3)).1 ?_
  refine callsIn_of_wp_marks Tryz.func111 rfl trivial ?_
  simp only [Tryz.ntmps111, List.size_toArray, List.length_cons, List.length_nil, Nat.reduceAdd, Nat.reduceSub, Array.replicate_succ, Array.replicate_zero, List.push_toArray, List.append_toArray, List.nil_append, List.cons_append]
  gi_wp2
  have cS0 : ((w.alloc (Obj.cells #[.int .i64 L, .int .u32 p] 118)).alloc (Obj.cells #[.int .u32 0] 116)).cell? ⟨w.heap.size, 0, none⟩ = some (.int .i64 L) := by simp [go_sem]
  have cS1 : ((w.alloc (Obj.cells #[.int .i64 L, .int .u32 p] 118)).alloc (Obj.cells #[.int .u32 0] 116)).cell? ⟨w.heap.size, 1, none⟩ = some (.int .u32 p) := by simp [go_sem]
  have cR : ((w.alloc (Obj.cells #[.int .i64 L, .int .u32 p] 118)).alloc (Obj.cells #[.int .u32 0] 116)).cell? ⟨w.heap.size + 1, 0, none⟩ = some (.int .u32 0) ∧ ((w.alloc (Obj.cells #[.int .i64 L, .int .u32 p] 118)).alloc (Obj.cells #[.int .u32 0] 116)).frozen? ⟨w.heap.size + 1, 0, none⟩ = false := by simp [go_sem]
  have hB0 : Below w.heap.size w ((w.alloc (Obj.cells #[.int .i64 L, .int .u32 p] 118)).alloc (Obj.cells #[.int .u32 0] 116)) := ((Below.refl _ w).alloc (Nat.le_refl _) _).alloc (by simp) _
  have hc2 := (hB0.cell (p := ⟨Bs, 0, none⟩) hBs).trans hc
  generalize hw2 : (w.alloc (Obj.cells #[.int .i64 L, .int .u32 p] 118)).alloc (Obj.cells #[.int .u32 0] 116) = w2 at *
  have hsz : w2.heap.size = w.heap.size + 2 := by rw [← hw2]; simp
  refine wpIn_rangeFunc_ownF rfl (by omega) (gf := 147) (lb := #[.pointer (some ⟨Bs, 0, none⟩)]) rfl trivial (enters_of Tryz.func147 (by kernel_rfl) rfl)
    (values_stops Fence.wide 2 trivial rfl (by omega) Bs w.heap.size A n c xs w w2 hR rfl hB0 (by omega) hc2) belowK_t (belowK_b (by omega)) (Below.refl _ _) (fun _ => rfl)
    (fun pre W => (W.cell? ⟨w.heap.size, 0, none⟩ = some (.int .i64 L) ∧ W.cell? ⟨w.heap.size, 1, none⟩ = some (.int .u32 p) ∧ W.cell? ⟨w.heap.size + 1, 0, none⟩ = some (.int .u32 (crcFold L p pre)) ∧ W.frozen? ⟨w.heap.size + 1, 0, none⟩ = false) ∧ Below w.heap.size w W)
    (fun _ _ _ => False)
    (OwnFrom.and (Own.from (fun s A B row hs hg hr => ⟨cell_kept hs.1 hg hr, cell_kept hs.2.1 hg hr, cell_kept hs.2.2.1 hg hr, (frozen_kept hs.2.2.1 hg hr).trans hs.2.2.2⟩) _) (ownFrom_below (Nat.le_refl _) (by omega)))
    (fun _ _ _ _ _ hs _ _ => hs)
    ⟨⟨cS0, cS1, cR.1, cR.2⟩, hB0⟩
    (fun x => { tmps := #[.agg #[.int .i64 L, .int .u32 p], .func (.func 147) #[] #[.pointer (some ⟨Bs, 0, none⟩)], .pointer (some ⟨w.heap.size, 0, none⟩), undef, .int .u32 0, .pointer (some ⟨w.heap.size + 1, 0, none⟩), .int .u8 x, undef, .func (.func 147) #[] #[.pointer (some ⟨Bs, 0, none⟩)], .int .u8 x,
      undef, undef, undef, undef, undef, undef, undef, undef, undef, undef, undef, undef, undef, undef, undef, undef, undef, undef, undef, undef, undef, undef], defers := [] }) ?assign ?body ?done ?stop
  case assign =>
    intro l x W K hK
    gi_wp2
    exact hK
  case body =>
    rintro l pre x W ⟨⟨h1, h2, h3, h4⟩, hB⟩ _
    gi_wp2
    refine regIn_still_tail 12 (by kernel_rfl) (by kernel_rfl) (by kernel_rfl) (fun ⟨_, _, h⟩ => h) ?_
    simp only [List.take_succ_cons, List.take_zero, List.drop_succ_cons, List.drop_zero]
    repeat still_step
    try refine wpStill_nil ?_
    simp only [World.drew_eq]
    go_wp2
    have hset := World.cell?_setCell_same' W ⟨w.heap.size + 1, 0, none⟩ (.int .u32 (crcFold L p (pre ++ [x]))) (by rw [h3]; rfl)
    have hs0 := (World.cell?_setCell_other W ⟨w.heap.size + 1, 0, none⟩ ⟨w.heap.size, 0, none⟩ (.int .u32 (crcFold L p (pre ++ [x]))) (by simp)).trans h1
    have hs1 := (World.cell?_setCell_other W ⟨w.heap.size + 1, 0, none⟩ ⟨w.heap.size, 1, none⟩ (.int .u32 (crcFold L p (pre ++ [x]))) (by simp)).trans h2
    have hsf : (W.setCell ⟨w.heap.size + 1, 0, none⟩ (.int .u32 (crcFold L p (pre ++ [x])))).frozen? ⟨w.heap.size + 1, 0, none⟩ = false := by rw [World.frozen?_setCell]; exact h4
    rw [crcFold_snoc] at hset hs0 hs1 hsf
    exact ⟨(KeepsOthers.setCell _ _ _).trans (KeepsOthers.drew _), ((Below.refl w.heap.size W).setCell (p := ⟨w.heap.size + 1, 0, none⟩) (Nat.le_succ _) _).drew, ⟨hs0, hs1, by rw [crcFold_snoc]; exact hset, hsf⟩, (hB.setCell (p := ⟨w.heap.size + 1, 0, none⟩) (Nat.le_succ _) _).drew⟩
  case done =>
    rintro D ys W hD rfl ⟨⟨h1, h2, h3, h4⟩, hB⟩ hK
    gi_wp2
    refine ⟨by simp, .inl ⟨_, _, rfl, run_takeDeferred hK, ?_⟩⟩
    exact ⟨_, results_tmp rfl _ _ _, rfl, hB.trans (belowK_b (w := w) (Nat.le_refl _) W D _ _ (by omega) hK rfl rfl)⟩
  case stop =>
    rintro D c pre W _ _ h _
    exact h.elim
end Go.Proofs.YtpdalbckmfadbaaGreat.Cr

namespace Go.Proofs.YtpdalbckmfadbaaGreat.Cr
open Go.RowKit
set_option linter.unusedVariables false
def sLen (k : Int) : Nat := if k = 1 then 24 else if k = 2 then 24 else if k = 3 then 16 else if k = 4 then 8 else 0
def sPoly (k : Int) : Int := if k = 1 then 0x864cfb else if k = 2 then 0x800063 else if k = 3 then 0x1021 else if k = 4 then 0x9b else 0
theorem sLen_cases (k : Int) : sLen k = 0 ∨ 8 ≤ sLen k ∧ sLen k ≤ 24 := by unfold sLen; repeat (split <;> try omega)
set_option maxHeartbeats 400000 in
set_option maxRecDepth 100000 in
theorem of_lit (k : Int) (w : World) (h : k = 0 ∨ k = 1 ∨ k = 2 ∨ k = 3 ∨ k = 4) :
    Calls Tryz.prog 66 #[.int .i64 k] w fun e w' => e = .returned (.agg #[.int .i64 (sLen k : Int), .int .u32 (sPoly k)]) ∧ Below w.heap.size w w' := by
  rcases h with rfl | rfl | rfl | rfl | rfl
  all_goals
    go_enter Tryz.func66, Tryz.ntmps66
    go_wp2
    refine bodyPost_ret (v := .agg #[_, _]) (by simp [results, Tryz.results66, go_sem]; exact ⟨rfl, rfl⟩) rfl ⟨rfl, ?_⟩
    exact (((Below.refl _ _).alloc (Nat.le_refl _) _).alloc (by simp) _)
set_option maxHeartbeats 400000 in
set_option maxRecDepth 100000 in
theorem of_out (k : Int) (w : World) (h : k < 0 ∨ 5 ≤ k) :
    Calls Tryz.prog 66 #[.int .i64 k] w fun e w' => e = .returned (.agg #[.int .i64 (sLen k : Int), .int .u32 (sPoly k)]) ∧ Below w.heap.size w w' := by
  have e1 : sLen k = 0 := by unfold sLen; repeat (first | rw [if_neg (by omega)] | rfl)
  have e2 : sPoly k = 0 := by unfold sPoly; repeat (first | rw [if_neg (by omega)] | rfl)
  rw [e1, e2]
  clear e1 e2
  rcases h with h | h
  · go_enter Tryz.func66, Tryz.ntmps66
    go_wp2
    refine bodyPost_ret (v := .agg #[_, _]) (by simp [results, Tryz.results66, go_sem]) rfl ⟨rfl, ?_⟩
    exact (((Below.refl _ _).alloc (Nat.le_refl _) _).alloc (by simp) _)
  · have h0 : decide (k < 0) = false := by simp; omega
    go_enter Tryz.func66, Tryz.ntmps66
    go_wp2
    refine bodyPost_ret (v := .agg #[_, _]) (by simp [results, Tryz.results66, go_sem]) rfl ⟨rfl, ?_⟩
    exact (((Below.refl _ _).alloc (Nat.le_refl _) _).alloc (by simp) _)
theorem of_any (k : Int) (w : World) :
    Calls Tryz.prog 66 #[.int .i64 k] w fun e w' => e = .returned (.agg #[.int .i64 (sLen k : Int), .int .u32 (sPoly k)]) ∧ Below w.heap.size w w' := by
  by_cases h : k < 0 ∨ 5 ≤ k
  · exact of_out k w h
  · exact of_lit k w (by omega)
set_option maxRecDepth 100000 in
theorem len_any (k : Int) (w : World) : Calls Tryz.prog 25 #[.int .i64 k] w fun e w' => e = .returned (.int .i64 (sLen k : Int)) ∧ Below w.heap.size w w' := by
  have h1 := Lib.hid (of_any k w)
  generalize sLen k = L at *
  generalize sPoly k = p at *
  have hfld : ∀ W, (Instr.field 118 (.agg #[.int .i64 (L : Int), .int .u32 p]) 0).run Tryz.prog W = .ok (.int .i64 (L : Int)) W := fun _ => by kernel_rfl
  go_enter Tryz.func25, Tryz.ntmps25
  go_wp2_with fail
  refine h1.out.mono ?_
  rintro e w1 ⟨rfl, hB⟩
  go_wp2
  go_ret
  exact ⟨rfl, hB⟩
end Go.Proofs.YtpdalbckmfadbaaGreat.Cr

namespace Go.Proofs.YtpdalbckmfadbaaGreat.Cr
open Go.RowKit
set_option linter.unusedVariables false
def crcSum (k : Int) (xs : List Int) : List Int := splitL (crcFold (sLen k) (sPoly k) xs) (sLen k)
set_option maxHeartbeats 1000000 in
set_option maxRecDepth 100000 in
theorem compute_ok (k : Int) (A : Option Addr) (n c : Nat) (xs : List Int) (w : World) (hx : Rd .u8 w A n c xs) (hk : sLen k ≠ 0) (hv : ValidB xs = true) :
    Calls Tryz.prog 64 #[.int .i64 k, .slice A n c] w fun e w' => ∃ A' c', e = .returned (.tuple #[.slice A' (sLen k) c', .int .i64 0]) ∧ Own .u8 5 w' w.heap.size A' (sLen k) c' (crcSum k xs) ∧ Below w.heap.size w w' := by
  have hN := sLen_cases k
  have h1 := Lib.hid (of_any k w)
  unfold crcSum
  generalize sLen k = L at *
  generalize sPoly k = p at *
  have hb0 : ((L : Int) == 0) = false := beq_f (by omega)
  have hL8 : 8 ≤ L ∧ L ≤ 24 := by omega
  clear hk hN
  go_enter Tryz.func64, Tryz.ntmps64
  go_wp2_with fail
  refine h1.out.mono ?_
  rintro e w1 ⟨rfl, hB1⟩
  have hx1 := Rdv.below hx hB1
  have hx2 := Rdv.alloc hx1 (.cells #[.int .i64 L, .int .u32 p] 118)
  go_wp2_with (go_at_call 63; refine (invalid_any A n c xs _ hx2).mono ?_; rintro e w' ⟨rfl, rfl⟩)
  have hx3 := Rdv.drew (Rdv.alloc hx2 (.cells #[.slice A n c] 22))
  have hbc : ((w1.alloc (Obj.cells #[.int .i64 (L : Int), .int .u32 p] 118)).alloc (Obj.cells #[.slice A n c] 22)).drew.cell? ⟨w1.heap.size + 1, 0, none⟩ = some (.slice A n c) := by simp [go_sem]
  have hk0 : ((w1.alloc (Obj.cells #[.int .i64 (L : Int), .int .u32 p] 118)).alloc (Obj.cells #[.slice A n c] 22)).drew.cell? ⟨w1.heap.size, 0, none⟩ = some (.int .i64 (L : Int)) := by simp [go_sem]
  have hk1 : ((w1.alloc (Obj.cells #[.int .i64 (L : Int), .int .u32 p] 118)).alloc (Obj.cells #[.slice A n c] 22)).drew.cell? ⟨w1.heap.size, 1, none⟩ = some (.int .u32 p) := by simp [go_sem]
  have hsz3 : w1.heap.size + 1 < ((w1.alloc (Obj.cells #[.int .i64 (L : Int), .int .u32 p] 118)).alloc (Obj.cells #[.slice A n c] 22)).drew.heap.size := by simp
  have hdv := Lib.hid (divide_any L p _ A n c xs _ hx3 hsz3 hbc (by omega) (by omega))
  go_region_held3 (fun W => W.cell? ⟨w1.heap.size, 0, none⟩ = some (.int .i64 L) ∧ W.cell? ⟨w1.heap.size, 1, none⟩ = some (.int .u32 p)) (first | (simp [go_sem]; done) | exact ⟨hm0, hm1⟩ | exact ⟨hm2, hm3⟩)
    (first
      | (go_at_call 112; refine (values_any A n c _).mono ?_; rintro e w' ⟨rfl, rfl⟩)
      | (go_at_call 111; refine hdv.out.mono ?_; rintro e w3 ⟨rfl, hB3⟩; have hm0 := (hB3.cell (p := ⟨w1.heap.size, 0, none⟩) (by simp; omega)).trans hk0; have hm1 := (hB3.cell (p := ⟨w1.heap.size, 1, none⟩) (by simp; omega)).trans hk1; have hz3 := hB3.size)
      | (go_at_call 110; refine (split_any _ L _ (by omega)).mono ?_; rintro e w4 ⟨A4, c4, rfl, hO4, hB4⟩; have hm2 := (hB4.cell (p := ⟨w1.heap.size, 0, none⟩) (show w1.heap.size < w3.heap.size by simp at hz3; omega)).trans hm0; have hm3 := (hB4.cell (p := ⟨w1.heap.size, 1, none⟩) (show w1.heap.size < w3.heap.size by simp at hz3; omega)).trans hm1))
  go_wp2
  go_ret2
  have hz3' : w1.heap.size + 1 + 1 ≤ w3.heap.size := by simpa using hz3
  have hz1 := hB1.size
  refine ⟨A4, c4, rfl, Ownv.mono hO4 (by omega), ?_⟩
  exact ((hB1.trans ((((Below.refl _ w1).alloc (Nat.le_refl _) _).alloc (by simp) _).drew.mono hz1)).trans (hB3.mono (by simp; omega))).trans (hB4.mono (by omega))
end Go.Proofs.YtpdalbckmfadbaaGreat.Cr

namespace Go.Proofs.YtpdalbckmfadbaaGreat.Cr
open Go.RowKit
set_option linter.unusedVariables false
/-- A slice value and what it reads as. -/
structure Sv where
  A : Option Addr
  n : Nat
  c : Nat
  xs : List Int
def Sv.v (s : Sv) : Value := .slice s.A s.n s.c
def tot (L : List Sv) (j : Nat) : Nat := ((L.take j).map (·.n)).sum
/-! ### Attach -/
end Go.Proofs.YtpdalbckmfadbaaGreat.Cr

namespace Go.Proofs.YtpdalbckmfadbaaGreat.Cr
open Go.RowKit
set_option linter.unusedVariables false
theorem splitL_len (v : Int) (n : Nat) : (splitL v n).length = n := by simp [splitL]
def chkErr (k : Int) (xs : List Int) : Int :=
  if sLen k = 0 then 2 else if ValidB xs = true then (if xs.length < sLen k then 5 else if crcSum k (xs.take (xs.length - sLen k)) = xs.drop (xs.length - sLen k) then 0 else 11) else 3
def chkRes (k : Int) (xs : List Int) : List Int := if chkErr k xs = 0 then xs.take (xs.length - sLen k) else []
set_option maxHeartbeats 1000000 in
set_option maxRecDepth 100000 in
theorem check_any (k : Int) (A : Option Addr) (n c : Nat) (xs : List Int) (w : World) (hx : Rd .u8 w A n c xs) (hn : n ≤ 100000) :
    Calls Tryz.prog 24 #[.int .i64 k, .slice A n c] w fun e w' => ∃ A' n' c', e = .returned (.tuple #[.slice A' n' c', .int .i64 (chkErr k xs)]) ∧ Own .u8 5 w' w.heap.size A' n' c' (chkRes k xs) ∧ Below w.heap.size w w' := by
  have hN := sLen_cases k
  have hxl := hx.len
  have hl := fun W => Lib.hid (len_any k W)
  by_cases h0 : sLen k = 0
  · have e1 : chkErr k xs = 2 := by rw [chkErr, if_pos h0]
    have e2 : chkRes k xs = [] := by rw [chkRes, e1]; rfl
    rw [e1, e2]
    rw [h0] at hl
    clear e1 e2 h0 hN hxl
    go_enter Tryz.func24, Tryz.ntmps24
    go_wp2_with fail
    refine (hl _).out.mono ?_
    rintro e w1 ⟨rfl, hB1⟩
    go_wp2_with fail
    refine (hl _).out.mono ?_
    rintro e w2 ⟨rfl, hB2⟩
    go_wp2
    go_ret2
    exact ⟨none, 0, 0, rfl, Own.nilv _ _ _ _, hB1.trans (hB2.mono hB1.size)⟩
  · by_cases hv : ValidB xs = true
    · by_cases hs : xs.length < sLen k
      · have e1 : chkErr k xs = 5 := by rw [chkErr, if_neg h0, if_pos hv, if_pos hs]
        have e2 : chkRes k xs = [] := by rw [chkRes, e1]; rfl
        rw [e1, e2]
        rw [hxl] at hs
        clear e1 e2 hxl
        generalize sLen k = L at *
        have hb : ((L : Int) == 0) = false := beq_f (by omega)
        have hL8 : 1 ≤ L ∧ L ≤ 24 := by omega
        clear hN h0
        go_enter Tryz.func24, Tryz.ntmps24
        go_wp2_with fail
        refine (hl _).out.mono ?_
        rintro e w1 ⟨rfl, hB1⟩
        go_wp2_with fail
        refine (hl _).out.mono ?_
        rintro e w2 ⟨rfl, hB2⟩
        have hx2 := Rdv.below (Rdv.below hx hB1) hB2
        go_wp2_with (go_at_call 63; refine (invalid_any A n c xs _ hx2).mono ?_; rintro e w' ⟨rfl, rfl⟩)
        go_ret2
        exact ⟨none, 0, 0, rfl, Own.nilv _ _ _ _, hB1.trans (hB2.mono hB1.size)⟩
      · have hc := fun W hW => Lib.hid (compute_ok k A (xs.length - sLen k) c (xs.take (xs.length - sLen k)) W hW h0 (validB_take _ hv))
        by_cases hq : crcSum k (xs.take (xs.length - sLen k)) = xs.drop (xs.length - sLen k)
        · have e1 : chkErr k xs = 0 := by rw [chkErr, if_neg h0, if_pos hv, if_neg hs, if_pos hq]
          have e2 : chkRes k xs = xs.take (xs.length - sLen k) := by rw [chkRes, e1]; rfl
          rw [e1, e2]
          rw [hxl] at *
          clear e1 e2
          have HQ : decide (crcSum k (xs.take (n - sLen k)) = xs.drop (n - sLen k)) = true := by simpa using hq
          clear hq
          generalize crcSum k (xs.take (n - sLen k)) = S at *
          generalize sLen k = L at *
          have hb : ((L : Int) == 0) = false := beq_f (by omega)
          have hL8 : 1 ≤ L ∧ L ≤ 24 := by omega
          have em0 : (n : Int) - (L : Int) = ((n - L : Nat) : Int) := by omega
          have hmn : n - L ≤ n := by omega
          generalize n - L = m at *
          clear hN h0
          go_enter Tryz.func24, Tryz.ntmps24
          go_wp2_with fail
          refine (hl _).out.mono ?_
          rintro e w1 ⟨rfl, hB1⟩
          go_wp2_with fail
          refine (hl _).out.mono ?_
          rintro e w2 ⟨rfl, hB2⟩
          have hx2 := Rdv.below (Rdv.below hx hB1) hB2
          have hsl := fun W => Rdv.slh hx2 el53 .i64 (show m ≤ c by have := Rdv.le hx; omega) W
          have hsl2 := fun W => Rdv.sll hx2 el53 .i64 hmn W
          go_wp2_with (go_at_call 63; refine (invalid_any A n c xs _ hx2).mono ?_; rintro e w' ⟨rfl, rfl⟩)
          refine (hc _ (Rd.upto hx2 hmn)).out.mono ?_
          rintro e w3 ⟨A3, c3, rfl, hO3, hB3⟩
          have hx3 := Rdv.below hx2 hB3
          have hd3 := Rd.cut_ hx3 (l := m) (m := n) hmn (Nat.le_refl _)
          rw [List.take_of_length_le (Nat.le_of_eq hx.len)] at hd3
          go_wp2_with (go_at_call 65; refine (equal_any A3 (cut A c m) L c3 _ _ S (xs.drop m) _ (Own.rd hO3) hd3).mono ?_; rintro e w4 ⟨rfl, hQ4⟩)
          have hz2 := Nat.le_trans hB1.size hB2.size
          have hz3 := hB3.size
          have hz4 := (hQ4.below w3.heap.size).size
          have hx4 := Rdv.below (Rd.upto hx3 (show m ≤ n by omega)) (hQ4.below _)
          go_wp2_with (go_at_call 60; refine (clone_any A m c _ _ hx4 (by omega)).mono ?_; rintro e w5 ⟨A5, c5, rfl, hO5, hB5⟩)
          have hfb : Below w.heap.size w w5 := (((hB1.trans (hB2.mono hB1.size)).trans (hB3.mono hz2)).trans (hQ4.below _)).trans (hB5.mono (by omega))
          go_ret2
          exact ⟨A5, m, c5, rfl, Ownv.mono hO5 (by omega), hfb⟩
        · have e1 : chkErr k xs = 11 := by rw [chkErr, if_neg h0, if_pos hv, if_neg hs, if_neg hq]
          have e2 : chkRes k xs = [] := by rw [chkRes, e1]; rfl
          rw [e1, e2]
          rw [hxl] at *
          clear e1 e2
          have HQ : decide (crcSum k (xs.take (n - sLen k)) = xs.drop (n - sLen k)) = false := by simpa using hq
          clear hq
          generalize crcSum k (xs.take (n - sLen k)) = S at *
          generalize sLen k = L at *
          have hb : ((L : Int) == 0) = false := beq_f (by omega)
          have hL8 : 1 ≤ L ∧ L ≤ 24 := by omega
          have em0 : (n : Int) - (L : Int) = ((n - L : Nat) : Int) := by omega
          have hmn : n - L ≤ n := by omega
          generalize n - L = m at *
          clear hN h0
          go_enter Tryz.func24, Tryz.ntmps24
          go_wp2_with fail
          refine (hl _).out.mono ?_
          rintro e w1 ⟨rfl, hB1⟩
          go_wp2_with fail
          refine (hl _).out.mono ?_
          rintro e w2 ⟨rfl, hB2⟩
          have hx2 := Rdv.below (Rdv.below hx hB1) hB2
          have hsl := fun W => Rdv.slh hx2 el53 .i64 (show m ≤ c by have := Rdv.le hx; omega) W
          have hsl2 := fun W => Rdv.sll hx2 el53 .i64 hmn W
          go_wp2_with (go_at_call 63; refine (invalid_any A n c xs _ hx2).mono ?_; rintro e w' ⟨rfl, rfl⟩)
          refine (hc _ (Rd.upto hx2 hmn)).out.mono ?_
          rintro e w3 ⟨A3, c3, rfl, hO3, hB3⟩
          have hx3 := Rdv.below hx2 hB3
          have hd3 := Rd.cut_ hx3 (l := m) (m := n) hmn (Nat.le_refl _)
          rw [List.take_of_length_le (Nat.le_of_eq hx.len)] at hd3
          go_wp2_with (go_at_call 65; refine (equal_any A3 (cut A c m) L c3 _ _ S (xs.drop m) _ (Own.rd hO3) hd3).mono ?_; rintro e w4 ⟨rfl, hQ4⟩)
          have hz2 := Nat.le_trans hB1.size hB2.size
          have hfb : Below w.heap.size w w4 := ((hB1.trans (hB2.mono hB1.size)).trans (hB3.mono hz2)).trans (hQ4.below _)
          go_wp2
          go_ret2
          exact ⟨none, 0, 0, rfl, Own.nilv _ _ _ _, hfb⟩
    · have e1 : chkErr k xs = 3 := by rw [chkErr, if_neg h0, if_neg hv]
      have e2 : chkRes k xs = [] := by rw [chkRes, e1]; rfl
      have hv' : ValidB xs = false := by simpa using hv
      rw [e1, e2]
      clear e1 e2 hxl hv
      generalize sLen k = L at *
      have hb : ((L : Int) == 0) = false := beq_f (by omega)
      go_enter Tryz.func24, Tryz.ntmps24
      go_wp2_with fail
      refine (hl _).out.mono ?_
      rintro e w1 ⟨rfl, hB1⟩
      go_wp2_with fail
      refine (hl _).out.mono ?_
      rintro e w2 ⟨rfl, hB2⟩
      have hx2 := Rdv.below (Rdv.below hx hB1) hB2
      go_wp2_with (go_at_call 63; refine (invalid_any A n c xs _ hx2).mono ?_; rintro e w' ⟨rfl, rfl⟩)
      go_ret2
      exact ⟨none, 0, 0, rfl, Own.nilv _ _ _ _, hB1.trans (hB2.mono hB1.size)⟩

/-! ### Mask -/
end Go.Proofs.YtpdalbckmfadbaaGreat.Cr

