import Derived.Test.YtcbbkflnenkpgaaGreatT5
namespace Go.Proofs.YtcbbkflnenkpgaaGreat
open Go.RowKit
set_option linter.unusedVariables false
/-! ### slices.Equal -/
set_option maxHeartbeats 400000 in
set_option maxRecDepth 100000 in
theorem equal_any (A B : Option Addr) (n c m d : Nat) (xs ys : List Int) (w : World) (hx : Rd .u8 w A n c xs) (hy : Rd .u8 w B m d ys) :
    Calls Tryz.prog 83 #[.slice A n c, .slice B m d] w fun e w' => e = .returned (.bool (decide (xs = ys))) ∧ Qt w w' := by
  have b1 := hx.bd.1
  have b2 := hy.bd.1
  by_cases hnm : n = m
  · subst hnm
    have hne : ((n : Int) != (n : Int)) = false := bne_f rfl
    go_enter Tryz.func83, Tryz.ntmps83
    go_wp2
    go_loopw [13] (fun i wr => SameInv w n xs ys i wr) (fun i _ => n - (intOf i).toNat)
    case atStart => exact ⟨0, by omega, rfl, by intro q hq; omega, 0, rfl⟩
    case round =>
      obtain ⟨j, hj, rfl, hv, q0, rfl⟩ := hrel
      by_cases hlt : j < n
      · have hc := Rd.cell hx hlt
        have hd := Rd.cell hy hlt
        have hix := fun W => Rdv.ix hx el53 hlt .i64 W
        have hiy := fun W => Rdv.ix hy el53 hlt .i64 W
        have HV := Lib.hid hv; clear hv
        by_cases h1 : gi xs j = gi ys j
        · have h1' := bne_f h1
          have H1 := Lib.hid h1; clear h1
          go_wp2
          go_quiet (fail)
          go_wp2
          go_roundw
          case rel => exact ⟨j + 1, by omega, by go_num, fun q hq => lt_succ_cases HV.out H1.out q hq, by first | exact ⟨_, rfl⟩ | exact Qt.drewN ⟨_, rfl⟩ _⟩
          case measure => simp [intOf]; omega
        · have h1' := bne_t h1
          have hf : decide (xs = ys) = false := by simp; rintro rfl; exact h1 rfl
          go_wp2
          go_quiet (fail)
          go_wp2
          go_ret
          exact ⟨ret_bool hf.symm, by first | exact ⟨_, rfl⟩ | exact Qt.drewN ⟨_, rfl⟩ _⟩
      · have hf : decide (xs = ys) = true := by
          have hl1 := hx.len; have hl2 := hy.len
          simp only [decide_eq_true_eq]
          refine ext_gi (by rw [hl1, hl2]) fun q hq => hv q (by omega)
        go_wp2
        go_ret
        exact ⟨ret_bool hf.symm, by first | exact ⟨_, rfl⟩ | exact Qt.drewN ⟨_, rfl⟩ _⟩
  · have hne : ((n : Int) != (m : Int)) = true := bne_t (by omega)
    have hf : decide (xs = ys) = false := by
      simp; rintro rfl; have := hx.len; have := hy.len; omega
    go_enter Tryz.func83, Tryz.ntmps83
    go_wp2
    go_ret
    exact ⟨ret_bool hf.symm, 0, rfl⟩


set_option maxRecDepth 100000 in
theorem inv1_any (b : Int) (w : World) : Calls Tryz.prog 122 #[.int .u8 b] w fun e w' => e = .returned (.bool (decide (1 < b))) ∧ w = w' := by
  go_enter Tryz.func122, Tryz.ntmps122
  go_wp2
  go_ret
  exact ⟨rfl, rfl⟩
def IdxInv (n : Nat) (xs : List Int) (i : Value) : Prop := ∃ j : Nat, j ≤ n ∧ i = .int .i64 j ∧ ∀ q, q < j → gi xs q ≤ 1
def IdxPost (xs : List Int) (w : World) (e : Ending) (w' : World) : Prop := ∃ r : Int, e = .returned (.int .i64 r) ∧ (0 ≤ r ↔ ValidB xs = false) ∧ w = w'
set_option maxHeartbeats 400000 in
set_option maxRecDepth 100000 in
theorem idx_any (A : Option Addr) (n c : Nat) (xs : List Int) (w : World) (h : Rd .u8 w A n c xs) :
    Calls Tryz.prog 115 #[.slice A n c, .func (.func 122) #[] #[]] w (IdxPost xs w) := by
  have hbd := h.bd.1
  go_enter Tryz.func115, Tryz.ntmps115
  go_wp2
  go_loop [8] (fun i => IdxInv n xs i) (fun i => n - (intOf i).toNat)
  case atStart => exact ⟨0, by omega, rfl, by intro q hq; omega⟩
  case round =>
    obtain ⟨j, hj, rfl, hv⟩ := hrel
    by_cases hlt : j < n
    · have hc := Rd.cell h hlt
      have hix := fun W => Rdv.ix h el53 hlt .i64 W
      have HV := Lib.hid hv; clear hv
      by_cases h1 : gi xs j ≤ 1
      · have h1' : decide (1 < gi xs j) = false := by simp; omega
        go_wp2_with (go_at_call 122; refine (inv1_any _ _).mono ?_; rintro e w' ⟨rfl, rfl⟩)
        go_round
        case rel => exact ⟨j + 1, by omega, by go_num, fun q hq => lt_succ_cases HV.out h1 q hq⟩
        case measure => simp [intOf]; omega
      · have h1' : decide (1 < gi xs j) = true := by simp; omega
        have hf := Lib.hid (validB_f (by rw [h.len]; exact hlt) (by omega : 1 < gi xs j))
        go_wp2_with (go_at_call 122; refine (inv1_any _ _).mono ?_; rintro e w' ⟨rfl, rfl⟩)
        go_ret
        exact ⟨_, rfl, by rw [hf.out]; simp, rfl⟩
    · have hf := Lib.hid (validB_t (xs := xs) (by rw [h.len]; intro q hq; exact hv q (by omega)))
      go_wp2
      go_ret
      exact ⟨_, rfl, by rw [hf.out]; simp, rfl⟩
set_option maxRecDepth 100000 in
theorem contains_any (A : Option Addr) (n c : Nat) (xs : List Int) (w : World) (h : Rd .u8 w A n c xs) :
    Calls Tryz.prog 69 #[.slice A n c, .func (.func 122) #[] #[]] w fun e w' => e = .returned (.bool (!ValidB xs)) ∧ w = w' := by
  go_enter Tryz.func69, Tryz.ntmps69
  go_wp2_with (go_at_call 115; refine (idx_any A n c xs w h).mono ?_; rintro e w' ⟨r, rfl, hr, rfl⟩)
  go_ret
  refine ⟨ret_bool ?_, rfl⟩
  cases hv : ValidB xs <;> simp_all
set_option maxRecDepth 100000 in
theorem invalid_any (A : Option Addr) (n c : Nat) (xs : List Int) (w : World) (h : Rd .u8 w A n c xs) :
    Calls Tryz.prog 82 #[.slice A n c] w fun e w' => e = .returned (.bool (!ValidB xs)) ∧ w = w' := by
  go_enter Tryz.func82, Tryz.ntmps82
  go_wp2_with (go_at_call 69; refine (contains_any A n c xs w h).mono ?_; rintro e w' ⟨rfl, rfl⟩)
  go_ret
  exact ⟨rfl, rfl⟩
/-! ### slices.Clone -/
set_option maxRecDepth 100000 in
theorem clone_any (A : Option Addr) (n c : Nat) (xs : List Int) (w : World) (h : Rd .u8 w A n c xs) (hn : n ≤ 100000) :
    Calls Tryz.prog 50 #[.slice A n c] w fun e w' => ∃ A' c', e = .returned (.slice A' n c') ∧ Own .u8 5 w' w.heap.size A' n c' xs ∧ Below w.heap.size w w' := by
  have e1 := fun W => Lib.run_eql_slice_nil (P := Tryz.prog) W 25 5 A n c 0 0 el53.u
  cases A with
  | none =>
    have hc := h.nil rfl
    have hnc := h.le
    obtain rfl : n = 0 := by omega
    subst hc
    obtain rfl : xs = [] := List.eq_nil_of_length_eq_zero h.len
    go_enter Tryz.func50, Tryz.ntmps50
    go_wp2
    go_ret
    exact ⟨none, 0, rfl, Own.nilv .u8 5 w _, Below.refl _ _⟩
  | some ad =>
    have h1 := Rdv.alloc h (.cells #[] 5)
    have hO0 : Ownv 5 (w.alloc (.cells #[] 5)) w.heap.size (some ⟨w.heap.size, 0, none⟩) 0 0 [] := Ownv.lit w #[] 5 rfl (Nat.le_refl _) (Nat.zero_le _)
    go_enter Tryz.func50, Tryz.ntmps50
    go_wp2_with (at_builtin; go_loud (refine list_of rfl fun K hK => wp_app _ _ 25 rfl el53 rfl rfl hO0 h1 (oneCell_ints .u8 xs) (by omega) (by unfold maxLen; omega) (by simp) ?_); intro A' c' w' hO hg; refine hK _ _ ?_; clear hK K)
    go_ret
    exact ⟨A', c', ret_sl rfl rfl rfl, Own.of_eq hO (Nat.zero_add n) (List.nil_append _), (Below.refl _ _).grown (grownBy_of_alloc hg) (Nat.le_refl _) (by simp [Value.ownBlock])⟩

/-! ### slices.Grow(nil, n) -/
set_option maxRecDepth 100000 in
theorem grow_any (n : Nat) (w : World) (hn : n ≤ 1000000) :
    Calls Tryz.prog 71 #[.slice none 0 0, .int .i64 n] w fun e w' => ∃ A' c', e = .returned (.slice A' 0 c') ∧ Ownv 5 w' w.heap.size A' 0 c' [] ∧ Below w.heap.size w w' := by
  by_cases h0 : n = 0
  · subst h0
    go_enter Tryz.func71, Tryz.ntmps71
    go_wp2
    go_ret
    exact ⟨none, 0, rfl, Ownv.nilv 5 w _, Below.refl _ _⟩
  · have h1 : (0 : Int) < (n : Int) := by omega
    go_enter Tryz.func71, Tryz.ntmps71
    go_wp2_with (at_builtin; go_loud (refine list_of rfl fun K hK => wp_appz _ _ 25 3 rfl el53 (kn := .i64) (by kernel_rfl) rfl n rfl rfl rfl (Ownv.nilv 5 w w.heap.size) (by omega) (by omega) (Nat.le_refl _) ?_); intro A' c' w' hO hg; have hsl := fun W => Rdv.slh hO.rd el53 .i64 (Nat.zero_le c') W; refine hK _ _ ?_; clear hK K)
    go_ret
    exact ⟨A', c', rfl, Ownv.upto hO (Nat.zero_le _), (Below.refl _ _).grown hg (Nat.le_refl _) (by simp [Value.ownBlock])⟩
/-! ### split -/
def splitL (v : Int) (n : Nat) : List Int := (List.range n).map fun j => IntKind.u8.wrap (bits .and .u32 (v / 2 ^ (n - 1 - j)) 1)
theorem splitL_step (v : Int) (n j : Nat) (hj : j < n) : ((splitL v n).take j ++ List.replicate (n - j) 0).set j (IntKind.u8.wrap (bits .and .u32 (v / 2 ^ (n - 1 - j)) 1)) = (splitL v n).take (j + 1) ++ List.replicate (n - (j + 1)) 0 := by
  have hl : (splitL v n).length = n := by simp [splitL]
  rw [List.set_append_right _ _ (by rw [List.length_take]; omega), List.length_take, Nat.min_eq_left (by omega), Nat.sub_self, show n - j = (n - (j + 1)) + 1 by omega, List.replicate_succ, List.set_cons_zero,
    List.take_succ_eq_append_getElem (by omega), List.append_assoc]
  simp [splitL]
def SplitInv (w1 : World) (v : Int) (n : Nat) (A : Option Addr) (i : Value) (wr : World) : Prop := ∃ j : Nat, j ≤ n ∧ i = .int .i64 j ∧ 
  Own .u8 5 wr w1.heap.size A n n ((splitL v n).take j ++ List.replicate (n - j) 0) ∧ Below w1.heap.size w1 wr
set_option maxHeartbeats 400000 in
set_option maxRecDepth 100000 in
theorem split_any (v : Int) (n : Nat) (w : World) (hn : n ≤ 32) :
    Calls Tryz.prog 86 #[.int .u32 v, .int .i64 n] w fun e w' => ∃ A' c', e = .returned (.slice A' n c') ∧ Own .u8 5 w' w.heap.size A' n c' (splitL v n) ∧ Below w.heap.size w w' := by
  go_enter Tryz.func86, Tryz.ntmps86
  go_wp2_with (at_make; refine list_of rfl fun K hK => wp_mk _ _ 25 rfl el53 rfl rfl (by omega) (by unfold maxLen; omega) ?_; intro A w1 hO hB1 hA; refine hK _ _ ?_; clear hK K)
  go_loopw [11] (fun i wr => SplitInv w v n A i wr) (fun i _ => n - (intOf i).toNat)
  case atStart => exact ⟨0, by omega, rfl, Own.of_eq hO rfl (by simp), hB1⟩
  case round =>
    obtain ⟨j, hj, rfl, hOj, hBj⟩ := hrel
    by_cases hlt : j < n
    · have hix := fun W => Rdv.ix (Own.rd hOj) el53 hlt .i64 W
      have hcell := Rd.cell (Own.rd hOj) hlt
      have hfz := Ownv.frozen hOj (by omega) j
      have HSET := Lib.hid (Own.set_ hOj hlt (IntKind.u8.wrap (bits .and .u32 (v / 2 ^ (n - 1 - j)) 1)))
      go_wp2
      go_roundw
      case rel => exact ⟨j + 1, by omega, by go_num, Own.of_eq HSET.out.1 rfl (by rw [splitL_step v n j hlt]), hBj.grown HSET.out.2 hBj.size (fun k hk => by injection hk with hk; rw [← hk]; exact (Ownv.blk_ge hOj (by omega)).1)⟩
      case measure => simp [intOf]; omega
    · obtain rfl : j = n := by omega
      go_wp2
      go_ret
      exact ⟨_, _, rfl, Own.of_eq hOj rfl (by rw [Nat.sub_self, List.replicate_zero, List.append_nil, List.take_of_length_le (by simp [splitL])]), hBj⟩
end Go.Proofs.YtcbbkflnenkpgaaGreat
