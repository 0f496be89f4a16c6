import Derived.Test.YtcbbkflnenkpgaaGreatProg
import Derived.Test.YtcbbkflnenkpgaaGreatK
import Derived.Deep.QuietTactic
namespace Go.Proofs.YtcbbkflnenkpgaaGreat
open Go.RowKit
set_option linter.unusedVariables false
theorem el53 : El Tryz.prog 25 5 (.int .u8 0) 1 := ⟨by kernel_rfl, by kernel_rfl, fun _ => by kernel_rfl, rfl⟩


def SameInv (w : World) (n : Nat) (xs ys : List Int) (i : Value) (wr : World) : Prop := ∃ j : Nat, j ≤ n ∧ i = .int .i64 j ∧ (∀ q, q < j → gi xs q = gi ys q) ∧ Qt w wr
set_option maxHeartbeats 400000 in
theorem same_any (A B : Option Addr) (n c m d : Nat) (xs ys : List Int) (w : World) (hx : Rd .u8 w A n c xs) (hy : Rd .u8 w B m d ys) :
    Calls Tryz.prog 12 #[.slice A n c, .slice B m d] w fun e w' => e = .returned (.bool (decide (xs = ys))) ∧ Qt w w' := by
  have b1 := hx.bd.1
  have b2 := hy.bd.1
  by_cases hnm : n = m
  · subst hnm
    have hne : ((n : Int) != (n : Int)) = false := bne_f rfl
    go_enter Tryz.func12, Tryz.ntmps12
    go_wp2
    go_loopw [5] (fun i wr => SameInv w n xs ys i wr) (fun i _ => n - (intOf i).toNat)
    case atStart => exact ⟨0, by omega, rfl, by intro q hq; omega, 0, rfl⟩
    case round =>
      obtain ⟨j, hj, rfl, hv, q0, rfl⟩ := hrel
      by_cases hlt : j < n
      · have hc := Rd.cell hx hlt
        have hd := Rd.cell hy hlt
        have hix := fun W => Rdv.ix hx el53 hlt .i64 W
        have hiy := fun W => Rdv.ix hy el53 hlt .i64 W
        have HV := Lib.hid hv; clear hv
        by_cases h1 : gi xs j = gi ys j
        · have h1' := bne_f h1
          have H1 := Lib.hid h1; clear h1
          go_wp2
          go_quiet (fail)
          go_wp2
          go_roundw
          case rel => exact ⟨j + 1, by omega, by go_num, fun q hq => lt_succ_cases HV.out H1.out q hq, by first | exact ⟨_, rfl⟩ | exact Qt.drewN ⟨_, rfl⟩ _⟩
          case measure => simp [intOf]; omega
        · have h1' := bne_t h1
          have hf : decide (xs = ys) = false := by simp; rintro rfl; exact h1 rfl
          go_wp2
          go_quiet (fail)
          go_wp2
          go_ret
          exact ⟨ret_bool hf.symm, by first | exact ⟨_, rfl⟩ | exact Qt.drewN ⟨_, rfl⟩ _⟩
      · have hf : decide (xs = ys) = true := by
          have hl1 := hx.len; have hl2 := hy.len
          simp only [decide_eq_true_eq]
          refine ext_gi (by rw [hl1, hl2]) fun q hq => hv q (by omega)
        go_wp2
        go_ret
        exact ⟨ret_bool hf.symm, by first | exact ⟨_, rfl⟩ | exact Qt.drewN ⟨_, rfl⟩ _⟩
  · have hne : ((n : Int) != (m : Int)) = true := bne_t (by omega)
    have hf : decide (xs = ys) = false := by
      simp; rintro rfl; have := hx.len; have := hy.len; omega
    go_enter Tryz.func12, Tryz.ntmps12
    go_wp2
    go_ret
    exact ⟨ret_bool hf.symm, 0, rfl⟩

/-- append(nil, b...) -/
def ValidB (xs : List Int) : Bool := xs.all (fun x => decide (x ≤ 1))
def ValidInv (n : Nat) (xs : List Int) (i : Value) : Prop := ∃ j : Nat, j ≤ n ∧ i = .int .i64 j ∧ ∀ q, q < j → gi xs q ≤ 1
theorem validB_f {xs : List Int} {j : Nat} (hj : j < xs.length) (h : 1 < gi xs j) : ValidB xs = false := by
  rw [Bool.eq_false_iff]; intro hh
  have := all_gi.1 hh j hj
  simp at this; omega
theorem validB_t {xs : List Int} (h : ∀ q, q < xs.length → gi xs q ≤ 1) : ValidB xs = true := all_gi.2 fun j hj => by simpa using h j hj
set_option maxHeartbeats 400000 in
theorem valid_any (A : Option Addr) (n c : Nat) (xs : List Int) (w : World) (h : Rd .u8 w A n c xs) :
    Calls Tryz.prog 99 #[.slice A n c] w fun e w' => e = .returned (.bool (ValidB xs)) ∧ w = w' := by
  have hbd := h.bd.1
  go_enter Tryz.func99, Tryz.ntmps99
  go_wp2
  go_loop [3] (fun i => ValidInv n xs i) (fun i => n - (intOf i).toNat)
  case atStart => exact ⟨0, by omega, rfl, by intro q hq; omega⟩
  case round =>
    obtain ⟨j, hj, rfl, hv⟩ := hrel
    by_cases hlt : j < n
    · have hc := Rd.cell h hlt
      have hix := fun W => Rdv.ix h el53 hlt .i64 W
      have HV := Lib.hid hv; clear hv
      by_cases h1 : gi xs j ≤ 1
      · have h1' : ¬ 1 < gi xs j := by omega
        go_wp2
        go_round
        case rel => exact ⟨j + 1, by omega, by go_num, fun q hq => lt_succ_cases HV.out h1 q hq⟩
        case measure => simp [intOf]; omega
      · have h1' : 1 < gi xs j := by omega
        have hf := Lib.hid (validB_f (by rw [h.len]; exact hlt) h1')
        go_wp2
        go_ret
        exact ⟨ret_bool hf.out.symm, rfl⟩
    · have hf := Lib.hid (validB_t (xs := xs) (by rw [h.len]; intro q hq; exact hv q (by omega)))
      go_wp2
      go_ret
      exact ⟨ret_bool hf.out.symm, rfl⟩

/-! ### Poly -/
def bitOf (v : Int) (i : Nat) : Int := IntKind.u8.wrap (bits .and .i64 (v / 2 ^ i) 1)
def polyN (k : Int) : Nat := if k = 1 then 25 else if k = 2 then 25 else if k = 3 then 17 else if k = 4 then 9 else 0
def polyV (k : Int) : Int := if k = 1 then 0x1864cfb else if k = 2 then 0x1800063 else if k = 3 then 0x11021 else if k = 4 then 0x19b else 0
def polyL (k : Int) : List Int := (List.range (polyN k)).map fun j => bitOf (polyV k) (polyN k - 1 - j)
def PolyInv (w : World) (n : Nat) (v : Int) (out i : Value) (wr : World) : Prop := ∃ (j : Nat) (A : Option Addr) (c : Nat), j ≤ n ∧ out = .slice A j c ∧ i = .int .i64 ((n : Int) - 1 - j) ∧
  Own .u8 5 wr w.heap.size A j c ((List.range j).map fun q => bitOf v (n - 1 - q)) ∧ Below w.heap.size w wr

theorem polyNs : polyN 1 = 25 ∧ polyN 2 = 25 ∧ polyN 3 = 17 ∧ polyN 4 = 9 := by decide
theorem polyVs : polyV 1 = 25578747 ∧ polyV 2 = 25165923 ∧ polyV 3 = 69665 ∧ polyV 4 = 411 := by decide
set_option maxHeartbeats 400000 in
theorem poly_1 (w : World) :
    Calls Tryz.prog 98 #[.int .i64 1] w fun e w' => ∃ A c, e = .returned (.slice A 25 c) ∧ Own .u8 5 w' w.heap.size A 25 c ((List.range 25).map fun q => bitOf 25578747 (25 - 1 - q)) ∧ Below w.heap.size w w' := by
  go_enter Tryz.func98, Tryz.ntmps98
  go_wp2
  go_loopw [5, 6] (fun out i wr => PolyInv w 25 25578747 out i wr) (fun _ i _ => (intOf i + 1).toNat)
  case atStart => exact ⟨0, none, 0, by omega, rfl, by go_num, Own.of_eq (Ownv.nilv 5 w _) rfl rfl, Below.refl _ _⟩
  case round =>
    obtain ⟨j, A, c, hj, rfl, rfl, hO, hB⟩ := hrel
    have hsz := hB.size
    by_cases hlt : j < 25
    · go_wp2_with (at_builtin; refine list_of rfl fun K hK => wp_app1 _ _ 25 rfl el53 rfl (.int .u8 _) rfl rfl hO (by omega) (by omega) (by omega) ?_; intro A' c' w' hO' hg; refine hK _ _ ?_; clear hK K)
      go_wp2
      go_roundw
      case rel => exact ⟨j + 1, A', c', by omega, rfl, by go_num, Own.of_eq hO' rfl (by rw [List.range_succ, List.map_append, List.map_append]; rfl), hB.grown hg hsz (fun k hk => Ownv.ob' hO hk)⟩
      case measure => simp [intOf]; omega
    · go_wp2
      go_ret
      obtain rfl : j = 25 := by omega
      exact ⟨_, _, ret_sl rfl rfl rfl, hO, hB⟩
set_option maxHeartbeats 400000 in
theorem poly_2 (w : World) :
    Calls Tryz.prog 98 #[.int .i64 2] w fun e w' => ∃ A c, e = .returned (.slice A 25 c) ∧ Own .u8 5 w' w.heap.size A 25 c ((List.range 25).map fun q => bitOf 25165923 (25 - 1 - q)) ∧ Below w.heap.size w w' := by
  go_enter Tryz.func98, Tryz.ntmps98
  go_wp2
  go_loopw [5, 6] (fun out i wr => PolyInv w 25 25165923 out i wr) (fun _ i _ => (intOf i + 1).toNat)
  case atStart => exact ⟨0, none, 0, by omega, rfl, by go_num, Own.of_eq (Ownv.nilv 5 w _) rfl rfl, Below.refl _ _⟩
  case round =>
    obtain ⟨j, A, c, hj, rfl, rfl, hO, hB⟩ := hrel
    have hsz := hB.size
    by_cases hlt : j < 25
    · go_wp2_with (at_builtin; refine list_of rfl fun K hK => wp_app1 _ _ 25 rfl el53 rfl (.int .u8 _) rfl rfl hO (by omega) (by omega) (by omega) ?_; intro A' c' w' hO' hg; refine hK _ _ ?_; clear hK K)
      go_wp2
      go_roundw
      case rel => exact ⟨j + 1, A', c', by omega, rfl, by go_num, Own.of_eq hO' rfl (by rw [List.range_succ, List.map_append, List.map_append]; rfl), hB.grown hg hsz (fun k hk => Ownv.ob' hO hk)⟩
      case measure => simp [intOf]; omega
    · go_wp2
      go_ret
      obtain rfl : j = 25 := by omega
      exact ⟨_, _, ret_sl rfl rfl rfl, hO, hB⟩
set_option maxHeartbeats 400000 in
theorem poly_3 (w : World) :
    Calls Tryz.prog 98 #[.int .i64 3] w fun e w' => ∃ A c, e = .returned (.slice A 17 c) ∧ Own .u8 5 w' w.heap.size A 17 c ((List.range 17).map fun q => bitOf 69665 (17 - 1 - q)) ∧ Below w.heap.size w w' := by
  go_enter Tryz.func98, Tryz.ntmps98
  go_wp2
  go_loopw [5, 6] (fun out i wr => PolyInv w 17 69665 out i wr) (fun _ i _ => (intOf i + 1).toNat)
  case atStart => exact ⟨0, none, 0, by omega, rfl, by go_num, Own.of_eq (Ownv.nilv 5 w _) rfl rfl, Below.refl _ _⟩
  case round =>
    obtain ⟨j, A, c, hj, rfl, rfl, hO, hB⟩ := hrel
    have hsz := hB.size
    by_cases hlt : j < 17
    · go_wp2_with (at_builtin; refine list_of rfl fun K hK => wp_app1 _ _ 25 rfl el53 rfl (.int .u8 _) rfl rfl hO (by omega) (by omega) (by omega) ?_; intro A' c' w' hO' hg; refine hK _ _ ?_; clear hK K)
      go_wp2
      go_roundw
      case rel => exact ⟨j + 1, A', c', by omega, rfl, by go_num, Own.of_eq hO' rfl (by rw [List.range_succ, List.map_append, List.map_append]; rfl), hB.grown hg hsz (fun k hk => Ownv.ob' hO hk)⟩
      case measure => simp [intOf]; omega
    · go_wp2
      go_ret
      obtain rfl : j = 17 := by omega
      exact ⟨_, _, ret_sl rfl rfl rfl, hO, hB⟩
set_option maxHeartbeats 400000 in
theorem poly_4 (w : World) :
    Calls Tryz.prog 98 #[.int .i64 4] w fun e w' => ∃ A c, e = .returned (.slice A 9 c) ∧ Own .u8 5 w' w.heap.size A 9 c ((List.range 9).map fun q => bitOf 411 (9 - 1 - q)) ∧ Below w.heap.size w w' := by
  go_enter Tryz.func98, Tryz.ntmps98
  go_wp2
  go_loopw [5, 6] (fun out i wr => PolyInv w 9 411 out i wr) (fun _ i _ => (intOf i + 1).toNat)
  case atStart => exact ⟨0, none, 0, by omega, rfl, by go_num, Own.of_eq (Ownv.nilv 5 w _) rfl rfl, Below.refl _ _⟩
  case round =>
    obtain ⟨j, A, c, hj, rfl, rfl, hO, hB⟩ := hrel
    have hsz := hB.size
    by_cases hlt : j < 9
    · go_wp2_with (at_builtin; refine list_of rfl fun K hK => wp_app1 _ _ 25 rfl el53 rfl (.int .u8 _) rfl rfl hO (by omega) (by omega) (by omega) ?_; intro A' c' w' hO' hg; refine hK _ _ ?_; clear hK K)
      go_wp2
      go_roundw
      case rel => exact ⟨j + 1, A', c', by omega, rfl, by go_num, Own.of_eq hO' rfl (by rw [List.range_succ, List.map_append, List.map_append]; rfl), hB.grown hg hsz (fun k hk => Ownv.ob' hO hk)⟩
      case measure => simp [intOf]; omega
    · go_wp2
      go_ret
      obtain rfl : j = 9 := by omega
      exact ⟨_, _, ret_sl rfl rfl rfl, hO, hB⟩

set_option maxHeartbeats 400000 in
theorem poly_out (k : Int) (w : World) (h : ¬ (k = 1 ∨ k = 2 ∨ k = 3 ∨ k = 4)) :
    Calls Tryz.prog 98 #[.int .i64 k] w fun e w' => e = .returned (.slice none 0 0) ∧ w = w' := by
  have h1 : (k == 1) = false := beq_f (by omega)
  have h2 : (k == 2) = false := beq_f (by omega)
  have h3 : (k == 3) = false := beq_f (by omega)
  have h4 : (k == 4) = false := beq_f (by omega)
  go_enter Tryz.func98, Tryz.ntmps98
  go_wp2
  refine wp_loop_rounds 1 ?_
  rw [rounds_succ]
  go_wp2
  go_ret
  exact ⟨rfl, rfl⟩
theorem poly_any (k : Int) (w : World) :
    Calls Tryz.prog 98 #[.int .i64 k] w fun e w' => ∃ A c, e = .returned (.slice A (polyN k) c) ∧ Own .u8 5 w' w.heap.size A (polyN k) c (polyL k) ∧ Below w.heap.size w w' := by
  by_cases h : k = 1 ∨ k = 2 ∨ k = 3 ∨ k = 4
  · rcases h with rfl | rfl | rfl | rfl
    · exact poly_1 w
    · exact poly_2 w
    · exact poly_3 w
    · exact poly_4 w
  · have e : polyN k = 0 := by unfold polyN; repeat (first | rw [if_neg (by omega)] | rfl)
    have e2 : polyL k = [] := by unfold polyL; rw [e]; rfl
    rw [e, e2]
    exact (poly_out k w h).mono fun e w' ⟨he, hw⟩ => ⟨none, 0, he, Own.nilv .u8 5 w' _, by subst hw; exact Below.refl _ _⟩
theorem polyN_cases (k : Int) : polyN k = 0 ∨ 9 ≤ polyN k ∧ polyN k ≤ 25 := by unfold polyN; repeat (split <;> try omega)
def rLen (k : Int) : Int := max 0 ((polyN k : Int) - 1)
end Go.Proofs.YtcbbkflnenkpgaaGreat
