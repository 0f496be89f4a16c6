/-
  Contracts of binary, Contains and of the closure of segment.Split. Condition: slices that lie in memory.
-/
import Derived.Test.YtcbbkflnenkpgaaGreatSi
import Derived.Test.YtcbbkflnenkpgaaGreatPb
namespace Go.Proofs.YtcbbkflnenkpgaaGreat
open Go.RowKit
set_option linter.unusedVariables false
set_option maxRecDepth 100000 in
theorem inv2_any (b : Int) (w : World) : Calls Tryz.prog 91 #[.int .u8 b] w fun e w' => e = .returned (.bool (decide (1 < b))) ∧ w = w' := by
  go_enter Tryz.func91, Tryz.ntmps91
  go_wp2
  go_wp2
  go_ret
  exact ⟨rfl, rfl⟩
set_option maxRecDepth 100000 in
set_option maxHeartbeats 400000 in
theorem idx2_any (A : Option Addr) (n c : Nat) (xs : List Int) (w : World) (h : Rd .u8 w A n c xs) :
    Calls Tryz.prog 115 #[.slice A n c, .func (.func 91) #[] #[]] w (IdxPost xs w) := by
  have hbd := h.bd.1
  go_enter Tryz.func115, Tryz.ntmps115
  go_wp2
  go_loop [8] (fun i => IdxInv n xs i) (fun i => n - (intOf i).toNat)
  case atStart => exact ⟨0, by omega, rfl, by intro q hq; omega⟩
  case round =>
    obtain ⟨j, hj, rfl, hv⟩ := hrel
    by_cases hlt : j < n
    · have hc := Rd.cell h hlt
      have hix := fun W => Rdv.ix h el53 hlt .i64 W
      have HV := Lib.hid hv; clear hv
      by_cases h1 : gi xs j ≤ 1
      · have h1' : decide (1 < gi xs j) = false := by simp; omega
        go_wp2_with (go_at_call 91; refine (inv2_any _ _).mono ?_; rintro e w' ⟨rfl, rfl⟩)
        go_round
        case rel => exact ⟨j + 1, by omega, by go_num, fun q hq => lt_succ_cases HV.out h1 q hq⟩
        case measure => simp [intOf]; omega
      · have h1' : decide (1 < gi xs j) = true := by simp; omega
        have hf := Lib.hid (validB_f (by rw [h.len]; exact hlt) (by omega : 1 < gi xs j))
        go_wp2_with (go_at_call 91; refine (inv2_any _ _).mono ?_; rintro e w' ⟨rfl, rfl⟩)
        go_ret
        exact ⟨_, rfl, by rw [hf.out]; simp, rfl⟩
    · have hf := Lib.hid (validB_t (xs := xs) (by rw [h.len]; intro q hq; exact hv q (by omega)))
      go_wp2
      go_ret
      exact ⟨_, rfl, by rw [hf.out]; simp, rfl⟩
set_option maxRecDepth 100000 in
theorem contains2_any (A : Option Addr) (n c : Nat) (xs : List Int) (w : World) (h : Rd .u8 w A n c xs) :
    Calls Tryz.prog 69 #[.slice A n c, .func (.func 91) #[] #[]] w fun e w' => e = .returned (.bool (!ValidB xs)) ∧ w = w' := by
  go_enter Tryz.func69, Tryz.ntmps69
  go_wp2_with (go_at_call 115; refine (idx2_any A n c xs w h).mono ?_; rintro e w' ⟨r, rfl, hr, rfl⟩)
  go_ret
  refine ⟨ret_bool ?_, rfl⟩
  cases hv : ValidB xs <;> simp_all
set_option maxRecDepth 100000 in
theorem binary_any (A : Option Addr) (n c : Nat) (xs : List Int) (w : World) (h : Rd .u8 w A n c xs) :
    Calls Tryz.prog 45 #[.slice A n c] w fun e w' => e = .returned (.bool (ValidB xs)) ∧ w = w' := by
  go_enter Tryz.func45, Tryz.ntmps45
  go_wp2_with (go_at_call 69; refine (contains2_any A n c xs w h).mono ?_; rintro e w' ⟨rfl, rfl⟩)
  go_ret
  exact ⟨ret_bool (by simp), rfl⟩
/-- no element is 1 -/
def No1 (xs : List Int) : Bool := xs.all fun x => x != 1
theorem no1_f {xs : List Int} {j : Nat} (hj : j < xs.length) (h : gi xs j = 1) : No1 xs = false := by
  unfold No1
  rw [List.all_eq_false]
  exact ⟨gi xs j, gi_mem xs j hj, by simp [h]⟩
theorem no1_t {xs : List Int} (h : ∀ j, j < xs.length → gi xs j ≠ 1) : No1 xs = true := by
  unfold No1
  rw [all_gi]; intro j hj
  exact bne_t (h j hj)
def Idx1Post (xs : List Int) (w : World) (e : Ending) (w' : World) : Prop := ∃ r : Int, e = .returned (.int .i64 r) ∧ (0 ≤ r ↔ No1 xs = false) ∧ w = w'
set_option maxRecDepth 100000 in
set_option maxHeartbeats 400000 in
theorem index1_any (A : Option Addr) (n c : Nat) (xs : List Int) (w : World) (h : Rd .u8 w A n c xs) :
    Calls Tryz.prog 121 #[.slice A n c, .int .u8 1] w (Idx1Post xs w) := by
  have hbd := h.bd.1
  go_enter Tryz.func121, Tryz.ntmps121
  go_wp2
  go_loop [8] (fun i => ∃ j : Nat, j ≤ n ∧ i = .int .i64 j ∧ ∀ q, q < j → gi xs q ≠ 1) (fun i => n - (intOf i).toNat)
  case atStart => exact ⟨0, by omega, rfl, by intro q hq; omega⟩
  case round =>
    obtain ⟨j, hj, rfl, hv⟩ := hrel
    by_cases hlt : j < n
    · have hc := Rd.cell h hlt
      have hix := fun W => Rdv.ix h el53 hlt .i64 W
      have HV := Lib.hid hv; clear hv
      by_cases h1 : gi xs j = 1
      · have h1' : ((1 : Int) == gi xs j) = true := beq_t h1.symm
        have hf := Lib.hid (no1_f (by rw [h.len]; exact hlt) h1)
        clear h1
        go_wp2
        go_ret
        exact ⟨_, rfl, by rw [hf.out]; simp, rfl⟩
      · have h1' : ((1 : Int) == gi xs j) = false := beq_f (fun e => h1 e.symm)
        have H1 := Lib.hid h1
        clear h1
        go_wp2
        go_round
        case rel => exact ⟨j + 1, by omega, by go_num, fun q hq => lt_succ_cases HV.out H1.out q hq⟩
        case measure => simp [intOf]; omega
    · have hf := Lib.hid (no1_t (xs := xs) (by rw [h.len]; intro q hq; exact hv q (by omega)))
      go_wp2
      go_ret
      exact ⟨_, rfl, by rw [hf.out]; simp, rfl⟩
set_option maxRecDepth 100000 in
theorem has1_any (A : Option Addr) (n c : Nat) (xs : List Int) (w : World) (h : Rd .u8 w A n c xs) :
    Calls Tryz.prog 80 #[.slice A n c, .int .u8 1] w fun e w' => e = .returned (.bool (!No1 xs)) ∧ w = w' := by
  go_enter Tryz.func80, Tryz.ntmps80
  go_wp2_with (go_at_call 121; refine (index1_any A n c xs w h).mono ?_; rintro e w' ⟨r, rfl, hr, rfl⟩)
  go_ret
  refine ⟨ret_bool ?_, rfl⟩
  cases hv : No1 xs <;> simp_all
end Go.Proofs.YtcbbkflnenkpgaaGreat
