/-
  Contracts of outside and of what it calls. Condition: lists that lie in memory.
-/
import Derived.Test.YtmdjclfmhndjnaaBi
namespace Go.Proofs.Ytmdjclfmhndjnaa
open Go.RowKit
set_option linter.unusedVariables false
def SoftB (xs : List Int) : Bool := xs.all (fun v => decide (-127 ≤ v ∧ v ≤ 127))
theorem softB_f {xs : List Int} {j : Nat} (hj : j < xs.length) (h : ¬ (-127 ≤ gi xs j ∧ gi xs j ≤ 127)) : SoftB xs = false := by
  rw [Bool.eq_false_iff]; intro hh
  have := all_gi.1 hh j hj
  simp only [decide_eq_true_eq] at this; exact h this
theorem softB_t {xs : List Int} (h : ∀ q, q < xs.length → -127 ≤ gi xs q ∧ gi xs q ≤ 127) : SoftB xs = true := all_gi.2 fun j hj => by simpa using h j hj
theorem softB_mem {xs : List Int} (h : SoftB xs = true) : ∀ v ∈ xs, -127 ≤ v ∧ v ≤ 127 := fun v hv => by simpa using List.all_eq_true.1 h v hv
theorem el106 : El Try.prog 106 22 (.slice none 0 0) 24 := ⟨by kernel_rfl, by kernel_rfl, fun _ => by kernel_rfl, rfl⟩
theorem soft1_any (v : Int) (w : World) : Calls Try.prog 62 #[.int .i64 v] w fun e w' => e = .returned (.bool (!decide (-127 ≤ v ∧ v ≤ 127))) ∧ w = w' := by
  by_cases h1 : v < -127
  · rw [show decide (-127 ≤ v ∧ v ≤ 127) = false from by simp; omega]
    go_enter Try.func62, Try.ntmps62
    go_wp2
    go_ret
    exact ⟨rfl, rfl⟩
  · rw [show decide (-127 ≤ v ∧ v ≤ 127) = !decide (127 < v) from by rw [Bool.eq_iff_iff]; simp; omega, Bool.not_not]
    go_enter Try.func62, Try.ntmps62
    go_wp2
    go_ret
    exact ⟨rfl, rfl⟩
def SIdx (n : Nat) (xs : List Int) (i : Value) : Prop := ∃ j : Nat, j ≤ n ∧ i = .int .i64 j ∧ ∀ q, q < j → -127 ≤ gi xs q ∧ gi xs q ≤ 127
def SPost (b : Bool) (w : World) (e : Ending) (w' : World) : Prop := ∃ r : Int, e = .returned (.int .i64 r) ∧ (0 ≤ r ↔ b = false) ∧ w = w'
set_option maxHeartbeats 400000 in
theorem sidx_any (A : Option Addr) (n c : Nat) (xs : List Int) (w : World) (h : Rd .i64 w A n c xs) :
    Calls Try.prog 73 #[.slice A n c, .func (.func 62) #[] #[]] w (SPost (SoftB xs) w) := by
  have hbd := h.bd.1
  go_enter Try.func73, Try.ntmps73
  go_wp2
  go_loop [8] (fun i => SIdx n xs i) (fun i => n - (intOf i).toNat)
  case atStart => exact ⟨0, by omega, rfl, by intro q hq; omega⟩
  case round =>
    obtain ⟨j, hj, rfl, hv⟩ := hrel
    by_cases hlt : j < n
    · have hc := Rd.cell h hlt
      have hix := fun W => Rdv.ix h el22 hlt .i64 W
      have HV := Lib.hid hv; clear hv
      by_cases h1 : -127 ≤ gi xs j ∧ gi xs j ≤ 127
      · have h1' : (!decide (-127 ≤ gi xs j ∧ gi xs j ≤ 127)) = false := by simp; omega
        have H1 := Lib.hid h1; clear h1
        go_wp2_with (go_at_call 62; refine (soft1_any _ _).mono ?_; rintro e w' ⟨rfl, rfl⟩; rw [h1'])
        go_round
        case rel => exact ⟨j + 1, by omega, by go_num, fun q hq => lt_succ_cases HV.out H1.out q hq⟩
        case measure => simp [intOf]; omega
      · have h1' : (!decide (-127 ≤ gi xs j ∧ gi xs j ≤ 127)) = true := by simp; omega
        have hf := Lib.hid (softB_f (by rw [h.len]; exact hlt) h1)
        clear h1
        go_wp2_with (go_at_call 62; refine (soft1_any _ _).mono ?_; rintro e w' ⟨rfl, rfl⟩; rw [h1'])
        go_ret
        exact ⟨_, rfl, by rw [hf.out]; simp, rfl⟩
    · have hf := Lib.hid (softB_t (xs := xs) (by rw [h.len]; intro q hq; exact hv q (by omega)))
      clear hv
      go_wp2
      go_ret
      exact ⟨_, rfl, by rw [hf.out]; simp, rfl⟩
theorem scont_any (A : Option Addr) (n c : Nat) (xs : List Int) (w : World) (h : Rd .i64 w A n c xs) :
    Calls Try.prog 61 #[.slice A n c, .func (.func 62) #[] #[]] w fun e w' => e = .returned (.bool (!SoftB xs)) ∧ w = w' := by
  go_enter Try.func61, Try.ntmps61
  go_wp2_with (go_at_call 73; refine (sidx_any A n c xs w h).mono ?_; rintro e w' ⟨r, rfl, hr, rfl⟩)
  go_ret
  refine ⟨ret_bool ?_, rfl⟩
  cases hv : SoftB xs <;> simp_all
theorem srow_any (A : Option Addr) (n c : Nat) (xs : List Int) (w : World) (h : Rd .i64 w A n c xs) :
    Calls Try.prog 60 #[.slice A n c] w fun e w' => e = .returned (.bool (!SoftB xs)) ∧ w = w' := by
  go_enter Try.func60, Try.ntmps60
  go_wp2_with (go_at_call 61; refine (scont_any A n c xs w h).mono ?_; rintro e w' ⟨rfl, rfl⟩)
  go_ret
  exact ⟨rfl, rfl⟩
structure RowS where
  A : Option Addr
  c : Nat
  xs : List Int
def RowS.v (r : RowS) : Value := .slice r.A r.xs.length r.c
def RowS.At (W : World) (r : RowS) : Prop := Rd .i64 W r.A r.xs.length r.c r.xs
def rowsB (rs : List RowS) : Bool := rs.all (fun r => SoftB r.xs)
def RIdx (n : Nat) (rs : List RowS) (i : Value) : Prop := ∃ j : Nat, j ≤ n ∧ i = .int .i64 j ∧ ∀ q, q < j → ∀ r, rs[q]? = some r → SoftB r.xs = true
set_option maxHeartbeats 400000 in
theorem ridx_any (A : Option Addr) (n c : Nat) (rs : List RowS) (w : World) (h : Rdv w A n c (rs.map RowS.v)) (hr : ∀ r ∈ rs, r.At w) :
    Calls Try.prog 72 #[.slice A n c, .func (.func 60) #[] #[]] w (SPost (rowsB rs) w) := by
  have hbd := h.bd.1
  have hlen : rs.length = n := by have := h.len; simpa using this
  have HLEN := Lib.hid hlen
  clear hlen
  go_enter Try.func72, Try.ntmps72
  go_wp2
  go_loop [8] (fun i => RIdx n rs i) (fun i => n - (intOf i).toNat)
  case atStart => exact ⟨0, by omega, rfl, by intro q hq; omega⟩
  case round =>
    obtain ⟨j, hj, rfl, hv⟩ := hrel
    by_cases hlt : j < n
    · obtain ⟨r, hrj⟩ : ∃ r, rs[j]? = some r := ⟨_, List.getElem?_eq_getElem (by rw [HLEN.out]; exact hlt)⟩
      have hc := h.at_ j r.v (by rw [List.getElem?_map, hrj]; rfl)
      unfold RowS.v at hc
      have HAT := Lib.hid (hr r (List.mem_of_getElem? hrj))
      have hix := fun W => Rdv.ix h el106 hlt .i64 W
      have HV := Lib.hid hv
      have HRJ := Lib.hid hrj
      clear hv hrj
      cases h1 : SoftB r.xs with
      | true =>
        have H1 := Lib.hid h1
        go_wp2_with (go_at_call 60; refine (srow_any _ _ _ _ _ HAT.out).mono ?_; rintro e w' ⟨rfl, rfl⟩; rw [H1.out, Bool.not_true])
        go_round
        case rel => exact ⟨j + 1, by omega, by go_num, fun q hq r' hr' => by
          rcases (by omega : q < j ∨ q = j) with hq' | rfl
          · exact HV.out q hq' r' hr'
          · rw [HRJ.out] at hr'; cases hr'; exact H1.out⟩
        case measure => simp [intOf]; omega
      | false =>
        have H1 := Lib.hid h1
        have hf := Lib.hid (show rowsB rs = false from by
          rw [Bool.eq_false_iff]; intro hh
          have := List.all_eq_true.1 hh r (List.mem_of_getElem? HRJ.out)
          rw [H1.out] at this; cases this)
        go_wp2_with (go_at_call 60; refine (srow_any _ _ _ _ _ HAT.out).mono ?_; rintro e w' ⟨rfl, rfl⟩; rw [H1.out, Bool.not_false])
        go_ret
        exact ⟨_, rfl, by rw [hf.out]; simp, rfl⟩
    · have hf := Lib.hid (show rowsB rs = true from List.all_eq_true.2 fun r hr' => by
        obtain ⟨q, hq, e⟩ := List.getElem_of_mem hr'
        have := HLEN.out
        exact hv q (by omega) r (by rw [List.getElem?_eq_getElem hq, e]))
      clear hv
      go_wp2
      go_ret
      exact ⟨_, rfl, by rw [hf.out]; simp, rfl⟩
theorem rcont_any (A : Option Addr) (n c : Nat) (rs : List RowS) (w : World) (h : Rdv w A n c (rs.map RowS.v)) (hr : ∀ r ∈ rs, r.At w) :
    Calls Try.prog 59 #[.slice A n c, .func (.func 60) #[] #[]] w fun e w' => e = .returned (.bool (!rowsB rs)) ∧ w = w' := by
  go_enter Try.func59, Try.ntmps59
  go_wp2_with (go_at_call 72; refine (ridx_any A n c rs w h hr).mono ?_; rintro e w' ⟨r, rfl, hr, rfl⟩)
  go_ret
  refine ⟨ret_bool ?_, rfl⟩
  cases hv : rowsB rs <;> simp_all
theorem outside_any (A : Option Addr) (n c : Nat) (rs : List RowS) (w : World) (h : Rdv w A n c (rs.map RowS.v)) (hr : ∀ r ∈ rs, r.At w) :
    Calls Try.prog 45 #[.slice A n c] w fun e w' => e = .returned (.bool (!rowsB rs)) ∧ w = w' := by
  go_enter Try.func45, Try.ntmps45
  go_wp2_with (go_at_call 59; refine (rcont_any A n c rs w h hr).mono ?_; rintro e w' ⟨rfl, rfl⟩)
  go_ret
  exact ⟨rfl, rfl⟩
end Go.Proofs.Ytmdjclfmhndjnaa
