/-
  Contracts of the statements' helpers num, same, ints, sized, and of the reference's Bits, Check and Word. Condition: a bound on the length.
-/
import Derived.Test.YtmdjclfmhndjnaaY
import Derived.Laws.BytesArg
namespace Go.Proofs.Ytmdjclfmhndjnaa
open Go.RowKit
set_option linter.unusedVariables false
theorem num_any (k : Int) (w : World) : Calls Try.prog 15 #[.int .i64 k] w fun e w' => e = .returned (.int .i64 k) ∧ w = w' := by
  go_enter Try.func15, Try.ntmps15
  go_wp2
  go_ret
  exact ⟨rfl, rfl⟩
theorem conv_rd {w : World} {A : Option Addr} {n c : Nat} {xs : List Int} (h : Rd .u8 w A n c xs) : (convert 26 9 (.slice A n c)).run Try.prog w = .ok (.string (strOfNums xs)) w := by
  have hu : Try.prog.underlying 9 = some .string := by kernel_rfl
  have h5 : Try.prog.underlying 5 = some (.int .u8) := by kernel_rfl
  cases A with
  | none =>
    have := Rdv.nil h rfl
    have := Rdv.le h
    obtain rfl : n = 0 := by omega
    obtain rfl : xs = [] := List.eq_nil_of_length_eq_zero h.len
    exact run_convert_bytes_nil w 26 5 el26.u h5 0 c 9 hu
  | some a =>
    by_cases hn : n = 0
    · subst hn
      obtain rfl : xs = [] := List.eq_nil_of_length_eq_zero h.len
      rw [run_convert_bytes_string w 26 9 5 _ 0 c el26.u h5 hu, run_bytesToString w a 0 c [] (by simpa using run_loadCells_list (P := Try.prog) w a [] (fun j v hj => by cases hj))]
      rfl
    · obtain ⟨b, o, hA, _⟩ := Rdv.ptr h (by have := Rdv.le h; omega)
      cases hA
      exact run_convert_bytes_arg w 26 5 el26.u h5 b o n c xs h.len (fun i hi => Rd.cell h hi) 9 hu
theorem strOf_inj {xs ys : List Int} (hx : ∀ x ∈ xs, 0 ≤ x ∧ x < 256) (hy : ∀ x ∈ ys, 0 ≤ x ∧ x < 256) (h1 : xs.map (fun n => UInt8.ofNat n.toNat) = ys.map (fun n => UInt8.ofNat n.toNat)) : xs = ys := by
  have hl : xs.length = ys.length := by simpa using congrArg List.length h1
  apply List.ext_getElem hl
  intro i hi hj
  have h2 : (xs.map (fun n => UInt8.ofNat n.toNat))[i]'(by simpa using hi) = (ys.map (fun n => UInt8.ofNat n.toNat))[i]'(by simpa using hj) := by simp only [h1]
  simp only [List.getElem_map] at h2
  have h3 := congrArg UInt8.toNat h2
  have a := hx _ (List.getElem_mem hi)
  have b := hy _ (List.getElem_mem hj)
  simp only [UInt8.toNat_ofNat'] at h3
  rw [Nat.mod_eq_of_lt (by omega), Nat.mod_eq_of_lt (by omega)] at h3
  omega
theorem strEq {xs ys : List Int} (hx : ∀ x ∈ xs, 0 ≤ x ∧ x < 256) (hy : ∀ x ∈ ys, 0 ≤ x ∧ x < 256) : ((strOfNums xs).toList == (strOfNums ys).toList) = decide (xs = ys) := by
  rw [ByteArray.toList_eq, ByteArray.toList_eq, strOfNums_data, strOfNums_data]
  by_cases h : xs = ys
  · subst h; simp
  · have h9 : ¬ (xs.map fun n => UInt8.ofNat n.toNat) = (ys.map fun n => UInt8.ofNat n.toNat) := fun e => h (strOf_inj hx hy e)
    simp only [h, decide_false]
    exact beq_eq_false_iff_ne.2 h9
theorem ib_wf (bs : List Bool) : ∀ x ∈ bs.map ib, 0 ≤ x ∧ x < 256 := by
  intro x hx
  obtain ⟨b, _, rfl⟩ := List.mem_map.1 hx
  cases b <;> decide
theorem same_any (A B : Option Addr) (n c m d : Nat) (xs ys : List Int) (w : World) (hx : Rd .u8 w A n c xs) (hy : Rd .u8 w B m d ys) (h1 : ∀ x ∈ xs, 0 ≤ x ∧ x < 256) (h2 : ∀ x ∈ ys, 0 ≤ x ∧ x < 256) :
    Calls Try.prog 19 #[.slice A n c, .slice B m d] w fun e w' => e = .returned (.bool (decide (xs = ys))) ∧ w = w' := by
  have c1 := conv_rd hx
  have c2 := conv_rd hy
  rw [← strEq h1 h2]
  clear h1 h2 hx hy
  generalize strOfNums xs = s at *
  generalize strOfNums ys = t at *
  go_enter Try.func19, Try.ntmps19
  go_wp2
  go_ret
  exact ⟨rfl, rfl⟩
def IntsInv (w : World) (n : Nat) (xs ys : List Int) (i : Value) (wr : World) : Prop := ∃ j : Nat, j ≤ n ∧ i = .int .i64 j ∧ (∀ q, q < j → gi xs q = gi ys q) ∧ Qt w wr
set_option maxHeartbeats 400000 in
theorem ints_any (A B : Option Addr) (n c m d : Nat) (xs ys : List Int) (w : World) (hx : Rd .i64 w A n c xs) (hy : Rd .i64 w B m d ys) :
    Calls Try.prog 16 #[.slice A n c, .slice B m d] w fun e w' => e = .returned (.bool (decide (xs = ys))) ∧ Qt w w' := by
  have b1 := hx.bd.1
  have b2 := hy.bd.1
  by_cases hnm : n = m
  · subst hnm
    have hne : ((n : Int) != (n : Int)) = false := bne_f rfl
    go_enter Try.func16, Try.ntmps16
    go_wp2
    go_loopw [5] (fun i wr => IntsInv w n xs ys i wr) (fun i _ => n - (intOf i).toNat)
    case atStart => exact ⟨0, by omega, rfl, by intro q hq; omega, 0, rfl⟩
    case round =>
      obtain ⟨j, hj, rfl, hv, q0, rfl⟩ := hrel
      by_cases hlt : j < n
      · have hc := Rd.cell hx hlt
        have hd := Rd.cell hy hlt
        have hix := fun W => Rdv.ix hx el22 hlt .i64 W
        have hiy := fun W => Rdv.ix hy el22 hlt .i64 W
        have HV := Lib.hid hv; clear hv
        by_cases h1 : gi xs j = gi ys j
        · have h1' := bne_f h1
          have H1 := Lib.hid h1; clear h1
          go_wp2
          go_quiet (fail)
          go_wp2
          go_roundw
          case rel => exact ⟨j + 1, by omega, by go_num, fun q hq => lt_succ_cases HV.out H1.out q hq, by first | exact ⟨_, rfl⟩ | exact Qt.drewN ⟨_, rfl⟩ _⟩
          case measure => simp [intOf]; omega
        · have h1' := bne_t h1
          have hf : decide (xs = ys) = false := by simp; rintro rfl; exact h1 rfl
          go_wp2
          go_quiet (fail)
          go_wp2
          go_ret
          exact ⟨ret_bool hf.symm, by first | exact ⟨_, rfl⟩ | exact Qt.drewN ⟨_, rfl⟩ _⟩
      · have hf : decide (xs = ys) = true := by
          have hl1 := hx.len; have hl2 := hy.len
          simp only [decide_eq_true_eq]
          refine ext_gi (by rw [hl1, hl2]) fun q hq => hv q (by omega)
        go_wp2
        go_ret
        exact ⟨ret_bool hf.symm, by first | exact ⟨_, rfl⟩ | exact Qt.drewN ⟨_, rfl⟩ _⟩
  · have hne : ((n : Int) != (m : Int)) = true := bne_t (by omega)
    have hf : decide (xs = ys) = false := by
      simp; rintro rfl; have := hx.len; have := hy.len; omega
    go_enter Try.func16, Try.ntmps16
    go_wp2
    go_ret
    exact ⟨ret_bool hf.symm, 0, rfl⟩
end Go.Proofs.Ytmdjclfmhndjnaa
