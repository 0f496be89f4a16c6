/-
  The sub-block interleaver: its order in plain Lean; contracts of the reference's Rows, Column and Order. Condition: a length from 1 to 6148, a stream from 0 to 2.
-/
import Derived.Test.YtcbbkflnenkpgaaGreatUa
import Derived.Test.YtcbbkflnenkpgaaGreatSi
namespace Go.Proofs.YtcbbkflnenkpgaaGreat
open Go.RowKit
set_option linter.unusedVariables false
def rwS (d : Nat) : Nat := (d + 31) / 32
theorem rwS_le {d : Nat} (h : d ≤ 6148) : rwS d ≤ 193 := by unfold rwS; omega
theorem rwS_pos {d : Nat} (h : 1 ≤ d) : 1 ≤ rwS d := by unfold rwS; omega
theorem rwS_ge (d : Nat) : d ≤ 32 * rwS d := by unfold rwS; omega
/-- the permutation of the columns -/
def cpL : List Nat := [0, 16, 8, 24, 4, 20, 12, 28, 2, 18, 10, 26, 6, 22, 14, 30, 1, 17, 9, 25, 5, 21, 13, 29, 3, 19, 11, 27, 7, 23, 15, 31]
def cpN (c : Nat) : Nat := cpL.getD c 0
theorem cpN_lt (c : Nat) : cpN c < 32 := by
  by_cases h : c < 32
  · exact (show ∀ c : Fin 32, cpN c.1 < 32 by decide) ⟨c, h⟩
  · unfold cpN
    rw [List.getD_eq_getElem?_getD, List.getElem?_eq_none (by simpa [cpL] using h)]
    decide
/-- the matrix index of column c, row r -/
def mx0 (d s c r : Nat) : Nat := if s = 2 then (32 * r + cpN c + 1) % (32 * rwS d) else 32 * r + cpN c
/-- what lies at a matrix index -/
def mxV (d m : Nat) : Int := if m < 32 * rwS d - d then -1 else (m : Int) - ((32 * rwS d - d : Nat) : Int)
def ordV (d s k : Nat) : Int := mxV d (mx0 d s (k / rwS d) (k % rwS d))
def ordT (d s n : Nat) : List Int := (List.range n).map (ordV d s)
def ordL (d s : Nat) : List Int := ordT d s (32 * rwS d)
theorem ordT_len (d s n : Nat) : (ordT d s n).length = n := by simp [ordT]
theorem ordT_succ (d s n : Nat) : ordT d s (n + 1) = ordT d s n ++ [ordV d s n] := by simp [ordT, List.range_succ]
theorem mx0_lt {d s c r : Nat} (hr : r < rwS d) : mx0 d s c r < 32 * rwS d := by
  have := cpN_lt c
  unfold mx0
  split
  · exact Nat.mod_lt _ (by omega)
  · omega
theorem ordV_at {d s c r : Nat} (hr : r < rwS d) : ordV d s (c * rwS d + r) = mxV d (mx0 d s c r) := by
  unfold ordV
  have h1 : (c * rwS d + r) / rwS d = c := by
    rw [Nat.mul_comm, Nat.mul_add_div (by omega), Nat.div_eq_of_lt hr]; omega
  have h2 : (c * rwS d + r) % rwS d = r := by
    rw [Nat.mul_comm, Nat.mul_add_mod, Nat.mod_eq_of_lt hr]
  rw [h1, h2]
/-- the matrix -/
def mtx (d a b : Nat) : List Int := List.replicate a (-1) ++ (List.range b).map fun (i : Nat) => (i : Int)
theorem mtx_get {d m : Nat} (hm : m < 32 * rwS d) : gi (mtx d (32 * rwS d - d) d) m = mxV d m := by
  have hg := rwS_ge d
  unfold gi mtx mxV
  rw [List.getD_eq_getElem?_getD]
  by_cases h : m < 32 * rwS d - d
  · rw [if_pos h, List.getElem?_append_left (by simpa using h), List.getElem?_replicate, if_pos h]; rfl
  · rw [if_neg h, List.getElem?_append_right (by simp; omega), List.getElem?_map, List.length_replicate, List.getElem?_range (by omega)]
    show (((m - (32 * rwS d - d) : Nat) : Int)) = _
    omega
def RwI (d : Nat) (i : Value) : Prop := ∃ j : Nat, i = .int .i64 j ∧ j ≤ rwS d
set_option maxRecDepth 100000 in
theorem rrows_any (d : Nat) (w : World) (h1 : 1 ≤ d) (h2 : d ≤ 6148) : Calls Tryz.prog 120 #[.int .i64 d] w fun e w' => e = .returned (.int .i64 (rwS d)) ∧ w = w' := by
  have hR := rwS_le h2
  have hd : rwS d = (d + 31) / 32 := rfl
  generalize rwS d = R at *
  go_enter Tryz.func120, Tryz.ntmps120
  go_wp2
  go_loopw [3] (fun i wr => (∃ j : Nat, i = .int .i64 j ∧ j ≤ R) ∧ w = wr) (fun i _ => R - (intOf i).toNat)
  case atStart => exact ⟨⟨0, rfl, Nat.zero_le _⟩, rfl⟩
  case round =>
    obtain ⟨⟨j, rfl, hj⟩, rfl⟩ := hrel
    by_cases hlt : 32 * j < d
    · go_wp2
      go_roundw
      case rel => exact ⟨⟨j + 1, by go_num, by omega⟩, by trivial⟩
      case measure => simp [intOf]; omega
    · obtain rfl : j = R := by omega
      go_wp2
      go_ret
      exact ⟨rfl, rfl⟩
set_option maxRecDepth 100000 in
theorem rcol_any (c : Nat) (w : World) (h : c < 32) : Calls Tryz.prog 139 #[.int .i64 c] w fun e w' => e = .returned (.int .i64 (cpN c)) ∧ Below w.heap.size w w' := by
  have HB := Lib.hid (show Below w.heap.size w (w.alloc (.cells (ints8 (cpL.map fun (x : Nat) => (x : Int))).toArray 3)) from bal (Below.refl _ w) _)
  have hl : c < (ints8 (cpL.map fun (x : Nat) => (x : Int))).length := by simpa [ints8, cpL] using h
  have HG := Lib.hid (show (ints8 (cpL.map fun (x : Nat) => (x : Int)))[c]'hl = .int .i64 (cpN c) by
    unfold cpN
    simp only [ints8, List.getElem_map]
    rw [List.getD_eq_getElem?_getD, List.getElem?_eq_getElem (by simpa [cpL] using h)]; rfl)
  simp only [ints8, cpL, List.map_cons, List.map_nil] at HB
  push_cast at HB
  go_enter Tryz.func139, Tryz.ntmps139
  go_wp2
  go_ret
  exact ⟨ret_val HG.out, HB.out⟩
def M1I (d a : Nat) (w : World) (m i : Value) (wr : World) : Prop := ∃ (j : Nat) (A : Option Addr) (c : Nat), j ≤ a ∧ i = .int .i64 j ∧ m = .slice A j c ∧ Own .i64 3 wr w.heap.size A j c (mtx d j 0) ∧ Below w.heap.size w wr
def M2I (d a : Nat) (w : World) (m i : Value) (wr : World) : Prop := ∃ (j : Nat) (A : Option Addr) (c : Nat), j ≤ d ∧ i = .int .i64 j ∧ m = .slice A (a + j) c ∧ Own .i64 3 wr w.heap.size A (a + j) c (mtx d a j) ∧ Below w.heap.size w wr
def OoI (d s R : Nat) (w : World) (o i : Value) (wr : World) : Prop := ∃ (c : Nat) (A : Option Addr) (cc : Nat), c ≤ 32 ∧ i = .int .i64 c ∧ o = .slice A (c * R) cc ∧ Own .i64 3 wr w.heap.size A (c * R) cc (ordT d s (c * R)) ∧ Below w.heap.size w wr
def OiI (d s R c : Nat) (w : World) (o i : Value) (wr : World) : Prop := ∃ (r : Nat) (A : Option Addr) (cc : Nat), r ≤ R ∧ i = .int .i64 r ∧ o = .slice A (c * R + r) cc ∧ Own .i64 3 wr w.heap.size A (c * R + r) cc (ordT d s (c * R + r)) ∧ Below w.heap.size w wr
theorem mtx_a (d j : Nat) : mtx d (j + 1) 0 = mtx d j 0 ++ [-1] := by simp [mtx, List.replicate_succ']
theorem mtx_b (d a j : Nat) : mtx d a (j + 1) = mtx d a j ++ [(j : Int)] := by simp [mtx, List.range_succ]
set_option maxRecDepth 100000 in
set_option maxHeartbeats 1000000 in
theorem rorder_ok (d s : Nat) (w : World) (h1 : 1 ≤ d) (h2 : d ≤ 6148) (hs : s ≤ 2) : Calls Tryz.prog 116 #[.int .i64 d, .int .i64 s] w fun e w' => ∃ A c, e = .returned (.tuple #[.slice A (32 * rwS d) c, .int .i64 0]) ∧ Own .i64 3 w' w.heap.size A (32 * rwS d) c (ordL d s) ∧ Below w.heap.size w w' := by
  have hR := rwS_le h2
  have hR1 := rwS_pos h1
  have hge := rwS_ge d
  have HC := Lib.hid (fun c => cpN_lt c)
  have HV := Lib.hid (fun c r (h : r < rwS d) => ordV_at (d := d) (s := s) (c := c) h)
  have HM := Lib.hid (fun m (h : m < 32 * rwS d) => mtx_get (d := d) h)
  have HX := Lib.hid (fun c r (h : r < rwS d) => mx0_lt (d := d) (s := s) (c := c) h)
  have HS := Lib.hid (ordT_succ d s)
  have HRR := Lib.hid (fun W => rrows_any d W h1 h2)
  have HX2 := Lib.hid (fun c r (h : r < rwS d) => show mx0 d s c r = if s = 2 then (32 * r + cpN c + 1) % (32 * rwS d) else 32 * r + cpN c from rfl)
  have HL := Lib.hid (show ordL d s = ordT d s (32 * rwS d) from rfl)
  generalize rwS d = R at *
  have hN : 32 * R ≤ 6176 := by omega
  have q1 : ((R : Int) == 0) = false := beq_f (by omega)
  have q2 : decide ((s : Int) < 0) = false := by simp
  have q3 : decide ((2 : Int) < (s : Int)) = false := by simp; omega
  go_enter Tryz.func116, Tryz.ntmps116
  go_wp2_with (go_at_call 120; refine (HRR.out _).mono ?_; rintro e w1 ⟨rfl, rfl⟩)
  go_loopw [7, 8] (fun m i wr => M1I d (32 * R - d) w m i wr) (fun _ i _ => 32 * R - d - (intOf i).toNat)
  case atStart => exact ⟨0, none, 0, Nat.zero_le _, rfl, rfl, Own.nilv _ _ _ _, Below.refl _ _⟩
  case round =>
    obtain ⟨j, A, c, hj, rfl, rfl, hO, hB⟩ := hrel
    have HO := Lib.hid hO
    have HB := Lib.hid hB
    clear hO hB
    by_cases hlt : j < 32 * R - d
    · go_wp2_with (at_builtin; refine list_of rfl fun K hK => wp_app1 _ _ 60 rfl el34 rfl (.int .i64 (-1)) rfl rfl HO.out (by omega) (by omega) HB.out.size ?_; intro A' c' w' hO' hg; have HO' := Lib.hid hO'; have HG := Lib.hid hg; clear hO' hg; refine hK _ _ ?_; clear hK K)
      go_roundw
      case rel => exact ⟨j + 1, A', c', by omega, by go_num, rfl, Own.of_eq HO'.out rfl (by rw [mtx_a, List.map_append]; rfl), HB.out.grown HG.out HB.out.size (fun k hk => Ownv.ob' HO.out hk)⟩
      case measure => simp [intOf]; omega
    · obtain rfl : j = 32 * R - d := by omega
      go_wp2
      go_loopw [7, 9] (fun m i wr => M2I d (32 * R - d) w m i wr) (fun _ i _ => d - (intOf i).toNat)
      case atStart => exact ⟨0, A, c, Nat.zero_le _, rfl, rfl, HO.out, HB.out⟩
      case round =>
        obtain ⟨j, A, c, hj, rfl, rfl, hO, hB⟩ := hrel
        have HO := Lib.hid hO
        have HB := Lib.hid hB
        clear hO hB
        by_cases hlt : j < d
        · go_wp2_with (at_builtin; refine list_of rfl fun K hK => wp_app1 _ _ 60 rfl el34 rfl (.int .i64 (j : Int)) rfl rfl HO.out (by omega) (by omega) HB.out.size ?_; intro A' c' w' hO' hg; have HO' := Lib.hid hO'; have HG := Lib.hid hg; clear hO' hg; refine hK _ _ ?_; clear hK K)
          go_roundw
          case rel => exact ⟨j + 1, A', c', by omega, by go_num, rfl, Own.of_eq HO'.out rfl (by rw [mtx_b, List.map_append]; rfl), HB.out.grown HG.out HB.out.size (fun k hk => Ownv.ob' HO.out hk)⟩
          case measure => simp [intOf]; omega
        · obtain rfl : d = j := by omega
          have e0 : 32 * R - d + d = 32 * R := by omega
          have hO := HO.out
          rw [e0] at hO ⊢
          have HMT := Lib.hid (Own.rd hO)
          have HBM := HB
          clear hO HO e0 HB
          generalize wr = wM at *
          go_wp2
          go_loopw [10, 11] (fun o i w' => OoI d s R wM o i w') (fun _ i _ => 32 - (intOf i).toNat)
          case atStart => exact ⟨0, none, 0, Nat.zero_le _, rfl, by rw [Nat.zero_mul], by rw [Nat.zero_mul]; exact Own.nilv _ _ _ _, Below.refl _ _⟩
          case round =>
            obtain ⟨c, A3, c3, hc, rfl, rfl, hO3, hB3⟩ := hrel
            have HO3 := Lib.hid hO3
            have HB3 := Lib.hid hB3
            clear hO3 hB3
            by_cases hlt : c < 32
            · have hcR : c * R + R ≤ 32 * R := by
                have := Nat.mul_le_mul_right R (show c + 1 ≤ 32 by omega)
                rwa [Nat.add_mul, Nat.one_mul] at this
              have hcp := HC.out c
              have hdc : decide ((c : Int) < 32) = true := by simp; omega
              go_wp2
              go_loopw [10, 12] (fun o i w' => OiI d s R c wM o i w') (fun _ i _ => R - (intOf i).toNat)
              case atStart => exact ⟨0, A3, c3, Nat.zero_le _, rfl, rfl, HO3.out, HB3.out⟩
              case round =>
                obtain ⟨r, A4, c4, hr, rfl, rfl, hO4, hB4⟩ := hrel
                have HO4 := Lib.hid hO4
                have HB4 := Lib.hid hB4
                clear hO4 hB4
                by_cases hlr : r < R
                · have HVR := Lib.hid (HV.out c r hlr)
                  have hx2 := HX2.out c r hlr
                  have hxl := HX.out c r hlr
                  have HMR := Lib.hid (HM.out _ hxl)
                  generalize mx0 d s c r = m at *
                  go_wp2_with fail
                  refine (rcol_any c _ hlt).mono ?_
                  rintro e w5 ⟨rfl, hB5⟩
                  have HB5 := Lib.hid (HB4.out.trans (hB5.mono HB4.out.size))
                  have HO5 := Lib.hid (Ownv.below HO4.out hB5)
                  have hmr := Rdv.below HMT.out HB5.out
                  have hcm := Rd.cell hmr hxl
                  rw [HMR.out] at hcm
                  clear hB5
                  by_cases hs2 : s = 2
                  · have q4 : ((s : Int) == 2) = true := beq_t (by omega)
                    rw [if_pos hs2] at hx2
                    have hix := fun W => Rdv.ixI hmr el34 hxl .i64 ((32 * (r : Int) + (cpN c : Int) + 1) % (32 * (R : Int))) (by rw [hx2]; push_cast; rfl) W
                    generalize mxV d m = v at *
                    generalize cpN c = cp at *
                    clear hmr hx2 hs2
                    go_wp2_with (at_builtin; refine list_of rfl fun K hK => wp_app1 _ _ 60 rfl el34 rfl (.int .i64 v) rfl rfl HO5.out (by omega) (by omega) HB5.out.size ?_; intro A' c' w' hO' hg; have HO' := Lib.hid hO'; have HG := Lib.hid hg; clear hO' hg; refine hK _ _ ?_; clear hK K)
                    go_roundw
                    case rel => exact ⟨r + 1, A', c', by omega, by go_num, rfl, Own.of_eq HO'.out rfl (by rw [← Nat.add_assoc, HS.out, List.map_append, HVR.out]; rfl), HB5.out.grown HG.out HB5.out.size (fun k hk => Ownv.ob' HO5.out hk)⟩
                    case measure => simp [intOf]; omega
                  · have q4 : ((s : Int) == 2) = false := beq_f (by omega)
                    rw [if_neg hs2] at hx2
                    have hix := fun W => Rdv.ixI hmr el34 hxl .i64 (32 * (r : Int) + (cpN c : Int)) (by rw [hx2]; push_cast; rfl) W
                    generalize mxV d m = v at *
                    generalize cpN c = cp at *
                    clear hmr hx2 hs2
                    go_wp2_with (at_builtin; refine list_of rfl fun K hK => wp_app1 _ _ 60 rfl el34 rfl (.int .i64 v) rfl rfl HO5.out (by omega) (by omega) HB5.out.size ?_; intro A' c' w' hO' hg; have HO' := Lib.hid hO'; have HG := Lib.hid hg; clear hO' hg; refine hK _ _ ?_; clear hK K)
                    go_roundw
                    case rel => exact ⟨r + 1, A', c', by omega, by go_num, rfl, Own.of_eq HO'.out rfl (by rw [← Nat.add_assoc, HS.out, List.map_append, HVR.out]; rfl), HB5.out.grown HG.out HB5.out.size (fun k hk => Ownv.ob' HO5.out hk)⟩
                    case measure => simp [intOf]; omega
                · obtain rfl : r = R := by omega
                  go_wp2
                  go_roundw
                  case rel => exact ⟨c + 1, A4, c4, by omega, by go_num, by rw [Nat.add_mul, Nat.one_mul], by rw [Nat.add_mul, Nat.one_mul]; exact HO4.out, HB4.out⟩
                  case measure => simp [intOf]; omega
            · obtain rfl : c = 32 := by omega
              go_wp2
              go_ret2
              exact ⟨A3, c3, rfl, by rw [HL.out]; exact Ownv.mono HO3.out HBM.out.size, HBM.out.trans (HB3.out.mono HBM.out.size)⟩
end Go.Proofs.YtcbbkflnenkpgaaGreat
