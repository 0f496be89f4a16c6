/-
  Contracts of the functions on block sizes. Condition: none.
-/
import Derived.Test.YtcbbkflnenkpgaaGreatPa
import Derived.Test.YtcbbkflnenkpgaaGreatSk
namespace Go.Proofs.YtcbbkflnenkpgaaGreat
open Go.RowKit
set_option linter.unusedVariables false
def spansL : List Int := [40, 512, 8, 528, 1024, 16, 1056, 2048, 32, 2112, 6144, 64]
set_option maxRecDepth 100000 in
theorem spans_any (w : World) : Calls Tryz.prog 92 #[] w fun e w' => e = .returned (.agg (ints8 spansL).toArray) ∧ Below w.heap.size w w' := by
  go_enter Tryz.func92, Tryz.ntmps92
  go_wp2
  refine bodyPost_ret (v := .agg (ints8 spansL).toArray) (by simp [results, Tryz.results92, go_sem, ints8, spansL]) rfl ⟨rfl, ?_⟩
  exact (Below.refl _ _).alloc (Nat.le_refl _) _
set_option maxRecDepth 100000 in
theorem nan1_any (x : Int) (w : World) : Calls Tryz.prog 125 #[.int .i64 x] w fun e w' => e = .returned (.bool false) ∧ w = w' := by
  have h : (x != x) = false := bne_f rfl
  go_enter Tryz.func125, Tryz.ntmps125
  go_wp2
  go_ret
  exact ⟨rfl, rfl⟩
set_option maxRecDepth 100000 in
theorem nan2_any (x : Int) (w : World) : Calls Tryz.prog 140 #[.int .i64 x] w fun e w' => e = .returned (.bool false) ∧ w = w' := by
  have h : (x != x) = false := bne_f rfl
  go_enter Tryz.func140, Tryz.ntmps140
  go_wp2
  go_ret
  exact ⟨rfl, rfl⟩
set_option maxRecDepth 100000 in
theorem less_any (x y : Int) (w : World) : Calls Tryz.prog 124 #[.int .i64 x, .int .i64 y] w fun e w' => e = .returned (.bool (decide (x < y))) ∧ w = w' := by
  go_enter Tryz.func124, Tryz.ntmps124
  go_wp2_with (go_at_call 140; refine (nan2_any _ _).mono ?_; rintro e w' ⟨rfl, rfl⟩)
  go_ret
  exact ⟨rfl, rfl⟩
theorem el34 : El Tryz.prog 60 3 (.int .i64 0) 8 := ⟨by kernel_rfl, by kernel_rfl, fun _ => by kernel_rfl, rfl⟩
/-- the first n block sizes -/
def szL (n : Nat) : List Int := (List.range n).map fun j => (SZ j : Int)
theorem szL_len (n : Nat) : (szL n).length = n := by simp [szL]
theorem szL_succ (n : Nat) : szL (n + 1) = szL n ++ [(SZ n : Int)] := by simp [szL, List.range_succ]
theorem gi_szL (n j : Nat) (h : j < n) : gi (szL n) j = (SZ j : Int) := by
  rw [gi_eq _ _ (by rw [szL_len]; exact h)]; simp [szL]
/-- the number of sizes of the first i spans -/
def cnt (i : Nat) : Nat := if i = 0 then 0 else if i = 1 then 60 else if i = 2 then 92 else if i = 3 then 124 else 188
def Sz1 (w : World) (out i : Value) (wr : World) : Prop := ∃ (j : Nat) (A : Option Addr) (c : Nat), j ≤ 4 ∧ i = .int .i64 j ∧ out = .slice A (cnt j) c ∧ Own .i64 3 wr w.heap.size A (cnt j) c (szL (cnt j)) ∧ Below w.heap.size w wr
def Sz2 (w : World) (B o F L S M : Nat) (out k : Value) (wr : World) : Prop := ∃ (q : Nat) (A : Option Addr) (c : Nat), q ≤ M ∧ k = .int .i64 ((F + S * q : Nat) : Int) ∧ out = .slice A (o + q) c ∧ Own .i64 3 wr w.heap.size A (o + q) c (szL (o + q)) ∧ Below w.heap.size w wr ∧ Blk wr B 134 [.int .i64 (F : Int), .int .i64 (L : Int), .int .i64 (S : Int)]
set_option maxHeartbeats 1600000 in
set_option maxRecDepth 100000 in
theorem sizes_any (w : World) : Calls Tryz.prog 89 #[] w fun e w' => ∃ A c, e = .returned (.slice A 188 c) ∧ Own .i64 3 w' w.heap.size A 188 c (szL 188) ∧ Below w.heap.size w w' := by
  go_enter Tryz.func89, Tryz.ntmps89
  go_wp2_with (go_at_call 92; refine (spans_any _).mono ?_; rintro e w1 ⟨rfl, hB1⟩)
  go_loopw [0, 5] (fun out i wr => Sz1 w out i wr) (fun _ i _ => 4 - (intOf i).toNat)
  case atStart => exact ⟨0, none, 0, by omega, rfl, rfl, Ownv.nilv 3 _ _, hB1⟩
  case round =>
    obtain ⟨j, A, c, hj, rfl, rfl, hO, hB⟩ := hrel
    have HO := Lib.hid hO
    have HB := Lib.hid hB
    clear hO hB hB1
    rcases (by omega : j = 0 ∨ j = 1 ∨ j = 2 ∨ j = 3 ∨ j = 4) with rfl | rfl | rfl | rfl | rfl
    · simp only [ints8, spansL, List.map_cons, List.map_nil]
      rw [show ((0 : Nat) : Int) = 0 from rfl]
      have hidx : ∀ W, (Instr.index 135 (Value.agg #[.int .i64 40, .int .i64 512, .int .i64 8, .int .i64 528, .int .i64 1024, .int .i64 16, .int .i64 1056, .int .i64 2048, .int .i64 32, .int .i64 2112, .int .i64 6144, .int .i64 64]) (.int .i64 0)).run Tryz.prog W = .ok (.agg #[.int .i64 40, .int .i64 512, .int .i64 8]) W := fun _ => by kernel_rfl
      go_wp2
      go_loopw [0, 3] (fun out k wr' => Sz2 w wr.heap.size 0 40 512 8 60 out k wr') (fun _ k _ => 520 - (intOf k).toNat)
      case atStart => exact ⟨0, A, c, by omega, rfl, rfl, Ownv.alloc HO.out _, HB.out.alloc HB.out.size _, Blk.new wr _ 134 rfl⟩
      case round =>
        obtain ⟨q, A2, c2, hq, rfl, rfl, hO2, hB2, hK⟩ := hrel
        have c1 := hK.cell (j := 1) rfl
        have c2' := hK.cell (j := 2) rfl
        have HK := Lib.hid hK
        have HO2 := Lib.hid hO2
        have HB2 := Lib.hid hB2
        clear hO2 hB2 hK
        by_cases hlt : q < 60
        · have eS : SZ (0 + q) = 40 + 8 * q := by (unfold SZ; repeat' split) <;> omega
          have HS := Lib.hid eS
          have hle : ((40 + 8 * q : Nat) : Int) ≤ 512 := by omega
          clear eS
          go_wp2_with (at_builtin; refine list_of rfl fun K hK => wp_app1 _ _ 60 rfl el34 rfl (.int .i64 _) rfl rfl HO2.out (by omega) (by omega) HB2.out.size ?_; intro A' c' w' hO' hg; have c2' := (HK.out.grown hg (blk_ne_row HK.out HO2.out (by decide))).cell (j := 2) rfl; have HO' := Lib.hid hO'; have HG := Lib.hid hg; clear hO' hg; refine hK _ _ ?_; clear hK K)
          go_roundw
          case rel => exact ⟨q + 1, A', c', by omega, by go_num, by first | rfl | simp only [Nat.zero_add], Own.of_eq HO'.out (by omega) (by rw [← Nat.add_assoc, szL_succ, List.map_append, HS.out]; rfl), HB2.out.grown HG.out HB2.out.size (fun k hk => Ownv.ob' HO2.out hk), HK.out.grown HG.out (blk_ne_row HK.out HO2.out (by decide))⟩
          case measure => simp [intOf]; omega
        · obtain rfl : q = 60 := by omega
          go_wp2
          go_roundw
          case rel => exact ⟨1, A2, c2, by omega, by go_num, rfl, HO2.out, HB2.out⟩
          case measure => simp [intOf]
    · simp only [ints8, spansL, List.map_cons, List.map_nil]
      rw [show ((1 : Nat) : Int) = 1 from rfl]
      have hidx : ∀ W, (Instr.index 135 (Value.agg #[.int .i64 40, .int .i64 512, .int .i64 8, .int .i64 528, .int .i64 1024, .int .i64 16, .int .i64 1056, .int .i64 2048, .int .i64 32, .int .i64 2112, .int .i64 6144, .int .i64 64]) (.int .i64 1)).run Tryz.prog W = .ok (.agg #[.int .i64 528, .int .i64 1024, .int .i64 16]) W := fun _ => by kernel_rfl
      go_wp2
      go_loopw [0, 3] (fun out k wr' => Sz2 w wr.heap.size 60 528 1024 16 32 out k wr') (fun _ k _ => 1040 - (intOf k).toNat)
      case atStart => exact ⟨0, A, c, by omega, rfl, rfl, Ownv.alloc HO.out _, HB.out.alloc HB.out.size _, Blk.new wr _ 134 rfl⟩
      case round =>
        obtain ⟨q, A2, c2, hq, rfl, rfl, hO2, hB2, hK⟩ := hrel
        have c1 := hK.cell (j := 1) rfl
        have c2' := hK.cell (j := 2) rfl
        have HK := Lib.hid hK
        have HO2 := Lib.hid hO2
        have HB2 := Lib.hid hB2
        clear hO2 hB2 hK
        by_cases hlt : q < 32
        · have eS : SZ (60 + q) = 528 + 16 * q := by (unfold SZ; repeat' split) <;> omega
          have HS := Lib.hid eS
          have hle : ((528 + 16 * q : Nat) : Int) ≤ 1024 := by omega
          clear eS
          go_wp2_with (at_builtin; refine list_of rfl fun K hK => wp_app1 _ _ 60 rfl el34 rfl (.int .i64 _) rfl rfl HO2.out (by omega) (by omega) HB2.out.size ?_; intro A' c' w' hO' hg; have c2' := (HK.out.grown hg (blk_ne_row HK.out HO2.out (by decide))).cell (j := 2) rfl; have HO' := Lib.hid hO'; have HG := Lib.hid hg; clear hO' hg; refine hK _ _ ?_; clear hK K)
          go_roundw
          case rel => exact ⟨q + 1, A', c', by omega, by go_num, by first | rfl | simp only [Nat.zero_add], Own.of_eq HO'.out (by omega) (by rw [← Nat.add_assoc, szL_succ, List.map_append, HS.out]; rfl), HB2.out.grown HG.out HB2.out.size (fun k hk => Ownv.ob' HO2.out hk), HK.out.grown HG.out (blk_ne_row HK.out HO2.out (by decide))⟩
          case measure => simp [intOf]; omega
        · obtain rfl : q = 32 := by omega
          go_wp2
          go_roundw
          case rel => exact ⟨2, A2, c2, by omega, by go_num, rfl, HO2.out, HB2.out⟩
          case measure => simp [intOf]
    · simp only [ints8, spansL, List.map_cons, List.map_nil]
      rw [show ((2 : Nat) : Int) = 2 from rfl]
      have hidx : ∀ W, (Instr.index 135 (Value.agg #[.int .i64 40, .int .i64 512, .int .i64 8, .int .i64 528, .int .i64 1024, .int .i64 16, .int .i64 1056, .int .i64 2048, .int .i64 32, .int .i64 2112, .int .i64 6144, .int .i64 64]) (.int .i64 2)).run Tryz.prog W = .ok (.agg #[.int .i64 1056, .int .i64 2048, .int .i64 32]) W := fun _ => by kernel_rfl
      go_wp2
      go_loopw [0, 3] (fun out k wr' => Sz2 w wr.heap.size 92 1056 2048 32 32 out k wr') (fun _ k _ => 2080 - (intOf k).toNat)
      case atStart => exact ⟨0, A, c, by omega, rfl, rfl, Ownv.alloc HO.out _, HB.out.alloc HB.out.size _, Blk.new wr _ 134 rfl⟩
      case round =>
        obtain ⟨q, A2, c2, hq, rfl, rfl, hO2, hB2, hK⟩ := hrel
        have c1 := hK.cell (j := 1) rfl
        have c2' := hK.cell (j := 2) rfl
        have HK := Lib.hid hK
        have HO2 := Lib.hid hO2
        have HB2 := Lib.hid hB2
        clear hO2 hB2 hK
        by_cases hlt : q < 32
        · have eS : SZ (92 + q) = 1056 + 32 * q := by (unfold SZ; repeat' split) <;> omega
          have HS := Lib.hid eS
          have hle : ((1056 + 32 * q : Nat) : Int) ≤ 2048 := by omega
          clear eS
          go_wp2_with (at_builtin; refine list_of rfl fun K hK => wp_app1 _ _ 60 rfl el34 rfl (.int .i64 _) rfl rfl HO2.out (by omega) (by omega) HB2.out.size ?_; intro A' c' w' hO' hg; have c2' := (HK.out.grown hg (blk_ne_row HK.out HO2.out (by decide))).cell (j := 2) rfl; have HO' := Lib.hid hO'; have HG := Lib.hid hg; clear hO' hg; refine hK _ _ ?_; clear hK K)
          go_roundw
          case rel => exact ⟨q + 1, A', c', by omega, by go_num, by first | rfl | simp only [Nat.zero_add], Own.of_eq HO'.out (by omega) (by rw [← Nat.add_assoc, szL_succ, List.map_append, HS.out]; rfl), HB2.out.grown HG.out HB2.out.size (fun k hk => Ownv.ob' HO2.out hk), HK.out.grown HG.out (blk_ne_row HK.out HO2.out (by decide))⟩
          case measure => simp [intOf]; omega
        · obtain rfl : q = 32 := by omega
          go_wp2
          go_roundw
          case rel => exact ⟨3, A2, c2, by omega, by go_num, rfl, HO2.out, HB2.out⟩
          case measure => simp [intOf]
    · simp only [ints8, spansL, List.map_cons, List.map_nil]
      rw [show ((3 : Nat) : Int) = 3 from rfl]
      have hidx : ∀ W, (Instr.index 135 (Value.agg #[.int .i64 40, .int .i64 512, .int .i64 8, .int .i64 528, .int .i64 1024, .int .i64 16, .int .i64 1056, .int .i64 2048, .int .i64 32, .int .i64 2112, .int .i64 6144, .int .i64 64]) (.int .i64 3)).run Tryz.prog W = .ok (.agg #[.int .i64 2112, .int .i64 6144, .int .i64 64]) W := fun _ => by kernel_rfl
      go_wp2
      go_loopw [0, 3] (fun out k wr' => Sz2 w wr.heap.size 124 2112 6144 64 64 out k wr') (fun _ k _ => 6208 - (intOf k).toNat)
      case atStart => exact ⟨0, A, c, by omega, rfl, rfl, Ownv.alloc HO.out _, HB.out.alloc HB.out.size _, Blk.new wr _ 134 rfl⟩
      case round =>
        obtain ⟨q, A2, c2, hq, rfl, rfl, hO2, hB2, hK⟩ := hrel
        have c1 := hK.cell (j := 1) rfl
        have c2' := hK.cell (j := 2) rfl
        have HK := Lib.hid hK
        have HO2 := Lib.hid hO2
        have HB2 := Lib.hid hB2
        clear hO2 hB2 hK
        by_cases hlt : q < 64
        · have eS : SZ (124 + q) = 2112 + 64 * q := by (unfold SZ; repeat' split) <;> omega
          have HS := Lib.hid eS
          have hle : ((2112 + 64 * q : Nat) : Int) ≤ 6144 := by omega
          clear eS
          go_wp2_with (at_builtin; refine list_of rfl fun K hK => wp_app1 _ _ 60 rfl el34 rfl (.int .i64 _) rfl rfl HO2.out (by omega) (by omega) HB2.out.size ?_; intro A' c' w' hO' hg; have c2' := (HK.out.grown hg (blk_ne_row HK.out HO2.out (by decide))).cell (j := 2) rfl; have HO' := Lib.hid hO'; have HG := Lib.hid hg; clear hO' hg; refine hK _ _ ?_; clear hK K)
          go_roundw
          case rel => exact ⟨q + 1, A', c', by omega, by go_num, by first | rfl | simp only [Nat.zero_add], Own.of_eq HO'.out (by omega) (by rw [← Nat.add_assoc, szL_succ, List.map_append, HS.out]; rfl), HB2.out.grown HG.out HB2.out.size (fun k hk => Ownv.ob' HO2.out hk), HK.out.grown HG.out (blk_ne_row HK.out HO2.out (by decide))⟩
          case measure => simp [intOf]; omega
        · obtain rfl : q = 64 := by omega
          go_wp2
          go_roundw
          case rel => exact ⟨4, A2, c2, by omega, by go_num, rfl, HO2.out, HB2.out⟩
          case measure => simp [intOf]
    · go_wp2
      go_ret
      exact ⟨A, c, rfl, HO.out, HB.out⟩
end Go.Proofs.YtcbbkflnenkpgaaGreat
