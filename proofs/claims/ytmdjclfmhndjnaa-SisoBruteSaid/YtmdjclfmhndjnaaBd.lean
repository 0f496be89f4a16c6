/-
  Contracts of trellis.table and trellis.Branches: the sixteen branches. Condition: none.
-/
import Derived.Test.YtmdjclfmhndjnaaBc
namespace Go.Proofs.Ytmdjclfmhndjnaa
open Go.RowKit
set_option linter.unusedVariables false
def brAll : List Value := brT.flatMap brV
theorem brAll_len : brAll.length = 64 := rfl
theorem info111 : (Try.prog.info? 111).map (·.size) = some 64 := by kernel_rfl
theorem info77 : (Try.prog.info? 77).map (·.size) = some 4 := by kernel_rfl
def tabC (j : Nat) : List Value := (brT.take j).flatMap brV
theorem tabC_len : ∀ j, j ≤ 16 → (tabC j).length = 4 * j := by decide
theorem tabC_succ (j : Nat) (hj : j < brT.length) : tabC (j + 1) = tabC j ++ brV brT[j] := by
  unfold tabC; rw [List.take_succ_eq_append_getElem hj, List.flatMap_append]; simp
def zer (n : Nat) : List Value := List.replicate n (.int .i64 0)
theorem zer_split (j : Nat) (hj : j < 16) : zer (64 - 4 * j) = zer 4 ++ zer (64 - 4 * (j + 1)) := by
  unfold zer; rw [List.replicate_append_replicate]; congr 1; omega
theorem tab_j (j : Nat) (hj : j < brT.length) : ∃ a b c x : Bool, (j : Int) / 2 = stI a b c ∧ (j : Int) % 2 = ib x ∧ brV brT[j] = ints8 [stI a b c, ib x, ib (x ^^ b ^^ c ^^ a ^^ c), stI (x ^^ b ^^ c) a b] := by
  refine ⟨decide (j / 8 % 2 = 1), decide (j / 4 % 2 = 1), decide (j / 2 % 2 = 1), decide (j % 2 = 1), ?_⟩
  have hj' : j < 16 := hj
  rcases (by omega : j = 0 ∨ j = 1 ∨ j = 2 ∨ j = 3 ∨ j = 4 ∨ j = 5 ∨ j = 6 ∨ j = 7 ∨ j = 8 ∨ j = 9 ∨ j = 10 ∨ j = 11 ∨ j = 12 ∨ j = 13 ∨ j = 14 ∨ j = 15) with rfl | rfl | rfl | rfl | rfl | rfl | rfl | rfl | rfl | rfl | rfl | rfl | rfl | rfl | rfl | rfl <;> exact ⟨by decide, by decide, rfl⟩
def TabInv (w : World) (i : Value) (wr : World) : Prop := ∃ j : Nat, j ≤ 16 ∧ i = .int .i64 j ∧ Blk wr w.heap.size 111 (tabC j ++ zer (64 - 4 * j)) ∧ Below w.heap.size w wr
theorem brV_one (b : Br) : ∀ v ∈ brV b, v.oneCell' = true := ints8_one _
theorem brAll_one : ∀ v ∈ brAll, v.oneCell' = true := by
  intro v hv
  obtain ⟨b, -, h⟩ := List.mem_flatMap.1 hv
  exact brV_one b v h
set_option maxRecDepth 100000 in
set_option maxHeartbeats 1000000 in
theorem table_any (w : World) : Calls Try.prog 63 #[] w fun e w' => e = .returned (.agg brAll.toArray) ∧ Below w.heap.size w w' := by
  go_enter Try.func63, Try.ntmps63
  go_wp2
  go_loopw [4] (fun i wr => TabInv w i wr) (fun i _ => 16 - (intOf i).toNat)
  case atStart => exact ⟨0, by omega, rfl, Blk.new w (zer 64) 111 rfl, (Below.refl _ w).alloc (Nat.le_refl _) _⟩
  case round =>
    obtain ⟨j, hj, rfl, hb, hB⟩ := hrel
    by_cases hlt : j < 16
    · obtain ⟨a, b, c, x, e1, e2, e3⟩ := tab_j j hlt
      have HT := Lib.hid (tabC_succ j hlt)
      rw [zer_split j hlt, ← List.append_assoc] at hb
      have HL := Lib.hid (tabC_len j hj)
      have HE := Lib.hid e3
      have HBK := Lib.hid hb
      have HB := Lib.hid hB
      clear e3 hb hB
      go_wp2_with fail
      refine (regat_any a b c _).mono ?_
      rintro e w1 ⟨rfl, hB1⟩
      have HBK := Lib.hid (HBK.out.below hB1)
      have HB := Lib.hid (HB.out.trans (hB1.mono HB.out.size))
      clear hB1
      go_wp2_with fail
      have hst := fun W => step_any a b c x W
      generalize (x ^^ b ^^ c ^^ a ^^ c) = z at *
      generalize (x ^^ b ^^ c) = y at *
      have HST := Lib.hid hst
      clear hst
      refine (HST.out _).mono ?_
      rintro e w2 ⟨rfl, hB2⟩
      have HBK := Lib.hid (HBK.out.below hB2)
      have HB := Lib.hid (HB.out.trans (hB2.mono HB.out.size))
      clear hB2 HST
      unfold regV
      go_wp2_with fail
      refine (state_any y a b _).mono ?_
      rintro e w3 ⟨rfl, hB3⟩
      have HBK : Hid (Blk w3 w.heap.size 111 (tabC j ++ zer 4 ++ zer (64 - 4 * (j + 1)))) := Lib.hid ((HBK.out.alloc _).below hB3)
      have HB := Lib.hid ((HB.out.alloc HB.out.size (.cells #[.int .i64 (ib y), .int .i64 (ib a), .int .i64 (ib b)] 117)).trans (hB3.mono (by have := HB.out.size; simp; omega)))
      clear hB3
      have hbk := HBK.out
      have hlen := HL.out
      go_wp2_with (refine stmid rfl 77 (.tmp 25) (.tmp 24) rfl rfl (by omega) rfl hbk rfl (by rw [info77]; rfl) (ints8_one [stI a b c, ib x, ib z, stI y a b]) ?_; intro W' h1 h2; have H1 := Lib.hid h1; have H2 := Lib.hid h2; clear h1 h2 hbk)
      go_roundw
      case rel => exact ⟨j + 1, by omega, by go_num, by rw [HT.out, HE.out]; exact H1.out, HB.out.grown H2.out HB.out.size (fun k hk => by cases hk; exact Nat.le_refl _)⟩
      case measure => simp [intOf]; omega
    · obtain rfl : j = 16 := by omega
      have hb' : Blk wr w.heap.size 111 brAll := by rw [show tabC 16 ++ zer (64 - 4 * 16) = brAll from rfl] at hb; exact hb
      have HQ := Lib.hid hB
      clear hb hB
      go_wp2_with (first
        | (refine ldrow rfl 111 (.tmp 0) rfl rfl hb' _ Try.underlying111 rfl (by rw [info111]; rfl) ?_)
        | (refine strow rfl 111 (.tmp 0) (.tmp 27) rfl rfl rfl hb' rfl (by rw [info111]; rfl) brAll_one ?_; intro W' h1 h2; have H1 := Lib.hid h1; have H2 := Lib.hid h2; clear h1 h2 hb'))
      refine bodyPost_ret (v := .agg brAll.toArray) ?_ rfl ⟨rfl, HQ.out.grown H2.out HQ.out.size (fun k hk => by cases hk; exact Nat.le_refl _)⟩
      rw [results_c rfl]
      have l1 : (loadVar 111 ⟨w.heap.size, 0, none⟩).run Try.prog W' = .ok (.agg brAll.toArray) W' := run_loadVar_row (P := Try.prog) W' _ 111 111 _ (0, 0) _ H1.out Try.underlying111 rfl (by rw [info111]; rfl)
      simp [Act.put, asAddr, l1, Sem.run_pure]
theorem branches_any (w : World) : Calls Try.prog 46 #[] w fun e w' => ∃ bb, e = .returned (.slice (some ⟨bb, 0, none⟩) 16 16) ∧ Blk w' bb 111 brAll ∧ w.heap.size ≤ bb ∧ Below w.heap.size w w' := by
  go_enter Try.func46, Try.ntmps46
  go_wp2_with fail
  refine (table_any _).mono ?_
  rintro e w1 ⟨rfl, hB1⟩
  have hb : Blk (w1.alloc (.cells (zer 64).toArray 111)) w1.heap.size 111 (zer 64) := Blk.new w1 (zer 64) 111 rfl
  have hB : Below w.heap.size w (w1.alloc (.cells (zer 64).toArray 111)) := hB1.alloc hB1.size _
  have HS := Lib.hid hB1.size
  have HQ := Lib.hid hB
  clear hB hB1
  go_wp2_with (refine strow rfl 111 (.tmp 1) (.tmp 2) rfl rfl rfl hb rfl (by rw [info111]; rfl) brAll_one ?_; intro W' h1 h2; have H1 := Lib.hid h1; have H2 := Lib.hid h2; clear h1 h2 hb)
  go_ret
  exact ⟨_, rfl, H1.out, HS.out, HQ.out.grown H2.out HQ.out.size (fun k hk => by cases hk; exact HS.out)⟩
end Go.Proofs.Ytmdjclfmhndjnaa
