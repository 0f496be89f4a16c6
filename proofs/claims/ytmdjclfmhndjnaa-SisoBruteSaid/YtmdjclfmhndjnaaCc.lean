/-
  Contract of the reference's Branches. Condition: none.
-/
import Derived.Test.YtmdjclfmhndjnaaCb
namespace Go.Proofs.Ytmdjclfmhndjnaa
open Go.RowKit
set_option linter.unusedVariables false
theorem er77 : ElR Try.prog 60 77 (.agg #[.int .i64 0, .int .i64 0, .int .i64 0, .int .i64 0]) 4 32 := ⟨Try.underlying60, by kernel_rfl, fun W => by kernel_rfl, rfl, by decide⟩
theorem run_bs60 (m : List Int) (hm : m.length = 4) (W : World) : (Instr.buildSlice 60 1 #[(0, .agg (ints8 m).toArray)]).run Try.prog W = .ok (.slice (some ⟨W.heap.size, 0, none⟩) 1 1) (W.alloc (.cells (ints8 m).toArray 77)) := by
  obtain ⟨i, hi, hz0, hz1, hz2⟩ := info_parts er77.i
  match m, hm with
  | [a, b, c, d], _ =>
    refine run_buildSlice (P := Try.prog) W 60 77 1 _ _ i _ Try.underlying60 hi hz0 (by rw [hz1]; decide) (by rw [hz1]; decide) ?_
    rw [hz1]
    first
      | kernel_rfl
      | (simp [Instr.fill, Value.cells, ints8, List.zipIdx, List.range, List.range.loop, Array.range]; done)
theorem wp_bs60 {o : Oper} {a : Act} {W : World} {K : Act → World → Prop} {Q : Exit → Act → World → Prop} (x : Operand) (m : List Int) (hm : m.length = 4) (ho : o.op = .buildSlice 60 1 #[(0, x)]) (hx : a.eval x = .agg (ints8 m).toArray)
    (h : K (a.put o.dst (.slice (some ⟨W.heap.size, 0, none⟩) 1 1)) (W.alloc (.cells (ints8 m).toArray 77))) : o.wp Try.prog a W K Q := by
  unfold Oper.wp
  have hp : (#[(0, x)] : Array (Nat × Operand)).map (fun (i, x) => (i, a.eval x)) = #[(0, .agg (ints8 m).toArray)] := by simp [hx]
  simp only [execOp, ho, hp, run_bs60 m hm, Sem.run_bind, Sem.run_pure, Result.andThen_ok]
  exact h
def brR (j : Nat) : List (List Value) := (brT.take j).map brV
theorem brR_len (j : Nat) (hj : j ≤ 16) : (brR j).length = j := by
  have : brT.length = 16 := rfl
  simp [brR]; omega
theorem brR_succ (j : Nat) (hj : j < brT.length) : brR (j + 1) = brR j ++ [brV brT[j]] := by
  unfold brR; rw [List.take_succ_eq_append_getElem hj, List.map_append]; rfl
def BrI (w : World) (p : Nat) (o : Value) (wr : World) : Prop := ∃ A cap, o = .slice A p cap ∧ Rw 77 4 wr w.heap.size A cap (brR p) ∧ Below w.heap.size w wr
set_option maxRecDepth 100000 in
set_option maxHeartbeats 1000000 in
theorem rbranches_any (w : World) : Calls Try.prog 35 #[] w fun e w' => ∃ A cap, e = .returned (.slice A 16 cap) ∧ Rw 77 4 w' w.heap.size A cap (brR 16) ∧ Below w.heap.size w w' := by
  go_enter Try.func35, Try.ntmps35
  go_wp2
  go_loopw [1, 2] (fun o s wr => ∃ s' : Nat, s' ≤ 8 ∧ s = .int .i64 s' ∧ BrI w (2 * s') o wr) (fun _ s _ => 8 - (intOf s).toNat)
  case atStart => exact ⟨0, by omega, rfl, none, 0, rfl, Rw.nil 77 4 w _, Below.refl _ w⟩
  case round =>
    obtain ⟨s', hs', rfl, A0, cap0, rfl, hR0, hB0⟩ := hrel
    by_cases hlt : s' < 8
    · obtain ⟨wo, rfl⟩ : ∃ wo : World, wo = wr := ⟨_, rfl⟩
      have HR0 := Lib.hid hR0
      have HB0 := Lib.hid hB0
      clear hR0 hB0
      have hd : decide ((s' : Int) < 8) = true := by simp; omega
      go_wp2_with fail
      go_loopw [1, 3, 4, 5, 14] (fun o b n p t wr => ∃ q : Nat, q ≤ 2 ∧ b = .int .i64 q ∧ BrI w (2 * s' + q) o wr) (fun _ b _ _ _ _ => 2 - (intOf b).toNat)
      case atStart => exact ⟨0, by omega, rfl, A0, cap0, rfl, HR0.out, HB0.out⟩
      case round =>
        obtain ⟨q, hq, rfl, A, cap, rfl, hR, hB⟩ := hrel
        by_cases hq2 : q < 2
        · have hj : 2 * s' + q < brT.length := by show _ < 16; omega
          obtain ⟨a, b, c, x, e1, e2, e3⟩ := tab_j (2 * s' + q) hj
          have e1' : (s' : Int) = stS (a, b, c) := by show _ = stI a b c; rw [← e1]; omega
          have e2' : (q : Int) = ib x := by rw [← e2]; omega
          have HT := Lib.hid (brR_succ (2 * s' + q) hj)
          have HE := Lib.hid e3
          have HL := Lib.hid (brR_len (2 * s' + q) (by show _ ≤ 16; have : brT.length = 16 := rfl; omega))
          have HR := Lib.hid hR
          have HB := Lib.hid hB
          have HST := Lib.hid (fun W => rstep_any (a, b, c) x W)
          have E1 := Lib.hid e1'
          have E2 := Lib.hid e2'
          clear e1 e2 e3 e1' e2' hR hB
          go_wp2_with fail
          have HST2 := HST.out
          rw [← E1.out, ← E2.out] at HST2
          refine (HST2 _).mono ?_
          rintro e w4 ⟨rfl, rfl⟩
          clear HST2
          go_wp2_with (first
            | (at_builtin; refine list_of rfl fun K hK => wp_appR er77 (.tmp 20) (.tmp 26) (rs := brR (2 * s' + q)) (ints8 [(s' : Int), (q : Int), ib (par (a, b, c) x), stS (stp (a, b, c) x)]) rfl (ints8_one _) rfl (by rw [HL.out]; rfl) rfl rfl HR.out (by rw [HL.out]; omega) (by rw [HL.out]; unfold maxLen; omega) HB.out.size ?_; intro A5 cap5 w5 h1 h2 h3; refine hK _ _ ?_; clear hK K; rw [HL.out]; have H1 := Lib.hid h1; have H2 := Lib.hid h2; clear h1 h2 h3)
            | (refine list_of rfl fun K hK => wp_bs60 (.tmp 25) [(s' : Int), (q : Int), ib (par (a, b, c) x), stS (stp (a, b, c) x)] rfl rfl rfl ?_; refine hK _ _ ?_; clear hK K))
          have HRN : Hid (Rw 77 4 w5 w.heap.size A5 cap5 (brR (2 * s' + (q + 1)))) := Lib.hid (by
            rw [show 2 * s' + (q + 1) = 2 * s' + q + 1 from rfl, HT.out, HE.out]
            have h := H1.out
            rw [show (s' : Int) = stI a b c from E1.out, show (q : Int) = ib x from E2.out] at h
            exact h)
          have HBN : Hid (Below w.heap.size w w5) := Lib.hid (HB.out.grown H2.out HB.out.size (fun k hk => by
            have h := HR.out
            rcases h.cases with ⟨rfl, -⟩ | ⟨bg, cur, rfl, h1, h2, -⟩
            · simp [Value.ownBlock] at hk
            · simp [Value.ownBlock] at hk; omega))
          go_roundw
          case rel => exact ⟨q + 1, by omega, by go_num, A5, cap5, rfl, HRN.out, HBN.out⟩
          case measure => simp [intOf]; omega
        · obtain rfl : q = 2 := by omega
          have HR := Lib.hid hR
          have HB := Lib.hid hB
          clear hR hB
          go_wp2
          go_roundw
          case rel => exact ⟨s' + 1, by omega, by go_num, A, cap, rfl, HR.out, HB.out⟩
          case measure => simp [intOf]; omega
    · obtain rfl : s' = 8 := by omega
      have HR0 := Lib.hid hR0
      have HB0 := Lib.hid hB0
      clear hR0 hB0
      go_wp2
      go_ret
      exact ⟨A0, cap0, rfl, HR0.out, HB0.out⟩
end Go.Proofs.Ytmdjclfmhndjnaa
