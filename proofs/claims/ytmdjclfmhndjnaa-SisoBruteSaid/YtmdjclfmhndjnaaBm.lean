/-
  Contract of siso.Decode for a refused observation. Condition: lists that lie in memory.
-/
import Derived.Test.YtmdjclfmhndjnaaBl
namespace Go.Proofs.Ytmdjclfmhndjnaa
open Go.RowKit
set_option linter.unusedVariables false
theorem info28 : (Try.prog.info? 28).map (·.size) = some 3 := by kernel_rfl
theorem res28 {W : World} {b : Nat} {cs : List Value} (h : Blk W b 28 cs) (hl : cs.length = 3) : (loadVar 28 ⟨b, 0, none⟩).run Try.prog W = .ok (.agg cs.toArray) W :=
  run_loadVar_row (P := Try.prog) W b 28 28 _ (0, 0) _ h Try.underlying28 rfl (by rw [info28]; simp [hl])
theorem results12 {W : World} {b : Nat} {cs : List Value} {a : Array Value} {E : Int} (h : Blk W b 28 cs) (hl : cs.length = 3) (h2 : a.getD 6 undef = .pointer (some ⟨b, 0, none⟩)) (h3 : a.getD 7 undef = .int .i64 E) :
    (results Try.f12 a).run Try.prog W = .ok (.tuple #[.agg cs.toArray, .int .i64 E]) W := by
  rw [results_cell_tmp rfl, h2, h3]
  simp [asAddr, res28 h hl, Sem.run_pure]
def zero28 : List Value := [.slice none 0 0, .slice none 0 0, .slice none 0 0]
theorem zero28_one : ∀ v ∈ zero28, v.oneCell' = true := by simp [zero28, Value.oneCell']
instance (o : Ob) : Decidable o.lens := by unfold Ob.lens; infer_instance
/-- the errno of an observation -/
def Ob.err (o : Ob) : Int := if o.lens then (if o.soft = true then 0 else 6) else 2
theorem Ob.err_ok {o : Ob} (h : o.ok) : o.err = 0 := by unfold Ob.err; rw [if_pos (Ob.of_ok h).1, if_pos (Ob.of_ok h).2]
theorem Ob.err_cases {o : Ob} (h : ¬ o.ok) : o.err = 2 ∨ o.err = 6 := by
  unfold Ob.err
  by_cases h1 : o.lens
  · rw [if_pos h1]
    by_cases h2 : o.soft = true
    · exact absurd (Ob.ok_of h1 h2) h
    · rw [if_neg h2]; right; rfl
  · rw [if_neg h1]; left; rfl
theorem observed_bad (S P A : Option Addr) (cs cp ca : Nat) (o : Ob) (w : World) (h : In3 w o S P A cs cp ca) (ho : ¬ o.ok) :
    Calls Try.prog 28 #[.slice S o.s.length cs, .slice P o.p.length cp, .slice A o.a.length ca] w fun e w' => e = .returned (.tuple #[.agg zero62.toArray, .int .i64 o.err]) ∧ Below w.heap.size w w' := by
  unfold Ob.err
  by_cases h1 : o.lens
  · rw [if_pos h1]
    by_cases h2 : o.soft = true
    · exact absurd (Ob.ok_of h1 h2) ho
    · rw [if_neg h2]; exact observed_soft S P A cs cp ca o w h h1 (by simpa using h2)
  · rw [if_neg h1]; exact observed_len S P A cs cp ca o w h h1
set_option maxRecDepth 100000 in
set_option maxHeartbeats 600000 in
theorem decode_bad (S P A : Option Addr) (cs cp ca : Nat) (o : Ob) (w : World) (h : In3 w o S P A cs cp ca) (ho : ¬ o.ok) :
    Calls Try.prog 12 #[.slice S o.s.length cs, .slice P o.p.length cp, .slice A o.a.length ca] w fun e w' => e = .returned (.tuple #[.agg zero28.toArray, .int .i64 o.err]) ∧ Below w.heap.size w w' := by
  have hb : Blk (w.alloc (.cells #[.slice none 0 0, .slice none 0 0, .slice none 0 0] 28)) w.heap.size 28 zero28 := Blk.new w zero28 28 rfl
  have H := Lib.hid (h.alloc (.cells #[.slice none 0 0, .slice none 0 0, .slice none 0 0] 28))
  have hE := Ob.err_cases ho
  have HO := Lib.hid (fun W h => observed_bad S P A cs cp ca o W h ho)
  generalize o.err = E at *
  have hne : (E != 0) = true := by simp; omega
  clear h ho hE
  go_enter Try.func12, Try.ntmps12
  go_wp2_with fail
  refine (HO.out _ H.out).mono ?_
  rintro e w1 ⟨rfl, hB1⟩
  have h62 : Blk (w1.alloc (.cells #[.pointer none, .slice none 0 0] 62)) w1.heap.size 62 zero62 := Blk.new w1 zero62 62 rfl
  have h28 := (hb.below hB1).alloc (.cells #[.pointer none, .slice none 0 0] 62)
  have HB1 := Lib.hid hB1
  clear hb hB1
  unfold zero62
  go_wp2_with (first
    | (refine strow rfl 62 (.tmp 8) (.tmp 20) rfl rfl rfl h62 rfl (by rw [info62]; rfl) zero62_one ?_; intro W2 h1 h2; have h28b := Blk.grown h28 h2 (by have := HB1.out.size; simp at this; omega); have H2 := Lib.hid h2; clear h1 h2 h62 h28)
    | (refine strow rfl 28 (.tmp 6) (.tmp 24) rfl rfl rfl h28b rfl (by rw [info28]; rfl) zero28_one ?_; intro W3 h3 h4; have H3 := Lib.hid h3; have H4 := Lib.hid h4; clear h3 h4 h28b))
  have hs := HB1.out.size
  simp at hs
  refine bodyPost_ret (results12 H3.out rfl rfl rfl) rfl ⟨rfl, ?_⟩
  have b1 := ((((Below.refl _ w).alloc (Nat.le_refl _) _).trans (HB1.out.mono (by simp))).alloc (by omega) (.cells #[.pointer none, .slice none 0 0] 62)).grown H2.out (by simp; omega) (fun k hk => by cases hk; omega)
  exact b1.grown H4.out (by have := H2.out.size; simp at this; omega) (fun k hk => by cases hk; exact Nat.le_refl _)
end Go.Proofs.Ytmdjclfmhndjnaa
