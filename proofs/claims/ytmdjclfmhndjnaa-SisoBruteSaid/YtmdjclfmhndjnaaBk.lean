/-
  Contract of observed: a sweep of a valid observation, or the error. Condition: lists that lie in memory.
-/
import Derived.Test.YtmdjclfmhndjnaaBj
namespace Go.Proofs.Ytmdjclfmhndjnaa
open Go.RowKit
set_option linter.unusedVariables false
theorem wp_scope_fwd {P : Program} {a : Act} {w : World} {Q : Exit → Act → World → Prop} {c rest : Code} (l : Nat) (hf : findLabel c l = some rest)
    (first : c.wp P (Exit.jump l (fun a w => rest.wp P (Exit.jump l (fun _ _ => False) Q) a w) Q) a w) : (Code.scope c).wp P Q a w :=
  wp_scope_jumps l (fun a w => rest.wp P (Exit.jump l (fun _ _ => False) Q) a w) (fun _ _ => 0) hf first fun a w h => Code.wp_mono (fun e a w h => by
    cases e <;> first | exact h | exact ⟨h.1, h.2.elim⟩) h
theorem info62 : (Try.prog.info? 62).map (·.size) = some 2 := by kernel_rfl
theorem res62 {W : World} {b : Nat} {cs : List Value} (h : Blk W b 62 cs) (hl : cs.length = 2) : (loadVar 62 ⟨b, 0, none⟩).run Try.prog W = .ok (.agg cs.toArray) W :=
  run_loadVar_row (P := Try.prog) W b 62 62 _ (0, 0) _ h Try.underlying62 rfl (by rw [info62]; simp [hl])
theorem results28 {W : World} {b : Nat} {cs : List Value} {a : Array Value} {E : Int} (h : Blk W b 62 cs) (hl : cs.length = 2) (h2 : a.getD 6 undef = .pointer (some ⟨b, 0, none⟩)) (h3 : a.getD 7 undef = .int .i64 E) :
    (results Try.f28 a).run Try.prog W = .ok (.tuple #[.agg cs.toArray, .int .i64 E]) W := by
  rw [results_cell_tmp rfl, h2, h3]
  simp [asAddr, res62 h hl, Sem.run_pure]
theorem bne_len_t {a b : Nat} (h : a ≠ b + 3) : ((a : Int) != (b : Int) + 3) = true := by simp; omega
theorem bne_len_f {a b : Nat} (h : a = b + 3) : ((a : Int) != (b : Int) + 3) = false := by simp; omega
def Ob.lens (o : Ob) : Prop := 1 ≤ o.a.length ∧ o.a.length ≤ 6144 ∧ o.s.length = o.a.length + 3 ∧ o.p.length = o.a.length + 3
def Ob.soft (o : Ob) : Bool := SoftB o.s && (SoftB o.p && SoftB o.a)
theorem Ob.ok_of {o : Ob} (h : o.lens) (hs : o.soft = true) : o.ok := by
  unfold Ob.soft at hs
  simp only [Bool.and_eq_true] at hs
  exact ⟨h.1, h.2.1, h.2.2.1, h.2.2.2, softB_mem hs.1, softB_mem hs.2.1, softB_mem hs.2.2⟩
theorem Ob.of_ok {o : Ob} (h : o.ok) : o.lens ∧ o.soft = true := by
  obtain ⟨h1, h2, h3, h4, h5, h6, h7⟩ := h
  refine ⟨⟨h1, h2, h3, h4⟩, ?_⟩
  unfold Ob.soft SoftB
  simp only [Bool.and_eq_true, List.all_eq_true, decide_eq_true_eq]
  exact ⟨h5, h6, h7⟩
def obRows (o : Ob) (S P A : Option Addr) (cs cp ca : Nat) : List RowS := [⟨S, cs, o.s⟩, ⟨P, cp, o.p⟩, ⟨A, ca, o.a⟩]
theorem obRows_soft (o : Ob) (S P A : Option Addr) (cs cp ca : Nat) : rowsB (obRows o S P A cs cp ca) = o.soft := by
  simp [rowsB, obRows, Ob.soft]
def zero62 : List Value := [.pointer none, .slice none 0 0]
theorem zero62_one : ∀ v ∈ zero62, v.oneCell' = true := by simp [zero62, Value.oneCell']
/-- three rows in memory -/
structure In3 (W : World) (o : Ob) (S P A : Option Addr) (cs cp ca : Nat) : Prop where
  s : Rd .i64 W S o.s.length cs o.s
  p : Rd .i64 W P o.p.length cp o.p
  a : Rd .i64 W A o.a.length ca o.a
theorem In3.below {W W' : World} {o : Ob} {S P A : Option Addr} {cs cp ca : Nat} (h : In3 W o S P A cs cp ca) (hB : Below W.heap.size W W') : In3 W' o S P A cs cp ca := ⟨Rdv.below h.s hB, Rdv.below h.p hB, Rdv.below h.a hB⟩
theorem In3.alloc {W : World} {o : Ob} {S P A : Option Addr} {cs cp ca : Nat} (h : In3 W o S P A cs cp ca) (x : Obj) : In3 (W.alloc x) o S P A cs cp ca := ⟨Rdv.alloc h.s x, Rdv.alloc h.p x, Rdv.alloc h.a x⟩
set_option maxRecDepth 100000 in
set_option maxHeartbeats 600000 in
theorem observed_len (S P A : Option Addr) (cs cp ca : Nat) (o : Ob) (w : World) (h : In3 w o S P A cs cp ca) (hl : ¬ o.lens) :
    Calls Try.prog 28 #[.slice S o.s.length cs, .slice P o.p.length cp, .slice A o.a.length ca] w fun e w' => e = .returned (.tuple #[.agg zero62.toArray, .int .i64 2]) ∧ Below w.heap.size w w' := by
  have b1 := (Rdv.bd h.s).1
  have b2 := (Rdv.bd h.p).1
  have b3 := (Rdv.bd h.a).1
  have hb : Blk (w.alloc (.cells #[.pointer none, .slice none 0 0] 62)) w.heap.size 62 zero62 := Blk.new w zero62 62 rfl
  unfold Ob.lens at hl
  clear h
  rcases (by omega : o.a.length < 1 ∨ 6144 < o.a.length ∨ (1 ≤ o.a.length ∧ o.a.length ≤ 6144 ∧ o.s.length ≠ o.a.length + 3) ∨ (1 ≤ o.a.length ∧ o.a.length ≤ 6144 ∧ o.s.length = o.a.length + 3 ∧ o.p.length ≠ o.a.length + 3)) with h1 | h1 | ⟨h1, h2, h3⟩ | ⟨h1, h2, h3, h4⟩ <;> clear hl
  case' inr.inr.inl => have e3 := bne_len_t h3; clear h3
  case' inr.inr.inr => have e3 := bne_len_f h3; have e4 := bne_len_t h4; clear h3 h4
  all_goals
    go_enter Try.func28, Try.ntmps28
    go_wp2_with fail
    refine wp_scope_fwd 0 rfl ?_
    go_wp2
    go_step3
    refine ⟨rfl, ?_⟩
    go_wp2_with (refine strow rfl 62 (.tmp 6) (.tmp 43) rfl rfl rfl hb rfl (by rw [info62]; rfl) zero62_one ?_; intro W2 h1 h2; have H1 := Lib.hid h1; have H2 := Lib.hid h2; clear h1 h2 hb)
    simp only [Exit.jump]
    exact bodyPost_ret (results28 H1.out rfl rfl rfl) rfl ⟨rfl, ((Below.refl _ w).alloc (Nat.le_refl _) _).grown H2.out (by simp) (fun k hk => by cases hk; exact Nat.le_refl _)⟩
set_option maxRecDepth 100000 in
set_option maxHeartbeats 600000 in
theorem observed_soft (S P A : Option Addr) (cs cp ca : Nat) (o : Ob) (w : World) (h : In3 w o S P A cs cp ca) (hl : o.lens) (hs : o.soft = false) :
    Calls Try.prog 28 #[.slice S o.s.length cs, .slice P o.p.length cp, .slice A o.a.length ca] w fun e w' => e = .returned (.tuple #[.agg zero62.toArray, .int .i64 6]) ∧ Below w.heap.size w w' := by
  obtain ⟨l1, l2, l3, l4⟩ := hl
  have hb : Blk (w.alloc (.cells #[.pointer none, .slice none 0 0] 62)) w.heap.size 62 zero62 := Blk.new w zero62 62 rfl
  have hb2 := hb.alloc (.cells #[.slice S o.s.length cs, .slice P o.p.length cp, .slice A o.a.length ca] 22)
  have h' := Lib.hid ((h.alloc (.cells #[.pointer none, .slice none 0 0] 62)).alloc (.cells #[.slice S o.s.length cs, .slice P o.p.length cp, .slice A o.a.length ca] 22))
  have hR := Lib.hid (Ownv.lit (w.alloc (.cells #[.pointer none, .slice none 0 0] 62)) #[.slice S o.s.length cs, .slice P o.p.length cp, .slice A o.a.length ca] 22 rfl (Nat.le_refl _) (by show 3 ≤ maxLen; unfold maxLen; omega)).rd
  have e3 := bne_len_f l3
  have e4 := bne_len_f l4
  have L3 := Lib.hid l3
  have L4 := Lib.hid l4
  clear l3 l4
  have HS := Lib.hid hs
  clear h hs
  go_enter Try.func28, Try.ntmps28
  go_wp2_with fail
  refine wp_scope_fwd 0 rfl ?_
  go_wp2_with fail
  refine (outside_any _ 3 3 (obRows o S P A cs cp ca) _ (by have := hR.out; simpa [obRows, RowS.v] using this) (by intro r hr; simp [obRows] at hr; rcases hr with rfl | rfl | rfl; exact h'.out.s; exact h'.out.p; exact h'.out.a)).mono ?_
  rintro e w1 ⟨rfl, rfl⟩
  rw [obRows_soft, HS.out, Bool.not_false]
  go_wp2
  go_step3
  refine ⟨rfl, ?_⟩
  go_wp2_with (refine strow rfl 62 (.tmp 6) (.tmp 43) rfl rfl rfl hb2 rfl (by rw [info62]; rfl) zero62_one ?_; intro W2 h1 h2; have H1 := Lib.hid h1; have H2 := Lib.hid h2; clear h1 h2 hb hb2)
  simp only [Exit.jump]
  exact bodyPost_ret (results28 H1.out rfl rfl rfl) rfl ⟨rfl, (((Below.refl _ w).alloc (Nat.le_refl _) _).alloc (by simp) _).grown H2.out (by simp; omega) (fun k hk => by cases hk; exact Nat.le_refl _)⟩
set_option maxRecDepth 100000 in
set_option maxHeartbeats 600000 in
theorem observed_ok (S P A : Option Addr) (cs cp ca : Nat) (o : Ob) (w : World) (h : In3 w o S P A cs cp ca) (ho : o.ok) :
    Calls Try.prog 28 #[.slice S o.s.length cs, .slice P o.p.length cp, .slice A o.a.length ca] w fun e w' => ∃ bo bb, e = .returned (.tuple #[swV bo bb, .int .i64 0]) ∧ SwAt w' bo bb o S P A cs cp ca ∧ Below w.heap.size w w' := by
  obtain ⟨⟨l1, l2, l3, l4⟩, hs⟩ := Ob.of_ok ho
  have hb : Blk (w.alloc (.cells #[.pointer none, .slice none 0 0] 62)) w.heap.size 62 zero62 := Blk.new w zero62 62 rfl
  have hb2 := hb.alloc (.cells #[.slice S o.s.length cs, .slice P o.p.length cp, .slice A o.a.length ca] 22)
  have h' := Lib.hid ((h.alloc (.cells #[.pointer none, .slice none 0 0] 62)).alloc (.cells #[.slice S o.s.length cs, .slice P o.p.length cp, .slice A o.a.length ca] 22))
  have hR := Lib.hid (Ownv.lit (w.alloc (.cells #[.pointer none, .slice none 0 0] 62)) #[.slice S o.s.length cs, .slice P o.p.length cp, .slice A o.a.length ca] 22 rfl (Nat.le_refl _) (by show 3 ≤ maxLen; unfold maxLen; omega)).rd
  have HS := Lib.hid hs
  have hQ : Below w.heap.size w (((w.alloc (.cells #[.pointer none, .slice none 0 0] 62)).alloc (.cells #[.slice S o.s.length cs, .slice P o.p.length cp, .slice A o.a.length ca] 22)).alloc (.cells #[.slice S o.s.length cs, .slice P o.p.length cp, .slice A o.a.length ca] 89)) := (((Below.refl _ w).alloc (Nat.le_refl _) _).alloc (by simp) _).alloc (by simp; omega) _
  have h89 : ObsAt (((w.alloc (.cells #[.pointer none, .slice none 0 0] 62)).alloc (.cells #[.slice S o.s.length cs, .slice P o.p.length cp, .slice A o.a.length ca] 22)).alloc (.cells #[.slice S o.s.length cs, .slice P o.p.length cp, .slice A o.a.length ca] 89)) (w.heap.size + 2) o S P A cs cp ca :=
    ⟨Blk.new _ [.slice S o.s.length cs, .slice P o.p.length cp, .slice A o.a.length ca] 89 (by simp), Rdv.alloc h'.out.s _, Rdv.alloc h'.out.p _, Rdv.alloc h'.out.a _⟩
  have hb3 := hb2.alloc (.cells #[.slice S o.s.length cs, .slice P o.p.length cp, .slice A o.a.length ca] 89)
  have HQ := Lib.hid hQ
  have H89 := Lib.hid h89
  have HB3 := Lib.hid hb3
  have H0 := Lib.hid h
  have e3 := bne_len_f l3
  have e4 := bne_len_f l4
  have L3 := Lib.hid l3
  have L4 := Lib.hid l4
  clear l3 l4
  clear h hs hQ h89 hb hb2 hb3
  go_enter Try.func28, Try.ntmps28
  go_wp2_with fail
  go_step3
  go_wp2_with fail
  refine (outside_any _ 3 3 (obRows o S P A cs cp ca) _ (by have := hR.out; simpa [obRows, RowS.v] using this) (by intro r hr; simp [obRows] at hr; rcases hr with rfl | rfl | rfl; exact h'.out.s; exact h'.out.p; exact h'.out.a)).mono ?_
  rintro e w1 ⟨rfl, rfl⟩
  rw [obRows_soft, HS.out, Bool.not_true]
  go_wp2_with fail
  refine (branches_any _).mono ?_
  rintro e w2 ⟨bb, rfl, hB, hs, hB2⟩
  have h62 := HB3.out.below hB2
  have HW := Lib.hid (SwAt.mk (H89.out.below hB2) hB)
  have HB2 := Lib.hid hB2
  have HBB := Lib.hid hs
  clear hB hs hB2
  go_wp2_with (refine strow (cs := [.pointer (some ⟨w.heap.size + 2, 0, none⟩), .slice (some ⟨bb, 0, none⟩) 16 16]) rfl 62 (.tmp 6) (.tmp 42) rfl rfl rfl h62 rfl (by rw [info62]; rfl) (by simp [Value.oneCell']) ?_; intro W2 h1 h2; have H1 := Lib.hid h1; have H2 := Lib.hid h2; clear h1 h2 h62)
  rw [Exit.noGoto_ret]
  have hfin : Below w.heap.size w W2 := (HQ.out.trans (HB2.out.mono (by simp; omega))).grown H2.out (by have := HB2.out.size; simp at this; omega) (fun k hk => by cases hk; exact Nat.le_refl _)
  have hz := HBB.out
  simp at hz
  exact bodyPost_ret (results28 H1.out rfl rfl rfl) rfl ⟨w.heap.size + 2, bb, rfl, ⟨⟨Blk.grown HW.out.o.blk H2.out (by omega), Rdv.below H0.out.s hfin, Rdv.below H0.out.p hfin, Rdv.below H0.out.a hfin⟩, Blk.grown HW.out.b H2.out (by omega)⟩, hfin⟩
end Go.Proofs.Ytmdjclfmhndjnaa
