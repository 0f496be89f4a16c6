/-
  Bundle of the texts TuZg. Conditions: none.
-/
import Derived.Test.YtpdalbckmfadbaaGreatBucan
import Derived.OrdersHeld
namespace Go.Proofs.YtpdalbckmfadbaaGreat.Tu
open Go.RowKit Go.Shelf
set_option linter.unusedVariables false
attribute [local go_sem] Oper.semAt_some
/-- what a round's statement finds and leaves -/
theorem wp_appj {P : Program} {w : World} {A : Option Addr} {n c m gx base : Nat} {xs us : List Int} {o : Oper} {a : Act} {K : Act → World → Prop} {Q : Exit → Act → World → Prop} (s x : Operand) (t : TypeId)
    (ho : o.op = .call { callee := .builtin .append, args := #[s, x], argTypes := #[t, t] }) {z : Value} (hE : El P t 3 z 8) (hs : a.eval s = .slice A n c) (hx : a.eval x = .slice (some ⟨gx, 0, none⟩) m m)
    (hB : base ≤ w.heap.size) (hO : Own .i64 3 w base A n c xs) (hX : w.heap[gx]? = some (.cells (us.map (Value.int .i64)).toArray 3 (0, 0))) (hm : 0 < m) (hl : us.length = m) (hn : n + m ≤ 100000)
    (h : ∀ g c' w', Own .i64 3 w' base (some ⟨g, 0, none⟩) (n + m) c' (xs ++ us) → w.grownBy w' ((Value.slice A n c).ownBlock) → (A ≠ none ∧ g = blk A ∨ g = w.heap.size) → K (a.put o.dst (.slice (some ⟨g, 0, none⟩) (n + m) c')) w') : o.wp P a w K Q := by
  obtain ⟨i, hi, hz0, hz1, hz2⟩ := info_parts hE.i
  refine wp_append_lies w s x t ho base 3 i z 1 8 hE.u hi hz0 hz1 hz2 (by rw [hE.z1]; rfl) (by decide) _ n _ hs hO.ow ⟨gx, 0, none⟩ m m (us.map (Value.int .i64)) hx (by simp [hl]) ?_ (oneCell_ints .i64 us) hm (by unfold maxLen; omega) (by omega) hB _ rfl ?_
  · have := World.news_of_block hX
    simpa using this
  · intro g cap w' h2 h3 h4 h5
    refine h g cap w' (Own.of_eq ⟨h2⟩ rfl (by rw [List.map_append])) h3 ?_
    rcases h4 with h4 | h4
    · left
      cases A with
      | none => simp [Value.ownBlock] at h4
      | some ad => simp [Value.ownBlock] at h4; exact ⟨by simp, by rw [← h4]; rfl⟩
    · exact .inr h4
structure FS (w Wb : World) (b0 g0 b4 b5 : Nat) (vA vB : Value) (A : Option Addr) (n c : Nat) (xs : List Int) (B : Option Addr) (m d : Nat) (ys : List Int) (W : World) : Prop where
  x4 : Boxed W b4 34 vA
  x5 : Boxed W b5 34 vB
  a : Own .i64 3 W b0 A n c xs
  b : Own .i64 3 W b0 B m d ys
  ap : Apart A B
  bl : Below w.heap.size w W
  ko : KeepsOthers Wb W
  hb : w.heap.size ≤ b0
  hs : b0 ≤ W.heap.size
  hg : g0 < b0
  n4 : g0 ≠ b4
  n5 : g0 ≠ b5
  kg : KeepG g0 Wb W
section
variable {w Wb W W' : World} {b0 g0 b4 b5 : Nat} {vA vB : Value} {A B : Option Addr} {n c m d : Nat} {xs ys : List Int}
theorem FS.drew (h : FS w Wb b0 g0 b4 b5 vA vB A n c xs B m d ys W) : FS w Wb b0 g0 b4 b5 vA vB A n c xs B m d ys W.drew := ⟨h.x4, h.x5, Ownv.drew h.a, Ownv.drew h.b, h.ap, h.bl.drew, h.ko.trans (KeepsOthers.drew W), h.hb, h.hs, h.hg, h.n4, h.n5, h.kg⟩
theorem FS.alloc (h : FS w Wb b0 g0 b4 b5 vA vB A n c xs B m d ys W) (o : Obj) : FS w Wb b0 g0 b4 b5 vA vB A n c xs B m d ys (W.alloc o) := ⟨h.x4.alloc o, h.x5.alloc o, Ownv.alloc h.a o, Ownv.alloc h.b o, h.ap, h.bl.alloc h.bl.size o, h.ko.trans (KeepsOthers.alloc W o), h.hb, by have := h.hs; simp; omega, h.hg, h.n4, h.n5, h.kg.trans (KeepG.alloc (Nat.lt_of_lt_of_le h.hg h.hs) o)⟩
theorem own_row_cells {e : TypeId} {base : Nat} {vs : List Value} (h : Ownv e W base A n c vs) : ∀ (j : Nat) (o : Obj), (Value.slice A n c).ownBlock = some j → W.heap[j]? = some o → o.isCells = true := by
  intro j o hj ho
  rcases (Ownv.cases h).2 with ⟨rfl, _⟩ | ⟨g, cur, rfl, _, hh, _⟩
  · simp [Value.ownBlock] at hj
  · simp [Value.ownBlock] at hj
    subst hj
    rw [hh] at ho
    cases ho; rfl
theorem box_row {b : Nat} {v : Value} (hx : Boxed W b 34 v) (h : Own .i64 3 W b0 A n c xs) : some b ≠ (Value.slice A n c).ownBlock := by
  rcases (Ownv.cases h).2 with ⟨rfl, _⟩ | ⟨g, cur, rfl, _, hh, _⟩
  · simp [Value.ownBlock]
  · intro he
    have he : b = g := by simpa [Value.ownBlock] using he
    subst he
    have := (show W.heap[b]? = _ from hx).symm.trans hh
    simp at this
/-- the first list grows -/
theorem FS.appA {P : Program} {o : Oper} {a : Act} {K : Act → World → Prop} {Q : Exit → Act → World → Prop} {u : Int} {gx : Nat} {z : Value} (s x : Operand) (t : TypeId)
    (ho : o.op = .call { callee := .builtin .append, args := #[s, x], argTypes := #[t, t] }) (hE : El P t 3 z 8) (hs : a.eval s = .slice A n c) (hx : a.eval x = .slice (some ⟨gx, 0, none⟩) 1 1)
    (F : FS w Wb b0 g0 b4 b5 vA vB A n c xs B m d ys W) (hX : W.heap[gx]? = some (.cells #[.int .i64 u] 3 (0, 0))) (hn : n + 1 ≤ 100000) (hlt : A ≠ none → blk A < Wb.heap.size)
    (h : ∀ g c' W', FS w Wb b0 g0 b4 b5 vA vB (some ⟨g, 0, none⟩) (n + 1) c' (xs ++ [u]) B m d ys W' → (∀ (b : Nat) (x : Obj), W.heap[b]? = some x → Wb.heap.size ≤ b → W'.heap[b]? = some x) → K (a.put o.dst (.slice (some ⟨g, 0, none⟩) (n + 1) c')) W') : o.wp P a W K Q := by
  refine wp_appj (us := [u]) s x t ho hE hs hx F.hs F.a hX (by decide) rfl hn ?_
  intro g c' W' hO hg hl
  have hB := F.bl.grown hg F.bl.size (fun k hk => Nat.le_trans F.hb (Ownv.ob' F.a hk))
  have hKG := F.kg.trans (KeepG.grown hg (Nat.lt_of_lt_of_le F.hg F.hs) (fun e => by have := Ownv.ob' F.a e.symm; have := F.hg; omega))
  refine h g c' W' ⟨F.x4.kept hg (box_row F.x4 F.a), F.x5.kept hg (box_row F.x5 F.a), hO, own_beside F.b hg F.ap, apart_next F.b F.ap hl, hB, F.ko.trans (KeepsOthers.of_grownBy hg (fun j o hj => own_row_cells F.a j o hj)), F.hb, Nat.le_trans F.hs hg.size, F.hg, F.n4, F.n5, hKG⟩ (fun b x hb hlb => ?_)
  rw [hg.block b (Array.getElem?_eq_some_iff.1 hb).1 (by
    cases A with
    | none => simp [Value.ownBlock]
    | some ad =>
      have h9 : ad.block < Wb.heap.size := hlt (by simp)
      simp [Value.ownBlock]; omega)]
  exact hb
/-- the second list grows -/
theorem FS.appB {P : Program} {o : Oper} {a : Act} {K : Act → World → Prop} {Q : Exit → Act → World → Prop} {u : Int} {gx : Nat} {z : Value} (s x : Operand) (t : TypeId)
    (ho : o.op = .call { callee := .builtin .append, args := #[s, x], argTypes := #[t, t] }) (hE : El P t 3 z 8) (hs : a.eval s = .slice B m d) (hx : a.eval x = .slice (some ⟨gx, 0, none⟩) 1 1)
    (F : FS w Wb b0 g0 b4 b5 vA vB A n c xs B m d ys W) (hX : W.heap[gx]? = some (.cells #[.int .i64 u] 3 (0, 0))) (hn : m + 1 ≤ 100000)
    (h : ∀ g c' W', FS w Wb b0 g0 b4 b5 vA vB A n c xs (some ⟨g, 0, none⟩) (m + 1) c' (ys ++ [u]) W' → K (a.put o.dst (.slice (some ⟨g, 0, none⟩) (m + 1) c')) W') : o.wp P a W K Q := by
  refine wp_appj (us := [u]) s x t ho hE hs hx F.hs F.b hX (by decide) rfl hn ?_
  intro g c' W' hO hg hl
  have hB := F.bl.grown hg F.bl.size (fun k hk => Nat.le_trans F.hb (Ownv.ob' F.b hk))
  have hKG := F.kg.trans (KeepG.grown hg (Nat.lt_of_lt_of_le F.hg F.hs) (fun e => by have := Ownv.ob' F.b e.symm; have := F.hg; omega))
  exact h g c' W' ⟨F.x4.kept hg (box_row F.x4 F.b), F.x5.kept hg (box_row F.x5 F.b), own_beside F.a hg F.ap.symm, hO, (apart_next F.a F.ap.symm hl).symm, hB, F.ko.trans (KeepsOthers.of_grownBy hg (fun j o hj => own_row_cells F.b j o hj)), F.hb, Nat.le_trans F.hs hg.size, F.hg, F.n4, F.n5, hKG⟩
theorem box_ne_row {b : Nat} {v u : Value} {k : IntKind} (hx : Boxed W b 34 v) (h : Own .i64 3 W b0 A n c xs) (hA : A ≠ none) : some (blk A) ≠ some b := by
  intro he
  have := box_row hx h
  cases A with
  | none => exact hA rfl
  | some ad => exact this (by simp [Value.ownBlock]; exact (Option.some.inj he).symm)
/-- a store into the first box -/
theorem FS.set4 (F : FS w Wb b0 g0 b4 b5 vA vB A n c xs B m d ys W) (v : Value) (h4 : w.heap.size ≤ b4) (hne : b5 ≠ b4) : FS w Wb b0 g0 b4 b5 v vB A n c xs B m d ys (W.setCell ⟨b4, 0, none⟩ v) :=
  ⟨F.x4.set v, F.x5.other hne v, Ownv.grown F.a (grownBy_setCell' W b4 v) (fun hA => box_ne_row (k := .i64) (u := v) F.x4 F.a hA), Ownv.grown F.b (grownBy_setCell' W b4 v) (fun hA => box_ne_row (k := .i64) (u := v) F.x4 F.b hA), F.ap, F.bl.setCell h4 v, F.ko.trans (KeepsOthers.setCell W _ v), F.hb, Nat.le_trans F.hs (grownBy_setCell' W b4 v).size, F.hg, F.n4, F.n5, F.kg.trans (KeepG.grown (grownBy_setCell' W b4 v) (Nat.lt_of_lt_of_le F.hg F.hs) (fun e => F.n4 (Option.some.inj e)))⟩
theorem FS.set5 (F : FS w Wb b0 g0 b4 b5 vA vB A n c xs B m d ys W) (v : Value) (h5 : w.heap.size ≤ b5) (hne : b4 ≠ b5) : FS w Wb b0 g0 b4 b5 vA v A n c xs B m d ys (W.setCell ⟨b5, 0, none⟩ v) :=
  ⟨F.x4.other hne v, F.x5.set v, Ownv.grown F.a (grownBy_setCell' W b5 v) (fun hA => box_ne_row (k := .i64) (u := v) F.x5 F.a hA), Ownv.grown F.b (grownBy_setCell' W b5 v) (fun hA => box_ne_row (k := .i64) (u := v) F.x5 F.b hA), F.ap, F.bl.setCell h5 v, F.ko.trans (KeepsOthers.setCell W _ v), F.hb, Nat.le_trans F.hs (grownBy_setCell' W b5 v).size, F.hg, F.n4, F.n5, F.kg.trans (KeepG.grown (grownBy_setCell' W b5 v) (Nat.lt_of_lt_of_le F.hg F.hs) (fun e => F.n5 (Option.some.inj e)))⟩
end
theorem load_box {W : World} {b : Nat} {v : Value} (h : Boxed W b 34 v) : (loadVar 34 ⟨b, 0, none⟩).run Tryz.prog W = .ok v W := by
  have hc := h.cell
  simp [loadVar, hc, go_sem]
theorem wp_at {P : Program} {o : Oper} {a : Act} {W : World} {K : Act → World → Prop} {Q : Exit → Act → World → Prop} (S : World → Prop) (hS : S W) (h : S W → o.wp P a W K Q) : o.wp P a W K Q := h hS
/-- the two lists so far, each in its box -/
def LayI (w : World) (b0 b4 b5 : Nat) (pre : List (Int × Int)) (W : World) : Prop :=
  ∃ (A B : Option Addr) (c d : Nat), Boxed W b4 34 (.slice A pre.length c) ∧ Boxed W b5 34 (.slice B pre.length d) ∧ Own .i64 3 W b0 A pre.length c (pre.map Prod.fst) ∧ Own .i64 3 W b0 B pre.length d (pre.map Prod.snd) ∧ Apart A B ∧ Below w.heap.size w W ∧ b0 ≤ W.heap.size
theorem layI_fin {w Wb W : World} {b0 g0 b4 b5 : Nat} {A B : Option Addr} {c d : Nat} {pre : List (Int × Int)} {x1 x2 : Int} (F : FS w Wb b0 g0 b4 b5 (.slice A (pre.length + 1) c) (.slice B (pre.length + 1) d) A (pre.length + 1) c (pre.map Prod.fst ++ [x1]) B (pre.length + 1) d (pre.map Prod.snd ++ [x2]) W) :
    KeepsOthers Wb W ∧ KeepG g0 Wb W ∧ LayI w b0 b4 b5 (pre ++ [(x1, x2)]) W := by
  have hl : (pre ++ [(x1, x2)]).length = pre.length + 1 := by simp
  refine ⟨F.ko, F.kg, A, B, c, d, by rw [hl]; exact F.x4, by rw [hl]; exact F.x5, by rw [hl, List.map_append]; exact F.a, by rw [hl, List.map_append]; exact F.b, F.ap, F.bl, F.hs⟩
theorem layI_own (w : World) (b0 b4 b5 B0 : Nat) (hb : w.heap.size ≤ B0) : OwnFrom B0 (LayI w b0 b4 b5) := by
  rintro s X Y row ⟨A, B, c, d, h4, h5, hA, hB, hap, hbl, hsz⟩ hg hr
  have hrow : ∀ (e : TypeId) (C : Option Addr) (n c : Nat) (vs : List Value), Ownv e X b0 C n c vs → C ≠ none → some (blk C) ≠ row := by
    rintro e C n c vs hC hn rfl
    obtain ⟨_, o, ho, hc⟩ := hr _ rfl
    rcases (Ownv.cases hC).2 with ⟨rfl, _⟩ | ⟨g, cur, rfl, _, hh, _⟩
    · exact hn rfl
    · have ho' : X.heap[g]? = some o := ho
      rw [hh] at ho'
      cases ho'; cases hc
  have hbx : ∀ (b : Nat) (v : Value), Boxed X b 34 v → some b ≠ row := by
    rintro b v hx rfl
    obtain ⟨_, o, ho, hc⟩ := hr _ rfl
    rw [show X.heap[b]? = _ from hx] at ho
    cases ho; cases hc
  exact ⟨A, B, c, d, h4.kept hg (hbx _ _ h4), h5.kept hg (hbx _ _ h5), Ownv.grown hA hg (hrow _ _ _ _ _ hA), Ownv.grown hB hg (hrow _ _ _ _ _ hB), hap, hbl.grown hg hbl.size (fun k hk => Nat.le_trans hb (hr k hk).1), Nat.le_trans hsz hg.size⟩
theorem stepsC_any (k code : Nat) (hc : code = 1 ∨ code = 2) (w : World) (hv : validK (k : Int) = true) : Calls Tryz.prog 131 #[.int .i64 k, .int .i64 (code : Int)] w fun e w' => ∃ v, e = .returned v ∧ StepsOk w' k code v ∧ Below w.heap.size w w' := by
  rcases hc with rfl | rfl
  · exact steps1_any k w hv
  · exact steps2_any k w hv
set_option maxRecDepth 100000 in
set_option maxHeartbeats 8000000 in
theorem lay_any (k code : Nat) (w : World) (hv : validK (k : Int) = true) (hc : code = 1 ∨ code = 2) : Calls Tryz.prog 90 #[.int .i64 k, .int .i64 (code : Int)] w fun e w' => ∃ A c B d, e = .returned (.tuple #[.slice A (k + 3) c, .slice B (k + 3) d, .int .i64 0]) ∧ Own .i64 3 w' w.heap.size A (k + 3) c (sysL k code) ∧ Own .i64 3 w' w.heap.size B (k + 3) d (parI k code) ∧ Below w.heap.size w w' := by
  obtain ⟨n0, n1⟩ := valid_len hv
  have hvv := fun W => Lib.hid (valid_any (k : Int) W)
  rw [hv] at hvv
  have hst := fun W => Lib.hid (stepsC_any k code hc W hv)
  have h1' : decide ((code : Int) < 1) = false := by simp; omega
  have h2' : decide (2 < (code : Int)) = false := by simp; omega
  clear hv hc
  refine (callsIn_wide (n := 3)).1 ?_
  refine callsIn_of_wp_marks Tryz.func90 rfl trivial ?_
  simp only [Tryz.ntmps90, List.size_toArray, List.length_cons, List.length_nil, Nat.reduceAdd, Nat.reduceSub, Array.replicate_succ, Array.replicate_zero, List.push_toArray, List.append_toArray, List.nil_append, List.cons_append]
  gi_wp2_with fail
  refine ⟨trivial, ?_⟩
  refine CallsIn.mono (callsIn_wide.2 (hvv _).out) ?_
  rintro e w1 ⟨rfl, hB1⟩
  gi_wp2_with fail
  refine ⟨trivial, ?_⟩
  refine CallsIn.mono (callsIn_wide.2 (hst _).out) ?_
  rintro e w2 ⟨v, rfl, ⟨b8, g, c8, rfl, hc8, hr8⟩, hB2⟩
  gi_wp2_with fail
  have hx4 : Boxed w1 w.heap.size 34 (.slice none 0 0) := (hB1.block _ (by simp <;> omega)).trans ((Boxed.new w 34 (.slice none 0 0)).alloc _)
  have hx5 : Boxed w1 (w.heap.size + 1) 34 (.slice none 0 0) := (hB1.block _ (by simp <;> omega)).trans (by have := Boxed.new (w.alloc (.cells #[.slice none 0 0] 34)) 34 (.slice none 0 0); rw [World.size_alloc] at this; exact this)
  have hy4 : Boxed w2 w.heap.size 34 (.slice none 0 0) := (hB2.block _ (Boxed.lt hx4)).trans hx4
  have hy5 : Boxed w2 (w.heap.size + 1) 34 (.slice none 0 0) := (hB2.block _ (Boxed.lt hx5)).trans hx5
  have hBw : Below w.heap.size w w2 := ((((Below.refl _ w).alloc (Nat.le_refl _) _).alloc (by simp) _).trans (hB1.mono (by simp; omega))).trans (hB2.mono (by have := hB1.size; simp at this; omega))
  have hI0 : LayI w w2.heap.size w.heap.size (w.heap.size + 1) [] w2 := ⟨none, none, 0, 0, hy4, hy5, Own.nilv _ _ _ _, Own.nilv _ _ _ _, fun h => absurd rfl h, hBw, Nat.le_refl _⟩
  have hglt : g < w2.heap.size := hr8.lt (by omega) _ rfl
  have hg1 : (w2.cell? ⟨g, 1, none⟩).isSome = true := by
    have h9 := hr8.at_ 1 _ (List.getElem?_eq_getElem (by rw [hr8.len]; omega))
    rw [adr_some, Nat.zero_add] at h9
    rw [h9]; rfl
  have hgb : ∀ (b : Nat) (v : Value), Boxed w2 b 34 v → g ≠ b := by
    rintro b v hb rfl
    have h9 : w2.cell? ⟨g, 1, none⟩ = #[v][1]? := cell_of_row w2 g 1 _ _ _ hb
    rw [h9] at hg1
    cases hg1
  have hg4 := hgb _ _ hy4
  have hg5 := hgb _ _ hy5
  have hlt8 : b8 < w2.heap.size := World.block_lt_of_cell? w2 _ hc8
  clear hx4 hx5 hy4 hy5 hB1 hB2 hvv hst
  refine wpIn_rangeFunc_ownF rfl (by omega) (gf := 160) (lb := #[.pointer (some ⟨b8, 0, none⟩)]) rfl trivial (enters_of Tryz.func160 (by kernel_rfl) rfl)
    (steps4_stops Fence.wide 2 trivial rfl (by omega) b8 w2.heap.size g (k + 3) c8 (stepsP k code) w2 w2 (by rw [stepsP_flat]; exact hr8) (stepsP_len k code) (by omega) rfl (Below.refl _ _) hlt8 hc8) (fun h k => KeepG.trans h k) (keepG_b hglt) (Below.refl _ _) (fun _ => rfl)
    (fun pre W => LayI w w2.heap.size w.heap.size (w.heap.size + 1) pre W)
    (fun _ _ _ => False)
    (layI_own w w2.heap.size w.heap.size (w.heap.size + 1) w2.heap.size hBw.size)
    (fun _ _ _ _ _ hs _ _ => hs)
    hI0
    (fun x => { tmps := #[.int .i64 k, .int .i64 (code : Int), undef, undef, .pointer (some ⟨w.heap.size, 0, none⟩), .pointer (some ⟨w.heap.size + 1, 0, none⟩), .int .i64 0, .int .i64 x.1, .int .i64 x.2, .int .i64 k, .bool true, .bool false, .bool false, .int .i64 (code : Int), .bool false,
      .bool false, .bool false, .int .i64 (code : Int), .bool false, .bool false, .int .i64 k, .int .i64 (code : Int), .func (.func 160) #[] #[.pointer (some ⟨b8, 0, none⟩)], .int .i64 x.1, .int .i64 x.2, undef, undef, undef, undef, undef, undef, undef, undef, undef, undef], defers := [] }) ?assign ?body ?done ?stop
  case assign =>
    intro l x W K hK
    gi_wp2
    exact hK
  case body =>
    rintro l pre ⟨x1, x2⟩ W ⟨A, B, c, d, h4, h5, hA, hB, hap, hbl, hsz⟩ hpl
    have hAlt : A ≠ none → blk A < W.heap.size := fun h => own_lt hA h
    have hn1 : pre.length + 1 ≤ 100000 := by omega
    have hF0 : FS w W w2.heap.size g w.heap.size (w.heap.size + 1) (.slice A pre.length c) (.slice B pre.length d) A pre.length c (pre.map Prod.fst) B pre.length d (pre.map Prod.snd) W.drew := FS.drew ⟨h4, h5, hA, hB, hap, hbl, KeepsOthers.refl W, hBw.size, hsz, hglt, hg4, hg5, KeepG.refl _ _⟩
    gi_wp2
    refine regIn_any (by kernel_rfl) (by kernel_rfl) (fun ⟨_, _, h⟩ => h) ?_
    change wpAny _ _ _ _ _ _ _ (World.drew _)
    refine wpAny_take (i := 1) (v := .int .i64 x1) rfl (by kernel_rfl) (by kernel_rfl) (by kernel_rfl) (fun _ _ _ h => h) (Or.inl ⟨by rfl, fun w => by go_simp⟩) ?_
    refine wpAny_take (i := 5) (v := .int .i64 x2) rfl (by kernel_rfl) (by kernel_rfl) (by kernel_rfl) (fun _ _ _ h => h) (Or.inl ⟨by rfl, fun w => by go_simp⟩) ?_
    refine wpAny_ready (rs := [0, 2, 4, 6]) (by kernel_rfl) (by simp) ?_
    refine AllReady.cons rfl (fun K hK => ?_) ?_
    · refine step_of rfl ?_
      refine wp_at (fun W => W.cell? ⟨w.heap.size, 0, none⟩ = _) hF0.x4.cell (fun hc => ?_)
      go_simp
      refine hK _ _ ?_
      clear hK K hc
      refine wpAny_ready (rs := [2, 4, 6]) (by kernel_rfl) (by simp) ?_
      refine AllReady.cons rfl (fun K hK => ?_) ?_
      · refine step_of rfl ?_
        go_simp
        refine hK _ _ ?_
        clear hK K
        refine wpAny_ready (rs := [3, 4, 6]) (by kernel_rfl) (by simp) ?_
        refine AllReady.cons rfl (fun K hK => ?_) ?_
        · refine step_of rfl ?_
          refine FS.appA (u := x1) (.tmp 25) (.tmp 27) 34 rfl el33 rfl rfl (hF0.alloc _) ?_ hn1 hAlt ?_
          · repeat (first | ((with_reducible refine heap_new' ?_); focus (simp; done)) | (with_reducible refine heap_drew' ?_) | (with_reducible refine heap_old' ?_) | (with_reducible refine hk _ _ ?_ ?_))
          intro gA cA WA hFA hk
          go_simp
          refine hK _ _ ?_
          clear hK K
          refine wpAny_ready (rs := [4, 6]) (by kernel_rfl) (by simp) ?_
          refine AllReady.cons rfl (fun K hK => ?_) ?_
          · refine step_of rfl ?_
            refine wp_at (fun W => W.cell? ⟨w.heap.size + 1, 0, none⟩ = _) hFA.x5.cell (fun hc => ?_)
            go_simp
            refine hK _ _ ?_
            clear hK K hc
            refine wpAny_ready (rs := [6]) (by kernel_rfl) (by simp) ?_
            refine AllReady.cons rfl (fun K hK => ?_) ?_
            · refine step_of rfl ?_
              go_simp
              refine hK _ _ ?_
              clear hK K
              refine wpAny_ready (rs := [7]) (by kernel_rfl) (by simp) ?_
              refine AllReady.cons rfl (fun K hK => ?_) ?_
              · refine step_of rfl ?_
                refine FS.appB (u := x2) (.tmp 29) (.tmp 31) 34 rfl el33 rfl rfl (hFA.alloc _) ?_ hn1 ?_
                · repeat (first | ((with_reducible refine heap_new' ?_); focus (simp; done)) | (with_reducible refine heap_drew' ?_) | (with_reducible refine heap_old' ?_) | (with_reducible refine hk _ _ ?_ ?_))
                  all_goals first | (simp; done) | exact Nat.le_succ _ | exact Nat.le_refl _ | exact Nat.le_succ_of_le (Nat.le_succ _)
                intro gB cB WB hFB
                go_simp
                refine hK _ _ ?_
                clear hK K
                refine wpAny_ready (rs := [8]) (by kernel_rfl) (by simp) ?_
                refine AllReady.cons rfl (fun K hK => ?_) ?_
                · refine step_of rfl ?_
                  refine wp_at (fun W => W.cell? ⟨w.heap.size, 0, none⟩ = _ ∧ W.frozen? ⟨w.heap.size, 0, none⟩ = false) ⟨hFB.x4.cell, hFB.x4.frozen⟩ (fun hc => ?_)
                  obtain ⟨hc, hf⟩ := hc
                  go_simp
                  refine hK _ _ ?_
                  clear hK K hc hf
                  refine wpAny_ready (rs := [9]) (by kernel_rfl) (by simp) ?_
                  refine AllReady.cons rfl (fun K hK => ?_) ?_
                  · refine step_of rfl ?_
                    refine wp_at (fun W => W.cell? ⟨w.heap.size + 1, 0, none⟩ = _ ∧ W.frozen? ⟨w.heap.size + 1, 0, none⟩ = false) ⟨(hFB.set4 _ (Nat.le_refl _) (Nat.succ_ne_self _)).x5.cell, (hFB.set4 _ (Nat.le_refl _) (Nat.succ_ne_self _)).x5.frozen⟩ (fun hc => ?_)
                    obtain ⟨hc, hf⟩ := hc
                    go_simp
                    refine hK _ _ ?_
                    clear hK K hc hf
                    refine wpAny_done (by kernel_rfl) ?_ _
                    exact layI_fin ((hFB.set4 _ (Nat.le_refl _) (Nat.succ_ne_self _)).set5 _ (Nat.le_succ _) (Nat.succ_ne_self _).symm)
                  exact AllReady.nil
                exact AllReady.nil
              exact AllReady.nil
            exact AllReady.nil
          refine AllReady.cons rfl (fun K hK => ?_) ?_
          · refine step_of rfl ?_
            go_simp
            refine hK _ _ ?_
            clear hK K
            refine wpAny_ready (rs := [4]) (by kernel_rfl) (by simp) ?_
            refine AllReady.cons rfl (fun K hK => ?_) ?_
            · refine step_of rfl ?_
              refine wp_at (fun W => W.cell? ⟨w.heap.size + 1, 0, none⟩ = _) (hFA.alloc _).x5.cell (fun hc => ?_)
              go_simp
              refine hK _ _ ?_
              clear hK K hc
              refine wpAny_ready (rs := [7]) (by kernel_rfl) (by simp) ?_
              refine AllReady.cons rfl (fun K hK => ?_) ?_
              · refine step_of rfl ?_
                refine FS.appB (u := x2) (.tmp 29) (.tmp 31) 34 rfl el33 rfl rfl (hFA.alloc _) ?_ hn1 ?_
                · repeat (first | ((with_reducible refine heap_new' ?_); focus (simp; done)) | (with_reducible refine heap_drew' ?_) | (with_reducible refine heap_old' ?_) | (with_reducible refine hk _ _ ?_ ?_))
                  all_goals first | (simp; done) | exact Nat.le_succ _ | exact Nat.le_refl _ | exact Nat.le_succ_of_le (Nat.le_succ _)
                intro gB cB WB hFB
                go_simp
                refine hK _ _ ?_
                clear hK K
                refine wpAny_ready (rs := [8]) (by kernel_rfl) (by simp) ?_
                refine AllReady.cons rfl (fun K hK => ?_) ?_
                · refine step_of rfl ?_
                  refine wp_at (fun W => W.cell? ⟨w.heap.size, 0, none⟩ = _ ∧ W.frozen? ⟨w.heap.size, 0, none⟩ = false) ⟨hFB.x4.cell, hFB.x4.frozen⟩ (fun hc => ?_)
                  obtain ⟨hc, hf⟩ := hc
                  go_simp
                  refine hK _ _ ?_
                  clear hK K hc hf
                  refine wpAny_ready (rs := [9]) (by kernel_rfl) (by simp) ?_
                  refine AllReady.cons rfl (fun K hK => ?_) ?_
                  · refine step_of rfl ?_
                    refine wp_at (fun W => W.cell? ⟨w.heap.size + 1, 0, none⟩ = _ ∧ W.frozen? ⟨w.heap.size + 1, 0, none⟩ = false) ⟨(hFB.set4 _ (Nat.le_refl _) (Nat.succ_ne_self _)).x5.cell, (hFB.set4 _ (Nat.le_refl _) (Nat.succ_ne_self _)).x5.frozen⟩ (fun hc => ?_)
                    obtain ⟨hc, hf⟩ := hc
                    go_simp
                    refine hK _ _ ?_
                    clear hK K hc hf
                    refine wpAny_done (by kernel_rfl) ?_ _
                    exact layI_fin ((hFB.set4 _ (Nat.le_refl _) (Nat.succ_ne_self _)).set5 _ (Nat.le_succ _) (Nat.succ_ne_self _).symm)
                  exact AllReady.nil
                exact AllReady.nil
              exact AllReady.nil
            exact AllReady.nil
          exact AllReady.nil
        refine AllReady.cons rfl (fun K hK => ?_) ?_
        · refine step_of rfl ?_
          refine wp_at (fun W => W.cell? ⟨w.heap.size + 1, 0, none⟩ = _) (hF0.alloc _).x5.cell (fun hc => ?_)
          go_simp
          refine hK _ _ ?_
          clear hK K hc
          refine wpAny_ready (rs := [3, 6]) (by kernel_rfl) (by simp) ?_
          refine AllReady.cons rfl (fun K hK => ?_) ?_
          · refine step_of rfl ?_
            refine FS.appA (u := x1) (.tmp 25) (.tmp 27) 34 rfl el33 rfl rfl (hF0.alloc _) ?_ hn1 hAlt ?_
            · repeat (first | ((with_reducible refine heap_new' ?_); focus (simp; done)) | (with_reducible refine heap_drew' ?_) | (with_reducible refine heap_old' ?_) | (with_reducible refine hk _ _ ?_ ?_))
            intro gA cA WA hFA hk
            go_simp
            refine hK _ _ ?_
            clear hK K
            refine wpAny_ready (rs := [6]) (by kernel_rfl) (by simp) ?_
            refine AllReady.cons rfl (fun K hK => ?_) ?_
            · refine step_of rfl ?_
              go_simp
              refine hK _ _ ?_
              clear hK K
              refine wpAny_ready (rs := [7]) (by kernel_rfl) (by simp) ?_
              refine AllReady.cons rfl (fun K hK => ?_) ?_
              · refine step_of rfl ?_
                refine FS.appB (u := x2) (.tmp 29) (.tmp 31) 34 rfl el33 rfl rfl (hFA.alloc _) ?_ hn1 ?_
                · repeat (first | ((with_reducible refine heap_new' ?_); focus (simp; done)) | (with_reducible refine heap_drew' ?_) | (with_reducible refine heap_old' ?_) | (with_reducible refine hk _ _ ?_ ?_))
                  all_goals first | (simp; done) | exact Nat.le_succ _ | exact Nat.le_refl _ | exact Nat.le_succ_of_le (Nat.le_succ _)
                intro gB cB WB hFB
                go_simp
                refine hK _ _ ?_
                clear hK K
                refine wpAny_ready (rs := [8]) (by kernel_rfl) (by simp) ?_
                refine AllReady.cons rfl (fun K hK => ?_) ?_
                · refine step_of rfl ?_
                  refine wp_at (fun W => W.cell? ⟨w.heap.size, 0, none⟩ = _ ∧ W.frozen? ⟨w.heap.size, 0, none⟩ = false) ⟨hFB.x4.cell, hFB.x4.frozen⟩ (fun hc => ?_)
                  obtain ⟨hc, hf⟩ := hc
                  go_simp
                  refine hK _ _ ?_
                  clear hK K hc hf
                  refine wpAny_ready (rs := [9]) (by kernel_rfl) (by simp) ?_
                  refine AllReady.cons rfl (fun K hK => ?_) ?_
                  · refine step_of rfl ?_
                    refine wp_at (fun W => W.cell? ⟨w.heap.size + 1, 0, none⟩ = _ ∧ W.frozen? ⟨w.heap.size + 1, 0, none⟩ = false) ⟨(hFB.set4 _ (Nat.le_refl _) (Nat.succ_ne_self _)).x5.cell, (hFB.set4 _ (Nat.le_refl _) (Nat.succ_ne_self _)).x5.frozen⟩ (fun hc => ?_)
                    obtain ⟨hc, hf⟩ := hc
                    go_simp
                    refine hK _ _ ?_
                    clear hK K hc hf
                    refine wpAny_done (by kernel_rfl) ?_ _
                    exact layI_fin ((hFB.set4 _ (Nat.le_refl _) (Nat.succ_ne_self _)).set5 _ (Nat.le_succ _) (Nat.succ_ne_self _).symm)
                  exact AllReady.nil
                exact AllReady.nil
              exact AllReady.nil
            exact AllReady.nil
          refine AllReady.cons rfl (fun K hK => ?_) ?_
          · refine step_of rfl ?_
            go_simp
            refine hK _ _ ?_
            clear hK K
            refine wpAny_ready (rs := [3]) (by kernel_rfl) (by simp) ?_
            refine AllReady.cons rfl (fun K hK => ?_) ?_
            · refine step_of rfl ?_
              refine FS.appA (u := x1) (.tmp 25) (.tmp 27) 34 rfl el33 rfl rfl ((hF0.alloc _).alloc _) ?_ hn1 hAlt ?_
              · repeat (first | ((with_reducible refine heap_new' ?_); focus (simp; done)) | (with_reducible refine heap_drew' ?_) | (with_reducible refine heap_old' ?_) | (with_reducible refine hk _ _ ?_ ?_))
              intro gA cA WA hFA hk
              go_simp
              refine hK _ _ ?_
              clear hK K
              refine wpAny_ready (rs := [7]) (by kernel_rfl) (by simp) ?_
              refine AllReady.cons rfl (fun K hK => ?_) ?_
              · refine step_of rfl ?_
                refine FS.appB (u := x2) (.tmp 29) (.tmp 31) 34 rfl el33 rfl rfl hFA ?_ hn1 ?_
                · repeat (first | ((with_reducible refine heap_new' ?_); focus (simp; done)) | (with_reducible refine heap_drew' ?_) | (with_reducible refine heap_old' ?_) | (with_reducible refine hk _ _ ?_ ?_))
                  all_goals first | (simp; done) | exact Nat.le_succ _ | exact Nat.le_refl _ | exact Nat.le_succ_of_le (Nat.le_succ _)
                intro gB cB WB hFB
                go_simp
                refine hK _ _ ?_
                clear hK K
                refine wpAny_ready (rs := [8]) (by kernel_rfl) (by simp) ?_
                refine AllReady.cons rfl (fun K hK => ?_) ?_
                · refine step_of rfl ?_
                  refine wp_at (fun W => W.cell? ⟨w.heap.size, 0, none⟩ = _ ∧ W.frozen? ⟨w.heap.size, 0, none⟩ = false) ⟨hFB.x4.cell, hFB.x4.frozen⟩ (fun hc => ?_)
                  obtain ⟨hc, hf⟩ := hc
                  go_simp
                  refine hK _ _ ?_
                  clear hK K hc hf
                  refine wpAny_ready (rs := [9]) (by kernel_rfl) (by simp) ?_
                  refine AllReady.cons rfl (fun K hK => ?_) ?_
                  · refine step_of rfl ?_
                    refine wp_at (fun W => W.cell? ⟨w.heap.size + 1, 0, none⟩ = _ ∧ W.frozen? ⟨w.heap.size + 1, 0, none⟩ = false) ⟨(hFB.set4 _ (Nat.le_refl _) (Nat.succ_ne_self _)).x5.cell, (hFB.set4 _ (Nat.le_refl _) (Nat.succ_ne_self _)).x5.frozen⟩ (fun hc => ?_)
                    obtain ⟨hc, hf⟩ := hc
                    go_simp
                    refine hK _ _ ?_
                    clear hK K hc hf
                    refine wpAny_done (by kernel_rfl) ?_ _
                    exact layI_fin ((hFB.set4 _ (Nat.le_refl _) (Nat.succ_ne_self _)).set5 _ (Nat.le_succ _) (Nat.succ_ne_self _).symm)
                  exact AllReady.nil
                exact AllReady.nil
              exact AllReady.nil
            exact AllReady.nil
          exact AllReady.nil
        refine AllReady.cons rfl (fun K hK => ?_) ?_
        · refine step_of rfl ?_
          go_simp
          refine hK _ _ ?_
          clear hK K
          refine wpAny_ready (rs := [3, 4]) (by kernel_rfl) (by simp) ?_
          refine AllReady.cons rfl (fun K hK => ?_) ?_
          · refine step_of rfl ?_
            refine FS.appA (u := x1) (.tmp 25) (.tmp 27) 34 rfl el33 rfl rfl ((hF0.alloc _).alloc _) ?_ hn1 hAlt ?_
            · repeat (first | ((with_reducible refine heap_new' ?_); focus (simp; done)) | (with_reducible refine heap_drew' ?_) | (with_reducible refine heap_old' ?_) | (with_reducible refine hk _ _ ?_ ?_))
            intro gA cA WA hFA hk
            go_simp
            refine hK _ _ ?_
            clear hK K
            refine wpAny_ready (rs := [4]) (by kernel_rfl) (by simp) ?_
            refine AllReady.cons rfl (fun K hK => ?_) ?_
            · refine step_of rfl ?_
              refine wp_at (fun W => W.cell? ⟨w.heap.size + 1, 0, none⟩ = _) hFA.x5.cell (fun hc => ?_)
              go_simp
              refine hK _ _ ?_
              clear hK K hc
              refine wpAny_ready (rs := [7]) (by kernel_rfl) (by simp) ?_
              refine AllReady.cons rfl (fun K hK => ?_) ?_
              · refine step_of rfl ?_
                refine FS.appB (u := x2) (.tmp 29) (.tmp 31) 34 rfl el33 rfl rfl hFA ?_ hn1 ?_
                · repeat (first | ((with_reducible refine heap_new' ?_); focus (simp; done)) | (with_reducible refine heap_drew' ?_) | (with_reducible refine heap_old' ?_) | (with_reducible refine hk _ _ ?_ ?_))
                  all_goals first | (simp; done) | exact Nat.le_succ _ | exact Nat.le_refl _ | exact Nat.le_succ_of_le (Nat.le_succ _)
                intro gB cB WB hFB
                go_simp
                refine hK _ _ ?_
                clear hK K
                refine wpAny_ready (rs := [8]) (by kernel_rfl) (by simp) ?_
                refine AllReady.cons rfl (fun K hK => ?_) ?_
                · refine step_of rfl ?_
                  refine wp_at (fun W => W.cell? ⟨w.heap.size, 0, none⟩ = _ ∧ W.frozen? ⟨w.heap.size, 0, none⟩ = false) ⟨hFB.x4.cell, hFB.x4.frozen⟩ (fun hc => ?_)
                  obtain ⟨hc, hf⟩ := hc
                  go_simp
                  refine hK _ _ ?_
                  clear hK K hc hf
                  refine wpAny_ready (rs := [9]) (by kernel_rfl) (by simp) ?_
                  refine AllReady.cons rfl (fun K hK => ?_) ?_
                  · refine step_of rfl ?_
                    refine wp_at (fun W => W.cell? ⟨w.heap.size + 1, 0, none⟩ = _ ∧ W.frozen? ⟨w.heap.size + 1, 0, none⟩ = false) ⟨(hFB.set4 _ (Nat.le_refl _) (Nat.succ_ne_self _)).x5.cell, (hFB.set4 _ (Nat.le_refl _) (Nat.succ_ne_self _)).x5.frozen⟩ (fun hc => ?_)
                    obtain ⟨hc, hf⟩ := hc
                    go_simp
                    refine hK _ _ ?_
                    clear hK K hc hf
                    refine wpAny_done (by kernel_rfl) ?_ _
                    exact layI_fin ((hFB.set4 _ (Nat.le_refl _) (Nat.succ_ne_self _)).set5 _ (Nat.le_succ _) (Nat.succ_ne_self _).symm)
                  exact AllReady.nil
                exact AllReady.nil
              exact AllReady.nil
            exact AllReady.nil
          refine AllReady.cons rfl (fun K hK => ?_) ?_
          · refine step_of rfl ?_
            refine wp_at (fun W => W.cell? ⟨w.heap.size + 1, 0, none⟩ = _) ((hF0.alloc _).alloc _).x5.cell (fun hc => ?_)
            go_simp
            refine hK _ _ ?_
            clear hK K hc
            refine wpAny_ready (rs := [3]) (by kernel_rfl) (by simp) ?_
            refine AllReady.cons rfl (fun K hK => ?_) ?_
            · refine step_of rfl ?_
              refine FS.appA (u := x1) (.tmp 25) (.tmp 27) 34 rfl el33 rfl rfl ((hF0.alloc _).alloc _) ?_ hn1 hAlt ?_
              · repeat (first | ((with_reducible refine heap_new' ?_); focus (simp; done)) | (with_reducible refine heap_drew' ?_) | (with_reducible refine heap_old' ?_) | (with_reducible refine hk _ _ ?_ ?_))
              intro gA cA WA hFA hk
              go_simp
              refine hK _ _ ?_
              clear hK K
              refine wpAny_ready (rs := [7]) (by kernel_rfl) (by simp) ?_
              refine AllReady.cons rfl (fun K hK => ?_) ?_
              · refine step_of rfl ?_
                refine FS.appB (u := x2) (.tmp 29) (.tmp 31) 34 rfl el33 rfl rfl hFA ?_ hn1 ?_
                · repeat (first | ((with_reducible refine heap_new' ?_); focus (simp; done)) | (with_reducible refine heap_drew' ?_) | (with_reducible refine heap_old' ?_) | (with_reducible refine hk _ _ ?_ ?_))
                  all_goals first | (simp; done) | exact Nat.le_succ _ | exact Nat.le_refl _ | exact Nat.le_succ_of_le (Nat.le_succ _)
                intro gB cB WB hFB
                go_simp
                refine hK _ _ ?_
                clear hK K
                refine wpAny_ready (rs := [8]) (by kernel_rfl) (by simp) ?_
                refine AllReady.cons rfl (fun K hK => ?_) ?_
                · refine step_of rfl ?_
                  refine wp_at (fun W => W.cell? ⟨w.heap.size, 0, none⟩ = _ ∧ W.frozen? ⟨w.heap.size, 0, none⟩ = false) ⟨hFB.x4.cell, hFB.x4.frozen⟩ (fun hc => ?_)
                  obtain ⟨hc, hf⟩ := hc
                  go_simp
                  refine hK _ _ ?_
                  clear hK K hc hf
                  refine wpAny_ready (rs := [9]) (by kernel_rfl) (by simp) ?_
                  refine AllReady.cons rfl (fun K hK => ?_) ?_
                  · refine step_of rfl ?_
                    refine wp_at (fun W => W.cell? ⟨w.heap.size + 1, 0, none⟩ = _ ∧ W.frozen? ⟨w.heap.size + 1, 0, none⟩ = false) ⟨(hFB.set4 _ (Nat.le_refl _) (Nat.succ_ne_self _)).x5.cell, (hFB.set4 _ (Nat.le_refl _) (Nat.succ_ne_self _)).x5.frozen⟩ (fun hc => ?_)
                    obtain ⟨hc, hf⟩ := hc
                    go_simp
                    refine hK _ _ ?_
                    clear hK K hc hf
                    refine wpAny_done (by kernel_rfl) ?_ _
                    exact layI_fin ((hFB.set4 _ (Nat.le_refl _) (Nat.succ_ne_self _)).set5 _ (Nat.le_succ _) (Nat.succ_ne_self _).symm)
                  exact AllReady.nil
                exact AllReady.nil
              exact AllReady.nil
            exact AllReady.nil
          exact AllReady.nil
        exact AllReady.nil
      refine AllReady.cons rfl (fun K hK => ?_) ?_
      · refine step_of rfl ?_
        refine wp_at (fun W => W.cell? ⟨w.heap.size + 1, 0, none⟩ = _) hF0.x5.cell (fun hc => ?_)
        go_simp
        refine hK _ _ ?_
        clear hK K hc
        refine wpAny_ready (rs := [2, 6]) (by kernel_rfl) (by simp) ?_
        refine AllReady.cons rfl (fun K hK => ?_) ?_
        · refine step_of rfl ?_
          go_simp
          refine hK _ _ ?_
          clear hK K
          refine wpAny_ready (rs := [3, 6]) (by kernel_rfl) (by simp) ?_
          refine AllReady.cons rfl (fun K hK => ?_) ?_
          · refine step_of rfl ?_
            refine FS.appA (u := x1) (.tmp 25) (.tmp 27) 34 rfl el33 rfl rfl (hF0.alloc _) ?_ hn1 hAlt ?_
            · repeat (first | ((with_reducible refine heap_new' ?_); focus (simp; done)) | (with_reducible refine heap_drew' ?_) | (with_reducible refine heap_old' ?_) | (with_reducible refine hk _ _ ?_ ?_))
            intro gA cA WA hFA hk
            go_simp
            refine hK _ _ ?_
            clear hK K
            refine wpAny_ready (rs := [6]) (by kernel_rfl) (by simp) ?_
            refine AllReady.cons rfl (fun K hK => ?_) ?_
            · refine step_of rfl ?_
              go_simp
              refine hK _ _ ?_
              clear hK K
              refine wpAny_ready (rs := [7]) (by kernel_rfl) (by simp) ?_
              refine AllReady.cons rfl (fun K hK => ?_) ?_
              · refine step_of rfl ?_
                refine FS.appB (u := x2) (.tmp 29) (.tmp 31) 34 rfl el33 rfl rfl (hFA.alloc _) ?_ hn1 ?_
                · repeat (first | ((with_reducible refine heap_new' ?_); focus (simp; done)) | (with_reducible refine heap_drew' ?_) | (with_reducible refine heap_old' ?_) | (with_reducible refine hk _ _ ?_ ?_))
                  all_goals first | (simp; done) | exact Nat.le_succ _ | exact Nat.le_refl _ | exact Nat.le_succ_of_le (Nat.le_succ _)
                intro gB cB WB hFB
                go_simp
                refine hK _ _ ?_
                clear hK K
                refine wpAny_ready (rs := [8]) (by kernel_rfl) (by simp) ?_
                refine AllReady.cons rfl (fun K hK => ?_) ?_
                · refine step_of rfl ?_
                  refine wp_at (fun W => W.cell? ⟨w.heap.size, 0, none⟩ = _ ∧ W.frozen? ⟨w.heap.size, 0, none⟩ = false) ⟨hFB.x4.cell, hFB.x4.frozen⟩ (fun hc => ?_)
                  obtain ⟨hc, hf⟩ := hc
                  go_simp
                  refine hK _ _ ?_
                  clear hK K hc hf
                  refine wpAny_ready (rs := [9]) (by kernel_rfl) (by simp) ?_
                  refine AllReady.cons rfl (fun K hK => ?_) ?_
                  · refine step_of rfl ?_
                    refine wp_at (fun W => W.cell? ⟨w.heap.size + 1, 0, none⟩ = _ ∧ W.frozen? ⟨w.heap.size + 1, 0, none⟩ = false) ⟨(hFB.set4 _ (Nat.le_refl _) (Nat.succ_ne_self _)).x5.cell, (hFB.set4 _ (Nat.le_refl _) (Nat.succ_ne_self _)).x5.frozen⟩ (fun hc => ?_)
                    obtain ⟨hc, hf⟩ := hc
                    go_simp
                    refine hK _ _ ?_
                    clear hK K hc hf
                    refine wpAny_done (by kernel_rfl) ?_ _
                    exact layI_fin ((hFB.set4 _ (Nat.le_refl _) (Nat.succ_ne_self _)).set5 _ (Nat.le_succ _) (Nat.succ_ne_self _).symm)
                  exact AllReady.nil
                exact AllReady.nil
              exact AllReady.nil
            exact AllReady.nil
          refine AllReady.cons rfl (fun K hK => ?_) ?_
          · refine step_of rfl ?_
            go_simp
            refine hK _ _ ?_
            clear hK K
            refine wpAny_ready (rs := [3]) (by kernel_rfl) (by simp) ?_
            refine AllReady.cons rfl (fun K hK => ?_) ?_
            · refine step_of rfl ?_
              refine FS.appA (u := x1) (.tmp 25) (.tmp 27) 34 rfl el33 rfl rfl ((hF0.alloc _).alloc _) ?_ hn1 hAlt ?_
              · repeat (first | ((with_reducible refine heap_new' ?_); focus (simp; done)) | (with_reducible refine heap_drew' ?_) | (with_reducible refine heap_old' ?_) | (with_reducible refine hk _ _ ?_ ?_))
              intro gA cA WA hFA hk
              go_simp
              refine hK _ _ ?_
              clear hK K
              refine wpAny_ready (rs := [7]) (by kernel_rfl) (by simp) ?_
              refine AllReady.cons rfl (fun K hK => ?_) ?_
              · refine step_of rfl ?_
                refine FS.appB (u := x2) (.tmp 29) (.tmp 31) 34 rfl el33 rfl rfl hFA ?_ hn1 ?_
                · repeat (first | ((with_reducible refine heap_new' ?_); focus (simp; done)) | (with_reducible refine heap_drew' ?_) | (with_reducible refine heap_old' ?_) | (with_reducible refine hk _ _ ?_ ?_))
                  all_goals first | (simp; done) | exact Nat.le_succ _ | exact Nat.le_refl _ | exact Nat.le_succ_of_le (Nat.le_succ _)
                intro gB cB WB hFB
                go_simp
                refine hK _ _ ?_
                clear hK K
                refine wpAny_ready (rs := [8]) (by kernel_rfl) (by simp) ?_
                refine AllReady.cons rfl (fun K hK => ?_) ?_
                · refine step_of rfl ?_
                  refine wp_at (fun W => W.cell? ⟨w.heap.size, 0, none⟩ = _ ∧ W.frozen? ⟨w.heap.size, 0, none⟩ = false) ⟨hFB.x4.cell, hFB.x4.frozen⟩ (fun hc => ?_)
                  obtain ⟨hc, hf⟩ := hc
                  go_simp
                  refine hK _ _ ?_
                  clear hK K hc hf
                  refine wpAny_ready (rs := [9]) (by kernel_rfl) (by simp) ?_
                  refine AllReady.cons rfl (fun K hK => ?_) ?_
                  · refine step_of rfl ?_
                    refine wp_at (fun W => W.cell? ⟨w.heap.size + 1, 0, none⟩ = _ ∧ W.frozen? ⟨w.heap.size + 1, 0, none⟩ = false) ⟨(hFB.set4 _ (Nat.le_refl _) (Nat.succ_ne_self _)).x5.cell, (hFB.set4 _ (Nat.le_refl _) (Nat.succ_ne_self _)).x5.frozen⟩ (fun hc => ?_)
                    obtain ⟨hc, hf⟩ := hc
                    go_simp
                    refine hK _ _ ?_
                    clear hK K hc hf
                    refine wpAny_done (by kernel_rfl) ?_ _
                    exact layI_fin ((hFB.set4 _ (Nat.le_refl _) (Nat.succ_ne_self _)).set5 _ (Nat.le_succ _) (Nat.succ_ne_self _).symm)
                  exact AllReady.nil
                exact AllReady.nil
              exact AllReady.nil
            exact AllReady.nil
          exact AllReady.nil
        refine AllReady.cons rfl (fun K hK => ?_) ?_
        · refine step_of rfl ?_
          go_simp
          refine hK _ _ ?_
          clear hK K
          refine wpAny_ready (rs := [2]) (by kernel_rfl) (by simp) ?_
          refine AllReady.cons rfl (fun K hK => ?_) ?_
          · refine step_of rfl ?_
            go_simp
            refine hK _ _ ?_
            clear hK K
            refine wpAny_ready (rs := [3]) (by kernel_rfl) (by simp) ?_
            refine AllReady.cons rfl (fun K hK => ?_) ?_
            · refine step_of rfl ?_
              refine FS.appA (u := x1) (.tmp 25) (.tmp 27) 34 rfl el33 rfl rfl ((hF0.alloc _).alloc _) ?_ hn1 hAlt ?_
              · repeat (first | ((with_reducible refine heap_new' ?_); focus (simp; done)) | (with_reducible refine heap_drew' ?_) | (with_reducible refine heap_old' ?_) | (with_reducible refine hk _ _ ?_ ?_))
              intro gA cA WA hFA hk
              go_simp
              refine hK _ _ ?_
              clear hK K
              refine wpAny_ready (rs := [7]) (by kernel_rfl) (by simp) ?_
              refine AllReady.cons rfl (fun K hK => ?_) ?_
              · refine step_of rfl ?_
                refine FS.appB (u := x2) (.tmp 29) (.tmp 31) 34 rfl el33 rfl rfl hFA ?_ hn1 ?_
                · repeat (first | ((with_reducible refine heap_new' ?_); focus (simp; done)) | (with_reducible refine heap_drew' ?_) | (with_reducible refine heap_old' ?_) | (with_reducible refine hk _ _ ?_ ?_))
                  all_goals first | (simp; done) | exact Nat.le_succ _ | exact Nat.le_refl _ | exact Nat.le_succ_of_le (Nat.le_succ _)
                intro gB cB WB hFB
                go_simp
                refine hK _ _ ?_
                clear hK K
                refine wpAny_ready (rs := [8]) (by kernel_rfl) (by simp) ?_
                refine AllReady.cons rfl (fun K hK => ?_) ?_
                · refine step_of rfl ?_
                  refine wp_at (fun W => W.cell? ⟨w.heap.size, 0, none⟩ = _ ∧ W.frozen? ⟨w.heap.size, 0, none⟩ = false) ⟨hFB.x4.cell, hFB.x4.frozen⟩ (fun hc => ?_)
                  obtain ⟨hc, hf⟩ := hc
                  go_simp
                  refine hK _ _ ?_
                  clear hK K hc hf
                  refine wpAny_ready (rs := [9]) (by kernel_rfl) (by simp) ?_
                  refine AllReady.cons rfl (fun K hK => ?_) ?_
                  · refine step_of rfl ?_
                    refine wp_at (fun W => W.cell? ⟨w.heap.size + 1, 0, none⟩ = _ ∧ W.frozen? ⟨w.heap.size + 1, 0, none⟩ = false) ⟨(hFB.set4 _ (Nat.le_refl _) (Nat.succ_ne_self _)).x5.cell, (hFB.set4 _ (Nat.le_refl _) (Nat.succ_ne_self _)).x5.frozen⟩ (fun hc => ?_)
                    obtain ⟨hc, hf⟩ := hc
                    go_simp
                    refine hK _ _ ?_
                    clear hK K hc hf
                    refine wpAny_done (by kernel_rfl) ?_ _
                    exact layI_fin ((hFB.set4 _ (Nat.le_refl _) (Nat.succ_ne_self _)).set5 _ (Nat.le_succ _) (Nat.succ_ne_self _).symm)
                  exact AllReady.nil
                exact AllReady.nil
              exact AllReady.nil
            exact AllReady.nil
          exact AllReady.nil
        exact AllReady.nil
      refine AllReady.cons rfl (fun K hK => ?_) ?_
      · refine step_of rfl ?_
        go_simp
        refine hK _ _ ?_
        clear hK K
        refine wpAny_ready (rs := [2, 4]) (by kernel_rfl) (by simp) ?_
        refine AllReady.cons rfl (fun K hK => ?_) ?_
        · refine step_of rfl ?_
          go_simp
          refine hK _ _ ?_
          clear hK K
          refine wpAny_ready (rs := [3, 4]) (by kernel_rfl) (by simp) ?_
          refine AllReady.cons rfl (fun K hK => ?_) ?_
          · refine step_of rfl ?_
            refine FS.appA (u := x1) (.tmp 25) (.tmp 27) 34 rfl el33 rfl rfl ((hF0.alloc _).alloc _) ?_ hn1 hAlt ?_
            · repeat (first | ((with_reducible refine heap_new' ?_); focus (simp; done)) | (with_reducible refine heap_drew' ?_) | (with_reducible refine heap_old' ?_) | (with_reducible refine hk _ _ ?_ ?_))
            intro gA cA WA hFA hk
            go_simp
            refine hK _ _ ?_
            clear hK K
            refine wpAny_ready (rs := [4]) (by kernel_rfl) (by simp) ?_
            refine AllReady.cons rfl (fun K hK => ?_) ?_
            · refine step_of rfl ?_
              refine wp_at (fun W => W.cell? ⟨w.heap.size + 1, 0, none⟩ = _) hFA.x5.cell (fun hc => ?_)
              go_simp
              refine hK _ _ ?_
              clear hK K hc
              refine wpAny_ready (rs := [7]) (by kernel_rfl) (by simp) ?_
              refine AllReady.cons rfl (fun K hK => ?_) ?_
              · refine step_of rfl ?_
                refine FS.appB (u := x2) (.tmp 29) (.tmp 31) 34 rfl el33 rfl rfl hFA ?_ hn1 ?_
                · repeat (first | ((with_reducible refine heap_new' ?_); focus (simp; done)) | (with_reducible refine heap_drew' ?_) | (with_reducible refine heap_old' ?_) | (with_reducible refine hk _ _ ?_ ?_))
                  all_goals first | (simp; done) | exact Nat.le_succ _ | exact Nat.le_refl _ | exact Nat.le_succ_of_le (Nat.le_succ _)
                intro gB cB WB hFB
                go_simp
                refine hK _ _ ?_
                clear hK K
                refine wpAny_ready (rs := [8]) (by kernel_rfl) (by simp) ?_
                refine AllReady.cons rfl (fun K hK => ?_) ?_
                · refine step_of rfl ?_
                  refine wp_at (fun W => W.cell? ⟨w.heap.size, 0, none⟩ = _ ∧ W.frozen? ⟨w.heap.size, 0, none⟩ = false) ⟨hFB.x4.cell, hFB.x4.frozen⟩ (fun hc => ?_)
                  obtain ⟨hc, hf⟩ := hc
                  go_simp
                  refine hK _ _ ?_
                  clear hK K hc hf
                  refine wpAny_ready (rs := [9]) (by kernel_rfl) (by simp) ?_
                  refine AllReady.cons rfl (fun K hK => ?_) ?_
                  · refine step_of rfl ?_
                    refine wp_at (fun W => W.cell? ⟨w.heap.size + 1, 0, none⟩ = _ ∧ W.frozen? ⟨w.heap.size + 1, 0, none⟩ = false) ⟨(hFB.set4 _ (Nat.le_refl _) (Nat.succ_ne_self _)).x5.cell, (hFB.set4 _ (Nat.le_refl _) (Nat.succ_ne_self _)).x5.frozen⟩ (fun hc => ?_)
                    obtain ⟨hc, hf⟩ := hc
                    go_simp
                    refine hK _ _ ?_
                    clear hK K hc hf
                    refine wpAny_done (by kernel_rfl) ?_ _
                    exact layI_fin ((hFB.set4 _ (Nat.le_refl _) (Nat.succ_ne_self _)).set5 _ (Nat.le_succ _) (Nat.succ_ne_self _).symm)
                  exact AllReady.nil
                exact AllReady.nil
              exact AllReady.nil
            exact AllReady.nil
          refine AllReady.cons rfl (fun K hK => ?_) ?_
          · refine step_of rfl ?_
            refine wp_at (fun W => W.cell? ⟨w.heap.size + 1, 0, none⟩ = _) ((hF0.alloc _).alloc _).x5.cell (fun hc => ?_)
            go_simp
            refine hK _ _ ?_
            clear hK K hc
            refine wpAny_ready (rs := [3]) (by kernel_rfl) (by simp) ?_
            refine AllReady.cons rfl (fun K hK => ?_) ?_
            · refine step_of rfl ?_
              refine FS.appA (u := x1) (.tmp 25) (.tmp 27) 34 rfl el33 rfl rfl ((hF0.alloc _).alloc _) ?_ hn1 hAlt ?_
              · repeat (first | ((with_reducible refine heap_new' ?_); focus (simp; done)) | (with_reducible refine heap_drew' ?_) | (with_reducible refine heap_old' ?_) | (with_reducible refine hk _ _ ?_ ?_))
              intro gA cA WA hFA hk
              go_simp
              refine hK _ _ ?_
              clear hK K
              refine wpAny_ready (rs := [7]) (by kernel_rfl) (by simp) ?_
              refine AllReady.cons rfl (fun K hK => ?_) ?_
              · refine step_of rfl ?_
                refine FS.appB (u := x2) (.tmp 29) (.tmp 31) 34 rfl el33 rfl rfl hFA ?_ hn1 ?_
                · repeat (first | ((with_reducible refine heap_new' ?_); focus (simp; done)) | (with_reducible refine heap_drew' ?_) | (with_reducible refine heap_old' ?_) | (with_reducible refine hk _ _ ?_ ?_))
                  all_goals first | (simp; done) | exact Nat.le_succ _ | exact Nat.le_refl _ | exact Nat.le_succ_of_le (Nat.le_succ _)
                intro gB cB WB hFB
                go_simp
                refine hK _ _ ?_
                clear hK K
                refine wpAny_ready (rs := [8]) (by kernel_rfl) (by simp) ?_
                refine AllReady.cons rfl (fun K hK => ?_) ?_
                · refine step_of rfl ?_
                  refine wp_at (fun W => W.cell? ⟨w.heap.size, 0, none⟩ = _ ∧ W.frozen? ⟨w.heap.size, 0, none⟩ = false) ⟨hFB.x4.cell, hFB.x4.frozen⟩ (fun hc => ?_)
                  obtain ⟨hc, hf⟩ := hc
                  go_simp
                  refine hK _ _ ?_
                  clear hK K hc hf
                  refine wpAny_ready (rs := [9]) (by kernel_rfl) (by simp) ?_
                  refine AllReady.cons rfl (fun K hK => ?_) ?_
                  · refine step_of rfl ?_
                    refine wp_at (fun W => W.cell? ⟨w.heap.size + 1, 0, none⟩ = _ ∧ W.frozen? ⟨w.heap.size + 1, 0, none⟩ = false) ⟨(hFB.set4 _ (Nat.le_refl _) (Nat.succ_ne_self _)).x5.cell, (hFB.set4 _ (Nat.le_refl _) (Nat.succ_ne_self _)).x5.frozen⟩ (fun hc => ?_)
                    obtain ⟨hc, hf⟩ := hc
                    go_simp
                    refine hK _ _ ?_
                    clear hK K hc hf
                    refine wpAny_done (by kernel_rfl) ?_ _
                    exact layI_fin ((hFB.set4 _ (Nat.le_refl _) (Nat.succ_ne_self _)).set5 _ (Nat.le_succ _) (Nat.succ_ne_self _).symm)
                  exact AllReady.nil
                exact AllReady.nil
              exact AllReady.nil
            exact AllReady.nil
          exact AllReady.nil
        refine AllReady.cons rfl (fun K hK => ?_) ?_
        · refine step_of rfl ?_
          refine wp_at (fun W => W.cell? ⟨w.heap.size + 1, 0, none⟩ = _) (hF0.alloc _).x5.cell (fun hc => ?_)
          go_simp
          refine hK _ _ ?_
          clear hK K hc
          refine wpAny_ready (rs := [2]) (by kernel_rfl) (by simp) ?_
          refine AllReady.cons rfl (fun K hK => ?_) ?_
          · refine step_of rfl ?_
            go_simp
            refine hK _ _ ?_
            clear hK K
            refine wpAny_ready (rs := [3]) (by kernel_rfl) (by simp) ?_
            refine AllReady.cons rfl (fun K hK => ?_) ?_
            · refine step_of rfl ?_
              refine FS.appA (u := x1) (.tmp 25) (.tmp 27) 34 rfl el33 rfl rfl ((hF0.alloc _).alloc _) ?_ hn1 hAlt ?_
              · repeat (first | ((with_reducible refine heap_new' ?_); focus (simp; done)) | (with_reducible refine heap_drew' ?_) | (with_reducible refine heap_old' ?_) | (with_reducible refine hk _ _ ?_ ?_))
              intro gA cA WA hFA hk
              go_simp
              refine hK _ _ ?_
              clear hK K
              refine wpAny_ready (rs := [7]) (by kernel_rfl) (by simp) ?_
              refine AllReady.cons rfl (fun K hK => ?_) ?_
              · refine step_of rfl ?_
                refine FS.appB (u := x2) (.tmp 29) (.tmp 31) 34 rfl el33 rfl rfl hFA ?_ hn1 ?_
                · repeat (first | ((with_reducible refine heap_new' ?_); focus (simp; done)) | (with_reducible refine heap_drew' ?_) | (with_reducible refine heap_old' ?_) | (with_reducible refine hk _ _ ?_ ?_))
                  all_goals first | (simp; done) | exact Nat.le_succ _ | exact Nat.le_refl _ | exact Nat.le_succ_of_le (Nat.le_succ _)
                intro gB cB WB hFB
                go_simp
                refine hK _ _ ?_
                clear hK K
                refine wpAny_ready (rs := [8]) (by kernel_rfl) (by simp) ?_
                refine AllReady.cons rfl (fun K hK => ?_) ?_
                · refine step_of rfl ?_
                  refine wp_at (fun W => W.cell? ⟨w.heap.size, 0, none⟩ = _ ∧ W.frozen? ⟨w.heap.size, 0, none⟩ = false) ⟨hFB.x4.cell, hFB.x4.frozen⟩ (fun hc => ?_)
                  obtain ⟨hc, hf⟩ := hc
                  go_simp
                  refine hK _ _ ?_
                  clear hK K hc hf
                  refine wpAny_ready (rs := [9]) (by kernel_rfl) (by simp) ?_
                  refine AllReady.cons rfl (fun K hK => ?_) ?_
                  · refine step_of rfl ?_
                    refine wp_at (fun W => W.cell? ⟨w.heap.size + 1, 0, none⟩ = _ ∧ W.frozen? ⟨w.heap.size + 1, 0, none⟩ = false) ⟨(hFB.set4 _ (Nat.le_refl _) (Nat.succ_ne_self _)).x5.cell, (hFB.set4 _ (Nat.le_refl _) (Nat.succ_ne_self _)).x5.frozen⟩ (fun hc => ?_)
                    obtain ⟨hc, hf⟩ := hc
                    go_simp
                    refine hK _ _ ?_
                    clear hK K hc hf
                    refine wpAny_done (by kernel_rfl) ?_ _
                    exact layI_fin ((hFB.set4 _ (Nat.le_refl _) (Nat.succ_ne_self _)).set5 _ (Nat.le_succ _) (Nat.succ_ne_self _).symm)
                  exact AllReady.nil
                exact AllReady.nil
              exact AllReady.nil
            exact AllReady.nil
          exact AllReady.nil
        exact AllReady.nil
      exact AllReady.nil
    refine AllReady.cons rfl (fun K hK => ?_) ?_
    · refine step_of rfl ?_
      go_simp
      refine hK _ _ ?_
      clear hK K
      refine wpAny_ready (rs := [0, 4, 6]) (by kernel_rfl) (by simp) ?_
      refine AllReady.cons rfl (fun K hK => ?_) ?_
      · refine step_of rfl ?_
        refine wp_at (fun W => W.cell? ⟨w.heap.size, 0, none⟩ = _) (hF0.alloc _).x4.cell (fun hc => ?_)
        go_simp
        refine hK _ _ ?_
        clear hK K hc
        refine wpAny_ready (rs := [3, 4, 6]) (by kernel_rfl) (by simp) ?_
        refine AllReady.cons rfl (fun K hK => ?_) ?_
        · refine step_of rfl ?_
          refine FS.appA (u := x1) (.tmp 25) (.tmp 27) 34 rfl el33 rfl rfl (hF0.alloc _) ?_ hn1 hAlt ?_
          · repeat (first | ((with_reducible refine heap_new' ?_); focus (simp; done)) | (with_reducible refine heap_drew' ?_) | (with_reducible refine heap_old' ?_) | (with_reducible refine hk _ _ ?_ ?_))
          intro gA cA WA hFA hk
          go_simp
          refine hK _ _ ?_
          clear hK K
          refine wpAny_ready (rs := [4, 6]) (by kernel_rfl) (by simp) ?_
          refine AllReady.cons rfl (fun K hK => ?_) ?_
          · refine step_of rfl ?_
            refine wp_at (fun W => W.cell? ⟨w.heap.size + 1, 0, none⟩ = _) hFA.x5.cell (fun hc => ?_)
            go_simp
            refine hK _ _ ?_
            clear hK K hc
            refine wpAny_ready (rs := [6]) (by kernel_rfl) (by simp) ?_
            refine AllReady.cons rfl (fun K hK => ?_) ?_
            · refine step_of rfl ?_
              go_simp
              refine hK _ _ ?_
              clear hK K
              refine wpAny_ready (rs := [7]) (by kernel_rfl) (by simp) ?_
              refine AllReady.cons rfl (fun K hK => ?_) ?_
              · refine step_of rfl ?_
                refine FS.appB (u := x2) (.tmp 29) (.tmp 31) 34 rfl el33 rfl rfl (hFA.alloc _) ?_ hn1 ?_
                · repeat (first | ((with_reducible refine heap_new' ?_); focus (simp; done)) | (with_reducible refine heap_drew' ?_) | (with_reducible refine heap_old' ?_) | (with_reducible refine hk _ _ ?_ ?_))
                  all_goals first | (simp; done) | exact Nat.le_succ _ | exact Nat.le_refl _ | exact Nat.le_succ_of_le (Nat.le_succ _)
                intro gB cB WB hFB
                go_simp
                refine hK _ _ ?_
                clear hK K
                refine wpAny_ready (rs := [8]) (by kernel_rfl) (by simp) ?_
                refine AllReady.cons rfl (fun K hK => ?_) ?_
                · refine step_of rfl ?_
                  refine wp_at (fun W => W.cell? ⟨w.heap.size, 0, none⟩ = _ ∧ W.frozen? ⟨w.heap.size, 0, none⟩ = false) ⟨hFB.x4.cell, hFB.x4.frozen⟩ (fun hc => ?_)
                  obtain ⟨hc, hf⟩ := hc
                  go_simp
                  refine hK _ _ ?_
                  clear hK K hc hf
                  refine wpAny_ready (rs := [9]) (by kernel_rfl) (by simp) ?_
                  refine AllReady.cons rfl (fun K hK => ?_) ?_
                  · refine step_of rfl ?_
                    refine wp_at (fun W => W.cell? ⟨w.heap.size + 1, 0, none⟩ = _ ∧ W.frozen? ⟨w.heap.size + 1, 0, none⟩ = false) ⟨(hFB.set4 _ (Nat.le_refl _) (Nat.succ_ne_self _)).x5.cell, (hFB.set4 _ (Nat.le_refl _) (Nat.succ_ne_self _)).x5.frozen⟩ (fun hc => ?_)
                    obtain ⟨hc, hf⟩ := hc
                    go_simp
                    refine hK _ _ ?_
                    clear hK K hc hf
                    refine wpAny_done (by kernel_rfl) ?_ _
                    exact layI_fin ((hFB.set4 _ (Nat.le_refl _) (Nat.succ_ne_self _)).set5 _ (Nat.le_succ _) (Nat.succ_ne_self _).symm)
                  exact AllReady.nil
                exact AllReady.nil
              exact AllReady.nil
            exact AllReady.nil
          refine AllReady.cons rfl (fun K hK => ?_) ?_
          · refine step_of rfl ?_
            go_simp
            refine hK _ _ ?_
            clear hK K
            refine wpAny_ready (rs := [4]) (by kernel_rfl) (by simp) ?_
            refine AllReady.cons rfl (fun K hK => ?_) ?_
            · refine step_of rfl ?_
              refine wp_at (fun W => W.cell? ⟨w.heap.size + 1, 0, none⟩ = _) (hFA.alloc _).x5.cell (fun hc => ?_)
              go_simp
              refine hK _ _ ?_
              clear hK K hc
              refine wpAny_ready (rs := [7]) (by kernel_rfl) (by simp) ?_
              refine AllReady.cons rfl (fun K hK => ?_) ?_
              · refine step_of rfl ?_
                refine FS.appB (u := x2) (.tmp 29) (.tmp 31) 34 rfl el33 rfl rfl (hFA.alloc _) ?_ hn1 ?_
                · repeat (first | ((with_reducible refine heap_new' ?_); focus (simp; done)) | (with_reducible refine heap_drew' ?_) | (with_reducible refine heap_old' ?_) | (with_reducible refine hk _ _ ?_ ?_))
                  all_goals first | (simp; done) | exact Nat.le_succ _ | exact Nat.le_refl _ | exact Nat.le_succ_of_le (Nat.le_succ _)
                intro gB cB WB hFB
                go_simp
                refine hK _ _ ?_
                clear hK K
                refine wpAny_ready (rs := [8]) (by kernel_rfl) (by simp) ?_
                refine AllReady.cons rfl (fun K hK => ?_) ?_
                · refine step_of rfl ?_
                  refine wp_at (fun W => W.cell? ⟨w.heap.size, 0, none⟩ = _ ∧ W.frozen? ⟨w.heap.size, 0, none⟩ = false) ⟨hFB.x4.cell, hFB.x4.frozen⟩ (fun hc => ?_)
                  obtain ⟨hc, hf⟩ := hc
                  go_simp
                  refine hK _ _ ?_
                  clear hK K hc hf
                  refine wpAny_ready (rs := [9]) (by kernel_rfl) (by simp) ?_
                  refine AllReady.cons rfl (fun K hK => ?_) ?_
                  · refine step_of rfl ?_
                    refine wp_at (fun W => W.cell? ⟨w.heap.size + 1, 0, none⟩ = _ ∧ W.frozen? ⟨w.heap.size + 1, 0, none⟩ = false) ⟨(hFB.set4 _ (Nat.le_refl _) (Nat.succ_ne_self _)).x5.cell, (hFB.set4 _ (Nat.le_refl _) (Nat.succ_ne_self _)).x5.frozen⟩ (fun hc => ?_)
                    obtain ⟨hc, hf⟩ := hc
                    go_simp
                    refine hK _ _ ?_
                    clear hK K hc hf
                    refine wpAny_done (by kernel_rfl) ?_ _
                    exact layI_fin ((hFB.set4 _ (Nat.le_refl _) (Nat.succ_ne_self _)).set5 _ (Nat.le_succ _) (Nat.succ_ne_self _).symm)
                  exact AllReady.nil
                exact AllReady.nil
              exact AllReady.nil
            exact AllReady.nil
          exact AllReady.nil
        refine AllReady.cons rfl (fun K hK => ?_) ?_
        · refine step_of rfl ?_
          refine wp_at (fun W => W.cell? ⟨w.heap.size + 1, 0, none⟩ = _) (hF0.alloc _).x5.cell (fun hc => ?_)
          go_simp
          refine hK _ _ ?_
          clear hK K hc
          refine wpAny_ready (rs := [3, 6]) (by kernel_rfl) (by simp) ?_
          refine AllReady.cons rfl (fun K hK => ?_) ?_
          · refine step_of rfl ?_
            refine FS.appA (u := x1) (.tmp 25) (.tmp 27) 34 rfl el33 rfl rfl (hF0.alloc _) ?_ hn1 hAlt ?_
            · repeat (first | ((with_reducible refine heap_new' ?_); focus (simp; done)) | (with_reducible refine heap_drew' ?_) | (with_reducible refine heap_old' ?_) | (with_reducible refine hk _ _ ?_ ?_))
            intro gA cA WA hFA hk
            go_simp
            refine hK _ _ ?_
            clear hK K
            refine wpAny_ready (rs := [6]) (by kernel_rfl) (by simp) ?_
            refine AllReady.cons rfl (fun K hK => ?_) ?_
            · refine step_of rfl ?_
              go_simp
              refine hK _ _ ?_
              clear hK K
              refine wpAny_ready (rs := [7]) (by kernel_rfl) (by simp) ?_
              refine AllReady.cons rfl (fun K hK => ?_) ?_
              · refine step_of rfl ?_
                refine FS.appB (u := x2) (.tmp 29) (.tmp 31) 34 rfl el33 rfl rfl (hFA.alloc _) ?_ hn1 ?_
                · repeat (first | ((with_reducible refine heap_new' ?_); focus (simp; done)) | (with_reducible refine heap_drew' ?_) | (with_reducible refine heap_old' ?_) | (with_reducible refine hk _ _ ?_ ?_))
                  all_goals first | (simp; done) | exact Nat.le_succ _ | exact Nat.le_refl _ | exact Nat.le_succ_of_le (Nat.le_succ _)
                intro gB cB WB hFB
                go_simp
                refine hK _ _ ?_
                clear hK K
                refine wpAny_ready (rs := [8]) (by kernel_rfl) (by simp) ?_
                refine AllReady.cons rfl (fun K hK => ?_) ?_
                · refine step_of rfl ?_
                  refine wp_at (fun W => W.cell? ⟨w.heap.size, 0, none⟩ = _ ∧ W.frozen? ⟨w.heap.size, 0, none⟩ = false) ⟨hFB.x4.cell, hFB.x4.frozen⟩ (fun hc => ?_)
                  obtain ⟨hc, hf⟩ := hc
                  go_simp
                  refine hK _ _ ?_
                  clear hK K hc hf
                  refine wpAny_ready (rs := [9]) (by kernel_rfl) (by simp) ?_
                  refine AllReady.cons rfl (fun K hK => ?_) ?_
                  · refine step_of rfl ?_
                    refine wp_at (fun W => W.cell? ⟨w.heap.size + 1, 0, none⟩ = _ ∧ W.frozen? ⟨w.heap.size + 1, 0, none⟩ = false) ⟨(hFB.set4 _ (Nat.le_refl _) (Nat.succ_ne_self _)).x5.cell, (hFB.set4 _ (Nat.le_refl _) (Nat.succ_ne_self _)).x5.frozen⟩ (fun hc => ?_)
                    obtain ⟨hc, hf⟩ := hc
                    go_simp
                    refine hK _ _ ?_
                    clear hK K hc hf
                    refine wpAny_done (by kernel_rfl) ?_ _
                    exact layI_fin ((hFB.set4 _ (Nat.le_refl _) (Nat.succ_ne_self _)).set5 _ (Nat.le_succ _) (Nat.succ_ne_self _).symm)
                  exact AllReady.nil
                exact AllReady.nil
              exact AllReady.nil
            exact AllReady.nil
          refine AllReady.cons rfl (fun K hK => ?_) ?_
          · refine step_of rfl ?_
            go_simp
            refine hK _ _ ?_
            clear hK K
            refine wpAny_ready (rs := [3]) (by kernel_rfl) (by simp) ?_
            refine AllReady.cons rfl (fun K hK => ?_) ?_
            · refine step_of rfl ?_
              refine FS.appA (u := x1) (.tmp 25) (.tmp 27) 34 rfl el33 rfl rfl ((hF0.alloc _).alloc _) ?_ hn1 hAlt ?_
              · repeat (first | ((with_reducible refine heap_new' ?_); focus (simp; done)) | (with_reducible refine heap_drew' ?_) | (with_reducible refine heap_old' ?_) | (with_reducible refine hk _ _ ?_ ?_))
              intro gA cA WA hFA hk
              go_simp
              refine hK _ _ ?_
              clear hK K
              refine wpAny_ready (rs := [7]) (by kernel_rfl) (by simp) ?_
              refine AllReady.cons rfl (fun K hK => ?_) ?_
              · refine step_of rfl ?_
                refine FS.appB (u := x2) (.tmp 29) (.tmp 31) 34 rfl el33 rfl rfl hFA ?_ hn1 ?_
                · repeat (first | ((with_reducible refine heap_new' ?_); focus (simp; done)) | (with_reducible refine heap_drew' ?_) | (with_reducible refine heap_old' ?_) | (with_reducible refine hk _ _ ?_ ?_))
                  all_goals first | (simp; done) | exact Nat.le_succ _ | exact Nat.le_refl _ | exact Nat.le_succ_of_le (Nat.le_succ _)
                intro gB cB WB hFB
                go_simp
                refine hK _ _ ?_
                clear hK K
                refine wpAny_ready (rs := [8]) (by kernel_rfl) (by simp) ?_
                refine AllReady.cons rfl (fun K hK => ?_) ?_
                · refine step_of rfl ?_
                  refine wp_at (fun W => W.cell? ⟨w.heap.size, 0, none⟩ = _ ∧ W.frozen? ⟨w.heap.size, 0, none⟩ = false) ⟨hFB.x4.cell, hFB.x4.frozen⟩ (fun hc => ?_)
                  obtain ⟨hc, hf⟩ := hc
                  go_simp
                  refine hK _ _ ?_
                  clear hK K hc hf
                  refine wpAny_ready (rs := [9]) (by kernel_rfl) (by simp) ?_
                  refine AllReady.cons rfl (fun K hK => ?_) ?_
                  · refine step_of rfl ?_
                    refine wp_at (fun W => W.cell? ⟨w.heap.size + 1, 0, none⟩ = _ ∧ W.frozen? ⟨w.heap.size + 1, 0, none⟩ = false) ⟨(hFB.set4 _ (Nat.le_refl _) (Nat.succ_ne_self _)).x5.cell, (hFB.set4 _ (Nat.le_refl _) (Nat.succ_ne_self _)).x5.frozen⟩ (fun hc => ?_)
                    obtain ⟨hc, hf⟩ := hc
                    go_simp
                    refine hK _ _ ?_
                    clear hK K hc hf
                    refine wpAny_done (by kernel_rfl) ?_ _
                    exact layI_fin ((hFB.set4 _ (Nat.le_refl _) (Nat.succ_ne_self _)).set5 _ (Nat.le_succ _) (Nat.succ_ne_self _).symm)
                  exact AllReady.nil
                exact AllReady.nil
              exact AllReady.nil
            exact AllReady.nil
          exact AllReady.nil
        refine AllReady.cons rfl (fun K hK => ?_) ?_
        · refine step_of rfl ?_
          go_simp
          refine hK _ _ ?_
          clear hK K
          refine wpAny_ready (rs := [3, 4]) (by kernel_rfl) (by simp) ?_
          refine AllReady.cons rfl (fun K hK => ?_) ?_
          · refine step_of rfl ?_
            refine FS.appA (u := x1) (.tmp 25) (.tmp 27) 34 rfl el33 rfl rfl ((hF0.alloc _).alloc _) ?_ hn1 hAlt ?_
            · repeat (first | ((with_reducible refine heap_new' ?_); focus (simp; done)) | (with_reducible refine heap_drew' ?_) | (with_reducible refine heap_old' ?_) | (with_reducible refine hk _ _ ?_ ?_))
            intro gA cA WA hFA hk
            go_simp
            refine hK _ _ ?_
            clear hK K
            refine wpAny_ready (rs := [4]) (by kernel_rfl) (by simp) ?_
            refine AllReady.cons rfl (fun K hK => ?_) ?_
            · refine step_of rfl ?_
              refine wp_at (fun W => W.cell? ⟨w.heap.size + 1, 0, none⟩ = _) hFA.x5.cell (fun hc => ?_)
              go_simp
              refine hK _ _ ?_
              clear hK K hc
              refine wpAny_ready (rs := [7]) (by kernel_rfl) (by simp) ?_
              refine AllReady.cons rfl (fun K hK => ?_) ?_
              · refine step_of rfl ?_
                refine FS.appB (u := x2) (.tmp 29) (.tmp 31) 34 rfl el33 rfl rfl hFA ?_ hn1 ?_
                · repeat (first | ((with_reducible refine heap_new' ?_); focus (simp; done)) | (with_reducible refine heap_drew' ?_) | (with_reducible refine heap_old' ?_) | (with_reducible refine hk _ _ ?_ ?_))
                  all_goals first | (simp; done) | exact Nat.le_succ _ | exact Nat.le_refl _ | exact Nat.le_succ_of_le (Nat.le_succ _)
                intro gB cB WB hFB
                go_simp
                refine hK _ _ ?_
                clear hK K
                refine wpAny_ready (rs := [8]) (by kernel_rfl) (by simp) ?_
                refine AllReady.cons rfl (fun K hK => ?_) ?_
                · refine step_of rfl ?_
                  refine wp_at (fun W => W.cell? ⟨w.heap.size, 0, none⟩ = _ ∧ W.frozen? ⟨w.heap.size, 0, none⟩ = false) ⟨hFB.x4.cell, hFB.x4.frozen⟩ (fun hc => ?_)
                  obtain ⟨hc, hf⟩ := hc
                  go_simp
                  refine hK _ _ ?_
                  clear hK K hc hf
                  refine wpAny_ready (rs := [9]) (by kernel_rfl) (by simp) ?_
                  refine AllReady.cons rfl (fun K hK => ?_) ?_
                  · refine step_of rfl ?_
                    refine wp_at (fun W => W.cell? ⟨w.heap.size + 1, 0, none⟩ = _ ∧ W.frozen? ⟨w.heap.size + 1, 0, none⟩ = false) ⟨(hFB.set4 _ (Nat.le_refl _) (Nat.succ_ne_self _)).x5.cell, (hFB.set4 _ (Nat.le_refl _) (Nat.succ_ne_self _)).x5.frozen⟩ (fun hc => ?_)
                    obtain ⟨hc, hf⟩ := hc
                    go_simp
                    refine hK _ _ ?_
                    clear hK K hc hf
                    refine wpAny_done (by kernel_rfl) ?_ _
                    exact layI_fin ((hFB.set4 _ (Nat.le_refl _) (Nat.succ_ne_self _)).set5 _ (Nat.le_succ _) (Nat.succ_ne_self _).symm)
                  exact AllReady.nil
                exact AllReady.nil
              exact AllReady.nil
            exact AllReady.nil
          refine AllReady.cons rfl (fun K hK => ?_) ?_
          · refine step_of rfl ?_
            refine wp_at (fun W => W.cell? ⟨w.heap.size + 1, 0, none⟩ = _) ((hF0.alloc _).alloc _).x5.cell (fun hc => ?_)
            go_simp
            refine hK _ _ ?_
            clear hK K hc
            refine wpAny_ready (rs := [3]) (by kernel_rfl) (by simp) ?_
            refine AllReady.cons rfl (fun K hK => ?_) ?_
            · refine step_of rfl ?_
              refine FS.appA (u := x1) (.tmp 25) (.tmp 27) 34 rfl el33 rfl rfl ((hF0.alloc _).alloc _) ?_ hn1 hAlt ?_
              · repeat (first | ((with_reducible refine heap_new' ?_); focus (simp; done)) | (with_reducible refine heap_drew' ?_) | (with_reducible refine heap_old' ?_) | (with_reducible refine hk _ _ ?_ ?_))
              intro gA cA WA hFA hk
              go_simp
              refine hK _ _ ?_
              clear hK K
              refine wpAny_ready (rs := [7]) (by kernel_rfl) (by simp) ?_
              refine AllReady.cons rfl (fun K hK => ?_) ?_
              · refine step_of rfl ?_
                refine FS.appB (u := x2) (.tmp 29) (.tmp 31) 34 rfl el33 rfl rfl hFA ?_ hn1 ?_
                · repeat (first | ((with_reducible refine heap_new' ?_); focus (simp; done)) | (with_reducible refine heap_drew' ?_) | (with_reducible refine heap_old' ?_) | (with_reducible refine hk _ _ ?_ ?_))
                  all_goals first | (simp; done) | exact Nat.le_succ _ | exact Nat.le_refl _ | exact Nat.le_succ_of_le (Nat.le_succ _)
                intro gB cB WB hFB
                go_simp
                refine hK _ _ ?_
                clear hK K
                refine wpAny_ready (rs := [8]) (by kernel_rfl) (by simp) ?_
                refine AllReady.cons rfl (fun K hK => ?_) ?_
                · refine step_of rfl ?_
                  refine wp_at (fun W => W.cell? ⟨w.heap.size, 0, none⟩ = _ ∧ W.frozen? ⟨w.heap.size, 0, none⟩ = false) ⟨hFB.x4.cell, hFB.x4.frozen⟩ (fun hc => ?_)
                  obtain ⟨hc, hf⟩ := hc
                  go_simp
                  refine hK _ _ ?_
                  clear hK K hc hf
                  refine wpAny_ready (rs := [9]) (by kernel_rfl) (by simp) ?_
                  refine AllReady.cons rfl (fun K hK => ?_) ?_
                  · refine step_of rfl ?_
                    refine wp_at (fun W => W.cell? ⟨w.heap.size + 1, 0, none⟩ = _ ∧ W.frozen? ⟨w.heap.size + 1, 0, none⟩ = false) ⟨(hFB.set4 _ (Nat.le_refl _) (Nat.succ_ne_self _)).x5.cell, (hFB.set4 _ (Nat.le_refl _) (Nat.succ_ne_self _)).x5.frozen⟩ (fun hc => ?_)
                    obtain ⟨hc, hf⟩ := hc
                    go_simp
                    refine hK _ _ ?_
                    clear hK K hc hf
                    refine wpAny_done (by kernel_rfl) ?_ _
                    exact layI_fin ((hFB.set4 _ (Nat.le_refl _) (Nat.succ_ne_self _)).set5 _ (Nat.le_succ _) (Nat.succ_ne_self _).symm)
                  exact AllReady.nil
                exact AllReady.nil
              exact AllReady.nil
            exact AllReady.nil
          exact AllReady.nil
        exact AllReady.nil
      refine AllReady.cons rfl (fun K hK => ?_) ?_
      · refine step_of rfl ?_
        refine wp_at (fun W => W.cell? ⟨w.heap.size + 1, 0, none⟩ = _) (hF0.alloc _).x5.cell (fun hc => ?_)
        go_simp
        refine hK _ _ ?_
        clear hK K hc
        refine wpAny_ready (rs := [0, 6]) (by kernel_rfl) (by simp) ?_
        refine AllReady.cons rfl (fun K hK => ?_) ?_
        · refine step_of rfl ?_
          refine wp_at (fun W => W.cell? ⟨w.heap.size, 0, none⟩ = _) (hF0.alloc _).x4.cell (fun hc => ?_)
          go_simp
          refine hK _ _ ?_
          clear hK K hc
          refine wpAny_ready (rs := [3, 6]) (by kernel_rfl) (by simp) ?_
          refine AllReady.cons rfl (fun K hK => ?_) ?_
          · refine step_of rfl ?_
            refine FS.appA (u := x1) (.tmp 25) (.tmp 27) 34 rfl el33 rfl rfl (hF0.alloc _) ?_ hn1 hAlt ?_
            · repeat (first | ((with_reducible refine heap_new' ?_); focus (simp; done)) | (with_reducible refine heap_drew' ?_) | (with_reducible refine heap_old' ?_) | (with_reducible refine hk _ _ ?_ ?_))
            intro gA cA WA hFA hk
            go_simp
            refine hK _ _ ?_
            clear hK K
            refine wpAny_ready (rs := [6]) (by kernel_rfl) (by simp) ?_
            refine AllReady.cons rfl (fun K hK => ?_) ?_
            · refine step_of rfl ?_
              go_simp
              refine hK _ _ ?_
              clear hK K
              refine wpAny_ready (rs := [7]) (by kernel_rfl) (by simp) ?_
              refine AllReady.cons rfl (fun K hK => ?_) ?_
              · refine step_of rfl ?_
                refine FS.appB (u := x2) (.tmp 29) (.tmp 31) 34 rfl el33 rfl rfl (hFA.alloc _) ?_ hn1 ?_
                · repeat (first | ((with_reducible refine heap_new' ?_); focus (simp; done)) | (with_reducible refine heap_drew' ?_) | (with_reducible refine heap_old' ?_) | (with_reducible refine hk _ _ ?_ ?_))
                  all_goals first | (simp; done) | exact Nat.le_succ _ | exact Nat.le_refl _ | exact Nat.le_succ_of_le (Nat.le_succ _)
                intro gB cB WB hFB
                go_simp
                refine hK _ _ ?_
                clear hK K
                refine wpAny_ready (rs := [8]) (by kernel_rfl) (by simp) ?_
                refine AllReady.cons rfl (fun K hK => ?_) ?_
                · refine step_of rfl ?_
                  refine wp_at (fun W => W.cell? ⟨w.heap.size, 0, none⟩ = _ ∧ W.frozen? ⟨w.heap.size, 0, none⟩ = false) ⟨hFB.x4.cell, hFB.x4.frozen⟩ (fun hc => ?_)
                  obtain ⟨hc, hf⟩ := hc
                  go_simp
                  refine hK _ _ ?_
                  clear hK K hc hf
                  refine wpAny_ready (rs := [9]) (by kernel_rfl) (by simp) ?_
                  refine AllReady.cons rfl (fun K hK => ?_) ?_
                  · refine step_of rfl ?_
                    refine wp_at (fun W => W.cell? ⟨w.heap.size + 1, 0, none⟩ = _ ∧ W.frozen? ⟨w.heap.size + 1, 0, none⟩ = false) ⟨(hFB.set4 _ (Nat.le_refl _) (Nat.succ_ne_self _)).x5.cell, (hFB.set4 _ (Nat.le_refl _) (Nat.succ_ne_self _)).x5.frozen⟩ (fun hc => ?_)
                    obtain ⟨hc, hf⟩ := hc
                    go_simp
                    refine hK _ _ ?_
                    clear hK K hc hf
                    refine wpAny_done (by kernel_rfl) ?_ _
                    exact layI_fin ((hFB.set4 _ (Nat.le_refl _) (Nat.succ_ne_self _)).set5 _ (Nat.le_succ _) (Nat.succ_ne_self _).symm)
                  exact AllReady.nil
                exact AllReady.nil
              exact AllReady.nil
            exact AllReady.nil
          refine AllReady.cons rfl (fun K hK => ?_) ?_
          · refine step_of rfl ?_
            go_simp
            refine hK _ _ ?_
            clear hK K
            refine wpAny_ready (rs := [3]) (by kernel_rfl) (by simp) ?_
            refine AllReady.cons rfl (fun K hK => ?_) ?_
            · refine step_of rfl ?_
              refine FS.appA (u := x1) (.tmp 25) (.tmp 27) 34 rfl el33 rfl rfl ((hF0.alloc _).alloc _) ?_ hn1 hAlt ?_
              · repeat (first | ((with_reducible refine heap_new' ?_); focus (simp; done)) | (with_reducible refine heap_drew' ?_) | (with_reducible refine heap_old' ?_) | (with_reducible refine hk _ _ ?_ ?_))
              intro gA cA WA hFA hk
              go_simp
              refine hK _ _ ?_
              clear hK K
              refine wpAny_ready (rs := [7]) (by kernel_rfl) (by simp) ?_
              refine AllReady.cons rfl (fun K hK => ?_) ?_
              · refine step_of rfl ?_
                refine FS.appB (u := x2) (.tmp 29) (.tmp 31) 34 rfl el33 rfl rfl hFA ?_ hn1 ?_
                · repeat (first | ((with_reducible refine heap_new' ?_); focus (simp; done)) | (with_reducible refine heap_drew' ?_) | (with_reducible refine heap_old' ?_) | (with_reducible refine hk _ _ ?_ ?_))
                  all_goals first | (simp; done) | exact Nat.le_succ _ | exact Nat.le_refl _ | exact Nat.le_succ_of_le (Nat.le_succ _)
                intro gB cB WB hFB
                go_simp
                refine hK _ _ ?_
                clear hK K
                refine wpAny_ready (rs := [8]) (by kernel_rfl) (by simp) ?_
                refine AllReady.cons rfl (fun K hK => ?_) ?_
                · refine step_of rfl ?_
                  refine wp_at (fun W => W.cell? ⟨w.heap.size, 0, none⟩ = _ ∧ W.frozen? ⟨w.heap.size, 0, none⟩ = false) ⟨hFB.x4.cell, hFB.x4.frozen⟩ (fun hc => ?_)
                  obtain ⟨hc, hf⟩ := hc
                  go_simp
                  refine hK _ _ ?_
                  clear hK K hc hf
                  refine wpAny_ready (rs := [9]) (by kernel_rfl) (by simp) ?_
                  refine AllReady.cons rfl (fun K hK => ?_) ?_
                  · refine step_of rfl ?_
                    refine wp_at (fun W => W.cell? ⟨w.heap.size + 1, 0, none⟩ = _ ∧ W.frozen? ⟨w.heap.size + 1, 0, none⟩ = false) ⟨(hFB.set4 _ (Nat.le_refl _) (Nat.succ_ne_self _)).x5.cell, (hFB.set4 _ (Nat.le_refl _) (Nat.succ_ne_self _)).x5.frozen⟩ (fun hc => ?_)
                    obtain ⟨hc, hf⟩ := hc
                    go_simp
                    refine hK _ _ ?_
                    clear hK K hc hf
                    refine wpAny_done (by kernel_rfl) ?_ _
                    exact layI_fin ((hFB.set4 _ (Nat.le_refl _) (Nat.succ_ne_self _)).set5 _ (Nat.le_succ _) (Nat.succ_ne_self _).symm)
                  exact AllReady.nil
                exact AllReady.nil
              exact AllReady.nil
            exact AllReady.nil
          exact AllReady.nil
        refine AllReady.cons rfl (fun K hK => ?_) ?_
        · refine step_of rfl ?_
          go_simp
          refine hK _ _ ?_
          clear hK K
          refine wpAny_ready (rs := [0]) (by kernel_rfl) (by simp) ?_
          refine AllReady.cons rfl (fun K hK => ?_) ?_
          · refine step_of rfl ?_
            refine wp_at (fun W => W.cell? ⟨w.heap.size, 0, none⟩ = _) ((hF0.alloc _).alloc _).x4.cell (fun hc => ?_)
            go_simp
            refine hK _ _ ?_
            clear hK K hc
            refine wpAny_ready (rs := [3]) (by kernel_rfl) (by simp) ?_
            refine AllReady.cons rfl (fun K hK => ?_) ?_
            · refine step_of rfl ?_
              refine FS.appA (u := x1) (.tmp 25) (.tmp 27) 34 rfl el33 rfl rfl ((hF0.alloc _).alloc _) ?_ hn1 hAlt ?_
              · repeat (first | ((with_reducible refine heap_new' ?_); focus (simp; done)) | (with_reducible refine heap_drew' ?_) | (with_reducible refine heap_old' ?_) | (with_reducible refine hk _ _ ?_ ?_))
              intro gA cA WA hFA hk
              go_simp
              refine hK _ _ ?_
              clear hK K
              refine wpAny_ready (rs := [7]) (by kernel_rfl) (by simp) ?_
              refine AllReady.cons rfl (fun K hK => ?_) ?_
              · refine step_of rfl ?_
                refine FS.appB (u := x2) (.tmp 29) (.tmp 31) 34 rfl el33 rfl rfl hFA ?_ hn1 ?_
                · repeat (first | ((with_reducible refine heap_new' ?_); focus (simp; done)) | (with_reducible refine heap_drew' ?_) | (with_reducible refine heap_old' ?_) | (with_reducible refine hk _ _ ?_ ?_))
                  all_goals first | (simp; done) | exact Nat.le_succ _ | exact Nat.le_refl _ | exact Nat.le_succ_of_le (Nat.le_succ _)
                intro gB cB WB hFB
                go_simp
                refine hK _ _ ?_
                clear hK K
                refine wpAny_ready (rs := [8]) (by kernel_rfl) (by simp) ?_
                refine AllReady.cons rfl (fun K hK => ?_) ?_
                · refine step_of rfl ?_
                  refine wp_at (fun W => W.cell? ⟨w.heap.size, 0, none⟩ = _ ∧ W.frozen? ⟨w.heap.size, 0, none⟩ = false) ⟨hFB.x4.cell, hFB.x4.frozen⟩ (fun hc => ?_)
                  obtain ⟨hc, hf⟩ := hc
                  go_simp
                  refine hK _ _ ?_
                  clear hK K hc hf
                  refine wpAny_ready (rs := [9]) (by kernel_rfl) (by simp) ?_
                  refine AllReady.cons rfl (fun K hK => ?_) ?_
                  · refine step_of rfl ?_
                    refine wp_at (fun W => W.cell? ⟨w.heap.size + 1, 0, none⟩ = _ ∧ W.frozen? ⟨w.heap.size + 1, 0, none⟩ = false) ⟨(hFB.set4 _ (Nat.le_refl _) (Nat.succ_ne_self _)).x5.cell, (hFB.set4 _ (Nat.le_refl _) (Nat.succ_ne_self _)).x5.frozen⟩ (fun hc => ?_)
                    obtain ⟨hc, hf⟩ := hc
                    go_simp
                    refine hK _ _ ?_
                    clear hK K hc hf
                    refine wpAny_done (by kernel_rfl) ?_ _
                    exact layI_fin ((hFB.set4 _ (Nat.le_refl _) (Nat.succ_ne_self _)).set5 _ (Nat.le_succ _) (Nat.succ_ne_self _).symm)
                  exact AllReady.nil
                exact AllReady.nil
              exact AllReady.nil
            exact AllReady.nil
          exact AllReady.nil
        exact AllReady.nil
      refine AllReady.cons rfl (fun K hK => ?_) ?_
      · refine step_of rfl ?_
        go_simp
        refine hK _ _ ?_
        clear hK K
        refine wpAny_ready (rs := [0, 4]) (by kernel_rfl) (by simp) ?_
        refine AllReady.cons rfl (fun K hK => ?_) ?_
        · refine step_of rfl ?_
          refine wp_at (fun W => W.cell? ⟨w.heap.size, 0, none⟩ = _) ((hF0.alloc _).alloc _).x4.cell (fun hc => ?_)
          go_simp
          refine hK _ _ ?_
          clear hK K hc
          refine wpAny_ready (rs := [3, 4]) (by kernel_rfl) (by simp) ?_
          refine AllReady.cons rfl (fun K hK => ?_) ?_
          · refine step_of rfl ?_
            refine FS.appA (u := x1) (.tmp 25) (.tmp 27) 34 rfl el33 rfl rfl ((hF0.alloc _).alloc _) ?_ hn1 hAlt ?_
            · repeat (first | ((with_reducible refine heap_new' ?_); focus (simp; done)) | (with_reducible refine heap_drew' ?_) | (with_reducible refine heap_old' ?_) | (with_reducible refine hk _ _ ?_ ?_))
            intro gA cA WA hFA hk
            go_simp
            refine hK _ _ ?_
            clear hK K
            refine wpAny_ready (rs := [4]) (by kernel_rfl) (by simp) ?_
            refine AllReady.cons rfl (fun K hK => ?_) ?_
            · refine step_of rfl ?_
              refine wp_at (fun W => W.cell? ⟨w.heap.size + 1, 0, none⟩ = _) hFA.x5.cell (fun hc => ?_)
              go_simp
              refine hK _ _ ?_
              clear hK K hc
              refine wpAny_ready (rs := [7]) (by kernel_rfl) (by simp) ?_
              refine AllReady.cons rfl (fun K hK => ?_) ?_
              · refine step_of rfl ?_
                refine FS.appB (u := x2) (.tmp 29) (.tmp 31) 34 rfl el33 rfl rfl hFA ?_ hn1 ?_
                · repeat (first | ((with_reducible refine heap_new' ?_); focus (simp; done)) | (with_reducible refine heap_drew' ?_) | (with_reducible refine heap_old' ?_) | (with_reducible refine hk _ _ ?_ ?_))
                  all_goals first | (simp; done) | exact Nat.le_succ _ | exact Nat.le_refl _ | exact Nat.le_succ_of_le (Nat.le_succ _)
                intro gB cB WB hFB
                go_simp
                refine hK _ _ ?_
                clear hK K
                refine wpAny_ready (rs := [8]) (by kernel_rfl) (by simp) ?_
                refine AllReady.cons rfl (fun K hK => ?_) ?_
                · refine step_of rfl ?_
                  refine wp_at (fun W => W.cell? ⟨w.heap.size, 0, none⟩ = _ ∧ W.frozen? ⟨w.heap.size, 0, none⟩ = false) ⟨hFB.x4.cell, hFB.x4.frozen⟩ (fun hc => ?_)
                  obtain ⟨hc, hf⟩ := hc
                  go_simp
                  refine hK _ _ ?_
                  clear hK K hc hf
                  refine wpAny_ready (rs := [9]) (by kernel_rfl) (by simp) ?_
                  refine AllReady.cons rfl (fun K hK => ?_) ?_
                  · refine step_of rfl ?_
                    refine wp_at (fun W => W.cell? ⟨w.heap.size + 1, 0, none⟩ = _ ∧ W.frozen? ⟨w.heap.size + 1, 0, none⟩ = false) ⟨(hFB.set4 _ (Nat.le_refl _) (Nat.succ_ne_self _)).x5.cell, (hFB.set4 _ (Nat.le_refl _) (Nat.succ_ne_self _)).x5.frozen⟩ (fun hc => ?_)
                    obtain ⟨hc, hf⟩ := hc
                    go_simp
                    refine hK _ _ ?_
                    clear hK K hc hf
                    refine wpAny_done (by kernel_rfl) ?_ _
                    exact layI_fin ((hFB.set4 _ (Nat.le_refl _) (Nat.succ_ne_self _)).set5 _ (Nat.le_succ _) (Nat.succ_ne_self _).symm)
                  exact AllReady.nil
                exact AllReady.nil
              exact AllReady.nil
            exact AllReady.nil
          refine AllReady.cons rfl (fun K hK => ?_) ?_
          · refine step_of rfl ?_
            refine wp_at (fun W => W.cell? ⟨w.heap.size + 1, 0, none⟩ = _) ((hF0.alloc _).alloc _).x5.cell (fun hc => ?_)
            go_simp
            refine hK _ _ ?_
            clear hK K hc
            refine wpAny_ready (rs := [3]) (by kernel_rfl) (by simp) ?_
            refine AllReady.cons rfl (fun K hK => ?_) ?_
            · refine step_of rfl ?_
              refine FS.appA (u := x1) (.tmp 25) (.tmp 27) 34 rfl el33 rfl rfl ((hF0.alloc _).alloc _) ?_ hn1 hAlt ?_
              · repeat (first | ((with_reducible refine heap_new' ?_); focus (simp; done)) | (with_reducible refine heap_drew' ?_) | (with_reducible refine heap_old' ?_) | (with_reducible refine hk _ _ ?_ ?_))
              intro gA cA WA hFA hk
              go_simp
              refine hK _ _ ?_
              clear hK K
              refine wpAny_ready (rs := [7]) (by kernel_rfl) (by simp) ?_
              refine AllReady.cons rfl (fun K hK => ?_) ?_
              · refine step_of rfl ?_
                refine FS.appB (u := x2) (.tmp 29) (.tmp 31) 34 rfl el33 rfl rfl hFA ?_ hn1 ?_
                · repeat (first | ((with_reducible refine heap_new' ?_); focus (simp; done)) | (with_reducible refine heap_drew' ?_) | (with_reducible refine heap_old' ?_) | (with_reducible refine hk _ _ ?_ ?_))
                  all_goals first | (simp; done) | exact Nat.le_succ _ | exact Nat.le_refl _ | exact Nat.le_succ_of_le (Nat.le_succ _)
                intro gB cB WB hFB
                go_simp
                refine hK _ _ ?_
                clear hK K
                refine wpAny_ready (rs := [8]) (by kernel_rfl) (by simp) ?_
                refine AllReady.cons rfl (fun K hK => ?_) ?_
                · refine step_of rfl ?_
                  refine wp_at (fun W => W.cell? ⟨w.heap.size, 0, none⟩ = _ ∧ W.frozen? ⟨w.heap.size, 0, none⟩ = false) ⟨hFB.x4.cell, hFB.x4.frozen⟩ (fun hc => ?_)
                  obtain ⟨hc, hf⟩ := hc
                  go_simp
                  refine hK _ _ ?_
                  clear hK K hc hf
                  refine wpAny_ready (rs := [9]) (by kernel_rfl) (by simp) ?_
                  refine AllReady.cons rfl (fun K hK => ?_) ?_
                  · refine step_of rfl ?_
                    refine wp_at (fun W => W.cell? ⟨w.heap.size + 1, 0, none⟩ = _ ∧ W.frozen? ⟨w.heap.size + 1, 0, none⟩ = false) ⟨(hFB.set4 _ (Nat.le_refl _) (Nat.succ_ne_self _)).x5.cell, (hFB.set4 _ (Nat.le_refl _) (Nat.succ_ne_self _)).x5.frozen⟩ (fun hc => ?_)
                    obtain ⟨hc, hf⟩ := hc
                    go_simp
                    refine hK _ _ ?_
                    clear hK K hc hf
                    refine wpAny_done (by kernel_rfl) ?_ _
                    exact layI_fin ((hFB.set4 _ (Nat.le_refl _) (Nat.succ_ne_self _)).set5 _ (Nat.le_succ _) (Nat.succ_ne_self _).symm)
                  exact AllReady.nil
                exact AllReady.nil
              exact AllReady.nil
            exact AllReady.nil
          exact AllReady.nil
        refine AllReady.cons rfl (fun K hK => ?_) ?_
        · refine step_of rfl ?_
          refine wp_at (fun W => W.cell? ⟨w.heap.size + 1, 0, none⟩ = _) ((hF0.alloc _).alloc _).x5.cell (fun hc => ?_)
          go_simp
          refine hK _ _ ?_
          clear hK K hc
          refine wpAny_ready (rs := [0]) (by kernel_rfl) (by simp) ?_
          refine AllReady.cons rfl (fun K hK => ?_) ?_
          · refine step_of rfl ?_
            refine wp_at (fun W => W.cell? ⟨w.heap.size, 0, none⟩ = _) ((hF0.alloc _).alloc _).x4.cell (fun hc => ?_)
            go_simp
            refine hK _ _ ?_
            clear hK K hc
            refine wpAny_ready (rs := [3]) (by kernel_rfl) (by simp) ?_
            refine AllReady.cons rfl (fun K hK => ?_) ?_
            · refine step_of rfl ?_
              refine FS.appA (u := x1) (.tmp 25) (.tmp 27) 34 rfl el33 rfl rfl ((hF0.alloc _).alloc _) ?_ hn1 hAlt ?_
              · repeat (first | ((with_reducible refine heap_new' ?_); focus (simp; done)) | (with_reducible refine heap_drew' ?_) | (with_reducible refine heap_old' ?_) | (with_reducible refine hk _ _ ?_ ?_))
              intro gA cA WA hFA hk
              go_simp
              refine hK _ _ ?_
              clear hK K
              refine wpAny_ready (rs := [7]) (by kernel_rfl) (by simp) ?_
              refine AllReady.cons rfl (fun K hK => ?_) ?_
              · refine step_of rfl ?_
                refine FS.appB (u := x2) (.tmp 29) (.tmp 31) 34 rfl el33 rfl rfl hFA ?_ hn1 ?_
                · repeat (first | ((with_reducible refine heap_new' ?_); focus (simp; done)) | (with_reducible refine heap_drew' ?_) | (with_reducible refine heap_old' ?_) | (with_reducible refine hk _ _ ?_ ?_))
                  all_goals first | (simp; done) | exact Nat.le_succ _ | exact Nat.le_refl _ | exact Nat.le_succ_of_le (Nat.le_succ _)
                intro gB cB WB hFB
                go_simp
                refine hK _ _ ?_
                clear hK K
                refine wpAny_ready (rs := [8]) (by kernel_rfl) (by simp) ?_
                refine AllReady.cons rfl (fun K hK => ?_) ?_
                · refine step_of rfl ?_
                  refine wp_at (fun W => W.cell? ⟨w.heap.size, 0, none⟩ = _ ∧ W.frozen? ⟨w.heap.size, 0, none⟩ = false) ⟨hFB.x4.cell, hFB.x4.frozen⟩ (fun hc => ?_)
                  obtain ⟨hc, hf⟩ := hc
                  go_simp
                  refine hK _ _ ?_
                  clear hK K hc hf
                  refine wpAny_ready (rs := [9]) (by kernel_rfl) (by simp) ?_
                  refine AllReady.cons rfl (fun K hK => ?_) ?_
                  · refine step_of rfl ?_
                    refine wp_at (fun W => W.cell? ⟨w.heap.size + 1, 0, none⟩ = _ ∧ W.frozen? ⟨w.heap.size + 1, 0, none⟩ = false) ⟨(hFB.set4 _ (Nat.le_refl _) (Nat.succ_ne_self _)).x5.cell, (hFB.set4 _ (Nat.le_refl _) (Nat.succ_ne_self _)).x5.frozen⟩ (fun hc => ?_)
                    obtain ⟨hc, hf⟩ := hc
                    go_simp
                    refine hK _ _ ?_
                    clear hK K hc hf
                    refine wpAny_done (by kernel_rfl) ?_ _
                    exact layI_fin ((hFB.set4 _ (Nat.le_refl _) (Nat.succ_ne_self _)).set5 _ (Nat.le_succ _) (Nat.succ_ne_self _).symm)
                  exact AllReady.nil
                exact AllReady.nil
              exact AllReady.nil
            exact AllReady.nil
          exact AllReady.nil
        exact AllReady.nil
      exact AllReady.nil
    refine AllReady.cons rfl (fun K hK => ?_) ?_
    · refine step_of rfl ?_
      refine wp_at (fun W => W.cell? ⟨w.heap.size + 1, 0, none⟩ = _) hF0.x5.cell (fun hc => ?_)
      go_simp
      refine hK _ _ ?_
      clear hK K hc
      refine wpAny_ready (rs := [0, 2, 6]) (by kernel_rfl) (by simp) ?_
      refine AllReady.cons rfl (fun K hK => ?_) ?_
      · refine step_of rfl ?_
        refine wp_at (fun W => W.cell? ⟨w.heap.size, 0, none⟩ = _) hF0.x4.cell (fun hc => ?_)
        go_simp
        refine hK _ _ ?_
        clear hK K hc
        refine wpAny_ready (rs := [2, 6]) (by kernel_rfl) (by simp) ?_
        refine AllReady.cons rfl (fun K hK => ?_) ?_
        · refine step_of rfl ?_
          go_simp
          refine hK _ _ ?_
          clear hK K
          refine wpAny_ready (rs := [3, 6]) (by kernel_rfl) (by simp) ?_
          refine AllReady.cons rfl (fun K hK => ?_) ?_
          · refine step_of rfl ?_
            refine FS.appA (u := x1) (.tmp 25) (.tmp 27) 34 rfl el33 rfl rfl (hF0.alloc _) ?_ hn1 hAlt ?_
            · repeat (first | ((with_reducible refine heap_new' ?_); focus (simp; done)) | (with_reducible refine heap_drew' ?_) | (with_reducible refine heap_old' ?_) | (with_reducible refine hk _ _ ?_ ?_))
            intro gA cA WA hFA hk
            go_simp
            refine hK _ _ ?_
            clear hK K
            refine wpAny_ready (rs := [6]) (by kernel_rfl) (by simp) ?_
            refine AllReady.cons rfl (fun K hK => ?_) ?_
            · refine step_of rfl ?_
              go_simp
              refine hK _ _ ?_
              clear hK K
              refine wpAny_ready (rs := [7]) (by kernel_rfl) (by simp) ?_
              refine AllReady.cons rfl (fun K hK => ?_) ?_
              · refine step_of rfl ?_
                refine FS.appB (u := x2) (.tmp 29) (.tmp 31) 34 rfl el33 rfl rfl (hFA.alloc _) ?_ hn1 ?_
                · repeat (first | ((with_reducible refine heap_new' ?_); focus (simp; done)) | (with_reducible refine heap_drew' ?_) | (with_reducible refine heap_old' ?_) | (with_reducible refine hk _ _ ?_ ?_))
                  all_goals first | (simp; done) | exact Nat.le_succ _ | exact Nat.le_refl _ | exact Nat.le_succ_of_le (Nat.le_succ _)
                intro gB cB WB hFB
                go_simp
                refine hK _ _ ?_
                clear hK K
                refine wpAny_ready (rs := [8]) (by kernel_rfl) (by simp) ?_
                refine AllReady.cons rfl (fun K hK => ?_) ?_
                · refine step_of rfl ?_
                  refine wp_at (fun W => W.cell? ⟨w.heap.size, 0, none⟩ = _ ∧ W.frozen? ⟨w.heap.size, 0, none⟩ = false) ⟨hFB.x4.cell, hFB.x4.frozen⟩ (fun hc => ?_)
                  obtain ⟨hc, hf⟩ := hc
                  go_simp
                  refine hK _ _ ?_
                  clear hK K hc hf
                  refine wpAny_ready (rs := [9]) (by kernel_rfl) (by simp) ?_
                  refine AllReady.cons rfl (fun K hK => ?_) ?_
                  · refine step_of rfl ?_
                    refine wp_at (fun W => W.cell? ⟨w.heap.size + 1, 0, none⟩ = _ ∧ W.frozen? ⟨w.heap.size + 1, 0, none⟩ = false) ⟨(hFB.set4 _ (Nat.le_refl _) (Nat.succ_ne_self _)).x5.cell, (hFB.set4 _ (Nat.le_refl _) (Nat.succ_ne_self _)).x5.frozen⟩ (fun hc => ?_)
                    obtain ⟨hc, hf⟩ := hc
                    go_simp
                    refine hK _ _ ?_
                    clear hK K hc hf
                    refine wpAny_done (by kernel_rfl) ?_ _
                    exact layI_fin ((hFB.set4 _ (Nat.le_refl _) (Nat.succ_ne_self _)).set5 _ (Nat.le_succ _) (Nat.succ_ne_self _).symm)
                  exact AllReady.nil
                exact AllReady.nil
              exact AllReady.nil
            exact AllReady.nil
          refine AllReady.cons rfl (fun K hK => ?_) ?_
          · refine step_of rfl ?_
            go_simp
            refine hK _ _ ?_
            clear hK K
            refine wpAny_ready (rs := [3]) (by kernel_rfl) (by simp) ?_
            refine AllReady.cons rfl (fun K hK => ?_) ?_
            · refine step_of rfl ?_
              refine FS.appA (u := x1) (.tmp 25) (.tmp 27) 34 rfl el33 rfl rfl ((hF0.alloc _).alloc _) ?_ hn1 hAlt ?_
              · repeat (first | ((with_reducible refine heap_new' ?_); focus (simp; done)) | (with_reducible refine heap_drew' ?_) | (with_reducible refine heap_old' ?_) | (with_reducible refine hk _ _ ?_ ?_))
              intro gA cA WA hFA hk
              go_simp
              refine hK _ _ ?_
              clear hK K
              refine wpAny_ready (rs := [7]) (by kernel_rfl) (by simp) ?_
              refine AllReady.cons rfl (fun K hK => ?_) ?_
              · refine step_of rfl ?_
                refine FS.appB (u := x2) (.tmp 29) (.tmp 31) 34 rfl el33 rfl rfl hFA ?_ hn1 ?_
                · repeat (first | ((with_reducible refine heap_new' ?_); focus (simp; done)) | (with_reducible refine heap_drew' ?_) | (with_reducible refine heap_old' ?_) | (with_reducible refine hk _ _ ?_ ?_))
                  all_goals first | (simp; done) | exact Nat.le_succ _ | exact Nat.le_refl _ | exact Nat.le_succ_of_le (Nat.le_succ _)
                intro gB cB WB hFB
                go_simp
                refine hK _ _ ?_
                clear hK K
                refine wpAny_ready (rs := [8]) (by kernel_rfl) (by simp) ?_
                refine AllReady.cons rfl (fun K hK => ?_) ?_
                · refine step_of rfl ?_
                  refine wp_at (fun W => W.cell? ⟨w.heap.size, 0, none⟩ = _ ∧ W.frozen? ⟨w.heap.size, 0, none⟩ = false) ⟨hFB.x4.cell, hFB.x4.frozen⟩ (fun hc => ?_)
                  obtain ⟨hc, hf⟩ := hc
                  go_simp
                  refine hK _ _ ?_
                  clear hK K hc hf
                  refine wpAny_ready (rs := [9]) (by kernel_rfl) (by simp) ?_
                  refine AllReady.cons rfl (fun K hK => ?_) ?_
                  · refine step_of rfl ?_
                    refine wp_at (fun W => W.cell? ⟨w.heap.size + 1, 0, none⟩ = _ ∧ W.frozen? ⟨w.heap.size + 1, 0, none⟩ = false) ⟨(hFB.set4 _ (Nat.le_refl _) (Nat.succ_ne_self _)).x5.cell, (hFB.set4 _ (Nat.le_refl _) (Nat.succ_ne_self _)).x5.frozen⟩ (fun hc => ?_)
                    obtain ⟨hc, hf⟩ := hc
                    go_simp
                    refine hK _ _ ?_
                    clear hK K hc hf
                    refine wpAny_done (by kernel_rfl) ?_ _
                    exact layI_fin ((hFB.set4 _ (Nat.le_refl _) (Nat.succ_ne_self _)).set5 _ (Nat.le_succ _) (Nat.succ_ne_self _).symm)
                  exact AllReady.nil
                exact AllReady.nil
              exact AllReady.nil
            exact AllReady.nil
          exact AllReady.nil
        refine AllReady.cons rfl (fun K hK => ?_) ?_
        · refine step_of rfl ?_
          go_simp
          refine hK _ _ ?_
          clear hK K
          refine wpAny_ready (rs := [2]) (by kernel_rfl) (by simp) ?_
          refine AllReady.cons rfl (fun K hK => ?_) ?_
          · refine step_of rfl ?_
            go_simp
            refine hK _ _ ?_
            clear hK K
            refine wpAny_ready (rs := [3]) (by kernel_rfl) (by simp) ?_
            refine AllReady.cons rfl (fun K hK => ?_) ?_
            · refine step_of rfl ?_
              refine FS.appA (u := x1) (.tmp 25) (.tmp 27) 34 rfl el33 rfl rfl ((hF0.alloc _).alloc _) ?_ hn1 hAlt ?_
              · repeat (first | ((with_reducible refine heap_new' ?_); focus (simp; done)) | (with_reducible refine heap_drew' ?_) | (with_reducible refine heap_old' ?_) | (with_reducible refine hk _ _ ?_ ?_))
              intro gA cA WA hFA hk
              go_simp
              refine hK _ _ ?_
              clear hK K
              refine wpAny_ready (rs := [7]) (by kernel_rfl) (by simp) ?_
              refine AllReady.cons rfl (fun K hK => ?_) ?_
              · refine step_of rfl ?_
                refine FS.appB (u := x2) (.tmp 29) (.tmp 31) 34 rfl el33 rfl rfl hFA ?_ hn1 ?_
                · repeat (first | ((with_reducible refine heap_new' ?_); focus (simp; done)) | (with_reducible refine heap_drew' ?_) | (with_reducible refine heap_old' ?_) | (with_reducible refine hk _ _ ?_ ?_))
                  all_goals first | (simp; done) | exact Nat.le_succ _ | exact Nat.le_refl _ | exact Nat.le_succ_of_le (Nat.le_succ _)
                intro gB cB WB hFB
                go_simp
                refine hK _ _ ?_
                clear hK K
                refine wpAny_ready (rs := [8]) (by kernel_rfl) (by simp) ?_
                refine AllReady.cons rfl (fun K hK => ?_) ?_
                · refine step_of rfl ?_
                  refine wp_at (fun W => W.cell? ⟨w.heap.size, 0, none⟩ = _ ∧ W.frozen? ⟨w.heap.size, 0, none⟩ = false) ⟨hFB.x4.cell, hFB.x4.frozen⟩ (fun hc => ?_)
                  obtain ⟨hc, hf⟩ := hc
                  go_simp
                  refine hK _ _ ?_
                  clear hK K hc hf
                  refine wpAny_ready (rs := [9]) (by kernel_rfl) (by simp) ?_
                  refine AllReady.cons rfl (fun K hK => ?_) ?_
                  · refine step_of rfl ?_
                    refine wp_at (fun W => W.cell? ⟨w.heap.size + 1, 0, none⟩ = _ ∧ W.frozen? ⟨w.heap.size + 1, 0, none⟩ = false) ⟨(hFB.set4 _ (Nat.le_refl _) (Nat.succ_ne_self _)).x5.cell, (hFB.set4 _ (Nat.le_refl _) (Nat.succ_ne_self _)).x5.frozen⟩ (fun hc => ?_)
                    obtain ⟨hc, hf⟩ := hc
                    go_simp
                    refine hK _ _ ?_
                    clear hK K hc hf
                    refine wpAny_done (by kernel_rfl) ?_ _
                    exact layI_fin ((hFB.set4 _ (Nat.le_refl _) (Nat.succ_ne_self _)).set5 _ (Nat.le_succ _) (Nat.succ_ne_self _).symm)
                  exact AllReady.nil
                exact AllReady.nil
              exact AllReady.nil
            exact AllReady.nil
          exact AllReady.nil
        exact AllReady.nil
      refine AllReady.cons rfl (fun K hK => ?_) ?_
      · refine step_of rfl ?_
        go_simp
        refine hK _ _ ?_
        clear hK K
        refine wpAny_ready (rs := [0, 6]) (by kernel_rfl) (by simp) ?_
        refine AllReady.cons rfl (fun K hK => ?_) ?_
        · refine step_of rfl ?_
          refine wp_at (fun W => W.cell? ⟨w.heap.size, 0, none⟩ = _) (hF0.alloc _).x4.cell (fun hc => ?_)
          go_simp
          refine hK _ _ ?_
          clear hK K hc
          refine wpAny_ready (rs := [3, 6]) (by kernel_rfl) (by simp) ?_
          refine AllReady.cons rfl (fun K hK => ?_) ?_
          · refine step_of rfl ?_
            refine FS.appA (u := x1) (.tmp 25) (.tmp 27) 34 rfl el33 rfl rfl (hF0.alloc _) ?_ hn1 hAlt ?_
            · repeat (first | ((with_reducible refine heap_new' ?_); focus (simp; done)) | (with_reducible refine heap_drew' ?_) | (with_reducible refine heap_old' ?_) | (with_reducible refine hk _ _ ?_ ?_))
            intro gA cA WA hFA hk
            go_simp
            refine hK _ _ ?_
            clear hK K
            refine wpAny_ready (rs := [6]) (by kernel_rfl) (by simp) ?_
            refine AllReady.cons rfl (fun K hK => ?_) ?_
            · refine step_of rfl ?_
              go_simp
              refine hK _ _ ?_
              clear hK K
              refine wpAny_ready (rs := [7]) (by kernel_rfl) (by simp) ?_
              refine AllReady.cons rfl (fun K hK => ?_) ?_
              · refine step_of rfl ?_
                refine FS.appB (u := x2) (.tmp 29) (.tmp 31) 34 rfl el33 rfl rfl (hFA.alloc _) ?_ hn1 ?_
                · repeat (first | ((with_reducible refine heap_new' ?_); focus (simp; done)) | (with_reducible refine heap_drew' ?_) | (with_reducible refine heap_old' ?_) | (with_reducible refine hk _ _ ?_ ?_))
                  all_goals first | (simp; done) | exact Nat.le_succ _ | exact Nat.le_refl _ | exact Nat.le_succ_of_le (Nat.le_succ _)
                intro gB cB WB hFB
                go_simp
                refine hK _ _ ?_
                clear hK K
                refine wpAny_ready (rs := [8]) (by kernel_rfl) (by simp) ?_
                refine AllReady.cons rfl (fun K hK => ?_) ?_
                · refine step_of rfl ?_
                  refine wp_at (fun W => W.cell? ⟨w.heap.size, 0, none⟩ = _ ∧ W.frozen? ⟨w.heap.size, 0, none⟩ = false) ⟨hFB.x4.cell, hFB.x4.frozen⟩ (fun hc => ?_)
                  obtain ⟨hc, hf⟩ := hc
                  go_simp
                  refine hK _ _ ?_
                  clear hK K hc hf
                  refine wpAny_ready (rs := [9]) (by kernel_rfl) (by simp) ?_
                  refine AllReady.cons rfl (fun K hK => ?_) ?_
                  · refine step_of rfl ?_
                    refine wp_at (fun W => W.cell? ⟨w.heap.size + 1, 0, none⟩ = _ ∧ W.frozen? ⟨w.heap.size + 1, 0, none⟩ = false) ⟨(hFB.set4 _ (Nat.le_refl _) (Nat.succ_ne_self _)).x5.cell, (hFB.set4 _ (Nat.le_refl _) (Nat.succ_ne_self _)).x5.frozen⟩ (fun hc => ?_)
                    obtain ⟨hc, hf⟩ := hc
                    go_simp
                    refine hK _ _ ?_
                    clear hK K hc hf
                    refine wpAny_done (by kernel_rfl) ?_ _
                    exact layI_fin ((hFB.set4 _ (Nat.le_refl _) (Nat.succ_ne_self _)).set5 _ (Nat.le_succ _) (Nat.succ_ne_self _).symm)
                  exact AllReady.nil
                exact AllReady.nil
              exact AllReady.nil
            exact AllReady.nil
          refine AllReady.cons rfl (fun K hK => ?_) ?_
          · refine step_of rfl ?_
            go_simp
            refine hK _ _ ?_
            clear hK K
            refine wpAny_ready (rs := [3]) (by kernel_rfl) (by simp) ?_
            refine AllReady.cons rfl (fun K hK => ?_) ?_
            · refine step_of rfl ?_
              refine FS.appA (u := x1) (.tmp 25) (.tmp 27) 34 rfl el33 rfl rfl ((hF0.alloc _).alloc _) ?_ hn1 hAlt ?_
              · repeat (first | ((with_reducible refine heap_new' ?_); focus (simp; done)) | (with_reducible refine heap_drew' ?_) | (with_reducible refine heap_old' ?_) | (with_reducible refine hk _ _ ?_ ?_))
              intro gA cA WA hFA hk
              go_simp
              refine hK _ _ ?_
              clear hK K
              refine wpAny_ready (rs := [7]) (by kernel_rfl) (by simp) ?_
              refine AllReady.cons rfl (fun K hK => ?_) ?_
              · refine step_of rfl ?_
                refine FS.appB (u := x2) (.tmp 29) (.tmp 31) 34 rfl el33 rfl rfl hFA ?_ hn1 ?_
                · repeat (first | ((with_reducible refine heap_new' ?_); focus (simp; done)) | (with_reducible refine heap_drew' ?_) | (with_reducible refine heap_old' ?_) | (with_reducible refine hk _ _ ?_ ?_))
                  all_goals first | (simp; done) | exact Nat.le_succ _ | exact Nat.le_refl _ | exact Nat.le_succ_of_le (Nat.le_succ _)
                intro gB cB WB hFB
                go_simp
                refine hK _ _ ?_
                clear hK K
                refine wpAny_ready (rs := [8]) (by kernel_rfl) (by simp) ?_
                refine AllReady.cons rfl (fun K hK => ?_) ?_
                · refine step_of rfl ?_
                  refine wp_at (fun W => W.cell? ⟨w.heap.size, 0, none⟩ = _ ∧ W.frozen? ⟨w.heap.size, 0, none⟩ = false) ⟨hFB.x4.cell, hFB.x4.frozen⟩ (fun hc => ?_)
                  obtain ⟨hc, hf⟩ := hc
                  go_simp
                  refine hK _ _ ?_
                  clear hK K hc hf
                  refine wpAny_ready (rs := [9]) (by kernel_rfl) (by simp) ?_
                  refine AllReady.cons rfl (fun K hK => ?_) ?_
                  · refine step_of rfl ?_
                    refine wp_at (fun W => W.cell? ⟨w.heap.size + 1, 0, none⟩ = _ ∧ W.frozen? ⟨w.heap.size + 1, 0, none⟩ = false) ⟨(hFB.set4 _ (Nat.le_refl _) (Nat.succ_ne_self _)).x5.cell, (hFB.set4 _ (Nat.le_refl _) (Nat.succ_ne_self _)).x5.frozen⟩ (fun hc => ?_)
                    obtain ⟨hc, hf⟩ := hc
                    go_simp
                    refine hK _ _ ?_
                    clear hK K hc hf
                    refine wpAny_done (by kernel_rfl) ?_ _
                    exact layI_fin ((hFB.set4 _ (Nat.le_refl _) (Nat.succ_ne_self _)).set5 _ (Nat.le_succ _) (Nat.succ_ne_self _).symm)
                  exact AllReady.nil
                exact AllReady.nil
              exact AllReady.nil
            exact AllReady.nil
          exact AllReady.nil
        refine AllReady.cons rfl (fun K hK => ?_) ?_
        · refine step_of rfl ?_
          go_simp
          refine hK _ _ ?_
          clear hK K
          refine wpAny_ready (rs := [0]) (by kernel_rfl) (by simp) ?_
          refine AllReady.cons rfl (fun K hK => ?_) ?_
          · refine step_of rfl ?_
            refine wp_at (fun W => W.cell? ⟨w.heap.size, 0, none⟩ = _) ((hF0.alloc _).alloc _).x4.cell (fun hc => ?_)
            go_simp
            refine hK _ _ ?_
            clear hK K hc
            refine wpAny_ready (rs := [3]) (by kernel_rfl) (by simp) ?_
            refine AllReady.cons rfl (fun K hK => ?_) ?_
            · refine step_of rfl ?_
              refine FS.appA (u := x1) (.tmp 25) (.tmp 27) 34 rfl el33 rfl rfl ((hF0.alloc _).alloc _) ?_ hn1 hAlt ?_
              · repeat (first | ((with_reducible refine heap_new' ?_); focus (simp; done)) | (with_reducible refine heap_drew' ?_) | (with_reducible refine heap_old' ?_) | (with_reducible refine hk _ _ ?_ ?_))
              intro gA cA WA hFA hk
              go_simp
              refine hK _ _ ?_
              clear hK K
              refine wpAny_ready (rs := [7]) (by kernel_rfl) (by simp) ?_
              refine AllReady.cons rfl (fun K hK => ?_) ?_
              · refine step_of rfl ?_
                refine FS.appB (u := x2) (.tmp 29) (.tmp 31) 34 rfl el33 rfl rfl hFA ?_ hn1 ?_
                · repeat (first | ((with_reducible refine heap_new' ?_); focus (simp; done)) | (with_reducible refine heap_drew' ?_) | (with_reducible refine heap_old' ?_) | (with_reducible refine hk _ _ ?_ ?_))
                  all_goals first | (simp; done) | exact Nat.le_succ _ | exact Nat.le_refl _ | exact Nat.le_succ_of_le (Nat.le_succ _)
                intro gB cB WB hFB
                go_simp
                refine hK _ _ ?_
                clear hK K
                refine wpAny_ready (rs := [8]) (by kernel_rfl) (by simp) ?_
                refine AllReady.cons rfl (fun K hK => ?_) ?_
                · refine step_of rfl ?_
                  refine wp_at (fun W => W.cell? ⟨w.heap.size, 0, none⟩ = _ ∧ W.frozen? ⟨w.heap.size, 0, none⟩ = false) ⟨hFB.x4.cell, hFB.x4.frozen⟩ (fun hc => ?_)
                  obtain ⟨hc, hf⟩ := hc
                  go_simp
                  refine hK _ _ ?_
                  clear hK K hc hf
                  refine wpAny_ready (rs := [9]) (by kernel_rfl) (by simp) ?_
                  refine AllReady.cons rfl (fun K hK => ?_) ?_
                  · refine step_of rfl ?_
                    refine wp_at (fun W => W.cell? ⟨w.heap.size + 1, 0, none⟩ = _ ∧ W.frozen? ⟨w.heap.size + 1, 0, none⟩ = false) ⟨(hFB.set4 _ (Nat.le_refl _) (Nat.succ_ne_self _)).x5.cell, (hFB.set4 _ (Nat.le_refl _) (Nat.succ_ne_self _)).x5.frozen⟩ (fun hc => ?_)
                    obtain ⟨hc, hf⟩ := hc
                    go_simp
                    refine hK _ _ ?_
                    clear hK K hc hf
                    refine wpAny_done (by kernel_rfl) ?_ _
                    exact layI_fin ((hFB.set4 _ (Nat.le_refl _) (Nat.succ_ne_self _)).set5 _ (Nat.le_succ _) (Nat.succ_ne_self _).symm)
                  exact AllReady.nil
                exact AllReady.nil
              exact AllReady.nil
            exact AllReady.nil
          exact AllReady.nil
        exact AllReady.nil
      refine AllReady.cons rfl (fun K hK => ?_) ?_
      · refine step_of rfl ?_
        go_simp
        refine hK _ _ ?_
        clear hK K
        refine wpAny_ready (rs := [0, 2]) (by kernel_rfl) (by simp) ?_
        refine AllReady.cons rfl (fun K hK => ?_) ?_
        · refine step_of rfl ?_
          refine wp_at (fun W => W.cell? ⟨w.heap.size, 0, none⟩ = _) (hF0.alloc _).x4.cell (fun hc => ?_)
          go_simp
          refine hK _ _ ?_
          clear hK K hc
          refine wpAny_ready (rs := [2]) (by kernel_rfl) (by simp) ?_
          refine AllReady.cons rfl (fun K hK => ?_) ?_
          · refine step_of rfl ?_
            go_simp
            refine hK _ _ ?_
            clear hK K
            refine wpAny_ready (rs := [3]) (by kernel_rfl) (by simp) ?_
            refine AllReady.cons rfl (fun K hK => ?_) ?_
            · refine step_of rfl ?_
              refine FS.appA (u := x1) (.tmp 25) (.tmp 27) 34 rfl el33 rfl rfl ((hF0.alloc _).alloc _) ?_ hn1 hAlt ?_
              · repeat (first | ((with_reducible refine heap_new' ?_); focus (simp; done)) | (with_reducible refine heap_drew' ?_) | (with_reducible refine heap_old' ?_) | (with_reducible refine hk _ _ ?_ ?_))
              intro gA cA WA hFA hk
              go_simp
              refine hK _ _ ?_
              clear hK K
              refine wpAny_ready (rs := [7]) (by kernel_rfl) (by simp) ?_
              refine AllReady.cons rfl (fun K hK => ?_) ?_
              · refine step_of rfl ?_
                refine FS.appB (u := x2) (.tmp 29) (.tmp 31) 34 rfl el33 rfl rfl hFA ?_ hn1 ?_
                · repeat (first | ((with_reducible refine heap_new' ?_); focus (simp; done)) | (with_reducible refine heap_drew' ?_) | (with_reducible refine heap_old' ?_) | (with_reducible refine hk _ _ ?_ ?_))
                  all_goals first | (simp; done) | exact Nat.le_succ _ | exact Nat.le_refl _ | exact Nat.le_succ_of_le (Nat.le_succ _)
                intro gB cB WB hFB
                go_simp
                refine hK _ _ ?_
                clear hK K
                refine wpAny_ready (rs := [8]) (by kernel_rfl) (by simp) ?_
                refine AllReady.cons rfl (fun K hK => ?_) ?_
                · refine step_of rfl ?_
                  refine wp_at (fun W => W.cell? ⟨w.heap.size, 0, none⟩ = _ ∧ W.frozen? ⟨w.heap.size, 0, none⟩ = false) ⟨hFB.x4.cell, hFB.x4.frozen⟩ (fun hc => ?_)
                  obtain ⟨hc, hf⟩ := hc
                  go_simp
                  refine hK _ _ ?_
                  clear hK K hc hf
                  refine wpAny_ready (rs := [9]) (by kernel_rfl) (by simp) ?_
                  refine AllReady.cons rfl (fun K hK => ?_) ?_
                  · refine step_of rfl ?_
                    refine wp_at (fun W => W.cell? ⟨w.heap.size + 1, 0, none⟩ = _ ∧ W.frozen? ⟨w.heap.size + 1, 0, none⟩ = false) ⟨(hFB.set4 _ (Nat.le_refl _) (Nat.succ_ne_self _)).x5.cell, (hFB.set4 _ (Nat.le_refl _) (Nat.succ_ne_self _)).x5.frozen⟩ (fun hc => ?_)
                    obtain ⟨hc, hf⟩ := hc
                    go_simp
                    refine hK _ _ ?_
                    clear hK K hc hf
                    refine wpAny_done (by kernel_rfl) ?_ _
                    exact layI_fin ((hFB.set4 _ (Nat.le_refl _) (Nat.succ_ne_self _)).set5 _ (Nat.le_succ _) (Nat.succ_ne_self _).symm)
                  exact AllReady.nil
                exact AllReady.nil
              exact AllReady.nil
            exact AllReady.nil
          exact AllReady.nil
        refine AllReady.cons rfl (fun K hK => ?_) ?_
        · refine step_of rfl ?_
          go_simp
          refine hK _ _ ?_
          clear hK K
          refine wpAny_ready (rs := [0]) (by kernel_rfl) (by simp) ?_
          refine AllReady.cons rfl (fun K hK => ?_) ?_
          · refine step_of rfl ?_
            refine wp_at (fun W => W.cell? ⟨w.heap.size, 0, none⟩ = _) ((hF0.alloc _).alloc _).x4.cell (fun hc => ?_)
            go_simp
            refine hK _ _ ?_
            clear hK K hc
            refine wpAny_ready (rs := [3]) (by kernel_rfl) (by simp) ?_
            refine AllReady.cons rfl (fun K hK => ?_) ?_
            · refine step_of rfl ?_
              refine FS.appA (u := x1) (.tmp 25) (.tmp 27) 34 rfl el33 rfl rfl ((hF0.alloc _).alloc _) ?_ hn1 hAlt ?_
              · repeat (first | ((with_reducible refine heap_new' ?_); focus (simp; done)) | (with_reducible refine heap_drew' ?_) | (with_reducible refine heap_old' ?_) | (with_reducible refine hk _ _ ?_ ?_))
              intro gA cA WA hFA hk
              go_simp
              refine hK _ _ ?_
              clear hK K
              refine wpAny_ready (rs := [7]) (by kernel_rfl) (by simp) ?_
              refine AllReady.cons rfl (fun K hK => ?_) ?_
              · refine step_of rfl ?_
                refine FS.appB (u := x2) (.tmp 29) (.tmp 31) 34 rfl el33 rfl rfl hFA ?_ hn1 ?_
                · repeat (first | ((with_reducible refine heap_new' ?_); focus (simp; done)) | (with_reducible refine heap_drew' ?_) | (with_reducible refine heap_old' ?_) | (with_reducible refine hk _ _ ?_ ?_))
                  all_goals first | (simp; done) | exact Nat.le_succ _ | exact Nat.le_refl _ | exact Nat.le_succ_of_le (Nat.le_succ _)
                intro gB cB WB hFB
                go_simp
                refine hK _ _ ?_
                clear hK K
                refine wpAny_ready (rs := [8]) (by kernel_rfl) (by simp) ?_
                refine AllReady.cons rfl (fun K hK => ?_) ?_
                · refine step_of rfl ?_
                  refine wp_at (fun W => W.cell? ⟨w.heap.size, 0, none⟩ = _ ∧ W.frozen? ⟨w.heap.size, 0, none⟩ = false) ⟨hFB.x4.cell, hFB.x4.frozen⟩ (fun hc => ?_)
                  obtain ⟨hc, hf⟩ := hc
                  go_simp
                  refine hK _ _ ?_
                  clear hK K hc hf
                  refine wpAny_ready (rs := [9]) (by kernel_rfl) (by simp) ?_
                  refine AllReady.cons rfl (fun K hK => ?_) ?_
                  · refine step_of rfl ?_
                    refine wp_at (fun W => W.cell? ⟨w.heap.size + 1, 0, none⟩ = _ ∧ W.frozen? ⟨w.heap.size + 1, 0, none⟩ = false) ⟨(hFB.set4 _ (Nat.le_refl _) (Nat.succ_ne_self _)).x5.cell, (hFB.set4 _ (Nat.le_refl _) (Nat.succ_ne_self _)).x5.frozen⟩ (fun hc => ?_)
                    obtain ⟨hc, hf⟩ := hc
                    go_simp
                    refine hK _ _ ?_
                    clear hK K hc hf
                    refine wpAny_done (by kernel_rfl) ?_ _
                    exact layI_fin ((hFB.set4 _ (Nat.le_refl _) (Nat.succ_ne_self _)).set5 _ (Nat.le_succ _) (Nat.succ_ne_self _).symm)
                  exact AllReady.nil
                exact AllReady.nil
              exact AllReady.nil
            exact AllReady.nil
          exact AllReady.nil
        exact AllReady.nil
      exact AllReady.nil
    refine AllReady.cons rfl (fun K hK => ?_) ?_
    · refine step_of rfl ?_
      go_simp
      refine hK _ _ ?_
      clear hK K
      refine wpAny_ready (rs := [0, 2, 4]) (by kernel_rfl) (by simp) ?_
      refine AllReady.cons rfl (fun K hK => ?_) ?_
      · refine step_of rfl ?_
        refine wp_at (fun W => W.cell? ⟨w.heap.size, 0, none⟩ = _) (hF0.alloc _).x4.cell (fun hc => ?_)
        go_simp
        refine hK _ _ ?_
        clear hK K hc
        refine wpAny_ready (rs := [2, 4]) (by kernel_rfl) (by simp) ?_
        refine AllReady.cons rfl (fun K hK => ?_) ?_
        · refine step_of rfl ?_
          go_simp
          refine hK _ _ ?_
          clear hK K
          refine wpAny_ready (rs := [3, 4]) (by kernel_rfl) (by simp) ?_
          refine AllReady.cons rfl (fun K hK => ?_) ?_
          · refine step_of rfl ?_
            refine FS.appA (u := x1) (.tmp 25) (.tmp 27) 34 rfl el33 rfl rfl ((hF0.alloc _).alloc _) ?_ hn1 hAlt ?_
            · repeat (first | ((with_reducible refine heap_new' ?_); focus (simp; done)) | (with_reducible refine heap_drew' ?_) | (with_reducible refine heap_old' ?_) | (with_reducible refine hk _ _ ?_ ?_))
            intro gA cA WA hFA hk
            go_simp
            refine hK _ _ ?_
            clear hK K
            refine wpAny_ready (rs := [4]) (by kernel_rfl) (by simp) ?_
            refine AllReady.cons rfl (fun K hK => ?_) ?_
            · refine step_of rfl ?_
              refine wp_at (fun W => W.cell? ⟨w.heap.size + 1, 0, none⟩ = _) hFA.x5.cell (fun hc => ?_)
              go_simp
              refine hK _ _ ?_
              clear hK K hc
              refine wpAny_ready (rs := [7]) (by kernel_rfl) (by simp) ?_
              refine AllReady.cons rfl (fun K hK => ?_) ?_
              · refine step_of rfl ?_
                refine FS.appB (u := x2) (.tmp 29) (.tmp 31) 34 rfl el33 rfl rfl hFA ?_ hn1 ?_
                · repeat (first | ((with_reducible refine heap_new' ?_); focus (simp; done)) | (with_reducible refine heap_drew' ?_) | (with_reducible refine heap_old' ?_) | (with_reducible refine hk _ _ ?_ ?_))
                  all_goals first | (simp; done) | exact Nat.le_succ _ | exact Nat.le_refl _ | exact Nat.le_succ_of_le (Nat.le_succ _)
                intro gB cB WB hFB
                go_simp
                refine hK _ _ ?_
                clear hK K
                refine wpAny_ready (rs := [8]) (by kernel_rfl) (by simp) ?_
                refine AllReady.cons rfl (fun K hK => ?_) ?_
                · refine step_of rfl ?_
                  refine wp_at (fun W => W.cell? ⟨w.heap.size, 0, none⟩ = _ ∧ W.frozen? ⟨w.heap.size, 0, none⟩ = false) ⟨hFB.x4.cell, hFB.x4.frozen⟩ (fun hc => ?_)
                  obtain ⟨hc, hf⟩ := hc
                  go_simp
                  refine hK _ _ ?_
                  clear hK K hc hf
                  refine wpAny_ready (rs := [9]) (by kernel_rfl) (by simp) ?_
                  refine AllReady.cons rfl (fun K hK => ?_) ?_
                  · refine step_of rfl ?_
                    refine wp_at (fun W => W.cell? ⟨w.heap.size + 1, 0, none⟩ = _ ∧ W.frozen? ⟨w.heap.size + 1, 0, none⟩ = false) ⟨(hFB.set4 _ (Nat.le_refl _) (Nat.succ_ne_self _)).x5.cell, (hFB.set4 _ (Nat.le_refl _) (Nat.succ_ne_self _)).x5.frozen⟩ (fun hc => ?_)
                    obtain ⟨hc, hf⟩ := hc
                    go_simp
                    refine hK _ _ ?_
                    clear hK K hc hf
                    refine wpAny_done (by kernel_rfl) ?_ _
                    exact layI_fin ((hFB.set4 _ (Nat.le_refl _) (Nat.succ_ne_self _)).set5 _ (Nat.le_succ _) (Nat.succ_ne_self _).symm)
                  exact AllReady.nil
                exact AllReady.nil
              exact AllReady.nil
            exact AllReady.nil
          refine AllReady.cons rfl (fun K hK => ?_) ?_
          · refine step_of rfl ?_
            refine wp_at (fun W => W.cell? ⟨w.heap.size + 1, 0, none⟩ = _) ((hF0.alloc _).alloc _).x5.cell (fun hc => ?_)
            go_simp
            refine hK _ _ ?_
            clear hK K hc
            refine wpAny_ready (rs := [3]) (by kernel_rfl) (by simp) ?_
            refine AllReady.cons rfl (fun K hK => ?_) ?_
            · refine step_of rfl ?_
              refine FS.appA (u := x1) (.tmp 25) (.tmp 27) 34 rfl el33 rfl rfl ((hF0.alloc _).alloc _) ?_ hn1 hAlt ?_
              · repeat (first | ((with_reducible refine heap_new' ?_); focus (simp; done)) | (with_reducible refine heap_drew' ?_) | (with_reducible refine heap_old' ?_) | (with_reducible refine hk _ _ ?_ ?_))
              intro gA cA WA hFA hk
              go_simp
              refine hK _ _ ?_
              clear hK K
              refine wpAny_ready (rs := [7]) (by kernel_rfl) (by simp) ?_
              refine AllReady.cons rfl (fun K hK => ?_) ?_
              · refine step_of rfl ?_
                refine FS.appB (u := x2) (.tmp 29) (.tmp 31) 34 rfl el33 rfl rfl hFA ?_ hn1 ?_
                · repeat (first | ((with_reducible refine heap_new' ?_); focus (simp; done)) | (with_reducible refine heap_drew' ?_) | (with_reducible refine heap_old' ?_) | (with_reducible refine hk _ _ ?_ ?_))
                  all_goals first | (simp; done) | exact Nat.le_succ _ | exact Nat.le_refl _ | exact Nat.le_succ_of_le (Nat.le_succ _)
                intro gB cB WB hFB
                go_simp
                refine hK _ _ ?_
                clear hK K
                refine wpAny_ready (rs := [8]) (by kernel_rfl) (by simp) ?_
                refine AllReady.cons rfl (fun K hK => ?_) ?_
                · refine step_of rfl ?_
                  refine wp_at (fun W => W.cell? ⟨w.heap.size, 0, none⟩ = _ ∧ W.frozen? ⟨w.heap.size, 0, none⟩ = false) ⟨hFB.x4.cell, hFB.x4.frozen⟩ (fun hc => ?_)
                  obtain ⟨hc, hf⟩ := hc
                  go_simp
                  refine hK _ _ ?_
                  clear hK K hc hf
                  refine wpAny_ready (rs := [9]) (by kernel_rfl) (by simp) ?_
                  refine AllReady.cons rfl (fun K hK => ?_) ?_
                  · refine step_of rfl ?_
                    refine wp_at (fun W => W.cell? ⟨w.heap.size + 1, 0, none⟩ = _ ∧ W.frozen? ⟨w.heap.size + 1, 0, none⟩ = false) ⟨(hFB.set4 _ (Nat.le_refl _) (Nat.succ_ne_self _)).x5.cell, (hFB.set4 _ (Nat.le_refl _) (Nat.succ_ne_self _)).x5.frozen⟩ (fun hc => ?_)
                    obtain ⟨hc, hf⟩ := hc
                    go_simp
                    refine hK _ _ ?_
                    clear hK K hc hf
                    refine wpAny_done (by kernel_rfl) ?_ _
                    exact layI_fin ((hFB.set4 _ (Nat.le_refl _) (Nat.succ_ne_self _)).set5 _ (Nat.le_succ _) (Nat.succ_ne_self _).symm)
                  exact AllReady.nil
                exact AllReady.nil
              exact AllReady.nil
            exact AllReady.nil
          exact AllReady.nil
        refine AllReady.cons rfl (fun K hK => ?_) ?_
        · refine step_of rfl ?_
          refine wp_at (fun W => W.cell? ⟨w.heap.size + 1, 0, none⟩ = _) (hF0.alloc _).x5.cell (fun hc => ?_)
          go_simp
          refine hK _ _ ?_
          clear hK K hc
          refine wpAny_ready (rs := [2]) (by kernel_rfl) (by simp) ?_
          refine AllReady.cons rfl (fun K hK => ?_) ?_
          · refine step_of rfl ?_
            go_simp
            refine hK _ _ ?_
            clear hK K
            refine wpAny_ready (rs := [3]) (by kernel_rfl) (by simp) ?_
            refine AllReady.cons rfl (fun K hK => ?_) ?_
            · refine step_of rfl ?_
              refine FS.appA (u := x1) (.tmp 25) (.tmp 27) 34 rfl el33 rfl rfl ((hF0.alloc _).alloc _) ?_ hn1 hAlt ?_
              · repeat (first | ((with_reducible refine heap_new' ?_); focus (simp; done)) | (with_reducible refine heap_drew' ?_) | (with_reducible refine heap_old' ?_) | (with_reducible refine hk _ _ ?_ ?_))
              intro gA cA WA hFA hk
              go_simp
              refine hK _ _ ?_
              clear hK K
              refine wpAny_ready (rs := [7]) (by kernel_rfl) (by simp) ?_
              refine AllReady.cons rfl (fun K hK => ?_) ?_
              · refine step_of rfl ?_
                refine FS.appB (u := x2) (.tmp 29) (.tmp 31) 34 rfl el33 rfl rfl hFA ?_ hn1 ?_
                · repeat (first | ((with_reducible refine heap_new' ?_); focus (simp; done)) | (with_reducible refine heap_drew' ?_) | (with_reducible refine heap_old' ?_) | (with_reducible refine hk _ _ ?_ ?_))
                  all_goals first | (simp; done) | exact Nat.le_succ _ | exact Nat.le_refl _ | exact Nat.le_succ_of_le (Nat.le_succ _)
                intro gB cB WB hFB
                go_simp
                refine hK _ _ ?_
                clear hK K
                refine wpAny_ready (rs := [8]) (by kernel_rfl) (by simp) ?_
                refine AllReady.cons rfl (fun K hK => ?_) ?_
                · refine step_of rfl ?_
                  refine wp_at (fun W => W.cell? ⟨w.heap.size, 0, none⟩ = _ ∧ W.frozen? ⟨w.heap.size, 0, none⟩ = false) ⟨hFB.x4.cell, hFB.x4.frozen⟩ (fun hc => ?_)
                  obtain ⟨hc, hf⟩ := hc
                  go_simp
                  refine hK _ _ ?_
                  clear hK K hc hf
                  refine wpAny_ready (rs := [9]) (by kernel_rfl) (by simp) ?_
                  refine AllReady.cons rfl (fun K hK => ?_) ?_
                  · refine step_of rfl ?_
                    refine wp_at (fun W => W.cell? ⟨w.heap.size + 1, 0, none⟩ = _ ∧ W.frozen? ⟨w.heap.size + 1, 0, none⟩ = false) ⟨(hFB.set4 _ (Nat.le_refl _) (Nat.succ_ne_self _)).x5.cell, (hFB.set4 _ (Nat.le_refl _) (Nat.succ_ne_self _)).x5.frozen⟩ (fun hc => ?_)
                    obtain ⟨hc, hf⟩ := hc
                    go_simp
                    refine hK _ _ ?_
                    clear hK K hc hf
                    refine wpAny_done (by kernel_rfl) ?_ _
                    exact layI_fin ((hFB.set4 _ (Nat.le_refl _) (Nat.succ_ne_self _)).set5 _ (Nat.le_succ _) (Nat.succ_ne_self _).symm)
                  exact AllReady.nil
                exact AllReady.nil
              exact AllReady.nil
            exact AllReady.nil
          exact AllReady.nil
        exact AllReady.nil
      refine AllReady.cons rfl (fun K hK => ?_) ?_
      · refine step_of rfl ?_
        go_simp
        refine hK _ _ ?_
        clear hK K
        refine wpAny_ready (rs := [0, 4]) (by kernel_rfl) (by simp) ?_
        refine AllReady.cons rfl (fun K hK => ?_) ?_
        · refine step_of rfl ?_
          refine wp_at (fun W => W.cell? ⟨w.heap.size, 0, none⟩ = _) ((hF0.alloc _).alloc _).x4.cell (fun hc => ?_)
          go_simp
          refine hK _ _ ?_
          clear hK K hc
          refine wpAny_ready (rs := [3, 4]) (by kernel_rfl) (by simp) ?_
          refine AllReady.cons rfl (fun K hK => ?_) ?_
          · refine step_of rfl ?_
            refine FS.appA (u := x1) (.tmp 25) (.tmp 27) 34 rfl el33 rfl rfl ((hF0.alloc _).alloc _) ?_ hn1 hAlt ?_
            · repeat (first | ((with_reducible refine heap_new' ?_); focus (simp; done)) | (with_reducible refine heap_drew' ?_) | (with_reducible refine heap_old' ?_) | (with_reducible refine hk _ _ ?_ ?_))
            intro gA cA WA hFA hk
            go_simp
            refine hK _ _ ?_
            clear hK K
            refine wpAny_ready (rs := [4]) (by kernel_rfl) (by simp) ?_
            refine AllReady.cons rfl (fun K hK => ?_) ?_
            · refine step_of rfl ?_
              refine wp_at (fun W => W.cell? ⟨w.heap.size + 1, 0, none⟩ = _) hFA.x5.cell (fun hc => ?_)
              go_simp
              refine hK _ _ ?_
              clear hK K hc
              refine wpAny_ready (rs := [7]) (by kernel_rfl) (by simp) ?_
              refine AllReady.cons rfl (fun K hK => ?_) ?_
              · refine step_of rfl ?_
                refine FS.appB (u := x2) (.tmp 29) (.tmp 31) 34 rfl el33 rfl rfl hFA ?_ hn1 ?_
                · repeat (first | ((with_reducible refine heap_new' ?_); focus (simp; done)) | (with_reducible refine heap_drew' ?_) | (with_reducible refine heap_old' ?_) | (with_reducible refine hk _ _ ?_ ?_))
                  all_goals first | (simp; done) | exact Nat.le_succ _ | exact Nat.le_refl _ | exact Nat.le_succ_of_le (Nat.le_succ _)
                intro gB cB WB hFB
                go_simp
                refine hK _ _ ?_
                clear hK K
                refine wpAny_ready (rs := [8]) (by kernel_rfl) (by simp) ?_
                refine AllReady.cons rfl (fun K hK => ?_) ?_
                · refine step_of rfl ?_
                  refine wp_at (fun W => W.cell? ⟨w.heap.size, 0, none⟩ = _ ∧ W.frozen? ⟨w.heap.size, 0, none⟩ = false) ⟨hFB.x4.cell, hFB.x4.frozen⟩ (fun hc => ?_)
                  obtain ⟨hc, hf⟩ := hc
                  go_simp
                  refine hK _ _ ?_
                  clear hK K hc hf
                  refine wpAny_ready (rs := [9]) (by kernel_rfl) (by simp) ?_
                  refine AllReady.cons rfl (fun K hK => ?_) ?_
                  · refine step_of rfl ?_
                    refine wp_at (fun W => W.cell? ⟨w.heap.size + 1, 0, none⟩ = _ ∧ W.frozen? ⟨w.heap.size + 1, 0, none⟩ = false) ⟨(hFB.set4 _ (Nat.le_refl _) (Nat.succ_ne_self _)).x5.cell, (hFB.set4 _ (Nat.le_refl _) (Nat.succ_ne_self _)).x5.frozen⟩ (fun hc => ?_)
                    obtain ⟨hc, hf⟩ := hc
                    go_simp
                    refine hK _ _ ?_
                    clear hK K hc hf
                    refine wpAny_done (by kernel_rfl) ?_ _
                    exact layI_fin ((hFB.set4 _ (Nat.le_refl _) (Nat.succ_ne_self _)).set5 _ (Nat.le_succ _) (Nat.succ_ne_self _).symm)
                  exact AllReady.nil
                exact AllReady.nil
              exact AllReady.nil
            exact AllReady.nil
          refine AllReady.cons rfl (fun K hK => ?_) ?_
          · refine step_of rfl ?_
            refine wp_at (fun W => W.cell? ⟨w.heap.size + 1, 0, none⟩ = _) ((hF0.alloc _).alloc _).x5.cell (fun hc => ?_)
            go_simp
            refine hK _ _ ?_
            clear hK K hc
            refine wpAny_ready (rs := [3]) (by kernel_rfl) (by simp) ?_
            refine AllReady.cons rfl (fun K hK => ?_) ?_
            · refine step_of rfl ?_
              refine FS.appA (u := x1) (.tmp 25) (.tmp 27) 34 rfl el33 rfl rfl ((hF0.alloc _).alloc _) ?_ hn1 hAlt ?_
              · repeat (first | ((with_reducible refine heap_new' ?_); focus (simp; done)) | (with_reducible refine heap_drew' ?_) | (with_reducible refine heap_old' ?_) | (with_reducible refine hk _ _ ?_ ?_))
              intro gA cA WA hFA hk
              go_simp
              refine hK _ _ ?_
              clear hK K
              refine wpAny_ready (rs := [7]) (by kernel_rfl) (by simp) ?_
              refine AllReady.cons rfl (fun K hK => ?_) ?_
              · refine step_of rfl ?_
                refine FS.appB (u := x2) (.tmp 29) (.tmp 31) 34 rfl el33 rfl rfl hFA ?_ hn1 ?_
                · repeat (first | ((with_reducible refine heap_new' ?_); focus (simp; done)) | (with_reducible refine heap_drew' ?_) | (with_reducible refine heap_old' ?_) | (with_reducible refine hk _ _ ?_ ?_))
                  all_goals first | (simp; done) | exact Nat.le_succ _ | exact Nat.le_refl _ | exact Nat.le_succ_of_le (Nat.le_succ _)
                intro gB cB WB hFB
                go_simp
                refine hK _ _ ?_
                clear hK K
                refine wpAny_ready (rs := [8]) (by kernel_rfl) (by simp) ?_
                refine AllReady.cons rfl (fun K hK => ?_) ?_
                · refine step_of rfl ?_
                  refine wp_at (fun W => W.cell? ⟨w.heap.size, 0, none⟩ = _ ∧ W.frozen? ⟨w.heap.size, 0, none⟩ = false) ⟨hFB.x4.cell, hFB.x4.frozen⟩ (fun hc => ?_)
                  obtain ⟨hc, hf⟩ := hc
                  go_simp
                  refine hK _ _ ?_
                  clear hK K hc hf
                  refine wpAny_ready (rs := [9]) (by kernel_rfl) (by simp) ?_
                  refine AllReady.cons rfl (fun K hK => ?_) ?_
                  · refine step_of rfl ?_
                    refine wp_at (fun W => W.cell? ⟨w.heap.size + 1, 0, none⟩ = _ ∧ W.frozen? ⟨w.heap.size + 1, 0, none⟩ = false) ⟨(hFB.set4 _ (Nat.le_refl _) (Nat.succ_ne_self _)).x5.cell, (hFB.set4 _ (Nat.le_refl _) (Nat.succ_ne_self _)).x5.frozen⟩ (fun hc => ?_)
                    obtain ⟨hc, hf⟩ := hc
                    go_simp
                    refine hK _ _ ?_
                    clear hK K hc hf
                    refine wpAny_done (by kernel_rfl) ?_ _
                    exact layI_fin ((hFB.set4 _ (Nat.le_refl _) (Nat.succ_ne_self _)).set5 _ (Nat.le_succ _) (Nat.succ_ne_self _).symm)
                  exact AllReady.nil
                exact AllReady.nil
              exact AllReady.nil
            exact AllReady.nil
          exact AllReady.nil
        refine AllReady.cons rfl (fun K hK => ?_) ?_
        · refine step_of rfl ?_
          refine wp_at (fun W => W.cell? ⟨w.heap.size + 1, 0, none⟩ = _) ((hF0.alloc _).alloc _).x5.cell (fun hc => ?_)
          go_simp
          refine hK _ _ ?_
          clear hK K hc
          refine wpAny_ready (rs := [0]) (by kernel_rfl) (by simp) ?_
          refine AllReady.cons rfl (fun K hK => ?_) ?_
          · refine step_of rfl ?_
            refine wp_at (fun W => W.cell? ⟨w.heap.size, 0, none⟩ = _) ((hF0.alloc _).alloc _).x4.cell (fun hc => ?_)
            go_simp
            refine hK _ _ ?_
            clear hK K hc
            refine wpAny_ready (rs := [3]) (by kernel_rfl) (by simp) ?_
            refine AllReady.cons rfl (fun K hK => ?_) ?_
            · refine step_of rfl ?_
              refine FS.appA (u := x1) (.tmp 25) (.tmp 27) 34 rfl el33 rfl rfl ((hF0.alloc _).alloc _) ?_ hn1 hAlt ?_
              · repeat (first | ((with_reducible refine heap_new' ?_); focus (simp; done)) | (with_reducible refine heap_drew' ?_) | (with_reducible refine heap_old' ?_) | (with_reducible refine hk _ _ ?_ ?_))
              intro gA cA WA hFA hk
              go_simp
              refine hK _ _ ?_
              clear hK K
              refine wpAny_ready (rs := [7]) (by kernel_rfl) (by simp) ?_
              refine AllReady.cons rfl (fun K hK => ?_) ?_
              · refine step_of rfl ?_
                refine FS.appB (u := x2) (.tmp 29) (.tmp 31) 34 rfl el33 rfl rfl hFA ?_ hn1 ?_
                · repeat (first | ((with_reducible refine heap_new' ?_); focus (simp; done)) | (with_reducible refine heap_drew' ?_) | (with_reducible refine heap_old' ?_) | (with_reducible refine hk _ _ ?_ ?_))
                  all_goals first | (simp; done) | exact Nat.le_succ _ | exact Nat.le_refl _ | exact Nat.le_succ_of_le (Nat.le_succ _)
                intro gB cB WB hFB
                go_simp
                refine hK _ _ ?_
                clear hK K
                refine wpAny_ready (rs := [8]) (by kernel_rfl) (by simp) ?_
                refine AllReady.cons rfl (fun K hK => ?_) ?_
                · refine step_of rfl ?_
                  refine wp_at (fun W => W.cell? ⟨w.heap.size, 0, none⟩ = _ ∧ W.frozen? ⟨w.heap.size, 0, none⟩ = false) ⟨hFB.x4.cell, hFB.x4.frozen⟩ (fun hc => ?_)
                  obtain ⟨hc, hf⟩ := hc
                  go_simp
                  refine hK _ _ ?_
                  clear hK K hc hf
                  refine wpAny_ready (rs := [9]) (by kernel_rfl) (by simp) ?_
                  refine AllReady.cons rfl (fun K hK => ?_) ?_
                  · refine step_of rfl ?_
                    refine wp_at (fun W => W.cell? ⟨w.heap.size + 1, 0, none⟩ = _ ∧ W.frozen? ⟨w.heap.size + 1, 0, none⟩ = false) ⟨(hFB.set4 _ (Nat.le_refl _) (Nat.succ_ne_self _)).x5.cell, (hFB.set4 _ (Nat.le_refl _) (Nat.succ_ne_self _)).x5.frozen⟩ (fun hc => ?_)
                    obtain ⟨hc, hf⟩ := hc
                    go_simp
                    refine hK _ _ ?_
                    clear hK K hc hf
                    refine wpAny_done (by kernel_rfl) ?_ _
                    exact layI_fin ((hFB.set4 _ (Nat.le_refl _) (Nat.succ_ne_self _)).set5 _ (Nat.le_succ _) (Nat.succ_ne_self _).symm)
                  exact AllReady.nil
                exact AllReady.nil
              exact AllReady.nil
            exact AllReady.nil
          exact AllReady.nil
        exact AllReady.nil
      refine AllReady.cons rfl (fun K hK => ?_) ?_
      · refine step_of rfl ?_
        refine wp_at (fun W => W.cell? ⟨w.heap.size + 1, 0, none⟩ = _) (hF0.alloc _).x5.cell (fun hc => ?_)
        go_simp
        refine hK _ _ ?_
        clear hK K hc
        refine wpAny_ready (rs := [0, 2]) (by kernel_rfl) (by simp) ?_
        refine AllReady.cons rfl (fun K hK => ?_) ?_
        · refine step_of rfl ?_
          refine wp_at (fun W => W.cell? ⟨w.heap.size, 0, none⟩ = _) (hF0.alloc _).x4.cell (fun hc => ?_)
          go_simp
          refine hK _ _ ?_
          clear hK K hc
          refine wpAny_ready (rs := [2]) (by kernel_rfl) (by simp) ?_
          refine AllReady.cons rfl (fun K hK => ?_) ?_
          · refine step_of rfl ?_
            go_simp
            refine hK _ _ ?_
            clear hK K
            refine wpAny_ready (rs := [3]) (by kernel_rfl) (by simp) ?_
            refine AllReady.cons rfl (fun K hK => ?_) ?_
            · refine step_of rfl ?_
              refine FS.appA (u := x1) (.tmp 25) (.tmp 27) 34 rfl el33 rfl rfl ((hF0.alloc _).alloc _) ?_ hn1 hAlt ?_
              · repeat (first | ((with_reducible refine heap_new' ?_); focus (simp; done)) | (with_reducible refine heap_drew' ?_) | (with_reducible refine heap_old' ?_) | (with_reducible refine hk _ _ ?_ ?_))
              intro gA cA WA hFA hk
              go_simp
              refine hK _ _ ?_
              clear hK K
              refine wpAny_ready (rs := [7]) (by kernel_rfl) (by simp) ?_
              refine AllReady.cons rfl (fun K hK => ?_) ?_
              · refine step_of rfl ?_
                refine FS.appB (u := x2) (.tmp 29) (.tmp 31) 34 rfl el33 rfl rfl hFA ?_ hn1 ?_
                · repeat (first | ((with_reducible refine heap_new' ?_); focus (simp; done)) | (with_reducible refine heap_drew' ?_) | (with_reducible refine heap_old' ?_) | (with_reducible refine hk _ _ ?_ ?_))
                  all_goals first | (simp; done) | exact Nat.le_succ _ | exact Nat.le_refl _ | exact Nat.le_succ_of_le (Nat.le_succ _)
                intro gB cB WB hFB
                go_simp
                refine hK _ _ ?_
                clear hK K
                refine wpAny_ready (rs := [8]) (by kernel_rfl) (by simp) ?_
                refine AllReady.cons rfl (fun K hK => ?_) ?_
                · refine step_of rfl ?_
                  refine wp_at (fun W => W.cell? ⟨w.heap.size, 0, none⟩ = _ ∧ W.frozen? ⟨w.heap.size, 0, none⟩ = false) ⟨hFB.x4.cell, hFB.x4.frozen⟩ (fun hc => ?_)
                  obtain ⟨hc, hf⟩ := hc
                  go_simp
                  refine hK _ _ ?_
                  clear hK K hc hf
                  refine wpAny_ready (rs := [9]) (by kernel_rfl) (by simp) ?_
                  refine AllReady.cons rfl (fun K hK => ?_) ?_
                  · refine step_of rfl ?_
                    refine wp_at (fun W => W.cell? ⟨w.heap.size + 1, 0, none⟩ = _ ∧ W.frozen? ⟨w.heap.size + 1, 0, none⟩ = false) ⟨(hFB.set4 _ (Nat.le_refl _) (Nat.succ_ne_self _)).x5.cell, (hFB.set4 _ (Nat.le_refl _) (Nat.succ_ne_self _)).x5.frozen⟩ (fun hc => ?_)
                    obtain ⟨hc, hf⟩ := hc
                    go_simp
                    refine hK _ _ ?_
                    clear hK K hc hf
                    refine wpAny_done (by kernel_rfl) ?_ _
                    exact layI_fin ((hFB.set4 _ (Nat.le_refl _) (Nat.succ_ne_self _)).set5 _ (Nat.le_succ _) (Nat.succ_ne_self _).symm)
                  exact AllReady.nil
                exact AllReady.nil
              exact AllReady.nil
            exact AllReady.nil
          exact AllReady.nil
        refine AllReady.cons rfl (fun K hK => ?_) ?_
        · refine step_of rfl ?_
          go_simp
          refine hK _ _ ?_
          clear hK K
          refine wpAny_ready (rs := [0]) (by kernel_rfl) (by simp) ?_
          refine AllReady.cons rfl (fun K hK => ?_) ?_
          · refine step_of rfl ?_
            refine wp_at (fun W => W.cell? ⟨w.heap.size, 0, none⟩ = _) ((hF0.alloc _).alloc _).x4.cell (fun hc => ?_)
            go_simp
            refine hK _ _ ?_
            clear hK K hc
            refine wpAny_ready (rs := [3]) (by kernel_rfl) (by simp) ?_
            refine AllReady.cons rfl (fun K hK => ?_) ?_
            · refine step_of rfl ?_
              refine FS.appA (u := x1) (.tmp 25) (.tmp 27) 34 rfl el33 rfl rfl ((hF0.alloc _).alloc _) ?_ hn1 hAlt ?_
              · repeat (first | ((with_reducible refine heap_new' ?_); focus (simp; done)) | (with_reducible refine heap_drew' ?_) | (with_reducible refine heap_old' ?_) | (with_reducible refine hk _ _ ?_ ?_))
              intro gA cA WA hFA hk
              go_simp
              refine hK _ _ ?_
              clear hK K
              refine wpAny_ready (rs := [7]) (by kernel_rfl) (by simp) ?_
              refine AllReady.cons rfl (fun K hK => ?_) ?_
              · refine step_of rfl ?_
                refine FS.appB (u := x2) (.tmp 29) (.tmp 31) 34 rfl el33 rfl rfl hFA ?_ hn1 ?_
                · repeat (first | ((with_reducible refine heap_new' ?_); focus (simp; done)) | (with_reducible refine heap_drew' ?_) | (with_reducible refine heap_old' ?_) | (with_reducible refine hk _ _ ?_ ?_))
                  all_goals first | (simp; done) | exact Nat.le_succ _ | exact Nat.le_refl _ | exact Nat.le_succ_of_le (Nat.le_succ _)
                intro gB cB WB hFB
                go_simp
                refine hK _ _ ?_
                clear hK K
                refine wpAny_ready (rs := [8]) (by kernel_rfl) (by simp) ?_
                refine AllReady.cons rfl (fun K hK => ?_) ?_
                · refine step_of rfl ?_
                  refine wp_at (fun W => W.cell? ⟨w.heap.size, 0, none⟩ = _ ∧ W.frozen? ⟨w.heap.size, 0, none⟩ = false) ⟨hFB.x4.cell, hFB.x4.frozen⟩ (fun hc => ?_)
                  obtain ⟨hc, hf⟩ := hc
                  go_simp
                  refine hK _ _ ?_
                  clear hK K hc hf
                  refine wpAny_ready (rs := [9]) (by kernel_rfl) (by simp) ?_
                  refine AllReady.cons rfl (fun K hK => ?_) ?_
                  · refine step_of rfl ?_
                    refine wp_at (fun W => W.cell? ⟨w.heap.size + 1, 0, none⟩ = _ ∧ W.frozen? ⟨w.heap.size + 1, 0, none⟩ = false) ⟨(hFB.set4 _ (Nat.le_refl _) (Nat.succ_ne_self _)).x5.cell, (hFB.set4 _ (Nat.le_refl _) (Nat.succ_ne_self _)).x5.frozen⟩ (fun hc => ?_)
                    obtain ⟨hc, hf⟩ := hc
                    go_simp
                    refine hK _ _ ?_
                    clear hK K hc hf
                    refine wpAny_done (by kernel_rfl) ?_ _
                    exact layI_fin ((hFB.set4 _ (Nat.le_refl _) (Nat.succ_ne_self _)).set5 _ (Nat.le_succ _) (Nat.succ_ne_self _).symm)
                  exact AllReady.nil
                exact AllReady.nil
              exact AllReady.nil
            exact AllReady.nil
          exact AllReady.nil
        exact AllReady.nil
      exact AllReady.nil
    exact AllReady.nil
  case done =>
    rintro D ys W hD rfl ⟨A, B, c, d, h4, h5, hA, hB, hap, hbl, hsz⟩ hK
    have hc4 := h4.cell
    have hf4 := h4.frozen
    have hc5 := h5.cell
    have hf5 := h5.frozen
    have HA := Lib.hid hA
    have HB := Lib.hid hB
    have H4 := Lib.hid h4
    have H5 := Lib.hid h5
    have HBL := Lib.hid hbl
    clear h4 h5 hA hB hbl
    gi_wp2
    refine wpIn_wide.2 ?_
    go_region
    gi_wp2
    have F0 : FS w W w2.heap.size g w.heap.size (w.heap.size + 1) _ _ A _ c _ B _ d _ W := ⟨H4.out, H5.out, HA.out, HB.out, hap, HBL.out, KeepsOthers.refl W, hBw.size, hsz, hglt, hg4, hg5, KeepG.refl _ _⟩
    have F1 := ((F0.set4 (.slice A (stepsP k code).length c) (Nat.le_refl _) (Nat.succ_ne_self _)).set5 (.slice B (stepsP k code).length d) (Nat.le_succ _) (Nat.succ_ne_self _).symm).drew
    have hK2 := F1.ko.same D _ hK rfl
    have hI2 : LayI w w2.heap.size w.heap.size (w.heap.size + 1) (stepsP k code) _ := ⟨A, B, c, d, F1.x4, F1.x5, F1.a, F1.b, F1.ap, F1.bl, F1.hs⟩
    refine ⟨by simp, .inl ⟨_, _, rfl, run_takeDeferred hK2, ?_⟩⟩
    obtain ⟨A', B', c', d', k4, k5, kA, kB, -, kbl, -⟩ := (layI_own w w2.heap.size w.heap.size (w.heap.size + 1) w2.heap.size hBw.size).putObj (.deferred none) hI2 hD hK2 rfl
    have l1 := load_box k4
    have l2 := load_box k5
    have e3 := stepsP_len k code
    refine ⟨.tuple #[.slice A' (stepsP k code).length c', .slice B' (stepsP k code).length d', .int .i64 0], ?_, A', c', B', d', by rw [e3], Own.of_eq (Ownv.mono kA hBw.size) e3 rfl, Own.of_eq (Ownv.mono kB hBw.size) e3 rfl, kbl⟩
    rw [results_cct rfl]
    simp [asAddr, l1, l2, Sem.run_pure]
  case stop =>
    rintro D c pre W _ _ h _
    exact h.elim
end Go.Proofs.YtpdalbckmfadbaaGreat.Tu

