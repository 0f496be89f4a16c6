/-
  Contracts of Layout, of its reference and of Steps, each in one form for all arguments. Condition: none.
-/
import Derived.Test.YtkagdiejpcfggaaZn
namespace Go.Proofs.Ytkagdiejpcfggaa
open Go.RowKit Go.Shelf
set_option linter.unusedVariables false
attribute [local go_sem] Oper.semAt_some
open Classical in
noncomputable def psI (k code : Int) : List (Int × Int) := if okCode k code then stepsP k.toNat code.toNat else []
open Classical in
noncomputable def eI (k code : Int) : Int := if okCode k code then 0 else 2
theorem ok_nat {k code : Int} (h : okCode k code) : ∃ a c : Nat, k = (a : Int) ∧ code = (c : Int) ∧ validK (a : Int) = true ∧ (c = 1 ∨ c = 2) := by
  obtain ⟨h1, h2, h3⟩ := h
  have h4 : 40 ≤ k := by
    unfold validK at h1
    simp only [decide_eq_true_eq] at h1
    omega
  exact ⟨k.toNat, code.toNat, by omega, by omega, by rw [Int.toNat_of_nonneg (by omega)]; exact h1, by omega⟩
theorem psI_ok {a c : Nat} (h : okCode (a : Int) (c : Int)) : psI a c = stepsP a c := by unfold psI; rw [if_pos h, Int.toNat_natCast, Int.toNat_natCast]
theorem psI_bad {k code : Int} (h : ¬ okCode k code) : psI k code = [] := by unfold psI; rw [if_neg h]
def LayP (w : World) (ps : List (Int × Int)) (er : Int) (e : Ending) (w' : World) : Prop :=
  ∃ A c B d, e = .returned (.tuple #[.slice A ps.length c, .slice B ps.length d, .int .i64 er]) ∧ Own .i64 3 w' w.heap.size A ps.length c (ps.map Prod.fst) ∧ Own .i64 3 w' w.heap.size B ps.length d (ps.map Prod.snd) ∧ Below w.heap.size w w'
theorem lay_all (k code : Int) (w : World) : Calls Try.prog 17 #[.int .i64 k, .int .i64 code] w (LayP w (psI k code) (eI k code)) := by
  by_cases h : okCode k code
  · obtain ⟨a, c, rfl, rfl, hv, hc⟩ := ok_nat h
    rw [psI_ok h, show eI a c = 0 from by unfold eI; rw [if_pos h]]
    refine (lay_any a c w hv hc).mono ?_
    rintro e w' ⟨A, n, B, d, rfl, hA, hB, hb⟩
    unfold LayP
    rw [stepsP_len]
    exact ⟨A, n, B, d, rfl, hA, hB, hb⟩
  · rw [psI_bad h, show eI k code = 2 from by unfold eI; rw [if_neg h]]
    refine (lay_bad k code w h).mono ?_
    rintro e w' ⟨rfl, hb⟩
    exact ⟨none, 0, none, 0, rfl, Own.nilv _ _ _ _, Own.nilv _ _ _ _, hb⟩
theorem rlay_all (k code : Int) (w : World) : Calls Try.prog 18 #[.int .i64 k, .int .i64 code] w (LayP w (psI k code) (eI k code)) := by
  by_cases h : okCode k code
  · obtain ⟨a, c, rfl, rfl, hv, hc⟩ := ok_nat h
    rw [psI_ok h, show eI a c = 0 from by unfold eI; rw [if_pos h]]
    have key : Calls Try.prog 18 #[.int .i64 (a : Int), .int .i64 (c : Int)] w fun e w' => ∃ A m B d, e = .returned (.tuple #[.slice A (a + 3) m, .slice B (a + 3) d, .int .i64 0]) ∧ Own .i64 3 w' w.heap.size A (a + 3) m (sysL a c) ∧ Own .i64 3 w' w.heap.size B (a + 3) d (parI a c) ∧ Below w.heap.size w w' := by
      rcases hc with rfl | rfl
      · exact rlay1_any a w hv
      · exact rlay2_any a w hv
    refine key.mono ?_
    rintro e w' ⟨A, n, B, d, rfl, hA, hB, hb⟩
    unfold LayP
    rw [stepsP_len]
    exact ⟨A, n, B, d, rfl, hA, hB, hb⟩
  · rw [psI_bad h, show eI k code = 2 from by unfold eI; rw [if_neg h]]
    refine (rlay_bad k code w h).mono ?_
    rintro e w' ⟨rfl, hb⟩
    exact ⟨none, 0, none, 0, rfl, Own.nilv _ _ _ _, Own.nilv _ _ _ _, hb⟩
/-- what the rounds must keep: a block of the iterator's own, if it has one -/
def KeepO (og : Option Nat) (A B : World) : Prop := ∀ g, og = some g → KeepG g A B
theorem keepO_some (g : Nat) : KeepO (some g) = KeepG g := by
  funext A B
  exact propext ⟨fun h => h g rfl, fun h g' e => by cases e; exact h⟩
theorem KeepO.refl (og : Option Nat) (A : World) : KeepO og A A := fun g _ => KeepG.refl g A
theorem KeepO.trans {og : Option Nat} {A B C : World} (h : KeepO og A B) (k : KeepO og B C) : KeepO og A C := fun g e => (h g e).trans (k g e)
theorem KeepO.grown {og : Option Nat} {A B : World} {row : Option Nat} {n : Nat} (hg : A.grownBy B row) (hn : ∀ g, og = some g → g < n) (hA : n ≤ A.heap.size) (hr : ∀ r, row = some r → n ≤ r) : KeepO og A B := fun g e =>
  KeepG.grown hg (Nat.lt_of_lt_of_le (hn g e) hA) (fun e' => by have := hr g e'.symm; have := hn g e; omega)
theorem KeepO.below {og : Option Nat} {A B : World} {n : Nat} (h : Below n A B) (hn : ∀ g, og = some g → g < n) : KeepO og A B := fun g e => KeepG.below h (hn g e)
theorem keepO_b {og : Option Nat} {n : Nat} {w : World} (hn : ∀ g, og = some g → g < n) (hw : n ≤ w.heap.size) (W : World) (l : Nat) (o o' : Obj) (hl : w.heap.size ≤ l) (h : W.heap[l]? = some o) (h1 : o.isCells = false) (h2 : o.isWalk = false) : KeepO og W (W.putObj l o') := fun g e =>
  keepG_b (Nat.lt_of_lt_of_le (hn g e) hw) W l o o' hl h h1 h2
def encP (x : Int × Int) : Array Value := #[Value.int .i64 x.1, .int .i64 x.2]
/-- a function value that iterates over pairs -/
def SeqOk (w : World) (v : Value) (ps : List (Int × Int)) : Prop :=
  ∃ (gf : Nat) (lb : Array Value) (og : Option Nat), v = .func (.func gf) #[] lb ∧ (∀ g, og = some g → g < w.heap.size) ∧ (∀ args W, (callFunc gf args).run Try.prog W = .ok (.enter gf args) W) ∧
    ∀ W, Below w.heap.size w W → SeqStopsK Fence.wide 2 Try.prog gf lb encP (KeepO og) (fun ys => ys = ps) (fun pre => ∃ k, k ≤ ps.length ∧ pre = ps.take k) ps.length W
theorem stepsN_stops (N : Nat) (w : World) : SeqStopsK Fence.wide 2 Try.prog 35 #[] encP (KeepO none) (fun ys => ys = []) (fun pre => ∃ k, k ≤ ([] : List (Int × Int)).length ∧ pre = ([] : List (Int × Int)).take k) N w := fun l J Jx W hW hA _ hY h0 => by
  refine callsIn_of_wp Try.func35 rfl trivial ?_ rfl
  simp only [Try.ntmps35, List.size_toArray, List.length_cons, List.length_nil, Nat.reduceAdd, Nat.reduceSub, Array.replicate_succ, Array.replicate_zero, List.push_toArray, List.append_toArray, List.nil_append, List.cons_append]
  gi_wp2
  go_end0
  first | exact ⟨⟨_, rfl⟩, .inl ⟨_, rfl, h0⟩⟩ | exact ⟨⟨_, rfl⟩, .inl h0⟩
theorem steps_all (k code : Int) (w : World) : Calls Try.prog 20 #[.int .i64 k, .int .i64 code] w fun e w' => ∃ v, e = .returned v ∧ SeqOk w' v (psI k code) ∧ Below w.heap.size w w' := by
  by_cases h : okCode k code
  · obtain ⟨a, c, rfl, rfl, hv, hc⟩ := ok_nat h
    rw [psI_ok h]
    refine (stepsC_any a c hc w hv).mono ?_
    rintro e w' ⟨v, rfl, ⟨b8, g, c', rfl, h1, h2⟩, hb⟩
    have ha := valid_len hv
    refine ⟨_, rfl, ⟨41, _, some g, rfl, fun g' e => ?_, enters_of Try.func41 (by kernel_rfl) rfl, fun W hW => ?_⟩, hb⟩
    · cases e
      exact h2.lt (by omega) _ rfl
    · rw [keepO_some, stepsP_len]
      have hb8 := World.block_lt_of_cell? w' _ h1
      have hst := steps4_stops Fence.wide 2 trivial rfl (by omega) b8 w'.heap.size g (a + 3) c' (stepsP a c) w' W (by rw [stepsP_flat]; exact h2) (stepsP_len a c) (by omega) rfl hW (Nat.lt_of_lt_of_le hb8 hW.size) ((hW.cell (p := ⟨b8, 0, none⟩) hb8).trans h1)
      rw [stepsP_len] at hst
      exact hst
  · rw [psI_bad h]
    refine (steps_bad k code w h).mono ?_
    rintro e w' ⟨rfl, hb⟩
    exact ⟨_, rfl, ⟨35, #[], none, rfl, (fun g e => by cases e), enters_of Try.func35 (by kernel_rfl) rfl, fun W hW => stepsN_stops _ W⟩, hb⟩
/-- what stands in memory while a loop over such a value goes on -/
structure TLI (w2 : World) (b14 b15 : Nat) (turn : Int) (od : Option Nat) (cnt : Nat) (W : World) : Prop where
  bl : Below w2.heap.size w2 W
  x14 : Boxed W b14 3 (.int .i64 turn)
  x15 : Boxed W b15 3 (.int .i64 (cnt : Int))
  dd : ∀ D, od = some D → W.heap[D]? = some (.deferred (some []))
structure TLW (w2 : World) (og od : Option Nat) (b14 b15 n : Nat) : Prop where
  w2n : w2.heap.size ≤ b14
  n14 : b14 < b15
  n15 : b15 < n
  hg : ∀ g, og = some g → g < w2.heap.size
  hd : ∀ D, od = some D → D < n
section
variable {w2 W : World} {og od : Option Nat} {b14 b15 : Nat} {turn : Int} {cnt : Nat}
theorem TLI.own (h : TLI w2 b14 b15 turn od cnt W) {n : Nat} (P : TLW w2 og od b14 b15 n) {W' : World} {row : Option Nat} (hg : W.grownBy W' row) (hr : ∀ r, row = some r → n ≤ r) : TLI w2 b14 b15 turn od cnt W' := by
  have h5 := P.n14; have h6 := P.n15; have h8 := P.w2n
  have hne : ∀ x, x < n → some x ≠ row := fun x hx e => by have := hr x e.symm; omega
  refine ⟨h.bl.grown hg h.bl.size (fun r e => by have := hr r e; omega), h.x14.kept hg (hne _ (by omega)), h.x15.kept hg (hne _ (by omega)), fun D e => ?_⟩
  have h9 := h.dd D e
  exact (hg.block D (heap_lt h9) (hne _ (P.hd D e))).trans h9
/-- a round is counted -/
theorem TLI.next (h : TLI w2 b14 b15 turn od cnt W) {n : Nat} (P : TLW w2 og od b14 b15 n) {v : Value} (hv : v = .int .i64 ((cnt + 1 : Nat) : Int)) :
    KeepsOthers W (W.setCell ⟨b15, 0, none⟩ v) ∧ KeepO og W (W.setCell ⟨b15, 0, none⟩ v) ∧ TLI w2 b14 b15 turn od (cnt + 1) (W.setCell ⟨b15, 0, none⟩ v) := by
  subst hv
  have h5 := P.n14; have h6 := P.n15; have h8 := P.w2n
  have hg := grownBy_setCell' W b15 (.int .i64 ((cnt + 1 : Nat) : Int))
  have hko := KeepsOthers.setCell W ⟨b15, 0, none⟩ (.int .i64 ((cnt + 1 : Nat) : Int))
  refine ⟨hko, KeepO.grown hg P.hg h.bl.size (fun r e => by cases e; omega), h.bl.setCell (by show w2.heap.size ≤ b15; omega) _, h.x14.other (by omega) _, h.x15.set _, fun D e => hko.same D _ (h.dd D e) rfl⟩
end
theorem run_eql_func_nil {P : Program} (w : World) {t : TypeId} {a b : Array TypeId} {c : Bool} (h : P.underlying t = some (.func a b c)) (f : Fn) (fa : Array Value) (lb : Array Value) : (binOp .eql t (.func f fa lb) .nilFunc).run P w = .ok (.bool false) w := by
  have h' : ∀ d, (Op.equalIn (d + 1) t (.func f fa lb) .nilFunc).run P w = .ok false w := fun d => by
    simp [Op.equalIn, run_underlying h]
  simp only [binOp]
  simp [Op.equal, Op.maxDepth, h' 9999]
theorem load_bool {W : World} {b : Nat} {v : Value} (h : Boxed W b 4 v) : (loadVar 4 ⟨b, 0, none⟩).run Try.prog W = .ok v W := by
  have hc := h.cell
  simp [loadVar, hc, go_sem]
theorem first_map (ps : List (Int × Int)) (j : Nat) (h : j < ps.length) : gi (ps.map Prod.fst) j = ps[j].1 ∧ gi (ps.map Prod.snd) j = ps[j].2 := by
  rw [gi_eq _ _ (by simpa using h), gi_eq _ _ (by simpa using h)]; simp
def LI0 (ps : List (Int × Int)) (w2 : World) (b14 b15 : Nat) (turn : Int) (od : Option Nat) (C : Nat → Prop) (pre : List (Int × Int)) (W : World) : Prop :=
  pre = ps.take pre.length ∧ C pre.length ∧ TLI w2 b14 b15 turn od pre.length W
def LIx (ps : List (Int × Int)) (w2 : World) (b14 b15 : Nat) (turn : Int) (od : Option Nat) (C : Nat → Prop) (id : Nat) (c : Code) (pre : List (Int × Int)) (W : World) : Prop :=
  (∀ k, pre ≠ ps.take k) ∨ (c = .exit id ∧ C pre.length ∧ TLI w2 b14 b15 turn od pre.length W)
section
variable {w2 : World} {og od : Option Nat} {b14 b15 : Nat} {turn : Int} {ps : List (Int × Int)} {C : Nat → Prop}
theorem LI0.own {n : Nat} (P : TLW w2 og od b14 b15 n) : Go.OwnFrom n (LI0 ps w2 b14 b15 turn od C) := fun s X Y row h hg hr => ⟨h.1, h.2.1, h.2.2.own P hg (fun r e => (hr r e).1)⟩
theorem LIx.own {n id : Nat} (P : TLW w2 og od b14 b15 n) (c : Code) : Go.OwnFrom n (LIx ps w2 b14 b15 turn od C id c) := fun s X Y row h hg hr => h.elim .inl fun h => .inr ⟨h.1, h.2.1, h.2.2.own P hg (fun r e => (hr r e).1)⟩
theorem pre_next {pre : List (Int × Int)} {x : Int × Int} {n : Nat} (h : pre = ps.take pre.length) (hn : pre.length = n) (hl : n < ps.length) (hx : x = ps[n]) : pre ++ [x] = ps.take (n + 1) ∧ (pre ++ [x]).length = n + 1 := by
  subst hn
  refine ⟨?_, by simp⟩
  rw [takeP_succ _ _ hl, ← h, hx]
theorem pre_not {pre : List (Int × Int)} {x : Int × Int} {n : Nat} (hn : pre.length = n) (hl : n < ps.length) (hx : x ≠ ps[n]) : ∀ k, pre ++ [x] ≠ ps.take k := by
  intro k e
  subst hn
  apply hx
  have h1 : (pre ++ [x])[pre.length]? = some x := by simp
  rw [e, List.getElem?_take] at h1
  split at h1
  · rw [List.getElem?_eq_getElem hl] at h1
    exact (Option.some.inj h1).symm
  · cases h1
end
end Go.Proofs.Ytkagdiejpcfggaa
