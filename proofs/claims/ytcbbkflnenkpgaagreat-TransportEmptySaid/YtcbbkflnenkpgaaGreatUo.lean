/-
  A range over an iterator whose items are known, for a body that appends onto a row of its own. Condition: slices that lie in memory.
-/
import Derived.Test.YtcbbkflnenkpgaaGreatUd
namespace Go.Proofs.YtcbbkflnenkpgaaGreat
open Go.RowKit Go.Shelf
set_option linter.unusedVariables false
attribute [local go_sem] Oper.semAt_some
/-- new memory alone does not break J -/
def ClB {β : Type} (J : β → World → Prop) : Prop := ∀ s W W', J s W → Below W.heap.size W W' → J s W'
theorem ClB.alloc {β : Type} {J : β → World → Prop} (h : ClB J) {s : β} {W : World} (o : Obj) (hs : J s W) : J s (W.alloc o) := h s W _ hs ((Below.refl _ W).alloc (Nat.le_refl _) o)
theorem ClB.call {β : Type} {J : β → World → Prop} (h : ClB J) {s : β} {W W' : World} (hs : J s W) (hb : Below W.heap.size W W') : J s W' := h s W W' hs hb
/-- nor does a turn of an object that is no row -/
def ClP {β : Type} (B : Nat) (J : β → World → Prop) : Prop := ∀ s W l o o', J s W → B ≤ l → W.heap[l]? = some o → o.isCells = false → J s (W.putObj l o')
/-- as SeqE, for a body that may own rows made since -/
def SeqE {α : Type} (m gf : Nat) (lb : Array Value) (encs : α → Array Value) (Kp : World → World → Prop) (S Sp : List α → Prop) (Ok : List α → α → Prop) (w : World) : Prop :=
  ∀ (l : Nat) (J Jx : List α → World → Prop) (W : World), Below w.heap.size w W → ClB J → ClB Jx →
    (∀ pre x W1, J pre W1 → Ok pre x → YieldAt Fence.wide (m - 1) Tryz.prog l (encs x) W1 fun e W' =>
      (e = .returned (.bool true) ∧ J (pre ++ [x]) W' ∧ Kp W1 W') ∨ (e = .returned (.bool false) ∧ Jx (pre ++ [x]) W')) →
    J [] W →
    CallsIn Fence.wide m Tryz.prog gf (#[.func (.yield l) #[] #[]] ++ lb) W fun e W' => (∃ v, e = .returned v) ∧ ((∃ xs, S xs ∧ J xs W') ∨ (∃ pre, Sp pre ∧ Jx pre W'))
theorem rangeE {α : Type} {g : Operand} {ps : Array Tmp} {assign body : Code} {Q : Exit → Act → World → Prop} {a : Act} {w : World}
    {gf : Nat} {lb : Array Value} (hg : a.eval g = .func (.func gf) #[] lb) (eg : ∀ args w, (callFunc gf args).run Tryz.prog w = .ok (.enter gf args) w)
    {encs : α → Array Value} {Kp : World → World → Prop} {S Sp : List α → Prop} {Ok : List α → α → Prop} {w0 : World} (hseq : SeqE 2 gf lb encs Kp S Sp Ok w0)
    (hKt : ∀ {A B C : World}, Kp A B → Kp B C → Kp A C) (hKb : ∀ (W : World) (l : Nat) (o o' : Obj), w.heap.size ≤ l → W.heap[l]? = some o → o.isCells = false → Kp W (W.putObj l o')) (hb0 : Below w0.heap.size w0 w) (hps : ∀ x, (encs x).size = ps.size)
    (I : List α → World → Prop) (Ix : Code → List α → World → Prop) (hI : ClB I) (hIx : ∀ c, ClB (Ix c)) (hIp : ClP w.heap.size I) (hIxp : ∀ c, ClP w.heap.size (Ix c)) (h0 : I [] w) (a₁ : α → Act)
    (hassign : ∀ (l : Nat) (x : α) (W : World) (K : Act → World → Prop), K (a₁ x) W →
      assign.wpIn (Fence.wide.inRound l) 1 Tryz.prog (Exit.then K (fun _ _ _ => False)) { tmps := (ps.zip (encs x)).foldl (fun t (p, v) => t.setIfInBounds p v) a.tmps, defers := [] } W)
    (hbody : ∀ (l : Nat) (pre : List α) (x : α) (W : World), I pre W → Ok pre x → body.wpIn (Fence.wide.inRound l) 1 Tryz.prog (ownPostK Kp I Ix (pre ++ [x]) W) (a₁ x) W)
    (hdone : ∀ (D : Nat) (xs : List α) (W : World), w.heap.size ≤ D → S xs → I xs W → W.heap[D]? = some (.deferred (some [])) → Q .normal { a with defers := { target := .collected D, args := #[] } :: a.defers } W)
    (hstop : ∀ (D : Nat) (c : Code) (pre : List α) (W : World), w.heap.size ≤ D → Sp pre → Ix c pre W → W.heap[D]? = some (.deferred (some [])) → c.wpIn Fence.wide 3 Tryz.prog Q { a with defers := { target := .collected D, args := #[] } :: a.defers } W) :
    (Code.rangeFunc g ps assign body).wpIn Fence.wide 3 Tryz.prog Q a w := by
  refine wpIn_rangeFunc fun fn hfn => ?_
  obtain ⟨n, hn⟩ : ∃ n, n = w.heap.size := ⟨_, rfl⟩
  rw [← hn] at hKb hIp hIxp hdone hstop
  obtain ⟨rc, hrc⟩ : ∃ rc : LoopState → Option Code → Loop, rc = fun st pe => { state := st, pending := pe, fn, tmps := a.tmps, params := ps, assign, body, defers := n } := ⟨_, rfl⟩
  obtain ⟨W1, hW1⟩ : ∃ W1, W1 = (w.alloc (.deferred (some []))).alloc (.loop (rc .ready none)) := ⟨_, rfl⟩
  have hs1 : W1.heap.size = n + 2 := by rw [hW1, hn]; simp
  have hL1 : W1.heap[n + 1]? = some (.loop (rc .ready none)) := by
    rw [hW1, hn]
    have h := World.alloc_heap_new (w.alloc (.deferred (some []))) (.loop (rc .ready none))
    rwa [World.size_alloc] at h
  have hK1 : W1.heap[n]? = some (.deferred (some [])) := by
    rw [hW1, hn]
    exact (Below.heap_alloc _ _ _ (by simp)).trans (World.alloc_heap_new w _)
  have hI1 : I [] W1 := by rw [hW1]; exact hI.alloc _ (hI.alloc _ h0)
  have hb1 : Below w0.heap.size w0 W1 := by
    rw [hW1]
    exact hb0.trans ((((Below.refl _ w).alloc (Nat.le_refl _) _).alloc (by simp) _).mono hb0.size)
  -- the loop's two blocks: nothing behind them turns them
  have two : ∀ {A B : World} {row : Option Nat} {o p : Obj}, A.grownBy B row → (∀ r, row = some r → W1.heap.size ≤ r) → A.heap[n + 1]? = some o ∧ A.heap[n]? = some p → B.heap[n + 1]? = some o ∧ B.heap[n]? = some p := fun {A B row o p} hgr hr h =>
    ⟨(hgr.block _ (Array.getElem?_eq_some_iff.1 h.1).1 (fun e => by have := hr _ e.symm; omega)).trans h.1, (hgr.block _ (Array.getElem?_eq_some_iff.1 h.2).1 (fun e => by have := hr _ e.symm; omega)).trans h.2⟩
  have up : ∀ {row : Option Nat}, (∀ r, row = some r → W1.heap.size ≤ r) → ∀ r, row = some r → n ≤ r := fun hr r e => by have := hr r e; omega
  refine ⟨n + 1, [{ target := .collected n, args := #[] }], W1, { target := .fn (.func gf) lb, args := #[.func (.yield (n + 1)) #[] #[]] }, W1, gf, #[.func (.yield (n + 1)) #[] #[]] ++ lb, W1, ?_, ?_, ?_, ?_, fun _ => by omega, ?_⟩
  · rw [hW1, hrc, hn]
    exact run_enterLoop_outer _ _ _ _ _
  · simp only [resolve, hg]
    simp [go_sem]
  · intro f hf
    simp [Target.leads] at hf
    subst hf
    trivial
  · simp [invoke, go_sem, eg]
  refine (hseq (n + 1)
    (fun pre W => I pre W ∧ W.heap[n + 1]? = some (.loop (rc .ready none)) ∧ W.heap[n]? = some (.deferred (some [])))
    (fun pre W => ∃ c, Ix c pre W ∧ W.heap[n + 1]? = some (.loop (rc .done (some c))) ∧ W.heap[n]? = some (.deferred (some [])))
    W1 hb1 (fun s A B hs hb => ⟨hI s A B hs.1 hb, two (grown_of_below hb) nofun hs.2⟩)
    (fun s A B ⟨c, hc, hs⟩ hb => ⟨c, hIx c s A B hc hb, two (grown_of_below hb) nofun hs⟩) ?_ ⟨hI1, hL1, hK1⟩).mono ?_
  · rintro pre x W ⟨hi, hl, hk⟩ hlen
    have hlt : n + 1 < W.heap.size := (Array.getElem?_eq_some_iff.1 hl).1
    obtain ⟨Wb, hWb⟩ : ∃ Wb, Wb = W.putObj (n + 1) (.loop { rc .ready none with state := .busy }) := ⟨_, rfl⟩
    have hlb : Wb.heap[n + 1]? = some (.loop { rc .ready none with state := .busy }) := by rw [hWb]; exact World.putObj_heap_same hlt
    have hkb : Wb.heap[n]? = some (.deferred (some [])) := by rw [hWb]; exact (World.putObj_heap_other (by omega)).trans hk
    have hib : I pre Wb := by rw [hWb]; exact hIp _ _ _ _ _ hi (by omega) hl rfl
    have hpb : Kp W Wb := by rw [hWb]; exact hKb _ _ _ _ (by omega) hl rfl
    have hyl := run_yield (P := Tryz.prog) (args := encs x) hl (by rw [hrc]; exact hps x)
    rw [hrc] at hyl
    refine ⟨fn, _, assign, body, hyl, roundIn_of_wpIn hfn (hassign _ x W _ ⟨_, run_beginRound hl (by rw [hrc]), ?_⟩)⟩
    rw [← hWb]
    refine wpIn_mono (hbody _ pre x _ hib hlen) ?_
    have close : ∀ (jump : Option Code) (W3 : World), KeepsOthers Wb W3 → ∃ W4, W4 = W3.putObj (n + 1) (.loop (rc (if jump.isNone then .ready else .done) jump)) ∧ (Instr.endRound (n + 1) jump).run Tryz.prog W3 = .ok (.bool jump.isNone) W4 ∧
        (∃ o : Obj, W3.heap[n + 1]? = some o ∧ o.isCells = false) ∧ W4.heap[n + 1]? = some (.loop (rc (if jump.isNone then .ready else .done) jump)) ∧ W4.heap[n]? = some (.deferred (some [])) := fun jump W3 hk3 => by
      have hl3 := hk3.same _ _ hlb rfl
      have hr3 := run_endRound (P := Tryz.prog) jump hl3
      rw [hrc] at hr3 ⊢
      exact ⟨_, rfl, hr3, ⟨_, hl3, rfl⟩, World.putObj_heap_same (Array.getElem?_eq_some_iff.1 hl3).1, (World.putObj_heap_other (by omega)).trans (hk3.same _ _ hkb rfl)⟩
    have away : ∀ (c : Code) (W3 : World), KeepsOthers Wb W3 → Ix c (pre ++ [x]) W3 → ∃ v W4, (Instr.endRound (n + 1) (some c)).run Tryz.prog W3 = .ok v W4 ∧ v = .bool false ∧ ∃ c', Ix c' (pre ++ [x]) W4 ∧ W4.heap[n + 1]? = some (.loop (rc .done (some c'))) ∧ W4.heap[n]? = some (.deferred (some [])) := fun c W3 hk3 hi3 => by
      obtain ⟨W4, e4, hr, ⟨o, ho, hc⟩, h1, h2⟩ := close (some c) W3 hk3
      exact ⟨_, W4, hr, rfl, c, by rw [e4]; exact hIxp c _ _ _ _ _ hi3 (by omega) ho hc, h1, h2⟩
    rintro e a3 W3 hp
    cases e with
    | normal =>
      obtain ⟨hk3, hp3, hi3⟩ := hp
      obtain ⟨W4, e4, hr, ⟨o, ho, hc⟩, h1, h2⟩ := close none W3 hk3
      refine ⟨_, W4, hr, .inl ⟨rfl, ⟨?_, h1, h2⟩, hKt (hKt hpb hp3) ?_⟩⟩
      · rw [e4]; exact hIp _ _ _ _ _ hi3 (by omega) ho hc
      · rw [e4]; exact hKb _ _ _ _ (by omega) ho hc
    | ret =>
      obtain ⟨v, W4, hr, hv, h⟩ := away .ret W3 hp.1 hp.2
      exact ⟨v, W4, hr, .inr ⟨by rw [hv], h⟩⟩
    | exit id =>
      obtain ⟨v, W4, hr, hv, h⟩ := away (.exit id) W3 hp.1 hp.2
      exact ⟨v, W4, hr, .inr ⟨by rw [hv], h⟩⟩
    | goto t =>
      obtain ⟨v, W4, hr, hv, h⟩ := away (.goto t) W3 hp.1 hp.2
      exact ⟨v, W4, hr, .inr ⟨by rw [hv], h⟩⟩
    | panic ch => exact hp.elim
    | outgrown => exact hp.elim
  · rintro e W2 ⟨⟨v, rfl⟩, h⟩
    rcases h with ⟨xs, hS, hi, hl, hk⟩ | ⟨pre, hSp, c, hi, hl, hk⟩
    · have hr := run_endLoop (P := Tryz.prog) hl (by rw [hrc]; simp)
      rw [hrc] at hr
      exact ⟨none, _, hr, hdone _ xs _ (Nat.le_refl _) hS (hIp _ _ _ _ _ hi (by omega) hl rfl) ((World.putObj_heap_other (by omega)).trans hk)⟩
    · have hr := run_endLoop (P := Tryz.prog) hl (by rw [hrc]; simp)
      rw [hrc] at hr
      exact ⟨some c, _, hr, hstop _ c pre _ (Nat.le_refl _) hSp (hIxp c _ _ _ _ _ hi (by omega) hl rfl) ((World.putObj_heap_other (by omega)).trans hk)⟩

end Go.Proofs.YtcbbkflnenkpgaaGreat
