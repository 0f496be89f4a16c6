/-
  A range over an iterator that writes blocks of its own between two rounds: its contract, the law of the statement, what a loop over it keeps. Condition: none.
-/
import Derived.Test.YtcbbkflnenkpgaaGreatR
import Derived.Test.YtcbbkflnenkpgaaGreatSy
namespace Go.Proofs.YtcbbkflnenkpgaaGreat
open Go.RowKit Go.Shelf
set_option linter.unusedVariables false
attribute [local go_sem] Oper.semAt_some

/-- does not mind what happens at or beyond B -/
def Cl {β : Type} (B : Nat) (J : β → World → Prop) : Prop := ∀ s W W' row, J s W → W.grownBy W' row → (∀ r, row = some r → B ≤ r) → J s W'
theorem Cl.alloc {β : Type} {B : Nat} {J : β → World → Prop} (h : Cl B J) {s : β} {W : World} (o : Obj) (hs : J s W) : J s (W.alloc o) := h s W _ none hs (World.grownBy_alloc W o none) (fun r e => by cases e)
theorem Cl.put {β : Type} {B : Nat} {J : β → World → Prop} (h : Cl B J) {s : β} {W : World} {l : Nat} (o : Obj) (hs : J s W) (hl : B ≤ l) : J s (W.putObj l o) := h s W _ (some l) hs (grownBy_putObj' W l o) (fun r e => by cases e; exact hl)
theorem Cl.set {β : Type} {B : Nat} {J : β → World → Prop} (h : Cl B J) {s : β} {W W' : World} {l : Nat} (hs : J s W) (hg : W.grownBy W' (some l)) (hl : B ≤ l) : J s W' := h s W _ (some l) hs hg (fun r e => by cases e; exact hl)
theorem grown_of_below {W W' : World} (h : Below W.heap.size W W') : W.grownBy W' none := ⟨h.os, h.tape, h.output, h.size, fun k hk _ => h.block k hk⟩
theorem Cl.call {β : Type} {B : Nat} {J : β → World → Prop} (h : Cl B J) {s : β} {W W' : World} (hs : J s W) (hb : Below W.heap.size W W') : J s W' := h s W _ none hs (grown_of_below hb) (fun r e => by cases e)
theorem Cl.and {β : Type} {B : Nat} {I J : β → World → Prop} (h : Cl B I) (k : Cl B J) : Cl B (fun s W => I s W ∧ J s W) := fun s W W' row hs hg hr => ⟨h s W W' row hs.1 hg hr, k s W W' row hs.2 hg hr⟩
theorem cl_below {β : Type} {n B : Nat} {w0 : World} (hn : n ≤ w0.heap.size) (hB : n ≤ B) : Cl B (fun (_ : β) W => Below n w0 W) := fun _ _ _ _ hs hg hr => hs.grown hg (Nat.le_trans hn hs.size) (fun k e => Nat.le_trans hB (hr k e))
/-- every row of cells but those named lies as it lay -/
def KpB (bs : List Nat) (A B : World) : Prop := A.heap.size ≤ B.heap.size ∧ ∀ k o, A.heap[k]? = some o → o.isCells = true → k ∉ bs → B.heap[k]? = some o
theorem KpB.refl (bs : List Nat) (A : World) : KpB bs A A := ⟨Nat.le_refl _, fun _ _ h _ _ => h⟩
theorem KpB.trans {bs : List Nat} {A B C : World} (h : KpB bs A B) (k : KpB bs B C) : KpB bs A C := ⟨Nat.le_trans h.1 k.1, fun i o hi hc hb => k.2 i o (h.2 i o hi hc hb) hc hb⟩
theorem KpB.set {bs : List Nat} {W W' : World} {b : Nat} (hg : W.grownBy W' (some b)) (hb : b ∈ bs) : KpB bs W W' := ⟨hg.size, fun k o hk hc hn => (hg.block k (Array.getElem?_eq_some_iff.1 hk).1 (fun e => by cases e; exact hn hb)).trans hk⟩
theorem KpB.below {bs : List Nat} {W W' : World} (h : Below W.heap.size W W') : KpB bs W W' := ⟨h.size, fun k o hk hc hn => (h.block k (Array.getElem?_eq_some_iff.1 hk).1).trans hk⟩
theorem KpB.put {bs : List Nat} {W : World} {l : Nat} {o : Obj} (o' : Obj) (h : W.heap[l]? = some o) (ho : o.isCells = false) : KpB bs W (W.putObj l o') := by
  have hg := grownBy_putObj' W l o'
  refine ⟨hg.size, fun k x hk hc hn => (hg.block k (Array.getElem?_eq_some_iff.1 hk).1 (fun e => ?_)).trans hk⟩
  cases e
  rw [h] at hk
  cases hk
  rw [ho] at hc
  cases hc
theorem Blk.kp {W W' : World} {b : Nat} {t : TypeId} {cs : List Value} {bs : List Nat} (h : Blk W b t cs) (hk : KpB bs W W') (hb : b ∉ bs) : Blk W' b t cs := hk.2 b _ h rfl hb
theorem Rdv.kp {W W' : World} {A : Option Addr} {n c : Nat} {vs : List Value} {bs : List Nat} (h : Rdv W A n c vs) (hk : KpB bs W W') (hb : ∀ a, A = some a → a.block ∉ bs) : Rdv W' A n c vs := by
  refine ⟨h.len, h.le, h.cm, h.nil, h.spot, fun hc a ha => Nat.lt_of_lt_of_le (h.lt hc a ha) hk.1, fun j v hj => ?_⟩
  have h1 := h.at_ j v hj
  cases A with
  | none =>
    have := h.nil rfl
    have h2 := (List.getElem?_eq_some_iff.1 hj).1
    have h3 := h.len
    have h4 := h.le
    omega
  | some a =>
    have h2 := hb a rfl
    have hblk : (adr (some a) j).block = a.block := rfl
    rw [← h1]
    obtain ⟨o, ho⟩ : ∃ o, W.heap[a.block]? = some o := by
      have := World.block_lt_of_cell? W _ h1
      exact ⟨_, Array.getElem?_eq_getElem this⟩
    refine World.cell?_of_block ?_
    rw [hblk]
    refine (hk.2 a.block o ho ?_ h2).trans ho.symm
    cases o with
    | cells x y z => rfl
    | _ => simp [World.cell?, hblk, ho] at h1
/-- THE CONTRACT of an iterator value that may write blocks of its own -/
def SeqC {α : Type} (m gf : Nat) (lb : Array Value) (encs : α → Array Value) (Kp : World → World → Prop) (S Sp : List α → Prop) (N : Nat) (w : World) : Prop :=
  ∀ (l : Nat) (J Jx : List α → World → Prop) (W : World), Below w.heap.size w W → Cl W.heap.size J → Cl W.heap.size Jx →
    (∀ pre x W1, J pre W1 → pre.length < N → YieldAt Fence.wide (m - 1) Tryz.prog l (encs x) W1 fun e W' =>
      (e = .returned (.bool true) ∧ J (pre ++ [x]) W' ∧ Kp W1 W') ∨ (e = .returned (.bool false) ∧ Jx (pre ++ [x]) W')) →
    J [] W →
    CallsIn Fence.wide m Tryz.prog gf (#[.func (.yield l) #[] #[]] ++ lb) W fun e W' => (∃ v, e = .returned v) ∧ ((∃ xs, S xs ∧ J xs W') ∨ (∃ pre, Sp pre ∧ Jx pre W'))
theorem rangeC {α : Type} {g : Operand} {ps : Array Tmp} {assign body : Code} {Q : Exit → Act → World → Prop} {a : Act} {w : World}
    {gf : Nat} {lb : Array Value} (hg : a.eval g = .func (.func gf) #[] lb) (eg : ∀ args w, (callFunc gf args).run Tryz.prog w = .ok (.enter gf args) w)
    {encs : α → Array Value} {Kp : World → World → Prop} {S Sp : List α → Prop} {N : Nat} {w0 : World} (hseq : SeqC 2 gf lb encs Kp S Sp N w0)
    (hKt : ∀ {A B C : World}, Kp A B → Kp B C → Kp A C) (hKb : ∀ (W : World) (l : Nat) (o o' : Obj), w.heap.size ≤ l → W.heap[l]? = some o → o.isCells = false → Kp W (W.putObj l o')) (hb0 : Below w0.heap.size w0 w) (hps : ∀ x, (encs x).size = ps.size)
    (I : List α → World → Prop) (Ix : Code → List α → World → Prop) (hI : Cl w.heap.size I) (hIx : ∀ c, Cl w.heap.size (Ix c)) (h0 : I [] w) (a₁ : α → Act)
    (hassign : ∀ (l : Nat) (x : α) (W : World) (K : Act → World → Prop), K (a₁ x) W →
      assign.wpIn (Fence.wide.inRound l) 1 Tryz.prog (Exit.then K (fun _ _ _ => False)) { tmps := (ps.zip (encs x)).foldl (fun t (p, v) => t.setIfInBounds p v) a.tmps, defers := [] } W)
    (hbody : ∀ (l : Nat) (pre : List α) (x : α) (W : World), I pre W → pre.length < N → body.wpIn (Fence.wide.inRound l) 1 Tryz.prog (ownPostK Kp I Ix (pre ++ [x]) W) (a₁ x) W)
    (hdone : ∀ (D : Nat) (xs : List α) (W : World), w.heap.size ≤ D → S xs → I xs W → W.heap[D]? = some (.deferred (some [])) → Q .normal { a with defers := { target := .collected D, args := #[] } :: a.defers } W)
    (hstop : ∀ (D : Nat) (c : Code) (pre : List α) (W : World), w.heap.size ≤ D → Sp pre → Ix c pre W → W.heap[D]? = some (.deferred (some [])) → c.wpIn Fence.wide 3 Tryz.prog Q { a with defers := { target := .collected D, args := #[] } :: a.defers } W) :
    (Code.rangeFunc g ps assign body).wpIn Fence.wide 3 Tryz.prog Q a w := by
  refine wpIn_rangeFunc fun fn hfn => ?_
  obtain ⟨n, hn⟩ : ∃ n, n = w.heap.size := ⟨_, rfl⟩
  rw [← hn] at hKb hI hIx hdone hstop
  obtain ⟨rc, hrc⟩ : ∃ rc : LoopState → Option Code → Loop, rc = fun st pe => { state := st, pending := pe, fn, tmps := a.tmps, params := ps, assign, body, defers := n } := ⟨_, rfl⟩
  obtain ⟨W1, hW1⟩ : ∃ W1, W1 = (w.alloc (.deferred (some []))).alloc (.loop (rc .ready none)) := ⟨_, rfl⟩
  have hs1 : W1.heap.size = n + 2 := by rw [hW1, hn]; simp
  have hL1 : W1.heap[n + 1]? = some (.loop (rc .ready none)) := by
    rw [hW1, hn]
    have h := World.alloc_heap_new (w.alloc (.deferred (some []))) (.loop (rc .ready none))
    rwa [World.size_alloc] at h
  have hK1 : W1.heap[n]? = some (.deferred (some [])) := by
    rw [hW1, hn]
    exact (Below.heap_alloc _ _ _ (by simp)).trans (World.alloc_heap_new w _)
  have hI1 : I [] W1 := by rw [hW1]; exact hI.alloc _ (hI.alloc _ h0)
  have hb1 : Below w0.heap.size w0 W1 := by
    rw [hW1]
    exact hb0.trans ((((Below.refl _ w).alloc (Nat.le_refl _) _).alloc (by simp) _).mono hb0.size)
  -- the loop's two blocks: nothing behind them turns them
  have two : ∀ {A B : World} {row : Option Nat} {o p : Obj}, A.grownBy B row → (∀ r, row = some r → W1.heap.size ≤ r) → A.heap[n + 1]? = some o ∧ A.heap[n]? = some p → B.heap[n + 1]? = some o ∧ B.heap[n]? = some p := fun {A B row o p} hgr hr h =>
    ⟨(hgr.block _ (Array.getElem?_eq_some_iff.1 h.1).1 (fun e => by have := hr _ e.symm; omega)).trans h.1, (hgr.block _ (Array.getElem?_eq_some_iff.1 h.2).1 (fun e => by have := hr _ e.symm; omega)).trans h.2⟩
  have up : ∀ {row : Option Nat}, (∀ r, row = some r → W1.heap.size ≤ r) → ∀ r, row = some r → n ≤ r := fun hr r e => by have := hr r e; omega
  refine ⟨n + 1, [{ target := .collected n, args := #[] }], W1, { target := .fn (.func gf) lb, args := #[.func (.yield (n + 1)) #[] #[]] }, W1, gf, #[.func (.yield (n + 1)) #[] #[]] ++ lb, W1, ?_, ?_, ?_, ?_, fun _ => by omega, ?_⟩
  · rw [hW1, hrc, hn]
    exact run_enterLoop_outer _ _ _ _ _
  · simp only [resolve, hg]
    simp [go_sem]
  · intro f hf
    simp [Target.leads] at hf
    subst hf
    trivial
  · simp [invoke, go_sem, eg]
  refine (hseq (n + 1)
    (fun pre W => I pre W ∧ W.heap[n + 1]? = some (.loop (rc .ready none)) ∧ W.heap[n]? = some (.deferred (some [])))
    (fun pre W => ∃ c, Ix c pre W ∧ W.heap[n + 1]? = some (.loop (rc .done (some c))) ∧ W.heap[n]? = some (.deferred (some [])))
    W1 hb1 (fun s A B row hs hgr hr => ⟨hI s A B row hs.1 hgr (up hr), two hgr hr hs.2⟩)
    (fun s A B row ⟨c, hc, hs⟩ hgr hr => ⟨c, hIx c s A B row hc hgr (up hr), two hgr hr hs⟩) ?_ ⟨hI1, hL1, hK1⟩).mono ?_
  · rintro pre x W ⟨hi, hl, hk⟩ hlen
    have hlt : n + 1 < W.heap.size := (Array.getElem?_eq_some_iff.1 hl).1
    obtain ⟨Wb, hWb⟩ : ∃ Wb, Wb = W.putObj (n + 1) (.loop { rc .ready none with state := .busy }) := ⟨_, rfl⟩
    have hlb : Wb.heap[n + 1]? = some (.loop { rc .ready none with state := .busy }) := by rw [hWb]; exact World.putObj_heap_same hlt
    have hkb : Wb.heap[n]? = some (.deferred (some [])) := by rw [hWb]; exact (World.putObj_heap_other (by omega)).trans hk
    have hib : I pre Wb := by rw [hWb]; exact hI.put _ hi (by omega)
    have hpb : Kp W Wb := by rw [hWb]; exact hKb _ _ _ _ (by omega) hl rfl
    have hyl := run_yield (P := Tryz.prog) (args := encs x) hl (by rw [hrc]; exact hps x)
    rw [hrc] at hyl
    refine ⟨fn, _, assign, body, hyl, roundIn_of_wpIn hfn (hassign _ x W _ ⟨_, run_beginRound hl (by rw [hrc]), ?_⟩)⟩
    rw [← hWb]
    refine wpIn_mono (hbody _ pre x _ hib hlen) ?_
    have close : ∀ (jump : Option Code) (W3 : World), KeepsOthers Wb W3 → ∃ W4, W4 = W3.putObj (n + 1) (.loop (rc (if jump.isNone then .ready else .done) jump)) ∧ (Instr.endRound (n + 1) jump).run Tryz.prog W3 = .ok (.bool jump.isNone) W4 ∧
        (∃ o : Obj, W3.heap[n + 1]? = some o ∧ o.isCells = false) ∧ W4.heap[n + 1]? = some (.loop (rc (if jump.isNone then .ready else .done) jump)) ∧ W4.heap[n]? = some (.deferred (some [])) := fun jump W3 hk3 => by
      have hl3 := hk3.same _ _ hlb rfl
      have hr3 := run_endRound (P := Tryz.prog) jump hl3
      rw [hrc] at hr3 ⊢
      exact ⟨_, rfl, hr3, ⟨_, hl3, rfl⟩, World.putObj_heap_same (Array.getElem?_eq_some_iff.1 hl3).1, (World.putObj_heap_other (by omega)).trans (hk3.same _ _ hkb rfl)⟩
    have away : ∀ (c : Code) (W3 : World), KeepsOthers Wb W3 → Ix c (pre ++ [x]) W3 → ∃ v W4, (Instr.endRound (n + 1) (some c)).run Tryz.prog W3 = .ok v W4 ∧ v = .bool false ∧ ∃ c', Ix c' (pre ++ [x]) W4 ∧ W4.heap[n + 1]? = some (.loop (rc .done (some c'))) ∧ W4.heap[n]? = some (.deferred (some [])) := fun c W3 hk3 hi3 => by
      obtain ⟨W4, e4, hr, -, h1, h2⟩ := close (some c) W3 hk3
      exact ⟨_, W4, hr, rfl, c, by rw [e4]; exact (hIx c).put _ hi3 (by omega), h1, h2⟩
    rintro e a3 W3 hp
    cases e with
    | normal =>
      obtain ⟨hk3, hp3, hi3⟩ := hp
      obtain ⟨W4, e4, hr, ⟨o, ho, hc⟩, h1, h2⟩ := close none W3 hk3
      refine ⟨_, W4, hr, .inl ⟨rfl, ⟨?_, h1, h2⟩, hKt (hKt hpb hp3) ?_⟩⟩
      · rw [e4]; exact hI.put _ hi3 (by omega)
      · rw [e4]; exact hKb _ _ _ _ (by omega) ho hc
    | ret =>
      obtain ⟨v, W4, hr, hv, h⟩ := away .ret W3 hp.1 hp.2
      exact ⟨v, W4, hr, .inr ⟨by rw [hv], h⟩⟩
    | exit id =>
      obtain ⟨v, W4, hr, hv, h⟩ := away (.exit id) W3 hp.1 hp.2
      exact ⟨v, W4, hr, .inr ⟨by rw [hv], h⟩⟩
    | goto t =>
      obtain ⟨v, W4, hr, hv, h⟩ := away (.goto t) W3 hp.1 hp.2
      exact ⟨v, W4, hr, .inr ⟨by rw [hv], h⟩⟩
    | panic ch => exact hp.elim
    | outgrown => exact hp.elim
  · rintro e W2 ⟨⟨v, rfl⟩, h⟩
    rcases h with ⟨xs, hS, hi, hl, hk⟩ | ⟨pre, hSp, c, hi, hl, hk⟩
    · have hr := run_endLoop (P := Tryz.prog) hl (by rw [hrc]; simp)
      rw [hrc] at hr
      exact ⟨none, _, hr, hdone _ xs _ (Nat.le_refl _) hS (hI.put _ hi (by omega)) ((World.putObj_heap_other (by omega)).trans hk)⟩
    · have hr := run_endLoop (P := Tryz.prog) hl (by rw [hrc]; simp)
      rw [hrc] at hr
      exact ⟨some c, _, hr, hstop _ c pre _ (Nat.le_refl _) hSp ((hIx c).put _ hi (by omega)) ((World.putObj_heap_other (by omega)).trans hk)⟩
section
variable {P : Program} {Q : Exit → Act → World → Prop} {n : Nat}
/-- an operation that is no defer statement is carried out in the wide fence as everywhere -/
theorem operIn_w {o : Oper} {a : Act} {w : World} {K : Act → World → Prop} (hd : ∀ c, o.op ≠ .defer c) (h : o.wp P a w K Q) : o.wpIn Fence.wide n P a w K Q := by
  refine ⟨fun _ _ => trivial, ?_⟩
  rw [Oper.semAt_eq _ _ _ hd]
  unfold Oper.wp at h
  cases hr : (execOp a.eval o).run P w with
  | ok x w' =>
    rw [hr] at h
    cases x <;> first | exact h | exact (h : False).elim | skip
    · exact ⟨by simp [Fence.wide], callsIn_wide.2 h⟩
    all_goals exact ⟨by simp [Fence.wide], fun c cs _ => let ⟨v, w', r, s⟩ := h c cs; ⟨v, w', r, stepsIn_wide.2 s⟩⟩
  | halt x w' =>
    rw [hr] at h
    cases x <;> first | exact h | exact (h : False).elim
theorem listIn_of {ops : Array Oper} {rest : List Oper} {o : Oper} {a : Act} {w : World} (hgd : o.guard = none) (hd : ∀ c, o.op ≠ .defer c) (h : ∀ K : Act → World → Prop, (∀ a w, wpListIn Fence.wide n P ops Q rest a w → K a w) → o.wp P a w K Q) : wpListIn Fence.wide n P ops Q (o :: rest) a w :=
  wpListIn_plain hgd fun K hK => operIn_w hd (h K hK)
end
section
variable {F : Fence} {n : Nat} {P : Program} {Q : Exit → Act → World → Prop} {a : Act} {w : World}
/-- a scope that no goto leaves, outside every round -/
theorem wpIn_scope_straight {c : Code} (hro : F.round = none) (h : c.wpIn F n P (Exit.noGoto Q) a w) : (Code.scope c).wpIn F n P Q a w := by
  intro b k cs hb1 hb hr
  have hn : b.roundOf = none := by rw [hb1, hro]
  have h0 : (lone (b.atR a (.code (.scope c) :: k)) cs w).fenced P F := fenced_calm hb hr rfl
  have s0 : step P (lone (b.atR a (.code (.scope c) :: k)) cs w) = .next (lone (b.atR a (.code c :: .inScope c :: k)) cs w) := by
    rw [Frame.atR_of_none hn, Frame.atR_of_none hn]; exact step_scope
  have s1 : ∀ a₁ w₁, step P (lone (b.atR a₁ (.inScope c :: k)) cs w₁) = .next (lone (b.atR a₁ k) cs w₁) := fun a₁ w₁ => by
    rw [Frame.atR_of_none hn, Frame.atR_of_none hn]; exact step_inScope
  obtain ⟨e, a₁, w₁, hq, harr⟩ := h b (.inScope c :: k) cs hb1 hb hr
  cases e with
  | normal => exact ⟨.normal, a₁, w₁, hq, .of_steps (.one h0 s0) (StepsIn.trans harr (.one (fenced_calm hb hr rfl) (s1 a₁ w₁)))⟩
  | exit id => exact ⟨.exit id, a₁, w₁, hq, fun k' hk => StepsIn.trans (.one h0 s0) (harr.1 k' (by simp [exitTo, hk])), fun hs => by rw [hn] at hs; cases hs⟩
  | goto l => exact hq.elim
  | ret => exact ⟨_, a₁, w₁, hq, .of_steps (.one h0 s0) harr⟩
  | panic ch => exact ⟨_, a₁, w₁, hq, .of_steps (.one h0 s0) harr⟩
  | outgrown => exact ⟨_, a₁, w₁, hq, .of_steps (.one h0 s0) harr⟩
end
theorem takeP_succ (ps : List (Int × Int)) (k : Nat) (h : k < ps.length) : ps.take (k + 1) = ps.take k ++ [ps[k]] := by
  rw [List.take_succ_eq_append_getElem h]
def encP (x : Int × Int) : Array Value := #[.int .i64 x.1, .int .i64 x.2]
structure It (PS : List (Int × Int)) (lb : Array Value) (Ok : Nat → Prop) (Fw : World → Prop) : Prop where
  seq : ∀ b w, Ok b → Fw w → b < w.heap.size → SeqC 2 97999 lb encP (KpB [b]) (fun ys => ys = PS) (fun pre => ∃ k, k ≤ PS.length ∧ pre = PS.take k) PS.length w
  kp : ∀ b W W', Ok b → Fw W → KpB [b] W W' → Fw W'
  below : ∀ W W', Fw W → Below W.heap.size W W' → Fw W'
/-! ### the loop over it -/
theorem KpB.grow {bs : List Nat} {A W W' : World} {row : Option Nat} (h : KpB bs A W) (hg : W.grownBy W' row) (hr : ∀ r, row = some r → A.heap.size ≤ r) : KpB bs A W' := by
  refine ⟨Nat.le_trans h.1 hg.size, fun k o hk hc hn => ?_⟩
  have h1 := h.2 k o hk hc hn
  exact (hg.block k (heap_lt' h1) (fun e => by have := hr k e.symm; have := heap_lt' hk; omega)).trans h1
theorem pre_next {ps pre : List (Int × Int)} {x : Int × Int} {n : Nat} (h : pre = ps.take pre.length) (hn : pre.length = n) (hl : n < ps.length) (hx : x = ps[n]) : pre ++ [x] = ps.take (n + 1) ∧ (pre ++ [x]).length = n + 1 := by
  subst hn
  refine ⟨?_, by simp⟩
  rw [takeP_succ _ _ hl, ← h, hx]
theorem pre_not {ps pre : List (Int × Int)} {x : Int × Int} {n : Nat} (hn : pre.length = n) (hl : n < ps.length) (hx : x ≠ ps[n]) : ∀ k, pre ++ [x] ≠ ps.take k := by
  intro k e
  subst hn
  apply hx
  have h1 : (pre ++ [x])[pre.length]? = some x := by simp
  rw [e, List.getElem?_take] at h1
  split at h1
  · rw [List.getElem?_eq_getElem hl] at h1
    exact (Option.some.inj h1).symm
  · cases h1
/-- the loop's invariant: where the world Wr was when it began, what lies now -/
structure LpI (PS : List (Int × Int)) (w Wr : World) (b16 : Nat) (od : Option Nat) (n : Nat) (W : World) : Prop where
  x : Blk W b16 3 [.int .i64 (n : Int)]
  k : KpB [b16] Wr W
  bl : Below w.heap.size w W
  d : ∀ D, od = some D → W.heap[D]? = some (.deferred (some []))
def Lp0 (PS : List (Int × Int)) (w Wr : World) (b16 : Nat) (od : Option Nat) (C : Nat → Prop) (pre : List (Int × Int)) (W : World) : Prop :=
  pre = PS.take pre.length ∧ C pre.length ∧ LpI PS w Wr b16 od pre.length W
def Lpx (PS : List (Int × Int)) (w Wr : World) (b16 : Nat) (od : Option Nat) (C : Nat → Prop) (id : Nat) (c : Code) (pre : List (Int × Int)) (W : World) : Prop :=
  (∀ k, pre ≠ PS.take k) ∨ (c = .exit id ∧ C pre.length ∧ LpI PS w Wr b16 od pre.length W)
theorem LpI.cl {PS : List (Int × Int)} {w Wr : World} {b16 : Nat} {od : Option Nat} {n : Nat} {W W' : World} {row : Option Nat} (h : LpI PS w Wr b16 od n W) (hw : w.heap.size ≤ Wr.heap.size) (hb : b16 < Wr.heap.size) (hd : ∀ D, od = some D → D < Wr.heap.size) (hg : W.grownBy W' row) (hr : ∀ r, row = some r → Wr.heap.size ≤ r) : LpI PS w Wr b16 od n W' :=
  ⟨(hg.block b16 h.x.lt (fun e => by have := hr _ e.symm; omega)).trans h.x, h.k.grow hg hr, h.bl.grown hg h.bl.size (fun k e => Nat.le_trans hw (hr k e)), fun D e => (hg.block D (heap_lt' (h.d D e)) (fun e' => by have := hr _ e'.symm; have := hd D e; omega)).trans (h.d D e)⟩
theorem Lp0.cl {PS : List (Int × Int)} {w Wr : World} {b16 : Nat} {od : Option Nat} {C : Nat → Prop} (hw : w.heap.size ≤ Wr.heap.size) (hb : b16 < Wr.heap.size) (hd : ∀ D, od = some D → D < Wr.heap.size) : Cl Wr.heap.size (Lp0 PS w Wr b16 od C) :=
  fun s A B row h hg hr => ⟨h.1, h.2.1, h.2.2.cl hw hb hd hg hr⟩
theorem Lpx.cl {PS : List (Int × Int)} {w Wr : World} {b16 : Nat} {od : Option Nat} {C : Nat → Prop} {id : Nat} (hw : w.heap.size ≤ Wr.heap.size) (hb : b16 < Wr.heap.size) (hd : ∀ D, od = some D → D < Wr.heap.size) (c : Code) : Cl Wr.heap.size (Lpx PS w Wr b16 od C id c) :=
  fun s A B row h hg hr => h.elim .inl fun h => .inr ⟨h.1, h.2.1, h.2.2.cl hw hb hd hg hr⟩
theorem LpI.next {PS : List (Int × Int)} {w Wr : World} {b16 : Nat} {od : Option Nat} {n : Nat} {W : World} (h : LpI PS w Wr b16 od n W) (hw : w.heap.size ≤ b16) (v : Value) (hv : v = .int .i64 ((n + 1 : Nat) : Int)) :
    KeepsOthers W (W.setCell ⟨b16, 0, none⟩ v) ∧ KpB [b16] W (W.setCell ⟨b16, 0, none⟩ v) ∧ LpI PS w Wr b16 od (n + 1) (W.setCell ⟨b16, 0, none⟩ v) := by
  subst hv
  have hg := grownBy_set W b16 0 (.int .i64 ((n + 1 : Nat) : Int))
  have hk : KpB [b16] W (W.setCell ⟨b16, 0, none⟩ (.int .i64 ((n + 1 : Nat) : Int))) := KpB.set hg (by simp)
  refine ⟨KeepsOthers.setCell _ _ _, hk, ⟨h.x.set 0 _, h.k.trans hk, h.bl.setCell hw _, fun D e => ?_⟩⟩
  exact (KeepsOthers.setCell W _ _).same D _ (h.d D e) rfl
/-- what the law keeps while the iterator runs -/
structure KpF (b7 b8 b9 : Nat) (a3 : Int) (Aw : Option Addr) (NW cw : Nat) (WL : List Int) (Fw : World → Prop) (w W : World) : Prop where
  x7 : Blk W b7 3 [.int .i64 a3]
  x8 : Blk W b8 4 [.bool false]
  x9 : Blk W b9 60 [.slice Aw NW cw]
  r : Rd .i64 W Aw NW cw WL
  fw : Fw W
  bl : Below w.heap.size w W
structure KpO (b7 b8 b9 : Nat) (Aw : Option Addr) (Ok : Nat → Prop) (b : Nat) : Prop where
  h7 : b7 ≠ b
  h8 : b8 ≠ b
  h9 : b9 ≠ b
  hr : ∀ a, Aw = some a → a.block ≠ b
  ok : Ok b
theorem KpF.kp {b7 b8 b9 : Nat} {a3 : Int} {Aw : Option Addr} {NW cw : Nat} {WL : List Int} {Fw : World → Prop} {w W W' : World} {PS : List (Int × Int)} {lb : Array Value} {Ok : Nat → Prop} {b : Nat} (hI : It PS lb Ok Fw) (h : KpF b7 b8 b9 a3 Aw NW cw WL Fw w W) (ho : KpO b7 b8 b9 Aw Ok b) (hk : KpB [b] W W') (hb : Below w.heap.size w W') : KpF b7 b8 b9 a3 Aw NW cw WL Fw w W' :=
  ⟨h.x7.kp hk (by simpa using ho.h7), h.x8.kp hk (by simpa using ho.h8), h.x9.kp hk (by simpa using ho.h9), Rdv.kp h.r hk (fun a ha => by simpa using ho.hr a ha), hI.kp b W W' ho.ok h.fw hk, hb⟩
theorem KpF.below {b7 b8 b9 : Nat} {a3 : Int} {Aw : Option Addr} {NW cw : Nat} {WL : List Int} {Fw : World → Prop} {w W W' : World} {PS : List (Int × Int)} {lb : Array Value} {Ok : Nat → Prop} (hI : It PS lb Ok Fw) (h : KpF b7 b8 b9 a3 Aw NW cw WL Fw w W) (hb : Below W.heap.size W W') : KpF b7 b8 b9 a3 Aw NW cw WL Fw w W' :=
  ⟨h.x7.below hb, h.x8.below hb, h.x9.below hb, Rdv.below h.r hb, hI.below W W' h.fw hb, h.bl.trans (hb.mono h.bl.size)⟩
theorem KpF.belowT {b7 b8 b9 : Nat} {a3 : Int} {Aw : Option Addr} {NW cw : Nat} {WL : List Int} {w W W' : World} (h : KpF b7 b8 b9 a3 Aw NW cw WL (fun _ => True) w W) (hb : Below W.heap.size W W') : KpF b7 b8 b9 a3 Aw NW cw WL (fun _ => True) w W' :=
  ⟨h.x7.below hb, h.x8.below hb, h.x9.below hb, Rdv.below h.r hb, trivial, h.bl.trans (hb.mono h.bl.size)⟩
theorem KpF.to {b7 b8 b9 : Nat} {a3 : Int} {Aw : Option Addr} {NW cw : Nat} {WL : List Int} {w W : World} {Fw : World → Prop} (h : KpF b7 b8 b9 a3 Aw NW cw WL (fun _ => True) w W) (hf : Fw W) : KpF b7 b8 b9 a3 Aw NW cw WL Fw w W := ⟨h.x7, h.x8, h.x9, h.r, hf, h.bl⟩
theorem load_bool {W : World} {b : Nat} {v : Value} (h : Blk W b 4 [v]) : (loadVar 4 ⟨b, 0, none⟩).run Tryz.prog W = .ok v W := by
  have hc := h.cell (j := 0) (v := v) rfl
  simp [loadVar, hc, go_sem]
theorem run_eql_func_nil {P : Program} (w : World) {t : TypeId} {a b : Array TypeId} {c : Bool} (h : P.underlying t = some (.func a b c)) (f : Fn) (fa : Array Value) (lb : Array Value) : (binOp .eql t (.func f fa lb) .nilFunc).run P w = .ok (.bool false) w := by
  have h' : ∀ d, (Op.equalIn (d + 1) t (.func f fa lb) .nilFunc).run P w = .ok false w := fun d => by
    simp [Op.equalIn, run_underlying h]
  simp only [binOp]
  simp [Op.equal, Op.maxDepth, h' 9999]
end Go.Proofs.YtcbbkflnenkpgaaGreat
