/-
  Bundle of the texts Re Rf Sb. Conditions: none.
-/
import Derived.Test.YtpdalbckmfadbaaGreatBuhaz
import Derived.RangeFuncNested
import Derived.RangeFuncBound
import Derived.RangeFuncCalls
import Derived.RangeFuncLeaves
import Derived.Shelf.Abstract
import Derived.Shelf.RegionOpen
import Derived.OwnWalkIn
import Derived.TacticsInMore
import Derived.LoopNIn
import Derived.LoopIn
import Derived.RangeFuncBox
import Derived.OrdersIn
namespace Go.Proofs.YtpdalbckmfadbaaGreat
open Go.RowKit
set_option linter.unusedVariables false
attribute [local go_sem] Oper.semAt_some
end Go.Proofs.YtpdalbckmfadbaaGreat

namespace Go.Proofs.YtpdalbckmfadbaaGreat
open Go.RowKit
set_option linter.unusedVariables false
attribute [local go_sem] Oper.semAt_some
theorem same_self (A B : Option Addr) (n c m d : Nat) (xs : List Int) (w : World) (hx : Rd .u8 w A n c xs) (hy : Rd .u8 w B m d xs) :
    Calls Tryz.prog 18 #[.slice A n c, .slice B m d] w fun e w' => e = .returned (.bool true) ∧ w = w' := by
  have c1 := conv_rd hx
  have c2 := conv_rd hy
  clear hx hy
  generalize strOfNums xs = s at *
  have hs : decide (s = s) = true := decide_eq_true rfl
  rw [← hs]
  clear hs
  go_enter Tryz.func18, Tryz.ntmps18
  go_wp2
  go_ret
  first | exact ⟨rfl, rfl⟩ | (refine ⟨?_, rfl⟩; simp)
end Go.Proofs.YtpdalbckmfadbaaGreat

namespace Go.Proofs.YtpdalbckmfadbaaGreat
open Go.RowKit Go.Shelf
set_option linter.unusedVariables false
attribute [local go_sem] Oper.semAt_some
/-- does not mind what happens at or beyond B -/
def Cl {β : Type} (B : Nat) (J : β → World → Prop) : Prop := ∀ s W W' row, J s W → W.grownBy W' row → (∀ r, row = some r → B ≤ r) → J s W'
theorem Cl.alloc {β : Type} {B : Nat} {J : β → World → Prop} (h : Cl B J) {s : β} {W : World} (o : Obj) (hs : J s W) : J s (W.alloc o) := h s W _ none hs (World.grownBy_alloc W o none) (fun r e => by cases e)
theorem Cl.put {β : Type} {B : Nat} {J : β → World → Prop} (h : Cl B J) {s : β} {W : World} {l : Nat} (o : Obj) (hs : J s W) (hl : B ≤ l) : J s (W.putObj l o) := h s W _ (some l) hs (grownBy_putObj' W l o) (fun r e => by cases e; exact hl)
theorem Cl.set {β : Type} {B : Nat} {J : β → World → Prop} (h : Cl B J) {s : β} {W W' : World} {l : Nat} (hs : J s W) (hg : W.grownBy W' (some l)) (hl : B ≤ l) : J s W' := h s W _ (some l) hs hg (fun r e => by cases e; exact hl)
theorem grown_of_bel {W W' : World} (h : Below W.heap.size W W') : W.grownBy W' none := ⟨h.os, h.tape, h.output, h.size, fun k hk _ => h.block k hk⟩
theorem Cl.call {β : Type} {B : Nat} {J : β → World → Prop} (h : Cl B J) {s : β} {W W' : World} (hs : J s W) (hb : Below W.heap.size W W') : J s W' := h s W _ none hs (grown_of_bel hb) (fun r e => by cases e)
theorem Cl.and {β : Type} {B : Nat} {I J : β → World → Prop} (h : Cl B I) (k : Cl B J) : Cl B (fun s W => I s W ∧ J s W) := fun s W W' row hs hg hr => ⟨h s W W' row hs.1 hg hr, k s W W' row hs.2 hg hr⟩
/-- every row of cells but those named lies as it lay -/
def KpB (bs : List Nat) (A B : World) : Prop := A.heap.size ≤ B.heap.size ∧ ∀ k o, A.heap[k]? = some o → o.isCells = true → k ∉ bs → B.heap[k]? = some o
theorem KpB.refl (bs : List Nat) (A : World) : KpB bs A A := ⟨Nat.le_refl _, fun _ _ h _ _ => h⟩
theorem KpB.trans {bs : List Nat} {A B C : World} (h : KpB bs A B) (k : KpB bs B C) : KpB bs A C := ⟨Nat.le_trans h.1 k.1, fun i o hi hc hb => k.2 i o (h.2 i o hi hc hb) hc hb⟩
theorem KpB.set {bs : List Nat} {W W' : World} {b : Nat} (hg : W.grownBy W' (some b)) (hb : b ∈ bs) : KpB bs W W' := ⟨hg.size, fun k o hk hc hn => (hg.block k (Array.getElem?_eq_some_iff.1 hk).1 (fun e => by cases e; exact hn hb)).trans hk⟩
theorem KpB.below {bs : List Nat} {W W' : World} (h : Below W.heap.size W W') : KpB bs W W' := ⟨h.size, fun k o hk hc hn => (h.block k (Array.getElem?_eq_some_iff.1 hk).1).trans hk⟩
theorem KpB.put {bs : List Nat} {W : World} {l : Nat} {o : Obj} (o' : Obj) (h : W.heap[l]? = some o) (ho : o.isCells = false) : KpB bs W (W.putObj l o') := by
  have hg := grownBy_putObj' W l o'
  refine ⟨hg.size, fun k x hk hc hn => (hg.block k (Array.getElem?_eq_some_iff.1 hk).1 (fun e => ?_)).trans hk⟩
  cases e
  rw [h] at hk
  cases hk
  rw [ho] at hc
  cases hc
theorem Blk.kp {W W' : World} {b : Nat} {t : TypeId} {cs : List Value} {bs : List Nat} (h : Blk W b t cs) (hk : KpB bs W W') (hb : b ∉ bs) : Blk W' b t cs := hk.2 b _ h rfl hb
theorem Rdv.kp {W W' : World} {A : Option Addr} {n c : Nat} {vs : List Value} {bs : List Nat} (h : Rdv W A n c vs) (hk : KpB bs W W') (hb : ∀ a, A = some a → a.block ∉ bs) : Rdv W' A n c vs := by
  refine ⟨h.len, h.le, h.cm, h.nil, h.spot, fun hc a ha => Nat.lt_of_lt_of_le (h.lt hc a ha) hk.1, fun j v hj => ?_⟩
  have h1 := h.at_ j v hj
  cases A with
  | none =>
    have := h.nil rfl
    have h2 := (List.getElem?_eq_some_iff.1 hj).1
    have h3 := h.len
    have h4 := h.le
    omega
  | some a =>
    have h2 := hb a rfl
    have hblk : (adr (some a) j).block = a.block := rfl
    rw [← h1]
    obtain ⟨o, ho⟩ : ∃ o, W.heap[a.block]? = some o := by
      have := World.block_lt_of_cell? W _ h1
      exact ⟨_, Array.getElem?_eq_getElem this⟩
    refine World.cell?_of_block ?_
    rw [hblk]
    refine (hk.2 a.block o ho ?_ h2).trans ho.symm
    cases o with
    | cells x y z => rfl
    | _ => simp [World.cell?, hblk, ho] at h1
/-- THE CONTRACT of an iterator value that yields rows of its own: what the body keeps may hang on the item -/
def SeqG {α : Type} (m gf : Nat) (lb : Array Value) (encs : α → Array Value) (Kp : α → World → World → Prop) (S Sp : List α → Prop) (Ok : Nat → List α → α → World → Prop) (w : World) : Prop :=
  ∀ (l : Nat) (J Jx : List α → World → Prop) (W : World), Below w.heap.size w W → Cl W.heap.size J → Cl W.heap.size Jx →
    (∀ pre x W1, J pre W1 → Ok W.heap.size pre x W1 → YieldAt Fence.wide (m - 1) Tryz.prog l (encs x) W1 fun e W' =>
      (e = .returned (.bool true) ∧ J (pre ++ [x]) W' ∧ Kp x W1 W') ∨ (e = .returned (.bool false) ∧ Jx (pre ++ [x]) W')) →
    J [] W →
    CallsIn Fence.wide m Tryz.prog gf (#[.func (.yield l) #[] #[]] ++ lb) W fun e W' => (∃ v, e = .returned v) ∧ ((∃ xs, S xs ∧ J xs W') ∨ (∃ pre, Sp pre ∧ Jx pre W'))
theorem rangeG {α : Type} {g : Operand} {ps : Array Tmp} {assign body : Code} {Q : Exit → Act → World → Prop} {a : Act} {w : World}
    {gf : Nat} {lb : Array Value} (hg : a.eval g = .func (.func gf) #[] lb) (eg : ∀ args w, (callFunc gf args).run Tryz.prog w = .ok (.enter gf args) w)
    {encs : α → Array Value} {Kp : α → World → World → Prop} {S Sp : List α → Prop} {Ok : Nat → List α → α → World → Prop} {w0 : World} (hseq : SeqG 2 gf lb encs Kp S Sp Ok w0)
    (hOk : ∀ B pre x W l o o', Ok B pre x W → W.heap[l]? = some o → o.isCells = false → Ok B pre x (W.putObj l o'))
    (hKt : ∀ {x : α} {A B C : World}, Kp x A B → Kp x B C → Kp x A C) (hKb : ∀ (x : α) (W : World) (l : Nat) (o o' : Obj), w.heap.size ≤ l → W.heap[l]? = some o → o.isCells = false → Kp x W (W.putObj l o')) (hb0 : Below w0.heap.size w0 w) (hps : ∀ x, (encs x).size = ps.size)
    (I : List α → World → Prop) (Ix : Code → List α → World → Prop) (hI : Cl w.heap.size I) (hIx : ∀ c, Cl w.heap.size (Ix c)) (h0 : I [] w) (a₁ : α → Act)
    (hassign : ∀ (l : Nat) (x : α) (W : World) (K : Act → World → Prop), K (a₁ x) W →
      assign.wpIn (Fence.wide.inRound l) 1 Tryz.prog (Exit.then K (fun _ _ _ => False)) { tmps := (ps.zip (encs x)).foldl (fun t (p, v) => t.setIfInBounds p v) a.tmps, defers := [] } W)
    (hbody : ∀ (l : Nat) (pre : List α) (x : α) (W : World), I pre W → Ok (w.heap.size + 2) pre x W → body.wpIn (Fence.wide.inRound l) 1 Tryz.prog (ownPostK (Kp x) I Ix (pre ++ [x]) W) (a₁ x) W)
    (hdone : ∀ (D : Nat) (xs : List α) (W : World), w.heap.size ≤ D → S xs → I xs W → W.heap[D]? = some (.deferred (some [])) → Q .normal { a with defers := { target := .collected D, args := #[] } :: a.defers } W)
    (hstop : ∀ (D : Nat) (c : Code) (pre : List α) (W : World), w.heap.size ≤ D → Sp pre → Ix c pre W → W.heap[D]? = some (.deferred (some [])) → c.wpIn Fence.wide 3 Tryz.prog Q { a with defers := { target := .collected D, args := #[] } :: a.defers } W) :
    (Code.rangeFunc g ps assign body).wpIn Fence.wide 3 Tryz.prog Q a w := by
  refine wpIn_rangeFunc fun fn hfn => ?_
  obtain ⟨n, hn⟩ : ∃ n, n = w.heap.size := ⟨_, rfl⟩
  rw [← hn] at hKb hI hIx hdone hstop hbody
  obtain ⟨rc, hrc⟩ : ∃ rc : LoopState → Option Code → Loop, rc = fun st pe => { state := st, pending := pe, fn, tmps := a.tmps, params := ps, assign, body, defers := n } := ⟨_, rfl⟩
  obtain ⟨W1, hW1⟩ : ∃ W1, W1 = (w.alloc (.deferred (some []))).alloc (.loop (rc .ready none)) := ⟨_, rfl⟩
  have hs1 : W1.heap.size = n + 2 := by rw [hW1, hn]; simp
  have hL1 : W1.heap[n + 1]? = some (.loop (rc .ready none)) := by
    rw [hW1, hn]
    have h := World.alloc_heap_new (w.alloc (.deferred (some []))) (.loop (rc .ready none))
    rwa [World.size_alloc] at h
  have hK1 : W1.heap[n]? = some (.deferred (some [])) := by
    rw [hW1, hn]
    exact (Below.heap_alloc _ _ _ (by simp)).trans (World.alloc_heap_new w _)
  have hI1 : I [] W1 := by rw [hW1]; exact hI.alloc _ (hI.alloc _ h0)
  have hb1 : Below w0.heap.size w0 W1 := by
    rw [hW1]
    exact hb0.trans ((((Below.refl _ w).alloc (Nat.le_refl _) _).alloc (by simp) _).mono hb0.size)
  -- the loop's two blocks: nothing behind them turns them
  have two : ∀ {A B : World} {row : Option Nat} {o p : Obj}, A.grownBy B row → (∀ r, row = some r → W1.heap.size ≤ r) → A.heap[n + 1]? = some o ∧ A.heap[n]? = some p → B.heap[n + 1]? = some o ∧ B.heap[n]? = some p := fun {A B row o p} hgr hr h =>
    ⟨(hgr.block _ (Array.getElem?_eq_some_iff.1 h.1).1 (fun e => by have := hr _ e.symm; omega)).trans h.1, (hgr.block _ (Array.getElem?_eq_some_iff.1 h.2).1 (fun e => by have := hr _ e.symm; omega)).trans h.2⟩
  have up : ∀ {row : Option Nat}, (∀ r, row = some r → W1.heap.size ≤ r) → ∀ r, row = some r → n ≤ r := fun hr r e => by have := hr r e; omega
  refine ⟨n + 1, [{ target := .collected n, args := #[] }], W1, { target := .fn (.func gf) lb, args := #[.func (.yield (n + 1)) #[] #[]] }, W1, gf, #[.func (.yield (n + 1)) #[] #[]] ++ lb, W1, ?_, ?_, ?_, ?_, fun _ => by omega, ?_⟩
  · rw [hW1, hrc, hn]
    exact run_enterLoop_outer _ _ _ _ _
  · simp only [resolve, hg]
    simp [go_sem]
  · intro f hf
    simp [Target.leads] at hf
    subst hf
    trivial
  · simp [invoke, go_sem, eg]
  refine (hseq (n + 1)
    (fun pre W => I pre W ∧ W.heap[n + 1]? = some (.loop (rc .ready none)) ∧ W.heap[n]? = some (.deferred (some [])))
    (fun pre W => ∃ c, Ix c pre W ∧ W.heap[n + 1]? = some (.loop (rc .done (some c))) ∧ W.heap[n]? = some (.deferred (some [])))
    W1 hb1 (fun s A B row hs hgr hr => ⟨hI s A B row hs.1 hgr (up hr), two hgr hr hs.2⟩)
    (fun s A B row ⟨c, hc, hs⟩ hgr hr => ⟨c, hIx c s A B row hc hgr (up hr), two hgr hr hs⟩) ?_ ⟨hI1, hL1, hK1⟩).mono ?_
  · rintro pre x W ⟨hi, hl, hk⟩ hlen
    have hlt : n + 1 < W.heap.size := (Array.getElem?_eq_some_iff.1 hl).1
    obtain ⟨Wb, hWb⟩ : ∃ Wb, Wb = W.putObj (n + 1) (.loop { rc .ready none with state := .busy }) := ⟨_, rfl⟩
    have hlb : Wb.heap[n + 1]? = some (.loop { rc .ready none with state := .busy }) := by rw [hWb]; exact World.putObj_heap_same hlt
    have hkb : Wb.heap[n]? = some (.deferred (some [])) := by rw [hWb]; exact (World.putObj_heap_other (by omega)).trans hk
    have hib : I pre Wb := by rw [hWb]; exact hI.put _ hi (by omega)
    have hpb : Kp x W Wb := by rw [hWb]; exact hKb _ _ _ _ _ (by omega) hl rfl
    have hob : Ok (n + 2) pre x Wb := by rw [hWb]; rw [hs1] at hlen; exact hOk _ _ _ _ _ _ _ hlen hl rfl
    have hyl := run_yield (P := Tryz.prog) (args := encs x) hl (by rw [hrc]; exact hps x)
    rw [hrc] at hyl
    refine ⟨fn, _, assign, body, hyl, roundIn_of_wpIn hfn (hassign _ x W _ ⟨_, run_beginRound hl (by rw [hrc]), ?_⟩)⟩
    rw [← hWb]
    refine wpIn_mono (hbody _ pre x _ hib hob) ?_
    have close : ∀ (jump : Option Code) (W3 : World), KeepsOthers Wb W3 → ∃ W4, W4 = W3.putObj (n + 1) (.loop (rc (if jump.isNone then .ready else .done) jump)) ∧ (Instr.endRound (n + 1) jump).run Tryz.prog W3 = .ok (.bool jump.isNone) W4 ∧
        (∃ o : Obj, W3.heap[n + 1]? = some o ∧ o.isCells = false) ∧ W4.heap[n + 1]? = some (.loop (rc (if jump.isNone then .ready else .done) jump)) ∧ W4.heap[n]? = some (.deferred (some [])) := fun jump W3 hk3 => by
      have hl3 := hk3.same _ _ hlb rfl
      have hr3 := run_endRound (P := Tryz.prog) jump hl3
      rw [hrc] at hr3 ⊢
      exact ⟨_, rfl, hr3, ⟨_, hl3, rfl⟩, World.putObj_heap_same (Array.getElem?_eq_some_iff.1 hl3).1, (World.putObj_heap_other (by omega)).trans (hk3.same _ _ hkb rfl)⟩
    have away : ∀ (c : Code) (W3 : World), KeepsOthers Wb W3 → Ix c (pre ++ [x]) W3 → ∃ v W4, (Instr.endRound (n + 1) (some c)).run Tryz.prog W3 = .ok v W4 ∧ v = .bool false ∧ ∃ c', Ix c' (pre ++ [x]) W4 ∧ W4.heap[n + 1]? = some (.loop (rc .done (some c'))) ∧ W4.heap[n]? = some (.deferred (some [])) := fun c W3 hk3 hi3 => by
      obtain ⟨W4, e4, hr, -, h1, h2⟩ := close (some c) W3 hk3
      exact ⟨_, W4, hr, rfl, c, by rw [e4]; exact (hIx c).put _ hi3 (by omega), h1, h2⟩
    rintro e a3 W3 hp
    cases e with
    | normal =>
      obtain ⟨hk3, hp3, hi3⟩ := hp
      obtain ⟨W4, e4, hr, ⟨o, ho, hc⟩, h1, h2⟩ := close none W3 hk3
      refine ⟨_, W4, hr, .inl ⟨rfl, ⟨?_, h1, h2⟩, hKt (hKt hpb hp3) ?_⟩⟩
      · rw [e4]; exact hI.put _ hi3 (by omega)
      · rw [e4]; exact hKb _ _ _ _ _ (by omega) ho hc
    | ret =>
      obtain ⟨v, W4, hr, hv, h⟩ := away .ret W3 hp.1 hp.2
      exact ⟨v, W4, hr, .inr ⟨by rw [hv], h⟩⟩
    | exit id =>
      obtain ⟨v, W4, hr, hv, h⟩ := away (.exit id) W3 hp.1 hp.2
      exact ⟨v, W4, hr, .inr ⟨by rw [hv], h⟩⟩
    | goto t =>
      obtain ⟨v, W4, hr, hv, h⟩ := away (.goto t) W3 hp.1 hp.2
      exact ⟨v, W4, hr, .inr ⟨by rw [hv], h⟩⟩
    | panic ch => exact hp.elim
    | outgrown => exact hp.elim
  · rintro e W2 ⟨⟨v, rfl⟩, h⟩
    rcases h with ⟨xs, hS, hi, hl, hk⟩ | ⟨pre, hSp, c, hi, hl, hk⟩
    · have hr := run_endLoop (P := Tryz.prog) hl (by rw [hrc]; simp)
      rw [hrc] at hr
      exact ⟨none, _, hr, hdone _ xs _ (Nat.le_refl _) hS (hI.put _ hi (by omega)) ((World.putObj_heap_other (by omega)).trans hk)⟩
    · have hr := run_endLoop (P := Tryz.prog) hl (by rw [hrc]; simp)
      rw [hrc] at hr
      exact ⟨some c, _, hr, hstop _ c pre _ (Nat.le_refl _) hSp ((hIx c).put _ hi (by omega)) ((World.putObj_heap_other (by omega)).trans hk)⟩
section
variable {P : Program} {Q : Exit → Act → World → Prop} {n : Nat}
/-- an operation that is no defer statement is carried out in the wide fence as everywhere -/
theorem operIn_w {o : Oper} {a : Act} {w : World} {K : Act → World → Prop} (hd : ∀ c, o.op ≠ .defer c) (h : o.wp P a w K Q) : o.wpIn Fence.wide n P a w K Q := by
  refine ⟨fun _ _ => trivial, ?_⟩
  rw [Oper.semAt_eq _ _ _ hd]
  unfold Oper.wp at h
  cases hr : (execOp a.eval o).run P w with
  | ok x w' =>
    rw [hr] at h
    cases x <;> first | exact h | exact (h : False).elim | skip
    · exact ⟨by simp [Fence.wide], callsIn_wide.2 h⟩
    all_goals exact ⟨by simp [Fence.wide], fun c cs _ => let ⟨v, w', r, s⟩ := h c cs; ⟨v, w', r, stepsIn_wide.2 s⟩⟩
  | halt x w' =>
    rw [hr] at h
    cases x <;> first | exact h | exact (h : False).elim
theorem listIn_of {ops : Array Oper} {rest : List Oper} {o : Oper} {a : Act} {w : World} (hgd : o.guard = none) (hd : ∀ c, o.op ≠ .defer c) (h : ∀ K : Act → World → Prop, (∀ a w, wpListIn Fence.wide n P ops Q rest a w → K a w) → o.wp P a w K Q) : wpListIn Fence.wide n P ops Q (o :: rest) a w :=
  wpListIn_plain hgd fun K hK => operIn_w hd (h K hK)
end
section
variable {F : Fence} {n : Nat} {P : Program} {Q : Exit → Act → World → Prop} {a : Act} {w : World}
/-- a scope that no goto leaves, outside every round -/
theorem wpIn_scope_straight {c : Code} (hro : F.round = none) (h : c.wpIn F n P (Exit.noGoto Q) a w) : (Code.scope c).wpIn F n P Q a w := by
  intro b k cs hb1 hb hr
  have hn : b.roundOf = none := by rw [hb1, hro]
  have h0 : (lone (b.atR a (.code (.scope c) :: k)) cs w).fenced P F := fenced_calm hb hr rfl
  have s0 : step P (lone (b.atR a (.code (.scope c) :: k)) cs w) = .next (lone (b.atR a (.code c :: .inScope c :: k)) cs w) := by
    rw [Frame.atR_of_none hn, Frame.atR_of_none hn]; exact step_scope
  have s1 : ∀ a₁ w₁, step P (lone (b.atR a₁ (.inScope c :: k)) cs w₁) = .next (lone (b.atR a₁ k) cs w₁) := fun a₁ w₁ => by
    rw [Frame.atR_of_none hn, Frame.atR_of_none hn]; exact step_inScope
  obtain ⟨e, a₁, w₁, hq, harr⟩ := h b (.inScope c :: k) cs hb1 hb hr
  cases e with
  | normal => exact ⟨.normal, a₁, w₁, hq, .of_steps (.one h0 s0) (StepsIn.trans harr (.one (fenced_calm hb hr rfl) (s1 a₁ w₁)))⟩
  | exit id => exact ⟨.exit id, a₁, w₁, hq, fun k' hk => StepsIn.trans (.one h0 s0) (harr.1 k' (by simp [exitTo, hk])), fun hs => by rw [hn] at hs; cases hs⟩
  | goto l => exact hq.elim
  | ret => exact ⟨_, a₁, w₁, hq, .of_steps (.one h0 s0) harr⟩
  | panic ch => exact ⟨_, a₁, w₁, hq, .of_steps (.one h0 s0) harr⟩
  | outgrown => exact ⟨_, a₁, w₁, hq, .of_steps (.one h0 s0) harr⟩
end
theorem KpB.grow {bs : List Nat} {A W W' : World} {row : Option Nat} (h : KpB bs A W) (hg : W.grownBy W' row) (hr : ∀ r, row = some r → A.heap.size ≤ r) : KpB bs A W' := by
  refine ⟨Nat.le_trans h.1 hg.size, fun k o hk hc hn => ?_⟩
  have h1 := h.2 k o hk hc hn
  exact (hg.block k (heap_lt' h1) (fun e => by have := hr k e.symm; have := heap_lt' hk; omega)).trans h1
/-- the loop's invariant: where the world Wr was when it began, what lies now -/
structure LpI (w Wr : World) (b16 : Nat) (od : Option Nat) (n : Nat) (W : World) : Prop where
  x : Blk W b16 3 [.int .i64 (n : Int)]
  k : KpB [b16] Wr W
  bl : Below w.heap.size w W
  d : ∀ D, od = some D → W.heap[D]? = some (.deferred (some []))
theorem LpI.cl {w Wr : World} {b16 : Nat} {od : Option Nat} {n : Nat} {W W' : World} {row : Option Nat} (h : LpI w Wr b16 od n W) (hw : w.heap.size ≤ Wr.heap.size) (hb : b16 < Wr.heap.size) (hd : ∀ D, od = some D → D < Wr.heap.size) (hg : W.grownBy W' row) (hr : ∀ r, row = some r → Wr.heap.size ≤ r) : LpI w Wr b16 od n W' :=
  ⟨(hg.block b16 h.x.lt (fun e => by have := hr _ e.symm; omega)).trans h.x, h.k.grow hg hr, h.bl.grown hg h.bl.size (fun k e => Nat.le_trans hw (hr k e)), fun D e => (hg.block D (heap_lt' (h.d D e)) (fun e' => by have := hr _ e'.symm; have := hd D e; omega)).trans (h.d D e)⟩
/-- a row of two elements is no variable's block -/
theorem row_ne_box {w : World} {A : Option Addr} {n c : Nat} {vs : List Value} {q : Nat} {t : TypeId} {v : Value} (h : Rdv w A n c vs) (hn : 2 ≤ n) (hq : Blk w q t [v]) : ∀ a, A = some a → a.block ≠ q := by
  intro a ha e
  have hle := h.le
  obtain ⟨b, o, hb, -⟩ := h.ptr (by omega)
  rw [hb] at ha
  cases ha
  have e : b = q := e
  subst e
  have hl1 : 1 < vs.length := by rw [h.len]; omega
  have h1 := h.at_ 1 (vs[1]'hl1) (by rw [List.getElem?_eq_getElem hl1])
  rw [hb, adr_some, cell_of_row w b _ _ _ (0, 0) hq] at h1
  simp at h1
theorem Rdv.kp0 {W W' : World} {A : Option Addr} {c : Nat} {bs : List Nat} (h : Rdv W A 0 c []) (hk : KpB bs W W') : Rdv W' A 0 c [] :=
  ⟨h.len, h.le, h.cm, h.nil, h.spot, fun hc a ha => Nat.lt_of_lt_of_le (h.lt hc a ha) hk.1, fun j v hj => by simp at hj⟩
/-- a decoder is left alone by who turns only a variable and rows made since -/
theorem DS.kp {Wb W1 W' : World} {D k : Nat} {vs a bs : List Int} {h : Nat} {V : Option Addr} {vc : Nat} {O : Option Addr} {oc : Nat} {I : Option Addr} {ic : Nat} {A : Option Addr} {ac : Nat} {B : Option Addr} {bn bc : Nat} (hs : DS Wb D k vs a bs h V vc O oc I ic A ac B bn bc) (hB : Below Wb.heap.size Wb W1) {q g : Nat} (hk : KpB [q, g] W1 W') (hg : Wb.heap.size ≤ g) {t : TypeId} {v : Value} (hq : Blk Wb q t [v]) (h2 : 2 ≤ k) (hbn : bn = 0 ∨ 2 ≤ bn) : DS W' D k vs a bs h V vc O oc I ic A ac B bn bc := by
  have hlt := hs.b.lt
  have hDq : D ≠ q := fun e => by
    subst e
    have h1 : Wb.heap[D]? = _ := hs.b
    have h3 : Wb.heap[D]? = _ := hq
    rw [h3] at h1
    simp at h1
  have row : ∀ {kd : IntKind} {X : Option Addr} {m c : Nat} {us : List Int}, Rd kd Wb X m c us → 2 ≤ m → Rd kd W' X m c us := fun {kd X m c us} hx hm => Rdv.kp (Rdv.below hx hB) hk (fun a ha => by
    have h3 := row_ne_box hx hm hq a ha
    have h4 := hx.lt (by have := Rdv.le hx; omega) a ha
    simp; omega)
  refine ⟨(hs.b.below hB).kp hk (by simp; omega), row hs.v (by omega), row hs.o h2, row hs.i h2, row hs.a h2, ?_, hs.nv, hs.no, hs.ni, hs.na, hs.np⟩
  rcases hbn with hbn | hbn
  · subst hbn
    have h5 : bs = [] := List.eq_nil_of_length_eq_zero (Rd.len hs.p)
    subst h5
    exact Rdv.kp0 (Rdv.below hs.p hB) hk
  · exact row hs.p hbn
theorem decN_len {vs : List Int} {k : Nat} (hv : SoftB vs = true) (hk : 1 ≤ k ∧ k ≤ 6144) (h : Nat) : (decN vs k h).length = k := by
  unfold decN
  split
  · show (obN vs k h).dB.length = _
    rw [dB_len (obN_ok hv hk h)]
    exact (apN_ok vs k h).1
  · rw [pk_len, inv_len]
theorem StN.kp {Wb W1 W' : World} {D k : Nat} {vs : List Int} {h : Nat} (hs : StN Wb D k vs h) (hv : SoftB vs = true) (hB : Below Wb.heap.size Wb W1) {q g : Nat} (hk : KpB [q, g] W1 W') (hg : Wb.heap.size ≤ g) {t : TypeId} {v : Value} (hq : Blk Wb q t [v]) (h2 : 2 ≤ k ∧ k ≤ 6144) : StN W' D k vs h := by
  obtain ⟨V, vc, O, oc, I, ic, A, ac, B, bn, bc, hd⟩ := hs
  refine ⟨V, vc, O, oc, I, ic, A, ac, B, bn, bc, hd.kp hB hk hg hq h2.1 ?_⟩
  have hl := Rd.len hd.p
  cases h with
  | zero => left; exact hl.symm
  | succ h => right; rw [← hl]; show 2 ≤ (decN vs k h).length; rw [decN_len hv (by omega)]; omega
theorem load_bool {W : World} {b : Nat} {v : Value} (h : Blk W b 4 [v]) : (loadVar 4 ⟨b, 0, none⟩).run Tryz.prog W = .ok v W := by
  have hc := h.cell (j := 0) (v := v) rfl
  simp [loadVar, hc, go_sem]
theorem run_eql_func_nil {P : Program} (w : World) {t : TypeId} {a b : Array TypeId} {c : Bool} (h : P.underlying t = some (.func a b c)) (f : Fn) (fa : Array Value) (lb : Array Value) : (binOp .eql t (.func f fa lb) .nilFunc).run P w = .ok (.bool false) w := by
  have h' : ∀ d, (Op.equalIn (d + 1) t (.func f fa lb) .nilFunc).run P w = .ok false w := fun d => by
    simp [Op.equalIn, run_underlying h]
  simp only [binOp]
  simp [Op.equal, Op.maxDepth, h' 9999]
section
variable {F : Fence} {n : Nat} {P : Program} {ops : Array Oper} {Q : Exit → Act → World → Prop} {md : Region.Mode} {S : World → Prop} {p : Nat}
/-- it yields v in a world that meets S, and makes no call -/
def YieldsFor (P : Program) (ops : Array Oper) (S : World → Prop) (o : Oper) (v : Value) (a : Act) : Prop := YieldsIf P ops S o v a ∧ ∀ w, o.about P w a.eval = none
theorem YieldsFor.goes {i : Nat} {o : Oper} {v : Value} {a : Act} (hro : F.round = none) (hi : ops[i]? = some o) (hy : YieldsFor P ops S o v a) {K : Act → World → Prop} {w : World} (hS : S w) (h : K (a.put o.dst v) w) : wpOpIn F n P ops Q i K a w := by
  have hab : ∀ f, o.about P w a.eval = some f → F.fn f := fun f hf => by rw [hy.2 w] at hf; cases hf
  unfold wpOpIn
  simp only [hi]
  rcases hy.1 with ⟨hw, hv⟩ | ⟨hw, rfl⟩
  · simp only [hw, if_true, Oper.wpIn, hro, Oper.semAt_none, hv w hS, Oper.uponIn]; exact ⟨hab, h⟩
  · simp only [hw, Bool.false_eq_true, if_false]; exact ⟨hab, h⟩
theorem YieldsFor.same {o : Oper} {v : Value} {a a' : Act} (hy : YieldsFor P ops S o v a) (he : execOp a'.eval o = execOp a.eval o) (hw : Region.wanted o (yielded ops a'.tmps) = Region.wanted o (yielded ops a.tmps)) (hb : ∀ w, o.about P w a'.eval = o.about P w a.eval) : YieldsFor P ops S o v a' :=
  ⟨hy.1.of_same he hw, fun w => by rw [hb w]; exact hy.2 w⟩
theorem wpOpIn_for {j : Nat} {oi oj : Oper} {v : Value} (hro : F.round = none) (hj : ops[j]? = some oj) (hap : oi.apart ops oj = true) (hsi : ∀ cs b, oi.op ≠ .select cs b) (hsj : ∀ cs b, oj.op ≠ .select cs b)
    (hQ : ∀ c a w, Q (.panic c) (a.put oi.dst v) w → Q (.panic c) a w) {K : Act → World → Prop} {a : Act} {w : World} (hy : YieldsFor P ops S oi v a) (h : wpOpIn F n P ops Q j K (a.put oi.dst v) w) :
    wpOpIn F n P ops Q j (fun a' w' => YieldsFor P ops S oi v a' ∧ K (a'.put oi.dst v) w') a w := by
  obtain ⟨h1, h2, h3⟩ := Oper.apart_spec hap
  have hk : ∀ (b : Act), YieldsFor P ops S oi v b → ∀ u, YieldsFor P ops S oi v (b.put oj.dst u) := fun b hb u => hb.same (execOp_put oi hsi b oj.dst u h3) (wanted_put oi b oj.dst u h3) (fun w => about_put oi w b oj.dst u h3)
  have hd : ∀ d, YieldsFor P ops S oi v { a with defers := d :: a.defers } := fun d => hy.same rfl rfl (fun _ => rfl)
  have hc : ∀ (b : Act) u, (b.put oj.dst u).put oi.dst v = (b.put oi.dst v).put oj.dst u := fun b u => (Act.put_comm b v u h2).symm
  unfold wpOpIn at *
  simp only [hj] at *
  rw [wanted_put oj a oi.dst v h1, about_put oj w a oi.dst v h1] at h
  by_cases hw : Region.wanted oj (yielded ops a.tmps) = true
  · rw [if_pos hw] at h ⊢
    unfold Oper.wpIn at *
    rw [about_put oj w a oi.dst v h1] at h
    refine ⟨h.1, ?_⟩
    have h9 := h.2
    rw [hro, Oper.semAt_none, execOp_put oj hsj a oi.dst v h1] at h9
    rw [hro, Oper.semAt_none]
    cases hr : (execOp a.eval oj).run P w with
    | ok x w' =>
      rw [hr] at h9
      cases x with
      | value u => exact ⟨hk a hy u, by rw [hc]; exact h9⟩
      | skip => exact ⟨hk a hy _, by rw [hc]; exact h9⟩
      | defer d => exact ⟨hk _ (hd d) _, by rw [hc, ← Act.put_defers]; exact h9⟩
      | enter f args =>
        refine ⟨h9.1, CallsIn.mono h9.2 fun e w'' he => ?_⟩
        cases e with
        | returned u => exact ⟨hk a hy u, by rw [hc]; exact he⟩
        | panicked c => exact hQ _ _ _ he
        | outgrown => exact he
      | row r args => exact ⟨h9.1, RowsIn.mono h9.2 fun u w'' he => ⟨hk a hy u, by rw [hc]; exact he⟩⟩
      | round l f tmps assign body =>
        refine ⟨h9.1, RoundIn.mono h9.2 fun e w'' he => ?_⟩
        cases e with
        | returned u => exact ⟨hk a hy u, by rw [hc]; exact he⟩
        | panicked c => exact hQ _ _ _ he
        | outgrown => exact he
      | _ => exact h9
    | halt x w' =>
      rw [hr] at h9
      cases x with
      | panic u => exact hQ _ _ _ h9
      | _ => exact h9
  · rw [if_neg hw] at h ⊢
    exact ⟨h.1, hk a hy _, by rw [hc]; exact h.2⟩
/-- whatever order is picked from here on; S holds until p has run -/
def wpInP (F : Fence) (n : Nat) (P : Program) (md : Region.Mode) (ops : Array Oper) (Q : Exit → Act → World → Prop) (S : World → Prop) (p : Nat) : Nat → Array Bool → Act → World → Prop
  | 0, listed, a, w => Region.ready md ops listed = [] ∧ Q .normal a w
  | fuel + 1, listed, a, w => (Region.ready md ops listed = [] → Q .normal a w) ∧
    ∀ i ∈ Region.ready md ops listed, wpOpIn F n P ops Q i (fun a' w' => ((listed.setIfInBounds i true).getD p true = false → S w') ∧ wpInP F n P md ops Q S p fuel (listed.setIfInBounds i true) a' w') a w
theorem wpAnyIn_of_P : ∀ (fuel : Nat) (listed : Array Bool) (a : Act) (w : World), wpInP F n P md ops Q S p fuel listed a w → wpAnyIn F n P md ops Q fuel listed a w
  | 0, _, _, _, h => h
  | fuel + 1, _, _, _, h => ⟨h.1, fun i hi => wpOpIn_mono (fun a' w' h' => wpAnyIn_of_P fuel _ a' w' h'.2) (h.2 i hi)⟩
theorem wpInP_first {T : World → Prop} {i : Nat} {oi : Oper} {v : Value} {xs : List Nat} {needs : Prop} (hro : F.round = none) (hi : ops[i]? = some oi) (hsel : ∀ (j : Nat) (o : Oper) cs b, ops[j]? = some o → o.op ≠ .select cs b)
    (hQ : ∀ c a w, Q (.panic c) (a.put oi.dst v) w → Q (.panic c) a w) (hT : ∀ w, (needs → S w) → T w) (hw : needs → pathB md ops i p xs = true) (hip : p ≠ i) :
    ∀ (fuel : Nat) (listed : Array Bool) (a : Act) (w : World), (needs → ClosedR md ops listed) →
      (∀ j oj, ops[j]? = some oj → j ≠ i → listed.getD j true = false → (∀ e ∈ oj.after, Region.binds md e = true → e.on ≠ i) → oi.apart ops oj = true) →
      i ∈ Region.ready md ops listed → YieldsFor P ops T oi v a → (needs → listed.getD p true = false) → (listed.getD p true = false → S w) →
      wpInP F n P md ops Q S p fuel (listed.setIfInBounds i true) (a.put oi.dst v) w → wpInP F n P md ops Q S p (fuel + 1) listed a w := by
  intro fuel
  induction fuel with
  | zero =>
    intro listed a w hc _ hr hy hp hS H
    refine ⟨fun h => (by rw [h] at hr; cases hr), fun j hj => ?_⟩
    by_cases hji : j = i
    · subst hji; exact hy.goes hro hi (hT w fun m => hS (hp m)) ⟨fun h => hS (getD_unset h), H⟩
    · have := ready_mono hj hji
      rw [H.1] at this
      cases this
  | succ fuel ih =>
    intro listed a w hc hfree hr hy hp hS H
    refine ⟨fun h => (by rw [h] at hr; cases hr), fun j hj => ?_⟩
    by_cases hji : j = i
    · subst hji; exact hy.goes hro hi (hT w fun m => hS (hp m)) ⟨fun h => hS (getD_unset h), H⟩
    · have hun := (mem_ready.1 hr).1
      have h1 := H.2 j (ready_mono hj hji)
      obtain ⟨hjun, oj, hoj, hall⟩ := mem_ready.1 hj
      have hnot : ∀ e ∈ oj.after, Region.binds md e = true → e.on ≠ i := fun e he hb heq => by
        have h9 := hall e he hb
        rw [heq, getD_both hun] at h9
        cases h9
      have h2 := wpOpIn_for hro hoj (hfree j oj hoj hji hjun hnot) (fun cs b => hsel i oi cs b hi) (fun cs b => hsel j oj cs b hoj) hQ hy h1
      have hfree' : ∀ k ok, ops[k]? = some ok → k ≠ i → (listed.setIfInBounds j true).getD k true = false →
          (∀ e ∈ ok.after, Region.binds md e = true → e.on ≠ i) → oi.apart ops ok = true := fun k ok hk hki hun' hno => hfree k ok hk hki (getD_unset hun') hno
      refine wpOpIn_mono (fun a' w' h3 => ?_) h2
      have hpp : needs → (listed.setIfInBounds j true).getD p true = false := fun m => by
        have hjp : j ≠ p := fun e => not_ready_path (hc m) (hw m) hun (e ▸ hj)
        rw [getD_set_ne true hjp]; exact hp m
      have hSS : (listed.setIfInBounds j true).getD p true = false → S w' := fun hp => by
        exact h3.2.1 (by rw [Array.setIfInBounds_comm _ _ (Ne.symm hji), getD_set_ne true (Ne.symm hip)]; exact hp)
      refine ⟨hSS, ih (listed.setIfInBounds j true) a' w' (fun m => closed_set (hc m) hj) hfree' (ready_mono hr (Ne.symm hji)) h3.1 hpp hSS ?_⟩
      rw [Array.setIfInBounds_comm _ _ hji]
      exact h3.2.2
theorem PI_start {id : Nat} {a : Act} {w : World} (S : World → Prop) (p m : Nat) (l0 : Array Bool) (hn : ops.size = m) (hl : Array.replicate m false = l0) (hm : P.follows .mixedOrders = true) (h : wpInP F n P .any ops Q S p m l0 a w.drew) : (Code.region id ops true).wpIn F n P Q a w := by
  subst hl; subst hn; exact wpIn_region_any hm (wpAnyIn_of_P _ _ _ _ h)
theorem PI_takeT (i d : Nat) (v : Value) (l' : Array Bool) (xs : List Nat) {oi : Oper} {fuel : Nat} {listed : Array Bool} {ts : Array Value} {ds : List Deferred} {w : World} (hro : F.round = none) (hi : ops[i]? = some oi) (hd : oi.dst = some d) (hl : listed.setIfInBounds i true = l')
    (hs : Region.noSelect ops = true) (hf : Region.free md ops listed i = true) (hr : (Region.ready md ops listed).contains i = true) (hz : pathB md ops i p xs = true) (hc : closedB md ops listed = true) (hp : listed.getD p true = false) (hip : p ≠ i)
    (hQ : ∀ c a w, Q (.panic c) (a.put oi.dst v) w → Q (.panic c) a w) (hy : YieldsFor P ops S oi v ⟨ts, ds⟩) (hS : S w)
    (h : wpInP F n P md ops Q S p fuel l' ⟨ts.setIfInBounds d v, ds⟩ w) : wpInP F n P md ops Q S p (fuel + 1) listed ⟨ts, ds⟩ w := by
  subst hl
  refine wpInP_first (needs := True) hro hi (Region.noSelect_spec hs) hQ (fun w h => h trivial) (fun _ => hz) hip fuel listed _ w (fun _ => closedB_spec hc) (Region.free_spec hi hf) (by simpa using hr) hy (fun _ => hp) (fun _ => hS) ?_
  rw [hd]; exact h
theorem PI_takeW (i d : Nat) (v : Value) (l' : Array Bool) {oi : Oper} {fuel : Nat} {listed : Array Bool} {ts : Array Value} {ds : List Deferred} {w : World} (hro : F.round = none) (hi : ops[i]? = some oi) (hd : oi.dst = some d) (hl : listed.setIfInBounds i true = l')
    (hs : Region.noSelect ops = true) (hf : Region.free md ops listed i = true) (hr : (Region.ready md ops listed).contains i = true) (hip : p ≠ i)
    (hQ : ∀ c a w, Q (.panic c) (a.put oi.dst v) w → Q (.panic c) a w) (hy : YieldsFor P ops (fun _ => True) oi v ⟨ts, ds⟩) (hS : S w)
    (h : wpInP F n P md ops Q S p fuel l' ⟨ts.setIfInBounds d v, ds⟩ w) : wpInP F n P md ops Q S p (fuel + 1) listed ⟨ts, ds⟩ w := by
  subst hl
  refine wpInP_first (xs := []) (needs := False) hro hi (Region.noSelect_spec hs) hQ (fun w h => trivial) (fun h => h.elim) hip fuel listed _ w (fun h => h.elim) (Region.free_spec hi hf) (by simpa using hr) hy (fun h => h.elim) (fun _ => hS) ?_
  rw [hd]; exact h
theorem PI_oneS (i : Nat) (l' : Array Bool) {oi : Oper} {fuel : Nat} {listed : Array Bool} {a : Act} {w : World} (hi : ops[i]? = some oi) (hl : listed.setIfInBounds i true = l') (hr : Region.ready md ops listed = [i]) (hg : oi.guard = none)
    (h : ∀ K : Act → World → Prop, (∀ a' w', S w' → wpInP F n P md ops Q S p fuel l' a' w' → K a' w') → oi.wpIn F n P a w K Q) : wpInP F n P md ops Q S p (fuel + 1) listed a w := by
  subst hl
  refine ⟨fun h0 => ?_, fun j hj => ?_⟩
  · rw [hr] at h0
    cases h0
  · rw [hr] at hj
    have hj' : j = i := by simpa using hj
    subst hj'
    unfold wpOpIn
    simp only [hi]
    rw [if_pos (by simp [Region.wanted, hg])]
    exact h _ fun _ _ h1 h2 => ⟨fun _ => h1, h2⟩
theorem PI_one (i : Nat) (l' : Array Bool) {oi : Oper} {fuel : Nat} {listed : Array Bool} {a : Act} {w : World} (hi : ops[i]? = some oi) (hl : listed.setIfInBounds i true = l') (hr : Region.ready md ops listed = [i]) (hg : oi.guard = none) (hp : l'.getD p true = true)
    (h : ∀ K : Act → World → Prop, (∀ a' w', wpInP F n P md ops Q S p fuel l' a' w' → K a' w') → oi.wpIn F n P a w K Q) : wpInP F n P md ops Q S p (fuel + 1) listed a w := by
  subst hl
  refine ⟨fun h0 => ?_, fun j hj => ?_⟩
  · rw [hr] at h0
    cases h0
  · rw [hr] at hj
    have hj' : j = i := by simpa using hj
    subst hj'
    unfold wpOpIn
    simp only [hi]
    rw [if_pos (by simp [Region.wanted, hg])]
    exact h _ fun _ _ h2 => ⟨fun h9 => (by rw [hp] at h9; cases h9), h2⟩
theorem PI_done {listed : Array Bool} {a : Act} {w : World} (hr : Region.ready md ops listed = []) (h : Q .normal a w) : ∀ fuel, wpInP F n P md ops Q S p fuel listed a w
  | 0 => ⟨hr, h⟩
  | _ + 1 => ⟨fun _ => h, by rw [hr]; simp⟩
end
theorem wpIn_nopanic {F : Fence} {n : Nat} {P : Program} {c : Code} {Q : Exit → Act → World → Prop} {a : Act} {w : World} (h : c.wpIn F n P (noPanic Q) a w) : c.wpIn F n P Q a w :=
  wpIn_mono h (fun e a w h => by cases e <;> first | exact h | exact h.elim)
end Go.Proofs.YtpdalbckmfadbaaGreat

