/-
  Bundle of the texts CrTe CrUa CrUb. Conditions: none.
-/
import Derived.Test.YtpdalbckmfadbaaGreatBucaa
import Derived.Test.YtpdalbckmfadbaaGreatBucau
import Derived.OrdersIn
namespace Go.Proofs.YtpdalbckmfadbaaGreat.Cr
open Go.RowKit Go.Shelf
set_option linter.unusedVariables false
attribute [local go_sem] Oper.semAt_some

/-- does not mind what happens at or beyond B -/
def Cl {β : Type} (B : Nat) (J : β → World → Prop) : Prop := ∀ s W W' row, J s W → W.grownBy W' row → (∀ r, row = some r → B ≤ r) → J s W'
theorem Cl.alloc {β : Type} {B : Nat} {J : β → World → Prop} (h : Cl B J) {s : β} {W : World} (o : Obj) (hs : J s W) : J s (W.alloc o) := h s W _ none hs (World.grownBy_alloc W o none) (fun r e => by cases e)
theorem Cl.put {β : Type} {B : Nat} {J : β → World → Prop} (h : Cl B J) {s : β} {W : World} {l : Nat} (o : Obj) (hs : J s W) (hl : B ≤ l) : J s (W.putObj l o) := h s W _ (some l) hs (grownBy_putObj' W l o) (fun r e => by cases e; exact hl)
theorem Cl.set {β : Type} {B : Nat} {J : β → World → Prop} (h : Cl B J) {s : β} {W W' : World} {l : Nat} (hs : J s W) (hg : W.grownBy W' (some l)) (hl : B ≤ l) : J s W' := h s W _ (some l) hs hg (fun r e => by cases e; exact hl)
theorem grown_of_below {W W' : World} (h : Below W.heap.size W W') : W.grownBy W' none := ⟨h.os, h.tape, h.output, h.size, fun k hk _ => h.block k hk⟩
theorem Cl.call {β : Type} {B : Nat} {J : β → World → Prop} (h : Cl B J) {s : β} {W W' : World} (hs : J s W) (hb : Below W.heap.size W W') : J s W' := h s W _ none hs (grown_of_below hb) (fun r e => by cases e)
theorem Cl.and {β : Type} {B : Nat} {I J : β → World → Prop} (h : Cl B I) (k : Cl B J) : Cl B (fun s W => I s W ∧ J s W) := fun s W W' row hs hg hr => ⟨h s W W' row hs.1 hg hr, k s W W' row hs.2 hg hr⟩
/-- every row of cells but those named lies as it lay -/
def KpB (bs : List Nat) (A B : World) : Prop := A.heap.size ≤ B.heap.size ∧ ∀ k o, A.heap[k]? = some o → o.isCells = true → k ∉ bs → B.heap[k]? = some o
theorem KpB.refl (bs : List Nat) (A : World) : KpB bs A A := ⟨Nat.le_refl _, fun _ _ h _ _ => h⟩
theorem KpB.trans {bs : List Nat} {A B C : World} (h : KpB bs A B) (k : KpB bs B C) : KpB bs A C := ⟨Nat.le_trans h.1 k.1, fun i o hi hc hb => k.2 i o (h.2 i o hi hc hb) hc hb⟩
theorem KpB.set {bs : List Nat} {W W' : World} {b : Nat} (hg : W.grownBy W' (some b)) (hb : b ∈ bs) : KpB bs W W' := ⟨hg.size, fun k o hk hc hn => (hg.block k (Array.getElem?_eq_some_iff.1 hk).1 (fun e => by cases e; exact hn hb)).trans hk⟩
theorem KpB.below {bs : List Nat} {W W' : World} (h : Below W.heap.size W W') : KpB bs W W' := ⟨h.size, fun k o hk hc hn => (h.block k (Array.getElem?_eq_some_iff.1 hk).1).trans hk⟩
theorem KpB.put {bs : List Nat} {W : World} {l : Nat} {o : Obj} (o' : Obj) (h : W.heap[l]? = some o) (ho : o.isCells = false) : KpB bs W (W.putObj l o') := by
  have hg := grownBy_putObj' W l o'
  refine ⟨hg.size, fun k x hk hc hn => (hg.block k (Array.getElem?_eq_some_iff.1 hk).1 (fun e => ?_)).trans hk⟩
  cases e
  rw [h] at hk
  cases hk
  rw [ho] at hc
  cases hc
theorem Blk.kp {W W' : World} {b : Nat} {t : TypeId} {cs : List Value} {bs : List Nat} (h : Blk W b t cs) (hk : KpB bs W W') (hb : b ∉ bs) : Blk W' b t cs := hk.2 b _ h rfl hb
theorem Rdv.kp {W W' : World} {A : Option Addr} {n c : Nat} {vs : List Value} {bs : List Nat} (h : Rdv W A n c vs) (hk : KpB bs W W') (hb : ∀ a, A = some a → a.block ∉ bs) : Rdv W' A n c vs := by
  refine ⟨h.len, h.le, h.cm, h.nil, h.spot, fun hc a ha => Nat.lt_of_lt_of_le (h.lt hc a ha) hk.1, fun j v hj => ?_⟩
  have h1 := h.at_ j v hj
  cases A with
  | none =>
    have := h.nil rfl
    have h2 := (List.getElem?_eq_some_iff.1 hj).1
    have h3 := h.len
    have h4 := h.le
    omega
  | some a =>
    have h2 := hb a rfl
    have hblk : (adr (some a) j).block = a.block := rfl
    rw [← h1]
    obtain ⟨o, ho⟩ : ∃ o, W.heap[a.block]? = some o := by
      have := World.block_lt_of_cell? W _ h1
      exact ⟨_, Array.getElem?_eq_getElem this⟩
    refine World.cell?_of_block ?_
    rw [hblk]
    refine (hk.2 a.block o ho ?_ h2).trans ho.symm
    cases o with
    | cells x y z => rfl
    | _ => simp [World.cell?, hblk, ho] at h1
/-- THE CONTRACT of an iterator value that may write blocks of its own -/
def SeqC {α : Type} (m gf : Nat) (lb : Array Value) (encs : α → Array Value) (Kp : World → World → Prop) (S Sp : List α → Prop) (N : Nat) (w : World) : Prop :=
  ∀ (l : Nat) (J Jx : List α → World → Prop) (W : World), Below w.heap.size w W → Cl W.heap.size J → Cl W.heap.size Jx →
    (∀ pre x W1, J pre W1 → pre.length < N → YieldAt Fence.wide (m - 1) Tryz.prog l (encs x) W1 fun e W' =>
      (e = .returned (.bool true) ∧ J (pre ++ [x]) W' ∧ Kp W1 W') ∨ (e = .returned (.bool false) ∧ Jx (pre ++ [x]) W')) →
    J [] W →
    CallsIn Fence.wide m Tryz.prog gf (#[.func (.yield l) #[] #[]] ++ lb) W fun e W' => (∃ v, e = .returned v) ∧ ((∃ xs, S xs ∧ J xs W') ∨ (∃ pre, Sp pre ∧ Jx pre W'))
section
variable {P : Program} {Q : Exit → Act → World → Prop} {n : Nat}
/-- an operation that is no defer statement is carried out in the wide fence as everywhere -/
theorem operIn_w {o : Oper} {a : Act} {w : World} {K : Act → World → Prop} (hd : ∀ c, o.op ≠ .defer c) (h : o.wp P a w K Q) : o.wpIn Fence.wide n P a w K Q := by
  refine ⟨fun _ _ => trivial, ?_⟩
  rw [Oper.semAt_eq _ _ _ hd]
  unfold Oper.wp at h
  cases hr : (execOp a.eval o).run P w with
  | ok x w' =>
    rw [hr] at h
    cases x <;> first | exact h | exact (h : False).elim | skip
    · exact ⟨by simp [Fence.wide], callsIn_wide.2 h⟩
    all_goals exact ⟨by simp [Fence.wide], fun c cs _ => let ⟨v, w', r, s⟩ := h c cs; ⟨v, w', r, stepsIn_wide.2 s⟩⟩
  | halt x w' =>
    rw [hr] at h
    cases x <;> first | exact h | exact (h : False).elim
theorem listIn_of {ops : Array Oper} {rest : List Oper} {o : Oper} {a : Act} {w : World} (hgd : o.guard = none) (hd : ∀ c, o.op ≠ .defer c) (h : ∀ K : Act → World → Prop, (∀ a w, wpListIn Fence.wide n P ops Q rest a w → K a w) → o.wp P a w K Q) : wpListIn Fence.wide n P ops Q (o :: rest) a w :=
  wpListIn_plain hgd fun K hK => operIn_w hd (h K hK)
end
section
variable {F : Fence} {n : Nat} {P : Program} {Q : Exit → Act → World → Prop} {a : Act} {w : World}
/-- a scope that no goto leaves, outside every round -/
theorem wpIn_scope_straight {c : Code} (hro : F.round = none) (h : c.wpIn F n P (Exit.noGoto Q) a w) : (Code.scope c).wpIn F n P Q a w := by
  intro b k cs hb1 hb hr
  have hn : b.roundOf = none := by rw [hb1, hro]
  have h0 : (lone (b.atR a (.code (.scope c) :: k)) cs w).fenced P F := fenced_calm hb hr rfl
  have s0 : step P (lone (b.atR a (.code (.scope c) :: k)) cs w) = .next (lone (b.atR a (.code c :: .inScope c :: k)) cs w) := by
    rw [Frame.atR_of_none hn, Frame.atR_of_none hn]; exact step_scope
  have s1 : ∀ a₁ w₁, step P (lone (b.atR a₁ (.inScope c :: k)) cs w₁) = .next (lone (b.atR a₁ k) cs w₁) := fun a₁ w₁ => by
    rw [Frame.atR_of_none hn, Frame.atR_of_none hn]; exact step_inScope
  obtain ⟨e, a₁, w₁, hq, harr⟩ := h b (.inScope c :: k) cs hb1 hb hr
  cases e with
  | normal => exact ⟨.normal, a₁, w₁, hq, .of_steps (.one h0 s0) (StepsIn.trans harr (.one (fenced_calm hb hr rfl) (s1 a₁ w₁)))⟩
  | exit id => exact ⟨.exit id, a₁, w₁, hq, fun k' hk => StepsIn.trans (.one h0 s0) (harr.1 k' (by simp [exitTo, hk])), fun hs => by rw [hn] at hs; cases hs⟩
  | goto l => exact hq.elim
  | ret => exact ⟨_, a₁, w₁, hq, .of_steps (.one h0 s0) harr⟩
  | panic ch => exact ⟨_, a₁, w₁, hq, .of_steps (.one h0 s0) harr⟩
  | outgrown => exact ⟨_, a₁, w₁, hq, .of_steps (.one h0 s0) harr⟩
end
theorem takeP_succ (ps : List (Int × Int)) (k : Nat) (h : k < ps.length) : ps.take (k + 1) = ps.take k ++ [ps[k]] := by
  rw [List.take_succ_eq_append_getElem h]
def encP (x : Int × Int) : Array Value := #[.int .i64 x.1, .int .i64 x.2]
structure It (PS : List (Int × Int)) (lb : Array Value) (Ok : Nat → Prop) (Fw : World → Prop) : Prop where
  seq : ∀ b w, Ok b → Fw w → b < w.heap.size → SeqC 2 97999 lb encP (KpB [b]) (fun ys => ys = PS) (fun pre => ∃ k, k ≤ PS.length ∧ pre = PS.take k) PS.length w
  kp : ∀ b W W', Ok b → Fw W → KpB [b] W W' → Fw W'
  below : ∀ W W', Fw W → Below W.heap.size W W' → Fw W'
/-! ### the loop over it -/
theorem KpB.grow {bs : List Nat} {A W W' : World} {row : Option Nat} (h : KpB bs A W) (hg : W.grownBy W' row) (hr : ∀ r, row = some r → A.heap.size ≤ r) : KpB bs A W' := by
  refine ⟨Nat.le_trans h.1 hg.size, fun k o hk hc hn => ?_⟩
  have h1 := h.2 k o hk hc hn
  exact (hg.block k (heap_lt' h1) (fun e => by have := hr k e.symm; have := heap_lt' hk; omega)).trans h1
/-- the loop's invariant: where the world Wr was when it began, what lies now -/
structure LpI (PS : List (Int × Int)) (w Wr : World) (b16 : Nat) (od : Option Nat) (n : Nat) (W : World) : Prop where
  x : Blk W b16 3 [.int .i64 (n : Int)]
  k : KpB [b16] Wr W
  bl : Below w.heap.size w W
  d : ∀ D, od = some D → W.heap[D]? = some (.deferred (some []))
def Lp0 (PS : List (Int × Int)) (w Wr : World) (b16 : Nat) (od : Option Nat) (C : Nat → Prop) (pre : List (Int × Int)) (W : World) : Prop :=
  pre = PS.take pre.length ∧ C pre.length ∧ LpI PS w Wr b16 od pre.length W
def Lpx (PS : List (Int × Int)) (w Wr : World) (b16 : Nat) (od : Option Nat) (C : Nat → Prop) (id : Nat) (c : Code) (pre : List (Int × Int)) (W : World) : Prop :=
  (∀ k, pre ≠ PS.take k) ∨ (c = .exit id ∧ C pre.length ∧ LpI PS w Wr b16 od pre.length W)
theorem LpI.cl {PS : List (Int × Int)} {w Wr : World} {b16 : Nat} {od : Option Nat} {n : Nat} {W W' : World} {row : Option Nat} (h : LpI PS w Wr b16 od n W) (hw : w.heap.size ≤ Wr.heap.size) (hb : b16 < Wr.heap.size) (hd : ∀ D, od = some D → D < Wr.heap.size) (hg : W.grownBy W' row) (hr : ∀ r, row = some r → Wr.heap.size ≤ r) : LpI PS w Wr b16 od n W' :=
  ⟨(hg.block b16 h.x.lt (fun e => by have := hr _ e.symm; omega)).trans h.x, h.k.grow hg hr, h.bl.grown hg h.bl.size (fun k e => Nat.le_trans hw (hr k e)), fun D e => (hg.block D (heap_lt' (h.d D e)) (fun e' => by have := hr _ e'.symm; have := hd D e; omega)).trans (h.d D e)⟩
theorem Lp0.cl {PS : List (Int × Int)} {w Wr : World} {b16 : Nat} {od : Option Nat} {C : Nat → Prop} (hw : w.heap.size ≤ Wr.heap.size) (hb : b16 < Wr.heap.size) (hd : ∀ D, od = some D → D < Wr.heap.size) : Cl Wr.heap.size (Lp0 PS w Wr b16 od C) :=
  fun s A B row h hg hr => ⟨h.1, h.2.1, h.2.2.cl hw hb hd hg hr⟩
theorem Lpx.cl {PS : List (Int × Int)} {w Wr : World} {b16 : Nat} {od : Option Nat} {C : Nat → Prop} {id : Nat} (hw : w.heap.size ≤ Wr.heap.size) (hb : b16 < Wr.heap.size) (hd : ∀ D, od = some D → D < Wr.heap.size) (c : Code) : Cl Wr.heap.size (Lpx PS w Wr b16 od C id c) :=
  fun s A B row h hg hr => h.elim .inl fun h => .inr ⟨h.1, h.2.1, h.2.2.cl hw hb hd hg hr⟩
theorem LpI.next {PS : List (Int × Int)} {w Wr : World} {b16 : Nat} {od : Option Nat} {n : Nat} {W : World} (h : LpI PS w Wr b16 od n W) (hw : w.heap.size ≤ b16) (v : Value) (hv : v = .int .i64 ((n + 1 : Nat) : Int)) :
    KeepsOthers W (W.setCell ⟨b16, 0, none⟩ v) ∧ KpB [b16] W (W.setCell ⟨b16, 0, none⟩ v) ∧ LpI PS w Wr b16 od (n + 1) (W.setCell ⟨b16, 0, none⟩ v) := by
  subst hv
  have hg := grownBy_set W b16 0 (.int .i64 ((n + 1 : Nat) : Int))
  have hk : KpB [b16] W (W.setCell ⟨b16, 0, none⟩ (.int .i64 ((n + 1 : Nat) : Int))) := KpB.set hg (by simp)
  refine ⟨KeepsOthers.setCell _ _ _, hk, ⟨h.x.set 0 _, h.k.trans hk, h.bl.setCell hw _, fun D e => ?_⟩⟩
  exact (KeepsOthers.setCell W _ _).same D _ (h.d D e) rfl
/-- what the law keeps while the iterator runs -/
structure KpF (b7 b8 b9 : Nat) (a3 : Int) (Aw : Option Addr) (NW cw : Nat) (WL : List Int) (Fw : World → Prop) (w W : World) : Prop where
  x7 : Blk W b7 3 [.int .i64 a3]
  x8 : Blk W b8 4 [.bool false]
  x9 : Blk W b9 34 [.slice Aw NW cw]
  r : Rd .i64 W Aw NW cw WL
  fw : Fw W
  bl : Below w.heap.size w W
structure KpO (b7 b8 b9 : Nat) (Aw : Option Addr) (Ok : Nat → Prop) (b : Nat) : Prop where
  h7 : b7 ≠ b
  h8 : b8 ≠ b
  h9 : b9 ≠ b
  hr : ∀ a, Aw = some a → a.block ≠ b
  ok : Ok b
theorem KpF.kp {b7 b8 b9 : Nat} {a3 : Int} {Aw : Option Addr} {NW cw : Nat} {WL : List Int} {Fw : World → Prop} {w W W' : World} {PS : List (Int × Int)} {lb : Array Value} {Ok : Nat → Prop} {b : Nat} (hI : It PS lb Ok Fw) (h : KpF b7 b8 b9 a3 Aw NW cw WL Fw w W) (ho : KpO b7 b8 b9 Aw Ok b) (hk : KpB [b] W W') (hb : Below w.heap.size w W') : KpF b7 b8 b9 a3 Aw NW cw WL Fw w W' :=
  ⟨h.x7.kp hk (by simpa using ho.h7), h.x8.kp hk (by simpa using ho.h8), h.x9.kp hk (by simpa using ho.h9), Rdv.kp h.r hk (fun a ha => by simpa using ho.hr a ha), hI.kp b W W' ho.ok h.fw hk, hb⟩
theorem KpF.below {b7 b8 b9 : Nat} {a3 : Int} {Aw : Option Addr} {NW cw : Nat} {WL : List Int} {Fw : World → Prop} {w W W' : World} {PS : List (Int × Int)} {lb : Array Value} {Ok : Nat → Prop} (hI : It PS lb Ok Fw) (h : KpF b7 b8 b9 a3 Aw NW cw WL Fw w W) (hb : Below W.heap.size W W') : KpF b7 b8 b9 a3 Aw NW cw WL Fw w W' :=
  ⟨h.x7.below hb, h.x8.below hb, h.x9.below hb, Rdv.below h.r hb, hI.below W W' h.fw hb, h.bl.trans (hb.mono h.bl.size)⟩
theorem KpF.to {b7 b8 b9 : Nat} {a3 : Int} {Aw : Option Addr} {NW cw : Nat} {WL : List Int} {w W : World} {Fw : World → Prop} (h : KpF b7 b8 b9 a3 Aw NW cw WL (fun _ => True) w W) (hf : Fw W) : KpF b7 b8 b9 a3 Aw NW cw WL Fw w W := ⟨h.x7, h.x8, h.x9, h.r, hf, h.bl⟩
end Go.Proofs.YtpdalbckmfadbaaGreat.Cr

namespace Go.Proofs.YtpdalbckmfadbaaGreat.Cr
open Go.RowKit
set_option linter.unusedVariables false
section
variable {F : Fence} {n : Nat} {P : Program} {ops : Array Oper} {Q : Exit → Act → World → Prop} {md : Region.Mode} {S : World → Prop} {p : Nat}
/-- it yields v in a world that meets S, and makes no call -/
def YieldsFor (P : Program) (ops : Array Oper) (S : World → Prop) (o : Oper) (v : Value) (a : Act) : Prop := YieldsIf P ops S o v a ∧ ∀ w, o.about P w a.eval = none
theorem YieldsFor.goes {i : Nat} {o : Oper} {v : Value} {a : Act} (hro : F.round = none) (hi : ops[i]? = some o) (hy : YieldsFor P ops S o v a) {K : Act → World → Prop} {w : World} (hS : S w) (h : K (a.put o.dst v) w) : wpOpIn F n P ops Q i K a w := by
  have hab : ∀ f, o.about P w a.eval = some f → F.fn f := fun f hf => by rw [hy.2 w] at hf; cases hf
  unfold wpOpIn
  simp only [hi]
  rcases hy.1 with ⟨hw, hv⟩ | ⟨hw, rfl⟩
  · simp only [hw, if_true, Oper.wpIn, hro, Oper.semAt_none, hv w hS, Oper.uponIn]; exact ⟨hab, h⟩
  · simp only [hw, Bool.false_eq_true, if_false]; exact ⟨hab, h⟩
theorem YieldsFor.same {o : Oper} {v : Value} {a a' : Act} (hy : YieldsFor P ops S o v a) (he : execOp a'.eval o = execOp a.eval o) (hw : Region.wanted o (yielded ops a'.tmps) = Region.wanted o (yielded ops a.tmps)) (hb : ∀ w, o.about P w a'.eval = o.about P w a.eval) : YieldsFor P ops S o v a' :=
  ⟨hy.1.of_same he hw, fun w => by rw [hb w]; exact hy.2 w⟩
theorem wpOpIn_for {j : Nat} {oi oj : Oper} {v : Value} (hro : F.round = none) (hj : ops[j]? = some oj) (hap : oi.apart ops oj = true) (hsi : ∀ cs b, oi.op ≠ .select cs b) (hsj : ∀ cs b, oj.op ≠ .select cs b)
    (hQ : ∀ c a w, Q (.panic c) (a.put oi.dst v) w → Q (.panic c) a w) {K : Act → World → Prop} {a : Act} {w : World} (hy : YieldsFor P ops S oi v a) (h : wpOpIn F n P ops Q j K (a.put oi.dst v) w) :
    wpOpIn F n P ops Q j (fun a' w' => YieldsFor P ops S oi v a' ∧ K (a'.put oi.dst v) w') a w := by
  obtain ⟨h1, h2, h3⟩ := Oper.apart_spec hap
  have hk : ∀ (b : Act), YieldsFor P ops S oi v b → ∀ u, YieldsFor P ops S oi v (b.put oj.dst u) := fun b hb u => hb.same (execOp_put oi hsi b oj.dst u h3) (wanted_put oi b oj.dst u h3) (fun w => about_put oi w b oj.dst u h3)
  have hd : ∀ d, YieldsFor P ops S oi v { a with defers := d :: a.defers } := fun d => hy.same rfl rfl (fun _ => rfl)
  have hc : ∀ (b : Act) u, (b.put oj.dst u).put oi.dst v = (b.put oi.dst v).put oj.dst u := fun b u => (Act.put_comm b v u h2).symm
  unfold wpOpIn at *
  simp only [hj] at *
  rw [wanted_put oj a oi.dst v h1, about_put oj w a oi.dst v h1] at h
  by_cases hw : Region.wanted oj (yielded ops a.tmps) = true
  · rw [if_pos hw] at h ⊢
    unfold Oper.wpIn at *
    rw [about_put oj w a oi.dst v h1] at h
    refine ⟨h.1, ?_⟩
    have h9 := h.2
    rw [hro, Oper.semAt_none, execOp_put oj hsj a oi.dst v h1] at h9
    rw [hro, Oper.semAt_none]
    cases hr : (execOp a.eval oj).run P w with
    | ok x w' =>
      rw [hr] at h9
      cases x with
      | value u => exact ⟨hk a hy u, by rw [hc]; exact h9⟩
      | skip => exact ⟨hk a hy _, by rw [hc]; exact h9⟩
      | defer d => exact ⟨hk _ (hd d) _, by rw [hc, ← Act.put_defers]; exact h9⟩
      | enter f args =>
        refine ⟨h9.1, CallsIn.mono h9.2 fun e w'' he => ?_⟩
        cases e with
        | returned u => exact ⟨hk a hy u, by rw [hc]; exact he⟩
        | panicked c => exact hQ _ _ _ he
        | outgrown => exact he
      | row r args => exact ⟨h9.1, RowsIn.mono h9.2 fun u w'' he => ⟨hk a hy u, by rw [hc]; exact he⟩⟩
      | round l f tmps assign body =>
        refine ⟨h9.1, RoundIn.mono h9.2 fun e w'' he => ?_⟩
        cases e with
        | returned u => exact ⟨hk a hy u, by rw [hc]; exact he⟩
        | panicked c => exact hQ _ _ _ he
        | outgrown => exact he
      | _ => exact h9
    | halt x w' =>
      rw [hr] at h9
      cases x with
      | panic u => exact hQ _ _ _ h9
      | _ => exact h9
  · rw [if_neg hw] at h ⊢
    exact ⟨h.1, hk a hy _, by rw [hc]; exact h.2⟩
/-- whatever order is picked from here on; S holds until p has run -/
def wpInP (F : Fence) (n : Nat) (P : Program) (md : Region.Mode) (ops : Array Oper) (Q : Exit → Act → World → Prop) (S : World → Prop) (p : Nat) : Nat → Array Bool → Act → World → Prop
  | 0, listed, a, w => Region.ready md ops listed = [] ∧ Q .normal a w
  | fuel + 1, listed, a, w => (Region.ready md ops listed = [] → Q .normal a w) ∧
    ∀ i ∈ Region.ready md ops listed, wpOpIn F n P ops Q i (fun a' w' => ((listed.setIfInBounds i true).getD p true = false → S w') ∧ wpInP F n P md ops Q S p fuel (listed.setIfInBounds i true) a' w') a w
theorem wpAnyIn_of_P : ∀ (fuel : Nat) (listed : Array Bool) (a : Act) (w : World), wpInP F n P md ops Q S p fuel listed a w → wpAnyIn F n P md ops Q fuel listed a w
  | 0, _, _, _, h => h
  | fuel + 1, _, _, _, h => ⟨h.1, fun i hi => wpOpIn_mono (fun a' w' h' => wpAnyIn_of_P fuel _ a' w' h'.2) (h.2 i hi)⟩
theorem wpInP_first {T : World → Prop} {i : Nat} {oi : Oper} {v : Value} {xs : List Nat} {needs : Prop} (hro : F.round = none) (hi : ops[i]? = some oi) (hsel : ∀ (j : Nat) (o : Oper) cs b, ops[j]? = some o → o.op ≠ .select cs b)
    (hQ : ∀ c a w, Q (.panic c) (a.put oi.dst v) w → Q (.panic c) a w) (hT : ∀ w, (needs → S w) → T w) (hw : needs → pathB md ops i p xs = true) (hip : p ≠ i) :
    ∀ (fuel : Nat) (listed : Array Bool) (a : Act) (w : World), (needs → ClosedR md ops listed) →
      (∀ j oj, ops[j]? = some oj → j ≠ i → listed.getD j true = false → (∀ e ∈ oj.after, Region.binds md e = true → e.on ≠ i) → oi.apart ops oj = true) →
      i ∈ Region.ready md ops listed → YieldsFor P ops T oi v a → (needs → listed.getD p true = false) → (listed.getD p true = false → S w) →
      wpInP F n P md ops Q S p fuel (listed.setIfInBounds i true) (a.put oi.dst v) w → wpInP F n P md ops Q S p (fuel + 1) listed a w := by
  intro fuel
  induction fuel with
  | zero =>
    intro listed a w hc _ hr hy hp hS H
    refine ⟨fun h => (by rw [h] at hr; cases hr), fun j hj => ?_⟩
    by_cases hji : j = i
    · subst hji; exact hy.goes hro hi (hT w fun m => hS (hp m)) ⟨fun h => hS (getD_unset h), H⟩
    · have := ready_mono hj hji
      rw [H.1] at this
      cases this
  | succ fuel ih =>
    intro listed a w hc hfree hr hy hp hS H
    refine ⟨fun h => (by rw [h] at hr; cases hr), fun j hj => ?_⟩
    by_cases hji : j = i
    · subst hji; exact hy.goes hro hi (hT w fun m => hS (hp m)) ⟨fun h => hS (getD_unset h), H⟩
    · have hun := (mem_ready.1 hr).1
      have h1 := H.2 j (ready_mono hj hji)
      obtain ⟨hjun, oj, hoj, hall⟩ := mem_ready.1 hj
      have hnot : ∀ e ∈ oj.after, Region.binds md e = true → e.on ≠ i := fun e he hb heq => by
        have h9 := hall e he hb
        rw [heq, getD_both hun] at h9
        cases h9
      have h2 := wpOpIn_for hro hoj (hfree j oj hoj hji hjun hnot) (fun cs b => hsel i oi cs b hi) (fun cs b => hsel j oj cs b hoj) hQ hy h1
      have hfree' : ∀ k ok, ops[k]? = some ok → k ≠ i → (listed.setIfInBounds j true).getD k true = false →
          (∀ e ∈ ok.after, Region.binds md e = true → e.on ≠ i) → oi.apart ops ok = true := fun k ok hk hki hun' hno => hfree k ok hk hki (getD_unset hun') hno
      refine wpOpIn_mono (fun a' w' h3 => ?_) h2
      have hpp : needs → (listed.setIfInBounds j true).getD p true = false := fun m => by
        have hjp : j ≠ p := fun e => not_ready_path (hc m) (hw m) hun (e ▸ hj)
        rw [getD_set_ne true hjp]; exact hp m
      have hSS : (listed.setIfInBounds j true).getD p true = false → S w' := fun hp => by
        exact h3.2.1 (by rw [Array.setIfInBounds_comm _ _ (Ne.symm hji), getD_set_ne true (Ne.symm hip)]; exact hp)
      refine ⟨hSS, ih (listed.setIfInBounds j true) a' w' (fun m => closed_set (hc m) hj) hfree' (ready_mono hr (Ne.symm hji)) h3.1 hpp hSS ?_⟩
      rw [Array.setIfInBounds_comm _ _ hji]
      exact h3.2.2
theorem PI_start {id : Nat} {a : Act} {w : World} (S : World → Prop) (p m : Nat) (l0 : Array Bool) (hn : ops.size = m) (hl : Array.replicate m false = l0) (hm : P.follows .mixedOrders = true) (h : wpInP F n P .any ops Q S p m l0 a w.drew) : (Code.region id ops true).wpIn F n P Q a w := by
  subst hl; subst hn; exact wpIn_region_any hm (wpAnyIn_of_P _ _ _ _ h)
theorem PI_takeT (i d : Nat) (v : Value) (l' : Array Bool) (xs : List Nat) {oi : Oper} {fuel : Nat} {listed : Array Bool} {ts : Array Value} {ds : List Deferred} {w : World} (hro : F.round = none) (hi : ops[i]? = some oi) (hd : oi.dst = some d) (hl : listed.setIfInBounds i true = l')
    (hs : Region.noSelect ops = true) (hf : Region.free md ops listed i = true) (hr : (Region.ready md ops listed).contains i = true) (hz : pathB md ops i p xs = true) (hc : closedB md ops listed = true) (hp : listed.getD p true = false) (hip : p ≠ i)
    (hQ : ∀ c a w, Q (.panic c) (a.put oi.dst v) w → Q (.panic c) a w) (hy : YieldsFor P ops S oi v ⟨ts, ds⟩) (hS : S w)
    (h : wpInP F n P md ops Q S p fuel l' ⟨ts.setIfInBounds d v, ds⟩ w) : wpInP F n P md ops Q S p (fuel + 1) listed ⟨ts, ds⟩ w := by
  subst hl
  refine wpInP_first (needs := True) hro hi (Region.noSelect_spec hs) hQ (fun w h => h trivial) (fun _ => hz) hip fuel listed _ w (fun _ => closedB_spec hc) (Region.free_spec hi hf) (by simpa using hr) hy (fun _ => hp) (fun _ => hS) ?_
  rw [hd]; exact h
theorem PI_takeW (i d : Nat) (v : Value) (l' : Array Bool) {oi : Oper} {fuel : Nat} {listed : Array Bool} {ts : Array Value} {ds : List Deferred} {w : World} (hro : F.round = none) (hi : ops[i]? = some oi) (hd : oi.dst = some d) (hl : listed.setIfInBounds i true = l')
    (hs : Region.noSelect ops = true) (hf : Region.free md ops listed i = true) (hr : (Region.ready md ops listed).contains i = true) (hip : p ≠ i)
    (hQ : ∀ c a w, Q (.panic c) (a.put oi.dst v) w → Q (.panic c) a w) (hy : YieldsFor P ops (fun _ => True) oi v ⟨ts, ds⟩) (hS : S w)
    (h : wpInP F n P md ops Q S p fuel l' ⟨ts.setIfInBounds d v, ds⟩ w) : wpInP F n P md ops Q S p (fuel + 1) listed ⟨ts, ds⟩ w := by
  subst hl
  refine wpInP_first (xs := []) (needs := False) hro hi (Region.noSelect_spec hs) hQ (fun w h => trivial) (fun h => h.elim) hip fuel listed _ w (fun h => h.elim) (Region.free_spec hi hf) (by simpa using hr) hy (fun h => h.elim) (fun _ => hS) ?_
  rw [hd]; exact h
theorem PI_one (i : Nat) (l' : Array Bool) {oi : Oper} {fuel : Nat} {listed : Array Bool} {a : Act} {w : World} (hi : ops[i]? = some oi) (hl : listed.setIfInBounds i true = l') (hr : Region.ready md ops listed = [i]) (hg : oi.guard = none) (hp : l'.getD p true = true)
    (h : ∀ K : Act → World → Prop, (∀ a' w', wpInP F n P md ops Q S p fuel l' a' w' → K a' w') → oi.wpIn F n P a w K Q) : wpInP F n P md ops Q S p (fuel + 1) listed a w := by
  subst hl
  refine ⟨fun h0 => ?_, fun j hj => ?_⟩
  · rw [hr] at h0
    cases h0
  · rw [hr] at hj
    have hj' : j = i := by simpa using hj
    subst hj'
    unfold wpOpIn
    simp only [hi]
    rw [if_pos (by simp [Region.wanted, hg])]
    exact h _ fun _ _ h2 => ⟨fun h9 => (by rw [hp] at h9; cases h9), h2⟩
theorem PI_done {listed : Array Bool} {a : Act} {w : World} (hr : Region.ready md ops listed = []) (h : Q .normal a w) : ∀ fuel, wpInP F n P md ops Q S p fuel listed a w
  | 0 => ⟨hr, h⟩
  | _ + 1 => ⟨fun _ => h, by rw [hr]; simp⟩
end
theorem wpIn_nopanic {F : Fence} {n : Nat} {P : Program} {c : Code} {Q : Exit → Act → World → Prop} {a : Act} {w : World} (h : c.wpIn F n P (noPanic Q) a w) : c.wpIn F n P Q a w :=
  wpIn_mono h (fun e a w h => by cases e <;> first | exact h | exact h.elim)
end Go.Proofs.YtpdalbckmfadbaaGreat.Cr

namespace Go.Proofs.YtpdalbckmfadbaaGreat.Cr
open Go.RowKit
set_option linter.unusedVariables false
def rwS (d : Nat) : Nat := (d + 31) / 32
theorem rwS_le {d : Nat} (h : d ≤ 6148) : rwS d ≤ 193 := by unfold rwS; omega
theorem rwS_pos {d : Nat} (h : 1 ≤ d) : 1 ≤ rwS d := by unfold rwS; omega
theorem rwS_ge (d : Nat) : d ≤ 32 * rwS d := by unfold rwS; omega
/-- the permutation of the columns -/
def cpL : List Nat := [0, 16, 8, 24, 4, 20, 12, 28, 2, 18, 10, 26, 6, 22, 14, 30, 1, 17, 9, 25, 5, 21, 13, 29, 3, 19, 11, 27, 7, 23, 15, 31]
def cpN (c : Nat) : Nat := cpL.getD c 0
theorem cpN_lt (c : Nat) : cpN c < 32 := by
  by_cases h : c < 32
  · exact (show ∀ c : Fin 32, cpN c.1 < 32 by decide) ⟨c, h⟩
  · unfold cpN
    rw [List.getD_eq_getElem?_getD, List.getElem?_eq_none (by simpa [cpL] using h)]
    decide
/-- the matrix index of column c, row r -/
def mx0 (d s c r : Nat) : Nat := if s = 2 then (32 * r + cpN c + 1) % (32 * rwS d) else 32 * r + cpN c
/-- what lies at a matrix index -/
def mxV (d m : Nat) : Int := if m < 32 * rwS d - d then -1 else (m : Int) - ((32 * rwS d - d : Nat) : Int)
def ordV (d s k : Nat) : Int := mxV d (mx0 d s (k / rwS d) (k % rwS d))
def ordT (d s n : Nat) : List Int := (List.range n).map (ordV d s)
def ordL (d s : Nat) : List Int := ordT d s (32 * rwS d)
theorem ordT_len (d s n : Nat) : (ordT d s n).length = n := by simp [ordT]
theorem ordT_succ (d s n : Nat) : ordT d s (n + 1) = ordT d s n ++ [ordV d s n] := by simp [ordT, List.range_succ]
theorem mx0_lt {d s c r : Nat} (hr : r < rwS d) : mx0 d s c r < 32 * rwS d := by
  have := cpN_lt c
  unfold mx0
  split
  · exact Nat.mod_lt _ (by omega)
  · omega
theorem el34 : El Tryz.prog 34 3 (.int .i64 0) 8 := ⟨by kernel_rfl, by kernel_rfl, fun _ => by kernel_rfl, rfl⟩
theorem results_ct {fn : Func} {p q : Tmp} {ty : TypeId} (h : fn.results = #[.cell p ty, .tmp q]) (tmps : Array Value) (P : Program) (w : World) :
    (results fn tmps).run P w = ((asAddr (tmps.getD p undef)).run P w).andThen fun a w₁ => ((loadVar ty a).run P w₁).andThen fun v w₂ => .ok (.tuple #[v, tmps.getD q undef]) w₂ := by
  simp only [results, h]
  simp [Sem.run_bind, Result.andThen]
end Go.Proofs.YtpdalbckmfadbaaGreat.Cr

