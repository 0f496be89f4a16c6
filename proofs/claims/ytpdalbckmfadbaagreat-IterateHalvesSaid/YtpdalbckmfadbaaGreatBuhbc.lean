/-
  Bundle of the texts Se. Conditions: none.
-/
import Derived.Test.YtpdalbckmfadbaaGreatBuhbb
import Derived.Lib.SmallJoins
namespace Go.Proofs.YtpdalbckmfadbaaGreat
open Go.RowKit Go.Shelf
set_option linter.unusedVariables false
attribute [local go_sem] Oper.semAt_some
theorem callR {P : Program} {l n g : Nat} {args : Array Value} {W : World} {Q : Ending → World → Prop} (h : Calls P g args W Q) : Fence.wide.fn g ∧ CallsIn (Fence.wide.inRound l) n P g args W Q := ⟨trivial, CallsIn.inRound l (callsIn_wide.2 h)⟩
structure KpF (b7 b8 b9 : Nat) (a3 : Int) (Aw : Option Addr) (NW cw : Nat) (L : List Sv) (Fw : World → Prop) (w W : World) : Prop where
  x7 : Blk W b7 3 [.int .i64 a3]
  x8 : Blk W b8 4 [.bool false]
  x9 : Blk W b9 49 [.slice Aw NW cw]
  r : Rdv W Aw NW cw (L.map Sv.v)
  rr : ∀ s ∈ L, Rd .u8 W s.A s.n s.c s.xs
  fw : Fw W
  bl : Below w.heap.size w W
structure KpO (b7 b8 b9 : Nat) (Aw : Option Addr) (L : List Sv) (Ok : Nat → Prop) (b : Nat) : Prop where
  h7 : b7 ≠ b
  h8 : b8 ≠ b
  h9 : b9 ≠ b
  hr : ∀ a, Aw = some a → a.block ≠ b
  hrr : ∀ s ∈ L, ∀ a, s.A = some a → a.block ≠ b
  ok : Ok b
section
variable {vs : List Int} {k N B0 b7 b8 b9 : Nat} {a3 : Int} {Aw : Option Addr} {NW cw : Nat} {L : List Sv} {Fw : World → Prop} {lb : Array Value} {Ok : Nat → Prop} {w W W' : World} {b : Nat}
theorem KpF.kp (hI : ItH vs k N B0 lb Ok Fw) (h : KpF b7 b8 b9 a3 Aw NW cw L Fw w W) (ho : KpO b7 b8 b9 Aw L Ok b) (hk : KpB [b] W W') (hb : Below w.heap.size w W') : KpF b7 b8 b9 a3 Aw NW cw L Fw w W' :=
  ⟨h.x7.kp hk (by simpa using ho.h7), h.x8.kp hk (by simpa using ho.h8), h.x9.kp hk (by simpa using ho.h9), Rdv.kp h.r hk (fun a ha => by simpa using ho.hr a ha), fun s hs => Rdv.kp (h.rr s hs) hk (fun a ha => by simpa using ho.hrr s hs a ha), hI.kp b W W' ho.ok h.fw hk, hb⟩
theorem KpF.below (hI : ItH vs k N B0 lb Ok Fw) (h : KpF b7 b8 b9 a3 Aw NW cw L Fw w W) (hb : Below W.heap.size W W') : KpF b7 b8 b9 a3 Aw NW cw L Fw w W' :=
  ⟨h.x7.below hb, h.x8.below hb, h.x9.below hb, Rdv.below h.r hb, fun s hs => Rdv.below (h.rr s hs) hb, hI.below W W' h.fw hb, h.bl.trans (hb.mono h.bl.size)⟩
theorem KpF.belowT (h : KpF b7 b8 b9 a3 Aw NW cw L (fun _ => True) w W) (hb : Below W.heap.size W W') : KpF b7 b8 b9 a3 Aw NW cw L (fun _ => True) w W' :=
  ⟨h.x7.below hb, h.x8.below hb, h.x9.below hb, Rdv.below h.r hb, fun s hs => Rdv.below (h.rr s hs) hb, trivial, h.bl.trans (hb.mono h.bl.size)⟩
theorem KpF.to (h : KpF b7 b8 b9 a3 Aw NW cw L (fun _ => True) w W) (hf : Fw W) : KpF b7 b8 b9 a3 Aw NW cw L Fw w W := ⟨h.x7, h.x8, h.x9, h.r, h.rr, hf, h.bl⟩
end
abbrev It3 := Int × Option Addr × Nat
def Lp0 (w Wr : World) (b16 : Nat) (od : Option Nat) (C : Nat → Prop) (pre : List It3) (W : World) : Prop := C pre.length ∧ LpI w Wr b16 od pre.length W
def Lpx (w Wr : World) (b16 : Nat) (od : Option Nat) (C : Nat → Prop) (id : Nat) (c : Code) (pre : List It3) (W : World) : Prop := c = .exit id ∧ C pre.length ∧ LpI w Wr b16 od pre.length W
theorem Lp0.cl {w Wr : World} {b16 : Nat} {od : Option Nat} {C : Nat → Prop} (hw : w.heap.size ≤ Wr.heap.size) (hb : b16 < Wr.heap.size) (hd : ∀ D, od = some D → D < Wr.heap.size) : Cl Wr.heap.size (Lp0 w Wr b16 od C) :=
  fun s A B row h hg hr => ⟨h.1, h.2.cl hw hb hd hg hr⟩
theorem Lpx.cl {w Wr : World} {b16 : Nat} {od : Option Nat} {C : Nat → Prop} {id : Nat} (hw : w.heap.size ≤ Wr.heap.size) (hb : b16 < Wr.heap.size) (hd : ∀ D, od = some D → D < Wr.heap.size) (c : Code) : Cl Wr.heap.size (Lpx w Wr b16 od C id c) :=
  fun s A B row h hg hr => ⟨h.1, h.2.1, h.2.2.cl hw hb hd hg hr⟩
theorem LpI.next {w Wr : World} {b16 : Nat} {od : Option Nat} {n : Nat} {W : World} (h : LpI w Wr b16 od n W) (hw : w.heap.size ≤ b16) (v : Value) (hv : v = .int .i64 ((n + 1 : Nat) : Int)) : LpI w Wr b16 od (n + 1) (W.setCell ⟨b16, 0, none⟩ v) := by
  subst hv
  have hg := grownBy_set W b16 0 (.int .i64 ((n + 1 : Nat) : Int))
  refine ⟨h.x.set 0 _, h.k.trans (KpB.set hg (by simp)), h.bl.setCell hw _, fun D e => ?_⟩
  exact (KeepsOthers.setCell W _ _).same D _ (h.d D e) rfl
/-- the body fills the row that it was given -/
def BdI (k : Nat) (R : Option Addr) (c : Nat) (w Wr : World) (b16 : Nat) (od : Option Nat) (n : Nat) (W : World) (i : Value) (wr : World) : Prop :=
  ∃ (j : Nat) (cur : List Int), j ≤ k ∧ i = .int .i64 (j : Int) ∧ Own .u8 5 wr (Wr.heap.size + 2) R k c cur ∧ KeepsOthers W wr ∧ KpB [b16, blk R] W wr ∧ LpI w Wr b16 od n wr
theorem BdI.step {k : Nat} {R : Option Addr} {c : Nat} {w Wr : World} {b16 : Nat} {od : Option Nat} {n : Nat} {W wr : World} {j : Nat} {cur : List Int} (hj : j < k) (hO : Own .u8 5 wr (Wr.heap.size + 2) R k c cur) (hK : KeepsOthers W wr) (hB : KpB [b16, blk R] W wr) (hI : LpI w Wr b16 od n wr) (hw : w.heap.size ≤ Wr.heap.size) (hb : b16 < Wr.heap.size) (hd : ∀ D, od = some D → D < Wr.heap.size) (v : Int) :
    BdI k R c w Wr b16 od n W (.int .i64 ((j + 1 : Nat) : Int)) (wr.setCell (adr R j) (.int .u8 v)) := by
  have hs := Own.set_ hO hj v
  have hA : R ≠ none := own_some hO hj
  have hge := (Ownv.blk_of hO hA).1
  exact ⟨j + 1, cur.set j v, by omega, rfl, hs.1, hK.trans (KeepsOthers.setCell _ _ _), hB.trans (KpB.set hs.2 (by simp)), hI.cl hw hb hd hs.2 (fun r e => by cases e; omega)⟩
/-- as the body ends -/
theorem bd_end {R : Option Addr} {w Wr : World} {b16 : Nat} {od : Option Nat} {n : Nat} {W wr : World} (hK : KeepsOthers W wr) (hB : KpB [b16, blk R] W wr) (hI : LpI w Wr b16 od n wr) (hw : w.heap.size ≤ b16) (x1 : Int) (c : Nat) (v : Value) (hv : v = .int .i64 ((n + 1 : Nat) : Int)) :
    KeepsOthers W (wr.setCell ⟨b16, 0, none⟩ v) ∧ KpQ b16 (x1, R, c) W (wr.setCell ⟨b16, 0, none⟩ v) ∧ LpI w Wr b16 od (n + 1) (wr.setCell ⟨b16, 0, none⟩ v) :=
  ⟨hK.trans (KeepsOthers.setCell _ _ _), ⟨hB.trans (KpB.set (grownBy_set wr b16 0 v) (by simp)), fun v0 _ => ⟨v, hI.x.set 0 v⟩⟩, hI.next hw v hv⟩
theorem KpQ.trans {q : Nat} {x : It3} {A B C : World} (h : KpQ q x A B) (k : KpQ q x B C) : KpQ q x A C := ⟨h.1.trans k.1, fun v hv => by obtain ⟨v', hv'⟩ := h.2 v hv; exact k.2 v' hv'⟩
theorem KpQ.put {q : Nat} {x : It3} {W : World} {l : Nat} {o : Obj} (o' : Obj) (h : W.heap[l]? = some o) (ho : o.isCells = false) : KpQ q x W (W.putObj l o') := ⟨KpB.put o' h ho, fun v hv => ⟨v, (KpB.put (bs := []) o' h ho).2 q _ hv rfl (by simp)⟩⟩
theorem OkH.put {vs : List Int} {k N B : Nat} {pre : List It3} {x : It3} {W : World} {l : Nat} {o : Obj} (o' : Obj) (hk : OkH vs k N B pre x W) (h : W.heap[l]? = some o) (ho : o.isCells = false) : OkH vs k N B pre x (W.putObj l o') :=
  ⟨hk.1, hk.2.1, Ownv.grown hk.2.2 (grownBy_putObj' W l o') (fun hA e => by
    obtain ⟨-, g1⟩ := Ownv.cases hk.2.2
    rcases g1 with ⟨h9, -⟩ | ⟨g, cur, h9, -, hh, -⟩
    · exact hA h9
    · rw [h9] at e
      have e : g = l := by simpa [blk] using e
      subst e
      rw [hh] at h
      cases h
      cases ho)⟩
/-- the values of the law are overwritten -/
def OwI (vs : List Int) (b7 b8 b9 : Nat) (a3 : Int) (Aw : Option Addr) (NW cw : Nat) (L : List Sv) (Fw : World → Prop) (w : World) (z5 z9 : Nat) (A1 : Option Addr) (n c1 : Nat) (i : Value) (wr : World) : Prop :=
  ∃ (j : Nat) (cur : List Int), j ≤ n ∧ i = .int .i64 (j : Int) ∧ Own .i64 3 wr z5 A1 n c1 cur ∧ KpF b7 b8 b9 a3 Aw NW cw L Fw w wr ∧ z9 ≤ wr.heap.size
end Go.Proofs.YtpdalbckmfadbaaGreat

