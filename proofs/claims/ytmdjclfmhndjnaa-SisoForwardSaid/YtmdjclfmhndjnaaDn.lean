/-
  Contract of the reference's Forward; siso.Forward in one form; what a loop over its iterator keeps. Condition: lists that lie in memory.
-/
import Derived.Test.YtmdjclfmhndjnaaDm
namespace Go.Proofs.Ytmdjclfmhndjnaa
open Go.RowKit Go.Shelf
set_option linter.unusedVariables false
def fwT (o : Ob) (n : Nat) : List Int := (List.range n).map fun (q : Nat) => topL (o.f (q + 1))
theorem fwT_succ (o : Ob) (n : Nat) : fwT o (n + 1) = fwT o n ++ [topL (o.f (n + 1))] := by simp [fwT, List.range_succ]
theorem fwT_fwP (o : Ob) : fwT o o.s.length = (fwP o).map (·.2) := by simp [fwT, fwP, List.map_map, Function.comp_def]
def FoI (o : Ob) (w : World) (r i : Value) (wr : World) : Prop := ∃ (j : Nat) (A : Option Addr) (c : Nat), j ≤ o.s.length ∧ i = .int .i64 ((j : Int) + 1) ∧ r = .slice A j c ∧ Own .i64 3 wr w.heap.size A j c (fwT o j) ∧ Below w.heap.size w wr
def FkI (xs : List Int) (w : World) (m k : Value) (wr : World) : Prop := ∃ q : Nat, q ≤ 8 ∧ k = .int .i64 q ∧ m = .int .i64 (topN xs q) ∧ Qt w wr
set_option maxRecDepth 100000 in
set_option maxHeartbeats 1000000 in
theorem rforward_any (S P A : Option Addr) (cs cp ca : Nat) (o : Ob) (w : World) (h : In3 w o S P A cs cp ca) (ho : o.ok) :
    Calls Try.prog 21 #[.slice S o.s.length cs, .slice P o.p.length cp, .slice A o.a.length ca] w fun e w' => ∃ A' c', e = .returned (.slice A' o.s.length c') ∧ Own .i64 3 w' w.heap.size A' o.s.length c' (fwT o o.s.length) ∧ Below w.heap.size w w' := by
  have HSW := Lib.hid (sweeps_any S P A cs cp ca o w h ho)
  have HO := Lib.hid ho
  have hn : o.s.length ≤ 6147 := by have := ho.2.1; have := ho.2.2.1; omega
  clear h ho
  go_enter Try.func21, Try.ntmps21
  go_wp2_with fail
  refine HSW.out.mono ?_
  rintro e w1 ⟨bf, bg, rfl, hF, hG, h1, h2, hB⟩
  have HF := Lib.hid hF
  have HB := Lib.hid hB
  clear hF hG h1 h2 hB HSW
  go_wp2_with fail
  go_loopw [9, 10] (fun r i wr => FoI o w1 r i wr) (fun _ i _ => o.s.length + 1 - (intOf i).toNat)
  case atStart => exact ⟨0, none, 0, Nat.zero_le _, rfl, rfl, Own.nilv _ _ _ _, Below.refl _ _⟩
  case round =>
    obtain ⟨j, A1, c1, hj, rfl, rfl, hO, hBr⟩ := hrel
    by_cases hlt : j < o.s.length
    · have hml := (f_met HO.out (j + 1) (by omega)).len
      have HMT := Lib.hid (fun q (h : q < 8) => (HF.out.blk.below hBr))
      have HCL : Hid (∀ q, q < 8 → wr.cell? ⟨bf, 8 * (j + 1) + q, none⟩ = some (.int .i64 (gi (o.f (j + 1)) q))) := Lib.hid (fun q hq => (Mt.mk (HF.out.blk.below hBr) HF.out.l8).cell (by omega) hq)
      have hix := fun W => ix72 bf (o.s.length + 1) (j := j + 1) (by omega) ((j : Int) + 1) (by push_cast; rfl) W
      have HOJ := Lib.hid hO
      have HBJ := Lib.hid hBr
      have HT := Lib.hid (fwT_succ o j)
      have HML := Lib.hid hml
      clear hO hBr HMT hml
      generalize hxs : o.f (j + 1) = xs at *
      clear hxs
      have htt := topL_take xs
      rw [HML.out] at htt
      have HTT := Lib.hid htt
      clear htt
      go_wp2_with fail
      go_loopw [11, 12] (fun m k wq => FkI xs wr m k wq) (fun _ k _ => 8 - (intOf k).toNat)
      case atStart => exact ⟨0, by omega, rfl, rfl, 0, rfl⟩
      case round =>
        obtain ⟨q, hq, rfl, rfl, n0, rfl⟩ := hrel
        by_cases hq8 : q < 8
        · have hc := HCL.out q hq8
          have HS := Lib.hid (topN_succ xs q (by rw [HML.out]; exact hq8))
          generalize topN xs q = tq at *
          generalize gi xs q = xq at *
          have e8 : (q : Int) < 8 := by omega
          go_wp2
          go_roundw
          case rel => exact ⟨q + 1, by omega, by go_num, by rw [HS.out]; first | rfl | (rw [max_if]) | (rw [← max_if]), by first | exact ⟨_, rfl⟩ | exact Qt.drewN ⟨_, rfl⟩ _⟩
          case measure => simp [intOf]; omega
        · obtain rfl : q = 8 := by omega
          rw [HTT.out]
          generalize htv : topL xs = tv at *
          clear htv
          go_wp2_with (at_builtin
                       refine list_of rfl fun K hK => wp_app1 (base := w1.heap.size) _ _ 22 rfl el22 rfl (.int .i64 tv) rfl rfl (Ownv.drewN HOJ.out _) (by omega) (by omega) HBJ.out.size ?_
                       intro A4 c4 w4 h1 h2
                       refine hK _ _ ?_
                       clear hK K
                       have H41 := Lib.hid h1
                       have H42 := Lib.hid h2
                       clear h1 h2)
          go_roundw
          case rel =>
            refine ⟨j + 1, A4, c4, by omega, by go_num, rfl, ?_, (HBJ.out.trans (Qt.below ⟨_, rfl⟩ _)).grown H42.out HBJ.out.size (fun k hk => Ownv.ob' HOJ.out hk)⟩
            rw [HT.out]
            exact Own.of_eq H41.out rfl (by simp)
          case measure => simp [intOf]; omega
    · obtain rfl : j = o.s.length := by omega
      have HOJ := Lib.hid hO
      have HBJ := Lib.hid hBr
      clear hO hBr
      go_wp2
      go_ret
      exact ⟨A1, c1, rfl, Ownv.mono HOJ.out HB.out.size, HB.out.trans (HBJ.out.mono HB.out.size)⟩
/-! ### Forward in one form -/
open Classical in
noncomputable def psO (o : Ob) : List (Int × Int) := if o.ok then fwP o else []
structure It (PS : List (Int × Int)) (lb : Array Value) (Ok : Nat → Prop) (Fw : World → Prop) : Prop where
  seq : ∀ b w, Ok b → Fw w → b < w.heap.size → SeqC 2 40 lb encP (KpB [b]) (fun ys => ys = PS) (fun pre => ∃ k, k ≤ PS.length ∧ pre = PS.take k) PS.length w
  kp : ∀ b W W', Ok b → Fw W → KpB [b] W W' → Fw W'
  below : ∀ W W', Fw W → Below W.heap.size W W' → Fw W'
def FwAll (o : Ob) (w : World) (e : Ending) (w' : World) : Prop := ∃ (lb : Array Value) (Ok : Nat → Prop) (Fw : World → Prop), e = .returned (.func (.func 40) #[] lb) ∧ It (psO o) lb Ok Fw ∧ Fw w' ∧ (∀ b, w'.heap.size ≤ b → Ok b) ∧ (∀ b cs, Blk w b 3 cs → Ok b) ∧ Below w.heap.size w w'
theorem fwd_all (S P A : Option Addr) (cs cp ca : Nat) (o : Ob) (w : World) (h : In3 w o S P A cs cp ca) (hn : o.s.length ≤ 1000000 ∧ o.p.length ≤ 1000000 ∧ o.a.length ≤ 1000000) :
    Calls Try.prog 23 #[.slice S o.s.length cs, .slice P o.p.length cp, .slice A o.a.length ca] w (FwAll o w) := by
  by_cases ho : o.ok
  · refine (fwd_ok S P A cs cp ca o w h ho).mono ?_
    rintro e w' ⟨b8, b7, bo, bb, S', P', A', cs', cp', ca', rfl, hF, hS, hP, hA, hB⟩
    have hps : psO o = fwP o := by unfold psO; rw [if_pos ho]
    refine ⟨_, fun b => FwA [b] b8 b7 bo bb S' P' A', fun W => FwD W b8 b7 bo bb o S' P' A' cs' cp' ca', rfl, ⟨fun b W hO hW hb => ?_, fun b W W' hO hW hk => hW.kp hk hO, fun W W' hW hb => hW.below hb⟩, hF, fun b hb => ?_, fun b cs hb => ?_, hB⟩
    · rw [hps, fwP_len]
      exact fwd_seq o ho b8 b7 bo bb S' P' A' cs' cp' ca' [b] W hW hO (by simpa using hb)
    · have l1 := hF.e.lt
      have l2 := hF.s.lt
      have l3 := hF.w.o.blk.lt
      have l4 := hF.w.b.lt
      have q : ∀ {X : Option Addr}, AtB w.heap.size X w' → ∀ a, X = some a → a.block ∉ [b] := fun hX a ha => by
        have := (hX a ha).2
        simp; omega
      exact ⟨by simp; omega, by simp; omega, by simp; omega, by simp; omega, q hS, q hP, q hA⟩
    · have hb' := hb.below hB
      have hlt := hb.lt
      have q : ∀ {X : Option Addr}, AtB w.heap.size X w' → ∀ a, X = some a → a.block ∉ [b] := fun hX a ha => by
        have := (hX a ha).1
        simp; omega
      exact ⟨by simpa using Blk.ne hF.e hb' (by decide), by simpa using Blk.ne hF.s hb' (by decide), by simpa using Blk.ne hF.w.o.blk hb' (by decide), by simpa using Blk.ne hF.w.b hb' (by decide), q hS, q hP, q hA⟩
  · refine (fwd_bad S P A cs cp ca o w h hn ho).mono ?_
    rintro e w' ⟨b8, v7, rfl, hE, hB⟩
    have hps : psO o = [] := by unfold psO; rw [if_neg ho]
    have hne : o.err ≠ 0 := by have := Ob.err_cases ho; omega
    refine ⟨_, fun b => b8 ≠ b, fun W => Blk W b8 29 [.int .i64 o.err], rfl, ⟨fun b W hO hW hb => ?_, fun b W W' hO hW hk => hW.kp hk (by simpa using hO), fun W W' hW hb => hW.below hb⟩, hE, fun b hb => ?_, fun b cs hb => ?_, hB⟩
    · rw [hps]
      intro l J Jx W1 hB1 hJ hJx hY h0
      refine CallsIn.mono (fwd_seq_bad b8 v7 o.err hne (KpB [b]) 0 W hW l J Jx W1 hB1 hJ hJx hY h0) ?_
      rintro e W2 ⟨h1, h2 | ⟨pre, h2, -⟩⟩
      · exact ⟨h1, .inl h2⟩
      · exact h2.elim
    · have := hE.lt
      omega
    · exact Blk.ne hE (hb.below hB) (by decide)
/-! ### the loop over it -/
theorem KpB.grow {bs : List Nat} {A W W' : World} {row : Option Nat} (h : KpB bs A W) (hg : W.grownBy W' row) (hr : ∀ r, row = some r → A.heap.size ≤ r) : KpB bs A W' := by
  refine ⟨Nat.le_trans h.1 hg.size, fun k o hk hc hn => ?_⟩
  have h1 := h.2 k o hk hc hn
  exact (hg.block k (heap_lt' h1) (fun e => by have := hr k e.symm; have := heap_lt' hk; omega)).trans h1
theorem pre_next {ps pre : List (Int × Int)} {x : Int × Int} {n : Nat} (h : pre = ps.take pre.length) (hn : pre.length = n) (hl : n < ps.length) (hx : x = ps[n]) : pre ++ [x] = ps.take (n + 1) ∧ (pre ++ [x]).length = n + 1 := by
  subst hn
  refine ⟨?_, by simp⟩
  rw [takeP_succ _ _ hl, ← h, hx]
theorem pre_not {ps pre : List (Int × Int)} {x : Int × Int} {n : Nat} (hn : pre.length = n) (hl : n < ps.length) (hx : x ≠ ps[n]) : ∀ k, pre ++ [x] ≠ ps.take k := by
  intro k e
  subst hn
  apply hx
  have h1 : (pre ++ [x])[pre.length]? = some x := by simp
  rw [e, List.getElem?_take] at h1
  split at h1
  · rw [List.getElem?_eq_getElem hl] at h1
    exact (Option.some.inj h1).symm
  · cases h1
theorem psO_get (o : Ob) (n : Nat) (h : n < (psO o).length) : (psO o)[n].1 = (n : Int) ∧ (psO o)[n].2 = gi ((psO o).map (·.2)) n := by
  refine ⟨?_, by simp [gi, List.getD, h]⟩
  by_cases ho : o.ok
  · have hps : psO o = fwP o := by unfold psO; rw [if_pos ho]
    simp [hps, fwP]
  · have hps : psO o = [] := by unfold psO; rw [if_neg ho]
    rw [hps] at h
    simp at h
/-- the loop's invariant: where the world Wr was when it began, what lies now -/
structure LpI (PS : List (Int × Int)) (w Wr : World) (b16 : Nat) (od : Option Nat) (n : Nat) (W : World) : Prop where
  x : Blk W b16 3 [.int .i64 (n : Int)]
  k : KpB [b16] Wr W
  bl : Below w.heap.size w W
  d : ∀ D, od = some D → W.heap[D]? = some (.deferred (some []))
def Lp0 (PS : List (Int × Int)) (w Wr : World) (b16 : Nat) (od : Option Nat) (C : Nat → Prop) (pre : List (Int × Int)) (W : World) : Prop :=
  pre = PS.take pre.length ∧ C pre.length ∧ LpI PS w Wr b16 od pre.length W
def Lpx (PS : List (Int × Int)) (w Wr : World) (b16 : Nat) (od : Option Nat) (C : Nat → Prop) (id : Nat) (c : Code) (pre : List (Int × Int)) (W : World) : Prop :=
  (∀ k, pre ≠ PS.take k) ∨ (c = .exit id ∧ C pre.length ∧ LpI PS w Wr b16 od pre.length W)
theorem LpI.cl {PS : List (Int × Int)} {w Wr : World} {b16 : Nat} {od : Option Nat} {n : Nat} {W W' : World} {row : Option Nat} (h : LpI PS w Wr b16 od n W) (hw : w.heap.size ≤ Wr.heap.size) (hb : b16 < Wr.heap.size) (hd : ∀ D, od = some D → D < Wr.heap.size) (hg : W.grownBy W' row) (hr : ∀ r, row = some r → Wr.heap.size ≤ r) : LpI PS w Wr b16 od n W' :=
  ⟨(hg.block b16 h.x.lt (fun e => by have := hr _ e.symm; omega)).trans h.x, h.k.grow hg hr, h.bl.grown hg h.bl.size (fun k e => Nat.le_trans hw (hr k e)), fun D e => (hg.block D (heap_lt' (h.d D e)) (fun e' => by have := hr _ e'.symm; have := hd D e; omega)).trans (h.d D e)⟩
theorem Lp0.cl {PS : List (Int × Int)} {w Wr : World} {b16 : Nat} {od : Option Nat} {C : Nat → Prop} (hw : w.heap.size ≤ Wr.heap.size) (hb : b16 < Wr.heap.size) (hd : ∀ D, od = some D → D < Wr.heap.size) : Cl Wr.heap.size (Lp0 PS w Wr b16 od C) :=
  fun s A B row h hg hr => ⟨h.1, h.2.1, h.2.2.cl hw hb hd hg hr⟩
theorem Lpx.cl {PS : List (Int × Int)} {w Wr : World} {b16 : Nat} {od : Option Nat} {C : Nat → Prop} {id : Nat} (hw : w.heap.size ≤ Wr.heap.size) (hb : b16 < Wr.heap.size) (hd : ∀ D, od = some D → D < Wr.heap.size) (c : Code) : Cl Wr.heap.size (Lpx PS w Wr b16 od C id c) :=
  fun s A B row h hg hr => h.elim .inl fun h => .inr ⟨h.1, h.2.1, h.2.2.cl hw hb hd hg hr⟩
theorem LpI.next {PS : List (Int × Int)} {w Wr : World} {b16 : Nat} {od : Option Nat} {n : Nat} {W : World} (h : LpI PS w Wr b16 od n W) (hw : w.heap.size ≤ b16) (v : Value) (hv : v = .int .i64 ((n + 1 : Nat) : Int)) :
    KeepsOthers W (W.setCell ⟨b16, 0, none⟩ v) ∧ KpB [b16] W (W.setCell ⟨b16, 0, none⟩ v) ∧ LpI PS w Wr b16 od (n + 1) (W.setCell ⟨b16, 0, none⟩ v) := by
  subst hv
  have hg := grownBy_set W b16 0 (.int .i64 ((n + 1 : Nat) : Int))
  have hk : KpB [b16] W (W.setCell ⟨b16, 0, none⟩ (.int .i64 ((n + 1 : Nat) : Int))) := KpB.set hg (by simp)
  refine ⟨KeepsOthers.setCell _ _ _, hk, ⟨h.x.set 0 _, h.k.trans hk, h.bl.setCell hw _, fun D e => ?_⟩⟩
  exact (KeepsOthers.setCell W _ _).same D _ (h.d D e) rfl
/-- what the law keeps while the iterator runs -/
structure KpF (b7 b8 b9 : Nat) (a3 : Int) (Aw : Option Addr) (NW cw : Nat) (WL : List Int) (Fw : World → Prop) (w W : World) : Prop where
  x7 : Blk W b7 3 [.int .i64 a3]
  x8 : Blk W b8 4 [.bool false]
  x9 : Blk W b9 22 [.slice Aw NW cw]
  r : Rd .i64 W Aw NW cw WL
  fw : Fw W
  bl : Below w.heap.size w W
structure KpO (b7 b8 b9 : Nat) (Aw : Option Addr) (Ok : Nat → Prop) (b : Nat) : Prop where
  h7 : b7 ≠ b
  h8 : b8 ≠ b
  h9 : b9 ≠ b
  hr : ∀ a, Aw = some a → a.block ≠ b
  ok : Ok b
theorem KpF.kp {b7 b8 b9 : Nat} {a3 : Int} {Aw : Option Addr} {NW cw : Nat} {WL : List Int} {Fw : World → Prop} {w W W' : World} {PS : List (Int × Int)} {lb : Array Value} {Ok : Nat → Prop} {b : Nat} (hI : It PS lb Ok Fw) (h : KpF b7 b8 b9 a3 Aw NW cw WL Fw w W) (ho : KpO b7 b8 b9 Aw Ok b) (hk : KpB [b] W W') (hb : Below w.heap.size w W') : KpF b7 b8 b9 a3 Aw NW cw WL Fw w W' :=
  ⟨h.x7.kp hk (by simpa using ho.h7), h.x8.kp hk (by simpa using ho.h8), h.x9.kp hk (by simpa using ho.h9), Rdv.kp h.r hk (fun a ha => by simpa using ho.hr a ha), hI.kp b W W' ho.ok h.fw hk, hb⟩
theorem KpF.below {b7 b8 b9 : Nat} {a3 : Int} {Aw : Option Addr} {NW cw : Nat} {WL : List Int} {Fw : World → Prop} {w W W' : World} {PS : List (Int × Int)} {lb : Array Value} {Ok : Nat → Prop} (hI : It PS lb Ok Fw) (h : KpF b7 b8 b9 a3 Aw NW cw WL Fw w W) (hb : Below W.heap.size W W') : KpF b7 b8 b9 a3 Aw NW cw WL Fw w W' :=
  ⟨h.x7.below hb, h.x8.below hb, h.x9.below hb, Rdv.below h.r hb, hI.below W W' h.fw hb, h.bl.trans (hb.mono h.bl.size)⟩
theorem KpF.belowT {b7 b8 b9 : Nat} {a3 : Int} {Aw : Option Addr} {NW cw : Nat} {WL : List Int} {w W W' : World} (h : KpF b7 b8 b9 a3 Aw NW cw WL (fun _ => True) w W) (hb : Below W.heap.size W W') : KpF b7 b8 b9 a3 Aw NW cw WL (fun _ => True) w W' :=
  ⟨h.x7.below hb, h.x8.below hb, h.x9.below hb, Rdv.below h.r hb, trivial, h.bl.trans (hb.mono h.bl.size)⟩
theorem KpF.to {b7 b8 b9 : Nat} {a3 : Int} {Aw : Option Addr} {NW cw : Nat} {WL : List Int} {w W : World} {Fw : World → Prop} (h : KpF b7 b8 b9 a3 Aw NW cw WL (fun _ => True) w W) (hf : Fw W) : KpF b7 b8 b9 a3 Aw NW cw WL Fw w W := ⟨h.x7, h.x8, h.x9, h.r, hf, h.bl⟩
def LtI (b7 b8 b9 : Nat) (a3 : Int) (Aw : Option Addr) (NW cw : Nat) (WL : List Int) (Fw : World → Prop) (w : World) (B Z : Nat) (A1 : Option Addr) (n0 c1 : Nat) (i : Value) (wr : World) : Prop :=
  ∃ (j : Nat) (vs : List Int), j ≤ n0 ∧ i = .int .i64 j ∧ Own .i64 3 wr B A1 n0 c1 vs ∧ KpF b7 b8 b9 a3 Aw NW cw WL Fw w wr ∧ Z ≤ wr.heap.size
theorem Own.blk3 {w : World} {base : Nat} {A : Option Addr} {n c : Nat} {vs : List Int} (h : Own .i64 3 w base A n c vs) (hc : 0 < c) : ∃ cs, Blk w (blk A) 3 cs := by
  rcases (Ownv.cases h).2 with ⟨_, _, h8⟩ | ⟨g, cur, h8, _, h9, _⟩
  · omega
  · subst h8
    exact ⟨cur.toList, by unfold Blk; rw [Array.toArray_toList]; exact h9⟩
theorem Rdv.set9 {w : World} {A : Option Addr} {n c : Nat} {vs : List Value} (h : Rdv w A n c vs) {B b j : Nat} {v : Value} (hX : ∀ a, 0 < c → A = some a → a.block < B) (hb : B ≤ b) : Rdv (w.setCell ⟨b, j, none⟩ v) A n c vs := by
  have hg := grownBy_set w b j v
  refine ⟨h.len, h.le, h.cm, h.nil, h.spot, fun hc a ha => Nat.lt_of_lt_of_le (h.lt hc a ha) hg.size, fun q u hq => ?_⟩
  have h1 := h.at_ q u hq
  have hq' := (List.getElem?_eq_some_iff.1 hq).1
  have h2 := h.len
  have h3 := h.le
  cases A with
  | none => have := h.nil rfl; omega
  | some a =>
    have h4 := hX a (by omega) rfl
    have hlt := h.lt (by omega) a rfl
    rw [← h1]
    refine World.cell?_of_block ?_
    exact hg.block a.block hlt (fun e => by injection e with e; omega)
def noPanic (Q : Exit → Act → World → Prop) : Exit → Act → World → Prop
  | .panic _, _, _ => False
  | e, a, w => Q e a w
theorem wp_nopanic {P : Program} {c : Code} {Q : Exit → Act → World → Prop} {a : Act} {w : World} (h : c.wp P (noPanic Q) a w) : c.wp P Q a w :=
  Code.wp_mono (fun e a w h => by cases e <;> first | exact h | exact h.elim) h
theorem noPanic_normal {Q : Exit → Act → World → Prop} {a : Act} {w : World} (h : Q .normal a w) : noPanic Q .normal a w := h
def W6S (b9 : Nat) (Aw : Option Addr) (i : Nat) (v9 v : Value) (W : World) : Prop := W.cell? ⟨b9, 0, none⟩ = some v9 ∧ W.cell? (adr Aw i) = some v
theorem load_bool {W : World} {b : Nat} {v : Value} (h : Blk W b 4 [v]) : (loadVar 4 ⟨b, 0, none⟩).run Try.prog W = .ok v W := by
  have hc := h.cell (j := 0) (v := v) rfl
  simp [loadVar, hc, go_sem]
theorem run_eql_func_nil {P : Program} (w : World) {t : TypeId} {a b : Array TypeId} {c : Bool} (h : P.underlying t = some (.func a b c)) (f : Fn) (fa : Array Value) (lb : Array Value) : (binOp .eql t (.func f fa lb) .nilFunc).run P w = .ok (.bool false) w := by
  have h' : ∀ d, (Op.equalIn (d + 1) t (.func f fa lb) .nilFunc).run P w = .ok false w := fun d => by
    simp [Op.equalIn, run_underlying h]
  simp only [binOp]
  simp [Op.equal, Op.maxDepth, h' 9999]
end Go.Proofs.Ytmdjclfmhndjnaa
