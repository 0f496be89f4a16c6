/-
  Iterators that write blocks of their own, Max, Clone, Forward, Greatest, the reference's Greatest and Metric; a path's metric is at most the greatest. Condition: lists that lie in memory.
-/
import Derived.Test.YtmdjclfmhndjnaaCo
import Derived.Test.YtmdjclfmhndjnaaEb
namespace Go.Proofs.Ytmdjclfmhndjnaa
set_option linter.unusedVariables false
section
open Go.RowKit
set_option maxRecDepth 100000 in
set_option maxHeartbeats 1000000 in
theorem rgreat_any (S P A : Option Addr) (cs cp ca : Nat) (o : Ob) (w : World) (h : In3 w o S P A cs cp ca) (ho : o.ok) :
    Calls Try.prog 22 #[.slice S o.s.length cs, .slice P o.p.length cp, .slice A o.a.length ca] w fun e w' => e = .returned (.int .i64 (gi (o.f o.s.length) 0)) ∧ Below w.heap.size w w' := by
  have HSW := Lib.hid (sweeps_any S P A cs cp ca o w h ho)
  clear h ho
  go_enter Try.func22, Try.ntmps22
  go_wp2_with fail
  refine HSW.out.mono ?_
  rintro e w1 ⟨bf, bg, rfl, hF, hG, h1, h2, hB⟩
  have hix := fun W => ix72 bf (o.s.length + 1) (j := o.s.length) (by omega) (o.s.length : Int) rfl W
  have hc := hF.cell (i := o.s.length) (k := 0) (by omega) (by omega)
  rw [Nat.add_zero] at hc
  have HB := Lib.hid hB
  clear hF hG h1 h2 hB
  go_wp2
  go_ret
  exact ⟨rfl, HB.out⟩
end
section
open Go.RowKit Go.Shelf
/-- does not mind what happens at or beyond B -/
def Cl {β : Type} (B : Nat) (J : β → World → Prop) : Prop := ∀ s W W' row, J s W → W.grownBy W' row → (∀ r, row = some r → B ≤ r) → J s W'
theorem Cl.alloc {β : Type} {B : Nat} {J : β → World → Prop} (h : Cl B J) {s : β} {W : World} (o : Obj) (hs : J s W) : J s (W.alloc o) := h s W _ none hs (World.grownBy_alloc W o none) (fun r e => by cases e)
theorem Cl.put {β : Type} {B : Nat} {J : β → World → Prop} (h : Cl B J) {s : β} {W : World} {l : Nat} (o : Obj) (hs : J s W) (hl : B ≤ l) : J s (W.putObj l o) := h s W _ (some l) hs (grownBy_putObj' W l o) (fun r e => by cases e; exact hl)
theorem Cl.set {β : Type} {B : Nat} {J : β → World → Prop} (h : Cl B J) {s : β} {W W' : World} {l : Nat} (hs : J s W) (hg : W.grownBy W' (some l)) (hl : B ≤ l) : J s W' := h s W _ (some l) hs hg (fun r e => by cases e; exact hl)
theorem grown_of_below {W W' : World} (h : Below W.heap.size W W') : W.grownBy W' none := ⟨h.os, h.tape, h.output, h.size, fun k hk _ => h.block k hk⟩
theorem Cl.call {β : Type} {B : Nat} {J : β → World → Prop} (h : Cl B J) {s : β} {W W' : World} (hs : J s W) (hb : Below W.heap.size W W') : J s W' := h s W _ none hs (grown_of_below hb) (fun r e => by cases e)
theorem Cl.and {β : Type} {B : Nat} {I J : β → World → Prop} (h : Cl B I) (k : Cl B J) : Cl B (fun s W => I s W ∧ J s W) := fun s W W' row hs hg hr => ⟨h s W W' row hs.1 hg hr, k s W W' row hs.2 hg hr⟩
theorem cl_below {β : Type} {n B : Nat} {w0 : World} (hn : n ≤ w0.heap.size) (hB : n ≤ B) : Cl B (fun (_ : β) W => Below n w0 W) := fun _ _ _ _ hs hg hr => hs.grown hg (Nat.le_trans hn hs.size) (fun k e => Nat.le_trans hB (hr k e))
/-- every row of cells but those named lies as it lay -/
def KpB (bs : List Nat) (A B : World) : Prop := A.heap.size ≤ B.heap.size ∧ ∀ k o, A.heap[k]? = some o → o.isCells = true → k ∉ bs → B.heap[k]? = some o
theorem KpB.refl (bs : List Nat) (A : World) : KpB bs A A := ⟨Nat.le_refl _, fun _ _ h _ _ => h⟩
theorem KpB.trans {bs : List Nat} {A B C : World} (h : KpB bs A B) (k : KpB bs B C) : KpB bs A C := ⟨Nat.le_trans h.1 k.1, fun i o hi hc hb => k.2 i o (h.2 i o hi hc hb) hc hb⟩
theorem KpB.set {bs : List Nat} {W W' : World} {b : Nat} (hg : W.grownBy W' (some b)) (hb : b ∈ bs) : KpB bs W W' := ⟨hg.size, fun k o hk hc hn => (hg.block k (Array.getElem?_eq_some_iff.1 hk).1 (fun e => by cases e; exact hn hb)).trans hk⟩
theorem KpB.below {bs : List Nat} {W W' : World} (h : Below W.heap.size W W') : KpB bs W W' := ⟨h.size, fun k o hk hc hn => (h.block k (Array.getElem?_eq_some_iff.1 hk).1).trans hk⟩
theorem KpB.put {bs : List Nat} {W : World} {l : Nat} {o : Obj} (o' : Obj) (h : W.heap[l]? = some o) (ho : o.isCells = false) : KpB bs W (W.putObj l o') := by
  have hg := grownBy_putObj' W l o'
  refine ⟨hg.size, fun k x hk hc hn => (hg.block k (Array.getElem?_eq_some_iff.1 hk).1 (fun e => ?_)).trans hk⟩
  cases e
  rw [h] at hk
  cases hk
  rw [ho] at hc
  cases hc
theorem Blk.kp {W W' : World} {b : Nat} {t : TypeId} {cs : List Value} {bs : List Nat} (h : Blk W b t cs) (hk : KpB bs W W') (hb : b ∉ bs) : Blk W' b t cs := hk.2 b _ h rfl hb
theorem Rdv.kp {W W' : World} {A : Option Addr} {n c : Nat} {vs : List Value} {bs : List Nat} (h : Rdv W A n c vs) (hk : KpB bs W W') (hb : ∀ a, A = some a → a.block ∉ bs) : Rdv W' A n c vs := by
  refine ⟨h.len, h.le, h.cm, h.nil, h.spot, fun hc a ha => Nat.lt_of_lt_of_le (h.lt hc a ha) hk.1, fun j v hj => ?_⟩
  have h1 := h.at_ j v hj
  cases A with
  | none =>
    have := h.nil rfl
    have h2 := (List.getElem?_eq_some_iff.1 hj).1
    have h3 := h.len
    have h4 := h.le
    omega
  | some a =>
    have h2 := hb a rfl
    have hblk : (adr (some a) j).block = a.block := rfl
    rw [← h1]
    obtain ⟨o, ho⟩ : ∃ o, W.heap[a.block]? = some o := by
      have := World.block_lt_of_cell? W _ h1
      exact ⟨_, Array.getElem?_eq_getElem this⟩
    refine World.cell?_of_block ?_
    rw [hblk]
    refine (hk.2 a.block o ho ?_ h2).trans ho.symm
    cases o with
    | cells x y z => rfl
    | _ => simp [World.cell?, hblk, ho] at h1
/-- THE CONTRACT of an iterator value that may write blocks of its own -/
def SeqC {α : Type} (m gf : Nat) (lb : Array Value) (encs : α → Array Value) (Kp : World → World → Prop) (S Sp : List α → Prop) (N : Nat) (w : World) : Prop :=
  ∀ (l : Nat) (J Jx : List α → World → Prop) (W : World), Below w.heap.size w W → Cl W.heap.size J → Cl W.heap.size Jx →
    (∀ pre x W1, J pre W1 → pre.length < N → YieldAt Fence.wide (m - 1) Try.prog l (encs x) W1 fun e W' =>
      (e = .returned (.bool true) ∧ J (pre ++ [x]) W' ∧ Kp W1 W') ∨ (e = .returned (.bool false) ∧ Jx (pre ++ [x]) W')) →
    J [] W →
    CallsIn Fence.wide m Try.prog gf (#[.func (.yield l) #[] #[]] ++ lb) W fun e W' => (∃ v, e = .returned v) ∧ ((∃ xs, S xs ∧ J xs W') ∨ (∃ pre, Sp pre ∧ Jx pre W'))
theorem rangeC {α : Type} {g : Operand} {ps : Array Tmp} {assign body : Code} {Q : Exit → Act → World → Prop} {a : Act} {w : World}
    {gf : Nat} {lb : Array Value} (hg : a.eval g = .func (.func gf) #[] lb) (eg : ∀ args w, (callFunc gf args).run Try.prog w = .ok (.enter gf args) w)
    {encs : α → Array Value} {Kp : World → World → Prop} {S Sp : List α → Prop} {N : Nat} {w0 : World} (hseq : SeqC 2 gf lb encs Kp S Sp N w0)
    (hKt : ∀ {A B C : World}, Kp A B → Kp B C → Kp A C) (hKb : ∀ (W : World) (l : Nat) (o o' : Obj), w.heap.size ≤ l → W.heap[l]? = some o → o.isCells = false → Kp W (W.putObj l o')) (hb0 : Below w0.heap.size w0 w) (hps : ∀ x, (encs x).size = ps.size)
    (I : List α → World → Prop) (Ix : Code → List α → World → Prop) (hI : Cl w.heap.size I) (hIx : ∀ c, Cl w.heap.size (Ix c)) (h0 : I [] w) (a₁ : α → Act)
    (hassign : ∀ (l : Nat) (x : α) (W : World) (K : Act → World → Prop), K (a₁ x) W →
      assign.wpIn (Fence.wide.inRound l) 1 Try.prog (Exit.then K (fun _ _ _ => False)) { tmps := (ps.zip (encs x)).foldl (fun t (p, v) => t.setIfInBounds p v) a.tmps, defers := [] } W)
    (hbody : ∀ (l : Nat) (pre : List α) (x : α) (W : World), I pre W → pre.length < N → body.wpIn (Fence.wide.inRound l) 1 Try.prog (ownPostK Kp I Ix (pre ++ [x]) W) (a₁ x) W)
    (hdone : ∀ (D : Nat) (xs : List α) (W : World), w.heap.size ≤ D → S xs → I xs W → W.heap[D]? = some (.deferred (some [])) → Q .normal { a with defers := { target := .collected D, args := #[] } :: a.defers } W)
    (hstop : ∀ (D : Nat) (c : Code) (pre : List α) (W : World), w.heap.size ≤ D → Sp pre → Ix c pre W → W.heap[D]? = some (.deferred (some [])) → c.wpIn Fence.wide 3 Try.prog Q { a with defers := { target := .collected D, args := #[] } :: a.defers } W) :
    (Code.rangeFunc g ps assign body).wpIn Fence.wide 3 Try.prog Q a w := by
  refine wpIn_rangeFunc fun fn hfn => ?_
  obtain ⟨n, hn⟩ : ∃ n, n = w.heap.size := ⟨_, rfl⟩
  rw [← hn] at hKb hI hIx hdone hstop
  obtain ⟨rc, hrc⟩ : ∃ rc : LoopState → Option Code → Loop, rc = fun st pe => { state := st, pending := pe, fn, tmps := a.tmps, params := ps, assign, body, defers := n } := ⟨_, rfl⟩
  obtain ⟨W1, hW1⟩ : ∃ W1, W1 = (w.alloc (.deferred (some []))).alloc (.loop (rc .ready none)) := ⟨_, rfl⟩
  have hs1 : W1.heap.size = n + 2 := by rw [hW1, hn]; simp
  have hL1 : W1.heap[n + 1]? = some (.loop (rc .ready none)) := by
    rw [hW1, hn]
    have h := World.alloc_heap_new (w.alloc (.deferred (some []))) (.loop (rc .ready none))
    rwa [World.size_alloc] at h
  have hK1 : W1.heap[n]? = some (.deferred (some [])) := by
    rw [hW1, hn]
    exact (Below.heap_alloc _ _ _ (by simp)).trans (World.alloc_heap_new w _)
  have hI1 : I [] W1 := by rw [hW1]; exact hI.alloc _ (hI.alloc _ h0)
  have hb1 : Below w0.heap.size w0 W1 := by
    rw [hW1]
    exact hb0.trans ((((Below.refl _ w).alloc (Nat.le_refl _) _).alloc (by simp) _).mono hb0.size)
  -- the loop's two blocks: nothing behind them turns them
  have two : ∀ {A B : World} {row : Option Nat} {o p : Obj}, A.grownBy B row → (∀ r, row = some r → W1.heap.size ≤ r) → A.heap[n + 1]? = some o ∧ A.heap[n]? = some p → B.heap[n + 1]? = some o ∧ B.heap[n]? = some p := fun {A B row o p} hgr hr h =>
    ⟨(hgr.block _ (Array.getElem?_eq_some_iff.1 h.1).1 (fun e => by have := hr _ e.symm; omega)).trans h.1, (hgr.block _ (Array.getElem?_eq_some_iff.1 h.2).1 (fun e => by have := hr _ e.symm; omega)).trans h.2⟩
  have up : ∀ {row : Option Nat}, (∀ r, row = some r → W1.heap.size ≤ r) → ∀ r, row = some r → n ≤ r := fun hr r e => by have := hr r e; omega
  refine ⟨n + 1, [{ target := .collected n, args := #[] }], W1, { target := .fn (.func gf) lb, args := #[.func (.yield (n + 1)) #[] #[]] }, W1, gf, #[.func (.yield (n + 1)) #[] #[]] ++ lb, W1, ?_, ?_, ?_, ?_, fun _ => by omega, ?_⟩
  · rw [hW1, hrc, hn]
    exact run_enterLoop_outer _ _ _ _ _
  · simp only [resolve, hg]
    simp [go_sem]
  · intro f hf
    simp [Target.leads] at hf
    subst hf
    trivial
  · simp [invoke, go_sem, eg]
  refine (hseq (n + 1)
    (fun pre W => I pre W ∧ W.heap[n + 1]? = some (.loop (rc .ready none)) ∧ W.heap[n]? = some (.deferred (some [])))
    (fun pre W => ∃ c, Ix c pre W ∧ W.heap[n + 1]? = some (.loop (rc .done (some c))) ∧ W.heap[n]? = some (.deferred (some [])))
    W1 hb1 (fun s A B row hs hgr hr => ⟨hI s A B row hs.1 hgr (up hr), two hgr hr hs.2⟩)
    (fun s A B row ⟨c, hc, hs⟩ hgr hr => ⟨c, hIx c s A B row hc hgr (up hr), two hgr hr hs⟩) ?_ ⟨hI1, hL1, hK1⟩).mono ?_
  · rintro pre x W ⟨hi, hl, hk⟩ hlen
    have hlt : n + 1 < W.heap.size := (Array.getElem?_eq_some_iff.1 hl).1
    obtain ⟨Wb, hWb⟩ : ∃ Wb, Wb = W.putObj (n + 1) (.loop { rc .ready none with state := .busy }) := ⟨_, rfl⟩
    have hlb : Wb.heap[n + 1]? = some (.loop { rc .ready none with state := .busy }) := by rw [hWb]; exact World.putObj_heap_same hlt
    have hkb : Wb.heap[n]? = some (.deferred (some [])) := by rw [hWb]; exact (World.putObj_heap_other (by omega)).trans hk
    have hib : I pre Wb := by rw [hWb]; exact hI.put _ hi (by omega)
    have hpb : Kp W Wb := by rw [hWb]; exact hKb _ _ _ _ (by omega) hl rfl
    have hyl := run_yield (P := Try.prog) (args := encs x) hl (by rw [hrc]; exact hps x)
    rw [hrc] at hyl
    refine ⟨fn, _, assign, body, hyl, roundIn_of_wpIn hfn (hassign _ x W _ ⟨_, run_beginRound hl (by rw [hrc]), ?_⟩)⟩
    rw [← hWb]
    refine wpIn_mono (hbody _ pre x _ hib hlen) ?_
    have close : ∀ (jump : Option Code) (W3 : World), KeepsOthers Wb W3 → ∃ W4, W4 = W3.putObj (n + 1) (.loop (rc (if jump.isNone then .ready else .done) jump)) ∧ (Instr.endRound (n + 1) jump).run Try.prog W3 = .ok (.bool jump.isNone) W4 ∧
        (∃ o : Obj, W3.heap[n + 1]? = some o ∧ o.isCells = false) ∧ W4.heap[n + 1]? = some (.loop (rc (if jump.isNone then .ready else .done) jump)) ∧ W4.heap[n]? = some (.deferred (some [])) := fun jump W3 hk3 => by
      have hl3 := hk3.same _ _ hlb rfl
      have hr3 := run_endRound (P := Try.prog) jump hl3
      rw [hrc] at hr3 ⊢
      exact ⟨_, rfl, hr3, ⟨_, hl3, rfl⟩, World.putObj_heap_same (Array.getElem?_eq_some_iff.1 hl3).1, (World.putObj_heap_other (by omega)).trans (hk3.same _ _ hkb rfl)⟩
    have away : ∀ (c : Code) (W3 : World), KeepsOthers Wb W3 → Ix c (pre ++ [x]) W3 → ∃ v W4, (Instr.endRound (n + 1) (some c)).run Try.prog W3 = .ok v W4 ∧ v = .bool false ∧ ∃ c', Ix c' (pre ++ [x]) W4 ∧ W4.heap[n + 1]? = some (.loop (rc .done (some c'))) ∧ W4.heap[n]? = some (.deferred (some [])) := fun c W3 hk3 hi3 => by
      obtain ⟨W4, e4, hr, -, h1, h2⟩ := close (some c) W3 hk3
      exact ⟨_, W4, hr, rfl, c, by rw [e4]; exact (hIx c).put _ hi3 (by omega), h1, h2⟩
    rintro e a3 W3 hp
    cases e with
    | normal =>
      obtain ⟨hk3, hp3, hi3⟩ := hp
      obtain ⟨W4, e4, hr, ⟨o, ho, hc⟩, h1, h2⟩ := close none W3 hk3
      refine ⟨_, W4, hr, .inl ⟨rfl, ⟨?_, h1, h2⟩, hKt (hKt hpb hp3) ?_⟩⟩
      · rw [e4]; exact hI.put _ hi3 (by omega)
      · rw [e4]; exact hKb _ _ _ _ (by omega) ho hc
    | ret =>
      obtain ⟨v, W4, hr, hv, h⟩ := away .ret W3 hp.1 hp.2
      exact ⟨v, W4, hr, .inr ⟨by rw [hv], h⟩⟩
    | exit id =>
      obtain ⟨v, W4, hr, hv, h⟩ := away (.exit id) W3 hp.1 hp.2
      exact ⟨v, W4, hr, .inr ⟨by rw [hv], h⟩⟩
    | goto t =>
      obtain ⟨v, W4, hr, hv, h⟩ := away (.goto t) W3 hp.1 hp.2
      exact ⟨v, W4, hr, .inr ⟨by rw [hv], h⟩⟩
    | panic ch => exact hp.elim
    | outgrown => exact hp.elim
  · rintro e W2 ⟨⟨v, rfl⟩, h⟩
    rcases h with ⟨xs, hS, hi, hl, hk⟩ | ⟨pre, hSp, c, hi, hl, hk⟩
    · have hr := run_endLoop (P := Try.prog) hl (by rw [hrc]; simp)
      rw [hrc] at hr
      exact ⟨none, _, hr, hdone _ xs _ (Nat.le_refl _) hS (hI.put _ hi (by omega)) ((World.putObj_heap_other (by omega)).trans hk)⟩
    · have hr := run_endLoop (P := Try.prog) hl (by rw [hrc]; simp)
      rw [hrc] at hr
      exact ⟨some c, _, hr, hstop _ c pre _ (Nat.le_refl _) hSp ((hIx c).put _ hi (by omega)) ((World.putObj_heap_other (by omega)).trans hk)⟩
end
section
open Go.RowKit
theorem Ownv.geb {e : TypeId} {w : World} {base : Nat} {A : Option Addr} {n c : Nat} {vs : List Value} (h : Ownv e w base A n c vs) : ∀ a, A = some a → base ≤ a.block ∧ a.block < w.heap.size := by
  intro a ha
  rcases (Ownv.cases h).2 with ⟨h1, -, -⟩ | ⟨g, cur, h1, h2, h3, -⟩
  · rw [ha] at h1; cases h1
  · rw [ha] at h1; cases h1; exact ⟨h2, heap_lt h3⟩
def topL (m : List Int) : Int := m.foldl max UU
def topN (xs : List Int) (j : Nat) : Int := (xs.take j).foldl max UU
theorem topL_take (xs : List Int) : topN xs xs.length = topL xs := by unfold topN topL; rw [List.take_length]
theorem topN_succ (xs : List Int) (j : Nat) (h : j < xs.length) : topN xs (j + 1) = max (topN xs j) (gi xs j) := by
  unfold topN
  rw [List.take_succ_eq_append_getElem h, List.foldl_append]
  simp [gi, List.getD, h]
def MaxI (xs : List Int) (n : Nat) (w : World) (m i : Value) (wr : World) : Prop := ∃ j : Nat, 1 ≤ j ∧ j ≤ n ∧ i = .int .i64 j ∧ m = .int .i64 (topN xs j) ∧ Qt w wr
set_option maxRecDepth 100000 in
theorem max_any (A : Option Addr) (n c : Nat) (xs : List Int) (w : World) (h : Rd .i64 w A n c xs) (h1 : 1 ≤ n) (h0 : UU ≤ gi xs 0) :
    Calls Try.prog 41 #[.slice A n c] w fun e w' => e = .returned (.int .i64 (topL xs)) ∧ Qt w w' := by
  have b1 := h.bd.1
  have hlt0 : ((n : Int) < 1) ↔ False := ⟨fun h9 => by omega, False.elim⟩
  have hc0 := Rd.cell h (j := 0) (by omega)
  have hix0 := fun W => Rdv.ixI h el22 (j := 0) (by omega) .i64 0 (by rfl) W
  have HX := Lib.hid h
  have H0 := Lib.hid h0
  have HL := Lib.hid h.len
  clear h h0
  go_enter Try.func41, Try.ntmps41
  go_wp2
  clear hc0 hix0
  go_loopw [3, 4] (fun m i wr => MaxI xs n w m i wr) (fun _ i _ => n - (intOf i).toNat)
  case atStart =>
    refine ⟨1, Nat.le_refl _, h1, rfl, ?_, ⟨0, rfl⟩⟩
    have : topN xs 1 = gi xs 0 := by
      rw [topN_succ xs 0 (by have := HL.out; omega)]
      show max UU (gi xs 0) = _
      have := H0.out
      omega
    rw [this]
  case round =>
    obtain ⟨j, hj1, hj, rfl, rfl, q0, rfl⟩ := hrel
    by_cases hlt : j < n
    · have hc := Rd.cell HX.out hlt
      have hix := fun W => Rdv.ix HX.out el22 hlt .i64 W
      have HS := Lib.hid (topN_succ xs j (by have := HL.out; omega))
      generalize topN xs j = tj at *
      generalize gi xs j = xj at *
      go_wp2
      go_roundw
      case rel => exact ⟨j + 1, by omega, by omega, by go_num, by rw [HS.out]; first | rfl | (rw [max_if]) | (rw [← max_if]), by first | exact ⟨_, rfl⟩ | exact Qt.drewN ⟨_, rfl⟩ _⟩
      case measure => simp [intOf]; omega
    · obtain rfl : j = n := by omega
      have HE := Lib.hid (show topN xs j = topL xs from by rw [← HL.out, topL_take])
      generalize topN xs j = tj at *
      go_wp2
      go_ret
      exact ⟨ret_int HE.out, by first | exact ⟨_, rfl⟩ | exact Qt.drewN ⟨_, rfl⟩ _⟩
theorem cloneI_any (A : Option Addr) (n c : Nat) (xs : List Int) (w : World) (h : Rd .i64 w A n c xs) (hn : n ≤ 1000000) :
    Calls Try.prog 39 #[.slice A n c] w fun e w' => ∃ A' c', e = .returned (.slice A' n c') ∧ Own .i64 3 w' w.heap.size A' n c' xs ∧ Below w.heap.size w w' := by
  have e1 := fun W => Lib.run_eql_slice_nil (P := Try.prog) W 22 3 A n c 0 0 el22.u
  cases A with
  | none =>
    have hc := h.nil rfl
    have hnc := h.le
    obtain rfl : n = 0 := by omega
    subst hc
    obtain rfl : xs = [] := List.eq_nil_of_length_eq_zero h.len
    go_enter Try.func39, Try.ntmps39
    go_wp2
    go_ret
    exact ⟨none, 0, rfl, Own.nilv .i64 3 w _, Below.refl _ _⟩
  | some ad =>
    have h1 := Rdv.alloc h (.cells #[] 3)
    have hO0 : Ownv 3 (w.alloc (.cells #[] 3)) w.heap.size (some ⟨w.heap.size, 0, none⟩) 0 0 [] := Ownv.lit w #[] 3 rfl (Nat.le_refl _) (Nat.zero_le _)
    go_enter Try.func39, Try.ntmps39
    go_wp2_with (at_builtin; refine list_of rfl fun K hK => wp_app _ _ 22 rfl el22 rfl rfl hO0 h1 (oneCell_ints .i64 xs) (by omega) (by unfold maxLen; omega) (by simp) ?_; intro A' c' w' hO hg; refine hK _ _ ?_; clear hK K)
    go_ret
    exact ⟨A', c', ret_sl rfl rfl rfl, Own.of_eq hO (Nat.zero_add n) (List.nil_append _), (Below.refl _ _).grown (grownBy_of_alloc hg) (Nat.le_refl _) (by simp [Value.ownBlock])⟩
end
section
open Go.RowKit
/-- what the iterator of a valid observation holds -/
structure FwD (W : World) (b8 b7 bo bb : Nat) (o : Ob) (S P A : Option Addr) (cs cp ca : Nat) : Prop where
  e : Blk W b8 29 [.int .i64 0]
  s : Blk W b7 62 (swC bo bb)
  w : SwAt W bo bb o S P A cs cp ca
/-- the blocks bs are none of the iterator's -/
structure FwA (bs : List Nat) (b8 b7 bo bb : Nat) (S P A : Option Addr) : Prop where
  e : b8 ∉ bs
  s : b7 ∉ bs
  o : bo ∉ bs
  b : bb ∉ bs
  rs : ∀ a, S = some a → a.block ∉ bs
  rp : ∀ a, P = some a → a.block ∉ bs
  ra : ∀ a, A = some a → a.block ∉ bs
section
variable {W W' : World} {b8 b7 bo bb : Nat} {o : Ob} {S P A : Option Addr} {cs cp ca : Nat}
theorem FwD.below (h : FwD W b8 b7 bo bb o S P A cs cp ca) (hB : Below W.heap.size W W') : FwD W' b8 b7 bo bb o S P A cs cp ca := ⟨h.e.below hB, h.s.below hB, h.w.below hB⟩
theorem FwD.kp (h : FwD W b8 b7 bo bb o S P A cs cp ca) {bs : List Nat} (hk : KpB bs W W') (ha : FwA bs b8 b7 bo bb S P A) : FwD W' b8 b7 bo bb o S P A cs cp ca :=
  ⟨h.e.kp hk ha.e, h.s.kp hk ha.s, ⟨⟨h.w.o.blk.kp hk ha.o, Rdv.kp h.w.o.s hk ha.rs, Rdv.kp h.w.o.p hk ha.rp, Rdv.kp h.w.o.a hk ha.ra⟩, h.w.b.kp hk ha.b⟩⟩
end
def AtB (n : Nat) (A : Option Addr) (w' : World) : Prop := ∀ a, A = some a → n ≤ a.block ∧ a.block < w'.heap.size
theorem AtB.up {n m : Nat} {A : Option Addr} {W W' : World} (h : AtB n A W) (hm : m ≤ n) (hs : W.heap.size ≤ W'.heap.size) : AtB m A W' := fun a ha => ⟨Nat.le_trans hm (h a ha).1, Nat.lt_of_lt_of_le (h a ha).2 hs⟩
def FwPost (o : Ob) (w : World) (e : Ending) (w' : World) : Prop := ∃ (b8 b7 bo bb : Nat) (S P A : Option Addr) (cs cp ca : Nat), e = .returned (.func (.func 40) #[] #[.pointer (some ⟨b8, 0, none⟩), .pointer (some ⟨b7, 0, none⟩)]) ∧ FwD w' b8 b7 bo bb o S P A cs cp ca ∧ AtB w.heap.size S w' ∧ AtB w.heap.size P w' ∧ AtB w.heap.size A w' ∧ Below w.heap.size w w'
set_option maxRecDepth 100000 in
set_option maxHeartbeats 1000000 in
theorem fwd_ok (S P A : Option Addr) (cs cp ca : Nat) (o : Ob) (w : World) (h : In3 w o S P A cs cp ca) (ho : o.ok) :
    Calls Try.prog 23 #[.slice S o.s.length cs, .slice P o.p.length cp, .slice A o.a.length ca] w (FwPost o w) := by
  have HI := Lib.hid h
  have HO := Lib.hid ho
  have hn : o.s.length ≤ 6147 ∧ o.p.length ≤ 6147 ∧ o.a.length ≤ 6144 := by obtain ⟨h1, h2, h3, h4, -⟩ := ho; omega
  clear h ho
  go_enter Try.func23, Try.ntmps23
  go_wp2_with fail
  refine (cloneI_any S _ cs o.s _ HI.out.s (by omega)).mono ?_
  rintro e w1 ⟨S1, c1, rfl, hO1, hB1⟩
  have HR1 := Lib.hid (Own.rd hO1)
  have HA1 : Hid (AtB w.heap.size S1 w1) := Lib.hid (Ownv.geb hO1)
  have HB1 := Lib.hid hB1
  clear hO1 hB1
  go_wp2_with fail
  refine (cloneI_any P _ cp o.p _ (HI.out.below HB1.out).p (by omega)).mono ?_
  rintro e w2 ⟨P1, c2, rfl, hO2, hB2⟩
  have HR2 := Lib.hid (Own.rd hO2)
  have HA2 : Hid (AtB w1.heap.size P1 w2) := Lib.hid (Ownv.geb hO2)
  have HR1 := Lib.hid (Rdv.below HR1.out hB2)
  have HA1 := Lib.hid (HA1.out.up (Nat.le_refl _) hB2.size)
  have HB2 := Lib.hid (HB1.out.trans (hB2.mono HB1.out.size))
  clear hO2 hB2
  go_wp2_with fail
  refine (cloneI_any A _ ca o.a _ (HI.out.below HB2.out).a (by omega)).mono ?_
  rintro e w3 ⟨A1, c3, rfl, hO3, hB3⟩
  have HR3 := Lib.hid (Own.rd hO3)
  have HA3 : Hid (AtB w2.heap.size A1 w3) := Lib.hid (Ownv.geb hO3)
  have HR1 := Lib.hid (Rdv.below HR1.out hB3)
  have HA1 := Lib.hid (HA1.out.up (Nat.le_refl _) hB3.size)
  have HR2 := Lib.hid (Rdv.below HR2.out hB3)
  have HA2 := Lib.hid (HA2.out.up (Nat.le_refl _) hB3.size)
  have HB3 := Lib.hid (HB2.out.trans (hB3.mono HB2.out.size))
  clear hO3 hB3
  have HZ1 := Lib.hid HB1.out.size
  have HZ2 := Lib.hid HB2.out.size
  clear HB1 HB2
  go_wp2_with fail
  refine (observed_ok S1 P1 A1 c1 c2 c3 o _ ⟨HR1.out, HR2.out, HR3.out⟩ HO.out).mono ?_
  rintro e w4 ⟨bo, bb, rfl, hSW, hB4⟩
  have HSW := Lib.hid hSW
  have HA1 := Lib.hid (HA1.out.up (Nat.le_refl _) hB4.size)
  have HA2 := Lib.hid (HA2.out.up HZ1.out hB4.size)
  have HA3 := Lib.hid (HA3.out.up HZ2.out hB4.size)
  have HB4 := Lib.hid (HB3.out.trans (hB4.mono HB3.out.size))
  have h62 : Blk ((w4.alloc (.cells #[.pointer none, .slice none 0 0] 62)).alloc (.cells #[.int .i64 0] 29)) w4.heap.size 62 zero62 := (Blk.new w4 zero62 62 rfl).alloc _
  have h29 : Blk ((w4.alloc (.cells #[.pointer none, .slice none 0 0] 62)).alloc (.cells #[.int .i64 0] 29)) (w4.heap.size + 1) 29 [.int .i64 0] := Blk.new (w4.alloc _) [.int .i64 0] 29 (by simp)
  clear hSW hB4 HR1 HR2 HR3 HI HO HB3 HZ1 HZ2
  unfold swV
  go_wp2_with (refine strow (cs := swC bo bb) rfl 62 (.tmp 7) (.tmp 17) rfl rfl rfl h62 rfl (by rw [info62]; rfl) (by simp [swC, Value.oneCell']) ?_
               intro W2 h1 h2
               have hb29 := h29.grown h2 (by omega)
               have hc29 := hb29.cell (j := 0) (v := .int .i64 0) rfl
               have hf29 := hb29.frozen 0
               have H1 := Lib.hid h1
               have H2 := Lib.hid h2
               have H29 := Lib.hid hb29
               clear h1 h2 h62 h29 hb29)
  go_ret
  have hq : Below w4.heap.size w4 ((w4.alloc (.cells #[.pointer none, .slice none 0 0] 62)).alloc (.cells #[.int .i64 0] 29)) := ((Below.refl _ w4).alloc (Nat.le_refl _) _).alloc (by simp) _
  have hq2 := (hq.grown H2.out hq.size (fun k hk => by cases hk; exact Nat.le_refl _)).setCell (p := ⟨w4.heap.size + 1, 0, none⟩) (Nat.le_succ _) (.int .i64 0)
  refine ⟨w4.heap.size + 1, w4.heap.size, bo, bb, S1, P1, A1, c1, c2, c3, rfl, ⟨?_, ?_, HSW.out.below hq2⟩, HA1.out.up (Nat.le_refl _) hq2.size, HA2.out.up (Nat.le_refl _) hq2.size, HA3.out.up (Nat.le_refl _) hq2.size, HB4.out.trans (hq2.mono HB4.out.size)⟩
  · exact H29.out.set 0 (.int .i64 0)
  · exact H1.out.other (by omega) 0 (.int .i64 0)
set_option maxRecDepth 100000 in
set_option maxHeartbeats 1000000 in
theorem fwd_bad (S P A : Option Addr) (cs cp ca : Nat) (o : Ob) (w : World) (h : In3 w o S P A cs cp ca) (hn : o.s.length ≤ 1000000 ∧ o.p.length ≤ 1000000 ∧ o.a.length ≤ 1000000) (ho : ¬ o.ok) :
    Calls Try.prog 23 #[.slice S o.s.length cs, .slice P o.p.length cp, .slice A o.a.length ca] w fun e w' => ∃ (b8 : Nat) (v7 : Value), e = .returned (.func (.func 40) #[] #[.pointer (some ⟨b8, 0, none⟩), v7]) ∧ Blk w' b8 29 [.int .i64 o.err] ∧ Below w.heap.size w w' := by
  have HI := Lib.hid h
  have HO := Lib.hid ho
  clear h ho
  go_enter Try.func23, Try.ntmps23
  go_wp2_with fail
  refine (cloneI_any S _ cs o.s _ HI.out.s (by omega)).mono ?_
  rintro e w1 ⟨S1, c1, rfl, hO1, hB1⟩
  have HR1 := Lib.hid (Own.rd hO1)
  have HB1 := Lib.hid hB1
  clear hO1 hB1
  go_wp2_with fail
  refine (cloneI_any P _ cp o.p _ (HI.out.below HB1.out).p (by omega)).mono ?_
  rintro e w2 ⟨P1, c2, rfl, hO2, hB2⟩
  have HR2 := Lib.hid (Own.rd hO2)
  have HR1 := Lib.hid (Rdv.below HR1.out hB2)
  have HB2 := Lib.hid (HB1.out.trans (hB2.mono HB1.out.size))
  clear hO2 hB2
  go_wp2_with fail
  refine (cloneI_any A _ ca o.a _ (HI.out.below HB2.out).a (by omega)).mono ?_
  rintro e w3 ⟨A1, c3, rfl, hO3, hB3⟩
  have HR3 := Lib.hid (Own.rd hO3)
  have HR1 := Lib.hid (Rdv.below HR1.out hB3)
  have HR2 := Lib.hid (Rdv.below HR2.out hB3)
  have HB3 := Lib.hid (HB2.out.trans (hB3.mono HB2.out.size))
  clear hO3 hB3 HB1 HB2
  go_wp2_with fail
  refine (observed_bad S1 P1 A1 c1 c2 c3 o _ ⟨HR1.out, HR2.out, HR3.out⟩ HO.out).mono ?_
  rintro e w4 ⟨rfl, hB4⟩
  have HB4 := Lib.hid (HB3.out.trans (hB4.mono HB3.out.size))
  have h62 : Blk ((w4.alloc (.cells #[.pointer none, .slice none 0 0] 62)).alloc (.cells #[.int .i64 0] 29)) w4.heap.size 62 zero62 := (Blk.new w4 zero62 62 rfl).alloc _
  have h29 : Blk ((w4.alloc (.cells #[.pointer none, .slice none 0 0] 62)).alloc (.cells #[.int .i64 0] 29)) (w4.heap.size + 1) 29 [.int .i64 0] := Blk.new (w4.alloc _) [.int .i64 0] 29 (by simp)
  clear hB4 HR1 HR2 HR3 HI HO HB3
  generalize hE : o.err = E at *
  have HE := Lib.hid hE
  clear hE
  go_wp2_with (refine strow (cs := zero62) rfl 62 (.tmp 7) (.tmp 17) rfl rfl rfl h62 rfl (by rw [info62]; rfl) (by simp [zero62, Value.oneCell']) ?_
               intro W2 h1 h2
               have hb29 := h29.grown h2 (by omega)
               have hc29 := hb29.cell (j := 0) (v := .int .i64 0) rfl
               have hf29 := hb29.frozen 0
               have H2 := Lib.hid h2
               have H29 := Lib.hid hb29
               clear h1 h2 h62 h29 hb29)
  go_ret
  have hq : Below w4.heap.size w4 ((w4.alloc (.cells #[.pointer none, .slice none 0 0] 62)).alloc (.cells #[.int .i64 0] 29)) := ((Below.refl _ w4).alloc (Nat.le_refl _) _).alloc (by simp) _
  have hq2 := (hq.grown H2.out hq.size (fun k hk => by cases hk; exact Nat.le_refl _)).setCell (p := ⟨w4.heap.size + 1, 0, none⟩) (Nat.le_succ _) (.int .i64 E)
  exact ⟨w4.heap.size + 1, _, rfl, by rw [HE.out]; exact H29.out.set 0 (.int .i64 E), HB4.out.trans (hq2.mono HB4.out.size)⟩
end
section
open Go.RowKit Go.Shelf
attribute [local go_sem] Oper.semAt_some
section
variable {P : Program} {Q : Exit → Act → World → Prop} {n : Nat}
/-- an operation that is no defer statement is carried out in the wide fence as everywhere -/
theorem operIn_w {o : Oper} {a : Act} {w : World} {K : Act → World → Prop} (hd : ∀ c, o.op ≠ .defer c) (h : o.wp P a w K Q) : o.wpIn Fence.wide n P a w K Q := by
  refine ⟨fun _ _ => trivial, ?_⟩
  rw [Oper.semAt_eq _ _ _ hd]
  unfold Oper.wp at h
  cases hr : (execOp a.eval o).run P w with
  | ok x w' =>
    rw [hr] at h
    cases x <;> first | exact h | exact (h : False).elim | skip
    · exact ⟨by simp [Fence.wide], callsIn_wide.2 h⟩
    all_goals exact ⟨by simp [Fence.wide], fun c cs _ => let ⟨v, w', r, s⟩ := h c cs; ⟨v, w', r, stepsIn_wide.2 s⟩⟩
  | halt x w' =>
    rw [hr] at h
    cases x <;> first | exact h | exact (h : False).elim
theorem listIn_of {ops : Array Oper} {rest : List Oper} {o : Oper} {a : Act} {w : World} (hgd : o.guard = none) (hd : ∀ c, o.op ≠ .defer c) (h : ∀ K : Act → World → Prop, (∀ a w, wpListIn Fence.wide n P ops Q rest a w → K a w) → o.wp P a w K Q) : wpListIn Fence.wide n P ops Q (o :: rest) a w :=
  wpListIn_plain hgd fun K hK => operIn_w hd (h K hK)
end
section
variable {F : Fence} {n : Nat} {P : Program} {Q : Exit → Act → World → Prop} {a : Act} {w : World}
/-- a scope that no goto leaves, outside every round -/
theorem wpIn_scope_straight {c : Code} (hro : F.round = none) (h : c.wpIn F n P (Exit.noGoto Q) a w) : (Code.scope c).wpIn F n P Q a w := by
  intro b k cs hb1 hb hr
  have hn : b.roundOf = none := by rw [hb1, hro]
  have h0 : (lone (b.atR a (.code (.scope c) :: k)) cs w).fenced P F := fenced_calm hb hr rfl
  have s0 : step P (lone (b.atR a (.code (.scope c) :: k)) cs w) = .next (lone (b.atR a (.code c :: .inScope c :: k)) cs w) := by
    rw [Frame.atR_of_none hn, Frame.atR_of_none hn]; exact step_scope
  have s1 : ∀ a₁ w₁, step P (lone (b.atR a₁ (.inScope c :: k)) cs w₁) = .next (lone (b.atR a₁ k) cs w₁) := fun a₁ w₁ => by
    rw [Frame.atR_of_none hn, Frame.atR_of_none hn]; exact step_inScope
  obtain ⟨e, a₁, w₁, hq, harr⟩ := h b (.inScope c :: k) cs hb1 hb hr
  cases e with
  | normal => exact ⟨.normal, a₁, w₁, hq, .of_steps (.one h0 s0) (StepsIn.trans harr (.one (fenced_calm hb hr rfl) (s1 a₁ w₁)))⟩
  | exit id => exact ⟨.exit id, a₁, w₁, hq, fun k' hk => StepsIn.trans (.one h0 s0) (harr.1 k' (by simp [exitTo, hk])), fun hs => by rw [hn] at hs; cases hs⟩
  | goto l => exact hq.elim
  | ret => exact ⟨_, a₁, w₁, hq, .of_steps (.one h0 s0) harr⟩
  | panic ch => exact ⟨_, a₁, w₁, hq, .of_steps (.one h0 s0) harr⟩
  | outgrown => exact ⟨_, a₁, w₁, hq, .of_steps (.one h0 s0) harr⟩
end
/-- what the iterator yields -/
def fwP (o : Ob) : List (Int × Int) := (List.range o.s.length).map fun (i : Nat) => ((i : Int), topL (o.f (i + 1)))
theorem fwP_len (o : Ob) : (fwP o).length = o.s.length := by simp [fwP]
theorem takeP_succ (ps : List (Int × Int)) (k : Nat) (h : k < ps.length) : ps.take (k + 1) = ps.take k ++ [ps[k]] := by
  rw [List.take_succ_eq_append_getElem h]
theorem fwP_succ (o : Ob) (k : Nat) (h : k < o.s.length) : (fwP o).take (k + 1) = (fwP o).take k ++ [((k : Int), topL (o.f (k + 1)))] := by
  rw [takeP_succ _ _ (by rw [fwP_len]; exact h)]
  simp [fwP]
def encP (x : Int × Int) : Array Value := #[.int .i64 x.1, .int .i64 x.2]
theorem f_low {o : Ob} (h : o.ok) (i : Nat) (hi : i ≤ o.s.length) : UU ≤ gi (o.f i) 0 := met_ge (f_met h i hi) (by have := h.2.1; have := h.2.2.1; omega) 0 (by decide)
theorem rd_of_blk {W : World} {b : Nat} {t : TypeId} {m : List Int} (h : Blk W b t (ints8 m)) (hm : m.length ≤ 100) : Rd .i64 W (some ⟨b, 0, none⟩) m.length m.length m := by
  have h1 := Blk.rdv h (by simp [ints8]; unfold maxLen; omega)
  rw [show (ints8 m).length = m.length from by simp [ints8]] at h1
  exact h1
def FwI (o : Ob) (J : List (Int × Int) → World → Prop) (W0 : World) (b8 b7 bo bb b4 : Nat) (S P A : Option Addr) (cs cp ca : Nat) (i : Value) (wr : World) : Prop :=
  ∃ k : Nat, k ≤ o.s.length ∧ i = .int .i64 k ∧ J ((fwP o).take k) wr ∧ Blk wr b4 66 (ints8 (o.f k)) ∧ FwD wr b8 b7 bo bb o S P A cs cp ca ∧ W0.heap.size ≤ wr.heap.size
theorem FwD.far {W : World} {b8 b7 bo bb : Nat} {o : Ob} {S P A : Option Addr} {cs cp ca : Nat} (h : FwD W b8 b7 bo bb o S P A cs cp ca) (ho : o.ok) (b : Nat) (hb : W.heap.size ≤ b) : FwA [b] b8 b7 bo bb S P A := by
  obtain ⟨h1, h2, h3, h4, -⟩ := ho
  have l1 := h.e.lt
  have l2 := h.s.lt
  have l3 := h.w.o.blk.lt
  have l4 := h.w.b.lt
  refine ⟨by simp; omega, by simp; omega, by simp; omega, by simp; omega, fun a ha => ?_, fun a ha => ?_, fun a ha => ?_⟩
  · have := h.w.o.s.lt (by have := h.w.o.s.le; omega) a ha
    simp; omega
  · have := h.w.o.p.lt (by have := h.w.o.p.le; omega) a ha
    simp; omega
  · have := h.w.o.a.lt (by have := h.w.o.a.le; omega) a ha
    simp; omega
def FwQ (o : Ob) (J Jx : List (Int × Int) → World → Prop) (e : Ending) (W' : World) : Prop :=
  (∃ v, e = .returned v) ∧ ((∃ ys, ys = fwP o ∧ J ys W') ∨ (∃ pre, (∃ k, k ≤ o.s.length ∧ pre = (fwP o).take k) ∧ Jx pre W'))
set_option maxRecDepth 100000 in
set_option maxHeartbeats 2000000 in
theorem fwd_in (l : Nat) (o : Ob) (ho : o.ok) (b8 b7 bo bb : Nat) (S P A : Option Addr) (cs cp ca : Nat) (bs : List Nat) (W : World) (h : FwD W b8 b7 bo bb o S P A cs cp ca) (ha : FwA bs b8 b7 bo bb S P A) (hbs : ∀ b ∈ bs, b < W.heap.size)
    (J Jx : List (Int × Int) → World → Prop) (hJ : Cl W.heap.size J) (hJx : Cl W.heap.size Jx)
    (hY : ∀ pre x W1, J pre W1 → pre.length < o.s.length → YieldAt Fence.wide 1 Try.prog l (encP x) W1 fun e W' =>
      (e = .returned (.bool true) ∧ J (pre ++ [x]) W' ∧ KpB bs W1 W') ∨ (e = .returned (.bool false) ∧ Jx (pre ++ [x]) W'))
    (h0 : J [] W) :
    CallsIn Fence.wide 2 Try.prog 40 #[.func (.yield l) #[] #[], .pointer (some ⟨b8, 0, none⟩), .pointer (some ⟨b7, 0, none⟩)] W (FwQ o J Jx) := by
  have HO := Lib.hid ho
  have HD := Lib.hid h
  have HA := Lib.hid ha
  have HBS := Lib.hid hbs
  have hls : o.s.length ≤ 6147 := by have := ho.2.1; have := ho.2.2.1; omega
  have hc8 := h.e.cell (j := 0) (v := .int .i64 0) rfl
  clear h ho ha hbs
  refine callsIn_of_wp Try.func40 rfl trivial ?_ rfl
  simp only [Try.ntmps40, List.size_toArray, List.length_cons, List.length_nil, Nat.reduceAdd, Nat.reduceSub, Array.replicate_succ, Array.replicate_zero, List.push_toArray, List.append_toArray, List.nil_append, List.cons_append]
  refine wpIn_scope_straight rfl ?_
  gi_wp2_with fail
  refine ⟨by simp [Fence.wide], ?_⟩
  refine CallsIn.mono (callsIn_wide.2 (none_any _)) ?_
  rintro e w1 ⟨rfl, hB1⟩
  have h66 : Blk (w1.alloc (.cells (ints8 (List.replicate 8 0)).toArray 66)) w1.heap.size 66 (ints8 (List.replicate 8 0)) := Blk.new w1 _ 66 rfl
  have HD1 := Lib.hid (HD.out.below hB1)
  have HZ1 := Lib.hid hB1.size
  have HJ1 := Lib.hid (hJ.call h0 hB1)
  clear hc8
  gi_wp2_with (refine listIn_of rfl nofun fun K hK => wp_strow (cs := ints8 none0) 66 (.tmp 4) (.tmp 8) rfl rfl rfl h66 rfl (i66 rfl) (ints8_one _) ?_
               intro W2 h1 h2
               refine hK _ _ ?_
               clear hK K
               have H1 := Lib.hid h1
               have H2 := Lib.hid h2
               clear h1 h2 h66)
  have hq2 : Below w1.heap.size w1 W2 := ((Below.refl _ w1).alloc (Nat.le_refl _) _).grown H2.out (by simp) (fun k hk => by cases hk; exact Nat.le_refl _)
  have HD2 := Lib.hid (HD1.out.below hq2)
  have HZ2 := Lib.hid (Nat.le_trans HZ1.out hq2.size)
  have HJ2 := Lib.hid (hJ.set (hJ.alloc (.cells (ints8 (List.replicate 8 0)).toArray 66) HJ1.out) H2.out HZ1.out)
  have HB4 : Hid (w1.heap.size ∉ bs) := Lib.hid (fun hm => by have := HBS.out _ hm; have := HZ1.out; omega)
  have HW4 : Hid (W.heap.size ≤ w1.heap.size) := HZ1
  have hc7 := HD2.out.s.cell (j := 0) (v := .pointer (some ⟨bo, 0, none⟩)) rfl
  have HA4 : Hid (FwA [w1.heap.size] b8 b7 bo bb S P A) := Lib.hid (HD.out.far HO.out _ HZ1.out)
  clear hq2 HD1 HZ1 HJ1 H2
  generalize w1.heap.size = b4 at *
  refine wpIn_label ?_
  rename_i K hK
  refine hK _ _ ?_
  clear hK K
  gi_wp2_with fail
  refine ⟨by simp [Fence.wide], ?_⟩
  refine CallsIn.mono (callsIn_wide.2 (steps_any bo o S P A cs cp ca _ HD2.out.w.o)) ?_
  rintro e w3 ⟨rfl, rfl⟩
  clear hc7
  gi_wp2_with fail
  gi_loopw [12] (fun i wr => FwI o J W b8 b7 bo bb b4 S P A cs cp ca i wr) (fun i _ => o.s.length - (intOf i).toNat)
  case atStart => exact ⟨0, Nat.zero_le _, rfl, HJ2.out, H1.out, HD2.out, HZ2.out⟩
  case round =>
    obtain ⟨k, hk, rfl, hJs, hb4, hD, hz⟩ := hrel
    by_cases hlt : k < o.s.length
    · have hs7 := hD.s
      have HDk := Lib.hid hD
      have HJk := Lib.hid hJs
      have HZk := Lib.hid hz
      have HBk := Lib.hid hb4
      have hm8 := Lib.hid (f_met HO.out k (by omega))
      clear hD hJs hz
      gi_wp2_with (first
        | (refine listIn_of rfl nofun fun K hK => wp_ldrow (cs := swC bo bb) 62 (.tmp 2) rfl rfl hs7 _ Try.underlying62 rfl (by rw [info62]; rfl) ?_; refine hK _ _ ?_; clear hK K)
        | (refine listIn_of rfl nofun fun K hK => wp_ldrow (cs := ints8 (o.f k)) 66 (.tmp 4) rfl rfl hb4 _ Try.underlying66 rfl (i66 hm8.out.len) ?_; refine hK _ _ ?_; clear hK K))
      refine ⟨by simp [Fence.wide], ?_⟩
      refine CallsIn.mono (callsIn_wide.2 (forward_any bo bb o S P A cs cp ca k (o.f k) _ _ HDk.out.w HO.out hlt hm8.out (by omega) (by omega))) ?_
      rintro e w4 ⟨rfl, hB4⟩
      have HEQ : Hid (o.fwd k (o.f k) = o.f (k + 1)) := Lib.hid rfl
      rw [HEQ.out]
      have hl8 := (f_met HO.out (k + 1) (by omega)).len
      have hb5 := HBk.out.below hB4
      have HD4 := Lib.hid (HDk.out.below hB4)
      have HJ4 := Lib.hid (hJ.call HJk.out hB4)
      have HZ4 := Lib.hid (Nat.le_trans HZk.out hB4.size)
      clear hs7 hb4
      gi_wp2_with (refine listIn_of rfl nofun fun K hK => wp_strow (cs := ints8 (o.f (k + 1))) 66 (.tmp 4) (.tmp 18) rfl rfl rfl hb5 (by simp [ints8, hl8, hm8.out.len]) (i66 hl8) (ints8_one _) ?_
                   intro W5 h1 h2
                   refine hK _ _ ?_
                   clear hK K
                   have H51 := Lib.hid h1
                   have H52 := Lib.hid h2
                   clear h1 h2 hb5)
      refine ⟨by simp [Fence.wide], ?_⟩
      have hr5 := rd_of_blk H51.out (by omega)
      rw [hl8] at hr5
      have HD5 := Lib.hid (HD4.out.kp (KpB.set H52.out (by simp)) HA4.out)
      have HJ5 := Lib.hid (hJ.set HJ4.out H52.out HW4.out)
      have HZ5 := Lib.hid (Nat.le_trans HZ4.out H52.out.size)
      clear HD4 HJ4 HZ4 H52 HDk HJk HZk HBk hB4
      refine CallsIn.mono (callsIn_wide.2 (max_any _ 8 8 (o.f (k + 1)) _ hr5 (by omega) (f_low HO.out (k + 1) (by omega)))) ?_
      rintro e w6 ⟨rfl, hq6⟩
      have hb6 := Qt.below hq6 W5.heap.size
      have H61 := Lib.hid (H51.out.below hb6)
      have HD6 := Lib.hid (HD5.out.below hb6)
      have hJ6 := hJ.call HJ5.out hb6
      have HZ6 := Lib.hid (Nat.le_trans HZ5.out hb6.size)
      have HPS := Lib.hid (fwP_succ o k hlt)
      obtain ⟨fn, tmps, assign, body, hy, hRD⟩ := hY _ ((k : Int), topL (o.f (k + 1))) _ hJ6 (by rw [List.length_take, fwP_len]; omega)
      unfold encP at hy
      have HRD := Lib.hid hRD
      clear hr5 HD5 HJ5 HZ5 hq6 hb6 hRD hl8 hJ6
      gi_wp2_with fail
      refine HRD.out.mono ?_
      rintro e W7 (⟨rfl, hJ7, hk7⟩ | ⟨rfl, hJx7⟩)
      · gi_wp2
        go_roundw
        case rel => exact ⟨k + 1, by omega, by go_num, by rw [HPS.out]; exact hJ7, H61.out.kp hk7 HB4.out, HD6.out.kp hk7 HA.out, Nat.le_trans HZ6.out hk7.1⟩
        case measure => simp [intOf]; omega
      · gi_wp2
        go_end0
        exact ⟨⟨_, rfl⟩, .inr ⟨_, ⟨k + 1, by omega, HPS.out.symm⟩, hJx7⟩⟩
    · obtain rfl : k = o.s.length := by omega
      gi_wp2
      go_end0
      exact ⟨⟨_, rfl⟩, .inl ⟨_, List.take_of_length_le (Nat.le_of_eq (fwP_len o)), hJs⟩⟩
theorem fwd_seq (o : Ob) (ho : o.ok) (b8 b7 bo bb : Nat) (S P A : Option Addr) (cs cp ca : Nat) (bs : List Nat) (w : World) (h : FwD w b8 b7 bo bb o S P A cs cp ca) (ha : FwA bs b8 b7 bo bb S P A) (hbs : ∀ b ∈ bs, b < w.heap.size) :
    SeqC 2 40 #[.pointer (some ⟨b8, 0, none⟩), .pointer (some ⟨b7, 0, none⟩)] encP (KpB bs) (fun ys => ys = fwP o) (fun pre => ∃ k, k ≤ o.s.length ∧ pre = (fwP o).take k) o.s.length w := fun l J Jx W hB hJ hJx hY h0 =>
  fwd_in l o ho b8 b7 bo bb S P A cs cp ca bs W (h.below hB) ha (fun b hb => Nat.lt_of_lt_of_le (hbs b hb) hB.size) J Jx hJ hJx hY h0
theorem fwd_seq_bad (b8 : Nat) (v7 : Value) (E : Int) (hE : E ≠ 0) (Kp : World → World → Prop) (N : Nat) (w : World) (h : Blk w b8 29 [.int .i64 E]) :
    SeqC (α := Int × Int) 2 40 #[.pointer (some ⟨b8, 0, none⟩), v7] encP Kp (fun ys => ys = []) (fun pre => False) N w := fun l J Jx W hB hJ hJx hY h0 => by
  have hc8 := (h.below hB).cell (j := 0) (v := .int .i64 E) rfl
  have hne : (E != 0) = true := bne_t hE
  refine callsIn_of_wp Try.func40 rfl trivial ?_ rfl
  simp only [Try.ntmps40, List.size_toArray, List.length_cons, List.length_nil, Nat.reduceAdd, Nat.reduceSub, Array.replicate_succ, Array.replicate_zero, List.push_toArray, List.append_toArray, List.nil_append, List.cons_append]
  refine wpIn_scope_straight rfl ?_
  gi_wp2
  rw [Exit.noGoto_ret]
  refine bodyPost_ret (results_none rfl _ _ _) rfl ?_
  first | exact ⟨⟨_, rfl⟩, .inl ⟨_, rfl, h0⟩⟩ | exact ⟨⟨_, rfl⟩, .inl h0⟩
end
section
open Go.RowKit Go.Shelf
attribute [local go_sem] Oper.semAt_some
def lastP (pre : List (Int × Int)) : Int := (pre.getLast?.map (·.2)).getD 0
theorem lastP_snoc (pre : List (Int × Int)) (x : Int × Int) : lastP (pre ++ [x]) = x.2 := by simp [lastP]
theorem lastP_fw {o : Ob} (h : 1 ≤ o.s.length) : lastP (fwP o) = topL (o.f o.s.length) := by
  obtain ⟨n, hn⟩ : ∃ n, o.s.length = n + 1 := ⟨o.s.length - 1, by omega⟩
  have e := fwP_succ o n (by omega)
  have e2 : (fwP o).take (n + 1) = fwP o := List.take_of_length_le (by rw [fwP_len]; omega)
  rw [e2] at e
  rw [e, lastP_snoc, hn]
set_option maxRecDepth 100000 in
set_option maxHeartbeats 2000000 in
theorem greatest_ok (S P A : Option Addr) (cs cp ca : Nat) (o : Ob) (w : World) (h : In3 w o S P A cs cp ca) (ho : o.ok) :
    Calls Try.prog 26 #[.slice S o.s.length cs, .slice P o.p.length cp, .slice A o.a.length ca] w fun e w' => e = .returned (.tuple #[.int .i64 (topL (o.f o.s.length)), .int .i64 0]) ∧ Below w.heap.size w w' := by
  have HI := Lib.hid h
  have HO := Lib.hid ho
  clear h ho
  refine (callsIn_wide (n := 3)).1 ?_
  refine callsIn_of_wp_marks Try.func26 rfl trivial ?_
  simp only [Try.ntmps26, List.size_toArray, List.length_cons, List.length_nil, Nat.reduceAdd, Nat.reduceSub, Array.replicate_succ, Array.replicate_zero, List.push_toArray, List.append_toArray, List.nil_append, List.cons_append]
  gi_wp2_with fail
  refine ⟨by simp [Fence.wide], ?_⟩
  refine CallsIn.mono (callsIn_wide.2 (observed_ok S P A cs cp ca o _ HI.out HO.out)) ?_
  rintro e w1 ⟨bo, bb, rfl, -, hB1⟩
  have h62 : Blk (w1.alloc (.cells #[.pointer none, .slice none 0 0] 62)) w1.heap.size 62 zero62 := Blk.new w1 zero62 62 rfl
  have HB1 := Lib.hid hB1
  clear hB1
  unfold swV
  gi_wp2_with (refine listIn_of rfl nofun fun K hK => wp_strow (cs := swC bo bb) 62 (.tmp 8) (.tmp 18) rfl rfl rfl h62 rfl (by rw [info62]; rfl) (by simp [swC, Value.oneCell']) ?_
               intro W2 h1 h2
               refine hK _ _ ?_
               clear hK K
               have H2 := Lib.hid h2
               clear h1 h2 h62)
  have hbx : Blk (W2.alloc (.cells #[.int .i64 0] 3)) W2.heap.size 3 [.int .i64 0] := Blk.new W2 [.int .i64 0] 3 rfl
  have hq2 : Below w.heap.size w (W2.alloc (.cells #[.int .i64 0] 3)) := ((HB1.out.alloc HB1.out.size _).grown H2.out (by have := HB1.out.size; simp; omega) (fun k hk => by cases hk; exact HB1.out.size)).alloc (by have := HB1.out.size; have := H2.out.size; simp at *; omega) _
  have HX := Lib.hid hbx
  have HB2 := Lib.hid hq2
  have HZ := Lib.hid (show w.heap.size ≤ W2.heap.size by have := HB1.out.size; have := H2.out.size; simp at *; omega)
  clear hbx hq2 H2 HB1
  refine ⟨by simp [Fence.wide], ?_⟩
  refine CallsIn.mono (callsIn_wide.2 (fwd_ok S P A cs cp ca o _ (HI.out.below HB2.out) HO.out)) ?_
  rintro e w3 ⟨b8, b7, bo2, bb2, S2, P2, A2, cs2, cp2, ca2, rfl, hF, hS, hP, hA, hB3⟩
  have hX3 := HX.out.below hB3
  have hFA : FwA [W2.heap.size] b8 b7 bo2 bb2 S2 P2 A2 := by
    have q : ∀ {X : Option Addr}, AtB (W2.alloc (.cells #[.int .i64 0] 3)).heap.size X w3 → ∀ a, X = some a → a.block ∉ [W2.heap.size] := fun hX a ha => by
      have := (hX a ha).1
      simp at this ⊢
      omega
    exact ⟨by simpa using Blk.ne hF.e hX3 (by decide), by simpa using Blk.ne hF.s hX3 (by decide), by simpa using Blk.ne hF.w.o.blk hX3 (by decide), by simpa using Blk.ne hF.w.b hX3 (by decide), q hS, q hP, q hA⟩
  have hlt3 : W2.heap.size < w3.heap.size := hX3.lt
  have hBw : Below w.heap.size w w3 := HB2.out.trans (hB3.mono HB2.out.size)
  have hwle : w.heap.size ≤ W2.heap.size := HZ.out
  have HN1 := Lib.hid (show 1 ≤ o.s.length by have := HO.out.1; have := HO.out.2.2.1; omega)
  clear HX HB2 hB3 hS hP hA HZ HI
  generalize W2.heap.size = b10 at *
  gi_wp2_with fail
  refine' rangeC (w0 := w3) (gf := 40) (lb := #[.pointer (some ⟨b8, 0, none⟩), .pointer (some ⟨b7, 0, none⟩)]) rfl (enters_of Try.func40 (by kernel_rfl) rfl)
    (fwd_seq o HO.out b8 b7 bo2 bb2 S2 P2 A2 cs2 cp2 ca2 [b10] w3 hF hFA (by simpa using hlt3)) KpB.trans (fun W l o o' hl h1 h2 => KpB.put o' h1 h2) (Below.refl _ _) (fun _ => rfl)
    (fun pre W => Blk W b10 3 [.int .i64 (lastP pre)] ∧ Below w.heap.size w W) (fun _ _ _ => False)
    (Cl.and (fun s A B row hs hg hr => (hg.block b10 hs.lt (fun e => by have := hr _ e.symm; omega)).trans hs) (cl_below (Nat.le_refl _) hBw.size)) (fun _ _ _ _ _ hs _ _ => hs) ⟨hX3, hBw⟩ _ ?assign ?body ?done ?stop
  case assign =>
    intro l x W K hK
    unfold encP
    gi_wp2
    exact hK
  case body =>
    rintro l pre x W ⟨h1, hB⟩ -
    have c0 := h1.cell (j := 0) (v := .int .i64 (lastP pre)) rfl
    have f0 := h1.frozen 0
    gi_wp2
    refine ⟨KeepsOthers.setCell _ _ _, KpB.set (grownBy_set _ _ _ _) (by simp), ?_, hB.setCell hwle _⟩
    rw [lastP_snoc]
    exact h1.set 0 _
  case done =>
    rintro D ys W hD rfl ⟨h1, hB⟩ hK
    have c0 := h1.cell (j := 0) (v := .int .i64 (lastP (fwP o))) rfl
    rw [lastP_fw HN1.out] at c0
    gi_wp2
    refine ⟨by simp, .inl ⟨_, _, rfl, run_takeDeferred hK, ?_⟩⟩
    exact ⟨_, results_tmp2 rfl _ _ _, rfl, hB.grown (grownBy_putObj' W D _) hB.size (fun k hk => by cases hk; have := hBw.size; omega)⟩
  case stop =>
    rintro D c pre W _ _ h _
    exact h.elim
set_option maxRecDepth 100000 in
set_option maxHeartbeats 1000000 in
theorem greatest_bad (S P A : Option Addr) (cs cp ca : Nat) (o : Ob) (w : World) (h : In3 w o S P A cs cp ca) (ho : ¬ o.ok) :
    Calls Try.prog 26 #[.slice S o.s.length cs, .slice P o.p.length cp, .slice A o.a.length ca] w fun e w' => e = .returned (.tuple #[.int .i64 0, .int .i64 o.err]) ∧ Below w.heap.size w w' := by
  have HB := Lib.hid (observed_bad S P A cs cp ca o w h ho)
  have hE := Ob.err_cases ho
  generalize o.err = E at *
  have hne : (E != 0) = true := bne_t (by omega)
  clear h ho hE
  go_enter Try.func26, Try.ntmps26
  go_wp2_with fail
  refine HB.out.mono ?_
  rintro e w1 ⟨rfl, hB1⟩
  have h62 : Blk (w1.alloc (.cells #[.pointer none, .slice none 0 0] 62)) w1.heap.size 62 zero62 := Blk.new w1 zero62 62 rfl
  have HB1 := Lib.hid hB1
  clear hB1
  go_wp2_with (refine strow (cs := zero62) rfl 62 (.tmp 8) (.tmp 18) rfl rfl rfl h62 rfl (by rw [info62]; rfl) (by simp [zero62, Value.oneCell']) ?_
               intro W2 h1 h2
               have H2 := Lib.hid h2
               clear h1 h2 h62)
  go_ret2
  exact ⟨rfl, (HB1.out.alloc HB1.out.size _).grown H2.out (by have := HB1.out.size; simp; omega) (fun k hk => by cases hk; exact HB1.out.size)⟩
/-- behind the three last steps only state 0 can be reached -/
theorem tail_dead : ∀ (s : Nat) (b c d : Br), b ∈ brT → c ∈ brT → d ∈ brT → b.bt = tailBit b.fr → c.bt = tailBit c.fr → d.bt = tailBit d.fr → b.tt = c.fr → c.tt = d.fr → d.tt = 0 := by
  intro s b c d hb hc hd
  revert d; revert c; revert b
  decide
end
section
open Go.RowKit
theorem foldM_le (v : Int) : ∀ (l : List Int) (b : Int), l.foldl max b ≤ v ↔ b ≤ v ∧ ∀ x ∈ l, x ≤ v
  | [], b => by simp
  | x :: l, b => by
    rw [List.foldl_cons, foldM_le v l]
    simp only [List.mem_cons, forall_eq_or_imp]
    constructor
    · rintro ⟨h1, h2⟩; exact ⟨by omega, by omega, h2⟩
    · rintro ⟨h1, h2, h3⟩; exact ⟨by omega, h3⟩
theorem topL_le (m : List Int) (v : Int) : topL m ≤ v ↔ UU ≤ v ∧ ∀ x ∈ m, x ≤ v := foldM_le v m UU
theorem brTail : ∀ b ∈ brT, b.bt = tailBit b.fr → b.tt < 4 ∧ (b.fr < 4 → b.tt < 2) ∧ (b.fr < 2 → b.tt = 0) := by decide
theorem allow_tail {o : Ob} {i : Nat} (hi : o.k ≤ i) {b : Br} (h : o.allow i b = true) : b.bt = tailBit b.fr := by
  unfold Ob.allow at h
  rw [Bool.or_eq_true, decide_eq_true_eq, decide_eq_true_eq] at h
  rcases h with h | h
  · omega
  · exact h
theorem dead1 {o : Ob} (h : o.ok) (t : Nat) (ht : t < 8) : (4 ≤ t → gi (o.f (o.k + 1)) t ≤ UU) ∧ (2 ≤ t → gi (o.f (o.k + 2)) t ≤ UU) ∧ (1 ≤ t → gi (o.f (o.k + 3)) t ≤ UU) := by
  have q1 : ∀ t, t < 8 → 4 ≤ t → gi (o.f (o.k + 1)) t ≤ UU := fun t ht h4 => (fwd_le o o.k _ t ht UU).2 ⟨Int.le_refl _, fun b hb e ha _ => by
    have := (brTail b hb (allow_tail (Nat.le_refl _) ha)).1; omega⟩
  have q2 : ∀ t, t < 8 → 2 ≤ t → gi (o.f (o.k + 2)) t ≤ UU := fun t ht h4 => (fwd_le o (o.k + 1) _ t ht UU).2 ⟨Int.le_refl _, fun b hb e ha hu => by
    have h1 := (brTail b hb (allow_tail (Nat.le_succ _) ha)).2.1
    have h2 := (br_bd b hb).1
    by_cases h3 : b.fr < 4
    · have := h1 h3; omega
    · have := q1 b.fr h2 (by omega); omega⟩
  refine ⟨q1 t ht, q2 t ht, fun h4 => (fwd_le o (o.k + 2) _ t ht UU).2 ⟨Int.le_refl _, fun b hb e ha hu => ?_⟩⟩
  have h1 := (brTail b hb (allow_tail (by omega) ha)).2.2
  have h2 := (br_bd b hb).1
  by_cases h3 : b.fr < 2
  · have := h1 h3; omega
  · have := q2 b.fr h2 (by omega); omega
theorem topL_end {o : Ob} (h : o.ok) : topL (o.f o.s.length) = gi (o.f o.s.length) 0 := by
  have hn : o.s.length = o.k + 3 := h.2.2.1
  have hm := f_met h o.s.length (Nat.le_refl _)
  have h0 := f_low h o.s.length (Nat.le_refl _)
  refine eq_of_le fun v => ?_
  rw [topL_le]
  constructor
  · rintro ⟨-, h2⟩
    exact h2 _ (by unfold gi; rw [List.getD_eq_getElem?_getD, List.getElem?_eq_getElem (by rw [hm.len]; decide)]; exact List.getElem_mem _)
  · intro h2
    refine ⟨by omega, fun x hx => ?_⟩
    obtain ⟨t, ht, rfl⟩ := List.getElem_of_mem hx
    have ht8 : t < 8 := by rw [hm.len] at ht; exact ht
    have e : gi (o.f o.s.length) t = (o.f o.s.length)[t] := gi_eq _ _ ht
    rw [← e]
    by_cases h3 : t = 0
    · subst h3; exact h2
    · have := (dead1 h t ht8).2.2 (by omega)
      rw [hn] at *
      omega
theorem wordC_get (bs : List Bool) (j : Nat) : (wordC bs)[j]? = if j < bs.length then bs[j]? else if j < 2 * bs.length then (parL s0 bs)[j - bs.length]? else if j < 2 * bs.length + 3 then [tu (fin bs) 0, tu (fin bs) 1, tu (fin bs) 2][j - 2 * bs.length]? else [tz (fin bs) 0, tz (fin bs) 1, tz (fin bs) 2][j - (2 * bs.length + 3)]? := by
  have hp := parL_len bs s0
  unfold wordC
  rw [List.getElem?_append, List.getElem?_append, List.getElem?_append]
  simp only [List.length_append, hp, List.length_cons, List.length_nil]
  by_cases h1 : j < bs.length
  · rw [if_pos h1, if_pos (by omega), if_pos (by omega), if_pos (by omega)]
  · by_cases h2 : j < 2 * bs.length
    · rw [if_neg h1, if_pos h2, if_pos (by omega), if_pos (by omega), if_neg h1]
    · by_cases h3 : j < 2 * bs.length + 3
      · rw [if_neg h1, if_neg h2, if_pos h3, if_pos (by omega), if_neg (by omega), Nat.two_mul, if_neg h1]
      · rw [if_neg h1, if_neg h2, if_neg h3, if_neg (by omega), Nat.two_mul, if_neg h1]
theorem inW_get (bs : List Bool) (j : Nat) : (inW bs)[j]? = if j < bs.length then bs[j]? else [tu (fin bs) 0, tu (fin bs) 1, tu (fin bs) 2][j - bs.length]? := List.getElem?_append
theorem outW_get (bs : List Bool) (j : Nat) : (outW bs)[j]? = if j < bs.length then (parL s0 bs)[j]? else [tz (fin bs) 0, tz (fin bs) 1, tz (fin bs) 2][j - bs.length]? := by
  have := parL_len bs s0
  unfold outW
  rw [List.getElem?_append, this]
theorem wc_in (bs : List Bool) (j : Nat) (h : j < bs.length) : (wordC bs)[j]? = (inW bs)[j]? := by rw [wordC_get, inW_get, if_pos h, if_pos h]
theorem wc_out (bs : List Bool) (j : Nat) (h : j < bs.length) : (wordC bs)[bs.length + j]? = (outW bs)[j]? := by
  rw [wordC_get, outW_get, if_neg (by omega), if_pos (by omega), if_pos h]
  congr 1; omega
theorem wc_int (bs : List Bool) (q : Nat) (h : q < 3) : (wordC bs)[2 * bs.length + q]? = (inW bs)[bs.length + q]? := by
  rw [wordC_get, inW_get, if_neg (by omega), if_neg (by omega), if_pos (by omega), if_neg (by omega)]
  congr 1; omega
theorem wc_outt (bs : List Bool) (q : Nat) (h : q < 3) : (wordC bs)[2 * bs.length + 3 + q]? = (outW bs)[bs.length + q]? := by
  rw [wordC_get, outW_get, if_neg (by omega), if_neg (by omega), if_neg (by omega), if_neg (by omega)]
  congr 1; omega
theorem gi_of {bs cs : List Bool} {i j : Nat} (h : bs[i]? = cs[j]?) (hj : j < cs.length) : gi (bs.map ib) i = ((bq (cs.getD j false) : Nat) : Int) := by
  have e : bs[i]? = some cs[j] := by rw [h]; exact List.getElem?_eq_getElem hj
  unfold gi
  rw [List.getD_eq_getElem?_getD, List.getElem?_map, e, bq_ib]
  simp [List.getD, hj]
set_option maxRecDepth 100000 in
set_option maxHeartbeats 600000 in
theorem rword_bad (A : Option Addr) (n c : Nat) (xs : List Int) (w : World) (h : Rd .u8 w A n c xs) (h0 : ∀ x ∈ xs, 0 ≤ x) (hn : n ≤ 100000) (hv : ValidB xs = false) :
    Calls Try.prog 44 #[.slice A n c] w fun e w' => e = .returned (.tuple #[.slice none 0 0, .int .i64 3]) ∧ Below w.heap.size w w' := by
  have HB := Lib.hid (rtencode_bad A n c xs w h h0 hn hv)
  clear h h0 hv
  go_enter Try.func44, Try.ntmps44
  go_wp2_with fail
  refine HB.out.mono ?_
  rintro e w1 ⟨rfl, hB⟩
  go_wp2
  go_ret2
  exact ⟨rfl, hB⟩
def Ck5 (S A B P : Option Addr) (i1 i2 i3 i4 i5 : Nat) (v1 v2 v3 v4 v5 : Value) (W : World) : Prop := W.cell? (adr S i1) = some v1 ∧ W.cell? (adr A i2) = some v2 ∧ W.cell? (adr B i3) = some v3 ∧ W.cell? (adr P i4) = some v4 ∧ W.cell? (adr B i5) = some v5
def Ck4 (S B P : Option Addr) (i1 i3 i4 i5 : Nat) (v1 v3 v4 v5 : Value) (W : World) : Prop := W.cell? (adr S i1) = some v1 ∧ W.cell? (adr B i3) = some v3 ∧ W.cell? (adr P i4) = some v4 ∧ W.cell? (adr B i5) = some v5
def MrI (o : Ob) (bs : List Bool) (w0 : World) (a n : Nat) (v i : Value) (wr : World) : Prop := ∃ j : Nat, j ≤ n ∧ i = .int .i64 j ∧ v = .int .i64 (o.mt bs (a + j)) ∧ Below w0.heap.size w0 wr
set_option maxRecDepth 100000 in
set_option maxHeartbeats 4000000 in
theorem rmetric_ok (S P A C : Option Addr) (cs cp ca cb : Nat) (o : Ob) (bs : List Bool) (w : World) (h : In3 w o S P A cs cp ca) (hb : Rd .u8 w C o.a.length cb (bs.map ib)) (hl : bs.length = o.a.length) (ho : o.ok) :
    Calls Try.prog 25 #[.slice S o.s.length cs, .slice P o.p.length cp, .slice A o.a.length ca, .slice C o.a.length cb] w fun e w' => e = .returned (.tuple #[.int .i64 (o.mt bs o.s.length), .int .i64 0]) ∧ Below w.heap.size w w' := by
  have e1 : ((o.a.length : Int) != (o.a.length : Int)) = false := bne_f rfl
  have HO := Lib.hid ho
  have hn2 : o.a.length ≤ 6144 := ho.2.1
  have hn1 : 1 ≤ o.a.length := ho.1
  have HLS := Lib.hid ho.2.2.1
  have HLP := Lib.hid ho.2.2.2.1
  have HI := Lib.hid h
  have HX := Lib.hid hb
  have HL := Lib.hid hl
  have HWR := Lib.hid (wrong_any S P A cs cp ca o w h)
  clear h hb hl ho
  go_enter Try.func25, Try.ntmps25
  go_wp2_with fail
  refine HWR.out.mono ?_
  rintro e w1 ⟨rfl, hB1⟩
  rw [Ob.err_ok HO.out]
  have HB1 := Lib.hid hB1
  clear hB1 HWR
  go_wp2_with fail
  refine (rword_any C o.a.length cb bs _ (Rdv.below HX.out HB1.out) (by omega) (by omega)).mono ?_
  rintro e w2 ⟨B, d, rfl, hW, hB2⟩
  have HW := Lib.hid (Own.rd hW)
  have HB2 := Lib.hid (HB1.out.trans (hB2.mono HB1.out.size))
  have HI2 := Lib.hid ((HI.out.below HB1.out).below hB2)
  clear hW hB2 HB1 HI HX
  obtain ⟨k, hk⟩ : ∃ k, k = o.a.length := ⟨_, rfl⟩
  have HK := Lib.hid hk
  rw [← hk] at HW
  rw [← hk] at hn1 hn2
  have HAR : Hid (Rd .i64 w2 A k ca o.a) := Lib.hid (by rw [HK.out]; exact HI2.out.a)
  have HLK : Hid (bs.length = k) := Lib.hid (by rw [HK.out]; exact HL.out)
  have HSL : Hid (o.s.length = k + 3) := Lib.hid (by rw [HK.out]; exact HLS.out)
  have HPL : Hid (o.p.length = k + 3) := Lib.hid (by rw [HK.out]; exact HLP.out)
  rw [← hk]
  rw [HSL.out, HPL.out]
  have HSR : Hid (Rd .i64 w2 S (k + 3) cs o.s) := Lib.hid (by have h := HI2.out.s; rwa [HSL.out] at h)
  have HPR : Hid (Rd .i64 w2 P (k + 3) cp o.p) := Lib.hid (by have h := HI2.out.p; rwa [HPL.out] at h)
  clear hk HI2
  go_wp2_with fail
  go_loopw [14, 15] (fun v i wr => MrI o bs w2 0 k v i wr) (fun _ i _ => k - (intOf i).toNat)
  case atStart => exact ⟨0, Nat.zero_le _, rfl, rfl, Below.refl _ _⟩
  case round =>
    obtain ⟨j, hj, rfl, rfl, hB⟩ := hrel
    rw [Nat.zero_add]
    by_cases hlt : j < k
    · have hm := mt_bd HO.out bs j (by rw [HSL.out]; omega)
      have hm' := mt_bd HO.out bs (j + 1) (by rw [HSL.out]; omega)
      have hx := o.x_bd HO.out j (by rw [HSL.out]; omega)
      have hp := o.p_bd HO.out j (by rw [HSL.out]; omega)
      have hxe : o.x j = gi o.s j + gi o.a j := by unfold Ob.x; rw [if_pos (by show j < o.a.length; rw [← HK.out]; exact hlt)]
      have HMS : Hid (o.mt bs (j + 1) = o.mt bs j + (o.x j * (1 - 2 * ((bq ((inW bs).getD j false) : Nat) : Int)) + gi o.p j * (1 - 2 * ((bq ((outW bs).getD j false) : Nat) : Int)))) := Lib.hid rfl
      have hrs := Rdv.below HSR.out hB
      have hra := Rdv.below HAR.out hB
      have hrp := Rdv.below HPR.out hB
      have hrb := Rdv.below HW.out hB
      have c1 := Rd.cell hrs (j := j) (by omega)
      have c2 := Rd.cell hra (j := j) (by omega)
      have c3 := Rd.cell hrb (j := j) (by omega)
      have c4 := Rd.cell hrp (j := j) (by omega)
      have c5 := Rd.cell hrb (j := k + j) (by omega)
      rw [gi_of (wc_in bs j (by rw [HLK.out]; exact hlt)) (by rw [inW_len, HLK.out]; omega)] at c3
      have hwo := wc_out bs j (by rw [HLK.out]; exact hlt)
      rw [HLK.out] at hwo
      rw [gi_of hwo (by rw [outW_len, HLK.out]; omega)] at c5
      have i1 := fun W => Rdv.ix HSR.out el22 (j := j) (by omega) .i64 W
      have i2 := fun W => Rdv.ix HAR.out el22 (j := j) (by omega) .i64 W
      have i3 := fun W => Rdv.ix HW.out el26 (j := j) (by omega) .i64 W
      have i4 := fun W => Rdv.ix HPR.out el22 (j := j) (by omega) .i64 W
      have i5 := fun W => Rdv.ixI HW.out el26 (j := k + j) (by omega) .i64 ((k : Int) + (j : Int)) (by push_cast; rfl) W
      have t1b := bq_lt ((inW bs).getD j false)
      have t2b := bq_lt ((outW bs).getD j false)
      have hgs : -127 ≤ gi o.s j ∧ gi o.s j ≤ 127 := HO.out.2.2.2.2.1 _ (by unfold gi; rw [List.getD_eq_getElem?_getD, List.getElem?_eq_getElem (by rw [HSL.out]; omega)]; exact List.getElem_mem _)
      rw [hxe] at hx HMS
      rw [HMS.out] at hm'
      have HB := Lib.hid hB
      clear hrs hra hrp hrb hwo hB hxe
      generalize bq ((inW bs).getD j false) = t1 at *
      generalize bq ((outW bs).getD j false) = t2 at *
      generalize gi o.s j = sv at *
      generalize gi o.a j = av at *
      generalize gi o.p j = pv at *
      have HMS := Lib.hid HMS.out
      generalize o.mt bs j = m at *
      have k1 : (sv + av) * (1 - 2 * (t1 : Int)) = sv + av ∨ (sv + av) * (1 - 2 * (t1 : Int)) = -(sv + av) := mul_sgn _ _ t1b
      have k2 : pv * (1 - 2 * (t2 : Int)) = pv ∨ pv * (1 - 2 * (t2 : Int)) = -pv := mul_sgn _ _ t2b
      have v0 : IntKind.i64.wrap (sv + av) = sv + av := IntWalk.i64_in _ (by omega)
      have v1 : IntKind.i64.wrap ((sv + av) * (1 - 2 * (t1 : Int))) = (sv + av) * (1 - 2 * (t1 : Int)) := IntWalk.i64_in _ (by omega)
      have v2 : IntKind.i64.wrap (m + (sv + av) * (1 - 2 * (t1 : Int))) = m + (sv + av) * (1 - 2 * (t1 : Int)) := IntWalk.i64_in _ (by omega)
      have v3 : IntKind.i64.wrap (pv * (1 - 2 * (t2 : Int))) = pv * (1 - 2 * (t2 : Int)) := IntWalk.i64_in _ (by omega)
      have v4 : IntKind.i64.wrap (m + (sv + av) * (1 - 2 * (t1 : Int)) + pv * (1 - 2 * (t2 : Int))) = m + (sv + av) * (1 - 2 * (t1 : Int)) + pv * (1 - 2 * (t2 : Int)) := IntWalk.i64_in _ (by omega)
      have v5 : IntKind.i64.wrap (t1 : Int) = (t1 : Int) := IntWalk.i64_in _ (by omega)
      have v6 : IntKind.i64.wrap (t2 : Int) = (t2 : Int) := IntWalk.i64_in _ (by omega)
      have v7 : IntKind.i64.wrap ((k : Int) + (j : Int)) = (k : Int) + (j : Int) := IntWalk.i64_in _ (by omega)
      clear hm hm' hx hp hgs k1 k2
      go_wp2_with fail
      have HS0 : Hid (Ck5 S A B P j j j j (k + j) (.int .i64 sv) (.int .i64 av) (.int .u8 (t1 : Int)) (.int .i64 pv) (.int .u8 (t2 : Int)) wr.drew) := Lib.hid ⟨c1, c2, c3, c4, c5⟩
      clear c1 c2 c3 c4 c5
      refine P_start (Ck5 S A B P j j j j (k + j) (.int .i64 sv) (.int .i64 av) (.int .u8 (t1 : Int)) (.int .i64 pv) (.int .u8 (t2 : Int))) 32 33 #[false, false, false, false, false, false, false, false, false, false, false, false, false, false, false, false, false, false, false, false, false, false, false, false, false, false, false, false, false, false, false, false, false] (by kernel_rfl) (by kernel_rfl) (by kernel_rfl) ?_
      refine P_takeW 0 43 (.int .i64 m) #[true, false, false, false, false, false, false, false, false, false, false, false, false, false, false, false, false, false, false, false, false, false, false, false, false, false, false, false, false, false, false, false, false] rfl rfl (by kernel_rfl) (by kernel_rfl) (by kernel_rfl) (by kernel_rfl) (by decide) (fun _ _ _ h => h) (Or.inl ⟨by rfl, fun W hS => by go_simp⟩) HS0.out ?_
      simp only [List.setIfInBounds_toArray, List.set_cons_zero, List.set_cons_succ]
      refine P_takeW 1 44 (.slice S (k + 3) cs) #[true, true, false, false, false, false, false, false, false, false, false, false, false, false, false, false, false, false, false, false, false, false, false, false, false, false, false, false, false, false, false, false, false] rfl rfl (by kernel_rfl) (by kernel_rfl) (by kernel_rfl) (by kernel_rfl) (by decide) (fun _ _ _ h => h) (Or.inl ⟨by rfl, fun W hS => by go_simp⟩) HS0.out ?_
      simp only [List.setIfInBounds_toArray, List.set_cons_zero, List.set_cons_succ]
      refine P_takeW 2 45 (.int .i64 (j : Int)) #[true, true, true, false, false, false, false, false, false, false, false, false, false, false, false, false, false, false, false, false, false, false, false, false, false, false, false, false, false, false, false, false, false] rfl rfl (by kernel_rfl) (by kernel_rfl) (by kernel_rfl) (by kernel_rfl) (by decide) (fun _ _ _ h => h) (Or.inl ⟨by rfl, fun W hS => by go_simp⟩) HS0.out ?_
      simp only [List.setIfInBounds_toArray, List.set_cons_zero, List.set_cons_succ]
      refine P_takeW 3 46 (.pointer (some (adr S j))) #[true, true, true, true, false, false, false, false, false, false, false, false, false, false, false, false, false, false, false, false, false, false, false, false, false, false, false, false, false, false, false, false, false] rfl rfl (by kernel_rfl) (by kernel_rfl) (by kernel_rfl) (by kernel_rfl) (by decide) (fun _ _ _ h => h) (Or.inl ⟨by rfl, fun W hS => by go_simp⟩) HS0.out ?_
      simp only [List.setIfInBounds_toArray, List.set_cons_zero, List.set_cons_succ]
      refine P_take 4 47 (.int .i64 sv) #[true, true, true, true, true, false, false, false, false, false, false, false, false, false, false, false, false, false, false, false, false, false, false, false, false, false, false, false, false, false, false, false, false] rfl rfl (by kernel_rfl) (by kernel_rfl) (by kernel_rfl) (by kernel_rfl) (by kernel_rfl) (by kernel_rfl) (by decide) (fun _ _ _ h => h) (Or.inl ⟨by rfl, fun W hS => by obtain ⟨s1, s2, s3, s4, s5⟩ := hS; go_simp⟩) HS0.out ?_
      simp only [List.setIfInBounds_toArray, List.set_cons_zero, List.set_cons_succ]
      refine P_takeW 5 48 (.slice A k ca) #[true, true, true, true, true, true, false, false, false, false, false, false, false, false, false, false, false, false, false, false, false, false, false, false, false, false, false, false, false, false, false, false, false] rfl rfl (by kernel_rfl) (by kernel_rfl) (by kernel_rfl) (by kernel_rfl) (by decide) (fun _ _ _ h => h) (Or.inl ⟨by rfl, fun W hS => by go_simp⟩) HS0.out ?_
      simp only [List.setIfInBounds_toArray, List.set_cons_zero, List.set_cons_succ]
      refine P_takeW 6 49 (.int .i64 (j : Int)) #[true, true, true, true, true, true, true, false, false, false, false, false, false, false, false, false, false, false, false, false, false, false, false, false, false, false, false, false, false, false, false, false, false] rfl rfl (by kernel_rfl) (by kernel_rfl) (by kernel_rfl) (by kernel_rfl) (by decide) (fun _ _ _ h => h) (Or.inl ⟨by rfl, fun W hS => by go_simp⟩) HS0.out ?_
      simp only [List.setIfInBounds_toArray, List.set_cons_zero, List.set_cons_succ]
      refine P_takeW 7 50 (.pointer (some (adr A j))) #[true, true, true, true, true, true, true, true, false, false, false, false, false, false, false, false, false, false, false, false, false, false, false, false, false, false, false, false, false, false, false, false, false] rfl rfl (by kernel_rfl) (by kernel_rfl) (by kernel_rfl) (by kernel_rfl) (by decide) (fun _ _ _ h => h) (Or.inl ⟨by rfl, fun W hS => by go_simp⟩) HS0.out ?_
      simp only [List.setIfInBounds_toArray, List.set_cons_zero, List.set_cons_succ]
      refine P_take 8 51 (.int .i64 av) #[true, true, true, true, true, true, true, true, true, false, false, false, false, false, false, false, false, false, false, false, false, false, false, false, false, false, false, false, false, false, false, false, false] rfl rfl (by kernel_rfl) (by kernel_rfl) (by kernel_rfl) (by kernel_rfl) (by kernel_rfl) (by kernel_rfl) (by decide) (fun _ _ _ h => h) (Or.inl ⟨by rfl, fun W hS => by obtain ⟨s1, s2, s3, s4, s5⟩ := hS; go_simp⟩) HS0.out ?_
      simp only [List.setIfInBounds_toArray, List.set_cons_zero, List.set_cons_succ]
      refine P_takeW 9 52 (.int .i64 (sv + av)) #[true, true, true, true, true, true, true, true, true, true, false, false, false, false, false, false, false, false, false, false, false, false, false, false, false, false, false, false, false, false, false, false, false] rfl rfl (by kernel_rfl) (by kernel_rfl) (by kernel_rfl) (by kernel_rfl) (by decide) (fun _ _ _ h => h) (Or.inl ⟨by rfl, fun W hS => by go_simp⟩) HS0.out ?_
      simp only [List.setIfInBounds_toArray, List.set_cons_zero, List.set_cons_succ]
      refine P_takeW 10 53 (.slice B (k + k + 3 + 3) d) #[true, true, true, true, true, true, true, true, true, true, true, false, false, false, false, false, false, false, false, false, false, false, false, false, false, false, false, false, false, false, false, false, false] rfl rfl (by kernel_rfl) (by kernel_rfl) (by kernel_rfl) (by kernel_rfl) (by decide) (fun _ _ _ h => h) (Or.inl ⟨by rfl, fun W hS => by go_simp⟩) HS0.out ?_
      simp only [List.setIfInBounds_toArray, List.set_cons_zero, List.set_cons_succ]
      refine P_takeW 11 54 (.int .i64 (j : Int)) #[true, true, true, true, true, true, true, true, true, true, true, true, false, false, false, false, false, false, false, false, false, false, false, false, false, false, false, false, false, false, false, false, false] rfl rfl (by kernel_rfl) (by kernel_rfl) (by kernel_rfl) (by kernel_rfl) (by decide) (fun _ _ _ h => h) (Or.inl ⟨by rfl, fun W hS => by go_simp⟩) HS0.out ?_
      simp only [List.setIfInBounds_toArray, List.set_cons_zero, List.set_cons_succ]
      refine P_takeW 12 55 (.pointer (some (adr B j))) #[true, true, true, true, true, true, true, true, true, true, true, true, true, false, false, false, false, false, false, false, false, false, false, false, false, false, false, false, false, false, false, false, false] rfl rfl (by kernel_rfl) (by kernel_rfl) (by kernel_rfl) (by kernel_rfl) (by decide) (fun _ _ _ h => h) (Or.inl ⟨by rfl, fun W hS => by go_simp⟩) HS0.out ?_
      simp only [List.setIfInBounds_toArray, List.set_cons_zero, List.set_cons_succ]
      refine P_take 13 56 (.int .u8 (t1 : Int)) #[true, true, true, true, true, true, true, true, true, true, true, true, true, true, false, false, false, false, false, false, false, false, false, false, false, false, false, false, false, false, false, false, false] rfl rfl (by kernel_rfl) (by kernel_rfl) (by kernel_rfl) (by kernel_rfl) (by kernel_rfl) (by kernel_rfl) (by decide) (fun _ _ _ h => h) (Or.inl ⟨by rfl, fun W hS => by obtain ⟨s1, s2, s3, s4, s5⟩ := hS; go_simp⟩) HS0.out ?_
      simp only [List.setIfInBounds_toArray, List.set_cons_zero, List.set_cons_succ]
      refine P_takeW 14 57 (.int .i64 (t1 : Int)) #[true, true, true, true, true, true, true, true, true, true, true, true, true, true, true, false, false, false, false, false, false, false, false, false, false, false, false, false, false, false, false, false, false] rfl rfl (by kernel_rfl) (by kernel_rfl) (by kernel_rfl) (by kernel_rfl) (by decide) (fun _ _ _ h => h) (Or.inl ⟨by rfl, fun W hS => by go_simp⟩) HS0.out ?_
      simp only [List.setIfInBounds_toArray, List.set_cons_zero, List.set_cons_succ]
      refine P_takeW 18 61 (.slice P (k + 3) cp) #[true, true, true, true, true, true, true, true, true, true, true, true, true, true, true, false, false, false, true, false, false, false, false, false, false, false, false, false, false, false, false, false, false] rfl rfl (by kernel_rfl) (by kernel_rfl) (by kernel_rfl) (by kernel_rfl) (by decide) (fun _ _ _ h => h) (Or.inl ⟨by rfl, fun W hS => by go_simp⟩) HS0.out ?_
      simp only [List.setIfInBounds_toArray, List.set_cons_zero, List.set_cons_succ]
      refine P_takeW 19 62 (.int .i64 (j : Int)) #[true, true, true, true, true, true, true, true, true, true, true, true, true, true, true, false, false, false, true, true, false, false, false, false, false, false, false, false, false, false, false, false, false] rfl rfl (by kernel_rfl) (by kernel_rfl) (by kernel_rfl) (by kernel_rfl) (by decide) (fun _ _ _ h => h) (Or.inl ⟨by rfl, fun W hS => by go_simp⟩) HS0.out ?_
      simp only [List.setIfInBounds_toArray, List.set_cons_zero, List.set_cons_succ]
      refine P_takeW 20 63 (.pointer (some (adr P j))) #[true, true, true, true, true, true, true, true, true, true, true, true, true, true, true, false, false, false, true, true, true, false, false, false, false, false, false, false, false, false, false, false, false] rfl rfl (by kernel_rfl) (by kernel_rfl) (by kernel_rfl) (by kernel_rfl) (by decide) (fun _ _ _ h => h) (Or.inl ⟨by rfl, fun W hS => by go_simp⟩) HS0.out ?_
      simp only [List.setIfInBounds_toArray, List.set_cons_zero, List.set_cons_succ]
      refine P_take 21 64 (.int .i64 pv) #[true, true, true, true, true, true, true, true, true, true, true, true, true, true, true, false, false, false, true, true, true, true, false, false, false, false, false, false, false, false, false, false, false] rfl rfl (by kernel_rfl) (by kernel_rfl) (by kernel_rfl) (by kernel_rfl) (by kernel_rfl) (by kernel_rfl) (by decide) (fun _ _ _ h => h) (Or.inl ⟨by rfl, fun W hS => by obtain ⟨s1, s2, s3, s4, s5⟩ := hS; go_simp⟩) HS0.out ?_
      simp only [List.setIfInBounds_toArray, List.set_cons_zero, List.set_cons_succ]
      refine P_takeW 22 65 (.slice B (k + k + 3 + 3) d) #[true, true, true, true, true, true, true, true, true, true, true, true, true, true, true, false, false, false, true, true, true, true, true, false, false, false, false, false, false, false, false, false, false] rfl rfl (by kernel_rfl) (by kernel_rfl) (by kernel_rfl) (by kernel_rfl) (by decide) (fun _ _ _ h => h) (Or.inl ⟨by rfl, fun W hS => by go_simp⟩) HS0.out ?_
      simp only [List.setIfInBounds_toArray, List.set_cons_zero, List.set_cons_succ]
      refine P_takeW 23 66 (.int .i64 (k : Int)) #[true, true, true, true, true, true, true, true, true, true, true, true, true, true, true, false, false, false, true, true, true, true, true, true, false, false, false, false, false, false, false, false, false] rfl rfl (by kernel_rfl) (by kernel_rfl) (by kernel_rfl) (by kernel_rfl) (by decide) (fun _ _ _ h => h) (Or.inl ⟨by rfl, fun W hS => by go_simp⟩) HS0.out ?_
      simp only [List.setIfInBounds_toArray, List.set_cons_zero, List.set_cons_succ]
      refine P_takeW 24 67 (.int .i64 (j : Int)) #[true, true, true, true, true, true, true, true, true, true, true, true, true, true, true, false, false, false, true, true, true, true, true, true, true, false, false, false, false, false, false, false, false] rfl rfl (by kernel_rfl) (by kernel_rfl) (by kernel_rfl) (by kernel_rfl) (by decide) (fun _ _ _ h => h) (Or.inl ⟨by rfl, fun W hS => by go_simp⟩) HS0.out ?_
      simp only [List.setIfInBounds_toArray, List.set_cons_zero, List.set_cons_succ]
      refine P_takeW 25 68 (.int .i64 ((k : Int) + (j : Int))) #[true, true, true, true, true, true, true, true, true, true, true, true, true, true, true, false, false, false, true, true, true, true, true, true, true, true, false, false, false, false, false, false, false] rfl rfl (by kernel_rfl) (by kernel_rfl) (by kernel_rfl) (by kernel_rfl) (by decide) (fun _ _ _ h => h) (Or.inl ⟨by rfl, fun W hS => by go_simp⟩) HS0.out ?_
      simp only [List.setIfInBounds_toArray, List.set_cons_zero, List.set_cons_succ]
      refine P_takeW 26 69 (.pointer (some (adr B (k + j)))) #[true, true, true, true, true, true, true, true, true, true, true, true, true, true, true, false, false, false, true, true, true, true, true, true, true, true, true, false, false, false, false, false, false] rfl rfl (by kernel_rfl) (by kernel_rfl) (by kernel_rfl) (by kernel_rfl) (by decide) (fun _ _ _ h => h) (Or.inl ⟨by rfl, fun W hS => by go_simp⟩) HS0.out ?_
      simp only [List.setIfInBounds_toArray, List.set_cons_zero, List.set_cons_succ]
      refine P_take 27 70 (.int .u8 (t2 : Int)) #[true, true, true, true, true, true, true, true, true, true, true, true, true, true, true, false, false, false, true, true, true, true, true, true, true, true, true, true, false, false, false, false, false] rfl rfl (by kernel_rfl) (by kernel_rfl) (by kernel_rfl) (by kernel_rfl) (by kernel_rfl) (by kernel_rfl) (by decide) (fun _ _ _ h => h) (Or.inl ⟨by rfl, fun W hS => by obtain ⟨s1, s2, s3, s4, s5⟩ := hS; go_simp⟩) HS0.out ?_
      simp only [List.setIfInBounds_toArray, List.set_cons_zero, List.set_cons_succ]
      refine P_takeW 28 71 (.int .i64 (t2 : Int)) #[true, true, true, true, true, true, true, true, true, true, true, true, true, true, true, false, false, false, true, true, true, true, true, true, true, true, true, true, true, false, false, false, false] rfl rfl (by kernel_rfl) (by kernel_rfl) (by kernel_rfl) (by kernel_rfl) (by decide) (fun _ _ _ h => h) (Or.inl ⟨by rfl, fun W hS => by go_simp⟩) HS0.out ?_
      simp only [List.setIfInBounds_toArray, List.set_cons_zero, List.set_cons_succ]
      refine P_oneS 15 #[true, true, true, true, true, true, true, true, true, true, true, true, true, true, true, true, false, false, true, true, true, true, true, true, true, true, true, true, true, false, false, false, false] rfl (by kernel_rfl) (by kernel_rfl) rfl (fun K hK => ?_)
      go_simp
      refine (sign_any t1 (by omega) _).mono ?_
      rintro e wq ⟨rfl, rfl⟩
      refine hK _ _ HS0.out ?_
      clear hK K
      refine P_takeW 16 59 (.int .i64 ((sv + av) * (1 - 2 * (t1 : Int)))) #[true, true, true, true, true, true, true, true, true, true, true, true, true, true, true, true, true, false, true, true, true, true, true, true, true, true, true, true, true, false, false, false, false] rfl rfl (by kernel_rfl) (by kernel_rfl) (by kernel_rfl) (by kernel_rfl) (by decide) (fun _ _ _ h => h) (Or.inl ⟨by rfl, fun W hS => by go_simp⟩) HS0.out ?_
      simp only [List.setIfInBounds_toArray, List.set_cons_zero, List.set_cons_succ]
      refine P_takeW 17 60 (.int .i64 (m + (sv + av) * (1 - 2 * (t1 : Int)))) #[true, true, true, true, true, true, true, true, true, true, true, true, true, true, true, true, true, true, true, true, true, true, true, true, true, true, true, true, true, false, false, false, false] rfl rfl (by kernel_rfl) (by kernel_rfl) (by kernel_rfl) (by kernel_rfl) (by decide) (fun _ _ _ h => h) (Or.inl ⟨by rfl, fun W hS => by go_simp⟩) HS0.out ?_
      simp only [List.setIfInBounds_toArray, List.set_cons_zero, List.set_cons_succ]
      refine P_oneS 29 #[true, true, true, true, true, true, true, true, true, true, true, true, true, true, true, true, true, true, true, true, true, true, true, true, true, true, true, true, true, true, false, false, false] rfl (by kernel_rfl) (by kernel_rfl) rfl (fun K hK => ?_)
      go_simp
      refine (sign_any t2 (by omega) _).mono ?_
      rintro e wq ⟨rfl, rfl⟩
      refine hK _ _ HS0.out ?_
      clear hK K
      refine P_takeW 30 73 (.int .i64 (pv * (1 - 2 * (t2 : Int)))) #[true, true, true, true, true, true, true, true, true, true, true, true, true, true, true, true, true, true, true, true, true, true, true, true, true, true, true, true, true, true, true, false, false] rfl rfl (by kernel_rfl) (by kernel_rfl) (by kernel_rfl) (by kernel_rfl) (by decide) (fun _ _ _ h => h) (Or.inl ⟨by rfl, fun W hS => by go_simp⟩) HS0.out ?_
      simp only [List.setIfInBounds_toArray, List.set_cons_zero, List.set_cons_succ]
      refine P_takeW 31 74 (.int .i64 (m + (sv + av) * (1 - 2 * (t1 : Int)) + pv * (1 - 2 * (t2 : Int)))) #[true, true, true, true, true, true, true, true, true, true, true, true, true, true, true, true, true, true, true, true, true, true, true, true, true, true, true, true, true, true, true, true, false] rfl rfl (by kernel_rfl) (by kernel_rfl) (by kernel_rfl) (by kernel_rfl) (by decide) (fun _ _ _ h => h) (Or.inl ⟨by rfl, fun W hS => by go_simp⟩) HS0.out ?_
      simp only [List.setIfInBounds_toArray, List.set_cons_zero, List.set_cons_succ]
      refine P_one 32 #[true, true, true, true, true, true, true, true, true, true, true, true, true, true, true, true, true, true, true, true, true, true, true, true, true, true, true, true, true, true, true, true, true] rfl (by kernel_rfl) (by kernel_rfl) rfl (by kernel_rfl) (fun K hK => ?_)
      go_simp
      refine hK _ _ ?_
      clear hK K
      refine P_done (by kernel_rfl) ?_ _
      clear v0 v1 v2 v3 v4 v5 v6 v7 i1 i2 i3 i4 i5
      go_wp2
      go_roundw
      case rel => exact ⟨j + 1, by omega, by go_num, by rw [Nat.zero_add, HMS.out, ← Int.add_assoc], HB.out.drew⟩
      case measure => simp [intOf]; omega
    · obtain rfl : j = k := by omega
      have HB := Lib.hid hB
      clear hB
      go_wp2_with fail
      go_loopw [14, 16] (fun v i wr => MrI o bs w2 j 3 v i wr) (fun _ i _ => 3 - (intOf i).toNat)
      case atStart => exact ⟨0, by omega, rfl, rfl, HB.out⟩
      case round =>
        obtain ⟨q, hq, rfl, rfl, hB⟩ := hrel
        by_cases hlt : q < 3
        · have hm := mt_bd HO.out bs (j + q) (by rw [HSL.out]; omega)
          have hm' := mt_bd HO.out bs (j + q + 1) (by rw [HSL.out]; omega)
          have hx := o.x_bd HO.out (j + q) (by rw [HSL.out]; omega)
          have hp := o.p_bd HO.out (j + q) (by rw [HSL.out]; omega)
          have hxe : o.x (j + q) = gi o.s (j + q) := by unfold Ob.x; rw [if_neg (by show ¬ (j + q < o.a.length); rw [← HK.out]; omega)]
          have HMS : Hid (o.mt bs (j + q + 1) = o.mt bs (j + q) + (o.x (j + q) * (1 - 2 * ((bq ((inW bs).getD (j + q) false) : Nat) : Int)) + gi o.p (j + q) * (1 - 2 * ((bq ((outW bs).getD (j + q) false) : Nat) : Int)))) := Lib.hid rfl
          have hrs := Rdv.below HSR.out hB
          have hrp := Rdv.below HPR.out hB
          have hrb := Rdv.below HW.out hB
          have c1 := Rd.cell hrs (j := j + q) (by omega)
          have c3 := Rd.cell hrb (j := 2 * j + q) (by omega)
          have c4 := Rd.cell hrp (j := j + q) (by omega)
          have c5 := Rd.cell hrb (j := 2 * j + 3 + q) (by omega)
          have hwi := wc_int bs q hlt
          have hwo := wc_outt bs q hlt
          rw [HLK.out] at hwi hwo
          rw [gi_of hwi (by rw [inW_len, HLK.out]; omega)] at c3
          rw [gi_of hwo (by rw [outW_len, HLK.out]; omega)] at c5
          have i1 := fun W => Rdv.ixI HSR.out el22 (j := j + q) (by omega) .i64 ((j : Int) + (q : Int)) (by push_cast; rfl) W
          have i3 := fun W => Rdv.ixI HW.out el26 (j := 2 * j + q) (by omega) .i64 (2 * (j : Int) + (q : Int)) (by push_cast; rfl) W
          have i4 := fun W => Rdv.ixI HPR.out el22 (j := j + q) (by omega) .i64 ((j : Int) + (q : Int)) (by push_cast; rfl) W
          have i5 := fun W => Rdv.ixI HW.out el26 (j := 2 * j + 3 + q) (by omega) .i64 (2 * (j : Int) + 3 + (q : Int)) (by push_cast; rfl) W
          have t1b := bq_lt ((inW bs).getD (j + q) false)
          have t2b := bq_lt ((outW bs).getD (j + q) false)
          rw [hxe] at hx HMS
          rw [HMS.out] at hm'
          have HB := Lib.hid hB
          clear hrs hrp hrb hwi hwo hB hxe
          generalize bq ((inW bs).getD (j + q) false) = t1 at *
          generalize bq ((outW bs).getD (j + q) false) = t2 at *
          generalize gi o.s (j + q) = sv at *
          generalize gi o.p (j + q) = pv at *
          have HMS := Lib.hid HMS.out
          generalize o.mt bs (j + q) = m at *
          have k1 : sv * (1 - 2 * (t1 : Int)) = sv ∨ sv * (1 - 2 * (t1 : Int)) = -sv := mul_sgn _ _ t1b
          have k2 : pv * (1 - 2 * (t2 : Int)) = pv ∨ pv * (1 - 2 * (t2 : Int)) = -pv := mul_sgn _ _ t2b
          have v1 : IntKind.i64.wrap (sv * (1 - 2 * (t1 : Int))) = sv * (1 - 2 * (t1 : Int)) := IntWalk.i64_in _ (by omega)
          have v2 : IntKind.i64.wrap (m + sv * (1 - 2 * (t1 : Int))) = m + sv * (1 - 2 * (t1 : Int)) := IntWalk.i64_in _ (by omega)
          have v3 : IntKind.i64.wrap (pv * (1 - 2 * (t2 : Int))) = pv * (1 - 2 * (t2 : Int)) := IntWalk.i64_in _ (by omega)
          have v4 : IntKind.i64.wrap (m + sv * (1 - 2 * (t1 : Int)) + pv * (1 - 2 * (t2 : Int))) = m + sv * (1 - 2 * (t1 : Int)) + pv * (1 - 2 * (t2 : Int)) := IntWalk.i64_in _ (by omega)
          have v5 : IntKind.i64.wrap (t1 : Int) = (t1 : Int) := IntWalk.i64_in _ (by omega)
          have v6 : IntKind.i64.wrap (t2 : Int) = (t2 : Int) := IntWalk.i64_in _ (by omega)
          have v7 : IntKind.i64.wrap ((j : Int) + (q : Int)) = (j : Int) + (q : Int) := IntWalk.i64_in _ (by omega)
          have v8 : IntKind.i64.wrap (2 * (j : Int)) = 2 * (j : Int) := IntWalk.i64_in _ (by omega)
          have v9 : IntKind.i64.wrap (2 * (j : Int) + (q : Int)) = 2 * (j : Int) + (q : Int) := IntWalk.i64_in _ (by omega)
          have va : IntKind.i64.wrap (2 * (j : Int) + 3) = 2 * (j : Int) + 3 := IntWalk.i64_in _ (by omega)
          have vb : IntKind.i64.wrap (2 * (j : Int) + 3 + (q : Int)) = 2 * (j : Int) + 3 + (q : Int) := IntWalk.i64_in _ (by omega)
          clear hm hm' hx hp k1 k2
          go_wp2_with fail
          have HS0 : Hid (Ck4 S B P (j + q) (2 * j + q) (j + q) (2 * j + 3 + q) (.int .i64 sv) (.int .u8 (t1 : Int)) (.int .i64 pv) (.int .u8 (t2 : Int)) wr.drew) := Lib.hid ⟨c1, c3, c4, c5⟩
          clear c1 c3 c4 c5
          refine P_start (Ck4 S B P (j + q) (2 * j + q) (j + q) (2 * j + 3 + q) (.int .i64 sv) (.int .u8 (t1 : Int)) (.int .i64 pv) (.int .u8 (t2 : Int))) 36 37 #[false, false, false, false, false, false, false, false, false, false, false, false, false, false, false, false, false, false, false, false, false, false, false, false, false, false, false, false, false, false, false, false, false, false, false, false, false] (by kernel_rfl) (by kernel_rfl) (by kernel_rfl) ?_
          refine P_takeW 0 79 (.int .i64 m) #[true, false, false, false, false, false, false, false, false, false, false, false, false, false, false, false, false, false, false, false, false, false, false, false, false, false, false, false, false, false, false, false, false, false, false, false, false] rfl rfl (by kernel_rfl) (by kernel_rfl) (by kernel_rfl) (by kernel_rfl) (by decide) (fun _ _ _ h => h) (Or.inl ⟨by rfl, fun W hS => by go_simp⟩) HS0.out ?_
          simp only [List.setIfInBounds_toArray, List.set_cons_zero, List.set_cons_succ]
          refine P_takeW 1 80 (.slice S (j + 3) cs) #[true, true, false, false, false, false, false, false, false, false, false, false, false, false, false, false, false, false, false, false, false, false, false, false, false, false, false, false, false, false, false, false, false, false, false, false, false] rfl rfl (by kernel_rfl) (by kernel_rfl) (by kernel_rfl) (by kernel_rfl) (by decide) (fun _ _ _ h => h) (Or.inl ⟨by rfl, fun W hS => by go_simp⟩) HS0.out ?_
          simp only [List.setIfInBounds_toArray, List.set_cons_zero, List.set_cons_succ]
          refine P_takeW 2 81 (.int .i64 (j : Int)) #[true, true, true, false, false, false, false, false, false, false, false, false, false, false, false, false, false, false, false, false, false, false, false, false, false, false, false, false, false, false, false, false, false, false, false, false, false] rfl rfl (by kernel_rfl) (by kernel_rfl) (by kernel_rfl) (by kernel_rfl) (by decide) (fun _ _ _ h => h) (Or.inl ⟨by rfl, fun W hS => by go_simp⟩) HS0.out ?_
          simp only [List.setIfInBounds_toArray, List.set_cons_zero, List.set_cons_succ]
          refine P_takeW 3 82 (.int .i64 (q : Int)) #[true, true, true, true, false, false, false, false, false, false, false, false, false, false, false, false, false, false, false, false, false, false, false, false, false, false, false, false, false, false, false, false, false, false, false, false, false] rfl rfl (by kernel_rfl) (by kernel_rfl) (by kernel_rfl) (by kernel_rfl) (by decide) (fun _ _ _ h => h) (Or.inl ⟨by rfl, fun W hS => by go_simp⟩) HS0.out ?_
          simp only [List.setIfInBounds_toArray, List.set_cons_zero, List.set_cons_succ]
          refine P_takeW 4 83 (.int .i64 ((j : Int) + (q : Int))) #[true, true, true, true, true, false, false, false, false, false, false, false, false, false, false, false, false, false, false, false, false, false, false, false, false, false, false, false, false, false, false, false, false, false, false, false, false] rfl rfl (by kernel_rfl) (by kernel_rfl) (by kernel_rfl) (by kernel_rfl) (by decide) (fun _ _ _ h => h) (Or.inl ⟨by rfl, fun W hS => by go_simp⟩) HS0.out ?_
          simp only [List.setIfInBounds_toArray, List.set_cons_zero, List.set_cons_succ]
          refine P_takeW 5 84 (.pointer (some (adr S (j + q)))) #[true, true, true, true, true, true, false, false, false, false, false, false, false, false, false, false, false, false, false, false, false, false, false, false, false, false, false, false, false, false, false, false, false, false, false, false, false] rfl rfl (by kernel_rfl) (by kernel_rfl) (by kernel_rfl) (by kernel_rfl) (by decide) (fun _ _ _ h => h) (Or.inl ⟨by rfl, fun W hS => by go_simp⟩) HS0.out ?_
          simp only [List.setIfInBounds_toArray, List.set_cons_zero, List.set_cons_succ]
          refine P_take 6 85 (.int .i64 sv) #[true, true, true, true, true, true, true, false, false, false, false, false, false, false, false, false, false, false, false, false, false, false, false, false, false, false, false, false, false, false, false, false, false, false, false, false, false] rfl rfl (by kernel_rfl) (by kernel_rfl) (by kernel_rfl) (by kernel_rfl) (by kernel_rfl) (by kernel_rfl) (by decide) (fun _ _ _ h => h) (Or.inl ⟨by rfl, fun W hS => by obtain ⟨s1, s3, s4, s5⟩ := hS; go_simp⟩) HS0.out ?_
          simp only [List.setIfInBounds_toArray, List.set_cons_zero, List.set_cons_succ]
          refine P_takeW 7 86 (.slice B (j + j + 3 + 3) d) #[true, true, true, true, true, true, true, true, false, false, false, false, false, false, false, false, false, false, false, false, false, false, false, false, false, false, false, false, false, false, false, false, false, false, false, false, false] rfl rfl (by kernel_rfl) (by kernel_rfl) (by kernel_rfl) (by kernel_rfl) (by decide) (fun _ _ _ h => h) (Or.inl ⟨by rfl, fun W hS => by go_simp⟩) HS0.out ?_
          simp only [List.setIfInBounds_toArray, List.set_cons_zero, List.set_cons_succ]
          refine P_takeW 8 87 (.int .i64 (j : Int)) #[true, true, true, true, true, true, true, true, true, false, false, false, false, false, false, false, false, false, false, false, false, false, false, false, false, false, false, false, false, false, false, false, false, false, false, false, false] rfl rfl (by kernel_rfl) (by kernel_rfl) (by kernel_rfl) (by kernel_rfl) (by decide) (fun _ _ _ h => h) (Or.inl ⟨by rfl, fun W hS => by go_simp⟩) HS0.out ?_
          simp only [List.setIfInBounds_toArray, List.set_cons_zero, List.set_cons_succ]
          refine P_takeW 9 88 (.int .i64 (2 * (j : Int))) #[true, true, true, true, true, true, true, true, true, true, false, false, false, false, false, false, false, false, false, false, false, false, false, false, false, false, false, false, false, false, false, false, false, false, false, false, false] rfl rfl (by kernel_rfl) (by kernel_rfl) (by kernel_rfl) (by kernel_rfl) (by decide) (fun _ _ _ h => h) (Or.inl ⟨by rfl, fun W hS => by go_simp⟩) HS0.out ?_
          simp only [List.setIfInBounds_toArray, List.set_cons_zero, List.set_cons_succ]
          refine P_takeW 10 89 (.int .i64 (q : Int)) #[true, true, true, true, true, true, true, true, true, true, true, false, false, false, false, false, false, false, false, false, false, false, false, false, false, false, false, false, false, false, false, false, false, false, false, false, false] rfl rfl (by kernel_rfl) (by kernel_rfl) (by kernel_rfl) (by kernel_rfl) (by decide) (fun _ _ _ h => h) (Or.inl ⟨by rfl, fun W hS => by go_simp⟩) HS0.out ?_
          simp only [List.setIfInBounds_toArray, List.set_cons_zero, List.set_cons_succ]
          refine P_takeW 11 90 (.int .i64 (2 * (j : Int) + (q : Int))) #[true, true, true, true, true, true, true, true, true, true, true, true, false, false, false, false, false, false, false, false, false, false, false, false, false, false, false, false, false, false, false, false, false, false, false, false, false] rfl rfl (by kernel_rfl) (by kernel_rfl) (by kernel_rfl) (by kernel_rfl) (by decide) (fun _ _ _ h => h) (Or.inl ⟨by rfl, fun W hS => by go_simp⟩) HS0.out ?_
          simp only [List.setIfInBounds_toArray, List.set_cons_zero, List.set_cons_succ]
          refine P_takeW 12 91 (.pointer (some (adr B (2 * j + q)))) #[true, true, true, true, true, true, true, true, true, true, true, true, true, false, false, false, false, false, false, false, false, false, false, false, false, false, false, false, false, false, false, false, false, false, false, false, false] rfl rfl (by kernel_rfl) (by kernel_rfl) (by kernel_rfl) (by kernel_rfl) (by decide) (fun _ _ _ h => h) (Or.inl ⟨by rfl, fun W hS => by go_simp⟩) HS0.out ?_
          simp only [List.setIfInBounds_toArray, List.set_cons_zero, List.set_cons_succ]
          refine P_take 13 92 (.int .u8 (t1 : Int)) #[true, true, true, true, true, true, true, true, true, true, true, true, true, true, false, false, false, false, false, false, false, false, false, false, false, false, false, false, false, false, false, false, false, false, false, false, false] rfl rfl (by kernel_rfl) (by kernel_rfl) (by kernel_rfl) (by kernel_rfl) (by kernel_rfl) (by kernel_rfl) (by decide) (fun _ _ _ h => h) (Or.inl ⟨by rfl, fun W hS => by obtain ⟨s1, s3, s4, s5⟩ := hS; go_simp⟩) HS0.out ?_
          simp only [List.setIfInBounds_toArray, List.set_cons_zero, List.set_cons_succ]
          refine P_takeW 14 93 (.int .i64 (t1 : Int)) #[true, true, true, true, true, true, true, true, true, true, true, true, true, true, true, false, false, false, false, false, false, false, false, false, false, false, false, false, false, false, false, false, false, false, false, false, false] rfl rfl (by kernel_rfl) (by kernel_rfl) (by kernel_rfl) (by kernel_rfl) (by decide) (fun _ _ _ h => h) (Or.inl ⟨by rfl, fun W hS => by go_simp⟩) HS0.out ?_
          simp only [List.setIfInBounds_toArray, List.set_cons_zero, List.set_cons_succ]
          refine P_takeW 18 97 (.slice P (j + 3) cp) #[true, true, true, true, true, true, true, true, true, true, true, true, true, true, true, false, false, false, true, false, false, false, false, false, false, false, false, false, false, false, false, false, false, false, false, false, false] rfl rfl (by kernel_rfl) (by kernel_rfl) (by kernel_rfl) (by kernel_rfl) (by decide) (fun _ _ _ h => h) (Or.inl ⟨by rfl, fun W hS => by go_simp⟩) HS0.out ?_
          simp only [List.setIfInBounds_toArray, List.set_cons_zero, List.set_cons_succ]
          refine P_takeW 19 98 (.int .i64 (j : Int)) #[true, true, true, true, true, true, true, true, true, true, true, true, true, true, true, false, false, false, true, true, false, false, false, false, false, false, false, false, false, false, false, false, false, false, false, false, false] rfl rfl (by kernel_rfl) (by kernel_rfl) (by kernel_rfl) (by kernel_rfl) (by decide) (fun _ _ _ h => h) (Or.inl ⟨by rfl, fun W hS => by go_simp⟩) HS0.out ?_
          simp only [List.setIfInBounds_toArray, List.set_cons_zero, List.set_cons_succ]
          refine P_takeW 20 99 (.int .i64 (q : Int)) #[true, true, true, true, true, true, true, true, true, true, true, true, true, true, true, false, false, false, true, true, true, false, false, false, false, false, false, false, false, false, false, false, false, false, false, false, false] rfl rfl (by kernel_rfl) (by kernel_rfl) (by kernel_rfl) (by kernel_rfl) (by decide) (fun _ _ _ h => h) (Or.inl ⟨by rfl, fun W hS => by go_simp⟩) HS0.out ?_
          simp only [List.setIfInBounds_toArray, List.set_cons_zero, List.set_cons_succ]
          refine P_takeW 21 100 (.int .i64 ((j : Int) + (q : Int))) #[true, true, true, true, true, true, true, true, true, true, true, true, true, true, true, false, false, false, true, true, true, true, false, false, false, false, false, false, false, false, false, false, false, false, false, false, false] rfl rfl (by kernel_rfl) (by kernel_rfl) (by kernel_rfl) (by kernel_rfl) (by decide) (fun _ _ _ h => h) (Or.inl ⟨by rfl, fun W hS => by go_simp⟩) HS0.out ?_
          simp only [List.setIfInBounds_toArray, List.set_cons_zero, List.set_cons_succ]
          refine P_takeW 22 101 (.pointer (some (adr P (j + q)))) #[true, true, true, true, true, true, true, true, true, true, true, true, true, true, true, false, false, false, true, true, true, true, true, false, false, false, false, false, false, false, false, false, false, false, false, false, false] rfl rfl (by kernel_rfl) (by kernel_rfl) (by kernel_rfl) (by kernel_rfl) (by decide) (fun _ _ _ h => h) (Or.inl ⟨by rfl, fun W hS => by go_simp⟩) HS0.out ?_
          simp only [List.setIfInBounds_toArray, List.set_cons_zero, List.set_cons_succ]
          refine P_take 23 102 (.int .i64 pv) #[true, true, true, true, true, true, true, true, true, true, true, true, true, true, true, false, false, false, true, true, true, true, true, true, false, false, false, false, false, false, false, false, false, false, false, false, false] rfl rfl (by kernel_rfl) (by kernel_rfl) (by kernel_rfl) (by kernel_rfl) (by kernel_rfl) (by kernel_rfl) (by decide) (fun _ _ _ h => h) (Or.inl ⟨by rfl, fun W hS => by obtain ⟨s1, s3, s4, s5⟩ := hS; go_simp⟩) HS0.out ?_
          simp only [List.setIfInBounds_toArray, List.set_cons_zero, List.set_cons_succ]
          refine P_takeW 24 103 (.slice B (j + j + 3 + 3) d) #[true, true, true, true, true, true, true, true, true, true, true, true, true, true, true, false, false, false, true, true, true, true, true, true, true, false, false, false, false, false, false, false, false, false, false, false, false] rfl rfl (by kernel_rfl) (by kernel_rfl) (by kernel_rfl) (by kernel_rfl) (by decide) (fun _ _ _ h => h) (Or.inl ⟨by rfl, fun W hS => by go_simp⟩) HS0.out ?_
          simp only [List.setIfInBounds_toArray, List.set_cons_zero, List.set_cons_succ]
          refine P_takeW 25 104 (.int .i64 (j : Int)) #[true, true, true, true, true, true, true, true, true, true, true, true, true, true, true, false, false, false, true, true, true, true, true, true, true, true, false, false, false, false, false, false, false, false, false, false, false] rfl rfl (by kernel_rfl) (by kernel_rfl) (by kernel_rfl) (by kernel_rfl) (by decide) (fun _ _ _ h => h) (Or.inl ⟨by rfl, fun W hS => by go_simp⟩) HS0.out ?_
          simp only [List.setIfInBounds_toArray, List.set_cons_zero, List.set_cons_succ]
          refine P_takeW 26 105 (.int .i64 (2 * (j : Int))) #[true, true, true, true, true, true, true, true, true, true, true, true, true, true, true, false, false, false, true, true, true, true, true, true, true, true, true, false, false, false, false, false, false, false, false, false, false] rfl rfl (by kernel_rfl) (by kernel_rfl) (by kernel_rfl) (by kernel_rfl) (by decide) (fun _ _ _ h => h) (Or.inl ⟨by rfl, fun W hS => by go_simp⟩) HS0.out ?_
          simp only [List.setIfInBounds_toArray, List.set_cons_zero, List.set_cons_succ]
          refine P_takeW 27 106 (.int .i64 (2 * (j : Int) + 3)) #[true, true, true, true, true, true, true, true, true, true, true, true, true, true, true, false, false, false, true, true, true, true, true, true, true, true, true, true, false, false, false, false, false, false, false, false, false] rfl rfl (by kernel_rfl) (by kernel_rfl) (by kernel_rfl) (by kernel_rfl) (by decide) (fun _ _ _ h => h) (Or.inl ⟨by rfl, fun W hS => by go_simp⟩) HS0.out ?_
          simp only [List.setIfInBounds_toArray, List.set_cons_zero, List.set_cons_succ]
          refine P_takeW 28 107 (.int .i64 (q : Int)) #[true, true, true, true, true, true, true, true, true, true, true, true, true, true, true, false, false, false, true, true, true, true, true, true, true, true, true, true, true, false, false, false, false, false, false, false, false] rfl rfl (by kernel_rfl) (by kernel_rfl) (by kernel_rfl) (by kernel_rfl) (by decide) (fun _ _ _ h => h) (Or.inl ⟨by rfl, fun W hS => by go_simp⟩) HS0.out ?_
          simp only [List.setIfInBounds_toArray, List.set_cons_zero, List.set_cons_succ]
          refine P_takeW 29 108 (.int .i64 (2 * (j : Int) + 3 + (q : Int))) #[true, true, true, true, true, true, true, true, true, true, true, true, true, true, true, false, false, false, true, true, true, true, true, true, true, true, true, true, true, true, false, false, false, false, false, false, false] rfl rfl (by kernel_rfl) (by kernel_rfl) (by kernel_rfl) (by kernel_rfl) (by decide) (fun _ _ _ h => h) (Or.inl ⟨by rfl, fun W hS => by go_simp⟩) HS0.out ?_
          simp only [List.setIfInBounds_toArray, List.set_cons_zero, List.set_cons_succ]
          refine P_takeW 30 109 (.pointer (some (adr B (2 * j + 3 + q)))) #[true, true, true, true, true, true, true, true, true, true, true, true, true, true, true, false, false, false, true, true, true, true, true, true, true, true, true, true, true, true, true, false, false, false, false, false, false] rfl rfl (by kernel_rfl) (by kernel_rfl) (by kernel_rfl) (by kernel_rfl) (by decide) (fun _ _ _ h => h) (Or.inl ⟨by rfl, fun W hS => by go_simp⟩) HS0.out ?_
          simp only [List.setIfInBounds_toArray, List.set_cons_zero, List.set_cons_succ]
          refine P_take 31 110 (.int .u8 (t2 : Int)) #[true, true, true, true, true, true, true, true, true, true, true, true, true, true, true, false, false, false, true, true, true, true, true, true, true, true, true, true, true, true, true, true, false, false, false, false, false] rfl rfl (by kernel_rfl) (by kernel_rfl) (by kernel_rfl) (by kernel_rfl) (by kernel_rfl) (by kernel_rfl) (by decide) (fun _ _ _ h => h) (Or.inl ⟨by rfl, fun W hS => by obtain ⟨s1, s3, s4, s5⟩ := hS; go_simp⟩) HS0.out ?_
          simp only [List.setIfInBounds_toArray, List.set_cons_zero, List.set_cons_succ]
          refine P_takeW 32 111 (.int .i64 (t2 : Int)) #[true, true, true, true, true, true, true, true, true, true, true, true, true, true, true, false, false, false, true, true, true, true, true, true, true, true, true, true, true, true, true, true, true, false, false, false, false] rfl rfl (by kernel_rfl) (by kernel_rfl) (by kernel_rfl) (by kernel_rfl) (by decide) (fun _ _ _ h => h) (Or.inl ⟨by rfl, fun W hS => by go_simp⟩) HS0.out ?_
          simp only [List.setIfInBounds_toArray, List.set_cons_zero, List.set_cons_succ]
          refine P_oneS 15 #[true, true, true, true, true, true, true, true, true, true, true, true, true, true, true, true, false, false, true, true, true, true, true, true, true, true, true, true, true, true, true, true, true, false, false, false, false] rfl (by kernel_rfl) (by kernel_rfl) rfl (fun K hK => ?_)
          go_simp
          refine (sign_any t1 (by omega) _).mono ?_
          rintro e wq ⟨rfl, rfl⟩
          refine hK _ _ HS0.out ?_
          clear hK K
          refine P_takeW 16 95 (.int .i64 (sv * (1 - 2 * (t1 : Int)))) #[true, true, true, true, true, true, true, true, true, true, true, true, true, true, true, true, true, false, true, true, true, true, true, true, true, true, true, true, true, true, true, true, true, false, false, false, false] rfl rfl (by kernel_rfl) (by kernel_rfl) (by kernel_rfl) (by kernel_rfl) (by decide) (fun _ _ _ h => h) (Or.inl ⟨by rfl, fun W hS => by go_simp⟩) HS0.out ?_
          simp only [List.setIfInBounds_toArray, List.set_cons_zero, List.set_cons_succ]
          refine P_takeW 17 96 (.int .i64 (m + sv * (1 - 2 * (t1 : Int)))) #[true, true, true, true, true, true, true, true, true, true, true, true, true, true, true, true, true, true, true, true, true, true, true, true, true, true, true, true, true, true, true, true, true, false, false, false, false] rfl rfl (by kernel_rfl) (by kernel_rfl) (by kernel_rfl) (by kernel_rfl) (by decide) (fun _ _ _ h => h) (Or.inl ⟨by rfl, fun W hS => by go_simp⟩) HS0.out ?_
          simp only [List.setIfInBounds_toArray, List.set_cons_zero, List.set_cons_succ]
          refine P_oneS 33 #[true, true, true, true, true, true, true, true, true, true, true, true, true, true, true, true, true, true, true, true, true, true, true, true, true, true, true, true, true, true, true, true, true, true, false, false, false] rfl (by kernel_rfl) (by kernel_rfl) rfl (fun K hK => ?_)
          go_simp
          refine (sign_any t2 (by omega) _).mono ?_
          rintro e wq ⟨rfl, rfl⟩
          refine hK _ _ HS0.out ?_
          clear hK K
          refine P_takeW 34 113 (.int .i64 (pv * (1 - 2 * (t2 : Int)))) #[true, true, true, true, true, true, true, true, true, true, true, true, true, true, true, true, true, true, true, true, true, true, true, true, true, true, true, true, true, true, true, true, true, true, true, false, false] rfl rfl (by kernel_rfl) (by kernel_rfl) (by kernel_rfl) (by kernel_rfl) (by decide) (fun _ _ _ h => h) (Or.inl ⟨by rfl, fun W hS => by go_simp⟩) HS0.out ?_
          simp only [List.setIfInBounds_toArray, List.set_cons_zero, List.set_cons_succ]
          refine P_takeW 35 114 (.int .i64 (m + sv * (1 - 2 * (t1 : Int)) + pv * (1 - 2 * (t2 : Int)))) #[true, true, true, true, true, true, true, true, true, true, true, true, true, true, true, true, true, true, true, true, true, true, true, true, true, true, true, true, true, true, true, true, true, true, true, true, false] rfl rfl (by kernel_rfl) (by kernel_rfl) (by kernel_rfl) (by kernel_rfl) (by decide) (fun _ _ _ h => h) (Or.inl ⟨by rfl, fun W hS => by go_simp⟩) HS0.out ?_
          simp only [List.setIfInBounds_toArray, List.set_cons_zero, List.set_cons_succ]
          refine P_one 36 #[true, true, true, true, true, true, true, true, true, true, true, true, true, true, true, true, true, true, true, true, true, true, true, true, true, true, true, true, true, true, true, true, true, true, true, true, true] rfl (by kernel_rfl) (by kernel_rfl) rfl (by kernel_rfl) (fun K hK => ?_)
          go_simp
          refine hK _ _ ?_
          clear hK K
          refine P_done (by kernel_rfl) ?_ _
          clear v1 v2 v3 v4 v5 v6 v7 v8 v9 va vb i1 i3 i4 i5
          go_wp2
          go_roundw
          case rel => exact ⟨q + 1, by omega, by go_num, by rw [← Nat.add_assoc, HMS.out, ← Int.add_assoc], HB.out.drew⟩
          case measure => simp [intOf]; omega
        · obtain rfl : q = 3 := by omega
          have HB := Lib.hid hB
          clear hB
          go_wp2
          go_ret2
          rw [HSL.out]
          exact ⟨rfl, HB2.out.trans (HB.out.mono HB2.out.size)⟩
set_option maxRecDepth 100000 in
set_option maxHeartbeats 600000 in
theorem rmetric_len (S P A C : Option Addr) (cs cp ca n cb : Nat) (o : Ob) (xs : List Int) (w : World) (h : In3 w o S P A cs cp ca) (hb : Rd .u8 w C n cb xs) (hl : n ≠ o.a.length) :
    Calls Try.prog 25 #[.slice S o.s.length cs, .slice P o.p.length cp, .slice A o.a.length ca, .slice C n cb] w fun e w' => e = .returned (.tuple #[.int .i64 0, .int .i64 2]) ∧ Below w.heap.size w w' := by
  have e1 : ((n : Int) != (o.a.length : Int)) = true := bne_t (by omega)
  clear h hb hl
  go_enter Try.func25, Try.ntmps25
  go_wp2
  go_ret2
  exact ⟨rfl, Below.refl _ w⟩
set_option maxRecDepth 100000 in
set_option maxHeartbeats 600000 in
theorem rmetric_err (S P A C : Option Addr) (cs cp ca n cb : Nat) (o : Ob) (xs : List Int) (w : World) (h : In3 w o S P A cs cp ca) (hb : Rd .u8 w C n cb xs) (hl : n = o.a.length) (ho : ¬ o.ok) :
    Calls Try.prog 25 #[.slice S o.s.length cs, .slice P o.p.length cp, .slice A o.a.length ca, .slice C n cb] w fun e w' => e = .returned (.tuple #[.int .i64 0, .int .i64 o.err]) ∧ Below w.heap.size w w' := by
  have e1 : ((n : Int) != (o.a.length : Int)) = false := bne_f (by omega)
  have HW := Lib.hid (wrong_any S P A cs cp ca o w h)
  have hE := Ob.err_cases ho
  generalize o.err = E at *
  have hne : (E != 0) = true := bne_t (by omega)
  clear h hb hl ho hE
  go_enter Try.func25, Try.ntmps25
  go_wp2_with fail
  refine HW.out.mono ?_
  rintro e w1 ⟨rfl, hB⟩
  have HB := Lib.hid hB
  clear hB
  go_wp2
  go_ret2
  exact ⟨rfl, HB.out⟩
set_option maxRecDepth 100000 in
set_option maxHeartbeats 600000 in
theorem rmetric_bit (S P A C : Option Addr) (cs cp ca n cb : Nat) (o : Ob) (xs : List Int) (w : World) (h : In3 w o S P A cs cp ca) (hb : Rd .u8 w C n cb xs) (h0 : ∀ x ∈ xs, 0 ≤ x) (hl : n = o.a.length) (ho : o.ok) (hv : ValidB xs = false) :
    Calls Try.prog 25 #[.slice S o.s.length cs, .slice P o.p.length cp, .slice A o.a.length ca, .slice C n cb] w fun e w' => e = .returned (.tuple #[.int .i64 0, .int .i64 3]) ∧ Below w.heap.size w w' := by
  have e1 : ((n : Int) != (o.a.length : Int)) = false := bne_f (by omega)
  have HW := Lib.hid (wrong_any S P A cs cp ca o w h)
  have hn : n ≤ 100000 := by have := ho.2.1; omega
  have HX := Lib.hid (fun W h => rword_bad C n cb xs W h h0 hn hv)
  have HR := Lib.hid hb
  have HO := Lib.hid ho
  clear h hb hl ho h0 hv
  go_enter Try.func25, Try.ntmps25
  go_wp2_with fail
  refine HW.out.mono ?_
  rintro e w1 ⟨rfl, hB⟩
  rw [Ob.err_ok HO.out]
  have HB := Lib.hid hB
  clear hB
  go_wp2_with fail
  refine (HX.out _ (Rdv.below HR.out HB.out)).mono ?_
  rintro e w2 ⟨rfl, hB2⟩
  have HB2 := Lib.hid hB2
  clear hB2
  go_wp2
  go_ret2
  exact ⟨rfl, HB.out.trans (HB2.out.mono HB.out.size)⟩
end
section
open Go.RowKit
theorem cW_allow {o : Ob} {bs : List Bool} (hb : bs.length = o.a.length) (i : Nat) (hi : i < bs.length + 3) : o.allow i (cW bs i) = true := by
  unfold Ob.allow
  rw [Bool.or_eq_true, decide_eq_true_eq, decide_eq_true_eq]
  rcases Nat.lt_or_ge i bs.length with h | h
  · left; show i < o.a.length; omega
  · right; exact cW_tail bs i hi h
theorem stW_end (bs : List Bool) : sn (stW bs (bs.length + 3)) = 0 := cW_end bs
theorem mt_le {o : Ob} (h : o.ok) {bs : List Bool} (hb : bs.length = o.a.length) : ∀ i, i ≤ o.s.length → o.mt bs i ≤ gi (o.f i) (sn (stW bs i))
  | 0, _ => by
    show (0 : Int) ≤ gi none0 (sn s0)
    rw [show sn s0 = 0 from rfl, gi_none0 0 (by decide)]
    simp
  | i + 1, hi => by
    have ih := mt_le h hb i (by omega)
    have hn := h.2.2.1
    have hl := h.2.1
    have hbd := mt_bd h bs i (by omega)
    have hm := cW_mem bs i (by omega)
    have h8 := (br_bd _ hm).2.2.2
    have h2 := ((fwd_le o i (o.f i) (sn (stW bs (i + 1))) h8 _).1 (Int.le_refl _)).2 (cW bs i) hm rfl (cW_allow hb i (by omega)) (by show UU < gi (o.f i) (sn (stW bs i)); rw [UU_eq]; omega)
    have e : o.term i (cW bs i) = o.term i (brW bs i) := rfl
    have e2 : (cW bs i).fr = sn (stW bs i) := rfl
    rw [e, e2] at h2
    show o.mt bs i + o.term i (brW bs i) ≤ _
    exact Int.le_trans (by omega) h2
theorem mt_top {o : Ob} (h : o.ok) {bs : List Bool} (hb : bs.length = o.a.length) : o.mt bs o.s.length ≤ gi (o.f o.s.length) 0 := by
  have h1 := mt_le h hb o.s.length (Nat.le_refl _)
  have hn := h.2.2.1
  have e : sn (stW bs o.s.length) = 0 := by rw [hn, ← hb]; exact stW_end bs
  rwa [e] at h1
theorem valid_bits {xs : List Int} (h0 : ∀ x ∈ xs, 0 ≤ x) (hv : ValidB xs = true) : ∃ bs : List Bool, xs = bs.map ib := by
  refine ⟨xs.map (fun x => decide (x = 1)), ?_⟩
  unfold ValidB at hv
  rw [List.all_eq_true] at hv
  rw [List.map_map]
  conv => lhs; rw [← List.map_id xs]
  refine List.map_congr_left fun x hx => ?_
  have h1 := h0 x hx
  have h2 : x ≤ 1 := by simpa using hv x hx
  rcases (by omega : x = 0 ∨ x = 1) with rfl | rfl <;> rfl
def MetBoth (o : Ob) (n : Nat) (xs : List Int) (v E : Int) : Prop :=
  (∀ (S P A C : Option Addr) (cs cp ca cb : Nat) (w : World), In3 w o S P A cs cp ca → Rd .u8 w C n cb xs → Calls Try.prog 24 #[.slice S o.s.length cs, .slice P o.p.length cp, .slice A o.a.length ca, .slice C n cb] w fun e w' => e = .returned (.tuple #[.int .i64 v, .int .i64 E]) ∧ Below w.heap.size w w') ∧
  (∀ (S P A C : Option Addr) (cs cp ca cb : Nat) (w : World), In3 w o S P A cs cp ca → Rd .u8 w C n cb xs → Calls Try.prog 25 #[.slice S o.s.length cs, .slice P o.p.length cp, .slice A o.a.length ca, .slice C n cb] w fun e w' => e = .returned (.tuple #[.int .i64 v, .int .i64 E]) ∧ Below w.heap.size w w') ∧
  (E = 0 → o.ok ∧ ∃ bs : List Bool, bs.length = o.a.length ∧ xs = bs.map ib ∧ v = o.mt bs o.s.length)
theorem metric_both (o : Ob) (n : Nat) (xs : List Int) (hl : xs.length = n) (hx0 : ∀ x ∈ xs, 0 ≤ x) : ∃ v E, MetBoth o n xs v E := by
  by_cases h1 : n = o.a.length
  · by_cases ho : o.ok
    · cases hv : ValidB xs with
      | false => exact ⟨0, 3, fun S P A C cs cp ca cb w h hb => metric_bit S P A C cs cp ca n cb o xs w h hb h1 ho hv, fun S P A C cs cp ca cb w h hb => rmetric_bit S P A C cs cp ca n cb o xs w h hb hx0 h1 ho hv, fun h => absurd h (by decide)⟩
      | true =>
        obtain ⟨bs, hbs⟩ := valid_bits hx0 hv
        have hbl : bs.length = o.a.length := by rw [← h1, ← hl, hbs, List.length_map]
        subst h1
        subst hbs
        exact ⟨_, 0, fun S P A C cs cp ca cb w h hb => metric_ok S P A C cs cp ca cb o bs w h hb hbl ho, fun S P A C cs cp ca cb w h hb => rmetric_ok S P A C cs cp ca cb o bs w h hb hbl ho, fun _ => ⟨ho, bs, hbl, rfl, rfl⟩⟩
    · refine ⟨0, o.err, fun S P A C cs cp ca cb w h hb => metric_err S P A C cs cp ca n cb o xs w h hb h1 ho, fun S P A C cs cp ca cb w h hb => rmetric_err S P A C cs cp ca n cb o xs w h hb h1 ho, fun h => ?_⟩
      have := Ob.err_cases ho
      omega
  · exact ⟨0, 2, fun S P A C cs cp ca cb w h hb => metric_len S P A C cs cp ca n cb o xs w h hb h1, fun S P A C cs cp ca cb w h hb => rmetric_len S P A C cs cp ca n cb o xs w h hb h1, fun h => absurd h (by decide)⟩
end
end Go.Proofs.Ytmdjclfmhndjnaa
