/-
  Bundle of the texts CrWh CrWi CrWj CrWk. Conditions: none.
-/
import Derived.Test.YtpdalbckmfadbaaGreatBucaz
namespace Go.Proofs.YtpdalbckmfadbaaGreat.Cr
open Go.RowKit Go.Shelf
set_option linter.unusedVariables false
attribute [local go_sem] Oper.semAt_some
def SeqF {α : Type} (m gf : Nat) (lb : Array Value) (encs : α → Array Value) (Kp : World → World → Prop) (S Sp : List α → Prop) (Ok : List α → α → Prop) (T : Nat) (w : World) : Prop :=
  ∀ (l : Nat) (J Jx : List α → World → Prop) (W : World), Below w.heap.size w W → ClB J → ClB Jx →
    (∀ pre x W1, J pre W1 → Ok pre x → YieldAt Fence.wide (m - 1) Tryz.prog l (encs x) W1 fun e W' =>
      (e = .returned (.bool true) ∧ J (pre ++ [x]) W' ∧ Kp W1 W') ∨ (e = .returned (.bool false) ∧ Jx (pre ++ [x]) W')) →
    (∀ pre W, J pre W → pre.length < T) → J [] W →
    CallsIn Fence.wide m Tryz.prog gf (#[.func (.yield l) #[] #[]] ++ lb) W fun e W' => (∃ v, e = .returned v) ∧ ((∃ xs, S xs ∧ J xs W') ∨ (∃ pre, Sp pre ∧ Jx pre W'))
theorem rangeF {α : Type} {g : Operand} {ps : Array Tmp} {assign body : Code} {Q : Exit → Act → World → Prop} {a : Act} {w : World}
    {gf : Nat} {lb : Array Value} (hg : a.eval g = .func (.func gf) #[] lb) (eg : ∀ args w, (callFunc gf args).run Tryz.prog w = .ok (.enter gf args) w)
    {encs : α → Array Value} {Kp : World → World → Prop} {S Sp : List α → Prop} {Ok : List α → α → Prop} {w0 : World} {T : Nat} (hseq : SeqF 2 gf lb encs Kp S Sp Ok T w0)
    (hKt : ∀ {A B C : World}, Kp A B → Kp B C → Kp A C) (hKb : ∀ (W : World) (l : Nat) (o o' : Obj), w.heap.size ≤ l → W.heap[l]? = some o → o.isCells = false → Kp W (W.putObj l o')) (hb0 : Below w0.heap.size w0 w) (hps : ∀ x, (encs x).size = ps.size)
    (I : List α → World → Prop) (Ix : Code → List α → World → Prop) (hI : ClB I) (hIx : ∀ c, ClB (Ix c)) (hIp : ClP w.heap.size I) (hIxp : ∀ c, ClP w.heap.size (Ix c)) (hIT : ∀ pre W, I pre W → pre.length < T) (h0 : I [] w) (a₁ : α → Act)
    (hassign : ∀ (l : Nat) (x : α) (W : World) (K : Act → World → Prop), K (a₁ x) W →
      assign.wpIn (Fence.wide.inRound l) 1 Tryz.prog (Exit.then K (fun _ _ _ => False)) { tmps := (ps.zip (encs x)).foldl (fun t (p, v) => t.setIfInBounds p v) a.tmps, defers := [] } W)
    (hbody : ∀ (l : Nat) (pre : List α) (x : α) (W : World), I pre W → Ok pre x → body.wpIn (Fence.wide.inRound l) 1 Tryz.prog (ownPostK Kp I Ix (pre ++ [x]) W) (a₁ x) W)
    (hdone : ∀ (D : Nat) (xs : List α) (W : World), w.heap.size ≤ D → S xs → I xs W → W.heap[D]? = some (.deferred (some [])) → Q .normal { a with defers := { target := .collected D, args := #[] } :: a.defers } W)
    (hstop : ∀ (D : Nat) (c : Code) (pre : List α) (W : World), w.heap.size ≤ D → Sp pre → Ix c pre W → W.heap[D]? = some (.deferred (some [])) → c.wpIn Fence.wide 3 Tryz.prog Q { a with defers := { target := .collected D, args := #[] } :: a.defers } W) :
    (Code.rangeFunc g ps assign body).wpIn Fence.wide 3 Tryz.prog Q a w := by
  refine wpIn_rangeFunc fun fn hfn => ?_
  obtain ⟨n, hn⟩ : ∃ n, n = w.heap.size := ⟨_, rfl⟩
  rw [← hn] at hKb hIp hIxp hdone hstop
  obtain ⟨rc, hrc⟩ : ∃ rc : LoopState → Option Code → Loop, rc = fun st pe => { state := st, pending := pe, fn, tmps := a.tmps, params := ps, assign, body, defers := n } := ⟨_, rfl⟩
  obtain ⟨W1, hW1⟩ : ∃ W1, W1 = (w.alloc (.deferred (some []))).alloc (.loop (rc .ready none)) := ⟨_, rfl⟩
  have hs1 : W1.heap.size = n + 2 := by rw [hW1, hn]; simp
  have hL1 : W1.heap[n + 1]? = some (.loop (rc .ready none)) := by
    rw [hW1, hn]
    have h := World.alloc_heap_new (w.alloc (.deferred (some []))) (.loop (rc .ready none))
    rwa [World.size_alloc] at h
  have hK1 : W1.heap[n]? = some (.deferred (some [])) := by
    rw [hW1, hn]
    exact (Below.heap_alloc _ _ _ (by simp)).trans (World.alloc_heap_new w _)
  have hI1 : I [] W1 := by rw [hW1]; exact hI.alloc _ (hI.alloc _ h0)
  have hb1 : Below w0.heap.size w0 W1 := by
    rw [hW1]
    exact hb0.trans ((((Below.refl _ w).alloc (Nat.le_refl _) _).alloc (by simp) _).mono hb0.size)
  -- the loop's two blocks: nothing behind them turns them
  have two : ∀ {A B : World} {row : Option Nat} {o p : Obj}, A.grownBy B row → (∀ r, row = some r → W1.heap.size ≤ r) → A.heap[n + 1]? = some o ∧ A.heap[n]? = some p → B.heap[n + 1]? = some o ∧ B.heap[n]? = some p := fun {A B row o p} hgr hr h =>
    ⟨(hgr.block _ (Array.getElem?_eq_some_iff.1 h.1).1 (fun e => by have := hr _ e.symm; omega)).trans h.1, (hgr.block _ (Array.getElem?_eq_some_iff.1 h.2).1 (fun e => by have := hr _ e.symm; omega)).trans h.2⟩
  have up : ∀ {row : Option Nat}, (∀ r, row = some r → W1.heap.size ≤ r) → ∀ r, row = some r → n ≤ r := fun hr r e => by have := hr r e; omega
  refine ⟨n + 1, [{ target := .collected n, args := #[] }], W1, { target := .fn (.func gf) lb, args := #[.func (.yield (n + 1)) #[] #[]] }, W1, gf, #[.func (.yield (n + 1)) #[] #[]] ++ lb, W1, ?_, ?_, ?_, ?_, fun _ => by omega, ?_⟩
  · rw [hW1, hrc, hn]
    exact run_enterLoop_outer _ _ _ _ _
  · simp only [resolve, hg]
    simp [go_sem]
  · intro f hf
    simp [Target.leads] at hf
    subst hf
    trivial
  · simp [invoke, go_sem, eg]
  refine (hseq (n + 1)
    (fun pre W => I pre W ∧ W.heap[n + 1]? = some (.loop (rc .ready none)) ∧ W.heap[n]? = some (.deferred (some [])))
    (fun pre W => ∃ c, Ix c pre W ∧ W.heap[n + 1]? = some (.loop (rc .done (some c))) ∧ W.heap[n]? = some (.deferred (some [])))
    W1 hb1 (fun s A B hs hb => ⟨hI s A B hs.1 hb, two (grown_of_below hb) nofun hs.2⟩)
    (fun s A B ⟨c, hc, hs⟩ hb => ⟨c, hIx c s A B hc hb, two (grown_of_below hb) nofun hs⟩) ?_ (fun pre W h => hIT pre W h.1) ⟨hI1, hL1, hK1⟩).mono ?_
  · rintro pre x W ⟨hi, hl, hk⟩ hlen
    have hlt : n + 1 < W.heap.size := (Array.getElem?_eq_some_iff.1 hl).1
    obtain ⟨Wb, hWb⟩ : ∃ Wb, Wb = W.putObj (n + 1) (.loop { rc .ready none with state := .busy }) := ⟨_, rfl⟩
    have hlb : Wb.heap[n + 1]? = some (.loop { rc .ready none with state := .busy }) := by rw [hWb]; exact World.putObj_heap_same hlt
    have hkb : Wb.heap[n]? = some (.deferred (some [])) := by rw [hWb]; exact (World.putObj_heap_other (by omega)).trans hk
    have hib : I pre Wb := by rw [hWb]; exact hIp _ _ _ _ _ hi (by omega) hl rfl
    have hpb : Kp W Wb := by rw [hWb]; exact hKb _ _ _ _ (by omega) hl rfl
    have hyl := run_yield (P := Tryz.prog) (args := encs x) hl (by rw [hrc]; exact hps x)
    rw [hrc] at hyl
    refine ⟨fn, _, assign, body, hyl, roundIn_of_wpIn hfn (hassign _ x W _ ⟨_, run_beginRound hl (by rw [hrc]), ?_⟩)⟩
    rw [← hWb]
    refine wpIn_mono (hbody _ pre x _ hib hlen) ?_
    have close : ∀ (jump : Option Code) (W3 : World), KeepsOthers Wb W3 → ∃ W4, W4 = W3.putObj (n + 1) (.loop (rc (if jump.isNone then .ready else .done) jump)) ∧ (Instr.endRound (n + 1) jump).run Tryz.prog W3 = .ok (.bool jump.isNone) W4 ∧
        (∃ o : Obj, W3.heap[n + 1]? = some o ∧ o.isCells = false) ∧ W4.heap[n + 1]? = some (.loop (rc (if jump.isNone then .ready else .done) jump)) ∧ W4.heap[n]? = some (.deferred (some [])) := fun jump W3 hk3 => by
      have hl3 := hk3.same _ _ hlb rfl
      have hr3 := run_endRound (P := Tryz.prog) jump hl3
      rw [hrc] at hr3 ⊢
      exact ⟨_, rfl, hr3, ⟨_, hl3, rfl⟩, World.putObj_heap_same (Array.getElem?_eq_some_iff.1 hl3).1, (World.putObj_heap_other (by omega)).trans (hk3.same _ _ hkb rfl)⟩
    have away : ∀ (c : Code) (W3 : World), KeepsOthers Wb W3 → Ix c (pre ++ [x]) W3 → ∃ v W4, (Instr.endRound (n + 1) (some c)).run Tryz.prog W3 = .ok v W4 ∧ v = .bool false ∧ ∃ c', Ix c' (pre ++ [x]) W4 ∧ W4.heap[n + 1]? = some (.loop (rc .done (some c'))) ∧ W4.heap[n]? = some (.deferred (some [])) := fun c W3 hk3 hi3 => by
      obtain ⟨W4, e4, hr, ⟨o, ho, hc⟩, h1, h2⟩ := close (some c) W3 hk3
      exact ⟨_, W4, hr, rfl, c, by rw [e4]; exact hIxp c _ _ _ _ _ hi3 (by omega) ho hc, h1, h2⟩
    rintro e a3 W3 hp
    cases e with
    | normal =>
      obtain ⟨hk3, hp3, hi3⟩ := hp
      obtain ⟨W4, e4, hr, ⟨o, ho, hc⟩, h1, h2⟩ := close none W3 hk3
      refine ⟨_, W4, hr, .inl ⟨rfl, ⟨?_, h1, h2⟩, hKt (hKt hpb hp3) ?_⟩⟩
      · rw [e4]; exact hIp _ _ _ _ _ hi3 (by omega) ho hc
      · rw [e4]; exact hKb _ _ _ _ (by omega) ho hc
    | ret =>
      obtain ⟨v, W4, hr, hv, h⟩ := away .ret W3 hp.1 hp.2
      exact ⟨v, W4, hr, .inr ⟨by rw [hv], h⟩⟩
    | exit id =>
      obtain ⟨v, W4, hr, hv, h⟩ := away (.exit id) W3 hp.1 hp.2
      exact ⟨v, W4, hr, .inr ⟨by rw [hv], h⟩⟩
    | goto t =>
      obtain ⟨v, W4, hr, hv, h⟩ := away (.goto t) W3 hp.1 hp.2
      exact ⟨v, W4, hr, .inr ⟨by rw [hv], h⟩⟩
    | panic ch => exact hp.elim
    | outgrown => exact hp.elim
  · rintro e W2 ⟨⟨v, rfl⟩, h⟩
    rcases h with ⟨xs, hS, hi, hl, hk⟩ | ⟨pre, hSp, c, hi, hl, hk⟩
    · have hr := run_endLoop (P := Tryz.prog) hl (by rw [hrc]; simp)
      rw [hrc] at hr
      exact ⟨none, _, hr, hdone _ xs _ (Nat.le_refl _) hS (hIp _ _ _ _ _ hi (by omega) hl rfl) ((World.putObj_heap_other (by omega)).trans hk)⟩
    · have hr := run_endLoop (P := Tryz.prog) hl (by rw [hrc]; simp)
      rw [hrc] at hr
      exact ⟨some c, _, hr, hstop _ c pre _ (Nat.le_refl _) hSp (hIxp c _ _ _ _ _ hi (by omega) hl rfl) ((World.putObj_heap_other (by omega)).trans hk)⟩

def encI (x : Int) : Array Value := #[.int .i64 x]
set_option maxRecDepth 100000 in
theorem around_any (A : Option Addr) (N c st : Nat) (w : World) : Calls Tryz.prog 81 #[.slice A N c, .int .i64 st] w fun e w' => e = .returned (.func (.func 124) #[] #[.pointer (some ⟨w.heap.size + 1, 0, none⟩), .pointer (some ⟨w.heap.size, 0, none⟩)]) ∧ Blk w' w.heap.size 34 [.slice A N c] ∧ Blk w' (w.heap.size + 1) 3 [.int .i64 st] ∧ Below w.heap.size w w' := by
  have hmf : ∀ (fn : Fn) (first cap : Array Value) (w : World), (Instr.makeFunc fn first cap).run Tryz.prog w = .ok (.func fn first cap) w := fun _ _ _ _ => rfl
  go_enter Tryz.func81, Tryz.ntmps81
  go_wp2
  go_ret
  exact ⟨rfl, (Blk.new w [.slice A N c] 34 rfl).alloc _, Blk.new (w.alloc _) [.int .i64 st] 3 (by simp), ((Below.refl _ w).alloc (Nat.le_refl _) _).alloc (by simp) _⟩
theorem least (P : Nat → Prop) : ∀ n v, v ≤ n → P v → ∃ v, P v ∧ ∀ u, u < v → ¬ P u
  | 0, v, h, hv => ⟨v, hv, fun u hu => by omega⟩
  | n + 1, v, h, hv => by
    by_cases hx : ∃ u, u < v ∧ P u
    · obtain ⟨u, hu, hp⟩ := hx
      exact least P n u (by omega) hp
    · exact ⟨v, hv, fun u hu hp => hx ⟨u, hu, hp⟩⟩
open Classical in
/-- the least number of a kind -/
noncomputable def mz (P : Nat → Prop) : Nat := if h : ∃ v, P v ∧ ∀ u, u < v → ¬ P u then Classical.choose h else 0
theorem mz_spec {P : Nat → Prop} {v : Nat} (hv : P v) : P (mz P) ∧ mz P ≤ v := by
  have h := least P v v (Nat.le_refl _) hv
  unfold mz
  rw [dif_pos h]
  have hs := Classical.choose_spec h
  refine ⟨hs.1, ?_⟩
  apply Classical.byContradiction
  intro hn
  exact hs.2 v (by omega) hv
/-- the ring's state -/
structure ArS (B : List Int) (N : Nat) (A : Option Addr) (c BB : Nat) (J : List Int → World → Prop) (pre : List Int) (wr : World) : Prop where
  j : J pre wr
  b : Blk wr BB 34 [.slice A N c]
  r : Rd .i64 wr A N c B
def ArM (B : List Int) (st N : Nat) (A : Option Addr) (c BB T : Nat) (J : List Int → World → Prop) (i : Value) (wr : World) (v : Nat) : Prop :=
  ∃ pre : List Int, v = T - pre.length ∧ i = .int .i64 (((st + pre.length) % N : Nat) : Int) ∧ ArS B N A c BB J pre wr
set_option maxRecDepth 100000 in
set_option maxHeartbeats 2000000 in
theorem ar_in (l : Nat) (B : List Int) (st N : Nat) (A : Option Addr) (c FB BB T : Nat) (hN1 : 1 ≤ N) (hN : N ≤ 100000) (hst : st < N) (Kp : World → World → Prop) (W : World)
    (hF : Blk W FB 3 [.int .i64 st]) (hB : Blk W BB 34 [.slice A N c]) (hR : Rd .i64 W A N c B)
    (hkp : ∀ X Y, Kp X Y → Blk X BB 34 [.slice A N c] → Rd .i64 X A N c B → Blk Y BB 34 [.slice A N c] ∧ Rd .i64 Y A N c B)
    (J Jx : List Int → World → Prop) (hJ : ClB J) (hJx : ClB Jx)
    (hY : ∀ pre x W1, J pre W1 → x = rgV B st N pre.length → YieldAt Fence.wide 1 Tryz.prog l (encI x) W1 fun e W' =>
      (e = .returned (.bool true) ∧ J (pre ++ [x]) W' ∧ Kp W1 W') ∨ (e = .returned (.bool false) ∧ Jx (pre ++ [x]) W'))
    (hT : ∀ pre W, J pre W → pre.length < T) (h0 : J [] W) :
    CallsIn Fence.wide 2 Tryz.prog 124 #[.func (.yield l) #[] #[], .pointer (some ⟨FB, 0, none⟩), .pointer (some ⟨BB, 0, none⟩)] W fun e W' => (∃ v, e = .returned v) ∧ ((∃ xs : List Int, False ∧ J xs W') ∨ (∃ pre, True ∧ Jx pre W')) := by
  have c1 := hF.cell (j := 0) (v := .int .i64 st) rfl
  have HKP := Lib.hid hkp
  have HT := Lib.hid hT
  have HY := Lib.hid hY
  have HS0 : Hid (ArS B N A c BB J [] W) := Lib.hid ⟨h0, hB, hR⟩
  have hm0 : (st + 0) % N = st := Nat.mod_eq_of_lt (by omega)
  clear hkp hT hF hB hR h0 hY
  refine callsIn_of_wp Tryz.func124 rfl trivial ?_ rfl
  simp only [Tryz.ntmps124, List.size_toArray, List.length_cons, List.length_nil, Nat.reduceAdd, Nat.reduceSub, Array.replicate_succ, Array.replicate_zero, List.push_toArray, List.append_toArray, List.nil_append, List.cons_append]
  gi_wp2_with fail
  gi_loopw [4] (fun i wr => ∃ v, ArM B st N A c BB T J i wr v) (fun i wr => mz (ArM B st N A c BB T J i wr))
  case atStart => exact ⟨T - 0, [], rfl, by simp only [List.length_nil]; rw [hm0], HS0.out⟩
  case round =>
    obtain ⟨v0, hv0⟩ := hrel
    have hsp := (mz_spec hv0).1
    obtain ⟨M, hM⟩ : ∃ M, M = mz (ArM B st N A c BB T J u4 wr) := ⟨_, rfl⟩
    rw [← hM] at hsp
    clear hv0 c1 HS0
    obtain ⟨pre, hMe, rfl, hS⟩ := hsp
    have hpl := HT.out pre wr hS.j
    obtain ⟨p, hp⟩ : ∃ p, p = (st + pre.length) % N := ⟨_, rfl⟩
    have hpN : p < N := by rw [hp]; exact Nat.mod_lt _ (by omega)
    have HPX := Lib.hid (show rgV B st N pre.length = gi B p by rw [hp]; rfl)
    have HPN := Lib.hid (show (p + 1) % N = (st + (pre.length + 1)) % N by rw [hp, Nat.mod_add_mod, Nat.add_assoc])
    rw [← hp] at hM ⊢
    have HM := Lib.hid hM
    clear hM
    have cB := hS.b.cell (j := 0) (v := .slice A N c) rfl
    have cj := Rd.cell hS.r (j := p) hpN
    have ixp := fun W => Rdv.ix hS.r el34 (j := p) hpN .i64 W
    obtain ⟨x, hx⟩ : ∃ x, x = gi B p := ⟨_, rfl⟩
    rw [← hx] at cj HPX
    obtain ⟨fn, tmps, assign, body, hy, hRD⟩ := HY.out pre x wr hS.j HPX.out.symm
    unfold encI at hy
    have HRD := Lib.hid hRD
    have HSB := Lib.hid hS.b
    have HSR := Lib.hid hS.r
    obtain ⟨r, hr⟩ : ∃ r, r = (p + 1) % N := ⟨_, rfl⟩
    have hrw : IntKind.i64.wrap ((p : Int) + 1) = (p : Int) + 1 := by rw [IntKind.wrap_i64]; omega
    have hrm : ((p : Int) + 1).tmod (N : Int) = (r : Int) := by rw [Int.tmod_eq_emod_of_nonneg (by omega), hr]; rfl
    have hre : ((p : Int) + 1) % (N : Int) = (r : Int) := by rw [hr]; rfl
    have hrN : r < N := by rw [hr]; exact Nat.mod_lt _ (by omega)
    have hrw2 : IntKind.i64.wrap (r : Int) = (r : Int) := by rw [IntKind.wrap_i64]; omega
    have hN0 : ¬ N = 0 := by omega
    have HR := Lib.hid hr
    clear hRD hS hp hx hr
    gi_wp2_with fail
    refine HRD.out.mono ?_
    rintro e W7 (⟨rfl, hJ7, hk7⟩ | ⟨rfl, hJx7⟩)
    · obtain ⟨hb7, hr7⟩ := HKP.out _ _ hk7 HSB.out HSR.out
      have cB7 := hb7.cell (j := 0) (v := .slice A N c) rfl
      have HN7 : Hid (ArM B st N A c BB T J (.int .i64 (r : Int)) W7 (T - (pre.length + 1))) := Lib.hid ⟨pre ++ [x], by simp, by rw [HR.out, HPN.out]; simp, hJ7, hb7, hr7⟩
      clear hb7 hr7 hk7
      gi_wp2
      go_roundw
      case rel => exact ⟨_, HN7.out⟩
      case measure =>
        have h9 := (mz_spec HN7.out).2
        have h8 := HM.out
        omega
    · gi_wp2
      go_end0
      exact ⟨⟨_, rfl⟩, .inr ⟨_, trivial, hJx7⟩⟩
end Go.Proofs.YtpdalbckmfadbaaGreat.Cr

namespace Go.Proofs.YtpdalbckmfadbaaGreat.Cr
open Go.RowKit Go.Shelf
set_option linter.unusedVariables false
attribute [local go_sem] Oper.semAt_some
section
variable {P : Program} {w : World} {n : Nat} {e : TypeId}
theorem callR {l n g : Nat} {args : Array Value} {W : World} {Q : Ending → World → Prop} (h : Calls P g args W Q) : Fence.wide.fn g ∧ CallsIn (Fence.wide.inRound l) n P g args W Q := ⟨trivial, CallsIn.inRound l (callsIn_wide.2 h)⟩
/-- an append in a round -/
theorem listAp {P : Program} {Q : Exit → Act → World → Prop} {n l : Nat} {ops : Array Oper} {rest : List Oper} {a : Act} {w : World} {d : Option Tmp} {aa : Array Operand} {ts : Array TypeId} {t : TypeId} {ps : String} {af : Array Edge} (hL : ¬ LetsOut Q)
    (h : ∀ K : Act → World → Prop, (∀ a w, wpListIn (Fence.wide.inRound l) n P ops Q rest a w → K a w) → ({ dst := d, op := .call { callee := .builtin .append, args := aa, argTypes := ts }, type := t, pos := ps, after := af, guard := none } : Oper).wp P a w K Q) :
    wpListIn (Fence.wide.inRound l) n P ops Q ({ dst := d, op := .call { callee := .builtin .append, args := aa, argTypes := ts }, type := t, pos := ps, after := af, guard := none } :: rest) a w := listRn_of rfl nofun hL h
/-- make with length 0 -/
theorem wp_mk0 {o : Oper} {a : Act} {K : Act → World → Prop} {Q : Exit → Act → World → Prop} (l r : Operand) (t : TypeId)
    (ho : o.op = .makeSlice t l r) {z : Value} {bytes : Nat} (hE : El P t e z bytes) {kl kr : IntKind} (hs : a.eval l = .int kl 0) (hx : a.eval r = .int kr (n : Int))
    (hby : bytes * n ≤ 281474976710656) (hm : n ≤ maxLen)
    (h : ∀ A w', Ownv e w' w.heap.size A 0 n [] → Below w.heap.size w w' → K (a.put o.dst (.slice A 0 n)) w') : o.wp P a w K Q := by
  obtain ⟨i, hi, hz0, hz1, hz2⟩ := info_parts hE.i
  have hb' : ((bytes : Nat) : Int) * (n : Int) ≤ 281474976710656 := by
    have h' : ((bytes * n : Nat) : Int) ≤ 281474976710656 := by omega
    rwa [Int.natCast_mul] at h'
  have hr := run_make (P := P) w t e i z hE.u hi hz0 kl kr 0 n (by omega) (by omega) (by rw [hz2]; exact hb') (by unfold maxLen at hm; omega)
  simp only [Int.toNat_natCast, Int.toNat_zero] at hr
  unfold Oper.wp
  simp only [execOp, ho, Sem.run_bind, Sem.run_pure, Result.andThen_ok, hs, hx, hr]
  have h2 := World.ownsRow_lit (e := e) (size := 1) w (madeCells z.cells (n * i.size)) n (Nat.le_refl _) hm (by rw [size_madeCells, hz1])
  rw [hz1, hE.z1, Nat.mul_one] at h2 ⊢
  refine h _ _ ?_ ((Below.refl _ _).alloc (Nat.le_refl _) _)
  have h3 : Ownv e (w.alloc (.cells (madeCells #[z] n) e)) w.heap.size (some ⟨w.heap.size, 0, none⟩) n n (madeCells #[z] n).toList := ⟨h2⟩
  exact h3.upto (Nat.zero_le _)
end
theorem Rdv.keepN {B OB : Nat} {W W' : World} {A : Option Addr} {n c : Nat} {vs : List Value} (h : Rdv W A n c vs) (hk : KpN B OB W W') (hA : A ≠ none → blk A ≠ OB ∧ blk A < B) : Rdv W' A n c vs := by
  by_cases hc : 0 < c
  · obtain ⟨b, o, rfl, hb⟩ := h.ptr hc
    have h1 := hA (by simp)
    refine ⟨h.len, h.le, h.cm, h.nil, h.spot, fun _ a ha => Nat.lt_of_lt_of_le (h.lt hc a ha) hk.1, fun j v hj => ?_⟩
    rw [← h.at_ j v hj]
    exact World.cell?_of_block (hk.2 b h1.2 h1.1)
  · have h1 := h.le
    have h2 := h.len
    obtain rfl : vs = [] := List.eq_nil_of_length_eq_zero (by omega)
    exact ⟨h.len, h.le, h.cm, h.nil, fun h9 => absurd h9 hc, fun h9 => absurd h9 hc, by simp⟩
/-- the ring's own memory stays -/
def ArKp (BB : Nat) (A : Option Addr) (N c : Nat) (B : List Int) (X Y : World) : Prop := (Blk X BB 34 [.slice A N c] → Blk Y BB 34 [.slice A N c]) ∧ (Rd .i64 X A N c B → Rd .i64 Y A N c B)
theorem ArKp.rfl' {BB : Nat} {A : Option Addr} {N c : Nat} {B : List Int} {X : World} : ArKp BB A N c B X X := ⟨id, id⟩
theorem ArKp.trans {BB : Nat} {A : Option Addr} {N c : Nat} {B : List Int} {X Y Z : World} (h : ArKp BB A N c B X Y) (k : ArKp BB A N c B Y Z) : ArKp BB A N c B X Z := ⟨fun x => k.1 (h.1 x), fun x => k.2 (h.2 x)⟩
theorem ArKp.put {BB : Nat} {A : Option Addr} {N c : Nat} {B : List Int} {W : World} {D l : Nat} (o' : Obj) (hB : BB < D) (hA : A ≠ none → blk A < D) (hl : D ≤ l) : ArKp BB A N c B W (W.putObj l o') :=
  ⟨fun h => (World.putObj_heap_other (by omega)).trans h, fun h => Rdv.grown0 h (grownBy_putObj' W l o') (fun hc e => by
    obtain ⟨b, o, rfl, hb⟩ := h.ptr hc
    have h2 := hA (by simp)
    rw [Option.some.injEq] at e
    omega)⟩
theorem ar_seq (B : List Int) (st N : Nat) (A : Option Addr) (c FB BB T : Nat) (hN1 : 1 ≤ N) (hN : N ≤ 100000) (hst : st < N) (w : World)
    (hF : Blk w FB 3 [.int .i64 st]) (hB : Blk w BB 34 [.slice A N c]) (hR : Rd .i64 w A N c B) :
    SeqF 2 124 #[.pointer (some ⟨FB, 0, none⟩), .pointer (some ⟨BB, 0, none⟩)] encI (ArKp BB A N c B) (fun _ => False) (fun _ => True) (fun pre x => x = rgV B st N pre.length) T w :=
  fun l J Jx W hb hJ hJx hY hT h0 => ar_in l B st N A c FB BB T hN1 hN hst (ArKp BB A N c B) W (hF.below hb) (hB.below hb) (Rdv.below hR hb)
    (fun X Y hk hbx hrx => ⟨hk.1 hbx, hk.2 hrx⟩) J Jx hJ hJx hY hT h0
/-- while positions are collected -/
structure PsK (w : World) (Bz : Nat) (B : List Int) (st N OB EB e : Nat) (t : Nat) (W : World) : Prop where
  o : ∃ A c, Blk W OB 34 [.slice A (selL B st N t).length c] ∧ Own .i64 3 W Bz A (selL B st N t).length c (selL B st N t)
  eb : Blk W EB 3 [.int .i64 e]
  bl : Below w.heap.size w W
  hs : Bz ≤ W.heap.size
theorem PsK.clB {w : World} {Bz : Nat} {B : List Int} {st N OB EB e : Nat} {W W' : World} {t : Nat} (h : PsK w Bz B st N OB EB e t W) (hb : Below W.heap.size W W') : PsK w Bz B st N OB EB e t W' := by
  obtain ⟨A, c, h1, h2⟩ := h.o
  exact ⟨⟨A, c, h1.below hb, Ownv.below h2 hb⟩, h.eb.below hb, h.bl.trans (hb.mono h.bl.size), Nat.le_trans h.hs hb.size⟩
theorem PsK.clP {w : World} {Bz Bq : Nat} {B : List Int} {st N OB EB e : Nat} {W : World} {t l : Nat} {o : Obj} (h : PsK w Bz B st N OB EB e t W) (o' : Obj) (hw : w.heap.size ≤ Bq) (hl : Bq ≤ l) (hk : W.heap[l]? = some o) (ho : o.isCells = false) : PsK w Bz B st N OB EB e t (W.putObj l o') := by
  obtain ⟨A, c, h1, h2⟩ := h.o
  have hg := grownBy_putObj' W l o'
  exact ⟨⟨A, c, h1.put o' hk ho, Ownv.put h2 o' hk ho⟩, h.eb.put o' hk ho, h.bl.grown hg h.bl.size (fun k e => by cases e; omega), Nat.le_trans h.hs hg.size⟩
/-- one more position -/
theorem PsK.next {w W W2 : World} {Bz : Nat} {B : List Int} {st N OB EB e t : Nat} (h : PsK w Bz B st N OB EB e t W) {A A2 : Option Addr} {c c2 : Nat} {x : Int} (hw : w.heap.size ≤ Bz) (hwO : w.heap.size ≤ OB) (hEO : EB ≠ OB) (hEB : EB < Bz) (hx : x = rgV B st N t) (hx0 : 0 ≤ x)
    (hX : Blk W OB 34 [.slice A (selL B st N t).length c]) (hO : Own .i64 3 W Bz A (selL B st N t).length c (selL B st N t))
    (hO2 : Ownv 3 W2 Bz A2 ((selL B st N t).length + 1) c2 ((selL B st N t).map (Value.int .i64) ++ [.int .i64 x])) (hg : W.grownBy W2 ((Value.slice A (selL B st N t).length c).ownBlock)) :
    KeepsOthers W (W2.setCell ⟨OB, 0, none⟩ (.slice A2 ((selL B st N t).length + 1) c2)) ∧ (∀ BB AA N' c', BB ≠ OB → (AA ≠ none → blk AA ≠ OB ∧ blk AA < Bz) → ArKp BB AA N' c' B W (W2.setCell ⟨OB, 0, none⟩ (.slice A2 ((selL B st N t).length + 1) c2))) ∧ PsK w Bz B st N OB EB e (t + 1) (W2.setCell ⟨OB, 0, none⟩ (.slice A2 ((selL B st N t).length + 1) c2)) := by
  have hob : ∀ k, (Value.slice A (selL B st N t).length c).ownBlock = some k → Bz ≤ k := fun k hk => Ownv.ob' hO hk
  have hx2 : Blk W2 OB 34 [.slice A (selL B st N t).length c] := hX.grown hg (blk_ne_row hX hO (by decide))
  have hg2 := grownBy_set W2 OB 0 (.slice A2 ((selL B st N t).length + 1) c2)
  have hs1 : selL B st N (t + 1) = selL B st N t ++ [x] := by rw [hx] at hx0 ⊢; exact selL_step hx0
  have hl1 : (selL B st N (t + 1)).length = (selL B st N t).length + 1 := by rw [hs1, List.length_append]; rfl
  have hO2' : Own .i64 3 W2 Bz A2 (selL B st N (t + 1)).length c2 (selL B st N (t + 1)) := by
    rw [hl1, hs1]; unfold Own; simpa using hO2
  have hbd := h.bl
  have hs := h.hs
  refine ⟨KeepsOthers.trans (KeepsOthers.of_grownBy hg (fun j o hj => row_cells hO j o hj)) (KeepsOthers.setCell _ _ _), ?_, ⟨⟨A2, c2, by rw [hl1]; exact hx2.set 0 _, own_set_blk hx2 hO2' (by decide) 0 _⟩, ?_, ?_, ?_⟩⟩
  · intro BB AA N' c' hBO hAO
    have hk := KpN.trans (KpN.grown hg (fun r hr => .inr (hob r hr)) hs) (KpN.grown hg2 (fun r hr => .inl (Option.some.inj hr).symm) (Nat.le_trans hs hg.size))
    exact ⟨fun hB => (hB.grown hg (blk_ne_row hB hO (by decide))).other (fun e => hBO e.symm) 0 _, fun hR => Rdv.keepN hR hk hAO⟩
  · exact (h.eb.grown hg (fun e => by have := hob _ e.symm; omega)).other (fun e => hEO e.symm) 0 _
  · exact (hbd.grown hg hbd.size (fun k hk => Nat.le_trans hw (hob k hk))).grown hg2 (Nat.le_trans hbd.size hg.size) (fun k hk => by cases hk; exact hwO)
  · exact Nat.le_trans hs (Nat.le_trans hg.size hg2.size)
theorem PsK.skip {w W : World} {Bz : Nat} {B : List Int} {st N OB EB e t : Nat} (h : PsK w Bz B st N OB EB e t W) (hx : rgV B st N t < 0) : PsK w Bz B st N OB EB e (t + 1) W := by
  obtain ⟨h1, h2, h3, h4⟩ := h
  exact ⟨by rw [selL_skip hx]; exact h1, h2, h3, h4⟩
/-- what Positions gives -/
def PoPost (B : List Int) (st N e : Nat) (w : World) (en : Ending) (w' : World) : Prop :=
  Below w.heap.size w w' ∧ ((e ≠ 0 ∧ usC B = 0 ∧ en = .returned (.tuple #[.slice none 0 0, .int .i64 10])) ∨
    ((e = 0 ∨ usC B ≠ 0) ∧ ∃ A c T, (selL B st N T).length = e ∧ en = .returned (.tuple #[.slice A e c, .int .i64 0]) ∧ Own .i64 3 w' w.heap.size A e c (selL B st N T)))
set_option maxRecDepth 100000 in
set_option maxHeartbeats 4000000 in
theorem positions_any (k f rv e : Nat) (lim : Int) (w : World) (h1 : 40 ≤ k) (h2 : k ≤ 6144) (hf : f < k) (hl : 1 ≤ lim) (hrv : rv ≤ 3) (he : e ≤ 131072) :
    Calls Tryz.prog 34 #[.int .i64 k, .int .i64 f, .int .i64 lim, .int .i64 rv, .int .i64 e] w (PoPost ((bufL k f).take (szB k lim)) (stS k (szB k lim) rv) (szB k lim) e w) := by
  have HOF := Lib.hid (fun W => rof_ok k f lim W h1 h2 hf hl)
  have hzb := szB_bd k hl
  have hN := nB_le h2
  have HBF := Lib.hid (fun W => buf0_ok k f (szB k lim) W h1 h2 hzb.2)
  have hZ1 := hzb.1
  have hZ2 : szB k lim ≤ 20000 := by omega
  have HST := Lib.hid (fun W => start_any k f (szB k lim) rv W h2 hZ1 hZ2 hrv)
  have hst : stS k (szB k lim) rv < szB k lim := Nat.mod_lt _ (by omega)
  have hBl : ((bufL k f).take (szB k lim)).length = szB k lim := by rw [List.length_take, show (bufL k f).length = 3 * nB k from by unfold bufL; exact bufT_len _ _ _]; omega
  clear h1 h2 hf hl
  generalize (bufL k f).take (szB k lim) = B at *
  generalize stS k (szB k lim) rv = st at *
  generalize szB k lim = Z at *
  generalize nB k = M at *
  generalize rwS (k + 4) = R at *
  refine (callsIn_wide (n := 3)).1 ?_
  refine callsIn_of_wp_marks Tryz.func34 rfl trivial ?_
  simp only [Tryz.ntmps34, List.size_toArray, List.length_cons, List.length_nil, Nat.reduceAdd, Nat.reduceSub, Array.replicate_succ, Array.replicate_zero, List.push_toArray, List.append_toArray, List.nil_append, List.cons_append]
  refine wpIn_wide.2 ?_
  have HE0 := Lib.hid (Blk.new w [.int .i64 e] 3 rfl)
  have HB0 := Lib.hid (bal (Below.refl _ w) (.cells [Value.int .i64 e].toArray 3))
  go_wp2_with fail
  refine wp_scope_straight ?_
  go_wp2_with fail
  refine (HOF.out _).mono ?_
  rintro en w1 ⟨rfl, hB1⟩
  have HE1 := Lib.hid ((HE0.out.below hB1).alloc (.cells #[.int .i64 k, .int .i64 f, .int .i64 R, .int .i64 Z] 112))
  have HW1 := Lib.hid (Blk.new w1 [.int .i64 k, .int .i64 f, .int .i64 R, .int .i64 Z] 112 rfl)
  have HB1 := Lib.hid (bal (HB0.out.trans (hB1.mono HB0.out.size)) (.cells #[.int .i64 k, .int .i64 f, .int .i64 R, .int .i64 Z] 112))
  have HEW : Hid (w.heap.size < w1.heap.size) := Lib.hid ((HE0.out.below hB1).lt)
  have hW1 := HW1.out
  have cE := HE1.out.cell (j := 0) (v := .int .i64 e) rfl
  clear hB1 HE0 HB0
  have q1 : decide ((rv : Int) < 0) = false := by first | (simp; done) | (simp; omega)
  have q2 : decide ((rv : Int) > 3) = false := by simp; omega
  have q3 : decide ((e : Int) < 0) = false := by first | (simp; done) | (simp; omega)
  have q4 : decide ((e : Int) > 131072) = false := by simp; omega
  go_wp2_with (refine ldrow (cs := [.int .i64 k, .int .i64 f, .int .i64 R, .int .i64 Z]) rfl 112 (.tmp 12) rfl rfl hW1 _ Tryz.underlying112 rfl info122 ?_)
  refine (HBF.out _).mono ?_
  rintro en w2 ⟨Ab, rfl, hR, hB2⟩
  have HR2 := Lib.hid hR
  have HE2 := Lib.hid (HE1.out.below hB2)
  have HW2 := Lib.hid (HW1.out.below hB2)
  have HB2 := Lib.hid (HB1.out.trans (hB2.mono HB1.out.size))
  have HWZ : Hid (w1.heap.size < w2.heap.size) := Lib.hid HW2.out.lt
  have cE2 := HE2.out.cell (j := 0) (v := .int .i64 e) rfl
  clear hR hB2 hW1 cE HE1 HW1 HB1
  by_cases he0 : e = 0
  · subst he0
    go_wp2_with fail
    exact ⟨_, results_tmp2 rfl _ _ _, HB2.out, .inr ⟨.inl rfl, none, 0, 0, rfl, rfl, Own.nilv _ _ _ _⟩⟩
  · have q5 : ((e : Int) == 0) = false := beq_f (by omega)
    have HNE := Lib.hid he0
    have HCF := Lib.hid (cfu_any Ab Z (3 * M) B w2 HR2.out (by omega))
    by_cases hu : usC B = 0
    · rw [decide_eq_false (by simpa using hu)] at HCF
      have HU := Lib.hid hu
      clear hu he0
      go_wp2_with fail
      refine HCF.out.mono ?_
      rintro en w3 ⟨rfl, rfl⟩
      go_wp2_with fail
      exact ⟨_, results_tmp2 rfl _ _ _, HB2.out, .inl ⟨HNE.out, HU.out, rfl⟩⟩
    · rw [decide_eq_true hu] at HCF
      have HU := Lib.hid hu
      obtain ⟨jj, hjj, hju⟩ := usC_ne.1 hu
      have HJ := Lib.hid (show jj < Z ∧ 0 ≤ gi B jj from ⟨by omega, hju⟩)
      clear hu he0 hjj hju
      go_wp2_with fail
      refine HCF.out.mono ?_
      rintro en w3 ⟨rfl, rfl⟩
      have hW2 := HW2.out
      go_wp2_with (first
        | (at_make; refine list_of rfl fun K hK => wp_mk0 (n := e) (kl := .i64) (kr := .i64) _ _ 34 rfl el34 rfl rfl (by omega) (by unfold maxLen; omega) ?_; intro A4 w4 hO4 hB4; have HO4 := Lib.hid hO4; have hW4 := (hW2.below hB4).alloc (.cells #[.slice A4 0 e] 34); have HE4 := Lib.hid ((HE2.out.below hB4).alloc (.cells #[.slice A4 0 e] 34)); have HB4 := Lib.hid hB4; clear hO4 hB4; refine hK _ _ ?_; clear hK K)
        | go_step3
        | (refine ldrow (cs := [.int .i64 k, .int .i64 f, .int .i64 R, .int .i64 Z]) rfl 112 (.tmp 12) rfl rfl hW4 _ Tryz.underlying112 rfl info122 ?_))
      have HBA : Hid (Ab ≠ none → blk Ab < w2.heap.size) := Lib.hid (fun hA => by
        obtain ⟨p, hp⟩ := Option.ne_none_iff_exists'.1 hA
        rw [hp]; exact HR2.out.lt (by omega) p hp)
      refine (HST.out _).mono ?_
      rintro en w5 ⟨rfl, hB5⟩
      have HO5 := Lib.hid (Ownv.below (Ownv.alloc HO4.out (.cells #[.slice A4 0 e] 34)) hB5)
      have HX5 := Lib.hid ((Blk.new w4 [.slice A4 0 e] 34 rfl).below hB5)
      have HE5 := Lib.hid (HE4.out.below hB5)
      have HA5 := Lib.hid (Below.trans (bal HB4.out (.cells #[.slice A4 0 e] 34)) (hB5.mono (bal HB4.out (.cells #[.slice A4 0 e] 34)).size))
      have HS4 := Lib.hid HB4.out.size
      have HS5 := Lib.hid HX5.out.lt
      clear hB5
      go_wp2_with fail
      refine (around_any _ _ _ _ _).mono ?_
      rintro en w6 ⟨rfl, hb6, hf6, hB6⟩
      have HO6 := Lib.hid (Ownv.below HO5.out hB6)
      have HX6 := Lib.hid (HX5.out.below hB6)
      have HE6 := Lib.hid (HE5.out.below hB6)
      have HA6 := Lib.hid (HA5.out.trans (hB6.mono HA5.out.size))
      have HBB := Lib.hid hb6
      have HR6 := Lib.hid (Rdv.below HR2.out HA6.out)
      have HSL := Lib.hid hf6.lt
      have HFB := Lib.hid hf6
      clear hB6 hb6 hf6
      have HSEQ := Lib.hid (ar_seq B st Z Ab (3 * M) (w5.heap.size + 1) w5.heap.size (e * Z) (by omega) (by omega) hst w6 HFB.out HBB.out HR6.out)
      have HK : Hid (PsK w w2.heap.size B st Z w4.heap.size w.heap.size e 0 w6) := Lib.hid ⟨⟨A4, e, HX6.out, HO6.out⟩, HE6.out, HB2.out.trans (HA6.out.mono HB2.out.size), HA6.out.size⟩
      have HIT : Hid (∀ t, (selL B st Z t).length < e → t < e * Z) := Lib.hid (fun t ht => selL_lt HJ.out.1 HJ.out.2 ht)
      have HST := HWZ.out
      have HS4' := HS4.out
      have HS5' := HS5.out
      have HSL' := HSL.out
      have HEW' := HEW.out
      clear HO4 HO5 HX5 HE5 HA5 HO6 HX6 HE6 HR6 HBB HFB cE2 hW4 HE4 HCF HJ
      go_wp2_with fail
      refine (wpIn_wide (n := 3)).1 ?_
      refine' rangeF (w0 := w6) (gf := 124) (lb := #[.pointer (some ⟨w5.heap.size + 1, 0, none⟩), .pointer (some ⟨w5.heap.size, 0, none⟩)]) (T := e * Z) rfl (enters_of Tryz.func124 (by kernel_rfl) rfl) HSEQ.out ArKp.trans
        (fun W l o o' hl h1 h2 => ArKp.put o' (by omega) (fun hA => by have := HBA.out hA; omega) hl) (Below.refl _ _) (fun _ => rfl)
        (fun pre W => PsK w w2.heap.size B st Z w4.heap.size w.heap.size e pre.length W ∧ (selL B st Z pre.length).length < e)
        (fun c pre W => c = .exit 1 ∧ PsK w w2.heap.size B st Z w4.heap.size w.heap.size e pre.length W ∧ (selL B st Z pre.length).length = e)
        (fun s X Y h hb => ⟨h.1.clB hb, h.2⟩) (fun c s X Y h hb => ⟨h.1, h.2.1.clB hb, h.2.2⟩)
        (fun s X l o o' h hl hk ho => ⟨h.1.clP o' (by omega) hl hk ho, h.2⟩) (fun c s X l o o' h hl hk ho => ⟨h.1, h.2.1.clP o' (by omega) hl hk ho, h.2.2⟩)
        (fun pre W h => HIT.out _ h.2) ⟨HK.out, Nat.pos_of_ne_zero HNE.out⟩ _ ?assign ?body ?done ?stop
      case assign =>
        intro l x W K hK
        unfold encI
        gi_wp2
        exact hK
      case done =>
        rintro D xs W hD h
        exact h.elim
      case stop =>
        rintro D c pre W hD _ ⟨rfl, hI, hlen⟩ hK
        obtain ⟨A, c, hx, hO⟩ := hI.o
        have cO := hx.cell (j := 0) (v := .slice A (selL B st Z pre.length).length c) rfl
        have HO9 := Lib.hid (Ownv.mono (Ownv.put hO (.deferred none) hK rfl) (show w.heap.size ≤ w2.heap.size by omega))
        have HB9 := Lib.hid (hI.bl.grown (grownBy_putObj' W D (.deferred none)) hI.bl.size (fun k e => by cases e; omega))
        have HLE := Lib.hid hlen
        rw [hlen] at cO
        clear hO hx hI
        refine wpIn_exit ?_
        go_wp2
        refine ⟨by simp, .inl ⟨_, _, rfl, run_takeDeferred hK, ?_⟩⟩
        refine ⟨_, results_tmp2 rfl _ _ _, HB9.out, .inr ⟨.inr HU.out, A, c, pre.length, HLE.out, rfl, ?_⟩⟩
        have := HO9.out
        rw [HLE.out] at this
        exact this
      case body =>
        rintro l pre x W ⟨hI, hlt⟩ rfl
        have hpl : ∀ x : Int, (pre ++ [x]).length = pre.length + 1 := fun x => by simp
        have HUS := Lib.hid (usable_any (rgV B st Z pre.length) W)
        by_cases h0 : 0 ≤ rgV B st Z pre.length
        · obtain ⟨A, c, hx, hO⟩ := hI.o
          rw [decide_eq_true h0] at HUS
          obtain ⟨x, hxe⟩ : ∃ x, x = rgV B st Z pre.length := ⟨_, rfl⟩
          have HI := Lib.hid hI
          have HXE := Lib.hid hxe
          have HXP := Lib.hid (show 0 ≤ x by rw [hxe]; exact h0)
          have cO := hx.cell (j := 0) (v := .slice A (selL B st Z pre.length).length c) rfl
          have hne := blk_ne_row hx hO (by decide)
          have HX := Lib.hid hx
          have HO := Lib.hid hO
          rw [← hxe] at HUS ⊢
          have hsz := hI.hs
          have HPL := Lib.hid hpl
          have HML := Lib.hid (show (selL B st Z (pre.length + 1)).length = (selL B st Z pre.length).length + 1 by rw [selL_step h0, List.length_append]; rfl)
          clear hI hx hO h0 hxe hpl
          gi_wp2_with (first
            | ((with_reducible refine callR ?_); refine HUS.out.mono ?_; rintro en W1 ⟨rfl, rfl⟩)
            | ((with_reducible refine listAp ?hL ?hh); (case hL => exact fun ⟨_, _, h⟩ => h); intro K hK; refine wp_app1 (w := W) (base := w2.heap.size) _ _ 34 rfl el34 rfl (.int .i64 x) rfl rfl HO.out (by omega) (by omega) hsz ?_; intro A2 c2 W2 hO2 hg2; have HN := Lib.hid (PsK.next HI.out (by omega) (by omega) (by omega) (by omega) HXE.out HXP.out HX.out HO.out hO2 hg2); have hx2 := HX.out.grown hg2 hne; have c2' := hx2.cell (j := 0) (v := .slice A (selL B st Z pre.length).length c) rfl; have f2' := hx2.frozen 0; have cE3 := HN.out.2.2.eb.cell (j := 0) (v := .int .i64 e) rfl; clear hO2 hg2; refine hK _ _ ?_; clear hK K))
          all_goals (rename_i hq)
          all_goals (first
            | (refine ⟨HN.out.1, HN.out.2.1 _ _ _ _ (by omega) (fun hA => ⟨by have := HBA.out hA; omega, HBA.out hA⟩), ?_⟩
               show PsK _ _ _ _ _ _ _ _ (pre ++ [_]).length _ ∧ (selL B st Z (pre ++ [_]).length).length < e
               rw [HPL.out]
               exact ⟨HN.out.2.2, by rw [HML.out]; have h9 := beq_eq_false_iff_ne.1 hq; omega⟩)
            | (refine ⟨HN.out.1, rfl, ?_⟩
               show PsK _ _ _ _ _ _ _ _ (pre ++ [_]).length _ ∧ (selL B st Z (pre ++ [_]).length).length = e
               rw [HPL.out]
               exact ⟨HN.out.2.2, by rw [HML.out]; have h9 := eq_of_beq hq; omega⟩))
        · rw [decide_eq_false h0] at HUS
          have HI := Lib.hid hI
          have HLT := Lib.hid hlt
          have H0 : Hid (rgV B st Z pre.length < 0) := Lib.hid (by omega)
          have HPL := Lib.hid hpl
          clear hI h0 hlt hpl
          generalize hgx : rgV B st Z pre.length = x at *
          gi_wp2_with ((with_reducible refine callR ?_); refine HUS.out.mono ?_; rintro en W1 ⟨rfl, rfl⟩)
          refine ⟨KeepsOthers.refl _, ArKp.rfl', ?_⟩
          show PsK _ _ _ _ _ _ _ _ (pre ++ [_]).length _ ∧ _
          rw [HPL.out, selL_skip (by rw [hgx]; exact H0.out)]
          exact ⟨PsK.skip HI.out (by rw [hgx]; exact H0.out), HLT.out⟩
end Go.Proofs.YtpdalbckmfadbaaGreat.Cr

namespace Go.Proofs.YtpdalbckmfadbaaGreat.Cr
open Go.RowKit Go.Shelf
set_option linter.unusedVariables false
attribute [local go_sem] Oper.semAt_some
end Go.Proofs.YtpdalbckmfadbaaGreat.Cr

namespace Go.Proofs.YtpdalbckmfadbaaGreat.Cr
open Go.RowKit Go.Shelf
set_option linter.unusedVariables false
attribute [local go_sem] Oper.semAt_some
set_option maxRecDepth 100000 in
theorem inv4_any (b : Int) (w : World) : Calls Tryz.prog 36 #[.int .u8 b] w fun e w' => e = .returned (.bool (decide (1 < b))) ∧ w = w' := by
  go_enter Tryz.func36, Tryz.ntmps36
  go_wp2
  go_wp2
  go_ret
  exact ⟨rfl, rfl⟩
set_option maxRecDepth 100000 in
set_option maxHeartbeats 400000 in
theorem idx4_any (A : Option Addr) (n c : Nat) (xs : List Int) (w : World) (h : Rd .u8 w A n c xs) :
    Calls Tryz.prog 82 #[.slice A n c, .func (.func 36) #[] #[]] w (IdxPost xs w) := by
  have hbd := h.bd.1
  go_enter Tryz.func82, Tryz.ntmps82
  go_wp2
  go_loop [8] (fun i => IdxInv n xs i) (fun i => n - (intOf i).toNat)
  case atStart => exact ⟨0, by omega, rfl, by intro q hq; omega⟩
  case round =>
    obtain ⟨j, hj, rfl, hv⟩ := hrel
    by_cases hlt : j < n
    · have hc := Rd.cell h hlt
      have hix := fun W => Rdv.ix h el53 hlt .i64 W
      have HV := Lib.hid hv; clear hv
      by_cases h1 : gi xs j ≤ 1
      · have h1' : decide (1 < gi xs j) = false := by simp; omega
        go_wp2_with (go_at_call 36; refine (inv4_any _ _).mono ?_; rintro e w' ⟨rfl, rfl⟩)
        go_round
        case rel => exact ⟨j + 1, by omega, by go_num, fun q hq => lt_succ_cases HV.out h1 q hq⟩
        case measure => simp [intOf]; omega
      · have h1' : decide (1 < gi xs j) = true := by simp; omega
        have hf := Lib.hid (validB_f (by rw [h.len]; exact hlt) (by omega : 1 < gi xs j))
        go_wp2_with (go_at_call 36; refine (inv4_any _ _).mono ?_; rintro e w' ⟨rfl, rfl⟩)
        go_ret
        exact ⟨_, rfl, by rw [hf.out]; simp, rfl⟩
    · have hf := Lib.hid (validB_t (xs := xs) (by rw [h.len]; intro q hq; exact hv q (by omega)))
      go_wp2
      go_ret
      exact ⟨_, rfl, by rw [hf.out]; simp, rfl⟩
set_option maxRecDepth 100000 in
theorem contains4_any (A : Option Addr) (n c : Nat) (xs : List Int) (w : World) (h : Rd .u8 w A n c xs) :
    Calls Tryz.prog 35 #[.slice A n c, .func (.func 36) #[] #[]] w fun e w' => e = .returned (.bool (!ValidB xs)) ∧ w = w' := by
  go_enter Tryz.func35, Tryz.ntmps35
  go_wp2_with (go_at_call 82; refine (idx4_any A n c xs w h).mono ?_; rintro e w' ⟨r, rfl, hr, rfl⟩)
  go_ret
  refine ⟨ret_bool ?_, rfl⟩
  cases hv : ValidB xs <;> simp_all
end Go.Proofs.YtpdalbckmfadbaaGreat.Cr

