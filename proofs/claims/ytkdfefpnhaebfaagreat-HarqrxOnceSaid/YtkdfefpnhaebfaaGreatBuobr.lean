/- Bundle. Conditions: none. -/
import Derived.Test.YtkdfefpnhaebfaaGreatBuobp
import Derived.Test.YtkdfefpnhaebfaaGreatBuobk
set_option linter.unusedVariables false
set_option linter.unusedSimpArgs false
namespace Go.Proofs.YtkdfefpnhaebfaaGreat.Cr
open Go.RowKit Go.Shelf
attribute [local go_sem] Oper.semAt_some
set_option maxRecDepth 100000
set_option maxHeartbeats 4000000
def SeqK {α : Type} (m gf : Nat) (fa lb : Array Value) (encs : α → Array Value) (Kp : World → World → Prop) (S Sp : List α → Prop) (Ok : List α → α → Prop) (w : World) : Prop :=
 ∀ (l : Nat) (J Jx : List α → World → Prop) (W : World), Below w.heap.size w W → ClB J → ClB Jx →
  (∀ pre x W1, J pre W1 → Ok pre x → YieldAt Fence.wide (m - 1) Tryz.prog l (encs x) W1 fun e W' =>
    (e = .returned (.bool true) ∧ J (pre ++ [x]) W' ∧ Kp W1 W') ∨ (e = .returned (.bool false) ∧ Jx (pre ++ [x]) W')) →
  J [] W →
  CallsIn Fence.wide m Tryz.prog gf (fa ++ #[.func (.yield l) #[] #[]] ++ lb) W fun e W' => (∃ v, e = .returned v) ∧ ((∃ xs, S xs ∧ J xs W') ∨ (∃ pre, Sp pre ∧ Jx pre W'))
theorem rangeK {α : Type} {g : Operand} {ps : Array Tmp} {assign body : Code} {Q : Exit → Act → World → Prop} {a : Act} {w : World}
 {gf : Nat} {fa lb : Array Value} (hg : a.eval g = .func (.func gf) fa lb) (eg : ∀ args w, (callFunc gf args).run Tryz.prog w = .ok (.enter gf args) w)
 {encs : α → Array Value} {Kp : World → World → Prop} {S Sp : List α → Prop} {Ok : List α → α → Prop} {w0 : World} (hseq : SeqK 2 gf fa lb encs Kp S Sp Ok w0)
 (hKt : ∀ {A B C : World}, Kp A B → Kp B C → Kp A C) (hKb : ∀ (W : World) (l : Nat) (o o' : Obj), w.heap.size ≤ l → W.heap[l]? = some o → o.isCells = false → Kp W (W.putObj l o')) (hb0 : Below w0.heap.size w0 w) (hps : ∀ x, (encs x).size = ps.size)
 (I : List α → World → Prop) (Ix : Code → List α → World → Prop) (hI : ClB I) (hIx : ∀ c, ClB (Ix c)) (hIp : ClP w.heap.size I) (hIxp : ∀ c, ClP w.heap.size (Ix c)) (h0 : I [] w) (a₁ : α → Act)
 (hassign : ∀ (l : Nat) (x : α) (W : World) (K : Act → World → Prop), K (a₁ x) W →
   assign.wpIn (Fence.wide.inRound l) 1 Tryz.prog (Exit.then K (fun _ _ _ => False)) { tmps := (ps.zip (encs x)).foldl (fun t (p, v) => t.setIfInBounds p v) a.tmps, defers := [] } W)
 (hbody : ∀ (l : Nat) (pre : List α) (x : α) (W : World), I pre W → Ok pre x → body.wpIn (Fence.wide.inRound l) 1 Tryz.prog (ownPostK Kp I Ix (pre ++ [x]) W) (a₁ x) W)
 (hdone : ∀ (D : Nat) (xs : List α) (W : World), w.heap.size ≤ D → S xs → I xs W → W.heap[D]? = some (.deferred (some [])) → Q .normal { a with defers := { target := .collected D, args := #[] } :: a.defers } W)
 (hstop : ∀ (D : Nat) (c : Code) (pre : List α) (W : World), w.heap.size ≤ D → Sp pre → Ix c pre W → W.heap[D]? = some (.deferred (some [])) → c.wpIn Fence.wide 3 Tryz.prog Q { a with defers := { target := .collected D, args := #[] } :: a.defers } W) :
 (Code.rangeFunc g ps assign body).wpIn Fence.wide 3 Tryz.prog Q a w := by
 refine wpIn_rangeFunc fun fn hfn => ?_
 obtain ⟨n, hn⟩ : ∃ n, n = w.heap.size := ⟨_, rfl⟩
 rw [← hn] at hKb hIp hIxp hdone hstop
 obtain ⟨rc, hrc⟩ : ∃ rc : LoopState → Option Code → Loop, rc = fun st pe => { state := st, pending := pe, fn, tmps := a.tmps, params := ps, assign, body, defers := n } := ⟨_, rfl⟩
 obtain ⟨W1, hW1⟩ : ∃ W1, W1 = (w.alloc (.deferred (some []))).alloc (.loop (rc .ready none)) := ⟨_, rfl⟩
 have hs1 : W1.heap.size = n + 2 := by rw [hW1, hn]; simp
 have hL1 : W1.heap[n + 1]? = some (.loop (rc .ready none)) := by
  rw [hW1, hn]
  have h := World.alloc_heap_new (w.alloc (.deferred (some []))) (.loop (rc .ready none))
  rwa [World.size_alloc] at h
 have hK1 : W1.heap[n]? = some (.deferred (some [])) := by
  rw [hW1, hn]
  exact (Below.heap_alloc _ _ _ (by simp)).trans (World.alloc_heap_new w _)
 have hI1 : I [] W1 := by rw [hW1]; exact hI.alloc _ (hI.alloc _ h0)
 have hb1 : Below w0.heap.size w0 W1 := by
  rw [hW1]
  exact hb0.trans ((((Below.refl _ w).alloc (Nat.le_refl _) _).alloc (by simp) _).mono hb0.size)
 -- the loop's two blocks: nothing behind them turns them
 have two : ∀ {A B : World} {row : Option Nat} {o p : Obj}, A.grownBy B row → (∀ r, row = some r → W1.heap.size ≤ r) → A.heap[n + 1]? = some o ∧ A.heap[n]? = some p → B.heap[n + 1]? = some o ∧ B.heap[n]? = some p := fun {A B row o p} hgr hr h =>
  ⟨(hgr.block _ (Array.getElem?_eq_some_iff.1 h.1).1 (fun e => by have := hr _ e.symm; omega)).trans h.1, (hgr.block _ (Array.getElem?_eq_some_iff.1 h.2).1 (fun e => by have := hr _ e.symm; omega)).trans h.2⟩
 have up : ∀ {row : Option Nat}, (∀ r, row = some r → W1.heap.size ≤ r) → ∀ r, row = some r → n ≤ r := fun hr r e => by have := hr r e; omega
 refine ⟨n + 1, [{ target := .collected n, args := #[] }], W1, { target := .fn (.func gf) lb, args := fa ++ #[.func (.yield (n + 1)) #[] #[]] }, W1, gf, fa ++ #[.func (.yield (n + 1)) #[] #[]] ++ lb, W1, ?_, ?_, ?_, ?_, fun _ => by omega, ?_⟩
 · rw [hW1, hrc, hn]
   exact run_enterLoop_outer _ _ _ _ _
 · simp only [resolve, hg]
   simp [go_sem]
 · intro f hf
   simp [Target.leads] at hf
   subst hf
   trivial
 · simp [invoke, go_sem, eg]
 refine (hseq (n + 1)
  (fun pre W => I pre W ∧ W.heap[n + 1]? = some (.loop (rc .ready none)) ∧ W.heap[n]? = some (.deferred (some [])))
  (fun pre W => ∃ c, Ix c pre W ∧ W.heap[n + 1]? = some (.loop (rc .done (some c))) ∧ W.heap[n]? = some (.deferred (some [])))
  W1 hb1 (fun s A B hs hb => ⟨hI s A B hs.1 hb, two (grown_of_below hb) nofun hs.2⟩)
  (fun s A B ⟨c, hc, hs⟩ hb => ⟨c, hIx c s A B hc hb, two (grown_of_below hb) nofun hs⟩) ?_ ⟨hI1, hL1, hK1⟩).mono ?_
 · rintro pre x W ⟨hi, hl, hk⟩ hlen
   have hlt : n + 1 < W.heap.size := (Array.getElem?_eq_some_iff.1 hl).1
   obtain ⟨Wb, hWb⟩ : ∃ Wb, Wb = W.putObj (n + 1) (.loop { rc .ready none with state := .busy }) := ⟨_, rfl⟩
   have hlb : Wb.heap[n + 1]? = some (.loop { rc .ready none with state := .busy }) := by rw [hWb]; exact World.putObj_heap_same hlt
   have hkb : Wb.heap[n]? = some (.deferred (some [])) := by rw [hWb]; exact (World.putObj_heap_other (by omega)).trans hk
   have hib : I pre Wb := by rw [hWb]; exact hIp _ _ _ _ _ hi (by omega) hl rfl
   have hpb : Kp W Wb := by rw [hWb]; exact hKb _ _ _ _ (by omega) hl rfl
   have hyl := run_yield (P := Tryz.prog) (args := encs x) hl (by rw [hrc]; exact hps x)
   rw [hrc] at hyl
   refine ⟨fn, _, assign, body, hyl, roundIn_of_wpIn hfn (hassign _ x W _ ⟨_, run_beginRound hl (by rw [hrc]), ?_⟩)⟩
   rw [← hWb]
   refine wpIn_mono (hbody _ pre x _ hib hlen) ?_
   have close : ∀ (jump : Option Code) (W3 : World), KeepsOthers Wb W3 → ∃ W4, W4 = W3.putObj (n + 1) (.loop (rc (if jump.isNone then .ready else .done) jump)) ∧ (Instr.endRound (n + 1) jump).run Tryz.prog W3 = .ok (.bool jump.isNone) W4 ∧
    (∃ o : Obj, W3.heap[n + 1]? = some o ∧ o.isCells = false) ∧ W4.heap[n + 1]? = some (.loop (rc (if jump.isNone then .ready else .done) jump)) ∧ W4.heap[n]? = some (.deferred (some [])) := fun jump W3 hk3 => by
    have hl3 := hk3.same _ _ hlb rfl
    have hr3 := run_endRound (P := Tryz.prog) jump hl3
    rw [hrc] at hr3 ⊢
    exact ⟨_, rfl, hr3, ⟨_, hl3, rfl⟩, World.putObj_heap_same (Array.getElem?_eq_some_iff.1 hl3).1, (World.putObj_heap_other (by omega)).trans (hk3.same _ _ hkb rfl)⟩
   have away : ∀ (c : Code) (W3 : World), KeepsOthers Wb W3 → Ix c (pre ++ [x]) W3 → ∃ v W4, (Instr.endRound (n + 1) (some c)).run Tryz.prog W3 = .ok v W4 ∧ v = .bool false ∧ ∃ c', Ix c' (pre ++ [x]) W4 ∧ W4.heap[n + 1]? = some (.loop (rc .done (some c'))) ∧ W4.heap[n]? = some (.deferred (some [])) := fun c W3 hk3 hi3 => by
    obtain ⟨W4, e4, hr, ⟨o, ho, hc⟩, h1, h2⟩ := close (some c) W3 hk3
    exact ⟨_, W4, hr, rfl, c, by rw [e4]; exact hIxp c _ _ _ _ _ hi3 (by omega) ho hc, h1, h2⟩
   rintro e a3 W3 hp
   cases e with
   | normal =>
     obtain ⟨hk3, hp3, hi3⟩ := hp
     obtain ⟨W4, e4, hr, ⟨o, ho, hc⟩, h1, h2⟩ := close none W3 hk3
     refine ⟨_, W4, hr, .inl ⟨rfl, ⟨?_, h1, h2⟩, hKt (hKt hpb hp3) ?_⟩⟩
     · rw [e4]; exact hIp _ _ _ _ _ hi3 (by omega) ho hc
     · rw [e4]; exact hKb _ _ _ _ (by omega) ho hc
   | ret =>
     obtain ⟨v, W4, hr, hv, h⟩ := away .ret W3 hp.1 hp.2
     exact ⟨v, W4, hr, .inr ⟨by rw [hv], h⟩⟩
   | exit id =>
     obtain ⟨v, W4, hr, hv, h⟩ := away (.exit id) W3 hp.1 hp.2
     exact ⟨v, W4, hr, .inr ⟨by rw [hv], h⟩⟩
   | goto t =>
     obtain ⟨v, W4, hr, hv, h⟩ := away (.goto t) W3 hp.1 hp.2
     exact ⟨v, W4, hr, .inr ⟨by rw [hv], h⟩⟩
   | panic ch => exact hp.elim
   | outgrown => exact hp.elim
 · rintro e W2 ⟨⟨v, rfl⟩, h⟩
   rcases h with ⟨xs, hS, hi, hl, hk⟩ | ⟨pre, hSp, c, hi, hl, hk⟩
   · have hr := run_endLoop (P := Tryz.prog) hl (by rw [hrc]; simp)
     rw [hrc] at hr
     exact ⟨none, _, hr, hdone _ xs _ (Nat.le_refl _) hS (hIp _ _ _ _ _ hi (by omega) hl rfl) ((World.putObj_heap_other (by omega)).trans hk)⟩
   · have hr := run_endLoop (P := Tryz.prog) hl (by rw [hrc]; simp)
     rw [hrc] at hr
     exact ⟨some c, _, hr, hstop _ c pre _ (Nat.le_refl _) hSp (hIxp c _ _ _ _ _ hi (by omega) hl rfl) ((World.putObj_heap_other (by omega)).trans hk)⟩
def knC (vs : List Int) : Nat → Nat
 | 0 => 0
 | j + 1 => knC vs j + (if gi vs j ≠ 0 then 1 else 0)
theorem knC_le (vs : List Int) : ∀ j, knC vs j ≤ j
 | 0 => Nat.le_refl _
 | j + 1 => by have := knC_le vs j; simp only [knC]; split <;> omega
def KwI (vs : List Int) (N : Nat) (J : List (Int × Int) → World → Prop) (W0 : World) (V : Option Addr) (vc : Nat) (i : Value) (wr : World) : Prop :=
 ∃ (k : Nat) (pre : List (Int × Int)), k ≤ N ∧ i = .int .i64 k ∧ pre.length = knC vs k ∧ J pre wr ∧ Rd .i64 wr V N vc vs ∧ W0.heap.size ≤ wr.heap.size
theorem knw_in (l N D : Nat) (k f lim cnt : Int) (V : Option Addr) (vc : Nat) (vs : List Int) (hN : N ≤ 1000000) (Kp : World → World → Prop) (W : World)
 (hD : Blk W D 157 [.int .i64 k, .int .i64 f, .int .i64 lim, .slice V N vc, .int .i64 cnt]) (hV : Rd .i64 W V N vc vs)
 (hkp : ∀ A B, Kp A B → Rd .i64 A V N vc vs → Rd .i64 B V N vc vs) (hks : ∀ A B, Kp A B → A.heap.size ≤ B.heap.size)
 (J Jx : List (Int × Int) → World → Prop) (hJ : ClB J) (hJx : ClB Jx)
 (hY : ∀ pre x W1, J pre W1 → pre.length < N → YieldAt Fence.wide 1 Tryz.prog l (encP x) W1 fun e W' =>
   (e = .returned (.bool true) ∧ J (pre ++ [x]) W' ∧ Kp W1 W') ∨ (e = .returned (.bool false) ∧ Jx (pre ++ [x]) W'))
 (h0 : J [] W) :
 CallsIn Fence.wide 2 Tryz.prog 121 (#[.pointer (some ⟨D, 0, none⟩)] ++ #[.func (.yield l) #[] #[]] ++ #[]) W fun e W' => (∃ v, e = .returned v) ∧ ((∃ xs : List (Int × Int), xs.length = knC vs N ∧ J xs W') ∨ (∃ pre : List (Int × Int), True ∧ Jx pre W')) := by
 have c3 := hD.cell (j := 3) (v := .slice V N vc) rfl
 have HV := Lib.hid hV
 have HKP := Lib.hid hkp
 have HKS := Lib.hid hks
 clear hD hV hkp hks
 refine callsIn_of_wp Tryz.func121 rfl trivial ?_ rfl
 simp only [Tryz.ntmps121, List.size_toArray, List.length_cons, List.length_nil, Nat.reduceAdd, Nat.reduceSub, Array.replicate_succ, Array.replicate_zero, List.push_toArray, List.append_toArray, List.nil_append, List.cons_append]
 refine wpIn_scope_straight rfl ?_
 gi_wp2_with fail
 refine wpIn_label ?_
 rename_i K hK
 refine hK _ _ ?_
 clear hK K
 gi_wp2_with fail
 gi_loopw [11] (fun i wr => KwI vs N J W V vc i wr) (fun i _ => N - (intOf i).toNat)
 case atStart => exact ⟨0, [], Nat.zero_le _, rfl, rfl, h0, HV.out, Nat.le_refl _⟩
 case round =>
  obtain ⟨i, pre, hi, rfl, hpl, hJs, hR, hz⟩ := hrel
  clear c3
  have HJs := Lib.hid hJs
  have HRs := Lib.hid hR
  have HZs := Lib.hid hz
  have HPL := Lib.hid hpl
  clear hJs hz hpl
  by_cases hlt : i < N
  · have cv := Rd.cell hR hlt
    have iv := fun W => Rdv.ix hR el34 hlt .i64 W
    have HKN := Lib.hid (show knC vs (i + 1) = knC vs i + (if gi vs i ≠ 0 then 1 else 0) from rfl)
    obtain ⟨v, hv⟩ : ∃ v, v = gi vs i := ⟨_, rfl⟩
    rw [← hv] at cv HKN
    clear hR hv
    by_cases hv0 : v = 0
    · have q0 : (v != 0) = false := bne_f hv0
      rw [if_neg (fun h => h hv0)] at HKN
      clear hv0
      gi_wp2_with fail
      refine ⟨nofun, ?_⟩
      gi_wp2
      go_roundw
      case rel => exact ⟨i + 1, pre, by omega, by go_num, by rw [HKN.out, HPL.out]; rfl, HJs.out, HRs.out, HZs.out⟩
      case measure => simp [intOf]; omega
    · have q0 : (v != 0) = true := bne_t hv0
      rw [if_pos hv0] at HKN
      clear hv0
      obtain ⟨fn, tmps, assign, body, hy, hRD⟩ := hY _ ((i : Int), v) wr HJs.out (by have := knC_le vs i; have := HPL.out; omega)
      unfold encP at hy
      have HRD := Lib.hid hRD
      clear hRD
      gi_wp2_with fail
      refine HRD.out.mono ?_
      rintro e W7 (⟨rfl, hJ7, hk7⟩ | ⟨rfl, hJx7⟩)
      · gi_wp2
        go_roundw
        case rel => exact ⟨i + 1, _, by omega, by go_num, by rw [HKN.out, List.length_append, HPL.out]; rfl, hJ7, HKP.out _ _ hk7 HRs.out, Nat.le_trans HZs.out (HKS.out wr _ hk7)⟩
        case measure => simp [intOf]; omega
      · gi_wp2
        simp only [Exit.noGoto]
        go_end0
        exact ⟨⟨_, rfl⟩, .inr ⟨_, trivial, hJx7⟩⟩
  · obtain rfl : i = N := by omega
    clear hR
    gi_wp2
    simp only [Exit.noGoto]
    go_end0
    exact ⟨⟨_, rfl⟩, .inl ⟨pre, HPL.out, HJs.out⟩⟩
structure KnK (w : World) (OB n : Nat) (W : World) : Prop where
 x : Blk W OB 3 [.int .i64 (n : Int)]
 bl : Below w.heap.size w W
theorem KnK.clB {w : World} {OB : Nat} : ClB (fun (pre : List (Int × Int)) W => KnK w OB pre.length W) := fun pre W W' h hb => ⟨h.x.below hb, h.bl.trans (hb.mono h.bl.size)⟩
theorem KnK.clP {w : World} {OB B' : Nat} (hB : w.heap.size ≤ B') : ClP B' (fun (pre : List (Int × Int)) W => KnK w OB pre.length W) := fun pre W l o o' h hl hk ho =>
 ⟨h.x.put o' hk ho, h.bl.grown (grownBy_putObj' W l o') h.bl.size (fun k e => by cases e; omega)⟩
theorem rd_heq {kd : IntKind} {W W' : World} {A : Option Addr} {n c : Nat} {xs : List Int} (hx : Rd kd W A n c xs) (hs : W.heap.size ≤ W'.heap.size) (hk : blk A < W.heap.size → W'.heap[blk A]? = W.heap[blk A]?) : Rd kd W' A n c xs := by
 have h : Rdv W A n c (xs.map (Value.int kd)) := hx
 refine ⟨h.len, h.le, h.cm, h.nil, h.spot, fun hc a ha => Nat.lt_of_lt_of_le (h.lt hc a ha) hs, fun j v hj => ?_⟩
 rw [← h.at_ j v hj]
 have hlt : j < n := by rw [← h.len]; exact (List.getElem?_eq_some_iff.1 hj).1
 have hle := h.le
 obtain ⟨b, o, rfl, hb'⟩ := h.ptr (by omega)
 exact World.cell?_of_block (hk hb')
theorem knw_seq (N D OB : Nat) (k f lim cnt : Int) (V : Option Addr) (vc : Nat) (vs : List Int) (hN : N ≤ 1000000) (w : World)
 (hD : Blk w D 157 [.int .i64 k, .int .i64 f, .int .i64 lim, .slice V N vc, .int .i64 cnt]) (hV : Rd .i64 w V N vc vs) (hlt : blk V < w.heap.size) (hne : blk V ≠ OB) :
 SeqK 2 121 #[.pointer (some ⟨D, 0, none⟩)] #[] encP (KpN w.heap.size OB) (fun ys => ys.length = knC vs N) (fun _ => True) (fun pre _ => pre.length < N) w :=
 fun l J Jx W hB hJ hJx hY h0 => knw_in l N D k f lim cnt V vc vs hN (KpN w.heap.size OB) W (hD.below hB) (Rdv.below hV hB) (fun A B hk hr => rd_heq hr hk.1 (fun _ => hk.2 _ hlt hne)) (fun A B hk => hk.1) J Jx hJ hJx hY h0
theorem known_any {W : World} {base D k f : Nat} {lim : Int} {V : Option Addr} {vc : Nat} {vs : List Int} {cnt : Int} (h : DmS W base D k f lim V vc vs cnt) (hk : k ≤ 6144) :
 Calls Tryz.prog 72 #[.pointer (some ⟨D, 0, none⟩)] W fun e w' => e = .returned (.int .i64 (knC vs (3 * (k + 4)) : Int)) ∧ Below W.heap.size W w' := by
 have hVl := (Ownv.blk_of h.v h.ne).2
 have hB0 := bal (Below.refl _ W) (.cells #[.int .i64 0] 3)
 have hD0 := h.below hB0
 have HNO := Lib.hid (dnone_any hD0)
 have HX0 := Lib.hid (Blk.new W [.int .i64 0] 3 rfl)
 have HSEQ := Lib.hid (knw_seq (3 * (k + 4)) D W.heap.size k f lim cnt V vc vs (by omega) _ hD0.b (Own.rd hD0.v) (Nat.lt_of_lt_of_le hVl hB0.size) (by omega))
 have HB0 := Lib.hid hB0
 have hNb : 3 * (k + 4) ≤ 20000 := by omega
 generalize 3 * (k + 4) = N at *
 have hmf : ∀ (fn : Fn) (first cap : Array Value) (w : World), (Instr.makeFunc fn first cap).run Tryz.prog w = .ok (.func fn first cap) w := fun _ _ _ _ => rfl
 clear h hVl hB0 hD0 hk
 refine (callsIn_wide (n := 3)).1 ?_
 refine callsIn_of_wp_marks Tryz.func72 rfl trivial ?_
 simp only [Tryz.ntmps72, List.size_toArray, List.length_cons, List.length_nil, Nat.reduceAdd, Nat.reduceSub, Array.replicate_succ, Array.replicate_zero, List.push_toArray, List.append_toArray, List.nil_append, List.cons_append]
 refine wpIn_wide.2 ?_
 go_wp2_with fail
 refine HNO.out.mono ?_
 rintro e w1 ⟨rfl, hw1⟩
 rw [← hw1]
 clear hw1
 have HW2 : Hid ((W.alloc (.cells #[.int .i64 0] 3)).heap.size = W.heap.size + 1) := Lib.hid (by simp)
 have HK : Hid (KnK W W.heap.size 0 (W.alloc (.cells #[.int .i64 0] 3))) := Lib.hid ⟨HX0.out, HB0.out⟩
 generalize W.alloc (.cells #[.int .i64 0] 3) = w2 at *
 have HWO := Lib.hid (HB0.out.size)
 go_wp2_with fail
 refine (wpIn_wide (n := 3)).1 ?_
 refine' rangeK (w0 := w2) (gf := 121) (fa := #[.pointer (some ⟨D, 0, none⟩)]) (lb := #[]) rfl (enters_of Tryz.func121 (by kernel_rfl) rfl) HSEQ.out KpN.trans (fun W l o o' hl h1 h2 => KpN.put o' hl) (Below.refl _ _) (fun _ => rfl)
  (fun pre Wx => KnK W W.heap.size pre.length Wx) (fun _ _ _ => False) KnK.clB (fun _ _ _ _ h _ => h) (KnK.clP HWO.out) (fun _ _ _ _ _ _ h _ _ _ => h) HK.out _ ?assign ?body ?done ?stop
 case assign =>
  intro l x W K hK
  unfold encP
  gi_wp2
  exact hK
 case body =>
  rintro l pre x W1 hI hlt
  have HI := Lib.hid hI
  have hx := hI.x
  have cO := hx.cell (j := 0) (v := .int .i64 (pre.length : Int)) rfl
  have fO := hx.frozen 0
  have hlen : (pre ++ [x]).length = pre.length + 1 := by simp
  have hltN := hlt
  have q1 : IntKind.i64.wrap ((pre.length : Int) + 1) = (pre.length : Int) + 1 := IntWalk.i64_in _ (by omega)
  have hsz : W.heap.size + 1 ≤ W1.heap.size := hx.lt
  have HX := Lib.hid hx
  clear hI hx hlt hltN
  gi_wp2
  refine ⟨KeepsOthers.setCell _ _ _, KpN.grown (grownBy_set W1 _ 0 _) (fun r hr => .inl (Option.some.inj hr).symm) (by rw [HW2.out]; exact hsz), ?_⟩
  show KnK W _ (pre ++ [x]).length _
  rw [hlen]
  exact ⟨by have h9 := HX.out.set 0 (.int .i64 ((pre.length : Int) + 1)); rw [Int.natCast_add]; exact h9, HI.out.bl.grown (grownBy_set W1 _ 0 _) HI.out.bl.size (fun r e => by cases e; exact Nat.le_refl _)⟩
 case done =>
  rintro D' ys W1 hD hS hI hK
  have hx := hI.x
  have cO := hx.cell (j := 0) (v := .int .i64 (ys.length : Int)) rfl
  have fO := hx.frozen 0
  have HX := Lib.hid hx
  have HBL := Lib.hid hI.bl
  clear hI hx
  go_wp2
  rw [hS] at HX
  have hK2 := (KeepsOthers.setCell W1 ⟨W.heap.size, 0, none⟩ (.int .i64 (knC vs N : Int))).same D' _ hK rfl
  refine ⟨by simp, .inl ⟨_, _, rfl, run_takeDeferred hK2, ?_⟩⟩
  have hx2 := (HX.out.set 0 (.int .i64 (knC vs N : Int))).put (.deferred none) hK2 rfl
  have hc := hx2.cell (j := 0) rfl
  have l1 : ∀ W9 : World, W9.cell? ⟨W.heap.size, 0, none⟩ = some (.int .i64 (knC vs N : Int)) → (loadVar 3 ⟨W.heap.size, 0, none⟩).run Tryz.prog W9 = .ok (.int .i64 (knC vs N : Int)) W9 := fun W9 h9 => by simp [loadVar, h9, go_sem]
  have l2 := l1 _ hc
  refine ⟨.int .i64 (knC vs N : Int), ?_, rfl, ?_⟩
  · rw [results_c rfl]
    simp [asAddr, l2, Sem.run_pure]
  · have hg := HBL.out.grown (grownBy_set W1 W.heap.size 0 (.int .i64 (knC vs N : Int))) HBL.out.size (fun r e => by cases e; exact Nat.le_refl _)
    exact hg.grown (grownBy_putObj' _ D' (.deferred none)) hg.size (fun r e => by cases e; have := HW2.out; omega)
 case stop =>
  rintro D c pre W hD _ hx hK
  exact hx.elim
end Go.Proofs.YtkdfefpnhaebfaaGreat.Cr
