/-
  Bundle of the texts TuZd TuZe. Conditions: none.
-/
import Derived.Test.YtpdalbckmfadbaaBunao
namespace Go.Proofs.Ytpdalbckmfadbaa.Tu
open Go.RowKit
set_option linter.unusedVariables false
theorem heap_drew' {w : World} {N : Nat} {x : Obj} (h : w.heap[N]? = some x) : w.drew.heap[N]? = some x := h
def okCode (k code : Int) : Prop := validK k = true ∧ 1 ≤ code ∧ code ≤ 2
set_option maxRecDepth 100000 in
theorem steps_bad (k code : Int) (w : World) (h : ¬ okCode k code) : Calls Try.prog 57 #[.int .i64 k, .int .i64 code] w fun e w' => e = .returned (.func (.func 75) #[] #[]) ∧ Below w.heap.size w w' := by
  have hb0 : ∀ W : World, Below (W.alloc (.cells #[.int .i64 code] 3)).heap.size (W.alloc (.cells #[.int .i64 code] 3)) W → True := fun _ _ => trivial
  by_cases hv : validK k = true
  · by_cases h1 : code < 1
    · have h1' : decide (code < 1) = true := by simpa using h1
      clear h
      go_enter Try.func57, Try.ntmps57
      go_wp2_with (go_at_call 25; refine (valid_any _ _).mono ?_; rintro e w1 ⟨rfl, hB⟩; rw [hv]; have hc := hB.cell (p := ⟨w.heap.size, 0, none⟩) (by simp))
      go_ret
      exact ⟨rfl, ((Below.refl _ w).alloc (Nat.le_refl _) _).trans (hB.mono (by simp))⟩
    · have h2 : 2 < code := by
        by_cases h2 : code ≤ 2
        · exact absurd ⟨hv, by omega, h2⟩ h
        · omega
      have h1' : decide (code < 1) = false := by simp; omega
      have h2' : decide (2 < code) = true := by simpa using h2
      clear h
      go_enter Try.func57, Try.ntmps57
      go_wp2_with (go_at_call 25; refine (valid_any _ _).mono ?_; rintro e w1 ⟨rfl, hB⟩; rw [hv]; have hc := hB.cell (p := ⟨w.heap.size, 0, none⟩) (by simp))
      go_ret
      exact ⟨rfl, ((Below.refl _ w).alloc (Nat.le_refl _) _).trans (hB.mono (by simp))⟩
  · have hv' : validK k = false := by simpa using hv
    clear h hv
    go_enter Try.func57, Try.ntmps57
    go_wp2_with (go_at_call 25; refine (valid_any _ _).mono ?_; rintro e w1 ⟨rfl, hB⟩; rw [hv'])
    go_ret
    exact ⟨rfl, ((Below.refl _ w).alloc (Nat.le_refl _) _).trans (hB.mono (by simp))⟩
theorem hv_ {p q : Prop} (h : p) (k : p → q) : q := k h
theorem box_put {w : World} {g : Nat} {v : Value} {e : TypeId} {u : Value} (h : w.heap[g]? = some (.cells #[v] e (0, 0))) : w.grownBy (w.setCell ⟨g, 0, none⟩ u) (some g) := by
  have := (Ownv.set_ (Ownv.of_heap (base := 0) h (Nat.zero_le _) (by show 1 ≤ maxLen; unfold maxLen; omega)) (j := 0) (by show 0 < 1; omega) u).2
  simp only [adr_some, Nat.zero_add] at this
  exact this
theorem two_pos {k : Nat} (h : 1 ≤ k) : 0 < 2 * k := by omega
theorem heap_box {w : World} {g : Nat} {v : Value} {e : TypeId} (h : w.heap[g]? = some (.cells #[v] e (0, 0))) : w.cell? ⟨g, 0, none⟩ = some v ∧ w.frozen? ⟨g, 0, none⟩ = false := ⟨by rw [cell_of_row w g 0 _ _ _ h]; rfl, frozen_of_row w g _ _ _ h⟩
theorem heap_tag_ne {w : World} {g : Nat} {t : TypeId} (h : ∃ cur, w.heap[g]? = some (.cells cur t (0, 0))) : ∀ (b : Nat) (v : Value) (t' : TypeId), w.heap[b]? = some (.cells #[v] t' (0, 0)) → t' ≠ t → g ≠ b := by
  rintro b v t' hb hne rfl
  obtain ⟨cur, hc⟩ := h
  rw [hb] at hc
  injection hc with h1
  injection h1 with _ h2
  exact hne h2
theorem bheap {w w1 : World} (h : Below w.heap.size w w1) : ∀ (g : Nat) (x : Obj), w.heap[g]? = some x → w1.heap[g]? = some x := fun g x hx => (h.block g (heap_lt hx)).trans hx
theorem bsz {w w1 w2 : World} (_ : Below w1.heap.size w1 w2) (h : Below w.heap.size w w1) : w.heap.size ≤ w1.heap.size := h.size
def osL (k code : Nat) : List Int := if code = 1 then rngL k else ordL k
def atN (k code : Nat) : Nat := k + 2 * code - 2
def tailL (k code : Nat) : List Value := [.int .i64 (atN k code : Int), .int .i64 ((k + 4 + atN k code : Nat) : Int), .int .i64 ((2 * (k + 4) + atN k code : Nat) : Int), .int .i64 ((atN k code + 1 : Nat) : Int), .int .i64 ((k + 4 + atN k code + 1 : Nat) : Int), .int .i64 ((2 * (k + 4) + atN k code + 1 : Nat) : Int)]
def stepsL (k code : Nat) : List Value := pairL (osL k code) (code * (k + 4)) k ++ tailL k code
def StepsOk (w' : World) (k code : Nat) (v : Value) : Prop := ∃ b8 g c', v = .func (.func 80) #[] #[.pointer (some ⟨b8, 0, none⟩)] ∧ w'.cell? ⟨b8, 0, none⟩ = some (.slice (some ⟨g, 0, none⟩) (k + 3) c') ∧ Rdv w' (some ⟨g, 0, none⟩) (2 * (k + 3)) (2 * (k + 3)) (stepsL k code)
theorem ordL_len (k : Nat) : (ordL k).length = k := by simp [ordL]
def RegS (W0 : World) (k code : Nat) (v : Value) (wx : World) : Prop := ∃ b8 g c', v = .pointer (some ⟨b8, 0, none⟩) ∧ wx.cell? ⟨b8, 0, none⟩ = some (.slice (some ⟨g, 0, none⟩) (k + 3) c') ∧ Rdv wx (some ⟨g, 0, none⟩) (2 * (k + 3)) (2 * (k + 3)) (stepsL k code) ∧ Below W0.heap.size W0 wx
set_option maxRecDepth 100000 in
theorem wp_app75 {o : Oper} {a : Act} {K : Act → World → Prop} {Q : Exit → Act → World → Prop} {w w0 : World} (s x : Operand)
    (ho : o.op = .call { callee := .builtin .append, args := #[s, x], argTypes := #[134, 134] }) {g n m : Nat} {gx : Nat} {vs us : List Value} (hs : a.eval s = .slice (some ⟨g, 0, none⟩) n n) (hx : a.eval x = .slice (some ⟨gx, 0, none⟩) m m)
    (hB : Below w0.heap.size w0 w) (hO : Ownv 136 w w0.heap.size (some ⟨g, 0, none⟩) (2 * n) (2 * n) vs) (hX : w.heap[gx]? = some (.cells us.toArray 136 (0, 0))) (hl : us.length = 2 * m) (h1 : ∀ u ∈ us, u.oneCell' = true) (hn : n + m ≤ 100000) (hn0 : 0 < n)
    (h : ∀ g' c' w', Rdv w' (some ⟨g', 0, none⟩) (2 * (n + m)) (2 * (n + m)) (vs ++ us) → (∃ cur, w'.heap[g']? = some (.cells cur 136 (0, 0))) → Below w0.heap.size w0 w' → (∀ b x, w.heap[b]? = some x → b ≠ g → w'.heap[b]? = some x) → K (a.put o.dst (.slice (some ⟨g', 0, none⟩) (n + m) c')) w') : o.wp Try.prog a w K Q := by
  obtain ⟨i, hi, hz0, hz1, hz2⟩ := info_parts info77
  have hrow := Ownv.row hO
  have hge := (Ownv.blk_ge hO (by omega)).1
  have hvl := hO.rd.len
  have ho2 : w.ownsRow w0.heap.size 136 2 (.slice (some ⟨g, 0, none⟩) n n) n vs := ⟨by rw [hvl, Nat.mul_comm], .inr ⟨g, n, vs.toArray, rfl, hge, hrow, Nat.le_refl _, by unfold maxLen; omega, by simp [hvl, Nat.mul_comm], List.take_of_length_le (by simp [hvl, Nat.mul_comm])⟩⟩
  obtain ⟨v', w', hr, h2, h3, h4⟩ := run_append_own (P := Try.prog) w w0.heap.size 134 o.type 136 i _ 2 16 (by kernel_rfl) hi hz0 hz1 hz2 (by rfl) (by simp) _ n vs ho2 ⟨gx, 0, none⟩ m m us (by rw [hl, Nat.mul_comm])
    (fun j u hj => by
      have h5 : w.cell? ⟨gx, j, none⟩ = us.toArray[j]? := cell_of_row w gx j _ _ _ hX
      rw [add_lit, Nat.zero_add, h5]; simpa using hj) h1 (by unfold maxLen; omega) (by omega) hB.size
  rcases h2.2 with ⟨h5, h6⟩ | ⟨g', cap, cur, h5, h6, h7, h8, h9, h10, h11⟩
  · omega
  · subst h5
    unfold Oper.wp
    simp only [execOp, ho, resolve, invoke, builtin, Sem.run_bind, Sem.run_pure, Result.andThen_ok, List.map_toArray, List.map_cons, List.map_nil, hs, hx, hr]
    have hl2 := h2.1
    have hg' : g' < w'.heap.size := (Array.getElem?_eq_some_iff.1 h7).1
    refine h g' cap w' ⟨by rw [hl2]; omega, Nat.le_refl _, by unfold maxLen; omega, nofun, by rintro _ a ⟨⟩; rfl, by rintro _ a ⟨⟩; exact hg', fun j v hj => ?_⟩ ⟨cur, h7⟩ (hB.grown h3 hB.size (fun k hk => by simp [Value.ownBlock] at hk; rw [← hk]; exact hge)) (fun b x hb hne => ?_)
    · rw [adr_some, Nat.zero_add, cell_of_row w' g' j cur 136 (0, 0) h7]
      rw [← h11, List.getElem?_take] at hj
      split at hj
      · simpa using hj
      · cases hj
    · rw [h3.block b (Array.getElem?_eq_some_iff.1 hb).1 (by simp [Value.ownBlock]; exact hne)]; exact hb
set_option maxRecDepth 100000 in
set_option maxHeartbeats 600000 in
theorem steps1_any (k : Nat) (w : World) (hv : validK (k : Int) = true) : Calls Try.prog 57 #[.int .i64 k, .int .i64 1] w fun e w' => ∃ v, e = .returned v ∧ StepsOk w' k 1 v ∧ Below w.heap.size w w' := by
  obtain ⟨n0, n1⟩ := valid_len hv
  have hvv := fun W => Lib.hid (valid_any (k : Int) W)
  rw [hv] at hvv
  have hmd := fun W => Lib.hid (made1_any k W n1)
  clear hv
  have K3 := Lib.hid (Ownv.lit (base := 0) w #[.int .i64 1] 3 rfl (Nat.zero_le _) (by show 1 ≤ maxLen; unfold maxLen; omega))
  have L5 := fun W : World => Lib.hid (Ownv.lit (base := 0) W #[.int .i64 ((k : Int) + 4)] 3 rfl (Nat.zero_le _) (by show 1 ≤ maxLen; unfold maxLen; omega))
  have L6 := fun (W : World) (O : Option Addr) => Lib.hid (Ownv.lit (base := 0) W #[.slice O k k] 22 rfl (Nat.zero_le _) (by show 1 ≤ maxLen; unfold maxLen; omega))
  go_enter Try.func57, Try.ntmps57
  go_wp2_with (first
    | (go_at_call 25; refine (hvv _).out.mono ?_; rintro e w1 ⟨rfl, hB1⟩; have hk3 := K3.out.below hB1; have c3 := hk3.rd.at_ 0 _ rfl; simp only [adr_some, Nat.zero_add] at c3; have K3a := Lib.hid hk3; have HS0 : Hid (w.heap.size + 1 ≤ w1.heap.size) := Lib.hid (by have := hB1.size; simpa using this); have HB1 := Lib.hid (((Below.refl _ w).alloc (Nat.le_refl _) _).trans (hB1.mono (by simp))); clear hk3 hB1)
    | (go_at_call 76; refine (hmd _).out.mono ?_; rintro e w2 ⟨O2, rfl, hO2, hB2⟩; have hk3 := Ownv.alloc ((Ownv.alloc K3a.out _).below hB2) (.cells #[.slice O2 k k] 22); have hk5 := Ownv.alloc ((L5 w1).out.below hB2) (.cells #[.slice O2 k k] 22); have c3b := hk3.rd.at_ 0 _ rfl; have c5b := hk5.rd.at_ 0 _ rfl; simp only [adr_some, Nat.zero_add] at c3b c5b; have K3b := Lib.hid hk3; have K5b := Lib.hid hk5; have K6b := Lib.hid (L6 w2 O2).out; have HB2 := Lib.hid ((HB1.out.alloc HB1.out.size _).trans (hB2.mono (HB1.out.alloc HB1.out.size (.cells #[.int .i64 ((k : Int) + 4)] 3)).size)); have HO2 := Lib.hid hO2; have HS1 : Hid (w.heap.size + 1 ≤ w1.heap.size ∧ w1.heap.size + 1 ≤ w2.heap.size) := Lib.hid ⟨HS0.out, (by have := hB2.size; simpa using this)⟩; clear hk3 hk5 hB2 hO2))
  obtain ⟨W0, hW0⟩ : ∃ W, W = w2.alloc (.cells #[.slice O2 k k] 22) := ⟨_, rfl⟩
  have K6z := K6b.out
  have K3z := K3b.out
  have K5z := K5b.out
  have HRO := Lib.hid (Ownv.rd (Ownv.alloc HO2.out (.cells #[.slice O2 k k] 22)))
  have HBW := Lib.hid (HB2.out.alloc HB2.out.size (.cells #[.slice O2 k k] 22))
  rw [← hW0] at K6z K3z K5z HRO HBW
  rw [← hW0]
  have hk1 : 1 ≤ k := by omega
  have hk100 : k + 3 ≤ 100000 := by omega
  have hn48 : k + 4 ≤ 6148 := by omega
  have HSL : Hid (stepsL k 1 = pairL (osL k 1) (1 * (k + 4)) k ++ [.int .i64 (k : Int), .int .i64 ((k : Int) + 4 + (k : Int)), .int .i64 (2 * ((k : Int) + 4) + (k : Int)), .int .i64 ((k : Int) + 1), .int .i64 ((k : Int) + 4 + (k : Int) + 1), .int .i64 (2 * ((k : Int) + 4) + (k : Int) + 1)]) := Lib.hid (by first | (simp [stepsL, tailL, atN]; done) | (simp [stepsL, tailL, atN]; omega))
  have hctx : PairCtx W0 w2.heap.size w.heap.size w1.heap.size O2 k k (osL k 1) 1 (k + 4) := ⟨K6z.rd.at_ 0 _ rfl, K3z.rd.at_ 0 _ rfl, K5z.rd.at_ 0 _ rfl, HRO.out⟩
  have HC5 : Hid (∀ W : World, Below W0.heap.size W0 W → W.cell? ⟨w1.heap.size, 0, none⟩ = some (.int .i64 ((k : Int) + 4))) := Lib.hid (fun W hB => (hctx.below hB).c5)
  have HCTX := Lib.hid hctx
  clear hctx K6z K3z K5z hW0 c3 c3b c5b
  have e0 : IntKind.i64.wrap (2 * ((k : Int) + 4)) = (2 * ((k : Int) + 4)) := IntWalk.i64_in _ (by omega)
  have e1 : IntKind.i64.wrap ((k : Int) + 4 + (k : Int)) = ((k : Int) + 4 + (k : Int)) := IntWalk.i64_in _ (by omega)
  have e2 : IntKind.i64.wrap (2 * ((k : Int) + 4) + (k : Int)) = (2 * ((k : Int) + 4) + (k : Int)) := IntWalk.i64_in _ (by omega)
  have e3 : IntKind.i64.wrap ((k : Int) + 1) = ((k : Int) + 1) := IntWalk.i64_in _ (by omega)
  have e4 : IntKind.i64.wrap ((k : Int) + 4 + (k : Int) + 1) = ((k : Int) + 4 + (k : Int) + 1) := IntWalk.i64_in _ (by omega)
  have e5 : IntKind.i64.wrap (2 * ((k : Int) + 4) + (k : Int) + 1) = (2 * ((k : Int) + 4) + (k : Int) + 1) := IntWalk.i64_in _ (by omega)
  go_cut [8] (fun v wx => RegS W0 k 1 v wx)
  case first =>
    go_region_held3 (fun W => W.cell? ⟨w1.heap.size, 0, none⟩ = some (.int .i64 ((k : Int) + 4))) (exact HC5.out _ (by first | exact Below.refl _ W0 | exact (Below.refl _ W0).drew | exact bal (Below.refl _ W0) _ | exact bal (Below.refl _ W0).drew _ | exact bal (bal (Below.refl _ W0).drew _) _ | exact hB9p | exact hB9p.drew | exact bal hB9p _ | exact bal (bal hB9p _) _ | exact hB10 | exact hB10.drew | exact bal hB10 _ | exact hB10.setCell (by first | exact Nat.le_refl _ | exact Nat.le_succ _ | exact hs9 | exact Nat.le_succ_of_le hs9) _))
      (first
        | (go_at_call 78
           clear e0 e1 e2 e3 e4 e5
           refine (made2_any w2.heap.size w.heap.size w1.heap.size O2 k k (osL k 1) 1 (k + 4) _ (HCTX.out.below (by first | exact Below.refl _ W0 | exact (Below.refl _ W0).drew | exact bal (Below.refl _ W0) _ | exact bal (Below.refl _ W0).drew _ | exact bal (bal (Below.refl _ W0).drew _) _ | exact hB9p | exact hB9p.drew | exact bal hB9p _ | exact bal (bal hB9p _) _ | exact hB10 | exact hB10.drew | exact bal hB10 _ | exact hB10.setCell (by first | exact Nat.le_refl _ | exact Nat.le_succ _ | exact hs9 | exact Nat.le_succ_of_le hs9) _)) n1 hk1 (by decide) hn48).mono ?_
           rintro e w9 ⟨rfl, hO9, hB9⟩
           have hB9p := bnext (by first | exact Below.refl _ W0 | exact (Below.refl _ W0).drew | exact bal (Below.refl _ W0) _ | exact bal (Below.refl _ W0).drew _ | exact bal (bal (Below.refl _ W0).drew _) _ | exact hB9p | exact hB9p.drew | exact bal hB9p _ | exact bal (bal hB9p _) _ | exact hB10 | exact hB10.drew | exact bal hB10 _ | exact hB10.setCell (by first | exact Nat.le_refl _ | exact Nat.le_succ _ | exact hs9 | exact Nat.le_succ_of_le hs9) _) hB9
           have h39 := bheap hB9
           have hO9m := Ownv.mono hO9 (bsz hB9 (by first | exact Below.refl _ W0 | exact (Below.refl _ W0).drew | exact bal (Below.refl _ W0) _ | exact bal (Below.refl _ W0).drew _ | exact bal (bal (Below.refl _ W0).drew _) _ | exact hB9p | exact hB9p.drew | exact bal hB9p _ | exact bal (bal hB9p _) _ | exact hB10 | exact hB10.drew | exact bal hB10 _ | exact hB10.setCell (by first | exact Nat.le_refl _ | exact Nat.le_succ _ | exact hs9 | exact Nat.le_succ_of_le hs9) _))
           have hlo := (Ownv.blk_ge hO9 (two_pos hk1)).2
           simp only [World.size_alloc, World.size_drew] at hO9m hlo
           clear hO9 hB9)
        | (refine step_of rfl ?_
           refine wp_app75 (w0 := W0) (.tmp 38) (.tmp 61) rfl (vs := pairL (osL k 1) (1 * (k + 4)) k) (us := [.int .i64 (k : Int), .int .i64 ((k : Int) + 4 + (k : Int)), .int .i64 (2 * ((k : Int) + 4) + (k : Int)), .int .i64 ((k : Int) + 1), .int .i64 ((k : Int) + 4 + (k : Int) + 1), .int .i64 (2 * ((k : Int) + 4) + (k : Int) + 1)]) rfl rfl ?_ ?_ ?_ rfl ?_ hk100 hk1 ?_
           · first | exact Below.refl _ W0 | exact (Below.refl _ W0).drew | exact bal (Below.refl _ W0) _ | exact bal (Below.refl _ W0).drew _ | exact bal (bal (Below.refl _ W0).drew _) _ | exact hB9p | exact hB9p.drew | exact bal hB9p _ | exact bal (bal hB9p _) _ | exact hB10 | exact hB10.drew | exact bal hB10 _ | exact hB10.setCell (by first | exact Nat.le_refl _ | exact Nat.le_succ _ | exact hs9 | exact Nat.le_succ_of_le hs9) _
           · first | exact hO9m | exact hO9m.drew | exact hO9m.alloc _ | exact (hO9m.alloc _).alloc _
           · repeat (first | ((with_reducible refine heap_new' ?_); simp; done) | (with_reducible refine heap_drew' ?_) | (with_reducible refine heap_old' ?_) | (with_reducible refine h39 _ _ ?_))
           · exact oneCell_ints .i64 [(k : Int), ((k : Int) + 4 + (k : Int)), (2 * ((k : Int) + 4) + (k : Int)), ((k : Int) + 1), ((k : Int) + 4 + (k : Int) + 1), (2 * ((k : Int) + 4) + (k : Int) + 1)]
           intro g10 c10 w10 hR10 ht10 hB10 hk10
           have hg10 := heap_tag_ne ht10
           have hs9 := hB9p.size
           try
             refine hv_ (hk10 W0.heap.size (.cells #[.slice none 0 0] 134 (0, 0)) ?_ ?_) ?_
             · repeat (first | ((with_reducible refine heap_new' ?_); simp; done) | (with_reducible refine heap_drew' ?_) | (with_reducible refine heap_old' ?_) | (with_reducible refine h39 _ _ ?_))
             · first | (simp; done) | exact Nat.ne_of_gt hlo | exact Nat.ne_of_gt (Nat.lt_succ_of_lt hlo) | omega
             intro x8
             have y8 := heap_box x8
           try
             refine hv_ (hk10 (W0.heap.size + 1) (.cells #[.slice none 0 0] 134 (0, 0)) ?_ ?_) ?_
             · repeat (first | ((with_reducible refine heap_new' ?_); simp; done) | (with_reducible refine heap_drew' ?_) | (with_reducible refine heap_old' ?_) | (with_reducible refine h39 _ _ ?_))
             · first | (simp; done) | exact Nat.ne_of_gt hlo | exact Nat.ne_of_gt (Nat.lt_succ_of_lt hlo) | omega
             intro x8
             have y8 := heap_box x8
           try
             refine hv_ (hk10 w9.heap.size (.cells #[.slice none 0 0] 134 (0, 0)) ?_ ?_) ?_
             · repeat (first | ((with_reducible refine heap_new' ?_); simp; done) | (with_reducible refine heap_drew' ?_) | (with_reducible refine heap_old' ?_) | (with_reducible refine h39 _ _ ?_))
             · first | (simp; done) | exact Nat.ne_of_gt hlo | exact Nat.ne_of_gt (Nat.lt_succ_of_lt hlo) | omega
             intro x8
             have y8 := heap_box x8
           try
             refine hv_ (hk10 (w9.heap.size + 1) (.cells #[.slice none 0 0] 134 (0, 0)) ?_ ?_) ?_
             · repeat (first | ((with_reducible refine heap_new' ?_); simp; done) | (with_reducible refine heap_drew' ?_) | (with_reducible refine heap_old' ?_) | (with_reducible refine h39 _ _ ?_))
             · first | (simp; done) | exact Nat.ne_of_gt hlo | exact Nat.ne_of_gt (Nat.lt_succ_of_lt hlo) | omega
             intro x8
             have y8 := heap_box x8
           try obtain ⟨y8c, y8f⟩ := y8))
    all_goals
      go_wp2_with fail
      go_meet
      rw [← HSL.out] at hR10
      refine ⟨_, g10, c10, rfl, ?_, ?_, ?_⟩
      · first | exact (heap_box (heap_new' rfl)).1 | exact World.cell?_setCell_same' w10 _ _ (by rw [y8c]; rfl)
      · first | exact hR10.alloc _ | exact Rdv.grown hR10 (box_put x8) (fun _ he => hg10 _ _ 134 x8 (by decide) (Option.some.inj he))
      · first | exact bal hB10 _ | exact hB10.setCell (by first | exact Nat.le_refl _ | exact Nat.le_succ _ | exact hs9 | exact Nat.le_succ_of_le hs9) _
  case rest =>
    obtain ⟨b8, g', c', rfl, hc8, hr8, hB8⟩ := hcut
    go_wp2
    go_ret
    exact ⟨_, rfl, ⟨b8, g', c', rfl, hc8, hr8⟩, HBW.out.trans (hB8.mono HBW.out.size)⟩
set_option maxRecDepth 100000 in
set_option maxHeartbeats 600000 in
theorem steps2_any (k : Nat) (w : World) (hv : validK (k : Int) = true) : Calls Try.prog 57 #[.int .i64 k, .int .i64 2] w fun e w' => ∃ v, e = .returned v ∧ StepsOk w' k 2 v ∧ Below w.heap.size w w' := by
  obtain ⟨n0, n1⟩ := valid_len hv
  have ho := fun W => Lib.hid (order_any (k : Int) W)
  have e1 : permE (k : Int) = 0 := by unfold permE; rw [if_pos hv]
  have e2 : ordR (k : Int) = ordL k := by unfold ordR; rw [if_pos hv, Int.toNat_natCast]
  rw [e1, e2] at ho
  clear e1 e2
  have hvv := fun W => Lib.hid (valid_any (k : Int) W)
  rw [hv] at hvv
  have hmd := fun W => Lib.hid (made1_any k W n1)
  clear hv
  have K3 := Lib.hid (Ownv.lit (base := 0) w #[.int .i64 2] 3 rfl (Nat.zero_le _) (by show 1 ≤ maxLen; unfold maxLen; omega))
  have L5 := fun W : World => Lib.hid (Ownv.lit (base := 0) W #[.int .i64 ((k : Int) + 4)] 3 rfl (Nat.zero_le _) (by show 1 ≤ maxLen; unfold maxLen; omega))
  have L6 := fun (W : World) (O : Option Addr) => Lib.hid (Ownv.lit (base := 0) W #[.slice O k k] 22 rfl (Nat.zero_le _) (by show 1 ≤ maxLen; unfold maxLen; omega))
  go_enter Try.func57, Try.ntmps57
  go_wp2_with (first
    | (go_at_call 25; refine (hvv _).out.mono ?_; rintro e w1 ⟨rfl, hB1⟩; have hk3 := K3.out.below hB1; have c3 := hk3.rd.at_ 0 _ rfl; simp only [adr_some, Nat.zero_add] at c3; have K3a := Lib.hid hk3; have HS0 : Hid (w.heap.size + 1 ≤ w1.heap.size) := Lib.hid (by have := hB1.size; simpa using this); have HB1 := Lib.hid (((Below.refl _ w).alloc (Nat.le_refl _) _).trans (hB1.mono (by simp))); clear hk3 hB1)
    | (go_at_call 76; refine (hmd _).out.mono ?_; rintro e w2 ⟨O2, rfl, hO2, hB2⟩; have hk3 := Ownv.alloc ((Ownv.alloc K3a.out _).below hB2) (.cells #[.slice O2 k k] 22); have hk5 := Ownv.alloc ((L5 w1).out.below hB2) (.cells #[.slice O2 k k] 22); have c3b := hk3.rd.at_ 0 _ rfl; have c5b := hk5.rd.at_ 0 _ rfl; simp only [adr_some, Nat.zero_add] at c3b c5b; have K3b := Lib.hid hk3; have K5b := Lib.hid hk5; have K6b := Lib.hid (L6 w2 O2).out; have HB2 := Lib.hid ((HB1.out.alloc HB1.out.size _).trans (hB2.mono (HB1.out.alloc HB1.out.size (.cells #[.int .i64 ((k : Int) + 4)] 3)).size)); have HO2 := Lib.hid hO2; have HS1 : Hid (w.heap.size + 1 ≤ w1.heap.size ∧ w1.heap.size + 1 ≤ w2.heap.size) := Lib.hid ⟨HS0.out, (by have := hB2.size; simpa using this)⟩; clear hk3 hk5 hB2 hO2)
    | (go_at_call 28; refine (ho _).out.mono ?_; rintro e w3 ⟨O3, n3, rfl, hO3, hB3⟩; obtain rfl : k = n3 := (by have := (Own.rd hO3).len; rw [ordL_len] at this; exact this); have hk6 := (K6b.out.below hB3); have c6 := hk6.rd.at_ 0 _ rfl; have f6 := Ownv.frozen hk6 (by simp) 0; simp only [adr_some, Nat.zero_add] at c6 f6; have s6 := Ownv.set_ hk6 (j := 0) (by simp) (.slice O3 k k); simp only [adr_some, Nat.zero_add] at s6; have hk3 := Ownv.grown (K3b.out.below hB3) s6.2 (fun _ he => by have h9 : w.heap.size = w2.heap.size := Option.some.inj he; have := HB2.out.size; have := HS1.out; omega); have hk5 := Ownv.grown (K5b.out.below hB3) s6.2 (fun _ he => by have h9 : w1.heap.size = w2.heap.size := Option.some.inj he; have := HS1.out; omega); have c3c := hk3.rd.at_ 0 _ rfl; have c5c := hk5.rd.at_ 0 _ rfl; simp only [adr_some, Nat.zero_add] at c3c c5c; have K3c := Lib.hid hk3; have K5c := Lib.hid hk5; have K6c := Lib.hid s6.1; have HO3 := Lib.hid (Ownv.grown hO3 s6.2 (fun hA he => by have h9 : blk O3 = w2.heap.size := Option.some.inj he; have := (Ownv.blk_of hO3 hA).1; simp at this; omega)); have HB3 := Lib.hid ((((HB2.out.alloc HB2.out.size _)).trans (hB3.mono (HB2.out.alloc HB2.out.size (.cells #[.slice O2 k k] 22)).size)).grown s6.2 ((HB2.out.alloc HB2.out.size _).trans (hB3.mono (HB2.out.alloc HB2.out.size (.cells #[.slice O2 k k] 22)).size)).size (fun q hq => by have h8 : w2.heap.size = q := Option.some.inj hq; have := HB2.out.size; omega)); clear hk3 hk5 hk6 hO3 hB3 s6))
  obtain ⟨W0, hW0⟩ : ∃ W, W = w3.setCell ⟨w2.heap.size, 0, none⟩ (.slice O3 k k) := ⟨_, rfl⟩
  have K6z := K6c.out
  have K3z := K3c.out
  have K5z := K5c.out
  have HRO := Lib.hid (Ownv.rd HO3.out)
  have HBW := HB3
  rw [← hW0] at K6z K3z K5z HRO HBW
  rw [← hW0]
  have hk1 : 1 ≤ k := by omega
  have hk100 : k + 3 ≤ 100000 := by omega
  have hn48 : k + 4 ≤ 6148 := by omega
  have HSL : Hid (stepsL k 2 = pairL (osL k 2) (2 * (k + 4)) k ++ [.int .i64 ((k : Int) + 4 - 2), .int .i64 ((k : Int) + 4 + ((k : Int) + 4 - 2)), .int .i64 (2 * ((k : Int) + 4) + ((k : Int) + 4 - 2)), .int .i64 (((k : Int) + 4 - 2) + 1), .int .i64 ((k : Int) + 4 + ((k : Int) + 4 - 2) + 1), .int .i64 (2 * ((k : Int) + 4) + ((k : Int) + 4 - 2) + 1)]) := Lib.hid (by first | (simp [stepsL, tailL, atN]; done) | (simp [stepsL, tailL, atN]; omega))
  have hctx : PairCtx W0 w2.heap.size w.heap.size w1.heap.size O3 k k (osL k 2) 2 (k + 4) := ⟨K6z.rd.at_ 0 _ rfl, K3z.rd.at_ 0 _ rfl, K5z.rd.at_ 0 _ rfl, HRO.out⟩
  have HC5 : Hid (∀ W : World, Below W0.heap.size W0 W → W.cell? ⟨w1.heap.size, 0, none⟩ = some (.int .i64 ((k : Int) + 4))) := Lib.hid (fun W hB => (hctx.below hB).c5)
  have HCTX := Lib.hid hctx
  clear hctx K6z K3z K5z hW0 c3 c3b c5b c6 f6 c3c c5c
  have e0 : IntKind.i64.wrap (2 * ((k : Int) + 4)) = (2 * ((k : Int) + 4)) := IntWalk.i64_in _ (by omega)
  have e1 : IntKind.i64.wrap ((k : Int) + 4 + ((k : Int) + 4 - 2)) = ((k : Int) + 4 + ((k : Int) + 4 - 2)) := IntWalk.i64_in _ (by omega)
  have e2 : IntKind.i64.wrap (2 * ((k : Int) + 4) + ((k : Int) + 4 - 2)) = (2 * ((k : Int) + 4) + ((k : Int) + 4 - 2)) := IntWalk.i64_in _ (by omega)
  have e3 : IntKind.i64.wrap (((k : Int) + 4 - 2) + 1) = (((k : Int) + 4 - 2) + 1) := IntWalk.i64_in _ (by omega)
  have e4 : IntKind.i64.wrap ((k : Int) + 4 + ((k : Int) + 4 - 2) + 1) = ((k : Int) + 4 + ((k : Int) + 4 - 2) + 1) := IntWalk.i64_in _ (by omega)
  have e5 : IntKind.i64.wrap (2 * ((k : Int) + 4) + ((k : Int) + 4 - 2) + 1) = (2 * ((k : Int) + 4) + ((k : Int) + 4 - 2) + 1) := IntWalk.i64_in _ (by omega)
  go_cut [8] (fun v wx => RegS W0 k 2 v wx)
  case first =>
    go_region_held3 (fun W => W.cell? ⟨w1.heap.size, 0, none⟩ = some (.int .i64 ((k : Int) + 4))) (exact HC5.out _ (by first | exact Below.refl _ W0 | exact (Below.refl _ W0).drew | exact bal (Below.refl _ W0) _ | exact bal (Below.refl _ W0).drew _ | exact bal (bal (Below.refl _ W0).drew _) _ | exact hB9p | exact hB9p.drew | exact bal hB9p _ | exact bal (bal hB9p _) _ | exact hB10 | exact hB10.drew | exact bal hB10 _ | exact hB10.setCell (by first | exact Nat.le_refl _ | exact Nat.le_succ _ | exact hs9 | exact Nat.le_succ_of_le hs9) _))
      (first
        | (go_at_call 78
           clear e0 e1 e2 e3 e4 e5
           refine (made2_any w2.heap.size w.heap.size w1.heap.size O3 k k (osL k 2) 2 (k + 4) _ (HCTX.out.below (by first | exact Below.refl _ W0 | exact (Below.refl _ W0).drew | exact bal (Below.refl _ W0) _ | exact bal (Below.refl _ W0).drew _ | exact bal (bal (Below.refl _ W0).drew _) _ | exact hB9p | exact hB9p.drew | exact bal hB9p _ | exact bal (bal hB9p _) _ | exact hB10 | exact hB10.drew | exact bal hB10 _ | exact hB10.setCell (by first | exact Nat.le_refl _ | exact Nat.le_succ _ | exact hs9 | exact Nat.le_succ_of_le hs9) _)) n1 hk1 (by decide) hn48).mono ?_
           rintro e w9 ⟨rfl, hO9, hB9⟩
           have hB9p := bnext (by first | exact Below.refl _ W0 | exact (Below.refl _ W0).drew | exact bal (Below.refl _ W0) _ | exact bal (Below.refl _ W0).drew _ | exact bal (bal (Below.refl _ W0).drew _) _ | exact hB9p | exact hB9p.drew | exact bal hB9p _ | exact bal (bal hB9p _) _ | exact hB10 | exact hB10.drew | exact bal hB10 _ | exact hB10.setCell (by first | exact Nat.le_refl _ | exact Nat.le_succ _ | exact hs9 | exact Nat.le_succ_of_le hs9) _) hB9
           have h39 := bheap hB9
           have hO9m := Ownv.mono hO9 (bsz hB9 (by first | exact Below.refl _ W0 | exact (Below.refl _ W0).drew | exact bal (Below.refl _ W0) _ | exact bal (Below.refl _ W0).drew _ | exact bal (bal (Below.refl _ W0).drew _) _ | exact hB9p | exact hB9p.drew | exact bal hB9p _ | exact bal (bal hB9p _) _ | exact hB10 | exact hB10.drew | exact bal hB10 _ | exact hB10.setCell (by first | exact Nat.le_refl _ | exact Nat.le_succ _ | exact hs9 | exact Nat.le_succ_of_le hs9) _))
           have hlo := (Ownv.blk_ge hO9 (two_pos hk1)).2
           simp only [World.size_alloc, World.size_drew] at hO9m hlo
           clear hO9 hB9)
        | (refine step_of rfl ?_
           refine wp_app75 (w0 := W0) (.tmp 38) (.tmp 61) rfl (vs := pairL (osL k 2) (2 * (k + 4)) k) (us := [.int .i64 ((k : Int) + 4 - 2), .int .i64 ((k : Int) + 4 + ((k : Int) + 4 - 2)), .int .i64 (2 * ((k : Int) + 4) + ((k : Int) + 4 - 2)), .int .i64 (((k : Int) + 4 - 2) + 1), .int .i64 ((k : Int) + 4 + ((k : Int) + 4 - 2) + 1), .int .i64 (2 * ((k : Int) + 4) + ((k : Int) + 4 - 2) + 1)]) rfl rfl ?_ ?_ ?_ rfl ?_ hk100 hk1 ?_
           · first | exact Below.refl _ W0 | exact (Below.refl _ W0).drew | exact bal (Below.refl _ W0) _ | exact bal (Below.refl _ W0).drew _ | exact bal (bal (Below.refl _ W0).drew _) _ | exact hB9p | exact hB9p.drew | exact bal hB9p _ | exact bal (bal hB9p _) _ | exact hB10 | exact hB10.drew | exact bal hB10 _ | exact hB10.setCell (by first | exact Nat.le_refl _ | exact Nat.le_succ _ | exact hs9 | exact Nat.le_succ_of_le hs9) _
           · first | exact hO9m | exact hO9m.drew | exact hO9m.alloc _ | exact (hO9m.alloc _).alloc _
           · repeat (first | ((with_reducible refine heap_new' ?_); simp; done) | (with_reducible refine heap_drew' ?_) | (with_reducible refine heap_old' ?_) | (with_reducible refine h39 _ _ ?_))
           · exact oneCell_ints .i64 [((k : Int) + 4 - 2), ((k : Int) + 4 + ((k : Int) + 4 - 2)), (2 * ((k : Int) + 4) + ((k : Int) + 4 - 2)), (((k : Int) + 4 - 2) + 1), ((k : Int) + 4 + ((k : Int) + 4 - 2) + 1), (2 * ((k : Int) + 4) + ((k : Int) + 4 - 2) + 1)]
           intro g10 c10 w10 hR10 ht10 hB10 hk10
           have hg10 := heap_tag_ne ht10
           have hs9 := hB9p.size
           try
             refine hv_ (hk10 W0.heap.size (.cells #[.slice none 0 0] 134 (0, 0)) ?_ ?_) ?_
             · repeat (first | ((with_reducible refine heap_new' ?_); simp; done) | (with_reducible refine heap_drew' ?_) | (with_reducible refine heap_old' ?_) | (with_reducible refine h39 _ _ ?_))
             · first | (simp; done) | exact Nat.ne_of_gt hlo | exact Nat.ne_of_gt (Nat.lt_succ_of_lt hlo) | omega
             intro x8
             have y8 := heap_box x8
           try
             refine hv_ (hk10 (W0.heap.size + 1) (.cells #[.slice none 0 0] 134 (0, 0)) ?_ ?_) ?_
             · repeat (first | ((with_reducible refine heap_new' ?_); simp; done) | (with_reducible refine heap_drew' ?_) | (with_reducible refine heap_old' ?_) | (with_reducible refine h39 _ _ ?_))
             · first | (simp; done) | exact Nat.ne_of_gt hlo | exact Nat.ne_of_gt (Nat.lt_succ_of_lt hlo) | omega
             intro x8
             have y8 := heap_box x8
           try
             refine hv_ (hk10 w9.heap.size (.cells #[.slice none 0 0] 134 (0, 0)) ?_ ?_) ?_
             · repeat (first | ((with_reducible refine heap_new' ?_); simp; done) | (with_reducible refine heap_drew' ?_) | (with_reducible refine heap_old' ?_) | (with_reducible refine h39 _ _ ?_))
             · first | (simp; done) | exact Nat.ne_of_gt hlo | exact Nat.ne_of_gt (Nat.lt_succ_of_lt hlo) | omega
             intro x8
             have y8 := heap_box x8
           try
             refine hv_ (hk10 (w9.heap.size + 1) (.cells #[.slice none 0 0] 134 (0, 0)) ?_ ?_) ?_
             · repeat (first | ((with_reducible refine heap_new' ?_); simp; done) | (with_reducible refine heap_drew' ?_) | (with_reducible refine heap_old' ?_) | (with_reducible refine h39 _ _ ?_))
             · first | (simp; done) | exact Nat.ne_of_gt hlo | exact Nat.ne_of_gt (Nat.lt_succ_of_lt hlo) | omega
             intro x8
             have y8 := heap_box x8
           try obtain ⟨y8c, y8f⟩ := y8))
    all_goals
      go_wp2_with fail
      go_meet
      rw [← HSL.out] at hR10
      refine ⟨_, g10, c10, rfl, ?_, ?_, ?_⟩
      · first | exact (heap_box (heap_new' rfl)).1 | exact World.cell?_setCell_same' w10 _ _ (by rw [y8c]; rfl)
      · first | exact hR10.alloc _ | exact Rdv.grown hR10 (box_put x8) (fun _ he => hg10 _ _ 134 x8 (by decide) (Option.some.inj he))
      · first | exact bal hB10 _ | exact hB10.setCell (by first | exact Nat.le_refl _ | exact Nat.le_succ _ | exact hs9 | exact Nat.le_succ_of_le hs9) _
  case rest =>
    obtain ⟨b8, g', c', rfl, hc8, hr8, hB8⟩ := hcut
    go_wp2
    go_ret
    exact ⟨_, rfl, ⟨b8, g', c', rfl, hc8, hr8⟩, HBW.out.trans (hB8.mono HBW.out.size)⟩
end Go.Proofs.Ytpdalbckmfadbaa.Tu

namespace Go.Proofs.Ytpdalbckmfadbaa.Tu
open Go.RowKit Go.Shelf
set_option linter.unusedVariables false
attribute [local go_sem] Oper.semAt_some
section
variable {F : Fence} {n : Nat} {P : Program} {Q : Exit → Act → World → Prop} {a : Act} {w : World}
/-- a scope that no goto leaves, outside every round -/
theorem wpIn_scope_straight {c : Code} (hro : F.round = none) (h : c.wpIn F n P (Exit.noGoto Q) a w) : (Code.scope c).wpIn F n P Q a w := by
  intro b k cs hb1 hb hr
  have hn : b.roundOf = none := by rw [hb1, hro]
  have h0 : (lone (b.atR a (.code (.scope c) :: k)) cs w).fenced P F := fenced_calm hb hr rfl
  have s0 : step P (lone (b.atR a (.code (.scope c) :: k)) cs w) = .next (lone (b.atR a (.code c :: .inScope c :: k)) cs w) := by
    rw [Frame.atR_of_none hn, Frame.atR_of_none hn]; exact step_scope
  have s1 : ∀ a₁ w₁, step P (lone (b.atR a₁ (.inScope c :: k)) cs w₁) = .next (lone (b.atR a₁ k) cs w₁) := fun a₁ w₁ => by
    rw [Frame.atR_of_none hn, Frame.atR_of_none hn]; exact step_inScope
  obtain ⟨e, a₁, w₁, hq, harr⟩ := h b (.inScope c :: k) cs hb1 hb hr
  cases e with
  | normal => exact ⟨.normal, a₁, w₁, hq, .of_steps (.one h0 s0) (StepsIn.trans harr (.one (fenced_calm hb hr rfl) (s1 a₁ w₁)))⟩
  | exit id => exact ⟨.exit id, a₁, w₁, hq, fun k' hk => StepsIn.trans (.one h0 s0) (harr.1 k' (by simp [exitTo, hk])), fun hs => by rw [hn] at hs; cases hs⟩
  | goto l => exact hq.elim
  | ret => exact ⟨_, a₁, w₁, hq, .of_steps (.one h0 s0) harr⟩
  | panic ch => exact ⟨_, a₁, w₁, hq, .of_steps (.one h0 s0) harr⟩
  | outgrown => exact ⟨_, a₁, w₁, hq, .of_steps (.one h0 s0) harr⟩
end
def flatP (ps : List (Int × Int)) : List Value := ps.flatMap fun x => [.int .i64 x.1, .int .i64 x.2]
theorem flatP_get : ∀ (ps : List (Int × Int)) (j : Nat) (x : Int × Int), ps[j]? = some x → (flatP ps)[2 * j]? = some (.int .i64 x.1) ∧ (flatP ps)[2 * j + 1]? = some (.int .i64 x.2)
  | [], j, x, h => by cases h
  | p :: ps, 0, x, h => by
    simp at h; subst h
    exact ⟨rfl, rfl⟩
  | p :: ps, j + 1, x, h => by
    have h' : ps[j]? = some x := by simpa using h
    obtain ⟨h1, h2⟩ := flatP_get ps j x h'
    have e : flatP (p :: ps) = .int .i64 p.1 :: .int .i64 p.2 :: flatP ps := rfl
    rw [e, show 2 * (j + 1) = 2 * j + 1 + 1 by omega, show 2 * j + 1 + 1 + 1 = 2 * j + 1 + 1 + 1 from rfl]
    exact ⟨by rw [List.getElem?_cons_succ, List.getElem?_cons_succ]; exact h1, by rw [List.getElem?_cons_succ, List.getElem?_cons_succ]; exact h2⟩
def stepsP (k code : Nat) : List (Int × Int) := ((List.range k).map fun j => (gi (osL k code) j, ((code * (k + 4) + j : Nat) : Int))) ++ [((atN k code : Int), ((k + 4 + atN k code : Nat) : Int)), (((2 * (k + 4) + atN k code : Nat) : Int), ((atN k code + 1 : Nat) : Int)), (((k + 4 + atN k code + 1 : Nat) : Int), ((2 * (k + 4) + atN k code + 1 : Nat) : Int))]
theorem stepsP_len (k code : Nat) : (stepsP k code).length = k + 3 := by simp [stepsP]
theorem stepsP_flat (k code : Nat) : flatP (stepsP k code) = stepsL k code := by
  unfold flatP stepsP stepsL pairL tailL
  rw [List.flatMap_append, List.flatMap_map]
  rfl
/-- block g stays as it was -/
def KeepG (g : Nat) (A B : World) : Prop := B.heap[g]? = A.heap[g]? ∧ A.heap.size ≤ B.heap.size
theorem KeepG.refl (g : Nat) (A : World) : KeepG g A A := ⟨rfl, Nat.le_refl _⟩
theorem KeepG.trans {g : Nat} {A B C : World} (h : KeepG g A B) (k : KeepG g B C) : KeepG g A C := ⟨k.1.trans h.1, Nat.le_trans h.2 k.2⟩
theorem KeepG.alloc {g : Nat} {A : World} (h : g < A.heap.size) (o : Obj) : KeepG g A (A.alloc o) := ⟨heap_alloc_old (h := h) .., by simp⟩
theorem KeepG.grown {g : Nat} {A B : World} {row : Option Nat} (hg : A.grownBy B row) (h : g < A.heap.size) (hne : some g ≠ row) : KeepG g A B := ⟨hg.block g h hne, hg.size⟩
theorem KeepG.below {g n : Nat} {A B : World} (h : Below n A B) (hg : g < n) : KeepG g A B := ⟨h.block g hg, h.size⟩
theorem keepG_b {g : Nat} {w : World} (hn : g < w.heap.size) (W : World) (l : Nat) (o o' : Obj) (hl : w.heap.size ≤ l) (h : W.heap[l]? = some o) (_ : o.isCells = false) (_ : o.isWalk = false) : KeepG g W (W.putObj l o') := by
  have hlt := (Array.getElem?_eq_some_iff.1 h).1
  have hg := grownBy_putObj' W l o'
  exact ⟨hg.block g (by omega) (by intro e; have := Option.some.inj e; omega), hg.size⟩
theorem Rdv.keepg {w w' : World} {g n c : Nat} {vs : List Value} (h : Rdv w (some ⟨g, 0, none⟩) n c vs) (hk : KeepG g w w') : Rdv w' (some ⟨g, 0, none⟩) n c vs := by
  refine ⟨h.len, h.le, h.cm, h.nil, h.spot, fun hc a ha => Nat.lt_of_lt_of_le (h.lt hc a ha) hk.2, fun j v hj => ?_⟩
  rw [← h.at_ j v hj]
  exact World.cell?_of_block (by rw [adr_some]; exact hk.1)
def S4Inv (N : Nat) (ps : List (Int × Int)) (g : Nat) (W : World) (J : List (Int × Int) → World → Prop) (i : Value) (wr : World) : Prop := ∃ k : Nat, k ≤ N ∧ i = .int .i64 k ∧ J (ps.take k) wr ∧ KeepG g W wr
def S4Post (ps : List (Int × Int)) (J Jx : List (Int × Int) → World → Prop) (e : Ending) (W' : World) : Prop :=
  (∃ v, e = .returned v) ∧ ((∃ ys, ys = ps ∧ J ys W') ∨ (∃ pre, (∃ k, k ≤ ps.length ∧ pre = ps.take k) ∧ Jx pre W'))
theorem takeP_succ (ps : List (Int × Int)) (k : Nat) (h : k < ps.length) : ps.take (k + 1) = ps.take k ++ [ps[k]] := by
  rw [List.take_succ_eq_append_getElem h]
set_option maxRecDepth 100000 in
set_option maxHeartbeats 1000000 in
theorem steps4_in (F : Fence) (m : Nat) (hF : F.fn 80) (hro : F.round = none) (hm : 1 ≤ m) (l Bs n₀ g N c : Nat) (ps : List (Int × Int)) (w0 : World) (hR : Rdv w0 (some ⟨g, 0, none⟩) (2 * N) (2 * N) (flatP ps)) (hN : ps.length = N) (hNb : N ≤ 100000) (h0n : w0.heap.size = n₀) (J Jx : List (Int × Int) → World → Prop)
    (W : World) (hW : Below n₀ w0 W) (hA : AbidesFrom W.heap.size J)
    (hY : ∀ pre x W, J pre W → pre.length < N → YieldAt F (m - 1) Try.prog l #[.int .i64 x.1, .int .i64 x.2] W fun e W' =>
      (e = .returned (.bool true) ∧ J (pre ++ [x]) W' ∧ KeepG g W W') ∨ (e = .returned (.bool false) ∧ Jx (pre ++ [x]) W'))
    (hBs : W.cell? ⟨Bs, 0, none⟩ = some (.slice (some ⟨g, 0, none⟩) N c)) (h0 : J [] W) :
    CallsIn F m Try.prog 80 #[.func (.yield l) #[] #[], .pointer (some ⟨Bs, 0, none⟩)] W (S4Post ps J Jx) := by
  have HR := Lib.hid (Rdv.below hR (by rw [h0n]; exact hW))
  have HN := Lib.hid hN
  clear hN
  refine callsIn_of_wp Try.func80 rfl hF ?_ hro
  simp only [Try.ntmps80, List.size_toArray, List.length_cons, List.length_nil, Nat.reduceAdd, Nat.reduceSub, Array.replicate_succ, Array.replicate_zero, List.push_toArray, List.append_toArray, List.nil_append, List.cons_append]
  refine wpIn_scope_straight hro ?_
  refine wpIn_seq ?_
  refine wpIn_label ?_
  simp only [Exit.then]
  gi_wp2
  gi_loopw [7] (fun i wr => S4Inv N ps g W J i wr) (fun i _ => N - (intOf i).toNat)
  case atStart => exact ⟨0, Nat.zero_le _, rfl, h0, KeepG.refl _ _⟩
  case round =>
    obtain ⟨k, hk, rfl, hJs, hnx⟩ := hrel
    by_cases hlt : k < N
    · have hkl : k < ps.length := by rw [HN.out]; exact hlt
      have hRr := Rdv.keepg HR.out hnx
      have hglt : g < wr.heap.size := hRr.lt (by omega) _ rfl
      obtain ⟨f0, f1⟩ := flatP_get ps k ps[k] (List.getElem?_eq_getElem hkl)
      have hc0 := hRr.at_ _ _ f0
      have hc1 := hRr.at_ _ _ f1
      simp only [adr_some, Nat.zero_add] at hc0 hc1
      have hix := fun W => ix75 g N c hlt .i64 W
      have hJa : J (ps.take k) (wr.alloc (.cells #[.int .i64 ps[k].1, .int .i64 ps[k].2] 136)) := by
        exact hA _ _ _ none hJs (World.grownBy_alloc _ _ _) (fun r e => by cases e)
      obtain ⟨fn, tmps, assign, body, hy, hRd⟩ := hY _ ps[k] _ hJa (by rw [List.length_take, HN.out]; omega)
      have HF0 := Lib.hid f0
      clear f0 f1 hRr
      generalize hx1 : ps[k].1 = x1 at *
      generalize hx2 : ps[k].2 = x2 at *
      gi_wp2
      refine hRd.mono ?_
      rintro e W3 (⟨rfl, hJ3, hk3⟩ | ⟨rfl, hJx3⟩)
      · gi_wp2
        go_roundw
        case rel => exact ⟨k + 1, by omega, by simp, by rw [takeP_succ _ _ hkl]; exact hJ3, hnx.trans ((KeepG.alloc hglt _).trans hk3)⟩
        case measure => simp [intOf]; omega
      · gi_wp2
        go_end0
        exact ⟨⟨_, rfl⟩, .inr ⟨_, ⟨k + 1, by omega, (takeP_succ _ _ hkl).symm⟩, hJx3⟩⟩
    · obtain rfl : k = N := by omega
      gi_wp2
      go_end0
      exact ⟨⟨_, rfl⟩, .inl ⟨_, List.take_of_length_le (Nat.le_of_eq HN.out), hJs⟩⟩
theorem steps4_stops (F : Fence) (m : Nat) (hF : F.fn 80) (hro : F.round = none) (hm : 1 ≤ m) (Bs n₀ g N c : Nat) (ps : List (Int × Int)) (w0 w : World) (hR : Rdv w0 (some ⟨g, 0, none⟩) (2 * N) (2 * N) (flatP ps)) (hN : ps.length = N) (hNb : N ≤ 100000) (h0n : w0.heap.size = n₀) (hW0 : Below n₀ w0 w)
    (hBs : Bs < w.heap.size) (hc : w.cell? ⟨Bs, 0, none⟩ = some (.slice (some ⟨g, 0, none⟩) N c)) :
    SeqStopsK F m Try.prog 80 #[.pointer (some ⟨Bs, 0, none⟩)] (fun x : Int × Int => #[Value.int .i64 x.1, .int .i64 x.2]) (KeepG g) (fun ys => ys = ps) (fun pre => ∃ k, k ≤ ps.length ∧ pre = ps.take k) N w := fun l J Jx W hW hA _ hY h0 =>
  steps4_in F m hF hro hm l Bs n₀ g N c ps w0 hR hN hNb h0n J Jx W (hW0.trans (hW.mono (by have := hW0.size; omega))) hA hY ((hW.cell (p := ⟨Bs, 0, none⟩) hBs).trans hc) h0
theorem steps1_stops (F : Fence) (m : Nat) (hF : F.fn 75) (hro : F.round = none) (hm : 1 ≤ m) (g N : Nat) (w : World) :
    SeqStopsK F m Try.prog 75 #[] (fun x : Int × Int => #[Value.int .i64 x.1, .int .i64 x.2]) (KeepG g) (fun ys => ys = []) (fun pre => ∃ k, k ≤ 0 ∧ pre = []) N w := fun l J Jx W hW hA _ hY h0 => by
  refine callsIn_of_wp Try.func75 rfl hF ?_ hro
  simp only [Try.ntmps75, List.size_toArray, List.length_cons, List.length_nil, Nat.reduceAdd, Nat.reduceSub, Array.replicate_succ, Array.replicate_zero, List.push_toArray, List.append_toArray, List.nil_append, List.cons_append]
  gi_wp2
  go_end0
  first | exact ⟨⟨_, rfl⟩, .inl ⟨_, rfl, h0⟩⟩ | exact ⟨⟨_, rfl⟩, .inl h0⟩
end Go.Proofs.Ytpdalbckmfadbaa.Tu

