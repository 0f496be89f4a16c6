/-
  Bundle of the texts TuZe TuZf. Conditions: none.
-/
import Derived.Test.YtpdalbckmfadbaaGreatBuhap
import Derived.Deep.AppendLies
namespace Go.Proofs.YtpdalbckmfadbaaGreat.Tu
open Go.RowKit Go.Shelf
set_option linter.unusedVariables false
attribute [local go_sem] Oper.semAt_some
section
variable {F : Fence} {n : Nat} {P : Program} {Q : Exit → Act → World → Prop} {a : Act} {w : World}
/-- a scope that no goto leaves, outside every round -/
theorem wpIn_scope_straight {c : Code} (hro : F.round = none) (h : c.wpIn F n P (Exit.noGoto Q) a w) : (Code.scope c).wpIn F n P Q a w := by
  intro b k cs hb1 hb hr
  have hn : b.roundOf = none := by rw [hb1, hro]
  have h0 : (lone (b.atR a (.code (.scope c) :: k)) cs w).fenced P F := fenced_calm hb hr rfl
  have s0 : step P (lone (b.atR a (.code (.scope c) :: k)) cs w) = .next (lone (b.atR a (.code c :: .inScope c :: k)) cs w) := by
    rw [Frame.atR_of_none hn, Frame.atR_of_none hn]; exact step_scope
  have s1 : ∀ a₁ w₁, step P (lone (b.atR a₁ (.inScope c :: k)) cs w₁) = .next (lone (b.atR a₁ k) cs w₁) := fun a₁ w₁ => by
    rw [Frame.atR_of_none hn, Frame.atR_of_none hn]; exact step_inScope
  obtain ⟨e, a₁, w₁, hq, harr⟩ := h b (.inScope c :: k) cs hb1 hb hr
  cases e with
  | normal => exact ⟨.normal, a₁, w₁, hq, .of_steps (.one h0 s0) (StepsIn.trans harr (.one (fenced_calm hb hr rfl) (s1 a₁ w₁)))⟩
  | exit id => exact ⟨.exit id, a₁, w₁, hq, fun k' hk => StepsIn.trans (.one h0 s0) (harr.1 k' (by simp [exitTo, hk])), fun hs => by rw [hn] at hs; cases hs⟩
  | goto l => exact hq.elim
  | ret => exact ⟨_, a₁, w₁, hq, .of_steps (.one h0 s0) harr⟩
  | panic ch => exact ⟨_, a₁, w₁, hq, .of_steps (.one h0 s0) harr⟩
  | outgrown => exact ⟨_, a₁, w₁, hq, .of_steps (.one h0 s0) harr⟩
end
def flatP (ps : List (Int × Int)) : List Value := ps.flatMap fun x => [.int .i64 x.1, .int .i64 x.2]
theorem flatP_get : ∀ (ps : List (Int × Int)) (j : Nat) (x : Int × Int), ps[j]? = some x → (flatP ps)[2 * j]? = some (.int .i64 x.1) ∧ (flatP ps)[2 * j + 1]? = some (.int .i64 x.2)
  | [], j, x, h => by cases h
  | p :: ps, 0, x, h => by
    simp at h; subst h
    exact ⟨rfl, rfl⟩
  | p :: ps, j + 1, x, h => by
    have h' : ps[j]? = some x := by simpa using h
    obtain ⟨h1, h2⟩ := flatP_get ps j x h'
    have e : flatP (p :: ps) = .int .i64 p.1 :: .int .i64 p.2 :: flatP ps := rfl
    rw [e, show 2 * (j + 1) = 2 * j + 1 + 1 by omega, show 2 * j + 1 + 1 + 1 = 2 * j + 1 + 1 + 1 from rfl]
    exact ⟨by rw [List.getElem?_cons_succ, List.getElem?_cons_succ]; exact h1, by rw [List.getElem?_cons_succ, List.getElem?_cons_succ]; exact h2⟩
def stepsP (k code : Nat) : List (Int × Int) := ((List.range k).map fun j => (gi (osL k code) j, ((code * (k + 4) + j : Nat) : Int))) ++ [((atN k code : Int), ((k + 4 + atN k code : Nat) : Int)), (((2 * (k + 4) + atN k code : Nat) : Int), ((atN k code + 1 : Nat) : Int)), (((k + 4 + atN k code + 1 : Nat) : Int), ((2 * (k + 4) + atN k code + 1 : Nat) : Int))]
theorem stepsP_len (k code : Nat) : (stepsP k code).length = k + 3 := by simp [stepsP]
theorem stepsP_flat (k code : Nat) : flatP (stepsP k code) = stepsL k code := by
  unfold flatP stepsP stepsL pairL tailL
  rw [List.flatMap_append, List.flatMap_map]
  rfl
/-- block g stays as it was -/
def KeepG (g : Nat) (A B : World) : Prop := B.heap[g]? = A.heap[g]? ∧ A.heap.size ≤ B.heap.size
theorem KeepG.refl (g : Nat) (A : World) : KeepG g A A := ⟨rfl, Nat.le_refl _⟩
theorem KeepG.trans {g : Nat} {A B C : World} (h : KeepG g A B) (k : KeepG g B C) : KeepG g A C := ⟨k.1.trans h.1, Nat.le_trans h.2 k.2⟩
theorem KeepG.alloc {g : Nat} {A : World} (h : g < A.heap.size) (o : Obj) : KeepG g A (A.alloc o) := ⟨heap_alloc_old (h := h) .., by simp⟩
theorem KeepG.grown {g : Nat} {A B : World} {row : Option Nat} (hg : A.grownBy B row) (h : g < A.heap.size) (hne : some g ≠ row) : KeepG g A B := ⟨hg.block g h hne, hg.size⟩
theorem KeepG.below {g n : Nat} {A B : World} (h : Below n A B) (hg : g < n) : KeepG g A B := ⟨h.block g hg, h.size⟩
theorem keepG_b {g : Nat} {w : World} (hn : g < w.heap.size) (W : World) (l : Nat) (o o' : Obj) (hl : w.heap.size ≤ l) (h : W.heap[l]? = some o) (_ : o.isCells = false) (_ : o.isWalk = false) : KeepG g W (W.putObj l o') := by
  have hlt := (Array.getElem?_eq_some_iff.1 h).1
  have hg := grownBy_putObj' W l o'
  exact ⟨hg.block g (by omega) (by intro e; have := Option.some.inj e; omega), hg.size⟩
theorem Rdv.keepg {w w' : World} {g n c : Nat} {vs : List Value} (h : Rdv w (some ⟨g, 0, none⟩) n c vs) (hk : KeepG g w w') : Rdv w' (some ⟨g, 0, none⟩) n c vs := by
  refine ⟨h.len, h.le, h.cm, h.nil, h.spot, fun hc a ha => Nat.lt_of_lt_of_le (h.lt hc a ha) hk.2, fun j v hj => ?_⟩
  rw [← h.at_ j v hj]
  exact World.cell?_of_block (by rw [adr_some]; exact hk.1)
def S4Inv (N : Nat) (ps : List (Int × Int)) (g : Nat) (W : World) (J : List (Int × Int) → World → Prop) (i : Value) (wr : World) : Prop := ∃ k : Nat, k ≤ N ∧ i = .int .i64 k ∧ J (ps.take k) wr ∧ KeepG g W wr
def S4Post (ps : List (Int × Int)) (J Jx : List (Int × Int) → World → Prop) (e : Ending) (W' : World) : Prop :=
  (∃ v, e = .returned v) ∧ ((∃ ys, ys = ps ∧ J ys W') ∨ (∃ pre, (∃ k, k ≤ ps.length ∧ pre = ps.take k) ∧ Jx pre W'))
theorem takeP_succ (ps : List (Int × Int)) (k : Nat) (h : k < ps.length) : ps.take (k + 1) = ps.take k ++ [ps[k]] := by
  rw [List.take_succ_eq_append_getElem h]
set_option maxRecDepth 100000 in
set_option maxHeartbeats 1000000 in
theorem steps4_in (F : Fence) (m : Nat) (hF : F.fn 160) (hro : F.round = none) (hm : 1 ≤ m) (l Bs n₀ g N c : Nat) (ps : List (Int × Int)) (w0 : World) (hR : Rdv w0 (some ⟨g, 0, none⟩) (2 * N) (2 * N) (flatP ps)) (hN : ps.length = N) (hNb : N ≤ 100000) (h0n : w0.heap.size = n₀) (J Jx : List (Int × Int) → World → Prop)
    (W : World) (hW : Below n₀ w0 W) (hA : AbidesFrom W.heap.size J)
    (hY : ∀ pre x W, J pre W → pre.length < N → YieldAt F (m - 1) Tryz.prog l #[.int .i64 x.1, .int .i64 x.2] W fun e W' =>
      (e = .returned (.bool true) ∧ J (pre ++ [x]) W' ∧ KeepG g W W') ∨ (e = .returned (.bool false) ∧ Jx (pre ++ [x]) W'))
    (hBs : W.cell? ⟨Bs, 0, none⟩ = some (.slice (some ⟨g, 0, none⟩) N c)) (h0 : J [] W) :
    CallsIn F m Tryz.prog 160 #[.func (.yield l) #[] #[], .pointer (some ⟨Bs, 0, none⟩)] W (S4Post ps J Jx) := by
  have HR := Lib.hid (Rdv.below hR (by rw [h0n]; exact hW))
  have HN := Lib.hid hN
  clear hN
  refine callsIn_of_wp Tryz.func160 rfl hF ?_ hro
  simp only [Tryz.ntmps160, List.size_toArray, List.length_cons, List.length_nil, Nat.reduceAdd, Nat.reduceSub, Array.replicate_succ, Array.replicate_zero, List.push_toArray, List.append_toArray, List.nil_append, List.cons_append]
  refine wpIn_scope_straight hro ?_
  refine wpIn_seq ?_
  refine wpIn_label ?_
  simp only [Exit.then]
  gi_wp2
  gi_loopw [7] (fun i wr => S4Inv N ps g W J i wr) (fun i _ => N - (intOf i).toNat)
  case atStart => exact ⟨0, Nat.zero_le _, rfl, h0, KeepG.refl _ _⟩
  case round =>
    obtain ⟨k, hk, rfl, hJs, hnx⟩ := hrel
    by_cases hlt : k < N
    · have hkl : k < ps.length := by rw [HN.out]; exact hlt
      have hRr := Rdv.keepg HR.out hnx
      have hglt : g < wr.heap.size := hRr.lt (by omega) _ rfl
      obtain ⟨f0, f1⟩ := flatP_get ps k ps[k] (List.getElem?_eq_getElem hkl)
      have hc0 := hRr.at_ _ _ f0
      have hc1 := hRr.at_ _ _ f1
      simp only [adr_some, Nat.zero_add] at hc0 hc1
      have hix := fun W => ix75 g N c hlt .i64 W
      have hJa : J (ps.take k) (wr.alloc (.cells #[.int .i64 ps[k].1, .int .i64 ps[k].2] 83)) := by
        exact hA _ _ _ none hJs (World.grownBy_alloc _ _ _) (fun r e => by cases e)
      obtain ⟨fn, tmps, assign, body, hy, hRd⟩ := hY _ ps[k] _ hJa (by rw [List.length_take, HN.out]; omega)
      have HF0 := Lib.hid f0
      clear f0 f1 hRr
      generalize hx1 : ps[k].1 = x1 at *
      generalize hx2 : ps[k].2 = x2 at *
      gi_wp2
      refine hRd.mono ?_
      rintro e W3 (⟨rfl, hJ3, hk3⟩ | ⟨rfl, hJx3⟩)
      · gi_wp2
        go_roundw
        case rel => exact ⟨k + 1, by omega, by simp, by rw [takeP_succ _ _ hkl]; exact hJ3, hnx.trans ((KeepG.alloc hglt _).trans hk3)⟩
        case measure => simp [intOf]; omega
      · gi_wp2
        go_end0
        exact ⟨⟨_, rfl⟩, .inr ⟨_, ⟨k + 1, by omega, (takeP_succ _ _ hkl).symm⟩, hJx3⟩⟩
    · obtain rfl : k = N := by omega
      gi_wp2
      go_end0
      exact ⟨⟨_, rfl⟩, .inl ⟨_, List.take_of_length_le (Nat.le_of_eq HN.out), hJs⟩⟩
theorem steps4_stops (F : Fence) (m : Nat) (hF : F.fn 160) (hro : F.round = none) (hm : 1 ≤ m) (Bs n₀ g N c : Nat) (ps : List (Int × Int)) (w0 w : World) (hR : Rdv w0 (some ⟨g, 0, none⟩) (2 * N) (2 * N) (flatP ps)) (hN : ps.length = N) (hNb : N ≤ 100000) (h0n : w0.heap.size = n₀) (hW0 : Below n₀ w0 w)
    (hBs : Bs < w.heap.size) (hc : w.cell? ⟨Bs, 0, none⟩ = some (.slice (some ⟨g, 0, none⟩) N c)) :
    SeqStopsK F m Tryz.prog 160 #[.pointer (some ⟨Bs, 0, none⟩)] (fun x : Int × Int => #[Value.int .i64 x.1, .int .i64 x.2]) (KeepG g) (fun ys => ys = ps) (fun pre => ∃ k, k ≤ ps.length ∧ pre = ps.take k) N w := fun l J Jx W hW hA _ hY h0 =>
  steps4_in F m hF hro hm l Bs n₀ g N c ps w0 hR hN hNb h0n J Jx W (hW0.trans (hW.mono (by have := hW0.size; omega))) hA hY ((hW.cell (p := ⟨Bs, 0, none⟩) hBs).trans hc) h0
end Go.Proofs.YtpdalbckmfadbaaGreat.Tu

namespace Go.Proofs.YtpdalbckmfadbaaGreat.Tu
open Go.RowKit
set_option linter.unusedVariables false
/-- Two rows lie in different blocks. -/
def Apart (A B : Option Addr) : Prop := A ≠ none → B ≠ none → blk A ≠ blk B
/-- append a literal to a row of integers: where the new row lies -/
theorem wp_appi {P : Program} {w w0 : World} {A : Option Addr} {n c m gx : Nat} {xs us : List Int} {o : Oper} {a : Act} {K : Act → World → Prop} {Q : Exit → Act → World → Prop} (s x : Operand) (t : TypeId)
    (ho : o.op = .call { callee := .builtin .append, args := #[s, x], argTypes := #[t, t] }) {z : Value} (hE : El P t 3 z 8) (hs : a.eval s = .slice A n c) (hx : a.eval x = .slice (some ⟨gx, 0, none⟩) m m)
    (hB : Below w0.heap.size w0 w) (hO : Own .i64 3 w w0.heap.size A n c xs) (hX : w.heap[gx]? = some (.cells (us.map (Value.int .i64)).toArray 3 (0, 0))) (hm : 0 < m) (hl : us.length = m) (hn : n + m ≤ 100000)
    (h : ∀ g c' w', Own .i64 3 w' w0.heap.size (some ⟨g, 0, none⟩) (n + m) c' (xs ++ us) → Below w0.heap.size w0 w' → w.grownBy w' ((Value.slice A n c).ownBlock) → (A ≠ none ∧ g = blk A ∨ g = w.heap.size) → K (a.put o.dst (.slice (some ⟨g, 0, none⟩) (n + m) c')) w') : o.wp P a w K Q := by
  obtain ⟨i, hi, hz0, hz1, hz2⟩ := info_parts hE.i
  refine wp_append_lies w s x t ho w0.heap.size 3 i z 1 8 hE.u hi hz0 hz1 hz2 (by rw [hE.z1]; rfl) (by decide) _ n _ hs hO.ow ⟨gx, 0, none⟩ m m (us.map (Value.int .i64)) hx (by simp [hl]) ?_ (oneCell_ints .i64 us) hm (by unfold maxLen; omega) (by omega) hB.size _ rfl ?_
  · have := World.news_of_block hX
    simpa using this
  · intro g cap w' h2 h3 h4 h5
    refine h g cap w' ?_ (hB.grown h3 hB.size (fun k hk => Ownv.ob' hO hk)) h3 ?_
    · exact Own.of_eq ⟨h2⟩ rfl (by rw [List.map_append])
    · rcases h4 with h4 | h4
      · left
        cases A with
        | none => simp [Value.ownBlock] at h4
        | some ad => simp [Value.ownBlock] at h4; exact ⟨by simp, by rw [← h4]; rfl⟩
      · exact .inr h4
theorem own_lt {e : TypeId} {w : World} {base : Nat} {A : Option Addr} {n c : Nat} {vs : List Value} (h : Ownv e w base A n c vs) (hA : A ≠ none) : blk A < w.heap.size := (Ownv.blk_of h hA).2
/-- the row beside stays -/
theorem own_beside {k : IntKind} {e : TypeId} {w w' : World} {base : Nat} {A B : Option Addr} {n c m d : Nat} {ys : List Int} (hB : Own k e w base B m d ys) (hg : w.grownBy w' ((Value.slice A n c).ownBlock)) (hap : Apart A B) : Own k e w' base B m d ys := by
  refine Ownv.grown hB hg (fun hb he => ?_)
  cases A with
  | none => simp [Value.ownBlock] at he
  | some ad =>
    simp [Value.ownBlock] at he
    exact hap (by simp) hb (by rw [he]; rfl)
theorem apart_next {k : IntKind} {e : TypeId} {w : World} {base : Nat} {A B : Option Addr} {g m d : Nat} {ys : List Int} (hB : Own k e w base B m d ys) (hap : Apart A B) (h : A ≠ none ∧ g = blk A ∨ g = w.heap.size) : Apart (some ⟨g, 0, none⟩) B := by
  intro _ hb he
  have he' : g = blk B := he
  rcases h with ⟨hA, h⟩ | h
  · exact hap hA hb (by rw [← h]; exact he')
  · have := own_lt hB hb; omega
theorem Apart.symm {A B : Option Addr} (h : Apart A B) : Apart B A := fun hb ha he => h ha hb he.symm
def sysL (k code : Nat) : List Int := (stepsP k code).map Prod.fst
def parI (k code : Nat) : List Int := (stepsP k code).map Prod.snd
/-- the lists of the reference's layout so far -/
def sysP (k code j : Nat) : List Int := (List.range j).map fun q => gi (osL k code) q
def parP (k code j : Nat) : List Int := (List.range j).map fun q : Nat => ((code * (k + 4) + q : Nat) : Int)
theorem sysP_succ (k code j : Nat) : sysP k code (j + 1) = sysP k code j ++ [gi (osL k code) j] := by unfold sysP; rw [List.range_succ, List.map_append]; rfl
theorem parP_succ (k code j : Nat) : parP k code (j + 1) = parP k code j ++ [((code * (k + 4) + j : Nat) : Int)] := by unfold parP; rw [List.range_succ, List.map_append]; rfl
theorem sysL_eq (k code : Nat) : sysL k code = sysP k code k ++ [(atN k code : Int), ((2 * (k + 4) + atN k code : Nat) : Int), ((k + 4 + atN k code + 1 : Nat) : Int)] := by
  unfold sysL stepsP sysP; rw [List.map_append, List.map_map]; rfl
theorem parI_eq (k code : Nat) : parI k code = parP k code k ++ [((k + 4 + atN k code : Nat) : Int), ((atN k code + 1 : Nat) : Int), ((2 * (k + 4) + atN k code + 1 : Nat) : Int)] := by
  unfold parI stepsP parP; rw [List.map_append, List.map_map]; rfl
def RLayInv (w1 : World) (k code : Nat) (i s p : Value) (wr : World) : Prop :=
  ∃ (j : Nat) (A B : Option Addr) (c d : Nat), j ≤ k ∧ i = .int .i64 j ∧ s = .slice A j c ∧ p = .slice B j d ∧ Own .i64 3 wr w1.heap.size A j c (sysP k code j) ∧ Own .i64 3 wr w1.heap.size B j d (parP k code j) ∧ Apart A B ∧ Below w1.heap.size w1 wr
theorem rng_gi {k j : Nat} (h : j < k) : gi (osL k 1) j = (j : Int) := by
  show gi (rngL k) j = _
  rw [gi_eq _ _ (by simp [rngL]; exact h)]
  simp [rngL]
theorem ordR_osL {k : Nat} (hv : validK (k : Int) = true) : ordR (k : Int) = osL k 2 := by unfold ordR; rw [if_pos hv, Int.toNat_natCast]; rfl
set_option maxRecDepth 100000 in
set_option maxHeartbeats 600000 in
theorem rlay1_any (k : Nat) (w : World) (hv : validK (k : Int) = true) : Calls Tryz.prog 55 #[.int .i64 k, .int .i64 1] w fun e w' => ∃ A c B d, e = .returned (.tuple #[.slice A (k + 3) c, .slice B (k + 3) d, .int .i64 0]) ∧ Own .i64 3 w' w.heap.size A (k + 3) c (sysL k 1) ∧ Own .i64 3 w' w.heap.size B (k + 3) d (parI k 1) ∧ Below w.heap.size w w' := by
  obtain ⟨n0, n1⟩ := valid_len hv
  have ho := fun W => Lib.hid (rorder_any (k : Int) W)
  have e1 : permE (k : Int) = 0 := by unfold permE; rw [if_pos hv]
  rw [e1, ordR_osL hv] at ho
  clear e1 hv
  go_enter Tryz.func55, Tryz.ntmps55
  go_wp2_with fail
  refine (ho _).out.mono ?_
  rintro e w1 ⟨D, l, d, rfl, hOD, hB1⟩
  obtain rfl : k = l := by
    have h9 := (Own.rd hOD).len
    rw [show osL k 2 = ordL k from rfl, ordL_len] at h9
    exact h9
  have HOD := Lib.hid hOD
  have HB1 := Lib.hid hB1
  clear hOD hB1 ho
  go_wp2_with fail
  go_loopw [12, 10, 11] (fun i s p wr => RLayInv w1 k 1 i s p wr) (fun i _ _ _ => k - (intOf i).toNat)
  case atStart => exact ⟨0, none, none, 0, 0, by omega, rfl, rfl, rfl, Own.nilv _ _ _ _, Own.nilv _ _ _ _, fun h => absurd rfl h, Below.refl _ _⟩
  case round =>
    obtain ⟨j, A, B, c, d', hj, rfl, rfl, rfl, hS, hP, hap, hB⟩ := hrel
    by_cases hlt : j < k
    · have HS := Lib.hid hS
      have HP := Lib.hid hP
      have HAP := Lib.hid hap
      have HB := Lib.hid hB
      clear hS hP hap hB
      go_wp2_with (first
        | (at_builtin
           refine list_of rfl fun K hK => wp_appi (w0 := w1) (xs := sysP k 1 j) (us := [(j : Int)]) (.tmp 38) (.tmp 40) 34 rfl el33 rfl rfl (bal HB.out _) (Ownv.alloc HS.out _) (heap_new' rfl) (by omega) rfl (by omega) ?_
           intro ga ca wa hOa hBa hga hla
           refine hK _ _ ?_
           clear hK K
           have hp1 := own_beside (Ownv.alloc HP.out _) hga HAP.out
           have hap1 := apart_next (Ownv.alloc HP.out _) HAP.out hla
           have HOa := Lib.hid hOa
           have HBa := Lib.hid hBa
           have HP1 := Lib.hid hp1
           have HAP1 := Lib.hid hap1
           clear hOa hBa hga hla hp1 hap1)
        | (at_builtin
           refine list_of rfl fun K hK => wp_appi (w0 := w1) (xs := parP k 1 j) (us := [((k : Int) + 4 + (j : Int))]) (.tmp 42) (.tmp 46) 34 rfl el33 rfl rfl (bal HBa.out _) (Ownv.alloc HP1.out _) (heap_new' rfl) (by omega) rfl (by omega) ?_
           intro gb cb wb hOb hBb hgb hlb
           refine hK _ _ ?_
           clear hK K
           have hs1 := own_beside (Ownv.alloc HOa.out _) hgb HAP1.out.symm
           have hap2 := apart_next (Ownv.alloc HOa.out _) HAP1.out.symm hlb
           have HOb := Lib.hid hOb
           have HBb := Lib.hid hBb
           have HS1 := Lib.hid hs1
           have HAP2 := Lib.hid hap2
           clear hOb hBb hgb hlb hs1 hap2))
      go_roundw
      case rel => exact ⟨j + 1, _, _, ca, cb, by omega, by go_num, rfl, rfl, Own.of_eq HS1.out rfl (by rw [sysP_succ, rng_gi hlt]), Own.of_eq HOb.out rfl (by rw [parP_succ]; congr 3; omega), HAP2.out.symm, HBb.out⟩
      case measure => simp [intOf]; omega
    · obtain rfl : j = k := by omega
      have HS := Lib.hid hS
      have HP := Lib.hid hP
      have HAP := Lib.hid hap
      have HB := Lib.hid hB
      clear hS hP hap hB
      go_wp2_with (first
        | (at_builtin
           refine list_of rfl fun K hK => wp_appi (w0 := w1) (xs := sysP j 1 j) (us := [(j : Int), (2 * ((j : Int) + 4) + (j : Int)), ((j : Int) + 4 + (j : Int) + 1)]) (.tmp 67) (.tmp 77) 34 rfl el33 rfl rfl (bal HB.out _) (Ownv.alloc HS.out _) (heap_new' rfl) (by omega) rfl (by omega) ?_
           intro ga ca wa hOa hBa hga hla
           refine hK _ _ ?_
           clear hK K
           have hp1 := own_beside (Ownv.alloc HP.out _) hga HAP.out
           have hap1 := apart_next (Ownv.alloc HP.out _) HAP.out hla
           have HOa := Lib.hid hOa
           have HBa := Lib.hid hBa
           have HP1 := Lib.hid hp1
           have HAP1 := Lib.hid hap1
           clear hOa hBa hga hla hp1 hap1)
        | (at_builtin
           refine list_of rfl fun K hK => wp_appi (w0 := w1) (xs := parP j 1 j) (us := [((j : Int) + 4 + (j : Int)), ((j : Int) + 1), (2 * ((j : Int) + 4) + (j : Int) + 1)]) (.tmp 79) (.tmp 90) 34 rfl el33 rfl rfl (bal HBa.out _) (Ownv.alloc HP1.out _) (heap_new' rfl) (by omega) rfl (by omega) ?_
           intro gb cb wb hOb hBb hgb hlb
           refine hK _ _ ?_
           clear hK K
           have hs1 := own_beside (Ownv.alloc HOa.out _) hgb HAP1.out.symm
           have HOb := Lib.hid hOb
           have HBb := Lib.hid hBb
           have HS1 := Lib.hid hs1
           clear hOb hBb hgb hlb hs1))
      go_ret3
      exact ⟨_, _, _, _, rfl, Own.of_eq (Ownv.mono HS1.out HB1.out.size) rfl (by rw [sysL_eq]; simp [atN]), Own.of_eq (Ownv.mono HOb.out HB1.out.size) rfl (by rw [parI_eq]; simp [atN]), HB1.out.trans (HBb.out.mono HB1.out.size)⟩
set_option maxRecDepth 100000 in
set_option maxHeartbeats 600000 in
theorem rlay2_any (k : Nat) (w : World) (hv : validK (k : Int) = true) : Calls Tryz.prog 55 #[.int .i64 k, .int .i64 2] w fun e w' => ∃ A c B d, e = .returned (.tuple #[.slice A (k + 3) c, .slice B (k + 3) d, .int .i64 0]) ∧ Own .i64 3 w' w.heap.size A (k + 3) c (sysL k 2) ∧ Own .i64 3 w' w.heap.size B (k + 3) d (parI k 2) ∧ Below w.heap.size w w' := by
  obtain ⟨n0, n1⟩ := valid_len hv
  have ho := fun W => Lib.hid (rorder_any (k : Int) W)
  have e1 : permE (k : Int) = 0 := by unfold permE; rw [if_pos hv]
  rw [e1, ordR_osL hv] at ho
  clear e1 hv
  go_enter Tryz.func55, Tryz.ntmps55
  go_wp2_with fail
  refine (ho _).out.mono ?_
  rintro e w1 ⟨D, l, d, rfl, hOD, hB1⟩
  obtain rfl : k = l := by
    have h9 := (Own.rd hOD).len
    rw [show osL k 2 = ordL k from rfl, ordL_len] at h9
    exact h9
  have HOD := Lib.hid hOD
  have HB1 := Lib.hid hB1
  clear hOD hB1 ho
  go_wp2_with fail
  go_loopw [12, 10, 11] (fun i s p wr => RLayInv w1 k 2 i s p wr) (fun i _ _ _ => k - (intOf i).toNat)
  case atStart => exact ⟨0, none, none, 0, 0, by omega, rfl, rfl, rfl, Own.nilv _ _ _ _, Own.nilv _ _ _ _, fun h => absurd rfl h, Below.refl _ _⟩
  case round =>
    obtain ⟨j, A, B, c, d', hj, rfl, rfl, rfl, hS, hP, hap, hB⟩ := hrel
    by_cases hlt : j < k
    · have HS := Lib.hid hS
      have HP := Lib.hid hP
      have HAP := Lib.hid hap
      have HB := Lib.hid hB
      have hR := Ownv.rd (Ownv.below HOD.out hB)
      have hix := fun W => Rdv.ix hR el33 hlt .i64 W
      have hcell : wr.cell? (adr D j) = some (.int .i64 (gi (osL k 2) j)) := Rd.cell hR hlt
      clear hR
      clear hS hP hap hB
      go_wp2_with (first
        | (at_builtin
           refine list_of rfl fun K hK => wp_appi (w0 := w1) (xs := sysP k 2 j) (us := [(gi (osL k 2) j)]) (.tmp 48) (.tmp 53) 34 rfl el33 rfl rfl (bal HB.out _) (Ownv.alloc HS.out _) (heap_new' rfl) (by omega) rfl (by omega) ?_
           intro ga ca wa hOa hBa hga hla
           refine hK _ _ ?_
           clear hK K
           have hp1 := own_beside (Ownv.alloc HP.out _) hga HAP.out
           have hap1 := apart_next (Ownv.alloc HP.out _) HAP.out hla
           have HOa := Lib.hid hOa
           have HBa := Lib.hid hBa
           have HP1 := Lib.hid hp1
           have HAP1 := Lib.hid hap1
           clear hOa hBa hga hla hp1 hap1)
        | (at_builtin
           refine list_of rfl fun K hK => wp_appi (w0 := w1) (xs := parP k 2 j) (us := [(2 * ((k : Int) + 4) + (j : Int))]) (.tmp 55) (.tmp 60) 34 rfl el33 rfl rfl (bal HBa.out _) (Ownv.alloc HP1.out _) (heap_new' rfl) (by omega) rfl (by omega) ?_
           intro gb cb wb hOb hBb hgb hlb
           refine hK _ _ ?_
           clear hK K
           have hs1 := own_beside (Ownv.alloc HOa.out _) hgb HAP1.out.symm
           have hap2 := apart_next (Ownv.alloc HOa.out _) HAP1.out.symm hlb
           have HOb := Lib.hid hOb
           have HBb := Lib.hid hBb
           have HS1 := Lib.hid hs1
           have HAP2 := Lib.hid hap2
           clear hOb hBb hgb hlb hs1 hap2))
      go_roundw
      case rel => exact ⟨j + 1, _, _, ca, cb, by omega, by go_num, rfl, rfl, Own.of_eq HS1.out rfl (by rw [sysP_succ]), Own.of_eq HOb.out rfl (by rw [parP_succ]; rfl), HAP2.out.symm, HBb.out⟩
      case measure => simp [intOf]; omega
    · obtain rfl : j = k := by omega
      have HS := Lib.hid hS
      have HP := Lib.hid hP
      have HAP := Lib.hid hap
      have HB := Lib.hid hB
      clear hS hP hap hB
      go_wp2_with (first
        | (at_builtin
           refine list_of rfl fun K hK => wp_appi (w0 := w1) (xs := sysP j 2 j) (us := [((j : Int) + 2), (2 * ((j : Int) + 4) + ((j : Int) + 2)), ((j : Int) + 4 + ((j : Int) + 2) + 1)]) (.tmp 67) (.tmp 77) 34 rfl el33 rfl rfl (bal HB.out _) (Ownv.alloc HS.out _) (heap_new' rfl) (by omega) rfl (by omega) ?_
           intro ga ca wa hOa hBa hga hla
           refine hK _ _ ?_
           clear hK K
           have hp1 := own_beside (Ownv.alloc HP.out _) hga HAP.out
           have hap1 := apart_next (Ownv.alloc HP.out _) HAP.out hla
           have HOa := Lib.hid hOa
           have HBa := Lib.hid hBa
           have HP1 := Lib.hid hp1
           have HAP1 := Lib.hid hap1
           clear hOa hBa hga hla hp1 hap1)
        | (at_builtin
           refine list_of rfl fun K hK => wp_appi (w0 := w1) (xs := parP j 2 j) (us := [((j : Int) + 4 + ((j : Int) + 2)), (((j : Int) + 2) + 1), (2 * ((j : Int) + 4) + ((j : Int) + 2) + 1)]) (.tmp 79) (.tmp 90) 34 rfl el33 rfl rfl (bal HBa.out _) (Ownv.alloc HP1.out _) (heap_new' rfl) (by omega) rfl (by omega) ?_
           intro gb cb wb hOb hBb hgb hlb
           refine hK _ _ ?_
           clear hK K
           have hs1 := own_beside (Ownv.alloc HOa.out _) hgb HAP1.out.symm
           have HOb := Lib.hid hOb
           have HBb := Lib.hid hBb
           have HS1 := Lib.hid hs1
           clear hOb hBb hgb hlb hs1))
      go_ret3
      exact ⟨_, _, _, _, rfl, Own.of_eq (Ownv.mono HS1.out HB1.out.size) rfl (by rw [sysL_eq]; simp [atN]), Own.of_eq (Ownv.mono HOb.out HB1.out.size) rfl (by rw [parI_eq]; simp [atN]), HB1.out.trans (HBb.out.mono HB1.out.size)⟩
end Go.Proofs.YtpdalbckmfadbaaGreat.Tu

