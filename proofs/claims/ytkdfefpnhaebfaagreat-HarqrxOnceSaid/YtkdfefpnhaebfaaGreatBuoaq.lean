/- Bundle. Conditions: none. -/
import Derived.Test.YtkdfefpnhaebfaaGreatBuoap
import Derived.Deep.AppendLies
import Derived.OrdersHeld
import Derived.Test.YtkdfefpnhaebfaaGreatBuoao
set_option linter.unusedVariables false
set_option linter.unusedSimpArgs false
namespace Go.Proofs.YtkdfefpnhaebfaaGreat.Tu
open Go.RowKit Go.Shelf
attribute [local go_sem] Oper.semAt_some
set_option maxRecDepth 100000
set_option maxHeartbeats 1000000
section
variable {F : Fence} {n : Nat} {P : Program} {Q : Exit → Act → World → Prop} {a : Act} {w : World}
theorem wpIn_scope_straight {c : Code} (hro : F.round = none) (h : c.wpIn F n P (Exit.noGoto Q) a w) : (Code.scope c).wpIn F n P Q a w := by
 intro b k cs hb1 hb hr
 have hn : b.roundOf = none := by rw [hb1, hro]
 have h0 : (lone (b.atR a (.code (.scope c) :: k)) cs w).fenced P F := fenced_calm hb hr rfl
 have s0 : step P (lone (b.atR a (.code (.scope c) :: k)) cs w) = .next (lone (b.atR a (.code c :: .inScope c :: k)) cs w) := by
  rw [Frame.atR_of_none hn, Frame.atR_of_none hn]; exact step_scope
 have s1 : ∀ a₁ w₁, step P (lone (b.atR a₁ (.inScope c :: k)) cs w₁) = .next (lone (b.atR a₁ k) cs w₁) := fun a₁ w₁ => by
  rw [Frame.atR_of_none hn, Frame.atR_of_none hn]; exact step_inScope
 obtain ⟨e, a₁, w₁, hq, harr⟩ := h b (.inScope c :: k) cs hb1 hb hr
 cases e with
 | normal => exact ⟨.normal, a₁, w₁, hq, .of_steps (.one h0 s0) (StepsIn.trans harr (.one (fenced_calm hb hr rfl) (s1 a₁ w₁)))⟩
 | exit id => exact ⟨.exit id, a₁, w₁, hq, fun k' hk => StepsIn.trans (.one h0 s0) (harr.1 k' (by simp [exitTo, hk])), fun hs => by rw [hn] at hs; cases hs⟩
 | goto l => exact hq.elim
 | ret => exact ⟨_, a₁, w₁, hq, .of_steps (.one h0 s0) harr⟩
 | panic ch => exact ⟨_, a₁, w₁, hq, .of_steps (.one h0 s0) harr⟩
 | outgrown => exact ⟨_, a₁, w₁, hq, .of_steps (.one h0 s0) harr⟩
end
def flatP (ps : List (Int × Int)) : List Value := ps.flatMap fun x => [.int .i64 x.1, .int .i64 x.2]
theorem flatP_get : ∀ (ps : List (Int × Int)) (j : Nat) (x : Int × Int), ps[j]? = some x → (flatP ps)[2 * j]? = some (.int .i64 x.1) ∧ (flatP ps)[2 * j + 1]? = some (.int .i64 x.2)
 | [], j, x, h => by cases h
 | p :: ps, 0, x, h => by
   simp at h; subst h
   exact ⟨rfl, rfl⟩
 | p :: ps, j + 1, x, h => by
   have h' : ps[j]? = some x := by simpa using h
   obtain ⟨h1, h2⟩ := flatP_get ps j x h'
   have e : flatP (p :: ps) = .int .i64 p.1 :: .int .i64 p.2 :: flatP ps := rfl
   rw [e, show 2 * (j + 1) = 2 * j + 1 + 1 by omega, show 2 * j + 1 + 1 + 1 = 2 * j + 1 + 1 + 1 from rfl]
   exact ⟨by rw [List.getElem?_cons_succ, List.getElem?_cons_succ]; exact h1, by rw [List.getElem?_cons_succ, List.getElem?_cons_succ]; exact h2⟩
def stepsP (k code : Nat) : List (Int × Int) := ((List.range k).map fun j => (gi (osL k code) j, ((code * (k + 4) + j : Nat) : Int))) ++ [((atN k code : Int), ((k + 4 + atN k code : Nat) : Int)), (((2 * (k + 4) + atN k code : Nat) : Int), ((atN k code + 1 : Nat) : Int)), (((k + 4 + atN k code + 1 : Nat) : Int), ((2 * (k + 4) + atN k code + 1 : Nat) : Int))]
theorem stepsP_len (k code : Nat) : (stepsP k code).length = k + 3 := by simp [stepsP]
theorem stepsP_flat (k code : Nat) : flatP (stepsP k code) = stepsL k code := by
 unfold flatP stepsP stepsL pairL tailL
 rw [List.flatMap_append, List.flatMap_map]
 rfl
def KeepG (g : Nat) (A B : World) : Prop := B.heap[g]? = A.heap[g]? ∧ A.heap.size ≤ B.heap.size
theorem KeepG.refl (g : Nat) (A : World) : KeepG g A A := ⟨rfl, Nat.le_refl _⟩
theorem KeepG.trans {g : Nat} {A B C : World} (h : KeepG g A B) (k : KeepG g B C) : KeepG g A C := ⟨k.1.trans h.1, Nat.le_trans h.2 k.2⟩
theorem KeepG.alloc {g : Nat} {A : World} (h : g < A.heap.size) (o : Obj) : KeepG g A (A.alloc o) := ⟨heap_alloc_old (h := h) .., by simp⟩
theorem KeepG.grown {g : Nat} {A B : World} {row : Option Nat} (hg : A.grownBy B row) (h : g < A.heap.size) (hne : some g ≠ row) : KeepG g A B := ⟨hg.block g h hne, hg.size⟩
theorem keepG_b {g : Nat} {w : World} (hn : g < w.heap.size) (W : World) (l : Nat) (o o' : Obj) (hl : w.heap.size ≤ l) (h : W.heap[l]? = some o) (_ : o.isCells = false) (_ : o.isWalk = false) : KeepG g W (W.putObj l o') := by
 have hlt := (Array.getElem?_eq_some_iff.1 h).1
 have hg := grownBy_putObj' W l o'
 exact ⟨hg.block g (by omega) (by intro e; have := Option.some.inj e; omega), hg.size⟩
theorem Rdv.keepg {w w' : World} {g n c : Nat} {vs : List Value} (h : Rdv w (some ⟨g, 0, none⟩) n c vs) (hk : KeepG g w w') : Rdv w' (some ⟨g, 0, none⟩) n c vs := by
 refine ⟨h.len, h.le, h.cm, h.nil, h.spot, fun hc a ha => Nat.lt_of_lt_of_le (h.lt hc a ha) hk.2, fun j v hj => ?_⟩
 rw [← h.at_ j v hj]
 exact World.cell?_of_block (by rw [adr_some]; exact hk.1)
def S4Inv (N : Nat) (ps : List (Int × Int)) (g : Nat) (W : World) (J : List (Int × Int) → World → Prop) (i : Value) (wr : World) : Prop := ∃ k : Nat, k ≤ N ∧ i = .int .i64 k ∧ J (ps.take k) wr ∧ KeepG g W wr
def S4Post (ps : List (Int × Int)) (J Jx : List (Int × Int) → World → Prop) (e : Ending) (W' : World) : Prop :=
 (∃ v, e = .returned v) ∧ ((∃ ys, ys = ps ∧ J ys W') ∨ (∃ pre, (∃ k, k ≤ ps.length ∧ pre = ps.take k) ∧ Jx pre W'))
theorem takeP_succ (ps : List (Int × Int)) (k : Nat) (h : k < ps.length) : ps.take (k + 1) = ps.take k ++ [ps[k]] := by
 rw [List.take_succ_eq_append_getElem h]
theorem steps4_in (F : Fence) (m : Nat) (hF : F.fn 244) (hro : F.round = none) (hm : 1 ≤ m) (l Bs n₀ g N c : Nat) (ps : List (Int × Int)) (w0 : World) (hR : Rdv w0 (some ⟨g, 0, none⟩) (2 * N) (2 * N) (flatP ps)) (hN : ps.length = N) (hNb : N ≤ 100000) (h0n : w0.heap.size = n₀) (J Jx : List (Int × Int) → World → Prop)
 (W : World) (hW : Below n₀ w0 W) (hA : AbidesFrom W.heap.size J)
 (hY : ∀ pre x W, J pre W → pre.length < N → YieldAt F (m - 1) Tryz.prog l #[.int .i64 x.1, .int .i64 x.2] W fun e W' =>
   (e = .returned (.bool true) ∧ J (pre ++ [x]) W' ∧ KeepG g W W') ∨ (e = .returned (.bool false) ∧ Jx (pre ++ [x]) W'))
 (hBs : W.cell? ⟨Bs, 0, none⟩ = some (.slice (some ⟨g, 0, none⟩) N c)) (h0 : J [] W) :
 CallsIn F m Tryz.prog 244 #[.func (.yield l) #[] #[], .pointer (some ⟨Bs, 0, none⟩)] W (S4Post ps J Jx) := by
 have HR := Lib.hid (Rdv.below hR (by rw [h0n]; exact hW))
 have HN := Lib.hid hN
 clear hN
 refine callsIn_of_wp Tryz.func244 rfl hF ?_ hro
 simp only [Tryz.ntmps244, List.size_toArray, List.length_cons, List.length_nil, Nat.reduceAdd, Nat.reduceSub, Array.replicate_succ, Array.replicate_zero, List.push_toArray, List.append_toArray, List.nil_append, List.cons_append]
 refine wpIn_scope_straight hro ?_
 refine wpIn_seq ?_
 refine wpIn_label ?_
 simp only [Exit.then]
 gi_wp2
 gi_loopw [7] (fun i wr => S4Inv N ps g W J i wr) (fun i _ => N - (intOf i).toNat)
 case atStart => exact ⟨0, Nat.zero_le _, rfl, h0, KeepG.refl _ _⟩
 case round =>
  obtain ⟨k, hk, rfl, hJs, hnx⟩ := hrel
  by_cases hlt : k < N
  · have hkl : k < ps.length := by rw [HN.out]; exact hlt
    have hRr := Rdv.keepg HR.out hnx
    have hglt : g < wr.heap.size := hRr.lt (by omega) _ rfl
    obtain ⟨f0, f1⟩ := flatP_get ps k ps[k] (List.getElem?_eq_getElem hkl)
    have hc0 := hRr.at_ _ _ f0
    have hc1 := hRr.at_ _ _ f1
    simp only [adr_some, Nat.zero_add] at hc0 hc1
    have hix := fun W => ix75 g N c hlt .i64 W
    have hJa : J (ps.take k) (wr.alloc (.cells #[.int .i64 ps[k].1, .int .i64 ps[k].2] 87)) := by
     exact hA _ _ _ none hJs (World.grownBy_alloc _ _ _) (fun r e => by cases e)
    obtain ⟨fn, tmps, assign, body, hy, hRd⟩ := hY _ ps[k] _ hJa (by rw [List.length_take, HN.out]; omega)
    have HF0 := Lib.hid f0
    clear f0 f1 hRr
    generalize hx1 : ps[k].1 = x1 at *
    generalize hx2 : ps[k].2 = x2 at *
    gi_wp2
    refine hRd.mono ?_
    rintro e W3 (⟨rfl, hJ3, hk3⟩ | ⟨rfl, hJx3⟩)
    · gi_wp2
      go_roundw
      case rel => exact ⟨k + 1, by omega, by simp, by rw [takeP_succ _ _ hkl]; exact hJ3, hnx.trans ((KeepG.alloc hglt _).trans hk3)⟩
      case measure => simp [intOf]; omega
    · gi_wp2
      go_end0
      exact ⟨⟨_, rfl⟩, .inr ⟨_, ⟨k + 1, by omega, (takeP_succ _ _ hkl).symm⟩, hJx3⟩⟩
  · obtain rfl : k = N := by omega
    gi_wp2
    go_end0
    exact ⟨⟨_, rfl⟩, .inl ⟨_, List.take_of_length_le (Nat.le_of_eq HN.out), hJs⟩⟩
theorem steps4_stops (F : Fence) (m : Nat) (hF : F.fn 244) (hro : F.round = none) (hm : 1 ≤ m) (Bs n₀ g N c : Nat) (ps : List (Int × Int)) (w0 w : World) (hR : Rdv w0 (some ⟨g, 0, none⟩) (2 * N) (2 * N) (flatP ps)) (hN : ps.length = N) (hNb : N ≤ 100000) (h0n : w0.heap.size = n₀) (hW0 : Below n₀ w0 w)
 (hBs : Bs < w.heap.size) (hc : w.cell? ⟨Bs, 0, none⟩ = some (.slice (some ⟨g, 0, none⟩) N c)) :
 SeqStopsK F m Tryz.prog 244 #[.pointer (some ⟨Bs, 0, none⟩)] (fun x : Int × Int => #[Value.int .i64 x.1, .int .i64 x.2]) (KeepG g) (fun ys => ys = ps) (fun pre => ∃ k, k ≤ ps.length ∧ pre = ps.take k) N w := fun l J Jx W hW hA _ hY h0 =>
 steps4_in F m hF hro hm l Bs n₀ g N c ps w0 hR hN hNb h0n J Jx W (hW0.trans (hW.mono (by have := hW0.size; omega))) hA hY ((hW.cell (p := ⟨Bs, 0, none⟩) hBs).trans hc) h0
end Go.Proofs.YtkdfefpnhaebfaaGreat.Tu
namespace Go.Proofs.YtkdfefpnhaebfaaGreat.Tu
open Go.RowKit
def Apart (A B : Option Addr) : Prop := A ≠ none → B ≠ none → blk A ≠ blk B
theorem own_lt {e : TypeId} {w : World} {base : Nat} {A : Option Addr} {n c : Nat} {vs : List Value} (h : Ownv e w base A n c vs) (hA : A ≠ none) : blk A < w.heap.size := (Ownv.blk_of h hA).2
theorem own_beside {k : IntKind} {e : TypeId} {w w' : World} {base : Nat} {A B : Option Addr} {n c m d : Nat} {ys : List Int} (hB : Own k e w base B m d ys) (hg : w.grownBy w' ((Value.slice A n c).ownBlock)) (hap : Apart A B) : Own k e w' base B m d ys := by
 refine Ownv.grown hB hg (fun hb he => ?_)
 cases A with
 | none => simp [Value.ownBlock] at he
 | some ad =>
   simp [Value.ownBlock] at he
   exact hap (by simp) hb (by rw [he]; rfl)
theorem apart_next {k : IntKind} {e : TypeId} {w : World} {base : Nat} {A B : Option Addr} {g m d : Nat} {ys : List Int} (hB : Own k e w base B m d ys) (hap : Apart A B) (h : A ≠ none ∧ g = blk A ∨ g = w.heap.size) : Apart (some ⟨g, 0, none⟩) B := by
 intro _ hb he
 have he' : g = blk B := he
 rcases h with ⟨hA, h⟩ | h
 · exact hap hA hb (by rw [← h]; exact he')
 · have := own_lt hB hb; omega
theorem Apart.symm {A B : Option Addr} (h : Apart A B) : Apart B A := fun hb ha he => h ha hb he.symm
def sysL (k code : Nat) : List Int := (stepsP k code).map Prod.fst
def parI (k code : Nat) : List Int := (stepsP k code).map Prod.snd
def sysP (k code j : Nat) : List Int := (List.range j).map fun q => gi (osL k code) q
def parP (k code j : Nat) : List Int := (List.range j).map fun q : Nat => ((code * (k + 4) + q : Nat) : Int)
theorem sysL_eq (k code : Nat) : sysL k code = sysP k code k ++ [(atN k code : Int), ((2 * (k + 4) + atN k code : Nat) : Int), ((k + 4 + atN k code + 1 : Nat) : Int)] := by
 unfold sysL stepsP sysP; rw [List.map_append, List.map_map]; rfl
theorem parI_eq (k code : Nat) : parI k code = parP k code k ++ [((k + 4 + atN k code : Nat) : Int), ((atN k code + 1 : Nat) : Int), ((2 * (k + 4) + atN k code + 1 : Nat) : Int)] := by
 unfold parI stepsP parP; rw [List.map_append, List.map_map]; rfl
theorem rng_gi {k j : Nat} (h : j < k) : gi (osL k 1) j = (j : Int) := by
 show gi (rngL k) j = _
 rw [gi_eq _ _ (by simp [rngL]; exact h)]
 simp [rngL]
open Go.Shelf
attribute [local go_sem] Oper.semAt_some
set_option maxRecDepth 100000
set_option maxHeartbeats 8000000
theorem wp_appj {P : Program} {w : World} {A : Option Addr} {n c m gx base : Nat} {xs us : List Int} {o : Oper} {a : Act} {K : Act → World → Prop} {Q : Exit → Act → World → Prop} (s x : Operand) (t : TypeId)
 (ho : o.op = .call { callee := .builtin .append, args := #[s, x], argTypes := #[t, t] }) {z : Value} (hE : El P t 3 z 8) (hs : a.eval s = .slice A n c) (hx : a.eval x = .slice (some ⟨gx, 0, none⟩) m m)
 (hB : base ≤ w.heap.size) (hO : Own .i64 3 w base A n c xs) (hX : w.heap[gx]? = some (.cells (us.map (Value.int .i64)).toArray 3 (0, 0))) (hm : 0 < m) (hl : us.length = m) (hn : n + m ≤ 100000)
 (h : ∀ g c' w', Own .i64 3 w' base (some ⟨g, 0, none⟩) (n + m) c' (xs ++ us) → w.grownBy w' ((Value.slice A n c).ownBlock) → (A ≠ none ∧ g = blk A ∨ g = w.heap.size) → K (a.put o.dst (.slice (some ⟨g, 0, none⟩) (n + m) c')) w') : o.wp P a w K Q := by
 obtain ⟨i, hi, hz0, hz1, hz2⟩ := info_parts hE.i
 refine wp_append_lies w s x t ho base 3 i z 1 8 hE.u hi hz0 hz1 hz2 (by rw [hE.z1]; rfl) (by decide) _ n _ hs hO.ow ⟨gx, 0, none⟩ m m (us.map (Value.int .i64)) hx (by simp [hl]) ?_ (oneCell_ints .i64 us) hm (by unfold maxLen; omega) (by omega) hB _ rfl ?_
 · have := World.news_of_block hX
   simpa using this
 · intro g cap w' h2 h3 h4 h5
   refine h g cap w' (Own.of_eq ⟨h2⟩ rfl (by rw [List.map_append])) h3 ?_
   rcases h4 with h4 | h4
   · left
     cases A with
     | none => simp [Value.ownBlock] at h4
     | some ad => simp [Value.ownBlock] at h4; exact ⟨by simp, by rw [← h4]; rfl⟩
   · exact .inr h4
structure FS (w Wb : World) (b0 g0 b4 b5 : Nat) (vA vB : Value) (A : Option Addr) (n c : Nat) (xs : List Int) (B : Option Addr) (m d : Nat) (ys : List Int) (W : World) : Prop where
 x4 : Boxed W b4 39 vA
 x5 : Boxed W b5 39 vB
 a : Own .i64 3 W b0 A n c xs
 b : Own .i64 3 W b0 B m d ys
 ap : Apart A B
 bl : Below w.heap.size w W
 ko : KeepsOthers Wb W
 hb : w.heap.size ≤ b0
 hs : b0 ≤ W.heap.size
 hg : g0 < b0
 n4 : g0 ≠ b4
 n5 : g0 ≠ b5
 kg : KeepG g0 Wb W
section
variable {w Wb W W' : World} {b0 g0 b4 b5 : Nat} {vA vB : Value} {A B : Option Addr} {n c m d : Nat} {xs ys : List Int}
theorem FS.drew (h : FS w Wb b0 g0 b4 b5 vA vB A n c xs B m d ys W) : FS w Wb b0 g0 b4 b5 vA vB A n c xs B m d ys W.drew := ⟨h.x4, h.x5, Ownv.drew h.a, Ownv.drew h.b, h.ap, h.bl.drew, h.ko.trans (KeepsOthers.drew W), h.hb, h.hs, h.hg, h.n4, h.n5, h.kg⟩
theorem FS.alloc (h : FS w Wb b0 g0 b4 b5 vA vB A n c xs B m d ys W) (o : Obj) : FS w Wb b0 g0 b4 b5 vA vB A n c xs B m d ys (W.alloc o) := ⟨h.x4.alloc o, h.x5.alloc o, Ownv.alloc h.a o, Ownv.alloc h.b o, h.ap, h.bl.alloc h.bl.size o, h.ko.trans (KeepsOthers.alloc W o), h.hb, by have := h.hs; simp; omega, h.hg, h.n4, h.n5, h.kg.trans (KeepG.alloc (Nat.lt_of_lt_of_le h.hg h.hs) o)⟩
theorem own_row_cells {e : TypeId} {base : Nat} {vs : List Value} (h : Ownv e W base A n c vs) : ∀ (j : Nat) (o : Obj), (Value.slice A n c).ownBlock = some j → W.heap[j]? = some o → o.isCells = true := by
 intro j o hj ho
 rcases (Ownv.cases h).2 with ⟨rfl, _⟩ | ⟨g, cur, rfl, _, hh, _⟩
 · simp [Value.ownBlock] at hj
 · simp [Value.ownBlock] at hj
   subst hj
   rw [hh] at ho
   cases ho; rfl
theorem box_row {b : Nat} {v : Value} (hx : Boxed W b 39 v) (h : Own .i64 3 W b0 A n c xs) : some b ≠ (Value.slice A n c).ownBlock := by
 rcases (Ownv.cases h).2 with ⟨rfl, _⟩ | ⟨g, cur, rfl, _, hh, _⟩
 · simp [Value.ownBlock]
 · intro he
   have he : b = g := by simpa [Value.ownBlock] using he
   subst he
   have := (show W.heap[b]? = _ from hx).symm.trans hh
   simp at this
theorem FS.appA {P : Program} {o : Oper} {a : Act} {K : Act → World → Prop} {Q : Exit → Act → World → Prop} {u : Int} {gx : Nat} {z : Value} (s x : Operand) (t : TypeId)
 (ho : o.op = .call { callee := .builtin .append, args := #[s, x], argTypes := #[t, t] }) (hE : El P t 3 z 8) (hs : a.eval s = .slice A n c) (hx : a.eval x = .slice (some ⟨gx, 0, none⟩) 1 1)
 (F : FS w Wb b0 g0 b4 b5 vA vB A n c xs B m d ys W) (hX : W.heap[gx]? = some (.cells #[.int .i64 u] 3 (0, 0))) (hn : n + 1 ≤ 100000) (hlt : A ≠ none → blk A < Wb.heap.size)
 (h : ∀ g c' W', FS w Wb b0 g0 b4 b5 vA vB (some ⟨g, 0, none⟩) (n + 1) c' (xs ++ [u]) B m d ys W' → (∀ (b : Nat) (x : Obj), W.heap[b]? = some x → Wb.heap.size ≤ b → W'.heap[b]? = some x) → K (a.put o.dst (.slice (some ⟨g, 0, none⟩) (n + 1) c')) W') : o.wp P a W K Q := by
 refine wp_appj (us := [u]) s x t ho hE hs hx F.hs F.a hX (by decide) rfl hn ?_
 intro g c' W' hO hg hl
 have hB := F.bl.grown hg F.bl.size (fun k hk => Nat.le_trans F.hb (Ownv.ob' F.a hk))
 have hKG := F.kg.trans (KeepG.grown hg (Nat.lt_of_lt_of_le F.hg F.hs) (fun e => by have := Ownv.ob' F.a e.symm; have := F.hg; omega))
 refine h g c' W' ⟨F.x4.kept hg (box_row F.x4 F.a), F.x5.kept hg (box_row F.x5 F.a), hO, own_beside F.b hg F.ap, apart_next F.b F.ap hl, hB, F.ko.trans (KeepsOthers.of_grownBy hg (fun j o hj => own_row_cells F.a j o hj)), F.hb, Nat.le_trans F.hs hg.size, F.hg, F.n4, F.n5, hKG⟩ (fun b x hb hlb => ?_)
 rw [hg.block b (Array.getElem?_eq_some_iff.1 hb).1 (by
  cases A with
  | none => simp [Value.ownBlock]
  | some ad =>
    have h9 : ad.block < Wb.heap.size := hlt (by simp)
    simp [Value.ownBlock]; omega)]
 exact hb
theorem FS.appB {P : Program} {o : Oper} {a : Act} {K : Act → World → Prop} {Q : Exit → Act → World → Prop} {u : Int} {gx : Nat} {z : Value} (s x : Operand) (t : TypeId)
 (ho : o.op = .call { callee := .builtin .append, args := #[s, x], argTypes := #[t, t] }) (hE : El P t 3 z 8) (hs : a.eval s = .slice B m d) (hx : a.eval x = .slice (some ⟨gx, 0, none⟩) 1 1)
 (F : FS w Wb b0 g0 b4 b5 vA vB A n c xs B m d ys W) (hX : W.heap[gx]? = some (.cells #[.int .i64 u] 3 (0, 0))) (hn : m + 1 ≤ 100000)
 (h : ∀ g c' W', FS w Wb b0 g0 b4 b5 vA vB A n c xs (some ⟨g, 0, none⟩) (m + 1) c' (ys ++ [u]) W' → K (a.put o.dst (.slice (some ⟨g, 0, none⟩) (m + 1) c')) W') : o.wp P a W K Q := by
 refine wp_appj (us := [u]) s x t ho hE hs hx F.hs F.b hX (by decide) rfl hn ?_
 intro g c' W' hO hg hl
 have hB := F.bl.grown hg F.bl.size (fun k hk => Nat.le_trans F.hb (Ownv.ob' F.b hk))
 have hKG := F.kg.trans (KeepG.grown hg (Nat.lt_of_lt_of_le F.hg F.hs) (fun e => by have := Ownv.ob' F.b e.symm; have := F.hg; omega))
 exact h g c' W' ⟨F.x4.kept hg (box_row F.x4 F.b), F.x5.kept hg (box_row F.x5 F.b), own_beside F.a hg F.ap.symm, hO, (apart_next F.a F.ap.symm hl).symm, hB, F.ko.trans (KeepsOthers.of_grownBy hg (fun j o hj => own_row_cells F.b j o hj)), F.hb, Nat.le_trans F.hs hg.size, F.hg, F.n4, F.n5, hKG⟩
theorem box_ne_row {b : Nat} {v u : Value} {k : IntKind} (hx : Boxed W b 39 v) (h : Own .i64 3 W b0 A n c xs) (hA : A ≠ none) : some (blk A) ≠ some b := by
 intro he
 have := box_row hx h
 cases A with
 | none => exact hA rfl
 | some ad => exact this (by simp [Value.ownBlock]; exact (Option.some.inj he).symm)
theorem FS.set4 (F : FS w Wb b0 g0 b4 b5 vA vB A n c xs B m d ys W) (v : Value) (h4 : w.heap.size ≤ b4) (hne : b5 ≠ b4) : FS w Wb b0 g0 b4 b5 v vB A n c xs B m d ys (W.setCell ⟨b4, 0, none⟩ v) :=
 ⟨F.x4.set v, F.x5.other hne v, Ownv.grown F.a (grownBy_setCell' W b4 v) (fun hA => box_ne_row (k := .i64) (u := v) F.x4 F.a hA), Ownv.grown F.b (grownBy_setCell' W b4 v) (fun hA => box_ne_row (k := .i64) (u := v) F.x4 F.b hA), F.ap, F.bl.setCell h4 v, F.ko.trans (KeepsOthers.setCell W _ v), F.hb, Nat.le_trans F.hs (grownBy_setCell' W b4 v).size, F.hg, F.n4, F.n5, F.kg.trans (KeepG.grown (grownBy_setCell' W b4 v) (Nat.lt_of_lt_of_le F.hg F.hs) (fun e => F.n4 (Option.some.inj e)))⟩
theorem FS.set5 (F : FS w Wb b0 g0 b4 b5 vA vB A n c xs B m d ys W) (v : Value) (h5 : w.heap.size ≤ b5) (hne : b4 ≠ b5) : FS w Wb b0 g0 b4 b5 vA v A n c xs B m d ys (W.setCell ⟨b5, 0, none⟩ v) :=
 ⟨F.x4.other hne v, F.x5.set v, Ownv.grown F.a (grownBy_setCell' W b5 v) (fun hA => box_ne_row (k := .i64) (u := v) F.x5 F.a hA), Ownv.grown F.b (grownBy_setCell' W b5 v) (fun hA => box_ne_row (k := .i64) (u := v) F.x5 F.b hA), F.ap, F.bl.setCell h5 v, F.ko.trans (KeepsOthers.setCell W _ v), F.hb, Nat.le_trans F.hs (grownBy_setCell' W b5 v).size, F.hg, F.n4, F.n5, F.kg.trans (KeepG.grown (grownBy_setCell' W b5 v) (Nat.lt_of_lt_of_le F.hg F.hs) (fun e => F.n5 (Option.some.inj e)))⟩
end
theorem wp_fs {P : Program} {o : Oper} {a : Act} {K : Act → World → Prop} {Q : Exit → Act → World → Prop} {w Wb W : World} {b0 g0 b4 b5 : Nat} {vA vB : Value} {A B : Option Addr} {n c m d : Nat} {xs ys : List Int} (F : FS w Wb b0 g0 b4 b5 vA vB A n c xs B m d ys W)
 (h : W.cell? ⟨b4, 0, none⟩ = some vA → W.frozen? ⟨b4, 0, none⟩ = false → W.cell? ⟨b5, 0, none⟩ = some vB → W.frozen? ⟨b5, 0, none⟩ = false → o.wp P a W K Q) : o.wp P a W K Q := h F.x4.cell F.x4.frozen F.x5.cell F.x5.frozen
theorem any_step {P : Program} {md : Region.Mode} {ops : Array Oper} {Q : Exit → Act → World → Prop} {fuel : Nat} {listed : Array Bool} {a : Act} {w : World} (n : Nat) (hn : ops.size = n) (hne : (Region.ready md ops listed).isEmpty = false)
 (h : ∀ i, i < n → (Region.ready md ops listed).contains i = true → wpOp P ops Q i (wpAny P md ops Q fuel (listed.setIfInBounds i true)) a w) : wpAny P md ops Q (fuel + 1) listed a w := by
 unfold wpAny
 refine ⟨fun h0 => absurd hne (by rw [h0]; decide), fun i hi => ?_⟩
 obtain ⟨-, oj, hoj, -⟩ := mem_ready.1 hi
 exact h i (by rw [← hn]; exact (Array.getElem?_eq_some_iff.1 hoj).1) (by simpa using hi)
theorem all10 {p : Nat → Prop} (h0 : p 0) (h1 : p 1) (h2 : p 2) (h3 : p 3) (h4 : p 4) (h5 : p 5) (h6 : p 6) (h7 : p 7) (h8 : p 8) (h9 : p 9) : ∀ i, i < 10 → p i := by
 intro i hi
 rcases (by omega : i = 0 ∨ i = 1 ∨ i = 2 ∨ i = 3 ∨ i = 4 ∨ i = 5 ∨ i = 6 ∨ i = 7 ∨ i = 8 ∨ i = 9) with rfl | rfl | rfl | rfl | rfl | rfl | rfl | rfl | rfl | rfl <;> assumption
theorem nope {b : Bool} {X : Prop} (h : b = false) : b = true → X := fun e => by rw [h] at e; cases e
theorem load_box {W : World} {b : Nat} {v : Value} (h : Boxed W b 39 v) : (loadVar 39 ⟨b, 0, none⟩).run Tryz.prog W = .ok v W := by
 have hc := h.cell
 simp [loadVar, hc, go_sem]
def LayI (w : World) (b0 b4 b5 : Nat) (pre : List (Int × Int)) (W : World) : Prop :=
 ∃ (A B : Option Addr) (c d : Nat), Boxed W b4 39 (.slice A pre.length c) ∧ Boxed W b5 39 (.slice B pre.length d) ∧ Own .i64 3 W b0 A pre.length c (pre.map Prod.fst) ∧ Own .i64 3 W b0 B pre.length d (pre.map Prod.snd) ∧ Apart A B ∧ Below w.heap.size w W ∧ b0 ≤ W.heap.size
theorem layI_fin {w Wb W : World} {b0 g0 b4 b5 : Nat} {A B : Option Addr} {c d : Nat} {pre : List (Int × Int)} {x1 x2 : Int} (F : FS w Wb b0 g0 b4 b5 (.slice A (pre.length + 1) c) (.slice B (pre.length + 1) d) A (pre.length + 1) c (pre.map Prod.fst ++ [x1]) B (pre.length + 1) d (pre.map Prod.snd ++ [x2]) W) :
 KeepsOthers Wb W ∧ KeepG g0 Wb W ∧ LayI w b0 b4 b5 (pre ++ [(x1, x2)]) W := by
 have hl : (pre ++ [(x1, x2)]).length = pre.length + 1 := by simp
 refine ⟨F.ko, F.kg, A, B, c, d, by rw [hl]; exact F.x4, by rw [hl]; exact F.x5, by rw [hl, List.map_append]; exact F.a, by rw [hl, List.map_append]; exact F.b, F.ap, F.bl, F.hs⟩
theorem layI_own (w : World) (b0 b4 b5 B0 : Nat) (hb : w.heap.size ≤ B0) : OwnFrom B0 (LayI w b0 b4 b5) := by
 rintro s X Y row ⟨A, B, c, d, h4, h5, hA, hB, hap, hbl, hsz⟩ hg hr
 have hrow : ∀ (e : TypeId) (C : Option Addr) (n c : Nat) (vs : List Value), Ownv e X b0 C n c vs → C ≠ none → some (blk C) ≠ row := by
  rintro e C n c vs hC hn rfl
  obtain ⟨_, o, ho, hc⟩ := hr _ rfl
  rcases (Ownv.cases hC).2 with ⟨rfl, _⟩ | ⟨g, cur, rfl, _, hh, _⟩
  · exact hn rfl
  · have ho' : X.heap[g]? = some o := ho
    rw [hh] at ho'
    cases ho'; cases hc
 have hbx : ∀ (b : Nat) (v : Value), Boxed X b 39 v → some b ≠ row := by
  rintro b v hx rfl
  obtain ⟨_, o, ho, hc⟩ := hr _ rfl
  rw [show X.heap[b]? = _ from hx] at ho
  cases ho; cases hc
 exact ⟨A, B, c, d, h4.kept hg (hbx _ _ h4), h5.kept hg (hbx _ _ h5), Ownv.grown hA hg (hrow _ _ _ _ _ hA), Ownv.grown hB hg (hrow _ _ _ _ _ hB), hap, hbl.grown hg hbl.size (fun k hk => Nat.le_trans hb (hr k hk).1), Nat.le_trans hsz hg.size⟩
theorem stepsC_any (k code : Nat) (hc : code = 1 ∨ code = 2) (w : World) (hv : validK (k : Int) = true) : Calls Tryz.prog 216 #[.int .i64 k, .int .i64 (code : Int)] w fun e w' => ∃ v, e = .returned v ∧ StepsOk w' k code v ∧ Below w.heap.size w w' := by
 rcases hc with rfl | rfl
 · exact steps1_any k w hv
 · exact steps2_any k w hv
theorem lay_any (k code : Nat) (w : World) (hv : validK (k : Int) = true) (hc : code = 1 ∨ code = 2) : Calls Tryz.prog 170 #[.int .i64 k, .int .i64 (code : Int)] w fun e w' => ∃ A c B d, e = .returned (.tuple #[.slice A (k + 3) c, .slice B (k + 3) d, .int .i64 0]) ∧ Own .i64 3 w' w.heap.size A (k + 3) c (sysL k code) ∧ Own .i64 3 w' w.heap.size B (k + 3) d (parI k code) ∧ Below w.heap.size w w' := by
 obtain ⟨n0, n1⟩ := valid_len hv
 have hvv := fun W => Lib.hid (valid_any (k : Int) W)
 rw [hv] at hvv
 have hst := fun W => Lib.hid (stepsC_any k code hc W hv)
 have h1' : decide ((code : Int) < 1) = false := by simp; omega
 have h2' : decide (2 < (code : Int)) = false := by simp; omega
 clear hv hc
 refine (callsIn_wide (n := 3)).1 ?_
 refine callsIn_of_wp_marks Tryz.func170 rfl trivial ?_
 simp only [Tryz.ntmps170, List.size_toArray, List.length_cons, List.length_nil, Nat.reduceAdd, Nat.reduceSub, Array.replicate_succ, Array.replicate_zero, List.push_toArray, List.append_toArray, List.nil_append, List.cons_append]
 gi_wp2_with fail
 refine ⟨trivial, ?_⟩
 refine CallsIn.mono (callsIn_wide.2 (hvv _).out) ?_
 rintro e w1 ⟨rfl, hB1⟩
 gi_wp2_with fail
 refine ⟨trivial, ?_⟩
 refine CallsIn.mono (callsIn_wide.2 (hst _).out) ?_
 rintro e w2 ⟨v, rfl, ⟨b8, g, c8, rfl, hc8, hr8⟩, hB2⟩
 gi_wp2_with fail
 have hx4 : Boxed w1 w.heap.size 39 (.slice none 0 0) := (hB1.block _ (by simp <;> omega)).trans ((Boxed.new w 39 (.slice none 0 0)).alloc _)
 have hx5 : Boxed w1 (w.heap.size + 1) 39 (.slice none 0 0) := (hB1.block _ (by simp <;> omega)).trans (by have := Boxed.new (w.alloc (.cells #[.slice none 0 0] 39)) 39 (.slice none 0 0); rw [World.size_alloc] at this; exact this)
 have hy4 : Boxed w2 w.heap.size 39 (.slice none 0 0) := (hB2.block _ (Boxed.lt hx4)).trans hx4
 have hy5 : Boxed w2 (w.heap.size + 1) 39 (.slice none 0 0) := (hB2.block _ (Boxed.lt hx5)).trans hx5
 have hBw : Below w.heap.size w w2 := ((((Below.refl _ w).alloc (Nat.le_refl _) _).alloc (by simp) _).trans (hB1.mono (by simp; omega))).trans (hB2.mono (by have := hB1.size; simp at this; omega))
 have hI0 : LayI w w2.heap.size w.heap.size (w.heap.size + 1) [] w2 := ⟨none, none, 0, 0, hy4, hy5, Own.nilv _ _ _ _, Own.nilv _ _ _ _, fun h => absurd rfl h, hBw, Nat.le_refl _⟩
 have hglt : g < w2.heap.size := hr8.lt (by omega) _ rfl
 have hg1 : (w2.cell? ⟨g, 1, none⟩).isSome = true := by
  have h9 := hr8.at_ 1 _ (List.getElem?_eq_getElem (by rw [hr8.len]; omega))
  rw [adr_some, Nat.zero_add] at h9
  rw [h9]; rfl
 have hgb : ∀ (b : Nat) (v : Value), Boxed w2 b 39 v → g ≠ b := by
  rintro b v hb rfl
  have h9 : w2.cell? ⟨g, 1, none⟩ = #[v][1]? := cell_of_row w2 g 1 _ _ _ hb
  rw [h9] at hg1
  cases hg1
 have hg4 := hgb _ _ hy4
 have hg5 := hgb _ _ hy5
 have hlt8 : b8 < w2.heap.size := World.block_lt_of_cell? w2 _ hc8
 clear hx4 hx5 hy4 hy5 hB1 hB2 hvv hst
 refine wpIn_rangeFunc_ownF rfl (by omega) (gf := 244) (lb := #[.pointer (some ⟨b8, 0, none⟩)]) rfl trivial (enters_of Tryz.func244 (by kernel_rfl) rfl)
  (steps4_stops Fence.wide 2 trivial rfl (by omega) b8 w2.heap.size g (k + 3) c8 (stepsP k code) w2 w2 (by rw [stepsP_flat]; exact hr8) (stepsP_len k code) (by omega) rfl (Below.refl _ _) hlt8 hc8) (fun h k => KeepG.trans h k) (keepG_b hglt) (Below.refl _ _) (fun _ => rfl)
  (fun pre W => LayI w w2.heap.size w.heap.size (w.heap.size + 1) pre W)
  (fun _ _ _ => False)
  (layI_own w w2.heap.size w.heap.size (w.heap.size + 1) w2.heap.size hBw.size)
  (fun _ _ _ _ _ hs _ _ => hs)
  hI0
  (fun x => { tmps := #[.int .i64 k, .int .i64 (code : Int), undef, undef, .pointer (some ⟨w.heap.size, 0, none⟩), .pointer (some ⟨w.heap.size + 1, 0, none⟩), .int .i64 0, .int .i64 x.1, .int .i64 x.2, .int .i64 k, .bool true, .bool false, .bool false, .int .i64 (code : Int), .bool false,
    .bool false, .bool false, .int .i64 (code : Int), .bool false, .bool false, .int .i64 k, .int .i64 (code : Int), .func (.func 244) #[] #[.pointer (some ⟨b8, 0, none⟩)], .int .i64 x.1, .int .i64 x.2, undef, undef, undef, undef, undef, undef, undef, undef, undef, undef], defers := [] }) ?assign ?body ?done ?stop
 case assign =>
  intro l x W K hK
  gi_wp2
  exact hK
 case body =>
  rintro l pre ⟨x1, x2⟩ W ⟨A, B, c, d, h4, h5, hA, hB, hap, hbl, hsz⟩ hpl
  have hAlt : A ≠ none → blk A < W.heap.size := fun h => own_lt hA h
  have hn1 : pre.length + 1 ≤ 100000 := by omega
  have hF00 : FS w W w2.heap.size g w.heap.size (w.heap.size + 1) (.slice A pre.length c) (.slice B pre.length d) A pre.length c (pre.map Prod.fst) B pre.length d (pre.map Prod.snd) W := ⟨h4, h5, hA, hB, hap, hbl, KeepsOthers.refl W, hBw.size, hsz, hglt, hg4, hg5, KeepG.refl _ _⟩
  have hF0 := hF00.drew
  have h45 : w.heap.size + 1 ≠ w.heap.size := Nat.succ_ne_self _
  have h54 : w.heap.size ≠ w.heap.size + 1 := h45.symm
  gi_wp2
  refine regIn_any (by kernel_rfl) (by kernel_rfl) (fun ⟨_, _, h⟩ => h) ?_
  change wpAny _ _ _ _ _ _ _ (World.drew _)
  refine wpAny_take (i := 1) (v := .int .i64 x1) rfl (by kernel_rfl) (by kernel_rfl) (by kernel_rfl) (fun _ _ _ h => h) (Or.inl ⟨by rfl, fun w => by go_simp⟩) ?_
  refine wpAny_take (i := 5) (v := .int .i64 x2) rfl (by kernel_rfl) (by kernel_rfl) (by kernel_rfl) (fun _ _ _ h => h) (Or.inl ⟨by rfl, fun w => by go_simp⟩) ?_
  repeat' (first
   | (refine wpAny_done (by decide +kernel) ?_ _
      exact layI_fin (g0 := g) (Wb := W) (b4 := w.heap.size) (b5 := w.heap.size + 1) (w := w) (by repeat (first | with_reducible assumption | with_reducible apply FS.drew | with_reducible apply FS.alloc | with_reducible apply FS.set4 (h4 := Nat.le_refl _) (hne := h45) | with_reducible apply FS.set5 (h5 := Nat.le_succ _) (hne := h54))))
   | (refine any_step 10 rfl (by decide +kernel) (all10 ?_ ?_ ?_ ?_ ?_ ?_ ?_ ?_ ?_ ?_)
      all_goals first
       | exact nope (by decide +kernel)
       | (refine fun _ => wpOp_step (i := 3) rfl (fun K hK => ?_)
          refine step_of rfl ?_
          refine FS.appA (u := x1) (.tmp 25) (.tmp 27) 39 rfl el33 rfl rfl (by repeat (first | with_reducible assumption | with_reducible apply FS.drew | with_reducible apply FS.alloc | with_reducible apply FS.set4 (h4 := Nat.le_refl _) (hne := h45) | with_reducible apply FS.set5 (h5 := Nat.le_succ _) (hne := h54))) ?_ hn1 hAlt ?_
          · repeat (first | ((with_reducible refine heap_new' ?_); focus (simp; done)) | (with_reducible refine heap_drew' ?_) | (with_reducible refine heap_old' ?_) | (with_reducible refine hk _ _ ?_ ?_))
          intro gA cA WA hFA hk
          go_simp
          refine hK _ _ ?_
          clear hK K)
       | (refine fun _ => wpOp_step (i := 7) rfl (fun K hK => ?_)
          refine step_of rfl ?_
          refine FS.appB (u := x2) (.tmp 29) (.tmp 31) 39 rfl el33 rfl rfl (by repeat (first | with_reducible assumption | with_reducible apply FS.drew | with_reducible apply FS.alloc | with_reducible apply FS.set4 (h4 := Nat.le_refl _) (hne := h45) | with_reducible apply FS.set5 (h5 := Nat.le_succ _) (hne := h54))) ?_ hn1 ?_
          · repeat (first | ((with_reducible refine heap_new' ?_); focus (simp; done)) | (with_reducible refine heap_drew' ?_) | (with_reducible refine heap_old' ?_) | (with_reducible refine hk _ _ ?_ ?_))
            all_goals first | (simp; done) | exact Nat.le_succ _ | exact Nat.le_refl _ | exact Nat.le_succ_of_le (Nat.le_succ _)
          intro gB cB WB hFB
          go_simp
          refine hK _ _ ?_
          clear hK K)
       | (refine fun _ => wpOp_step (i := 2) rfl (fun K hK => ?_)
          refine step_of rfl ?_
          go_simp
          refine hK _ _ ?_
          clear hK K)
       | (refine fun _ => wpOp_step (i := 6) rfl (fun K hK => ?_)
          refine step_of rfl ?_
          go_simp
          refine hK _ _ ?_
          clear hK K)
       | (refine fun _ => wpOp_step rfl (fun K hK => ?_)
          refine step_of rfl ?_
          refine wp_fs (g0 := g) (Wb := W) (b4 := w.heap.size) (b5 := w.heap.size + 1) (w := w) (by repeat (first | with_reducible assumption | with_reducible apply FS.drew | with_reducible apply FS.alloc | with_reducible apply FS.set4 (h4 := Nat.le_refl _) (hne := h45) | with_reducible apply FS.set5 (h5 := Nat.le_succ _) (hne := h54))) (fun c4 f4 c5 f5 => ?_)
          go_simp
          refine hK _ _ ?_
          clear hK K c4 f4 c5 f5)))
 case done =>
  rintro D ys W hD rfl ⟨A, B, c, d, h4, h5, hA, hB, hap, hbl, hsz⟩ hK
  have hc4 := h4.cell
  have hf4 := h4.frozen
  have hc5 := h5.cell
  have hf5 := h5.frozen
  have HA := Lib.hid hA
  have HB := Lib.hid hB
  have H4 := Lib.hid h4
  have H5 := Lib.hid h5
  have HBL := Lib.hid hbl
  clear h4 h5 hA hB hbl
  gi_wp2
  refine wpIn_wide.2 ?_
  go_region
  gi_wp2
  have F0 : FS w W w2.heap.size g w.heap.size (w.heap.size + 1) _ _ A _ c _ B _ d _ W := ⟨H4.out, H5.out, HA.out, HB.out, hap, HBL.out, KeepsOthers.refl W, hBw.size, hsz, hglt, hg4, hg5, KeepG.refl _ _⟩
  have F1 := ((F0.set4 (.slice A (stepsP k code).length c) (Nat.le_refl _) (Nat.succ_ne_self _)).set5 (.slice B (stepsP k code).length d) (Nat.le_succ _) (Nat.succ_ne_self _).symm).drew
  have hK2 := F1.ko.same D _ hK rfl
  have hI2 : LayI w w2.heap.size w.heap.size (w.heap.size + 1) (stepsP k code) _ := ⟨A, B, c, d, F1.x4, F1.x5, F1.a, F1.b, F1.ap, F1.bl, F1.hs⟩
  refine ⟨by simp, .inl ⟨_, _, rfl, run_takeDeferred hK2, ?_⟩⟩
  obtain ⟨A', B', c', d', k4, k5, kA, kB, -, kbl, -⟩ := (layI_own w w2.heap.size w.heap.size (w.heap.size + 1) w2.heap.size hBw.size).putObj (.deferred none) hI2 hD hK2 rfl
  have l1 := load_box k4
  have l2 := load_box k5
  have e3 := stepsP_len k code
  refine ⟨.tuple #[.slice A' (stepsP k code).length c', .slice B' (stepsP k code).length d', .int .i64 0], ?_, A', c', B', d', by rw [e3], Own.of_eq (Ownv.mono kA hBw.size) e3 rfl, Own.of_eq (Ownv.mono kB hBw.size) e3 rfl, kbl⟩
  rw [results_cct rfl]
  simp [asAddr, l1, l2, Sem.run_pure]
 case stop =>
  rintro D c pre W _ _ h _
  exact h.elim
end Go.Proofs.YtkdfefpnhaebfaaGreat.Tu
namespace Go.Proofs.YtkdfefpnhaebfaaGreat.Tu
open Go.RowKit
def toB (xs : List Int) : List Bool := xs.map fun x => decide (x = 1)
theorem toB_ib (xs : List Int) (h0 : ∀ x ∈ xs, 0 ≤ x) (hv : ValidB xs = true) : (toB xs).map ib = xs := by
 unfold toB
 rw [List.map_map]
 have h1 : ∀ x ∈ xs, (ib ∘ fun x => decide (x = 1)) x = x := by
  intro x hx
  have h2 := List.all_eq_true.1 hv x hx
  have h3 := h0 x hx
  simp only [decide_eq_true_eq] at h2
  simp only [Function.comp, ib]
  by_cases e : x = 1
  · simp [e]
  · rw [if_neg (by simpa using e)]; omega
 rw [List.map_congr_left h1, List.map_id']
end Go.Proofs.YtkdfefpnhaebfaaGreat.Tu
