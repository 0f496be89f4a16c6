/- Bundle. Conditions: none. -/
import Derived.Test.YtkdfefpnhaebfaaGreatBuoaa
import Derived.RangeFuncNested
import Derived.RangeFuncBound
import Derived.RangeFuncCalls
import Derived.RangeFuncLeaves
import Derived.Shelf.Abstract
import Derived.Shelf.RegionOpen
import Derived.OwnWalkIn
import Derived.TacticsInMore
import Derived.LoopNIn
import Derived.LoopIn
import Derived.RangeFuncBox
import Derived.Test.YtkdfefpnhaebfaaGreatProg
import Derived.WalkMore
import Derived.ScopeJumps
import Derived.OwnWalk
import Derived.Laws.ResultCell
import Derived.Handy
import Derived.BigRegion
import Derived.Deep.RegionHeld3
set_option linter.unusedVariables false
set_option linter.unusedSimpArgs false
namespace Go.Proofs.YtkdfefpnhaebfaaGreat
open Go.RowKit Go.Shelf
section
variable {P : Program} {ops : Array Oper} {Q : Exit → Act → World → Prop} {l n : Nat}
theorem rowsIn_wide {row : String} {args : Array Value} {w : World} {R : Value → World → Prop} (h : Rows P row args w R) : RowsIn (Fence.wide.inRound l) n P row args w R :=
 fun c cs _ => let ⟨v, w', r, s⟩ := h c cs; ⟨v, w', r, by rw [fenced_inRound]; exact stepsIn_wide.2 s⟩
theorem operIn_of {o : Oper} {a : Act} {w : World} {K : Act → World → Prop} (hd : ∀ c, o.op ≠ .defer c) (hL : ¬ LetsOut Q) (h : o.wp P a w K Q) : o.wpIn (Fence.wide.inRound l) n P a w K Q := by
 refine ⟨fun _ _ => trivial, ?_⟩
 rw [Oper.semAt_eq _ _ _ hd]
 unfold Oper.wp at h
 cases hr : (execOp a.eval o).run P w with
 | ok x w' =>
   rw [hr] at h
   cases x <;> first | exact h | exact (h : False).elim | skip
   · refine ⟨by simp [Fence.wide], ?_⟩
     exact CallsIn.inRound l (callsIn_wide.2 h)
   all_goals exact ⟨by simp [Fence.wide], rowsIn_wide h⟩
 | halt x w' =>
   rw [hr] at h
   cases x <;> first | exact h | exact (h : False).elim
def noDefer (ops : Array Oper) : Bool := ops.all fun o => match o.op with | .defer _ => false | _ => true
theorem noDefer_spec (h : noDefer ops = true) {i : Nat} {o : Oper} (ho : ops[i]? = some o) : ∀ c, o.op ≠ .defer c := by
 intro c hc
 have h1 := (Array.all_eq_true.1 h) i (Array.getElem?_eq_some_iff.1 ho).1
 rw [(Array.getElem?_eq_some_iff.1 ho).2, hc] at h1
 cases h1
theorem anyIn_of (hd : noDefer ops = true) (hL : ¬ LetsOut Q) {md : Region.Mode} : ∀ (fuel : Nat) (listed : Array Bool) (a : Act) (w : World), wpAny P md ops Q fuel listed a w → wpAnyIn (Fence.wide.inRound l) n P md ops Q fuel listed a w
 | 0, _, _, _, h => h
 | fuel + 1, listed, a, w, h => by
   refine ⟨h.1, fun i hi => ?_⟩
   have h1 := h.2 i hi
   unfold wpOp at h1
   unfold wpOpIn
   cases ho : ops[i]? with
   | none => rw [ho] at h1; exact anyIn_of hd hL _ _ _ _ h1
   | some o =>
     rw [ho] at h1
     simp only at h1 ⊢
     split
     · rename_i hw
       rw [if_pos hw] at h1
       rcases h1 with h1 | h1
       · exact Oper.wpIn_mono (fun a w => anyIn_of hd hL _ _ _ _) (operIn_of (noDefer_spec hd ho) hL h1)
       · exact absurd h1.2 hL
     · rename_i hw
       rw [if_neg hw] at h1
       exact ⟨fun _ _ => trivial, anyIn_of hd hL _ _ _ _ h1⟩
theorem regIn_any {id : Nat} {a : Act} {w : World} (hm : P.follows .mixedOrders = true) (hd : noDefer ops = true) (hL : ¬ LetsOut Q)
 (h : wpAny P .any ops Q ops.size (Array.replicate ops.size false) a { w with drawn := w.drawn + 1 }) : (Code.region id ops true).wpIn (Fence.wide.inRound l) n P Q a w :=
 wpIn_region_any hm (anyIn_of hd hL _ _ _ _ h)
theorem regIn_still_tail {id : Nat} {a : Act} {w : World} {L : List Oper} (m : Nat) (hm : P.follows .mixedOrders = true) (hB : Region.lexTailB .any L.toArray m = true) (hd : noDefer L.toArray = true) (hLo : ¬ LetsOut Q)
 (h : wpStill P L.toArray { w with drawn := w.drawn + 1 } (fun a' => wpList P L.toArray Q (L.drop m) a' { w with drawn := w.drawn + 1 }) (L.take m) a) : (Code.region id L.toArray true).wpIn (Fence.wide.inRound l) n P Q a w := by
 simp only [Region.lexTailB, Bool.and_eq_true, decide_eq_true_eq] at hB
 obtain ⟨⟨⟨⟨hsel, hn⟩, hs⟩, hc⟩, hlex⟩ := hB
 have hn' : m < L.length := by simpa using hn
 have htl : (L.take m).length = m := by simp; omega
 have hdl : (L.drop m).length = L.toArray.size - m := by simp
 have inv0 : HeadInv .any L.toArray m (Array.replicate L.toArray.size false) :=
  ⟨by simp, fun j oj _ hl => (by rw [getD_replicate_false] at hl; cases hl), fun t _ ht => getD_in (by simpa using ht) (getD_replicate_false _ _)⟩
 have H := wpAnyL_lex (md := .any) (g := L.toArray.size - m) hsel hs hc hn (L.take m) 0 _ a (fun j hj => by
  have hj' : j < m := by rw [htl] at hj; exact hj
  simp [hj']) (by simpa using htl) inv0 (by rw [htl]; exact hlex) h
 refine regIn_any hm hd hLo ?_
 have := wpAny_of_head (Q' := Q) (g := L.toArray.size - m) (fun listed a' hL => by
  have := wpAny_of_seq (md := .any) (Q' := Q) (L.drop m) m listed a' { w with drawn := w.drawn + 1 } (fun j => by simp [List.getElem?_drop]) (by rw [hdl]; exact hL.1) hL.2
  rwa [hdl] at this) _ _ _ H
 rw [htl, show m + (L.toArray.size - m) = L.toArray.size by omega] at this
 exact this
end
end Go.Proofs.YtkdfefpnhaebfaaGreat
namespace Go.Proofs.YtkdfefpnhaebfaaGreat
open Go.RowKit
theorem el26 : El Tryz.prog 28 5 (.int .u8 0) 1 := ⟨by kernel_rfl, by kernel_rfl, fun _ => by kernel_rfl, rfl⟩
theorem el22 : El Tryz.prog 39 3 (.int .i64 0) 8 := ⟨by kernel_rfl, by kernel_rfl, fun _ => by kernel_rfl, rfl⟩
theorem gi_set (m : List Int) (i t : Nat) (v : Int) (hi : i < m.length) : gi (m.set i v) t = if i = t then v else gi m t := by
 unfold gi
 rw [List.getD_eq_getElem?_getD, List.getElem?_set]
 by_cases h : i = t
 · rw [if_pos h, if_pos h, if_pos (by omega)]; rfl
 · rw [if_neg h, if_neg h, ← List.getD_eq_getElem?_getD]
def ib (b : Bool) : Int := if b then 1 else 0
def regV (a b c : Bool) : Value := .agg #[.int .i64 (ib a), .int .i64 (ib b), .int .i64 (ib c)]
theorem xor_ib (a b : Bool) : bits .xor .i64 (ib a) (ib b) = ib (a ^^ b) := by cases a <;> cases b <;> decide
def stI (a b c : Bool) : Int := 4 * ib a + 2 * ib b + ib c
theorem fits_any (s : Int) (w : World) : Calls Tryz.prog 205 #[.int .i64 s, .int .i64 0] w fun e w' => e = .returned (.bool (decide (0 ≤ s ∧ s < 8))) ∧ w = w' := by
 rcases (by omega : s < 0 ∨ (0 ≤ s ∧ s < 8) ∨ 8 ≤ s) with h | ⟨h, h'⟩ | h
 · have hd : decide (0 ≤ s ∧ s < 8) = false := by simp; omega
   rw [hd]
   go_enter Tryz.func205, Tryz.ntmps205
   go_wp2
   go_ret
   exact ⟨rfl, rfl⟩
 · have hd : decide (0 ≤ s ∧ s < 8) = true := by simp; omega
   rw [hd]
   go_enter Tryz.func205, Tryz.ntmps205
   go_wp2
   go_ret
   exact ⟨rfl, rfl⟩
 · have hd : decide (0 ≤ s ∧ s < 8) = false := by simp; omega
   rw [hd]
   go_enter Tryz.func205, Tryz.ntmps205
   go_wp2
   go_ret
   exact ⟨rfl, rfl⟩
theorem ending_any (a b c : Bool) (w : World) : Calls Tryz.prog 207 #[regV a b c] w fun e w' => e = .returned (.int .i64 (ib (b ^^ c))) ∧ Below w.heap.size w w' := by
 have hx := xor_ib
 unfold regV
 go_enter Tryz.func207, Tryz.ntmps207
 go_wp2
 go_ret
 exact ⟨ret_int rfl, (Below.refl _ w).alloc (Nat.le_refl _) _⟩
theorem state_any (a b c : Bool) (w : World) : Calls Tryz.prog 204 #[regV a b c] w fun e w' => e = .returned (.int .i64 (stI a b c)) ∧ Below w.heap.size w w' := by
 unfold regV
 cases a <;> cases b <;> cases c <;> (
  simp only [ib, if_true, if_false, Bool.false_eq_true]
  go_enter Tryz.func204, Tryz.ntmps204
  go_wp2
  go_ret
  exact ⟨ret_int (by decide), (Below.refl _ w).alloc (Nat.le_refl _) _⟩)
set_option maxRecDepth 100000
set_option maxHeartbeats 1000000
theorem regat_any (a b c : Bool) (w : World) : Calls Tryz.prog 206 #[.int .i64 (stI a b c)] w fun e w' => e = .returned (regV a b c) ∧ Below w.heap.size w w' := by
 unfold regV
 cases a <;> cases b <;> cases c <;> (
  simp only [stI, ib, if_true, if_false, Bool.false_eq_true]
  go_enter Tryz.func206, Tryz.ntmps206
  go_wp2
  go_returns
  refine ⟨?_, (Below.refl _ w).alloc (Nat.le_refl _) _⟩
  try rfl
  try decide)
theorem step_any (a b c x : Bool) (w : World) : Calls Tryz.prog 234 #[regV a b c, .int .i64 (ib x)] w fun e w' => e = .returned (.tuple #[regV (x ^^ b ^^ c) a b, .int .i64 (ib (x ^^ b ^^ c ^^ a ^^ c))]) ∧ Below w.heap.size w w' := by
 have hx := xor_ib
 unfold regV
 go_enter Tryz.func234, Tryz.ntmps234
 go_wp2
 go_region
 go_wp2
 have e1 : (x != (b != c)) = (x ^^ b ^^ c) := by cases x <;> cases b <;> cases c <;> rfl
 have e2 : (x != (b != (c != (a != c)))) = (x ^^ b ^^ c ^^ a ^^ c) := by cases x <;> cases b <;> cases c <;> cases a <;> rfl
 go_returns
 exact ⟨by rw [e1, e2], ((((Below.refl _ w).alloc (Nat.le_refl _) _).alloc (by simp) _).trans (by first | exact Below.refl _ _ | exact Qt.below ⟨_, rfl⟩ _))⟩
structure EncSt (base : Nat) (w : World) (o : Nat) (a b c : Bool) (A : Option Addr) (n cp : Nat) (ps : List Bool) : Prop where
 obj : Ownv 257 w base (some ⟨o, 0, none⟩) 4 4 [.int .i64 (ib a), .int .i64 (ib b), .int .i64 (ib c), .slice A n cp]
 row : Own .u8 5 w base A n cp (ps.map ib)
 ne : A ≠ none → blk A ≠ o
 le : base ≤ w.heap.size
theorem EncSt.facts {base : Nat} {w : World} {o : Nat} {a b c : Bool} {A : Option Addr} {n cp : Nat} {ps : List Bool} (h : EncSt base w o a b c A n cp ps) :
 w.cell? ⟨o, 0, none⟩ = some (.int .i64 (ib a)) ∧ w.cell? ⟨o, 1, none⟩ = some (.int .i64 (ib b)) ∧ w.cell? ⟨o, 2, none⟩ = some (.int .i64 (ib c)) ∧ w.cell? ⟨o, 3, none⟩ = some (.slice A n cp) ∧
 w.frozen? ⟨o, 0, none⟩ = false ∧ w.frozen? ⟨o, 1, none⟩ = false ∧ w.frozen? ⟨o, 2, none⟩ = false ∧ w.frozen? ⟨o, 3, none⟩ = false :=
 ⟨h.obj.rd.at_ 0 _ rfl, h.obj.rd.at_ 1 _ rfl, h.obj.rd.at_ 2 _ rfl, h.obj.rd.at_ 3 _ rfl, Ownv.frozen h.obj (by omega) 0, Ownv.frozen h.obj (by omega) 1, Ownv.frozen h.obj (by omega) 2, Ownv.frozen h.obj (by omega) 3⟩
theorem EncSt.below {base : Nat} {w w' : World} {o : Nat} {a b c : Bool} {A : Option Addr} {n cp : Nat} {ps : List Bool} (h : EncSt base w o a b c A n cp ps) (hB : Below w.heap.size w w') : EncSt base w' o a b c A n cp ps :=
 ⟨h.obj.below hB, Ownv.below h.row hB, h.ne, Nat.le_trans h.le hB.size⟩
theorem EncSt.alloc {base : Nat} {w : World} {o : Nat} {a b c : Bool} {A : Option Addr} {n cp : Nat} {ps : List Bool} (h : EncSt base w o a b c A n cp ps) (x : Obj) : EncSt base (w.alloc x) o a b c A n cp ps :=
 ⟨h.obj.alloc x, Ownv.alloc h.row x, h.ne, by have := h.le; simp; omega⟩
theorem EncSt.put {base : Nat} {w : World} {o : Nat} {a b c : Bool} {A : Option Addr} {n cp : Nat} {ps : List Bool} (h : EncSt base w o a b c A n cp ps) (a' b' c' : Bool) :
 EncSt base (((w.setCell ⟨o, 0, none⟩ (.int .i64 (ib a'))).setCell ⟨o, 1, none⟩ (.int .i64 (ib b'))).setCell ⟨o, 2, none⟩ (.int .i64 (ib c'))) o a' b' c' A n cp ps ∧
  Below base w (((w.setCell ⟨o, 0, none⟩ (.int .i64 (ib a'))).setCell ⟨o, 1, none⟩ (.int .i64 (ib b'))).setCell ⟨o, 2, none⟩ (.int .i64 (ib c'))) := by
 have hb : base ≤ o := (Ownv.blk_ge h.obj (by omega)).1
 have s0 := Ownv.set_ h.obj (j := 0) (by omega) (.int .i64 (ib a'))
 have s1 := Ownv.set_ s0.1 (j := 1) (by omega) (.int .i64 (ib b'))
 have s2 := Ownv.set_ s1.1 (j := 2) (by omega) (.int .i64 (ib c'))
 have hn : A ≠ none → some (blk A) ≠ some o := fun hA he => h.ne hA (Option.some.inj he)
 have r0 := Ownv.grown h.row s0.2 hn
 have r1 := Ownv.grown r0 s1.2 hn
 have r2 := Ownv.grown r1 s2.2 hn
 have g : ∀ {W W' : World}, Below base w W → W.grownBy W' (some o) → Below base w W' := fun hB hg => hB.grown hg (Nat.le_trans h.le hB.size) (fun k hk => by injection hk with hk; omega)
 have g2 := g (g (g (Below.refl base w) s0.2) s1.2) s2.2
 exact ⟨⟨s2.1, r2, h.ne, Nat.le_trans h.le g2.size⟩, g2⟩
theorem own_tag_ne {e e' : TypeId} {w : World} {base base' : Nat} {A B : Option Addr} {n c m d : Nat} {vs us : List Value} (h : Ownv e w base A n c vs) (h' : Ownv e' w base' B m d us) (he : e ≠ e') (hA : A ≠ none) (hB : B ≠ none) : blk A ≠ blk B := by
 obtain ⟨_, h2⟩ := h.cases
 obtain ⟨_, h2'⟩ := h'.cases
 rcases h2 with ⟨rfl, _⟩ | ⟨g, cur, rfl, _, hh, _⟩
 · exact absurd rfl hA
 · rcases h2' with ⟨rfl, _⟩ | ⟨g', cur', rfl, _, hh', _⟩
   · exact absurd rfl hB
   · intro hg
     have hg : g = g' := hg
     subst hg
     rw [hh] at hh'
     injection hh' with h3
     injection h3 with _ h4
     exact he h4
theorem Ownv.blk_of {e : TypeId} {w : World} {base : Nat} {A : Option Addr} {n c : Nat} {vs : List Value} (h : Ownv e w base A n c vs) (hA : A ≠ none) : base ≤ blk A ∧ blk A < w.heap.size := by
 obtain ⟨hl, h2⟩ := h.cases
 rcases h2 with ⟨rfl, rfl, rfl⟩ | ⟨g, cur, rfl, hb, hh, hnc, hcm, hs, ht⟩
 · exact absurd rfl hA
 · exact ⟨hb, (Array.getElem?_eq_some_iff.1 hh).1⟩
theorem takes_any (base o : Nat) (a b c x : Bool) (A : Option Addr) (n cp : Nat) (ps : List Bool) (w : World) (h : EncSt base w o a b c A n cp ps) (hn : n ≤ 100000) :
 Calls Tryz.prog 203 #[.pointer (some ⟨o, 0, none⟩), .int .i64 (ib x)] w fun e w' => e = .returned (.int .i64 (ib (x ^^ b ^^ c ^^ a ^^ c))) ∧ (∃ A' cp', EncSt base w' o (x ^^ b ^^ c) a b A' (n + 1) cp' (ps ++ [x ^^ b ^^ c ^^ a ^^ c])) ∧ Below base w w' := by
 obtain ⟨c0, c1, c2, c3, -, -, -, -⟩ := h.facts
 have hs := fun W => Lib.hid (step_any a b c x W)
 generalize (x ^^ b ^^ c) = a' at *
 generalize (a' ^^ a ^^ c) = p at *
 unfold regV at hs
 go_enter Tryz.func203, Tryz.ntmps203
 go_wp2_with fail
 refine (hs _).out.mono ?_
 rintro e w1 ⟨rfl, hB1⟩
 have h1 := (h.below hB1).alloc (.cells #[.int .i64 (ib a'), .int .i64 (ib a), .int .i64 (ib b)] 255)
 obtain ⟨d0, d1, d2, d3, f0, f1, f2, f3⟩ := h1.facts
 have HP := Lib.hid (h1.put a' a b)
 have HLE := Lib.hid h.le
 have HNE : Hid (some (blk (some ⟨o, 0, none⟩)) = (Value.slice A n cp).ownBlock → False) := Lib.hid (fun he => by
  rcases A with _ | A
  · simp [Value.ownBlock] at he
  · have h3 := (Ownv.cases h.row).2
    rcases h3 with ⟨h4, _⟩ | ⟨g, cur, h4, _⟩
    · cases h4
    · cases h4
      refine h.ne (by simp) ?_
      simp [Value.ownBlock] at he
      exact he.symm)
 clear c0 c1 c2 c3 h1 h hs
 have hp0 : 0 ≤ ib p := by cases p <;> decide
 have hp1 : ib p ≤ 1 := by cases p <;> decide
 obtain ⟨ip, hip⟩ : ∃ ip, ib p = ip := ⟨_, rfl⟩
 rw [hip] at hp0 hp1 ⊢
 have HSZ : Hid (((((w1.alloc (.cells #[.int .i64 (ib a'), .int .i64 (ib a), .int .i64 (ib b)] 255)).setCell ⟨o, 0, none⟩ (.int .i64 (ib a'))).setCell ⟨o, 1, none⟩ (.int .i64 (ib a))).setCell ⟨o, 2, none⟩ (.int .i64 (ib b))).heap.size = w1.heap.size + 1) := Lib.hid (by simp)
 go_wp2_with (at_builtin; refine list_of rfl fun K hK => wp_app1 _ _ 28 rfl el26 rfl (.int .u8 ip) (by rw [HSZ.out]; rfl) rfl HP.out.1.row (by omega) (by omega) HP.out.1.le ?_; intro A' c' w' hO' hg; have hobj := Ownv.grown HP.out.1.obj hg (fun _ he => HNE.out he); have e3 : w'.cell? ⟨o, 3, none⟩ = some (.slice A n cp) := hobj.rd.at_ 3 _ rfl; have e3f : w'.frozen? ⟨o, 3, none⟩ = false := Ownv.frozen hobj (by omega) 3; refine hK _ _ ?_; clear hK K)
 go_ret
 have hb : base ≤ o := (Ownv.blk_ge hobj (by omega)).1
 have s3 := Ownv.set_ hobj (j := 3) (by omega) (.slice A' (n + 1) c')
 have hB2 : Below base w w1 := hB1.mono HLE.out
 have hB3 : Below base w w' := ((hB2.alloc (Nat.le_trans HLE.out hB1.size) _).trans HP.out.2).grown hg (by have := HP.out.1.le; exact this) (fun k hk => Ownv.ob' HP.out.1.row hk)
 refine ⟨ret_int hip.symm, ⟨A', c', s3.1, ?_, fun hA => own_tag_ne hO' hobj (by decide) hA (by simp), ?_⟩, ?_⟩
 · rw [List.map_append]
   exact Ownv.grown (Own.of_eq hO' rfl (by simp [hip])) s3.2 (fun hA he => own_tag_ne hO' hobj (by decide) hA (by simp) (Option.some.inj he))
 · exact Nat.le_trans (Nat.le_trans HLE.out hB3.size) s3.2.size
 · exact hB3.grown s3.2 (Nat.le_trans HLE.out hB3.size) (fun k hk => by injection hk with hk; rw [← hk]; exact hb)
def ValidB (xs : List Int) : Bool := xs.all (fun x => decide (x ≤ 1))
theorem validB_f {xs : List Int} {j : Nat} (hj : j < xs.length) (h : 1 < gi xs j) : ValidB xs = false := by
 rw [Bool.eq_false_iff]; intro hh
 have := all_gi.1 hh j hj
 simp at this; omega
theorem validB_t {xs : List Int} (h : ∀ q, q < xs.length → gi xs q ≤ 1) : ValidB xs = true := all_gi.2 fun j hj => by simpa using h j hj
theorem inv1_any (b : Int) (w : World) : Calls Tryz.prog 202 #[.int .u8 b] w fun e w' => e = .returned (.bool (decide (1 < b))) ∧ w = w' := by
 go_enter Tryz.func202, Tryz.ntmps202
 go_wp2
 go_ret
 exact ⟨rfl, rfl⟩
def IdxInv (n : Nat) (xs : List Int) (i : Value) : Prop := ∃ j : Nat, j ≤ n ∧ i = .int .i64 j ∧ ∀ q, q < j → gi xs q ≤ 1
def IdxPost (xs : List Int) (w : World) (e : Ending) (w' : World) : Prop := ∃ r : Int, e = .returned (.int .i64 r) ∧ (0 ≤ r ↔ ValidB xs = false) ∧ w = w'
theorem idx_any (A : Option Addr) (n c : Nat) (xs : List Int) (w : World) (h : Rd .u8 w A n c xs) :
 Calls Tryz.prog 113 #[.slice A n c, .func (.func 202) #[] #[]] w (IdxPost xs w) := by
 have hbd := h.bd.1
 go_enter Tryz.func113, Tryz.ntmps113
 go_wp2
 go_loop [8] (fun i => IdxInv n xs i) (fun i => n - (intOf i).toNat)
 case atStart => exact ⟨0, by omega, rfl, by intro q hq; omega⟩
 case round =>
  obtain ⟨j, hj, rfl, hv⟩ := hrel
  by_cases hlt : j < n
  · have hc := Rd.cell h hlt
    have hix := fun W => Rdv.ix h el26 hlt .i64 W
    have HV := Lib.hid hv; clear hv
    by_cases h1 : gi xs j ≤ 1
    · have h1' : decide (1 < gi xs j) = false := by simp; omega
      go_wp2_with (go_at_call 202; refine (inv1_any _ _).mono ?_; rintro e w' ⟨rfl, rfl⟩)
      go_round
      case rel => exact ⟨j + 1, by omega, by go_num, fun q hq => lt_succ_cases HV.out h1 q hq⟩
      case measure => simp [intOf]; omega
    · have h1' : decide (1 < gi xs j) = true := by simp; omega
      have hf := Lib.hid (validB_f (by rw [h.len]; exact hlt) (by omega : 1 < gi xs j))
      go_wp2_with (go_at_call 202; refine (inv1_any _ _).mono ?_; rintro e w' ⟨rfl, rfl⟩)
      go_ret
      exact ⟨_, rfl, by rw [hf.out]; simp, rfl⟩
  · have hf := Lib.hid (validB_t (xs := xs) (by rw [h.len]; intro q hq; exact hv q (by omega)))
    go_wp2
    go_ret
    exact ⟨_, rfl, by rw [hf.out]; simp, rfl⟩
theorem contains_any (A : Option Addr) (n c : Nat) (xs : List Int) (w : World) (h : Rd .u8 w A n c xs) :
 Calls Tryz.prog 61 #[.slice A n c, .func (.func 202) #[] #[]] w fun e w' => e = .returned (.bool (!ValidB xs)) ∧ w = w' := by
 go_enter Tryz.func61, Tryz.ntmps61
 go_wp2_with (go_at_call 113; refine (idx_any A n c xs w h).mono ?_; rintro e w' ⟨r, rfl, hr, rfl⟩)
 go_ret
 refine ⟨ret_bool ?_, rfl⟩
 cases hv : ValidB xs <;> simp_all
abbrev St3 := Bool × Bool × Bool
def stp (s : St3) (x : Bool) : St3 := (x ^^ s.2.1 ^^ s.2.2, s.1, s.2.1)
def par (s : St3) (x : Bool) : Bool := x ^^ s.2.1 ^^ s.2.2 ^^ s.1 ^^ s.2.2
def parL (s : St3) : List Bool → List Bool
 | [] => []
 | x :: l => par s x :: parL (stp s x) l
def s0 : St3 := (false, false, false)
theorem parL_snoc (l : List Bool) (x : Bool) : ∀ s, parL s (l ++ [x]) = parL s l ++ [par (l.foldl stp s) x] := by
 induction l with
 | nil => intro s; rfl
 | cons y l ih => intro s; simp only [List.cons_append, parL, List.foldl_cons, ih]
theorem parL_len (l : List Bool) : ∀ s, (parL s l).length = l.length := by
 induction l with
 | nil => intro s; rfl
 | cons y l ih => intro s; simp [parL, ih]
def EncInv (w : World) (o : Nat) (bs : List Bool) (i : Value) (wr : World) : Prop :=
 ∃ (j : Nat) (A : Option Addr) (cp : Nat), j ≤ bs.length ∧ i = .int .i64 j ∧ EncSt w.heap.size wr o ((bs.take j).foldl stp s0).1 ((bs.take j).foldl stp s0).2.1 ((bs.take j).foldl stp s0).2.2 A j cp (parL s0 (bs.take j)) ∧ Below w.heap.size w wr
theorem gi_ib (bs : List Bool) (j : Nat) (h : j < bs.length) : gi (bs.map ib) j = ib bs[j] := by
 rw [gi_eq _ _ (by simpa using h)]; simp
theorem valid_ib (bs : List Bool) : ValidB (bs.map ib) = true := validB_t fun q hq => by
 rw [gi_ib _ _ (by simpa using hq)]; cases bs[q]'(by simpa using hq) <;> decide
theorem tencode_any (A : Option Addr) (n c : Nat) (bs : List Bool) (w : World) (h : Rd .u8 w A n c (bs.map ib)) (hn : n ≤ 100000) :
 Calls Tryz.prog 156 #[.slice A n c] w fun e w' => ∃ A' c', e = .returned (.tuple #[.slice A' n c', .int .i64 (stI (bs.foldl stp s0).1 (bs.foldl stp s0).2.1 (bs.foldl stp s0).2.2), .int .i64 0]) ∧ Own .u8 5 w' w.heap.size A' n c' ((parL s0 bs).map ib) ∧ Below w.heap.size w w' := by
 have hl : bs.length = n := by have := h.len; simpa using this
 have hbd := h.bd.1
 have hv := valid_ib bs
 go_enter Tryz.func156, Tryz.ntmps156
 go_wp2_with (go_at_call 61; refine (contains_any A n c _ w h).mono ?_; rintro e w' ⟨rfl, rfl⟩)
 have hob : Ownv 257 (w.alloc (.cells #[.int .i64 0, .int .i64 0, .int .i64 0, .slice none 0 0] 257)) w.heap.size (some ⟨w.heap.size, 0, none⟩) 4 4 [.int .i64 (ib false), .int .i64 (ib false), .int .i64 (ib false), .slice none 0 0] :=
  Ownv.lit w #[.int .i64 0, .int .i64 0, .int .i64 0, .slice none 0 0] 257 rfl (Nat.le_refl _) (by show 4 ≤ maxLen; unfold maxLen; omega)
 have hst : EncSt w.heap.size (w.alloc (.cells #[.int .i64 0, .int .i64 0, .int .i64 0, .slice none 0 0] 257)) w.heap.size false false false none 0 0 [] := ⟨hob, Own.nilv _ _ _ _, fun h => absurd rfl h, by simp⟩
 have hB0 : Below w.heap.size w (w.alloc (.cells #[.int .i64 0, .int .i64 0, .int .i64 0, .slice none 0 0] 257)) := (Below.refl _ w).alloc (Nat.le_refl _) _
 have HH := Lib.hid h
 have HL := Lib.hid hl
 clear hob h hl
 go_loopw [12] (fun i wr => EncInv w w.heap.size bs i wr) (fun i _ => n - (intOf i).toNat)
 case atStart => exact ⟨0, none, 0, Nat.zero_le _, rfl, hst, hB0⟩
 case round =>
  obtain ⟨j, A1, cp, hj, rfl, hst, hB⟩ := hrel
  rw [HL.out] at hj
  by_cases hlt : j < n
  · have hj' : j < bs.length := by rw [HL.out]; exact hlt
    have hx := Rdv.below HH.out hB
    have hix := fun W => Rdv.ix hx el26 hlt .i64 W
    have hcell := Rd.cell hx hlt
    rw [gi_ib _ _ hj'] at hcell
    have ht : bs.take (j + 1) = bs.take j ++ [bs[j]] := by rw [List.take_add_one, List.getElem?_eq_getElem hj']; rfl
    have e1 : (bs.take (j + 1)).foldl stp s0 = stp ((bs.take j).foldl stp s0) bs[j] := by rw [ht, List.foldl_append]; rfl
    have e2 : parL s0 (bs.take (j + 1)) = parL s0 (bs.take j) ++ [par ((bs.take j).foldl stp s0) bs[j]] := by rw [ht, parL_snoc]
    have E1 := Lib.hid e1; have E2 := Lib.hid e2
    have HST := Lib.hid hst
    have hb0 : 0 ≤ ib bs[j] := by cases bs[j] <;> decide
    have hb1 : ib bs[j] ≤ 1 := by cases bs[j] <;> decide
    clear ht e1 e2 hst
    generalize (bs.take j).foldl stp s0 = s at *
    generalize parL s0 (bs.take j) = ps at *
    generalize bs[j] = x at *
    go_wp2_with (go_at_call 203; refine (takes_any w.heap.size w.heap.size s.1 s.2.1 s.2.2 x A1 j cp ps _ HST.out (by omega)).mono ?_; rintro e w4 ⟨rfl, ⟨A2, cp2, hst2⟩, hB2⟩)
    refine ⟨⟨j + 1, A2, cp2, by omega, by go_num, ?_, hB.trans hB2⟩, by simp [intOf]; omega⟩
    rw [E1.out, E2.out]
    exact hst2
  · obtain rfl : j = n := by omega
    rw [← HL.out, List.take_length, HL.out] at hst
    have HST := Lib.hid hst
    obtain ⟨c0, c1, c2, c3, -, -, -, -⟩ := hst.facts
    clear hst
    generalize hs : bs.foldl stp s0 = s at *
    have HS := Lib.hid hs
    clear hs
    have hs60 := fun W => Lib.hid (state_any s.1 s.2.1 s.2.2 W)
    unfold regV at hs60
    go_wp2
    go_region_held3 (fun W => W.cell? ⟨w.heap.size, 0, none⟩ = some (.int .i64 (ib s.1)) ∧ W.cell? ⟨w.heap.size, 1, none⟩ = some (.int .i64 (ib s.2.1)) ∧ W.cell? ⟨w.heap.size, 2, none⟩ = some (.int .i64 (ib s.2.2)) ∧ W.cell? ⟨w.heap.size, 3, none⟩ = some (.slice A1 j cp)) (first | exact ⟨c0, c1, c2, c3⟩ | exact ⟨m0, m1, m2, m3⟩)
     (first
       | (go_at_call 204; refine (hs60 _).out.mono ?_; rintro e w5 ⟨rfl, hB5⟩; obtain ⟨m0, m1, m2, m3, -, -, -, -⟩ := (HST.out.below ((Below.refl _ _).drew.trans hB5)).facts))
    go_wp2
    go_ret3
    rw [HS.out]
    have hq := (Below.refl wr.heap.size wr).drew.trans hB5
    exact ⟨A1, cp, rfl, (HST.out.below hq).row, hB.trans (hq.mono hB.size)⟩
theorem tencode_bad (A : Option Addr) (n c : Nat) (xs : List Int) (w : World) (h : Rd .u8 w A n c xs) (hv : ValidB xs = false) :
 Calls Tryz.prog 156 #[.slice A n c] w fun e w' => e = .returned (.tuple #[.slice none 0 0, .int .i64 0, .int .i64 3]) ∧ w = w' := by
 go_enter Tryz.func156, Tryz.ntmps156
 go_wp2_with (go_at_call 61; refine (contains_any A n c _ w h).mono ?_; rintro e w' ⟨rfl, rfl⟩)
 go_ret3
 exact ⟨rfl, rfl⟩
def tlS (a b c : Bool) (j : Nat) : St3 := if j = 0 then (a, b, c) else if j = 1 then (false, a, b) else if j = 2 then (false, false, a) else (false, false, false)
def tlU (a b c : Bool) (j : Nat) : Bool := if j = 0 then (b ^^ c) else if j = 1 then (a ^^ b) else a
def tlZ (a b c : Bool) (j : Nat) : Bool := if j = 0 then (a ^^ c) else if j = 1 then b else a
theorem tl_step (a b c : Bool) (j : Nat) (h : j < 3) : stp (tlS a b c j) (tlU a b c j) = tlS a b c (j + 1) ∧ par (tlS a b c j) (tlU a b c j) = tlZ a b c j ∧ ((tlS a b c j).2.1 ^^ (tlS a b c j).2.2) = tlU a b c j := by
 rcases (by omega : j = 0 ∨ j = 1 ∨ j = 2) with rfl | rfl | rfl <;> cases a <;> cases b <;> cases c <;> decide
def tu (s : St3) (j : Nat) : Bool := tlU s.1 s.2.1 s.2.2 j
def tz (s : St3) (j : Nat) : Bool := tlZ s.1 s.2.1 s.2.2 j
def fin (bs : List Bool) : St3 := bs.foldl stp s0
def xorL (x y : List Bool) : List Bool := List.zipWith xor x y
def wt (l : List Bool) : Nat := l.count true
def w1 (b : Bool) : Nat := if b then 1 else 0
def wordB (x m : List Bool) : List Bool :=
 x ++ [tu (fin x) 0, tz (fin x) 1, tu (fin m) 0, tz (fin m) 1] ++ (parL s0 x ++ [tz (fin x) 0, tu (fin x) 2, tz (fin m) 0, tu (fin m) 2]) ++ (parL s0 m ++ [tu (fin x) 1, tz (fin x) 2, tu (fin m) 1, tz (fin m) 2])
theorem wordB_len (x m : List Bool) (h : m.length = x.length) : (wordB x m).length = 3 * (x.length + 4) := by
 simp only [wordB, List.length_append, parL_len, List.length_cons, List.length_nil, h]; omega
def dst (x y : List Bool) : Nat := wt (xorL x y)
end Go.Proofs.YtkdfefpnhaebfaaGreat
