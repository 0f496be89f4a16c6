/-
  Bundle of the texts Ci. Conditions: none.
-/
import Derived.Test.YtpdalbckmfadbaaGreatBuhaf
import Derived.Test.YtpdalbckmfadbaaGreatBuhaj
namespace Go.Proofs.YtpdalbckmfadbaaGreat
open Go.RowKit
set_option linter.unusedVariables false
def Ob.eT (o : Ob) (i : Nat) : Int := ext (o.tot i - gi o.s i - gi o.a i)
def Ob.bT (o : Ob) (i : Nat) : Int := if o.tot i < 0 then 1 else 0
def vF (o : Ob) (i bit k : Nat) : Int := (brT.take k).foldl (o.vB i bit (o.f i) (o.b (i + 1))) UU
theorem vF_succ (o : Ob) (i bit k : Nat) (hk : k < 16) : vF o i bit (k + 1) = o.vB i bit (o.f i) (o.b (i + 1)) (vF o i bit k) (brN k) := by
  unfold vF; rw [br_take k hk, List.foldl_append]; rfl
theorem vF_tot (o : Ob) (i : Nat) : o.tot i = (vF o i 0 16 - vF o i 1 16).tdiv 2 := rfl
theorem vF_bd {o : Ob} (h : o.ok) (i bit : Nat) (hi : i < o.s.length) : ∀ k, k ≤ 16 → -1125899906842624 ≤ vF o i bit k ∧ vF o i bit k ≤ 10000000
  | 0, _ => by show -1125899906842624 ≤ UU ∧ UU ≤ 10000000; rw [UU_eq]; omega
  | k + 1, hk => by
    have ih := vF_bd h i bit hi k (by omega)
    rw [vF_succ o i bit k (by omega)]
    unfold Ob.vB
    split
    · rename_i hc
      have hmem := brN_mem k (by omega)
      obtain ⟨b1, -, -, b4⟩ := br_bd _ hmem
      have ht := o.term_bd h i hi _ hmem
      have h1 := h.2.1
      have h2 := h.2.2.1
      have f1 := (f_met h i (by omega)).bd _ b1
      have f2 := (bd_met h (o.s.length - (i + 1)) (by omega)).bd _ b4
      have hc1 := hc.2.1
      have hc2 := hc.2.2
      have e2 : gi (o.b (i + 1)) (brN k).tt = gi (o.bd (o.s.length - (i + 1))) (brN k).tt := rfl
      rw [UU_eq] at *
      omega
    · exact ih
def rowT (o : Ob) (i : Nat) (A : Option Addr) (c : Nat) : RowD := ⟨.i64, 3, A, i, c, (List.range i).map o.tot⟩
def rowE (o : Ob) (i : Nat) (A : Option Addr) (c : Nat) : RowD := ⟨.i64, 3, A, i, c, (List.range i).map o.eT⟩
def rowB (o : Ob) (i : Nat) (A : Option Addr) (c : Nat) : RowD := ⟨.u8, 5, A, i, c, (List.range i).map o.bT⟩
/-- what holds all through -/
structure Rq (w : World) (bf bg N bA cap b6 b12 B0 : Nat) (o : Ob) (W : World) (vs : List Value) (r1 r2 r3 : RowD) : Prop where
  sw : Sw w bf bg N bA cap W o.f o.b
  d6 : Blk W b6 104 zero28
  d12 : Blk W b12 104 vs
  tt : TT B0 W r1 r2 r3
  sz : B0 ≤ W.heap.size
structure RqS (w : World) (bf bg bA b6 b12 B0 : Nat) : Prop where
  hf : bf < B0
  hg : bg < B0
  hA : bA < B0
  h6 : b6 < b12
  h12 : b12 < B0
  hw6 : w.heap.size ≤ b6
  hfge : w.heap.size ≤ bf
section
variable {w W W' : World} {bf bg N bA cap b6 b12 B0 : Nat} {o : Ob} {vs vs' : List Value} {r1 r2 r3 q1 q2 q3 : RowD}
theorem Rq.call (h : Rq w bf bg N bA cap b6 b12 B0 o W vs r1 r2 r3) (hB : Below W.heap.size W W') : Rq w bf bg N bA cap b6 b12 B0 o W' vs r1 r2 r3 := ⟨h.sw.call hB, h.d6.below hB, h.d12.below hB, h.tt.below hB, Nat.le_trans h.sz hB.size⟩
theorem Rq.grow (h : Rq w bf bg N bA cap b6 b12 B0 o W vs r1 r2 r3) (hs : RqS w bf bg bA b6 b12 B0) {row : Option Nat} (hg : W.grownBy W' row) (hr : ∀ g, row = some g → B0 ≤ g) (ht : TT B0 W' q1 q2 q3) : Rq w bf bg N bA cap b6 b12 B0 o W' vs q1 q2 q3 := by
  have a1 := hs.h12
  have a2 := hs.h6
  have a3 := hs.hw6
  exact ⟨h.sw.grownR hg hr hs.hf hs.hg hs.hA (by omega), h.d6.grownR hg hr (by omega), h.d12.grownR hg hr hs.h12, ht, Nat.le_trans h.sz hg.size⟩
theorem TT.grownN {base : Nat} (h : TT base W r1 r2 r3) {g : Nat} (hg : W.grownBy W' (some g)) (h1 : r1.A ≠ none → blk r1.A ≠ g) (h2 : r2.A ≠ none → blk r2.A ≠ g) (h3 : r3.A ≠ none → blk r3.A ≠ g) : TT base W' r1 r2 r3 :=
  ⟨Ownv.grown h.o1 hg (fun hA => by simpa using h1 hA), Ownv.grown h.o2 hg (fun hA => by simpa using h2 hA), Ownv.grown h.o3 hg (fun hA => by simpa using h3 hA), h.a12, h.a13, h.a23⟩
/-- a store into the result's own cell -/
theorem Rq.put12 (h : Rq w bf bg N bA cap b6 b12 B0 o W vs r1 r2 r3) (hs : RqS w bf bg bA b6 b12 B0) (hne : bf ≠ b12 ∧ bg ≠ b12 ∧ bA ≠ b12) (j : Nat) (v : Value) : Rq w bf bg N bA cap b6 b12 B0 o (W.setCell ⟨b12, j, none⟩ v) (vs.set j v) r1 r2 r3 := by
  have hg := grownBy_set W b12 j v
  have a2 := hs.h6
  have a3 := hs.hw6
  refine ⟨⟨⟨(h.sw.f.blk.other (Ne.symm hne.1) j v), h.sw.f.l8⟩, ⟨(h.sw.g.blk.other (Ne.symm hne.2.1) j v), h.sw.g.l8⟩, h.sw.r.grown hg (fun _ => by simp [blk]; exact hne.2.2), h.sw.bl.setCell (by show _ ≤ b12; omega) _⟩, h.d6.other (by omega) j v, h.d12.set j v, h.tt.grown hg hs.h12, Nat.le_trans h.sz hg.size⟩
end
theorem info56 : (Tryz.prog.info? 83).map (·.size) = some 2 := by kernel_rfl
theorem map_range_succ (g : Nat → Int) (i : Nat) : (List.range (i + 1)).map g = (List.range i).map g ++ [g i] := by simp [List.range_succ]
def vP (o : Ob) (i k : Nat) : List Int := [vF o i 0 k, vF o i 1 k]
theorem vP_gi (o : Ob) (i k bit : Nat) (h : bit < 2) : gi (vP o i k) bit = vF o i bit k := by
  rcases (by omega : bit = 0 ∨ bit = 1) with rfl | rfl <;> rfl
theorem vP_set (o : Ob) (i k : Nat) (hk : k < 16) (h1 : UU < gi (o.f i) (brN k).fr) (h2 : UU < gi (o.b (i + 1)) (brN k).tt) :
    (vP o i k).set (brN k).bt (max (gi (vP o i k) (brN k).bt) (gi (o.f i) (brN k).fr + o.term i (brN k) + gi (o.b (i + 1)) (brN k).tt)) = vP o i (k + 1) := by
  have hb := (br_bd _ (brN_mem k hk)).2.1
  unfold vP
  rw [vF_succ o i 0 k hk, vF_succ o i 1 k hk]
  unfold Ob.vB
  rcases (by omega : (brN k).bt = 0 ∨ (brN k).bt = 1) with e | e
  · rw [if_pos ⟨e, h1, h2⟩, if_neg (by rw [e]; simp), e]; rfl
  · rw [if_neg (by rw [e]; simp), if_pos ⟨e, h1, h2⟩, e]; rfl
theorem vP_same (o : Ob) (i k : Nat) (hk : k < 16) (h : ¬ (UU < gi (o.f i) (brN k).fr ∧ UU < gi (o.b (i + 1)) (brN k).tt)) : vP o i (k + 1) = vP o i k := by
  unfold vP
  rw [vF_succ o i 0 k hk, vF_succ o i 1 k hk]
  unfold Ob.vB
  rw [if_neg (fun c => h c.2), if_neg (fun c => h c.2)]
theorem rowT_succ (o : Ob) (i : Nat) (A : Option Addr) (c g c' : Nat) (v : Int) (hv : v = o.tot i) : ({ rowT o i A c with A := some ⟨g, 0, none⟩, n := i + 1, c := c', xs := (rowT o i A c).xs ++ [v] } : RowD) = rowT o (i + 1) (some ⟨g, 0, none⟩) c' := by
  subst hv; unfold rowT; rw [map_range_succ]
theorem rowE_succ (o : Ob) (i : Nat) (A : Option Addr) (c g c' : Nat) (v : Int) (hv : v = o.eT i) : ({ rowE o i A c with A := some ⟨g, 0, none⟩, n := i + 1, c := c', xs := (rowE o i A c).xs ++ [v] } : RowD) = rowE o (i + 1) (some ⟨g, 0, none⟩) c' := by
  subst hv; unfold rowE; rw [map_range_succ]
theorem rowB_succ (o : Ob) (i : Nat) (A : Option Addr) (c g c' : Nat) (v : Int) (hv : v = o.bT i) : ({ rowB o i A c with A := some ⟨g, 0, none⟩, n := i + 1, c := c', xs := (rowB o i A c).xs ++ [v] } : RowD) = rowB o (i + 1) (some ⟨g, 0, none⟩) c' := by
  subst hv; unfold rowB; rw [map_range_succ]
section
variable {W : World} {B0 i gx : Nat} {v : Int} {A : Option Addr} {c : Nat} {r2 r3 : RowD} {op : Oper} {ts : Array Value} {ds : List Deferred} {K : Act → World → Prop} {Q : Exit → Act → World → Prop} {o : Ob}
theorem wp_apT (d : Nat) (s x : Operand) (ho : op.op = .call { callee := .builtin .append, args := #[s, x], argTypes := #[34, 34] }) (hd : op.dst = some d) (hs : (⟨ts, ds⟩ : Act).eval s = .slice A i c) (hx : (⟨ts, ds⟩ : Act).eval x = .slice (some ⟨gx, 0, none⟩) 1 1)
    (T : TT B0 W (rowT o i A c) r2 r3) (hX : W.heap[gx]? = some (.cells #[.int .i64 v] 3 (0, 0))) (hn : i ≤ 10000) (hb : B0 ≤ W.heap.size) (hv : v = o.tot i)
    (h : ∀ g c' w', TT B0 w' (rowT o (i + 1) (some ⟨g, 0, none⟩) c') r2 r3 → W.grownBy w' (rowT o i A c).val.ownBlock → K ⟨ts.setIfInBounds d (.slice (some ⟨g, 0, none⟩) (i + 1) c'), ds⟩ w') : op.wp Tryz.prog ⟨ts, ds⟩ W K Q :=
  wp_appT (r1 := rowT o i A c) s x 34 ho el22 hs hx T hX (by show (i + 1) * 8 ≤ _; omega) (by show i + 1 ≤ _; unfold maxLen; omega) hb fun g c' w' h1 h2 => by
    rw [hd]; exact h g c' w' (by rw [← rowT_succ o i A c g c' v hv]; exact h1) h2
theorem wp_apE (d : Nat) (s x : Operand) (ho : op.op = .call { callee := .builtin .append, args := #[s, x], argTypes := #[34, 34] }) (hd : op.dst = some d) (hs : (⟨ts, ds⟩ : Act).eval s = .slice A i c) (hx : (⟨ts, ds⟩ : Act).eval x = .slice (some ⟨gx, 0, none⟩) 1 1)
    (T : TT B0 W (rowE o i A c) r2 r3) (hX : W.heap[gx]? = some (.cells #[.int .i64 v] 3 (0, 0))) (hn : i ≤ 10000) (hb : B0 ≤ W.heap.size) (hv : v = o.eT i)
    (h : ∀ g c' w', TT B0 w' (rowE o (i + 1) (some ⟨g, 0, none⟩) c') r2 r3 → W.grownBy w' (rowE o i A c).val.ownBlock → K ⟨ts.setIfInBounds d (.slice (some ⟨g, 0, none⟩) (i + 1) c'), ds⟩ w') : op.wp Tryz.prog ⟨ts, ds⟩ W K Q :=
  wp_appT (r1 := rowE o i A c) s x 34 ho el22 hs hx T hX (by show (i + 1) * 8 ≤ _; omega) (by show i + 1 ≤ _; unfold maxLen; omega) hb fun g c' w' h1 h2 => by
    rw [hd]; exact h g c' w' (by rw [← rowE_succ o i A c g c' v hv]; exact h1) h2
theorem wp_apB (d : Nat) (s x : Operand) (ho : op.op = .call { callee := .builtin .append, args := #[s, x], argTypes := #[22, 22] }) (hd : op.dst = some d) (hs : (⟨ts, ds⟩ : Act).eval s = .slice A i c) (hx : (⟨ts, ds⟩ : Act).eval x = .slice (some ⟨gx, 0, none⟩) 1 1)
    (T : TT B0 W (rowB o i A c) r2 r3) (hX : W.heap[gx]? = some (.cells #[.int .u8 v] 5 (0, 0))) (hn : i ≤ 10000) (hb : B0 ≤ W.heap.size) (hv : v = o.bT i)
    (h : ∀ g c' w', TT B0 w' (rowB o (i + 1) (some ⟨g, 0, none⟩) c') r2 r3 → W.grownBy w' (rowB o i A c).val.ownBlock → K ⟨ts.setIfInBounds d (.slice (some ⟨g, 0, none⟩) (i + 1) c'), ds⟩ w') : op.wp Tryz.prog ⟨ts, ds⟩ W K Q :=
  wp_appT (r1 := rowB o i A c) s x 22 ho el26 hs hx T hX (by show (i + 1) * 1 ≤ _; omega) (by show i + 1 ≤ _; unfold maxLen; omega) hb fun g c' w' h1 h2 => by
    rw [hd]; exact h g c' w' (by rw [← rowB_succ o i A c g c' v hv]; exact h1) h2
/-- a literal that waits stays, when a row that was there before it grows -/
theorem lit_keep {w' : World} {r : RowD} {base : Nat} {x : Obj} (hX : W.heap[gx]? = some x) (hr : r.own W base) (hlt : r.A ≠ none → blk r.A ≠ gx) (hg : W.grownBy w' r.val.ownBlock) : w'.heap[gx]? = some x :=
  (hg.block gx (heap_lt' hX) (fun e => by
    obtain ⟨h1, h2⟩ := own_blk gx e.symm
    exact hlt h1 h2)).trans hX
end
theorem results13 {W : World} {b : Nat} {cs : List Value} {a : Array Value} {E : Int} (h : Blk W b 104 cs) (hl : cs.length = 3) (h2 : a.getD 6 undef = .pointer (some ⟨b, 0, none⟩)) (h3 : a.getD 7 undef = .int .i64 E) :
    (results Tryz.f56 a).run Tryz.prog W = .ok (.tuple #[.agg cs.toArray, .int .i64 E]) W := by
  rw [results_cell_tmp rfl, h2, h3]
  simp [asAddr, res28 h hl, Sem.run_pure]
def RDecOk (o : Ob) (w : World) (e : Ending) (w' : World) : Prop := ∃ (A1 A2 A3 : Option Addr) (c1 c2 c3 : Nat), e = .returned (.tuple #[.agg #[.slice A1 o.a.length c1, .slice A2 o.a.length c2, .slice A3 o.a.length c3], .int .i64 0]) ∧
  Own .i64 3 w' w.heap.size A1 o.a.length c1 ((List.range o.a.length).map o.tot) ∧ Own .i64 3 w' w.heap.size A2 o.a.length c2 ((List.range o.a.length).map o.eT) ∧ Own .u8 5 w' w.heap.size A3 o.a.length c3 ((List.range o.a.length).map o.bT) ∧ Below w.heap.size w w'
set_option maxRecDepth 100000 in
set_option maxHeartbeats 6000000 in
theorem rdecode_ok (S P A : Option Addr) (cs cp ca : Nat) (o : Ob) (w : World) (h : In3 w o S P A cs cp ca) (ho : o.ok) :
    Calls Tryz.prog 56 #[.slice S o.s.length cs, .slice P o.p.length cp, .slice A o.a.length ca] w (RDecOk o w) := by
  have hb : Blk (w.alloc (.cells #[.slice none 0 0, .slice none 0 0, .slice none 0 0] 104)) w.heap.size 104 zero28 := Blk.new w zero28 104 rfl
  have H := Lib.hid (h.alloc (.cells #[.slice none 0 0, .slice none 0 0, .slice none 0 0] 104))
  have HO := Lib.hid ho
  have HIN := Lib.hid h
  have HL := Lib.hid (show o.s.length = o.a.length + 3 ∧ o.a.length ≤ 6144 ∧ o.p.length = o.s.length from ⟨ho.2.2.1, ho.2.1, by rw [ho.2.2.1]; exact ho.2.2.2.1⟩)
  have hn : o.s.length ≤ 6147 := by have := HL.out; omega
  have hn2 : o.a.length ≤ 6144 := HL.out.2.1
  have hn3 : o.a.length + 3 ≤ o.s.length := by have := HL.out; omega
  have HE := Lib.hid (Ob.err_ok ho)
  clear h ho
  go_enter Tryz.func56, Tryz.ntmps56
  go_wp2_with fail
  refine (wrong_any S P A cs cp ca o _ H.out).mono ?_
  rintro e w1 ⟨rfl, hB1⟩
  rw [HE.out]
  have HB1 := Lib.hid hB1
  have HIN1 := Lib.hid (H.out.below hB1)
  have HD1 := Lib.hid (hb.below hB1)
  clear hb hB1
  go_wp2_with fail
  refine (sweeps_any S P A cs cp ca o _ HIN1.out HO.out).mono ?_
  rintro e w2 ⟨bf, bg, rfl, hf, hg, hgf, hgg, hB2⟩
  have HF2 := Lib.hid hf
  have HG2 := Lib.hid hg
  have HB2 := Lib.hid hB2
  have HGF := Lib.hid hgf
  have HGG := Lib.hid hgg
  clear hf hg hgf hgg hB2
  go_wp2_with fail
  refine (rbranches_any _).mono ?_
  rintro e w3 ⟨A0, cap, rfl, hR, hB3⟩
  obtain ⟨bA, rfl⟩ : ∃ b, A0 = some ⟨b, 0, none⟩ := ⟨_, hR.ptr (by rw [brR_len 16 (by omega)]; omega)⟩
  have h12 : Blk (w3.alloc (.cells #[.slice none 0 0, .slice none 0 0, .slice none 0 0] 104)) w3.heap.size 104 zero28 := Blk.new w3 zero28 104 rfl
  have z1 := HB1.out.size
  have z2 := HB2.out.size
  have z3 := hB3.size
  simp at z1
  have zf := HF2.out.blk.lt
  have zg := HG2.out.blk.lt
  have zA : bA < w3.heap.size := (hR.ge (by simp)).2
  have zA2 : w2.heap.size ≤ bA := (hR.ge (by simp)).1
  have gf := HGF.out
  have gg := HGG.out
  have HRS : Hid (RqS w bf bg bA w.heap.size w3.heap.size (w3.heap.size + 1)) := Lib.hid ⟨by omega, by omega, by omega, by omega, by omega, Nat.le_refl _, by omega⟩
  have HNE : Hid (bf ≠ w3.heap.size ∧ bg ≠ w3.heap.size ∧ bA ≠ w3.heap.size) := Lib.hid ⟨by omega, by omega, by omega⟩
  have hbl : Below w.heap.size w w3 := (((Below.refl _ w).alloc (Nat.le_refl _) _).trans (HB1.out.mono (by simp))).trans ((HB2.out.trans (hB3.mono z2)).mono (by omega))
  have hr3 : Rw 161 4 w3 w.heap.size (some ⟨bA, 0, none⟩) cap (brR 16) := ⟨⟨hR.ow.1, by
    rcases hR.ow.2 with ⟨h1, h2⟩ | ⟨g, cap', cur, h1, h2, h3, h4, h5, h6, h7⟩
    · simp at h1
    · exact .inr ⟨g, cap', cur, h1, by omega, h3, h4, h5, h6, h7⟩⟩, hR.l⟩
  have hrq : Rq w bf bg (o.s.length + 1) bA cap w.heap.size w3.heap.size (w3.heap.size + 1) o (w3.alloc (.cells #[.slice none 0 0, .slice none 0 0, .slice none 0 0] 104)) [(rowT o 0 none 0).val, (rowE o 0 none 0).val, (rowB o 0 none 0).val] (rowT o 0 none 0) (rowE o 0 none 0) (rowB o 0 none 0) := by
    refine ⟨?_, (((HD1.out.below HB2.out).below hB3).alloc _), h12, ⟨Own.nilv _ _ _ _, Own.nilv _ _ _ _, Own.nilv _ _ _ _, fun h => absurd rfl h, fun h => absurd rfl h, fun h => absurd rfl h⟩, by simp⟩
    exact Sw.call ⟨HF2.out.below hB3, HG2.out.below hB3, hr3, hbl⟩ ((Below.refl _ w3).alloc (Nat.le_refl _) _)
  have HRQ := Lib.hid hrq
  have HB2w : Hid (w.heap.size ≤ w3.heap.size) := Lib.hid (by omega)
  clear z1 z2 z3 zf zg zA zA2 gf gg hbl hr3 hrq h12 hR hB3
  have hbl16 := Lib.hid (brR_len 16 (by omega))
  go_wp2_with fail
  generalize w3.heap.size + 1 = B0 at *
  generalize hb12 : w3.heap.size = b12 at *
  generalize w3.alloc (.cells #[.slice none 0 0, .slice none 0 0, .slice none 0 0] 104) = w4 at *
  clear hb12
  go_loopw [13] (fun v wr => ∃ (i : Nat) (A1 A2 A3 : Option Addr) (c1 c2 c3 : Nat), i ≤ o.a.length ∧ v = .int .i64 i ∧ Rq w bf bg (o.s.length + 1) bA cap w.heap.size b12 B0 o wr [(rowT o i A1 c1).val, (rowE o i A2 c2).val, (rowB o i A3 c3).val] (rowT o i A1 c1) (rowE o i A2 c2) (rowB o i A3 c3)) (fun v _ => o.a.length - (intOf v).toNat)
  case atStart => exact ⟨0, none, none, none, 0, 0, 0, by omega, rfl, HRQ.out⟩
  case round =>
    obtain ⟨i, A1, A2, A3, c1, c2, c3, hi, rfl, hw⟩ := hrel
    by_cases hlt : i < o.a.length
    · have his : i < o.s.length := by omega
      obtain ⟨wo, rfl⟩ : ∃ wo : World, wo = wr := ⟨_, rfl⟩
      have hd : decide ((i : Int) < (o.a.length : Int)) = true := by simp; omega
      have hb14 : Blk (wo.alloc (.cells #[.int .i64 0, .int .i64 0] 83)) wo.heap.size 83 [.int .i64 0, .int .i64 0] := Blk.new wo [.int .i64 0, .int .i64 0] 83 rfl
      have HW := Lib.hid hw
      clear hw
      go_wp2_with (refine strow (cs := ints8 (vP o i 0)) rfl 83 (.tmp 14) (.tmp 41) rfl rfl rfl hb14 rfl (by rw [info56]; rfl) (ints8_one _) ?_; intro W5 h1 h2; have H51 := Lib.hid h1; have H52 := Lib.hid h2; clear h1 h2 hb14)
      have hlit1 := HW.out.tt.o1
      have HT1 : Hid ((rowT o i A1 c1).A ≠ none → blk (rowT o i A1 c1).A < wo.heap.size) := Lib.hid (own_lt3 HW.out.tt.o1)
      have HT2 : Hid ((rowE o i A2 c2).A ≠ none → blk (rowE o i A2 c2).A < wo.heap.size) := Lib.hid (own_lt3 HW.out.tt.o2)
      have HT3 : Hid ((rowB o i A3 c3).A ≠ none → blk (rowB o i A3 c3).A < wo.heap.size) := Lib.hid (own_lt3 HW.out.tt.o3)
      have hB5 : Below wo.heap.size wo W5 := ((Below.refl _ wo).alloc (Nat.le_refl _) _).grown H52.out (by simp) (fun k hk => by cases hk; exact Nat.le_refl _)
      have HW5 := Lib.hid (HW.out.call hB5)
      have HSZ : Hid (B0 ≤ wo.heap.size) := Lib.hid HW.out.sz
      clear hlit1 hB5 HW H52
      generalize wo.heap.size = b14 at *
      have HFM := Lib.hid (f_met HO.out i (by omega))
      have HBM := Lib.hid ((bd_met HO.out (o.s.length - (i + 1)) (by omega)).mono (C := 381 * (o.s.length : Int)) (by omega))
      go_wp2_with fail
      go_loopw [15] (fun v wr => ∃ k : Nat, k ≤ 16 ∧ v = .int .i64 k ∧ Rq w bf bg (o.s.length + 1) bA cap w.heap.size b12 B0 o wr [(rowT o i A1 c1).val, (rowE o i A2 c2).val, (rowB o i A3 c3).val] (rowT o i A1 c1) (rowE o i A2 c2) (rowB o i A3 c3) ∧ Blk wr b14 83 (ints8 (vP o i k))) (fun v _ => 16 - (intOf v).toNat)
      case atStart => exact ⟨0, by omega, rfl, HW5.out, H51.out⟩
      case round =>
        obtain ⟨k, hk, rfl, hw, hb⟩ := hrel
        by_cases hk16 : k < 16
        · have hix := fun W => ixR er77 bA 16 cap hk16 .i64 W
          have hcl : wr.rangeAt bA (4 * k) (brV (brN k)) := hw.sw.r.row (j := k) (brR_get k hk16)
          have hmem := brN_mem k hk16
          have HSET := Lib.hid (vP_set o i k hk16)
          have HSAME := Lib.hid (vP_same o i k hk16)
          have HVB := Lib.hid (fun (bit : Nat) (hb : bit < 2) => (show -1125899906842624 ≤ gi (vP o i k) bit ∧ gi (vP o i k) bit ≤ 10000000 from by rw [vP_gi o i k bit hb]; exact vF_bd HO.out i bit his k hk))
          have hb9 : Blk (wr.alloc (.cells (zer 4).toArray 161)) wr.heap.size 161 (zer 4) := Blk.new wr _ 161 rfl
          have HVL : Hid ((vP o i k).length = 2) := Lib.hid rfl
          generalize brN k = b at *
          generalize vP o i k = vp at *
          have HW6 := Lib.hid hw
          have HB6 := Lib.hid hb
          clear hw hb
          go_wp2_with (first
            | (refine wpList_load_mid rfl 161 (.tmp 50) rfl bA (4 * k) rfl (brV b) _ hcl Tryz.underlying161 rfl (by rw [info77]; rfl) ?_)
            | (refine strow rfl 161 (.tmp 16) (.tmp 51) rfl rfl rfl hb9 rfl (by rw [info77]; rfl) (ints8_one _) ?_; intro W7 h1 h2; have H71 := Lib.hid h1; have H72 := Lib.hid h2; clear h1 h2 hb9 hcl))
          clear hix
          have hB7 : Below wr.heap.size wr W7 := ((Below.refl _ wr).alloc (Nat.le_refl _) _).grown H72.out (by simp) (fun k hk => by cases hk; exact Nat.le_refl _)
          have HW7 := Lib.hid (HW6.out.call hB7)
          have HB7 := Lib.hid (HB6.out.below hB7)
          clear hB7 HW6 HB6 H72
          generalize wr.heap.size = bx at *
          obtain ⟨b1, b2, b3, b4⟩ := br_bd b hmem
          have s0 := H71.out.cell (j := 0) (v := .int .i64 (b.fr : Int)) rfl
          have s3 := H71.out.cell (j := 3) (v := .int .i64 (b.tt : Int)) rfl
          have s4 := HW7.out.sw.f.cell (i := i) (k := b.fr) (by omega) b1
          have s5 := HW7.out.sw.g.cell (i := i + 1) (k := b.tt) (by omega) b4
          have hix4 := fun W => ix72 bf (o.s.length + 1) (j := i) (by omega) i rfl W
          have hix5 := fun W => ix72 bg (o.s.length + 1) (j := i + 1) (by omega) ((i : Int) + 1) (by omega) W
          have v0 : IntKind.i64.wrap ((i : Int) + 1) = (i : Int) + 1 := IntWalk.i64_in _ (by omega)
          have hb1i : (b.fr : Int) < 8 := by omega
          have hb4i : (b.tt : Int) < 8 := by omega
          have hb1n : (0 : Int) ≤ (b.fr : Int) := by omega
          have hb4n : (0 : Int) ≤ (b.tt : Int) := by omega
          have HMX := Lib.hid (HFM.out.bd b.fr b1)
          have HMY := Lib.hid (show gi (o.b (i + 1)) b.tt = UU ∨ (-(381 * (o.s.length : Int)) ≤ gi (o.b (i + 1)) b.tt ∧ gi (o.b (i + 1)) b.tt ≤ 381 * (o.s.length : Int)) from HBM.out.bd b.tt b4)
          generalize hfx : gi (o.f i) b.fr = fx at *
          generalize hgx : gi (o.b (i + 1)) b.tt = gx at *
          have HFX := Lib.hid hfx
          have HGX := Lib.hid hgx
          clear hfx hgx
          by_cases hu : -1125899906842624 < fx
          · have hd1 : decide (-1125899906842624 < fx) = true := by simpa using hu
            by_cases hv : -1125899906842624 < gx
            · have hd2 : decide (-1125899906842624 < gx) = true := by simpa using hv
              have HYES := Lib.hid (HSET.out (by rw [UU_eq]; exact hu) (by rw [UU_eq]; exact hv))
              go_wp2_with fail
              go_quiet (fail)
              clear s0 s3 s4 s5
              go_wp2_with fail
              have HWD := Lib.hid (HW7.out.call (((Below.refl _ W7).trans (Qt.below ⟨nq, rfl⟩ _)).drew))
              have HBD := Lib.hid (HB7.out.below (((Below.refl _ W7).trans (Qt.below ⟨nq, rfl⟩ _)).drew))
              have HXD := Lib.hid (H71.out.below (((Below.refl _ W7).trans (Qt.below ⟨nq, rfl⟩ _)).drew))
              have hpl : i < o.p.length := by have := HL.out.2.2; omega
              have HID := Lib.hid (HIN.out.below HWD.out.sw.bl)
              have hxb := o.x_bd HO.out i his
              have hpb := o.p_bd HO.out i his
              have hixP := fun W => Rdv.ix HIN.out.p el22 hpl .i64 W
              have hvb := HVB.out b.bt b2
              have hm1 : -(381 * 6150) ≤ fx ∧ fx ≤ 381 * 6150 := by
                have := HMX.out.resolve_left (by rw [UU_eq]; omega)
                omega
              have hm2 : -(381 * 6150) ≤ gx ∧ gx ≤ 381 * 6150 := by
                have := HMY.out.resolve_left (by rw [UU_eq]; omega)
                omega
              have HINP := Lib.hid (fun W (h : In3 W o S P A cs cp ca) => input_any S A cs ca o i W h.s h.a HO.out his)
              have q1 := sgn_bd (o.x i) 254 b.bt b2 hxb
              have q2 := sgn_bd (gi o.p i) 127 b.pr b3 hpb
              have HTM : Hid (fx + o.x i * (1 - 2 * (b.bt : Int)) + gi o.p i * (1 - 2 * (b.pr : Int)) + gx = fx + o.term i b + gx) := Lib.hid (by unfold Ob.term; omega)
              generalize hpve : gi o.p i = pv at *
              have HPV := Lib.hid hpve
              clear hpve
              generalize o.x i = xv at *
              generalize hvbe : gi vp b.bt = vb at *
              have HVBE := Lib.hid hvbe
              clear hvbe
              have v1 : IntKind.i64.wrap (xv * (1 - 2 * (b.bt : Int))) = xv * (1 - 2 * (b.bt : Int)) := IntWalk.i64_in _ (by omega)
              have v2 : IntKind.i64.wrap (fx + xv * (1 - 2 * (b.bt : Int))) = fx + xv * (1 - 2 * (b.bt : Int)) := IntWalk.i64_in _ (by omega)
              have v3 : IntKind.i64.wrap (pv * (1 - 2 * (b.pr : Int))) = pv * (1 - 2 * (b.pr : Int)) := IntWalk.i64_in _ (by omega)
              have v4 : IntKind.i64.wrap (fx + xv * (1 - 2 * (b.bt : Int)) + pv * (1 - 2 * (b.pr : Int))) = fx + xv * (1 - 2 * (b.bt : Int)) + pv * (1 - 2 * (b.pr : Int)) := IntWalk.i64_in _ (by omega)
              have v5 : IntKind.i64.wrap (fx + xv * (1 - 2 * (b.bt : Int)) + pv * (1 - 2 * (b.pr : Int)) + gx) = fx + xv * (1 - 2 * (b.bt : Int)) + pv * (1 - 2 * (b.pr : Int)) + gx := IntWalk.i64_in _ (by omega)
              refine P_start (fun W => W.cell? ⟨bx, 0, none⟩ = some (.int .i64 (b.fr : Int)) ∧ W.cell? ⟨bx, 1, none⟩ = some (.int .i64 (b.bt : Int)) ∧ W.cell? ⟨bx, 2, none⟩ = some (.int .i64 (b.pr : Int)) ∧ W.cell? ⟨bx, 3, none⟩ = some (.int .i64 (b.tt : Int)) ∧ W.cell? ⟨bf, 8 * i + b.fr, none⟩ = some (.int .i64 fx) ∧ W.cell? ⟨bg, 8 * (i + 1) + b.tt, none⟩ = some (.int .i64 gx) ∧ W.cell? ⟨b14, b.bt, none⟩ = some (.int .i64 vb) ∧ W.cell? (adr P i) = some (.int .i64 pv)) 42 43 #[false, false, false, false, false, false, false, false, false, false, false, false, false, false, false, false, false, false, false, false, false, false, false, false, false, false, false, false, false, false, false, false, false, false, false, false, false, false, false, false, false, false, false] (by kernel_rfl) (by kernel_rfl) (by kernel_rfl) ?_
              generalize (W7.drewN nq).drew = wd at *
              have hS1 : (fun W => W.cell? ⟨bx, 0, none⟩ = some (.int .i64 (b.fr : Int)) ∧ W.cell? ⟨bx, 1, none⟩ = some (.int .i64 (b.bt : Int)) ∧ W.cell? ⟨bx, 2, none⟩ = some (.int .i64 (b.pr : Int)) ∧ W.cell? ⟨bx, 3, none⟩ = some (.int .i64 (b.tt : Int)) ∧ W.cell? ⟨bf, 8 * i + b.fr, none⟩ = some (.int .i64 fx) ∧ W.cell? ⟨bg, 8 * (i + 1) + b.tt, none⟩ = some (.int .i64 gx) ∧ W.cell? ⟨b14, b.bt, none⟩ = some (.int .i64 vb) ∧ W.cell? (adr P i) = some (.int .i64 pv)) wd := ⟨HXD.out.cell rfl, HXD.out.cell rfl, HXD.out.cell rfl, HXD.out.cell rfl, by have h := HWD.out.sw.f.cell (i := i) (k := b.fr) (by omega) b1; rw [HFX.out] at h; exact h, by have h := HWD.out.sw.g.cell (i := i + 1) (k := b.tt) (by omega) b4; rw [HGX.out] at h; exact h, by rw [← HVBE.out]; exact HBD.out.icell (by have := HVL.out; omega), by rw [← HPV.out]; exact Rd.cell HID.out.p hpl⟩
              refine P_w 0 71 (.pointer (some ⟨bx, 1, none⟩)) #[true, false, false, false, false, false, false, false, false, false, false, false, false, false, false, false, false, false, false, false, false, false, false, false, false, false, false, false, false, false, false, false, false, false, false, false, false, false, false, false, false, false, false] rfl hS1 ?_
              simp only [y0, y1, y2]
              refine P_k 1 72 (.int .i64 (b.bt : Int)) #[true, true, false, false, false, false, false, false, false, false, false, false, false, false, false, false, false, false, false, false, false, false, false, false, false, false, false, false, false, false, false, false, false, false, false, false, false, false, false, false, false, false, false] rfl (Or.inl ⟨by rfl, fun W hS => by obtain ⟨s0, s1, s2, s3, s4, s5, s6, s7⟩ := hS; go_simp⟩) hS1 ?_
              simp only [y0, y1, y2]
              refine P_w 2 73 (.pointer (some ⟨bx, 1, none⟩)) #[true, true, true, false, false, false, false, false, false, false, false, false, false, false, false, false, false, false, false, false, false, false, false, false, false, false, false, false, false, false, false, false, false, false, false, false, false, false, false, false, false, false, false] rfl hS1 ?_
              simp only [y0, y1, y2]
              refine P_k 3 74 (.int .i64 (b.bt : Int)) #[true, true, true, true, false, false, false, false, false, false, false, false, false, false, false, false, false, false, false, false, false, false, false, false, false, false, false, false, false, false, false, false, false, false, false, false, false, false, false, false, false, false, false] rfl (Or.inl ⟨by rfl, fun W hS => by obtain ⟨s0, s1, s2, s3, s4, s5, s6, s7⟩ := hS; go_simp⟩) hS1 ?_
              simp only [y0, y1, y2]
              refine P_takeW 4 75 (.pointer (some ⟨b14, b.bt, none⟩)) #[true, true, true, true, true, false, false, false, false, false, false, false, false, false, false, false, false, false, false, false, false, false, false, false, false, false, false, false, false, false, false, false, false, false, false, false, false, false, false, false, false, false, false] rfl rfl (by kernel_rfl) (by kernel_rfl) (by kernel_rfl) (by kernel_rfl) (by decide) (fun _ _ _ h => h) (Or.inl ⟨by rfl, fun W hS => by go_simp <;> (intro h9; omega)⟩) hS1 ?_
              simp only [y0, y1, y2]
              refine P_k 5 76 (.int .i64 vb) #[true, true, true, true, true, true, false, false, false, false, false, false, false, false, false, false, false, false, false, false, false, false, false, false, false, false, false, false, false, false, false, false, false, false, false, false, false, false, false, false, false, false, false] rfl (Or.inl ⟨by rfl, fun W hS => by obtain ⟨s0, s1, s2, s3, s4, s5, s6, s7⟩ := hS; go_simp⟩) hS1 ?_
              simp only [y0, y1, y2]
              refine P_w 6 77 (.slice (some ⟨bf, 0, none⟩) (o.s.length + 1) (o.s.length + 1)) #[true, true, true, true, true, true, true, false, false, false, false, false, false, false, false, false, false, false, false, false, false, false, false, false, false, false, false, false, false, false, false, false, false, false, false, false, false, false, false, false, false, false, false] rfl hS1 ?_
              simp only [y0, y1, y2]
              refine P_w 7 78 (.int .i64 (i : Int)) #[true, true, true, true, true, true, true, true, false, false, false, false, false, false, false, false, false, false, false, false, false, false, false, false, false, false, false, false, false, false, false, false, false, false, false, false, false, false, false, false, false, false, false] rfl hS1 ?_
              simp only [y0, y1, y2]
              refine P_w 8 79 (.pointer (some ⟨bx, 0, none⟩)) #[true, true, true, true, true, true, true, true, true, false, false, false, false, false, false, false, false, false, false, false, false, false, false, false, false, false, false, false, false, false, false, false, false, false, false, false, false, false, false, false, false, false, false] rfl hS1 ?_
              simp only [y0, y1, y2]
              refine P_k 9 80 (.int .i64 (b.fr : Int)) #[true, true, true, true, true, true, true, true, true, true, false, false, false, false, false, false, false, false, false, false, false, false, false, false, false, false, false, false, false, false, false, false, false, false, false, false, false, false, false, false, false, false, false] rfl (Or.inl ⟨by rfl, fun W hS => by obtain ⟨s0, s1, s2, s3, s4, s5, s6, s7⟩ := hS; go_simp⟩) hS1 ?_
              simp only [y0, y1, y2]
              refine P_w 10 81 (.pointer (some ⟨bf, 8 * i, none⟩)) #[true, true, true, true, true, true, true, true, true, true, true, false, false, false, false, false, false, false, false, false, false, false, false, false, false, false, false, false, false, false, false, false, false, false, false, false, false, false, false, false, false, false, false] rfl hS1 ?_
              simp only [y0, y1, y2]
              refine P_takeW 11 82 (.pointer (some ⟨bf, 8 * i + b.fr, none⟩)) #[true, true, true, true, true, true, true, true, true, true, true, true, false, false, false, false, false, false, false, false, false, false, false, false, false, false, false, false, false, false, false, false, false, false, false, false, false, false, false, false, false, false, false] rfl rfl (by kernel_rfl) (by kernel_rfl) (by kernel_rfl) (by kernel_rfl) (by decide) (fun _ _ _ h => h) (Or.inl ⟨by rfl, fun W hS => by go_simp <;> (intro h9; omega)⟩) hS1 ?_
              simp only [y0, y1, y2]
              refine P_k 12 83 (.int .i64 fx) #[true, true, true, true, true, true, true, true, true, true, true, true, true, false, false, false, false, false, false, false, false, false, false, false, false, false, false, false, false, false, false, false, false, false, false, false, false, false, false, false, false, false, false] rfl (Or.inl ⟨by rfl, fun W hS => by obtain ⟨s0, s1, s2, s3, s4, s5, s6, s7⟩ := hS; go_simp⟩) hS1 ?_
              simp only [y0, y1, y2]
              refine P_w 13 84 (.slice S o.s.length cs) #[true, true, true, true, true, true, true, true, true, true, true, true, true, true, false, false, false, false, false, false, false, false, false, false, false, false, false, false, false, false, false, false, false, false, false, false, false, false, false, false, false, false, false] rfl hS1 ?_
              simp only [y0, y1, y2]
              refine P_w 14 85 (.slice A o.a.length ca) #[true, true, true, true, true, true, true, true, true, true, true, true, true, true, true, false, false, false, false, false, false, false, false, false, false, false, false, false, false, false, false, false, false, false, false, false, false, false, false, false, false, false, false] rfl hS1 ?_
              simp only [y0, y1, y2]
              refine P_w 15 86 (.int .i64 (i : Int)) #[true, true, true, true, true, true, true, true, true, true, true, true, true, true, true, true, false, false, false, false, false, false, false, false, false, false, false, false, false, false, false, false, false, false, false, false, false, false, false, false, false, false, false] rfl hS1 ?_
              simp only [y0, y1, y2]
              refine P_w 17 88 (.pointer (some ⟨bx, 1, none⟩)) #[true, true, true, true, true, true, true, true, true, true, true, true, true, true, true, true, false, true, false, false, false, false, false, false, false, false, false, false, false, false, false, false, false, false, false, false, false, false, false, false, false, false, false] rfl hS1 ?_
              simp only [y0, y1, y2]
              refine P_k 18 89 (.int .i64 (b.bt : Int)) #[true, true, true, true, true, true, true, true, true, true, true, true, true, true, true, true, false, true, true, false, false, false, false, false, false, false, false, false, false, false, false, false, false, false, false, false, false, false, false, false, false, false, false] rfl (Or.inl ⟨by rfl, fun W hS => by obtain ⟨s0, s1, s2, s3, s4, s5, s6, s7⟩ := hS; go_simp⟩) hS1 ?_
              simp only [y0, y1, y2]
              refine P_w 22 93 (.slice P o.p.length cp) #[true, true, true, true, true, true, true, true, true, true, true, true, true, true, true, true, false, true, true, false, false, false, true, false, false, false, false, false, false, false, false, false, false, false, false, false, false, false, false, false, false, false, false] rfl hS1 ?_
              simp only [y0, y1, y2]
              refine P_w 23 94 (.int .i64 (i : Int)) #[true, true, true, true, true, true, true, true, true, true, true, true, true, true, true, true, false, true, true, false, false, false, true, true, false, false, false, false, false, false, false, false, false, false, false, false, false, false, false, false, false, false, false] rfl hS1 ?_
              simp only [y0, y1, y2]
              refine P_w 24 95 (.pointer (some (adr P i))) #[true, true, true, true, true, true, true, true, true, true, true, true, true, true, true, true, false, true, true, false, false, false, true, true, true, false, false, false, false, false, false, false, false, false, false, false, false, false, false, false, false, false, false] rfl hS1 ?_
              simp only [y0, y1, y2]
              refine P_k 25 96 (.int .i64 pv) #[true, true, true, true, true, true, true, true, true, true, true, true, true, true, true, true, false, true, true, false, false, false, true, true, true, true, false, false, false, false, false, false, false, false, false, false, false, false, false, false, false, false, false] rfl (Or.inl ⟨by rfl, fun W hS => by obtain ⟨s0, s1, s2, s3, s4, s5, s6, s7⟩ := hS; go_simp⟩) hS1 ?_
              simp only [y0, y1, y2]
              refine P_w 26 97 (.pointer (some ⟨bx, 2, none⟩)) #[true, true, true, true, true, true, true, true, true, true, true, true, true, true, true, true, false, true, true, false, false, false, true, true, true, true, true, false, false, false, false, false, false, false, false, false, false, false, false, false, false, false, false] rfl hS1 ?_
              simp only [y0, y1, y2]
              refine P_k 27 98 (.int .i64 (b.pr : Int)) #[true, true, true, true, true, true, true, true, true, true, true, true, true, true, true, true, false, true, true, false, false, false, true, true, true, true, true, true, false, false, false, false, false, false, false, false, false, false, false, false, false, false, false] rfl (Or.inl ⟨by rfl, fun W hS => by obtain ⟨s0, s1, s2, s3, s4, s5, s6, s7⟩ := hS; go_simp⟩) hS1 ?_
              simp only [y0, y1, y2]
              refine P_w 31 102 (.slice (some ⟨bg, 0, none⟩) (o.s.length + 1) (o.s.length + 1)) #[true, true, true, true, true, true, true, true, true, true, true, true, true, true, true, true, false, true, true, false, false, false, true, true, true, true, true, true, false, false, false, true, false, false, false, false, false, false, false, false, false, false, false] rfl hS1 ?_
              simp only [y0, y1, y2]
              refine P_w 32 103 (.int .i64 (i : Int)) #[true, true, true, true, true, true, true, true, true, true, true, true, true, true, true, true, false, true, true, false, false, false, true, true, true, true, true, true, false, false, false, true, true, false, false, false, false, false, false, false, false, false, false] rfl hS1 ?_
              simp only [y0, y1, y2]
              refine P_w 33 104 (.int .i64 ((i : Int) + 1)) #[true, true, true, true, true, true, true, true, true, true, true, true, true, true, true, true, false, true, true, false, false, false, true, true, true, true, true, true, false, false, false, true, true, true, false, false, false, false, false, false, false, false, false] rfl hS1 ?_
              simp only [y0, y1, y2]
              refine P_w 34 105 (.pointer (some ⟨bx, 3, none⟩)) #[true, true, true, true, true, true, true, true, true, true, true, true, true, true, true, true, false, true, true, false, false, false, true, true, true, true, true, true, false, false, false, true, true, true, true, false, false, false, false, false, false, false, false] rfl hS1 ?_
              simp only [y0, y1, y2]
              refine P_k 35 106 (.int .i64 (b.tt : Int)) #[true, true, true, true, true, true, true, true, true, true, true, true, true, true, true, true, false, true, true, false, false, false, true, true, true, true, true, true, false, false, false, true, true, true, true, true, false, false, false, false, false, false, false] rfl (Or.inl ⟨by rfl, fun W hS => by obtain ⟨s0, s1, s2, s3, s4, s5, s6, s7⟩ := hS; go_simp⟩) hS1 ?_
              simp only [y0, y1, y2]
              refine P_w 36 107 (.pointer (some ⟨bg, 8 * (i + 1), none⟩)) #[true, true, true, true, true, true, true, true, true, true, true, true, true, true, true, true, false, true, true, false, false, false, true, true, true, true, true, true, false, false, false, true, true, true, true, true, true, false, false, false, false, false, false] rfl hS1 ?_
              simp only [y0, y1, y2]
              refine P_takeW 37 108 (.pointer (some ⟨bg, 8 * (i + 1) + b.tt, none⟩)) #[true, true, true, true, true, true, true, true, true, true, true, true, true, true, true, true, false, true, true, false, false, false, true, true, true, true, true, true, false, false, false, true, true, true, true, true, true, true, false, false, false, false, false] rfl rfl (by kernel_rfl) (by kernel_rfl) (by kernel_rfl) (by kernel_rfl) (by decide) (fun _ _ _ h => h) (Or.inl ⟨by rfl, fun W hS => by go_simp <;> (intro h9; omega)⟩) hS1 ?_
              simp only [y0, y1, y2]
              refine P_k 38 109 (.int .i64 gx) #[true, true, true, true, true, true, true, true, true, true, true, true, true, true, true, true, false, true, true, false, false, false, true, true, true, true, true, true, false, false, false, true, true, true, true, true, true, true, true, false, false, false, false] rfl (Or.inl ⟨by rfl, fun W hS => by obtain ⟨s0, s1, s2, s3, s4, s5, s6, s7⟩ := hS; go_simp⟩) hS1 ?_
              simp only [y0, y1, y2]
              refine P_oneS 16 #[true, true, true, true, true, true, true, true, true, true, true, true, true, true, true, true, true, true, true, false, false, false, true, true, true, true, true, true, false, false, false, true, true, true, true, true, true, true, true, false, false, false, false] rfl (by kernel_rfl) (by kernel_rfl) rfl (fun K hK => ?_)
              go_simp
              refine (HINP.out _ HID.out).mono ?_
              rintro e wq ⟨rfl, qm, rfl⟩
              have HWE := Lib.hid (HWD.out.call (Qt.below ⟨qm, rfl⟩ _))
              have HBE := Lib.hid (HBD.out.below (Qt.below ⟨qm, rfl⟩ _))
              replace hS1 := (show (fun W => W.cell? ⟨bx, 0, none⟩ = some (.int .i64 (b.fr : Int)) ∧ W.cell? ⟨bx, 1, none⟩ = some (.int .i64 (b.bt : Int)) ∧ W.cell? ⟨bx, 2, none⟩ = some (.int .i64 (b.pr : Int)) ∧ W.cell? ⟨bx, 3, none⟩ = some (.int .i64 (b.tt : Int)) ∧ W.cell? ⟨bf, 8 * i + b.fr, none⟩ = some (.int .i64 fx) ∧ W.cell? ⟨bg, 8 * (i + 1) + b.tt, none⟩ = some (.int .i64 gx) ∧ W.cell? ⟨b14, b.bt, none⟩ = some (.int .i64 vb) ∧ W.cell? (adr P i) = some (.int .i64 pv)) (wd.drewN qm) from hS1)
              generalize wd.drewN qm = we at *
              clear HWD HID HINP HBD HXD
              refine hK _ _ hS1 ?_
              clear hK K
              refine P_oneS 19 #[true, true, true, true, true, true, true, true, true, true, true, true, true, true, true, true, true, true, true, true, false, false, true, true, true, true, true, true, false, false, false, true, true, true, true, true, true, true, true, false, false, false, false] rfl (by kernel_rfl) (by kernel_rfl) rfl (fun K hK => ?_)
              go_simp
              refine (sign_any b.bt b2 _).mono ?_
              rintro e w' ⟨rfl, rfl⟩
              refine hK _ _ hS1 ?_
              clear hK K
              refine P_w 20 91 (.int .i64 (xv * (1 - 2 * (b.bt : Int)))) #[true, true, true, true, true, true, true, true, true, true, true, true, true, true, true, true, true, true, true, true, true, false, true, true, true, true, true, true, false, false, false, true, true, true, true, true, true, true, true, false, false, false, false] rfl hS1 ?_
              simp only [y0, y1, y2]
              refine P_w 21 92 (.int .i64 (fx + xv * (1 - 2 * (b.bt : Int)))) #[true, true, true, true, true, true, true, true, true, true, true, true, true, true, true, true, true, true, true, true, true, true, true, true, true, true, true, true, false, false, false, true, true, true, true, true, true, true, true, false, false, false, false] rfl hS1 ?_
              simp only [y0, y1, y2]
              refine P_oneS 28 #[true, true, true, true, true, true, true, true, true, true, true, true, true, true, true, true, true, true, true, true, true, true, true, true, true, true, true, true, true, false, false, true, true, true, true, true, true, true, true, false, false, false, false] rfl (by kernel_rfl) (by kernel_rfl) rfl (fun K hK => ?_)
              go_simp
              refine (sign_any b.pr b3 _).mono ?_
              rintro e w' ⟨rfl, rfl⟩
              refine hK _ _ hS1 ?_
              clear hK K
              refine P_w 29 100 (.int .i64 (pv * (1 - 2 * (b.pr : Int)))) #[true, true, true, true, true, true, true, true, true, true, true, true, true, true, true, true, true, true, true, true, true, true, true, true, true, true, true, true, true, true, false, true, true, true, true, true, true, true, true, false, false, false, false] rfl hS1 ?_
              simp only [y0, y1, y2]
              refine P_w 30 101 (.int .i64 (fx + xv * (1 - 2 * (b.bt : Int)) + pv * (1 - 2 * (b.pr : Int)))) #[true, true, true, true, true, true, true, true, true, true, true, true, true, true, true, true, true, true, true, true, true, true, true, true, true, true, true, true, true, true, true, true, true, true, true, true, true, true, true, false, false, false, false] rfl hS1 ?_
              simp only [y0, y1, y2]
              refine P_w 39 110 (.int .i64 (fx + xv * (1 - 2 * (b.bt : Int)) + pv * (1 - 2 * (b.pr : Int)) + gx)) #[true, true, true, true, true, true, true, true, true, true, true, true, true, true, true, true, true, true, true, true, true, true, true, true, true, true, true, true, true, true, true, true, true, true, true, true, true, true, true, true, false, false, false] rfl hS1 ?_
              simp only [y0, y1, y2]
              refine P_oneS 40 #[true, true, true, true, true, true, true, true, true, true, true, true, true, true, true, true, true, true, true, true, true, true, true, true, true, true, true, true, true, true, true, true, true, true, true, true, true, true, true, true, true, false, false] rfl (by kernel_rfl) (by kernel_rfl) rfl (fun K hK => ?_)
              go_simp
              rw [max_if]
              refine hK _ _ hS1 ?_
              clear hK K
              refine P_takeW 41 112 (.pointer (some ⟨b14, b.bt, none⟩)) #[true, true, true, true, true, true, true, true, true, true, true, true, true, true, true, true, true, true, true, true, true, true, true, true, true, true, true, true, true, true, true, true, true, true, true, true, true, true, true, true, true, true, false] rfl rfl (by kernel_rfl) (by kernel_rfl) (by kernel_rfl) (by kernel_rfl) (by decide) (fun _ _ _ h => h) (Or.inl ⟨by rfl, fun W hS => by go_simp <;> (intro h9; omega)⟩) hS1 ?_
              simp only [y0, y1, y2]
              have hc8 := hS1.2.2.2.2.2.2.1
              have hf8 := HBE.out.frozen b.bt
              clear v0 v1 v2 v3 v4 v5 hixP hix4 hix5
              refine P_one 42 #[true, true, true, true, true, true, true, true, true, true, true, true, true, true, true, true, true, true, true, true, true, true, true, true, true, true, true, true, true, true, true, true, true, true, true, true, true, true, true, true, true, true, true] rfl (by kernel_rfl) (by kernel_rfl) rfl (by kernel_rfl) (fun K hK => ?_)
              go_simp
              rw [HTM.out]
              refine hK _ _ ?_
              clear hK K
              refine P_done (by kernel_rfl) ?_ _
              have HBF := Lib.hid (HBE.out.set b.bt (.int .i64 (max vb (fx + o.term i b + gx))))
              have hgb := grownBy_set we b14 b.bt (.int .i64 (max vb (fx + o.term i b + gx)))
              have HWF := Lib.hid (HWE.out.grow HRS.out hgb (fun g hg => by cases hg; exact HSZ.out) (HWE.out.tt.grownN hgb (fun h => Nat.ne_of_lt (HT1.out h)) (fun h => Nat.ne_of_lt (HT2.out h)) (fun h => Nat.ne_of_lt (HT3.out h))))
              clear hc8 hf8 hS1 hgb
              generalize we.setCell ⟨b14, b.bt, none⟩ (.int .i64 (max vb (fx + o.term i b + gx))) = wg at *
              go_wp2
              go_roundw
              case rel => exact ⟨k + 1, by omega, by go_num, HWF.out, by rw [← HYES.out, ints8_set]; exact HBF.out⟩
              case measure => simp [intOf]; omega
            · have hd2 : decide (-1125899906842624 < gx) = false := by simpa using hv
              have HNO := Lib.hid (HSAME.out (by rw [UU_eq]; intro h; exact hv h.2))
              go_wp2_with fail
              go_quiet (fail)
              go_wp2
              go_roundw
              case rel => exact ⟨k + 1, by omega, by go_num, HW7.out.call (Qt.below ⟨_, rfl⟩ _), by rw [HNO.out]; exact HB7.out.below (Qt.below ⟨_, rfl⟩ _)⟩
              case measure => simp [intOf]; omega
          · have hd1 : decide (-1125899906842624 < fx) = false := by simpa using hu
            have HNO := Lib.hid (HSAME.out (by rw [UU_eq]; intro h; exact hu h.1))
            go_wp2_with fail
            go_quiet (fail)
            go_wp2
            go_roundw
            case rel => exact ⟨k + 1, by omega, by go_num, HW7.out.call (Qt.below ⟨_, rfl⟩ _), by rw [HNO.out]; exact HB7.out.below (Qt.below ⟨_, rfl⟩ _)⟩
            case measure => simp [intOf]; omega
        · obtain rfl : k = 16 := by omega
          have HW8 := Lib.hid hw
          have HB8 := Lib.hid hb
          clear hw hb
          have c0 : wr.cell? ⟨b14, 0, none⟩ = some (.int .i64 (vF o i 0 16)) := HB8.out.icell (j := 0) (by show 0 < 2; decide)
          have c1' : wr.cell? ⟨b14, 1, none⟩ = some (.int .i64 (vF o i 1 16)) := HB8.out.icell (j := 1) (by show 1 < 2; decide)
          have hv0 := vF_bd HO.out i 0 his 16 (Nat.le_refl _)
          have hv1 := vF_bd HO.out i 1 his 16 (Nat.le_refl _)
          have htt := vF_tot o i
          generalize vF o i 0 16 = x0 at *
          generalize vF o i 1 16 = x1 at *
          have htb := tdiv_bd (x0 - x1) 2 (by omega) 1125899946842624 (by omega)
          have v1 : IntKind.i64.wrap (x0 - x1) = x0 - x1 := IntWalk.i64_in _ (by omega)
          have v2 : IntKind.i64.wrap ((x0 - x1).tdiv 2) = (x0 - x1).tdiv 2 := IntWalk.i64_in _ (by omega)
          have HTT := Lib.hid htt.symm
          clear htt
          go_upto_if 120 with fail
          clear c0 c1' v1 v2
          generalize (x0 - x1).tdiv 2 = tv at *
          go_cut [18] from 119 to 120 (fun v wx => v = .int .u8 (o.bT i) ∧ wx = wr)
          case first =>
            by_cases ht : tv < 0
            · have hdt : decide (tv < 0) = true := by simpa using ht
              go_wp2
              go_meet
              case rel => exact ⟨by unfold Ob.bT; rw [← HTT.out, if_pos ht], rfl⟩
            · have hdt : decide (tv < 0) = false := by simpa using ht
              go_wp2
              go_meet
              case rel => exact ⟨by unfold Ob.bT; rw [← HTT.out, if_neg (by omega)], rfl⟩
          case rest =>
            obtain ⟨rfl, rfl⟩ := hcut
            go_wp2_with fail
            have HWD := Lib.hid (HW8.out.call (Below.refl _ wc).drew)
            have HID := Lib.hid (HIN.out.below HWD.out.sw.bl)
            have hixS := fun W => Rdv.ix HIN.out.s el22 his .i64 W
            have hixA := fun W => Rdv.ix HIN.out.a el22 hlt .i64 W
            have hsb : -127 ≤ gi o.s i ∧ gi o.s i ≤ 127 := HO.out.2.2.2.2.1 _ (gi_mem o.s i his)
            have hab : -127 ≤ gi o.a i ∧ gi o.a i ≤ 127 := HO.out.2.2.2.2.2.2 _ (gi_mem o.a i hlt)
            have HEV : Hid (ext (tv - gi o.s i - gi o.a i) = o.eT i) := Lib.hid (by unfold Ob.eT; rw [HTT.out])
            have hB1 : Hid (o.bT i = o.bT i) := Lib.hid rfl
            generalize hbv : o.bT i = bv at *
            have HBV := Lib.hid hbv.symm
            generalize hsv : gi o.s i = sv at *
            generalize hav : gi o.a i = av at *
            have HSV := Lib.hid hsv
            have HAV := Lib.hid hav
            have hext := fun W => extr_any (tv - sv - av) W (by omega)
            have v1 : IntKind.i64.wrap (tv - sv) = tv - sv := IntWalk.i64_in _ (by omega)
            have v2 : IntKind.i64.wrap (tv - sv - av) = tv - sv - av := IntWalk.i64_in _ (by omega)
            generalize ext (tv - sv - av) = ev at *
            have HEXT := Lib.hid hext
            clear hbv hsv hav hext hB1
            refine P_start (fun W => W.cell? ⟨b12, 0, none⟩ = some (.slice A1 i c1) ∧ W.cell? ⟨b12, 1, none⟩ = some (.slice A2 i c2) ∧ W.cell? ⟨b12, 2, none⟩ = some (.slice A3 i c3) ∧ W.cell? (adr S i) = some (.int .i64 sv) ∧ W.cell? (adr A i) = some (.int .i64 av)) 27 32 #[false, false, false, false, false, false, false, false, false, false, false, false, false, false, false, false, false, false, false, false, false, false, false, false, false, false, false, false, false, false, false, false] (by kernel_rfl) (by kernel_rfl) (by kernel_rfl) ?_
            generalize wc.drew = wd0 at *
            have hS1 : (fun W => W.cell? ⟨b12, 0, none⟩ = some (.slice A1 i c1) ∧ W.cell? ⟨b12, 1, none⟩ = some (.slice A2 i c2) ∧ W.cell? ⟨b12, 2, none⟩ = some (.slice A3 i c3) ∧ W.cell? (adr S i) = some (.int .i64 sv) ∧ W.cell? (adr A i) = some (.int .i64 av)) wd0 := ⟨HWD.out.d12.cell rfl, HWD.out.d12.cell rfl, HWD.out.d12.cell rfl, by rw [← HSV.out]; exact Rd.cell HID.out.s his, by rw [← HAV.out]; exact Rd.cell HID.out.a hlt⟩
            refine P_w 0 121 (.pointer (some ⟨b12, 0, none⟩)) #[true, false, false, false, false, false, false, false, false, false, false, false, false, false, false, false, false, false, false, false, false, false, false, false, false, false, false, false, false, false, false, false] rfl hS1 ?_
            simp only [y0, y1, y2]
            refine P_k 1 122 (.slice A1 i c1) #[true, true, false, false, false, false, false, false, false, false, false, false, false, false, false, false, false, false, false, false, false, false, false, false, false, false, false, false, false, false, false, false] rfl (Or.inl ⟨by rfl, fun W hS => by obtain ⟨s0, s1, s2, s3, s4⟩ := hS; go_simp⟩) hS1 ?_
            simp only [y0, y1, y2]
            refine P_w 2 123 (.int .i64 tv) #[true, true, true, false, false, false, false, false, false, false, false, false, false, false, false, false, false, false, false, false, false, false, false, false, false, false, false, false, false, false, false, false] rfl hS1 ?_
            simp only [y0, y1, y2]
            refine P_w 5 126 (.pointer (some ⟨b12, 1, none⟩)) #[true, true, true, false, false, true, false, false, false, false, false, false, false, false, false, false, false, false, false, false, false, false, false, false, false, false, false, false, false, false, false, false] rfl hS1 ?_
            simp only [y0, y1, y2]
            refine P_k 6 127 (.slice A2 i c2) #[true, true, true, false, false, true, true, false, false, false, false, false, false, false, false, false, false, false, false, false, false, false, false, false, false, false, false, false, false, false, false, false] rfl (Or.inl ⟨by rfl, fun W hS => by obtain ⟨s0, s1, s2, s3, s4⟩ := hS; go_simp⟩) hS1 ?_
            simp only [y0, y1, y2]
            refine P_w 7 128 (.int .i64 tv) #[true, true, true, false, false, true, true, true, false, false, false, false, false, false, false, false, false, false, false, false, false, false, false, false, false, false, false, false, false, false, false, false] rfl hS1 ?_
            simp only [y0, y1, y2]
            refine P_w 8 129 (.slice S o.s.length cs) #[true, true, true, false, false, true, true, true, true, false, false, false, false, false, false, false, false, false, false, false, false, false, false, false, false, false, false, false, false, false, false, false] rfl hS1 ?_
            simp only [y0, y1, y2]
            refine P_w 9 130 (.int .i64 (i : Int)) #[true, true, true, false, false, true, true, true, true, true, false, false, false, false, false, false, false, false, false, false, false, false, false, false, false, false, false, false, false, false, false, false] rfl hS1 ?_
            simp only [y0, y1, y2]
            refine P_w 10 131 (.pointer (some (adr S i))) #[true, true, true, false, false, true, true, true, true, true, true, false, false, false, false, false, false, false, false, false, false, false, false, false, false, false, false, false, false, false, false, false] rfl hS1 ?_
            simp only [y0, y1, y2]
            refine P_takeT 11 132 (.int .i64 sv) #[true, true, true, false, false, true, true, true, true, true, true, true, false, false, false, false, false, false, false, false, false, false, false, false, false, false, false, false, false, false, false, false] [25, 20, 18, 17, 12] rfl rfl (by kernel_rfl) (by kernel_rfl) (by kernel_rfl) (by kernel_rfl) (by kernel_rfl) (by kernel_rfl) (by kernel_rfl) (by decide) (fun _ _ _ h => h) (Or.inl ⟨by rfl, fun W hS => by obtain ⟨s0, s1, s2, s3, s4⟩ := hS; go_simp⟩) hS1 ?_
            simp only [y0, y1, y2]
            refine P_w 12 133 (.int .i64 (tv - sv)) #[true, true, true, false, false, true, true, true, true, true, true, true, true, false, false, false, false, false, false, false, false, false, false, false, false, false, false, false, false, false, false, false] rfl hS1 ?_
            simp only [y0, y1, y2]
            refine P_w 13 134 (.slice A o.a.length ca) #[true, true, true, false, false, true, true, true, true, true, true, true, true, true, false, false, false, false, false, false, false, false, false, false, false, false, false, false, false, false, false, false] rfl hS1 ?_
            simp only [y0, y1, y2]
            refine P_w 14 135 (.int .i64 (i : Int)) #[true, true, true, false, false, true, true, true, true, true, true, true, true, true, true, false, false, false, false, false, false, false, false, false, false, false, false, false, false, false, false, false] rfl hS1 ?_
            simp only [y0, y1, y2]
            refine P_w 15 136 (.pointer (some (adr A i))) #[true, true, true, false, false, true, true, true, true, true, true, true, true, true, true, true, false, false, false, false, false, false, false, false, false, false, false, false, false, false, false, false] rfl hS1 ?_
            simp only [y0, y1, y2]
            refine P_takeT 16 137 (.int .i64 av) #[true, true, true, false, false, true, true, true, true, true, true, true, true, true, true, true, true, false, false, false, false, false, false, false, false, false, false, false, false, false, false, false] [25, 20, 18, 17] rfl rfl (by kernel_rfl) (by kernel_rfl) (by kernel_rfl) (by kernel_rfl) (by kernel_rfl) (by kernel_rfl) (by kernel_rfl) (by decide) (fun _ _ _ h => h) (Or.inl ⟨by rfl, fun W hS => by obtain ⟨s0, s1, s2, s3, s4⟩ := hS; go_simp⟩) hS1 ?_
            simp only [y0, y1, y2]
            refine P_w 17 138 (.int .i64 (tv - sv - av)) #[true, true, true, false, false, true, true, true, true, true, true, true, true, true, true, true, true, true, false, false, false, false, false, false, false, false, false, false, false, false, false, false] rfl hS1 ?_
            simp only [y0, y1, y2]
            refine P_w 21 142 (.pointer (some ⟨b12, 2, none⟩)) #[true, true, true, false, false, true, true, true, true, true, true, true, true, true, true, true, true, true, false, false, false, true, false, false, false, false, false, false, false, false, false, false] rfl hS1 ?_
            simp only [y0, y1, y2]
            refine P_k 22 143 (.slice A3 i c3) #[true, true, true, false, false, true, true, true, true, true, true, true, true, true, true, true, true, true, false, false, false, true, true, false, false, false, false, false, false, false, false, false] rfl (Or.inl ⟨by rfl, fun W hS => by obtain ⟨s0, s1, s2, s3, s4⟩ := hS; go_simp⟩) hS1 ?_
            simp only [y0, y1, y2]
            refine P_w 23 144 (.int .u8 bv) #[true, true, true, false, false, true, true, true, true, true, true, true, true, true, true, true, true, true, false, false, false, true, true, true, false, false, false, false, false, false, false, false] rfl hS1 ?_
            simp only [y0, y1, y2]
            clear v1 v2 hixS hixA
            refine P_twoS 3 24 #[true, true, true, true, false, true, true, true, true, true, true, true, true, true, true, true, true, true, false, false, false, true, true, true, false, false, false, false, false, false, false, false] #[true, true, true, false, false, true, true, true, true, true, true, true, true, true, true, true, true, true, false, false, false, true, true, true, true, false, false, false, false, false, false, false] rfl rfl (by kernel_rfl) (by kernel_rfl) (by kernel_rfl) rfl rfl (fun K hK => ?_) (fun K hK => ?_)
            · go_simp
              have HQ1 := Lib.hid (HWD.out.call ((Below.refl _ wd0).alloc (Nat.le_refl _) (.cells #[.int .i64 tv] 3)))
              have LT2 := Lib.hid (heap_alloc_new wd0 (.cells #[.int .i64 tv] 3))
              generalize wd0.heap.size = g3 at *
              generalize wd0.alloc (.cells #[.int .i64 tv] 3) = wy4 at *
              have hS1 : (fun W => W.cell? ⟨b12, 0, none⟩ = some (.slice A1 i c1) ∧ W.cell? ⟨b12, 1, none⟩ = some (.slice A2 i c2) ∧ W.cell? ⟨b12, 2, none⟩ = some (.slice A3 i c3) ∧ W.cell? (adr S i) = some (.int .i64 sv) ∧ W.cell? (adr A i) = some (.int .i64 av)) wy4 := ⟨HQ1.out.d12.cell rfl, HQ1.out.d12.cell rfl, HQ1.out.d12.cell rfl, by rw [← HSV.out]; exact Rd.cell (HIN.out.below HQ1.out.sw.bl).s his, by rw [← HAV.out]; exact Rd.cell (HIN.out.below HQ1.out.sw.bl).a hlt⟩
              refine hK _ _ hS1 ?_
              clear hK K
              refine P_twoS 4 24 #[true, true, true, true, true, true, true, true, true, true, true, true, true, true, true, true, true, true, false, false, false, true, true, true, false, false, false, false, false, false, false, false] #[true, true, true, true, false, true, true, true, true, true, true, true, true, true, true, true, true, true, false, false, false, true, true, true, true, false, false, false, false, false, false, false] rfl rfl (by kernel_rfl) (by kernel_rfl) (by kernel_rfl) rfl rfl (fun K hK => ?_) (fun K hK => ?_)
              · refine wp_apT 125 (.tmp 122) (.tmp 124) rfl rfl rfl rfl HQ1.out.tt LT2.out (by omega) HQ1.out.sz HTT.out ?_
                intro gA7 cA8 wy6 tA hgA
                have HQ5 := Lib.hid (HQ1.out.grow HRS.out hgA (fun g hg => own_ge HQ1.out.tt.o1 g hg) tA)
                clear tA hgA
                have hS1 : (fun W => W.cell? ⟨b12, 0, none⟩ = some (.slice A1 i c1) ∧ W.cell? ⟨b12, 1, none⟩ = some (.slice A2 i c2) ∧ W.cell? ⟨b12, 2, none⟩ = some (.slice A3 i c3) ∧ W.cell? (adr S i) = some (.int .i64 sv) ∧ W.cell? (adr A i) = some (.int .i64 av)) wy6 := ⟨HQ5.out.d12.cell rfl, HQ5.out.d12.cell rfl, HQ5.out.d12.cell rfl, by rw [← HSV.out]; exact Rd.cell (HIN.out.below HQ5.out.sw.bl).s his, by rw [← HAV.out]; exact Rd.cell (HIN.out.below HQ5.out.sw.bl).a hlt⟩
                refine hK _ _ hS1 ?_
                clear hK K
                simp only [y0, y1, y2]
                refine P_w 26 147 (.pointer (some ⟨b12, 0, none⟩)) #[true, true, true, true, true, true, true, true, true, true, true, true, true, true, true, true, true, true, false, false, false, true, true, true, false, false, true, false, false, false, false, false] rfl hS1 ?_
                simp only [y0, y1, y2]
                refine P_twoS 18 24 #[true, true, true, true, true, true, true, true, true, true, true, true, true, true, true, true, true, true, true, false, false, true, true, true, false, false, true, false, false, false, false, false] #[true, true, true, true, true, true, true, true, true, true, true, true, true, true, true, true, true, true, false, false, false, true, true, true, true, false, true, false, false, false, false, false] rfl rfl (by kernel_rfl) (by kernel_rfl) (by kernel_rfl) rfl rfl (fun K hK => ?_) (fun K hK => ?_)
                · go_simp
                  refine (HEXT.out _).mono ?_
                  rintro e w' ⟨rfl, rfl⟩
                  refine hK _ _ hS1 ?_
                  clear hK K
                  refine P_twoS 19 24 #[true, true, true, true, true, true, true, true, true, true, true, true, true, true, true, true, true, true, true, true, false, true, true, true, false, false, true, false, false, false, false, false] #[true, true, true, true, true, true, true, true, true, true, true, true, true, true, true, true, true, true, true, false, false, true, true, true, true, false, true, false, false, false, false, false] rfl rfl (by kernel_rfl) (by kernel_rfl) (by kernel_rfl) rfl rfl (fun K hK => ?_) (fun K hK => ?_)
                  · go_simp
                    have HQ9 := Lib.hid (HQ5.out.call ((Below.refl _ wy6).alloc (Nat.le_refl _) (.cells #[.int .i64 ev] 3)))
                    have LT10 := Lib.hid (heap_alloc_new wy6 (.cells #[.int .i64 ev] 3))
                    generalize wy6.heap.size = g11 at *
                    generalize wy6.alloc (.cells #[.int .i64 ev] 3) = wy12 at *
                    have hS1 : (fun W => W.cell? ⟨b12, 0, none⟩ = some (.slice A1 i c1) ∧ W.cell? ⟨b12, 1, none⟩ = some (.slice A2 i c2) ∧ W.cell? ⟨b12, 2, none⟩ = some (.slice A3 i c3) ∧ W.cell? (adr S i) = some (.int .i64 sv) ∧ W.cell? (adr A i) = some (.int .i64 av)) wy12 := ⟨HQ9.out.d12.cell rfl, HQ9.out.d12.cell rfl, HQ9.out.d12.cell rfl, by rw [← HSV.out]; exact Rd.cell (HIN.out.below HQ9.out.sw.bl).s his, by rw [← HAV.out]; exact Rd.cell (HIN.out.below HQ9.out.sw.bl).a hlt⟩
                    refine hK _ _ hS1 ?_
                    clear hK K
                    refine P_twoS 20 24 #[true, true, true, true, true, true, true, true, true, true, true, true, true, true, true, true, true, true, true, true, true, true, true, true, false, false, true, false, false, false, false, false] #[true, true, true, true, true, true, true, true, true, true, true, true, true, true, true, true, true, true, true, true, false, true, true, true, true, false, true, false, false, false, false, false] rfl rfl (by kernel_rfl) (by kernel_rfl) (by kernel_rfl) rfl rfl (fun K hK => ?_) (fun K hK => ?_)
                    · refine wp_apE 141 (.tmp 127) (.tmp 140) rfl rfl rfl rfl HQ9.out.tt.rot LT10.out (by omega) HQ9.out.sz HEV.out ?_
                      intro gA15 cA16 wy14 tA hgA
                      have HQ13 := Lib.hid (HQ9.out.grow HRS.out hgA (fun g hg => own_ge HQ9.out.tt.o2 g hg) tA.rot.rot)
                      clear tA hgA
                      have hS1 : (fun W => W.cell? ⟨b12, 0, none⟩ = some (.slice A1 i c1) ∧ W.cell? ⟨b12, 1, none⟩ = some (.slice A2 i c2) ∧ W.cell? ⟨b12, 2, none⟩ = some (.slice A3 i c3) ∧ W.cell? (adr S i) = some (.int .i64 sv) ∧ W.cell? (adr A i) = some (.int .i64 av)) wy14 := ⟨HQ13.out.d12.cell rfl, HQ13.out.d12.cell rfl, HQ13.out.d12.cell rfl, by rw [← HSV.out]; exact Rd.cell (HIN.out.below HQ13.out.sw.bl).s his, by rw [← HAV.out]; exact Rd.cell (HIN.out.below HQ13.out.sw.bl).a hlt⟩
                      refine hK _ _ hS1 ?_
                      clear hK K
                      simp only [y0, y1, y2]
                      refine P_oneS 24 #[true, true, true, true, true, true, true, true, true, true, true, true, true, true, true, true, true, true, true, true, true, true, true, true, true, false, true, false, false, false, false, false] rfl (by kernel_rfl) (by kernel_rfl) rfl (fun K hK => ?_)
                      go_simp
                      have HQ17 := Lib.hid (HQ13.out.call ((Below.refl _ wy14).alloc (Nat.le_refl _) (.cells #[.int .u8 bv] 5)))
                      have LT18 := Lib.hid (heap_alloc_new wy14 (.cells #[.int .u8 bv] 5))
                      have LL21 := Lib.hid (own_lt3 HQ13.out.tt.o1)
                      have LL22 := Lib.hid (own_lt3 HQ13.out.tt.o2)
                      have LL23 := Lib.hid (own_lt3 HQ13.out.tt.o3)
                      generalize wy14.heap.size = g19 at *
                      generalize wy14.alloc (.cells #[.int .u8 bv] 5) = wy20 at *
                      have hS1 : (fun W => W.cell? ⟨b12, 0, none⟩ = some (.slice A1 i c1) ∧ W.cell? ⟨b12, 1, none⟩ = some (.slice A2 i c2) ∧ W.cell? ⟨b12, 2, none⟩ = some (.slice A3 i c3) ∧ W.cell? (adr S i) = some (.int .i64 sv) ∧ W.cell? (adr A i) = some (.int .i64 av)) wy20 := ⟨HQ17.out.d12.cell rfl, HQ17.out.d12.cell rfl, HQ17.out.d12.cell rfl, by rw [← HSV.out]; exact Rd.cell (HIN.out.below HQ17.out.sw.bl).s his, by rw [← HAV.out]; exact Rd.cell (HIN.out.below HQ17.out.sw.bl).a hlt⟩
                      refine hK _ _ hS1 ?_
                      clear hK K
                      refine P_oneS 25 #[true, true, true, true, true, true, true, true, true, true, true, true, true, true, true, true, true, true, true, true, true, true, true, true, true, true, true, false, false, false, false, false] rfl (by kernel_rfl) (by kernel_rfl) rfl (fun K hK => ?_)
                      refine wp_apB 146 (.tmp 143) (.tmp 145) rfl rfl rfl rfl HQ17.out.tt.rot.rot LT18.out (by omega) HQ17.out.sz HBV.out ?_
                      intro gA26 cA27 wy25 tA hgA
                      have HQ24 := Lib.hid (HQ17.out.grow HRS.out hgA (fun g hg => own_ge HQ17.out.tt.o3 g hg) tA.rot)
                      clear tA hgA
                      have hS1 : (fun W => W.cell? ⟨b12, 0, none⟩ = some (.slice A1 i c1) ∧ W.cell? ⟨b12, 1, none⟩ = some (.slice A2 i c2) ∧ W.cell? ⟨b12, 2, none⟩ = some (.slice A3 i c3) ∧ W.cell? (adr S i) = some (.int .i64 sv) ∧ W.cell? (adr A i) = some (.int .i64 av)) wy25 := ⟨HQ24.out.d12.cell rfl, HQ24.out.d12.cell rfl, HQ24.out.d12.cell rfl, by rw [← HSV.out]; exact Rd.cell (HIN.out.below HQ24.out.sw.bl).s his, by rw [← HAV.out]; exact Rd.cell (HIN.out.below HQ24.out.sw.bl).a hlt⟩
                      refine hK _ _ hS1 ?_
                      clear hK K
                      simp only [y0, y1, y2]
                      have dc := HQ24.out.d12.cell (j := 0) rfl
                      have df := HQ24.out.d12.frozen 0
                      refine P_one 27 #[true, true, true, true, true, true, true, true, true, true, true, true, true, true, true, true, true, true, true, true, true, true, true, true, true, true, true, true, false, false, false, false] rfl (by kernel_rfl) (by kernel_rfl) rfl (by kernel_rfl) (fun K hK => ?_)
                      go_simp
                      have HQ28 := Lib.hid (HQ24.out.put12 HRS.out HNE.out 0 (.slice (some ⟨gA7, 0, none⟩) (i + 1) cA8))
                      clear dc df
                      generalize wy25.setCell ⟨b12, 0, none⟩ (.slice (some ⟨gA7, 0, none⟩) (i + 1) cA8) = wy29 at *
                      refine hK _ _ ?_
                      clear hK K
                      refine P_takeX 28 148 (.pointer (some ⟨b12, 1, none⟩)) #[true, true, true, true, true, true, true, true, true, true, true, true, true, true, true, true, true, true, true, true, true, true, true, true, true, true, true, true, true, false, false, false] rfl rfl (by kernel_rfl) (by kernel_rfl) (by kernel_rfl) (by kernel_rfl) (by decide) (fun _ _ _ h => h) (Or.inl ⟨by rfl, fun W hS => by go_simp⟩) rfl ?_
                      simp only [y0, y1, y2]
                      have dc := HQ28.out.d12.cell (j := 1) rfl
                      have df := HQ28.out.d12.frozen 1
                      refine P_one 29 #[true, true, true, true, true, true, true, true, true, true, true, true, true, true, true, true, true, true, true, true, true, true, true, true, true, true, true, true, true, true, false, false] rfl (by kernel_rfl) (by kernel_rfl) rfl (by kernel_rfl) (fun K hK => ?_)
                      go_simp
                      have HQ30 := Lib.hid (HQ28.out.put12 HRS.out HNE.out 1 (.slice (some ⟨gA15, 0, none⟩) (i + 1) cA16))
                      clear dc df
                      generalize wy29.setCell ⟨b12, 1, none⟩ (.slice (some ⟨gA15, 0, none⟩) (i + 1) cA16) = wy31 at *
                      refine hK _ _ ?_
                      clear hK K
                      refine P_takeX 30 149 (.pointer (some ⟨b12, 2, none⟩)) #[true, true, true, true, true, true, true, true, true, true, true, true, true, true, true, true, true, true, true, true, true, true, true, true, true, true, true, true, true, true, true, false] rfl rfl (by kernel_rfl) (by kernel_rfl) (by kernel_rfl) (by kernel_rfl) (by decide) (fun _ _ _ h => h) (Or.inl ⟨by rfl, fun W hS => by go_simp⟩) rfl ?_
                      simp only [y0, y1, y2]
                      have dc := HQ30.out.d12.cell (j := 2) rfl
                      have df := HQ30.out.d12.frozen 2
                      refine P_one 31 #[true, true, true, true, true, true, true, true, true, true, true, true, true, true, true, true, true, true, true, true, true, true, true, true, true, true, true, true, true, true, true, true] rfl (by kernel_rfl) (by kernel_rfl) rfl (by kernel_rfl) (fun K hK => ?_)
                      go_simp
                      have HQ32 := Lib.hid (HQ30.out.put12 HRS.out HNE.out 2 (.slice (some ⟨gA26, 0, none⟩) (i + 1) cA27))
                      clear dc df
                      generalize wy31.setCell ⟨b12, 2, none⟩ (.slice (some ⟨gA26, 0, none⟩) (i + 1) cA27) = wy33 at *
                      refine hK _ _ ?_
                      clear hK K
                      refine P_done (by kernel_rfl) ?_ _
                      clear hS1
                      go_wp2
                      go_roundw
                      case rel => exact ⟨i + 1, some ⟨gA7, 0, none⟩, some ⟨gA15, 0, none⟩, some ⟨gA26, 0, none⟩, cA8, cA16, cA27, by omega, by go_num, HQ32.out⟩
                      case measure => simp [intOf]; omega
                    · go_simp
                      have HQ34 := Lib.hid (HQ9.out.call ((Below.refl _ wy12).alloc (Nat.le_refl _) (.cells #[.int .u8 bv] 5)))
                      have LT35 := Lib.hid (heap_alloc_new wy12 (.cells #[.int .u8 bv] 5))
                      have LL38 := Lib.hid (own_lt3 HQ9.out.tt.o1)
                      have LL39 := Lib.hid (own_lt3 HQ9.out.tt.o2)
                      have LL40 := Lib.hid (own_lt3 HQ9.out.tt.o3)
                      have LT41 := Lib.hid (heap_old' (o := .cells #[.int .u8 bv] 5) LT10.out)
                      generalize wy12.heap.size = g36 at *
                      generalize wy12.alloc (.cells #[.int .u8 bv] 5) = wy37 at *
                      have hS1 : (fun W => W.cell? ⟨b12, 0, none⟩ = some (.slice A1 i c1) ∧ W.cell? ⟨b12, 1, none⟩ = some (.slice A2 i c2) ∧ W.cell? ⟨b12, 2, none⟩ = some (.slice A3 i c3) ∧ W.cell? (adr S i) = some (.int .i64 sv) ∧ W.cell? (adr A i) = some (.int .i64 av)) wy37 := ⟨HQ34.out.d12.cell rfl, HQ34.out.d12.cell rfl, HQ34.out.d12.cell rfl, by rw [← HSV.out]; exact Rd.cell (HIN.out.below HQ34.out.sw.bl).s his, by rw [← HAV.out]; exact Rd.cell (HIN.out.below HQ34.out.sw.bl).a hlt⟩
                      refine hK _ _ hS1 ?_
                      clear hK K
                      refine P_oneS 20 #[true, true, true, true, true, true, true, true, true, true, true, true, true, true, true, true, true, true, true, true, true, true, true, true, true, false, true, false, false, false, false, false] rfl (by kernel_rfl) (by kernel_rfl) rfl (fun K hK => ?_)
                      refine wp_apE 141 (.tmp 127) (.tmp 140) rfl rfl rfl rfl HQ34.out.tt.rot LT41.out (by omega) HQ34.out.sz HEV.out ?_
                      intro gA44 cA45 wy43 tA hgA
                      have HQ42 := Lib.hid (HQ34.out.grow HRS.out hgA (fun g hg => own_ge HQ34.out.tt.o2 g hg) tA.rot.rot)
                      have LT46 := Lib.hid (lit_keep LT35.out HQ34.out.tt.o2 (fun h => Nat.ne_of_lt (LL39.out h)) hgA)
                      clear tA hgA
                      have hS1 : (fun W => W.cell? ⟨b12, 0, none⟩ = some (.slice A1 i c1) ∧ W.cell? ⟨b12, 1, none⟩ = some (.slice A2 i c2) ∧ W.cell? ⟨b12, 2, none⟩ = some (.slice A3 i c3) ∧ W.cell? (adr S i) = some (.int .i64 sv) ∧ W.cell? (adr A i) = some (.int .i64 av)) wy43 := ⟨HQ42.out.d12.cell rfl, HQ42.out.d12.cell rfl, HQ42.out.d12.cell rfl, by rw [← HSV.out]; exact Rd.cell (HIN.out.below HQ42.out.sw.bl).s his, by rw [← HAV.out]; exact Rd.cell (HIN.out.below HQ42.out.sw.bl).a hlt⟩
                      refine hK _ _ hS1 ?_
                      clear hK K
                      simp only [y0, y1, y2]
                      refine P_oneS 25 #[true, true, true, true, true, true, true, true, true, true, true, true, true, true, true, true, true, true, true, true, true, true, true, true, true, true, true, false, false, false, false, false] rfl (by kernel_rfl) (by kernel_rfl) rfl (fun K hK => ?_)
                      refine wp_apB 146 (.tmp 143) (.tmp 145) rfl rfl rfl rfl HQ42.out.tt.rot.rot LT46.out (by omega) HQ42.out.sz HBV.out ?_
                      intro gA49 cA50 wy48 tA hgA
                      have HQ47 := Lib.hid (HQ42.out.grow HRS.out hgA (fun g hg => own_ge HQ42.out.tt.o3 g hg) tA.rot)
                      clear tA hgA
                      have hS1 : (fun W => W.cell? ⟨b12, 0, none⟩ = some (.slice A1 i c1) ∧ W.cell? ⟨b12, 1, none⟩ = some (.slice A2 i c2) ∧ W.cell? ⟨b12, 2, none⟩ = some (.slice A3 i c3) ∧ W.cell? (adr S i) = some (.int .i64 sv) ∧ W.cell? (adr A i) = some (.int .i64 av)) wy48 := ⟨HQ47.out.d12.cell rfl, HQ47.out.d12.cell rfl, HQ47.out.d12.cell rfl, by rw [← HSV.out]; exact Rd.cell (HIN.out.below HQ47.out.sw.bl).s his, by rw [← HAV.out]; exact Rd.cell (HIN.out.below HQ47.out.sw.bl).a hlt⟩
                      refine hK _ _ hS1 ?_
                      clear hK K
                      simp only [y0, y1, y2]
                      have dc := HQ47.out.d12.cell (j := 0) rfl
                      have df := HQ47.out.d12.frozen 0
                      refine P_one 27 #[true, true, true, true, true, true, true, true, true, true, true, true, true, true, true, true, true, true, true, true, true, true, true, true, true, true, true, true, false, false, false, false] rfl (by kernel_rfl) (by kernel_rfl) rfl (by kernel_rfl) (fun K hK => ?_)
                      go_simp
                      have HQ51 := Lib.hid (HQ47.out.put12 HRS.out HNE.out 0 (.slice (some ⟨gA7, 0, none⟩) (i + 1) cA8))
                      clear dc df
                      generalize wy48.setCell ⟨b12, 0, none⟩ (.slice (some ⟨gA7, 0, none⟩) (i + 1) cA8) = wy52 at *
                      refine hK _ _ ?_
                      clear hK K
                      refine P_takeX 28 148 (.pointer (some ⟨b12, 1, none⟩)) #[true, true, true, true, true, true, true, true, true, true, true, true, true, true, true, true, true, true, true, true, true, true, true, true, true, true, true, true, true, false, false, false] rfl rfl (by kernel_rfl) (by kernel_rfl) (by kernel_rfl) (by kernel_rfl) (by decide) (fun _ _ _ h => h) (Or.inl ⟨by rfl, fun W hS => by go_simp⟩) rfl ?_
                      simp only [y0, y1, y2]
                      have dc := HQ51.out.d12.cell (j := 1) rfl
                      have df := HQ51.out.d12.frozen 1
                      refine P_one 29 #[true, true, true, true, true, true, true, true, true, true, true, true, true, true, true, true, true, true, true, true, true, true, true, true, true, true, true, true, true, true, false, false] rfl (by kernel_rfl) (by kernel_rfl) rfl (by kernel_rfl) (fun K hK => ?_)
                      go_simp
                      have HQ53 := Lib.hid (HQ51.out.put12 HRS.out HNE.out 1 (.slice (some ⟨gA44, 0, none⟩) (i + 1) cA45))
                      clear dc df
                      generalize wy52.setCell ⟨b12, 1, none⟩ (.slice (some ⟨gA44, 0, none⟩) (i + 1) cA45) = wy54 at *
                      refine hK _ _ ?_
                      clear hK K
                      refine P_takeX 30 149 (.pointer (some ⟨b12, 2, none⟩)) #[true, true, true, true, true, true, true, true, true, true, true, true, true, true, true, true, true, true, true, true, true, true, true, true, true, true, true, true, true, true, true, false] rfl rfl (by kernel_rfl) (by kernel_rfl) (by kernel_rfl) (by kernel_rfl) (by decide) (fun _ _ _ h => h) (Or.inl ⟨by rfl, fun W hS => by go_simp⟩) rfl ?_
                      simp only [y0, y1, y2]
                      have dc := HQ53.out.d12.cell (j := 2) rfl
                      have df := HQ53.out.d12.frozen 2
                      refine P_one 31 #[true, true, true, true, true, true, true, true, true, true, true, true, true, true, true, true, true, true, true, true, true, true, true, true, true, true, true, true, true, true, true, true] rfl (by kernel_rfl) (by kernel_rfl) rfl (by kernel_rfl) (fun K hK => ?_)
                      go_simp
                      have HQ55 := Lib.hid (HQ53.out.put12 HRS.out HNE.out 2 (.slice (some ⟨gA49, 0, none⟩) (i + 1) cA50))
                      clear dc df
                      generalize wy54.setCell ⟨b12, 2, none⟩ (.slice (some ⟨gA49, 0, none⟩) (i + 1) cA50) = wy56 at *
                      refine hK _ _ ?_
                      clear hK K
                      refine P_done (by kernel_rfl) ?_ _
                      clear hS1
                      go_wp2
                      go_roundw
                      case rel => exact ⟨i + 1, some ⟨gA7, 0, none⟩, some ⟨gA44, 0, none⟩, some ⟨gA49, 0, none⟩, cA8, cA45, cA50, by omega, by go_num, HQ55.out⟩
                      case measure => simp [intOf]; omega
                  · go_simp
                    have HQ57 := Lib.hid (HQ5.out.call ((Below.refl _ wy6).alloc (Nat.le_refl _) (.cells #[.int .u8 bv] 5)))
                    have LT58 := Lib.hid (heap_alloc_new wy6 (.cells #[.int .u8 bv] 5))
                    have LL61 := Lib.hid (own_lt3 HQ5.out.tt.o1)
                    have LL62 := Lib.hid (own_lt3 HQ5.out.tt.o2)
                    have LL63 := Lib.hid (own_lt3 HQ5.out.tt.o3)
                    generalize wy6.heap.size = g59 at *
                    generalize wy6.alloc (.cells #[.int .u8 bv] 5) = wy60 at *
                    have hS1 : (fun W => W.cell? ⟨b12, 0, none⟩ = some (.slice A1 i c1) ∧ W.cell? ⟨b12, 1, none⟩ = some (.slice A2 i c2) ∧ W.cell? ⟨b12, 2, none⟩ = some (.slice A3 i c3) ∧ W.cell? (adr S i) = some (.int .i64 sv) ∧ W.cell? (adr A i) = some (.int .i64 av)) wy60 := ⟨HQ57.out.d12.cell rfl, HQ57.out.d12.cell rfl, HQ57.out.d12.cell rfl, by rw [← HSV.out]; exact Rd.cell (HIN.out.below HQ57.out.sw.bl).s his, by rw [← HAV.out]; exact Rd.cell (HIN.out.below HQ57.out.sw.bl).a hlt⟩
                    refine hK _ _ hS1 ?_
                    clear hK K
                    refine P_oneS 19 #[true, true, true, true, true, true, true, true, true, true, true, true, true, true, true, true, true, true, true, true, false, true, true, true, true, false, true, false, false, false, false, false] rfl (by kernel_rfl) (by kernel_rfl) rfl (fun K hK => ?_)
                    go_simp
                    have HQ64 := Lib.hid (HQ57.out.call ((Below.refl _ wy60).alloc (Nat.le_refl _) (.cells #[.int .i64 ev] 3)))
                    have LT65 := Lib.hid (heap_alloc_new wy60 (.cells #[.int .i64 ev] 3))
                    have LT68 := Lib.hid (heap_old' (o := .cells #[.int .i64 ev] 3) LT58.out)
                    generalize wy60.heap.size = g66 at *
                    generalize wy60.alloc (.cells #[.int .i64 ev] 3) = wy67 at *
                    have hS1 : (fun W => W.cell? ⟨b12, 0, none⟩ = some (.slice A1 i c1) ∧ W.cell? ⟨b12, 1, none⟩ = some (.slice A2 i c2) ∧ W.cell? ⟨b12, 2, none⟩ = some (.slice A3 i c3) ∧ W.cell? (adr S i) = some (.int .i64 sv) ∧ W.cell? (adr A i) = some (.int .i64 av)) wy67 := ⟨HQ64.out.d12.cell rfl, HQ64.out.d12.cell rfl, HQ64.out.d12.cell rfl, by rw [← HSV.out]; exact Rd.cell (HIN.out.below HQ64.out.sw.bl).s his, by rw [← HAV.out]; exact Rd.cell (HIN.out.below HQ64.out.sw.bl).a hlt⟩
                    refine hK _ _ hS1 ?_
                    clear hK K
                    refine P_oneS 20 #[true, true, true, true, true, true, true, true, true, true, true, true, true, true, true, true, true, true, true, true, true, true, true, true, true, false, true, false, false, false, false, false] rfl (by kernel_rfl) (by kernel_rfl) rfl (fun K hK => ?_)
                    refine wp_apE 141 (.tmp 127) (.tmp 140) rfl rfl rfl rfl HQ64.out.tt.rot LT65.out (by omega) HQ64.out.sz HEV.out ?_
                    intro gA71 cA72 wy70 tA hgA
                    have HQ69 := Lib.hid (HQ64.out.grow HRS.out hgA (fun g hg => own_ge HQ64.out.tt.o2 g hg) tA.rot.rot)
                    have LT73 := Lib.hid (lit_keep LT68.out HQ64.out.tt.o2 (fun h => Nat.ne_of_lt (LL62.out h)) hgA)
                    clear tA hgA
                    have hS1 : (fun W => W.cell? ⟨b12, 0, none⟩ = some (.slice A1 i c1) ∧ W.cell? ⟨b12, 1, none⟩ = some (.slice A2 i c2) ∧ W.cell? ⟨b12, 2, none⟩ = some (.slice A3 i c3) ∧ W.cell? (adr S i) = some (.int .i64 sv) ∧ W.cell? (adr A i) = some (.int .i64 av)) wy70 := ⟨HQ69.out.d12.cell rfl, HQ69.out.d12.cell rfl, HQ69.out.d12.cell rfl, by rw [← HSV.out]; exact Rd.cell (HIN.out.below HQ69.out.sw.bl).s his, by rw [← HAV.out]; exact Rd.cell (HIN.out.below HQ69.out.sw.bl).a hlt⟩
                    refine hK _ _ hS1 ?_
                    clear hK K
                    simp only [y0, y1, y2]
                    refine P_oneS 25 #[true, true, true, true, true, true, true, true, true, true, true, true, true, true, true, true, true, true, true, true, true, true, true, true, true, true, true, false, false, false, false, false] rfl (by kernel_rfl) (by kernel_rfl) rfl (fun K hK => ?_)
                    refine wp_apB 146 (.tmp 143) (.tmp 145) rfl rfl rfl rfl HQ69.out.tt.rot.rot LT73.out (by omega) HQ69.out.sz HBV.out ?_
                    intro gA76 cA77 wy75 tA hgA
                    have HQ74 := Lib.hid (HQ69.out.grow HRS.out hgA (fun g hg => own_ge HQ69.out.tt.o3 g hg) tA.rot)
                    clear tA hgA
                    have hS1 : (fun W => W.cell? ⟨b12, 0, none⟩ = some (.slice A1 i c1) ∧ W.cell? ⟨b12, 1, none⟩ = some (.slice A2 i c2) ∧ W.cell? ⟨b12, 2, none⟩ = some (.slice A3 i c3) ∧ W.cell? (adr S i) = some (.int .i64 sv) ∧ W.cell? (adr A i) = some (.int .i64 av)) wy75 := ⟨HQ74.out.d12.cell rfl, HQ74.out.d12.cell rfl, HQ74.out.d12.cell rfl, by rw [← HSV.out]; exact Rd.cell (HIN.out.below HQ74.out.sw.bl).s his, by rw [← HAV.out]; exact Rd.cell (HIN.out.below HQ74.out.sw.bl).a hlt⟩
                    refine hK _ _ hS1 ?_
                    clear hK K
                    simp only [y0, y1, y2]
                    have dc := HQ74.out.d12.cell (j := 0) rfl
                    have df := HQ74.out.d12.frozen 0
                    refine P_one 27 #[true, true, true, true, true, true, true, true, true, true, true, true, true, true, true, true, true, true, true, true, true, true, true, true, true, true, true, true, false, false, false, false] rfl (by kernel_rfl) (by kernel_rfl) rfl (by kernel_rfl) (fun K hK => ?_)
                    go_simp
                    have HQ78 := Lib.hid (HQ74.out.put12 HRS.out HNE.out 0 (.slice (some ⟨gA7, 0, none⟩) (i + 1) cA8))
                    clear dc df
                    generalize wy75.setCell ⟨b12, 0, none⟩ (.slice (some ⟨gA7, 0, none⟩) (i + 1) cA8) = wy79 at *
                    refine hK _ _ ?_
                    clear hK K
                    refine P_takeX 28 148 (.pointer (some ⟨b12, 1, none⟩)) #[true, true, true, true, true, true, true, true, true, true, true, true, true, true, true, true, true, true, true, true, true, true, true, true, true, true, true, true, true, false, false, false] rfl rfl (by kernel_rfl) (by kernel_rfl) (by kernel_rfl) (by kernel_rfl) (by decide) (fun _ _ _ h => h) (Or.inl ⟨by rfl, fun W hS => by go_simp⟩) rfl ?_
                    simp only [y0, y1, y2]
                    have dc := HQ78.out.d12.cell (j := 1) rfl
                    have df := HQ78.out.d12.frozen 1
                    refine P_one 29 #[true, true, true, true, true, true, true, true, true, true, true, true, true, true, true, true, true, true, true, true, true, true, true, true, true, true, true, true, true, true, false, false] rfl (by kernel_rfl) (by kernel_rfl) rfl (by kernel_rfl) (fun K hK => ?_)
                    go_simp
                    have HQ80 := Lib.hid (HQ78.out.put12 HRS.out HNE.out 1 (.slice (some ⟨gA71, 0, none⟩) (i + 1) cA72))
                    clear dc df
                    generalize wy79.setCell ⟨b12, 1, none⟩ (.slice (some ⟨gA71, 0, none⟩) (i + 1) cA72) = wy81 at *
                    refine hK _ _ ?_
                    clear hK K
                    refine P_takeX 30 149 (.pointer (some ⟨b12, 2, none⟩)) #[true, true, true, true, true, true, true, true, true, true, true, true, true, true, true, true, true, true, true, true, true, true, true, true, true, true, true, true, true, true, true, false] rfl rfl (by kernel_rfl) (by kernel_rfl) (by kernel_rfl) (by kernel_rfl) (by decide) (fun _ _ _ h => h) (Or.inl ⟨by rfl, fun W hS => by go_simp⟩) rfl ?_
                    simp only [y0, y1, y2]
                    have dc := HQ80.out.d12.cell (j := 2) rfl
                    have df := HQ80.out.d12.frozen 2
                    refine P_one 31 #[true, true, true, true, true, true, true, true, true, true, true, true, true, true, true, true, true, true, true, true, true, true, true, true, true, true, true, true, true, true, true, true] rfl (by kernel_rfl) (by kernel_rfl) rfl (by kernel_rfl) (fun K hK => ?_)
                    go_simp
                    have HQ82 := Lib.hid (HQ80.out.put12 HRS.out HNE.out 2 (.slice (some ⟨gA76, 0, none⟩) (i + 1) cA77))
                    clear dc df
                    generalize wy81.setCell ⟨b12, 2, none⟩ (.slice (some ⟨gA76, 0, none⟩) (i + 1) cA77) = wy83 at *
                    refine hK _ _ ?_
                    clear hK K
                    refine P_done (by kernel_rfl) ?_ _
                    clear hS1
                    go_wp2
                    go_roundw
                    case rel => exact ⟨i + 1, some ⟨gA7, 0, none⟩, some ⟨gA71, 0, none⟩, some ⟨gA76, 0, none⟩, cA8, cA72, cA77, by omega, by go_num, HQ82.out⟩
                    case measure => simp [intOf]; omega
                · go_simp
                  have HQ84 := Lib.hid (HQ5.out.call ((Below.refl _ wy6).alloc (Nat.le_refl _) (.cells #[.int .u8 bv] 5)))
                  have LT85 := Lib.hid (heap_alloc_new wy6 (.cells #[.int .u8 bv] 5))
                  have LL88 := Lib.hid (own_lt3 HQ5.out.tt.o1)
                  have LL89 := Lib.hid (own_lt3 HQ5.out.tt.o2)
                  have LL90 := Lib.hid (own_lt3 HQ5.out.tt.o3)
                  generalize wy6.heap.size = g86 at *
                  generalize wy6.alloc (.cells #[.int .u8 bv] 5) = wy87 at *
                  have hS1 : (fun W => W.cell? ⟨b12, 0, none⟩ = some (.slice A1 i c1) ∧ W.cell? ⟨b12, 1, none⟩ = some (.slice A2 i c2) ∧ W.cell? ⟨b12, 2, none⟩ = some (.slice A3 i c3) ∧ W.cell? (adr S i) = some (.int .i64 sv) ∧ W.cell? (adr A i) = some (.int .i64 av)) wy87 := ⟨HQ84.out.d12.cell rfl, HQ84.out.d12.cell rfl, HQ84.out.d12.cell rfl, by rw [← HSV.out]; exact Rd.cell (HIN.out.below HQ84.out.sw.bl).s his, by rw [← HAV.out]; exact Rd.cell (HIN.out.below HQ84.out.sw.bl).a hlt⟩
                  refine hK _ _ hS1 ?_
                  clear hK K
                  refine P_oneS 18 #[true, true, true, true, true, true, true, true, true, true, true, true, true, true, true, true, true, true, true, false, false, true, true, true, true, false, true, false, false, false, false, false] rfl (by kernel_rfl) (by kernel_rfl) rfl (fun K hK => ?_)
                  go_simp
                  refine (HEXT.out _).mono ?_
                  rintro e w' ⟨rfl, rfl⟩
                  refine hK _ _ hS1 ?_
                  clear hK K
                  refine P_oneS 19 #[true, true, true, true, true, true, true, true, true, true, true, true, true, true, true, true, true, true, true, true, false, true, true, true, true, false, true, false, false, false, false, false] rfl (by kernel_rfl) (by kernel_rfl) rfl (fun K hK => ?_)
                  go_simp
                  have HQ91 := Lib.hid (HQ84.out.call ((Below.refl _ wy87).alloc (Nat.le_refl _) (.cells #[.int .i64 ev] 3)))
                  have LT92 := Lib.hid (heap_alloc_new wy87 (.cells #[.int .i64 ev] 3))
                  have LT95 := Lib.hid (heap_old' (o := .cells #[.int .i64 ev] 3) LT85.out)
                  generalize wy87.heap.size = g93 at *
                  generalize wy87.alloc (.cells #[.int .i64 ev] 3) = wy94 at *
                  have hS1 : (fun W => W.cell? ⟨b12, 0, none⟩ = some (.slice A1 i c1) ∧ W.cell? ⟨b12, 1, none⟩ = some (.slice A2 i c2) ∧ W.cell? ⟨b12, 2, none⟩ = some (.slice A3 i c3) ∧ W.cell? (adr S i) = some (.int .i64 sv) ∧ W.cell? (adr A i) = some (.int .i64 av)) wy94 := ⟨HQ91.out.d12.cell rfl, HQ91.out.d12.cell rfl, HQ91.out.d12.cell rfl, by rw [← HSV.out]; exact Rd.cell (HIN.out.below HQ91.out.sw.bl).s his, by rw [← HAV.out]; exact Rd.cell (HIN.out.below HQ91.out.sw.bl).a hlt⟩
                  refine hK _ _ hS1 ?_
                  clear hK K
                  refine P_oneS 20 #[true, true, true, true, true, true, true, true, true, true, true, true, true, true, true, true, true, true, true, true, true, true, true, true, true, false, true, false, false, false, false, false] rfl (by kernel_rfl) (by kernel_rfl) rfl (fun K hK => ?_)
                  refine wp_apE 141 (.tmp 127) (.tmp 140) rfl rfl rfl rfl HQ91.out.tt.rot LT92.out (by omega) HQ91.out.sz HEV.out ?_
                  intro gA98 cA99 wy97 tA hgA
                  have HQ96 := Lib.hid (HQ91.out.grow HRS.out hgA (fun g hg => own_ge HQ91.out.tt.o2 g hg) tA.rot.rot)
                  have LT100 := Lib.hid (lit_keep LT95.out HQ91.out.tt.o2 (fun h => Nat.ne_of_lt (LL89.out h)) hgA)
                  clear tA hgA
                  have hS1 : (fun W => W.cell? ⟨b12, 0, none⟩ = some (.slice A1 i c1) ∧ W.cell? ⟨b12, 1, none⟩ = some (.slice A2 i c2) ∧ W.cell? ⟨b12, 2, none⟩ = some (.slice A3 i c3) ∧ W.cell? (adr S i) = some (.int .i64 sv) ∧ W.cell? (adr A i) = some (.int .i64 av)) wy97 := ⟨HQ96.out.d12.cell rfl, HQ96.out.d12.cell rfl, HQ96.out.d12.cell rfl, by rw [← HSV.out]; exact Rd.cell (HIN.out.below HQ96.out.sw.bl).s his, by rw [← HAV.out]; exact Rd.cell (HIN.out.below HQ96.out.sw.bl).a hlt⟩
                  refine hK _ _ hS1 ?_
                  clear hK K
                  simp only [y0, y1, y2]
                  refine P_oneS 25 #[true, true, true, true, true, true, true, true, true, true, true, true, true, true, true, true, true, true, true, true, true, true, true, true, true, true, true, false, false, false, false, false] rfl (by kernel_rfl) (by kernel_rfl) rfl (fun K hK => ?_)
                  refine wp_apB 146 (.tmp 143) (.tmp 145) rfl rfl rfl rfl HQ96.out.tt.rot.rot LT100.out (by omega) HQ96.out.sz HBV.out ?_
                  intro gA103 cA104 wy102 tA hgA
                  have HQ101 := Lib.hid (HQ96.out.grow HRS.out hgA (fun g hg => own_ge HQ96.out.tt.o3 g hg) tA.rot)
                  clear tA hgA
                  have hS1 : (fun W => W.cell? ⟨b12, 0, none⟩ = some (.slice A1 i c1) ∧ W.cell? ⟨b12, 1, none⟩ = some (.slice A2 i c2) ∧ W.cell? ⟨b12, 2, none⟩ = some (.slice A3 i c3) ∧ W.cell? (adr S i) = some (.int .i64 sv) ∧ W.cell? (adr A i) = some (.int .i64 av)) wy102 := ⟨HQ101.out.d12.cell rfl, HQ101.out.d12.cell rfl, HQ101.out.d12.cell rfl, by rw [← HSV.out]; exact Rd.cell (HIN.out.below HQ101.out.sw.bl).s his, by rw [← HAV.out]; exact Rd.cell (HIN.out.below HQ101.out.sw.bl).a hlt⟩
                  refine hK _ _ hS1 ?_
                  clear hK K
                  simp only [y0, y1, y2]
                  have dc := HQ101.out.d12.cell (j := 0) rfl
                  have df := HQ101.out.d12.frozen 0
                  refine P_one 27 #[true, true, true, true, true, true, true, true, true, true, true, true, true, true, true, true, true, true, true, true, true, true, true, true, true, true, true, true, false, false, false, false] rfl (by kernel_rfl) (by kernel_rfl) rfl (by kernel_rfl) (fun K hK => ?_)
                  go_simp
                  have HQ105 := Lib.hid (HQ101.out.put12 HRS.out HNE.out 0 (.slice (some ⟨gA7, 0, none⟩) (i + 1) cA8))
                  clear dc df
                  generalize wy102.setCell ⟨b12, 0, none⟩ (.slice (some ⟨gA7, 0, none⟩) (i + 1) cA8) = wy106 at *
                  refine hK _ _ ?_
                  clear hK K
                  refine P_takeX 28 148 (.pointer (some ⟨b12, 1, none⟩)) #[true, true, true, true, true, true, true, true, true, true, true, true, true, true, true, true, true, true, true, true, true, true, true, true, true, true, true, true, true, false, false, false] rfl rfl (by kernel_rfl) (by kernel_rfl) (by kernel_rfl) (by kernel_rfl) (by decide) (fun _ _ _ h => h) (Or.inl ⟨by rfl, fun W hS => by go_simp⟩) rfl ?_
                  simp only [y0, y1, y2]
                  have dc := HQ105.out.d12.cell (j := 1) rfl
                  have df := HQ105.out.d12.frozen 1
                  refine P_one 29 #[true, true, true, true, true, true, true, true, true, true, true, true, true, true, true, true, true, true, true, true, true, true, true, true, true, true, true, true, true, true, false, false] rfl (by kernel_rfl) (by kernel_rfl) rfl (by kernel_rfl) (fun K hK => ?_)
                  go_simp
                  have HQ107 := Lib.hid (HQ105.out.put12 HRS.out HNE.out 1 (.slice (some ⟨gA98, 0, none⟩) (i + 1) cA99))
                  clear dc df
                  generalize wy106.setCell ⟨b12, 1, none⟩ (.slice (some ⟨gA98, 0, none⟩) (i + 1) cA99) = wy108 at *
                  refine hK _ _ ?_
                  clear hK K
                  refine P_takeX 30 149 (.pointer (some ⟨b12, 2, none⟩)) #[true, true, true, true, true, true, true, true, true, true, true, true, true, true, true, true, true, true, true, true, true, true, true, true, true, true, true, true, true, true, true, false] rfl rfl (by kernel_rfl) (by kernel_rfl) (by kernel_rfl) (by kernel_rfl) (by decide) (fun _ _ _ h => h) (Or.inl ⟨by rfl, fun W hS => by go_simp⟩) rfl ?_
                  simp only [y0, y1, y2]
                  have dc := HQ107.out.d12.cell (j := 2) rfl
                  have df := HQ107.out.d12.frozen 2
                  refine P_one 31 #[true, true, true, true, true, true, true, true, true, true, true, true, true, true, true, true, true, true, true, true, true, true, true, true, true, true, true, true, true, true, true, true] rfl (by kernel_rfl) (by kernel_rfl) rfl (by kernel_rfl) (fun K hK => ?_)
                  go_simp
                  have HQ109 := Lib.hid (HQ107.out.put12 HRS.out HNE.out 2 (.slice (some ⟨gA103, 0, none⟩) (i + 1) cA104))
                  clear dc df
                  generalize wy108.setCell ⟨b12, 2, none⟩ (.slice (some ⟨gA103, 0, none⟩) (i + 1) cA104) = wy110 at *
                  refine hK _ _ ?_
                  clear hK K
                  refine P_done (by kernel_rfl) ?_ _
                  clear hS1
                  go_wp2
                  go_roundw
                  case rel => exact ⟨i + 1, some ⟨gA7, 0, none⟩, some ⟨gA98, 0, none⟩, some ⟨gA103, 0, none⟩, cA8, cA99, cA104, by omega, by go_num, HQ109.out⟩
                  case measure => simp [intOf]; omega
              · go_simp
                have HQ111 := Lib.hid (HQ1.out.call ((Below.refl _ wy4).alloc (Nat.le_refl _) (.cells #[.int .u8 bv] 5)))
                have LT112 := Lib.hid (heap_alloc_new wy4 (.cells #[.int .u8 bv] 5))
                have LL115 := Lib.hid (own_lt3 HQ1.out.tt.o1)
                have LL116 := Lib.hid (own_lt3 HQ1.out.tt.o2)
                have LL117 := Lib.hid (own_lt3 HQ1.out.tt.o3)
                have LT118 := Lib.hid (heap_old' (o := .cells #[.int .u8 bv] 5) LT2.out)
                generalize wy4.heap.size = g113 at *
                generalize wy4.alloc (.cells #[.int .u8 bv] 5) = wy114 at *
                have hS1 : (fun W => W.cell? ⟨b12, 0, none⟩ = some (.slice A1 i c1) ∧ W.cell? ⟨b12, 1, none⟩ = some (.slice A2 i c2) ∧ W.cell? ⟨b12, 2, none⟩ = some (.slice A3 i c3) ∧ W.cell? (adr S i) = some (.int .i64 sv) ∧ W.cell? (adr A i) = some (.int .i64 av)) wy114 := ⟨HQ111.out.d12.cell rfl, HQ111.out.d12.cell rfl, HQ111.out.d12.cell rfl, by rw [← HSV.out]; exact Rd.cell (HIN.out.below HQ111.out.sw.bl).s his, by rw [← HAV.out]; exact Rd.cell (HIN.out.below HQ111.out.sw.bl).a hlt⟩
                refine hK _ _ hS1 ?_
                clear hK K
                refine P_oneS 4 #[true, true, true, true, true, true, true, true, true, true, true, true, true, true, true, true, true, true, false, false, false, true, true, true, true, false, false, false, false, false, false, false] rfl (by kernel_rfl) (by kernel_rfl) rfl (fun K hK => ?_)
                refine wp_apT 125 (.tmp 122) (.tmp 124) rfl rfl rfl rfl HQ111.out.tt LT118.out (by omega) HQ111.out.sz HTT.out ?_
                intro gA121 cA122 wy120 tA hgA
                have HQ119 := Lib.hid (HQ111.out.grow HRS.out hgA (fun g hg => own_ge HQ111.out.tt.o1 g hg) tA)
                have LT123 := Lib.hid (lit_keep LT112.out HQ111.out.tt.o1 (fun h => Nat.ne_of_lt (LL115.out h)) hgA)
                clear tA hgA
                have hS1 : (fun W => W.cell? ⟨b12, 0, none⟩ = some (.slice A1 i c1) ∧ W.cell? ⟨b12, 1, none⟩ = some (.slice A2 i c2) ∧ W.cell? ⟨b12, 2, none⟩ = some (.slice A3 i c3) ∧ W.cell? (adr S i) = some (.int .i64 sv) ∧ W.cell? (adr A i) = some (.int .i64 av)) wy120 := ⟨HQ119.out.d12.cell rfl, HQ119.out.d12.cell rfl, HQ119.out.d12.cell rfl, by rw [← HSV.out]; exact Rd.cell (HIN.out.below HQ119.out.sw.bl).s his, by rw [← HAV.out]; exact Rd.cell (HIN.out.below HQ119.out.sw.bl).a hlt⟩
                refine hK _ _ hS1 ?_
                clear hK K
                simp only [y0, y1, y2]
                refine P_w 26 147 (.pointer (some ⟨b12, 0, none⟩)) #[true, true, true, true, true, true, true, true, true, true, true, true, true, true, true, true, true, true, false, false, false, true, true, true, true, false, true, false, false, false, false, false] rfl hS1 ?_
                simp only [y0, y1, y2]
                refine P_oneS 18 #[true, true, true, true, true, true, true, true, true, true, true, true, true, true, true, true, true, true, true, false, false, true, true, true, true, false, true, false, false, false, false, false] rfl (by kernel_rfl) (by kernel_rfl) rfl (fun K hK => ?_)
                go_simp
                refine (HEXT.out _).mono ?_
                rintro e w' ⟨rfl, rfl⟩
                refine hK _ _ hS1 ?_
                clear hK K
                refine P_oneS 19 #[true, true, true, true, true, true, true, true, true, true, true, true, true, true, true, true, true, true, true, true, false, true, true, true, true, false, true, false, false, false, false, false] rfl (by kernel_rfl) (by kernel_rfl) rfl (fun K hK => ?_)
                go_simp
                have HQ124 := Lib.hid (HQ119.out.call ((Below.refl _ wy120).alloc (Nat.le_refl _) (.cells #[.int .i64 ev] 3)))
                have LT125 := Lib.hid (heap_alloc_new wy120 (.cells #[.int .i64 ev] 3))
                have LT128 := Lib.hid (heap_old' (o := .cells #[.int .i64 ev] 3) LT123.out)
                generalize wy120.heap.size = g126 at *
                generalize wy120.alloc (.cells #[.int .i64 ev] 3) = wy127 at *
                have hS1 : (fun W => W.cell? ⟨b12, 0, none⟩ = some (.slice A1 i c1) ∧ W.cell? ⟨b12, 1, none⟩ = some (.slice A2 i c2) ∧ W.cell? ⟨b12, 2, none⟩ = some (.slice A3 i c3) ∧ W.cell? (adr S i) = some (.int .i64 sv) ∧ W.cell? (adr A i) = some (.int .i64 av)) wy127 := ⟨HQ124.out.d12.cell rfl, HQ124.out.d12.cell rfl, HQ124.out.d12.cell rfl, by rw [← HSV.out]; exact Rd.cell (HIN.out.below HQ124.out.sw.bl).s his, by rw [← HAV.out]; exact Rd.cell (HIN.out.below HQ124.out.sw.bl).a hlt⟩
                refine hK _ _ hS1 ?_
                clear hK K
                refine P_oneS 20 #[true, true, true, true, true, true, true, true, true, true, true, true, true, true, true, true, true, true, true, true, true, true, true, true, true, false, true, false, false, false, false, false] rfl (by kernel_rfl) (by kernel_rfl) rfl (fun K hK => ?_)
                refine wp_apE 141 (.tmp 127) (.tmp 140) rfl rfl rfl rfl HQ124.out.tt.rot LT125.out (by omega) HQ124.out.sz HEV.out ?_
                intro gA131 cA132 wy130 tA hgA
                have HQ129 := Lib.hid (HQ124.out.grow HRS.out hgA (fun g hg => own_ge HQ124.out.tt.o2 g hg) tA.rot.rot)
                have LT133 := Lib.hid (lit_keep LT128.out HQ124.out.tt.o2 (fun h => Nat.ne_of_lt (LL116.out h)) hgA)
                clear tA hgA
                have hS1 : (fun W => W.cell? ⟨b12, 0, none⟩ = some (.slice A1 i c1) ∧ W.cell? ⟨b12, 1, none⟩ = some (.slice A2 i c2) ∧ W.cell? ⟨b12, 2, none⟩ = some (.slice A3 i c3) ∧ W.cell? (adr S i) = some (.int .i64 sv) ∧ W.cell? (adr A i) = some (.int .i64 av)) wy130 := ⟨HQ129.out.d12.cell rfl, HQ129.out.d12.cell rfl, HQ129.out.d12.cell rfl, by rw [← HSV.out]; exact Rd.cell (HIN.out.below HQ129.out.sw.bl).s his, by rw [← HAV.out]; exact Rd.cell (HIN.out.below HQ129.out.sw.bl).a hlt⟩
                refine hK _ _ hS1 ?_
                clear hK K
                simp only [y0, y1, y2]
                refine P_oneS 25 #[true, true, true, true, true, true, true, true, true, true, true, true, true, true, true, true, true, true, true, true, true, true, true, true, true, true, true, false, false, false, false, false] rfl (by kernel_rfl) (by kernel_rfl) rfl (fun K hK => ?_)
                refine wp_apB 146 (.tmp 143) (.tmp 145) rfl rfl rfl rfl HQ129.out.tt.rot.rot LT133.out (by omega) HQ129.out.sz HBV.out ?_
                intro gA136 cA137 wy135 tA hgA
                have HQ134 := Lib.hid (HQ129.out.grow HRS.out hgA (fun g hg => own_ge HQ129.out.tt.o3 g hg) tA.rot)
                clear tA hgA
                have hS1 : (fun W => W.cell? ⟨b12, 0, none⟩ = some (.slice A1 i c1) ∧ W.cell? ⟨b12, 1, none⟩ = some (.slice A2 i c2) ∧ W.cell? ⟨b12, 2, none⟩ = some (.slice A3 i c3) ∧ W.cell? (adr S i) = some (.int .i64 sv) ∧ W.cell? (adr A i) = some (.int .i64 av)) wy135 := ⟨HQ134.out.d12.cell rfl, HQ134.out.d12.cell rfl, HQ134.out.d12.cell rfl, by rw [← HSV.out]; exact Rd.cell (HIN.out.below HQ134.out.sw.bl).s his, by rw [← HAV.out]; exact Rd.cell (HIN.out.below HQ134.out.sw.bl).a hlt⟩
                refine hK _ _ hS1 ?_
                clear hK K
                simp only [y0, y1, y2]
                have dc := HQ134.out.d12.cell (j := 0) rfl
                have df := HQ134.out.d12.frozen 0
                refine P_one 27 #[true, true, true, true, true, true, true, true, true, true, true, true, true, true, true, true, true, true, true, true, true, true, true, true, true, true, true, true, false, false, false, false] rfl (by kernel_rfl) (by kernel_rfl) rfl (by kernel_rfl) (fun K hK => ?_)
                go_simp
                have HQ138 := Lib.hid (HQ134.out.put12 HRS.out HNE.out 0 (.slice (some ⟨gA121, 0, none⟩) (i + 1) cA122))
                clear dc df
                generalize wy135.setCell ⟨b12, 0, none⟩ (.slice (some ⟨gA121, 0, none⟩) (i + 1) cA122) = wy139 at *
                refine hK _ _ ?_
                clear hK K
                refine P_takeX 28 148 (.pointer (some ⟨b12, 1, none⟩)) #[true, true, true, true, true, true, true, true, true, true, true, true, true, true, true, true, true, true, true, true, true, true, true, true, true, true, true, true, true, false, false, false] rfl rfl (by kernel_rfl) (by kernel_rfl) (by kernel_rfl) (by kernel_rfl) (by decide) (fun _ _ _ h => h) (Or.inl ⟨by rfl, fun W hS => by go_simp⟩) rfl ?_
                simp only [y0, y1, y2]
                have dc := HQ138.out.d12.cell (j := 1) rfl
                have df := HQ138.out.d12.frozen 1
                refine P_one 29 #[true, true, true, true, true, true, true, true, true, true, true, true, true, true, true, true, true, true, true, true, true, true, true, true, true, true, true, true, true, true, false, false] rfl (by kernel_rfl) (by kernel_rfl) rfl (by kernel_rfl) (fun K hK => ?_)
                go_simp
                have HQ140 := Lib.hid (HQ138.out.put12 HRS.out HNE.out 1 (.slice (some ⟨gA131, 0, none⟩) (i + 1) cA132))
                clear dc df
                generalize wy139.setCell ⟨b12, 1, none⟩ (.slice (some ⟨gA131, 0, none⟩) (i + 1) cA132) = wy141 at *
                refine hK _ _ ?_
                clear hK K
                refine P_takeX 30 149 (.pointer (some ⟨b12, 2, none⟩)) #[true, true, true, true, true, true, true, true, true, true, true, true, true, true, true, true, true, true, true, true, true, true, true, true, true, true, true, true, true, true, true, false] rfl rfl (by kernel_rfl) (by kernel_rfl) (by kernel_rfl) (by kernel_rfl) (by decide) (fun _ _ _ h => h) (Or.inl ⟨by rfl, fun W hS => by go_simp⟩) rfl ?_
                simp only [y0, y1, y2]
                have dc := HQ140.out.d12.cell (j := 2) rfl
                have df := HQ140.out.d12.frozen 2
                refine P_one 31 #[true, true, true, true, true, true, true, true, true, true, true, true, true, true, true, true, true, true, true, true, true, true, true, true, true, true, true, true, true, true, true, true] rfl (by kernel_rfl) (by kernel_rfl) rfl (by kernel_rfl) (fun K hK => ?_)
                go_simp
                have HQ142 := Lib.hid (HQ140.out.put12 HRS.out HNE.out 2 (.slice (some ⟨gA136, 0, none⟩) (i + 1) cA137))
                clear dc df
                generalize wy141.setCell ⟨b12, 2, none⟩ (.slice (some ⟨gA136, 0, none⟩) (i + 1) cA137) = wy143 at *
                refine hK _ _ ?_
                clear hK K
                refine P_done (by kernel_rfl) ?_ _
                clear hS1
                go_wp2
                go_roundw
                case rel => exact ⟨i + 1, some ⟨gA121, 0, none⟩, some ⟨gA131, 0, none⟩, some ⟨gA136, 0, none⟩, cA122, cA132, cA137, by omega, by go_num, HQ142.out⟩
                case measure => simp [intOf]; omega
            · go_simp
              have HQ144 := Lib.hid (HWD.out.call ((Below.refl _ wd0).alloc (Nat.le_refl _) (.cells #[.int .u8 bv] 5)))
              have LT145 := Lib.hid (heap_alloc_new wd0 (.cells #[.int .u8 bv] 5))
              have LL148 := Lib.hid (own_lt3 HWD.out.tt.o1)
              have LL149 := Lib.hid (own_lt3 HWD.out.tt.o2)
              have LL150 := Lib.hid (own_lt3 HWD.out.tt.o3)
              generalize wd0.heap.size = g146 at *
              generalize wd0.alloc (.cells #[.int .u8 bv] 5) = wy147 at *
              have hS1 : (fun W => W.cell? ⟨b12, 0, none⟩ = some (.slice A1 i c1) ∧ W.cell? ⟨b12, 1, none⟩ = some (.slice A2 i c2) ∧ W.cell? ⟨b12, 2, none⟩ = some (.slice A3 i c3) ∧ W.cell? (adr S i) = some (.int .i64 sv) ∧ W.cell? (adr A i) = some (.int .i64 av)) wy147 := ⟨HQ144.out.d12.cell rfl, HQ144.out.d12.cell rfl, HQ144.out.d12.cell rfl, by rw [← HSV.out]; exact Rd.cell (HIN.out.below HQ144.out.sw.bl).s his, by rw [← HAV.out]; exact Rd.cell (HIN.out.below HQ144.out.sw.bl).a hlt⟩
              refine hK _ _ hS1 ?_
              clear hK K
              refine P_oneS 3 #[true, true, true, true, false, true, true, true, true, true, true, true, true, true, true, true, true, true, false, false, false, true, true, true, true, false, false, false, false, false, false, false] rfl (by kernel_rfl) (by kernel_rfl) rfl (fun K hK => ?_)
              go_simp
              have HQ151 := Lib.hid (HQ144.out.call ((Below.refl _ wy147).alloc (Nat.le_refl _) (.cells #[.int .i64 tv] 3)))
              have LT152 := Lib.hid (heap_alloc_new wy147 (.cells #[.int .i64 tv] 3))
              have LT155 := Lib.hid (heap_old' (o := .cells #[.int .i64 tv] 3) LT145.out)
              generalize wy147.heap.size = g153 at *
              generalize wy147.alloc (.cells #[.int .i64 tv] 3) = wy154 at *
              have hS1 : (fun W => W.cell? ⟨b12, 0, none⟩ = some (.slice A1 i c1) ∧ W.cell? ⟨b12, 1, none⟩ = some (.slice A2 i c2) ∧ W.cell? ⟨b12, 2, none⟩ = some (.slice A3 i c3) ∧ W.cell? (adr S i) = some (.int .i64 sv) ∧ W.cell? (adr A i) = some (.int .i64 av)) wy154 := ⟨HQ151.out.d12.cell rfl, HQ151.out.d12.cell rfl, HQ151.out.d12.cell rfl, by rw [← HSV.out]; exact Rd.cell (HIN.out.below HQ151.out.sw.bl).s his, by rw [← HAV.out]; exact Rd.cell (HIN.out.below HQ151.out.sw.bl).a hlt⟩
              refine hK _ _ hS1 ?_
              clear hK K
              refine P_oneS 4 #[true, true, true, true, true, true, true, true, true, true, true, true, true, true, true, true, true, true, false, false, false, true, true, true, true, false, false, false, false, false, false, false] rfl (by kernel_rfl) (by kernel_rfl) rfl (fun K hK => ?_)
              refine wp_apT 125 (.tmp 122) (.tmp 124) rfl rfl rfl rfl HQ151.out.tt LT152.out (by omega) HQ151.out.sz HTT.out ?_
              intro gA158 cA159 wy157 tA hgA
              have HQ156 := Lib.hid (HQ151.out.grow HRS.out hgA (fun g hg => own_ge HQ151.out.tt.o1 g hg) tA)
              have LT160 := Lib.hid (lit_keep LT155.out HQ151.out.tt.o1 (fun h => Nat.ne_of_lt (LL148.out h)) hgA)
              clear tA hgA
              have hS1 : (fun W => W.cell? ⟨b12, 0, none⟩ = some (.slice A1 i c1) ∧ W.cell? ⟨b12, 1, none⟩ = some (.slice A2 i c2) ∧ W.cell? ⟨b12, 2, none⟩ = some (.slice A3 i c3) ∧ W.cell? (adr S i) = some (.int .i64 sv) ∧ W.cell? (adr A i) = some (.int .i64 av)) wy157 := ⟨HQ156.out.d12.cell rfl, HQ156.out.d12.cell rfl, HQ156.out.d12.cell rfl, by rw [← HSV.out]; exact Rd.cell (HIN.out.below HQ156.out.sw.bl).s his, by rw [← HAV.out]; exact Rd.cell (HIN.out.below HQ156.out.sw.bl).a hlt⟩
              refine hK _ _ hS1 ?_
              clear hK K
              simp only [y0, y1, y2]
              refine P_w 26 147 (.pointer (some ⟨b12, 0, none⟩)) #[true, true, true, true, true, true, true, true, true, true, true, true, true, true, true, true, true, true, false, false, false, true, true, true, true, false, true, false, false, false, false, false] rfl hS1 ?_
              simp only [y0, y1, y2]
              refine P_oneS 18 #[true, true, true, true, true, true, true, true, true, true, true, true, true, true, true, true, true, true, true, false, false, true, true, true, true, false, true, false, false, false, false, false] rfl (by kernel_rfl) (by kernel_rfl) rfl (fun K hK => ?_)
              go_simp
              refine (HEXT.out _).mono ?_
              rintro e w' ⟨rfl, rfl⟩
              refine hK _ _ hS1 ?_
              clear hK K
              refine P_oneS 19 #[true, true, true, true, true, true, true, true, true, true, true, true, true, true, true, true, true, true, true, true, false, true, true, true, true, false, true, false, false, false, false, false] rfl (by kernel_rfl) (by kernel_rfl) rfl (fun K hK => ?_)
              go_simp
              have HQ161 := Lib.hid (HQ156.out.call ((Below.refl _ wy157).alloc (Nat.le_refl _) (.cells #[.int .i64 ev] 3)))
              have LT162 := Lib.hid (heap_alloc_new wy157 (.cells #[.int .i64 ev] 3))
              have LT165 := Lib.hid (heap_old' (o := .cells #[.int .i64 ev] 3) LT160.out)
              generalize wy157.heap.size = g163 at *
              generalize wy157.alloc (.cells #[.int .i64 ev] 3) = wy164 at *
              have hS1 : (fun W => W.cell? ⟨b12, 0, none⟩ = some (.slice A1 i c1) ∧ W.cell? ⟨b12, 1, none⟩ = some (.slice A2 i c2) ∧ W.cell? ⟨b12, 2, none⟩ = some (.slice A3 i c3) ∧ W.cell? (adr S i) = some (.int .i64 sv) ∧ W.cell? (adr A i) = some (.int .i64 av)) wy164 := ⟨HQ161.out.d12.cell rfl, HQ161.out.d12.cell rfl, HQ161.out.d12.cell rfl, by rw [← HSV.out]; exact Rd.cell (HIN.out.below HQ161.out.sw.bl).s his, by rw [← HAV.out]; exact Rd.cell (HIN.out.below HQ161.out.sw.bl).a hlt⟩
              refine hK _ _ hS1 ?_
              clear hK K
              refine P_oneS 20 #[true, true, true, true, true, true, true, true, true, true, true, true, true, true, true, true, true, true, true, true, true, true, true, true, true, false, true, false, false, false, false, false] rfl (by kernel_rfl) (by kernel_rfl) rfl (fun K hK => ?_)
              refine wp_apE 141 (.tmp 127) (.tmp 140) rfl rfl rfl rfl HQ161.out.tt.rot LT162.out (by omega) HQ161.out.sz HEV.out ?_
              intro gA168 cA169 wy167 tA hgA
              have HQ166 := Lib.hid (HQ161.out.grow HRS.out hgA (fun g hg => own_ge HQ161.out.tt.o2 g hg) tA.rot.rot)
              have LT170 := Lib.hid (lit_keep LT165.out HQ161.out.tt.o2 (fun h => Nat.ne_of_lt (LL149.out h)) hgA)
              clear tA hgA
              have hS1 : (fun W => W.cell? ⟨b12, 0, none⟩ = some (.slice A1 i c1) ∧ W.cell? ⟨b12, 1, none⟩ = some (.slice A2 i c2) ∧ W.cell? ⟨b12, 2, none⟩ = some (.slice A3 i c3) ∧ W.cell? (adr S i) = some (.int .i64 sv) ∧ W.cell? (adr A i) = some (.int .i64 av)) wy167 := ⟨HQ166.out.d12.cell rfl, HQ166.out.d12.cell rfl, HQ166.out.d12.cell rfl, by rw [← HSV.out]; exact Rd.cell (HIN.out.below HQ166.out.sw.bl).s his, by rw [← HAV.out]; exact Rd.cell (HIN.out.below HQ166.out.sw.bl).a hlt⟩
              refine hK _ _ hS1 ?_
              clear hK K
              simp only [y0, y1, y2]
              refine P_oneS 25 #[true, true, true, true, true, true, true, true, true, true, true, true, true, true, true, true, true, true, true, true, true, true, true, true, true, true, true, false, false, false, false, false] rfl (by kernel_rfl) (by kernel_rfl) rfl (fun K hK => ?_)
              refine wp_apB 146 (.tmp 143) (.tmp 145) rfl rfl rfl rfl HQ166.out.tt.rot.rot LT170.out (by omega) HQ166.out.sz HBV.out ?_
              intro gA173 cA174 wy172 tA hgA
              have HQ171 := Lib.hid (HQ166.out.grow HRS.out hgA (fun g hg => own_ge HQ166.out.tt.o3 g hg) tA.rot)
              clear tA hgA
              have hS1 : (fun W => W.cell? ⟨b12, 0, none⟩ = some (.slice A1 i c1) ∧ W.cell? ⟨b12, 1, none⟩ = some (.slice A2 i c2) ∧ W.cell? ⟨b12, 2, none⟩ = some (.slice A3 i c3) ∧ W.cell? (adr S i) = some (.int .i64 sv) ∧ W.cell? (adr A i) = some (.int .i64 av)) wy172 := ⟨HQ171.out.d12.cell rfl, HQ171.out.d12.cell rfl, HQ171.out.d12.cell rfl, by rw [← HSV.out]; exact Rd.cell (HIN.out.below HQ171.out.sw.bl).s his, by rw [← HAV.out]; exact Rd.cell (HIN.out.below HQ171.out.sw.bl).a hlt⟩
              refine hK _ _ hS1 ?_
              clear hK K
              simp only [y0, y1, y2]
              have dc := HQ171.out.d12.cell (j := 0) rfl
              have df := HQ171.out.d12.frozen 0
              refine P_one 27 #[true, true, true, true, true, true, true, true, true, true, true, true, true, true, true, true, true, true, true, true, true, true, true, true, true, true, true, true, false, false, false, false] rfl (by kernel_rfl) (by kernel_rfl) rfl (by kernel_rfl) (fun K hK => ?_)
              go_simp
              have HQ175 := Lib.hid (HQ171.out.put12 HRS.out HNE.out 0 (.slice (some ⟨gA158, 0, none⟩) (i + 1) cA159))
              clear dc df
              generalize wy172.setCell ⟨b12, 0, none⟩ (.slice (some ⟨gA158, 0, none⟩) (i + 1) cA159) = wy176 at *
              refine hK _ _ ?_
              clear hK K
              refine P_takeX 28 148 (.pointer (some ⟨b12, 1, none⟩)) #[true, true, true, true, true, true, true, true, true, true, true, true, true, true, true, true, true, true, true, true, true, true, true, true, true, true, true, true, true, false, false, false] rfl rfl (by kernel_rfl) (by kernel_rfl) (by kernel_rfl) (by kernel_rfl) (by decide) (fun _ _ _ h => h) (Or.inl ⟨by rfl, fun W hS => by go_simp⟩) rfl ?_
              simp only [y0, y1, y2]
              have dc := HQ175.out.d12.cell (j := 1) rfl
              have df := HQ175.out.d12.frozen 1
              refine P_one 29 #[true, true, true, true, true, true, true, true, true, true, true, true, true, true, true, true, true, true, true, true, true, true, true, true, true, true, true, true, true, true, false, false] rfl (by kernel_rfl) (by kernel_rfl) rfl (by kernel_rfl) (fun K hK => ?_)
              go_simp
              have HQ177 := Lib.hid (HQ175.out.put12 HRS.out HNE.out 1 (.slice (some ⟨gA168, 0, none⟩) (i + 1) cA169))
              clear dc df
              generalize wy176.setCell ⟨b12, 1, none⟩ (.slice (some ⟨gA168, 0, none⟩) (i + 1) cA169) = wy178 at *
              refine hK _ _ ?_
              clear hK K
              refine P_takeX 30 149 (.pointer (some ⟨b12, 2, none⟩)) #[true, true, true, true, true, true, true, true, true, true, true, true, true, true, true, true, true, true, true, true, true, true, true, true, true, true, true, true, true, true, true, false] rfl rfl (by kernel_rfl) (by kernel_rfl) (by kernel_rfl) (by kernel_rfl) (by decide) (fun _ _ _ h => h) (Or.inl ⟨by rfl, fun W hS => by go_simp⟩) rfl ?_
              simp only [y0, y1, y2]
              have dc := HQ177.out.d12.cell (j := 2) rfl
              have df := HQ177.out.d12.frozen 2
              refine P_one 31 #[true, true, true, true, true, true, true, true, true, true, true, true, true, true, true, true, true, true, true, true, true, true, true, true, true, true, true, true, true, true, true, true] rfl (by kernel_rfl) (by kernel_rfl) rfl (by kernel_rfl) (fun K hK => ?_)
              go_simp
              have HQ179 := Lib.hid (HQ177.out.put12 HRS.out HNE.out 2 (.slice (some ⟨gA173, 0, none⟩) (i + 1) cA174))
              clear dc df
              generalize wy178.setCell ⟨b12, 2, none⟩ (.slice (some ⟨gA173, 0, none⟩) (i + 1) cA174) = wy180 at *
              refine hK _ _ ?_
              clear hK K
              refine P_done (by kernel_rfl) ?_ _
              clear hS1
              go_wp2
              go_roundw
              case rel => exact ⟨i + 1, some ⟨gA158, 0, none⟩, some ⟨gA168, 0, none⟩, some ⟨gA173, 0, none⟩, cA159, cA169, cA174, by omega, by go_num, HQ179.out⟩
              case measure => simp [intOf]; omega
    · obtain rfl : i = o.a.length := by omega
      have h12 := hw.d12
      have h6 := hw.d6
      have HW := Lib.hid hw
      clear hw
      go_wp2_with (first
        | (refine ldrow rfl 104 (.tmp 12) rfl rfl h12 _ Tryz.underlying104 rfl (by rw [info28]; rfl) ?_)
        | (refine strow rfl 104 (.tmp 6) (.tmp 150) rfl rfl rfl h6 rfl (by rw [info28]; rfl) (by simp [RowD.val, Value.oneCell']) ?_; intro W9 h1 h2; have H91 := Lib.hid h1; have H92 := Lib.hid h2; clear h1 h2 h6 h12))
      have hl := HW.out
      have a1 := HRS.out.h12
      have a2 := HRS.out.h6
      have hb9 : Below w.heap.size w W9 := hl.sw.bl.grown H92.out hl.sw.bl.size (fun k hk => by cases hk; exact Nat.le_refl _)
      have t9 := hl.tt.grown H92.out (by omega)
      refine bodyPost_ret (results13 H91.out rfl rfl rfl) rfl ⟨A1, A2, A3, c1, c2, c3, rfl, ?_, ?_, ?_, hb9⟩
      · exact Ownv.mono t9.o1 (by omega)
      · exact Ownv.mono t9.o2 (by omega)
      · exact Ownv.mono t9.o3 (by omega)
end Go.Proofs.YtpdalbckmfadbaaGreat

