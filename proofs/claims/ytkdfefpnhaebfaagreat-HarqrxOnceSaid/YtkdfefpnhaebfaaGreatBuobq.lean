/- Bundle. Conditions: none. -/
import Derived.Test.YtkdfefpnhaebfaaGreatBuoag
import Derived.Test.YtkdfefpnhaebfaaGreatBuobp
import Derived.Test.YtkdfefpnhaebfaaGreatBuobi
set_option linter.unusedVariables false
set_option linter.unusedSimpArgs false
namespace Go.Proofs.YtkdfefpnhaebfaaGreat
open Go.RowKit
attribute [local go_sem] Oper.semAt_some
set_option maxRecDepth 100000
set_option maxHeartbeats 4000000
theorem infoBk3 : (Tryz.prog.info? 103).map (fun i => (i.zero, i.size, i.bytes)) = some (some (.agg #[.pointer none, .int .i64 0, .slice none 0 0]), 3, 40) := by kernel_rfl
theorem run_bsK (c0 c1 c2 : Value) (W : World) : (Instr.buildSlice 70 1 #[(0, .agg #[c0, c1, c2])]).run Tryz.prog W = .ok (.slice (some ⟨W.heap.size, 0, none⟩) 1 1) (W.alloc (.cells #[c0, c1, c2] 103)) := by
 obtain ⟨i, hi, hz0, hz1, hz2⟩ := info_parts infoBk3
 refine run_buildSlice (P := Tryz.prog) W 70 103 1 _ _ i _ Tryz.underlying70 hi hz0 (by rw [hz1]; decide) (by rw [hz1]; decide) ?_
 rw [hz1]
 first
  | kernel_rfl
  | (simp [Instr.fill, Value.cells, List.zipIdx, List.range, List.range.loop, Array.range]; done)
section
variable {ops : Array Oper} {rest : List Oper} {o : Oper} {a : Act} {W : World} {Q : Exit → Act → World → Prop} {K : Act → World → Prop}
theorem bsK (hgd : o.guard = none) (x : Operand) (c0 c1 c2 : Value) (ho : o.op = .buildSlice 70 1 #[(0, x)]) (hx : a.eval x = .agg #[c0, c1, c2])
 (h : wpList Tryz.prog ops Q rest (a.put o.dst (.slice (some ⟨W.heap.size, 0, none⟩) 1 1)) (W.alloc (.cells #[c0, c1, c2] 103))) : wpList Tryz.prog ops Q (o :: rest) a W :=
 wpList_plain hgd fun K hK => by
  unfold Oper.wp
  have hp : (#[(0, x)] : Array (Nat × Operand)).map (fun (i, x) => (i, a.eval x)) = #[(0, .agg #[c0, c1, c2])] := by simp [hx]
  simp only [execOp, ho, hp, run_bsK, Sem.run_bind, Sem.run_pure, Result.andThen_ok]
  exact hK _ _ h
theorem wp_appK (s x : Operand) (c0 c1 c2 : Value) (gx : Nat) (ho : o.op = .call { callee := .builtin .append, args := #[s, x], argTypes := #[70, 70] }) (hs : a.eval s = .slice none 0 0) (hx : a.eval x = .slice (some ⟨gx, 0, none⟩) 1 1)
 (hg : Blk W gx 103 [c0, c1, c2]) (h1 : ∀ v ∈ [c0, c1, c2], v.oneCell' = true)
 (h : ∀ G cap rest w', W.heap.size ≤ G → Blk w' G 103 (c0 :: c1 :: c2 :: rest) → Below W.heap.size W w' → K (a.put o.dst (.slice (some ⟨G, 0, none⟩) 1 cap)) w') : o.wp Tryz.prog a W K Q := by
 obtain ⟨i, hi, hz0, hz1, hz2⟩ := info_parts infoBk3
 obtain ⟨v', w', hr, h2, h3, h4⟩ := run_append_own (P := Tryz.prog) W W.heap.size 70 o.type 103 i _ 3 40 Tryz.underlying70 hi hz0 hz1 hz2 (by rfl) (by decide) _ 0 [] (World.ownsRow_nil W W.heap.size 103 3) ⟨gx, 0, none⟩ 1 1 [c0, c1, c2] (by simp)
  (fun j u hj => by
    rw [add_lit, Nat.zero_add]
    exact hg.cell hj) h1 (by unfold maxLen; omega) (by omega) (Nat.le_refl _)
 rcases h2.2 with ⟨h5, h6⟩ | ⟨g, cap', cur, h5, h6, h7, h8, h9, h10, h11⟩
 · omega
 · rw [h5] at hr
   unfold Oper.wp
   simp only [execOp, ho, resolve, invoke, builtin, Sem.run_bind, Sem.run_pure, Result.andThen_ok, List.map_toArray, List.map_cons, List.map_nil, hs, hx, hr]
   obtain ⟨rest, hrest⟩ : ∃ rest, cur.toList = c0 :: c1 :: c2 :: rest := by
    have h12 := List.take_append_drop (1 * 3) cur.toList
    have h13 : cur.toList.take (1 * 3) = [c0, c1, c2] := by simpa using h11
    exact ⟨cur.toList.drop (1 * 3), by rw [← h12, h13]; simp⟩
   refine h g cap' rest w' h6 ?_ ((Below.refl _ W).grown h3 (Nat.le_refl _) (fun k e => by simp [Value.ownBlock] at e))
   show w'.heap[g]? = _
   rw [h7, ← hrest]
end
theorem DmS.mono {W : World} {base base' D k f : Nat} {lim : Int} {V : Option Addr} {vc : Nat} {vs : List Int} {cnt : Int} (h : DmS W base D k f lim V vc vs cnt) (hb : base' ≤ base) : DmS W base' D k f lim V vc vs cnt := ⟨h.b, Ownv.mono h.v hb, Nat.le_trans hb h.d⟩
theorem DmS.grown {W W' : World} {base D k f X : Nat} {lim : Int} {V : Option Addr} {vc : Nat} {vs : List Int} {cnt : Int} (h : DmS W base D k f lim V vc vs cnt) (hg : W.grownBy W' (some X)) (hD : D ≠ X) (hV : blk V ≠ X) : DmS W' base D k f lim V vc vs cnt :=
 ⟨h.b.grown hg hD, Ownv.grown h.v hg (fun _ e => hV (Option.some.inj e)), h.d⟩
theorem one_lay {b : Nat} (h1 : 1 ≤ b) (h : b ≤ 6144) : Cr.shs b = 0 ∧ Cr.sh b = 0 ∧ Cr.bC b = 1 ∧ b + Cr.fi b = Cr.lo b ∧ 40 ≤ Cr.lo b ∧ Cr.lo b ≤ 6144 ∧ Cr.fi b < Cr.lo b := by
 have e1 : Cr.shs b = 0 := by unfold Cr.shs; rw [if_pos h]
 have e2 : Cr.sh b = 0 := by unfold Cr.sh; rw [if_pos h]
 have e3 := Cr.bC_one h
 have e4 := Cr.fi_eq h1
 have e5 : Cr.tl b = b := by unfold Cr.tl Cr.ck; rw [if_pos h]; omega
 unfold Cr.los at e4
 rw [e1, e3, e5] at e4
 have e6 := @Cr.lo_le b
 have e7 : 40 ≤ Cr.lo b := Cr.SZ_lo _
 refine ⟨e1, e2, e3, by omega, e7, e6, by omega⟩
structure PrB (W : World) (base P : Nat) (half st sz lm : Int) (G cap D : Nat) (need : Int) (R : Option Addr) (r rc : Nat) (rest : List Value) : Prop where
 p : PrP W base P half st sz lm (some ⟨G, 0, none⟩) 1 cap
 g : Blk W G 103 (.pointer (some ⟨D, 0, none⟩) :: .int .i64 need :: .slice R r rc :: rest)
 b : base ≤ G
theorem PrB.below {W W' : World} {base P : Nat} {half st sz lm : Int} {G cap D : Nat} {need : Int} {R : Option Addr} {r rc : Nat} {rest : List Value} (h : PrB W base P half st sz lm G cap D need R r rc rest) (hB : Below W.heap.size W W') : PrB W' base P half st sz lm G cap D need R r rc rest := ⟨h.p.below hB, h.g.below hB, h.b⟩
theorem start_any {w : World} {base P : Nat} {half st sz lm : Int} {A : Option Addr} {n c : Nat} (h : PrP w base P half st sz lm A n c) (hb : base ≤ w.heap.size) (s : Nat) (bt md lim rv : Int) (hs1 : 1 ≤ s) (hs : s ≤ 6000) (hl : 1 ≤ lim) :
 Calls Tryz.prog 42 #[.pointer (some ⟨P, 0, none⟩), .agg #[.int .i64 (s : Int), .int .i64 bt, .int .i64 md, .int .i64 lim, .int .i64 rv]] w fun e w' => (∃ v, e = .returned v) ∧ Below base w w' ∧ (∀ q, q < w.heap.size → q ≠ P → w'.heap[q]? = w.heap[q]?) ∧
  ∃ G cap D V rest, (w.heap.size ≤ G ∧ w.heap.size ≤ D ∧ w.heap.size ≤ blk V) ∧ PrB w' base P half 1 s lim G cap D ((Cr.lo (s + 24) + Cr.fi (s + 24) : Nat) : Int) none 0 0 rest ∧ DmS w' base D (Cr.lo (s + 24)) (Cr.fi (s + 24)) lim V (3 * (Cr.lo (s + 24) + 4)) (frL (Cr.lo (s + 24)) (Cr.fi (s + 24))) 0 := by
 obtain ⟨f1, f2, f3, f4, f5, f6, f7⟩ := one_lay (b := s + 24) (by omega) (by omega)
 have HLY := Lib.hid (fun W => Cr.lay_any (s : Int) W)
 obtain ⟨bb, hbb⟩ : ∃ bb : Int, bb = ((s + 24 : Nat) : Int) := ⟨_, rfl⟩
 have hly : Cr.ly15 (s : Int) = ([bb, 1, (Cr.lo (s + 24) : Int), 0, ((Cr.los (s + 24) : Nat) : Int), 0, (Cr.fi (s + 24) : Int)], 0) := by
  have h1 : Cr.ly15 (s : Int) = (Cr.LY (s + 24), 0) := by unfold Cr.ly15; rw [if_neg (by omega)]; rfl
  rw [h1]
  unfold Cr.LY
  rw [f1, f2, f3, hbb]
  rfl
 rw [hly] at HLY
 simp only [Cr.ints8, List.map_cons, List.map_nil] at HLY
 clear hly hbb f1 f2 f3
 have HNW := Lib.hid (fun W => new_ok (Cr.lo (s + 24)) (Cr.fi (s + 24)) lim W f5 f6 f7 hl)
 generalize Cr.los (s + 24) = L4 at *
 generalize Cr.lo (s + 24) = k at *
 generalize Cr.fi (s + 24) = f at *
 obtain ⟨cfg, hcfg⟩ : ∃ cfg : List Value, cfg = [.int .i64 (s : Int), .int .i64 bt, .int .i64 md, .int .i64 lim, .int .i64 rv] := ⟨_, rfl⟩
 have HB0 := Lib.hid (bal (Below.refl w.heap.size w) (.cells #[.int .i64 (s : Int), .int .i64 bt, .int .i64 md, .int .i64 lim, .int .i64 rv] 36))
 have HC0 := Lib.hid (Blk.new w [.int .i64 (s : Int), .int .i64 bt, .int .i64 md, .int .i64 lim, .int .i64 rv] 36 rfl)
 have HPP := Lib.hid (h.below HB0.out)
 have hc0 := HC0.out.cell (j := 0) (v := .int .i64 (s : Int)) rfl
 have HPC : Hid (P ≠ w.heap.size) := Lib.hid (by have := h.p.lt; omega)
 have HPD := Lib.hid h.d
 have HPW := Lib.hid h.p.lt
 have HBS := Lib.hid hb
 have HKF := Lib.hid (And.intro f6 f7)
 clear h hb f4 f5 f6 f7 hs1 hs hcfg
 go_enter Tryz.func42, Tryz.ntmps42
 go_wp2_with fail
 refine (HLY.out _).mono ?_
 rintro e w2 ⟨rfl, hB⟩
 have HB2 := Lib.hid (HB0.out.trans (hB.mono HB0.out.size)).size
 have HB3 := Lib.hid (bal (HB0.out.trans (hB.mono HB0.out.size)) (.cells #[.int .i64 bb, .int .i64 1, .int .i64 (k : Int), .int .i64 0, .int .i64 (L4 : Int), .int .i64 0, .int .i64 (f : Int)] 31))
 have HL3 := Lib.hid (Blk.new w2 [.int .i64 bb, .int .i64 1, .int .i64 (k : Int), .int .i64 0, .int .i64 (L4 : Int), .int .i64 0, .int .i64 (f : Int)] 31 rfl)
 have HC3 := Lib.hid ((HC0.out.below hB).alloc (.cells #[.int .i64 bb, .int .i64 1, .int .i64 (k : Int), .int .i64 0, .int .i64 (L4 : Int), .int .i64 0, .int .i64 (f : Int)] 31))
 have HP3 := Lib.hid ((HPP.out.below hB).p.alloc (.cells #[.int .i64 bb, .int .i64 1, .int .i64 (k : Int), .int .i64 0, .int .i64 (L4 : Int), .int .i64 0, .int .i64 (f : Int)] 31))
 clear hB
 have HPL : Hid (P ≠ w2.heap.size) := Lib.hid (by have h1 := HPP.out.p; have h2 := HPW.out; have h3 := HB2.out; omega)
 clear hc0
 go_wp2_with fail
 generalize w2.alloc (.cells #[.int .i64 bb, .int .i64 1, .int .i64 (k : Int), .int .i64 0, .int .i64 (L4 : Int), .int .i64 0, .int .i64 (f : Int)] 31) = w3 at *
 generalize w2.heap.size = LB at *
 obtain ⟨CB, hCB⟩ : ∃ CB, CB = w.heap.size := ⟨_, rfl⟩
 rw [← hCB] at HC3 HPC ⊢
 clear hCB
 have HJ0 := Lib.hid HP3.out.drew
 have HI0 := Lib.hid HC3.out.drew
 have HV0 := Lib.hid HL3.out.drew
 have HU0 : Hid (Below base w w3.drew) := Lib.hid (HB3.out.mono HBS.out).drew
 have HX0 : Hid (∀ q, q < w.heap.size → q ≠ P → w3.drew.heap[q]? = w.heap[q]?) := Lib.hid (fun q hq _ => HB3.out.block q hq)
 have HS0 := Lib.hid (And.intro (HI0.out.cell (j := 0) (v := .int .i64 (s : Int)) rfl) (HI0.out.cell (j := 3) (v := .int .i64 lim) rfl))
 have HW3 : Hid (w.heap.size ≤ w3.heap.size) := Lib.hid HB3.out.size
 clear HP3 HC3 HL3 HB3 HPP HC0 HB0
 refine Q_start (fun W9 => W9.cell? ⟨CB, 0, none⟩ = some (.int .i64 (s : Int)) ∧ W9.cell? ⟨CB, 3, none⟩ = some (.int .i64 lim)) 19 20 ?_
 generalize w3.drew = x0 at *
 refine Q_W 0 17 1 (.pointer (some ⟨P, 0, none⟩)) rfl HS0.out ?_
 simp only [z0, z1, z2]
 refine Q_W 1 18 3 (.pointer (some ⟨P, 0, none⟩)) rfl HS0.out ?_
 simp only [z0, z1, z2]
 refine Q_W 2 19 7 (.pointer (some ⟨P, 0, none⟩)) rfl HS0.out ?_
 simp only [z0, z1, z2]
 refine Q_W 3 20 15 (.pointer (some ⟨P, 0, none⟩)) rfl HS0.out ?_
 simp only [z0, z1, z2]
 refine Q_W 4 21 31 (.pointer (some ⟨CB, 0, none⟩)) rfl HS0.out ?_
 simp only [z0, z1, z2]
 refine Q_T 5 22 63 (.int .i64 (s : Int)) [] rfl HS0.out (.inl ⟨by rfl, fun W hS => by obtain ⟨s0, s1⟩ := hS; go_simp⟩) ?_
 simp only [z0, z1, z2]
 refine Q_W 6 23 127 (.pointer (some ⟨CB, 3, none⟩)) rfl HS0.out ?_
 simp only [z0, z1, z2]
 refine Q_T 7 24 255 (.int .i64 lim) [] rfl HS0.out (.inl ⟨by rfl, fun W hS => by obtain ⟨s0, s1⟩ := hS; go_simp⟩) ?_
 simp only [z0, z1, z2]
 refine Q_W 8 25 511 (.pointer (some ⟨P, 0, none⟩)) rfl HS0.out ?_
 simp only [z0, z1, z2]
 refine Q_W 9 26 1023 (.pointer (some ⟨P, 1, none⟩)) rfl HS0.out ?_
 simp only [z0, z1, z2]
 have hp0 := HJ0.out.cell (j := 1) rfl
 have hf0 := HJ0.out.frozen 1
 have HJ1 := Lib.hid (HJ0.out.set 1 (.int .i64 1))
 have HI1 := Lib.hid (HI0.out.other HPC.out 1 (.int .i64 1))
 have HX1 := Lib.hid (fun q (hq : q < w.heap.size) (hqp : q ≠ P) => ((grownBy_set x0 P 1 (.int .i64 1)).block q (Nat.lt_of_lt_of_le hq HU0.out.size) (fun e => hqp (Option.some.inj e))).trans (HX0.out q hq hqp))
 have HV1 := Lib.hid (HV0.out.other HPL.out 1 (.int .i64 1))
 have HU1 := Lib.hid (HU0.out.grown (grownBy_set _ P 1 (.int .i64 1)) (Nat.le_trans HBS.out HU0.out.size) (fun q e => by cases e; exact HPD.out))
 simp only [List.set_cons_zero, List.set_cons_succ] at HJ1
 have HS1 := Lib.hid (And.intro (HI1.out.cell (j := 0) (v := .int .i64 (s : Int)) rfl) (HI1.out.cell (j := 3) (v := .int .i64 lim) rfl))
 refine Q_1S 10 2047 rfl (fun K hK => ?_)
 go_simp
 refine hK _ _ HS1.out ?_
 clear hK K hp0 hf0
 generalize x0.setCell ⟨P, 1, none⟩ (.int .i64 1) = x1 at *
 refine Q_W 11 27 4095 (.pointer (some ⟨P, 0, none⟩)) rfl HS1.out ?_
 simp only [z0, z1, z2]
 refine Q_W 12 28 8191 (.pointer (some ⟨P, 2, none⟩)) rfl HS1.out ?_
 simp only [z0, z1, z2]
 have hp1 := HJ1.out.cell (j := 2) rfl
 have hf1 := HJ1.out.frozen 2
 have HJ2 := Lib.hid (HJ1.out.set 2 (.int .i64 (s : Int)))
 have HI2 := Lib.hid (HI1.out.other HPC.out 2 (.int .i64 (s : Int)))
 have HX2 := Lib.hid (fun q (hq : q < w.heap.size) (hqp : q ≠ P) => ((grownBy_set x1 P 2 (.int .i64 (s : Int))).block q (Nat.lt_of_lt_of_le hq HU1.out.size) (fun e => hqp (Option.some.inj e))).trans (HX1.out q hq hqp))
 have HV2 := Lib.hid (HV1.out.other HPL.out 2 (.int .i64 (s : Int)))
 have HU2 := Lib.hid (HU1.out.grown (grownBy_set _ P 2 (.int .i64 (s : Int))) (Nat.le_trans HBS.out HU1.out.size) (fun q e => by cases e; exact HPD.out))
 simp only [List.set_cons_zero, List.set_cons_succ] at HJ2
 have HS2 := Lib.hid (And.intro (HI2.out.cell (j := 0) (v := .int .i64 (s : Int)) rfl) (HI2.out.cell (j := 3) (v := .int .i64 lim) rfl))
 refine Q_1S 13 16383 rfl (fun K hK => ?_)
 go_simp
 refine hK _ _ HS2.out ?_
 clear hK K hp1 hf1
 generalize x1.setCell ⟨P, 2, none⟩ (.int .i64 (s : Int)) = x2 at *
 refine Q_W 14 29 32767 (.pointer (some ⟨P, 0, none⟩)) rfl HS2.out ?_
 simp only [z0, z1, z2]
 refine Q_W 15 30 65535 (.pointer (some ⟨P, 3, none⟩)) rfl HS2.out ?_
 simp only [z0, z1, z2]
 have hp2 := HJ2.out.cell (j := 3) rfl
 have hf2 := HJ2.out.frozen 3
 have HJ3 := Lib.hid (HJ2.out.set 3 (.int .i64 lim))
 have HI3 := Lib.hid (HI2.out.other HPC.out 3 (.int .i64 lim))
 have HX3 := Lib.hid (fun q (hq : q < w.heap.size) (hqp : q ≠ P) => ((grownBy_set x2 P 3 (.int .i64 lim)).block q (Nat.lt_of_lt_of_le hq HU2.out.size) (fun e => hqp (Option.some.inj e))).trans (HX2.out q hq hqp))
 have HV3 := Lib.hid (HV2.out.other HPL.out 3 (.int .i64 lim))
 have HU3 := Lib.hid (HU2.out.grown (grownBy_set _ P 3 (.int .i64 lim)) (Nat.le_trans HBS.out HU2.out.size) (fun q e => by cases e; exact HPD.out))
 simp only [List.set_cons_zero, List.set_cons_succ] at HJ3
 have HS3 := Lib.hid (And.intro (HI3.out.cell (j := 0) (v := .int .i64 (s : Int)) rfl) (HI3.out.cell (j := 3) (v := .int .i64 lim) rfl))
 refine Q_1S 16 131071 rfl (fun K hK => ?_)
 go_simp
 refine hK _ _ HS3.out ?_
 clear hK K hp2 hf2
 generalize x2.setCell ⟨P, 3, none⟩ (.int .i64 lim) = x3 at *
 refine Q_W 17 31 262143 (.pointer (some ⟨P, 0, none⟩)) rfl HS3.out ?_
 simp only [z0, z1, z2]
 refine Q_W 18 32 524287 (.pointer (some ⟨P, 4, none⟩)) rfl HS3.out ?_
 simp only [z0, z1, z2]
 have hp3 := HJ3.out.cell (j := 4) rfl
 have hf3 := HJ3.out.frozen 4
 have HJ4 := Lib.hid (HJ3.out.set 4 (.slice none 0 0))
 have HI4 := Lib.hid (HI3.out.other HPC.out 4 (.slice none 0 0))
 have HX4 := Lib.hid (fun q (hq : q < w.heap.size) (hqp : q ≠ P) => ((grownBy_set x3 P 4 (.slice none 0 0)).block q (Nat.lt_of_lt_of_le hq HU3.out.size) (fun e => hqp (Option.some.inj e))).trans (HX3.out q hq hqp))
 have HV4 := Lib.hid (HV3.out.other HPL.out 4 (.slice none 0 0))
 have HU4 := Lib.hid (HU3.out.grown (grownBy_set _ P 4 (.slice none 0 0)) (Nat.le_trans HBS.out HU3.out.size) (fun q e => by cases e; exact HPD.out))
 simp only [List.set_cons_zero, List.set_cons_succ] at HJ4
 have HS4 := Lib.hid (And.intro (HI4.out.cell (j := 0) (v := .int .i64 (s : Int)) rfl) (HI4.out.cell (j := 3) (v := .int .i64 lim) rfl))
 refine Q_1 19 1048575 rfl (fun K hK => ?_)
 go_simp
 refine hK _ _ ?_
 clear hK K hp3 hf3
 generalize x3.setCell ⟨P, 4, none⟩ (.slice none 0 0) = w4 at *
 refine Q_end ?_
 have c1 := HV4.out.cell (j := 1) (v := .int .i64 1) rfl
 have c2 := HV4.out.cell (j := 2) (v := .int .i64 (k : Int)) rfl
 have c5 := HV4.out.cell (j := 5) (v := .int .i64 0) rfl
 have c6 := HV4.out.cell (j := 6) (v := .int .i64 (f : Int)) rfl
 have c3 := HI4.out.cell (j := 3) (v := .int .i64 lim) rfl
 go_wp2_with fail
 refine wp_loop_rounds 3 ?_
 rw [rounds_succ]
 go_wp2_with fail
 refine (HNW.out _).mono ?_
 rintro e w5 ⟨D, V, rfl, hD, hB5⟩
 have hP5 := HJ4.out.below hB5
 have c45 := hP5.cell (j := 4) (v := .slice none 0 0) rfl
 have HP5 := Lib.hid hP5
 have HD5 := Lib.hid hD
 have HB5 := Lib.hid (HU4.out.trans (hB5.mono (Nat.le_trans HBS.out HU4.out.size)))
 have HZ4 : Hid (P < w4.heap.size) := Lib.hid HJ4.out.lt
 have HZ5 := Lib.hid hB5.size
 have HB54 := Lib.hid (fun q (hq : q < w4.heap.size) => hB5.block q hq)
 have q1 : IntKind.i64.wrap ((k : Int) + (f : Int)) = (k : Int) + (f : Int) := IntWalk.i64_in _ (by have := HKF.out; omega)
 clear hD hB5 hP5 c1 c2 c5 c6 c3
 have hg0 : Blk (w5.alloc (.cells #[.pointer (some ⟨D, 0, none⟩), .int .i64 ((k : Int) + (f : Int)), .slice none 0 0] 103)) w5.heap.size 103 [.pointer (some ⟨D, 0, none⟩), .int .i64 ((k : Int) + (f : Int)), .slice none 0 0] := Blk.new w5 _ 103 rfl
 go_wp2_with (first
  | (refine bsK rfl (.tmp 67) (.pointer (some ⟨D, 0, none⟩)) (.int .i64 ((k : Int) + (f : Int))) (.slice none 0 0) rfl rfl ?_)
  | (at_builtin
     refine list_of rfl fun K hK => wp_appK (.tmp 62) (.tmp 68) (.pointer (some ⟨D, 0, none⟩)) (.int .i64 ((k : Int) + (f : Int))) (.slice none 0 0) w5.heap.size rfl rfl rfl hg0 (by simp [Value.oneCell']) ?_
     intro G cap rest w6 hGe hG hB6
     have hb6 := (bal (Below.refl w5.heap.size w5) (.cells #[.pointer (some ⟨D, 0, none⟩), .int .i64 ((k : Int) + (f : Int)), .slice none 0 0] 103)).trans (hB6.mono (by simp))
     have hP6 := HP5.out.below hb6
     have hp6 := hP6.cell (j := 4) rfl
     have hf6 := hP6.frozen 4
     have HP6 := Lib.hid hP6
     have HG6 := Lib.hid hG
     have HB6 := Lib.hid hb6
     have HGE := Lib.hid hGe
     clear hGe hG hB6 hb6 hP6 c45 hg0
     refine hK _ _ ?_
     clear hK K))
 rw [rounds_succ]
 go_wp2
 go_end0
 have hw45 : w4.heap.size ≤ w5.heap.size := HZ5.out
 have hs := grownBy_set w6 P 4 (.slice (some ⟨G, 0, none⟩) 1 cap)
 have hb5 : base ≤ w5.heap.size := Nat.le_trans HBS.out HB5.out.size
 have hB6 := HB5.out.trans (HB6.out.mono hb5)
 have hPw := HZ4.out
 have hPG : P ≠ G := by have h1 := HGE.out; simp at h1; omega
 refine ⟨⟨_, rfl⟩, hB6.grown hs (Nat.le_trans HBS.out hB6.size) (fun q e => by cases e; exact HPD.out), fun q hq hqp => ?_, G, cap, D, V, rest, ?_, ⟨⟨HP6.out.set 4 _, HPD.out⟩, by rw [Int.natCast_add]; exact HG6.out.other hPG 4 _, by have h1 := HGE.out; simp at h1; omega⟩, ?_⟩
 · have hq4 := Nat.lt_of_lt_of_le hq HU4.out.size
   have hq5 := Nat.lt_of_lt_of_le hq4 hw45
   exact ((hs.block q (Nat.lt_of_lt_of_le hq5 HB6.out.size) (fun e => hqp (Option.some.inj e))).trans (HB6.out.block q hq5)).trans ((HB54.out q hq4).trans (HX4.out q hq hqp))
 · have h1 := HGE.out
   have h2 := HD5.out.d
   have h3 := (Ownv.blk_of HD5.out.v HD5.out.ne).1
   have h4 := HU4.out.size
   simp at h1
   omega
 have hD6 := DmS.mono HD5.out (Nat.le_trans HBS.out HU4.out.size) |>.below HB6.out
 exact hD6.grown hs (fun e => by have h1 := HD5.out.d; omega) (fun e => by have h1 := (Ownv.blk_of HD5.out.v HD5.out.ne).1; omega)
end Go.Proofs.YtkdfefpnhaebfaaGreat
