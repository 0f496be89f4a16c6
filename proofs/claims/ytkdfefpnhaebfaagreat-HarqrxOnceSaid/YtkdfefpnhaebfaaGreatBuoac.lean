/- Bundle. Conditions: none. -/
import Derived.Test.YtkdfefpnhaebfaaGreatBuoab
import Derived.Laws.ResultCell
import Derived.Deep.DeepCutAuto
import Derived.Laws.BytesArg
set_option linter.unusedVariables false
set_option linter.unusedSimpArgs false
namespace Go.Proofs.YtkdfefpnhaebfaaGreat
open Go.RowKit
set_option maxRecDepth 100000
set_option maxHeartbeats 600000
theorem Ownv.keepB {e : TypeId} {w w' : World} {base g n c : Nat} {vs : List Value} {B : Nat} (h : Ownv e w base (some ⟨g, 0, none⟩) n c vs) (hB : Below B w w') (hg : g < B) : Ownv e w' base (some ⟨g, 0, none⟩) n c vs := by
 obtain ⟨h1, h2⟩ := h.ow
 refine ⟨h1, ?_⟩
 rcases h2 with h2 | ⟨g', cap, cur, h2, h3, h4, h5, h6, h7, h8⟩
 · exact .inl h2
 · refine .inr ⟨g', cap, cur, h2, h3, ?_, h5, h6, h7, h8⟩
   simp only [Value.slice.injEq, Option.some.injEq, Addr.mk.injEq] at h2
   obtain ⟨⟨rfl, _⟩, _⟩ := h2
   rw [hB.block g hg]; exact h4
def Arr3 (w : World) (base b : Nat) (f : Nat → Bool) (j : Nat) : Prop := ∃ vs, Own .u8 165 w base (some ⟨b, 0, none⟩) 3 3 vs ∧ ∀ q, q < j → gi vs q = ib (f q)
theorem Arr3.vals {w : World} {base b : Nat} {f : Nat → Bool} (h : Arr3 w base b f 3) : Own .u8 165 w base (some ⟨b, 0, none⟩) 3 3 [ib (f 0), ib (f 1), ib (f 2)] := by
 obtain ⟨vs, h1, h2⟩ := h
 have hl := (Own.rd h1).len
 have e : vs = [ib (f 0), ib (f 1), ib (f 2)] := by
  refine ext_gi (by rw [hl]; rfl) fun q hq => ?_
  rw [hl] at hq
  rw [h2 q hq]
  rcases (by omega : q = 0 ∨ q = 1 ∨ q = 2) with rfl | rfl | rfl <;> rfl
 rwa [e] at h1
theorem results_cct {fn : Func} {p q u : Tmp} {ty ty' : TypeId} (h : fn.results = #[.cell p ty, .cell q ty', .tmp u]) (tmps : Array Value) (P : Program) (w : World) :
 (results fn tmps).run P w =
   ((asAddr (tmps.getD p undef)).run P w).andThen fun a w₁ => ((loadVar ty a).run P w₁).andThen fun v w₂ => ((asAddr (tmps.getD q undef)).run P w₂).andThen fun b w₃ => ((loadVar ty' b).run P w₃).andThen fun v' w₄ => .ok (.tuple #[v, v', tmps.getD u undef]) w₄ := by
 simp only [results, h]
 simp [Sem.run_bind, Result.andThen]
theorem results_c {fn : Func} {p : Tmp} {ty : TypeId} (h : fn.results = #[.cell p ty]) (tmps : Array Value) (P : Program) (w : World) :
 (results fn tmps).run P w = ((asAddr (tmps.getD p undef)).run P w).andThen fun a w₁ => (loadVar ty a).run P w₁ := by
 simp only [results, h]
 simp [Sem.run_bind]
theorem Ownv.row {e : TypeId} {w : World} {base b n : Nat} {vs : List Value} (h : Ownv e w base (some ⟨b, 0, none⟩) n n vs) : w.heap[b]? = some (.cells vs.toArray e (0, 0)) := by
 obtain ⟨_, h2⟩ := Ownv.cases h
 rcases h2 with ⟨h3, _⟩ | ⟨g, cur, h3, hb, hh, hnc, hcm, hs, ht⟩
 · cases h3
 · cases h3
   have : cur.toList = vs := by
    rw [← List.take_of_length_le (l := cur.toList) (i := n) (by simp [hs])]; exact ht
   rw [hh, show cur = vs.toArray from by rw [← this]]
theorem load_u8x3 {w : World} {base b : Nat} {x y z : Int} (h : Own .u8 165 w base (some ⟨b, 0, none⟩) 3 3 [x, y, z]) : (loadVar 165 ⟨b, 0, none⟩).run Tryz.prog w = .ok (.agg #[.int .u8 x, .int .u8 y, .int .u8 z]) w :=
 run_loadVar_row (P := Tryz.prog) w b 165 165 _ (0, 0) _ (Ownv.row h) Tryz.underlying165 rfl (by kernel_rfl)
theorem Own.set3 {k : IntKind} {e : TypeId} {w : World} {base b : Nat} {vs : List Int} (h : Own k e w base (some ⟨b, 0, none⟩) 3 3 vs) (x y z : Int) :
 Own k e (((w.setCell ⟨b, 0, none⟩ (.int k x)).setCell ⟨b, 1, none⟩ (.int k y)).setCell ⟨b, 2, none⟩ (.int k z)) base (some ⟨b, 0, none⟩) 3 3 [x, y, z] ∧ w.grownBy (((w.setCell ⟨b, 0, none⟩ (.int k x)).setCell ⟨b, 1, none⟩ (.int k y)).setCell ⟨b, 2, none⟩ (.int k z)) (some b) := by
 have h0 := Own.set_ h (j := 0) (by omega) x
 have h1 := Own.set_ h0.1 (j := 1) (by omega) y
 have h2 := Own.set_ h1.1 (j := 2) (by omega) z
 simp only [adr_some, Nat.zero_add] at h0 h1 h2
 have hl := (Own.rd h).len
 refine ⟨?_, (h0.2.trans h1.2).trans h2.2⟩
 have e1 : ((vs.set 0 x).set 1 y).set 2 z = [x, y, z] := by
  match vs, hl with
  | [p, q, r], _ => rfl
 rw [← e1]; exact h2.1
def TailInv (a b c : Bool) (w : World) (o : Nat) (i : Value) (wr : World) : Prop :=
 ∃ (j : Nat) (A : Option Addr) (cp : Nat) (ps : List Bool), j ≤ 3 ∧ i = .int .i64 j ∧ Arr3 wr w.heap.size w.heap.size (tlU a b c) j ∧ Arr3 wr w.heap.size (w.heap.size + 1) (tlZ a b c) j ∧
  EncSt (w.heap.size + 2) wr o (tlS a b c j).1 (tlS a b c j).2.1 (tlS a b c j).2.2 A j cp ps ∧ Below w.heap.size w wr
theorem tail_next (a b c : Bool) (w w2 w4 : World) (o j : Nat) (hj : j < 3) (vu vz : List Int) (A4 : Option Addr) (cp4 : Nat) (ps : List Bool) (s' : St3) (hs : tlS a b c (j + 1) = s')
 (hU : Own .u8 165 w2 w.heap.size (some ⟨w.heap.size, 0, none⟩) 3 3 vu) (hqu : ∀ q, q < j → gi vu q = ib (tlU a b c q))
 (hZ : Own .u8 165 w2 w.heap.size (some ⟨w.heap.size + 1, 0, none⟩) 3 3 vz) (hqz : ∀ q, q < j → gi vz q = ib (tlZ a b c q))
 (hB2 : Below w.heap.size w w2) (hB4 : Below (w.heap.size + 2) w2 w4) (hS4 : EncSt (w.heap.size + 2) w4 o s'.1 s'.2.1 s'.2.2 A4 (j + 1) cp4 ps) (iu iz : Int) (hiu : ib (tlU a b c j) = iu) (hiz : ib (tlZ a b c j) = iz) :
 TailInv a b c w o (.int .i64 ((j + 1 : Nat) : Int)) ((w4.setCell (adr (some ⟨w.heap.size, 0, none⟩) j) (.int .u8 iu)).setCell (adr (some ⟨w.heap.size + 1, 0, none⟩) j) (.int .u8 iz)) := by
 have u1 := Ownv.keepB hU hB4 (by omega)
 have z1 := Ownv.keepB hZ hB4 (by omega)
 have u2 := Own.set_ u1 hj iu
 have z2 : Own .u8 165 _ w.heap.size (some ⟨w.heap.size + 1, 0, none⟩) 3 3 vz := Ownv.grown z1 u2.2 (fun _ he => by have := Option.some.inj he; simp [blk] at this)
 have z3 := Own.set_ z2 hj iz
 have u3 : Own .u8 165 _ w.heap.size (some ⟨w.heap.size, 0, none⟩) 3 3 (vu.set j iu) := Ownv.grown u2.1 z3.2 (fun _ he => by have := Option.some.inj he; simp [blk] at this)
 have hlu := (Own.rd hU).len
 have hlz := (Own.rd hZ).len
 have hbw := hB2.size
 have h4 : Below w.heap.size w w4 := hB2.trans (hB4.mono (by omega))
 have h5 := h4.grown u2.2 h4.size (fun k hk => by have := Option.some.inj hk; simp [blk] at this; omega)
 have h6 := h5.grown z3.2 h5.size (fun k hk => by have := Option.some.inj hk; simp [blk] at this; omega)
 have sg : ∀ {W W' : World} {g : Nat}, g < w.heap.size + 2 → EncSt (w.heap.size + 2) W o s'.1 s'.2.1 s'.2.2 A4 (j + 1) cp4 ps → W.grownBy W' (some g) → EncSt (w.heap.size + 2) W' o s'.1 s'.2.1 s'.2.2 A4 (j + 1) cp4 ps := by
  intro W W' g hg h hgr
  have ho := (Ownv.blk_ge h.obj (by omega)).1
  simp [blk] at ho
  exact ⟨Ownv.grown h.obj hgr (fun _ he => by have := Option.some.inj he; simp [blk] at this; omega), Ownv.grown h.row hgr (fun hA he => by have h8 := (Ownv.blk_of h.row hA).1; have := Option.some.inj he; omega), h.ne, Nat.le_trans h.le hgr.size⟩
 refine ⟨j + 1, A4, cp4, ps, by omega, rfl, ⟨_, u3, fun q hq => ?_⟩, ⟨_, z3.1, fun q hq => ?_⟩, by rw [hs]; exact sg (by simp [blk]) (sg (by simp [blk]) hS4 u2.2) z3.2, h6⟩
 · rw [gi_set _ _ _ _ (by omega)]
   by_cases e : j = q
   · subst e; rw [if_pos rfl, hiu]
   · rw [if_neg e]; exact hqu q (by omega)
 · rw [gi_set _ _ _ _ (by omega)]
   by_cases e : j = q
   · subst e; rw [if_pos rfl, hiz]
   · rw [if_neg e]; exact hqz q (by omega)
theorem stI_bd (a b c : Bool) : 0 ≤ stI a b c ∧ stI a b c < 8 := by cases a <;> cases b <;> cases c <;> decide
theorem tail_any (a b c : Bool) (w : World) : Calls Tryz.prog 157 #[.int .i64 (stI a b c)] w fun e w' =>
 e = .returned (.tuple #[.agg #[.int .u8 (ib (tlU a b c 0)), .int .u8 (ib (tlU a b c 1)), .int .u8 (ib (tlU a b c 2))], .agg #[.int .u8 (ib (tlZ a b c 0)), .int .u8 (ib (tlZ a b c 1)), .int .u8 (ib (tlZ a b c 2))], .int .i64 0]) ∧ Below w.heap.size w w' := by
 obtain ⟨h0, h1⟩ := stI_bd a b c
 have hr := fun W => Lib.hid (regat_any a b c W)
 have hd : decide (0 ≤ stI a b c ∧ stI a b c < 8) = true := by simp; omega
 have hf := fun W => Lib.hid (fits_any (stI a b c) W)
 rw [hd] at hf
 unfold regV at hr
 go_enter Tryz.func157, Tryz.ntmps157
 go_wp2_with (first
  | (go_at_call 205; refine (hf _).out.mono ?_; rintro e w' ⟨rfl, rfl⟩)
  | (go_at_call 206; refine (hr _).out.mono ?_; rintro e w1 ⟨rfl, hB1⟩))
 have hob : Ownv 257 (w1.alloc (.cells #[.int .i64 (ib a), .int .i64 (ib b), .int .i64 (ib c), .slice none 0 0] 257)) w1.heap.size (some ⟨w1.heap.size, 0, none⟩) 4 4 [.int .i64 (ib a), .int .i64 (ib b), .int .i64 (ib c), .slice none 0 0] :=
  Ownv.lit w1 #[.int .i64 (ib a), .int .i64 (ib b), .int .i64 (ib c), .slice none 0 0] 257 rfl (Nat.le_refl _) (by show 4 ≤ maxLen; unfold maxLen; omega)
 have hsz : w.heap.size + 2 ≤ w1.heap.size := by have := hB1.size; simpa using this
 have hst : EncSt (w.heap.size + 2) (w1.alloc (.cells #[.int .i64 (ib a), .int .i64 (ib b), .int .i64 (ib c), .slice none 0 0] 257)) w1.heap.size a b c none 0 0 [] := ⟨hob.mono hsz, Own.nilv _ _ _ _, fun h => absurd rfl h, by simp; omega⟩
 have hA : ∀ f, Arr3 (w1.alloc (.cells #[.int .i64 (ib a), .int .i64 (ib b), .int .i64 (ib c), .slice none 0 0] 257)) w.heap.size w.heap.size f 0 := fun f =>
  ⟨[0, 0, 0], Ownv.alloc (Ownv.below (Ownv.alloc (Own.of_eq (Ownv.lit w #[.int .u8 0, .int .u8 0, .int .u8 0] 165 rfl (Nat.le_refl _) (by show 3 ≤ maxLen; unfold maxLen; omega)) rfl rfl) _) hB1) _, by intro q hq; omega⟩
 have hA2 : ∀ f, Arr3 (w1.alloc (.cells #[.int .i64 (ib a), .int .i64 (ib b), .int .i64 (ib c), .slice none 0 0] 257)) w.heap.size (w.heap.size + 1) f 0 := fun f =>
  ⟨[0, 0, 0], Ownv.alloc (Ownv.below (Own.of_eq (Ownv.lit (w.alloc _) #[.int .u8 0, .int .u8 0, .int .u8 0] 165 (by simp) (by simp) (by show 3 ≤ maxLen; unfold maxLen; omega)) rfl rfl) hB1) _, by intro q hq; omega⟩
 have hB0 : Below w.heap.size w (w1.alloc (.cells #[.int .i64 (ib a), .int .i64 (ib b), .int .i64 (ib c), .slice none 0 0] 257)) := ((((Below.refl _ w).alloc (Nat.le_refl _) _).alloc (by simp) _).trans (hB1.mono (by simp; omega))).alloc (by omega) _
 go_loopw [16] (fun i wr => TailInv a b c w w1.heap.size i wr) (fun i _ => 3 - (intOf i).toNat)
 case atStart => exact ⟨0, none, 0, [], by omega, rfl, hA _, hA2 _, hst, hB0⟩
 case round =>
  obtain ⟨j, A, cp, ps, hj, rfl, hU, hZ, hst', hB⟩ := hrel
  clear hst hA hA2 hB0 hob hf hr
  generalize w1.heap.size = o at *
  by_cases hlt : j < 3
  · obtain ⟨q1, q2, q3⟩ := tl_step a b c j hlt
    have hub : 0 ≤ ib (tlU a b c j) ∧ ib (tlU a b c j) ≤ 1 := by cases tlU a b c j <;> decide
    have hzb : 0 ≤ ib (tlZ a b c j) ∧ ib (tlZ a b c j) ≤ 1 := by cases tlZ a b c j <;> decide
    have hwu : IntKind.u8.wrap (ib (tlU a b c j)) = ib (tlU a b c j) := by cases tlU a b c j <;> decide
    have hwz : IntKind.u8.wrap (ib (tlZ a b c j)) = ib (tlZ a b c j) := by cases tlZ a b c j <;> decide
    have Q1 := Lib.hid q1
    have Q2 := Lib.hid q2
    clear q1 q2
    generalize tlS a b c j = s at *
    generalize hs' : tlS a b c (j + 1) = s' at *
    have HE := fun W => Lib.hid (ending_any s.1 s.2.1 s.2.2 W)
    rw [q3] at HE
    clear q3
    have HSZ := Lib.hid hst'.le
    obtain ⟨vu, hOu, hqu⟩ := hU
    obtain ⟨vz, hOz, hqz⟩ := hZ
    have HT : ∀ W, EncSt (w.heap.size + 2) W o s.1 s.2.1 s.2.2 A j cp ps → Hid (Calls Tryz.prog 203 #[.pointer (some ⟨o, 0, none⟩), .int .i64 (ib (tlU a b c j))] W fun e w' => e = .returned (.int .i64 (ib (tlZ a b c j))) ∧ (∃ A' cp', EncSt (w.heap.size + 2) w' o s'.1 s'.2.1 s'.2.2 A' (j + 1) cp' (ps ++ [tlZ a b c j])) ∧ Below (w.heap.size + 2) W w') := fun W hW => Lib.hid (by
     have := takes_any (w.heap.size + 2) o s.1 s.2.1 s.2.2 (tlU a b c j) A j cp ps W hW (by omega)
     have e1 : (tlU a b c j ^^ s.2.1 ^^ s.2.2 ^^ s.1 ^^ s.2.2) = tlZ a b c j := Q2.out
     rw [e1] at this
     refine this.mono ?_
     rintro e w' ⟨h1, ⟨A', cp', h2⟩, h3⟩
     refine ⟨h1, ⟨A', cp', ?_⟩, h3⟩
     have e2 : s' = (tlU a b c j ^^ s.2.1 ^^ s.2.2, s.1, s.2.1) := Q1.out.symm
     rw [e2]; exact h2)
    have HU := Lib.hid hqu
    have HZ := Lib.hid hqz
    have HST := Lib.hid hst'
    obtain ⟨c0, c1, c2, c3, f0, f1, f2, f3⟩ := hst'.facts
    have HQ := Lib.hid hs'
    clear hqu hqz hst' hs'
    generalize hiu : ib (tlU a b c j) = iu at *
    generalize hiz : ib (tlZ a b c j) = iz at *
    have HIU := Lib.hid hiu
    have HIZ := Lib.hid hiz
    have HB := Lib.hid hB
    clear hiu hiz hB
    unfold regV at HE
    rcases (by omega : j = 0 ∨ j = 1 ∨ j = 2) with rfl | rfl | rfl
    all_goals try simp only [Int.ofNat_zero, Int.ofNat_one, Int.cast_ofNat_Int]
    · have hcu := Rd.cell (Own.rd hOu) hlt
      have hcz := Rd.cell (Own.rd hOz) hlt
      have hfu := Ownv.frozen hOu (by omega) 0
      have hfz := Ownv.frozen hOz (by omega) 0
      simp only [adr_some, Nat.zero_add] at hcu hcz hfu hfz
      go_wp2_with (go_at_call 207; refine (HE _).out.mono ?_; rintro e w2 ⟨rfl, hB2⟩)
      have HB2 := Lib.hid (HB.out.trans (hB2.mono HB.out.size))
      have hU2 := Ownv.below hOu hB2
      have hZ2 := Ownv.below hOz hB2
      have hS2 := HST.out.below hB2
      have HU2 := Lib.hid hU2
      have HZ2 := Lib.hid hZ2
      have HS2 := Lib.hid hS2
      have hcu2 := Rd.cell (Own.rd hU2) hlt
      have hcz2 := Rd.cell (Own.rd hZ2) hlt
      have hfu2 := Ownv.frozen hU2 (by omega) 0
      have hfz2 := Ownv.frozen hZ2 (by omega) 0
      simp only [adr_some, Nat.zero_add] at hcu2 hcz2 hfu2 hfz2
      clear hU2 hZ2 hS2 hOu hOz hcu hcz hfu hfz c0 c1 c2 c3 f0 f1 f2 f3 hB2
      go_region_with (go_at_call 203; refine (HT _ ?_).out.mono ?_; exact HS2.out.below (Below.refl _ _).drew; rintro e w4 ⟨rfl, ⟨A4, cp4, hS4⟩, hB4⟩; have g1 := hB4.cell (p := ⟨w.heap.size, 0, none⟩) (by simp); have g2 := hB4.frozen (p := ⟨w.heap.size, 0, none⟩) (by simp); have g3 := hB4.cell (p := ⟨w.heap.size + 1, 0, none⟩) (by simp); have g4 := hB4.frozen (p := ⟨w.heap.size + 1, 0, none⟩) (by simp))
      have HBd := Lib.hid ((Below.refl (w.heap.size + 2) w2).drew.trans hB4)
      have HS4 := Lib.hid hS4
      clear hB4 hS4 g1 g2 g3 g4 hcu2 hcz2 hfu2 hfz2
      go_wp2
      go_roundw
      case rel => exact tail_next a b c w w2 w4 o 0 hlt vu vz A4 cp4 _ s' HQ.out HU2.out HU.out HZ2.out HZ.out HB2.out HBd.out HS4.out iu iz HIU.out HIZ.out
      case measure => simp [intOf]
    · have hcu := Rd.cell (Own.rd hOu) hlt
      have hcz := Rd.cell (Own.rd hOz) hlt
      have hfu := Ownv.frozen hOu (by omega) 1
      have hfz := Ownv.frozen hOz (by omega) 1
      simp only [adr_some, Nat.zero_add] at hcu hcz hfu hfz
      go_wp2_with (go_at_call 207; refine (HE _).out.mono ?_; rintro e w2 ⟨rfl, hB2⟩)
      have HB2 := Lib.hid (HB.out.trans (hB2.mono HB.out.size))
      have hU2 := Ownv.below hOu hB2
      have hZ2 := Ownv.below hOz hB2
      have hS2 := HST.out.below hB2
      have HU2 := Lib.hid hU2
      have HZ2 := Lib.hid hZ2
      have HS2 := Lib.hid hS2
      have hcu2 := Rd.cell (Own.rd hU2) hlt
      have hcz2 := Rd.cell (Own.rd hZ2) hlt
      have hfu2 := Ownv.frozen hU2 (by omega) 1
      have hfz2 := Ownv.frozen hZ2 (by omega) 1
      simp only [adr_some, Nat.zero_add] at hcu2 hcz2 hfu2 hfz2
      clear hU2 hZ2 hS2 hOu hOz hcu hcz hfu hfz c0 c1 c2 c3 f0 f1 f2 f3 hB2
      go_region_with (go_at_call 203; refine (HT _ ?_).out.mono ?_; exact HS2.out.below (Below.refl _ _).drew; rintro e w4 ⟨rfl, ⟨A4, cp4, hS4⟩, hB4⟩; have g1 := hB4.cell (p := ⟨w.heap.size, 1, none⟩) (by simp); have g2 := hB4.frozen (p := ⟨w.heap.size, 1, none⟩) (by simp); have g3 := hB4.cell (p := ⟨w.heap.size + 1, 1, none⟩) (by simp); have g4 := hB4.frozen (p := ⟨w.heap.size + 1, 1, none⟩) (by simp))
      have HBd := Lib.hid ((Below.refl (w.heap.size + 2) w2).drew.trans hB4)
      have HS4 := Lib.hid hS4
      clear hB4 hS4 g1 g2 g3 g4 hcu2 hcz2 hfu2 hfz2
      go_wp2
      go_roundw
      case rel => exact tail_next a b c w w2 w4 o 1 hlt vu vz A4 cp4 _ s' HQ.out HU2.out HU.out HZ2.out HZ.out HB2.out HBd.out HS4.out iu iz HIU.out HIZ.out
      case measure => simp [intOf]
    · have hcu := Rd.cell (Own.rd hOu) hlt
      have hcz := Rd.cell (Own.rd hOz) hlt
      have hfu := Ownv.frozen hOu (by omega) 2
      have hfz := Ownv.frozen hOz (by omega) 2
      simp only [adr_some, Nat.zero_add] at hcu hcz hfu hfz
      go_wp2_with (go_at_call 207; refine (HE _).out.mono ?_; rintro e w2 ⟨rfl, hB2⟩)
      have HB2 := Lib.hid (HB.out.trans (hB2.mono HB.out.size))
      have hU2 := Ownv.below hOu hB2
      have hZ2 := Ownv.below hOz hB2
      have hS2 := HST.out.below hB2
      have HU2 := Lib.hid hU2
      have HZ2 := Lib.hid hZ2
      have HS2 := Lib.hid hS2
      have hcu2 := Rd.cell (Own.rd hU2) hlt
      have hcz2 := Rd.cell (Own.rd hZ2) hlt
      have hfu2 := Ownv.frozen hU2 (by omega) 2
      have hfz2 := Ownv.frozen hZ2 (by omega) 2
      simp only [adr_some, Nat.zero_add] at hcu2 hcz2 hfu2 hfz2
      clear hU2 hZ2 hS2 hOu hOz hcu hcz hfu hfz c0 c1 c2 c3 f0 f1 f2 f3 hB2
      go_region_with (go_at_call 203; refine (HT _ ?_).out.mono ?_; exact HS2.out.below (Below.refl _ _).drew; rintro e w4 ⟨rfl, ⟨A4, cp4, hS4⟩, hB4⟩; have g1 := hB4.cell (p := ⟨w.heap.size, 2, none⟩) (by simp); have g2 := hB4.frozen (p := ⟨w.heap.size, 2, none⟩) (by simp); have g3 := hB4.cell (p := ⟨w.heap.size + 1, 2, none⟩) (by simp); have g4 := hB4.frozen (p := ⟨w.heap.size + 1, 2, none⟩) (by simp))
      have HBd := Lib.hid ((Below.refl (w.heap.size + 2) w2).drew.trans hB4)
      have HS4 := Lib.hid hS4
      clear hB4 hS4 g1 g2 g3 g4 hcu2 hcz2 hfu2 hfz2
      go_wp2
      go_roundw
      case rel => exact tail_next a b c w w2 w4 o 2 hlt vu vz A4 cp4 _ s' HQ.out HU2.out HU.out HZ2.out HZ.out HB2.out HBd.out HS4.out iu iz HIU.out HIZ.out
      case measure => simp [intOf]
  · obtain rfl : j = 3 := by omega
    have HU := Lib.hid hU.vals
    have HZ := Lib.hid hZ.vals
    have u0 := Rd.cell (Own.rd HU.out) (j := 0) (by omega)
    have u1 := Rd.cell (Own.rd HU.out) (j := 1) (by omega)
    have u2 := Rd.cell (Own.rd HU.out) (j := 2) (by omega)
    have z0 := Rd.cell (Own.rd HZ.out) (j := 0) (by omega)
    have z1 := Rd.cell (Own.rd HZ.out) (j := 1) (by omega)
    have z2 := Rd.cell (Own.rd HZ.out) (j := 2) (by omega)
    have fu0 := Ownv.frozen HU.out (by omega) 0
    have fu1 := Ownv.frozen HU.out (by omega) 1
    have fu2 := Ownv.frozen HU.out (by omega) 2
    have fz0 := Ownv.frozen HZ.out (by omega) 0
    have fz1 := Ownv.frozen HZ.out (by omega) 1
    have fz2 := Ownv.frozen HZ.out (by omega) 2
    have gi0 : ∀ x y z, gi [x, y, z] 0 = x := fun _ _ _ => rfl
    have gi1 : ∀ x y z, gi [x, y, z] 1 = y := fun _ _ _ => rfl
    have gi2 : ∀ x y z, gi [x, y, z] 2 = z := fun _ _ _ => rfl
    simp only [gi0, gi1, gi2] at u0 u1 u2 z0 z1 z2
    simp only [adr_some, Nat.zero_add] at u0 u1 u2 z0 z1 z2 fu0 fu1 fu2 fz0 fz1 fz2
    clear gi0 gi1 gi2 hst' hU hZ
    have HB := Lib.hid hB
    clear hB
    go_wp2
    go_region
    go_wp2
    have s1 := Own.set3 HU.out (ib (tlU a b c 0)) (ib (tlU a b c 1)) (ib (tlU a b c 2))
    have hne : (some (blk (some ⟨w.heap.size + 1, 0, none⟩))) ≠ some w.heap.size := fun he => by have := Option.some.inj he; simp [blk] at this
    have hne' : (some (blk (some ⟨w.heap.size, 0, none⟩))) ≠ some (w.heap.size + 1) := fun he => by have := Option.some.inj he; simp [blk] at this
    have s2 := Own.set3 (Ownv.grown HZ.out s1.2 (fun _ => hne)) (ib (tlZ a b c 0)) (ib (tlZ a b c 1)) (ib (tlZ a b c 2))
    have s3 : Own .u8 165 _ _ _ 3 3 [(ib (tlU a b c 0)), (ib (tlU a b c 1)), (ib (tlU a b c 2))] := Ownv.grown s1.1 s2.2 (fun _ => hne')
    have b1 := HB.out.grown s1.2 HB.out.size (fun k hk => by have := Option.some.inj hk; omega)
    have b2 := b1.grown s2.2 b1.size (fun k hk => by have := Option.some.inj hk; omega)
    refine bodyPost_ret (v := .tuple #[.agg #[.int .u8 (ib (tlU a b c 0)), .int .u8 (ib (tlU a b c 1)), .int .u8 (ib (tlU a b c 2))], .agg #[.int .u8 (ib (tlZ a b c 0)), .int .u8 (ib (tlZ a b c 1)), .int .u8 (ib (tlZ a b c 2))], .int .i64 0]) ?_ rfl ⟨rfl, b2.drew⟩
    rw [results_cct rfl]
    have l1 := load_u8x3 (Ownv.drew s3)
    have l2 := load_u8x3 (Ownv.drew s2.1)
    simp [asAddr, l1, l2, Sem.run_pure]
section
variable {P : Program} {w w' w0 : World} {A B : Option Addr} {n c m d g : Nat} {vs us : List Value} {e : TypeId}
theorem bal (h : Below w0.heap.size w0 w) (o : Obj) : Below w0.heap.size w0 (w.alloc o) := h.alloc h.size o
theorem heap_new' {N : Nat} {o : Obj} (hN : N = w.heap.size) : (w.alloc o).heap[N]? = some o := by subst hN; exact heap_alloc_new _ _
theorem heap_old' {N : Nat} {o x : Obj} (h : w.heap[N]? = some x) : (w.alloc o).heap[N]? = some x := by
 rw [heap_alloc_old (h := (Array.getElem?_eq_some_iff.1 h).1)]; exact h
theorem Ownv.of_heap {cs : Array Value} {base : Nat} (h : w.heap[g]? = some (.cells cs e (0, 0))) (hb : base ≤ g) (hm : cs.size ≤ maxLen) : Ownv e w base (some ⟨g, 0, none⟩) cs.size cs.size cs.toList :=
 ⟨by simp, .inr ⟨g, cs.size, cs, rfl, hb, h, Nat.le_refl _, hm, by simp, by rw [Nat.mul_one]; exact List.take_of_length_le (by simp)⟩⟩
end
theorem heap_lt {w : World} {g : Nat} {x : Obj} (h : w.heap[g]? = some x) : g < w.heap.size := (Array.getElem?_eq_some_iff.1 h).1
structure Br where
 fr : Nat
 bt : Nat
 pr : Nat
 tt : Nat
deriving DecidableEq
def UU : Int := -1125899906842624
theorem UU_eq : UU = -1125899906842624 := rfl
def brT : List Br := [⟨0, 0, 0, 0⟩, ⟨0, 1, 1, 4⟩, ⟨1, 0, 0, 4⟩, ⟨1, 1, 1, 0⟩, ⟨2, 0, 1, 5⟩, ⟨2, 1, 0, 1⟩, ⟨3, 0, 1, 1⟩, ⟨3, 1, 0, 5⟩, ⟨4, 0, 1, 2⟩, ⟨4, 1, 0, 6⟩, ⟨5, 0, 1, 6⟩, ⟨5, 1, 0, 2⟩, ⟨6, 0, 0, 7⟩, ⟨6, 1, 1, 3⟩, ⟨7, 0, 0, 3⟩, ⟨7, 1, 1, 7⟩]
structure Ob where
 s : List Int
 p : List Int
 a : List Int
def Ob.k (o : Ob) : Nat := o.a.length
def Ob.ok (o : Ob) : Prop := 1 ≤ o.a.length ∧ o.a.length ≤ 6144 ∧ o.s.length = o.a.length + 3 ∧ o.p.length = o.a.length + 3 ∧ (∀ v ∈ o.s, -127 ≤ v ∧ v ≤ 127) ∧ (∀ v ∈ o.p, -127 ≤ v ∧ v ≤ 127) ∧ (∀ v ∈ o.a, -127 ≤ v ∧ v ≤ 127)
def Ob.x (o : Ob) (i : Nat) : Int := if i < o.k then gi o.s i + gi o.a i else gi o.s i
def Ob.term (o : Ob) (i : Nat) (b : Br) : Int := o.x i * (1 - 2 * (b.bt : Int)) + gi o.p i * (1 - 2 * (b.pr : Int))
def tailBit (s : Nat) : Nat := (s / 2 + s) % 2
def Ob.allow (o : Ob) (i : Nat) (b : Br) : Bool := decide (i < o.k) || decide (b.bt = tailBit b.fr)
def Ob.fB (o : Ob) (i : Nat) (m nx : List Int) (b : Br) : List Int := if o.allow i b = true ∧ UU < gi m b.fr then nx.set b.tt (max (gi nx b.tt) (gi m b.fr + o.term i b)) else nx
def Ob.bB (o : Ob) (i : Nat) (m nx : List Int) (b : Br) : List Int := if o.allow i b = true ∧ UU < gi m b.tt then nx.set b.fr (max (gi nx b.fr) (gi m b.tt + o.term i b)) else nx
def noneL : List Int := List.replicate 8 UU
def none0 : List Int := 0 :: List.replicate 7 UU
def Ob.fwd (o : Ob) (i : Nat) (m : List Int) : List Int := brT.foldl (o.fB i m) noneL
def Ob.bwd (o : Ob) (i : Nat) (m : List Int) : List Int := brT.foldl (o.bB i m) noneL
def Ob.f (o : Ob) : Nat → List Int
 | 0 => none0
 | i + 1 => o.fwd i (o.f i)
def Ob.bd (o : Ob) : Nat → List Int
 | 0 => none0
 | d + 1 => o.bwd (o.s.length - 1 - d) (o.bd d)
def Ob.b (o : Ob) (i : Nat) : List Int := o.bd (o.s.length - i)
def Ob.vB (o : Ob) (i bit : Nat) (f b : List Int) (best : Int) (x : Br) : Int := if x.bt = bit ∧ UU < gi f x.fr ∧ UU < gi b x.tt then max best (gi f x.fr + o.term i x + gi b x.tt) else best
def Ob.val (o : Ob) (i bit : Nat) (f b : List Int) : Int := brT.foldl (o.vB i bit f b) UU
def Ob.tot (o : Ob) (i : Nat) : Int := (o.val i 0 (o.f i) (o.b (i + 1)) - o.val i 1 (o.f i) (o.b (i + 1))).tdiv 2
def ext (v : Int) : Int := min (max ((3 * v).tdiv 4) (-127)) 127
structure Met (B : Int) (m : List Int) : Prop where
 len : m.length = 8
 bd : ∀ j, j < 8 → gi m j = UU ∨ (-B ≤ gi m j ∧ gi m j ≤ B)
theorem br_bd : ∀ b ∈ brT, b.fr < 8 ∧ b.bt < 2 ∧ b.pr < 2 ∧ b.tt < 8 := by decide
theorem mul_sgn (x : Int) (t : Nat) (ht : t < 2) : x * (1 - 2 * (t : Int)) = x ∨ x * (1 - 2 * (t : Int)) = -x := by
 rcases (by omega : t = 0 ∨ t = 1) with rfl | rfl
 · left; simp
 · right; simp
theorem Ob.x_bd {o : Ob} (h : o.ok) (i : Nat) (hi : i < o.s.length) : -254 ≤ o.x i ∧ o.x i ≤ 254 := by
 obtain ⟨h1, h2, h3, h4, h5, h6, h7⟩ := h
 unfold Ob.x
 have := h5 _ (gi_mem o.s i hi)
 split
 · rename_i hk
   have := h7 _ (gi_mem o.a i hk)
   omega
 · omega
theorem Ob.p_bd {o : Ob} (h : o.ok) (i : Nat) (hi : i < o.s.length) : -127 ≤ gi o.p i ∧ gi o.p i ≤ 127 := by
 obtain ⟨h1, h2, h3, h4, h5, h6, h7⟩ := h
 exact h6 _ (gi_mem o.p i (by omega))
theorem Ob.term_bd {o : Ob} (h : o.ok) (i : Nat) (hi : i < o.s.length) (b : Br) (hb : b ∈ brT) : -381 ≤ o.term i b ∧ o.term i b ≤ 381 := by
 have h1 := o.x_bd h i hi
 have h2 := o.p_bd h i hi
 obtain ⟨-, b1, b2, -⟩ := br_bd b hb
 unfold Ob.term
 rcases mul_sgn (o.x i) b.bt b1 with e1 | e1 <;> rcases mul_sgn (gi o.p i) b.pr b2 with e2 | e2 <;> rw [e1, e2] <;> omega
theorem gi_noneL (j : Nat) (hj : j < 8) : gi noneL j = UU := by
 rw [gi_eq _ _ (by simpa [noneL] using hj)]
 exact List.getElem_replicate ..
theorem noneL_met (B : Int) : Met B noneL := ⟨List.length_replicate .., fun j hj => .inl (gi_noneL j hj)⟩
theorem gi_none0 (j : Nat) (hj : j < 8) : gi none0 j = if j = 0 then 0 else UU := by
 rcases (by omega : j = 0 ∨ j = 1 ∨ j = 2 ∨ j = 3 ∨ j = 4 ∨ j = 5 ∨ j = 6 ∨ j = 7) with rfl | rfl | rfl | rfl | rfl | rfl | rfl | rfl <;> rfl
theorem none0_met (B : Int) (hB : 0 ≤ B) : Met B none0 := ⟨rfl, fun j hj => by
 rw [gi_none0 j hj]
 split
 · exact .inr (by omega)
 · exact .inl rfl⟩
theorem gi_set' (xs : List Int) (k : Nat) (v : Int) (j : Nat) (h : j < xs.length) : gi (xs.set k v) j = if k = j then v else gi xs j := by
 rw [gi_eq _ _ (by rw [List.length_set]; exact h), List.getElem_set, gi_eq _ _ h]
theorem met_set {B : Int} {m : List Int} (h : Met B m) (j : Nat) (v : Int) (hv : -B ≤ v ∧ v ≤ B) : Met B (m.set j v) := ⟨by rw [List.length_set]; exact h.len, fun q hq => by
 rw [gi_set' _ _ _ _ (by rw [h.len]; exact hq)]
 split
 · exact .inr hv
 · exact h.bd q hq⟩
theorem max_bd {a b B : Int} (ha : a = UU ∨ (-B ≤ a ∧ a ≤ B)) (hb : -B ≤ b ∧ b ≤ B) (hB : B ≤ 100000000) : -B ≤ max a b ∧ max a b ≤ B := by
 rw [UU_eq] at ha
 omega
theorem fold_met {o : Ob} (h : o.ok) (i : Nat) (hi : i < o.s.length) {B : Int} (hB : B ≤ 50000000) {m : List Int} (hm : Met B m) (g : Ob → Nat → List Int → List Int → Br → List Int)
 (hg : ∀ (nx : List Int) (b : Br), b ∈ brT → Met (B + 381) nx → Met (B + 381) (g o i m nx b)) : ∀ (l : List Br) (nx : List Int), (∀ b ∈ l, b ∈ brT) → Met (B + 381) nx → Met (B + 381) (l.foldl (g o i m) nx)
 | [], nx, _, hn => hn
 | b :: l, nx, hl, hn => fold_met h i hi hB hm g hg l _ (fun c hc => hl c (List.mem_cons_of_mem _ hc)) (hg nx b (hl b List.mem_cons_self) hn)
theorem fB_met {o : Ob} (h : o.ok) (i : Nat) (hi : i < o.s.length) {B : Int} (hB : B ≤ 50000000) (h0 : 0 ≤ B) {m : List Int} (hm : Met B m) (nx : List Int) (b : Br) (hb : b ∈ brT) (hn : Met (B + 381) nx) : Met (B + 381) (o.fB i m nx b) := by
 unfold Ob.fB
 split
 · rename_i hc
   obtain ⟨b1, -, -, b4⟩ := br_bd b hb
   have ht := o.term_bd h i hi b hb
   have h1 := hm.bd _ b1
   have h2 := hn.bd _ b4
   have hc2 := hc.2
   refine met_set hn _ _ (max_bd h2 ?_ (by omega))
   rcases h1 with h1 | h1
   · omega
   · omega
 · exact hn
theorem bB_met {o : Ob} (h : o.ok) (i : Nat) (hi : i < o.s.length) {B : Int} (hB : B ≤ 50000000) (h0 : 0 ≤ B) {m : List Int} (hm : Met B m) (nx : List Int) (b : Br) (hb : b ∈ brT) (hn : Met (B + 381) nx) : Met (B + 381) (o.bB i m nx b) := by
 unfold Ob.bB
 split
 · rename_i hc
   obtain ⟨b1, -, -, b4⟩ := br_bd b hb
   have ht := o.term_bd h i hi b hb
   have h1 := hm.bd _ b4
   have h2 := hn.bd _ b1
   have hc2 := hc.2
   refine met_set hn _ _ (max_bd h2 ?_ (by omega))
   rcases h1 with h1 | h1
   · omega
   · omega
 · exact hn
theorem fwd_met {o : Ob} (h : o.ok) (i : Nat) (hi : i < o.s.length) {B : Int} (hB : B ≤ 50000000) (h0 : 0 ≤ B) {m : List Int} (hm : Met B m) (l : List Br) (hl : ∀ b ∈ l, b ∈ brT) : Met (B + 381) (l.foldl (o.fB i m) noneL) :=
 fold_met h i hi hB hm (fun o i m nx b => o.fB i m nx b) (fun nx b hb hn => fB_met h i hi hB h0 hm nx b hb hn) l noneL hl (noneL_met _)
theorem bwd_met {o : Ob} (h : o.ok) (i : Nat) (hi : i < o.s.length) {B : Int} (hB : B ≤ 50000000) (h0 : 0 ≤ B) {m : List Int} (hm : Met B m) (l : List Br) (hl : ∀ b ∈ l, b ∈ brT) : Met (B + 381) (l.foldl (o.bB i m) noneL) :=
 fold_met h i hi hB hm (fun o i m nx b => o.bB i m nx b) (fun nx b hb hn => bB_met h i hi hB h0 hm nx b hb hn) l noneL hl (noneL_met _)
theorem Met.mono {B C : Int} {m : List Int} (h : Met B m) (hC : B ≤ C) : Met C m := ⟨h.len, fun j hj => (h.bd j hj).imp id (fun h => by omega)⟩
theorem f_met {o : Ob} (h : o.ok) : ∀ i, i ≤ o.s.length → Met (381 * (i : Int)) (o.f i)
 | 0, _ => none0_met _ (by simp)
 | i + 1, hi => by
   have h1 := f_met h i (by omega)
   have h3 := h.2.1
   have h4 := h.2.2.1
   have := fwd_met h i (by omega) (B := 381 * (i : Int)) (by omega) (by omega) h1 brT (fun _ hb => hb)
   refine Met.mono this ?_
   push_cast
   omega
theorem bd_met {o : Ob} (h : o.ok) : ∀ d, d ≤ o.s.length → Met (381 * (d : Int)) (o.bd d)
 | 0, _ => none0_met _ (by simp)
 | d + 1, hd => by
   have h1 := bd_met h d (by omega)
   have h3 := h.2.1
   have h4 := h.2.2.1
   have := bwd_met h (o.s.length - 1 - d) (by omega) (B := 381 * (d : Int)) (by omega) (by omega) h1 brT (fun _ hb => hb)
   refine Met.mono this ?_
   push_cast
   omega
end Go.Proofs.YtkdfefpnhaebfaaGreat
