/-
  Bundle of the texts Bc Bd Be Bf. Conditions: none.
-/
import Derived.Test.YtpdalbckmfadbaaGreatBuhab
import Derived.IntWalk
import Derived.StillTail
import Derived.OrdersHeld
namespace Go.Proofs.YtpdalbckmfadbaaGreat
open Go.RowKit
set_option linter.unusedVariables false
/-- an observation lies behind a pointer -/
structure ObsAt (W : World) (bo : Nat) (o : Ob) (S P A : Option Addr) (cs cp ca : Nat) : Prop where
  blk : Blk W bo 219 [.slice S o.s.length cs, .slice P o.p.length cp, .slice A o.a.length ca]
  s : Rd .i64 W S o.s.length cs o.s
  p : Rd .i64 W P o.p.length cp o.p
  a : Rd .i64 W A o.a.length ca o.a
section
variable {W W' : World} {bo : Nat} {o : Ob} {S P A : Option Addr} {cs cp ca : Nat}
theorem ObsAt.below (h : ObsAt W bo o S P A cs cp ca) (hB : Below W.heap.size W W') : ObsAt W' bo o S P A cs cp ca := ⟨h.blk.below hB, Rdv.below h.s hB, Rdv.below h.p hB, Rdv.below h.a hB⟩
theorem ObsAt.alloc (h : ObsAt W bo o S P A cs cp ca) (ob : Obj) : ObsAt (W.alloc ob) bo o S P A cs cp ca := ⟨h.blk.alloc ob, Rdv.alloc h.s ob, Rdv.alloc h.p ob, Rdv.alloc h.a ob⟩
theorem ObsAt.c0 (h : ObsAt W bo o S P A cs cp ca) : W.cell? ⟨bo, 0, none⟩ = some (.slice S o.s.length cs) := h.blk.cell rfl
theorem ObsAt.c1 (h : ObsAt W bo o S P A cs cp ca) : W.cell? ⟨bo, 1, none⟩ = some (.slice P o.p.length cp) := h.blk.cell rfl
theorem ObsAt.c2 (h : ObsAt W bo o S P A cs cp ca) : W.cell? ⟨bo, 2, none⟩ = some (.slice A o.a.length ca) := h.blk.cell rfl
end
theorem steps_any (bo : Nat) (o : Ob) (S P A : Option Addr) (cs cp ca : Nat) (w : World) (h : ObsAt w bo o S P A cs cp ca) :
    Calls Tryz.prog 134 #[.pointer (some ⟨bo, 0, none⟩)] w fun e w' => e = .returned (.int .i64 (o.s.length : Int)) ∧ w = w' := by
  have hc := h.c0
  have hb := (Rdv.bd h.s).1
  clear h
  go_enter Tryz.func134, Tryz.ntmps134
  go_wp2
  go_ret
  exact ⟨rfl, rfl⟩
def brV (b : Br) : List Value := ints8 [(b.fr : Int), (b.bt : Int), (b.pr : Int), (b.tt : Int)]
def brA (b : Br) : Value := .agg #[.int .i64 (b.fr : Int), .int .i64 (b.bt : Int), .int .i64 (b.pr : Int), .int .i64 (b.tt : Int)]
theorem tail_bits (n : Nat) (h : n < 8) : bits .xor .i64 (bits .and .i64 ((n : Int) / 2) 1) (bits .and .i64 (n : Int) 1) = ((tailBit n : Nat) : Int) := by
  rcases (by omega : n = 0 ∨ n = 1 ∨ n = 2 ∨ n = 3 ∨ n = 4 ∨ n = 5 ∨ n = 6 ∨ n = 7) with rfl | rfl | rfl | rfl | rfl | rfl | rfl | rfl <;> decide
set_option maxRecDepth 100000 in
theorem allows_any (bo : Nat) (o : Ob) (S P A : Option Addr) (cs cp ca i : Nat) (b : Br) (w : World) (h : ObsAt w bo o S P A cs cp ca) (hb : b ∈ brT) :
    Calls Tryz.prog 163 #[.pointer (some ⟨bo, 0, none⟩), .int .i64 (i : Int), brA b] w fun e w' => e = .returned (.bool (o.allow i b)) ∧ Below w.heap.size w w' := by
  have hc := (h.alloc (.cells #[.int .i64 (b.fr : Int), .int .i64 (b.bt : Int), .int .i64 (b.pr : Int), .int .i64 (b.tt : Int)] 161)).c2
  have hbd := (Rdv.bd h.a).1
  obtain ⟨b1, b2, b3, b4⟩ := br_bd b hb
  have HT := Lib.hid (tail_bits b.fr b1)
  unfold brA
  unfold Ob.allow
  by_cases hk : i < o.k
  · have hd : decide ((i : Int) < (o.a.length : Int)) = true := by simp; exact hk
    rw [show decide (i < o.k) = true from by simpa using hk, Bool.true_or]
    unfold Ob.k at hk
    clear h hb
    go_enter Tryz.func163, Tryz.ntmps163
    go_wp2
    go_ret
    exact ⟨rfl, (Below.refl _ w).alloc (Nat.le_refl _) _⟩
  · have hd : decide ((i : Int) < (o.a.length : Int)) = false := by
      have hk' : ¬ i < o.a.length := hk
      simp; omega
    rw [show decide (i < o.k) = false from by simpa using hk, Bool.false_or]
    unfold Ob.k at hk
    clear h hb
    go_enter Tryz.func163, Tryz.ntmps163
    go_wp2
    go_ret
    refine ⟨ret_bool ?_, (Below.refl _ w).alloc (Nat.le_refl _) _⟩
    rw [HT.out]
    by_cases e : b.bt = tailBit b.fr
    · rw [beq_t (by omega)]; simp [e]
    · rw [beq_f (by omega)]; simp [e]
theorem sgn_bd (x B : Int) (t : Nat) (ht : t < 2) (hB : -B ≤ x ∧ x ≤ B) : -B ≤ x * (1 - 2 * (t : Int)) ∧ x * (1 - 2 * (t : Int)) ≤ B := by
  rcases mul_sgn x t ht with e | e <;> rw [e] <;> omega
set_option maxRecDepth 100000 in
theorem term_any (bo : Nat) (o : Ob) (S P A : Option Addr) (cs cp ca i : Nat) (b : Br) (w : World) (h : ObsAt w bo o S P A cs cp ca) (hb : b ∈ brT) (ho : o.ok) (hi : i < o.s.length) :
    Calls Tryz.prog 164 #[.pointer (some ⟨bo, 0, none⟩), .int .i64 (i : Int), brA b] w fun e w' => e = .returned (.int .i64 (o.term i b)) ∧ Below w.heap.size w w' := by
  have h' := h.alloc (.cells #[.int .i64 (b.fr : Int), .int .i64 (b.bt : Int), .int .i64 (b.pr : Int), .int .i64 (b.tt : Int)] 161)
  have hc0 := h'.c0
  have hc1 := h'.c1
  have hc2 := h'.c2
  have hbd := (Rdv.bd h.s).1
  obtain ⟨b1, b2, b3, b4⟩ := br_bd b hb
  have hx := o.x_bd ho i hi
  have hp := o.p_bd ho i hi
  have hpl : i < o.p.length := by have := ho.2.2.1; have := ho.2.2.2.1; omega
  have hixS := fun W => Rdv.ix h.s el22 hi .i64 W
  have hixP := fun W => Rdv.ix h.p el22 hpl .i64 W
  have hcS := Rd.cell h'.s hi
  have hcP := Rd.cell h'.p hpl
  have q1 := sgn_bd (o.x i) 254 b.bt b2 hx
  have q2 := sgn_bd (gi o.p i) 127 b.pr b3 hp
  have hsv : -127 ≤ gi o.s i ∧ gi o.s i ≤ 127 := ho.2.2.2.2.1 _ (gi_mem o.s i hi)
  have w1 : IntKind.i64.wrap (2 * (b.bt : Int)) = 2 * (b.bt : Int) := IntWalk.i64_in _ (by omega)
  have w2 : IntKind.i64.wrap (1 - 2 * (b.bt : Int)) = 1 - 2 * (b.bt : Int) := IntWalk.i64_in _ (by omega)
  have w3 : IntKind.i64.wrap (2 * (b.pr : Int)) = 2 * (b.pr : Int) := IntWalk.i64_in _ (by omega)
  have w4 : IntKind.i64.wrap (1 - 2 * (b.pr : Int)) = 1 - 2 * (b.pr : Int) := IntWalk.i64_in _ (by omega)
  have w6 : IntKind.i64.wrap (gi o.p i * (1 - 2 * (b.pr : Int))) = gi o.p i * (1 - 2 * (b.pr : Int)) := IntWalk.i64_in _ (by omega)
  unfold brA
  unfold Ob.term
  by_cases hk : i < o.k
  · have hd : decide ((i : Int) < (o.a.length : Int)) = true := by simp; exact hk
    have hka : i < o.a.length := hk
    have hixA := fun W => Rdv.ix h.a el22 hka .i64 W
    have hcA := Rd.cell h'.a hka
    have hav : -127 ≤ gi o.a i ∧ gi o.a i ≤ 127 := ho.2.2.2.2.2.2 _ (gi_mem o.a i hka)
    have ex : o.x i = gi o.s i + gi o.a i := by unfold Ob.x; rw [if_pos hk]
    rw [ex] at q1 hx ⊢
    have w5 : IntKind.i64.wrap ((gi o.s i + gi o.a i) * (1 - 2 * (b.bt : Int))) = (gi o.s i + gi o.a i) * (1 - 2 * (b.bt : Int)) := IntWalk.i64_in _ (by omega)
    have w7 : IntKind.i64.wrap ((gi o.s i + gi o.a i) * (1 - 2 * (b.bt : Int)) + gi o.p i * (1 - 2 * (b.pr : Int))) = (gi o.s i + gi o.a i) * (1 - 2 * (b.bt : Int)) + gi o.p i * (1 - 2 * (b.pr : Int)) := IntWalk.i64_in _ (by omega)
    clear h h' hb ho ex
    generalize gi o.s i = sv at *
    generalize gi o.a i = av at *
    generalize gi o.p i = pv at *
    go_enter Tryz.func164, Tryz.ntmps164
    go_wp2
    go_quiet (fail)
    go_wp2
    go_ret
    exact ⟨rfl, ((Below.refl _ w).alloc (Nat.le_refl _) _).trans (Qt.below ⟨_, rfl⟩ _)⟩
  · have hd : decide ((i : Int) < (o.a.length : Int)) = false := by
      have hk' : ¬ i < o.a.length := hk
      simp; omega
    have ex : o.x i = gi o.s i := by unfold Ob.x; rw [if_neg hk]
    rw [ex] at q1 hx ⊢
    have w5 : IntKind.i64.wrap (gi o.s i * (1 - 2 * (b.bt : Int))) = gi o.s i * (1 - 2 * (b.bt : Int)) := IntWalk.i64_in _ (by omega)
    have w7 : IntKind.i64.wrap (gi o.s i * (1 - 2 * (b.bt : Int)) + gi o.p i * (1 - 2 * (b.pr : Int))) = gi o.s i * (1 - 2 * (b.bt : Int)) + gi o.p i * (1 - 2 * (b.pr : Int)) := IntWalk.i64_in _ (by omega)
    clear h h' hb ho ex
    generalize gi o.s i = sv at *
    generalize gi o.p i = pv at *
    go_enter Tryz.func164, Tryz.ntmps164
    go_wp2
    go_quiet (fail)
    go_wp2
    go_ret
    exact ⟨rfl, ((Below.refl _ w).alloc (Nat.le_refl _) _).trans (Qt.below ⟨_, rfl⟩ _)⟩
end Go.Proofs.YtpdalbckmfadbaaGreat

namespace Go.Proofs.YtpdalbckmfadbaaGreat
open Go.RowKit
set_option linter.unusedVariables false
def brAll : List Value := brT.flatMap brV
theorem info111 : (Tryz.prog.info? 233).map (·.size) = some 64 := by kernel_rfl
theorem info77 : (Tryz.prog.info? 161).map (·.size) = some 4 := by kernel_rfl
def tabC (j : Nat) : List Value := (brT.take j).flatMap brV
theorem tabC_len : ∀ j, j ≤ 16 → (tabC j).length = 4 * j := by decide
theorem tabC_succ (j : Nat) (hj : j < brT.length) : tabC (j + 1) = tabC j ++ brV brT[j] := by
  unfold tabC; rw [List.take_succ_eq_append_getElem hj, List.flatMap_append]; simp
def zer (n : Nat) : List Value := List.replicate n (.int .i64 0)
theorem zer_split (j : Nat) (hj : j < 16) : zer (64 - 4 * j) = zer 4 ++ zer (64 - 4 * (j + 1)) := by
  unfold zer; rw [List.replicate_append_replicate]; congr 1; omega
theorem tab_j (j : Nat) (hj : j < brT.length) : ∃ a b c x : Bool, (j : Int) / 2 = stI a b c ∧ (j : Int) % 2 = ib x ∧ brV brT[j] = ints8 [stI a b c, ib x, ib (x ^^ b ^^ c ^^ a ^^ c), stI (x ^^ b ^^ c) a b] := by
  refine ⟨decide (j / 8 % 2 = 1), decide (j / 4 % 2 = 1), decide (j / 2 % 2 = 1), decide (j % 2 = 1), ?_⟩
  have hj' : j < 16 := hj
  rcases (by omega : j = 0 ∨ j = 1 ∨ j = 2 ∨ j = 3 ∨ j = 4 ∨ j = 5 ∨ j = 6 ∨ j = 7 ∨ j = 8 ∨ j = 9 ∨ j = 10 ∨ j = 11 ∨ j = 12 ∨ j = 13 ∨ j = 14 ∨ j = 15) with rfl | rfl | rfl | rfl | rfl | rfl | rfl | rfl | rfl | rfl | rfl | rfl | rfl | rfl | rfl | rfl <;> exact ⟨by decide, by decide, rfl⟩
def TabInv (w : World) (i : Value) (wr : World) : Prop := ∃ j : Nat, j ≤ 16 ∧ i = .int .i64 j ∧ Blk wr w.heap.size 233 (tabC j ++ zer (64 - 4 * j)) ∧ Below w.heap.size w wr
theorem brV_one (b : Br) : ∀ v ∈ brV b, v.oneCell' = true := ints8_one _
theorem brAll_one : ∀ v ∈ brAll, v.oneCell' = true := by
  intro v hv
  obtain ⟨b, -, h⟩ := List.mem_flatMap.1 hv
  exact brV_one b v h
set_option maxRecDepth 100000 in
set_option maxHeartbeats 1000000 in
theorem table_any (w : World) : Calls Tryz.prog 174 #[] w fun e w' => e = .returned (.agg brAll.toArray) ∧ Below w.heap.size w w' := by
  go_enter Tryz.func174, Tryz.ntmps174
  go_wp2
  go_loopw [4] (fun i wr => TabInv w i wr) (fun i _ => 16 - (intOf i).toNat)
  case atStart => exact ⟨0, by omega, rfl, Blk.new w (zer 64) 233 rfl, (Below.refl _ w).alloc (Nat.le_refl _) _⟩
  case round =>
    obtain ⟨j, hj, rfl, hb, hB⟩ := hrel
    by_cases hlt : j < 16
    · obtain ⟨a, b, c, x, e1, e2, e3⟩ := tab_j j hlt
      have HT := Lib.hid (tabC_succ j hlt)
      rw [zer_split j hlt, ← List.append_assoc] at hb
      have HL := Lib.hid (tabC_len j hj)
      have HE := Lib.hid e3
      have HBK := Lib.hid hb
      have HB := Lib.hid hB
      clear e3 hb hB
      go_wp2_with fail
      refine (regat_any a b c _).mono ?_
      rintro e w1 ⟨rfl, hB1⟩
      have HBK := Lib.hid (HBK.out.below hB1)
      have HB := Lib.hid (HB.out.trans (hB1.mono HB.out.size))
      clear hB1
      go_wp2_with fail
      have hst := fun W => step_any a b c x W
      generalize (x ^^ b ^^ c ^^ a ^^ c) = z at *
      generalize (x ^^ b ^^ c) = y at *
      have HST := Lib.hid hst
      clear hst
      refine (HST.out _).mono ?_
      rintro e w2 ⟨rfl, hB2⟩
      have HBK := Lib.hid (HBK.out.below hB2)
      have HB := Lib.hid (HB.out.trans (hB2.mono HB.out.size))
      clear hB2 HST
      unfold regV
      go_wp2_with fail
      refine (state_any y a b _).mono ?_
      rintro e w3 ⟨rfl, hB3⟩
      have HBK : Hid (Blk w3 w.heap.size 233 (tabC j ++ zer 4 ++ zer (64 - 4 * (j + 1)))) := Lib.hid ((HBK.out.alloc _).below hB3)
      have HB := Lib.hid ((HB.out.alloc HB.out.size (.cells #[.int .i64 (ib y), .int .i64 (ib a), .int .i64 (ib b)] 174)).trans (hB3.mono (by have := HB.out.size; simp; omega)))
      clear hB3
      have hbk := HBK.out
      have hlen := HL.out
      go_wp2_with (refine stmid rfl 161 (.tmp 25) (.tmp 24) rfl rfl (by omega) rfl hbk rfl (by rw [info77]; rfl) (ints8_one [stI a b c, ib x, ib z, stI y a b]) ?_; intro W' h1 h2; have H1 := Lib.hid h1; have H2 := Lib.hid h2; clear h1 h2 hbk)
      go_roundw
      case rel => exact ⟨j + 1, by omega, by go_num, by rw [HT.out, HE.out]; exact H1.out, HB.out.grown H2.out HB.out.size (fun k hk => by cases hk; exact Nat.le_refl _)⟩
      case measure => simp [intOf]; omega
    · obtain rfl : j = 16 := by omega
      have hb' : Blk wr w.heap.size 233 brAll := by rw [show tabC 16 ++ zer (64 - 4 * 16) = brAll from rfl] at hb; exact hb
      have HQ := Lib.hid hB
      clear hb hB
      go_wp2_with (first
        | (refine ldrow rfl 233 (.tmp 0) rfl rfl hb' _ Tryz.underlying233 rfl (by rw [info111]; rfl) ?_)
        | (refine strow rfl 233 (.tmp 0) (.tmp 27) rfl rfl rfl hb' rfl (by rw [info111]; rfl) brAll_one ?_; intro W' h1 h2; have H1 := Lib.hid h1; have H2 := Lib.hid h2; clear h1 h2 hb'))
      refine bodyPost_ret (v := .agg brAll.toArray) ?_ rfl ⟨rfl, HQ.out.grown H2.out HQ.out.size (fun k hk => by cases hk; exact Nat.le_refl _)⟩
      rw [results_c rfl]
      have l1 : (loadVar 233 ⟨w.heap.size, 0, none⟩).run Tryz.prog W' = .ok (.agg brAll.toArray) W' := run_loadVar_row (P := Tryz.prog) W' _ 233 233 _ (0, 0) _ H1.out Tryz.underlying233 rfl (by rw [info111]; rfl)
      simp [Act.put, asAddr, l1, Sem.run_pure]
theorem branches_any (w : World) : Calls Tryz.prog 162 #[] w fun e w' => ∃ bb, e = .returned (.slice (some ⟨bb, 0, none⟩) 16 16) ∧ Blk w' bb 233 brAll ∧ w.heap.size ≤ bb ∧ Below w.heap.size w w' := by
  go_enter Tryz.func162, Tryz.ntmps162
  go_wp2_with fail
  refine (table_any _).mono ?_
  rintro e w1 ⟨rfl, hB1⟩
  have hb : Blk (w1.alloc (.cells (zer 64).toArray 233)) w1.heap.size 233 (zer 64) := Blk.new w1 (zer 64) 233 rfl
  have hB : Below w.heap.size w (w1.alloc (.cells (zer 64).toArray 233)) := hB1.alloc hB1.size _
  have HS := Lib.hid hB1.size
  have HQ := Lib.hid hB
  clear hB hB1
  go_wp2_with (refine strow rfl 233 (.tmp 1) (.tmp 2) rfl rfl rfl hb rfl (by rw [info111]; rfl) brAll_one ?_; intro W' h1 h2; have H1 := Lib.hid h1; have H2 := Lib.hid h2; clear h1 h2 hb)
  go_ret
  exact ⟨_, rfl, H1.out, HS.out, HQ.out.grown H2.out HQ.out.size (fun k hk => by cases hk; exact HS.out)⟩
end Go.Proofs.YtpdalbckmfadbaaGreat

namespace Go.Proofs.YtpdalbckmfadbaaGreat
open Go.RowKit
set_option linter.unusedVariables false
section
variable {P : Program} {ops : Array Oper} {Q : Exit → Act → World → Prop} {md : Region.Mode} {S : World → Prop} {z : Nat}
/-- whatever order is picked from here on; S holds behind every operation but z -/
def wpAnyZ (P : Program) (md : Region.Mode) (ops : Array Oper) (Q : Exit → Act → World → Prop) (S : World → Prop) (z : Nat) : Nat → Array Bool → Act → World → Prop
  | 0, listed, a, w => Region.ready md ops listed = [] ∧ Q .normal a w
  | fuel + 1, listed, a, w => (Region.ready md ops listed = [] → Q .normal a w) ∧
    ∀ i ∈ Region.ready md ops listed, wpOp P ops Q i (fun a' w' => (i ≠ z → S w') ∧ wpAnyZ P md ops Q S z fuel (listed.setIfInBounds i true) a' w') a w
theorem wpAny_of_Z : ∀ (fuel : Nat) (listed : Array Bool) (a : Act) (w : World), wpAnyZ P md ops Q S z fuel listed a w → wpAny P md ops Q fuel listed a w
  | 0, _, _, _, h => h
  | fuel + 1, _, _, _, h => ⟨h.1, fun i hi => wpOp_mono (fun a' w' h' => wpAny_of_Z fuel _ a' w' h'.2) (h.2 i hi)⟩
theorem not_ready_of_waits {i : Nat} {listed : Array Bool} (hw : Region.waitsFor md ops z i = true) (hun : listed.getD i true = false) : z ∉ Region.ready md ops listed := by
  intro hr
  obtain ⟨oj, hoj, e, he, hb, hon⟩ := Region.waitsFor_spec hw
  obtain ⟨_, o', ho', hall⟩ := mem_ready.1 hr
  have : oj = o' := Option.some.inj (hoj.symm.trans ho')
  subst this
  have h2 := hall e he hb
  rw [hon, getD_both hun] at h2
  cases h2
theorem wpAnyZ_first {i : Nat} {oi : Oper} {v : Value} (hi : ops[i]? = some oi) (hsel : ∀ (j : Nat) (o : Oper) cs b, ops[j]? = some o → o.op ≠ .select cs b)
    (hQ : ∀ c a w, Q (.panic c) (a.put oi.dst v) w → Q (.panic c) a w) (hz : Region.waitsFor md ops z i = true) :
    ∀ (fuel : Nat) (listed : Array Bool) (a : Act) (w : World),
      (∀ j oj, ops[j]? = some oj → j ≠ i → listed.getD j true = false → (∀ e ∈ oj.after, Region.binds md e = true → e.on ≠ i) → oi.apart ops oj = true) →
      i ∈ Region.ready md ops listed → YieldsIf P ops S oi v a → S w →
      wpAnyZ P md ops Q S z fuel (listed.setIfInBounds i true) (a.put oi.dst v) w → wpAnyZ P md ops Q S z (fuel + 1) listed a w := by
  intro fuel
  induction fuel with
  | zero =>
    intro listed a w _ hr hy hS H
    refine ⟨fun h => (by rw [h] at hr; cases hr), fun j hj => ?_⟩
    by_cases hji : j = i
    · subst hji; exact hy.wpOp hi hS ⟨fun _ => hS, H⟩
    · have := ready_mono hj hji
      rw [H.1] at this
      cases this
  | succ fuel ih =>
    intro listed a w hfree hr hy hS H
    refine ⟨fun h => (by rw [h] at hr; cases hr), fun j hj => ?_⟩
    by_cases hji : j = i
    · subst hji; exact hy.wpOp hi hS ⟨fun _ => hS, H⟩
    · have hun := (mem_ready.1 hr).1
      have hjz : j ≠ z := fun e => not_ready_of_waits hz hun (e ▸ hj)
      have h1 := H.2 j (ready_mono hj hji)
      obtain ⟨hjun, oj, hoj, hall⟩ := mem_ready.1 hj
      have hnot : ∀ e ∈ oj.after, Region.binds md e = true → e.on ≠ i := fun e he hb heq => by
        have h9 := hall e he hb
        rw [heq, getD_both hun] at h9
        cases h9
      have h2 := wpOp_putIf hoj (hfree j oj hoj hji hjun hnot) (fun cs b => hsel i oi cs b hi) (fun cs b => hsel j oj cs b hoj) hQ hy h1
      have hfree' : ∀ k ok, ops[k]? = some ok → k ≠ i → (listed.setIfInBounds j true).getD k true = false →
          (∀ e ∈ ok.after, Region.binds md e = true → e.on ≠ i) → oi.apart ops ok = true := fun k ok hk hki hun' hno => by
        refine hfree k ok hk hki ?_ hno
        by_cases hjk : j = k
        · subst hjk; exact hjun
        · rw [getD_set_ne true hjk] at hun'; exact hun'
      refine wpOp_mono (fun a' w' h3 => ⟨h3.2.1, ih (listed.setIfInBounds j true) a' w' hfree' (ready_mono hr (Ne.symm hji)) h3.1 (h3.2.1 hjz) ?_⟩) h2
      rw [Array.setIfInBounds_comm _ _ hji]
      exact h3.2.2
theorem wpAnyZ_take {i : Nat} {oi : Oper} {v : Value} {fuel : Nat} {listed : Array Bool} {a : Act} {w : World} (hi : ops[i]? = some oi)
    (hs : Region.noSelect ops = true) (hf : Region.free md ops listed i = true) (hr : (Region.ready md ops listed).contains i = true) (hz : Region.waitsFor md ops z i = true)
    (hQ : ∀ c a w, Q (.panic c) (a.put oi.dst v) w → Q (.panic c) a w) (hy : YieldsIf P ops S oi v a) (hS : S w)
    (h : wpAnyZ P md ops Q S z fuel (listed.setIfInBounds i true) (a.put oi.dst v) w) : wpAnyZ P md ops Q S z (fuel + 1) listed a w :=
  wpAnyZ_first hi (Region.noSelect_spec hs) hQ hz fuel listed a w (Region.free_spec hi hf) (by simpa using hr) hy hS h
/-- the only one that may come up -/
theorem wpAnyZ_one {i : Nat} {oi : Oper} {fuel : Nat} {listed : Array Bool} {a : Act} {w : World} (hi : ops[i]? = some oi) (hr : Region.ready md ops listed = [i]) (hg : oi.guard = none)
    (h : ∀ K : Act → World → Prop, (∀ a' w', (i ≠ z → S w') → wpAnyZ P md ops Q S z fuel (listed.setIfInBounds i true) a' w' → K a' w') → oi.wp P a w K Q) : wpAnyZ P md ops Q S z (fuel + 1) listed a w := by
  refine ⟨fun h0 => ?_, fun j hj => ?_⟩
  · rw [hr] at h0
    cases h0
  · rw [hr] at hj
    have hj' : j = i := by simpa using hj
    subst hj'
    unfold wpOp
    simp only [hi]
    rw [if_pos (by simp [Region.wanted, hg])]
    exact .inl (h _ fun _ _ h1 h2 => ⟨h1, h2⟩)
theorem wpAnyZ_done {listed : Array Bool} {a : Act} {w : World} (hr : Region.ready md ops listed = []) (h : Q .normal a w) : ∀ fuel, wpAnyZ P md ops Q S z fuel listed a w
  | 0 => ⟨hr, h⟩
  | _ + 1 => ⟨fun _ => h, by rw [hr]; simp⟩
theorem wp_region_Z {id : Nat} {a : Act} {w : World} (S : World → Prop) (z : Nat) (hm : P.follows .mixedOrders = true) (h : wpAnyZ P .any ops Q S z ops.size (Array.replicate ops.size false) a w.drew) : (Code.region id ops true).wp P Q a w :=
  wp_region_any hm (wpAny_of_Z _ _ _ _ h)
end
end Go.Proofs.YtpdalbckmfadbaaGreat

namespace Go.Proofs.YtpdalbckmfadbaaGreat
open Go.RowKit
set_option linter.unusedVariables false
def swV (bo bb : Nat) : Value := .agg #[.pointer (some ⟨bo, 0, none⟩), .slice (some ⟨bb, 0, none⟩) 16 16]
structure SwAt (W : World) (bo bb : Nat) (o : Ob) (S P A : Option Addr) (cs cp ca : Nat) : Prop where
  o : ObsAt W bo o S P A cs cp ca
  b : Blk W bb 233 brAll
theorem SwAt.below {W W' : World} {bo bb : Nat} {o : Ob} {S P A : Option Addr} {cs cp ca : Nat} (h : SwAt W bo bb o S P A cs cp ca) (hB : Below W.heap.size W W') : SwAt W' bo bb o S P A cs cp ca := ⟨h.o.below hB, h.b.below hB⟩
theorem SwAt.alloc {W : World} {bo bb : Nat} {o : Ob} {S P A : Option Addr} {cs cp ca : Nat} (h : SwAt W bo bb o S P A cs cp ca) (x : Obj) : SwAt (W.alloc x) bo bb o S P A cs cp ca := ⟨h.o.alloc x, h.b.alloc x⟩
theorem Blk.grown {w w' : World} {b g : Nat} {t : TypeId} {cs : List Value} (h : Blk w b t cs) (hg : w.grownBy w' (some g)) (hne : b ≠ g) : Blk w' b t cs := (hg.block b h.lt (by simpa using hne)).trans h
def StInv (w1 : World) (nx : Nat → List Int) (kd : Value) (wr : World) : Prop := ∃ j : Nat, j ≤ 16 ∧ kd = .int .i64 j ∧ Blk wr w1.heap.size 198 (ints8 (nx j)) ∧ Below w1.heap.size w1 wr
/-- the address of a branch -/
theorem ix60 (g n c : Nat) {j : Nat} (hj : j < n) (kd : IntKind) (W : World) : (Instr.indexAt 158 (.slice (some ⟨g, 0, none⟩) n c) (.int kd (j : Int))).run Tryz.prog W = .ok (.pointer (some ⟨g, 4 * j, none⟩)) W := by
  have h1 : (0 : Int) ≤ (j : Int) ∧ (j : Int) < (n : Int) := by omega
  have hs : (sizeOf 161).run Tryz.prog W = .ok 4 W := by kernel_rfl
  simp only [Instr.indexAt, Sem.run_bind, run_underlying Tryz.underlying158, Result.andThen_ok, asIntOf, Sem.run_pure, if_pos h1, hs, Int.toNat_natCast]
  rw [add_lit, Nat.zero_add, Nat.mul_comm]
theorem brAll_get : ∀ j, j < 16 → ∀ q, q < 4 → brAll[4 * j + q]? = (brV (brT.getD j ⟨0, 0, 0, 0⟩))[q]? := by
  intro j hj q hq
  rcases (by omega : j = 0 ∨ j = 1 ∨ j = 2 ∨ j = 3 ∨ j = 4 ∨ j = 5 ∨ j = 6 ∨ j = 7 ∨ j = 8 ∨ j = 9 ∨ j = 10 ∨ j = 11 ∨ j = 12 ∨ j = 13 ∨ j = 14 ∨ j = 15) with rfl | rfl | rfl | rfl | rfl | rfl | rfl | rfl | rfl | rfl | rfl | rfl | rfl | rfl | rfl | rfl <;>
    (rcases (by omega : q = 0 ∨ q = 1 ∨ q = 2 ∨ q = 3) with rfl | rfl | rfl | rfl <;> rfl)
def brN (j : Nat) : Br := brT.getD j ⟨0, 0, 0, 0⟩
theorem brN_mem (j : Nat) (hj : j < 16) : brN j ∈ brT := by
  have hl : j < brT.length := hj
  unfold brN
  rw [List.getD_eq_getElem?_getD, List.getElem?_eq_getElem hl]; exact List.getElem_mem hl
theorem br_take (j : Nat) (hj : j < 16) : brT.take (j + 1) = brT.take j ++ [brN j] := by
  have hl : j < brT.length := hj
  rw [List.take_succ_eq_append_getElem hl]
  unfold brN
  rw [List.getD_eq_getElem?_getD, List.getElem?_eq_getElem hl]; rfl
theorem br_cells {W : World} {bb : Nat} (h : Blk W bb 233 brAll) (j : Nat) (hj : j < 16) : W.rangeAt bb (4 * j) (brV (brN j)) := fun q v hv => by
  have hq : q < 4 := (List.getElem?_eq_some_iff.1 hv).1
  exact h.cell (by rw [brAll_get j hj q hq]; exact hv)
theorem ints8_set (m : List Int) (k : Nat) (v : Int) : ints8 (m.set k v) = (ints8 m).set k (.int .i64 v) := by unfold ints8; rw [List.map_set]
theorem max_if (a b : Int) : (if a < b then b else a) = max a b := by
  by_cases h : a < b
  · rw [if_pos h]; omega
  · rw [if_neg h]; omega
def FwS (b9 bm b7 bs bo : Nat) (fr bt pr tt : Nat) (fi ti : Nat) (vm vn : Int) (W : World) : Prop :=
  W.cell? ⟨b9, 0, none⟩ = some (.int .i64 (fr : Int)) ∧ W.cell? ⟨b9, 1, none⟩ = some (.int .i64 (bt : Int)) ∧ W.cell? ⟨b9, 2, none⟩ = some (.int .i64 (pr : Int)) ∧ W.cell? ⟨b9, 3, none⟩ = some (.int .i64 (tt : Int)) ∧
    W.cell? ⟨bm, fi, none⟩ = some (.int .i64 vm) ∧ W.cell? ⟨b7, ti, none⟩ = some (.int .i64 vn) ∧ W.cell? ⟨bs, 0, none⟩ = some (.pointer (some ⟨bo, 0, none⟩))
def fN (o : Ob) (i : Nat) (m : List Int) (j : Nat) : List Int := (brT.take j).foldl (o.fB i m) noneL
theorem fN_succ (o : Ob) (i : Nat) (m : List Int) (j : Nat) (hj : j < 16) : fN o i m (j + 1) = o.fB i m (fN o i m j) (brN j) := by
  unfold fN; rw [br_take j hj, List.foldl_append]; rfl
theorem fN_met {o : Ob} (h : o.ok) (i : Nat) (hi : i < o.s.length) {B : Int} (hB : B ≤ 50000000) (h0 : 0 ≤ B) {m : List Int} (hm : Met B m) (j : Nat) : Met (B + 381) (fN o i m j) :=
  fwd_met h i hi hB h0 hm _ (fun b hb => List.mem_of_mem_take hb)
set_option maxRecDepth 100000 in
set_option maxHeartbeats 1000000 in
theorem forward_any (bo bb : Nat) (o : Ob) (S P A : Option Addr) (cs cp ca i : Nat) (m : List Int) (B : Int) (w : World) (h : SwAt w bo bb o S P A cs cp ca) (ho : o.ok) (hi : i < o.s.length) (hm : Met B m) (hB : B ≤ 50000000) (h0 : 0 ≤ B) :
    Calls Tryz.prog 135 #[swV bo bb, .int .i64 (i : Int), .agg (ints8 m).toArray] w fun e w' => e = .returned (.agg (ints8 (o.fwd i m)).toArray) ∧ Below w.heap.size w w' := by
  have HM := Lib.hid (fun j => fN_met ho i hi hB h0 hm j)
  have HO := Lib.hid ho
  have H := Lib.hid h
  have HMET := Lib.hid hm
  clear ho h hm
  unfold swV
  go_enter Tryz.func135, Tryz.ntmps135
  go_wp2_with fail
  refine (none_any _).mono ?_
  rintro e w1 ⟨rfl, hB1⟩
  have xs : Blk w1 w.heap.size 195 [.pointer (some ⟨bo, 0, none⟩), .slice (some ⟨bb, 0, none⟩) 16 16] := (((Blk.new w [.pointer (some ⟨bo, 0, none⟩), .slice (some ⟨bb, 0, none⟩) 16 16] 195 rfl).alloc _).alloc _).below hB1
  have xm : Blk w1 (w.heap.size + 1) 198 (ints8 m) := ((Blk.new (w.alloc _) (ints8 m) 198 (by simp)).alloc _).below hB1
  have xr : Blk w1 (w.heap.size + 1 + 1) 198 (ints8 (List.replicate 8 0)) := (Blk.new ((w.alloc _).alloc _) (ints8 (List.replicate 8 0)) 198 (by simp)).below hB1
  have sw : SwAt w1 bo bb o S P A cs cp ca := (((H.out.alloc _).alloc _).alloc _).below hB1
  have hlt : w.heap.size + 2 < w1.heap.size := by have := hB1.size; simp at this; omega
  have hBw : Below w.heap.size w w1 := ((((Below.refl _ w).alloc (Nat.le_refl _) _).alloc (by simp) _).alloc (by simp; omega) _).trans (hB1.mono (by simp; omega))
  have XS := Lib.hid xs
  have XM := Lib.hid xm
  have XR := Lib.hid xr
  have SW := Lib.hid sw
  have HBW := Lib.hid hBw
  have HLT := Lib.hid hlt
  have hb7 : Blk (w1.alloc (.cells (ints8 (List.replicate 8 0)).toArray 198)) w1.heap.size 198 (ints8 (List.replicate 8 0)) := Blk.new w1 _ 198 rfl
  clear xm xr sw hBw hB1 hlt H
  go_wp2_with (refine strow rfl 198 (.tmp 7) (.tmp 10) rfl rfl rfl hb7 rfl (i66 rfl) (ints8_one _) ?_; intro W' h1 h2; have hc0 := h1.icell (j := 0) (by decide); have hf0 := h1.frozen 0; have k1 := (((xs.alloc _).grown h2 (Nat.ne_of_lt xs.lt)).other (Nat.ne_of_gt xs.lt) 0 (.int .i64 (-1125899906842624))).cell (j := 1) rfl; have H1 := Lib.hid h1; have H2 := Lib.hid h2; clear h1 h2 hb7)
  clear xs
  go_loopw [15] (fun kd wr => StInv w1 (fN o i m) kd wr) (fun kd _ => 16 - (intOf kd).toNat)
  case atStart =>
    refine ⟨0, by omega, rfl, ?_, ?_⟩
    · exact H1.out.set 0 (.int .i64 UU)
    · exact (((Below.refl _ w1).alloc (Nat.le_refl _) _).grown H2.out (by simp) (fun k hk => by cases hk; exact Nat.le_refl _)).setCell (Nat.le_refl _) _
  case round =>
    obtain ⟨j, hj, rfl, hb, hB⟩ := hrel
    clear hc0 hf0 k1
    by_cases hlt : j < 16
    · have xs := XS.out.below hB
      have xm := XM.out.below hB
      have sw := SW.out.below hB
      have hix := fun W => ix60 bb 16 16 hlt .i64 W
      have hmem := brN_mem j hlt
      have hcl := br_cells sw.b j hlt
      have hb9 : Blk (wr.alloc (.cells (zer 4).toArray 161)) wr.heap.size 161 (zer 4) := Blk.new wr _ 161 rfl
      have HNX := Lib.hid (fN_succ o i m j hlt)
      have hmt := HM.out j
      generalize fN o i m j = nx at *
      generalize brN j = b at *
      have XS' := Lib.hid xs
      have XM' := Lib.hid xm
      have SW' := Lib.hid sw
      have HBK := Lib.hid hb
      have HBB := Lib.hid hB
      have HMT := Lib.hid hmt
      clear xm sw hb hB hmt
      go_wp2_with (first
        | (refine wpList_load_mid rfl 161 (.tmp 17) rfl bb (4 * j) rfl (brV b) _ hcl Tryz.underlying161 rfl (by rw [info77]; rfl) ?_)
        | (refine strow rfl 161 (.tmp 9) (.tmp 18) rfl rfl rfl hb9 rfl (by rw [info77]; rfl) (ints8_one _) ?_; intro W2 h1 h2; have k0 := ((xs.alloc _).grown h2 (Nat.ne_of_lt xs.lt)).cell (j := 0) rfl; have h77 := h1; have H1 := Lib.hid h1; have H2 := Lib.hid h2; clear h1 h2 hb9 hcl)
        | (refine ldrow rfl 161 (.tmp 9) rfl rfl h77 _ Tryz.underlying161 rfl (by rw [info77]; rfl) ?_))
      have hB2 : Below wr.heap.size wr W2 := ((Below.refl _ wr).alloc (Nat.le_refl _) _).grown H2.out (by simp) (fun k hk => by cases hk; exact Nat.le_refl _)
      refine (allows_any bo o S P A cs cp ca i b _ (SW'.out.below hB2).o hmem).mono ?_
      rintro e w3 ⟨rfl, hB3⟩
      have hB23 : Below wr.heap.size wr w3 := hB2.trans (hB3.mono hB2.size)
      have hb9 : Blk w3 wr.heap.size 161 (brV b) := H1.out.below hB3
      have s0 := hb9.cell (j := 0) (v := .int .i64 (b.fr : Int)) rfl
      have s1 := hb9.cell (j := 1) (v := .int .i64 (b.bt : Int)) rfl
      have s2 := hb9.cell (j := 2) (v := .int .i64 (b.pr : Int)) rfl
      have s3 := hb9.cell (j := 3) (v := .int .i64 (b.tt : Int)) rfl
      obtain ⟨b1, -, -, b4⟩ := br_bd b hmem
      have s4 := (XM'.out.below hB23).icell (j := b.fr) (by have := HMET.out.len; omega)
      have s5 := (HBK.out.below hB23).icell (j := b.tt) (by have := HMT.out.len; omega)
      have s6 := (XS'.out.below hB23).cell (j := 0) (v := .pointer (some ⟨bo, 0, none⟩)) rfl
      have HB23 := Lib.hid hB23
      have HB9 := Lib.hid hb9
      clear hB2 hB3 hB23 k0 h77 hb9 xs
      have HFB := Lib.hid (show o.fB i m nx b = if o.allow i b = true ∧ UU < gi m b.fr then nx.set b.tt (max (gi nx b.tt) (gi m b.fr + o.term i b)) else nx from rfl)
      cases hal : o.allow i b with
      | false =>
        have HFN : Hid (o.fB i m nx b = nx) := Lib.hid (by rw [HFB.out, hal, if_neg (by simp)])
        clear hal
        go_wp2
        go_roundw
        case rel => exact ⟨j + 1, by omega, by go_num, by rw [HNX.out, HFN.out]; exact HBK.out.below HB23.out, HBB.out.trans (HB23.out.mono HBB.out.size)⟩
        case measure => simp [intOf]; omega
      | true =>
        by_cases hu : -1125899906842624 < gi m b.fr
        · have HFN : Hid (o.fB i m nx b = nx.set b.tt (max (gi nx b.tt) (gi m b.fr + o.term i b))) := Lib.hid (by rw [HFB.out, hal, if_pos ⟨rfl, by rw [UU_eq]; exact hu⟩])
          clear hal
          go_wp2_with fail
          have hS0 : FwS wr.heap.size (w.heap.size + 1) w1.heap.size w.heap.size bo b.fr b.bt b.pr b.tt b.fr b.tt (gi m b.fr) (gi nx b.tt) w3.drew := ⟨s0, s1, s2, s3, s4, s5, s6⟩
          have hmf := HMET.out.bd b.fr b1
          have hmf : -B ≤ gi m b.fr ∧ gi m b.fr ≤ B := hmf.resolve_left (by rw [UU_eq]; omega)
          have hnf := HMT.out.bd b.tt b4
          rw [UU_eq] at hnf
          have HBD := Lib.hid (o.term_bd HO.out i hi b hmem)
          have HTE := Lib.hid (term_any bo o S P A cs cp ca i b)
          clear s0 s1 s2 s3 s4 s5 s6
          refine wp_region_Z (FwS wr.heap.size (w.heap.size + 1) w1.heap.size w.heap.size bo b.fr b.bt b.pr b.tt b.fr b.tt (gi m b.fr) (gi nx b.tt)) 18 (by kernel_rfl) ?_
          refine wpAnyZ_take (i := 0) (v := .pointer (some ⟨wr.heap.size, 3, none⟩)) rfl (by kernel_rfl) (by kernel_rfl) (by kernel_rfl) (by kernel_rfl) (fun _ _ _ h => h) (Or.inl ⟨by rfl, fun W hS => by go_simp⟩) hS0 ?_
          simp only [Act.put, List.setIfInBounds_toArray, List.set_cons_zero, List.set_cons_succ]
          refine wpAnyZ_take (i := 1) (v := .int .i64 (b.tt : Int)) rfl (by kernel_rfl) (by kernel_rfl) (by kernel_rfl) (by kernel_rfl) (fun _ _ _ h => h) (Or.inl ⟨by rfl, fun W hS => by obtain ⟨s0, s1, s2, s3, s4, s5, s6⟩ := hS; go_simp⟩) hS0 ?_
          simp only [Act.put, List.setIfInBounds_toArray, List.set_cons_zero, List.set_cons_succ]
          refine wpAnyZ_take (i := 2) (v := .pointer (some ⟨wr.heap.size, 3, none⟩)) rfl (by kernel_rfl) (by kernel_rfl) (by kernel_rfl) (by kernel_rfl) (fun _ _ _ h => h) (Or.inl ⟨by rfl, fun W hS => by go_simp⟩) hS0 ?_
          simp only [Act.put, List.setIfInBounds_toArray, List.set_cons_zero, List.set_cons_succ]
          refine wpAnyZ_take (i := 3) (v := .int .i64 (b.tt : Int)) rfl (by kernel_rfl) (by kernel_rfl) (by kernel_rfl) (by kernel_rfl) (fun _ _ _ h => h) (Or.inl ⟨by rfl, fun W hS => by obtain ⟨s0, s1, s2, s3, s4, s5, s6⟩ := hS; go_simp⟩) hS0 ?_
          simp only [Act.put, List.setIfInBounds_toArray, List.set_cons_zero, List.set_cons_succ]
          refine wpAnyZ_take (i := 4) (v := .pointer (some ⟨w1.heap.size, b.tt, none⟩)) rfl (by kernel_rfl) (by kernel_rfl) (by kernel_rfl) (by kernel_rfl) (fun _ _ _ h => h) (Or.inl ⟨by rfl, fun W hS => by go_simp; intro h9; omega⟩) hS0 ?_
          simp only [Act.put, List.setIfInBounds_toArray, List.set_cons_zero, List.set_cons_succ]
          refine wpAnyZ_take (i := 5) (v := .int .i64 (gi nx b.tt)) rfl (by kernel_rfl) (by kernel_rfl) (by kernel_rfl) (by kernel_rfl) (fun _ _ _ h => h) (Or.inl ⟨by rfl, fun W hS => by obtain ⟨s0, s1, s2, s3, s4, s5, s6⟩ := hS; go_simp⟩) hS0 ?_
          simp only [Act.put, List.setIfInBounds_toArray, List.set_cons_zero, List.set_cons_succ]
          refine wpAnyZ_take (i := 6) (v := .pointer (some ⟨wr.heap.size, 0, none⟩)) rfl (by kernel_rfl) (by kernel_rfl) (by kernel_rfl) (by kernel_rfl) (fun _ _ _ h => h) (Or.inl ⟨by rfl, fun W hS => by go_simp⟩) hS0 ?_
          simp only [Act.put, List.setIfInBounds_toArray, List.set_cons_zero, List.set_cons_succ]
          refine wpAnyZ_take (i := 7) (v := .int .i64 (b.fr : Int)) rfl (by kernel_rfl) (by kernel_rfl) (by kernel_rfl) (by kernel_rfl) (fun _ _ _ h => h) (Or.inl ⟨by rfl, fun W hS => by obtain ⟨s0, s1, s2, s3, s4, s5, s6⟩ := hS; go_simp⟩) hS0 ?_
          simp only [Act.put, List.setIfInBounds_toArray, List.set_cons_zero, List.set_cons_succ]
          refine wpAnyZ_take (i := 8) (v := .pointer (some ⟨w.heap.size + 1, b.fr, none⟩)) rfl (by kernel_rfl) (by kernel_rfl) (by kernel_rfl) (by kernel_rfl) (fun _ _ _ h => h) (Or.inl ⟨by rfl, fun W hS => by go_simp; intro h9; omega⟩) hS0 ?_
          simp only [Act.put, List.setIfInBounds_toArray, List.set_cons_zero, List.set_cons_succ]
          refine wpAnyZ_take (i := 9) (v := .int .i64 (gi m b.fr)) rfl (by kernel_rfl) (by kernel_rfl) (by kernel_rfl) (by kernel_rfl) (fun _ _ _ h => h) (Or.inl ⟨by rfl, fun W hS => by obtain ⟨s0, s1, s2, s3, s4, s5, s6⟩ := hS; go_simp⟩) hS0 ?_
          simp only [Act.put, List.setIfInBounds_toArray, List.set_cons_zero, List.set_cons_succ]
          refine wpAnyZ_take (i := 10) (v := .pointer (some ⟨w.heap.size, 0, none⟩)) rfl (by kernel_rfl) (by kernel_rfl) (by kernel_rfl) (by kernel_rfl) (fun _ _ _ h => h) (Or.inl ⟨by rfl, fun W hS => by go_simp⟩) hS0 ?_
          simp only [Act.put, List.setIfInBounds_toArray, List.set_cons_zero, List.set_cons_succ]
          refine wpAnyZ_take (i := 11) (v := .pointer (some ⟨bo, 0, none⟩)) rfl (by kernel_rfl) (by kernel_rfl) (by kernel_rfl) (by kernel_rfl) (fun _ _ _ h => h) (Or.inl ⟨by rfl, fun W hS => by obtain ⟨s0, s1, s2, s3, s4, s5, s6⟩ := hS; go_simp⟩) hS0 ?_
          simp only [Act.put, List.setIfInBounds_toArray, List.set_cons_zero, List.set_cons_succ]
          refine wpAnyZ_take (i := 12) (v := .int .i64 (i : Int)) rfl (by kernel_rfl) (by kernel_rfl) (by kernel_rfl) (by kernel_rfl) (fun _ _ _ h => h) (Or.inl ⟨by rfl, fun W hS => by go_simp⟩) hS0 ?_
          simp only [Act.put, List.setIfInBounds_toArray, List.set_cons_zero, List.set_cons_succ]
          refine wpAnyZ_take (i := 13) (v := brA b) rfl (by kernel_rfl) (by kernel_rfl) (by kernel_rfl) (by kernel_rfl) (fun _ _ _ h => h) (Or.inl ⟨by rfl, fun W hS => by obtain ⟨s0, s1, s2, s3, s4, s5, s6⟩ := hS; unfold brA; go_simp⟩) hS0 ?_
          simp only [Act.put, List.setIfInBounds_toArray, List.set_cons_zero, List.set_cons_succ]
          refine wpAnyZ_one (i := 14) rfl (by kernel_rfl) rfl (fun K hK => ?_)
          go_simp
          refine (HTE.out _ ((SW'.out.below HB23.out).o.below (Below.refl _ w3).drew) hmem HO.out hi).mono ?_
          rintro e w4 ⟨rfl, hB4⟩
          have hBD := HBD.out
          have hB34 : Below w3.heap.size w3 w4 := (Below.refl _ w3).drew.trans hB4
          have hb9 := HB9.out.below hB34
          have hb7 := (HBK.out.below HB23.out).below hB34
          have hs4 : FwS wr.heap.size (w.heap.size + 1) w1.heap.size w.heap.size bo b.fr b.bt b.pr b.tt b.fr b.tt (gi m b.fr) (gi nx b.tt) w4 :=
            ⟨hb9.cell rfl, hb9.cell rfl, hb9.cell rfl, hb9.cell rfl, ((XM'.out.below HB23.out).below hB34).icell (by have := HMET.out.len; omega), hb7.icell (by have := HMT.out.len; omega), ((XS'.out.below HB23.out).below hB34).cell rfl⟩
          have ht7 := hs4.2.2.2.2.2.1
          have hf7 := hb7.frozen b.tt
          have HB34 := Lib.hid hB34
          have HS4 := Lib.hid hs4
          have HS7 := Lib.hid (hb7.set b.tt (.int .i64 (max (gi nx b.tt) (gi m b.fr + o.term i b))))
          clear hB4 hB34 hb9 hb7 hs4 hS0
          generalize o.term i b = tm at *
          have hws : IntKind.i64.wrap (gi m b.fr + tm) = gi m b.fr + tm := IntWalk.i64_in _ (by omega)
          go_wp2_with fail
          refine hK _ _ (fun _ => HS4.out) ?_
          clear hK K
          refine wpAnyZ_one (i := 15) rfl (by kernel_rfl) rfl (fun K hK => ?_)
          go_simp
          refine hK _ _ (fun _ => HS4.out) ?_
          clear hK K
          refine wpAnyZ_one (i := 16) rfl (by kernel_rfl) rfl (fun K hK => ?_)
          go_simp
          rw [max_if]
          refine hK _ _ (fun _ => HS4.out) ?_
          clear hK K
          refine wpAnyZ_take (i := 17) (v := .pointer (some ⟨w1.heap.size, b.tt, none⟩)) rfl (by kernel_rfl) (by kernel_rfl) (by kernel_rfl) (by kernel_rfl) (fun _ _ _ h => h) (Or.inl ⟨by rfl, fun W hS => by go_simp; intro h9; omega⟩) HS4.out ?_
          simp only [Act.put, List.setIfInBounds_toArray, List.set_cons_zero, List.set_cons_succ]
          refine wpAnyZ_one (i := 18) rfl (by kernel_rfl) rfl (fun K hK => ?_)
          go_simp
          refine hK _ _ (fun h => absurd rfl h) ?_
          clear hK K
          refine wpAnyZ_done (by kernel_rfl) ?_ _
          clear ht7 hf7 hws
          go_wp2
          go_roundw
          case rel => exact ⟨j + 1, by omega, by go_num, by rw [HNX.out, HFN.out, ints8_set]; exact HS7.out, (HBB.out.trans ((HB23.out.mono HBB.out.size).trans (HB34.out.mono (Nat.le_trans HBB.out.size HB23.out.size)))).setCell (Nat.le_refl _) _⟩
          case measure => simp [intOf]; omega
        · have HFN : Hid (o.fB i m nx b = nx) := Lib.hid (by rw [HFB.out, hal, if_neg (by rw [UU_eq]; simp; omega)])
          clear hal
          go_wp2
          go_roundw
          case rel => exact ⟨j + 1, by omega, by go_num, by rw [HNX.out, HFN.out]; exact HBK.out.below HB23.out, HBB.out.trans (HB23.out.mono HBB.out.size)⟩
          case measure => simp [intOf]; omega
    · obtain rfl : j = 16 := by omega
      have xr := XR.out.below hB
      have hne : w.heap.size + 1 + 1 ≠ w1.heap.size := by have := HLT.out; omega
      have hml := (HM.out 16).len
      have HBB := Lib.hid hB
      have HEQ : Hid (fN o i m 16 = o.fwd i m) := Lib.hid rfl
      clear hB
      go_wp2_with (first
        | (refine ldrow rfl 198 (.tmp 7) rfl rfl hb _ Tryz.underlying198 rfl (i66 hml) ?_)
        | (refine strow rfl 198 (.tmp 6) (.tmp 50) rfl rfl rfl xr (by simp [ints8, hml]) (i66 hml) (ints8_one _) ?_; intro W2 h1 h2; have H1 := Lib.hid h1; have H2 := Lib.hid h2; clear h1 h2 hb xr))
      have hfin : Below w.heap.size w W2 := (HBW.out.trans (HBB.out.mono HBW.out.size)).grown H2.out (Nat.le_trans HBW.out.size HBB.out.size) (fun k hk => by cases hk; omega)
      have h1 := H1.out
      rw [HEQ.out] at h1 hml
      refine bodyPost_ret (v := .agg (ints8 (o.fwd i m)).toArray) ?_ rfl ⟨rfl, hfin⟩
      rw [results_c rfl]
      have l1 := res66 h1 hml
      simp [Act.put, asAddr, l1, Sem.run_pure]
end Go.Proofs.YtpdalbckmfadbaaGreat

