/- Bundle. Conditions: none. -/
import Derived.Test.YtkdfefpnhaebfaaGreatBuobm
import Derived.Test.YtkdfefpnhaebfaaGreatBuoaw
import Derived.BigQuiet
set_option linter.unusedVariables false
set_option linter.unusedSimpArgs false
namespace Go.Proofs.YtkdfefpnhaebfaaGreat.Cr
open Go.RowKit Go.Shelf
attribute [local go_sem] Oper.semAt_some
set_option maxRecDepth 100000
set_option maxHeartbeats 4000000
section
variable {P : Program} {w : World} {n : Nat} {e : TypeId}
theorem callR {l n g : Nat} {args : Array Value} {W : World} {Q : Ending → World → Prop} (h : Calls P g args W Q) : Fence.wide.fn g ∧ CallsIn (Fence.wide.inRound l) n P g args W Q := ⟨trivial, CallsIn.inRound l (callsIn_wide.2 h)⟩
theorem listAp {P : Program} {Q : Exit → Act → World → Prop} {n l : Nat} {ops : Array Oper} {rest : List Oper} {a : Act} {w : World} {d : Option Tmp} {aa : Array Operand} {ts : Array TypeId} {t : TypeId} {ps : String} {af : Array Edge} (hL : ¬ LetsOut Q)
 (h : ∀ K : Act → World → Prop, (∀ a w, wpListIn (Fence.wide.inRound l) n P ops Q rest a w → K a w) → ({ dst := d, op := .call { callee := .builtin .append, args := aa, argTypes := ts }, type := t, pos := ps, after := af, guard := none } : Oper).wp P a w K Q) :
 wpListIn (Fence.wide.inRound l) n P ops Q ({ dst := d, op := .call { callee := .builtin .append, args := aa, argTypes := ts }, type := t, pos := ps, after := af, guard := none } :: rest) a w := listRn_of rfl nofun hL h
theorem wp_mk0 {o : Oper} {a : Act} {K : Act → World → Prop} {Q : Exit → Act → World → Prop} (l r : Operand) (t : TypeId)
 (ho : o.op = .makeSlice t l r) {z : Value} {bytes : Nat} (hE : El P t e z bytes) {kl kr : IntKind} (hs : a.eval l = .int kl 0) (hx : a.eval r = .int kr (n : Int))
 (hby : bytes * n ≤ 281474976710656) (hm : n ≤ maxLen)
 (h : ∀ A w', Ownv e w' w.heap.size A 0 n [] → Below w.heap.size w w' → K (a.put o.dst (.slice A 0 n)) w') : o.wp P a w K Q := by
 obtain ⟨i, hi, hz0, hz1, hz2⟩ := info_parts hE.i
 have hb' : ((bytes : Nat) : Int) * (n : Int) ≤ 281474976710656 := by
  have h' : ((bytes * n : Nat) : Int) ≤ 281474976710656 := by omega
  rwa [Int.natCast_mul] at h'
 have hr := run_make (P := P) w t e i z hE.u hi hz0 kl kr 0 n (by omega) (by omega) (by rw [hz2]; exact hb') (by unfold maxLen at hm; omega)
 simp only [Int.toNat_natCast, Int.toNat_zero] at hr
 unfold Oper.wp
 simp only [execOp, ho, Sem.run_bind, Sem.run_pure, Result.andThen_ok, hs, hx, hr]
 have h2 := World.ownsRow_lit (e := e) (size := 1) w (madeCells z.cells (n * i.size)) n (Nat.le_refl _) hm (by rw [size_madeCells, hz1])
 rw [hz1, hE.z1, Nat.mul_one] at h2 ⊢
 refine h _ _ ?_ ((Below.refl _ _).alloc (Nat.le_refl _) _)
 have h3 : Ownv e (w.alloc (.cells (madeCells #[z] n) e)) w.heap.size (some ⟨w.heap.size, 0, none⟩) n n (madeCells #[z] n).toList := ⟨h2⟩
 exact h3.upto (Nat.zero_le _)
end
theorem Rdv.keepN {B OB : Nat} {W W' : World} {A : Option Addr} {n c : Nat} {vs : List Value} (h : Rdv W A n c vs) (hk : KpN B OB W W') (hA : A ≠ none → blk A ≠ OB ∧ blk A < B) : Rdv W' A n c vs := by
 by_cases hc : 0 < c
 · obtain ⟨b, o, rfl, hb⟩ := h.ptr hc
   have h1 := hA (by simp)
   refine ⟨h.len, h.le, h.cm, h.nil, h.spot, fun _ a ha => Nat.lt_of_lt_of_le (h.lt hc a ha) hk.1, fun j v hj => ?_⟩
   rw [← h.at_ j v hj]
   exact World.cell?_of_block (hk.2 b h1.2 h1.1)
 · have h1 := h.le
   have h2 := h.len
   obtain rfl : vs = [] := List.eq_nil_of_length_eq_zero (by omega)
   exact ⟨h.len, h.le, h.cm, h.nil, fun h9 => absurd h9 hc, fun h9 => absurd h9 hc, by simp⟩
def ArKp (BB : Nat) (A : Option Addr) (N c : Nat) (B : List Int) (X Y : World) : Prop := (Blk X BB 39 [.slice A N c] → Blk Y BB 39 [.slice A N c]) ∧ (Rd .i64 X A N c B → Rd .i64 Y A N c B)
theorem ArKp.rfl' {BB : Nat} {A : Option Addr} {N c : Nat} {B : List Int} {X : World} : ArKp BB A N c B X X := ⟨id, id⟩
theorem ArKp.trans {BB : Nat} {A : Option Addr} {N c : Nat} {B : List Int} {X Y Z : World} (h : ArKp BB A N c B X Y) (k : ArKp BB A N c B Y Z) : ArKp BB A N c B X Z := ⟨fun x => k.1 (h.1 x), fun x => k.2 (h.2 x)⟩
theorem ArKp.put {BB : Nat} {A : Option Addr} {N c : Nat} {B : List Int} {W : World} {D l : Nat} (o' : Obj) (hB : BB < D) (hA : A ≠ none → blk A < D) (hl : D ≤ l) : ArKp BB A N c B W (W.putObj l o') :=
 ⟨fun h => (World.putObj_heap_other (by omega)).trans h, fun h => Rdv.grown0 h (grownBy_putObj' W l o') (fun hc e => by
   obtain ⟨b, o, rfl, hb⟩ := h.ptr hc
   have h2 := hA (by simp)
   rw [Option.some.injEq] at e
   omega)⟩
theorem ar_seq (B : List Int) (st N : Nat) (A : Option Addr) (c FB BB T : Nat) (hN1 : 1 ≤ N) (hN : N ≤ 100000) (hst : st < N) (w : World)
 (hF : Blk w FB 3 [.int .i64 st]) (hB : Blk w BB 39 [.slice A N c]) (hR : Rd .i64 w A N c B) :
 SeqF 2 164 #[.pointer (some ⟨FB, 0, none⟩), .pointer (some ⟨BB, 0, none⟩)] encI (ArKp BB A N c B) (fun _ => False) (fun _ => True) (fun pre x => x = rgV B st N pre.length) T w :=
 fun l J Jx W hb hJ hJx hY hT h0 => ar_in l B st N A c FB BB T hN1 hN hst (ArKp BB A N c B) W (hF.below hb) (hB.below hb) (Rdv.below hR hb)
  (fun X Y hk hbx hrx => ⟨hk.1 hbx, hk.2 hrx⟩) J Jx hJ hJx hY hT h0
structure PsK (w : World) (Bz : Nat) (B : List Int) (st N OB EB e : Nat) (t : Nat) (W : World) : Prop where
 o : ∃ A c, Blk W OB 39 [.slice A (selL B st N t).length c] ∧ Own .i64 3 W Bz A (selL B st N t).length c (selL B st N t)
 eb : Blk W EB 3 [.int .i64 e]
 bl : Below w.heap.size w W
 hs : Bz ≤ W.heap.size
theorem PsK.clB {w : World} {Bz : Nat} {B : List Int} {st N OB EB e : Nat} {W W' : World} {t : Nat} (h : PsK w Bz B st N OB EB e t W) (hb : Below W.heap.size W W') : PsK w Bz B st N OB EB e t W' := by
 obtain ⟨A, c, h1, h2⟩ := h.o
 exact ⟨⟨A, c, h1.below hb, Ownv.below h2 hb⟩, h.eb.below hb, h.bl.trans (hb.mono h.bl.size), Nat.le_trans h.hs hb.size⟩
theorem PsK.clP {w : World} {Bz Bq : Nat} {B : List Int} {st N OB EB e : Nat} {W : World} {t l : Nat} {o : Obj} (h : PsK w Bz B st N OB EB e t W) (o' : Obj) (hw : w.heap.size ≤ Bq) (hl : Bq ≤ l) (hk : W.heap[l]? = some o) (ho : o.isCells = false) : PsK w Bz B st N OB EB e t (W.putObj l o') := by
 obtain ⟨A, c, h1, h2⟩ := h.o
 have hg := grownBy_putObj' W l o'
 exact ⟨⟨A, c, h1.put o' hk ho, Ownv.put h2 o' hk ho⟩, h.eb.put o' hk ho, h.bl.grown hg h.bl.size (fun k e => by cases e; omega), Nat.le_trans h.hs hg.size⟩
theorem PsK.next {w W W2 : World} {Bz : Nat} {B : List Int} {st N OB EB e t : Nat} (h : PsK w Bz B st N OB EB e t W) {A A2 : Option Addr} {c c2 : Nat} {x : Int} (hw : w.heap.size ≤ Bz) (hwO : w.heap.size ≤ OB) (hEO : EB ≠ OB) (hEB : EB < Bz) (hx : x = rgV B st N t) (hx0 : 0 ≤ x)
 (hX : Blk W OB 39 [.slice A (selL B st N t).length c]) (hO : Own .i64 3 W Bz A (selL B st N t).length c (selL B st N t))
 (hO2 : Ownv 3 W2 Bz A2 ((selL B st N t).length + 1) c2 ((selL B st N t).map (Value.int .i64) ++ [.int .i64 x])) (hg : W.grownBy W2 ((Value.slice A (selL B st N t).length c).ownBlock)) :
 KeepsOthers W (W2.setCell ⟨OB, 0, none⟩ (.slice A2 ((selL B st N t).length + 1) c2)) ∧ (∀ BB AA N' c', BB ≠ OB → (AA ≠ none → blk AA ≠ OB ∧ blk AA < Bz) → ArKp BB AA N' c' B W (W2.setCell ⟨OB, 0, none⟩ (.slice A2 ((selL B st N t).length + 1) c2))) ∧ PsK w Bz B st N OB EB e (t + 1) (W2.setCell ⟨OB, 0, none⟩ (.slice A2 ((selL B st N t).length + 1) c2)) := by
 have hob : ∀ k, (Value.slice A (selL B st N t).length c).ownBlock = some k → Bz ≤ k := fun k hk => Ownv.ob' hO hk
 have hx2 : Blk W2 OB 39 [.slice A (selL B st N t).length c] := hX.grown hg (blk_ne_row hX hO (by decide))
 have hg2 := grownBy_set W2 OB 0 (.slice A2 ((selL B st N t).length + 1) c2)
 have hs1 : selL B st N (t + 1) = selL B st N t ++ [x] := by rw [hx] at hx0 ⊢; exact selL_step hx0
 have hl1 : (selL B st N (t + 1)).length = (selL B st N t).length + 1 := by rw [hs1, List.length_append]; rfl
 have hO2' : Own .i64 3 W2 Bz A2 (selL B st N (t + 1)).length c2 (selL B st N (t + 1)) := by
  rw [hl1, hs1]; unfold Own; simpa using hO2
 have hbd := h.bl
 have hs := h.hs
 refine ⟨KeepsOthers.trans (KeepsOthers.of_grownBy hg (fun j o hj => row_cells hO j o hj)) (KeepsOthers.setCell _ _ _), ?_, ⟨⟨A2, c2, by rw [hl1]; exact hx2.set 0 _, own_set_blk hx2 hO2' (by decide) 0 _⟩, ?_, ?_, ?_⟩⟩
 · intro BB AA N' c' hBO hAO
   have hk := KpN.trans (KpN.grown hg (fun r hr => .inr (hob r hr)) hs) (KpN.grown hg2 (fun r hr => .inl (Option.some.inj hr).symm) (Nat.le_trans hs hg.size))
   exact ⟨fun hB => (hB.grown hg (blk_ne_row hB hO (by decide))).other (fun e => hBO e.symm) 0 _, fun hR => Rdv.keepN hR hk hAO⟩
 · exact (h.eb.grown hg (fun e => by have := hob _ e.symm; omega)).other (fun e => hEO e.symm) 0 _
 · exact (hbd.grown hg hbd.size (fun k hk => Nat.le_trans hw (hob k hk))).grown hg2 (Nat.le_trans hbd.size hg.size) (fun k hk => by cases hk; exact hwO)
 · exact Nat.le_trans hs (Nat.le_trans hg.size hg2.size)
theorem PsK.skip {w W : World} {Bz : Nat} {B : List Int} {st N OB EB e t : Nat} (h : PsK w Bz B st N OB EB e t W) (hx : rgV B st N t < 0) : PsK w Bz B st N OB EB e (t + 1) W := by
 obtain ⟨h1, h2, h3, h4⟩ := h
 exact ⟨by rw [selL_skip hx]; exact h1, h2, h3, h4⟩
def PoPost (B : List Int) (st N e : Nat) (w : World) (en : Ending) (w' : World) : Prop :=
 Below w.heap.size w w' ∧ ((e ≠ 0 ∧ usC B = 0 ∧ en = .returned (.tuple #[.slice none 0 0, .int .i64 10])) ∨
  ((e = 0 ∨ usC B ≠ 0) ∧ ∃ A c T, (selL B st N T).length = e ∧ en = .returned (.tuple #[.slice A e c, .int .i64 0]) ∧ Own .i64 3 w' w.heap.size A e c (selL B st N T)))
theorem positions_any (k f rv e : Nat) (lim : Int) (w : World) (h1 : 40 ≤ k) (h2 : k ≤ 6144) (hf : f < k) (hl : 1 ≤ lim) (hrv : rv ≤ 3) (he : e ≤ 131072) :
 Calls Tryz.prog 60 #[.int .i64 k, .int .i64 f, .int .i64 lim, .int .i64 rv, .int .i64 e] w (PoPost ((bufL k f).take (szB k lim)) (stS k (szB k lim) rv) (szB k lim) e w) := by
 have HOF := Lib.hid (fun W => rof_ok k f lim W h1 h2 hf hl)
 have hzb := szB_bd k hl
 have hN := nB_le h2
 have HBF := Lib.hid (fun W => buf0_ok k f (szB k lim) W h1 h2 hzb.2)
 have hZ1 := hzb.1
 have hZ2 : szB k lim ≤ 20000 := by omega
 have HST := Lib.hid (fun W => start_any k f (szB k lim) rv W h2 hZ1 hZ2 hrv)
 have hst : stS k (szB k lim) rv < szB k lim := Nat.mod_lt _ (by omega)
 have hBl : ((bufL k f).take (szB k lim)).length = szB k lim := by rw [List.length_take, show (bufL k f).length = 3 * nB k from by unfold bufL; exact bufT_len _ _ _]; omega
 clear h1 h2 hf hl
 generalize (bufL k f).take (szB k lim) = B at *
 generalize stS k (szB k lim) rv = st at *
 generalize szB k lim = Z at *
 generalize nB k = M at *
 generalize rwS (k + 4) = R at *
 refine (callsIn_wide (n := 3)).1 ?_
 refine callsIn_of_wp_marks Tryz.func60 rfl trivial ?_
 simp only [Tryz.ntmps60, List.size_toArray, List.length_cons, List.length_nil, Nat.reduceAdd, Nat.reduceSub, Array.replicate_succ, Array.replicate_zero, List.push_toArray, List.append_toArray, List.nil_append, List.cons_append]
 refine wpIn_wide.2 ?_
 have HE0 := Lib.hid (Blk.new w [.int .i64 e] 3 rfl)
 have HB0 := Lib.hid (bal (Below.refl _ w) (.cells [Value.int .i64 e].toArray 3))
 go_wp2_with fail
 refine wp_scope_straight ?_
 go_wp2_with fail
 refine (HOF.out _).mono ?_
 rintro en w1 ⟨rfl, hB1⟩
 have HE1 := Lib.hid ((HE0.out.below hB1).alloc (.cells #[.int .i64 k, .int .i64 f, .int .i64 R, .int .i64 Z] 174))
 have HW1 := Lib.hid (Blk.new w1 [.int .i64 k, .int .i64 f, .int .i64 R, .int .i64 Z] 174 rfl)
 have HB1 := Lib.hid (bal (HB0.out.trans (hB1.mono HB0.out.size)) (.cells #[.int .i64 k, .int .i64 f, .int .i64 R, .int .i64 Z] 174))
 have HEW : Hid (w.heap.size < w1.heap.size) := Lib.hid ((HE0.out.below hB1).lt)
 have hW1 := HW1.out
 have cE := HE1.out.cell (j := 0) (v := .int .i64 e) rfl
 clear hB1 HE0 HB0
 have q1 : decide ((rv : Int) < 0) = false := by first | (simp; done) | (simp; omega)
 have q2 : decide ((rv : Int) > 3) = false := by simp; omega
 have q3 : decide ((e : Int) < 0) = false := by first | (simp; done) | (simp; omega)
 have q4 : decide ((e : Int) > 131072) = false := by simp; omega
 go_wp2_with (refine ldrow (cs := [.int .i64 k, .int .i64 f, .int .i64 R, .int .i64 Z]) rfl 174 (.tmp 12) rfl rfl hW1 _ Tryz.underlying174 rfl info122 ?_)
 refine (HBF.out _).mono ?_
 rintro en w2 ⟨Ab, rfl, hR, hB2⟩
 have HR2 := Lib.hid hR
 have HE2 := Lib.hid (HE1.out.below hB2)
 have HW2 := Lib.hid (HW1.out.below hB2)
 have HB2 := Lib.hid (HB1.out.trans (hB2.mono HB1.out.size))
 have HWZ : Hid (w1.heap.size < w2.heap.size) := Lib.hid HW2.out.lt
 have cE2 := HE2.out.cell (j := 0) (v := .int .i64 e) rfl
 clear hR hB2 hW1 cE HE1 HW1 HB1
 by_cases he0 : e = 0
 · subst he0
   go_wp2_with fail
   exact ⟨_, results_tmp2 rfl _ _ _, HB2.out, .inr ⟨.inl rfl, none, 0, 0, rfl, rfl, Own.nilv _ _ _ _⟩⟩
 · have q5 : ((e : Int) == 0) = false := beq_f (by omega)
   have HNE := Lib.hid he0
   have HCF := Lib.hid (cfu_any Ab Z (3 * M) B w2 HR2.out (by omega))
   by_cases hu : usC B = 0
   · rw [decide_eq_false (by simpa using hu)] at HCF
     have HU := Lib.hid hu
     clear hu he0
     go_wp2_with fail
     refine HCF.out.mono ?_
     rintro en w3 ⟨rfl, rfl⟩
     go_wp2_with fail
     exact ⟨_, results_tmp2 rfl _ _ _, HB2.out, .inl ⟨HNE.out, HU.out, rfl⟩⟩
   · rw [decide_eq_true hu] at HCF
     have HU := Lib.hid hu
     obtain ⟨jj, hjj, hju⟩ := usC_ne.1 hu
     have HJ := Lib.hid (show jj < Z ∧ 0 ≤ gi B jj from ⟨by omega, hju⟩)
     clear hu he0 hjj hju
     go_wp2_with fail
     refine HCF.out.mono ?_
     rintro en w3 ⟨rfl, rfl⟩
     have hW2 := HW2.out
     go_wp2_with (first
      | (at_make; refine list_of rfl fun K hK => wp_mk0 (n := e) (kl := .i64) (kr := .i64) _ _ 39 rfl el34 rfl rfl (by omega) (by unfold maxLen; omega) ?_; intro A4 w4 hO4 hB4; have HO4 := Lib.hid hO4; have hW4 := (hW2.below hB4).alloc (.cells #[.slice A4 0 e] 39); have HE4 := Lib.hid ((HE2.out.below hB4).alloc (.cells #[.slice A4 0 e] 39)); have HB4 := Lib.hid hB4; clear hO4 hB4; refine hK _ _ ?_; clear hK K)
      | go_step3
      | (refine ldrow (cs := [.int .i64 k, .int .i64 f, .int .i64 R, .int .i64 Z]) rfl 174 (.tmp 12) rfl rfl hW4 _ Tryz.underlying174 rfl info122 ?_))
     have HBA : Hid (Ab ≠ none → blk Ab < w2.heap.size) := Lib.hid (fun hA => by
      obtain ⟨p, hp⟩ := Option.ne_none_iff_exists'.1 hA
      rw [hp]; exact HR2.out.lt (by omega) p hp)
     refine (HST.out _).mono ?_
     rintro en w5 ⟨rfl, hB5⟩
     have HO5 := Lib.hid (Ownv.below (Ownv.alloc HO4.out (.cells #[.slice A4 0 e] 39)) hB5)
     have HX5 := Lib.hid ((Blk.new w4 [.slice A4 0 e] 39 rfl).below hB5)
     have HE5 := Lib.hid (HE4.out.below hB5)
     have HA5 := Lib.hid (Below.trans (bal HB4.out (.cells #[.slice A4 0 e] 39)) (hB5.mono (bal HB4.out (.cells #[.slice A4 0 e] 39)).size))
     have HS4 := Lib.hid HB4.out.size
     have HS5 := Lib.hid HX5.out.lt
     clear hB5
     go_wp2_with fail
     refine (around_any _ _ _ _ _).mono ?_
     rintro en w6 ⟨rfl, hb6, hf6, hB6⟩
     have HO6 := Lib.hid (Ownv.below HO5.out hB6)
     have HX6 := Lib.hid (HX5.out.below hB6)
     have HE6 := Lib.hid (HE5.out.below hB6)
     have HA6 := Lib.hid (HA5.out.trans (hB6.mono HA5.out.size))
     have HBB := Lib.hid hb6
     have HR6 := Lib.hid (Rdv.below HR2.out HA6.out)
     have HSL := Lib.hid hf6.lt
     have HFB := Lib.hid hf6
     clear hB6 hb6 hf6
     have HSEQ := Lib.hid (ar_seq B st Z Ab (3 * M) (w5.heap.size + 1) w5.heap.size (e * Z) (by omega) (by omega) hst w6 HFB.out HBB.out HR6.out)
     have HK : Hid (PsK w w2.heap.size B st Z w4.heap.size w.heap.size e 0 w6) := Lib.hid ⟨⟨A4, e, HX6.out, HO6.out⟩, HE6.out, HB2.out.trans (HA6.out.mono HB2.out.size), HA6.out.size⟩
     have HIT : Hid (∀ t, (selL B st Z t).length < e → t < e * Z) := Lib.hid (fun t ht => selL_lt HJ.out.1 HJ.out.2 ht)
     have HST := HWZ.out
     have HS4' := HS4.out
     have HS5' := HS5.out
     have HSL' := HSL.out
     have HEW' := HEW.out
     clear HO4 HO5 HX5 HE5 HA5 HO6 HX6 HE6 HR6 HBB HFB cE2 hW4 HE4 HCF HJ
     go_wp2_with fail
     refine (wpIn_wide (n := 3)).1 ?_
     refine' rangeF (w0 := w6) (gf := 164) (lb := #[.pointer (some ⟨w5.heap.size + 1, 0, none⟩), .pointer (some ⟨w5.heap.size, 0, none⟩)]) (T := e * Z) rfl (enters_of Tryz.func164 (by kernel_rfl) rfl) HSEQ.out ArKp.trans
      (fun W l o o' hl h1 h2 => ArKp.put o' (by omega) (fun hA => by have := HBA.out hA; omega) hl) (Below.refl _ _) (fun _ => rfl)
      (fun pre W => PsK w w2.heap.size B st Z w4.heap.size w.heap.size e pre.length W ∧ (selL B st Z pre.length).length < e)
      (fun c pre W => c = .exit 1 ∧ PsK w w2.heap.size B st Z w4.heap.size w.heap.size e pre.length W ∧ (selL B st Z pre.length).length = e)
      (fun s X Y h hb => ⟨h.1.clB hb, h.2⟩) (fun c s X Y h hb => ⟨h.1, h.2.1.clB hb, h.2.2⟩)
      (fun s X l o o' h hl hk ho => ⟨h.1.clP o' (by omega) hl hk ho, h.2⟩) (fun c s X l o o' h hl hk ho => ⟨h.1, h.2.1.clP o' (by omega) hl hk ho, h.2.2⟩)
      (fun pre W h => HIT.out _ h.2) ⟨HK.out, Nat.pos_of_ne_zero HNE.out⟩ _ ?assign ?body ?done ?stop
     case assign =>
      intro l x W K hK
      unfold encI
      gi_wp2
      exact hK
     case done =>
      rintro D xs W hD h
      exact h.elim
     case stop =>
      rintro D c pre W hD _ ⟨rfl, hI, hlen⟩ hK
      obtain ⟨A, c, hx, hO⟩ := hI.o
      have cO := hx.cell (j := 0) (v := .slice A (selL B st Z pre.length).length c) rfl
      have HO9 := Lib.hid (Ownv.mono (Ownv.put hO (.deferred none) hK rfl) (show w.heap.size ≤ w2.heap.size by omega))
      have HB9 := Lib.hid (hI.bl.grown (grownBy_putObj' W D (.deferred none)) hI.bl.size (fun k e => by cases e; omega))
      have HLE := Lib.hid hlen
      rw [hlen] at cO
      clear hO hx hI
      refine wpIn_exit ?_
      go_wp2
      refine ⟨by simp, .inl ⟨_, _, rfl, run_takeDeferred hK, ?_⟩⟩
      refine ⟨_, results_tmp2 rfl _ _ _, HB9.out, .inr ⟨.inr HU.out, A, c, pre.length, HLE.out, rfl, ?_⟩⟩
      have := HO9.out
      rw [HLE.out] at this
      exact this
     case body =>
      rintro l pre x W ⟨hI, hlt⟩ rfl
      have hpl : ∀ x : Int, (pre ++ [x]).length = pre.length + 1 := fun x => by simp
      have HUS := Lib.hid (usable_any (rgV B st Z pre.length) W)
      by_cases h0 : 0 ≤ rgV B st Z pre.length
      · obtain ⟨A, c, hx, hO⟩ := hI.o
        rw [decide_eq_true h0] at HUS
        obtain ⟨x, hxe⟩ : ∃ x, x = rgV B st Z pre.length := ⟨_, rfl⟩
        have HI := Lib.hid hI
        have HXE := Lib.hid hxe
        have HXP := Lib.hid (show 0 ≤ x by rw [hxe]; exact h0)
        have cO := hx.cell (j := 0) (v := .slice A (selL B st Z pre.length).length c) rfl
        have hne := blk_ne_row hx hO (by decide)
        have HX := Lib.hid hx
        have HO := Lib.hid hO
        rw [← hxe] at HUS ⊢
        have hsz := hI.hs
        have HPL := Lib.hid hpl
        have HML := Lib.hid (show (selL B st Z (pre.length + 1)).length = (selL B st Z pre.length).length + 1 by rw [selL_step h0, List.length_append]; rfl)
        clear hI hx hO h0 hxe hpl
        gi_wp2_with (first
         | ((with_reducible refine callR ?_); refine HUS.out.mono ?_; rintro en W1 ⟨rfl, rfl⟩)
         | ((with_reducible refine listAp ?hL ?hh); (case hL => exact fun ⟨_, _, h⟩ => h); intro K hK; refine wp_app1 (w := W) (base := w2.heap.size) _ _ 39 rfl el34 rfl (.int .i64 x) rfl rfl HO.out (by omega) (by omega) hsz ?_; intro A2 c2 W2 hO2 hg2; have HN := Lib.hid (PsK.next HI.out (by omega) (by omega) (by omega) (by omega) HXE.out HXP.out HX.out HO.out hO2 hg2); have hx2 := HX.out.grown hg2 hne; have c2' := hx2.cell (j := 0) (v := .slice A (selL B st Z pre.length).length c) rfl; have f2' := hx2.frozen 0; have cE3 := HN.out.2.2.eb.cell (j := 0) (v := .int .i64 e) rfl; clear hO2 hg2; refine hK _ _ ?_; clear hK K))
        all_goals (rename_i hq)
        all_goals (first
         | (refine ⟨HN.out.1, HN.out.2.1 _ _ _ _ (by omega) (fun hA => ⟨by have := HBA.out hA; omega, HBA.out hA⟩), ?_⟩
            show PsK _ _ _ _ _ _ _ _ (pre ++ [_]).length _ ∧ (selL B st Z (pre ++ [_]).length).length < e
            rw [HPL.out]
            exact ⟨HN.out.2.2, by rw [HML.out]; have h9 := beq_eq_false_iff_ne.1 hq; omega⟩)
         | (refine ⟨HN.out.1, rfl, ?_⟩
            show PsK _ _ _ _ _ _ _ _ (pre ++ [_]).length _ ∧ (selL B st Z (pre ++ [_]).length).length = e
            rw [HPL.out]
            exact ⟨HN.out.2.2, by rw [HML.out]; have h9 := eq_of_beq hq; omega⟩))
      · rw [decide_eq_false h0] at HUS
        have HI := Lib.hid hI
        have HLT := Lib.hid hlt
        have H0 : Hid (rgV B st Z pre.length < 0) := Lib.hid (by omega)
        have HPL := Lib.hid hpl
        clear hI h0 hlt hpl
        generalize hgx : rgV B st Z pre.length = x at *
        gi_wp2_with ((with_reducible refine callR ?_); refine HUS.out.mono ?_; rintro en W1 ⟨rfl, rfl⟩)
        refine ⟨KeepsOthers.refl _, ArKp.rfl', ?_⟩
        show PsK _ _ _ _ _ _ _ _ (pre ++ [_]).length _ ∧ _
        rw [HPL.out, selL_skip (by rw [hgx]; exact H0.out)]
        exact ⟨PsK.skip HI.out (by rw [hgx]; exact H0.out), HLT.out⟩
theorem inv4_any (b : Int) (w : World) : Calls Tryz.prog 62 #[.int .u8 b] w fun e w' => e = .returned (.bool (decide (1 < b))) ∧ w = w' := by
 go_enter Tryz.func62, Tryz.ntmps62
 go_wp2
 go_wp2
 go_ret
 exact ⟨rfl, rfl⟩
theorem idx4_any (A : Option Addr) (n c : Nat) (xs : List Int) (w : World) (h : Rd .u8 w A n c xs) :
 Calls Tryz.prog 113 #[.slice A n c, .func (.func 62) #[] #[]] w (IdxPost xs w) := by
 have hbd := h.bd.1
 go_enter Tryz.func113, Tryz.ntmps113
 go_wp2
 go_loop [8] (fun i => IdxInv n xs i) (fun i => n - (intOf i).toNat)
 case atStart => exact ⟨0, by omega, rfl, by intro q hq; omega⟩
 case round =>
  obtain ⟨j, hj, rfl, hv⟩ := hrel
  by_cases hlt : j < n
  · have hc := Rd.cell h hlt
    have hix := fun W => Rdv.ix h el53 hlt .i64 W
    have HV := Lib.hid hv; clear hv
    by_cases h1 : gi xs j ≤ 1
    · have h1' : decide (1 < gi xs j) = false := by simp; omega
      go_wp2_with (go_at_call 62; refine (inv4_any _ _).mono ?_; rintro e w' ⟨rfl, rfl⟩)
      go_round
      case rel => exact ⟨j + 1, by omega, by go_num, fun q hq => lt_succ_cases HV.out h1 q hq⟩
      case measure => simp [intOf]; omega
    · have h1' : decide (1 < gi xs j) = true := by simp; omega
      have hf := Lib.hid (validB_f (by rw [h.len]; exact hlt) (by omega : 1 < gi xs j))
      go_wp2_with (go_at_call 62; refine (inv4_any _ _).mono ?_; rintro e w' ⟨rfl, rfl⟩)
      go_ret
      exact ⟨_, rfl, by rw [hf.out]; simp, rfl⟩
  · have hf := Lib.hid (validB_t (xs := xs) (by rw [h.len]; intro q hq; exact hv q (by omega)))
    go_wp2
    go_ret
    exact ⟨_, rfl, by rw [hf.out]; simp, rfl⟩
theorem contains4_any (A : Option Addr) (n c : Nat) (xs : List Int) (w : World) (h : Rd .u8 w A n c xs) :
 Calls Tryz.prog 61 #[.slice A n c, .func (.func 62) #[] #[]] w fun e w' => e = .returned (.bool (!ValidB xs)) ∧ w = w' := by
 go_enter Tryz.func61, Tryz.ntmps61
 go_wp2_with (go_at_call 113; refine (idx4_any A n c xs w h).mono ?_; rintro e w' ⟨r, rfl, hr, rfl⟩)
 go_ret
 refine ⟨ret_bool ?_, rfl⟩
 cases hv : ValidB xs <;> simp_all
end Go.Proofs.YtkdfefpnhaebfaaGreat.Cr
namespace Go.Proofs.YtkdfefpnhaebfaaGreat.Cr
set_option maxRecDepth 100000
set_option maxHeartbeats 400000
open Go.RowKit Go.Shelf
attribute [local go_sem] Oper.semAt_some
theorem invS_any (b : Int) (w : World) : Calls Tryz.prog 64 #[.int .u8 b] w fun e w' => e = .returned (.bool (decide (1 < b))) ∧ w = w' := by
 go_enter Tryz.func64, Tryz.ntmps64
 go_wp2
 go_wp2
 go_ret
 exact ⟨rfl, rfl⟩
theorem idxS_any (A : Option Addr) (n c : Nat) (xs : List Int) (w : World) (h : Rd .u8 w A n c xs) :
 Calls Tryz.prog 113 #[.slice A n c, .func (.func 64) #[] #[]] w (IdxPost xs w) := by
 have hbd := h.bd.1
 go_enter Tryz.func113, Tryz.ntmps113
 go_wp2
 go_loop [8] (fun i => IdxInv n xs i) (fun i => n - (intOf i).toNat)
 case atStart => exact ⟨0, by omega, rfl, by intro q hq; omega⟩
 case round =>
  obtain ⟨j, hj, rfl, hv⟩ := hrel
  by_cases hlt : j < n
  · have hc := Rd.cell h hlt
    have hix := fun W => Rdv.ix h el53 hlt .i64 W
    have HV := Lib.hid hv; clear hv
    by_cases h1 : gi xs j ≤ 1
    · have h1' : decide (1 < gi xs j) = false := by simp; omega
      go_wp2_with (go_at_call 64; refine (invS_any _ _).mono ?_; rintro e w' ⟨rfl, rfl⟩)
      go_round
      case rel => exact ⟨j + 1, by omega, by go_num, fun q hq => lt_succ_cases HV.out h1 q hq⟩
      case measure => simp [intOf]; omega
    · have h1' : decide (1 < gi xs j) = true := by simp; omega
      have hf := Lib.hid (validB_f (by rw [h.len]; exact hlt) (by omega : 1 < gi xs j))
      go_wp2_with (go_at_call 64; refine (invS_any _ _).mono ?_; rintro e w' ⟨rfl, rfl⟩)
      go_ret
      exact ⟨_, rfl, by rw [hf.out]; simp, rfl⟩
  · have hf := Lib.hid (validB_t (xs := xs) (by rw [h.len]; intro q hq; exact hv q (by omega)))
    go_wp2
    go_ret
    exact ⟨_, rfl, by rw [hf.out]; simp, rfl⟩
theorem containsS_any (A : Option Addr) (n c : Nat) (xs : List Int) (w : World) (h : Rd .u8 w A n c xs) :
 Calls Tryz.prog 61 #[.slice A n c, .func (.func 64) #[] #[]] w fun e w' => e = .returned (.bool (!ValidB xs)) ∧ w = w' := by
 go_enter Tryz.func61, Tryz.ntmps61
 go_wp2_with (go_at_call 113; refine (idxS_any A n c xs w h).mono ?_; rintro e w' ⟨r, rfl, hr, rfl⟩)
 go_ret
 refine ⟨ret_bool ?_, rfl⟩
 cases hv : ValidB xs <;> simp_all
theorem sbinary_any (A : Option Addr) (n c : Nat) (xs : List Int) (w : World) (h : Rd .u8 w A n c xs) :
 Calls Tryz.prog 37 #[.slice A n c] w fun e w' => e = .returned (.int .i64 (if ValidB xs = true then 0 else 3)) ∧ w = w' := by
 have HI := Lib.hid (containsS_any A n c xs w h)
 generalize ValidB xs = b at *
 clear h
 cases b <;> simp only [if_true, Bool.false_eq_true, if_false, Bool.not_true, Bool.not_false] at HI ⊢ <;> (
  go_enter Tryz.func37, Tryz.ntmps37
  go_wp2_with fail
  refine HI.out.mono ?_
  rintro e w1 ⟨rfl, rfl⟩
  go_wp2
  go_ret
  exact ⟨rfl, rfl⟩)
end Go.Proofs.YtkdfefpnhaebfaaGreat.Cr
namespace Go.Proofs.YtkdfefpnhaebfaaGreat
open Go.RowKit
attribute [local go_sem] Oper.semAt_some
theorem elE : El Tryz.prog 123 24 (.int .i64 0) 8 := ⟨by kernel_rfl, by kernel_rfl, fun _ => by kernel_rfl, rfl⟩
theorem first2_any (A : Option Addr) (c : Nat) (a b : Int) (w : World) (h : Rdv w A 2 c [.int .i64 a, .int .i64 b]) :
 Calls Tryz.prog 35 #[.slice A 2 c] w fun e w' => e = .returned (.int .i64 (if a = 0 then b else a)) ∧ w = w' := by
 have c0 := h.at_ 0 (.int .i64 a) rfl
 have c1 := h.at_ 1 (.int .i64 b) rfl
 have i0 := fun W => Rdv.ixI h elE (j := 0) (by omega) .i64 0 rfl W
 have i1 := fun W => Rdv.ixI h elE (j := 1) (by omega) .i64 1 rfl W
 clear h
 by_cases ha : a = 0
 · have q : (a != 0) = false := bne_f ha
   rw [if_pos ha]
   clear ha
   by_cases hb : b = 0
   · subst hb
     go_enter Tryz.func35, Tryz.ntmps35
     go_wp2_with fail
     refine wp_loop_rounds 3 ?_
     rw [rounds_succ]
     go_wp2_with fail
     rw [rounds_succ]
     go_wp2_with fail
     rw [rounds_succ]
     go_wp2
     go_ret
     exact ⟨rfl, rfl⟩
   · have q2 : (b != 0) = true := bne_t hb
     clear hb
     go_enter Tryz.func35, Tryz.ntmps35
     go_wp2_with fail
     refine wp_loop_rounds 3 ?_
     rw [rounds_succ]
     go_wp2_with fail
     rw [rounds_succ]
     go_wp2
     go_ret
     exact ⟨rfl, rfl⟩
 · have q : (a != 0) = true := bne_t ha
   rw [if_neg ha]
   clear ha
   go_enter Tryz.func35, Tryz.ntmps35
   go_wp2_with fail
   refine wp_loop_rounds 3 ?_
   rw [rounds_succ]
   go_wp2
   go_ret
   exact ⟨rfl, rfl⟩
end Go.Proofs.YtkdfefpnhaebfaaGreat
namespace Go.Proofs.YtkdfefpnhaebfaaGreat
open Go.RowKit
attribute [local go_sem] Oper.semAt_some
set_option maxRecDepth 100000
set_option maxHeartbeats 1000000
def idI (m x : Int) : Int := m * (1 - 2 * x)
theorem ideal1_any (MB BB : Nat) (A : Option Addr) (n c : Nat) (bits : List Int) (m : Int) (i : Nat) (w : World) (hm : Blk w MB 3 [.int .i64 m]) (hb : Blk w BB 28 [.slice A n c]) (hr : Rd .u8 w A n c bits) (hi : i < n) (hx : gi bits i = 0 ∨ gi bits i = 1) (hm0 : 0 ≤ m ∧ m ≤ 127) :
 Calls Tryz.prog 39 #[.int .i64 (i : Int), .pointer (some ⟨MB, 0, none⟩), .pointer (some ⟨BB, 0, none⟩)] w fun e w' => e = .returned (.int .i64 (idI m (gi bits i))) ∧ Below w.heap.size w w' := by
 have c1 := hm.cell (j := 0) (v := .int .i64 m) rfl
 have c2 := hb.cell (j := 0) (v := .slice A n c) rfl
 have c3 := Rd.cell hr hi
 have hix := fun W => Rdv.ix hr el26 hi .i64 W
 have q : IntKind.i64.wrap (-m) = -m := IntWalk.i64_in _ (by omega)
 have f0 : ∀ W, (Instr.index 87 (.agg #[.int .i64 m, .int .i64 (-m)]) (.int .u8 0)).run Tryz.prog W = .ok (.int .i64 m) W := fun _ => by kernel_rfl
 have f1 : ∀ W, (Instr.index 87 (.agg #[.int .i64 m, .int .i64 (-m)]) (.int .u8 1)).run Tryz.prog W = .ok (.int .i64 (-m)) W := fun _ => by kernel_rfl
 clear hm hb hr hm0
 rcases hx with hx | hx
 · have e : idI m (gi bits i) = m := by rw [hx]; unfold idI; omega
   rw [e]
   rw [hx] at c3
   clear e hx
   go_enter Tryz.func39, Tryz.ntmps39
   go_wp2_with fail
   go_quiet (fail)
   go_wp2
   go_ret
   exact ⟨rfl, Qt.below ⟨_, rfl⟩ _⟩
 · have e : idI m (gi bits i) = -m := by rw [hx]; unfold idI; omega
   rw [e]
   rw [hx] at c3
   clear e hx
   go_enter Tryz.func39, Tryz.ntmps39
   go_wp2_with fail
   go_quiet (fail)
   go_wp2
   go_ret
   exact ⟨rfl, Qt.below ⟨_, rfl⟩ _⟩
def MpI (w : World) (n : Nat) (g : Nat → Int) (b i : Value) (wr : World) : Prop := ∃ (j : Nat) (R : Option Addr) (c : Nat), j ≤ n ∧ i = .int .i64 (j : Int) ∧ b = .slice R j c ∧ Own .i64 3 wr w.heap.size R j c ((List.range j).map g) ∧ Below w.heap.size w wr
theorem mapped_ok (p1 p2 : Value) (g : Nat → Int) (n : Nat) (w : World) (hn : n ≤ 1000000)
 (hcl : ∀ j : Nat, j < n → ∀ wr, Below w.heap.size w wr → Calls Tryz.prog 39 #[.int .i64 (j : Int), p1, p2] wr fun e w' => e = .returned (.int .i64 (g j)) ∧ Below wr.heap.size wr w') :
 Calls Tryz.prog 38 #[.int .i64 0, .int .i64 (n : Int), .func (.func 39) #[] #[p1, p2]] w fun e w' => ∃ R, e = .returned (.tuple #[.slice R n n, .int .i64 0]) ∧ Rd .i64 w' R n n ((List.range n).map g) ∧ (R ≠ none → w.heap.size ≤ blk R) ∧ Below w.heap.size w w' := by
 have HC := Lib.hid hcl
 clear hcl
 go_enter Tryz.func38, Tryz.ntmps38
 go_wp2_with fail
 go_step3
 go_wp2_with fail
 go_loopw [8, 13] (fun b i wr => MpI w n g b i wr) (fun _ i _ => n - (intOf i).toNat)
 case atStart => exact ⟨0, none, 0, Nat.zero_le _, rfl, rfl, Own.nilv _ _ _ _, Below.refl _ _⟩
 case round =>
  obtain ⟨j, R, c, hj, rfl, rfl, hO, hB⟩ := hrel
  have HO := Lib.hid hO
  have HB := Lib.hid hB
  by_cases hlt : j < n
  · have HX := Lib.hid (HC.out j hlt wr hB)
    clear hO hB
    go_wp2_with fail
    refine HX.out.mono ?_
    rintro e w1 ⟨rfl, hB1⟩
    have HO1 := Lib.hid (Ownv.below HO.out hB1)
    have HB1 := Lib.hid (HB.out.trans (hB1.mono HB.out.size))
    clear hB1
    obtain ⟨v, hv⟩ : ∃ v, v = g j := ⟨_, rfl⟩
    rw [← hv]
    have HV := Lib.hid hv
    clear hv
    go_wp2_with (at_builtin
                 refine list_of rfl fun K hK => wp_app1 (w := w1) (base := w.heap.size) _ _ 39 rfl el22 rfl (.int .i64 v) rfl rfl HO1.out (by omega) (by omega) HB1.out.size ?_
                 intro A2 c2 w2 h1 h2
                 have HO2 := Lib.hid h1
                 have HG2 := Lib.hid h2
                 clear h1 h2
                 refine hK _ _ ?_
                 clear hK K)
    go_roundw
    case rel => exact ⟨j + 1, A2, c2, by omega, by go_num, rfl, Own.of_eq HO2.out rfl (by rw [List.range_succ, List.map_append, List.map_append, HV.out]; rfl), HB1.out.grown HG2.out HB1.out.size (fun k hk => Ownv.ob' HO1.out hk)⟩
    case measure => simp [intOf]; omega
  · obtain rfl : n = j := by omega
    have hsl := fun W => Rdv.slhm (Own.rd hO) el22 .i64 .i64 (Rdv.le (Own.rd hO)) W
    clear hO hB
    go_wp2
    rw [Exit.noGoto_ret]
    go_ret2
    exact ⟨R, rfl, Rdv.capn (Own.rd HO.out), fun hA => (Ownv.blk_of HO.out hA).1, HB.out⟩
end Go.Proofs.YtkdfefpnhaebfaaGreat
