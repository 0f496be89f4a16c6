/- Bundle. Conditions: none. -/
import Derived.Test.YtkdfefpnhaebfaaGreatBuoak
import Derived.Test.YtkdfefpnhaebfaaGreatProg
import Derived.Test.YtkdfefpnhaebfaaGreatBuoaa
import Derived.Handy
import Derived.Test.YtkdfefpnhaebfaaGreatBuoab
set_option linter.unusedVariables false
set_option linter.unusedSimpArgs false
namespace Go.Proofs.YtkdfefpnhaebfaaGreat
open Go.RowKit
structure Cle (o : Ob) : Prop where
 ok : o.ok
 s : ∀ i, i < o.s.length → 1 ≤ gi o.s i
 p : ∀ i, i < o.s.length → 0 ≤ gi o.p i
 a : ∀ i, i < o.a.length → 0 ≤ gi o.a i
theorem Cle.x {o : Ob} (h : Cle o) (i : Nat) (hi : i < o.s.length) : 1 ≤ o.x i := by
 have h1 := h.s i hi
 unfold Ob.x
 split
 · rename_i hk
   have h2 := h.a i hk
   omega
 · exact h1
theorem Cle.nb {o : Ob} (h : Cle o) : o.s.length ≤ 6147 := by have := h.ok.2.1; have := h.ok.2.2.1; omega
theorem Cle.zd {o : Ob} (h : Cle o) : ∀ d i, i + d ≤ o.s.length → 0 ≤ o.Z (i + d) - o.Z i ∧ o.Z (i + d) - o.Z i ≤ 381 * (d : Int)
 | 0, i, _ => by simp
 | d + 1, i, hi => by
   have h1 := h.zd d i (by omega)
   have h2 := h.x (i + d) (by omega)
   have h3 := h.p (i + d) (by omega)
   have h4 := o.x_bd h.ok (i + d) (by omega)
   have h5 := o.p_bd h.ok (i + d) (by omega)
   rw [show i + (d + 1) = (i + d) + 1 from rfl]
   simp only [Ob.Z]
   omega
theorem Cle.zb {o : Ob} (h : Cle o) (i : Nat) (hi : i ≤ o.s.length) : 0 ≤ o.Z i ∧ o.Z i ≤ 381 * (i : Int) := by
 have := h.zd i 0 (by omega)
 rw [Nat.zero_add, show o.Z 0 = 0 from rfl] at this
 omega
theorem Cle.term {o : Ob} (h : Cle o) (i : Nat) (hi : i < o.s.length) (b : Br) (hb : b ∈ brT) : o.term i b ≤ o.x i + gi o.p i ∧ (b.bt = 1 → o.term i b ≤ gi o.p i - o.x i) := by
 obtain ⟨-, h1, h2, -⟩ := br_bd b hb
 have h3 := h.x i hi
 have h4 := h.p i hi
 unfold Ob.term
 rcases (by omega : b.bt = 0 ∨ b.bt = 1) with e | e <;> rcases (by omega : b.pr = 0 ∨ b.pr = 1) with e' | e' <;> rw [e, e'] <;> simp <;> omega
theorem Cle.f {o : Ob} (h : Cle o) : ∀ i, i ≤ o.s.length → ∀ t, t < 8 → gi (o.f i) t ≤ o.Z i
 | 0, _, t, ht => by
   show gi none0 t ≤ 0
   rw [gi_none0 t ht]
   split
   · exact Int.le_refl _
   · rw [UU_eq]; omega
 | i + 1, hi, t, ht => by
   have hz := h.zb (i + 1) hi
   refine (fwd_le o i (o.f i) t ht _).2 ⟨by rw [UU_eq]; omega, fun b hb e _ _ => ?_⟩
   have h1 := h.f i (by omega) b.fr (br_bd b hb).1
   have h2 := (h.term i (by omega) b hb).1
   simp only [Ob.Z]
   omega
theorem Cle.bd {o : Ob} (h : Cle o) : ∀ d, d ≤ o.s.length → ∀ t, t < 8 → gi (o.bd d) t ≤ o.Z o.s.length - o.Z (o.s.length - d)
 | 0, _, t, ht => by
   show gi none0 t ≤ _
   rw [gi_none0 t ht, Nat.sub_zero]
   split
   · omega
   · rw [UU_eq]; omega
 | d + 1, hd, t, ht => by
   obtain ⟨i, hi⟩ : ∃ i, i + (d + 1) = o.s.length := ⟨o.s.length - (d + 1), by omega⟩
   have hz := h.zd (d + 1) i (by omega)
   rw [hi] at hz
   have e1 : o.s.length - 1 - d = i := by omega
   have e2 : o.s.length - (d + 1) = i := by omega
   have e3 : o.s.length - d = i + 1 := by omega
   show gi (o.bwd (o.s.length - 1 - d) (o.bd d)) t ≤ _
   rw [e1, e2]
   refine (bwd_le o i (o.bd d) t ht _).2 ⟨by rw [UU_eq]; omega, fun b hb e _ _ => ?_⟩
   have h1 := h.bd d (by omega) b.tt (br_bd b hb).2.2.2
   rw [e3] at h1
   have h2 := (h.term i (by omega) b hb).1
   simp only [Ob.Z] at h1
   omega
theorem Cle.f0 {o : Ob} (h : Cle o) : ∀ i, i ≤ o.s.length → o.Z i ≤ gi (o.f i) 0
 | 0, _ => by show (0 : Int) ≤ gi none0 0; rw [gi_none0 0 (by decide)]; simp
 | i + 1, hi => by
   have h1 := h.f0 i (by omega)
   have hz := h.zb i (by omega)
   have h2 := ((fwd_le o i (o.f i) 0 (by decide) (gi (o.f (i + 1)) 0)).1 (Int.le_refl _)).2 _ b0_mem rfl (allow0 o i) (by show UU < gi (o.f i) 0; rw [UU_eq]; omega)
   rw [term0] at h2
   simp only [Ob.Z]
   dsimp only at h2
   omega
theorem Cle.bd0 {o : Ob} (h : Cle o) : ∀ d, d ≤ o.s.length → o.Z o.s.length - o.Z (o.s.length - d) ≤ gi (o.bd d) 0
 | 0, _ => by show _ ≤ gi none0 0; rw [gi_none0 0 (by decide), Nat.sub_zero]; simp
 | d + 1, hd => by
   have h1 := h.bd0 d (by omega)
   obtain ⟨i, hi⟩ : ∃ i, i + (d + 1) = o.s.length := ⟨o.s.length - (d + 1), by omega⟩
   have e1 : o.s.length - 1 - d = i := by omega
   have e2 : o.s.length - (d + 1) = i := by omega
   have e3 : o.s.length - d = i + 1 := by omega
   have hz := h.zd d (i + 1) (by omega)
   have e4 : i + 1 + d = o.s.length := by omega
   rw [e3] at h1
   rw [e4] at hz
   have h2 := ((bwd_le o i (o.bd d) 0 (by decide) (gi (o.bwd i (o.bd d)) 0)).1 (Int.le_refl _)).2 _ b0_mem rfl (allow0 o i) (by show UU < gi (o.bd d) 0; rw [UU_eq]; omega)
   rw [term0] at h2
   show _ ≤ gi (o.bwd (o.s.length - 1 - d) (o.bd d)) 0
   rw [e1, e2]
   simp only [Ob.Z] at h1
   dsimp only at h2
   omega
theorem Cle.tot {o : Ob} (h : Cle o) (i : Nat) (hi : i < o.s.length) : o.x i ≤ o.tot i := by
 obtain ⟨d, hd⟩ : ∃ d, i + 1 + d = o.s.length := ⟨o.s.length - (i + 1), by omega⟩
 have e1 : o.s.length - (i + 1) = d := by omega
 have e2 : o.s.length - d = i + 1 := by omega
 have hn := h.nb
 have z1 := h.zb i (by omega)
 have z2 := h.zd d (i + 1) (by omega)
 have z3 := h.zb o.s.length (Nat.le_refl _)
 rw [hd] at z2
 have f0 := h.f0 i (by omega)
 have b0 := h.bd0 d (by omega)
 rw [e2] at b0
 have hx := h.x i hi
 have hp := h.p i hi
 have hxb := o.x_bd h.ok i hi
 have lo : o.Z o.s.length ≤ o.val i 0 (o.f i) (o.b (i + 1)) := by
  have := ((val_le o i 0 (o.f i) (o.b (i + 1)) _).1 (Int.le_refl _)).2 _ b0_mem rfl
  unfold Ob.b at this ⊢
  rw [e1] at this ⊢
  have := this (by show UU < gi (o.f i) 0; rw [UU_eq]; omega) (by show UU < gi (o.bd d) 0; rw [UU_eq]; omega)
  rw [term0] at this
  simp only [Ob.Z] at b0
  dsimp only at this
  omega
 have up : o.val i 1 (o.f i) (o.b (i + 1)) ≤ o.Z o.s.length - 2 * o.x i := by
  refine (val_le o i 1 _ _ _).2 ⟨by rw [UU_eq]; omega, fun b hb eb _ _ => ?_⟩
  unfold Ob.b
  rw [e1]
  have b4 := br_bd b hb
  have h1 := h.f i (by omega) b.fr b4.1
  have h2 := h.bd d (by omega) b.tt b4.2.2.2
  have h3 := (h.term i hi b hb).2 eb
  rw [e2] at h2
  simp only [Ob.Z] at h2
  omega
 unfold Ob.tot
 rw [Int.tdiv_eq_ediv_of_nonneg (by omega)]
 omega
theorem ext_nonneg {v : Int} (h : 0 ≤ v) : 0 ≤ ext v := by
 unfold ext
 rw [Int.tdiv_eq_ediv_of_nonneg (by omega)]
 omega
theorem gi_zero (k j : Nat) : gi (List.replicate k (0 : Int)) j = 0 := by
 unfold gi
 rw [List.getD_eq_getElem?_getD, List.getElem?_replicate]
 split <;> rfl
theorem sq_sg (b : Bool) : (1 - 2 * (bq b : Int)) * (1 - 2 * (bq b : Int)) = 1 := by cases b <;> rfl
theorem mul_sg (m : Int) (b : Bool) : m * (1 - 2 * (bq b : Int)) * (1 - 2 * (bq b : Int)) = m := by rw [Int.mul_assoc, sq_sg, Int.mul_one]
theorem sg_bd {m : Int} (b : Bool) (h : -127 ≤ m ∧ m ≤ 127) : -127 ≤ m * (1 - 2 * (bq b : Int)) ∧ m * (1 - 2 * (bq b : Int)) ≤ 127 := by
 cases b
 · simp [bq]; omega
 · show -127 ≤ m * (1 - 2 * 1) ∧ m * (1 - 2 * 1) ≤ 127
   omega
structure Rgt (o : Ob) (k : Nat) (bs : List Bool) (m1 m2 : Nat → Int) : Prop where
 b : bs.length = k
 k1 : 1 ≤ k
 k2 : k ≤ 6144
 ls : o.s.length = k + 3
 lp : o.p.length = k + 3
 la : o.a.length = k
 s : ∀ j, j < k + 3 → gi o.s j = m1 j * (1 - 2 * (bq ((inW bs).getD j false) : Int)) ∧ 1 ≤ m1 j ∧ m1 j ≤ 127
 p : ∀ j, j < k + 3 → gi o.p j = m2 j * (1 - 2 * (bq ((outW bs).getD j false) : Int)) ∧ 1 ≤ m2 j ∧ m2 j ≤ 127
 a : ∀ j, j < k → 0 ≤ gi o.a j * (1 - 2 * (bq (bs.getD j false) : Int)) ∧ -127 ≤ gi o.a j ∧ gi o.a j ≤ 127
theorem mem_gi {l : List Int} {v : Int} (h : v ∈ l) : ∃ j, j < l.length ∧ gi l j = v := by
 obtain ⟨j, hj, rfl⟩ := List.getElem_of_mem h
 exact ⟨j, hj, gi_eq _ _ hj⟩
theorem Rgt.ok {o : Ob} {k : Nat} {bs : List Bool} {m1 m2 : Nat → Int} (h : Rgt o k bs m1 m2) : o.ok := by
 refine ⟨by rw [h.la]; exact h.k1, by rw [h.la]; exact h.k2, by rw [h.ls, h.la], by rw [h.lp, h.la], fun v hv => ?_, fun v hv => ?_, fun v hv => ?_⟩
 · obtain ⟨j, hj, rfl⟩ := mem_gi hv
   obtain ⟨e, h1, h2⟩ := h.s j (by rw [← h.ls]; exact hj)
   rw [e]; exact sg_bd _ (by omega)
 · obtain ⟨j, hj, rfl⟩ := mem_gi hv
   obtain ⟨e, h1, h2⟩ := h.p j (by rw [← h.lp]; exact hj)
   rw [e]; exact sg_bd _ (by omega)
 · obtain ⟨j, hj, rfl⟩ := mem_gi hv
   exact (h.a j (by rw [← h.la]; exact hj)).2
theorem Rgt.cle {o : Ob} {k : Nat} {bs : List Bool} {m1 m2 : Nat → Int} (h : Rgt o k bs m1 m2) : Cle (o.turn bs) := by
 refine ⟨turn_ok h.ok bs, fun i hi => ?_, fun i hi => ?_, fun i hi => ?_⟩
 · have hi : i < k + 3 := by simpa [Ob.turn, flp_len, h.ls] using hi
   obtain ⟨e, h1, -⟩ := h.s i hi
   show 1 ≤ gi (flp o.s (inW bs)) i
   rw [gi_flp, e, mul_sg]; exact h1
 · have hi : i < k + 3 := by simpa [Ob.turn, flp_len, h.ls] using hi
   obtain ⟨e, h1, -⟩ := h.p i hi
   show 0 ≤ gi (flp o.p (outW bs)) i
   rw [gi_flp, e, mul_sg]; omega
 · have hi : i < k := by simpa [Ob.turn, flp_len, h.la] using hi
   show 0 ≤ gi (flp o.a bs) i
   rw [gi_flp]; exact (h.a i hi).1
theorem ext_bd (v : Int) : -127 ≤ ext v ∧ ext v ≤ 127 := by unfold ext; omega
theorem clean_plain {o : Ob} {k : Nat} {bs : List Bool} {m1 m2 : Nat → Int} (h : Rgt o k bs m1 m2) :
 o.dB = bs.map ib ∧ o.dE.length = k ∧ ∀ j, j < k → 0 ≤ gi o.dE j * (1 - 2 * (bq (bs.getD j false) : Int)) ∧ -127 ≤ gi o.dE j ∧ gi o.dE j ≤ 127 := by
 have hok := h.ok
 have hc := h.cle
 have hbl : bs.length = o.a.length := by rw [h.b, h.la]
 have ht := turn_tn hok hbl
 have hE := turn_dE hok hbl
 have hel : o.dE.length = k := by unfold Ob.dE; rw [if_pos hok]; simp [h.la]
 have tl : (o.turn bs).s.length = k + 3 := by show (flp _ _).length = _; rw [flp_len, h.ls]
 have tal : (o.turn bs).a.length = k := by show (flp _ _).length = _; rw [flp_len, h.la]
 have tt : ∀ j, j < k → (o.turn bs).x j ≤ (o.turn bs).tot j := fun j hj => hc.tot j (by rw [tl]; omega)
 refine ⟨?_, hel, fun j hj => ⟨?_, ?_⟩⟩
 · unfold Ob.dB
   rw [if_pos hok, h.la]
   refine ext_gi (by simp [h.b]) fun j hj => ?_
   have hj : j < k := by simpa using hj
   rw [gi_range _ hj, gi_ib bs j (by rw [h.b]; exact hj)]
   unfold Ob.bT
   have h1 := tt j hj
   have h2 := hc.x j (by rw [tl]; omega)
   rw [ht.tot j (by rw [h.ls]; omega)] at h1
   have hbt : (cW bs j).bt = bq (bs[j]'(by rw [h.b]; exact hj)) := by
    show bq ((inW bs).getD j false) = _
    rw [inW_lo bs j (by rw [h.b]; exact hj)]
    simp [List.getD, show j < bs.length from by rw [h.b]; exact hj]
   rw [hbt] at h1
   generalize bs[j]'_ = b at *
   cases b
   · simp [bq] at h1; simp [ib]; omega
   · have h1 : (o.turn bs).x j ≤ o.tot j * (1 - 2 * 1) := h1
     show (if o.tot j < 0 then (1 : Int) else 0) = 1
     rw [if_pos (by omega)]
 · have e : gi (o.turn bs).dE j = gi (flp o.dE bs) j := by rw [hE]
   rw [gi_flp] at e
   rw [← e]
   unfold Ob.dE
   rw [if_pos (turn_ok hok bs), tal, gi_range _ hj]
   unfold Ob.eT
   refine ext_nonneg ?_
   have h1 := tt j hj
   unfold Ob.x at h1
   rw [if_pos (by show j < (o.turn bs).a.length; rw [tal]; exact hj)] at h1
   omega
 · unfold Ob.dE
   rw [if_pos hok, h.la, gi_range _ hj]
   exact ext_bd _
end Go.Proofs.YtkdfefpnhaebfaaGreat
namespace Go.Proofs.YtkdfefpnhaebfaaGreat.Tu
open Go.RowKit
def validK (k : Int) : Bool := decide (40 ≤ k ∧ k ≤ 512 ∧ k % 8 = 0 ∨ 528 ≤ k ∧ k ≤ 1024 ∧ k % 16 = 0 ∨ 1056 ≤ k ∧ k ≤ 2048 ∧ k % 32 = 0 ∨ 2112 ≤ k ∧ k ≤ 6144 ∧ k % 64 = 0)
def spansV : Value := .agg #[.int .i64 40, .int .i64 512, .int .i64 8, .int .i64 528, .int .i64 1024, .int .i64 16, .int .i64 1056, .int .i64 2048, .int .i64 32, .int .i64 2112, .int .i64 6144, .int .i64 64]
theorem spans_any (w : World) : Calls Tryz.prog 147 #[] w fun e w' => e = .returned spansV ∧ Below w.heap.size w w' := by
 go_enter Tryz.func147, Tryz.ntmps147
 go_wp2
 refine bodyPost_ret (v := spansV) (by simp [results, Tryz.results147, go_sem]; rfl) rfl ?_
 exact ⟨rfl, (Below.refl _ w).alloc (Nat.le_refl _) _⟩
theorem span0 (W : World) : (Instr.index 207 spansV (.int .i64 0)).run Tryz.prog W = .ok (.agg #[.int .i64 40, .int .i64 512, .int .i64 8]) W := by kernel_rfl
theorem span1 (W : World) : (Instr.index 207 spansV (.int .i64 1)).run Tryz.prog W = .ok (.agg #[.int .i64 528, .int .i64 1024, .int .i64 16]) W := by kernel_rfl
theorem span2 (W : World) : (Instr.index 207 spansV (.int .i64 2)).run Tryz.prog W = .ok (.agg #[.int .i64 1056, .int .i64 2048, .int .i64 32]) W := by kernel_rfl
theorem span3 (W : World) : (Instr.index 207 spansV (.int .i64 3)).run Tryz.prog W = .ok (.agg #[.int .i64 2112, .int .i64 6144, .int .i64 64]) W := by kernel_rfl
def SpanInv (k : Int) (w : World) (i : Value) (wr : World) : Prop := ∃ j : Nat, j ≤ 4 ∧ i = .int .i64 j ∧ (0 < j → ¬ (40 ≤ k ∧ k ≤ 512)) ∧ (1 < j → ¬ (528 ≤ k ∧ k ≤ 1024)) ∧ (2 < j → ¬ (1056 ≤ k ∧ k ≤ 2048)) ∧ (3 < j → ¬ (2112 ≤ k ∧ k ≤ 6144)) ∧ Below w.heap.size w wr
theorem valid_any (k : Int) (w : World) : Calls Tryz.prog 102 #[.int .i64 k] w fun e w' => e = .returned (.bool (validK k)) ∧ Below w.heap.size w w' := by
 have hV : Hid (∀ b : Bool, (b = true ↔ (40 ≤ k ∧ k ≤ 512 ∧ k % 8 = 0 ∨ 528 ≤ k ∧ k ≤ 1024 ∧ k % 16 = 0 ∨ 1056 ≤ k ∧ k ≤ 2048 ∧ k % 32 = 0 ∨ 2112 ≤ k ∧ k ≤ 6144 ∧ k % 64 = 0)) → b = validK k) := Lib.hid (by
  intro b hb; unfold validK; rw [Bool.eq_iff_iff, hb, decide_eq_true_iff])
 generalize validK k = V at *
 go_enter Tryz.func102, Tryz.ntmps102
 go_wp2_with fail
 refine (spans_any _).mono ?_
 rintro e w1 ⟨rfl, hB1⟩
 have e0 := span0; have e1 := span1; have e2 := span2; have e3 := span3
 generalize spansV = SV at *
 go_wp2_with fail
 go_loopw [6] (fun i wr => SpanInv k w i wr) (fun i _ => 4 - (intOf i).toNat)
 case atStart => exact ⟨0, by omega, rfl, by omega, by omega, by omega, by omega, hB1⟩
 case round =>
  obtain ⟨j, hj, rfl, h1, h2, h3, h4, hB⟩ := hrel
  have H1 := Lib.hid h1; have H2 := Lib.hid h2; have H3 := Lib.hid h3; have H4 := Lib.hid h4
  clear h1 h2 h3 h4
  rcases (by omega : j = 0 ∨ j = 1 ∨ j = 2 ∨ j = 3 ∨ j = 4) with rfl | rfl | rfl | rfl | rfl
  all_goals try simp only [Int.ofNat_zero, Int.ofNat_one, Int.cast_ofNat_Int]
  all_goals go_wp2
  all_goals (have h1 := H1.out; have h2 := H2.out; have h3 := H3.out; have h4 := H4.out)
  all_goals first
   | exact ⟨⟨_, by omega, rfl, by omega, by omega, by omega, by omega, hB.alloc hB.size _⟩, by simp [intOf]⟩
   | exact ⟨⟨1, by omega, rfl, by omega, by omega, by omega, by omega, hB.alloc hB.size _⟩, by simp [intOf]⟩
   | exact ⟨⟨2, by omega, rfl, by omega, by omega, by omega, by omega, hB.alloc hB.size _⟩, by simp [intOf]⟩
   | exact ⟨⟨3, by omega, rfl, by omega, by omega, by omega, by omega, hB.alloc hB.size _⟩, by simp [intOf]⟩
   | exact ⟨⟨4, by omega, rfl, by omega, by omega, by omega, by omega, hB.alloc hB.size _⟩, by simp [intOf]⟩
   | (go_ret
      refine ⟨ret_bool (hV.out _ ?_), by first | exact hB.alloc hB.size _ | exact hB⟩
      first
       | (rw [beq_iff_eq]; omega)
       | (refine iff_of_false (by decide) ?_; omega))
def strip : Nat → Nat → Nat → Option Nat
 | 0, _, _ => none
 | f + 1, p, k => if k % p = 0 then strip f p (k / p) else some k
def dvs : Nat → Nat → Nat → List Nat → Option (List Nat)
 | 0, _, _, _ => none
 | f + 1, p, k, acc => if k ≤ 1 then some acc else match strip 14 p k with
   | none => none
   | some k2 => dvs f (p + 1) k2 (if k % p = 0 then acc ++ [p] else acc)
def cop (f : Nat) (D : List Nat) : Bool := D.all fun p => decide (f % p ≠ 0)
def fnd : Nat → Nat → List Nat → Option Nat
 | 0, _, _ => none
 | n + 1, f, D => if cop f D = true then some f else fnd n (f + 2) D
def fndG : Nat → Nat → Nat → Option Nat
 | 0, _, _ => none
 | n + 1, f, k => if 1 < Nat.gcd f k then fndG n (f + 2) k else some f
def prodL (D : List Nat) : Nat := D.foldl (· * ·) 1
def validN (k : Nat) : Bool := validK (k : Int)
def chk (k : Nat) : Bool := match dvs 100 2 k [] with
 | none => false
 | some D => match fnd 50 3 D with
   | none => false
   | some F => decide (D.length ≤ 12 ∧ fndG 50 3 k = some F ∧ F ≤ 1000 ∧ prodL D ≤ 6144) && D.all (fun p => decide (1 ≤ p))
theorem chk_all : ((List.range 6145).all fun k => !validN k || chk k) = true := by decide +kernel
def dvL (k : Nat) : List Nat := (dvs 100 2 k []).getD []
def f1N (k : Nat) : Nat := (fnd 50 3 (dvL k)).getD 0
def f2N (k : Nat) : Nat := prodL (dvL k)
structure Prm (k : Nat) : Prop where
 k0 : 40 ≤ k
 k1 : k ≤ 6144
 d : dvs 100 2 k [] = some (dvL k)
 f : fnd 50 3 (dvL k) = some (f1N k)
 g : fndG 50 3 k = some (f1N k)
 l : (dvL k).length ≤ 12
 b1 : f1N k ≤ 1000
 b2 : f2N k ≤ 6144
 p : ∀ q ∈ dvL k, 1 ≤ q
theorem valid_bd {k : Int} (h : validK k = true) : 40 ≤ k ∧ k ≤ 6144 := by
 unfold validK at h
 rw [decide_eq_true_iff] at h
 omega
theorem prm {k : Nat} (h : validK (k : Int) = true) : Prm k := by
 obtain ⟨h0, h1⟩ := valid_bd h
 have hc := List.all_eq_true.1 chk_all k (List.mem_range.2 (by omega))
 have hv : validN k = true := h
 rw [hv] at hc
 have hc : chk k = true := by simpa using hc
 unfold chk at hc
 have e1 : dvs 100 2 k [] = some (dvL k) := by
  unfold dvL
  cases hd : dvs 100 2 k [] with
  | none => rw [hd] at hc; cases hc
  | some D => rfl
 rw [e1] at hc
 simp only at hc
 have e2 : fnd 50 3 (dvL k) = some (f1N k) := by
  unfold f1N
  cases hd : fnd 50 3 (dvL k) with
  | none => rw [hd] at hc; cases hc
  | some D => rfl
 rw [e2] at hc
 simp only [Bool.and_eq_true, decide_eq_true_iff] at hc
 obtain ⟨⟨c1, c2, c3, c4⟩, c5⟩ := hc
 exact ⟨by omega, by omega, e1, e2, c2, c1, c3, c4, fun q hq => by have := List.all_eq_true.1 c5 q hq; simpa using this⟩
theorem dvs_len : ∀ (f p k : Nat) (acc D : List Nat), dvs f p k acc = some D → acc.length ≤ D.length
 | 0, _, _, _, _, h => by cases h
 | f + 1, p, k, acc, D, h => by
   unfold dvs at h
   split at h
   · cases h; exact Nat.le_refl _
   · split at h
     · cases h
     · have := dvs_len f (p + 1) _ _ D h
       split at this
       · rw [List.length_append] at this; simp at this; omega
       · exact this
theorem dvs_step {f p k : Nat} {acc D : List Nat} (h : dvs f p k acc = some D) (hk : 1 < k) : ∃ f' k2, f = f' + 1 ∧ strip 14 p k = some k2 ∧ dvs f' (p + 1) k2 (if k % p = 0 then acc ++ [p] else acc) = some D := by
 cases f with
 | zero => cases h
 | succ f =>
   unfold dvs at h
   rw [if_neg (by omega)] at h
   cases hs : strip 14 p k with
   | none => rw [hs] at h; cases h
   | some k2 => rw [hs] at h; exact ⟨f, k2, rfl, rfl, h⟩
theorem dvs_end {f p k : Nat} {acc D : List Nat} (h : dvs f p k acc = some D) (hk : k ≤ 1) : acc = D := by
 cases f with
 | zero => cases h
 | succ f => unfold dvs at h; rw [if_pos hk] at h; exact Option.some.inj h
theorem strip_step {f p k K : Nat} (h : strip f p k = some K) (hk : k % p = 0) : ∃ f', f = f' + 1 ∧ strip f' p (k / p) = some K := by
 cases f with
 | zero => cases h
 | succ f => unfold strip at h; rw [if_pos hk] at h; exact ⟨f, rfl, h⟩
theorem strip_end {f p k K : Nat} (h : strip f p k = some K) (hk : k % p ≠ 0) : k = K := by
 cases f with
 | zero => cases h
 | succ f => unfold strip at h; rw [if_neg hk] at h; exact Option.some.inj h
theorem fnd_le : ∀ (n f : Nat) (D : List Nat) (F : Nat), fnd n f D = some F → f ≤ F
 | 0, _, _, _, h => by cases h
 | n + 1, f, D, F, h => by
   unfold fnd at h
   split at h
   · cases h; exact Nat.le_refl _
   · have := fnd_le n (f + 2) D F h; omega
theorem fnd_step {n f : Nat} {D : List Nat} {F : Nat} (h : fnd n f D = some F) (hc : cop f D = false) : f + 2 ≤ F ∧ ∃ n', fnd n' (f + 2) D = some F := by
 cases n with
 | zero => cases h
 | succ n => unfold fnd at h; rw [if_neg (by rw [hc]; decide)] at h; exact ⟨fnd_le _ _ _ _ h, n, h⟩
theorem fnd_end {n f : Nat} {D : List Nat} {F : Nat} (h : fnd n f D = some F) (hc : cop f D = true) : f = F := by
 cases n with
 | zero => cases h
 | succ n => unfold fnd at h; rw [if_pos hc] at h; exact Option.some.inj h
theorem foldl_mul (D : List Nat) : ∀ a, D.foldl (· * ·) a = a * prodL D := by
 induction D with
 | nil => intro a; simp [prodL]
 | cons d D ih => intro a; simp only [prodL, List.foldl_cons]; rw [ih, ih (1 * d)]; rw [Nat.one_mul, Nat.mul_assoc]
theorem prodL_app (a b : List Nat) : prodL (a ++ b) = prodL a * prodL b := by
 unfold prodL; rw [List.foldl_append, foldl_mul]; rfl
theorem prodL_pos {D : List Nat} (h : ∀ q ∈ D, 1 ≤ q) : 1 ≤ prodL D := by
 induction D with
 | nil => simp [prodL]
 | cons d D ih =>
   rw [show d :: D = [d] ++ D from rfl, prodL_app]
   have h1 := h d (by simp)
   have h2 := ih fun q hq => h q (by simp [hq])
   have : prodL [d] = d := by simp [prodL]
   rw [this]
   exact Nat.mul_pos h1 h2
theorem prodL_le {a t : List Nat} (h : ∀ q ∈ a ++ t, 1 ≤ q) : prodL a ≤ prodL (a ++ t) := by
 rw [prodL_app]
 exact Nat.le_mul_of_pos_right _ (prodL_pos fun q hq => h q (List.mem_append_right _ hq))
def piN (k i : Nat) : Nat := (f1N k * i + f2N k * i % k * i) % k
def ordL (k : Nat) : List Int := (List.range k).map fun i => (piN k i : Int)
theorem el33 : El Tryz.prog 39 3 (.int .i64 0) 8 := ⟨by kernel_rfl, by kernel_rfl, fun _ => by kernel_rfl, rfl⟩
end Go.Proofs.YtkdfefpnhaebfaaGreat.Tu
