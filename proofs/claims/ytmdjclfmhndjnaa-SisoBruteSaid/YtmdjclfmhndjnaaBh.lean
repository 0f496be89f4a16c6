/-
  Contracts of the closures of the sweep's method total, of greatest and of total. Condition: a valid observation that lies in memory, small metrics.
-/
import Derived.Test.YtmdjclfmhndjnaaBg
import Derived.Deep.RegionHeld3
namespace Go.Proofs.Ytmdjclfmhndjnaa
open Go.RowKit
set_option linter.unusedVariables false
/-- what a branch adds to the choice of a bit's value -/
def Ob.vX (o : Ob) (i bit : Nat) (f g : List Int) (x : Br) : Int := if x.bt = bit ∧ gi f x.fr ≠ UU ∧ gi g x.tt ≠ UU then gi f x.fr + o.term i x + gi g x.tt else UU
/-- what a closure of total has captured -/
structure Cap (W : World) (p1 p2 p3 p4 p5 : Nat) (bit i : Nat) (f g : List Int) (bo bb : Nat) : Prop where
  c1 : Blk W p1 3 [.int .i64 (bit : Int)]
  c2 : Blk W p2 66 (ints8 f)
  c3 : Blk W p3 66 (ints8 g)
  c4 : Blk W p4 62 [.pointer (some ⟨bo, 0, none⟩), .slice (some ⟨bb, 0, none⟩) 16 16]
  c5 : Blk W p5 3 [.int .i64 (i : Int)]
theorem Cap.below {W W' : World} {p1 p2 p3 p4 p5 : Nat} {bit i : Nat} {f g : List Int} {bo bb : Nat} (h : Cap W p1 p2 p3 p4 p5 bit i f g bo bb) (hB : Below W.heap.size W W') : Cap W' p1 p2 p3 p4 p5 bit i f g bo bb := ⟨h.c1.below hB, h.c2.below hB, h.c3.below hB, h.c4.below hB, h.c5.below hB⟩
def InS (b9 p2 p3 p4 p5 bo : Nat) (fr bt pr tt i : Nat) (vf vg : Int) (W : World) : Prop :=
  W.cell? ⟨b9, 0, none⟩ = some (.int .i64 (fr : Int)) ∧ W.cell? ⟨b9, 1, none⟩ = some (.int .i64 (bt : Int)) ∧ W.cell? ⟨b9, 2, none⟩ = some (.int .i64 (pr : Int)) ∧ W.cell? ⟨b9, 3, none⟩ = some (.int .i64 (tt : Int)) ∧
    W.cell? ⟨p2, fr, none⟩ = some (.int .i64 vf) ∧ W.cell? ⟨p3, tt, none⟩ = some (.int .i64 vg) ∧ W.cell? ⟨p4, 0, none⟩ = some (.pointer (some ⟨bo, 0, none⟩)) ∧ W.cell? ⟨p5, 0, none⟩ = some (.int .i64 (i : Int))
set_option maxRecDepth 100000 in
set_option maxHeartbeats 1000000 in
theorem inner_any (p1 p2 p3 p4 p5 bo bb bit : Nat) (o : Ob) (S P A : Option Addr) (cs cp ca i : Nat) (f g : List Int) (b : Br) (B : Int) (w : World) (hc : Cap w p1 p2 p3 p4 p5 bit i f g bo bb) (h : SwAt w bo bb o S P A cs cp ca) (ho : o.ok) (hi : i < o.s.length) (hf : Met B f) (hg : Met B g) (hB : B ≤ 50000000) (h0 : 0 ≤ B) (hb : b ∈ brT) :
    Calls Try.prog 50 #[brA b, .pointer (some ⟨p1, 0, none⟩), .pointer (some ⟨p2, 0, none⟩), .pointer (some ⟨p3, 0, none⟩), .pointer (some ⟨p4, 0, none⟩), .pointer (some ⟨p5, 0, none⟩)] w fun e w' => e = .returned (.int .i64 (o.vX i bit f g b)) ∧ Below w.heap.size w w' := by
  obtain ⟨b1, b2, b3, b4⟩ := br_bd b hb
  have hal : Below w.heap.size w (w.alloc (.cells (brV b).toArray 77)) := (Below.refl _ w).alloc (Nat.le_refl _) _
  have h' := hc.below hal
  have hb9 : Blk (w.alloc (.cells (brV b).toArray 77)) w.heap.size 77 (brV b) := Blk.new w (brV b) 77 rfl
  have x0 := hb9.cell (j := 0) (v := .int .i64 (b.fr : Int)) rfl
  have x1 := hb9.cell (j := 1) (v := .int .i64 (b.bt : Int)) rfl
  have x2 := hb9.cell (j := 2) (v := .int .i64 (b.pr : Int)) rfl
  have x3 := hb9.cell (j := 3) (v := .int .i64 (b.tt : Int)) rfl
  have x4 := h'.c2.icell (j := b.fr) (by have := hf.len; omega)
  have x5 := h'.c3.icell (j := b.tt) (by have := hg.len; omega)
  have x6 := h'.c4.cell (j := 0) (v := .pointer (some ⟨bo, 0, none⟩)) rfl
  have x7 := h'.c5.cell (j := 0) (v := .int .i64 (i : Int)) rfl
  have x8 := h'.c1.cell (j := 0) (v := .int .i64 (bit : Int)) rfl
  have HS : Hid (∀ W : World, Below (w.alloc (.cells (brV b).toArray 77)).heap.size (w.alloc (.cells (brV b).toArray 77)) W → InS w.heap.size p2 p3 p4 p5 bo b.fr b.bt b.pr b.tt i (gi f b.fr) (gi g b.tt) W) := Lib.hid fun W hW =>
    have h9 := hb9.below hW
    have hc := h'.below hW
    ⟨h9.cell rfl, h9.cell rfl, h9.cell rfl, h9.cell rfl, hc.c2.icell (by have := hf.len; omega), hc.c3.icell (by have := hg.len; omega), hc.c4.cell rfl, hc.c5.cell rfl⟩
  have HAL := Lib.hid hal
  have HSW := Lib.hid (h.below hal)
  have hbd := ho
  have HBD := Lib.hid (o.term_bd ho i hi b hb)
  clear hbd
  unfold Ob.vX
  have HH := Lib.hid h
  have HO := Lib.hid ho
  have hfb := hf.bd b.fr b1
  have hgb := hg.bd b.tt b4
  rw [UU_eq] at hfb hgb
  have HMEM := Lib.hid hb
  have hbb : (brV b).toArray = #[.int .i64 (b.fr : Int), .int .i64 (b.bt : Int), .int .i64 (b.pr : Int), .int .i64 (b.tt : Int)] := rfl
  rw [hbb] at x0 x1 x2 x3 x4 x5 x6 x7 x8 hal
  clear h' hb9 hc h ho hf hg hb hbb
  unfold brA
  by_cases e1 : b.bt = bit
  · have f1 : ((b.bt : Int) != (bit : Int)) = false := bne_f (by omega)
    by_cases e2 : gi f b.fr = UU
    · have f2 : (gi f b.fr == -1125899906842624) = true := beq_t (by rw [e2, UU_eq])
      rw [if_neg (fun h => h.2.1 e2)]
      clear e1 e2
      go_enter Try.func50, Try.ntmps50
      go_wp2
      go_ret
      exact ⟨rfl, hal⟩
    · have f2 : (gi f b.fr == -1125899906842624) = false := beq_f (by rw [← UU_eq]; exact e2)
      by_cases e3 : gi g b.tt = UU
      · have f3 : (gi g b.tt == -1125899906842624) = true := beq_t (by rw [e3, UU_eq])
        rw [if_neg (fun h => h.2.2 e3)]
        clear e1 e2 e3
        go_enter Try.func50, Try.ntmps50
        go_wp2
        go_ret
        exact ⟨rfl, hal⟩
      · have f3 : (gi g b.tt == -1125899906842624) = false := beq_f (by rw [← UU_eq]; exact e3)
        rw [if_pos ⟨e1, e2, e3⟩]
        rw [UU_eq] at e2 e3
        have hfb := hfb.resolve_left e2
        have hgb := hgb.resolve_left e3
        clear e1 e2 e3
        have hbd := HBD.out
        have hw1 : IntKind.i64.wrap (gi f b.fr + o.term i b) = gi f b.fr + o.term i b := IntWalk.i64_in _ (by omega)
        have hw2 : IntKind.i64.wrap (gi f b.fr + o.term i b + gi g b.tt) = gi f b.fr + o.term i b + gi g b.tt := IntWalk.i64_in _ (by omega)
        have HTE := Lib.hid (term_any bo o S P A cs cp ca i b)
        have i1 : (b.fr : Int) < 8 := by omega
        have i2 : (b.tt : Int) < 8 := by omega
        have i3 : (0 : Int) ≤ (b.fr : Int) := by omega
        have i4 : (0 : Int) ≤ (b.tt : Int) := by omega
        clear hbd hal
        go_enter Try.func50, Try.ntmps50
        go_wp2_with fail
        clear x0 x1 x2 x3 x4 x5 x6 x7 x8
        obtain ⟨w9, hw9⟩ : ∃ w9, w9 = w.alloc (.cells #[.int .i64 (b.fr : Int), .int .i64 (b.bt : Int), .int .i64 (b.pr : Int), .int .i64 (b.tt : Int)] 77) := ⟨_, rfl⟩
        rw [← hw9]
        have HS : Hid (∀ W : World, Below w9.heap.size w9 W → InS w.heap.size p2 p3 p4 p5 bo b.fr b.bt b.pr b.tt i (gi f b.fr) (gi g b.tt) W) := by rw [hw9]; exact HS
        have HAL : Hid (Below w.heap.size w w9) := by rw [hw9]; exact HAL
        have HSW : Hid (SwAt w9 bo bb o S P A cs cp ca) := by rw [hw9]; exact HSW
        clear hw9
        have hS0 := HS.out w9.drew (Below.refl _ _).drew
        clear i1 i2 i3 i4
        refine wp_region_Z (InS w.heap.size p2 p3 p4 p5 bo b.fr b.bt b.pr b.tt i (gi f b.fr) (gi g b.tt)) 15 (by kernel_rfl) ?_
        refine wpAnyZ_take (i := 0) (v := .pointer (some ⟨w.heap.size, 0, none⟩)) rfl (by kernel_rfl) (by kernel_rfl) (by kernel_rfl) (by kernel_rfl) (fun _ _ _ h => h) (Or.inl ⟨by rfl, fun W hS => by go_simp⟩) hS0 ?_
        simp only [Act.put, List.setIfInBounds_toArray, List.set_cons_zero, List.set_cons_succ]
        refine wpAnyZ_take (i := 1) (v := .int .i64 (b.fr : Int)) rfl (by kernel_rfl) (by kernel_rfl) (by kernel_rfl) (by kernel_rfl) (fun _ _ _ h => h) (Or.inl ⟨by rfl, fun W hS => by obtain ⟨s0, s1, s2, s3, s4, s5, s6, s7⟩ := hS; go_simp⟩) hS0 ?_
        simp only [Act.put, List.setIfInBounds_toArray, List.set_cons_zero, List.set_cons_succ]
        refine wpAnyZ_take (i := 2) (v := .pointer (some ⟨p2, b.fr, none⟩)) rfl (by kernel_rfl) (by kernel_rfl) (by kernel_rfl) (by kernel_rfl) (fun _ _ _ h => h) (Or.inl ⟨by rfl, fun W hS => by go_simp; intro h9; omega⟩) hS0 ?_
        simp only [Act.put, List.setIfInBounds_toArray, List.set_cons_zero, List.set_cons_succ]
        refine wpAnyZ_take (i := 3) (v := .int .i64 (gi f b.fr)) rfl (by kernel_rfl) (by kernel_rfl) (by kernel_rfl) (by kernel_rfl) (fun _ _ _ h => h) (Or.inl ⟨by rfl, fun W hS => by obtain ⟨s0, s1, s2, s3, s4, s5, s6, s7⟩ := hS; go_simp⟩) hS0 ?_
        simp only [Act.put, List.setIfInBounds_toArray, List.set_cons_zero, List.set_cons_succ]
        refine wpAnyZ_take (i := 4) (v := .pointer (some ⟨p4, 0, none⟩)) rfl (by kernel_rfl) (by kernel_rfl) (by kernel_rfl) (by kernel_rfl) (fun _ _ _ h => h) (Or.inl ⟨by rfl, fun W hS => by go_simp⟩) hS0 ?_
        simp only [Act.put, List.setIfInBounds_toArray, List.set_cons_zero, List.set_cons_succ]
        refine wpAnyZ_take (i := 5) (v := .pointer (some ⟨bo, 0, none⟩)) rfl (by kernel_rfl) (by kernel_rfl) (by kernel_rfl) (by kernel_rfl) (fun _ _ _ h => h) (Or.inl ⟨by rfl, fun W hS => by obtain ⟨s0, s1, s2, s3, s4, s5, s6, s7⟩ := hS; go_simp⟩) hS0 ?_
        simp only [Act.put, List.setIfInBounds_toArray, List.set_cons_zero, List.set_cons_succ]
        refine wpAnyZ_take (i := 6) (v := .int .i64 (i : Int)) rfl (by kernel_rfl) (by kernel_rfl) (by kernel_rfl) (by kernel_rfl) (fun _ _ _ h => h) (Or.inl ⟨by rfl, fun W hS => by obtain ⟨s0, s1, s2, s3, s4, s5, s6, s7⟩ := hS; go_simp⟩) hS0 ?_
        simp only [Act.put, List.setIfInBounds_toArray, List.set_cons_zero, List.set_cons_succ]
        refine wpAnyZ_take (i := 7) (v := brA b) rfl (by kernel_rfl) (by kernel_rfl) (by kernel_rfl) (by kernel_rfl) (fun _ _ _ h => h) (Or.inl ⟨by rfl, fun W hS => by obtain ⟨s0, s1, s2, s3, s4, s5, s6, s7⟩ := hS; unfold brA; go_simp⟩) hS0 ?_
        simp only [Act.put, List.setIfInBounds_toArray, List.set_cons_zero, List.set_cons_succ]
        refine wpAnyZ_take (i := 10) (v := .pointer (some ⟨w.heap.size, 3, none⟩)) rfl (by kernel_rfl) (by kernel_rfl) (by kernel_rfl) (by kernel_rfl) (fun _ _ _ h => h) (Or.inl ⟨by rfl, fun W hS => by go_simp⟩) hS0 ?_
        simp only [Act.put, List.setIfInBounds_toArray, List.set_cons_zero, List.set_cons_succ]
        refine wpAnyZ_take (i := 11) (v := .int .i64 (b.tt : Int)) rfl (by kernel_rfl) (by kernel_rfl) (by kernel_rfl) (by kernel_rfl) (fun _ _ _ h => h) (Or.inl ⟨by rfl, fun W hS => by obtain ⟨s0, s1, s2, s3, s4, s5, s6, s7⟩ := hS; go_simp⟩) hS0 ?_
        simp only [Act.put, List.setIfInBounds_toArray, List.set_cons_zero, List.set_cons_succ]
        refine wpAnyZ_take (i := 12) (v := .pointer (some ⟨p3, b.tt, none⟩)) rfl (by kernel_rfl) (by kernel_rfl) (by kernel_rfl) (by kernel_rfl) (fun _ _ _ h => h) (Or.inl ⟨by rfl, fun W hS => by go_simp; intro h9; omega⟩) hS0 ?_
        simp only [Act.put, List.setIfInBounds_toArray, List.set_cons_zero, List.set_cons_succ]
        refine wpAnyZ_take (i := 13) (v := .int .i64 (gi g b.tt)) rfl (by kernel_rfl) (by kernel_rfl) (by kernel_rfl) (by kernel_rfl) (fun _ _ _ h => h) (Or.inl ⟨by rfl, fun W hS => by obtain ⟨s0, s1, s2, s3, s4, s5, s6, s7⟩ := hS; go_simp⟩) hS0 ?_
        simp only [Act.put, List.setIfInBounds_toArray, List.set_cons_zero, List.set_cons_succ]
        refine wpAnyZ_one (i := 8) rfl (by kernel_rfl) rfl (fun K hK => ?_)
        go_simp
        refine (HTE.out _ (HSW.out.o.below (Below.refl _ _).drew) HMEM.out HO.out hi).mono ?_
        rintro e w4 ⟨rfl, hB4⟩
        have hb4 : Below w9.heap.size w9 w4 := (Below.refl _ w9).drew.trans hB4
        have HB4 := Lib.hid hb4
        have HS4 := Lib.hid (HS.out _ hb4)
        clear hB4 hb4 hS0
        generalize htm : o.term i b = tm at *
        have HTM := Lib.hid htm
        clear htm
        go_wp2_with fail
        refine hK _ _ (fun _ => HS4.out) ?_
        clear hK K
        refine wpAnyZ_one (i := 9) rfl (by kernel_rfl) rfl (fun K hK => ?_)
        go_simp
        refine hK _ _ (fun _ => HS4.out) ?_
        clear hK K
        refine wpAnyZ_one (i := 14) rfl (by kernel_rfl) rfl (fun K hK => ?_)
        go_simp
        refine hK _ _ (fun _ => HS4.out) ?_
        clear hK K
        refine wpAnyZ_one (i := 15) rfl (by kernel_rfl) rfl (fun K hK => ?_)
        go_simp
        refine hK _ _ (fun h => absurd rfl h) ?_
        clear hK K
        refine wpAnyZ_done (by kernel_rfl) ?_ _
        go_wp2
        go_ret
        refine ⟨ret_int ?_, HAL.out.trans (HB4.out.mono HAL.out.size)⟩
        rw [HTM.out]
  · have f1 : ((b.bt : Int) != (bit : Int)) = true := bne_t (by omega)
    rw [if_neg (fun h => e1 h.1)]
    clear e1
    go_enter Try.func50, Try.ntmps50
    go_wp2
    go_ret
    exact ⟨rfl, hal⟩
end Go.Proofs.Ytmdjclfmhndjnaa
