/-
  Contracts of greatest, of the closure of total over a bit, and of total. Condition: a valid observation that lies in memory, small metrics.
-/
import Derived.Test.YtmdjclfmhndjnaaBh
namespace Go.Proofs.Ytmdjclfmhndjnaa
open Go.RowKit
set_option linter.unusedVariables false
def gN (o : Ob) (i bit : Nat) (f g : List Int) (j : Nat) : Int := (brT.take j).foldl (fun best x => max best (o.vX i bit f g x)) UU
theorem gN_succ (o : Ob) (i bit : Nat) (f g : List Int) (j : Nat) (hj : j < 16) : gN o i bit f g (j + 1) = max (gN o i bit f g j) (o.vX i bit f g (brN j)) := by
  unfold gN; rw [br_take j hj, List.foldl_append]; rfl
theorem vX_bd {o : Ob} (h : o.ok) (i bit : Nat) (hi : i < o.s.length) {B : Int} {f g : List Int} (hf : Met B f) (hg : Met B g) (b : Br) (hb : b ∈ brT) : o.vX i bit f g b = UU ∨ (-(2 * B + 381) ≤ o.vX i bit f g b ∧ o.vX i bit f g b ≤ 2 * B + 381) := by
  unfold Ob.vX
  split
  · rename_i hc
    obtain ⟨b1, -, -, b4⟩ := br_bd b hb
    have h1 := (hf.bd _ b1).resolve_left hc.2.1
    have h2 := (hg.bd _ b4).resolve_left hc.2.2
    have h3 := o.term_bd h i hi b hb
    right; omega
  · exact .inl rfl
theorem gN_bd {o : Ob} (h : o.ok) (i bit : Nat) (hi : i < o.s.length) {B : Int} (h0 : 0 ≤ B) (hB : B ≤ 50000000) {f g : List Int} (hf : Met B f) (hg : Met B g) : ∀ j, j ≤ 16 → gN o i bit f g j = UU ∨ (-(2 * B + 381) ≤ gN o i bit f g j ∧ gN o i bit f g j ≤ 2 * B + 381)
  | 0, _ => .inl rfl
  | j + 1, hj => by
    rw [gN_succ o i bit f g j (by omega)]
    have h1 := gN_bd h i bit hi h0 hB hf hg j (by omega)
    have h2 := vX_bd h i bit hi hf hg (brN j) (brN_mem j (by omega))
    rw [UU_eq] at h1 h2 ⊢
    omega
def GrInv (o : Ob) (i bit : Nat) (f g : List Int) (w : World) (v kd : Value) (wr : World) : Prop := ∃ j : Nat, j ≤ 16 ∧ kd = .int .i64 j ∧ v = .int .i64 (gN o i bit f g j) ∧ Below w.heap.size w wr
set_option maxRecDepth 100000 in
set_option maxHeartbeats 1000000 in
theorem greatest_any (p1 p2 p3 p4 p5 bo bb bit : Nat) (o : Ob) (S P A : Option Addr) (cs cp ca i : Nat) (f g : List Int) (B : Int) (w : World) (hc : Cap w p1 p2 p3 p4 p5 bit i f g bo bb) (h : SwAt w bo bb o S P A cs cp ca) (ho : o.ok) (hi : i < o.s.length) (hf : Met B f) (hg : Met B g) (hB : B ≤ 50000000) (h0 : 0 ≤ B) :
    Calls Try.prog 49 #[.slice (some ⟨bb, 0, none⟩) 16 16, .func (.func 50) #[] #[.pointer (some ⟨p1, 0, none⟩), .pointer (some ⟨p2, 0, none⟩), .pointer (some ⟨p3, 0, none⟩), .pointer (some ⟨p4, 0, none⟩), .pointer (some ⟨p5, 0, none⟩)]] w fun e w' => e = .returned (.int .i64 (gN o i bit f g 16)) ∧ Below w.heap.size w w' := by
  have HC := Lib.hid hc
  have HSW := Lib.hid h
  have HIN := Lib.hid (fun b W hc h hb => inner_any p1 p2 p3 p4 p5 bo bb bit o S P A cs cp ca i f g b B W hc h ho hi hf hg hB h0 hb)
  clear hc h ho hf hg
  go_enter Try.func49, Try.ntmps49
  go_wp2
  go_loopw [5, 10] (fun v kd wr => GrInv o i bit f g w v kd wr) (fun _ kd _ => 16 - (intOf kd).toNat)
  case atStart => exact ⟨0, by omega, rfl, rfl, Below.refl _ _⟩
  case round =>
    obtain ⟨j, hj, rfl, rfl, hB1⟩ := hrel
    by_cases hlt : j < 16
    · have sw := HSW.out.below hB1
      have hix := fun W => ix60 bb 16 16 hlt .i64 W
      have hmem := brN_mem j hlt
      have hcl := br_cells sw.b j hlt
      have hb9 : Blk (wr.alloc (.cells (zer 4).toArray 77)) wr.heap.size 77 (zer 4) := Blk.new wr _ 77 rfl
      have HNX := Lib.hid (gN_succ o i bit f g j hlt)
      generalize gN o i bit f g j = nx at *
      generalize brN j = b at *
      have HSW' := Lib.hid sw
      have HB1 := Lib.hid hB1
      clear sw hB1
      go_wp2_with (first
        | (refine wpList_load_mid rfl 77 (.tmp 12) rfl bb (4 * j) rfl (brV b) _ hcl Try.underlying77 rfl (by rw [info77]; rfl) ?_)
        | (refine strow rfl 77 (.tmp 7) (.tmp 13) rfl rfl rfl hb9 rfl (by rw [info77]; rfl) (ints8_one _) ?_; intro W2 h1 h2; have h77 := h1; have H1 := Lib.hid h1; have H2 := Lib.hid h2; clear h1 h2 hb9 hcl)
        | (refine ldrow rfl 77 (.tmp 7) rfl rfl h77 _ Try.underlying77 rfl (by rw [info77]; rfl) ?_))
      have hB2 : Below wr.heap.size wr W2 := ((Below.refl _ wr).alloc (Nat.le_refl _) _).grown H2.out (by simp) (fun k hk => by cases hk; exact Nat.le_refl _)
      refine (HIN.out b _ ((HC.out.below HB1.out).below hB2) (HSW'.out.below hB2) hmem).mono ?_
      rintro e w3 ⟨rfl, hB3⟩
      have HB3 := Lib.hid (HB1.out.trans ((hB2.trans (hB3.mono hB2.size)).mono HB1.out.size))
      clear hB2 hB3 h77
      generalize o.vX i bit f g b = vx at *
      go_wp2
      go_roundw
      case rel => exact ⟨j + 1, by omega, by go_num, by rw [max_if, HNX.out], HB3.out⟩
      case measure => simp [intOf]; omega
    · obtain rfl : j = 16 := by omega
      go_wp2
      go_ret
      exact ⟨rfl, hB1⟩
set_option maxRecDepth 100000 in
theorem value_any (p2 p3 p4 p5 bo bb bit : Nat) (o : Ob) (S P A : Option Addr) (cs cp ca i : Nat) (f g : List Int) (B : Int) (w : World) (c2 : Blk w p2 66 (ints8 f)) (c3 : Blk w p3 66 (ints8 g)) (c4 : Blk w p4 62 [.pointer (some ⟨bo, 0, none⟩), .slice (some ⟨bb, 0, none⟩) 16 16]) (c5 : Blk w p5 3 [.int .i64 (i : Int)]) (h : SwAt w bo bb o S P A cs cp ca) (ho : o.ok) (hi : i < o.s.length) (hf : Met B f) (hg : Met B g) (hB : B ≤ 50000000) (h0 : 0 ≤ B) :
    Calls Try.prog 48 #[.int .i64 (bit : Int), .pointer (some ⟨p4, 0, none⟩), .pointer (some ⟨p2, 0, none⟩), .pointer (some ⟨p3, 0, none⟩), .pointer (some ⟨p5, 0, none⟩)] w fun e w' => e = .returned (.int .i64 (gN o i bit f g 16)) ∧ Below w.heap.size w w' := by
  have hb : Blk (w.alloc (.cells #[.int .i64 (bit : Int)] 3)) w.heap.size 3 [.int .i64 (bit : Int)] := Blk.new w [.int .i64 (bit : Int)] 3 rfl
  have hcap : Cap (w.alloc (.cells #[.int .i64 (bit : Int)] 3)) w.heap.size p2 p3 p4 p5 bit i f g bo bb := ⟨hb, c2.alloc _, c3.alloc _, c4.alloc _, c5.alloc _⟩
  have hk := hcap.c4.cell (j := 1) (v := .slice (some ⟨bb, 0, none⟩) 16 16) rfl
  have HG := Lib.hid (greatest_any w.heap.size p2 p3 p4 p5 bo bb bit o S P A cs cp ca i f g B _ hcap (h.alloc _) ho hi hf hg hB h0)
  clear hb hcap c2 c3 c4 c5 h ho hf hg
  go_enter Try.func48, Try.ntmps48
  go_wp2_with fail
  refine HG.out.mono ?_
  rintro e w1 ⟨rfl, hB1⟩
  go_wp2
  go_ret
  exact ⟨rfl, ((Below.refl _ w).alloc (Nat.le_refl _) _).trans (hB1.mono (by simp))⟩
set_option maxRecDepth 100000 in
theorem total_any (bo bb : Nat) (o : Ob) (S P A : Option Addr) (cs cp ca i : Nat) (f g : List Int) (B : Int) (w : World) (h : SwAt w bo bb o S P A cs cp ca) (ho : o.ok) (hi : i < o.s.length) (hf : Met B f) (hg : Met B g) (hB : B ≤ 50000000) (h0 : 0 ≤ B) :
    Calls Try.prog 32 #[swV bo bb, .int .i64 (i : Int), .agg (ints8 f).toArray, .agg (ints8 g).toArray] w fun e w' => e = .returned (.int .i64 ((gN o i 0 f g 16 - gN o i 1 f g 16).tdiv 2)) ∧ Below w.heap.size w w' := by
  obtain ⟨w4, hw4⟩ : ∃ w4, w4 = (((w.alloc (.cells #[.pointer (some ⟨bo, 0, none⟩), .slice (some ⟨bb, 0, none⟩) 16 16] 62)).alloc (.cells #[.int .i64 (i : Int)] 3)).alloc (.cells (ints8 f).toArray 66)).alloc (.cells (ints8 g).toArray 66) := ⟨_, rfl⟩
  have c4 : Blk w4 w.heap.size 62 [.pointer (some ⟨bo, 0, none⟩), .slice (some ⟨bb, 0, none⟩) 16 16] := by rw [hw4]; exact (((Blk.new w [.pointer (some ⟨bo, 0, none⟩), .slice (some ⟨bb, 0, none⟩) 16 16] 62 rfl).alloc _).alloc _).alloc _
  have c5 : Blk w4 (w.heap.size + 1) 3 [.int .i64 (i : Int)] := by rw [hw4]; exact ((Blk.new (w.alloc _) [.int .i64 (i : Int)] 3 (by simp)).alloc _).alloc _
  have c2 : Blk w4 (w.heap.size + 1 + 1) 66 (ints8 f) := by rw [hw4]; exact (Blk.new ((w.alloc _).alloc _) (ints8 f) 66 (by simp)).alloc _
  have c3 : Blk w4 (w.heap.size + 1 + 1 + 1) 66 (ints8 g) := by rw [hw4]; exact Blk.new (((w.alloc _).alloc _).alloc _) (ints8 g) 66 (by simp)
  have sw : SwAt w4 bo bb o S P A cs cp ca := by rw [hw4]; exact (((h.alloc _).alloc _).alloc _).alloc _
  have hBw : Below w.heap.size w w4 := by rw [hw4]; exact ((((Below.refl _ w).alloc (Nat.le_refl _) _).alloc (by simp) _).alloc (by simp; omega) _).alloc (by simp; omega) _
  have q0 := gN_bd ho i 0 hi h0 hB hf hg 16 (Nat.le_refl _)
  have q1 := gN_bd ho i 1 hi h0 hB hf hg 16 (Nat.le_refl _)
  rw [UU_eq] at q0 q1
  have HV := Lib.hid (fun (bit : Nat) W (hW : Below w4.heap.size w4 W) => value_any (w.heap.size + 1 + 1) (w.heap.size + 1 + 1 + 1) w.heap.size (w.heap.size + 1) bo bb bit o S P A cs cp ca i f g B W (c2.below hW) (c3.below hW) (c4.below hW) (c5.below hW) (sw.below hW) ho hi hf hg hB h0)
  have HBW := Lib.hid hBw
  have HW4 := Lib.hid hw4
  clear c2 c3 c4 c5 sw hBw hw4 h ho hf hg
  unfold swV
  go_enter Try.func32, Try.ntmps32
  go_wp2_with fail
  rw [← HW4.out]
  refine (HV.out 0 w4 (Below.refl _ _)).mono ?_
  rintro e w5 ⟨rfl, hB5⟩
  have HB5 := Lib.hid hB5
  clear hB5
  generalize hv0 : gN o i 0 f g 16 = v0 at *
  have HV0 := Lib.hid hv0
  clear hv0
  go_wp2_with fail
  refine (HV.out 1 w5 HB5.out).mono ?_
  rintro e w6 ⟨rfl, hB6⟩
  have HB6 := Lib.hid (HBW.out.trans ((HB5.out.trans (hB6.mono HB5.out.size)).mono HBW.out.size))
  clear hB6
  generalize hv1 : gN o i 1 f g 16 = v1 at *
  have HV1 := Lib.hid hv1
  clear hv1
  go_wp2
  go_ret
  exact ⟨ret_int (by rw [HV0.out, HV1.out]), HB6.out⟩
end Go.Proofs.Ytmdjclfmhndjnaa
