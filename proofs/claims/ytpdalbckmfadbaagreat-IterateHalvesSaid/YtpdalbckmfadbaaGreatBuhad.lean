/-
  Bundle of the texts Bg Bh Bi. Conditions: none.
-/
import Derived.Test.YtpdalbckmfadbaaGreatBuhac
import Derived.Deep.RegionHeld3
namespace Go.Proofs.YtpdalbckmfadbaaGreat
open Go.RowKit
set_option linter.unusedVariables false
def bN (o : Ob) (i : Nat) (m : List Int) (j : Nat) : List Int := (brT.take j).foldl (o.bB i m) noneL
theorem bN_succ (o : Ob) (i : Nat) (m : List Int) (j : Nat) (hj : j < 16) : bN o i m (j + 1) = o.bB i m (bN o i m j) (brN j) := by
  unfold bN; rw [br_take j hj, List.foldl_append]; rfl
theorem bN_met {o : Ob} (h : o.ok) (i : Nat) (hi : i < o.s.length) {B : Int} (hB : B ≤ 50000000) (h0 : 0 ≤ B) {m : List Int} (hm : Met B m) (j : Nat) : Met (B + 381) (bN o i m j) :=
  bwd_met h i hi hB h0 hm _ (fun b hb => List.mem_of_mem_take hb)
set_option maxRecDepth 100000 in
set_option maxHeartbeats 1000000 in
theorem backward_any (bo bb : Nat) (o : Ob) (S P A : Option Addr) (cs cp ca i : Nat) (m : List Int) (B : Int) (w : World) (h : SwAt w bo bb o S P A cs cp ca) (ho : o.ok) (hi : i < o.s.length) (hm : Met B m) (hB : B ≤ 50000000) (h0 : 0 ≤ B) :
    Calls Tryz.prog 137 #[swV bo bb, .int .i64 (i : Int), .agg (ints8 m).toArray] w fun e w' => e = .returned (.agg (ints8 (o.bwd i m)).toArray) ∧ Below w.heap.size w w' := by
  have HM := Lib.hid (fun j => bN_met ho i hi hB h0 hm j)
  have HO := Lib.hid ho
  have H := Lib.hid h
  have HMET := Lib.hid hm
  clear ho h hm
  unfold swV
  go_enter Tryz.func137, Tryz.ntmps137
  go_wp2_with fail
  refine (none_any _).mono ?_
  rintro e w1 ⟨rfl, hB1⟩
  have xs : Blk w1 w.heap.size 195 [.pointer (some ⟨bo, 0, none⟩), .slice (some ⟨bb, 0, none⟩) 16 16] := (((Blk.new w [.pointer (some ⟨bo, 0, none⟩), .slice (some ⟨bb, 0, none⟩) 16 16] 195 rfl).alloc _).alloc _).below hB1
  have xm : Blk w1 (w.heap.size + 1) 198 (ints8 m) := ((Blk.new (w.alloc _) (ints8 m) 198 (by simp)).alloc _).below hB1
  have xr : Blk w1 (w.heap.size + 1 + 1) 198 (ints8 (List.replicate 8 0)) := (Blk.new ((w.alloc _).alloc _) (ints8 (List.replicate 8 0)) 198 (by simp)).below hB1
  have sw : SwAt w1 bo bb o S P A cs cp ca := (((H.out.alloc _).alloc _).alloc _).below hB1
  have hlt : w.heap.size + 2 < w1.heap.size := by have := hB1.size; simp at this; omega
  have hBw : Below w.heap.size w w1 := ((((Below.refl _ w).alloc (Nat.le_refl _) _).alloc (by simp) _).alloc (by simp; omega) _).trans (hB1.mono (by simp; omega))
  have XS := Lib.hid xs
  have XM := Lib.hid xm
  have XR := Lib.hid xr
  have SW := Lib.hid sw
  have HBW := Lib.hid hBw
  have HLT := Lib.hid hlt
  have hb7 : Blk (w1.alloc (.cells (ints8 (List.replicate 8 0)).toArray 198)) w1.heap.size 198 (ints8 (List.replicate 8 0)) := Blk.new w1 _ 198 rfl
  clear xm xr sw hBw hB1 hlt H
  go_wp2_with (refine strow rfl 198 (.tmp 7) (.tmp 10) rfl rfl rfl hb7 rfl (i66 rfl) (ints8_one _) ?_; intro W' h1 h2; have hc0 := h1.icell (j := 0) (by decide); have hf0 := h1.frozen 0; have k1 := (((xs.alloc _).grown h2 (Nat.ne_of_lt xs.lt)).other (Nat.ne_of_gt xs.lt) 0 (.int .i64 (-1125899906842624))).cell (j := 1) rfl; have H1 := Lib.hid h1; have H2 := Lib.hid h2; clear h1 h2 hb7)
  clear xs
  go_loopw [15] (fun kd wr => StInv w1 (bN o i m) kd wr) (fun kd _ => 16 - (intOf kd).toNat)
  case atStart =>
    refine ⟨0, by omega, rfl, ?_, ?_⟩
    · exact H1.out.set 0 (.int .i64 UU)
    · exact (((Below.refl _ w1).alloc (Nat.le_refl _) _).grown H2.out (by simp) (fun k hk => by cases hk; exact Nat.le_refl _)).setCell (Nat.le_refl _) _
  case round =>
    obtain ⟨j, hj, rfl, hb, hB⟩ := hrel
    clear hc0 hf0 k1
    by_cases hlt : j < 16
    · have xs := XS.out.below hB
      have xm := XM.out.below hB
      have sw := SW.out.below hB
      have hix := fun W => ix60 bb 16 16 hlt .i64 W
      have hmem := brN_mem j hlt
      have hcl := br_cells sw.b j hlt
      have hb9 : Blk (wr.alloc (.cells (zer 4).toArray 161)) wr.heap.size 161 (zer 4) := Blk.new wr _ 161 rfl
      have HNX := Lib.hid (bN_succ o i m j hlt)
      have hmt := HM.out j
      generalize bN o i m j = nx at *
      generalize brN j = b at *
      have XS' := Lib.hid xs
      have XM' := Lib.hid xm
      have SW' := Lib.hid sw
      have HBK := Lib.hid hb
      have HBB := Lib.hid hB
      have HMT := Lib.hid hmt
      clear xm sw hb hB hmt
      go_wp2_with (first
        | (refine wpList_load_mid rfl 161 (.tmp 17) rfl bb (4 * j) rfl (brV b) _ hcl Tryz.underlying161 rfl (by rw [info77]; rfl) ?_)
        | (refine strow rfl 161 (.tmp 9) (.tmp 18) rfl rfl rfl hb9 rfl (by rw [info77]; rfl) (ints8_one _) ?_; intro W2 h1 h2; have k0 := ((xs.alloc _).grown h2 (Nat.ne_of_lt xs.lt)).cell (j := 0) rfl; have h77 := h1; have H1 := Lib.hid h1; have H2 := Lib.hid h2; clear h1 h2 hb9 hcl)
        | (refine ldrow rfl 161 (.tmp 9) rfl rfl h77 _ Tryz.underlying161 rfl (by rw [info77]; rfl) ?_))
      have hB2 : Below wr.heap.size wr W2 := ((Below.refl _ wr).alloc (Nat.le_refl _) _).grown H2.out (by simp) (fun k hk => by cases hk; exact Nat.le_refl _)
      refine (allows_any bo o S P A cs cp ca i b _ (SW'.out.below hB2).o hmem).mono ?_
      rintro e w3 ⟨rfl, hB3⟩
      have hB23 : Below wr.heap.size wr w3 := hB2.trans (hB3.mono hB2.size)
      have hb9 : Blk w3 wr.heap.size 161 (brV b) := H1.out.below hB3
      have s0 := hb9.cell (j := 0) (v := .int .i64 (b.fr : Int)) rfl
      have s1 := hb9.cell (j := 1) (v := .int .i64 (b.bt : Int)) rfl
      have s2 := hb9.cell (j := 2) (v := .int .i64 (b.pr : Int)) rfl
      have s3 := hb9.cell (j := 3) (v := .int .i64 (b.tt : Int)) rfl
      obtain ⟨b1, -, -, b4⟩ := br_bd b hmem
      have s4 := (XM'.out.below hB23).icell (j := b.tt) (by have := HMET.out.len; omega)
      have s5 := (HBK.out.below hB23).icell (j := b.fr) (by have := HMT.out.len; omega)
      have s6 := (XS'.out.below hB23).cell (j := 0) (v := .pointer (some ⟨bo, 0, none⟩)) rfl
      have HB23 := Lib.hid hB23
      have HB9 := Lib.hid hb9
      clear hB2 hB3 hB23 k0 h77 hb9 xs
      have HFB := Lib.hid (show o.bB i m nx b = if o.allow i b = true ∧ UU < gi m b.tt then nx.set b.fr (max (gi nx b.fr) (gi m b.tt + o.term i b)) else nx from rfl)
      cases hal : o.allow i b with
      | false =>
        have HFN : Hid (o.bB i m nx b = nx) := Lib.hid (by rw [HFB.out, hal, if_neg (by simp)])
        clear hal
        go_wp2
        go_roundw
        case rel => exact ⟨j + 1, by omega, by go_num, by rw [HNX.out, HFN.out]; exact HBK.out.below HB23.out, HBB.out.trans (HB23.out.mono HBB.out.size)⟩
        case measure => simp [intOf]; omega
      | true =>
        by_cases hu : -1125899906842624 < gi m b.tt
        · have HFN : Hid (o.bB i m nx b = nx.set b.fr (max (gi nx b.fr) (gi m b.tt + o.term i b))) := Lib.hid (by rw [HFB.out, hal, if_pos ⟨rfl, by rw [UU_eq]; exact hu⟩])
          clear hal
          go_wp2_with fail
          have hS0 : FwS wr.heap.size (w.heap.size + 1) w1.heap.size w.heap.size bo b.fr b.bt b.pr b.tt b.tt b.fr (gi m b.tt) (gi nx b.fr) w3.drew := ⟨s0, s1, s2, s3, s4, s5, s6⟩
          have hmf := HMET.out.bd b.tt b4
          have hmf : -B ≤ gi m b.tt ∧ gi m b.tt ≤ B := hmf.resolve_left (by rw [UU_eq]; omega)
          have hnf := HMT.out.bd b.fr b1
          rw [UU_eq] at hnf
          have HBD := Lib.hid (o.term_bd HO.out i hi b hmem)
          have HTE := Lib.hid (term_any bo o S P A cs cp ca i b)
          clear s0 s1 s2 s3 s4 s5 s6
          refine wp_region_Z (FwS wr.heap.size (w.heap.size + 1) w1.heap.size w.heap.size bo b.fr b.bt b.pr b.tt b.tt b.fr (gi m b.tt) (gi nx b.fr)) 18 (by kernel_rfl) ?_
          refine wpAnyZ_take (i := 0) (v := .pointer (some ⟨wr.heap.size, 0, none⟩)) rfl (by kernel_rfl) (by kernel_rfl) (by kernel_rfl) (by kernel_rfl) (fun _ _ _ h => h) (Or.inl ⟨by rfl, fun W hS => by go_simp⟩) hS0 ?_
          simp only [Act.put, List.setIfInBounds_toArray, List.set_cons_zero, List.set_cons_succ]
          refine wpAnyZ_take (i := 1) (v := .int .i64 (b.fr : Int)) rfl (by kernel_rfl) (by kernel_rfl) (by kernel_rfl) (by kernel_rfl) (fun _ _ _ h => h) (Or.inl ⟨by rfl, fun W hS => by obtain ⟨s0, s1, s2, s3, s4, s5, s6⟩ := hS; go_simp⟩) hS0 ?_
          simp only [Act.put, List.setIfInBounds_toArray, List.set_cons_zero, List.set_cons_succ]
          refine wpAnyZ_take (i := 2) (v := .pointer (some ⟨wr.heap.size, 0, none⟩)) rfl (by kernel_rfl) (by kernel_rfl) (by kernel_rfl) (by kernel_rfl) (fun _ _ _ h => h) (Or.inl ⟨by rfl, fun W hS => by go_simp⟩) hS0 ?_
          simp only [Act.put, List.setIfInBounds_toArray, List.set_cons_zero, List.set_cons_succ]
          refine wpAnyZ_take (i := 3) (v := .int .i64 (b.fr : Int)) rfl (by kernel_rfl) (by kernel_rfl) (by kernel_rfl) (by kernel_rfl) (fun _ _ _ h => h) (Or.inl ⟨by rfl, fun W hS => by obtain ⟨s0, s1, s2, s3, s4, s5, s6⟩ := hS; go_simp⟩) hS0 ?_
          simp only [Act.put, List.setIfInBounds_toArray, List.set_cons_zero, List.set_cons_succ]
          refine wpAnyZ_take (i := 4) (v := .pointer (some ⟨w1.heap.size, b.fr, none⟩)) rfl (by kernel_rfl) (by kernel_rfl) (by kernel_rfl) (by kernel_rfl) (fun _ _ _ h => h) (Or.inl ⟨by rfl, fun W hS => by go_simp; intro h9; omega⟩) hS0 ?_
          simp only [Act.put, List.setIfInBounds_toArray, List.set_cons_zero, List.set_cons_succ]
          refine wpAnyZ_take (i := 5) (v := .int .i64 (gi nx b.fr)) rfl (by kernel_rfl) (by kernel_rfl) (by kernel_rfl) (by kernel_rfl) (fun _ _ _ h => h) (Or.inl ⟨by rfl, fun W hS => by obtain ⟨s0, s1, s2, s3, s4, s5, s6⟩ := hS; go_simp⟩) hS0 ?_
          simp only [Act.put, List.setIfInBounds_toArray, List.set_cons_zero, List.set_cons_succ]
          refine wpAnyZ_take (i := 6) (v := .pointer (some ⟨wr.heap.size, 3, none⟩)) rfl (by kernel_rfl) (by kernel_rfl) (by kernel_rfl) (by kernel_rfl) (fun _ _ _ h => h) (Or.inl ⟨by rfl, fun W hS => by go_simp⟩) hS0 ?_
          simp only [Act.put, List.setIfInBounds_toArray, List.set_cons_zero, List.set_cons_succ]
          refine wpAnyZ_take (i := 7) (v := .int .i64 (b.tt : Int)) rfl (by kernel_rfl) (by kernel_rfl) (by kernel_rfl) (by kernel_rfl) (fun _ _ _ h => h) (Or.inl ⟨by rfl, fun W hS => by obtain ⟨s0, s1, s2, s3, s4, s5, s6⟩ := hS; go_simp⟩) hS0 ?_
          simp only [Act.put, List.setIfInBounds_toArray, List.set_cons_zero, List.set_cons_succ]
          refine wpAnyZ_take (i := 8) (v := .pointer (some ⟨w.heap.size + 1, b.tt, none⟩)) rfl (by kernel_rfl) (by kernel_rfl) (by kernel_rfl) (by kernel_rfl) (fun _ _ _ h => h) (Or.inl ⟨by rfl, fun W hS => by go_simp; intro h9; omega⟩) hS0 ?_
          simp only [Act.put, List.setIfInBounds_toArray, List.set_cons_zero, List.set_cons_succ]
          refine wpAnyZ_take (i := 9) (v := .int .i64 (gi m b.tt)) rfl (by kernel_rfl) (by kernel_rfl) (by kernel_rfl) (by kernel_rfl) (fun _ _ _ h => h) (Or.inl ⟨by rfl, fun W hS => by obtain ⟨s0, s1, s2, s3, s4, s5, s6⟩ := hS; go_simp⟩) hS0 ?_
          simp only [Act.put, List.setIfInBounds_toArray, List.set_cons_zero, List.set_cons_succ]
          refine wpAnyZ_take (i := 10) (v := .pointer (some ⟨w.heap.size, 0, none⟩)) rfl (by kernel_rfl) (by kernel_rfl) (by kernel_rfl) (by kernel_rfl) (fun _ _ _ h => h) (Or.inl ⟨by rfl, fun W hS => by go_simp⟩) hS0 ?_
          simp only [Act.put, List.setIfInBounds_toArray, List.set_cons_zero, List.set_cons_succ]
          refine wpAnyZ_take (i := 11) (v := .pointer (some ⟨bo, 0, none⟩)) rfl (by kernel_rfl) (by kernel_rfl) (by kernel_rfl) (by kernel_rfl) (fun _ _ _ h => h) (Or.inl ⟨by rfl, fun W hS => by obtain ⟨s0, s1, s2, s3, s4, s5, s6⟩ := hS; go_simp⟩) hS0 ?_
          simp only [Act.put, List.setIfInBounds_toArray, List.set_cons_zero, List.set_cons_succ]
          refine wpAnyZ_take (i := 12) (v := .int .i64 (i : Int)) rfl (by kernel_rfl) (by kernel_rfl) (by kernel_rfl) (by kernel_rfl) (fun _ _ _ h => h) (Or.inl ⟨by rfl, fun W hS => by go_simp⟩) hS0 ?_
          simp only [Act.put, List.setIfInBounds_toArray, List.set_cons_zero, List.set_cons_succ]
          refine wpAnyZ_take (i := 13) (v := brA b) rfl (by kernel_rfl) (by kernel_rfl) (by kernel_rfl) (by kernel_rfl) (fun _ _ _ h => h) (Or.inl ⟨by rfl, fun W hS => by obtain ⟨s0, s1, s2, s3, s4, s5, s6⟩ := hS; unfold brA; go_simp⟩) hS0 ?_
          simp only [Act.put, List.setIfInBounds_toArray, List.set_cons_zero, List.set_cons_succ]
          refine wpAnyZ_one (i := 14) rfl (by kernel_rfl) rfl (fun K hK => ?_)
          go_simp
          refine (HTE.out _ ((SW'.out.below HB23.out).o.below (Below.refl _ w3).drew) hmem HO.out hi).mono ?_
          rintro e w4 ⟨rfl, hB4⟩
          have hBD := HBD.out
          have hB34 : Below w3.heap.size w3 w4 := (Below.refl _ w3).drew.trans hB4
          have hb9 := HB9.out.below hB34
          have hb7 := (HBK.out.below HB23.out).below hB34
          have hs4 : FwS wr.heap.size (w.heap.size + 1) w1.heap.size w.heap.size bo b.fr b.bt b.pr b.tt b.tt b.fr (gi m b.tt) (gi nx b.fr) w4 :=
            ⟨hb9.cell rfl, hb9.cell rfl, hb9.cell rfl, hb9.cell rfl, ((XM'.out.below HB23.out).below hB34).icell (by have := HMET.out.len; omega), hb7.icell (by have := HMT.out.len; omega), ((XS'.out.below HB23.out).below hB34).cell rfl⟩
          have ht7 := hs4.2.2.2.2.2.1
          have hf7 := hb7.frozen b.fr
          have HB34 := Lib.hid hB34
          have HS4 := Lib.hid hs4
          have HS7 := Lib.hid (hb7.set b.fr (.int .i64 (max (gi nx b.fr) (gi m b.tt + o.term i b))))
          clear hB4 hB34 hb9 hb7 hs4 hS0
          generalize o.term i b = tm at *
          have hws : IntKind.i64.wrap (gi m b.tt + tm) = gi m b.tt + tm := IntWalk.i64_in _ (by omega)
          go_wp2_with fail
          refine hK _ _ (fun _ => HS4.out) ?_
          clear hK K
          refine wpAnyZ_one (i := 15) rfl (by kernel_rfl) rfl (fun K hK => ?_)
          go_simp
          refine hK _ _ (fun _ => HS4.out) ?_
          clear hK K
          refine wpAnyZ_one (i := 16) rfl (by kernel_rfl) rfl (fun K hK => ?_)
          go_simp
          rw [max_if]
          refine hK _ _ (fun _ => HS4.out) ?_
          clear hK K
          refine wpAnyZ_take (i := 17) (v := .pointer (some ⟨w1.heap.size, b.fr, none⟩)) rfl (by kernel_rfl) (by kernel_rfl) (by kernel_rfl) (by kernel_rfl) (fun _ _ _ h => h) (Or.inl ⟨by rfl, fun W hS => by go_simp; intro h9; omega⟩) HS4.out ?_
          simp only [Act.put, List.setIfInBounds_toArray, List.set_cons_zero, List.set_cons_succ]
          refine wpAnyZ_one (i := 18) rfl (by kernel_rfl) rfl (fun K hK => ?_)
          go_simp
          refine hK _ _ (fun h => absurd rfl h) ?_
          clear hK K
          refine wpAnyZ_done (by kernel_rfl) ?_ _
          clear ht7 hf7 hws
          go_wp2
          go_roundw
          case rel => exact ⟨j + 1, by omega, by go_num, by rw [HNX.out, HFN.out, ints8_set]; exact HS7.out, (HBB.out.trans ((HB23.out.mono HBB.out.size).trans (HB34.out.mono (Nat.le_trans HBB.out.size HB23.out.size)))).setCell (Nat.le_refl _) _⟩
          case measure => simp [intOf]; omega
        · have HFN : Hid (o.bB i m nx b = nx) := Lib.hid (by rw [HFB.out, hal, if_neg (by rw [UU_eq]; simp; omega)])
          clear hal
          go_wp2
          go_roundw
          case rel => exact ⟨j + 1, by omega, by go_num, by rw [HNX.out, HFN.out]; exact HBK.out.below HB23.out, HBB.out.trans (HB23.out.mono HBB.out.size)⟩
          case measure => simp [intOf]; omega
    · obtain rfl : j = 16 := by omega
      have xr := XR.out.below hB
      have hne : w.heap.size + 1 + 1 ≠ w1.heap.size := by have := HLT.out; omega
      have hml := (HM.out 16).len
      have HBB := Lib.hid hB
      have HEQ : Hid (bN o i m 16 = o.bwd i m) := Lib.hid rfl
      clear hB
      go_wp2_with (first
        | (refine ldrow rfl 198 (.tmp 7) rfl rfl hb _ Tryz.underlying198 rfl (i66 hml) ?_)
        | (refine strow rfl 198 (.tmp 6) (.tmp 50) rfl rfl rfl xr (by simp [ints8, hml]) (i66 hml) (ints8_one _) ?_; intro W2 h1 h2; have H1 := Lib.hid h1; have H2 := Lib.hid h2; clear h1 h2 hb xr))
      have hfin : Below w.heap.size w W2 := (HBW.out.trans (HBB.out.mono HBW.out.size)).grown H2.out (Nat.le_trans HBW.out.size HBB.out.size) (fun k hk => by cases hk; omega)
      have h1 := H1.out
      rw [HEQ.out] at h1 hml
      refine bodyPost_ret (v := .agg (ints8 (o.bwd i m)).toArray) ?_ rfl ⟨rfl, hfin⟩
      rw [results_c rfl]
      have l1 := res66 h1 hml
      simp [Act.put, asAddr, l1, Sem.run_pure]
end Go.Proofs.YtpdalbckmfadbaaGreat

namespace Go.Proofs.YtpdalbckmfadbaaGreat
open Go.RowKit
set_option linter.unusedVariables false
/-- what a branch adds to the choice of a bit's value -/
def Ob.vX (o : Ob) (i bit : Nat) (f g : List Int) (x : Br) : Int := if x.bt = bit ∧ gi f x.fr ≠ UU ∧ gi g x.tt ≠ UU then gi f x.fr + o.term i x + gi g x.tt else UU
/-- what a closure of total has captured -/
structure Cap (W : World) (p1 p2 p3 p4 p5 : Nat) (bit i : Nat) (f g : List Int) (bo bb : Nat) : Prop where
  c1 : Blk W p1 3 [.int .i64 (bit : Int)]
  c2 : Blk W p2 198 (ints8 f)
  c3 : Blk W p3 198 (ints8 g)
  c4 : Blk W p4 195 [.pointer (some ⟨bo, 0, none⟩), .slice (some ⟨bb, 0, none⟩) 16 16]
  c5 : Blk W p5 3 [.int .i64 (i : Int)]
theorem Cap.below {W W' : World} {p1 p2 p3 p4 p5 : Nat} {bit i : Nat} {f g : List Int} {bo bb : Nat} (h : Cap W p1 p2 p3 p4 p5 bit i f g bo bb) (hB : Below W.heap.size W W') : Cap W' p1 p2 p3 p4 p5 bit i f g bo bb := ⟨h.c1.below hB, h.c2.below hB, h.c3.below hB, h.c4.below hB, h.c5.below hB⟩
def InS (b9 p2 p3 p4 p5 bo : Nat) (fr bt pr tt i : Nat) (vf vg : Int) (W : World) : Prop :=
  W.cell? ⟨b9, 0, none⟩ = some (.int .i64 (fr : Int)) ∧ W.cell? ⟨b9, 1, none⟩ = some (.int .i64 (bt : Int)) ∧ W.cell? ⟨b9, 2, none⟩ = some (.int .i64 (pr : Int)) ∧ W.cell? ⟨b9, 3, none⟩ = some (.int .i64 (tt : Int)) ∧
    W.cell? ⟨p2, fr, none⟩ = some (.int .i64 vf) ∧ W.cell? ⟨p3, tt, none⟩ = some (.int .i64 vg) ∧ W.cell? ⟨p4, 0, none⟩ = some (.pointer (some ⟨bo, 0, none⟩)) ∧ W.cell? ⟨p5, 0, none⟩ = some (.int .i64 (i : Int))
set_option maxRecDepth 100000 in
set_option maxHeartbeats 1000000 in
theorem inner_any (p1 p2 p3 p4 p5 bo bb bit : Nat) (o : Ob) (S P A : Option Addr) (cs cp ca i : Nat) (f g : List Int) (b : Br) (B : Int) (w : World) (hc : Cap w p1 p2 p3 p4 p5 bit i f g bo bb) (h : SwAt w bo bb o S P A cs cp ca) (ho : o.ok) (hi : i < o.s.length) (hf : Met B f) (hg : Met B g) (hB : B ≤ 50000000) (h0 : 0 ≤ B) (hb : b ∈ brT) :
    Calls Tryz.prog 167 #[brA b, .pointer (some ⟨p1, 0, none⟩), .pointer (some ⟨p2, 0, none⟩), .pointer (some ⟨p3, 0, none⟩), .pointer (some ⟨p4, 0, none⟩), .pointer (some ⟨p5, 0, none⟩)] w fun e w' => e = .returned (.int .i64 (o.vX i bit f g b)) ∧ Below w.heap.size w w' := by
  obtain ⟨b1, b2, b3, b4⟩ := br_bd b hb
  have hal : Below w.heap.size w (w.alloc (.cells (brV b).toArray 161)) := (Below.refl _ w).alloc (Nat.le_refl _) _
  have h' := hc.below hal
  have hb9 : Blk (w.alloc (.cells (brV b).toArray 161)) w.heap.size 161 (brV b) := Blk.new w (brV b) 161 rfl
  have x0 := hb9.cell (j := 0) (v := .int .i64 (b.fr : Int)) rfl
  have x1 := hb9.cell (j := 1) (v := .int .i64 (b.bt : Int)) rfl
  have x2 := hb9.cell (j := 2) (v := .int .i64 (b.pr : Int)) rfl
  have x3 := hb9.cell (j := 3) (v := .int .i64 (b.tt : Int)) rfl
  have x4 := h'.c2.icell (j := b.fr) (by have := hf.len; omega)
  have x5 := h'.c3.icell (j := b.tt) (by have := hg.len; omega)
  have x6 := h'.c4.cell (j := 0) (v := .pointer (some ⟨bo, 0, none⟩)) rfl
  have x7 := h'.c5.cell (j := 0) (v := .int .i64 (i : Int)) rfl
  have x8 := h'.c1.cell (j := 0) (v := .int .i64 (bit : Int)) rfl
  have HS : Hid (∀ W : World, Below (w.alloc (.cells (brV b).toArray 161)).heap.size (w.alloc (.cells (brV b).toArray 161)) W → InS w.heap.size p2 p3 p4 p5 bo b.fr b.bt b.pr b.tt i (gi f b.fr) (gi g b.tt) W) := Lib.hid fun W hW =>
    have h9 := hb9.below hW
    have hc := h'.below hW
    ⟨h9.cell rfl, h9.cell rfl, h9.cell rfl, h9.cell rfl, hc.c2.icell (by have := hf.len; omega), hc.c3.icell (by have := hg.len; omega), hc.c4.cell rfl, hc.c5.cell rfl⟩
  have HAL := Lib.hid hal
  have HSW := Lib.hid (h.below hal)
  have hbd := ho
  have HBD := Lib.hid (o.term_bd ho i hi b hb)
  clear hbd
  unfold Ob.vX
  have HH := Lib.hid h
  have HO := Lib.hid ho
  have hfb := hf.bd b.fr b1
  have hgb := hg.bd b.tt b4
  rw [UU_eq] at hfb hgb
  have HMEM := Lib.hid hb
  have hbb : (brV b).toArray = #[.int .i64 (b.fr : Int), .int .i64 (b.bt : Int), .int .i64 (b.pr : Int), .int .i64 (b.tt : Int)] := rfl
  rw [hbb] at x0 x1 x2 x3 x4 x5 x6 x7 x8 hal
  clear h' hb9 hc h ho hf hg hb hbb
  unfold brA
  by_cases e1 : b.bt = bit
  · have f1 : ((b.bt : Int) != (bit : Int)) = false := bne_f (by omega)
    by_cases e2 : gi f b.fr = UU
    · have f2 : (gi f b.fr == -1125899906842624) = true := beq_t (by rw [e2, UU_eq])
      rw [if_neg (fun h => h.2.1 e2)]
      clear e1 e2
      go_enter Tryz.func167, Tryz.ntmps167
      go_wp2
      go_ret
      exact ⟨rfl, hal⟩
    · have f2 : (gi f b.fr == -1125899906842624) = false := beq_f (by rw [← UU_eq]; exact e2)
      by_cases e3 : gi g b.tt = UU
      · have f3 : (gi g b.tt == -1125899906842624) = true := beq_t (by rw [e3, UU_eq])
        rw [if_neg (fun h => h.2.2 e3)]
        clear e1 e2 e3
        go_enter Tryz.func167, Tryz.ntmps167
        go_wp2
        go_ret
        exact ⟨rfl, hal⟩
      · have f3 : (gi g b.tt == -1125899906842624) = false := beq_f (by rw [← UU_eq]; exact e3)
        rw [if_pos ⟨e1, e2, e3⟩]
        rw [UU_eq] at e2 e3
        have hfb := hfb.resolve_left e2
        have hgb := hgb.resolve_left e3
        clear e1 e2 e3
        have hbd := HBD.out
        have hw1 : IntKind.i64.wrap (gi f b.fr + o.term i b) = gi f b.fr + o.term i b := IntWalk.i64_in _ (by omega)
        have hw2 : IntKind.i64.wrap (gi f b.fr + o.term i b + gi g b.tt) = gi f b.fr + o.term i b + gi g b.tt := IntWalk.i64_in _ (by omega)
        have HTE := Lib.hid (term_any bo o S P A cs cp ca i b)
        have i1 : (b.fr : Int) < 8 := by omega
        have i2 : (b.tt : Int) < 8 := by omega
        have i3 : (0 : Int) ≤ (b.fr : Int) := by omega
        have i4 : (0 : Int) ≤ (b.tt : Int) := by omega
        clear hbd hal
        go_enter Tryz.func167, Tryz.ntmps167
        go_wp2_with fail
        clear x0 x1 x2 x3 x4 x5 x6 x7 x8
        obtain ⟨w9, hw9⟩ : ∃ w9, w9 = w.alloc (.cells #[.int .i64 (b.fr : Int), .int .i64 (b.bt : Int), .int .i64 (b.pr : Int), .int .i64 (b.tt : Int)] 161) := ⟨_, rfl⟩
        rw [← hw9]
        have HS : Hid (∀ W : World, Below w9.heap.size w9 W → InS w.heap.size p2 p3 p4 p5 bo b.fr b.bt b.pr b.tt i (gi f b.fr) (gi g b.tt) W) := by rw [hw9]; exact HS
        have HAL : Hid (Below w.heap.size w w9) := by rw [hw9]; exact HAL
        have HSW : Hid (SwAt w9 bo bb o S P A cs cp ca) := by rw [hw9]; exact HSW
        clear hw9
        have hS0 := HS.out w9.drew (Below.refl _ _).drew
        clear i1 i2 i3 i4
        refine wp_region_Z (InS w.heap.size p2 p3 p4 p5 bo b.fr b.bt b.pr b.tt i (gi f b.fr) (gi g b.tt)) 15 (by kernel_rfl) ?_
        refine wpAnyZ_take (i := 0) (v := .pointer (some ⟨w.heap.size, 0, none⟩)) rfl (by kernel_rfl) (by kernel_rfl) (by kernel_rfl) (by kernel_rfl) (fun _ _ _ h => h) (Or.inl ⟨by rfl, fun W hS => by go_simp⟩) hS0 ?_
        simp only [Act.put, List.setIfInBounds_toArray, List.set_cons_zero, List.set_cons_succ]
        refine wpAnyZ_take (i := 1) (v := .int .i64 (b.fr : Int)) rfl (by kernel_rfl) (by kernel_rfl) (by kernel_rfl) (by kernel_rfl) (fun _ _ _ h => h) (Or.inl ⟨by rfl, fun W hS => by obtain ⟨s0, s1, s2, s3, s4, s5, s6, s7⟩ := hS; go_simp⟩) hS0 ?_
        simp only [Act.put, List.setIfInBounds_toArray, List.set_cons_zero, List.set_cons_succ]
        refine wpAnyZ_take (i := 2) (v := .pointer (some ⟨p2, b.fr, none⟩)) rfl (by kernel_rfl) (by kernel_rfl) (by kernel_rfl) (by kernel_rfl) (fun _ _ _ h => h) (Or.inl ⟨by rfl, fun W hS => by go_simp; intro h9; omega⟩) hS0 ?_
        simp only [Act.put, List.setIfInBounds_toArray, List.set_cons_zero, List.set_cons_succ]
        refine wpAnyZ_take (i := 3) (v := .int .i64 (gi f b.fr)) rfl (by kernel_rfl) (by kernel_rfl) (by kernel_rfl) (by kernel_rfl) (fun _ _ _ h => h) (Or.inl ⟨by rfl, fun W hS => by obtain ⟨s0, s1, s2, s3, s4, s5, s6, s7⟩ := hS; go_simp⟩) hS0 ?_
        simp only [Act.put, List.setIfInBounds_toArray, List.set_cons_zero, List.set_cons_succ]
        refine wpAnyZ_take (i := 4) (v := .pointer (some ⟨p4, 0, none⟩)) rfl (by kernel_rfl) (by kernel_rfl) (by kernel_rfl) (by kernel_rfl) (fun _ _ _ h => h) (Or.inl ⟨by rfl, fun W hS => by go_simp⟩) hS0 ?_
        simp only [Act.put, List.setIfInBounds_toArray, List.set_cons_zero, List.set_cons_succ]
        refine wpAnyZ_take (i := 5) (v := .pointer (some ⟨bo, 0, none⟩)) rfl (by kernel_rfl) (by kernel_rfl) (by kernel_rfl) (by kernel_rfl) (fun _ _ _ h => h) (Or.inl ⟨by rfl, fun W hS => by obtain ⟨s0, s1, s2, s3, s4, s5, s6, s7⟩ := hS; go_simp⟩) hS0 ?_
        simp only [Act.put, List.setIfInBounds_toArray, List.set_cons_zero, List.set_cons_succ]
        refine wpAnyZ_take (i := 6) (v := .int .i64 (i : Int)) rfl (by kernel_rfl) (by kernel_rfl) (by kernel_rfl) (by kernel_rfl) (fun _ _ _ h => h) (Or.inl ⟨by rfl, fun W hS => by obtain ⟨s0, s1, s2, s3, s4, s5, s6, s7⟩ := hS; go_simp⟩) hS0 ?_
        simp only [Act.put, List.setIfInBounds_toArray, List.set_cons_zero, List.set_cons_succ]
        refine wpAnyZ_take (i := 7) (v := brA b) rfl (by kernel_rfl) (by kernel_rfl) (by kernel_rfl) (by kernel_rfl) (fun _ _ _ h => h) (Or.inl ⟨by rfl, fun W hS => by obtain ⟨s0, s1, s2, s3, s4, s5, s6, s7⟩ := hS; unfold brA; go_simp⟩) hS0 ?_
        simp only [Act.put, List.setIfInBounds_toArray, List.set_cons_zero, List.set_cons_succ]
        refine wpAnyZ_take (i := 10) (v := .pointer (some ⟨w.heap.size, 3, none⟩)) rfl (by kernel_rfl) (by kernel_rfl) (by kernel_rfl) (by kernel_rfl) (fun _ _ _ h => h) (Or.inl ⟨by rfl, fun W hS => by go_simp⟩) hS0 ?_
        simp only [Act.put, List.setIfInBounds_toArray, List.set_cons_zero, List.set_cons_succ]
        refine wpAnyZ_take (i := 11) (v := .int .i64 (b.tt : Int)) rfl (by kernel_rfl) (by kernel_rfl) (by kernel_rfl) (by kernel_rfl) (fun _ _ _ h => h) (Or.inl ⟨by rfl, fun W hS => by obtain ⟨s0, s1, s2, s3, s4, s5, s6, s7⟩ := hS; go_simp⟩) hS0 ?_
        simp only [Act.put, List.setIfInBounds_toArray, List.set_cons_zero, List.set_cons_succ]
        refine wpAnyZ_take (i := 12) (v := .pointer (some ⟨p3, b.tt, none⟩)) rfl (by kernel_rfl) (by kernel_rfl) (by kernel_rfl) (by kernel_rfl) (fun _ _ _ h => h) (Or.inl ⟨by rfl, fun W hS => by go_simp; intro h9; omega⟩) hS0 ?_
        simp only [Act.put, List.setIfInBounds_toArray, List.set_cons_zero, List.set_cons_succ]
        refine wpAnyZ_take (i := 13) (v := .int .i64 (gi g b.tt)) rfl (by kernel_rfl) (by kernel_rfl) (by kernel_rfl) (by kernel_rfl) (fun _ _ _ h => h) (Or.inl ⟨by rfl, fun W hS => by obtain ⟨s0, s1, s2, s3, s4, s5, s6, s7⟩ := hS; go_simp⟩) hS0 ?_
        simp only [Act.put, List.setIfInBounds_toArray, List.set_cons_zero, List.set_cons_succ]
        refine wpAnyZ_one (i := 8) rfl (by kernel_rfl) rfl (fun K hK => ?_)
        go_simp
        refine (HTE.out _ (HSW.out.o.below (Below.refl _ _).drew) HMEM.out HO.out hi).mono ?_
        rintro e w4 ⟨rfl, hB4⟩
        have hb4 : Below w9.heap.size w9 w4 := (Below.refl _ w9).drew.trans hB4
        have HB4 := Lib.hid hb4
        have HS4 := Lib.hid (HS.out _ hb4)
        clear hB4 hb4 hS0
        generalize htm : o.term i b = tm at *
        have HTM := Lib.hid htm
        clear htm
        go_wp2_with fail
        refine hK _ _ (fun _ => HS4.out) ?_
        clear hK K
        refine wpAnyZ_one (i := 9) rfl (by kernel_rfl) rfl (fun K hK => ?_)
        go_simp
        refine hK _ _ (fun _ => HS4.out) ?_
        clear hK K
        refine wpAnyZ_one (i := 14) rfl (by kernel_rfl) rfl (fun K hK => ?_)
        go_simp
        refine hK _ _ (fun _ => HS4.out) ?_
        clear hK K
        refine wpAnyZ_one (i := 15) rfl (by kernel_rfl) rfl (fun K hK => ?_)
        go_simp
        refine hK _ _ (fun h => absurd rfl h) ?_
        clear hK K
        refine wpAnyZ_done (by kernel_rfl) ?_ _
        go_wp2
        go_ret
        refine ⟨ret_int ?_, HAL.out.trans (HB4.out.mono HAL.out.size)⟩
        rw [HTM.out]
  · have f1 : ((b.bt : Int) != (bit : Int)) = true := bne_t (by omega)
    rw [if_neg (fun h => e1 h.1)]
    clear e1
    go_enter Tryz.func167, Tryz.ntmps167
    go_wp2
    go_ret
    exact ⟨rfl, hal⟩
end Go.Proofs.YtpdalbckmfadbaaGreat

namespace Go.Proofs.YtpdalbckmfadbaaGreat
open Go.RowKit
set_option linter.unusedVariables false
def gN (o : Ob) (i bit : Nat) (f g : List Int) (j : Nat) : Int := (brT.take j).foldl (fun best x => max best (o.vX i bit f g x)) UU
theorem gN_succ (o : Ob) (i bit : Nat) (f g : List Int) (j : Nat) (hj : j < 16) : gN o i bit f g (j + 1) = max (gN o i bit f g j) (o.vX i bit f g (brN j)) := by
  unfold gN; rw [br_take j hj, List.foldl_append]; rfl
theorem vX_bd {o : Ob} (h : o.ok) (i bit : Nat) (hi : i < o.s.length) {B : Int} {f g : List Int} (hf : Met B f) (hg : Met B g) (b : Br) (hb : b ∈ brT) : o.vX i bit f g b = UU ∨ (-(2 * B + 381) ≤ o.vX i bit f g b ∧ o.vX i bit f g b ≤ 2 * B + 381) := by
  unfold Ob.vX
  split
  · rename_i hc
    obtain ⟨b1, -, -, b4⟩ := br_bd b hb
    have h1 := (hf.bd _ b1).resolve_left hc.2.1
    have h2 := (hg.bd _ b4).resolve_left hc.2.2
    have h3 := o.term_bd h i hi b hb
    right; omega
  · exact .inl rfl
theorem gN_bd {o : Ob} (h : o.ok) (i bit : Nat) (hi : i < o.s.length) {B : Int} (h0 : 0 ≤ B) (hB : B ≤ 50000000) {f g : List Int} (hf : Met B f) (hg : Met B g) : ∀ j, j ≤ 16 → gN o i bit f g j = UU ∨ (-(2 * B + 381) ≤ gN o i bit f g j ∧ gN o i bit f g j ≤ 2 * B + 381)
  | 0, _ => .inl rfl
  | j + 1, hj => by
    rw [gN_succ o i bit f g j (by omega)]
    have h1 := gN_bd h i bit hi h0 hB hf hg j (by omega)
    have h2 := vX_bd h i bit hi hf hg (brN j) (brN_mem j (by omega))
    rw [UU_eq] at h1 h2 ⊢
    omega
def GrInv (o : Ob) (i bit : Nat) (f g : List Int) (w : World) (v kd : Value) (wr : World) : Prop := ∃ j : Nat, j ≤ 16 ∧ kd = .int .i64 j ∧ v = .int .i64 (gN o i bit f g j) ∧ Below w.heap.size w wr
set_option maxRecDepth 100000 in
set_option maxHeartbeats 1000000 in
theorem greatest_any (p1 p2 p3 p4 p5 bo bb bit : Nat) (o : Ob) (S P A : Option Addr) (cs cp ca i : Nat) (f g : List Int) (B : Int) (w : World) (hc : Cap w p1 p2 p3 p4 p5 bit i f g bo bb) (h : SwAt w bo bb o S P A cs cp ca) (ho : o.ok) (hi : i < o.s.length) (hf : Met B f) (hg : Met B g) (hB : B ≤ 50000000) (h0 : 0 ≤ B) :
    Calls Tryz.prog 166 #[.slice (some ⟨bb, 0, none⟩) 16 16, .func (.func 167) #[] #[.pointer (some ⟨p1, 0, none⟩), .pointer (some ⟨p2, 0, none⟩), .pointer (some ⟨p3, 0, none⟩), .pointer (some ⟨p4, 0, none⟩), .pointer (some ⟨p5, 0, none⟩)]] w fun e w' => e = .returned (.int .i64 (gN o i bit f g 16)) ∧ Below w.heap.size w w' := by
  have HC := Lib.hid hc
  have HSW := Lib.hid h
  have HIN := Lib.hid (fun b W hc h hb => inner_any p1 p2 p3 p4 p5 bo bb bit o S P A cs cp ca i f g b B W hc h ho hi hf hg hB h0 hb)
  clear hc h ho hf hg
  go_enter Tryz.func166, Tryz.ntmps166
  go_wp2
  go_loopw [5, 10] (fun v kd wr => GrInv o i bit f g w v kd wr) (fun _ kd _ => 16 - (intOf kd).toNat)
  case atStart => exact ⟨0, by omega, rfl, rfl, Below.refl _ _⟩
  case round =>
    obtain ⟨j, hj, rfl, rfl, hB1⟩ := hrel
    by_cases hlt : j < 16
    · have sw := HSW.out.below hB1
      have hix := fun W => ix60 bb 16 16 hlt .i64 W
      have hmem := brN_mem j hlt
      have hcl := br_cells sw.b j hlt
      have hb9 : Blk (wr.alloc (.cells (zer 4).toArray 161)) wr.heap.size 161 (zer 4) := Blk.new wr _ 161 rfl
      have HNX := Lib.hid (gN_succ o i bit f g j hlt)
      generalize gN o i bit f g j = nx at *
      generalize brN j = b at *
      have HSW' := Lib.hid sw
      have HB1 := Lib.hid hB1
      clear sw hB1
      go_wp2_with (first
        | (refine wpList_load_mid rfl 161 (.tmp 12) rfl bb (4 * j) rfl (brV b) _ hcl Tryz.underlying161 rfl (by rw [info77]; rfl) ?_)
        | (refine strow rfl 161 (.tmp 7) (.tmp 13) rfl rfl rfl hb9 rfl (by rw [info77]; rfl) (ints8_one _) ?_; intro W2 h1 h2; have h77 := h1; have H1 := Lib.hid h1; have H2 := Lib.hid h2; clear h1 h2 hb9 hcl)
        | (refine ldrow rfl 161 (.tmp 7) rfl rfl h77 _ Tryz.underlying161 rfl (by rw [info77]; rfl) ?_))
      have hB2 : Below wr.heap.size wr W2 := ((Below.refl _ wr).alloc (Nat.le_refl _) _).grown H2.out (by simp) (fun k hk => by cases hk; exact Nat.le_refl _)
      refine (HIN.out b _ ((HC.out.below HB1.out).below hB2) (HSW'.out.below hB2) hmem).mono ?_
      rintro e w3 ⟨rfl, hB3⟩
      have HB3 := Lib.hid (HB1.out.trans ((hB2.trans (hB3.mono hB2.size)).mono HB1.out.size))
      clear hB2 hB3 h77
      generalize o.vX i bit f g b = vx at *
      go_wp2
      go_roundw
      case rel => exact ⟨j + 1, by omega, by go_num, by rw [max_if, HNX.out], HB3.out⟩
      case measure => simp [intOf]; omega
    · obtain rfl : j = 16 := by omega
      go_wp2
      go_ret
      exact ⟨rfl, hB1⟩
set_option maxRecDepth 100000 in
theorem value_any (p2 p3 p4 p5 bo bb bit : Nat) (o : Ob) (S P A : Option Addr) (cs cp ca i : Nat) (f g : List Int) (B : Int) (w : World) (c2 : Blk w p2 198 (ints8 f)) (c3 : Blk w p3 198 (ints8 g)) (c4 : Blk w p4 195 [.pointer (some ⟨bo, 0, none⟩), .slice (some ⟨bb, 0, none⟩) 16 16]) (c5 : Blk w p5 3 [.int .i64 (i : Int)]) (h : SwAt w bo bb o S P A cs cp ca) (ho : o.ok) (hi : i < o.s.length) (hf : Met B f) (hg : Met B g) (hB : B ≤ 50000000) (h0 : 0 ≤ B) :
    Calls Tryz.prog 165 #[.int .i64 (bit : Int), .pointer (some ⟨p4, 0, none⟩), .pointer (some ⟨p2, 0, none⟩), .pointer (some ⟨p3, 0, none⟩), .pointer (some ⟨p5, 0, none⟩)] w fun e w' => e = .returned (.int .i64 (gN o i bit f g 16)) ∧ Below w.heap.size w w' := by
  have hb : Blk (w.alloc (.cells #[.int .i64 (bit : Int)] 3)) w.heap.size 3 [.int .i64 (bit : Int)] := Blk.new w [.int .i64 (bit : Int)] 3 rfl
  have hcap : Cap (w.alloc (.cells #[.int .i64 (bit : Int)] 3)) w.heap.size p2 p3 p4 p5 bit i f g bo bb := ⟨hb, c2.alloc _, c3.alloc _, c4.alloc _, c5.alloc _⟩
  have hk := hcap.c4.cell (j := 1) (v := .slice (some ⟨bb, 0, none⟩) 16 16) rfl
  have HG := Lib.hid (greatest_any w.heap.size p2 p3 p4 p5 bo bb bit o S P A cs cp ca i f g B _ hcap (h.alloc _) ho hi hf hg hB h0)
  clear hb hcap c2 c3 c4 c5 h ho hf hg
  go_enter Tryz.func165, Tryz.ntmps165
  go_wp2_with fail
  refine HG.out.mono ?_
  rintro e w1 ⟨rfl, hB1⟩
  go_wp2
  go_ret
  exact ⟨rfl, ((Below.refl _ w).alloc (Nat.le_refl _) _).trans (hB1.mono (by simp))⟩
set_option maxRecDepth 100000 in
theorem total_any (bo bb : Nat) (o : Ob) (S P A : Option Addr) (cs cp ca i : Nat) (f g : List Int) (B : Int) (w : World) (h : SwAt w bo bb o S P A cs cp ca) (ho : o.ok) (hi : i < o.s.length) (hf : Met B f) (hg : Met B g) (hB : B ≤ 50000000) (h0 : 0 ≤ B) :
    Calls Tryz.prog 136 #[swV bo bb, .int .i64 (i : Int), .agg (ints8 f).toArray, .agg (ints8 g).toArray] w fun e w' => e = .returned (.int .i64 ((gN o i 0 f g 16 - gN o i 1 f g 16).tdiv 2)) ∧ Below w.heap.size w w' := by
  obtain ⟨w4, hw4⟩ : ∃ w4, w4 = (((w.alloc (.cells #[.pointer (some ⟨bo, 0, none⟩), .slice (some ⟨bb, 0, none⟩) 16 16] 195)).alloc (.cells #[.int .i64 (i : Int)] 3)).alloc (.cells (ints8 f).toArray 198)).alloc (.cells (ints8 g).toArray 198) := ⟨_, rfl⟩
  have c4 : Blk w4 w.heap.size 195 [.pointer (some ⟨bo, 0, none⟩), .slice (some ⟨bb, 0, none⟩) 16 16] := by rw [hw4]; exact (((Blk.new w [.pointer (some ⟨bo, 0, none⟩), .slice (some ⟨bb, 0, none⟩) 16 16] 195 rfl).alloc _).alloc _).alloc _
  have c5 : Blk w4 (w.heap.size + 1) 3 [.int .i64 (i : Int)] := by rw [hw4]; exact ((Blk.new (w.alloc _) [.int .i64 (i : Int)] 3 (by simp)).alloc _).alloc _
  have c2 : Blk w4 (w.heap.size + 1 + 1) 198 (ints8 f) := by rw [hw4]; exact (Blk.new ((w.alloc _).alloc _) (ints8 f) 198 (by simp)).alloc _
  have c3 : Blk w4 (w.heap.size + 1 + 1 + 1) 198 (ints8 g) := by rw [hw4]; exact Blk.new (((w.alloc _).alloc _).alloc _) (ints8 g) 198 (by simp)
  have sw : SwAt w4 bo bb o S P A cs cp ca := by rw [hw4]; exact (((h.alloc _).alloc _).alloc _).alloc _
  have hBw : Below w.heap.size w w4 := by rw [hw4]; exact ((((Below.refl _ w).alloc (Nat.le_refl _) _).alloc (by simp) _).alloc (by simp; omega) _).alloc (by simp; omega) _
  have q0 := gN_bd ho i 0 hi h0 hB hf hg 16 (Nat.le_refl _)
  have q1 := gN_bd ho i 1 hi h0 hB hf hg 16 (Nat.le_refl _)
  rw [UU_eq] at q0 q1
  have HV := Lib.hid (fun (bit : Nat) W (hW : Below w4.heap.size w4 W) => value_any (w.heap.size + 1 + 1) (w.heap.size + 1 + 1 + 1) w.heap.size (w.heap.size + 1) bo bb bit o S P A cs cp ca i f g B W (c2.below hW) (c3.below hW) (c4.below hW) (c5.below hW) (sw.below hW) ho hi hf hg hB h0)
  have HBW := Lib.hid hBw
  have HW4 := Lib.hid hw4
  clear c2 c3 c4 c5 sw hBw hw4 h ho hf hg
  unfold swV
  go_enter Tryz.func136, Tryz.ntmps136
  go_wp2_with fail
  rw [← HW4.out]
  refine (HV.out 0 w4 (Below.refl _ _)).mono ?_
  rintro e w5 ⟨rfl, hB5⟩
  have HB5 := Lib.hid hB5
  clear hB5
  generalize hv0 : gN o i 0 f g 16 = v0 at *
  have HV0 := Lib.hid hv0
  clear hv0
  go_wp2_with fail
  refine (HV.out 1 w5 HB5.out).mono ?_
  rintro e w6 ⟨rfl, hB6⟩
  have HB6 := Lib.hid (HBW.out.trans ((HB5.out.trans (hB6.mono HB5.out.size)).mono HBW.out.size))
  clear hB6
  generalize hv1 : gN o i 1 f g 16 = v1 at *
  have HV1 := Lib.hid hv1
  clear hv1
  go_wp2
  go_ret
  exact ⟨ret_int (by rw [HV0.out, HV1.out]), HB6.out⟩
end Go.Proofs.YtpdalbckmfadbaaGreat

