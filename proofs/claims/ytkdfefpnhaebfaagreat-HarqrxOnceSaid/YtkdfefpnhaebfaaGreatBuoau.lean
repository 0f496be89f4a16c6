/- Bundle. Conditions: none. -/
import Derived.Test.YtkdfefpnhaebfaaGreatBuoat
import Derived.Test.YtkdfefpnhaebfaaGreatBuoab
import Derived.Deep.RegionHeld3
set_option linter.unusedVariables false
set_option linter.unusedSimpArgs false
namespace Go.Proofs.YtkdfefpnhaebfaaGreat.Cr
open Go.RowKit Go.Shelf
attribute [local go_sem] Oper.semAt_some
set_option maxRecDepth 100000
set_option maxHeartbeats 1000000
theorem values_any (A : Option Addr) (n c : Nat) (w : World) :
 Calls Tryz.prog 154 #[.slice A n c] w fun e w' => e = .returned (.func (.func 201) #[] #[.pointer (some ⟨w.heap.size, 0, none⟩)]) ∧ w.alloc (.cells #[.slice A n c] 28) = w' := by
 go_enter Tryz.func154, Tryz.ntmps154
 go_wp2
 go_ret
 exact ⟨rfl, rfl⟩
def uptoL (xs : List Int) (k : Nat) : List Int := xs.take k
theorem uptoL_succ (xs : List Int) (k : Nat) (h : k < xs.length) : uptoL xs (k + 1) = uptoL xs k ++ [gi xs k] := by
 unfold uptoL; rw [List.take_succ_eq_append_getElem h, gi_eq xs k h]
def V1Inv (n : Nat) (xs : List Int) (n₀ : Nat) (W : World) (J : List Int → World → Prop) (i : Value) (wr : World) : Prop := ∃ k : Nat, k ≤ n ∧ i = .int .i64 k ∧ J (uptoL xs k) wr ∧ Below n₀ W wr
def V1Post (xs : List Int) (J Jx : List Int → World → Prop) (e : Ending) (W' : World) : Prop :=
 (∃ v, e = .returned v) ∧ ((∃ ys, ys = xs ∧ J ys W') ∨ (∃ pre, (∃ k, k ≤ xs.length ∧ pre = uptoL xs k) ∧ Jx pre W'))
theorem values1_in (F : Fence) (m : Nat) (hF : F.fn 201) (hro : F.round = none) (hm : 1 ≤ m) (l Bs n₀ : Nat) (A : Option Addr) (n c : Nat) (xs : List Int) (w0 : World) (hR : Rd .u8 w0 A n c xs) (h0n : w0.heap.size = n₀) (J Jx : List Int → World → Prop)
 (hY : ∀ pre x W, J pre W → pre.length < n → YieldAt F (m - 1) Tryz.prog l #[.int .u8 x] W fun e W' =>
   (e = .returned (.bool true) ∧ J (pre ++ [x]) W' ∧ Below n₀ W W') ∨ (e = .returned (.bool false) ∧ Jx (pre ++ [x]) W'))
 (W : World) (hW : Below n₀ w0 W) (hBs : W.cell? ⟨Bs, 0, none⟩ = some (.slice A n c)) (h0 : J [] W) :
 CallsIn F m Tryz.prog 201 #[.func (.yield l) #[] #[], .pointer (some ⟨Bs, 0, none⟩)] W (V1Post xs J Jx) := by
 have hxl := hR.len
 have hbd := hR.bd.1
 have HXL := Lib.hid hxl; clear hxl
 have HR := Lib.hid hR
 refine callsIn_of_wp Tryz.func201 rfl hF ?_ hro
 simp only [Tryz.ntmps201, List.size_toArray, List.length_cons, List.length_nil, Nat.reduceAdd, Nat.reduceSub, Array.replicate_succ, Array.replicate_zero, List.push_toArray, List.append_toArray, List.nil_append, List.cons_append]
 gi_wp2
 gi_loopw [7] (fun i wr => V1Inv n xs n₀ W J i wr) (fun i _ => n - (intOf i).toNat)
 case atStart => exact ⟨0, Nat.zero_le _, rfl, h0, Below.refl _ _⟩
 case round =>
  obtain ⟨k, hk, rfl, hJs, hnx⟩ := hrel
  by_cases hlt : k < n
  · have hRr : Rd .u8 wr A n c xs := Rdv.below HR.out (by rw [h0n]; exact hW.trans hnx)
    have hc := Rd.cell hRr hlt
    have hix := fun W => Rdv.ix hRr el53 hlt .i64 W
    obtain ⟨fn, tmps, assign, body, hy, hRd⟩ := hY _ (gi xs k) wr hJs (by unfold uptoL; rw [List.length_take, HXL.out]; omega)
    gi_wp2
    refine hRd.mono ?_
    rintro e W3 (⟨rfl, hJ3, hk3⟩ | ⟨rfl, hJx3⟩)
    · gi_wp2
      go_roundw
      case rel => exact ⟨k + 1, by omega, by simp, by rw [uptoL_succ _ _ (by rw [HXL.out]; exact hlt)]; exact hJ3, hnx.trans hk3⟩
      case measure => simp [intOf]; omega
    · gi_wp2
      refine bodyPost_ret (results_none rfl _ _ _) rfl ?_
      exact ⟨⟨_, rfl⟩, .inr ⟨_, ⟨k + 1, by rw [HXL.out]; omega, (uptoL_succ _ _ (by rw [HXL.out]; exact hlt)).symm⟩, hJx3⟩⟩
  · obtain rfl : k = n := by omega
    gi_wp2
    go_end0
    exact ⟨⟨_, rfl⟩, .inl ⟨_, by unfold uptoL; exact List.take_of_length_le (Nat.le_of_eq HXL.out), hJs⟩⟩
theorem values_stops (F : Fence) (m : Nat) (hF : F.fn 201) (hro : F.round = none) (hm : 1 ≤ m) (Bs n₀ : Nat) (A : Option Addr) (n c : Nat) (xs : List Int) (w0 w : World) (hR : Rd .u8 w0 A n c xs) (h0n : w0.heap.size = n₀) (hW0 : Below n₀ w0 w)
 (hBs : Bs < w.heap.size) (hc : w.cell? ⟨Bs, 0, none⟩ = some (.slice A n c)) :
 SeqStopsK F m Tryz.prog 201 #[.pointer (some ⟨Bs, 0, none⟩)] (fun x : Int => #[Value.int .u8 x]) (Below n₀) (fun ys => ys = xs) (fun pre => ∃ k, k ≤ xs.length ∧ pre = uptoL xs k) n w := fun l J Jx W hW _ _ hY h0 =>
 values1_in F m hF hro hm l Bs n₀ A n c xs w0 hR h0n J Jx hY W (hW0.trans (hW.mono (by have := hW0.size; omega))) ((hW.cell (p := ⟨Bs, 0, none⟩) hBs).trans hc) h0
/-! ### divide -/
def crcStep (L : Nat) (p : Int) (reg b : Int) : Int :=
 bits .xor .u32 (bits .and .u32 (reg * 2 % 4294967296) ((2 ^ L % 4294967296 - 1) % 4294967296)) (bits .xor .u32 (bits .and .u32 (reg / 2 ^ (L - 1)) 1) (b % 4294967296) * p % 4294967296)
def crcFold (L : Nat) (p : Int) (xs : List Int) : Int := xs.foldl (crcStep L p) 0
theorem crcFold_snoc (L : Nat) (p : Int) (xs : List Int) (x : Int) : crcFold L p (xs ++ [x]) = crcStep L p (crcFold L p xs) x := by simp [crcFold]
theorem divide_any (L : Nat) (p : Int) (Bs : Nat) (A : Option Addr) (n c : Nat) (xs : List Int) (w : World) (hR : Rd .u8 w A n c xs) (hBs : Bs < w.heap.size) (hc : w.cell? ⟨Bs, 0, none⟩ = some (.slice A n c)) (hL : 8 ≤ L) (hL2 : L ≤ 24) :
 Calls Tryz.prog 153 #[.agg #[.int .i64 (L : Int), .int .u32 p], .func (.func 201) #[] #[.pointer (some ⟨Bs, 0, none⟩)]] w fun e w' => e = .returned (.int .u32 (crcFold L p xs)) ∧ Below w.heap.size w w' := by
 refine (callsIn_wide (n := 3)).1 ?_
 refine callsIn_of_wp_marks Tryz.func153 rfl trivial ?_
 simp only [Tryz.ntmps153, List.size_toArray, List.length_cons, List.length_nil, Nat.reduceAdd, Nat.reduceSub, Array.replicate_succ, Array.replicate_zero, List.push_toArray, List.append_toArray, List.nil_append, List.cons_append]
 gi_wp2
 have cS0 : ((w.alloc (Obj.cells #[.int .i64 L, .int .u32 p] 210)).alloc (Obj.cells #[.int .u32 0] 22)).cell? ⟨w.heap.size, 0, none⟩ = some (.int .i64 L) := by simp [go_sem]
 have cS1 : ((w.alloc (Obj.cells #[.int .i64 L, .int .u32 p] 210)).alloc (Obj.cells #[.int .u32 0] 22)).cell? ⟨w.heap.size, 1, none⟩ = some (.int .u32 p) := by simp [go_sem]
 have cR : ((w.alloc (Obj.cells #[.int .i64 L, .int .u32 p] 210)).alloc (Obj.cells #[.int .u32 0] 22)).cell? ⟨w.heap.size + 1, 0, none⟩ = some (.int .u32 0) ∧ ((w.alloc (Obj.cells #[.int .i64 L, .int .u32 p] 210)).alloc (Obj.cells #[.int .u32 0] 22)).frozen? ⟨w.heap.size + 1, 0, none⟩ = false := by simp [go_sem]
 have hB0 : Below w.heap.size w ((w.alloc (Obj.cells #[.int .i64 L, .int .u32 p] 210)).alloc (Obj.cells #[.int .u32 0] 22)) := ((Below.refl _ w).alloc (Nat.le_refl _) _).alloc (by simp) _
 have hc2 := (hB0.cell (p := ⟨Bs, 0, none⟩) hBs).trans hc
 generalize hw2 : (w.alloc (Obj.cells #[.int .i64 L, .int .u32 p] 210)).alloc (Obj.cells #[.int .u32 0] 22) = w2 at *
 have hsz : w2.heap.size = w.heap.size + 2 := by rw [← hw2]; simp
 refine wpIn_rangeFunc_ownF rfl (by omega) (gf := 201) (lb := #[.pointer (some ⟨Bs, 0, none⟩)]) rfl trivial (enters_of Tryz.func201 (by kernel_rfl) rfl)
  (values_stops Fence.wide 2 trivial rfl (by omega) Bs w.heap.size A n c xs w w2 hR rfl hB0 (by omega) hc2) belowK_t (belowK_b (by omega)) (Below.refl _ _) (fun _ => rfl)
  (fun pre W => (W.cell? ⟨w.heap.size, 0, none⟩ = some (.int .i64 L) ∧ W.cell? ⟨w.heap.size, 1, none⟩ = some (.int .u32 p) ∧ W.cell? ⟨w.heap.size + 1, 0, none⟩ = some (.int .u32 (crcFold L p pre)) ∧ W.frozen? ⟨w.heap.size + 1, 0, none⟩ = false) ∧ Below w.heap.size w W)
  (fun _ _ _ => False)
  (OwnFrom.and (Own.from (fun s A B row hs hg hr => ⟨cell_kept hs.1 hg hr, cell_kept hs.2.1 hg hr, cell_kept hs.2.2.1 hg hr, (frozen_kept hs.2.2.1 hg hr).trans hs.2.2.2⟩) _) (ownFrom_below (Nat.le_refl _) (by omega)))
  (fun _ _ _ _ _ hs _ _ => hs)
  ⟨⟨cS0, cS1, cR.1, cR.2⟩, hB0⟩
  (fun x => { tmps := #[.agg #[.int .i64 L, .int .u32 p], .func (.func 201) #[] #[.pointer (some ⟨Bs, 0, none⟩)], .pointer (some ⟨w.heap.size, 0, none⟩), undef, .int .u32 0, .pointer (some ⟨w.heap.size + 1, 0, none⟩), .int .u8 x, undef, .func (.func 201) #[] #[.pointer (some ⟨Bs, 0, none⟩)], .int .u8 x,
    undef, undef, undef, undef, undef, undef, undef, undef, undef, undef, undef, undef, undef, undef, undef, undef, undef, undef, undef, undef, undef, undef], defers := [] }) ?assign ?body ?done ?stop
 case assign =>
  intro l x W K hK
  gi_wp2
  exact hK
 case body =>
  rintro l pre x W ⟨⟨h1, h2, h3, h4⟩, hB⟩ _
  gi_wp2
  refine regIn_still_tail 12 (by kernel_rfl) (by kernel_rfl) (by kernel_rfl) (fun ⟨_, _, h⟩ => h) ?_
  simp only [List.take_succ_cons, List.take_zero, List.drop_succ_cons, List.drop_zero]
  repeat still_step
  try refine wpStill_nil ?_
  simp only [World.drew_eq]
  go_wp2
  have hset := World.cell?_setCell_same' W ⟨w.heap.size + 1, 0, none⟩ (.int .u32 (crcFold L p (pre ++ [x]))) (by rw [h3]; rfl)
  have hs0 := (World.cell?_setCell_other W ⟨w.heap.size + 1, 0, none⟩ ⟨w.heap.size, 0, none⟩ (.int .u32 (crcFold L p (pre ++ [x]))) (by simp)).trans h1
  have hs1 := (World.cell?_setCell_other W ⟨w.heap.size + 1, 0, none⟩ ⟨w.heap.size, 1, none⟩ (.int .u32 (crcFold L p (pre ++ [x]))) (by simp)).trans h2
  have hsf : (W.setCell ⟨w.heap.size + 1, 0, none⟩ (.int .u32 (crcFold L p (pre ++ [x])))).frozen? ⟨w.heap.size + 1, 0, none⟩ = false := by rw [World.frozen?_setCell]; exact h4
  rw [crcFold_snoc] at hset hs0 hs1 hsf
  exact ⟨(KeepsOthers.setCell _ _ _).trans (KeepsOthers.drew _), ((Below.refl w.heap.size W).setCell (p := ⟨w.heap.size + 1, 0, none⟩) (Nat.le_succ _) _).drew, ⟨hs0, hs1, by rw [crcFold_snoc]; exact hset, hsf⟩, (hB.setCell (p := ⟨w.heap.size + 1, 0, none⟩) (Nat.le_succ _) _).drew⟩
 case done =>
  rintro D ys W hD rfl ⟨⟨h1, h2, h3, h4⟩, hB⟩ hK
  gi_wp2
  refine ⟨by simp, .inl ⟨_, _, rfl, run_takeDeferred hK, ?_⟩⟩
  exact ⟨_, results_tmp rfl _ _ _, rfl, hB.trans (belowK_b (w := w) (Nat.le_refl _) W D _ _ (by omega) hK rfl rfl)⟩
 case stop =>
  rintro D c pre W _ _ h _
  exact h.elim
end Go.Proofs.YtkdfefpnhaebfaaGreat.Cr
namespace Go.Proofs.YtkdfefpnhaebfaaGreat.Cr
open Go.RowKit
set_option maxRecDepth 100000
set_option maxHeartbeats 400000
def sLen (k : Int) : Nat := if k = 1 then 24 else if k = 2 then 24 else if k = 3 then 16 else if k = 4 then 8 else 0
def sPoly (k : Int) : Int := if k = 1 then 0x864cfb else if k = 2 then 0x800063 else if k = 3 then 0x1021 else if k = 4 then 0x9b else 0
theorem sLen_cases (k : Int) : sLen k = 0 ∨ 8 ≤ sLen k ∧ sLen k ≤ 24 := by unfold sLen; repeat (split <;> try omega)
theorem of_lit (k : Int) (w : World) (h : k = 0 ∨ k = 1 ∨ k = 2 ∨ k = 3 ∨ k = 4) :
 Calls Tryz.prog 150 #[.int .i64 k] w fun e w' => e = .returned (.agg #[.int .i64 (sLen k : Int), .int .u32 (sPoly k)]) ∧ Below w.heap.size w w' := by
 rcases h with rfl | rfl | rfl | rfl | rfl
 all_goals
  go_enter Tryz.func150, Tryz.ntmps150
  go_wp2
  refine bodyPost_ret (v := .agg #[_, _]) (by simp [results, Tryz.results150, go_sem]; exact ⟨rfl, rfl⟩) rfl ⟨rfl, ?_⟩
  exact (((Below.refl _ _).alloc (Nat.le_refl _) _).alloc (by simp) _)
theorem of_out (k : Int) (w : World) (h : k < 0 ∨ 5 ≤ k) :
 Calls Tryz.prog 150 #[.int .i64 k] w fun e w' => e = .returned (.agg #[.int .i64 (sLen k : Int), .int .u32 (sPoly k)]) ∧ Below w.heap.size w w' := by
 have e1 : sLen k = 0 := by unfold sLen; repeat (first | rw [if_neg (by omega)] | rfl)
 have e2 : sPoly k = 0 := by unfold sPoly; repeat (first | rw [if_neg (by omega)] | rfl)
 rw [e1, e2]
 clear e1 e2
 rcases h with h | h
 · go_enter Tryz.func150, Tryz.ntmps150
   go_wp2
   refine bodyPost_ret (v := .agg #[_, _]) (by simp [results, Tryz.results150, go_sem]) rfl ⟨rfl, ?_⟩
   exact (((Below.refl _ _).alloc (Nat.le_refl _) _).alloc (by simp) _)
 · have h0 : decide (k < 0) = false := by simp; omega
   go_enter Tryz.func150, Tryz.ntmps150
   go_wp2
   refine bodyPost_ret (v := .agg #[_, _]) (by simp [results, Tryz.results150, go_sem]) rfl ⟨rfl, ?_⟩
   exact (((Below.refl _ _).alloc (Nat.le_refl _) _).alloc (by simp) _)
theorem of_any (k : Int) (w : World) :
 Calls Tryz.prog 150 #[.int .i64 k] w fun e w' => e = .returned (.agg #[.int .i64 (sLen k : Int), .int .u32 (sPoly k)]) ∧ Below w.heap.size w w' := by
 by_cases h : k < 0 ∨ 5 ≤ k
 · exact of_out k w h
 · exact of_lit k w (by omega)
theorem len_any (k : Int) (w : World) : Calls Tryz.prog 183 #[.int .i64 k] w fun e w' => e = .returned (.int .i64 (sLen k : Int)) ∧ Below w.heap.size w w' := by
 have h1 := Lib.hid (of_any k w)
 generalize sLen k = L at *
 generalize sPoly k = p at *
 have hfld : ∀ W, (Instr.field 210 (.agg #[.int .i64 (L : Int), .int .u32 p]) 0).run Tryz.prog W = .ok (.int .i64 (L : Int)) W := fun _ => by kernel_rfl
 go_enter Tryz.func183, Tryz.ntmps183
 go_wp2_with fail
 refine h1.out.mono ?_
 rintro e w1 ⟨rfl, hB⟩
 go_wp2
 go_ret
 exact ⟨rfl, hB⟩
set_option maxHeartbeats 1000000
def crcSum (k : Int) (xs : List Int) : List Int := splitL (crcFold (sLen k) (sPoly k) xs) (sLen k)
theorem compute_ok (k : Int) (A : Option Addr) (n c : Nat) (xs : List Int) (w : World) (hx : Rd .u8 w A n c xs) (hk : sLen k ≠ 0) (hv : ValidB xs = true) :
 Calls Tryz.prog 96 #[.int .i64 k, .slice A n c] w fun e w' => ∃ A' c', e = .returned (.tuple #[.slice A' (sLen k) c', .int .i64 0]) ∧ Own .u8 5 w' w.heap.size A' (sLen k) c' (crcSum k xs) ∧ Below w.heap.size w w' := by
 have hN := sLen_cases k
 have h1 := Lib.hid (of_any k w)
 unfold crcSum
 generalize sLen k = L at *
 generalize sPoly k = p at *
 have hb0 : ((L : Int) == 0) = false := beq_f (by omega)
 have hL8 : 8 ≤ L ∧ L ≤ 24 := by omega
 clear hk hN
 go_enter Tryz.func96, Tryz.ntmps96
 go_wp2_with fail
 refine h1.out.mono ?_
 rintro e w1 ⟨rfl, hB1⟩
 have hx1 := Rdv.below hx hB1
 have hx2 := Rdv.alloc hx1 (.cells #[.int .i64 L, .int .u32 p] 210)
 go_wp2_with (go_at_call 151; refine (invalid_any A n c xs _ hx2).mono ?_; rintro e w' ⟨rfl, rfl⟩)
 have hx3 := Rdv.drew (Rdv.alloc hx2 (.cells #[.slice A n c] 28))
 have hbc : ((w1.alloc (Obj.cells #[.int .i64 (L : Int), .int .u32 p] 210)).alloc (Obj.cells #[.slice A n c] 28)).drew.cell? ⟨w1.heap.size + 1, 0, none⟩ = some (.slice A n c) := by simp [go_sem]
 have hk0 : ((w1.alloc (Obj.cells #[.int .i64 (L : Int), .int .u32 p] 210)).alloc (Obj.cells #[.slice A n c] 28)).drew.cell? ⟨w1.heap.size, 0, none⟩ = some (.int .i64 (L : Int)) := by simp [go_sem]
 have hk1 : ((w1.alloc (Obj.cells #[.int .i64 (L : Int), .int .u32 p] 210)).alloc (Obj.cells #[.slice A n c] 28)).drew.cell? ⟨w1.heap.size, 1, none⟩ = some (.int .u32 p) := by simp [go_sem]
 have hsz3 : w1.heap.size + 1 < ((w1.alloc (Obj.cells #[.int .i64 (L : Int), .int .u32 p] 210)).alloc (Obj.cells #[.slice A n c] 28)).drew.heap.size := by simp
 have hdv := Lib.hid (divide_any L p _ A n c xs _ hx3 hsz3 hbc (by omega) (by omega))
 go_region_held3 (fun W => W.cell? ⟨w1.heap.size, 0, none⟩ = some (.int .i64 L) ∧ W.cell? ⟨w1.heap.size, 1, none⟩ = some (.int .u32 p)) (first | (simp [go_sem]; done) | exact ⟨hm0, hm1⟩ | exact ⟨hm2, hm3⟩)
  (first
    | (go_at_call 154; refine (values_any A n c _).mono ?_; rintro e w' ⟨rfl, rfl⟩)
    | (go_at_call 153; refine hdv.out.mono ?_; rintro e w3 ⟨rfl, hB3⟩; have hm0 := (hB3.cell (p := ⟨w1.heap.size, 0, none⟩) (by simp; omega)).trans hk0; have hm1 := (hB3.cell (p := ⟨w1.heap.size, 1, none⟩) (by simp; omega)).trans hk1; have hz3 := hB3.size)
    | (go_at_call 152; refine (split_any _ L _ (by omega)).mono ?_; rintro e w4 ⟨A4, c4, rfl, hO4, hB4⟩; have hm2 := (hB4.cell (p := ⟨w1.heap.size, 0, none⟩) (show w1.heap.size < w3.heap.size by simp at hz3; omega)).trans hm0; have hm3 := (hB4.cell (p := ⟨w1.heap.size, 1, none⟩) (show w1.heap.size < w3.heap.size by simp at hz3; omega)).trans hm1))
 go_wp2
 go_ret2
 have hz3' : w1.heap.size + 1 + 1 ≤ w3.heap.size := by simpa using hz3
 have hz1 := hB1.size
 refine ⟨A4, c4, rfl, Ownv.mono hO4 (by omega), ?_⟩
 exact ((hB1.trans ((((Below.refl _ w1).alloc (Nat.le_refl _) _).alloc (by simp) _).drew.mono hz1)).trans (hB3.mono (by simp; omega))).trans (hB4.mono (by omega))
def cErr (k : Int) (xs : List Int) : Int := if sLen k = 0 then 2 else if ValidB xs = true then 0 else 3
def cRes (k : Int) (xs : List Int) : List Int := if sLen k = 0 then [] else if ValidB xs = true then crcSum k xs else []
theorem compute_any (k : Int) (A : Option Addr) (n c : Nat) (xs : List Int) (w : World) (hx : Rd .u8 w A n c xs) :
 Calls Tryz.prog 96 #[.int .i64 k, .slice A n c] w fun e w' => ∃ A' n' c', e = .returned (.tuple #[.slice A' n' c', .int .i64 (cErr k xs)]) ∧ Own .u8 5 w' w.heap.size A' n' c' (cRes k xs) ∧ Below w.heap.size w w' := by
 by_cases h0 : sLen k = 0
 · have h1 := Lib.hid (of_any k w)
   have e1 : cErr k xs = 2 := by rw [cErr, if_pos h0]
   have e2 : cRes k xs = [] := by rw [cRes, if_pos h0]
   rw [e1, e2]
   rw [h0] at h1
   generalize sPoly k = p at *
   clear e1 e2 h0
   go_enter Tryz.func96, Tryz.ntmps96
   go_wp2_with fail
   refine h1.out.mono ?_
   rintro e w1 ⟨rfl, hB1⟩
   go_wp2
   go_ret2
   exact ⟨none, 0, 0, rfl, Own.nilv _ _ _ _, hB1.trans (((Below.refl _ w1).alloc (Nat.le_refl _) _).mono hB1.size)⟩
 · by_cases hv : ValidB xs = true
   · have e1 : cErr k xs = 0 := by rw [cErr, if_neg h0, if_pos hv]
     have e2 : cRes k xs = crcSum k xs := by rw [cRes, if_neg h0, if_pos hv]
     rw [e1, e2]
     exact (compute_ok k A n c xs w hx h0 hv).mono fun e w' ⟨A', c', h⟩ => ⟨A', _, c', h⟩
   · have h1 := Lib.hid (of_any k w)
     have e1 : cErr k xs = 3 := by rw [cErr, if_neg h0, if_neg hv]
     have e2 : cRes k xs = [] := by rw [cRes, if_neg h0, if_neg hv]
     have hv' : ValidB xs = false := by simpa using hv
     rw [e1, e2]
     clear e1 e2 hv
     generalize sLen k = L at *
     generalize sPoly k = p at *
     have hb0 : ((L : Int) == 0) = false := beq_f (by omega)
     go_enter Tryz.func96, Tryz.ntmps96
     go_wp2_with fail
     refine h1.out.mono ?_
     rintro e w1 ⟨rfl, hB1⟩
     have hx1 := Rdv.below hx hB1
     have hx2 := Rdv.alloc hx1 (.cells #[.int .i64 L, .int .u32 p] 210)
     go_wp2_with (go_at_call 151; refine (invalid_any A n c xs _ hx2).mono ?_; rintro e w' ⟨rfl, rfl⟩)
     go_ret2
     exact ⟨none, 0, 0, rfl, Own.nilv _ _ _ _, hB1.trans (((Below.refl _ w1).alloc (Nat.le_refl _) _).mono hB1.size)⟩
theorem el55 : El Tryz.prog 56 28 (.slice none 0 0) 24 := ⟨by kernel_rfl, by kernel_rfl, fun _ => by kernel_rfl, rfl⟩
structure Sv where
 A : Option Addr
 n : Nat
 c : Nat
 xs : List Int
def Sv.v (s : Sv) : Value := .slice s.A s.n s.c
def flat (L : List Sv) (j : Nat) : List Int := (L.take j).flatMap (·.xs)
def tot (L : List Sv) (j : Nat) : Nat := ((L.take j).map (·.n)).sum
theorem take_get {L : List Sv} {j : Nat} {s : Sv} (h : L[j]? = some s) : L.take (j + 1) = L.take j ++ [s] := by
 rw [List.take_add_one, h]; rfl
theorem flat_succ {L : List Sv} {j : Nat} {s : Sv} (h : L[j]? = some s) : flat L (j + 1) = flat L j ++ s.xs := by
 unfold flat; rw [take_get h, List.flatMap_append]; simp
theorem tot_succ {L : List Sv} {j : Nat} {s : Sv} (h : L[j]? = some s) : tot L (j + 1) = tot L j + s.n := by
 unfold tot; rw [take_get h, List.map_append, List.sum_append]; simp
theorem tot_le {L : List Sv} {j k : Nat} (h : j ≤ k) : tot L j ≤ tot L k := by
 induction k with
 | zero => obtain rfl : j = 0 := by omega
           exact Nat.le_refl _
 | succ k ih =>
   by_cases hj : j = k + 1
   · subst hj; exact Nat.le_refl _
   · refine Nat.le_trans (ih (by omega)) ?_
     unfold tot
     rw [List.take_add_one, List.map_append, List.sum_append]; omega
def Cc1 (L : List Sv) (n : Nat) (sz i : Value) : Prop := ∃ j : Nat, j ≤ n ∧ i = .int .i64 j ∧ sz = .int .i64 (tot L j : Int)
def Cc2 (w1 : World) (B : Nat) (L : List Sv) (n : Nat) (out i : Value) (wr : World) : Prop := ∃ (j : Nat) (A : Option Addr) (c : Nat), j ≤ n ∧ i = .int .i64 j ∧ out = .slice A (tot L j) c ∧ Own .u8 5 wr B A (tot L j) c (flat L j) ∧ Below w1.heap.size w1 wr
theorem concat_any (A : Option Addr) (n c : Nat) (L : List Sv) (w : World) (h : Rdv w A n c (L.map Sv.v)) (hs : ∀ s ∈ L, Rd .u8 w s.A s.n s.c s.xs) (ht : tot L n ≤ 1000000) :
 Calls Tryz.prog 34 #[.slice A n c] w fun e w' => ∃ A' c', e = .returned (.slice A' (tot L n) c') ∧ Own .u8 5 w' w.heap.size A' (tot L n) c' (flat L n) ∧ Below w.heap.size w w' := by
 have hbd := h.bd.1
 have hl := h.len
 rw [List.length_map] at hl
 have HL := Lib.hid hl; clear hl
 have hget : ∀ j, j < n → ∃ s, L[j]? = some s ∧ w.cell? (adr A j) = some (.slice s.A s.n s.c) ∧ Rd .u8 w s.A s.n s.c s.xs := fun j hj => by
  have hj' : j < L.length := by rw [HL.out]; exact hj
  exact ⟨L[j], List.getElem?_eq_getElem hj', h.at_ j _ (by simp [hj', Sv.v]), hs _ (List.getElem_mem hj')⟩
 have HG := Lib.hid hget; clear hget hs
 go_enter Tryz.func34, Tryz.ntmps34
 go_wp2
 go_loop [3, 11] (fun sz i => Cc1 L n sz i) (fun _ i => n - (intOf i).toNat)
 case atStart => exact ⟨0, by omega, rfl, rfl⟩
 case round =>
  obtain ⟨j, hj, rfl, rfl⟩ := hrel
  by_cases hlt : j < n
  · obtain ⟨s, hs, hc, hR⟩ := HG.out j hlt
    have hix := fun W => Rdv.ix h el55 hlt .i64 W
    have hts := tot_succ hs
    have htl := tot_le (L := L) (show j + 1 ≤ n by omega)
    have HTS := Lib.hid hts
    have HS := Lib.hid hs
    have hb3 : tot L j + s.n ≤ 1000000 := by omega
    clear hts hs
    go_wp2
    go_round
    case rel => exact ⟨j + 1, by omega, by go_num, by rw [HTS.out]; go_num⟩
    case measure => simp [intOf]; omega
  · obtain rfl : j = n := by omega
    go_wp2_with (go_at_call 63; refine (grow_any _ _ (by omega)).mono ?_; rintro e w1 ⟨A1, c1, rfl, hO1, hB1⟩)
    go_loopw [6, 27] (fun out i wr => Cc2 w w.heap.size L j out i wr) (fun _ i _ => j - (intOf i).toNat)
    case atStart => exact ⟨0, A1, c1, by omega, rfl, rfl, Own.of_eq hO1 rfl rfl, hB1⟩
    case round =>
     obtain ⟨q, A2, c2, hq, rfl, rfl, hO2, hB2⟩ := hrel
     by_cases hlq : q < j
     · obtain ⟨s, hs, hc, hR⟩ := HG.out q hlq
       have hh2 := Rdv.below h hB2
       have hix := fun W => Rdv.ix hh2 el55 hlq .i64 W
       have hc2 := (hB2.cell (p := adr A q) (World.block_lt_of_cell? w _ hc)).trans hc
       have hR2 := Rdv.below hR hB2
       have hts := tot_succ hs
       have htl := tot_le (L := L) (show q + 1 ≤ j by omega)
       have HTS := Lib.hid hts
       have HS := Lib.hid hs
       have hb3 : tot L q + s.n ≤ 1000000 := by omega
       have hsz := hB2.size
       clear hts hs hc
       go_wp2_with (at_builtin; go_loud (refine list_of rfl fun K hK => wp_app _ _ 28 rfl el53 rfl rfl hO2 hR2 (oneCell_ints .u8 _) (by omega) (by unfold maxLen; omega) hsz ?_); intro A' c' w' hO' hg; refine hK _ _ ?_; clear hK K)
       go_roundw
       case rel => exact ⟨q + 1, A', c', by omega, by go_num, by rw [HTS.out], Own.of_eq hO' HTS.out.symm (by rw [flat_succ HS.out, List.map_append]), hB2.grown hg hsz (fun k hk => Ownv.ob' hO2 hk)⟩
       case measure => simp [intOf]; omega
     · obtain rfl : q = j := by omega
       go_wp2
       go_ret
       exact ⟨A2, c2, rfl, hO2, hB2⟩
/-! ### Attach -/
def aRes (k : Int) (xs : List Int) : List Int := if sLen k = 0 then [] else if ValidB xs = true then xs ++ crcSum k xs else []
theorem attach_any (k : Int) (A : Option Addr) (n c : Nat) (xs : List Int) (w : World) (hx : Rd .u8 w A n c xs) (hn : n ≤ 100000) :
 Calls Tryz.prog 56 #[.int .i64 k, .slice A n c] w fun e w' => ∃ A' n' c', e = .returned (.tuple #[.slice A' n' c', .int .i64 (cErr k xs)]) ∧ Own .u8 5 w' w.heap.size A' n' c' (aRes k xs) ∧ Below w.heap.size w w' := by
 have hxl := hx.len
 have HXL := Lib.hid hxl; clear hxl
 by_cases h0 : cErr k xs = 0
 · have h1 : sLen k ≠ 0 := by intro h; unfold cErr at h0; rw [if_pos h] at h0; cases h0
   have h2 : ValidB xs = true := by
    by_cases hv : ValidB xs = true
    · exact hv
    · unfold cErr at h0; rw [if_neg h1, if_neg hv] at h0; cases h0
   have e2 : aRes k xs = xs ++ crcSum k xs := by rw [aRes, if_neg h1, if_pos h2]
   have hcmp := Lib.hid (compute_ok k A n c xs w hx h1 h2)
   have hN := sLen_cases k
   rw [h0, e2]
   have hlb : sLen k ≤ 24 := by omega
   clear h0 e2 h1 h2 hN
   generalize crcSum k xs = S at *
   generalize sLen k = N at *
   go_enter Tryz.func56, Tryz.ntmps56
   go_wp2_with fail
   refine hcmp.out.mono ?_
   rintro e w1 ⟨A1, c1, rfl, hO1, hB1⟩
   have hx1 := Rdv.below hx hB1
   have hR1 := Own.rd hO1
   have hx2 := Rdv.alloc hx1 (.cells #[.slice A n c, .slice A1 N c1] 28)
   have hR2 := Rdv.alloc hR1 (.cells #[.slice A n c, .slice A1 N c1] 28)
   have hlit := (Ownv.lit (base := 0) w1 #[.slice A n c, .slice A1 N c1] 28 rfl (Nat.zero_le _) (by show 2 ≤ maxLen; unfold maxLen; omega)).rd
   have htot : tot [⟨A, n, c, xs⟩, ⟨A1, N, c1, S⟩] 2 = n + N := by simp [tot]
   have hflat : flat [⟨A, n, c, xs⟩, ⟨A1, N, c1, S⟩] 2 = xs ++ S := by simp [flat]
   have hcc := concat_any (some ⟨w1.heap.size, 0, none⟩) 2 2 [⟨A, n, c, xs⟩, ⟨A1, N, c1, S⟩] _ hlit (by
    intro s hs
    simp only [List.mem_cons, List.not_mem_nil, or_false] at hs
    rcases hs with rfl | rfl
    · exact hx2
    · exact hR2) (by rw [htot]; omega)
   rw [htot, hflat] at hcc
   have HCC := Lib.hid hcc; clear hcc htot hflat
   go_wp2_with (go_at_call 34; refine HCC.out.mono ?_; rintro e w2 ⟨A2, c2, rfl, hO2, hB2⟩)
   go_ret2
   have hz1 := hB1.size
   have hz2 : w1.heap.size ≤ (w1.alloc (.cells #[.slice A n c, .slice A1 N c1] 28)).heap.size := by simp
   exact ⟨A2, _, c2, rfl, Ownv.mono hO2 (by omega), (hB1.trans (((Below.refl _ w1).alloc (Nat.le_refl _) _).mono hz1)).trans (hB2.mono (by omega))⟩
 · have e2 : aRes k xs = [] := by
    by_cases h1 : sLen k = 0
    · rw [aRes, if_pos h1]
    · by_cases hv : ValidB xs = true
      · exfalso; apply h0; rw [cErr, if_neg h1, if_pos hv]
      · rw [aRes, if_neg h1, if_neg hv]
   have hcmp := Lib.hid (compute_any k A n c xs w hx)
   have hne := bne_t h0
   rw [e2]
   clear h0 e2
   generalize cErr k xs = E at *
   go_enter Tryz.func56, Tryz.ntmps56
   go_wp2_with fail
   refine hcmp.out.mono ?_
   rintro e w1 ⟨A1, n1, c1, rfl, hO1, hB1⟩
   go_wp2
   go_ret2
   exact ⟨none, 0, 0, rfl, Own.nilv _ _ _ _, hB1⟩
theorem splitL_len (v : Int) (n : Nat) : (splitL v n).length = n := by simp [splitL]
def chkErr (k : Int) (xs : List Int) : Int :=
 if sLen k = 0 then 2 else if ValidB xs = true then (if xs.length < sLen k then 5 else if crcSum k (xs.take (xs.length - sLen k)) = xs.drop (xs.length - sLen k) then 0 else 11) else 3
def chkRes (k : Int) (xs : List Int) : List Int := if chkErr k xs = 0 then xs.take (xs.length - sLen k) else []
theorem check_any (k : Int) (A : Option Addr) (n c : Nat) (xs : List Int) (w : World) (hx : Rd .u8 w A n c xs) (hn : n ≤ 100000) :
 Calls Tryz.prog 128 #[.int .i64 k, .slice A n c] w fun e w' => ∃ A' n' c', e = .returned (.tuple #[.slice A' n' c', .int .i64 (chkErr k xs)]) ∧ Own .u8 5 w' w.heap.size A' n' c' (chkRes k xs) ∧ Below w.heap.size w w' := by
 have hN := sLen_cases k
 have hxl := hx.len
 have hl := fun W => Lib.hid (len_any k W)
 by_cases h0 : sLen k = 0
 · have e1 : chkErr k xs = 2 := by rw [chkErr, if_pos h0]
   have e2 : chkRes k xs = [] := by rw [chkRes, e1]; rfl
   rw [e1, e2]
   rw [h0] at hl
   clear e1 e2 h0 hN hxl
   go_enter Tryz.func128, Tryz.ntmps128
   go_wp2_with fail
   refine (hl _).out.mono ?_
   rintro e w1 ⟨rfl, hB1⟩
   go_wp2_with fail
   refine (hl _).out.mono ?_
   rintro e w2 ⟨rfl, hB2⟩
   go_wp2
   go_ret2
   exact ⟨none, 0, 0, rfl, Own.nilv _ _ _ _, hB1.trans (hB2.mono hB1.size)⟩
 · by_cases hv : ValidB xs = true
   · by_cases hs : xs.length < sLen k
     · have e1 : chkErr k xs = 5 := by rw [chkErr, if_neg h0, if_pos hv, if_pos hs]
       have e2 : chkRes k xs = [] := by rw [chkRes, e1]; rfl
       rw [e1, e2]
       rw [hxl] at hs
       clear e1 e2 hxl
       generalize sLen k = L at *
       have hb : ((L : Int) == 0) = false := beq_f (by omega)
       have hL8 : 1 ≤ L ∧ L ≤ 24 := by omega
       clear hN h0
       go_enter Tryz.func128, Tryz.ntmps128
       go_wp2_with fail
       refine (hl _).out.mono ?_
       rintro e w1 ⟨rfl, hB1⟩
       go_wp2_with fail
       refine (hl _).out.mono ?_
       rintro e w2 ⟨rfl, hB2⟩
       have hx2 := Rdv.below (Rdv.below hx hB1) hB2
       go_wp2_with (go_at_call 151; refine (invalid_any A n c xs _ hx2).mono ?_; rintro e w' ⟨rfl, rfl⟩)
       go_ret2
       exact ⟨none, 0, 0, rfl, Own.nilv _ _ _ _, hB1.trans (hB2.mono hB1.size)⟩
     · have hc := fun W hW => Lib.hid (compute_ok k A (xs.length - sLen k) c (xs.take (xs.length - sLen k)) W hW h0 (validB_take _ hv))
       by_cases hq : crcSum k (xs.take (xs.length - sLen k)) = xs.drop (xs.length - sLen k)
       · have e1 : chkErr k xs = 0 := by rw [chkErr, if_neg h0, if_pos hv, if_neg hs, if_pos hq]
         have e2 : chkRes k xs = xs.take (xs.length - sLen k) := by rw [chkRes, e1]; rfl
         rw [e1, e2]
         rw [hxl] at *
         clear e1 e2
         have HQ : decide (crcSum k (xs.take (n - sLen k)) = xs.drop (n - sLen k)) = true := by simpa using hq
         clear hq
         generalize crcSum k (xs.take (n - sLen k)) = S at *
         generalize sLen k = L at *
         have hb : ((L : Int) == 0) = false := beq_f (by omega)
         have hL8 : 1 ≤ L ∧ L ≤ 24 := by omega
         have em0 : (n : Int) - (L : Int) = ((n - L : Nat) : Int) := by omega
         have hmn : n - L ≤ n := by omega
         generalize n - L = m at *
         clear hN h0
         go_enter Tryz.func128, Tryz.ntmps128
         go_wp2_with fail
         refine (hl _).out.mono ?_
         rintro e w1 ⟨rfl, hB1⟩
         go_wp2_with fail
         refine (hl _).out.mono ?_
         rintro e w2 ⟨rfl, hB2⟩
         have hx2 := Rdv.below (Rdv.below hx hB1) hB2
         have hsl := fun W => Rdv.slh hx2 el53 .i64 (show m ≤ c by have := Rdv.le hx; omega) W
         have hsl2 := fun W => Rdv.sll hx2 el53 .i64 hmn W
         go_wp2_with (go_at_call 151; refine (invalid_any A n c xs _ hx2).mono ?_; rintro e w' ⟨rfl, rfl⟩)
         refine (hc _ (Rd.upto hx2 hmn)).out.mono ?_
         rintro e w3 ⟨A3, c3, rfl, hO3, hB3⟩
         have hx3 := Rdv.below hx2 hB3
         have hd3 := Rd.cut_ hx3 (l := m) (m := n) hmn (Nat.le_refl _)
         rw [List.take_of_length_le (Nat.le_of_eq hx.len)] at hd3
         go_wp2_with (go_at_call 184; refine (equal_any A3 (cut A c m) L c3 _ _ S (xs.drop m) _ (Own.rd hO3) hd3).mono ?_; rintro e w4 ⟨rfl, hQ4⟩)
         have hz2 := Nat.le_trans hB1.size hB2.size
         have hz3 := hB3.size
         have hz4 := (hQ4.below w3.heap.size).size
         have hx4 := Rdv.below (Rd.upto hx3 (show m ≤ n by omega)) (hQ4.below _)
         go_wp2_with (go_at_call 50; refine (clone_any A m c _ _ hx4 (by omega)).mono ?_; rintro e w5 ⟨A5, c5, rfl, hO5, hB5⟩)
         have hfb : Below w.heap.size w w5 := (((hB1.trans (hB2.mono hB1.size)).trans (hB3.mono hz2)).trans (hQ4.below _)).trans (hB5.mono (by omega))
         go_ret2
         exact ⟨A5, m, c5, rfl, Ownv.mono hO5 (by omega), hfb⟩
       · have e1 : chkErr k xs = 11 := by rw [chkErr, if_neg h0, if_pos hv, if_neg hs, if_neg hq]
         have e2 : chkRes k xs = [] := by rw [chkRes, e1]; rfl
         rw [e1, e2]
         rw [hxl] at *
         clear e1 e2
         have HQ : decide (crcSum k (xs.take (n - sLen k)) = xs.drop (n - sLen k)) = false := by simpa using hq
         clear hq
         generalize crcSum k (xs.take (n - sLen k)) = S at *
         generalize sLen k = L at *
         have hb : ((L : Int) == 0) = false := beq_f (by omega)
         have hL8 : 1 ≤ L ∧ L ≤ 24 := by omega
         have em0 : (n : Int) - (L : Int) = ((n - L : Nat) : Int) := by omega
         have hmn : n - L ≤ n := by omega
         generalize n - L = m at *
         clear hN h0
         go_enter Tryz.func128, Tryz.ntmps128
         go_wp2_with fail
         refine (hl _).out.mono ?_
         rintro e w1 ⟨rfl, hB1⟩
         go_wp2_with fail
         refine (hl _).out.mono ?_
         rintro e w2 ⟨rfl, hB2⟩
         have hx2 := Rdv.below (Rdv.below hx hB1) hB2
         have hsl := fun W => Rdv.slh hx2 el53 .i64 (show m ≤ c by have := Rdv.le hx; omega) W
         have hsl2 := fun W => Rdv.sll hx2 el53 .i64 hmn W
         go_wp2_with (go_at_call 151; refine (invalid_any A n c xs _ hx2).mono ?_; rintro e w' ⟨rfl, rfl⟩)
         refine (hc _ (Rd.upto hx2 hmn)).out.mono ?_
         rintro e w3 ⟨A3, c3, rfl, hO3, hB3⟩
         have hx3 := Rdv.below hx2 hB3
         have hd3 := Rd.cut_ hx3 (l := m) (m := n) hmn (Nat.le_refl _)
         rw [List.take_of_length_le (Nat.le_of_eq hx.len)] at hd3
         go_wp2_with (go_at_call 184; refine (equal_any A3 (cut A c m) L c3 _ _ S (xs.drop m) _ (Own.rd hO3) hd3).mono ?_; rintro e w4 ⟨rfl, hQ4⟩)
         have hz2 := Nat.le_trans hB1.size hB2.size
         have hfb : Below w.heap.size w w4 := ((hB1.trans (hB2.mono hB1.size)).trans (hB3.mono hz2)).trans (hQ4.below _)
         go_wp2
         go_ret2
         exact ⟨none, 0, 0, rfl, Own.nilv _ _ _ _, hfb⟩
   · have e1 : chkErr k xs = 3 := by rw [chkErr, if_neg h0, if_neg hv]
     have e2 : chkRes k xs = [] := by rw [chkRes, e1]; rfl
     have hv' : ValidB xs = false := by simpa using hv
     rw [e1, e2]
     clear e1 e2 hxl hv
     generalize sLen k = L at *
     have hb : ((L : Int) == 0) = false := beq_f (by omega)
     go_enter Tryz.func128, Tryz.ntmps128
     go_wp2_with fail
     refine (hl _).out.mono ?_
     rintro e w1 ⟨rfl, hB1⟩
     go_wp2_with fail
     refine (hl _).out.mono ?_
     rintro e w2 ⟨rfl, hB2⟩
     have hx2 := Rdv.below (Rdv.below hx hB1) hB2
     go_wp2_with (go_at_call 151; refine (invalid_any A n c xs _ hx2).mono ?_; rintro e w' ⟨rfl, rfl⟩)
     go_ret2
     exact ⟨none, 0, 0, rfl, Own.nilv _ _ _ _, hB1.trans (hB2.mono hB1.size)⟩
/-! ### Mask -/
end Go.Proofs.YtkdfefpnhaebfaaGreat.Cr
