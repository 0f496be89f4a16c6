import Derived.Test.YtcbbkflnenkpgaaGreatT6
import Derived.Test.YtcbbkflnenkpgaaGreatR
namespace Go.Proofs.YtcbbkflnenkpgaaGreat
open Go.RowKit Go.Shelf
set_option linter.unusedVariables false
attribute [local go_sem] Oper.semAt_some

set_option maxRecDepth 100000 in
theorem values_any (A : Option Addr) (n c : Nat) (w : World) :
    Calls Tryz.prog 88 #[.slice A n c] w fun e w' => e = .returned (.func (.func 123) #[] #[.pointer (some ⟨w.heap.size, 0, none⟩)]) ∧ w.alloc (.cells #[.slice A n c] 25) = w' := by
  go_enter Tryz.func88, Tryz.ntmps88
  go_wp2
  go_ret
  exact ⟨rfl, rfl⟩

def uptoL (xs : List Int) (k : Nat) : List Int := xs.take k
theorem uptoL_succ (xs : List Int) (k : Nat) (h : k < xs.length) : uptoL xs (k + 1) = uptoL xs k ++ [gi xs k] := by
  unfold uptoL; rw [List.take_succ_eq_append_getElem h, gi_eq xs k h]
def V1Inv (n : Nat) (xs : List Int) (n₀ : Nat) (W : World) (J : List Int → World → Prop) (i : Value) (wr : World) : Prop := ∃ k : Nat, k ≤ n ∧ i = .int .i64 k ∧ J (uptoL xs k) wr ∧ Below n₀ W wr
def V1Post (xs : List Int) (J Jx : List Int → World → Prop) (e : Ending) (W' : World) : Prop :=
  (∃ v, e = .returned v) ∧ ((∃ ys, ys = xs ∧ J ys W') ∨ (∃ pre, (∃ k, k ≤ xs.length ∧ pre = uptoL xs k) ∧ Jx pre W'))
set_option maxRecDepth 100000 in
set_option maxHeartbeats 1000000 in
theorem values1_in (F : Fence) (m : Nat) (hF : F.fn 123) (hro : F.round = none) (hm : 1 ≤ m) (l Bs n₀ : Nat) (A : Option Addr) (n c : Nat) (xs : List Int) (w0 : World) (hR : Rd .u8 w0 A n c xs) (h0n : w0.heap.size = n₀) (J Jx : List Int → World → Prop)
    (hY : ∀ pre x W, J pre W → pre.length < n → YieldAt F (m - 1) Tryz.prog l #[.int .u8 x] W fun e W' =>
      (e = .returned (.bool true) ∧ J (pre ++ [x]) W' ∧ Below n₀ W W') ∨ (e = .returned (.bool false) ∧ Jx (pre ++ [x]) W'))
    (W : World) (hW : Below n₀ w0 W) (hBs : W.cell? ⟨Bs, 0, none⟩ = some (.slice A n c)) (h0 : J [] W) :
    CallsIn F m Tryz.prog 123 #[.func (.yield l) #[] #[], .pointer (some ⟨Bs, 0, none⟩)] W (V1Post xs J Jx) := by
  have hxl := hR.len
  have hbd := hR.bd.1
  have HXL := Lib.hid hxl; clear hxl
  have HR := Lib.hid hR
  refine callsIn_of_wp Tryz.func123 rfl hF ?_ hro
  simp only [Tryz.ntmps123, List.size_toArray, List.length_cons, List.length_nil, Nat.reduceAdd, Nat.reduceSub, Array.replicate_succ, Array.replicate_zero, List.push_toArray, List.append_toArray, List.nil_append, List.cons_append]
  gi_wp2
  gi_loopw [7] (fun i wr => V1Inv n xs n₀ W J i wr) (fun i _ => n - (intOf i).toNat)
  case atStart => exact ⟨0, Nat.zero_le _, rfl, h0, Below.refl _ _⟩
  case round =>
    obtain ⟨k, hk, rfl, hJs, hnx⟩ := hrel
    by_cases hlt : k < n
    · have hRr : Rd .u8 wr A n c xs := Rdv.below HR.out (by rw [h0n]; exact hW.trans hnx)
      have hc := Rd.cell hRr hlt
      have hix := fun W => Rdv.ix hRr el53 hlt .i64 W
      obtain ⟨fn, tmps, assign, body, hy, hRd⟩ := hY _ (gi xs k) wr hJs (by unfold uptoL; rw [List.length_take, HXL.out]; omega)
      gi_wp2
      refine hRd.mono ?_
      rintro e W3 (⟨rfl, hJ3, hk3⟩ | ⟨rfl, hJx3⟩)
      · gi_wp2
        go_roundw
        case rel => exact ⟨k + 1, by omega, by simp, by rw [uptoL_succ _ _ (by rw [HXL.out]; exact hlt)]; exact hJ3, hnx.trans hk3⟩
        case measure => simp [intOf]; omega
      · gi_wp2
        refine bodyPost_ret (results_none rfl _ _ _) rfl ?_
        exact ⟨⟨_, rfl⟩, .inr ⟨_, ⟨k + 1, by rw [HXL.out]; omega, (uptoL_succ _ _ (by rw [HXL.out]; exact hlt)).symm⟩, hJx3⟩⟩
    · obtain rfl : k = n := by omega
      gi_wp2
      go_end0
      exact ⟨⟨_, rfl⟩, .inl ⟨_, by unfold uptoL; exact List.take_of_length_le (Nat.le_of_eq HXL.out), hJs⟩⟩
theorem values_stops (F : Fence) (m : Nat) (hF : F.fn 123) (hro : F.round = none) (hm : 1 ≤ m) (Bs n₀ : Nat) (A : Option Addr) (n c : Nat) (xs : List Int) (w0 w : World) (hR : Rd .u8 w0 A n c xs) (h0n : w0.heap.size = n₀) (hW0 : Below n₀ w0 w)
    (hBs : Bs < w.heap.size) (hc : w.cell? ⟨Bs, 0, none⟩ = some (.slice A n c)) :
    SeqStopsK F m Tryz.prog 123 #[.pointer (some ⟨Bs, 0, none⟩)] (fun x : Int => #[Value.int .u8 x]) (Below n₀) (fun ys => ys = xs) (fun pre => ∃ k, k ≤ xs.length ∧ pre = uptoL xs k) n w := fun l J Jx W hW _ _ hY h0 =>
  values1_in F m hF hro hm l Bs n₀ A n c xs w0 hR h0n J Jx hY W (hW0.trans (hW.mono (by have := hW0.size; omega))) ((hW.cell (p := ⟨Bs, 0, none⟩) hBs).trans hc) h0

/-! ### divide -/
def crcStep (L : Nat) (p : Int) (reg b : Int) : Int :=
  bits .xor .u32 (bits .and .u32 (reg * 2 % 4294967296) ((2 ^ L % 4294967296 - 1) % 4294967296)) (bits .xor .u32 (bits .and .u32 (reg / 2 ^ (L - 1)) 1) (b % 4294967296) * p % 4294967296)
def crcFold (L : Nat) (p : Int) (xs : List Int) : Int := xs.foldl (crcStep L p) 0
theorem crcFold_snoc (L : Nat) (p : Int) (xs : List Int) (x : Int) : crcFold L p (xs ++ [x]) = crcStep L p (crcFold L p xs) x := by simp [crcFold]
set_option maxRecDepth 100000 in
set_option maxHeartbeats 1000000 in
theorem divide_any (L : Nat) (p : Int) (Bs : Nat) (A : Option Addr) (n c : Nat) (xs : List Int) (w : World) (hR : Rd .u8 w A n c xs) (hBs : Bs < w.heap.size) (hc : w.cell? ⟨Bs, 0, none⟩ = some (.slice A n c)) (hL : 8 ≤ L) (hL2 : L ≤ 24) :
    Calls Tryz.prog 87 #[.agg #[.int .i64 (L : Int), .int .u32 p], .func (.func 123) #[] #[.pointer (some ⟨Bs, 0, none⟩)]] w fun e w' => e = .returned (.int .u32 (crcFold L p xs)) ∧ Below w.heap.size w w' := by
  refine (callsIn_wide (n := 3)).1 ?_
  refine callsIn_of_wp_marks Tryz.func87 rfl trivial ?_
  simp only [Tryz.ntmps87, List.size_toArray, List.length_cons, List.length_nil, Nat.reduceAdd, Nat.reduceSub, Array.replicate_succ, Array.replicate_zero, List.push_toArray, List.append_toArray, List.nil_append, List.cons_append]
  gi_wp2
  have cS0 : ((w.alloc (Obj.cells #[.int .i64 L, .int .u32 p] 122)).alloc (Obj.cells #[.int .u32 0] 22)).cell? ⟨w.heap.size, 0, none⟩ = some (.int .i64 L) := by simp [go_sem]
  have cS1 : ((w.alloc (Obj.cells #[.int .i64 L, .int .u32 p] 122)).alloc (Obj.cells #[.int .u32 0] 22)).cell? ⟨w.heap.size, 1, none⟩ = some (.int .u32 p) := by simp [go_sem]
  have cR : ((w.alloc (Obj.cells #[.int .i64 L, .int .u32 p] 122)).alloc (Obj.cells #[.int .u32 0] 22)).cell? ⟨w.heap.size + 1, 0, none⟩ = some (.int .u32 0) ∧ ((w.alloc (Obj.cells #[.int .i64 L, .int .u32 p] 122)).alloc (Obj.cells #[.int .u32 0] 22)).frozen? ⟨w.heap.size + 1, 0, none⟩ = false := by simp [go_sem]
  have hB0 : Below w.heap.size w ((w.alloc (Obj.cells #[.int .i64 L, .int .u32 p] 122)).alloc (Obj.cells #[.int .u32 0] 22)) := ((Below.refl _ w).alloc (Nat.le_refl _) _).alloc (by simp) _
  have hc2 := (hB0.cell (p := ⟨Bs, 0, none⟩) hBs).trans hc
  generalize hw2 : (w.alloc (Obj.cells #[.int .i64 L, .int .u32 p] 122)).alloc (Obj.cells #[.int .u32 0] 22) = w2 at *
  have hsz : w2.heap.size = w.heap.size + 2 := by rw [← hw2]; simp
  refine wpIn_rangeFunc_ownF rfl (by omega) (gf := 123) (lb := #[.pointer (some ⟨Bs, 0, none⟩)]) rfl trivial (enters_of Tryz.func123 (by kernel_rfl) rfl)
    (values_stops Fence.wide 2 trivial rfl (by omega) Bs w.heap.size A n c xs w w2 hR rfl hB0 (by omega) hc2) belowK_t (belowK_b (by omega)) (Below.refl _ _) (fun _ => rfl)
    (fun pre W => (W.cell? ⟨w.heap.size, 0, none⟩ = some (.int .i64 L) ∧ W.cell? ⟨w.heap.size, 1, none⟩ = some (.int .u32 p) ∧ W.cell? ⟨w.heap.size + 1, 0, none⟩ = some (.int .u32 (crcFold L p pre)) ∧ W.frozen? ⟨w.heap.size + 1, 0, none⟩ = false) ∧ Below w.heap.size w W)
    (fun _ _ _ => False)
    (OwnFrom.and (Own.from (fun s A B row hs hg hr => ⟨cell_kept hs.1 hg hr, cell_kept hs.2.1 hg hr, cell_kept hs.2.2.1 hg hr, (frozen_kept hs.2.2.1 hg hr).trans hs.2.2.2⟩) _) (ownFrom_below (Nat.le_refl _) (by omega)))
    (fun _ _ _ _ _ hs _ _ => hs)
    ⟨⟨cS0, cS1, cR.1, cR.2⟩, hB0⟩
    (fun x => { tmps := #[.agg #[.int .i64 L, .int .u32 p], .func (.func 123) #[] #[.pointer (some ⟨Bs, 0, none⟩)], .pointer (some ⟨w.heap.size, 0, none⟩), undef, .int .u32 0, .pointer (some ⟨w.heap.size + 1, 0, none⟩), .int .u8 x, undef, .func (.func 123) #[] #[.pointer (some ⟨Bs, 0, none⟩)], .int .u8 x,
      undef, undef, undef, undef, undef, undef, undef, undef, undef, undef, undef, undef, undef, undef, undef, undef, undef, undef, undef, undef, undef, undef], defers := [] }) ?assign ?body ?done ?stop
  case assign =>
    intro l x W K hK
    gi_wp2
    exact hK
  case body =>
    rintro l pre x W ⟨⟨h1, h2, h3, h4⟩, hB⟩ _
    gi_wp2
    refine regIn_still_tail 12 (by kernel_rfl) (by kernel_rfl) (by kernel_rfl) (fun ⟨_, _, h⟩ => h) ?_
    simp only [List.take_succ_cons, List.take_zero, List.drop_succ_cons, List.drop_zero]
    repeat still_step
    try refine wpStill_nil ?_
    simp only [World.drew_eq]
    go_wp2
    have hset := World.cell?_setCell_same' W ⟨w.heap.size + 1, 0, none⟩ (.int .u32 (crcFold L p (pre ++ [x]))) (by rw [h3]; rfl)
    have hs0 := (World.cell?_setCell_other W ⟨w.heap.size + 1, 0, none⟩ ⟨w.heap.size, 0, none⟩ (.int .u32 (crcFold L p (pre ++ [x]))) (by simp)).trans h1
    have hs1 := (World.cell?_setCell_other W ⟨w.heap.size + 1, 0, none⟩ ⟨w.heap.size, 1, none⟩ (.int .u32 (crcFold L p (pre ++ [x]))) (by simp)).trans h2
    have hsf : (W.setCell ⟨w.heap.size + 1, 0, none⟩ (.int .u32 (crcFold L p (pre ++ [x])))).frozen? ⟨w.heap.size + 1, 0, none⟩ = false := by rw [World.frozen?_setCell]; exact h4
    rw [crcFold_snoc] at hset hs0 hs1 hsf
    exact ⟨(KeepsOthers.setCell _ _ _).trans (KeepsOthers.drew _), ((Below.refl w.heap.size W).setCell (p := ⟨w.heap.size + 1, 0, none⟩) (Nat.le_succ _) _).drew, ⟨hs0, hs1, by rw [crcFold_snoc]; exact hset, hsf⟩, (hB.setCell (p := ⟨w.heap.size + 1, 0, none⟩) (Nat.le_succ _) _).drew⟩
  case done =>
    rintro D ys W hD rfl ⟨⟨h1, h2, h3, h4⟩, hB⟩ hK
    gi_wp2
    refine ⟨by simp, .inl ⟨_, _, rfl, run_takeDeferred hK, ?_⟩⟩
    exact ⟨_, results_tmp rfl _ _ _, rfl, hB.trans (belowK_b (w := w) (Nat.le_refl _) W D _ _ (by omega) hK rfl rfl)⟩
  case stop =>
    rintro D c pre W _ _ h _
    exact h.elim
end Go.Proofs.YtcbbkflnenkpgaaGreat
