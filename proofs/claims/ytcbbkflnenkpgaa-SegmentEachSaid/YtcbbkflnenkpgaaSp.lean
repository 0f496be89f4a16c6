/-
  Contract of the specification's Split. Condition: slices that lie in memory.
-/
import Derived.Test.YtcbbkflnenkpgaaSo
namespace Go.Proofs.Ytcbbkflnenkpgaa
open Go.RowKit CM
set_option linter.unusedVariables false
theorem Rdv.slI {w : World} {A : Option Addr} {n c : Nat} {vs : List Value} {P : Program} (h : Rdv w A n c vs) {t e : TypeId} {z : Value} {bytes : Nat} (E : El P t e z bytes) (kl kh : IntKind) {l m : Nat} (hlm : l ≤ m) (hm : m ≤ c) (L M : Int) (hL : L = (l : Int)) (hM : M = (m : Int)) (W : World) :
    (Instr.sliceAt t (.slice A n c) (some (.int kl L)) (some (.int kh M)) none).run P W = .ok (.slice (cut A c l) (m - l) (c - l)) W := by
  subst hL hM; exact h.sl E kl kh hlm hm W
theorem full_zero {f m : Nat} {xs : List Int} (h : f ≤ m) : ((List.replicate f 0 ++ xs).drop 0).take m = List.replicate f 0 ++ (xs.take (m - f)) := by
  rw [List.drop_zero, List.take_append, List.length_replicate, List.take_of_length_le (by simp; exact h)]
theorem full_succ {f o m : Nat} {xs : List Int} (h : f ≤ o) : ((List.replicate f 0 ++ xs).drop o).take m = (xs.drop (o - f)).take m := by
  rw [List.drop_append, List.length_replicate, List.drop_of_length_le (by simp; exact h), List.nil_append]
def RbInv (W : World) (b LB : Nat) (lay full : List Int) (out at_ i : Value) (wr : World) : Prop :=
  ∃ (j a : Nat) (A : Option Addr) (c : Nat) (L : List Sv), j ≤ bC b ∧ i = .int .i64 j ∧ at_ = .int .i64 a ∧ a = off b j - fi b ∧ out = .slice A L.length c ∧ BL wr W.heap.size A c L ∧ L.length = j ∧ L.map (·.xs) = segs b full j ∧ Below W.heap.size W wr
def RsPost (b : Nat) (xs : List Int) (w : World) (e : Ending) (w' : World) : Prop := ∃ A' c' L, e = .returned (.tuple #[.slice A' L.length c', .int .i64 0]) ∧ BL w' w.heap.size A' c' L ∧ L.map (·.xs) = segs b (List.replicate (fi b) 0 ++ xs) (bC b) ∧ Below w.heap.size w w'
theorem bit_drop {xs : List Int} (n : Nat) (hx : Bit xs) : Bit (xs.drop n) := fun x h => hx x (List.mem_of_mem_drop h)
set_option maxRecDepth 100000 in
set_option maxHeartbeats 1000000 in
theorem rsplit_ok (A : Option Addr) (n c : Nat) (xs : List Int) (w : World) (hx : Rd .u8 w A n c xs) (h1 : 1 ≤ n) (h2 : n ≤ 79560) (hb : Bit xs) : Calls Try.prog 35 #[.slice A n c] w (RsPost n xs w) := by
  have hv := bit_valid hb
  have hC := bC_le h2
  have hfl := fi_lt h1 h2
  have hxl := hx.len
  have hoff := off_all h1
  have hcm := Rdv.le hx
  have HPL := Lib.hid (fun W => rplan_ok n W h1 h2)
  have HEA := Lib.hid (fun W => reach_ok n W h1 h2)
  have HLY := Lib.hid (show LY n = [(n : Int), (bC n : Int), (lo n : Int), (sh n : Int), (los n : Int), (shs n : Int), (fi n : Int)] from rfl)
  unfold RpPost at HPL
  rw [HLY.out] at HPL
  simp only [ints8, List.map_cons, List.map_nil] at HPL
  go_enter Try.func35, Try.ntmps35
  go_wp2_with (first | (go_at_call 32; refine (HPL.out _).mono ?_; rintro e w1 ⟨rfl, hB1⟩; have hx1 := Rdv.below hx hB1; have HB1 := Lib.hid hB1; clear hB1))
  have hb74 := Lib.hid (fun o => right_any A n c xs (w1.alloc o) (Rdv.alloc hx1 o))
  rw [hv] at hb74
  refine (hb74.out _).mono ?_
  rintro e w' ⟨rfl, rfl⟩
  have hL := Blk.new w1 (ints8 [(n : Int), (bC n : Int), (lo n : Int), (sh n : Int), (los n : Int), (shs n : Int), (fi n : Int)]) 23 rfl
  have hX2 := Rdv.alloc hx1 (.cells (ints8 [(n : Int), (bC n : Int), (lo n : Int), (sh n : Int), (los n : Int), (shs n : Int), (fi n : Int)]).toArray 23)
  have hB2 := bal HB1.out (.cells (ints8 [(n : Int), (bC n : Int), (lo n : Int), (sh n : Int), (los n : Int), (shs n : Int), (fi n : Int)]).toArray 23)
  simp only [ints8, List.map_cons, List.map_nil] at hL hX2 hB2
  have HL := Lib.hid hL
  have HX2 := Lib.hid hX2
  have HB2 := Lib.hid hB2
  clear hL hX2 hB2 hx hx1 HB1 hb74
  go_wp2_with (go_at_call 39; refine (HEA.out _).mono ?_; rintro e w3 ⟨As, cs, rfl, hOs, hB3⟩)
  generalize w1.alloc (.cells #[.int .i64 n, .int .i64 (bC n : Int), .int .i64 (lo n : Int), .int .i64 (sh n : Int), .int .i64 (los n : Int), .int .i64 (shs n : Int), .int .i64 (fi n : Int)] 23) = W2 at *
  generalize w1.heap.size = LB at *
  have HL3 := Lib.hid (HL.out.below hB3)
  have HX3 := Lib.hid (Rdv.below HX2.out hB3)
  have HB3 := Lib.hid (HB2.out.trans (hB3.mono HB2.out.size))
  have HS3 := Lib.hid (Own.rd hOs)
  clear hOs hB3 HL HX2 HB2
  go_loopw [7, 8, 9] (fun out a i wr => RbInv w3 n LB (LY n) (List.replicate (fi n) 0 ++ xs) out a i wr) (fun _ _ i _ => bC n - (intOf i).toNat)
  case atStart => exact ⟨0, 0, none, 0, [], by omega, rfl, rfl, by simp [off], rfl, BL.nil w3 _, rfl, rfl, Below.refl _ _⟩
  case round =>
    obtain ⟨j, a, A1, c1, L, hj, rfl, rfl, ha, rfl, hBL, hlen, hxs, hB⟩ := hrel
    have HBL := Lib.hid hBL
    have HX := Lib.hid hxs
    have HB := Lib.hid hB
    have HLN := Lib.hid hlen
    have HAE := Lib.hid ha
    obtain ⟨⟨c0, c1', c2, c3, c4, c5, c6⟩, -⟩ := Blk.seven (HL3.out.below HB.out)
    clear hBL hxs hB hlen ha
    by_cases hlt : j < bC n
    · have hsz := (sz_ge (i := j) h1)
      have hix := fun W => Rdv.ix (Rdv.below HS3.out HB.out) el34 hlt .i64 W
      have hcz := Rd.cell (Rdv.below HS3.out HB.out) hlt
      rw [gi_szs _ _ _ hlt] at hcz
      by_cases hq : n ≤ 6144
      · have e1 := bC_one hq
        have ek : ck n = 0 := by unfold ck; rw [if_pos hq]
        obtain rfl : j = 0 := by omega
        obtain ⟨N, hN⟩ : ∃ N, N + ck n + fi n = sz n 0 := ⟨sz n 0 - ck n - fi n, by have := hsz.1; simp only [if_true] at this; omega⟩
        have hN1 : 1 ≤ N := by have := hsz.1; simp only [if_true] at this; omega
        have hst : off n (0 + 1) = off n 0 + (sz n 0 - ck n) := rfl
        have hmo := off_le (b := n) (show 0 + 1 ≤ bC n by omega)
        have ha0 : a = 0 := by rw [HAE.out]; simp [off]
        have hof0 : off n 0 = 0 := rfl
        have haN : a + N ≤ n := by omega
        have hdat : ((List.replicate (fi n) 0 ++ xs).drop (off n 0)).take (sz n 0 - ck n) = List.replicate (fi n) 0 ++ (xs.drop a).take N := by
          rw [ha0, List.drop_zero, hof0, full_zero (by omega)]; congr 2; omega
        have haS : a + N = off n (0 + 1) - fi n := by omega
        have hNI : (sz n 0 : Int) - (fi n : Int) = (N : Int) := by omega
        have hdc : decide ((1 : Int) < (bC n : Int)) = false := by simp; omega
        have hsl : ∀ W, (Instr.sliceAt 53 (.slice A n c) (some (.int .i64 (a : Int))) (some (.int .i64 ((a : Int) + N))) none).run Try.prog W = .ok (.slice (cut A c a) N (c - a)) W := fun W => by
          have := Rdv.slI HX3.out el53 .i64 .i64 (l := a) (m := a + N) (by omega) (by omega) (a : Int) ((a : Int) + N) rfl (by omega) W
          rwa [Nat.add_sub_cancel_left] at this
        have hRx : Rd .u8 w3 (cut A c a) N (c - a) ((xs.drop a).take N) := by
          have := Rd.cut_ HX3.out (l := a) (m := a + N) (by omega) haN
          rwa [Nat.add_sub_cancel_left, List.drop_take, Nat.add_sub_cancel_left] at this
        have hNl : N ≤ 6144 := by omega
        have HRX := Lib.hid hRx
        have HDAT := Lib.hid hdat
        have HAS := Lib.hid haS
        have hszl := hsz.2
        have hll : L.length < 20 := by rw [HLN.out]; omega
        clear hdat hRx haS hst hmo hsz ha0
        have E1 := Lib.hid e1
        clear e1
        clear hof0
        rw [show ((0 : Nat) : Int) = 0 from rfl]
        rw [show ((0 : Nat) : Int) = 0 from rfl] at hix
        have HBT := Lib.hid (show Bit (List.replicate (fi n) 0 ++ (xs.drop a).take N) from bit_app (bit_zeros _) (bit_take _ (bit_drop _ hb)))
        go_wp2_with (first
          | (at_make; refine list_of rfl fun K hK => wp_mk _ _ 53 rfl el53 rfl rfl (by omega) (by unfold maxLen; omega) ?_; intro Az w4 hOz hBz hAz; have HOZ := Lib.hid hOz; have HBZ := Lib.hid hBz; have hcz := Rd.cell (Rdv.below HS3.out (HB.out.trans (hBz.mono HB.out.size))) hlt; rw [gi_szs _ _ _ hlt] at hcz; obtain ⟨⟨c0, c1', c2, c3, c4, c5, c6⟩, -⟩ := Blk.seven (HL3.out.below (HB.out.trans (hBz.mono HB.out.size))); clear hOz hBz; refine hK _ _ ?_; clear hK K)
          | (at_builtin; refine list_of rfl fun K hK => wp_app (base := wr.heap.size) (.tmp 50) (.tmp 56) 53 rfl el53 rfl rfl HOZ.out (Rdv.below HRX.out (HB.out.trans (HBZ.out.mono HB.out.size))) (oneCell_ints .u8 _) (by omega) (by unfold maxLen; omega) HBZ.out.size ?_; intro A5 c5x w5 hO5 hg5; have HB5 := Lib.hid (HBZ.out.grown hg5 HBZ.out.size (fun k hk => Ownv.ob' HOZ.out hk)); have HO5 := Lib.hid (Own.of_eq (k := .u8) (xs := List.replicate (fi n) 0 ++ (xs.drop a).take N) hO5 (n' := fi n + N) rfl (by simp)); clear hO5 hg5; obtain ⟨⟨c0, c1', c2, c3, c4, c5, c6⟩, -⟩ := Blk.seven (HL3.out.below (HB.out.trans (HB5.out.mono HB.out.size))); refine hK _ _ ?_; clear hK K)
          | (at_builtin; refine list_of rfl fun K hK => wp_app1 (w := w5) (base := w3.heap.size) (.tmp 68) (.tmp 70) 55 rfl el55 rfl (.slice A5 (fi n + N) c5x) rfl rfl (HBL.out.below HB5.out).o (by omega) (by omega) (Nat.le_trans HB.out.size HB5.out.size) ?_; intro A8 c8x w8 hO8 hg8; have HO8 := Lib.hid hO8; have HG8 := Lib.hid hg8; clear hO8 hg8; refine hK _ _ ?_; clear hK K))
        have hseg : segB n (((List.replicate (fi n) 0 ++ xs).drop (off n 0)).take (sz n 0 - ck n)) = List.replicate (fi n) 0 ++ (xs.drop a).take N := by
          rw [HDAT.out]; unfold segB; rw [if_pos hq]
        have hA5 : A5 ≠ none := own_some HO5.out (q := 0) (by omega)
        have hge := (Ownv.blk_of HO5.out hA5).1
        have hBL2 : BL w8 w3.heap.size A8 c8x (L ++ [(⟨A5, fi n + N, c5x, List.replicate (fi n) 0 ++ (xs.drop a).take N⟩ : Sv)]) :=
          BL.push (HBL.out.below HB5.out) (s := (⟨A5, fi n + N, c5x, List.replicate (fi n) 0 ++ (xs.drop a).take N⟩ : Sv)) (Ownv.mono HO5.out HB.out.size) hA5 (fun t ht => by have h8 := (Ownv.blk_of (HBL.out.r t ht).1 (HBL.out.r t ht).2).2; exact Nat.ne_of_lt (Nat.lt_of_lt_of_le h8 hge)) HO8.out HG8.out
        have hB8 : Below w3.heap.size w3 w8 := (HB.out.trans (HB5.out.mono HB.out.size)).grown HG8.out (Nat.le_trans HB.out.size HB5.out.size) (fun k hk => Ownv.ob' (HBL.out.below HB5.out).o hk)
        go_roundw
        case rel => exact ⟨0 + 1, a + N, A8, c8x, L ++ [(⟨A5, fi n + N, c5x, List.replicate (fi n) 0 ++ (xs.drop a).take N⟩ : Sv)], by omega, by first | rfl | go_num, by go_num, HAS.out, by simp, hBL2, by simp [HLN.out], by rw [List.map_append, HX.out, segs_succ, hseg]; rfl, hB8⟩
        case measure => simp [intOf]; omega
      · have e1 := bC_two hq
        have ek : ck n = 24 := by unfold ck; rw [if_neg hq]
        by_cases hj0 : j = 0
        · subst hj0
          obtain ⟨N, hN⟩ : ∃ N, N + ck n + fi n = sz n 0 := ⟨sz n 0 - ck n - fi n, by have := hsz.1; simp only [if_true] at this; omega⟩
          have hN1 : 1 ≤ N := by have := hsz.1; simp only [if_true] at this; omega
          have hst : off n (0 + 1) = off n 0 + (sz n 0 - ck n) := rfl
          have hmo := off_le (b := n) (show 0 + 1 ≤ bC n by omega)
          have ha0 : a = 0 := by rw [HAE.out]; simp [off]
          have hof0 : off n 0 = 0 := rfl
          have haN : a + N ≤ n := by omega
          have hdat : ((List.replicate (fi n) 0 ++ xs).drop (off n 0)).take (sz n 0 - ck n) = List.replicate (fi n) 0 ++ (xs.drop a).take N := by
            rw [ha0, List.drop_zero, hof0, full_zero (by omega)]; congr 2; omega
          have haS : a + N = off n (0 + 1) - fi n := by omega
          have hNI : (sz n 0 : Int) - (fi n : Int) - 24 = (N : Int) := by omega
          have hNI0 : 0 ≤ (sz n 0 : Int) - (fi n : Int) ∧ (sz n 0 : Int) - (fi n : Int) ≤ 6144 := by omega
          have hdc : decide ((1 : Int) < (bC n : Int)) = true := by simp; omega
          have hsl : ∀ W, (Instr.sliceAt 53 (.slice A n c) (some (.int .i64 (a : Int))) (some (.int .i64 ((a : Int) + N))) none).run Try.prog W = .ok (.slice (cut A c a) N (c - a)) W := fun W => by
            have := Rdv.slI HX3.out el53 .i64 .i64 (l := a) (m := a + N) (by omega) (by omega) (a : Int) ((a : Int) + N) rfl (by omega) W
            rwa [Nat.add_sub_cancel_left] at this
          have hRx : Rd .u8 w3 (cut A c a) N (c - a) ((xs.drop a).take N) := by
            have := Rd.cut_ HX3.out (l := a) (m := a + N) (by omega) haN
            rwa [Nat.add_sub_cancel_left, List.drop_take, Nat.add_sub_cancel_left] at this
          have hNl : N ≤ 6144 := by omega
          have HRX := Lib.hid hRx
          have HDAT := Lib.hid hdat
          have HAS := Lib.hid haS
          have hszl := hsz.2
          have hll : L.length < 20 := by rw [HLN.out]; omega
          clear hdat hRx haS hst hmo hsz ha0
          have E1 := Lib.hid e1
          clear e1
          clear hof0
          rw [show ((0 : Nat) : Int) = 0 from rfl]
          rw [show ((0 : Nat) : Int) = 0 from rfl] at hix
          have HBT := Lib.hid (show Bit (List.replicate (fi n) 0 ++ (xs.drop a).take N) from bit_app (bit_zeros _) (bit_take _ (bit_drop _ hb)))
          go_wp2_with (first
            | (at_make; refine list_of rfl fun K hK => wp_mk _ _ 53 rfl el53 rfl rfl (by omega) (by unfold maxLen; omega) ?_; intro Az w4 hOz hBz hAz; have HOZ := Lib.hid hOz; have HBZ := Lib.hid hBz; have hcz := Rd.cell (Rdv.below HS3.out (HB.out.trans (hBz.mono HB.out.size))) hlt; rw [gi_szs _ _ _ hlt] at hcz; obtain ⟨⟨c0, c1', c2, c3, c4, c5, c6⟩, -⟩ := Blk.seven (HL3.out.below (HB.out.trans (hBz.mono HB.out.size))); clear hOz hBz; refine hK _ _ ?_; clear hK K)
            | (at_builtin; refine list_of rfl fun K hK => wp_app (base := wr.heap.size) (.tmp 50) (.tmp 56) 53 rfl el53 rfl rfl HOZ.out (Rdv.below HRX.out (HB.out.trans (HBZ.out.mono HB.out.size))) (oneCell_ints .u8 _) (by omega) (by unfold maxLen; omega) HBZ.out.size ?_; intro A5 c5x w5 hO5 hg5; have HB5 := Lib.hid (HBZ.out.grown hg5 HBZ.out.size (fun k hk => Ownv.ob' HOZ.out hk)); have HO5 := Lib.hid (Own.of_eq (k := .u8) (xs := List.replicate (fi n) 0 ++ (xs.drop a).take N) hO5 (n' := fi n + N) rfl (by simp)); clear hO5 hg5; obtain ⟨⟨c0, c1', c2, c3, c4, c5, c6⟩, -⟩ := Blk.seven (HL3.out.below (HB.out.trans (HB5.out.mono HB.out.size))); refine hK _ _ ?_; clear hK K)
            | (go_at_call 75; refine (rchk_any A5 _ c5x (List.replicate (fi n) 0 ++ (xs.drop a).take N) _ (Own.rd HO5.out) HBT.out (by omega)).mono ?_; rintro e w6 ⟨A6, c6x, rfl, hO6, hB6⟩; have HO6 := Lib.hid (Own.rd hO6); have HB6 := Lib.hid (HB5.out.trans (hB6.mono HB5.out.size)); have HO5b := Lib.hid (Ownv.below HO5.out hB6); clear hO6 hB6)
            | (at_builtin; refine list_of rfl fun K hK => wp_app (base := wr.heap.size) (.tmp 64) (.tmp 66) 53 rfl el53 rfl rfl HO5b.out HO6.out (oneCell_ints .u8 _) (by omega) (by unfold maxLen; omega) HB6.out.size ?_; intro A7 c7x w7 hO7 hg7; have HB7 := Lib.hid (HB6.out.grown hg7 HB6.out.size (fun k hk => Ownv.ob' HO5b.out hk)); have HO7 := Lib.hid (Own.of_eq (k := .u8) (xs := List.replicate (fi n) 0 ++ (xs.drop a).take N ++ crcSum 2 (List.replicate (fi n) 0 ++ (xs.drop a).take N)) hO7 (n' := fi n + N + 24) rfl (by simp)); clear hO7 hg7; refine hK _ _ ?_; clear hK K)
            | (at_builtin; refine list_of rfl fun K hK => wp_app1 (w := w7) (base := w3.heap.size) (.tmp 68) (.tmp 70) 55 rfl el55 rfl (.slice A7 (fi n + N + 24) c7x) rfl rfl (HBL.out.below HB7.out).o (by omega) (by omega) (Nat.le_trans HB.out.size HB7.out.size) ?_; intro A8 c8x w8 hO8 hg8; have HO8 := Lib.hid hO8; have HG8 := Lib.hid hg8; clear hO8 hg8; refine hK _ _ ?_; clear hK K))
          have hseg : segB n (((List.replicate (fi n) 0 ++ xs).drop (off n 0)).take (sz n 0 - ck n)) = List.replicate (fi n) 0 ++ (xs.drop a).take N ++ crcSum 2 (List.replicate (fi n) 0 ++ (xs.drop a).take N) := by
            rw [HDAT.out]; unfold segB; rw [if_neg hq]
          have hA7 : A7 ≠ none := own_some HO7.out (q := 0) (by omega)
          have hge := (Ownv.blk_of HO7.out hA7).1
          have hBL2 : BL w8 w3.heap.size A8 c8x (L ++ [(⟨A7, fi n + N + 24, c7x, List.replicate (fi n) 0 ++ (xs.drop a).take N ++ crcSum 2 (List.replicate (fi n) 0 ++ (xs.drop a).take N)⟩ : Sv)]) :=
            BL.push (HBL.out.below HB7.out) (s := (⟨A7, fi n + N + 24, c7x, List.replicate (fi n) 0 ++ (xs.drop a).take N ++ crcSum 2 (List.replicate (fi n) 0 ++ (xs.drop a).take N)⟩ : Sv)) (Ownv.mono HO7.out HB.out.size) hA7 (fun t ht => by have h8 := (Ownv.blk_of (HBL.out.r t ht).1 (HBL.out.r t ht).2).2; exact Nat.ne_of_lt (Nat.lt_of_lt_of_le h8 hge)) HO8.out HG8.out
          have hB8 : Below w3.heap.size w3 w8 := (HB.out.trans (HB7.out.mono HB.out.size)).grown HG8.out (Nat.le_trans HB.out.size HB7.out.size) (fun k hk => Ownv.ob' (HBL.out.below HB7.out).o hk)
          go_roundw
          case rel => exact ⟨0 + 1, a + N, A8, c8x, L ++ [(⟨A7, fi n + N + 24, c7x, List.replicate (fi n) 0 ++ (xs.drop a).take N ++ crcSum 2 (List.replicate (fi n) 0 ++ (xs.drop a).take N)⟩ : Sv)], by omega, by first | rfl | go_num, by go_num, HAS.out, by simp, hBL2, by simp [HLN.out], by rw [List.map_append, HX.out, segs_succ, hseg]; rfl, hB8⟩
          case measure => simp [intOf]; omega
        · have hj1 : 1 ≤ j := by omega
          obtain ⟨N, hN⟩ : ∃ N, N + ck n = sz n j := ⟨sz n j - ck n, by have := hsz.1; rw [if_neg (by omega)] at this; omega⟩
          have hN1 : 1 ≤ N := by have := hsz.1; rw [if_neg (by omega)] at this; omega
          have hst : off n (j + 1) = off n j + (sz n j - ck n) := rfl
          have hmo := off_le (b := n) (show j + 1 ≤ bC n by omega)
          have hf0 : fi n ≤ off n j := by
            have h9 := off_le (b := n) (show 1 ≤ j by omega)
            have h10 : off n 1 = 0 + (sz n 0 - ck n) := rfl
            have h11 := (sz_ge (i := 0) h1).1
            simp only [if_true] at h11; omega
          have ha0 := HAE.out
          have haN : a + N ≤ n := by omega
          have hdat : ((List.replicate (fi n) 0 ++ xs).drop (off n j)).take (sz n j - ck n) = (xs.drop a).take N := by
            rw [full_succ hf0, ha0]; congr 1; omega
          have haS : a + N = off n (j + 1) - fi n := by omega
          have hNI : (sz n j : Int) - 24 = (N : Int) := by omega
          have hdc : decide ((1 : Int) < (bC n : Int)) = true := by simp; omega
          have hsl : ∀ W, (Instr.sliceAt 53 (.slice A n c) (some (.int .i64 (a : Int))) (some (.int .i64 ((a : Int) + N))) none).run Try.prog W = .ok (.slice (cut A c a) N (c - a)) W := fun W => by
            have := Rdv.slI HX3.out el53 .i64 .i64 (l := a) (m := a + N) (by omega) (by omega) (a : Int) ((a : Int) + N) rfl (by omega) W
            rwa [Nat.add_sub_cancel_left] at this
          have hRx : Rd .u8 w3 (cut A c a) N (c - a) ((xs.drop a).take N) := by
            have := Rd.cut_ HX3.out (l := a) (m := a + N) (by omega) haN
            rwa [Nat.add_sub_cancel_left, List.drop_take, Nat.add_sub_cancel_left] at this
          have hNl : N ≤ 6144 := by omega
          have HRX := Lib.hid hRx
          have HDAT := Lib.hid hdat
          have HAS := Lib.hid haS
          have hszl := hsz.2
          have hll : L.length < 20 := by rw [HLN.out]; omega
          clear hdat hRx haS hst hmo hsz ha0
          have E1 := Lib.hid e1
          clear e1
          have hj0 : decide ((j : Int) = 0) = false := by simp; omega
          have hj1 : ((j : Int) == 0) = false := beq_f (by omega)
          have HBT := Lib.hid (show Bit ((xs.drop a).take N) from bit_take _ (bit_drop _ hb))
          go_wp2_with (first
            | (at_builtin; refine list_of rfl fun K hK => wp_app (base := wr.heap.size) (.tmp 50) (.tmp 56) 53 rfl el53 rfl rfl (Ownv.nilv 5 wr wr.heap.size) (Rdv.below HRX.out HB.out) (oneCell_ints .u8 _) (by omega) (by unfold maxLen; omega) (Below.refl wr.heap.size wr).size ?_; intro A5 c5x w5 hO5 hg5; have HB5 := Lib.hid ((Below.refl wr.heap.size wr).grown hg5 (Below.refl wr.heap.size wr).size (fun k hk => Ownv.ob' (Ownv.nilv 5 wr wr.heap.size) hk)); have HO5 := Lib.hid (Own.of_eq (k := .u8) (xs := (xs.drop a).take N) hO5 (n' := N) (Nat.zero_add N) (by simp)); clear hO5 hg5; obtain ⟨⟨c0, c1', c2, c3, c4, c5, c6⟩, -⟩ := Blk.seven (HL3.out.below (HB.out.trans (HB5.out.mono HB.out.size))); refine hK _ _ ?_; clear hK K)
            | (go_at_call 75; refine (rchk_any A5 _ c5x ((xs.drop a).take N) _ (Own.rd HO5.out) HBT.out (by omega)).mono ?_; rintro e w6 ⟨A6, c6x, rfl, hO6, hB6⟩; have HO6 := Lib.hid (Own.rd hO6); have HB6 := Lib.hid (HB5.out.trans (hB6.mono HB5.out.size)); have HO5b := Lib.hid (Ownv.below HO5.out hB6); clear hO6 hB6)
            | (at_builtin; refine list_of rfl fun K hK => wp_app (base := wr.heap.size) (.tmp 64) (.tmp 66) 53 rfl el53 rfl rfl HO5b.out HO6.out (oneCell_ints .u8 _) (by omega) (by unfold maxLen; omega) HB6.out.size ?_; intro A7 c7x w7 hO7 hg7; have HB7 := Lib.hid (HB6.out.grown hg7 HB6.out.size (fun k hk => Ownv.ob' HO5b.out hk)); have HO7 := Lib.hid (Own.of_eq (k := .u8) (xs := (xs.drop a).take N ++ crcSum 2 ((xs.drop a).take N)) hO7 (n' := N + 24) rfl (by simp)); clear hO7 hg7; refine hK _ _ ?_; clear hK K)
            | (at_builtin; refine list_of rfl fun K hK => wp_app1 (w := w7) (base := w3.heap.size) (.tmp 68) (.tmp 70) 55 rfl el55 rfl (.slice A7 (N + 24) c7x) rfl rfl (HBL.out.below HB7.out).o (by omega) (by omega) (Nat.le_trans HB.out.size HB7.out.size) ?_; intro A8 c8x w8 hO8 hg8; have HO8 := Lib.hid hO8; have HG8 := Lib.hid hg8; clear hO8 hg8; refine hK _ _ ?_; clear hK K))
          have hseg : segB n (((List.replicate (fi n) 0 ++ xs).drop (off n j)).take (sz n j - ck n)) = (xs.drop a).take N ++ crcSum 2 ((xs.drop a).take N) := by
            rw [HDAT.out]; unfold segB; rw [if_neg hq]
          have hA7 : A7 ≠ none := own_some HO7.out (q := 0) (by omega)
          have hge := (Ownv.blk_of HO7.out hA7).1
          have hBL2 : BL w8 w3.heap.size A8 c8x (L ++ [(⟨A7, N + 24, c7x, (xs.drop a).take N ++ crcSum 2 ((xs.drop a).take N)⟩ : Sv)]) :=
            BL.push (HBL.out.below HB7.out) (s := (⟨A7, N + 24, c7x, (xs.drop a).take N ++ crcSum 2 ((xs.drop a).take N)⟩ : Sv)) (Ownv.mono HO7.out HB.out.size) hA7 (fun t ht => by have h8 := (Ownv.blk_of (HBL.out.r t ht).1 (HBL.out.r t ht).2).2; exact Nat.ne_of_lt (Nat.lt_of_lt_of_le h8 hge)) HO8.out HG8.out
          have hB8 : Below w3.heap.size w3 w8 := (HB.out.trans (HB7.out.mono HB.out.size)).grown HG8.out (Nat.le_trans HB.out.size HB7.out.size) (fun k hk => Ownv.ob' (HBL.out.below HB7.out).o hk)
          go_roundw
          case rel => exact ⟨j + 1, a + N, A8, c8x, L ++ [(⟨A7, N + 24, c7x, (xs.drop a).take N ++ crcSum 2 ((xs.drop a).take N)⟩ : Sv)], by omega, by first | rfl | go_num, by go_num, HAS.out, by simp, hBL2, by simp [HLN.out], by rw [List.map_append, HX.out, segs_succ, hseg]; rfl, hB8⟩
          case measure => simp [intOf]; omega
    · obtain rfl : j = bC n := by omega
      go_wp2
      go_ret2
      exact ⟨A1, c1, L, rfl, HBL.out.mono HB3.out.size, HX.out, HB3.out.trans (HB.out.mono HB3.out.size)⟩
end Go.Proofs.Ytcbbkflnenkpgaa
