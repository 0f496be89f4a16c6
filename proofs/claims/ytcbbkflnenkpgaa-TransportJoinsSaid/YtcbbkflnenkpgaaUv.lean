/-
  Contract of known: the examples of the chapter hold. Condition: none.
-/
import Derived.Test.YtcbbkflnenkpgaaUs
namespace Go.Proofs.Ytcbbkflnenkpgaa
open Go.RowKit Go.Shelf
set_option linter.unusedVariables false
set_option maxRecDepth 100000 in
theorem uS0 : 0 < uS 6224 1000 0 := by decide +kernel
theorem uS1 : 0 < uS 6224 1000 1 := by decide +kernel
theorem kl16 (W : World) : Calls Try.prog 14 #[.int .i64 16] W fun e w' => e = .returned (.tuple #[.agg #[.int .i64 40, .int .i64 1, .int .i64 40, .int .i64 0, .int .i64 1, .int .i64 0, .int .i64 0], .int .i64 0]) ∧ Below W.heap.size W w' := by
  have h := lay_any 16 W
  rwa [show ly15 16 = ([40, 1, 40, 0, 1, 0, 0], 0) by decide +kernel] at h
theorem kl0 (W : World) : Calls Try.prog 14 #[.int .i64 0] W fun e w' => e = .returned (.tuple #[.agg #[.int .i64 0, .int .i64 0, .int .i64 0, .int .i64 0, .int .i64 0, .int .i64 0, .int .i64 0], .int .i64 2]) ∧ Below W.heap.size W w' := by
  have h := lay_any 0 W
  rwa [show ly15 0 = ([0, 0, 0, 0, 0, 0, 0], 2) by decide +kernel] at h
theorem ks22 (W : World) : Calls Try.prog 17 #[.agg #[.int .i64 6200, .int .i64 22, .int .i64 2, .int .i64 1, .int .i64 0]] W fun e w' => ∃ A c, e = .returned (.tuple #[.slice A 2 c, .int .i64 0]) ∧ Own .i64 3 w' W.heap.size A 2 c [10, 12] ∧ Below W.heap.size W w' :=
  shares_ok 6200 2 11 2 1 0 W (by decide) (by decide) (by decide) (by decide) (by decide) (by decide) (by decide)
theorem ks23 (W : World) : Calls Try.prog 17 #[.agg #[.int .i64 6200, .int .i64 23, .int .i64 2, .int .i64 1, .int .i64 0]] W fun e w' => e = .returned (.tuple #[.slice none 0 0, .int .i64 2]) ∧ Below W.heap.size W w' :=
  shares_bad 6200 23 2 1 0 W (by decide)
def K4 (W : World) (e : Ending) (w' : World) : Prop := ∃ A' c' s t, e = .returned (.tuple #[.slice A' 2 c', .int .i64 0]) ∧ BI w' W.heap.size A' c' [s, t] ∧ s.xs = [1, 2] ∧ t.xs = [3, 4] ∧ Below W.heap.size W w'
theorem ks4 (A : Option Addr) (c : Nat) (W : World) (h : Rd .i64 W A 4 c [1, 2, 3, 4]) : Calls Try.prog 20 #[.agg #[.int .i64 6200, .int .i64 4, .int .i64 2, .int .i64 1000, .int .i64 0], .slice A 4 c] W (K4 W) := by
  refine (tsplit_ok 6200 2 2 2 1000 0 A 4 c [1, 2, 3, 4] W (by decide) (by decide) (by decide) (by decide) (by decide) (by decide) (by decide) rfl h).mono ?_
  rintro e w' ⟨hB, ⟨⟨q, hq, hb⟩, rfl⟩ | ⟨hok, A', c', L, rfl, hBI, hxs⟩⟩
  · exfalso
    have h9 : uS 6224 1000 q = 0 := hb.1
    have h1 := uS0
    have h2 := uS1
    rcases (by omega : q = 0 ∨ q = 1) with rfl | rfl <;> omega
  · rw [show prtS [1, 2, 3, 4] 2 2 2 2 = [[1, 2], [3, 4]] by decide] at hxs
    have hl := congrArg List.length hxs
    simp only [List.length_map, List.length_cons, List.length_nil] at hl
    obtain ⟨s, t, rfl⟩ : ∃ s t, L = [s, t] := by match L, hl with | [s, t], _ => exact ⟨s, t, rfl⟩
    simp only [List.map_cons, List.map_nil, List.cons.injEq, and_true] at hxs
    exact ⟨A', c', s, t, rfl, hBI, hxs.1, hxs.2, hB⟩
theorem lit_rd (w : World) (xs : List Int) (n : Nat) (hn : n = xs.length) (hm : n ≤ maxLen) : Rd .i64 (w.alloc (.cells (xs.map (Value.int .i64)).toArray 3)) (some ⟨w.heap.size, 0, none⟩) n n xs := by
  have h := (Ownv.lit (base := 0) w (xs.map (Value.int .i64)).toArray 3 rfl (Nat.zero_le _) (by simpa using hn ▸ hm)).rd
  subst hn
  unfold Rd
  simpa using h
set_option maxRecDepth 100000 in
set_option maxHeartbeats 2000000 in
theorem known_any (w : World) : Calls Try.prog 16 #[] w fun e w' => e = .returned (.bool true) ∧ Below w.heap.size w w' := by
  go_enter Try.func16, Try.ntmps16
  go_wp2_with fail
  refine (kl16 _).mono ?_
  rintro e w1 ⟨rfl, hB1⟩
  have x1 : Blk (w1.alloc (.cells #[.int .i64 40, .int .i64 1, .int .i64 40, .int .i64 0, .int .i64 1, .int .i64 0, .int .i64 0] 23)) w1.heap.size 23 [.int .i64 40, .int .i64 1, .int .i64 40, .int .i64 0, .int .i64 1, .int .i64 0, .int .i64 0] := Blk.new w1 _ 23 rfl
  have hb1 := bal hB1 (.cells #[.int .i64 40, .int .i64 1, .int .i64 40, .int .i64 0, .int .i64 1, .int .i64 0, .int .i64 0] 23)
  go_wp2_with fail
  generalize w1.alloc (.cells #[.int .i64 40, .int .i64 1, .int .i64 40, .int .i64 0, .int .i64 1, .int .i64 0, .int .i64 0] 23) = W1 at *
  refine (kl0 _).mono ?_
  rintro e w2 ⟨rfl, hB2⟩
  have x2 := (x1.below hB2).alloc (.cells #[.int .i64 0, .int .i64 0, .int .i64 0, .int .i64 0, .int .i64 0, .int .i64 0, .int .i64 0] 23)
  have hb2 := bal (hb1.trans (hB2.mono hb1.size)) (.cells #[.int .i64 0, .int .i64 0, .int .i64 0, .int .i64 0, .int .i64 0, .int .i64 0, .int .i64 0] 23)
  clear hB1 hb1 x1 hB2
  go_wp2_with fail
  generalize w2.alloc (.cells #[.int .i64 0, .int .i64 0, .int .i64 0, .int .i64 0, .int .i64 0, .int .i64 0, .int .i64 0] 23) = W2 at *
  refine (ks22 _).mono ?_
  rintro e w3 ⟨A3, c3, rfl, hO3, hB3⟩
  have x3 := x2.below hB3
  have hb3 := hb2.trans (hB3.mono hb2.size)
  have R3 := Own.rd hO3
  clear x2 hb2 hB3 hO3
  go_wp2_with fail
  refine (ks23 _).mono ?_
  rintro e w4 ⟨rfl, hB4⟩
  have x4 := (x3.below hB4).alloc (.cells ([1, 2, 3, 4].map (Value.int .i64)).toArray 3)
  have hb4 := bal (hb3.trans (hB4.mono hb3.size)) (.cells ([1, 2, 3, 4].map (Value.int .i64)).toArray 3)
  have R4 := Rdv.alloc (Rdv.below R3 hB4) (.cells ([1, 2, 3, 4].map (Value.int .i64)).toArray 3)
  clear x3 hb3 R3 hB4
  go_wp2_with fail
  refine (ks4 _ 4 _ (lit_rd w4 [1, 2, 3, 4] 4 rfl (by unfold maxLen; omega))).mono ?_
  rintro e w5 ⟨A5, c5, s, t, rfl, hBI, hs, ht, hB5⟩
  have x5 := x4.below hB5
  have hb5 := hb4.trans (hB5.mono hb4.size)
  have R5 := Rdv.below R4 hB5
  have S5 := Own.rd (hBI.r s (by simp))
  have T5 := Own.rd (hBI.r t (by simp))
  rw [hs] at S5
  rw [ht] at T5
  have sn : s.n = 2 := by have := S5.len; exact this.symm
  have tn : t.n = 2 := by have := T5.len; exact this.symm
  have L5 := hBI.o.rd
  clear x4 hb4 R4 hB5 hBI hs ht
  have c1 := x5.cell (j := 1) (v := .int .i64 1) rfl
  have c2 := x5.cell (j := 2) (v := .int .i64 40) rfl
  have c6 := x5.cell (j := 6) (v := .int .i64 0) rfl
  go_wp2_with fail
  refine (same4_any A3 _ 2 c3 2 2 [10, 12] [10, 12] _ (Rdv.alloc R5 _) (lit_rd w5 [10, 12] 2 rfl (by unfold maxLen; omega))).mono ?_
  rintro e w6 ⟨rfl, hQ6⟩
  have h6 : Below w5.heap.size w5 w6 := ((Below.refl _ w5).alloc (Nat.le_refl _) _).trans ((hQ6.below _))
  have ca := (L5.below h6).at_ 0 s.v rfl
  have cb := (L5.below h6).at_ 1 t.v rfl
  have ix0 : ∀ W, (Instr.indexAt 41 (.slice A5 2 c5) (.int .i64 0)).run Try.prog W = .ok (.pointer (some (adr A5 0))) W := fun W => Rdv.ix L5 el41 (j := 0) (show 0 < 2 by decide) .i64 W
  have ix1 : ∀ W, (Instr.indexAt 41 (.slice A5 2 c5) (.int .i64 1)).run Try.prog W = .ok (.pointer (some (adr A5 1))) W := fun W => Rdv.ix L5 el41 (j := 1) (show 1 < 2 by decide) .i64 W
  have hsv : s.v = .slice s.A 2 s.c := by simp [Sv.v, sn]
  have htv : t.v = .slice t.A 2 t.c := by simp [Sv.v, tn]
  rw [hsv] at ca
  rw [htv] at cb
  rw [sn] at S5
  rw [tn] at T5
  have hb6 := hb5.trans (h6.mono hb5.size)
  have S6 := Rdv.below S5 h6
  have T6 := Rdv.below T5 h6
  clear c1 c2 c6 x5 hb5 R5 hsv htv sn tn S5 T5
  go_wp2_with fail
  refine (same4_any s.A _ 2 s.c 2 2 [1, 2] [1, 2] _ (Rdv.alloc S6 _) (lit_rd w6 [1, 2] 2 rfl (by unfold maxLen; omega))).mono ?_
  rintro e w7 ⟨rfl, hQ7⟩
  have h7 : Below w6.heap.size w6 w7 := ((Below.refl _ w6).alloc (Nat.le_refl _) _).trans ((hQ7.below _))
  have cb7 := cell_below cb h7
  have hb7 := hb6.trans (h7.mono hb6.size)
  have T7 := Rdv.below T6 h7
  clear ca cb S6 T6 h6 h7 hb6 hQ7 hQ6
  go_wp2_with fail
  refine (same4_any t.A _ 2 t.c 2 2 [3, 4] [3, 4] _ (Rdv.alloc T7 _) (lit_rd w7 [3, 4] 2 rfl (by unfold maxLen; omega))).mono ?_
  rintro e w8 ⟨rfl, hQ8⟩
  have hb8 := (bal hb7 _).trans (hQ8.below w.heap.size)
  have HB8 := Lib.hid hb8
  clear hb7 hb8 hQ8 cb7 T7 ix0 ix1
  go_wp2
  go_ret
  exact ⟨rfl, HB8.out⟩
end Go.Proofs.Ytcbbkflnenkpgaa
