/-
  Contract of works: the chapter's examples hold. Condition: none.
-/
import Derived.Test.YtmdjclfmhndjnaaCn
namespace Go.Proofs.Ytmdjclfmhndjnaa
open Go.RowKit
set_option linter.unusedVariables false
theorem mA0 (S P A B : Option Addr) (W : World) (h : In3 W oA S P A 4 4 1) (hb : Rd .u8 W B 1 1 [0]) : Calls Try.prog 24 #[.slice S 4 4, .slice P 4 4, .slice A 1 1, .slice B 1 1] W fun e w' => e = .returned (.tuple #[.int .i64 6, .int .i64 0]) ∧ Below W.heap.size W w' := by
  refine (metric_ok S P A B 4 4 1 1 oA [false] W h hb rfl oA_ok).mono ?_
  rintro e w' ⟨rfl, hB⟩
  exact ⟨by rw [show oA.mt [false] oA.s.length = 6 from oA_mt0], hB⟩
theorem mA1 (S P A B : Option Addr) (W : World) (h : In3 W oA S P A 4 4 1) (hb : Rd .u8 W B 1 1 [1]) : Calls Try.prog 24 #[.slice S 4 4, .slice P 4 4, .slice A 1 1, .slice B 1 1] W fun e w' => e = .returned (.tuple #[.int .i64 (-6), .int .i64 0]) ∧ Below W.heap.size W w' := by
  refine (metric_ok S P A B 4 4 1 1 oA [true] W h hb rfl oA_ok).mono ?_
  rintro e w' ⟨rfl, hB⟩
  exact ⟨by rw [show oA.mt [true] oA.s.length = -6 from oA_mt1], hB⟩
def DcIs (t e b : List Int) (E : Int) (w : World) (en : Ending) (w' : World) : Prop := ∃ d : Dc, en = .returned (.tuple #[d.val, .int .i64 E]) ∧ DcAt w' d ∧ d.t = t ∧ d.e = e ∧ d.b = b ∧ Below w.heap.size w w'
theorem dA (S P A : Option Addr) (W : World) (h : In3 W oA S P A 4 4 1) : Calls Try.prog 12 #[.slice S 4 4, .slice P 4 4, .slice A 1 1] W (DcIs [6] [0] [0] 0 W) := by
  refine (decode_all S P A 4 4 1 oA W h).mono ?_
  rintro e w' ⟨d, rfl, h1, h2, h3, h4, hB⟩
  exact ⟨d, by rw [Ob.err_ok oA_ok], h1, h2.trans oA_dec.1, h3.trans oA_dec.2.1, h4.trans oA_dec.2.2, hB⟩
theorem dB (S P A : Option Addr) (W : World) (h : In3 W oB S P A 4 4 1) : Calls Try.prog 12 #[.slice S 4 4, .slice P 4 4, .slice A 1 1] W (DcIs [-16] [-6] [1] 0 W) := by
  refine (decode_all S P A 4 4 1 oB W h).mono ?_
  rintro e w' ⟨d, rfl, h1, h2, h3, h4, hB⟩
  exact ⟨d, by rw [Ob.err_ok oB_ok], h1, h2.trans oB_dec.1, h3.trans oB_dec.2.1, h4.trans oB_dec.2.2, hB⟩
theorem dC (S P A : Option Addr) (W : World) (h : In3 W oC S P A 3 3 0) : Calls Try.prog 12 #[.slice S 3 3, .slice P 3 3, .slice A 0 0] W fun e w' => e = .returned (.tuple #[.agg zero28.toArray, .int .i64 2]) ∧ Below W.heap.size W w' := by
  refine (decode_bad S P A 3 3 0 oC W h (fun h => by have := h.1; simp [oC] at this)).mono ?_
  rintro e w' ⟨rfl, hB⟩
  exact ⟨by rw [oC_err], hB⟩
theorem list_ofg {P : Program} {w : World} {ops : Array Oper} {rest : List Oper} {o : Oper} {a : Act} {Q : Exit → Act → World → Prop} (hw : Region.wanted o (yielded ops a.tmps) = true) (h : ∀ K : Act → World → Prop, (∀ a w, wpList P ops Q rest a w → K a w) → o.wp P a w K Q) : wpList P ops Q (o :: rest) a w :=
  wpList_step fun K hK => by rw [if_pos hw]; exact h K hK
theorem ml (n : Nat) (h : n ≤ 10) : n ≤ maxLen := by unfold maxLen; omega
set_option maxRecDepth 100000 in
set_option maxHeartbeats 2000000 in
theorem works_any (w : World) : Calls Try.prog 10 #[] w fun e w' => e = .returned (.bool true) ∧ Below w.heap.size w w' := by
  have hs0 : Rd .i64 (w.alloc (.cells #[.int .i64 3, .int .i64 0, .int .i64 0, .int .i64 0] 3)) (some ⟨w.heap.size, 0, none⟩) 4 4 [3, 0, 0, 0] := lit_rd w [3, 0, 0, 0] (ml 4 (by omega)) rfl
  have hp0 : Rd .i64 ((w.alloc (.cells #[.int .i64 3, .int .i64 0, .int .i64 0, .int .i64 0] 3)).alloc (.cells #[.int .i64 1, .int .i64 0, .int .i64 0, .int .i64 0] 3)) (some ⟨w.heap.size + 1, 0, none⟩) 4 4 [1, 0, 0, 0] := lit_rd _ [1, 0, 0, 0] (ml 4 (by omega)) (by simp)
  have ha0 : ∀ (W : World) (v : Int) (N : Nat), N = W.heap.size → Rd .i64 (W.alloc (.cells #[.int .i64 v] 3)) (some ⟨N, 0, none⟩) 1 1 [v] := fun W v N hN => lit_rd W [v] (ml 1 (by omega)) hN
  have hb0 : ∀ (W : World) (v : Int) (N : Nat), N = W.heap.size → Rd .u8 (W.alloc (.cells #[.int .u8 v] 5)) (some ⟨N, 0, none⟩) 1 1 [v] := fun W v N hN => lit_rd W [v] (ml 1 (by omega)) hN
  have HB0 := Lib.hid (((Below.refl _ w).alloc (Nat.le_refl _) (.cells #[.int .i64 3, .int .i64 0, .int .i64 0, .int .i64 0] 3)).alloc (by simp) (.cells #[.int .i64 1, .int .i64 0, .int .i64 0, .int .i64 0] 3))
  have HS0 := Lib.hid (Rdv.alloc hs0 (.cells #[.int .i64 1, .int .i64 0, .int .i64 0, .int .i64 0] 3))
  have HP0 := Lib.hid hp0
  have HA0 := Lib.hid ha0
  have HBB0 := Lib.hid hb0
  clear hs0 hp0 ha0 hb0
  obtain ⟨w0, hw0⟩ : ∃ w0, w0 = (w.alloc (.cells #[.int .i64 3, .int .i64 0, .int .i64 0, .int .i64 0] 3)).alloc (.cells #[.int .i64 1, .int .i64 0, .int .i64 0, .int .i64 0] 3) := ⟨_, rfl⟩
  rw [← hw0] at HB0 HS0 HP0
  have HW0 := Lib.hid hw0
  have HZ0 := Lib.hid (show w0.heap.size = w.heap.size + 1 + 1 from by rw [hw0]; simp)
  clear hw0
  go_enter Try.func10, Try.ntmps10
  go_wp2_with fail
  rw [← HW0.out]
  have q1 := HBB0.out (w0.alloc (.cells #[.int .i64 2] 3)) 0 (w.heap.size + 1 + 1 + 1) (by rw [World.size_alloc, HZ0.out])
  have i1 : In3 ((w0.alloc (.cells #[.int .i64 2] 3)).alloc (.cells #[.int .u8 0] 5)) oA (some ⟨w.heap.size, 0, none⟩) (some ⟨w.heap.size + 1, 0, none⟩) (some ⟨w.heap.size + 1 + 1, 0, none⟩) 4 4 1 := ⟨Rdv.alloc (Rdv.alloc HS0.out _) _, Rdv.alloc (Rdv.alloc HP0.out _) _, Rdv.alloc (HA0.out w0 2 _ HZ0.out.symm) _⟩
  refine (mA0 _ _ _ _ _ i1 q1).mono ?_
  rintro e w1 ⟨rfl, hB1⟩
  have HB1 := Lib.hid (HB0.out.trans ((((Below.refl _ w0).alloc (Nat.le_refl _) _).alloc (by simp) _).trans (hB1.mono (by simp; omega)) |>.mono HB0.out.size))
  have HS1 := Lib.hid (Rdv.below i1.s hB1)
  have HP1 := Lib.hid (Rdv.below i1.p hB1)
  clear q1 i1 hB1
  go_wp2_with fail
  have q2 := HBB0.out (w1.alloc (.cells #[.int .i64 2] 3)) 1 (w1.heap.size + 1) (by rw [World.size_alloc])
  have i2 : In3 ((w1.alloc (.cells #[.int .i64 2] 3)).alloc (.cells #[.int .u8 1] 5)) oA (some ⟨w.heap.size, 0, none⟩) (some ⟨w.heap.size + 1, 0, none⟩) (some ⟨w1.heap.size, 0, none⟩) 4 4 1 := ⟨Rdv.alloc (Rdv.alloc HS1.out _) _, Rdv.alloc (Rdv.alloc HP1.out _) _, Rdv.alloc (HA0.out w1 2 _ rfl) _⟩
  refine (mA1 _ _ _ _ _ i2 q2).mono ?_
  rintro e w2 ⟨rfl, hB2⟩
  have HB2 := Lib.hid (HB1.out.trans ((((Below.refl _ w1).alloc (Nat.le_refl _) _).alloc (by simp) _).trans (hB2.mono (by simp; omega)) |>.mono HB1.out.size))
  have HS2 := Lib.hid (Rdv.below i2.s hB2)
  have HP2 := Lib.hid (Rdv.below i2.p hB2)
  clear q2 i2 hB2 HS1 HP1 HS0 HP0
  go_wp2_with fail
  have i3 : In3 (w2.alloc (.cells #[.int .i64 2] 3)) oA (some ⟨w.heap.size, 0, none⟩) (some ⟨w.heap.size + 1, 0, none⟩) (some ⟨w2.heap.size, 0, none⟩) 4 4 1 := ⟨Rdv.alloc HS2.out _, Rdv.alloc HP2.out _, HA0.out w2 2 _ rfl⟩
  refine (dA _ _ _ _ i3).mono ?_
  rintro e w3 ⟨d1, rfl, hd1, t1, e1, b1, hB3⟩
  have HB3 := Lib.hid (HB2.out.trans (((Below.refl _ w2).alloc (Nat.le_refl _) _).trans (hB3.mono (by simp)) |>.mono HB2.out.size))
  have HD1 := Lib.hid hd1
  have HT1 := Lib.hid (And.intro t1 (And.intro e1 b1))
  have h28 : Blk (w3.alloc (.cells #[.slice none 0 0, .slice none 0 0, .slice none 0 0] 28)) w3.heap.size 28 zero28 := Blk.new w3 zero28 28 rfl
  clear i3 hB3 hd1 t1 e1 b1 HS2 HP2
  go_wp2_with (refine strow (cs := [.slice d1.A1 d1.n1 d1.c1, .slice d1.A2 d1.n2 d1.c2, .slice d1.A3 d1.n3 d1.c3]) rfl 28 (.tmp 7) (.tmp 36) rfl rfl rfl h28 rfl (by rw [info28]; rfl) (by simp [Value.oneCell']) ?_; intro W4 h1 h2; have H41 := Lib.hid h1; have H42 := Lib.hid h2; clear h1 h2 h28)
  have hq4 : Below w3.heap.size w3 W4 := ((Below.refl _ w3).alloc (Nat.le_refl _) _).grown H42.out (by simp) (fun k hk => by cases hk; exact Nat.le_refl _)
  have HB4 := Lib.hid (HB3.out.trans (hq4.mono HB3.out.size))
  have HD4 := Lib.hid (HD1.out.below hq4)
  clear hq4 HD1 H42
  generalize w3.heap.size = b7 at *
  have s4 : ∀ (W : World) (N : Nat), N = W.heap.size → Rd .i64 (W.alloc (.cells #[.int .i64 (-8), .int .i64 0, .int .i64 0, .int .i64 0] 3)) (some ⟨N, 0, none⟩) 4 4 [-8, 0, 0, 0] := fun W N hN => lit_rd W [-8, 0, 0, 0] (ml 4 (by omega)) hN
  have i4 : In3 (((W4.alloc (.cells #[.int .i64 (-8), .int .i64 0, .int .i64 0, .int .i64 0] 3)).alloc (.cells #[.int .i64 (-8), .int .i64 0, .int .i64 0, .int .i64 0] 3)).alloc (.cells #[.int .i64 0] 3)) oB (some ⟨W4.heap.size, 0, none⟩) (some ⟨W4.heap.size + 1, 0, none⟩) (some ⟨W4.heap.size + 1 + 1, 0, none⟩) 4 4 1 :=
    ⟨Rdv.alloc (Rdv.alloc (s4 W4 _ rfl) _) _, Rdv.alloc (s4 (W4.alloc _) _ (by simp)) _, HA0.out _ 0 _ (by simp)⟩
  refine (dB _ _ _ _ i4).mono ?_
  rintro e w5 ⟨d2, rfl, hd2, t2, e2, b2, hB5⟩
  have hq5 : Below W4.heap.size W4 w5 := ((((Below.refl _ W4).alloc (Nat.le_refl _) _).alloc (by simp) _).alloc (by simp; omega) _).trans (hB5.mono (by simp; omega))
  have HB5 := Lib.hid (HB4.out.trans (hq5.mono HB4.out.size))
  have HD5 := Lib.hid (HD4.out.below hq5)
  have H51 := Lib.hid (H41.out.below hq5)
  have HE2 := Lib.hid hd2
  have HT2 := Lib.hid (And.intro t2 (And.intro e2 b2))
  have h28 : Blk (w5.alloc (.cells #[.slice none 0 0, .slice none 0 0, .slice none 0 0] 28)) w5.heap.size 28 zero28 := Blk.new w5 zero28 28 rfl
  clear i4 hB5 hd2 t2 e2 b2 s4 hq5 HD4 H41
  go_wp2_with (refine strow (cs := [.slice d2.A1 d2.n1 d2.c1, .slice d2.A2 d2.n2 d2.c2, .slice d2.A3 d2.n3 d2.c3]) rfl 28 (.tmp 9) (.tmp 43) rfl rfl rfl h28 rfl (by rw [info28]; rfl) (by simp [Value.oneCell']) ?_; intro W6 h1 h2; have H61 := Lib.hid h1; have H62 := Lib.hid h2; clear h1 h2 h28)
  have hq6 : Below w5.heap.size w5 W6 := ((Below.refl _ w5).alloc (Nat.le_refl _) _).grown H62.out (by simp) (fun k hk => by cases hk; exact Nat.le_refl _)
  have HB6 := Lib.hid (HB5.out.trans (hq6.mono HB5.out.size))
  have HD6 := Lib.hid (HD5.out.below hq6)
  have HE6 := Lib.hid (HE2.out.below hq6)
  have H63 := Lib.hid (H51.out.below hq6)
  clear hq6 HD5 HE2 H51 H62
  generalize w5.heap.size = b9 at *
  have s6 : ∀ (W : World) (N : Nat), N = W.heap.size → Rd .i64 (W.alloc (.cells #[.int .i64 1, .int .i64 0, .int .i64 0] 3)) (some ⟨N, 0, none⟩) 3 3 [1, 0, 0] := fun W N hN => lit_rd W [1, 0, 0] (ml 3 (by omega)) hN
  have i6 : In3 ((W6.alloc (.cells #[.int .i64 1, .int .i64 0, .int .i64 0] 3)).alloc (.cells #[.int .i64 1, .int .i64 0, .int .i64 0] 3)) oC (some ⟨W6.heap.size, 0, none⟩) (some ⟨W6.heap.size + 1, 0, none⟩) none 3 3 0 :=
    ⟨Rdv.alloc (s6 W6 _ rfl) _, s6 (W6.alloc _) _ (by simp), Rd.nilv _ _⟩
  refine (dC _ _ _ _ i6).mono ?_
  rintro e w7 ⟨rfl, hB7⟩
  have hq7 : Below W6.heap.size W6 w7 := (((Below.refl _ W6).alloc (Nat.le_refl _) _).alloc (by simp) _).trans (hB7.mono (by simp; omega))
  have h28 : Blk (w7.alloc (.cells #[.slice none 0 0, .slice none 0 0, .slice none 0 0] 28)) w7.heap.size 28 zero28 := Blk.new w7 zero28 28 rfl
  have HQ7 := Lib.hid hq7
  clear i6 s6 hB7 hq7
  unfold zero28
  go_wp2_with (refine strow (cs := zero28) rfl 28 (.tmp 11) (.tmp 49) rfl rfl rfl h28 rfl (by rw [info28]; rfl) zero28_one ?_; intro W8 h1 h2; have H82 := Lib.hid h2; clear h1 h2 h28)
  have hq8 : Below W6.heap.size W6 W8 := HQ7.out.trans ((((Below.refl _ w7).alloc (Nat.le_refl _) _).grown H82.out (by simp) (fun k hk => by cases hk; exact Nat.le_refl _)).mono HQ7.out.size)
  have HB8 := Lib.hid (HB6.out.trans (hq8.mono HB6.out.size))
  have HD8 := Lib.hid (HD6.out.below hq8)
  have HE8 := Lib.hid (HE6.out.below hq8)
  have H87 := Lib.hid (H63.out.below hq8)
  have H89 := Lib.hid (H61.out.below hq8)
  clear hq8 HQ7 HD6 HE6 H63 H61 H82
  have hb7 := H87.out
  have c4 : ∀ (d d' : Dc) (x y z : List Int) (W : World), DcAt W d → DcAt W d' → (d.t = x ∧ d.e = y ∧ d.b = z) → (d'.t = x ∧ d'.e = y ∧ d'.b = z) → Calls Try.prog 14 #[d.val, d'.val] W (EqP true W) := fun d d' x y z W h h' g g' => by
    have := equal_any d d' W h h'
    rw [g.1, g.2.1, g.2.2, g'.1, g'.2.1, g'.2.2, decide_eq_true rfl, decide_eq_true rfl, decide_eq_true rfl] at this
    exact this
  have HC4 := Lib.hid c4
  clear c4
  go_wp2_with (first
    | (go_at_call 15; refine (num_any _ _).mono ?_; rintro e w9 ⟨rfl, rfl⟩)
    | (refine list_ofg (by rfl) fun K hK => wp_ldrow (cs := [.slice d1.A1 d1.n1 d1.c1, .slice d1.A2 d1.n2 d1.c2, .slice d1.A3 d1.n3 d1.c3]) 28 (.tmp 7) rfl rfl hb7 _ Try.underlying28 rfl (by rw [info28]; rfl) ?_; refine hK _ _ ?_; clear hK K))
  have b3 : Below W8.heap.size W8 (((W8.alloc (.cells #[.int .i64 6] 3)).alloc (.cells #[.int .i64 0] 3)).alloc (.cells #[.int .u8 0] 5)) := (((Below.refl _ W8).alloc (Nat.le_refl _) _).alloc (by simp) _).alloc (by simp; omega) _
  have x1 : DcAt (((W8.alloc (.cells #[.int .i64 6] 3)).alloc (.cells #[.int .i64 0] 3)).alloc (.cells #[.int .u8 0] 5)) ⟨some ⟨W8.heap.size, 0, none⟩, 1, 1, [6], some ⟨W8.heap.size + 1, 0, none⟩, 1, 1, [0], some ⟨W8.heap.size + 1 + 1, 0, none⟩, 1, 1, [0]⟩ :=
    ⟨Rdv.alloc (Rdv.alloc (HA0.out W8 6 _ rfl) _) _, Rdv.alloc (HA0.out (W8.alloc _) 0 _ (by simp)) _, HBB0.out _ 0 _ (by simp), by simp⟩
  refine (HC4.out d1 _ [6] [0] [0] _ (HD8.out.below b3) x1 HT1.out ⟨rfl, rfl, rfl⟩).mono ?_
  rintro e w9 ⟨rfl, hB9⟩
  have hq9 : Below W8.heap.size W8 w9 := b3.trans (hB9.mono (by simp; omega))
  have HB9 := Lib.hid (HB8.out.trans (hq9.mono HB8.out.size))
  have HE9 := Lib.hid (HE8.out.below hq9)
  have hb9 := H89.out.below hq9
  clear b3 x1 hB9 hq9 hb7
  go_wp2_with (refine list_ofg (by rfl) fun K hK => wp_ldrow (cs := [.slice d2.A1 d2.n1 d2.c1, .slice d2.A2 d2.n2 d2.c2, .slice d2.A3 d2.n3 d2.c3]) 28 (.tmp 9) rfl rfl hb9 _ Try.underlying28 rfl (by rw [info28]; rfl) ?_; refine hK _ _ ?_; clear hK K)
  have b3 : Below w9.heap.size w9 (((w9.alloc (.cells #[.int .i64 (-16)] 3)).alloc (.cells #[.int .i64 (-6)] 3)).alloc (.cells #[.int .u8 1] 5)) := (((Below.refl _ w9).alloc (Nat.le_refl _) _).alloc (by simp) _).alloc (by simp; omega) _
  have x1 : DcAt (((w9.alloc (.cells #[.int .i64 (-16)] 3)).alloc (.cells #[.int .i64 (-6)] 3)).alloc (.cells #[.int .u8 1] 5)) ⟨some ⟨w9.heap.size, 0, none⟩, 1, 1, [-16], some ⟨w9.heap.size + 1, 0, none⟩, 1, 1, [-6], some ⟨w9.heap.size + 1 + 1, 0, none⟩, 1, 1, [1]⟩ :=
    ⟨Rdv.alloc (Rdv.alloc (HA0.out w9 (-16) _ rfl) _) _, Rdv.alloc (HA0.out (w9.alloc _) (-6) _ (by simp)) _, HBB0.out _ 1 _ (by simp), by simp⟩
  refine (HC4.out d2 _ [-16] [-6] [1] _ (HE9.out.below b3) x1 HT2.out ⟨rfl, rfl, rfl⟩).mono ?_
  rintro e w10 ⟨rfl, hB10⟩
  have HB10 := Lib.hid (HB9.out.trans ((b3.trans (hB10.mono (by simp; omega))).mono HB9.out.size))
  clear b3 x1 hB10 hb9
  go_wp2
  go_ret
  exact ⟨rfl, HB10.out⟩
end Go.Proofs.Ytmdjclfmhndjnaa
