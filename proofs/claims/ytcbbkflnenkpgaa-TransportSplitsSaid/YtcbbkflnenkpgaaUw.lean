/-
  A struct of five one-cell fields by value, opened and shut; the walk of the statement on shares. Condition: none.
-/
import Derived.Test.YtcbbkflnenkpgaaUt
import Derived.Test.YtcbbkflnenkpgaaUv
import Derived.Lib.SmallJoins
namespace Go.Proofs.Ytcbbkflnenkpgaa
open Go.Joins Go.ChangeShapes Go.WideShapes Go.RowKit Go.Deep Go.WideElems Go.Maps
set_option linter.unusedVariables false
section
variable {H : Type} {enc : TypeId × Value → H} {P : Program} {w : World} {base : Nat} {spare : Nat → Bool} {held : Bool}
theorem array5x {α : Type} {cs : Array α} (h : cs.size = 5) : ∃ c0 c1 c2 c3 c4, cs = #[c0, c1, c2, c3, c4] := by
  obtain ⟨l⟩ := cs
  match l, h with
  | [c0, c1, c2, c3, c4], _ => exact ⟨c0, c1, c2, c3, c4, rfl⟩
theorem trod_struct5 {t : TypeId} {f0 f1 f2 f3 f4 : Field} {fuel : Nat} {cs : List Value} {x : DataW H × List MemPlace} (ht : P.underlying t = some (.struct #[f0, f1, f2, f3, f4])) (h : DataW.trod enc P w base spare held fuel t cs = some x) :
    ∃ y0 y1 y2 y3 y4 n, x = (.agg [y0.1, y1.1, y2.1, y3.1, y4.1], y0.2 ++ (y1.2 ++ (y2.2 ++ (y3.2 ++ y4.2)))) ∧ cs.length = P.cellsOf t ∧ DataW.trod enc P w base spare held n f0.type ((cs.drop f0.offset).take (P.cellsOf f0.type)) = some y0 ∧ DataW.trod enc P w base spare held n f1.type ((cs.drop f1.offset).take (P.cellsOf f1.type)) = some y1 ∧ DataW.trod enc P w base spare held n f2.type ((cs.drop f2.offset).take (P.cellsOf f2.type)) = some y2 ∧ DataW.trod enc P w base spare held n f3.type ((cs.drop f3.offset).take (P.cellsOf f3.type)) = some y3 ∧ DataW.trod enc P w base spare held n f4.type ((cs.drop f4.offset).take (P.cellsOf f4.type)) = some y4 := by
  obtain ⟨xs, n, _, rfl, hl, hlen, hf⟩ := DataW.trod_struct ht h
  match xs, hlen with
  | [y0, y1, y2, y3, y4], _ => exact ⟨y0, y1, y2, y3, y4, n, by simp, hl, by simpa using hf 0 f0 rfl, by simpa using hf 1 f1 rfl, by simpa using hf 2 f2 rfl, by simpa using hf 3 f3 rfl, by simpa using hf 4 f4 rfl⟩
theorem trod_struct5_mk {t : TypeId} {f0 f1 f2 f3 f4 : Field} {n : Nat} {cs : List Value} {y0 y1 y2 y3 y4 : DataW H × List MemPlace} (ht : P.underlying t = some (.struct #[f0, f1, f2, f3, f4])) (hl : cs.length = P.cellsOf t)
    (h0 : DataW.trod enc P w base spare held n f0.type ((cs.drop f0.offset).take (P.cellsOf f0.type)) = some y0) (h1 : DataW.trod enc P w base spare held n f1.type ((cs.drop f1.offset).take (P.cellsOf f1.type)) = some y1) (h2 : DataW.trod enc P w base spare held n f2.type ((cs.drop f2.offset).take (P.cellsOf f2.type)) = some y2) (h3 : DataW.trod enc P w base spare held n f3.type ((cs.drop f3.offset).take (P.cellsOf f3.type)) = some y3) (h4 : DataW.trod enc P w base spare held n f4.type ((cs.drop f4.offset).take (P.cellsOf f4.type)) = some y4) :
    DataW.trod enc P w base spare held (n + 1) t cs = some (.agg [y0.1, y1.1, y2.1, y3.1, y4.1], y0.2 ++ (y1.2 ++ (y2.2 ++ (y3.2 ++ y4.2)))) := by
  have := trod_struct_mk (enc := enc) (w := w) (base := base) (spare := spare) (held := held) (n := n) (xs := [y0, y1, y2, y3, y4]) ht hl (by simp [h0, h1, h2, h3, h4])
  simpa using this
theorem open_agg5 {r : Reach} {b0 : Nat} {t : TypeId} {f0 f1 f2 f3 f4 : Field} {v : Value} {d : DataW H} {p : List MemPlace} (hs : P.underlying t = some (.struct #[f0, f1, f2, f3, f4])) (hone : oneCellFields P #[f0, f1, f2, f3, f4] = true) (hC : P.cellsOf t = 5)
    (hv : Value.okWide P w r b0 t v) (h : DataW.Trod enc P w base spare held t v d p) :
    ∃ (v0 v1 v2 v3 v4 : Value) (y0 y1 y2 y3 y4 : DataW H × List MemPlace) (n : Nat), v = .agg #[v0, v1, v2, v3, v4] ∧ d = .agg [y0.1, y1.1, y2.1, y3.1, y4.1] ∧ p = y0.2 ++ (y1.2 ++ (y2.2 ++ (y3.2 ++ y4.2))) ∧ DataW.trod enc P w base spare held n f0.type [v0] = some y0 ∧ DataW.trod enc P w base spare held n f1.type [v1] = some y1 ∧ DataW.trod enc P w base spare held n f2.type [v2] = some y2 ∧ DataW.trod enc P w base spare held n f3.type [v3] = some y3 ∧ DataW.trod enc P w base spare held n f4.type [v4] = some y4 := by
  obtain ⟨cs, rfl, hsz⟩ := okWide_struct hs hv
  obtain ⟨c0, c1, c2, c3, c4, rfl⟩ := array5x (hsz.trans hC)
  obtain ⟨fuel, hf⟩ := h
  obtain ⟨y0, y1, y2, y3, y4, n, hx, _, h0, h1, h2, h3, h4⟩ := trod_struct5 hs hf
  obtain ⟨o0, k0⟩ := hone_of hone 0 f0 rfl
  obtain ⟨o1, k1⟩ := hone_of hone 1 f1 rfl
  obtain ⟨o2, k2⟩ := hone_of hone 2 f2 rfl
  obtain ⟨o3, k3⟩ := hone_of hone 3 f3 rfl
  obtain ⟨o4, k4⟩ := hone_of hone 4 f4 rfl
  simp only [Prod.mk.injEq] at hx
  exact ⟨c0, c1, c2, c3, c4, y0, y1, y2, y3, y4, n, rfl, hx.1, hx.2, by simpa [Value.cells, o0, k0] using h0, by simpa [Value.cells, o1, k1] using h1, by simpa [Value.cells, o2, k2] using h2, by simpa [Value.cells, o3, k3] using h3, by simpa [Value.cells, o4, k4] using h4⟩
theorem shut_agg5 {t : TypeId} {f0 f1 f2 f3 f4 : Field} {v0 v1 v2 v3 v4 : Value} {y0 y1 y2 y3 y4 : DataW H × List MemPlace} (hs : P.underlying t = some (.struct #[f0, f1, f2, f3, f4])) (hone : oneCellFields P #[f0, f1, f2, f3, f4] = true) (hC : P.cellsOf t = 5)
    (t0 : ∃ n, DataW.trod enc P w base spare held n f0.type [v0] = some y0) (t1 : ∃ n, DataW.trod enc P w base spare held n f1.type [v1] = some y1) (t2 : ∃ n, DataW.trod enc P w base spare held n f2.type [v2] = some y2) (t3 : ∃ n, DataW.trod enc P w base spare held n f3.type [v3] = some y3) (t4 : ∃ n, DataW.trod enc P w base spare held n f4.type [v4] = some y4) :
    DataW.Trod enc P w base spare held t (.agg #[v0, v1, v2, v3, v4]) (.agg [y0.1, y1.1, y2.1, y3.1, y4.1]) (y0.2 ++ (y1.2 ++ (y2.2 ++ (y3.2 ++ y4.2)))) := by
  obtain ⟨n0, t0⟩ := t0
  obtain ⟨n1, t1⟩ := t1
  obtain ⟨n2, t2⟩ := t2
  obtain ⟨n3, t3⟩ := t3
  obtain ⟨n4, t4⟩ := t4
  obtain ⟨o0, k0⟩ := hone_of hone 0 f0 rfl
  obtain ⟨o1, k1⟩ := hone_of hone 1 f1 rfl
  obtain ⟨o2, k2⟩ := hone_of hone 2 f2 rfl
  obtain ⟨o3, k3⟩ := hone_of hone 3 f3 rfl
  obtain ⟨o4, k4⟩ := hone_of hone 4 f4 rfl
  have ts := trod_struct5_mk (enc := enc) (w := w) (base := base) (spare := spare) (held := held) (n := n0 + n1 + n2 + n3 + n4) (cs := [v0, v1, v2, v3, v4]) hs (by simp [hC])
    (by simpa [o0, k0] using DataW.trod_le (show n0 ≤ n0 + n1 + n2 + n3 + n4 by omega) t0) (by simpa [o1, k1] using DataW.trod_le (show n1 ≤ n0 + n1 + n2 + n3 + n4 by omega) t1) (by simpa [o2, k2] using DataW.trod_le (show n2 ≤ n0 + n1 + n2 + n3 + n4 by omega) t2) (by simpa [o3, k3] using DataW.trod_le (show n3 ≤ n0 + n1 + n2 + n3 + n4 by omega) t3) (by simpa [o4, k4] using DataW.trod_le (show n4 ≤ n0 + n1 + n2 + n3 + n4 by omega) t4)
  exact ⟨_, by simpa [Value.cells] using ts⟩
end

end Go.Proofs.Ytcbbkflnenkpgaa
namespace Go.Proofs.Ytcbbkflnenkpgaa
open Go.RowKit Go.Shelf
set_option linter.unusedVariables false
theorem shN_mod (C g m i : Nat) : shN C g m i % m = 0 := by unfold shN; split <;> exact Nat.mul_mod_left _ _
theorem shN_mono (C g m i j : Nat) (h : i ≤ j) : shN C g m i ≤ shN C g m j := by
  have h8 : g / C * m ≤ (g / C + 1) * m := Nat.mul_le_mul_right m (Nat.le_succ _)
  unfold shN; split <;> split <;> omega
theorem shN_lim (C g m i j : Nat) : shN C g m i ≤ shN C g m j + m := by
  have h8 : (g / C + 1) * m = g / C * m + m := by rw [Nat.add_mul, Nat.one_mul]
  unfold shN; split <;> split <;> omega
def SmI (W : World) (C g m : Nat) (s i : Value) (wr : World) : Prop := ∃ j : Nat, j ≤ C ∧ i = .int .i64 j ∧ s = .int .i64 (offS C g m j : Int) ∧ Qt W wr
set_option maxRecDepth 100000 in
set_option maxHeartbeats 2000000 in
theorem shares_law (sz bt md lm rv : Int) (w : World) : Calls Try.prog 4 #[.agg #[.int .i64 sz, .int .i64 bt, .int .i64 md, .int .i64 lm, .int .i64 rv]] w fun e w' => e = .returned (.bool true) ∧ Below w.heap.size w w' := by
  by_cases hV : VC sz bt md lm rv = true
  · obtain ⟨s, g, m, rfl, rfl, rfl, hs1, hs2, hm, hgm, hlm, hrv1, hrv2⟩ := VC_true hV
    obtain ⟨C, hC⟩ : ∃ C, C = bC (s + 24) := ⟨_, rfl⟩
    have H1 := Lib.hid (fun W => shares_ok s C g m lm rv W hs1 hs2 hC hm hgm hlm ⟨hrv1, hrv2⟩)
    have H2 := Lib.hid (fun W => rshares_ok s C g m lm rv W hs1 hs2 hC hm hgm hlm ⟨hrv1, hrv2⟩)
    have hC2 : C ≤ 13 := by rw [hC]; exact bC_le (by omega)
    have hC1 : 1 ≤ C := by rw [hC]; exact bC_pos
    have HO := Lib.hid (offS_all C g m hC1)
    have HOL := Lib.hid (fun j (h : j ≤ C) => offS_le (C := C) (g := g) (m := m) h)
    obtain ⟨bt, hbt⟩ : ∃ bt, bt = ((m * g : Nat) : Int) := ⟨_, rfl⟩
    have HBT := Lib.hid hbt
    rw [← hbt] at H1 H2 ⊢
    have hm1 : 2 ≤ m ∧ m ≤ 6 := by omega
    have HGM := Lib.hid hgm
    clear hV hC hbt hm hgm hlm hrv1 hrv2 hs1 hs2
    have HX := Lib.hid (shT_len C g m C)
    generalize hxs : shT C g m C = xs at *
    have HXS := Lib.hid hxs
    clear hxs
    have hc0 := Blk.new w [.int .i64 s, .int .i64 bt, .int .i64 m, .int .i64 lm, .int .i64 rv] 33 rfl
    have HC0 := Lib.hid hc0
    have HB0 := Lib.hid (bal (Below.refl _ w) (.cells [Value.int .i64 s, .int .i64 bt, .int .i64 m, .int .i64 lm, .int .i64 rv].toArray 33))
    go_enter Try.func4, Try.ntmps4
    go_wp2_with (first
      | (refine ldrow (cs := [.int .i64 s, .int .i64 bt, .int .i64 m, .int .i64 lm, .int .i64 rv]) rfl 33 (.tmp 1) rfl rfl hc0 _ Try.underlying33 rfl (by kernel_rfl) ?_)
      | (refine ldrow (cs := [.int .i64 s, .int .i64 bt, .int .i64 m, .int .i64 lm, .int .i64 rv]) rfl 33 (.tmp 1) rfl rfl hc1 _ Try.underlying33 rfl (by kernel_rfl) ?_)
      | (go_at_call 17; refine (H1.out _).mono ?_; rintro e w1 ⟨A1, c1, rfl, hO1, hB1⟩; have hc1 := HC0.out.below hB1; have HC1 := Lib.hid hc1; have HR1 := Lib.hid (Own.rd hO1); have HB1 := Lib.hid (HB0.out.trans (hB1.mono HB0.out.size)); clear hc0 hO1 hB1)
      | (go_at_call 18; refine (H2.out _).mono ?_; rintro e w2 ⟨A2, c2, rfl, hO2, hB2⟩; have HC2 := Lib.hid (HC1.out.below hB2); have HR12 := Lib.hid (Rdv.below HR1.out hB2); have HR2 := Lib.hid (Own.rd hO2); have HB2 := Lib.hid (HB1.out.trans (hB2.mono HB1.out.size)); clear hc1 hO2 hB2)
      | (go_at_call 19; refine (same4_any A1 A2 C c1 C c2 xs xs _ HR12.out HR2.out).mono ?_; rintro e w3 ⟨he, q, rfl⟩; rw [decide_eq_true rfl] at he; subst he))
    generalize hW3 : w2.drewN q = W3
    have HR3 : Hid (Rd .i64 W3 A1 C c1 xs) := Lib.hid (by rw [← hW3]; exact Rdv.drewN HR12.out q)
    have HC3 : Hid (Blk W3 w.heap.size 33 [.int .i64 s, .int .i64 bt, .int .i64 m, .int .i64 lm, .int .i64 rv]) := Lib.hid (by rw [← hW3]; exact HC2.out.drewN q)
    have HB3 : Hid (Below w.heap.size w W3) := Lib.hid (by rw [← hW3]; exact HB2.out.trans (Qt.below ⟨q, rfl⟩ _))
    clear hW3 HC2 HC1 HC0 HR12 HR1 HR2 HB2 HB1 HB0 H1 H2
    go_loopw [7, 8] (fun sv i wr => SmI W3 C g m sv i wr) (fun _ i _ => C - (intOf i).toNat)
    case atStart => exact ⟨0, by omega, rfl, rfl, Qt.refl _⟩
    case round =>
      obtain ⟨j, hj, rfl, rfl, hQ⟩ := hrel
      have HQ := Lib.hid hQ
      obtain ⟨q9, rfl⟩ := hQ
      have hR9 := HR3.out
      have hC9 := HC3.out
      have cm := hC9.cell (j := 2) (v := .int .i64 m) rfl
      have cb := hC9.cell (j := 1) (v := .int .i64 bt) rfl
      have HB9 : Hid (Below w.heap.size w (W3.drewN q9)) := Lib.hid (HB3.out.trans (Qt.below ⟨q9, rfl⟩ _))
      have hoff := HOL.out j hj
      rw [HO.out] at hoff
      by_cases hlt : j < C
      · have hget : ∀ k, k < C → W3.cell? (adr A1 k) = some (.int .i64 (shN C g m k : Int)) := fun k hk => by
          have h7 := Rd.cell hR9 (j := k) hk
          rw [← HXS.out, shT_gi _ _ _ _ _ hk, shr_cast] at h7
          exact h7
        have hxx : ∀ k, k < C → ∀ W, (Instr.indexAt 34 (.slice A1 C c1) (.int .i64 (k : Int))).run Try.prog W = .ok (.pointer (some (adr A1 k))) W := fun k hk W => Rdv.ix hR9 el34 hk .i64 W
        have cj := hget j hlt
        have c0 := hget 0 (by omega)
        have ij := hxx j hlt
        have i0 : ∀ W, (Instr.indexAt 34 (.slice A1 C c1) (.int .i64 0)).run Try.prog W = .ok (.pointer (some (adr A1 0))) W := hxx 0 (by omega)
        have hoff2 := HOL.out (j + 1) (by omega)
        rw [HO.out] at hoff2
        have hstep : offS C g m (j + 1) = offS C g m j + shN C g m j := rfl
        have hmod := shN_mod C g m j
        have hlim := shN_lim C g m j 0
        obtain ⟨u, hu⟩ : ∃ u, u = shN C g m j := ⟨_, rfl⟩
        obtain ⟨z, hz⟩ : ∃ z, z = shN C g m 0 := ⟨_, rfl⟩
        have HZB : Hid (z ≤ 900000) := Lib.hid (by have h7 := shN_mono C g m 0 j (by omega); have h8 := HOL.out (j + 1) (by omega); rw [HO.out] at h8; have h9 := HGM.out; have h10 : offS C g m (j + 1) = offS C g m j + shN C g m j := rfl; omega)
        obtain ⟨o, ho⟩ : ∃ o, o = offS C g m j := ⟨_, rfl⟩
        rw [← hu] at cj hmod hlim hstep
        rw [← hz] at c0 hlim
        have HST : Hid (offS C g m (j + 1) = o + u) := Lib.hid (by rw [ho]; exact hstep)
        have hou : o + u ≤ 131072 := by have := HGM.out; omega
        have hmi : (u : Int) % (m : Int) = 0 := by have : ((u % m : Nat) : Int) = 0 := by rw [hmod]; rfl
                                                   simpa using this
        have hmt : (u : Int).tmod (m : Int) = 0 := by rw [Int.tmod_eq_emod_of_nonneg (by omega)]; exact hmi
        rw [← ho]
        have hmne : ¬ m = 0 := by omega
        by_cases hj0 : 0 < j
        · have cp := hget (j - 1) (by omega)
          have ip : ∀ W, (Instr.indexAt 34 (.slice A1 C c1) (.int .i64 ((j : Int) - 1))).run Try.prog W = .ok (.pointer (some (adr A1 (j - 1)))) W := fun W => by
            have h7 := hxx (j - 1) (by omega) W
            rw [show (((j - 1 : Nat) : Nat) : Int) = (j : Int) - 1 by omega] at h7
            exact h7
          have hmon := shN_mono C g m (j - 1) j (by omega)
          rw [← hu] at hmon
          obtain ⟨p, hp⟩ : ∃ p, p = shN C g m (j - 1) := ⟨_, rfl⟩
          rw [← hp] at hmon cp
          have hjw : IntKind.i64.wrap ((j : Int) - 1) = (j : Int) - 1 := by rw [IntKind.wrap_i64]; omega
          have q1 : decide (0 < (j : Int)) = true := by simp; omega
          have q2 : decide (u < p) = false := by simp; omega
          have hzm : IntKind.i64.wrap ((z : Int) + (m : Int)) = (z : Int) + m := by rw [IntKind.wrap_i64]; have := HZB.out; omega
          have q3 : decide ((z : Int) + (m : Int) < (u : Int)) = false := by simp; omega
          clear hu hz hp hmod ho hget hxx hoff hoff2 hstep
          go_wp2_with fail
          go_quiet (fail)
          go_wp2
          go_roundw
          case rel => exact ⟨j + 1, by omega, by go_num, by rw [HST.out]; push_cast; rfl, by rw [← World.drewN_drewN]; exact HQ.out.drewN _⟩
          case measure => simp [intOf]; omega
        · have ej : j = 0 := by omega
          subst ej
          clear hu hz hmod ho hget hxx hoff hoff2 hstep hj0 ij c0
          go_wp2_with fail
          go_quiet (fail)
          go_wp2
          go_roundw
          case rel => exact ⟨1, by omega, by go_num, by rw [HST.out]; push_cast; rfl, by rw [← World.drewN_drewN]; exact HQ.out.drewN _⟩
          case measure => simp [intOf]; omega
      · obtain rfl : j = C := by omega
        have HE : Hid (((offS j g m j : Nat) : Int) = bt) := Lib.hid (by rw [HO.out, HBT.out])
        rw [HE.out]
        clear hoff
        go_wp2_with fail
        refine (known_any _).mono ?_
        rintro e w9 ⟨rfl, hB9⟩
        have HBX := Lib.hid (HB9.out.trans (hB9.mono HB9.out.size))
        clear hB9
        go_wp2
        go_ret
        exact ⟨rfl, HBX.out⟩
  · have H1 := Lib.hid (fun W => shares_bad sz bt md lm rv W (by simpa using hV))
    have H2 := Lib.hid (fun W => rshares_bad sz bt md lm rv W (by simpa using hV))
    clear hV
    have hc0 := Blk.new w [.int .i64 sz, .int .i64 bt, .int .i64 md, .int .i64 lm, .int .i64 rv] 33 rfl
    have HC0 := Lib.hid hc0
    have HB0 := Lib.hid (bal (Below.refl _ w) (.cells [Value.int .i64 sz, .int .i64 bt, .int .i64 md, .int .i64 lm, .int .i64 rv].toArray 33))
    go_enter Try.func4, Try.ntmps4
    go_wp2_with (first
      | (refine ldrow (cs := [.int .i64 sz, .int .i64 bt, .int .i64 md, .int .i64 lm, .int .i64 rv]) rfl 33 (.tmp 1) rfl rfl hc0 _ Try.underlying33 rfl (by kernel_rfl) ?_)
      | (refine ldrow (cs := [.int .i64 sz, .int .i64 bt, .int .i64 md, .int .i64 lm, .int .i64 rv]) rfl 33 (.tmp 1) rfl rfl hc1 _ Try.underlying33 rfl (by kernel_rfl) ?_)
      | (go_at_call 17; refine (H1.out _).mono ?_; rintro e w1 ⟨rfl, hB1⟩; have hc1 := HC0.out.below hB1; have HB1 := Lib.hid (HB0.out.trans (hB1.mono HB0.out.size)); clear hc0 hB1)
      | (go_at_call 18; refine (H2.out _).mono ?_; rintro e w2 ⟨rfl, hB2⟩; have HB2 := Lib.hid (HB1.out.trans (hB2.mono HB1.out.size)); clear hc1 hB2)
      | (go_at_call 19; refine (same4_any none none 0 0 0 0 [] [] _ (Rd.nilv _ _) (Rd.nilv _ _)).mono ?_; rintro e w3 ⟨he, q, rfl⟩; rw [decide_eq_true rfl] at he; subst he))
    go_loopw [7, 8] (fun sv i wr => sv = .int .i64 0 ∧ i = .int .i64 0 ∧ wr = w2.drewN q) (fun _ i _ => 0)
    case atStart => exact ⟨rfl, rfl, rfl⟩
    case round =>
      obtain ⟨rfl, rfl, rfl⟩ := hrel
      go_wp2_with fail
      refine (known_any _).mono ?_
      rintro e w9 ⟨rfl, hB9⟩
      have hq2 : Below w.heap.size w (w2.drewN q) := HB2.out.trans (Qt.below ⟨q, rfl⟩ _)
      have HBX := Lib.hid (hq2.trans (hB9.mono hq2.size))
      clear hB9
      go_wp2
      go_ret
      exact ⟨rfl, HBX.out⟩
end Go.Proofs.Ytcbbkflnenkpgaa
