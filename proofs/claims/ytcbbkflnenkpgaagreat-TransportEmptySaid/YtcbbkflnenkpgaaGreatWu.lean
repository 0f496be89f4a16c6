/-
  The walk of the statement on empty and shorter transmissions. Condition: none.
-/
import Derived.Test.YtcbbkflnenkpgaaGreatWy
namespace Go.Proofs.YtcbbkflnenkpgaaGreat
open Go.RowKit Go.Shelf
set_option linter.unusedVariables false
attribute [local go_sem] Oper.semAt_some
theorem shN_one (g m : Nat) : shN 1 g m 0 = g * m := by
  unfold shN; rw [Nat.mod_one, if_pos (by omega), Nat.div_one]
/-- a transmission of few bits of a block that is one code block -/
theorem en_zero {sz bt md lm rv : Int} {xs : List Int} (hE : enE sz bt md lm rv xs = 0) (hs : sz ≤ 2000) : ∃ n g m r : Nat, sz = n ∧ bt = ((m * g : Nat) : Int) ∧ md = m ∧ rv = r ∧ xs.length = n ∧ n ≤ 2000 ∧ (m = 2 ∨ m = 4 ∨ m = 6) ∧ m * g ≤ 131072 ∧
    ∀ h, h ≤ g → enE n ((m * h : Nat) : Int) m lm r xs = 0 ∧ enD n ((m * h : Nat) : Int) m lm r xs = (enD n ((m * g : Nat) : Int) m lm r xs).take (m * h) ∧ (enD n ((m * h : Nat) : Int) m lm r xs).length = m * h := by
  by_cases hc : VC sz bt md lm rv = true ∧ (xs.length : Int) = sz
  · obtain ⟨hV, hn⟩ := hc
    obtain ⟨n, g, m, rfl, rfl, rfl, hs1, hs2, hm, hgm, hlm, hrv1, hrv2⟩ := VC_true hV
    obtain ⟨r, rfl⟩ := Int.eq_ofNat_of_zero_le hrv1
    have hl : xs.length = n := by omega
    refine ⟨n, g, m, r, rfl, rfl, rfl, rfl, hl, by omega, hm, hgm, fun h hh => ?_⟩
    have hC : bC (n + 24) = 1 := bC_one (by omega)
    have e := en_in hl hV (show 0 < m by omega)
    rw [e.1, hC] at hE
    have hVh : VC (n : Int) ((m * h : Nat) : Int) (m : Int) lm (r : Int) = true := by
      have h9 : m * h ≤ m * g := Nat.mul_le_mul_left m hh
      unfold VC
      rw [decide_eq_true_iff]
      refine ⟨by omega, by omega, by omega, by omega, by omega, ?_, hlm, by omega, by omega⟩
      rw [Int.natCast_mul]; exact Int.mul_emod_right _ _
    have eh := en_in hl hVh (show 0 < m by omega)
    unfold exE at hE
    split at hE
    · rename_i h0
      split at hE
      · cases hE
      · rename_i hb
        have hok : ∀ q, q < 1 → ¬ bad49 (n + 24) lm 1 g m q := fun q hq hx => hb (badX_t.2 ⟨q, hq, hx⟩)
        have hm9 : h * m ≤ g * m := Nat.mul_le_mul_right m hh
        have hokh : ∀ q, q < 1 → ¬ bad49 (n + 24) lm 1 h m q := fun q hq hx => by
          obtain rfl : q = 0 := by omega
          refine hok 0 hq ⟨hx.1, ?_⟩
          have h8 := hx.2
          rw [shN_one] at h8 ⊢
          omega
        have xo := ex_ok (rv := r) h0 hok
        have xh := ex_ok (rv := r) h0 hokh
        rw [e.2, eh.1, eh.2, hC, xo.2, xh.2]
        have hr := rowX_len (rv := r) (xs := xs) hlm (hokh 0 (by omega))
        refine ⟨xh.1, ?_, ?_⟩
        · show List.flatMap _ [0] = List.take _ (List.flatMap _ [0])
          simp only [List.flatMap_cons, List.flatMap_nil, List.append_nil]
          unfold rowX rowE
          rw [shN_one, shN_one, ← List.map_take, Nat.mul_comm m h, ← pick_le (bfE_len hlm) ?_ hm9]
          have h8 := hokh 0 (by omega)
          unfold bad49 at h8
          rw [uS_bfE, shN_one] at h8
          omega
        · show (List.flatMap _ [0]).length = _
          simp only [List.flatMap_cons, List.flatMap_nil, List.append_nil]
          rw [hr, shN_one, Nat.mul_comm]
    · contradiction
  · rw [(en_out hc).1] at hE; cases hE
set_option maxRecDepth 100000 in
set_option maxHeartbeats 2000000 in
theorem empty_law (sz bt md lm rv : Int) (l s a y ls : Int) (w : World) (hyy : 0 ≤ y ∧ y < 256) (hls : -9223372036854775808 ≤ ls ∧ ls ≤ 9223372036854775807) :
    Calls Tryz.prog 5 #[.agg #[.int .i64 sz, .int .i64 bt, .int .i64 md, .int .i64 lm, .int .i64 rv], .agg #[.int .i64 l, .int .u32 s, .int .i64 a, .int .u8 y], .int .i64 ls] w fun e w' => e = .returned (.bool true) ∧ Below w.heap.size w w' := by
  have HP := Lib.hid (fun W => bits15_any sz s a y W hyy)
  have HEN := Lib.hid (fun bt A n c xs W hx hy => enc_all sz bt md lm rv A n c xs W hx hy)
  have hc0 : Blk ((w.alloc (.cells [Value.int .i64 sz, .int .i64 bt, .int .i64 md, .int .i64 lm, .int .i64 rv].toArray 40)).alloc (.cells [Value.int .i64 l, .int .u32 s, .int .i64 a, .int .u8 y].toArray 24)) w.heap.size 40 [.int .i64 sz, .int .i64 bt, .int .i64 md, .int .i64 lm, .int .i64 rv] := (Blk.new w [.int .i64 sz, .int .i64 bt, .int .i64 md, .int .i64 lm, .int .i64 rv] 40 rfl).alloc (.cells [Value.int .i64 l, .int .u32 s, .int .i64 a, .int .u8 y].toArray 24)
  have hp0 : Blk ((w.alloc (.cells [Value.int .i64 sz, .int .i64 bt, .int .i64 md, .int .i64 lm, .int .i64 rv].toArray 40)).alloc (.cells [Value.int .i64 l, .int .u32 s, .int .i64 a, .int .u8 y].toArray 24)) (w.heap.size + 1) 24 [.int .i64 l, .int .u32 s, .int .i64 a, .int .u8 y] := Blk.new (w.alloc _) [.int .i64 l, .int .u32 s, .int .i64 a, .int .u8 y] 24 (by simp)
  have hc1 : Blk ((w.alloc (.cells [Value.int .i64 sz, .int .i64 bt, .int .i64 md, .int .i64 lm, .int .i64 rv].toArray 40)).alloc (.cells [Value.int .i64 sz, .int .u32 s, .int .i64 a, .int .u8 y].toArray 24)) w.heap.size 40 [.int .i64 sz, .int .i64 bt, .int .i64 md, .int .i64 lm, .int .i64 rv] := (Blk.new w [.int .i64 sz, .int .i64 bt, .int .i64 md, .int .i64 lm, .int .i64 rv] 40 rfl).alloc (.cells [Value.int .i64 sz, .int .u32 s, .int .i64 a, .int .u8 y].toArray 24)
  have hp1 : Blk ((w.alloc (.cells [Value.int .i64 sz, .int .i64 bt, .int .i64 md, .int .i64 lm, .int .i64 rv].toArray 40)).alloc (.cells [Value.int .i64 sz, .int .u32 s, .int .i64 a, .int .u8 y].toArray 24)) (w.heap.size + 1) 24 [.int .i64 sz, .int .u32 s, .int .i64 a, .int .u8 y] := Blk.new (w.alloc _) [.int .i64 sz, .int .u32 s, .int .i64 a, .int .u8 y] 24 (by simp)
  have HB1 := Lib.hid (((Below.refl _ w).alloc (Nat.le_refl _) (.cells [Value.int .i64 sz, .int .i64 bt, .int .i64 md, .int .i64 lm, .int .i64 rv].toArray 40)).alloc (by simp) (.cells [Value.int .i64 sz, .int .u32 s, .int .i64 a, .int .u8 y].toArray 24))
  have HC1 := Lib.hid hc1
  have k0 := hc0.cell (j := 0) (v := .int .i64 sz) rfl
  have k1 := hp0.cell (j := 0) (v := .int .i64 l) rfl
  have k2 := hp0.frozen 0
  clear hyy
  go_enter Tryz.func5, Tryz.ntmps5
  go_wp2_with (first
    | (refine ldrow (cs := [.int .i64 sz, .int .u32 s, .int .i64 a, .int .u8 y]) rfl 24 (.tmp 4) rfl rfl hp1 _ Tryz.underlying24 rfl (by kernel_rfl) ?_)
    | (go_at_call 7; refine (HP.out _).mono ?_; rintro e w1 ⟨mm, A1, xs, hm, rfl, hO1, hby, hB1⟩; have HO1 := Lib.hid (Own.rd hO1); have HBY1 := Lib.hid hby; have hc2 := HC1.out.below hB1; have HC2 := Lib.hid hc2; have HB2 := Lib.hid (HB1.out.trans (hB1.mono HB1.out.size)); clear hO1 hby hB1 hc0 hp0 hc1 hp1 k0 k1 k2)
    | (refine ldrow (cs := [.int .i64 sz, .int .i64 bt, .int .i64 md, .int .i64 lm, .int .i64 rv]) rfl 40 (.tmp 3) rfl rfl hc2 _ Tryz.underlying40 rfl (by kernel_rfl) ?_))
  refine (HEN.out bt A1 mm mm xs w1 HO1.out HBY1.out).mono ?_
  rintro e w3 ⟨A3, n3, c3, rfl, hO3, hB3⟩
  have HO13 := Lib.hid (Rdv.below HO1.out hB3)
  have HO3 := Lib.hid (Own.rd hO3)
  have hc3 := HC2.out.below hB3
  have HC3 := Lib.hid hc3
  have k0 := hc3.cell (j := 0) (v := .int .i64 sz) rfl
  have HB3 := Lib.hid (HB2.out.trans (hB3.mono HB2.out.size))
  clear hO3 hB3 HO1 hc2 hc3
  by_cases hE : enE sz bt md lm rv xs = 0
  · by_cases hs : sz ≤ 2000
    · by_cases hl0 : 0 ≤ ls
      · obtain ⟨n, g, m, r, rfl, rfl, rfl, rfl, hxl, hn, hm, hgm, hall⟩ := en_zero hE hs
        have HAL := Lib.hid hall
        obtain ⟨h, hh⟩ : ∃ h : Nat, h = if (g : Int) < ls then g else ls.toNat := ⟨_, rfl⟩
        have hhg : h ≤ g := by rw [hh]; split <;> omega
        have hmin : (if (g : Int) < ls then (g : Int) else ls) = (h : Int) := by rw [hh]; split <;> omega
        have HH := Lib.hid (hall h hhg)
        have HG := Lib.hid (hall g (Nat.le_refl g))
        have HZ := Lib.hid (hall 0 (Nat.zero_le g))
        have q1 : decide ((n : Int) > 2000) = false := by simp; omega
        have q2 : decide (ls < 0) = false := by simp; omega
        have qd : ((m * g : Nat) : Int).tdiv (m : Int) = (g : Int) := by rw [Int.natCast_mul, Int.mul_tdiv_cancel_left _ (by omega)]
        have qe : ((m * g : Nat) : Int) / (m : Int) = (g : Int) := by rw [Int.natCast_mul, Int.mul_ediv_cancel_left _ (by omega)]
        clear hE hall
        generalize hbt : ((m * g : Nat) : Int) = bt at *
        obtain ⟨d, hd⟩ : ∃ d, d = ((m * h : Nat) : Int) := ⟨_, rfl⟩
        have hmh : m * h ≤ m * g := Nat.mul_le_mul_left m hhg
        have qm : IntKind.i64.wrap ((h : Int) * (m : Int)) = d := by
          have e9 : (h : Int) * (m : Int) = d := by rw [hd, Int.natCast_mul, Int.mul_comm]
          rw [e9, IntKind.wrap_i64]; omega
        have hm0 : ¬ m = 0 := by omega
        have hgb : g ≤ 131072 := Nat.le_trans (Nat.le_mul_of_pos_left g (by omega)) hgm
        have qg : IntKind.i64.wrap (g : Int) = (g : Int) := by rw [IntKind.wrap_i64]; omega
        rw [← hd] at HH
        rw [HG.out.1]
        have hD0 : Blk (w3.alloc (.cells #[.int .i64 0, .int .i64 0, .int .i64 0, .int .i64 0, .int .i64 0] 40)) w3.heap.size 40 [.int .i64 0, .int .i64 0, .int .i64 0, .int .i64 0, .int .i64 0] := Blk.new w3 _ 40 rfl
        have hc3 := HC3.out
        have HM := Lib.hid hm
        have HBT := Lib.hid hbt
        have HMH := Lib.hid hmh
        clear hm hs hgm hbt hd hmh hh HAL
        go_wp2_with (first
          | (refine ldrow (cs := [.int .i64 (n : Int), .int .i64 bt, .int .i64 (m : Int), .int .i64 lm, .int .i64 (r : Int)]) rfl 40 (.tmp 3) rfl rfl hc3 _ Tryz.underlying40 rfl (by kernel_rfl) ?_)
          | (refine strow (cs := [.int .i64 (n : Int), .int .i64 bt, .int .i64 (m : Int), .int .i64 lm, .int .i64 (r : Int)]) rfl 40 (.tmp 10) (.tmp 38) rfl rfl rfl hD0 (by simp) (by kernel_rfl) (by simp [Value.oneCell']) ?_
             intro W4 g1 g2
             have hq := (Below.refl w3.heap.size w3).alloc (Nat.le_refl _) (.cells #[.int .i64 0, .int .i64 0, .int .i64 0, .int .i64 0, .int .i64 0] 40)
             have HB4 := Lib.hid (hq.grown g2 hq.size (fun k hk => by cases hk; exact Nat.le_refl _))
             have HD4 := Lib.hid g1
             clear g1 g2 hq hD0 k0 hc3))
        have HC4 := Lib.hid (HC3.out.below HB4.out)
        have kd : W4.drew.cell? ⟨w3.heap.size, 1, none⟩ = some (.int .i64 bt) := HD4.out.cell rfl
        have kf : W4.drew.frozen? ⟨w3.heap.size, 1, none⟩ = false := HD4.out.frozen 1
        have HS : Hid (Blk W4.drew w.heap.size 40 [.int .i64 (n : Int), .int .i64 bt, .int .i64 (m : Int), .int .i64 lm, .int .i64 (r : Int)]) := HC4
        refine Q_start (fun W => Blk W w.heap.size 40 [.int .i64 (n : Int), .int .i64 bt, .int .i64 (m : Int), .int .i64 lm, .int .i64 (r : Int)]) 11 12 ?_
        refine Q_W 0 39 1 (.int .i64 ls) rfl HS.out ?_
        simp only [s0, s1, s2]
        refine Q_W 1 40 3 (.pointer (some ⟨w.heap.size, 1, none⟩)) rfl HS.out ?_
        simp only [s0, s1, s2]
        refine Q_T 2 41 7 (.int .i64 bt) [9, 6, 5] rfl HS.out (.inl ⟨by rfl, fun W hS => by have h1 := hS.cell (j := 1) rfl; go_simp⟩) ?_
        simp only [s0, s1, s2]
        refine Q_W 3 42 15 (.pointer (some ⟨w.heap.size, 2, none⟩)) rfl HS.out ?_
        simp only [s0, s1, s2]
        refine Q_T 4 43 31 (.int .i64 (m : Int)) [9, 6, 5] rfl HS.out (.inl ⟨by rfl, fun W hS => by have h1 := hS.cell (j := 2) rfl; go_simp⟩) ?_
        simp only [s0, s1, s2]
        refine Q_W 5 44 63 (.int .i64 (g : Int)) rfl HS.out ?_
        simp only [s0, s1, s2]
        refine Q_W 6 45 127 (.int .i64 (h : Int)) rfl HS.out ?_ (hy := by exact .inl ⟨by rfl, fun _ _ => by go_simp⟩)
        simp only [s0, s1, s2]
        refine Q_W 7 46 255 (.pointer (some ⟨w.heap.size, 2, none⟩)) rfl HS.out ?_
        simp only [s0, s1, s2]
        refine Q_T 8 47 511 (.int .i64 (m : Int)) [9] rfl HS.out (.inl ⟨by rfl, fun W hS => by have h1 := hS.cell (j := 2) rfl; go_simp⟩) ?_
        simp only [s0, s1, s2]
        refine Q_W 9 48 1023 (.int .i64 d) rfl HS.out ?_
        simp only [s0, s1, s2]
        refine Q_W 10 49 2047 (.pointer (some ⟨w3.heap.size, 1, none⟩)) rfl HS.out ?_
        simp only [s0, s1, s2]
        refine Q_1 11 4095 rfl (fun K hK => ?_)
        go_simp
        refine hK _ _ ?_
        clear hK K
        refine Q_end ?_
        have HB5 : Hid (Below w3.heap.size w3 (W4.setCell ⟨w3.heap.size, 1, none⟩ (.int .i64 d)).drew) := Lib.hid ((HB4.out.setCell (p := ⟨w3.heap.size, 1, none⟩) (Nat.le_refl _) _).drew)
        have hD5 : Blk (W4.setCell ⟨w3.heap.size, 1, none⟩ (.int .i64 d)).drew w3.heap.size 40 [.int .i64 (n : Int), .int .i64 d, .int .i64 (m : Int), .int .i64 lm, .int .i64 (r : Int)] := (HD4.out.set 1 (.int .i64 d)).drew
        generalize (W4.setCell ⟨w3.heap.size, 1, none⟩ (.int .i64 d)).drew = W5 at *
        have HD5 := Lib.hid hD5
        have HX5 := Lib.hid (Rdv.below HO13.out HB5.out)
        clear kd kf HS HC4 HD4 HB4 HC2 hmin qd qe qm qg
        go_wp2_with (refine ldrow (cs := [.int .i64 (n : Int), .int .i64 d, .int .i64 (m : Int), .int .i64 lm, .int .i64 (r : Int)]) rfl 40 (.tmp 10) rfl rfl hD5 _ Tryz.underlying40 rfl (by kernel_rfl) ?_)
        refine (HEN.out d A1 mm mm xs W5 HX5.out HBY1.out).mono ?_
        rintro e w6 ⟨A4, n4, c4, rfl, hO4, hB6⟩
        rw [HH.out.1]
        have HD6 := Lib.hid (HD5.out.below hB6)
        have kd : w6.cell? ⟨w3.heap.size, 1, none⟩ = some (.int .i64 d) := HD6.out.cell rfl
        have kf : w6.frozen? ⟨w3.heap.size, 1, none⟩ = false := HD6.out.frozen 1
        have hd7 : Blk (w6.setCell ⟨w3.heap.size, 1, none⟩ (.int .i64 0)) w3.heap.size 40 [.int .i64 (n : Int), .int .i64 0, .int .i64 (m : Int), .int .i64 lm, .int .i64 (r : Int)] := HD6.out.set 1 (.int .i64 0)
        have HB7 : Hid (Below w3.heap.size w3 (w6.setCell ⟨w3.heap.size, 1, none⟩ (.int .i64 0))) := Lib.hid ((HB5.out.trans (hB6.mono HB5.out.size)).setCell (p := ⟨w3.heap.size, 1, none⟩) (Nat.le_refl _) _)
        have HR47 : Hid (Rd .u8 (w6.setCell ⟨w3.heap.size, 1, none⟩ (.int .i64 0)) A4 n4 c4 (enD (n : Int) d (m : Int) lm (r : Int) xs)) := Lib.hid (Rdv.grown (Own.rd hO4) (grownBy_set _ _ _ _) (fun hA e => by
          have h1 := (Ownv.blk_of hO4 hA).1
          have h2 := HD5.out.lt
          have h3 := Option.some.inj e
          omega))
        have HX7 := Lib.hid (Rdv.below HO13.out HB7.out)
        clear hO4 hB6 hD5
        go_wp2_with (refine ldrow (cs := [.int .i64 (n : Int), .int .i64 0, .int .i64 (m : Int), .int .i64 lm, .int .i64 (r : Int)]) rfl 40 (.tmp 10) rfl rfl hd7 _ Tryz.underlying40 rfl (by kernel_rfl) ?_)
        refine (HEN.out 0 A1 mm mm xs _ HX7.out HBY1.out).mono ?_
        rintro e w8 ⟨A5, n5, c5, rfl, hO5, hB8⟩
        have hz0 : ((m * 0 : Nat) : Int) = 0 := by simp
        have hz1 := HZ.out
        rw [hz0] at hz1
        rw [hz1.1]
        have h5 := Rd.len (Own.rd hO5)
        rw [hz1.2.2, Nat.mul_zero] at h5
        subst h5
        have HB8 := Lib.hid (HB7.out.trans (hB8.mono HB7.out.size))
        have HR48 := Lib.hid (Rdv.below HR47.out hB8)
        have HR38 := Lib.hid (Rdv.below HO3.out HB8.out)
        have HBW := Lib.hid (HB3.out.trans (HB8.out.mono HB3.out.size))
        have kb := (HC3.out.below HB8.out).cell (j := 1) (v := .int .i64 bt) rfl
        have l3 := Rd.len HR38.out
        have l4 := Rd.len HR48.out
        have hcap := Rdv.le HR38.out
        have hgb : ((m * g : Nat) : Int) = bt := HBT.out
        have h34 : n4 ≤ n3 := by
          rw [← l3, ← l4, HH.out.2.2, HG.out.2.2]; exact HMH.out
        have qb : ((n3 : Int) == bt) = true := beq_t (by rw [← l3, HG.out.2.2]; exact hgb)
        have ql : decide ((n4 : Int) ≤ (n3 : Int)) = true := by simp; exact h34
        have hsl := fun W => Rdv.slh HR38.out el53 .i64 (m := n4) (by omega) W
        have HRU := Lib.hid (Rd.upto HR38.out (m := n4) h34)
        have HEQ : Hid (enD (n : Int) d (m : Int) lm (r : Int) xs = (enD (n : Int) bt (m : Int) lm (r : Int) xs).take n4) := Lib.hid (by
          rw [← l4, HH.out.2.2]; exact HH.out.2.1)
        clear hz0 hz1 l3 l4 hcap hgb hO5 hB8 kd kf hd7 HG HH HZ HEN
        go_wp2_with fail
        refine (same_any A4 A3 n4 c4 n4 c3 _ _ w8 HR48.out HRU.out).mono ?_
        rintro e w9 ⟨he, q9, rfl⟩
        rw [decide_eq_true HEQ.out] at he
        subst he
        go_wp2_with fail
        refine (known_any _).mono ?_
        rintro e wz ⟨rfl, hBz⟩
        have HBX := Lib.hid ((HBW.out.trans (Qt.below ⟨q9, rfl⟩ w.heap.size)).trans (hBz.mono (HBW.out.trans (Qt.below ⟨q9, rfl⟩ w.heap.size)).size))
        clear hBz
        go_wp2
        go_ret
        exact ⟨rfl, HBX.out⟩
      · rw [hE]
        have q1 : decide (sz > 2000) = false := by simp; omega
        have q2 : decide (ls < 0) = true := by simp; omega
        go_wp2_with fail
        refine (known_any _).mono ?_
        rintro e wz ⟨rfl, hBz⟩
        have HBX := Lib.hid (HB3.out.trans (hBz.mono HB3.out.size))
        clear hBz
        go_wp2
        go_ret
        exact ⟨rfl, HBX.out⟩
    · rw [hE]
      have q1 : decide (sz > 2000) = true := by simp; omega
      go_wp2_with fail
      refine (known_any _).mono ?_
      rintro e wz ⟨rfl, hBz⟩
      have HBX := Lib.hid (HB3.out.trans (hBz.mono HB3.out.size))
      clear hBz
      go_wp2
      go_ret
      exact ⟨rfl, HBX.out⟩
  · have q0 := bne_t hE
    generalize enE sz bt md lm rv xs = E at *
    clear hE
    go_wp2_with fail
    refine (known_any _).mono ?_
    rintro e wz ⟨rfl, hBz⟩
    have HBX := Lib.hid (HB3.out.trans (hBz.mono HB3.out.size))
    clear hBz
    go_wp2
    go_ret
    exact ⟨rfl, HBX.out⟩
end Go.Proofs.YtcbbkflnenkpgaaGreat
