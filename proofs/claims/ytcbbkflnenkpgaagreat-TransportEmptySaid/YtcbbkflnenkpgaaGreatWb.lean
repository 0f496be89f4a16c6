/-
  Contract of transport.Words. Condition: a slice of bytes that lies in memory, at most 79536 of them.
-/
import Derived.Test.YtcbbkflnenkpgaaGreatWa
namespace Go.Proofs.YtcbbkflnenkpgaaGreat
open Go.RowKit CM
set_option linter.unusedVariables false
theorem sz_vk (b i : Nat) : VK (sz b i : Int) := by
  unfold sz
  split
  · rename_i h
    by_cases hb : b ≤ 6144
    · have : shs b = 0 := by unfold shs; rw [if_pos hb]
      omega
    · unfold sh; rw [if_neg hb]; exact pv_vk av_le
  · exact nx_vk av_le
theorem vk_tu {k : Int} (h : VK k) : Tu.validK k = true := by
  unfold VK at h
  unfold Tu.validK
  rw [decide_eq_true_iff]
  omega
theorem segs_len {b : Nat} {full : List Int} (h1 : 1 ≤ b) (hf : full.length = off b (bC b)) : ∀ d ∈ segs b full (bC b), ∃ i, i < bC b ∧ d.length = sz b i := by
  intro d hd
  unfold segs at hd
  obtain ⟨i, hi, rfl⟩ := List.mem_map.1 hd
  have hi := List.mem_range.1 hi
  refine ⟨i, hi, segB_len h1 _ ?_⟩
  have h2 := off_le (b := b) (show i + 1 ≤ bC b by omega)
  have h3 : off b (i + 1) = off b i + (sz b i - ck b) := rfl
  rw [List.length_take, List.length_drop]; omega
theorem sD_vk {ys : List Int} : ∀ d ∈ sD ys, Tu.validK (d.length : Int) = true := by
  intro d hd
  unfold sD at hd
  split at hd
  · rename_i he
    have hl : 1 ≤ ys.length := by
      unfold sE at he
      split at he
      · cases he
      · omega
    obtain ⟨i, -, h⟩ := segs_len hl (by rw [List.length_append, List.length_replicate, off_all hl]; omega) d hd
    rw [h]
    exact vk_tu (sz_vk _ _)
  · simp at hd
theorem enc0_of {ys : List Int} {L : List Sv} (hl : L.map (·.xs) = sD ys) (hb : ∀ s ∈ L, Bit s.xs) : Enc0 L := fun s hs => by
  have h1 := hb s hs
  refine ⟨fun x hx => by rcases h1 x hx with rfl | rfl <;> decide, ?_⟩
  unfold Tu.encE
  rw [if_pos (sD_vk s.xs (by rw [← hl]; exact List.mem_map_of_mem hs)), show Tu.ValidB s.xs = ValidB s.xs from rfl, if_pos (bit_valid h1)]
/-- what Words gives -/
def WdAll (xs : List Int) (w : World) (e : Ending) (w' : World) : Prop := ∃ A' n' c' L, e = .returned (.tuple #[.slice A' n' c', .int .i64 (bE xs)]) ∧ n' = L.length ∧ BL w' w.heap.size A' c' L ∧ L.map (·.xs) = (bD xs).map Tu.encW ∧ Below w.heap.size w w'
theorem WdAll.bad {xs : List Int} {k : Int} {w w' : World} (hB : Below w.heap.size w w') (hk : bE xs = k) (h0 : k ≠ 0) : WdAll xs w (.returned (.tuple #[.slice none 0 0, .int .i64 k])) w' :=
  ⟨none, 0, 0, [], by rw [hk], rfl, BL.nil _ _, by unfold bD; rw [if_neg (by rw [hk]; exact h0)]; rfl, hB⟩
theorem wd_map {L L0 : List Sv} {ys : List Int} {xs : List Int} (h : L.map (·.xs) = L0.map (fun s => Tu.encW s.xs)) (h0 : L0.map (·.xs) = sD ys) (hD : bD xs = sD ys) : L.map (·.xs) = (bD xs).map Tu.encW := by
  rw [h, hD, ← h0, List.map_map]; rfl
set_option maxRecDepth 100000 in
set_option maxHeartbeats 1000000 in
theorem words_any (A : Option Addr) (n c : Nat) (xs : List Int) (w : World) (hx : Rd .u8 w A n c xs) (hy : Byt xs) (hn : n ≤ 79536) : Calls Tryz.prog 9 #[.slice A n c] w (WdAll xs w) := by
  have hl := hx.len
  have HLY := Lib.hid (fun W => lay_any n W)
  by_cases h1 : n < 1
  · have hb : bE xs = 2 := by unfold bE; rw [if_pos (by omega)]
    have HBD := Lib.hid (fun w' hB => WdAll.bad (w := w) (w' := w') hB hb (by decide))
    have hly : ly15 n = (zero7, 2) := by unfold ly15; rw [if_pos (by omega)]
    rw [hly] at HLY
    clear hb hly
    simp only [ints8, zero7, List.map_cons, List.map_nil] at HLY
    go_enter Tryz.func9, Tryz.ntmps9
    go_wp2_with fail
    refine (HLY.out _).mono ?_
    rintro e w1 ⟨rfl, hB1⟩
    have HB2 := Lib.hid (bal hB1 (.cells #[.int .i64 0, .int .i64 0, .int .i64 0, .int .i64 0, .int .i64 0, .int .i64 0, .int .i64 0] 51))
    clear hB1
    go_wp2
    go_ret2
    exact HBD.out _ HB2.out
  · have hly : ly15 n = (LY ((n : Int) + 24).toNat, 0) := by unfold ly15; rw [if_neg (by omega)]
    rw [hly] at HLY
    obtain ⟨ly, hl2⟩ : ∃ ly, ly = LY ((n : Int) + 24).toNat := ⟨_, rfl⟩
    have hl7 : ly.length = 7 := by rw [hl2]; rfl
    rw [← hl2] at HLY
    have HAT := Lib.hid (fun W h => attach_any 1 A n c xs W h (by omega))
    have HX := Lib.hid hx
    by_cases hv : ValidB xs = true
    · have hbit := bit_of (fun x hx => (hy x hx).1) hv
      have hb : bE xs = 0 := by unfold bE; rw [if_neg (by omega), if_pos hv]
      have e1 : cErr 1 xs = 0 := by unfold cErr; rw [if_neg (by decide), if_pos hv]
      have e2 : aRes 1 xs = xs ++ crcSum 1 xs := by unfold aRes; rw [if_neg (by decide), if_pos hv]
      rw [e1, e2] at HAT
      have hcl : (crcSum 1 xs).length = 24 := by rw [crcSum_len]; rfl
      have hcb : Bit (crcSum 1 xs) := bit_sum (by decide) hbit
      have hvb := validB_of_bit (bit_app hbit hcb)
      have hs : sE (xs ++ crcSum 1 xs) = 0 := by
        unfold sE
        rw [List.length_append, hcl, if_neg (by omega), if_pos hvb]
      have HSP := Lib.hid (fun X m c W h => split_all X m c (xs ++ crcSum 1 xs) W h (byt_bit (bit_app hbit hcb)))
      unfold SpAll at HSP
      rw [hs] at HSP
      unfold WdAll
      have HBD := Lib.hid (show bD xs = sD (xs ++ crcSum 1 xs) by unfold bD; rw [if_pos hb])
      have HTL := Lib.hid (show (xs ++ crcSum 1 xs).length = n + 24 by rw [List.length_append, hcl]; omega)
      rw [hb]
      clear hv hb e1 e2 hs hbit hx hy hvb hl2 hly hcb hcl
      obtain ⟨ys, hys⟩ : ∃ ys, ys = xs ++ crcSum 1 xs := ⟨_, rfl⟩
      rw [← hys] at HAT HSP HBD HTL
      clear hys
      go_enter Tryz.func9, Tryz.ntmps9
      go_wp2_with fail
      refine (HLY.out _).mono ?_
      rintro e w1 ⟨rfl, hB1⟩
      have hL0 : Blk (w1.alloc (.cells (ints8 zero7).toArray 51)) w1.heap.size 51 (ints8 zero7) := Blk.new w1 _ 51 rfl
      have HB1 := Lib.hid hB1
      clear hB1
      simp only [ints8, zero7, List.map_cons, List.map_nil] at hL0
      go_wp2_with (first
        | (refine strow (cs := ints8 ly) rfl 51 (.tmp 4) (.tmp 13) rfl rfl rfl hL0 (by simp [ints8, hl7]) (by rw [info23]; simp [ints8, hl7]) (ints8_one ly) ?_
           intro W2 g1 g2
           have hq := (Below.refl w1.heap.size w1).alloc (Nat.le_refl _) (.cells #[.int .i64 0, .int .i64 0, .int .i64 0, .int .i64 0, .int .i64 0, .int .i64 0, .int .i64 0] 51)
           have HB2 := Lib.hid (hq.grown g2 hq.size (fun k hk => by cases hk; exact Nat.le_refl _))
           have HX2 := Lib.hid (Rdv.below HX.out (HB1.out.trans (HB2.out.mono HB1.out.size)))
           clear g1 g2 hq hL0)
        | (go_at_call 18; refine (HAT.out W2 HX2.out).mono ?_; rintro e w3 ⟨A3, n3, c3, rfl, hO3, hB3⟩; have hn3 : n3 = n + 24 := (by have := Rd.len (Own.rd hO3); rw [HTL.out] at this; exact this.symm); subst hn3; have HR3 := Lib.hid (Own.rd hO3); have HB3 := Lib.hid hB3; clear hO3 hB3)
        | (go_at_call 19; refine (HSP.out A3 (n + 24) c3 w3 HR3.out).mono ?_; rintro e w4 ⟨A4, n4, c4, L, rfl, hS⟩; have HS := Lib.hid hS; clear hS))
      have HEN := Lib.hid (enc0_of HS.out.l HS.out.y)
      have HRL : Hid (RL w4 A4 n4 c4 L) := Lib.hid (by rw [HS.out.n]; exact HS.out.b.rl)
      have hfew : n4 ≤ 1000 := by have := HS.out.few; omega
      refine (each20_any A4 n4 c4 L w4 HRL.out HEN.out hfew).mono ?_
      rintro e w5 ⟨A5, c5, L5, rfl, hBL, hxs, hB5⟩
      have d2 := HB1.out.trans (HB2.out.mono HB1.out.size)
      have d3 := d2.trans (HB3.out.mono d2.size)
      have d4 := d3.trans (HS.out.k.mono d3.size)
      have HBL := Lib.hid (hBL.mono d4.size)
      have HXS := Lib.hid (wd_map hxs HS.out.l HBD.out)
      have HD5 := Lib.hid (d4.trans (hB5.mono d4.size))
      clear hBL hxs hB5 d2 d3 d4
      go_wp2
      go_ret2
      exact ⟨A5, _, c5, L5, rfl, rfl, HBL.out, HXS.out, HD5.out⟩
    · have hb : bE xs = 3 := by unfold bE; rw [if_neg (by omega), if_neg hv]
      have e1 : cErr 1 xs = 3 := by unfold cErr; rw [if_neg (by decide), if_neg hv]
      rw [e1] at HAT
      have HBD := Lib.hid (fun w' hB => WdAll.bad (w := w) (w' := w') hB hb (by decide))
      clear hv hb e1 hx hy hl2 hly
      go_enter Tryz.func9, Tryz.ntmps9
      go_wp2_with fail
      refine (HLY.out _).mono ?_
      rintro e w1 ⟨rfl, hB1⟩
      have hL0 : Blk (w1.alloc (.cells (ints8 zero7).toArray 51)) w1.heap.size 51 (ints8 zero7) := Blk.new w1 _ 51 rfl
      have HB1 := Lib.hid hB1
      clear hB1
      simp only [ints8, zero7, List.map_cons, List.map_nil] at hL0
      go_wp2_with (first
        | (refine strow (cs := ints8 ly) rfl 51 (.tmp 4) (.tmp 13) rfl rfl rfl hL0 (by simp [ints8, hl7]) (by rw [info23]; simp [ints8, hl7]) (ints8_one ly) ?_
           intro W2 g1 g2
           have hq := (Below.refl w1.heap.size w1).alloc (Nat.le_refl _) (.cells #[.int .i64 0, .int .i64 0, .int .i64 0, .int .i64 0, .int .i64 0, .int .i64 0, .int .i64 0] 51)
           have HB2 := Lib.hid (hq.grown g2 hq.size (fun k hk => by cases hk; exact Nat.le_refl _))
           have HX2 := Lib.hid (Rdv.below HX.out (HB1.out.trans (HB2.out.mono HB1.out.size)))
           clear g1 g2 hq hL0)
        | (go_at_call 18; refine (HAT.out W2 HX2.out).mono ?_; rintro e w3 ⟨A3, n3, c3, rfl, hO3, hB3⟩; have HB3 := Lib.hid hB3; clear hO3 hB3))
      have d2 := HB1.out.trans (HB2.out.mono HB1.out.size)
      have HD5 := Lib.hid (d2.trans (HB3.out.mono d2.size))
      go_ret2
      exact HBD.out _ HD5.out
end Go.Proofs.YtcbbkflnenkpgaaGreat
