/-
  Contract of transport.Split. Condition: a slice that lies in memory, at most 200000 values.
-/
import Derived.Test.YtcbbkflnenkpgaaUp
import Derived.Test.YtcbbkflnenkpgaaUr
namespace Go.Proofs.Ytcbbkflnenkpgaa
open Go.RowKit Go.Shelf
set_option linter.unusedVariables false
theorem VC_true {sz bt md lm rv : Int} (h : VC sz bt md lm rv = true) : ∃ s g m : Nat, sz = s ∧ md = m ∧ bt = ((m * g : Nat) : Int) ∧ 1 ≤ s ∧ s ≤ 79536 ∧ (m = 2 ∨ m = 4 ∨ m = 6) ∧ m * g ≤ 131072 ∧ 1 ≤ lm ∧ 0 ≤ rv ∧ rv ≤ 3 := by
  unfold VC at h
  rw [decide_eq_true_iff] at h
  obtain ⟨h1, h2, h3, h4, h5, h6, h7, h8, h9⟩ := h
  have e : bt = md * (bt / md) := by have := Int.emod_add_mul_ediv bt md; omega
  have hq : 0 ≤ bt / md := Int.ediv_nonneg h4 (by omega)
  have e2 : bt = ((md.toNat * (bt / md).toNat : Nat) : Int) := by
    rw [Int.natCast_mul, show ((md.toNat : Nat) : Int) = md by omega, show (((bt / md).toNat : Nat) : Int) = bt / md by omega]; exact e
  refine ⟨sz.toNat, (bt / md).toNat, md.toNat, by omega, by omega, e2, by omega, by omega, by omega, ?_, h7, h8, h9⟩
  rw [e2] at h5; exact Int.ofNat_le.1 h5
def TsBad (w : World) (e : Ending) (w' : World) : Prop := e = .returned (.tuple #[.slice none 0 0, .int .i64 2]) ∧ Below w.heap.size w w'
set_option maxRecDepth 100000 in
set_option maxHeartbeats 2000000 in
theorem tsplit_bad (sz bt md lm rv : Int) (A : Option Addr) (n c : Nat) (w : World) (h : VC sz bt md lm rv = false ∨ (n : Int) ≠ bt) : Calls Try.prog 20 #[.agg #[.int .i64 sz, .int .i64 bt, .int .i64 md, .int .i64 lm, .int .i64 rv], .slice A n c] w (TsBad w) := by
  have HC0 := Lib.hid ((Blk.new w [.int .i64 sz, .int .i64 bt, .int .i64 md, .int .i64 lm, .int .i64 rv] 33 rfl).alloc (.cells #[.slice A n c] 34))
  have HV0 : Hid (Blk ((w.alloc (.cells [Value.int .i64 sz, .int .i64 bt, .int .i64 md, .int .i64 lm, .int .i64 rv].toArray 33)).alloc (.cells #[.slice A n c] 34)) (w.heap.size + 1) 34 [.slice A n c]) := Lib.hid (Blk.new (w.alloc _) [.slice A n c] 34 (by simp))
  have HB0 := Lib.hid (((Below.refl _ w).alloc (Nat.le_refl _) (.cells [Value.int .i64 sz, .int .i64 bt, .int .i64 md, .int .i64 lm, .int .i64 rv].toArray 33)).alloc (by simp) (.cells #[.slice A n c] 34))
  have hc0 := HC0.out
  by_cases hV : VC sz bt md lm rv = true
  · have hne : (n : Int) ≠ bt := by rcases h with h | h; rw [hV] at h; cases h; exact h
    obtain ⟨s, g, m, rfl, rfl, rfl, hs1, hs2, hm, hgm, hlm, hrv1, hrv2⟩ := VC_true hV
    have HS := Lib.hid (fun W => shares_ok s (bC (s + 24)) g m lm rv W hs1 hs2 rfl hm hgm hlm ⟨hrv1, hrv2⟩)
    obtain ⟨bt, hbt⟩ : ∃ bt, bt = ((m * g : Nat) : Int) := ⟨_, rfl⟩
    rw [← hbt] at HS HC0 HV0 HB0 hne hc0 ⊢
    have q : ((n : Int) != bt) = true := bne_t hne
    clear h hV hbt hne
    go_enter Try.func20, Try.ntmps20
    go_wp2_with (first
      | (refine ldrow (cs := [.int .i64 s, .int .i64 bt, .int .i64 m, .int .i64 lm, .int .i64 rv]) rfl 33 (.tmp 2) rfl rfl hc0 _ Try.underlying33 rfl (by kernel_rfl) ?_)
      | (go_at_call 17; refine (HS.out _).mono ?_; rintro e w1 ⟨A1, c1, rfl, hO1, hB1⟩; have k0 := (HV0.out.below hB1).cell (j := 0) rfl; have k1 := (HC0.out.below hB1).cell (j := 1) (v := .int .i64 bt) rfl; have HB1 := Lib.hid (HB0.out.trans (hB1.mono HB0.out.size)); clear hO1 hB1))
    go_ret2
    exact ⟨rfl, HB1.out⟩
  · have HS := Lib.hid (fun W => shares_bad sz bt md lm rv W (by simpa using hV))
    clear h hV
    go_enter Try.func20, Try.ntmps20
    go_wp2_with (first
      | (refine ldrow (cs := [.int .i64 sz, .int .i64 bt, .int .i64 md, .int .i64 lm, .int .i64 rv]) rfl 33 (.tmp 2) rfl rfl hc0 _ Try.underlying33 rfl (by kernel_rfl) ?_)
      | (go_at_call 17; refine (HS.out _).mono ?_; rintro e w1 ⟨rfl, hB1⟩; have HB1 := Lib.hid (HB0.out.trans (hB1.mono HB0.out.size)); clear hB1))
    go_ret2
    exact ⟨rfl, HB1.out⟩
/-- what Split gives -/
def TsPost (b : Nat) (lim : Int) (C g m : Nat) (ys : List Int) (w : World) (e : Ending) (w' : World) : Prop :=
  Below w.heap.size w w' ∧ (((∃ q, q < C ∧ bad49 b lim C g m q) ∧ e = .returned (.tuple #[.slice none 0 0, .int .i64 10])) ∨
    ((∀ q, q < C → ¬ bad49 b lim C g m q) ∧ ∃ A' c' L, e = .returned (.tuple #[.slice A' L.length c', .int .i64 0]) ∧ BI w' w.heap.size A' c' L ∧ L.map (·.xs) = prtS ys C g m C))
set_option maxRecDepth 100000 in
set_option maxHeartbeats 2000000 in
theorem tsplit_ok (s C g m : Nat) (lm rv : Int) (A : Option Addr) (n c : Nat) (ys : List Int) (w : World) (hs1 : 1 ≤ s) (hs2 : s ≤ 79536) (hCe : C = bC (s + 24)) (hmm : m = 2 ∨ m = 4 ∨ m = 6) (hgm : m * g ≤ 131072) (hlm : 1 ≤ lm) (hrv : 0 ≤ rv ∧ rv ≤ 3)
    (hn : n = m * g) (hy : Rd .i64 w A n c ys) :
    Calls Try.prog 20 #[.agg #[.int .i64 s, .int .i64 ((m * g : Nat) : Int), .int .i64 m, .int .i64 lm, .int .i64 rv], .slice A n c] w (TsPost (s + 24) lm C g m ys w) := by
  have hmf : ∀ (fn : Fn) (first cap : Array Value) (w : World), (Instr.makeFunc fn first cap).run Try.prog w = .ok (.func fn first cap) w := fun _ _ _ _ => rfl
  have HS := Lib.hid (fun W => shares_ok s C g m lm rv W hs1 hs2 hCe hmm hgm hlm hrv)
  have HLY := Lib.hid (fun W => lay_any s W)
  have hly : ly15 s = (LY (s + 24), 0) := by unfold ly15; rw [if_neg (by omega)]; rfl
  rw [hly] at HLY
  have HEA := Lib.hid (fun VB LB CB An cn A0 n c0 W h1 h2 h3 h4 h5 h6 h7 h8 h9 h10 => each49_any (s + 24) lm C g m VB LB CB An cn A0 n c0 ys W (by omega) (by omega) hlm (by rw [hCe]; exact bC_pos) (by rw [hCe]; exact bC_le (by omega)) h1 h2 h3 h4 h5 h6 h7 h8 h9 h10)
  obtain ⟨bt, hbt⟩ : ∃ bt, bt = ((m * g : Nat) : Int) := ⟨_, rfl⟩
  have hnb : (n : Int) = bt := by rw [hn, hbt]
  have hn2 : n ≤ 200000 := by omega
  rw [← hbt] at HS ⊢
  have q : ((n : Int) != bt) = false := bne_f hnb
  have HNE := Lib.hid hn
  clear hbt hnb hly hCe hn
  have HC0 := Lib.hid ((Blk.new w [.int .i64 s, .int .i64 bt, .int .i64 m, .int .i64 lm, .int .i64 rv] 33 rfl).alloc (.cells #[.slice A n c] 34))
  have HV0 : Hid (Blk ((w.alloc (.cells [Value.int .i64 s, .int .i64 bt, .int .i64 m, .int .i64 lm, .int .i64 rv].toArray 33)).alloc (.cells #[.slice A n c] 34)) (w.heap.size + 1) 34 [.slice A n c]) := Lib.hid (Blk.new (w.alloc _) [.slice A n c] 34 (by simp))
  have HB0 := Lib.hid (((Below.refl _ w).alloc (Nat.le_refl _) (.cells [Value.int .i64 s, .int .i64 bt, .int .i64 m, .int .i64 lm, .int .i64 rv].toArray 33)).alloc (by simp) (.cells #[.slice A n c] 34))
  have HY0 := Lib.hid (Rdv.below hy (((Below.refl _ w).alloc (Nat.le_refl _) (.cells [Value.int .i64 s, .int .i64 bt, .int .i64 m, .int .i64 lm, .int .i64 rv].toArray 33)).alloc (by simp) (.cells #[.slice A n c] 34)))
  have HYB : Hid (0 < c → blk A < w.heap.size) := Lib.hid (fun hc => by obtain ⟨bb, oo, rfl, h9⟩ := Rdv.ptr hy hc; exact h9)
  clear hy
  have hc0 := HC0.out
  go_enter Try.func20, Try.ntmps20
  go_wp2_with (first
    | (refine ldrow (cs := [.int .i64 s, .int .i64 bt, .int .i64 m, .int .i64 lm, .int .i64 rv]) rfl 33 (.tmp 2) rfl rfl hc0 _ Try.underlying33 rfl (by kernel_rfl) ?_)
    | (go_at_call 17; refine (HS.out _).mono ?_; rintro e w1 ⟨A1, c1, rfl, hO1, hB1⟩; have k0 := (HV0.out.below hB1).cell (j := 0) rfl; have k1 := (HC0.out.below hB1).cell (j := 1) (v := .int .i64 bt) rfl; have k2 := (HC0.out.below hB1).cell (j := 0) (v := .int .i64 s) rfl; have HO1 := Lib.hid hO1; have HBw1 := Lib.hid hB1; clear hO1 hB1)
    | (go_at_call 14; refine (HLY.out _).mono ?_; rintro e w2 ⟨rfl, hB2⟩; have hL0 : Blk (w2.alloc (.cells (ints8 zero7).toArray 23)) w2.heap.size 23 (ints8 zero7) := Blk.new w2 _ 23 rfl; have HBw2 := Lib.hid hB2; clear hB2; simp only [ints8, zero7, List.map_cons, List.map_nil] at hL0)
    | (refine strow (cs := ints8 (LY (s + 24))) rfl 23 (.tmp 8) (.tmp 28) rfl rfl rfl hL0 (by simp [ints8, LY]) (by rw [info23]; simp [ints8, LY]) (ints8_one _) ?_
       intro W3 g1 g2
       have hq := (Below.refl w2.heap.size w2).alloc (Nat.le_refl _) (.cells #[.int .i64 0, .int .i64 0, .int .i64 0, .int .i64 0, .int .i64 0, .int .i64 0, .int .i64 0] 23)
       have HB3 := Lib.hid (hq.grown g2 hq.size (fun k hk => by cases hk; exact Nat.le_refl _))
       have HL3 := Lib.hid g1
       clear g1 g2 hq hL0))
  have d1 := HBw1.out.trans (HBw2.out.mono HBw1.out.size)
  have d := d1.trans (HB3.out.mono d1.size)
  have dw := HB0.out.trans (d.mono HB0.out.size)
  have hs0 : ((w.alloc (.cells [Value.int .i64 s, .int .i64 bt, .int .i64 m, .int .i64 lm, .int .i64 rv].toArray 33)).alloc (.cells #[.slice A n c] 34)).heap.size = w.heap.size + 2 := by simp
  have HO3 := Lib.hid (Ownv.below HO1.out ((HBw2.out.trans (HB3.out.mono HBw2.out.size))))
  have HCL := Lib.hid (HEA.out (w.heap.size + 1) w2.heap.size w.heap.size A1 c1 A n c W3 HNE.out hn2 HL3.out (HV0.out.below d) ((HC0.out.below d).cell (j := 3) rfl) (by omega) (Rdv.below HY0.out d) (fun hc => by have := HYB.out hc; omega) (Own.rd HO3.out) (fun hA => by have := (Ownv.blk_of HO3.out hA).1; rw [hs0] at this; omega))
  have HDW := Lib.hid dw
  clear hs0 d d1 dw HO3 HB3 HL3 HO1 HY0 HBw1 HBw2 HC0 HV0 HB0 HYB HNE HEA hn2 hc0 k0 k1 k2 q HLY HS
  have hz := HDW.out.size
  refine HCL.out.mono ?_
  rintro e w4 ⟨hG, ⟨hbad, rfl⟩ | ⟨hok, A', c', L, rfl, hBI, hxs⟩⟩
  · have HX := Lib.hid hbad
    have HB4 := Lib.hid (HDW.out.grown hG hz (fun k hk => by cases hk; omega))
    clear hbad hG
    go_wp2
    go_ret2
    exact ⟨HB4.out, .inl ⟨HX.out, rfl⟩⟩
  · have HX := Lib.hid hok
    have HBI := Lib.hid (BI.mono hBI hz)
    have HXS := Lib.hid hxs
    have HB4 := Lib.hid (HDW.out.grown hG hz (fun k hk => by cases hk; omega))
    clear hok hG hBI hxs
    go_wp2
    go_ret2
    exact ⟨HB4.out, .inr ⟨HX.out, A', c', L, rfl, HBI.out, HXS.out⟩⟩
end Go.Proofs.Ytcbbkflnenkpgaa
