/- Bundle. Conditions: none. -/
import Derived.Test.YtkdfefpnhaebfaaGreatBuobk
import Derived.Test.YtkdfefpnhaebfaaGreatBuoar
set_option linter.unusedVariables false
set_option linter.unusedSimpArgs false
namespace Go.Proofs.YtkdfefpnhaebfaaGreat.Cr
open Go.RowKit Go.Shelf
set_option maxRecDepth 100000
set_option maxHeartbeats 2000000
theorem VC_true {sz bt md lm rv : Int} (h : VC sz bt md lm rv = true) : ∃ s g m : Nat, sz = s ∧ md = m ∧ bt = ((m * g : Nat) : Int) ∧ 1 ≤ s ∧ s ≤ 79536 ∧ (m = 2 ∨ m = 4 ∨ m = 6) ∧ m * g ≤ 131072 ∧ 1 ≤ lm ∧ 0 ≤ rv ∧ rv ≤ 3 := by
 unfold VC at h
 rw [decide_eq_true_iff] at h
 obtain ⟨h1, h2, h3, h4, h5, h6, h7, h8, h9⟩ := h
 have e : bt = md * (bt / md) := by have := Int.emod_add_mul_ediv bt md; omega
 have hq : 0 ≤ bt / md := Int.ediv_nonneg h4 (by omega)
 have e2 : bt = ((md.toNat * (bt / md).toNat : Nat) : Int) := by
  rw [Int.natCast_mul, show ((md.toNat : Nat) : Int) = md by omega, show (((bt / md).toNat : Nat) : Int) = bt / md by omega]; exact e
 refine ⟨sz.toNat, (bt / md).toNat, md.toNat, by omega, by omega, e2, by omega, by omega, by omega, ?_, h7, h8, h9⟩
 rw [e2] at h5; exact Int.ofNat_le.1 h5
def TsBad (w : World) (e : Ending) (w' : World) : Prop := e = .returned (.tuple #[.slice none 0 0, .int .i64 2]) ∧ Below w.heap.size w w'
theorem tsplit_bad (sz bt md lm rv : Int) (A : Option Addr) (n c : Nat) (w : World) (h : VC sz bt md lm rv = false ∨ (n : Int) ≠ bt) : Calls Tryz.prog 41 #[.agg #[.int .i64 sz, .int .i64 bt, .int .i64 md, .int .i64 lm, .int .i64 rv], .slice A n c] w (TsBad w) := by
 have HC0 := Lib.hid ((Blk.new w [.int .i64 sz, .int .i64 bt, .int .i64 md, .int .i64 lm, .int .i64 rv] 36 rfl).alloc (.cells #[.slice A n c] 39))
 have HV0 : Hid (Blk ((w.alloc (.cells [Value.int .i64 sz, .int .i64 bt, .int .i64 md, .int .i64 lm, .int .i64 rv].toArray 36)).alloc (.cells #[.slice A n c] 39)) (w.heap.size + 1) 39 [.slice A n c]) := Lib.hid (Blk.new (w.alloc _) [.slice A n c] 39 (by simp))
 have HB0 := Lib.hid (((Below.refl _ w).alloc (Nat.le_refl _) (.cells [Value.int .i64 sz, .int .i64 bt, .int .i64 md, .int .i64 lm, .int .i64 rv].toArray 36)).alloc (by simp) (.cells #[.slice A n c] 39))
 have hc0 := HC0.out
 by_cases hV : VC sz bt md lm rv = true
 · have hne : (n : Int) ≠ bt := by rcases h with h | h; rw [hV] at h; cases h; exact h
   obtain ⟨s, g, m, rfl, rfl, rfl, hs1, hs2, hm, hgm, hlm, hrv1, hrv2⟩ := VC_true hV
   have HS := Lib.hid (fun W => shares_ok s (bC (s + 24)) g m lm rv W hs1 hs2 rfl hm hgm hlm ⟨hrv1, hrv2⟩)
   obtain ⟨bt, hbt⟩ : ∃ bt, bt = ((m * g : Nat) : Int) := ⟨_, rfl⟩
   rw [← hbt] at HS HC0 HV0 HB0 hne hc0 ⊢
   have q : ((n : Int) != bt) = true := bne_t hne
   clear h hV hbt hne
   go_enter Tryz.func41, Tryz.ntmps41
   go_wp2_with (first
    | (refine ldrow (cs := [.int .i64 s, .int .i64 bt, .int .i64 m, .int .i64 lm, .int .i64 rv]) rfl 36 (.tmp 2) rfl rfl hc0 _ Tryz.underlying36 rfl (by kernel_rfl) ?_)
    | (go_at_call 28; refine (HS.out _).mono ?_; rintro e w1 ⟨A1, c1, rfl, hO1, hB1⟩; have k0 := (HV0.out.below hB1).cell (j := 0) rfl; have k1 := (HC0.out.below hB1).cell (j := 1) (v := .int .i64 bt) rfl; have HB1 := Lib.hid (HB0.out.trans (hB1.mono HB0.out.size)); clear hO1 hB1))
   go_ret2
   exact ⟨rfl, HB1.out⟩
 · have HS := Lib.hid (fun W => shares_bad sz bt md lm rv W (by simpa using hV))
   clear h hV
   go_enter Tryz.func41, Tryz.ntmps41
   go_wp2_with (first
    | (refine ldrow (cs := [.int .i64 sz, .int .i64 bt, .int .i64 md, .int .i64 lm, .int .i64 rv]) rfl 36 (.tmp 2) rfl rfl hc0 _ Tryz.underlying36 rfl (by kernel_rfl) ?_)
    | (go_at_call 28; refine (HS.out _).mono ?_; rintro e w1 ⟨rfl, hB1⟩; have HB1 := Lib.hid (HB0.out.trans (hB1.mono HB0.out.size)); clear hB1))
   go_ret2
   exact ⟨rfl, HB1.out⟩
def TsPost (b : Nat) (lim : Int) (C g m : Nat) (ys : List Int) (w : World) (e : Ending) (w' : World) : Prop :=
 Below w.heap.size w w' ∧ (((∃ q, q < C ∧ bad49 b lim C g m q) ∧ e = .returned (.tuple #[.slice none 0 0, .int .i64 10])) ∨
  ((∀ q, q < C → ¬ bad49 b lim C g m q) ∧ ∃ A' c' L, e = .returned (.tuple #[.slice A' L.length c', .int .i64 0]) ∧ BI w' w.heap.size A' c' L ∧ L.map (·.xs) = prtS ys C g m C))
theorem tsplit_ok (s C g m : Nat) (lm rv : Int) (A : Option Addr) (n c : Nat) (ys : List Int) (w : World) (hs1 : 1 ≤ s) (hs2 : s ≤ 79536) (hCe : C = bC (s + 24)) (hmm : m = 2 ∨ m = 4 ∨ m = 6) (hgm : m * g ≤ 131072) (hlm : 1 ≤ lm) (hrv : 0 ≤ rv ∧ rv ≤ 3)
 (hn : n = m * g) (hy : Rd .i64 w A n c ys) :
 Calls Tryz.prog 41 #[.agg #[.int .i64 s, .int .i64 ((m * g : Nat) : Int), .int .i64 m, .int .i64 lm, .int .i64 rv], .slice A n c] w (TsPost (s + 24) lm C g m ys w) := by
 have hmf : ∀ (fn : Fn) (first cap : Array Value) (w : World), (Instr.makeFunc fn first cap).run Tryz.prog w = .ok (.func fn first cap) w := fun _ _ _ _ => rfl
 have HS := Lib.hid (fun W => shares_ok s C g m lm rv W hs1 hs2 hCe hmm hgm hlm hrv)
 have HLY := Lib.hid (fun W => lay_any s W)
 have hly : ly15 s = (LY (s + 24), 0) := by unfold ly15; rw [if_neg (by omega)]; rfl
 rw [hly] at HLY
 have HEA := Lib.hid (fun VB LB CB An cn A0 n c0 W h1 h2 h3 h4 h5 h6 h7 h8 h9 h10 => each49_any (s + 24) lm C g m VB LB CB An cn A0 n c0 ys W (by omega) (by omega) hlm (by rw [hCe]; exact bC_pos) (by rw [hCe]; exact bC_le (by omega)) h1 h2 h3 h4 h5 h6 h7 h8 h9 h10)
 obtain ⟨bt, hbt⟩ : ∃ bt, bt = ((m * g : Nat) : Int) := ⟨_, rfl⟩
 have hnb : (n : Int) = bt := by rw [hn, hbt]
 have hn2 : n ≤ 200000 := by omega
 rw [← hbt] at HS ⊢
 have q : ((n : Int) != bt) = false := bne_f hnb
 have HNE := Lib.hid hn
 clear hbt hnb hly hCe hn
 have HC0 := Lib.hid ((Blk.new w [.int .i64 s, .int .i64 bt, .int .i64 m, .int .i64 lm, .int .i64 rv] 36 rfl).alloc (.cells #[.slice A n c] 39))
 have HV0 : Hid (Blk ((w.alloc (.cells [Value.int .i64 s, .int .i64 bt, .int .i64 m, .int .i64 lm, .int .i64 rv].toArray 36)).alloc (.cells #[.slice A n c] 39)) (w.heap.size + 1) 39 [.slice A n c]) := Lib.hid (Blk.new (w.alloc _) [.slice A n c] 39 (by simp))
 have HB0 := Lib.hid (((Below.refl _ w).alloc (Nat.le_refl _) (.cells [Value.int .i64 s, .int .i64 bt, .int .i64 m, .int .i64 lm, .int .i64 rv].toArray 36)).alloc (by simp) (.cells #[.slice A n c] 39))
 have HY0 := Lib.hid (Rdv.below hy (((Below.refl _ w).alloc (Nat.le_refl _) (.cells [Value.int .i64 s, .int .i64 bt, .int .i64 m, .int .i64 lm, .int .i64 rv].toArray 36)).alloc (by simp) (.cells #[.slice A n c] 39)))
 have HYB : Hid (0 < c → blk A < w.heap.size) := Lib.hid (fun hc => by obtain ⟨bb, oo, rfl, h9⟩ := Rdv.ptr hy hc; exact h9)
 clear hy
 have hc0 := HC0.out
 go_enter Tryz.func41, Tryz.ntmps41
 go_wp2_with (first
  | (refine ldrow (cs := [.int .i64 s, .int .i64 bt, .int .i64 m, .int .i64 lm, .int .i64 rv]) rfl 36 (.tmp 2) rfl rfl hc0 _ Tryz.underlying36 rfl (by kernel_rfl) ?_)
  | (go_at_call 28; refine (HS.out _).mono ?_; rintro e w1 ⟨A1, c1, rfl, hO1, hB1⟩; have k0 := (HV0.out.below hB1).cell (j := 0) rfl; have k1 := (HC0.out.below hB1).cell (j := 1) (v := .int .i64 bt) rfl; have k2 := (HC0.out.below hB1).cell (j := 0) (v := .int .i64 s) rfl; have HO1 := Lib.hid hO1; have HBw1 := Lib.hid hB1; clear hO1 hB1)
  | (go_at_call 12; refine (HLY.out _).mono ?_; rintro e w2 ⟨rfl, hB2⟩; have hL0 : Blk (w2.alloc (.cells (ints8 zero7).toArray 31)) w2.heap.size 31 (ints8 zero7) := Blk.new w2 _ 31 rfl; have HBw2 := Lib.hid hB2; clear hB2; simp only [ints8, zero7, List.map_cons, List.map_nil] at hL0)
  | (refine strow (cs := ints8 (LY (s + 24))) rfl 31 (.tmp 8) (.tmp 28) rfl rfl rfl hL0 (by simp [ints8, LY]) (by rw [info23]; simp [ints8, LY]) (ints8_one _) ?_
     intro W3 g1 g2
     have hq := (Below.refl w2.heap.size w2).alloc (Nat.le_refl _) (.cells #[.int .i64 0, .int .i64 0, .int .i64 0, .int .i64 0, .int .i64 0, .int .i64 0, .int .i64 0] 31)
     have HB3 := Lib.hid (hq.grown g2 hq.size (fun k hk => by cases hk; exact Nat.le_refl _))
     have HL3 := Lib.hid g1
     clear g1 g2 hq hL0))
 have d1 := HBw1.out.trans (HBw2.out.mono HBw1.out.size)
 have d := d1.trans (HB3.out.mono d1.size)
 have dw := HB0.out.trans (d.mono HB0.out.size)
 have hs0 : ((w.alloc (.cells [Value.int .i64 s, .int .i64 bt, .int .i64 m, .int .i64 lm, .int .i64 rv].toArray 36)).alloc (.cells #[.slice A n c] 39)).heap.size = w.heap.size + 2 := by simp
 have HO3 := Lib.hid (Ownv.below HO1.out ((HBw2.out.trans (HB3.out.mono HBw2.out.size))))
 have HCL := Lib.hid (HEA.out (w.heap.size + 1) w2.heap.size w.heap.size A1 c1 A n c W3 HNE.out hn2 HL3.out (HV0.out.below d) ((HC0.out.below d).cell (j := 3) rfl) (by omega) (Rdv.below HY0.out d) (fun hc => by have := HYB.out hc; omega) (Own.rd HO3.out) (fun hA => by have := (Ownv.blk_of HO3.out hA).1; rw [hs0] at this; omega))
 have HDW := Lib.hid dw
 clear hs0 d d1 dw HO3 HB3 HL3 HO1 HY0 HBw1 HBw2 HC0 HV0 HB0 HYB HNE HEA hn2 hc0 k0 k1 k2 q HLY HS
 have hz := HDW.out.size
 refine HCL.out.mono ?_
 rintro e w4 ⟨hG, ⟨hbad, rfl⟩ | ⟨hok, A', c', L, rfl, hBI, hxs⟩⟩
 · have HX := Lib.hid hbad
   have HB4 := Lib.hid (HDW.out.grown hG hz (fun k hk => by cases hk; omega))
   clear hbad hG
   go_wp2
   go_ret2
   exact ⟨HB4.out, .inl ⟨HX.out, rfl⟩⟩
 · have HX := Lib.hid hok
   have HBI := Lib.hid (BI.mono hBI hz)
   have HXS := Lib.hid hxs
   have HB4 := Lib.hid (HDW.out.grown hG hz (fun k hk => by cases hk; omega))
   clear hok hG hBI hxs
   go_wp2
   go_ret2
   exact ⟨HB4.out, .inr ⟨HX.out, A', c', L, rfl, HBI.out, HXS.out⟩⟩
end Go.Proofs.YtkdfefpnhaebfaaGreat.Cr
namespace Go.Proofs.YtkdfefpnhaebfaaGreat.Cr
open CM Go.RowKit
theorem validB_of_bit {xs : List Int} (h : Bit xs) : ValidB xs = true := validB_t fun q hq => by rcases h _ (gi_mem xs q hq) with h1 | h1 <;> omega
def bE (xs : List Int) : Int := if xs.length < 1 ∨ 79536 < xs.length then 2 else if ValidB xs = true then 0 else 3
def bD (xs : List Int) : List (List Int) := if bE xs = 0 then sD (xs ++ crcSum 1 xs) else []
def tE (sz : Int) (L : List Sv) : Int := if sz < 1 ∨ 79536 < sz then 2 else if jE (sz + 24) L = 0 then chkErr 1 (jR (sz + 24) L) else jE (sz + 24) L
def tR (sz : Int) (L : List Sv) : List Int := if sz < 1 ∨ 79536 < sz then [] else if jE (sz + 24) L = 0 then chkRes 1 (jR (sz + 24) L) else []
theorem jErr_inv {b : Nat} {L : List Sv} (h : jErr b L = 0) : jV L = true ∧ L.length = bC b ∧ jS b L = true := by
 unfold jErr at h
 split at h
 · cases h
 · rename_i h1
   split at h
   · cases h
   · rename_i h2
     split at h
     · cases h
     · rename_i h3
       exact ⟨by simpa using h1, by simpa using h2, by simpa using h3⟩
theorem jS_inv {b : Nat} {L : List Sv} (h : jS b L = true) : ∀ q s, L[q]? = some s → s.n = sz b q := by
 intro q s hq
 unfold jS at h
 rw [List.all_eq_true] at h
 have hl := (List.getElem?_eq_some_iff.1 hq).1
 have h1 := h q (List.mem_range.2 hl)
 rw [hq] at h1
 simpa using h1
theorem jR_len {b : Int} {L : List Sv} (hx : ∀ s ∈ L, s.xs.length = s.n) : (jR b L).length ≤ 90000 := by
 unfold jR
 split
 · simp
 · rename_i hb
   unfold jRes
   split
   · rename_i h
     obtain ⟨h1, h2, h3⟩ := jErr_inv h
     rw [List.length_drop, jD_len hx (jS_inv h3) _ (Nat.le_refl _), h2, off_all (by omega)]
     omega
   · simp
theorem tjoin_any (sz : Int) (A : Option Addr) (n c : Nat) (L : List Sv) (w : World) (hL : RL w A n c L) (hs : ∀ s ∈ L, s.n ≤ 100000) :
 Calls Tryz.prog 77 #[.int .i64 sz, .slice A n c] w fun e w' => ∃ A' n' c', e = .returned (.tuple #[.slice A' n' c', .int .i64 (tE sz L)]) ∧ Rd .u8 w' A' n' c' (tR sz L) ∧ Below w.heap.size w w' := by
 have HLY := Lib.hid (fun W => lay_any sz W)
 by_cases h : sz < 1 ∨ 79536 < sz
 · have e1 : tE sz L = 2 := by unfold tE; rw [if_pos h]
   have e2 : tR sz L = [] := by unfold tR; rw [if_pos h]
   have hly : ly15 sz = (zero7, 2) := by unfold ly15; rw [if_pos h]
   rw [e1, e2]
   rw [hly] at HLY
   clear h e1 e2 hly
   simp only [ints8, zero7, List.map_cons, List.map_nil] at HLY
   go_enter Tryz.func77, Tryz.ntmps77
   go_wp2_with fail
   refine (HLY.out _).mono ?_
   rintro e w1 ⟨rfl, hB1⟩
   have HB2 := Lib.hid (bal hB1 (.cells #[.int .i64 0, .int .i64 0, .int .i64 0, .int .i64 0, .int .i64 0, .int .i64 0, .int .i64 0] 31))
   clear hB1
   go_wp2
   go_ret2
   exact ⟨none, 0, 0, rfl, Rd.nilv _ _, HB2.out⟩
 · have hly : ly15 sz = (LY (sz + 24).toNat, 0) := by unfold ly15; rw [if_neg h]
   rw [hly] at HLY
   have hsw : IntKind.i64.wrap (sz + 24) = sz + 24 := by rw [IntKind.wrap_i64]; omega
   have HJ := Lib.hid (fun W h => join_all (sz + 24) A n c L W h hs)
   unfold JAll at HJ
   have hlen := jR_len (b := sz + 24) (L := L) (fun s hs => Rd.len (hL.r s hs))
   have e1 : tE sz L = if jE (sz + 24) L = 0 then chkErr 1 (jR (sz + 24) L) else jE (sz + 24) L := by unfold tE; rw [if_neg h]
   have e2 : tR sz L = if jE (sz + 24) L = 0 then chkRes 1 (jR (sz + 24) L) else [] := by unfold tR; rw [if_neg h]
   rw [e1, e2]
   obtain ⟨ly, hl2⟩ : ∃ ly, ly = LY (sz + 24).toNat := ⟨_, rfl⟩
   have hl7 : ly.length = 7 := by rw [hl2]; rfl
   rw [← hl2] at HLY
   obtain ⟨E, hE⟩ : ∃ E, E = jE (sz + 24) L := ⟨_, rfl⟩
   obtain ⟨X, hX⟩ : ∃ X, X = jR (sz + 24) L := ⟨_, rfl⟩
   rw [← hE, ← hX] at HJ ⊢
   rw [← hX] at hlen
   clear hE hX h hly e1 e2 hl2
   have HL := Lib.hid hL
   clear hL
   by_cases hE0 : E = 0
   · subst hE0
     rw [if_pos rfl, if_pos rfl]
     go_enter Tryz.func77, Tryz.ntmps77
     go_wp2_with fail
     refine (HLY.out _).mono ?_
     rintro e w1 ⟨rfl, hB1⟩
     have hL0 : Blk (w1.alloc (.cells (ints8 zero7).toArray 31)) w1.heap.size 31 (ints8 zero7) := Blk.new w1 _ 31 rfl
     have HB1 := Lib.hid hB1
     clear hB1
     simp only [ints8, zero7, List.map_cons, List.map_nil] at hL0
     go_wp2_with (first
      | (refine strow (cs := ints8 ly) rfl 31 (.tmp 6) (.tmp 13) rfl rfl rfl hL0 (by simp [ints8, hl7]) (by rw [info23]; simp [ints8, hl7]) (ints8_one ly) ?_
         intro W2 g1 g2
         have hq := (Below.refl w1.heap.size w1).alloc (Nat.le_refl _) (.cells #[.int .i64 0, .int .i64 0, .int .i64 0, .int .i64 0, .int .i64 0, .int .i64 0, .int .i64 0] 31)
         have HB2 := Lib.hid (hq.grown g2 hq.size (fun k hk => by cases hk; exact Nat.le_refl _))
         clear g1 g2 hq hL0))
     have d := HB1.out.trans (HB2.out.mono HB1.out.size)
     refine (HJ.out W2 (HL.out.below d)).mono ?_
     rintro e w3 ⟨A3, n3, c3, rfl, hR3, hB3⟩
     have hn3 : n3 ≤ 100000 := by have := hR3.len; omega
     have HR3 := Lib.hid hR3
     have HD := Lib.hid (d.trans (hB3.mono d.size))
     clear d hR3 hB3
     go_wp2_with fail
     refine (check_any 1 A3 n3 c3 X w3 HR3.out hn3).mono ?_
     rintro e w4 ⟨A4, n4, c4, rfl, hO4, hB4⟩
     have HO4 := Lib.hid (Own.rd hO4)
     have HD4 := Lib.hid (HD.out.trans (hB4.mono HD.out.size))
     clear hO4 hB4
     go_wp2
     go_ret2
     exact ⟨A4, n4, c4, rfl, HO4.out, HD4.out⟩
   · rw [if_neg hE0, if_neg hE0]
     have hq : (E != 0) = true := bne_t hE0
     clear hE0
     go_enter Tryz.func77, Tryz.ntmps77
     go_wp2_with fail
     refine (HLY.out _).mono ?_
     rintro e w1 ⟨rfl, hB1⟩
     have hL0 : Blk (w1.alloc (.cells (ints8 zero7).toArray 31)) w1.heap.size 31 (ints8 zero7) := Blk.new w1 _ 31 rfl
     have HB1 := Lib.hid hB1
     clear hB1
     simp only [ints8, zero7, List.map_cons, List.map_nil] at hL0
     go_wp2_with (first
      | (refine strow (cs := ints8 ly) rfl 31 (.tmp 6) (.tmp 13) rfl rfl rfl hL0 (by simp [ints8, hl7]) (by rw [info23]; simp [ints8, hl7]) (ints8_one ly) ?_
         intro W2 g1 g2
         have hq := (Below.refl w1.heap.size w1).alloc (Nat.le_refl _) (.cells #[.int .i64 0, .int .i64 0, .int .i64 0, .int .i64 0, .int .i64 0, .int .i64 0, .int .i64 0] 31)
         have HB2 := Lib.hid (hq.grown g2 hq.size (fun k hk => by cases hk; exact Nat.le_refl _))
         clear g1 g2 hq hL0))
     have d := HB1.out.trans (HB2.out.mono HB1.out.size)
     refine (HJ.out W2 (HL.out.below d)).mono ?_
     rintro e w3 ⟨A3, n3, c3, rfl, hR3, hB3⟩
     have HD := Lib.hid (d.trans (hB3.mono d.size))
     clear d hR3 hB3
     go_wp2
     go_ret2
     exact ⟨none, 0, 0, rfl, Rd.nilv _ _, HD.out⟩
set_option maxRecDepth 100000
set_option maxHeartbeats 1000000
theorem cl21_any (i : Int) (A : Option Addr) (n c : Nat) (xs : List Int) (w : World) (h : Rd .u8 w A n c xs) (h0 : ∀ x ∈ xs, 0 ≤ x) :
 Calls Tryz.prog 58 #[.int .i64 i, .slice A n c] w fun e w' => ∃ A' m c', e = .returned (.tuple #[.slice A' m c', .int .i64 (Tu.encE xs)]) ∧ Own .u8 5 w' w.heap.size A' m c' (Tu.encW xs) ∧ Below w.heap.size w w' := by
 have HE := Lib.hid (Tu.enc_all A n c xs w h h0)
 go_enter Tryz.func58, Tryz.ntmps58
 go_wp2_with fail
 refine HE.out.mono ?_
 rintro e w1 ⟨A', m, c', rfl, hO, hB⟩
 have HO := Lib.hid hO
 have HB := Lib.hid hB
 clear hO hB
 go_wp2
 go_ret2
 exact ⟨A', m, c', rfl, HO.out, HB.out⟩
def Enc0 (L : List Sv) : Prop := ∀ s ∈ L, (∀ x ∈ s.xs, 0 ≤ x) ∧ Tu.encE s.xs = 0
def EwI (W : World) (C : Nat) (L0 : List Sv) (out i : Value) (wr : World) : Prop := ∃ (j : Nat) (A : Option Addr) (c : Nat) (L : List Sv), j ≤ C ∧ i = .int .i64 j ∧ out = .slice A L.length c ∧ L.length = j ∧ BL wr W.heap.size A c L ∧ L.map (·.xs) = (L0.take j).map (fun s => Tu.encW s.xs) ∧ Below W.heap.size W wr
theorem encW_pos {xs : List Int} (h : Tu.encE xs = 0) : 0 < (Tu.encW xs).length := by
 unfold Tu.encE at h
 unfold Tu.encW
 split at h
 · rename_i hv
   rw [if_pos hv]
   split at h
   · rename_i hb
     rw [if_pos hb, Tu.wordI_len]; omega
   · cases h
 · cases h
theorem each20_any (A0 : Option Addr) (C c0 : Nat) (L0 : List Sv) (W : World) (hL : RL W A0 C c0 L0) (he : Enc0 L0) (hC : C ≤ 1000) :
 Calls Tryz.prog 30 #[.slice A0 C c0, .func (.func 58) #[] #[]] W fun e w' => ∃ A c L, e = .returned (.tuple #[.slice A L.length c, .int .i64 0]) ∧ BL w' W.heap.size A c L ∧ L.map (·.xs) = L0.map (fun s => Tu.encW s.xs) ∧ Below W.heap.size W w' := by
 have hl0 := hL.len
 have HE := Lib.hid he
 have HL := Lib.hid hL
 clear he
 go_enter Tryz.func30, Tryz.ntmps30
 go_wp2
 go_loopw [6, 13] (fun out i wr => EwI W C L0 out i wr) (fun _ i _ => C - (intOf i).toNat)
 case atStart => exact ⟨0, none, 0, [], by omega, rfl, rfl, rfl, BL.nil W _, rfl, Below.refl _ _⟩
 case round =>
  obtain ⟨j, A, c, L, hj, rfl, rfl, hlen, hBL, hxs, hB⟩ := hrel
  have HBL := Lib.hid hBL
  have HX := Lib.hid hxs
  have HB := Lib.hid hB
  subst hlen
  by_cases hlt : L.length < C
  · have hRL := HL.out.below hB
    obtain ⟨s, hs, hc, hR⟩ := hRL.get hlt
    have hix := fun W => Rdv.ix hRL.o el55 (j := L.length) hlt .i64 W
    have hmem := List.mem_of_getElem? hs
    have hcl := Lib.hid (cl21_any (L.length : Int) s.A s.n s.c s.xs wr hR (HE.out s hmem).1)
    have HS := Lib.hid hs
    have HP := Lib.hid (encW_pos (HE.out s hmem).2)
    rw [(HE.out s hmem).2] at hcl
    clear hBL hxs hR hRL hs hmem hL
    go_wp2_with (first
     | (go_at_call 58; refine hcl.out.mono ?_; rintro e w1 ⟨A', n', c', rfl, hO', hB'⟩; have HO' := Lib.hid hO'; have HB' := Lib.hid hB'; have HBL1 := Lib.hid (HBL.out.below hB'); have HZ1 := Lib.hid (Nat.le_trans HB.out.size hB'.size); clear hO' hB' hcl)
     | (at_builtin; refine list_of rfl fun K hK => wp_app1 (w := w1) (base := W.heap.size) _ _ 56 rfl el55 rfl (.slice A' n' c') rfl rfl HBL1.out.o (by omega) (by omega) HZ1.out ?_; intro A2 c2 w2 hO2 hg2; have HO2 := Lib.hid hO2; have HG2 := Lib.hid hg2; clear hO2 hg2; refine hK _ _ ?_; clear hK K))
    have hn' : 0 < n' := by have := Rd.len (Own.rd HO'.out); have := HP.out; omega
    have hA' : A' ≠ none := own_some HO'.out (q := 0) hn'
    have hge := (Ownv.blk_of HO'.out hA').1
    have hBL2 : BL w2 W.heap.size A2 c2 (L ++ [⟨A', n', c', Tu.encW s.xs⟩]) :=
     BL.push HBL1.out (s := ⟨A', n', c', Tu.encW s.xs⟩) (Ownv.mono HO'.out HB.out.size) hA'
      (fun t ht => by have h8 := (Ownv.blk_of (HBL.out.r t ht).1 (HBL.out.r t ht).2).2; exact Nat.ne_of_lt (Nat.lt_of_lt_of_le h8 hge)) HO2.out HG2.out
    have hob : ∀ k, (Value.slice A L.length c).ownBlock = some k → W.heap.size ≤ k := fun k hk => Ownv.ob' HBL1.out.o hk
    have hB1 := HB.out.trans (HB'.out.mono HB.out.size)
    have hB2 := hB1.grown HG2.out hB1.size hob
    go_roundw
    case rel => exact ⟨L.length + 1, A2, c2, L ++ [⟨A', n', c', Tu.encW s.xs⟩], by omega, by go_num, by simp, by simp, hBL2, by rw [List.map_append, HX.out, take_get HS.out, List.map_append]; rfl, hB2⟩
    case measure => simp [intOf]; omega
  · have he : L.length = C := by omega
    have HF : Hid (L.map (·.xs) = L0.map (fun s => Tu.encW s.xs)) := Lib.hid (by rw [HX.out, List.take_of_length_le (by omega)])
    clear hBL hxs
    go_wp2
    go_ret2
    exact ⟨A, c, L, rfl, HBL.out, HF.out, HB.out⟩
theorem sz_vk (b i : Nat) : VK (sz b i : Int) := by
 unfold sz
 split
 · rename_i h
   by_cases hb : b ≤ 6144
   · have : shs b = 0 := by unfold shs; rw [if_pos hb]
     omega
   · unfold sh; rw [if_neg hb]; exact pv_vk av_le
 · exact nx_vk av_le
theorem vk_tu {k : Int} (h : VK k) : Tu.validK k = true := by
 unfold VK at h
 unfold Tu.validK
 rw [decide_eq_true_iff]
 omega
theorem segs_len {b : Nat} {full : List Int} (h1 : 1 ≤ b) (hf : full.length = off b (bC b)) : ∀ d ∈ segs b full (bC b), ∃ i, i < bC b ∧ d.length = sz b i := by
 intro d hd
 unfold segs at hd
 obtain ⟨i, hi, rfl⟩ := List.mem_map.1 hd
 have hi := List.mem_range.1 hi
 refine ⟨i, hi, segB_len h1 _ ?_⟩
 have h2 := off_le (b := b) (show i + 1 ≤ bC b by omega)
 have h3 : off b (i + 1) = off b i + (sz b i - ck b) := rfl
 rw [List.length_take, List.length_drop]; omega
theorem sD_vk {ys : List Int} : ∀ d ∈ sD ys, Tu.validK (d.length : Int) = true := by
 intro d hd
 unfold sD at hd
 split at hd
 · rename_i he
   have hl : 1 ≤ ys.length := by
    unfold sE at he
    split at he
    · cases he
    · omega
   obtain ⟨i, -, h⟩ := segs_len hl (by rw [List.length_append, List.length_replicate, off_all hl]; omega) d hd
   rw [h]
   exact vk_tu (sz_vk _ _)
 · simp at hd
theorem enc0_of {ys : List Int} {L : List Sv} (hl : L.map (·.xs) = sD ys) (hb : ∀ s ∈ L, Bit s.xs) : Enc0 L := fun s hs => by
 have h1 := hb s hs
 refine ⟨fun x hx => by rcases h1 x hx with rfl | rfl <;> decide, ?_⟩
 unfold Tu.encE
 rw [if_pos (sD_vk s.xs (by rw [← hl]; exact List.mem_map_of_mem hs)), show Go.Proofs.YtkdfefpnhaebfaaGreat.ValidB s.xs = ValidB s.xs from rfl, if_pos (bit_valid h1)]
def WdAll (xs : List Int) (w : World) (e : Ending) (w' : World) : Prop := ∃ A' n' c' L, e = .returned (.tuple #[.slice A' n' c', .int .i64 (bE xs)]) ∧ n' = L.length ∧ BL w' w.heap.size A' c' L ∧ L.map (·.xs) = (bD xs).map Tu.encW ∧ Below w.heap.size w w'
theorem WdAll.bad {xs : List Int} {k : Int} {w w' : World} (hB : Below w.heap.size w w') (hk : bE xs = k) (h0 : k ≠ 0) : WdAll xs w (.returned (.tuple #[.slice none 0 0, .int .i64 k])) w' :=
 ⟨none, 0, 0, [], by rw [hk], rfl, BL.nil _ _, by unfold bD; rw [if_neg (by rw [hk]; exact h0)]; rfl, hB⟩
theorem wd_map {L L0 : List Sv} {ys : List Int} {xs : List Int} (h : L.map (·.xs) = L0.map (fun s => Tu.encW s.xs)) (h0 : L0.map (·.xs) = sD ys) (hD : bD xs = sD ys) : L.map (·.xs) = (bD xs).map Tu.encW := by
 rw [h, hD, ← h0, List.map_map]; rfl
theorem words_any (A : Option Addr) (n c : Nat) (xs : List Int) (w : World) (hx : Rd .u8 w A n c xs) (hy : Byt xs) (hn : n ≤ 79536) : Calls Tryz.prog 29 #[.slice A n c] w (WdAll xs w) := by
 have hl := hx.len
 have HLY := Lib.hid (fun W => lay_any n W)
 by_cases h1 : n < 1
 · have hb : bE xs = 2 := by unfold bE; rw [if_pos (by omega)]
   have HBD := Lib.hid (fun w' hB => WdAll.bad (w := w) (w' := w') hB hb (by decide))
   have hly : ly15 n = (zero7, 2) := by unfold ly15; rw [if_pos (by omega)]
   rw [hly] at HLY
   clear hb hly
   simp only [ints8, zero7, List.map_cons, List.map_nil] at HLY
   go_enter Tryz.func29, Tryz.ntmps29
   go_wp2_with fail
   refine (HLY.out _).mono ?_
   rintro e w1 ⟨rfl, hB1⟩
   have HB2 := Lib.hid (bal hB1 (.cells #[.int .i64 0, .int .i64 0, .int .i64 0, .int .i64 0, .int .i64 0, .int .i64 0, .int .i64 0] 31))
   clear hB1
   go_wp2
   go_ret2
   exact HBD.out _ HB2.out
 · have hly : ly15 n = (LY ((n : Int) + 24).toNat, 0) := by unfold ly15; rw [if_neg (by omega)]
   rw [hly] at HLY
   obtain ⟨ly, hl2⟩ : ∃ ly, ly = LY ((n : Int) + 24).toNat := ⟨_, rfl⟩
   have hl7 : ly.length = 7 := by rw [hl2]; rfl
   rw [← hl2] at HLY
   have HAT := Lib.hid (fun W h => attach_any 1 A n c xs W h (by omega))
   have HX := Lib.hid hx
   by_cases hv : ValidB xs = true
   · have hbit := bit_of (fun x hx => (hy x hx).1) hv
     have hb : bE xs = 0 := by unfold bE; rw [if_neg (by omega), if_pos hv]
     have e1 : cErr 1 xs = 0 := by unfold cErr; rw [if_neg (by decide), if_pos hv]
     have e2 : aRes 1 xs = xs ++ crcSum 1 xs := by unfold aRes; rw [if_neg (by decide), if_pos hv]
     rw [e1, e2] at HAT
     have hcl : (crcSum 1 xs).length = 24 := by rw [crcSum_len]; rfl
     have hcb : Bit (crcSum 1 xs) := bit_sum (by decide) hbit
     have hvb := validB_of_bit (bit_app hbit hcb)
     have hs : sE (xs ++ crcSum 1 xs) = 0 := by
      unfold sE
      rw [List.length_append, hcl, if_neg (by omega), if_pos hvb]
     have HSP := Lib.hid (fun X m c W h => split_all X m c (xs ++ crcSum 1 xs) W h (byt_bit (bit_app hbit hcb)))
     unfold SpAll at HSP
     rw [hs] at HSP
     unfold WdAll
     have HBD := Lib.hid (show bD xs = sD (xs ++ crcSum 1 xs) by unfold bD; rw [if_pos hb])
     have HTL := Lib.hid (show (xs ++ crcSum 1 xs).length = n + 24 by rw [List.length_append, hcl]; omega)
     rw [hb]
     clear hv hb e1 e2 hs hbit hx hy hvb hl2 hly hcb hcl
     obtain ⟨ys, hys⟩ : ∃ ys, ys = xs ++ crcSum 1 xs := ⟨_, rfl⟩
     rw [← hys] at HAT HSP HBD HTL
     clear hys
     go_enter Tryz.func29, Tryz.ntmps29
     go_wp2_with fail
     refine (HLY.out _).mono ?_
     rintro e w1 ⟨rfl, hB1⟩
     have hL0 : Blk (w1.alloc (.cells (ints8 zero7).toArray 31)) w1.heap.size 31 (ints8 zero7) := Blk.new w1 _ 31 rfl
     have HB1 := Lib.hid hB1
     clear hB1
     simp only [ints8, zero7, List.map_cons, List.map_nil] at hL0
     go_wp2_with (first
      | (refine strow (cs := ints8 ly) rfl 31 (.tmp 4) (.tmp 13) rfl rfl rfl hL0 (by simp [ints8, hl7]) (by rw [info23]; simp [ints8, hl7]) (ints8_one ly) ?_
         intro W2 g1 g2
         have hq := (Below.refl w1.heap.size w1).alloc (Nat.le_refl _) (.cells #[.int .i64 0, .int .i64 0, .int .i64 0, .int .i64 0, .int .i64 0, .int .i64 0, .int .i64 0] 31)
         have HB2 := Lib.hid (hq.grown g2 hq.size (fun k hk => by cases hk; exact Nat.le_refl _))
         have HX2 := Lib.hid (Rdv.below HX.out (HB1.out.trans (HB2.out.mono HB1.out.size)))
         clear g1 g2 hq hL0)
      | (go_at_call 56; refine (HAT.out W2 HX2.out).mono ?_; rintro e w3 ⟨A3, n3, c3, rfl, hO3, hB3⟩; have hn3 : n3 = n + 24 := (by have := Rd.len (Own.rd hO3); rw [HTL.out] at this; exact this.symm); subst hn3; have HR3 := Lib.hid (Own.rd hO3); have HB3 := Lib.hid hB3; clear hO3 hB3)
      | (go_at_call 57; refine (HSP.out A3 (n + 24) c3 w3 HR3.out).mono ?_; rintro e w4 ⟨A4, n4, c4, L, rfl, hS⟩; have HS := Lib.hid hS; clear hS))
     have HEN := Lib.hid (enc0_of HS.out.l HS.out.y)
     have HRL : Hid (RL w4 A4 n4 c4 L) := Lib.hid (by rw [HS.out.n]; exact HS.out.b.rl)
     have hfew : n4 ≤ 1000 := by have := HS.out.few; omega
     refine (each20_any A4 n4 c4 L w4 HRL.out HEN.out hfew).mono ?_
     rintro e w5 ⟨A5, c5, L5, rfl, hBL, hxs, hB5⟩
     have d2 := HB1.out.trans (HB2.out.mono HB1.out.size)
     have d3 := d2.trans (HB3.out.mono d2.size)
     have d4 := d3.trans (HS.out.k.mono d3.size)
     have HBL := Lib.hid (hBL.mono d4.size)
     have HXS := Lib.hid (wd_map hxs HS.out.l HBD.out)
     have HD5 := Lib.hid (d4.trans (hB5.mono d4.size))
     clear hBL hxs hB5 d2 d3 d4
     go_wp2
     go_ret2
     exact ⟨A5, _, c5, L5, rfl, rfl, HBL.out, HXS.out, HD5.out⟩
   · have hb : bE xs = 3 := by unfold bE; rw [if_neg (by omega), if_neg hv]
     have e1 : cErr 1 xs = 3 := by unfold cErr; rw [if_neg (by decide), if_neg hv]
     rw [e1] at HAT
     have HBD := Lib.hid (fun w' hB => WdAll.bad (w := w) (w' := w') hB hb (by decide))
     clear hv hb e1 hx hy hl2 hly
     go_enter Tryz.func29, Tryz.ntmps29
     go_wp2_with fail
     refine (HLY.out _).mono ?_
     rintro e w1 ⟨rfl, hB1⟩
     have hL0 : Blk (w1.alloc (.cells (ints8 zero7).toArray 31)) w1.heap.size 31 (ints8 zero7) := Blk.new w1 _ 31 rfl
     have HB1 := Lib.hid hB1
     clear hB1
     simp only [ints8, zero7, List.map_cons, List.map_nil] at hL0
     go_wp2_with (first
      | (refine strow (cs := ints8 ly) rfl 31 (.tmp 4) (.tmp 13) rfl rfl rfl hL0 (by simp [ints8, hl7]) (by rw [info23]; simp [ints8, hl7]) (ints8_one ly) ?_
         intro W2 g1 g2
         have hq := (Below.refl w1.heap.size w1).alloc (Nat.le_refl _) (.cells #[.int .i64 0, .int .i64 0, .int .i64 0, .int .i64 0, .int .i64 0, .int .i64 0, .int .i64 0] 31)
         have HB2 := Lib.hid (hq.grown g2 hq.size (fun k hk => by cases hk; exact Nat.le_refl _))
         have HX2 := Lib.hid (Rdv.below HX.out (HB1.out.trans (HB2.out.mono HB1.out.size)))
         clear g1 g2 hq hL0)
      | (go_at_call 56; refine (HAT.out W2 HX2.out).mono ?_; rintro e w3 ⟨A3, n3, c3, rfl, hO3, hB3⟩; have HB3 := Lib.hid hB3; clear hO3 hB3))
     have d2 := HB1.out.trans (HB2.out.mono HB1.out.size)
     have HD5 := Lib.hid (d2.trans (HB3.out.mono d2.size))
     go_ret2
     exact HBD.out _ HD5.out
section
variable {b : Nat} {full : List Int} {L : List Sv}
end
end Go.Proofs.YtkdfefpnhaebfaaGreat.Cr
